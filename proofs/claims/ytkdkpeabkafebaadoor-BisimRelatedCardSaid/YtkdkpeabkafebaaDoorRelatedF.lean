/- Relations: lists of pairs of numbers. -/
import Derived.Test.YtkdkpeabkafebaaDoorRelatedE
import Derived.Test.YtkdkpeabkafebaaDoorRelatedB1
open Int renaming le_refl->yGV, natCast_add->yGZ, add_zero->yHJ, le_trans->yHK
open List renaming mem_map->yGT, replicate->yGW, range->yGX, mem_range->yGY, mem_cons->yHA, mem_cons_of_mem->yHC, getElem?_map->yHF, mem_append_right->yHG, drop_length->yHH, drop_eq_getElem_cons->yHI, mem_append->yHL, mem_nil_iff->yHM, map_congr_left->yHN, replicate_succ->yHO, flatten_cons->yHP, ext_getElem?->yHR, getElem?_append->yHS, length_take->yHT, length_map->yHU, length_range->yHV, getElem?_take_of_lt->yHX, getElem?_cons_succ->yHY, getElem?_drop->yHZ, getElem?_eq_none->yIA, map_append->yIB, range_succ_eq_map->yIC, eq_replicate_iff->yID, foldl_cons->yIE
open Nat renaming le_refl->yGU, zero_add->yHB, lt_succ_self->yHD, lt_succ_of_lt->yHE, not_lt_zero->yHQ, min_eq_left->yHW
set_option linter.unusedVariables false
set_option linter.unusedSimpArgs false
set_option maxRecDepth 10000
namespace Go.Ab.Tab
open Go Go.Ab
abbrev PI:=Int×Int
def encP (p:PI):AV:= .agg [.int .i64 p.1,.int .i64 p.2]
def encR (rs:List PI):AV:= .sl 2 (rs.map encP) .no
def ltP (p q:PI):Bool:=decide (p.1 < q.1) || (decide (p.1=q.1)&&decide (p.2 < q.2))
def inP (n m:Int) (p:PI):Bool:= !(decide (p.1 < 0))&&(!(decide (n<=p.1))&&(!(decide (p.2 < 0))&& !(decide (m<=p.2))))
def y1 (n m:Int):Option PI->List PI->Bool
 | _,[]=>true
 | none,p::l=>inP n m p&&y1 n m (some p) l
 | some q,p::l=>inP n m p&&(ltP q p&&y1 n m (some p) l)
def hasP (rs:List PI) (p:PI):Bool:=rs.any fun q=>decide (p=q)
theorem zIM (D:Nat) (p q:PI):Go.Ab.Loc Pg Gl D 42 [encP p,encP q] [] (.bool (ltP p q)) []:=by
 refine z0 zR tok rfl rfl fun S=> ?_;unfold c42 encP ltP;by_cases h1:p.1 < q.1
 ·simp[h1]
 by_cases h2:p.1=q.1
 ·simp[h2]
 ·simp[h1,h2]
def cmpP (p q:PI):Int:=if p.1≠q.1 then p.1 - q.1 else p.2 - q.2
def dT (p:PI):Prop:=0<=p.1/\p.1 < 1000/\0<=p.2/\p.2 < 1000
theorem n6 {x:Int} (h1: -1000<=x) (h2:x<=1000):IntKind.i64.wrap x=x:=by
 simp[IntKind.wrap,IntKind.bits,IntKind.signed];omega
theorem zIJ (D:Nat) (p q:PI) (hp:dT p) (hq:dT q):Go.Ab.Loc Pg Gl D 68 [encP p,encP q] [] (.int .i64 (cmpP p q)) []:=by
 obtain ⟨a1,a2,a3,a4⟩:=hp;obtain ⟨b1,b2,b3,b4⟩:=hq;have w1:IntKind.i64.wrap (p.1 - q.1)=p.1 - q.1:=n6 (by omega) (by omega);have w2:IntKind.i64.wrap (p.2 - q.2)=p.2 - q.2:=n6 (by omega) (by omega);refine z0 zR tok rfl rfl fun S=> ?_;unfold c68 encP cmpP;by_cases h1:p.1=q.1
 ·simp[h1,w2]
 ·simp[h1,w1]
theorem zMI (p q:PI):decide (0<=cmpP p q)= !(ltP p q):=by
 unfold cmpP ltP;rw[Bool.eq_iff_iff];by_cases h1:p.1=q.1
 ·simp[h1]
 ·simp[h1]
def wO (rs:List PI) (i:Nat):Option PI:=if i=0 then none else rs[i - 1]?
theorem l12 (D:Nat) (rs:List PI) (hlen:rs.length<=maxLen) (n m:Int) (S):∀(j i:Nat) (τ ω) (r:AV),i+j=rs.length->
  τ 0=encR rs->τ 1= .int .i64 n->τ 2= .int .i64 m->τ 9=encR rs->τ 10= .int .i64 rs.length->τ 11= .int .i64 i->r= .bool (y1 n m (wO rs i) (rs.drop i))->
  Rd (Loc Pg Gl) .im (RetQ [.tmp 6] r S) [.lp c12_l0,.blk 0,.c bH] (stF 51 D τ ω S):=by
 intro j
 induction j with
 | zero=>
  intro i τ ω r hi h0 h1 h2 h9 h10 h11 hr;refine zC c12_l0.eq_1 ?_;obtain rfl:i=rs.length:=by omega
  rw[yHH] at hr;simp[h0,h1,h2,h9,h10,h11,bH];rw[hr];cases wO rs rs.length<;>rfl
 | succ j ih=>
  intro i τ ω r hi h0 h1 h2 h9 h10 h11 hr;refine zC c12_l0.eq_1 ?_;have hlt:i < rs.length:=by omega
  have hwr:=zF hlt hlen;have hd:rs.drop i=rs[i]::rs.drop (i+1):=yHI hlt;rw[hd] at hr;generalize hp:rs[i]=p at hr;have hev:encP p= .agg [.int .i64 p.1,.int .i64 p.2]:=rfl;have hnx:wO rs (i+1)=some p:=by unfold wO;simp[hlt,hp]
  have hbad:inP n m p=false->r= .bool false:=by
   intro hf;rw[hr];cases wO rs i<;>simp[y1,hf]
  have hgo:∀τ' ω',τ' 0=encR rs->τ' 1= .int .i64 n->τ' 2= .int .i64 m->τ' 9=encR rs->τ' 10= .int .i64 rs.length->τ' 11= .int .i64 (i+1:Nat)->y1 n m (wO rs i) (p::rs.drop (i+1))=y1 n m (some p) (rs.drop (i+1))->
    Rd (Loc Pg Gl) .im (RetQ [.tmp 6] r S) [.lp c12_l0,.blk 0,.c bH] (stF 51 D τ' ω' S):=by
   intro τ' ω' g0 g1 g2 g9 g10 g11 hq;exact ih (i+1) τ' ω' r (by omega) g0 g1 g2 g9 g10 g11 (by rw[hr,hq,hnx])
  by_cases a1:p.1 < 0
  ·have hb:=hbad (by simp[inP,a1]);simp[h0,h1,h2,h9,h10,h11,hlt,hp,encR,hev,a1,hb]
  by_cases a2:n<=p.1
  ·have hb:=hbad (by simp[inP,a1,a2]);simp[h0,h1,h2,h9,h10,h11,hlt,hp,encR,hev,a1,a2,hb]
  by_cases a3:p.2 < 0
  ·have hb:=hbad (by simp[inP,a1,a2,a3]);simp[h0,h1,h2,h9,h10,h11,hlt,hp,encR,hev,a1,a2,a3,hb]
  by_cases a4:m<=p.2
  ·have hb:=hbad (by simp[inP,a1,a2,a3,a4]);simp[h0,h1,h2,h9,h10,h11,hlt,hp,encR,hev,a1,a2,a3,a4,hb]
  have hin:inP n m p=true:=by simp[inP,a1,a2,a3,a4]
  rcases i with _ | i
  ·simp[h0,h1,h2,h9,h10,h11,hlt,hp,encR,hev,a1,a2,a3,a4];refine hgo _ _ ?_ ?_ ?_ ?_ ?_ ?_ (by simp[wO,y1,hin]);all_goals simp[h0,h1,h2,h9,h10,h11,encR]
   exact hwr
  ·have hlt':i < rs.length:=by omega
   have hpv:wO rs (i+1)=some rs[i]:=by unfold wO;simp[hlt']
   have hw1:IntKind.i64.wrap (((i+1:Nat):Int) - 1)=i:=by
    unfold maxLen at hlen;rw[<-zH (n:=i) (by omega)];congr 1;omega
   have hpos:(0:Int) < ((i+1:Nat):Int):=by omega
   have hev2:encP rs[i]= .agg [.int .i64 rs[i].1,.int .i64 rs[i].2]:=rfl;by_cases hlp:ltP rs[i] p=true
   ·simp[h0,h1,h2,h9,h10,h11,hlt,hlt',hp,encR,hev,hev2,a1,a2,a3,a4,hpos,hw1,-yGZ];refine zZ (zIM _ rs[i] p) (by simp[hev,hev2]) ?_;simp[h0,h1,h2,h9,h10,h11,hlp,-yGZ];refine hgo _ _ ?_ ?_ ?_ ?_ ?_ ?_ (by rw[hpv];simp[y1,hin,hlp]);all_goals simp[h0,h1,h2,h9,h10,h11,encR]
    exact hwr
   ·have hb:r= .bool false:=by rw[hr,hpv];simp[y1,hlp]
    simp[h0,h1,h2,h9,h10,h11,hlt,hlt',hp,encR,hev,hev2,a1,a2,a3,a4,hpos,hw1,-yGZ];refine zZ (zIM _ rs[i] p) (by simp[hev,hev2]) ?_;simp[h0,h1,h2,h9,h10,h11,hlp,hb,-yGZ]
theorem zTD (D:Nat) (rs:List PI) (hlen:rs.length<=maxLen) (n m:Int):Go.Ab.Loc Pg Gl D 12 [encR rs,.int .i64 n,.int .i64 m] [] (.bool (y1 n m none rs)) []:=by
 refine z0 zR tok rfl rfl fun S=> ?_;unfold c12;generalize hr:AV.bool (y1 n m none rs)=r;simp[encR];refine l12 D rs hlen n m S rs.length 0 _ _ r (by simp) ?_ ?_ ?_ ?_ ?_ ?_ (by rw[<-hr];simp[wO]);all_goals simp[encR]
theorem rI {n m:Int} {p:PI} (hn:n<=100) (hm:m<=100) (h:inP n m p=true):dT p:=by
 unfold inP at h;simp at h;unfold dT;omega
theorem l35 (D:Nat) (rs:List PI) (hlen:rs.length<=maxLen) (n m:Int) (hn:n<=100) (hm:m<=100) (S):∀(j i:Nat) (τ ω) (r:AV),i+j=rs.length->(∀q,wO rs i=some q->inP n m q=true)->
  τ 0=encR rs->τ 1= .int .i64 n->τ 2= .int .i64 m->τ 9=encR rs->τ 10= .int .i64 rs.length->τ 11= .int .i64 i->r= .bool (y1 n m (wO rs i) (rs.drop i))->
  Rd (Loc Pg Gl) .im (RetQ [.tmp 6] r S) [.lp c35_l0,.blk 0,.c bE] (stF 51 D τ ω S):=by
 intro j
 induction j with
 | zero=>
  intro i τ ω r hi hq h0 h1 h2 h9 h10 h11 hr;refine zC c35_l0.eq_1 ?_;obtain rfl:i=rs.length:=by omega
  rw[yHH] at hr;simp[h0,h1,h2,h9,h10,h11,bE];rw[hr];cases wO rs rs.length<;>rfl
 | succ j ih=>
  intro i τ ω r hi hq h0 h1 h2 h9 h10 h11 hr;refine zC c35_l0.eq_1 ?_;have hlt:i < rs.length:=by omega
  have hwr:=zF hlt hlen;have hd:rs.drop i=rs[i]::rs.drop (i+1):=yHI hlt;rw[hd] at hr;generalize hp:rs[i]=p at hr;have hev:encP p= .agg [.int .i64 p.1,.int .i64 p.2]:=rfl;have hnx:wO rs (i+1)=some p:=by unfold wO;simp[hlt,hp]
  have hbad:inP n m p=false->r= .bool false:=by
   intro hf;rw[hr];cases wO rs i<;>simp[y1,hf]
  have hgo:inP n m p=true->∀τ' ω',τ' 0=encR rs->τ' 1= .int .i64 n->τ' 2= .int .i64 m->τ' 9=encR rs->τ' 10= .int .i64 rs.length->τ' 11= .int .i64 (i+1:Nat)->y1 n m (wO rs i) (p::rs.drop (i+1))=y1 n m (some p) (rs.drop (i+1))->
    Rd (Loc Pg Gl) .im (RetQ [.tmp 6] r S) [.lp c35_l0,.blk 0,.c bE] (stF 51 D τ' ω' S):=by
   intro hin' τ' ω' g0 g1 g2 g9 g10 g11 hq;exact ih (i+1) τ' ω' r (by omega) (fun q e=>by rw[hnx] at e;injection e with e;rw[<-e];exact hin') g0 g1 g2 g9 g10 g11 (by rw[hr,hq,hnx])
  by_cases a1:p.1 < 0
  ·have hb:=hbad (by simp[inP,a1]);simp[h0,h1,h2,h9,h10,h11,hlt,hp,encR,hev,a1,hb]
  by_cases a2:n<=p.1
  ·have hb:=hbad (by simp[inP,a1,a2]);simp[h0,h1,h2,h9,h10,h11,hlt,hp,encR,hev,a1,a2,hb]
  by_cases a3:p.2 < 0
  ·have hb:=hbad (by simp[inP,a1,a2,a3]);simp[h0,h1,h2,h9,h10,h11,hlt,hp,encR,hev,a1,a2,a3,hb]
  by_cases a4:m<=p.2
  ·have hb:=hbad (by simp[inP,a1,a2,a3,a4]);simp[h0,h1,h2,h9,h10,h11,hlt,hp,encR,hev,a1,a2,a3,a4,hb]
  have hin:inP n m p=true:=by simp[inP,a1,a2,a3,a4]
  rcases i with _ | i
  ·simp[h0,h1,h2,h9,h10,h11,hlt,hp,encR,hev,a1,a2,a3,a4];refine hgo hin _ _ ?_ ?_ ?_ ?_ ?_ ?_ (by simp[wO,y1,hin]);all_goals simp[h0,h1,h2,h9,h10,h11,encR]
   exact hwr
  ·have hlt':i < rs.length:=by omega
   have hpv:wO rs (i+1)=some rs[i]:=by unfold wO;simp[hlt']
   have hw1:IntKind.i64.wrap (((i+1:Nat):Int) - 1)=i:=by
    unfold maxLen at hlen;rw[<-zH (n:=i) (by omega)];congr 1;omega
   have hpos:(0:Int) < ((i+1:Nat):Int):=by omega
   have hev2:encP rs[i]= .agg [.int .i64 rs[i].1,.int .i64 rs[i].2]:=rfl;have hcm:=zMI rs[i] p;by_cases hlp:ltP rs[i] p=true
   ·simp[h0,h1,h2,h9,h10,h11,hlt,hlt',hp,encR,hev,hev2,a1,a2,a3,a4,hpos,hw1,-yGZ];refine zZ (zIJ _ rs[i] p (rI hn hm (hq _ hpv)) (rI hn hm hin)) (by simp[hev,hev2]) ?_;simp[h0,h1,h2,h9,h10,h11,hlp,hcm,-yGZ];refine hgo hin _ _ ?_ ?_ ?_ ?_ ?_ ?_ (by rw[hpv];simp[y1,hin,hlp]);all_goals simp[h0,h1,h2,h9,h10,h11,encR]
    exact hwr
   ·have hb:r= .bool false:=by rw[hr,hpv];simp[y1,hlp]
    simp[h0,h1,h2,h9,h10,h11,hlt,hlt',hp,encR,hev,hev2,a1,a2,a3,a4,hpos,hw1,-yGZ];refine zZ (zIJ _ rs[i] p (rI hn hm (hq _ hpv)) (rI hn hm hin)) (by simp[hev,hev2]) ?_;simp[h0,h1,h2,h9,h10,h11,hlp,hcm,hb,-yGZ]
theorem zSY (D:Nat) (rs:List PI) (hlen:rs.length<=maxLen) (n m:Int) (hn:n<=100) (hm:m<=100):Go.Ab.Loc Pg Gl D 35 [encR rs,.int .i64 n,.int .i64 m] [] (.bool (y1 n m none rs)) []:=by
 refine z0 zR tok rfl rfl fun S=> ?_;unfold c35;generalize hr:AV.bool (y1 n m none rs)=r;simp[encR];refine l35 D rs hlen n m hn hm S rs.length 0 _ _ r (by simp) (by simp[wO]) ?_ ?_ ?_ ?_ ?_ ?_ (by rw[<-hr];simp[wO]);all_goals simp[encR]
theorem l43 (D:Nat) (rs:List PI) (hlen:rs.length<=maxLen) (p:PI) (S):∀(j i:Nat) (τ ω) (r:AV),i+j=rs.length->
  τ 3= .ptr D 3 1 0->ω 3=(1,.cells [.int .i64 p.1,.int .i64 p.2])->τ 7=encR rs->τ 8= .int .i64 rs.length->τ 9= .int .i64 i->r= .bool (hasP (rs.drop i) p)->
  Rd (Loc Pg Gl) .im (RetQ [.tmp 4] r S) [.lp c43_l0,.blk 0,.c zDO] (stF 17 D τ ω S):=by
 intro j
 induction j with
 | zero=>
  intro i τ ω r hi h3 w3 h7 h8 h9 hr;refine zC c43_l0.eq_1 ?_;obtain rfl:i=rs.length:=by omega
  rw[yHH] at hr;simp[h3,w3,h7,h8,h9,zDO];rw[hr];rfl
 | succ j ih=>
  intro i τ ω r hi h3 w3 h7 h8 h9 hr;refine zC c43_l0.eq_1 ?_;have hlt:i < rs.length:=by omega
  have hwr:=zF hlt hlen;have hd:rs.drop i=rs[i]::rs.drop (i+1):=yHI hlt;rw[hd] at hr;generalize hp:rs[i]=q at hr;have hev:encP q= .agg [.int .i64 q.1,.int .i64 q.2]:=rfl;by_cases he:p=q
  ·have hb:r= .bool true:=by rw[hr];simp[hasP,he]
   subst he;simp[h3,w3,h7,h8,h9,hlt,hp,encR,hev,yP,hb]
  ·have hne:¬(p.1=q.1/\p.2=q.2):=fun e=>he (Prod.ext e.1 e.2);have hr':r= .bool (hasP (rs.drop (i+1)) p):=by rw[hr];simp[hasP,he]
   by_cases e1:p.1=q.1
   ·have e2:¬p.2=q.2:=fun e=>hne ⟨e1,e⟩;simp[h3,w3,h7,h8,h9,hlt,hp,encR,hev,yP,e1,e2];refine ih (i+1) _ _ r (by omega) ?_ ?_ ?_ ?_ ?_ hr';all_goals simp[h3,w3,h7,h8,h9,encR,e1]
    exact hwr
   ·simp[h3,w3,h7,h8,h9,hlt,hp,encR,hev,yP,e1];refine ih (i+1) _ _ r (by omega) ?_ ?_ ?_ ?_ ?_ hr';all_goals simp[h3,w3,h7,h8,h9,encR,e1]
    exact hwr
theorem zSR (D:Nat) (rs:List PI) (hlen:rs.length<=maxLen) (p:PI):Go.Ab.Loc Pg Gl D 43 [encR rs,encP p] [] (.bool (hasP rs p)) []:=by
 refine z0 zR tok rfl rfl fun S=> ?_;unfold c43;generalize hr:AV.bool (hasP rs p)=r;simp[encR,encP];refine l43 D rs hlen p S rs.length 0 _ _ r (by simp) ?_ ?_ ?_ ?_ ?_ (by rw[<-hr];rfl);all_goals simp[encR]
end Go.Ab.Tab
/- Sums,transports of weights along pairs,and the cut that shows that there is none. No program stands here. -/
namespace Go.Ab
def sumN:Nat->(Nat->Int)->Int
 | 0,_=>0
 | n+1,f=>sumN n f+f n
theorem yD {f g:Nat->Int}:∀{n:Nat},(∀i,i < n->f i=g i)->sumN n f=sumN n g
 | 0,_=>rfl
 | n+1,h=>by show sumN n f+f n=sumN n g+g n;rw[yD fun i hi=>h i (yHE hi),h n (yHD n)]
theorem pI (f g:Nat->Int):∀n,sumN n (fun i=>f i+g i)=sumN n f+sumN n g
 | 0=>rfl
 | n+1=>by show sumN n _+_=_;rw[pI f g n];show _=(sumN n f+f n)+(sumN n g+g n);simp only[];omega
theorem yR:∀n,sumN n (fun _=>0)=0
 | 0=>rfl
 | n+1=>by show sumN n _+0=0;rw[yR n];rfl
theorem uI {f g:Nat->Int}:∀{n:Nat},(∀i,i < n->f i<=g i)->sumN n f<=sumN n g
 | 0,_=>yGV _
 | n+1,h=>by
  have h1:=uI (n:=n) fun i hi=>h i (yHE hi);have h2:=h n (yHD n)
  show sumN n f+f n<=sumN n g+g n
  omega
theorem xG {f:Nat->Int} {n:Nat} (h:∀i,i < n->0<=f i):0<=sumN n f:=by
 have:=uI (f:=fun _=>0) (g:=f) h;rwa [yR] at this
theorem fQ {f g:Nat->Int}:∀{n j:Nat},(∀i,i < n->f i<=g i)->j < n->f j < g j->sumN n f < sumN n g
 | 0,_,_,hj,_=>absurd hj (yHQ _)
 | n+1,j,h,hj,hlt=>by
  show sumN n f+f n < sumN n g+g n
  have h2:=h n (yHD n);by_cases e:j=n
  ·subst e;have h1:=uI (n:=j) fun i hi=>h i (yHE hi);omega
  ·have h1:=fQ (n:=n) (j:=j) (fun i hi=>h i (yHE hi)) (by omega) hlt;omega
theorem uH (f:Nat->Nat->Int) (m:Nat):∀n,sumN n (fun i=>sumN m (f i))=sumN m (fun k=>sumN n (fun i=>f i k))
 | 0=>(yR m).symm
 | n+1=>by
  show sumN n _+sumN m (f n)=_
  rw[uH f m n,<-pI];rfl
theorem lX (j:Nat) (d:Int):∀n,sumN n (fun i=>if i=j then d else 0)=if j < n then d else 0
 | 0=>rfl
 | n+1=>by
  show sumN n _+_=_
  rw[lX j d n];by_cases h:n=j
  ·subst h;simp
  ·simp only[h,if_false,yHJ];by_cases h2:j < n
   ·rw[if_pos h2,if_pos (by omega)]
   ·rw[if_neg h2,if_neg (by omega)]
theorem lW {f g:Nat->Int} {n j:Nat} {d:Int} (hj:j < n) (h:∀i,i < n->g i=if i=j then f i+d else f i):sumN n g=sumN n f+d:=by
 have e:sumN n g=sumN n (fun i=>f i+if i=j then d else 0):=yD fun i hi=>by rw[h i hi];split<;>simp
 rw[e,pI,lX,if_pos hj]
theorem pH {f:Nat->Int} {n:Nat} (h:∀i,i < n->0<=f i) (h0:sumN n f=0):∀i,i < n->f i=0:=by
 intro i hi;rcases Int.lt_or_eq_of_le (h i hi) with hp | hp
 ·have:=fQ (f:=fun _=>0) (g:=f) (n:=n) h hi hp;rw[yR] at this;omega
 ·exact hp.symm
theorem vX {f:Nat->Int} {n i:Nat} (h:∀j,j < n->0<=f j) (hi:i < n):f i<=sumN n f:=by
 rcases Int.lt_or_le (sumN n f) (f i) with hlt | hle
 ·have h1:sumN n (fun j=>if j=i then f i else 0)<=sumN n f:=uI fun j hj=>by
   by_cases e:j=i
   ·subst e;rw[if_pos rfl];exact yGV _
   ·rw[if_neg e];exact h j hj
  rw[lX,if_pos hi] at h1;exact h1
 ·exact hle
def Feas (n m:Nat) (may:Nat->Nat->Bool) (a b:Nat->Int):Prop:=
 ∃x:Nat->Nat->Int,(∀i k,i < n->k < m->0<=x i k/\(x i k≠0->may i k=true))/\(∀i,i < n->sumN m (x i)=a i)/\∀k,k < m->sumN n (fun i=>x i k)=b k
structure Flo (n m:Nat) (may:Nat->Nat->Bool) (a b:Nat->Int) (left right:Nat->Int) (F:Nat->Nat->Int):Prop where
 nn:∀i k,i < n->k < m->0<=F i k
 mayp:∀i k,i < n->k < m->F i k≠0->may i k=true
 lf:∀i,i < n->0<=left i
 rt:∀k,k < m->0<=right k
 rows:∀i,i < n->sumN m (F i)+left i=a i
 cols:∀k,k < m->sumN n (fun i=>F i k)+right k=b k
theorem Flo.feas {n m may a b left right F} (h:Flo n m may a b left right F) (hl:∀i,i < n->left i=0) (hs:sumN n a=sumN m b):Feas n m may a b:=by
 have h1:sumN n a=sumN n (fun i=>sumN m (F i)):=yD fun i hi=>by rw[<-h.rows i hi,hl i hi];omega
 have h2:sumN m b=sumN m (fun k=>sumN n (fun i=>F i k))+sumN m right:=by
  rw[<-pI];exact yD fun k hk=>(h.cols k hk).symm
 rw[uH] at h1;have h3:=pH h.rt (by omega);exact ⟨F,fun i k hi hk=>⟨h.nn i k hi hk,h.mayp i k hi hk⟩,fun i hi=>by have:=h.rows i hi;rw[hl i hi] at this;omega,fun k hk=>by have:=h.cols k hk;rw[h3 k hk] at this;omega⟩
def Nb (m:Nat) (may:Nat->Nat->Bool) (S:Nat->Bool) (j:Nat):Prop:=∀k,k < m->may j k=true->S k=true
theorem Flo.cut {n m may a b left right F} (h:Flo n m may a b left right F) (S:Nat->Bool) {i0:Nat} (hi0:i0 < n) (hl0:left i0≠0) (hN:Nb m may S i0)
  (hS:∀k,k < m->S k=true->right k=0/\∀j,j < n->F j k≠0->Nb m may S j):¬Feas n m may a b:=by
 classical
 rintro ⟨x,x1,x2,x3⟩
 let c:Nat->(Nat->Int)->Nat->Int:=fun _ f k=>if S k=true then f k else 0
 let R:Nat->Prop:=fun j=>Nb m may S j
 have e1:sumN m (fun k=>if S k=true then b k else 0)=sumN n (fun j=>sumN m (fun k=>if S k=true then F j k else 0)):=by
  rw[uH];refine yD fun k hk=> ?_;by_cases hs:S k=true
  ·simp only[hs,if_true];rw[<-h.cols k hk,(hS k hk hs).1];omega
  ·simp only[hs,if_false];exact (yR n).symm
 have e2:sumN n (fun j=>sumN m (fun k=>if S k=true then F j k else 0)) < sumN n (fun j=>if R j then a j else 0):=by
  have hle:∀j,j < n->sumN m (fun k=>if S k=true then F j k else 0)<=if R j then a j - left j else 0:=by
   intro j hj;by_cases hr:R j
   ·rw[if_pos hr];have:sumN m (fun k=>if S k=true then F j k else 0)<=sumN m (F j):=uI fun k hk=>by
     split
     ·exact yGV _
     ·exact h.nn j k hj hk
    have:=h.rows j hj;omega
   ·rw[if_neg hr];have:sumN m (fun k=>if S k=true then F j k else 0)=sumN m (fun _=>0):=yD fun k hk=>by
     by_cases hs:S k=true
     ·rw[if_pos hs];by_cases hf:F j k=0
      ·exact hf
      ·exact absurd ((hS k hk hs).2 j hj hf) hr
     ·rw[if_neg hs]
    rw[this,yR];exact yGV _
  have h3:∀j,j < n->sumN m (fun k=>if S k=true then F j k else 0)<=if R j then a j else 0:=by
   intro j hj;refine yHK (hle j hj) ?_;split
   ·have:=h.lf j hj;omega
   ·exact yGV _
  refine fQ h3 hi0 ?_;have:=hle i0 hi0;have hR:R i0:=hN;rw[if_pos hR] at this|-;have:=h.lf i0 hi0;omega
 have e3:sumN n (fun j=>if R j then a j else 0)<=sumN n (fun j=>sumN m (fun k=>if S k=true then x j k else 0)):=by
  refine uI fun j hj=> ?_;by_cases hr:R j
  ·rw[if_pos hr,<-x2 j hj];refine uI fun k hk=> ?_;by_cases hs:S k=true
   ·rw[if_pos hs];exact yGV _
   ·rw[if_neg hs];by_cases h0:x j k=0
    ·rw[h0];exact yGV _
    ·exact absurd (hr k hk ((x1 j k hj hk).2 h0)) hs
  ·rw[if_neg hr];exact xG fun k hk=>by
    split
    ·exact (x1 j k hj hk).1
    ·exact yGV _
 have e4:sumN n (fun j=>sumN m (fun k=>if S k=true then x j k else 0))=sumN m (fun k=>if S k=true then b k else 0):=by
  rw[uH];refine yD fun k hk=> ?_;by_cases hs:S k=true
  ·simp only[hs,if_true];exact x3 k hk
  ·simp only[hs,if_false];exact yR n
 omega
end Go.Ab
/- How weights are moved: one step,and a step by way of another row. No program stands here. -/
namespace Go.Ab
def upd1 (f:Nat->Int) (k:Nat) (v:Int):Nat->Int:=fun k'=>if k'=k then v else f k'
def upd2 (F:Nat->Nat->Int) (i k:Nat) (v:Int):Nat->Nat->Int:=fun i' k'=>if i'=i/\k'=k then v else F i' k'
theorem rD {F:Nat->Nat->Int} {i k m:Nat} {v:Int} (hk:k < m) (i':Nat):sumN m (upd2 F i k v i')=sumN m (F i')+if i'=i then v - F i k else 0:=by
 by_cases h:i'=i
 ·subst h;rw[if_pos rfl];exact lW hk fun k' _=>by
   unfold upd2;by_cases e:k'=k
   ·subst e;rw[if_pos ⟨rfl,rfl⟩,if_pos rfl];omega
   ·rw[if_neg (fun q=>e q.2),if_neg e]
 ·rw[if_neg h,yHJ];exact yD fun k' _=>by unfold upd2;rw[if_neg (fun q=>h q.1)]
theorem v8 {F:Nat->Nat->Int} {i k n:Nat} {v:Int} (hi:i < n) (k':Nat):sumN n (fun j=>upd2 F i k v j k')=sumN n (fun j=>F j k')+if k'=k then v - F i k else 0:=by
 by_cases h:k'=k
 ·subst h;rw[if_pos rfl];exact lW hi fun j _=>by
   unfold upd2;by_cases e:j=i
   ·subst e;rw[if_pos ⟨rfl,rfl⟩,if_pos rfl];omega
   ·rw[if_neg (fun q=>e q.1),if_neg e]
 ·rw[if_neg h,yHJ];exact yD fun j _=>by unfold upd2;rw[if_neg (fun q=>h q.2)]
structure Cap (n m:Nat) (may:Nat->Nat->Bool) (right:Nat->Int) (F:Nat->Nat->Int):Prop where
 nn:∀i k,i < n->k < m->0<=F i k
 mayp:∀i k,i < n->k < m->F i k≠0->may i k=true
 rt:∀k,k < m->0<=right k
structure Mvd (n m:Nat) (may:Nat->Nat->Bool) (i:Nat) (r:Int) (right:Nat->Int) (F:Nat->Nat->Int) (right':Nat->Int) (F':Nat->Nat->Int):Prop where
 cap:Cap n m may right' F'
 rows:∀i',i' < n->sumN m (F' i')=sumN m (F i')+if i'=i then r else 0
 cols:∀k,k < m->sumN n (fun j=>F' j k)+right' k=sumN n (fun j=>F j k)+right k
theorem Flo.cap {n m may a b left right F} (h:Flo n m may a b left right F):Cap n m may right F:=⟨h.nn,h.mayp,h.rt⟩
theorem Flo.mv {n m may a b left right F i r right' F'} (h:Flo n m may a b left right F) (k:Mvd n m may i r right F right' F') (hi:i < n) (hr:r<=left i):Flo n m may a b (upd1 left i (left i - r)) right' F':=by
 refine ⟨k.cap.nn,k.cap.mayp,fun j hj=> ?_,k.cap.rt,fun j hj=> ?_,fun c hc=> ?_⟩
 ·unfold upd1;split
  ·omega
  ·exact h.lf j hj
 ·have h1:=h.rows j hj;have h2:=k.rows j hj;unfold upd1;by_cases e:j=i
  ·subst e;rw[if_pos rfl] at h2|-;omega
  ·rw[if_neg e] at h2|-;omega
 ·have h1:=h.cols c hc;have h2:=k.cols c hc;omega
theorem Mvd.take {n m may right F} (h:Cap n m may right F) {i k:Nat} {r:Int} (hi:i < n) (hk:k < m) (hm:may i k=true) (h0:0 < r) (hr:r<=right k):
  Mvd n m may i r right F (upd1 right k (right k - r)) (upd2 F i k (F i k+r)):=by
 refine ⟨⟨fun j c hj hc=> ?_,fun j c hj hc hne=> ?_,fun c hc=> ?_⟩,fun j hj=> ?_,fun c hc=> ?_⟩
 ·unfold upd2;split
  ·have:=h.nn i k hi hk;omega
  ·exact h.nn j c hj hc
 ·unfold upd2 at hne;split at hne
  ·rename_i q;rw[q.1,q.2];exact hm
  ·exact h.mayp j c hj hc hne
 ·unfold upd1;split
  ·omega
  ·exact h.rt c hc
 ·rw[rD hk];congr 1;split<;>omega
 ·rw[v8 hi];unfold upd1;by_cases e:c=k
  ·subst e;rw[if_pos rfl,if_pos rfl];omega
  ·rw[if_neg e,if_neg e];omega
theorem Mvd.via {n m may right F right' F'} {i j k:Nat} {r:Int} (hq:Mvd n m may j r right F right' F') (hi:i < n) (hj:j < n) (hk:k < m) (hm:may i k=true) (h0:0 < r) (hr:r<=F' j k):
  Mvd n m may i r right F right' (upd2 (upd2 F' j k (F' j k - r)) i k (upd2 F' j k (F' j k - r) i k+r)):=by
 have hc:=hq.cap;have hmj:may j k=true:=hc.mayp j k hj hk (by omega);have nn1:∀a c,a < n->c < m->0<=upd2 F' j k (F' j k - r) a c:=by
  intro a c ha hcm;unfold upd2;split
  ·omega
  ·exact hc.nn a c ha hcm
 refine ⟨⟨fun a c ha hcm=> ?_,fun a c ha hcm hne=> ?_,hc.rt⟩,fun a ha=> ?_,fun c hcm=> ?_⟩
 ·unfold upd2;split
  ·have:=nn1 i k hi hk;unfold upd2 at this;omega
  ·exact nn1 a c ha hcm
 ·unfold upd2 at hne;split at hne
  ·rename_i q;rw[q.1,q.2];exact hm
  ·split at hne
   ·rename_i q;rw[q.1,q.2];exact hmj
   ·exact hc.mayp a c ha hcm hne
 ·rw[rD hk,rD hk,hq.rows a ha];by_cases e1:a=i<;>by_cases e2:a=j<;>simp only[e1,e2,if_true,if_false]<;>omega
 ·rw[v8 hi,v8 hj,<-hq.cols c hcm];by_cases e:c=k
  ·simp only[e,if_true];omega
  ·simp only[e,if_false];omega
theorem Mvd.refl0 {n m may right F} (h:Cap n m may right F) (i:Nat):Mvd n m may i 0 right F right F:=
 ⟨h,fun i' _=>by split<;>omega,fun _ _=>rfl⟩
def yQ (seen:Nat->Bool):Nat->Nat
 | 0=>0
 | m+1=>yQ seen m+if seen m then 0 else 1
theorem iH {s t:Nat->Bool} (h:∀k,s k=true->t k=true):∀m,yQ t m<=yQ s m
 | 0=>yGU _
 | m+1=>by
  have h1:=iH h m;have h2:=h m;simp only[yQ];cases hs:s m<;>cases ht:t m<;>simp_all<;>omega
theorem sV {s t:Nat->Bool} (h:∀k,s k=true->t k=true) {k:Nat} (hs:s k=false) (ht:t k=true):∀{m},k < m->yQ t m < yQ s m
 | 0,hk=>absurd hk (yHQ _)
 | m+1,hk=>by
  simp only[yQ];by_cases e:k=m
  ·subst e;have h1:=iH h k;rw[hs,ht];simp;omega
  ·have h1:=sV h hs ht (m:=m) (by omega);have h2:=h m;cases hs':s m<;>cases ht':t m<;>simp_all<;>omega
structure Psh (n m:Nat) (may:Nat->Nat->Bool) (i:Nat) (most:Int) (seen:Nat->Bool) (right:Nat->Int) (F:Nat->Nat->Int) (r:Int) (seen':Nat->Bool) (right':Nat->Int) (F':Nat->Nat->Int):Prop where
 nn:0<=r
 le:r<=most
 sub:∀k,seen k=true->seen' k=true
 mv:Mvd n m may i r right F right' F'
 keep:∀k,seen k=true->right' k=right k/\∀j,F' j k=F j k
 same:r=0->right'=right/\F'=F
 nb:r=0->Nb m may seen' i
 cl:r=0->∀k,k < m->seen' k=true->seen k=false->right k=0/\∀j,j < n->F j k≠0->Nb m may seen' j
end Go.Ab
/- Weights are moved along a path,row,column,row,column and so on. No program stands here. -/
namespace Go.Ab
def augP (F:Nat->Nat->Int) (i c:Nat) (n:Int):Nat->Nat->Int:=upd2 F i c (F i c+n)
def augM (F:Nat->Nat->Int) (i c:Nat) (n:Int):Nat->Nat->Int:=upd2 F i c (F i c - n)
def aug (n:Int):List (Nat×Nat)->(Nat->Nat->Int)->Nat->Nat->Int
 | [],F=>F
 | [(i,c)],F=>augP F i c n
 | (i,c)::(i',c')::t,F=>aug n ((i',c')::t) (augM (augP F i c n) i' c n)
inductive Alo (n m:Nat) (may:Nat->Nat->Bool) (F:Nat->Nat->Int) (v:Int):List (Nat×Nat)->Prop where
 | one (i c:Nat):i < n->c < m->may i c=true->Alo n m may F v [(i,c)]
 | cons (i c i' c':Nat) (t:List (Nat×Nat)):i < n->c < m->may i c=true->v<=F i' c->c∉(((i',c')::t).map (·.2))->Alo n m may F v ((i',c')::t)->Alo n m may F v ((i,c)::(i',c')::t)
theorem Alo.congr {n m may F F' v} {p:List (Nat×Nat)} (h:Alo n m may F v p) (hf:∀j c,c∈p.map (·.2)->F' j c=F j c):Alo n m may F' v p:=by
 induction h with
 | one i c h1 h2 h3=>exact .one i c h1 h2 h3
 | cons i c i' c' t h1 h2 h3 h4 h5 _ ih=>
  exact .cons i c i' c' t h1 h2 h3 (by rw[hf i' c (by simp)];exact h4) h5 (ih fun j d hd=>hf j d (yHC _ hd))
theorem Alo.lt {n m may F v} {p:List (Nat×Nat)} (h:Alo n m may F v p):∀x∈p,x.1 < n/\x.2 < m:=by
 induction h with
 | one i c h1 h2 h3=>intro x hx;simp at hx;subst hx;exact ⟨h1,h2⟩
 | cons i c i' c' t h1 h2 h3 h4 h5 _ ih=>
  intro x hx;rcases yHA.1 hx with rfl | hx
  ·exact ⟨h1,h2⟩
  ·exact ih x hx
theorem Alo.le {n m may F v v'} {p:List (Nat×Nat)} (h:Alo n m may F v p) (hv:v'<=v):Alo n m may F v' p:=by
 induction h with
 | one i c h1 h2 h3=>exact .one i c h1 h2 h3
 | cons i c i' c' t h1 h2 h3 h4 h5 _ ih=>exact .cons i c i' c' t h1 h2 h3 (yHK hv h4) h5 ih
theorem zJE {n m may} {v:Int} (h0:0 < v) {right:Nat->Int}:∀(p:List (Nat×Nat)) (F:Nat->Nat->Int),Alo n m may F v p->Cap n m may right F->∀i c,p.head?=some i->p.getLast?=some c->v<=right c.2->
  Mvd n m may i.1 v right F (upd1 right c.2 (right c.2 - v)) (aug v p F)
 | [],_,h,_,_,_,_,_,_=>nomatch h
 | [(i,c)],F,h,hc,i0,c0,hi,hl,hr=>by
  simp at hi hl;subst hi;subst hl;cases h with
  | one _ _ h1 h2 h3=>exact Mvd.take hc h1 h2 h3 h0 hr
 | (i,c)::(i',c')::t,F,h,hc,i0,c0,hi,hl,hr=>by
  simp only[List.head?_cons,Option.some.injEq] at hi;subst hi;rw[List.getLast?_cons_cons] at hl;cases h with
  | cons _ _ _ _ _ h1 h2 h3 h4 h5 h6=>
   have hi':i' < n:=(h6.lt (i',c') (by simp)).1;have nn1:∀a b,a < n->b < m->0<=augM (augP F i c v) i' c v a b:=by
    intro a b ha hb;have e1:=hc.nn a b ha hb;have e2:=hc.nn i c h1 h2;unfold augM augP upd2;by_cases q1:a=i'/\b=c
    ·obtain ⟨rfl,rfl⟩:=q1;rw[if_pos ⟨rfl,rfl⟩];by_cases q2:a=i/\b=b
     ·rw[if_pos q2];omega
     ·rw[if_neg q2];omega
    ·rw[if_neg q1];by_cases q2:a=i/\b=c
     ·rw[if_pos q2];omega
     ·rw[if_neg q2];exact e1
   have hmi':may i' c=true:=hc.mayp i' c hi' h2 (by omega);have hc1:Cap n m may right (augM (augP F i c v) i' c v):=by
    refine ⟨nn1,fun a b ha hb hne=> ?_,hc.rt⟩;unfold augM augP upd2 at hne;by_cases q1:a=i'/\b=c
    ·rw[q1.1,q1.2];exact hmi'
    ·rw[if_neg q1] at hne;by_cases q2:a=i/\b=c
     ·rw[q2.1,q2.2];exact h3
     ·rw[if_neg q2] at hne;exact hc.mayp a b ha hb hne
   have hal:Alo n m may (augM (augP F i c v) i' c v) v ((i',c')::t):=h6.congr fun j d hd=>by
    have:d≠c:=fun e=>h5 (e▸hd);unfold augM augP upd2;rw[if_neg (fun q=>this q.2),if_neg (fun q=>this q.2)]
   have ih:=zJE h0 ((i',c')::t) _ hal hc1 (i',c') c0 rfl hl hr;refine ⟨ih.cap,fun j hj=> ?_,fun b hb=> ?_⟩
   ·have:=ih.rows j hj
    show sumN m (aug v ((i',c')::t) (augM (augP F i c v) i' c v) j)=_
    rw[this];unfold augM;rw[rD h2];unfold augP;rw[rD h2];by_cases e1:j=i<;>by_cases e2:j=i'<;>simp only[e1,e2,if_true,if_false]<;>omega
   ·have:=ih.cols b hb
    show sumN n (fun j=>aug v ((i',c')::t) (augM (augP F i c v) i' c v) j b)+_=_
    rw[this];unfold augM;rw[v8 hi'];unfold augP;rw[v8 h1];by_cases e:b=c
    ·simp only[e,if_true];omega
    ·simp only[e,if_false];omega
end Go.Ab
/- The memory that bisim.matched's closure works on. -/
namespace Go.Ab.Tab
open Go Go.Ab
def mI (m:Nat) (f:Nat->Int):List AV:=(yGX m).map fun k=> .int .i64 (f k)
def mB (m:Nat) (f:Nat->Bool):List AV:=(yGX m).map fun k=> .bool (f k)
def uL (n d0 m:Nat):List AV:=(yGX n).map fun j=> .own d0 j 1 0 m 1 false
def updB (f:Nat->Bool) (k:Nat) (b:Bool):Nat->Bool:=fun k'=>if k'=k then b else f k'
@[simp] theorem zTP (m f):(mI m f).length=m:=by simp[mI]
@[simp] theorem yGI (m f):(mB m f).length=m:=by simp[mB]
@[simp] theorem zTL (n d m):(uL n d m).length=n:=by simp[uL]
theorem zTQ {m k:Nat} {f} (h:k < m):(mI m f)[k]?=some (.int .i64 (f k)):=by simp[mI,h]
theorem zTR {m k:Nat} {f} (h:k < m):(mB m f)[k]?=some (.bool (f k)):=by simp[mB,h]
theorem zAW {n d m k:Nat} (h:k < n):(uL n d m)[k]?=some (.own d k 1 0 m 1 false):=by simp[uL,h]
@[simp] theorem yGR {m k:Nat} {f} (h:k < (mI m f).length):(mI m f)[k]= .int .i64 (f k):=by simp[mI]
@[simp] theorem yGS {m k:Nat} {f} (h:k < (mB m f).length):(mB m f)[k]= .bool (f k):=by simp[mB]
@[simp] theorem zYM {n d m k:Nat} (h:k < (uL n d m).length):(uL n d m)[k]= .own d k 1 0 m 1 false:=by simp[uL]
theorem zBB {α:Type} (g:α->AV) {m k:Nat} (hk:k < m) (f:Nat->α) (v:α):List.take k ((yGX m).map fun k=>g (f k))++g v::List.drop (k+1) ((yGX m).map fun k=>g (f k))=(yGX m).map fun k'=>g (if k'=k then v else f k'):=by
 refine yHR fun j=> ?_;rw[yHS];simp only[yHT,yHU,yHV,yHW (Nat.le_of_lt hk)];by_cases h1:j < k
 ·rw[if_pos h1,yHX h1];simp[Nat.ne_of_lt h1,Nat.lt_trans h1 hk]
 ·rw[if_neg h1];by_cases h2:j=k
  ·subst h2;simp[hk]
  ·obtain ⟨t,rfl⟩:∃t,j=k+1+t:=⟨j - (k+1),by omega⟩;rw[show k+1+t - k=t+1 by omega,yHY,yHZ];rw[yHF,yHF];by_cases h3:k+1+t < m
   ·simp[h3,show k+1+t≠k by omega]
   ·rw[yIA (by simp;omega)];rfl
theorem tN {m k:Nat} (hk:k < m) (f:Nat->Int) (v:Int):List.take k (mI m f)++ .int .i64 v::List.drop (k+1) (mI m f)=mI m (upd1 f k v):=zBB (AV.int .i64) hk f v
theorem uE {m k:Nat} (hk:k < m) (f:Nat->Bool) (v:Bool):List.take k (mB m f)++ .bool v::List.drop (k+1) (mB m f)=mB m (updB f k v):=zBB AV.bool hk f v
structure PE where
 n:Nat
 m:Nat
 d0:Nat
 d1:Nat
 dM:Nat
 sM:Nat
 gM:Nat
 csM:List AV
 g20:Nat
 g21:Nat
 g89:Nat
def PE.caps (e:PE):List AV:=[.ptr e.d1 5 1 0,.ptr e.d1 20 e.g20 0,.ptr e.d1 12 1 0,.ptr e.d1 17 1 0,.ptr e.d1 21 e.g21 0]
structure PE.Ok (e:PE) (may:Nat->Nat->Bool):Prop where
 h01:e.d0 < e.d1
 hM0:e.dM < e.d0
 hrow:∀i,i < e.n->∃t,e.csM[i]?=some (.sl 1 (mB e.m (may i)) t)
 hlen:e.csM.length=e.n
 hm:e.m<=1000
 hn:e.n<=1000
def PE.fixed (e:PE):List (Nat×Nat×Ent):=[(e.dM,e.sM,(e.gM,.cells e.csM)),(e.d1,5,(1,.cells [.own e.dM e.sM e.gM 0 e.n 1 false])),(e.d1,20,(e.g20,.cells [.own e.d1 89 e.g89 0 e.m 1 false])),
 (e.d1,12,(1,.cells [.own e.d1 28 1 0 e.m 1 false])),(e.d1,17,(1,.cells [.own e.d1 64 1 0 e.n 1 false])),(e.d1,21,(e.g21,.cells [.fn 110 e.caps])),(e.d1,64,(1,.cells (uL e.n e.d0 e.m)))]
def PE.dl (e:PE) (seen:Nat->Bool) (right:Nat->Int) (F:Nat->Nat->Int):List (Nat×Nat×Ent):=
 (e.d1,89,(e.g89,.cells (mB e.m seen)))::(e.d1,28,(1,.cells (mI e.m right)))::(yGX e.n).map fun j=>(e.d0,j,(1,.cells (mI e.m (F j))))
structure PE.Mem (e:PE) (seen:Nat->Bool) (right:Nat->Int) (F:Nat->Nat->Int) (S:Nat->Nat->Ent):Prop where
 may:S e.dM e.sM=(e.gM,.cells e.csM)
 c5:S e.d1 5=(1,.cells [.own e.dM e.sM e.gM 0 e.n 1 false])
 c20:S e.d1 20=(e.g20,.cells [.own e.d1 89 e.g89 0 e.m 1 false])
 c12:S e.d1 12=(1,.cells [.own e.d1 28 1 0 e.m 1 false])
 c17:S e.d1 17=(1,.cells [.own e.d1 64 1 0 e.n 1 false])
 c21:S e.d1 21=(e.g21,.cells [.fn 110 e.caps])
 oflow:S e.d1 64=(1,.cells (uL e.n e.d0 e.m))
 oseen:S e.d1 89=(e.g89,.cells (mB e.m seen))
 oright:S e.d1 28=(1,.cells (mI e.m right))
 orow:∀j,j < e.n->S e.d0 j=(1,.cells (mI e.m (F j)))
def PE.Plc (e:PE) (d i:Nat):Prop:=(d=e.d1/\(i=89\/i=28))\/(d=e.d0/\i < e.n)
def PE.Chg (e:PE) (S S':Nat->Nat->Ent):Prop:=∀d i,¬e.Plc d i->S' d i=S d i
theorem PE.mem_of {e:PE} {seen right F S} (h:∀x∈e.fixed++e.dl seen right F,S x.1 x.2.1=x.2.2):e.Mem seen right F S:=by
 have hf:∀x∈e.fixed,S x.1 x.2.1=x.2.2:=fun x hx=>h x (List.mem_append_left _ hx);have hd:∀x∈e.dl seen right F,S x.1 x.2.1=x.2.2:=fun x hx=>h x (yHG _ hx);refine ⟨hf (e.dM,e.sM,(e.gM,.cells e.csM)) (by simp[PE.fixed]),hf (e.d1,5,_) (by simp[PE.fixed]),hf (e.d1,20,_) (by simp[PE.fixed]),hf (e.d1,12,_) (by simp[PE.fixed]),hf (e.d1,17,_) (by simp[PE.fixed]),hf (e.d1,21,_) (by simp[PE.fixed]),
  hf (e.d1,64,_) (by simp[PE.fixed]),hd (e.d1,89,_) (by simp[PE.dl]),hd (e.d1,28,_) (by simp[PE.dl]),fun j hj=>hd (e.d0,j,_) (by unfold PE.dl;exact yHC _ (yHC _ (yGT.2 ⟨j,yGY.2 hj,rfl⟩)))⟩
theorem PE.Mem.all {e:PE} {seen right F S} (h:e.Mem seen right F S):∀x∈e.fixed++e.dl seen right F,S x.1 x.2.1=x.2.2:=by
 intro x hx;simp only[PE.fixed,PE.dl,yHL,yHA,yHM,or_false,yGT,yGY] at hx;rcases hx with (rfl | rfl | rfl | rfl | rfl | rfl | rfl) | rfl | rfl | ⟨j,hj,rfl⟩
 ·exact h.may
 ·exact h.c5
 ·exact h.c20
 ·exact h.c12
 ·exact h.c17
 ·exact h.c21
 ·exact h.oflow
 ·exact h.oseen
 ·exact h.oright
 ·exact h.orow j hj
theorem fN {S S':Nat->Nat->Ent}:∀(dl:List (Nat×Nat×Ent)),(∀u∈dl,S' u.1 u.2.1=u.2.2)->(∀d i,(∀u∈dl,¬(u.1=d/\u.2.1=i))->S' d i=S d i)->∀d i,upds S dl d i=S' d i
 | [],_,h2,d,i=>(h2 d i (by simp)).symm
 | u::dl,h1,h2,d,i=>by
  show upds (updS S u.1 u.2.1 u.2.2) dl d i=_
  refine fN dl (fun v hv=>h1 v (yHC _ hv)) (fun d i hd=> ?_) d i;unfold updS;by_cases hc:d=u.1/\i=u.2.1
  ·rw[if_pos hc,hc.1,hc.2];exact h1 u (List.mem_cons_self ..)
  ·rw[if_neg hc];exact h2 d i fun v hv=>by
    rcases yHA.1 hv with rfl | hv
    ·exact fun q=>hc ⟨q.1.symm,q.2.symm⟩
    ·exact hd v hv
theorem PE.upds_eq {e:PE} {seen right F S S'} (hm:e.Mem seen right F S') (hc:e.Chg S S'):∀d i,upds S (e.dl seen right F) d i=S' d i:=
 fN _ (fun u hu=>hm.all u (yHG _ hu)) fun d i hd=>hc d i fun hp=>by
  rcases hp with ⟨rfl,rfl | rfl⟩ | ⟨rfl,hi⟩
  ·exact hd (e.d1,89,(e.g89,.cells (mB e.m seen))) (by simp[PE.dl]) ⟨rfl,rfl⟩
  ·exact hd (e.d1,28,(1,.cells (mI e.m right))) (by simp[PE.dl]) ⟨rfl,rfl⟩
  ·exact hd (e.d0,i,(1,.cells (mI e.m (F i)))) (by unfold PE.dl;exact yHC _ (yHC _ (yGT.2 ⟨i,yGY.2 hi,rfl⟩))) ⟨rfl,rfl⟩
theorem PE.upds_mem {e:PE} {may seen right F seen' right' F' S} (ho:e.Ok may) (h:e.Mem seen right F S):e.Mem seen' right' F' (upds S (e.dl seen' right' F'))/\e.Chg S (upds S (e.dl seen' right' F')):=by
 have h01:=ho.h01;have hM0:=ho.hM0
 let S':Nat->Nat->Ent:=fun d i=>if d=e.d1/\i=89 then (e.g89,.cells (mB e.m seen')) else if d=e.d1/\i=28 then (1,.cells (mI e.m right')) else if d=e.d0/\i < e.n then (1,.cells (mI e.m (F' i))) else S d i
 have hne:∀d i,¬e.Plc d i->S' d i=S d i:=by
  intro d i hp
  show (if _ then _ else _)=_
  rw[if_neg (fun q=>hp (.inl ⟨q.1,.inl q.2⟩)),if_neg (fun q=>hp (.inl ⟨q.1,.inr q.2⟩)),if_neg (fun q=>hp (.inr q))]
 have hm:e.Mem seen' right' F' S':=by
  have np:∀i,i≠89->i≠28->¬e.Plc e.d1 i:=by
   intro i h1 h2 hp;rcases hp with ⟨_,q⟩ | ⟨q,_⟩<;>omega
  refine ⟨?_,?_,?_,?_,?_,?_,?_,?_,?_,fun j hj=> ?_⟩
  ·rw[hne _ _ (by rintro (⟨q,_⟩ | ⟨q,_⟩)<;>omega)];exact h.may
  ·rw[hne _ _ (np 5 (by decide) (by decide))];exact h.c5
  ·rw[hne _ _ (np 20 (by decide) (by decide))];exact h.c20
  ·rw[hne _ _ (np 12 (by decide) (by decide))];exact h.c12
  ·rw[hne _ _ (np 17 (by decide) (by decide))];exact h.c17
  ·rw[hne _ _ (np 21 (by decide) (by decide))];exact h.c21
  ·rw[hne _ _ (np 64 (by decide) (by decide))];exact h.oflow
  ·exact if_pos ⟨rfl,rfl⟩
  ·show (if _ then _ else _)=_
   rw[if_neg (by simp),if_pos ⟨rfl,rfl⟩]
  ·show (if _ then _ else _)=_
   rw[if_neg (by omega),if_neg (by omega),if_pos ⟨rfl,hj⟩]
 have e1:upds S (e.dl seen' right' F')=S':=by funext d i;exact PE.upds_eq hm hne d i
 rw[e1];exact ⟨hm,hne⟩
theorem PE.Chg.refl (e:PE) (S):e.Chg S S:=fun _ _ _=>rfl
theorem PE.Chg.trans {e:PE} {S S1 S2} (h:e.Chg S S1) (k:e.Chg S1 S2):e.Chg S S2:=fun d i hp=>(k d i hp).trans (h d i hp)
theorem PE.Mem.setSeen {e:PE} {may seen right F S} (ho:e.Ok may) (h:e.Mem seen right F S) (seen'):e.Mem seen' right F (updS S e.d1 89 (e.g89,.cells (mB e.m seen')))/\e.Chg S (updS S e.d1 89 (e.g89,.cells (mB e.m seen'))):=by
 have h01:=ho.h01;have hM0:=ho.hM0;refine ⟨⟨?_,?_,?_,?_,?_,?_,?_,?_,?_,fun j hj=> ?_⟩,fun d i hp=> ?_⟩<;>unfold updS
 ·rw[if_neg (by omega)];exact h.may
 ·rw[if_neg (by omega)];exact h.c5
 ·rw[if_neg (by omega)];exact h.c20
 ·rw[if_neg (by omega)];exact h.c12
 ·rw[if_neg (by omega)];exact h.c17
 ·rw[if_neg (by omega)];exact h.c21
 ·rw[if_neg (by omega)];exact h.oflow
 ·rw[if_pos ⟨rfl,rfl⟩]
 ·rw[if_neg (by omega)];exact h.oright
 ·rw[if_neg (by omega)];exact h.orow j hj
 ·rw[if_neg (fun q=>hp (.inl ⟨q.1,.inl q.2⟩))]
theorem PE.Mem.setRight {e:PE} {may seen right F S} (ho:e.Ok may) (h:e.Mem seen right F S) (right'):e.Mem seen right' F (updS S e.d1 28 (1,.cells (mI e.m right')))/\e.Chg S (updS S e.d1 28 (1,.cells (mI e.m right'))):=by
 have h01:=ho.h01;have hM0:=ho.hM0;refine ⟨⟨?_,?_,?_,?_,?_,?_,?_,?_,?_,fun j hj=> ?_⟩,fun d i hp=> ?_⟩<;>unfold updS
 ·rw[if_neg (by omega)];exact h.may
 ·rw[if_neg (by omega)];exact h.c5
 ·rw[if_neg (by omega)];exact h.c20
 ·rw[if_neg (by omega)];exact h.c12
 ·rw[if_neg (by omega)];exact h.c17
 ·rw[if_neg (by omega)];exact h.c21
 ·rw[if_neg (by omega)];exact h.oflow
 ·rw[if_neg (by omega)];exact h.oseen
 ·rw[if_pos ⟨rfl,rfl⟩]
 ·rw[if_neg (by omega)];exact h.orow j hj
 ·rw[if_neg (fun q=>hp (.inl ⟨q.1,.inr q.2⟩))]
theorem PE.Mem.setRow {e:PE} {may seen right F S} (ho:e.Ok may) (h:e.Mem seen right F S) {i:Nat} (hi:i < e.n) (k:Nat) (v:Int):
  e.Mem seen right (upd2 F i k v) (updS S e.d0 i (1,.cells (mI e.m (upd1 (F i) k v))))/\e.Chg S (updS S e.d0 i (1,.cells (mI e.m (upd1 (F i) k v)))):=by
 have h01:=ho.h01;have hM0:=ho.hM0;refine ⟨⟨?_,?_,?_,?_,?_,?_,?_,?_,?_,fun j hj=> ?_⟩,fun d j hp=> ?_⟩<;>unfold updS
 ·rw[if_neg (by omega)];exact h.may
 ·rw[if_neg (by omega)];exact h.c5
 ·rw[if_neg (by omega)];exact h.c20
 ·rw[if_neg (by omega)];exact h.c12
 ·rw[if_neg (by omega)];exact h.c17
 ·rw[if_neg (by omega)];exact h.c21
 ·rw[if_neg (by omega)];exact h.oflow
 ·rw[if_neg (by omega)];exact h.oseen
 ·rw[if_neg (by omega)];exact h.oright
 ·by_cases e1:j=i
  ·subst e1;rw[if_pos ⟨rfl,rfl⟩];have:upd2 F j k v j=upd1 (F j) k v:=by funext k';unfold upd2 upd1;simp
   rw[this]
  ·rw[if_neg (fun q=>e1 q.2),h.orow j hj];have:upd2 F i k v j=F j:=by funext k';unfold upd2;rw[if_neg (fun q=>e1 q.1)]
   rw[this]
 ·rw[if_neg (fun q=>hp (.inr ⟨q.1,by rw[q.2];exact hi⟩))]
end Go.Ab.Tab
/- bisim.matched's closure push. -/
namespace Go.Ab.Tab
open Go Go.Ab
theorem yO {x:Int} (h1: -4611686018427387904<=x) (h2:x<=4611686018427387904):IntKind.i64.wrap x=x:=by
 simp[IntKind.wrap,IntKind.bits,IntKind.signed];omega
def Bnd (n m:Nat) (right:Nat->Int) (F:Nat->Nat->Int):Prop:=∀k,k < m->sumN n (fun j=>F j k)+right k<=2199023255552
theorem Bnd.F {n m may right F} (h:Bnd n m right F) (c:Cap n m may right F) {j k:Nat} (hj:j < n) (hk:k < m):0<=F j k/\F j k<=2199023255552:=by
 have h1:=h k hk;have h2:=c.rt k hk;have h3:F j k<=sumN n (fun j=>F j k):=vX (f:=fun j=>F j k) (fun i hi=>c.nn i k hi hk) hj;exact ⟨c.nn j k hj hk,by omega⟩
theorem Bnd.right {n m may right F} (h:Bnd n m right F) (c:Cap n m may right F) {k:Nat} (hk:k < m):0<=right k/\right k<=2199023255552:=by
 have h1:=h k hk;have h2:=c.rt k hk;have h3:0<=sumN n (fun j=>F j k):=xG fun i hi=>c.nn i k hi hk;exact ⟨h2,by omega⟩
theorem Bnd.mv {n m may i r right F right' F'} (h:Bnd n m right F) (k:Mvd n m may i r right F right' F'):Bnd n m right' F':=fun c hc=>by rw[k.cols c hc];exact h c hc
section
variable {e:PE} {may:Nat->Nat->Bool} (ho:e.Ok may)
abbrev PQ (e:PE) (D:Nat) (S0:Nat->Nat->Ent) (r:Int) (seen:Nat->Bool) (right:Nat->Int) (F:Nat->Nat->Int):St->Prop:=RetM [.tmp 9] (.int .i64 r) D S0 (e.dl seen right F)
theorem lT (S:Nat->Nat->Ent) (d i:Nat) (x:Ent) (d' i':Nat):updS S d i x d' i'=if d'=d/\i'=i then x else S d' i':=rfl
include ho in
theorem zBE {D:Nat} (hD:e.d1 < D) {S0 S:Nat->Nat->Ent} {i k:Nat} {most r:Int} {seen:Nat->Bool} {right:Nat->Int} {F:Nat->Nat->Int} (hc:Cap e.n e.m may right F) (hb:Bnd e.n e.m right F) (hi:i < e.n) (hk:k < e.m)
  (hmay:may i k=true) (hs:seen k=false) (hr:(if right k < most then right k else most)=r) (hpos:0 < r) (hm:e.Mem seen right F S) (hg:e.Chg S0 S) {τ:Nat->AV} {ω:Nat->Ent} {tp:Tip}
  (h0:τ 0= .int .i64 i) (h1:τ 1= .int .i64 most) (h2:τ 2= .ptr e.d1 5 1 0) (h3:τ 3= .ptr e.d1 20 e.g20 0) (h4:τ 4= .ptr e.d1 12 1 0) (h5:τ 5= .ptr e.d1 17 1 0) (h6:τ 6= .ptr e.d1 21 e.g21 0) (h18:τ 18= .sl 1 (mB e.m (may i)) tp) (h19:τ 19= .int .i64 e.m) (h20:τ 20= .int .i64 k):
  Rd (Loc Pg Gl) .im (PQ e D S0 r (updB seen k true) (upd1 right k (right k - r)) (upd2 F i k (F i k+r))) [.lp c110_l1,.blk 0,.c uX] (stF 112 D τ ω S):=by
 have h01:=ho.h01;have hM0:=ho.hM0;have n1:¬e.d1=D:=by omega
 have n0:¬e.d0=D:=by omega
 have nM:¬e.dM=D:=by omega
 have n01:¬e.d0=e.d1:=by omega
 have n10:¬e.d1=e.d0:=by omega
 have nM1:¬e.dM=e.d1:=by omega
 have nM0:¬e.dM=e.d0:=by omega
 have hm10:=ho.hm;have hk1:k+1<=e.m:=hk;obtain ⟨f1,f2⟩:=hb.F hc hi hk;obtain ⟨r1,r2⟩:=hb.right hc hk;have hrr:r<=right k:=by rw[<-hr];split<;>omega
 have w1:IntKind.i64.wrap (F i k+r)=F i k+r:=yO (by omega) (by omega);have w2:IntKind.i64.wrap (right k - r)=right k - r:=yO (by omega) (by omega);obtain ⟨m1,g1⟩:=hm.setSeen ho (updB seen k true);obtain ⟨m2,g2⟩:=m1.setRow ho hi k (F i k+r);obtain ⟨m3,g3⟩:=m2.setRight ho (upd1 right k (right k - r));refine zC c110_l1.eq_1 ?_;simp[h0,h1,h2,h3,h4,h5,h6,h18,h19,h20,hk,zTR hk,hmay,n1,n0,nM,n01,n10,hm.c20,hm.oseen,hs,hm.c12,hm.oright,zTQ hk,hm.c17,hm.oflow,zAW hi,hi,hk1,uE hk,tN hk,lT,hr,hpos,hm.orow i hi,w1,w2];intro d j hd;exact (PE.upds_eq m3 ((hg.trans g1).trans (g2.trans g3)) d j).symm
theorem Nb.mono {m:Nat} {may:Nat->Nat->Bool} {s t:Nat->Bool} {j:Nat} (h:Nb m may s j) (hs:∀c,s c=true->t c=true):Nb m may t j:=fun c hc hm=>hs c (h c hc hm)
structure PInv (e:PE) (may:Nat->Nat->Bool) (i k:Nat) (seen0:Nat->Bool) (right:Nat->Int) (F:Nat->Nat->Int) (seen1:Nat->Bool):Prop where
 sub:∀c,seen0 c=true->seen1 c=true
 nb:∀c,c < k->may i c=true->seen1 c=true
 cl:∀c,c < e.m->seen1 c=true->seen0 c=false->right c=0/\∀j,j < e.n->F j c≠0->Nb e.m may seen1 j
structure PInw (e:PE) (may:Nat->Nat->Bool) (i k j:Nat) (seen0:Nat->Bool) (right:Nat->Int) (F:Nat->Nat->Int) (seen1:Nat->Bool):Prop where
 sub:∀c,seen0 c=true->seen1 c=true
 nb:∀c,c < k->may i c=true->seen1 c=true
 at_:seen1 k=true
 cl:∀c,c < e.m->c≠k->seen1 c=true->seen0 c=false->right c=0/\∀j,j < e.n->F j c≠0->Nb e.m may seen1 j
 jn:∀j',j' < j->F j' k≠0->Nb e.m may seen1 j'
structure PFr (e:PE) (may:Nat->Nat->Bool) (i:Nat) (most:Int) (tp:Tip) (τ:Nat->AV):Prop where
 h0:τ 0= .int .i64 i
 h1:τ 1= .int .i64 most
 h2:τ 2= .ptr e.d1 5 1 0
 h3:τ 3= .ptr e.d1 20 e.g20 0
 h4:τ 4= .ptr e.d1 12 1 0
 h5:τ 5= .ptr e.d1 17 1 0
 h6:τ 6= .ptr e.d1 21 e.g21 0
 h18:τ 18= .sl 1 (mB e.m (may i)) tp
 h19:τ 19= .int .i64 e.m
theorem PFr.upd {e:PE} {may:Nat->Nat->Bool} {i:Nat} {most:Int} {tp:Tip} {τ:Nat->AV} (h:PFr e may i most tp τ) (d:Nat) (v:AV) (hd:¬(d<=6\/d=18\/d=19):=by decide):PFr e may i most tp (upd τ d v):=by
 refine ⟨?_,?_,?_,?_,?_,?_,?_,?_,?_⟩<;>rw[vE,if_neg (by omega)]
 ·exact h.h0
 ·exact h.h1
 ·exact h.h2
 ·exact h.h3
 ·exact h.h4
 ·exact h.h5
 ·exact h.h6
 ·exact h.h18
 ·exact h.h19
def PGo (e:PE) (may:Nat->Nat->Bool) (i:Nat) (most:Int) (tp:Tip) (seen0:Nat->Bool) (right:Nat->Int) (F:Nat->Nat->Int) (seen1:Nat->Bool) (k:List AI) (P:(Nat->AV)->Prop):Prop:=
 ∃r seen' right' F',Psh e.n e.m may i most seen0 right F r seen' right' F'/\∀D (S0 S:Nat->Nat->Ent) (τ:Nat->AV) (ω:Nat->Ent),e.d1 < D->e.Mem seen1 right F S->e.Chg S0 S->PFr e may i most tp τ->P τ->
  Rd (Loc Pg Gl) .im (PQ e D S0 r seen' right' F') k (stF 112 D τ ω S)
section
variable {i:Nat} {most:Int} {tp:Tip} {seen0:Nat->Bool} {right:Nat->Int} {F:Nat->Nat->Int} (hc:Cap e.n e.m may right F) (hb:Bnd e.n e.m right F) (hi:i < e.n) (hmost:0 < most)
include ho hc hb hi hmost
theorem bU {u:Nat} (hrec:∀(seen':Nat->Bool) (i':Nat) (most':Int),yQ seen' e.m < u->i' < e.n->0 < most'->∃r s' rt' F',Psh e.n e.m may i' most' seen' right F r s' rt' F'/\
   ∀D,e.d1 < D->Go.Ab.Loc Pg Gl D 110 ([.int .i64 i',.int .i64 most']++e.caps) (e.fixed++e.dl seen' right F) (.int .i64 r) (e.dl s' rt' F')) (hu0:yQ seen0 e.m<=u)
  {k:Nat} (hkm:k < e.m) (hmk:may i k=true) (hs0:seen0 k=false) (hr0:right k=0)
  (hcont:∀seen2,PInv e may i (k+1) seen0 right F seen2->PGo e may i most tp seen0 right F seen2 [.lp c110_l1,.blk 0,.c uX] (fun τ=>τ 20= .int .i64 (k+1:Nat))):
  ∀(jj j:Nat) (seen3:Nat->Bool),j+jj=e.n->PInw e may i k j seen0 right F seen3->
   PGo e may i most tp seen0 right F seen3 [.lp c110_l0,.blk 2,.blk 1,.c qJ,.lp c110_l1,.blk 0,.c uX] (fun τ=>τ 20= .int .i64 k/\τ 10= .int .i64 k/\τ 63= .int .i64 e.n/\τ 64= .int .i64 j):=by
 have hm10:=ho.hm;have hn10:=ho.hn;have hwk:IntKind.i64.wrap ((k:Int)+1)=((k+1:Nat):Int):=zF hkm (by unfold maxLen;omega);intro jj
 induction jj with
 | zero=>
  intro j seen3 hj hI;obtain rfl:j=e.n:=by omega
  obtain ⟨r,seen',right',F',q1,q2⟩:=hcont seen3 ⟨hI.sub,fun c hck hm=>by
   by_cases e1:c=k
   ·subst e1;exact hI.at_
   ·exact hI.nb c (by omega) hm,fun c hcm h1 h2=>by
   by_cases e1:c=k
   ·subst e1;exact ⟨hr0,hI.jn⟩
   ·exact hI.cl c hcm e1 h1 h2⟩
  refine ⟨r,seen',right',F',q1,fun D S0 S τ ω hD hm hg hf ⟨h20,h10,h63,h64⟩=> ?_⟩;refine zC c110_l0.eq_1 ?_;simp[h20,h63,h64,hwk,qJ];refine q2 D S0 S _ ω hD hm hg ?_ ?_
  ·repeat (first | exact hf | refine PFr.upd ?_ _ _)
  ·simp
 | succ jj ih=>
  intro j seen3 hj hI;have hjn:j < e.n:=by omega
  have hwr:IntKind.i64.wrap ((j:Int)+1)=((j+1:Nat):Int):=zF hjn (by unfold maxLen;omega);have h01:=ho.h01;have hM0:=ho.hM0;obtain ⟨f1,f2⟩:=hb.F hc hjn hkm;by_cases hz:F j k=0
  ·obtain ⟨r,seen',right',F',q1,q2⟩:=ih (j+1) seen3 (by omega) ⟨hI.sub,hI.nb,hI.at_,hI.cl,fun j' hj' hne=>by
    by_cases e1:j'=j
    ·subst e1;exact absurd hz hne
    ·exact hI.jn j' (by omega) hne⟩
   refine ⟨r,seen',right',F',q1,fun D S0 S τ ω hD hm hg hf ⟨h20,h10,h63,h64⟩=> ?_⟩;have n1:¬e.d1=D:=by omega
   have n0:¬e.d0=D:=by omega
   refine zC c110_l0.eq_1 ?_;simp[h20,h10,h63,h64,hjn,hf.h5,n1,n0,hm.c17,hm.oflow,hm.orow j hjn,hkm,hz,hwr];refine q2 D S0 S _ ω hD hm hg ?_ ?_
   ·repeat (first | exact hf | refine PFr.upd ?_ _ _)
   ·simp[h20,h10,h63]
  ·generalize hm2:(if F j k < most then F j k else most)=m2;have hm2p:0 < m2:=by rw[<-hm2];split<;>omega
   have hm2F:m2<=F j k:=by rw[<-hm2];split<;>omega
   have hm2m:m2<=most:=by rw[<-hm2];split<;>omega
   have hus:yQ seen3 e.m < u:=Nat.lt_of_lt_of_le (sV hI.sub hs0 hI.at_ hkm) hu0;obtain ⟨r2,s2,rt2,F2,p1,p2⟩:=hrec seen3 j m2 hus hjn hm2p;have call:∀{D} (S:Nat->Nat->Ent),e.d1 < D->e.Mem seen3 right F S->∀m∈e.fixed++e.dl seen3 right F,m.1<=D/\(m.1=D->m.2.1 < 112)/\(∀τ ω,(stF 112 D τ ω S).look m.1 m.2.1=m.2.2):=by
    intro D S hD hm x hx;have hd:x.1 < D:=by
     simp only[PE.fixed,PE.dl,yHL,yHA,yHM,or_false,yGT,yGY] at hx;rcases hx with (rfl | rfl | rfl | rfl | rfl | rfl | rfl) | rfl | rfl | ⟨j,hj,rfl⟩<;>simp only<;>omega
    refine ⟨by omega,by omega,fun τ ω=> ?_⟩;rw[zS,if_neg (by omega)];exact hm.all x hx
   have hdl:∀u∈e.dl s2 rt2 F2,(u.1,u.2.1)∈(e.fixed++e.dl seen3 right F).map (fun m=>(m.1,m.2.1))/\u.2.2.2≠ .dead:=by
    intro x hx;have hpl:(e.dl s2 rt2 F2).map (fun m=>(m.1,m.2.1))=(e.dl seen3 right F).map (fun m=>(m.1,m.2.1)):=by simp[PE.dl,Function.comp_def]
    refine ⟨?_,?_⟩
    ·rw[yIB,<-hpl];exact yHG _ (yGT.2 ⟨x,hx,rfl⟩)
    ·simp only[PE.dl,yHA,yGT,yGY] at hx;rcases hx with rfl | rfl | ⟨j,hj,rfl⟩<;>simp
   have hcap:e.caps.map AV.strip=e.caps:=rfl;have hdD:∀{D},e.d1 < D->∀u∈e.dl s2 rt2 F2,u.1≠D:=by
    intro D hD x hx;simp only[PE.dl,yHA,yGT,yGY] at hx;rcases hx with rfl | rfl | ⟨j,hj,rfl⟩<;>simp only<;>omega
   by_cases hr2:r2=0
   ·obtain ⟨rfl,rfl⟩:=p1.same hr2;obtain ⟨r,seen',right',F',q1,q2⟩:=ih (j+1) s2 (by omega) ⟨fun c h=>p1.sub c (hI.sub c h),fun c h1 h2=>p1.sub c (hI.nb c h1 h2),p1.sub k hI.at_,fun c hcm hck h1 h2=>by
     by_cases e3:seen3 c=true
     ·obtain ⟨a1,a2⟩:=hI.cl c hcm hck e3 h2;exact ⟨a1,fun j' hj' hne=>Nb.mono (a2 j' hj' hne) p1.sub⟩
     ·exact p1.cl hr2 c hcm h1 (by simpa using e3),fun j' hj' hne=>by
     by_cases e1:j'=j
     ·subst e1;exact p1.nb hr2
     ·exact Nb.mono (hI.jn j' (by omega) hne) p1.sub⟩
    refine ⟨r,seen',right',F',q1,fun D S0 S τ ω hD hm hg hf ⟨h20,h10,h63,h64⟩=> ?_⟩;have n1:¬e.d1=D:=by omega
    have n0:¬e.d0=D:=by omega
    have nM:¬e.dM=D:=by omega
    refine zC c110_l0.eq_1 ?_;simp[h20,h10,h63,h64,hjn,hf.h5,hf.h1,hf.h6,n1,n0,hm.c17,hm.oflow,hm.orow j hjn,hkm,hz,hwr,hm.c21,hm2];refine sQ (f:=110) (cap:=e.caps) (p2 (D+1) (by omega)) (by simp) (by simp[hcap]) (fun m hmm=> ?_) hdl ?_
    ·have:=call S hD hm m hmm;exact ⟨this.1,this.2.1,this.2.2 _ _⟩
    rw[lZ (hdD hD)];obtain ⟨m2',g2'⟩:=PE.upds_mem (seen':=s2) (right':=rt2) (F':=F2) ho hm;generalize upds S (e.dl s2 rt2 F2)=S2 at m2' g2';subst hr2;simp[h20,h10,h63,h64,hwr];refine q2 D S0 S2 _ ω hD m2' (hg.trans g2') ?_ ?_
    ·repeat (first | exact hf | refine PFr.upd ?_ _ _)
    ·simp[h20,h10,h63]
   ·have hr2p:0 < r2:=by have:=p1.nn;omega
    have hFk:F2 j k=F j k:=(p1.keep k hI.at_).2 j;have hrF:r2<=F2 j k:=by have:=p1.le;omega
    have hb2:Bnd e.n e.m rt2 F2:=hb.mv p1.mv;have hvia:=Mvd.via p1.mv hi hjn hkm hmk hr2p hrF;have hb3:=hb.mv hvia;obtain ⟨a1,a2⟩:=hb3.F hvia.cap hi hkm;have a3:upd2 (upd2 F2 j k (F2 j k - r2)) i k (upd2 F2 j k (F2 j k - r2) i k+r2) i k=upd2 F2 j k (F2 j k - r2) i k+r2:=by unfold upd2;simp
    rw[a3] at a1 a2;obtain ⟨b1,b2⟩:=hb2.F p1.mv.cap hjn hkm;have w1:IntKind.i64.wrap (F2 j k - r2)=F2 j k - r2:=yO (by omega) (by omega);have w2:IntKind.i64.wrap (upd2 F2 j k (F2 j k - r2) i k+r2)=upd2 F2 j k (F2 j k - r2) i k+r2:=yO (by omega) (by omega);refine ⟨r2,s2,rt2,upd2 (upd2 F2 j k (F2 j k - r2)) i k (upd2 F2 j k (F2 j k - r2) i k+r2),⟨p1.nn,yHK p1.le hm2m,fun c h=>p1.sub c (hI.sub c h),hvia,fun c h=> ?_,fun h=>absurd h hr2,fun h=>absurd h hr2,fun h=>absurd h hr2⟩,?_⟩
    ·have hck:c≠k:=fun e1=>by rw[e1,hs0] at h;cases h
     obtain ⟨c1,c2⟩:=p1.keep c (hI.sub c h);refine ⟨c1,fun j'=> ?_⟩;unfold upd2;rw[if_neg (fun q=>hck q.2),if_neg (fun q=>hck q.2)];exact c2 j'
    ·intro D S0 S τ ω hD hm hg hf ⟨h20,h10,h63,h64⟩;have n1:¬e.d1=D:=by omega
     have n0:¬e.d0=D:=by omega
     have nM:¬e.dM=D:=by omega
     have n01:¬e.d0=e.d1:=by omega
     have n10:¬e.d1=e.d0:=by omega
     have hk1:k+1<=e.m:=hkm;refine zC c110_l0.eq_1 ?_;simp[h20,h10,h63,h64,hjn,hf.h5,hf.h1,hf.h6,n1,n0,hm.c17,hm.oflow,hm.orow j hjn,hkm,hz,hwr,hm.c21,hm2];refine sQ (f:=110) (cap:=e.caps) (p2 (D+1) (by omega)) (by simp) (by simp[hcap]) (fun m hmm=> ?_) hdl ?_
     ·have:=call S hD hm m hmm;exact ⟨this.1,this.2.1,this.2.2 _ _⟩
     rw[lZ (hdD hD)];obtain ⟨mA,gA⟩:=PE.upds_mem (seen':=s2) (right':=rt2) (F':=F2) ho hm;generalize upds S (e.dl s2 rt2 F2)=S2 at mA gA;obtain ⟨mB',gB⟩:=mA.setRow ho hjn k (F2 j k - r2);obtain ⟨mC,gC⟩:=mB'.setRow ho hi k (upd2 F2 j k (F2 j k - r2) i k+r2);have hrow:=mB'.orow i hi;have hfl:=mB'.oflow;have h17:=mB'.c17;generalize hS3:updS S2 e.d0 j (1,.cells (mI e.m (upd1 (F2 j) k (F2 j k - r2))))=S3 at mB' gB mC gC hrow hfl h17;simp[h20,h10,h63,h64,hr2p,hf.h5,hf.h0,n1,n0,mA.c17,mA.oflow,mA.orow j hjn,hkm,hjn,hi,hk1,w1,tN hkm,hS3,hrow,hfl,h17,w2];intro d j' hd;exact (PE.upds_eq mC ((hg.trans gA).trans (gB.trans gC)) d j').symm
theorem bT (hin:∀k seen1,k < e.m->may i k=true->seen1 k=false->right k=0->PInv e may i k seen0 right F seen1->
   (∀seen2,PInv e may i (k+1) seen0 right F seen2->PGo e may i most tp seen0 right F seen2 [.lp c110_l1,.blk 0,.c uX] (fun τ=>τ 20= .int .i64 (k+1:Nat)))->
   PGo e may i most tp seen0 right F (updB seen1 k true) [.lp c110_l0,.blk 2,.blk 1,.c qJ,.lp c110_l1,.blk 0,.c uX] (fun τ=>τ 20= .int .i64 k/\τ 10= .int .i64 k/\τ 63= .int .i64 e.n/\τ 64= .int .i64 0)):
  ∀(kk k:Nat) (seen1:Nat->Bool),k+kk=e.m->PInv e may i k seen0 right F seen1->PGo e may i most tp seen0 right F seen1 [.lp c110_l1,.blk 0,.c uX] (fun τ=>τ 20= .int .i64 k):=by
 intro kk
 induction kk with
 | zero=>
  intro k seen1 hk hI;obtain rfl:k=e.m:=by omega
  refine ⟨0,seen1,right,F,⟨yGV _,by omega,hI.sub,Mvd.refl0 hc i,fun c _=>⟨rfl,fun _=>rfl⟩,fun _=>⟨rfl,rfl⟩,fun _ c hcm hm=>hI.nb c hcm hm,fun _ c hcm h1 h2=>hI.cl c hcm h1 h2⟩,?_⟩;intro D S0 S τ ω hD hm hg hf h20;refine zC c110_l1.eq_1 ?_;simp[h20,hf.h19,uX];intro d j hd;exact (PE.upds_eq hm hg d j).symm
 | succ kk ih=>
  intro k seen1 hk hI;have hkm:k < e.m:=by omega
  have hm10:=ho.hm;have hwr:IntKind.i64.wrap ((k:Int)+1)=((k+1:Nat):Int):=zF hkm (by unfold maxLen;omega);by_cases hskip:may i k=false\/seen1 k=true
  ·obtain ⟨r,seen',right',F',q1,q2⟩:=ih (k+1) seen1 (by omega) ⟨hI.sub,fun c hck hm=>by
    by_cases e1:c=k
    ·subst e1;rcases hskip with h | h
     ·rw[h] at hm;cases hm
     ·exact h
    ·exact hI.nb c (by omega) hm,hI.cl⟩
   refine ⟨r,seen',right',F',q1,fun D S0 S τ ω hD hm hg hf h20=> ?_⟩;have n1:¬e.d1=D:=by omega
   refine zC c110_l1.eq_1 ?_;by_cases hmk:may i k=false
   ·simp[h20,hf.h19,hf.h18,hkm,hmk,hwr,qJ];refine q2 D S0 S _ ω hD hm hg ?_ ?_
    ·repeat (first | exact hf | refine PFr.upd ?_ _ _)
    ·simp
   ·have hs:=hskip.resolve_left hmk;have hmk':may i k=true:=by simpa using hmk
    have hk1:k+1<=e.m:=hkm;simp[h20,hf.h19,hf.h18,hf.h3,hkm,hmk',hwr,n1,hm.c20,hm.oseen,hs,hk1,qJ];refine q2 D S0 S _ ω hD hm hg ?_ ?_
    ·repeat (first | exact hf | refine PFr.upd ?_ _ _)
    ·simp
  ·have hmk:may i k=true:=by
    cases h:may i k
    ·exact absurd (.inl h) hskip
    ·rfl
   have hs:seen1 k=false:=by
    cases h:seen1 k
    ·rfl
    ·exact absurd (.inr h) hskip
   obtain ⟨r1,r2⟩:=hb.right hc hkm;by_cases hpos:0 < right k
   ·generalize hr:(if right k < most then right k else most)=r;have hr0:0 < r:=by rw[<-hr];split<;>omega
    have hrr:r<=right k:=by rw[<-hr];split<;>omega
    have hrm:r<=most:=by rw[<-hr];split<;>omega
    refine ⟨r,updB seen1 k true,upd1 right k (right k - r),upd2 F i k (F i k+r),⟨by omega,hrm,fun c hcs=> ?_,Mvd.take hc hi hkm hmk hr0 hrr,fun c hcs=> ?_,fun h=>by omega,fun h=>by omega,fun h=>by omega⟩,?_⟩
    ·unfold updB;split
     ·rfl
     ·exact hI.sub c hcs
    ·have hne:c≠k:=fun e1=>by have:=hI.sub c hcs;rw[e1,hs] at this;cases this
     exact ⟨by unfold upd1;rw[if_neg hne],fun j=>by unfold upd2;rw[if_neg (fun q=>hne q.2)]⟩
    ·intro D S0 S τ ω hD hm hg hf h20;exact zBE ho hD hc hb hi hkm hmk hs hr hr0 hm hg hf.h0 hf.h1 hf.h2 hf.h3 hf.h4 hf.h5 hf.h6 hf.h18 hf.h19 h20
   ·have hr0:right k=0:=by omega
    obtain ⟨r,seen',right',F',q1,q2⟩:=hin k seen1 hkm hmk hs hr0 hI (fun seen2 hI2=>ih (k+1) seen2 (by omega) hI2);refine ⟨r,seen',right',F',q1,fun D S0 S τ ω hD hm hg hf h20=> ?_⟩;have h01:=ho.h01;have n1:¬e.d1=D:=by omega
    have hk1:k+1<=e.m:=hkm;have hrm:(if right k < most then right k else most)=0:=by rw[if_pos (by omega)];exact hr0
    refine zC c110_l1.eq_1 ?_;obtain ⟨m1,g1⟩:=hm.setSeen ho (updB seen1 k true);simp[h20,hf.h0,hf.h1,hf.h19,hf.h18,hf.h3,hf.h4,hf.h5,hkm,hmk,hwr,n1,hm.c20,hm.oseen,hs,hk1,uE hkm,lT,hm.c12,hm.oright,hm.c17,hrm];refine q2 D S0 _ _ ω hD m1 (hg.trans g1) ?_ ?_
    ·repeat (first | exact hf | refine PFr.upd ?_ _ _)
    ·simp[h20]
end
include ho in
theorem push:∀(u:Nat) (seen0:Nat->Bool) (right:Nat->Int) (F:Nat->Nat->Int) (i:Nat) (most:Int),yQ seen0 e.m<=u->Cap e.n e.m may right F->Bnd e.n e.m right F->i < e.n->0 < most->
  ∃r s' rt' F',Psh e.n e.m may i most seen0 right F r s' rt' F'/\∀D,e.d1 < D->Go.Ab.Loc Pg Gl D 110 ([.int .i64 i,.int .i64 most]++e.caps) (e.fixed++e.dl seen0 right F) (.int .i64 r) (e.dl s' rt' F'):=by
 intro u
 induction u using Nat.strongRecOn with
 | ind u ihu=>
  intro seen0 right F i most hu hc hb hi hmost;obtain ⟨tp,htp⟩:=ho.hrow i hi;obtain ⟨r,s',rt',F',q1,q2⟩:=bT (tp:=tp.dem) ho hc hb hi hmost (fun k seen1 hkm hmk hs hr0 hI hcont=>by
   have hs0:seen0 k=false:=by
    cases h:seen0 k
    ·rfl
    ·rw[hI.sub k h] at hs;cases hs
   refine bU ho hc hb hi hmost (u:=u) (fun seen' i' most' h1 h2 h3=>ihu _ h1 seen' right F i' most' (yGU _) hc hb h2 h3) hu hkm hmk hs0 hr0 hcont e.n 0 (updB seen1 k true) (yHB _) ⟨?_,?_,?_,?_,?_⟩
   ·intro c h;unfold updB;split
    ·rfl
    ·exact hI.sub c h
   ·intro c h1 h2;unfold updB;split
    ·rfl
    ·exact hI.nb c h1 h2
   ·unfold updB;rw[if_pos rfl]
   ·intro c hcm hck h1 h2;unfold updB at h1;rw[if_neg hck] at h1;obtain ⟨a1,a2⟩:=hI.cl c hcm h1 h2;exact ⟨a1,fun j hj hne=>Nb.mono (a2 j hj hne) fun c' h=>by unfold updB;split;rfl;exact h⟩
   ·intro j' hj';omega) e.m 0 seen0 (yHB _) ⟨fun _ h=>h,fun c h=>by omega,fun c _ h1 h2=>by rw[h1] at h2;cases h2⟩
  refine ⟨r,s',rt',F',q1,fun D hD=> ?_⟩;have h01:=ho.h01;have hM0:=ho.hM0;have hlen:=ho.hlen;refine y4 zR tok rfl rfl fun S hS=> ?_;have hm:=PE.mem_of fun x hx=>(hS x hx).2;have n1:¬e.d1=D:=by omega
  have nM:¬e.dM=D:=by omega
  have hge:e.csM[i]'(by rw[hlen];exact hi)= .sl 1 (mB e.m (may i)) tp:=by
   have:=htp;rw[List.getElem?_eq_getElem (by rw[hlen];exact hi)] at this;exact Option.some.inj this
  unfold c110;simp[PE.caps,n1,nM,hm.c5,hm.may,hi,hlen,hge,AV.dem];refine q2 D S S _ _ hD hm (PE.Chg.refl _ _) ⟨?_,?_,?_,?_,?_,?_,?_,?_,?_⟩ ?_;all_goals simp
end
end Go.Ab.Tab
/- bisim.total,bisim.matched. -/
namespace Go.Ab.Tab
open Go Go.Ab
section
variable {C:zL} {Q:St->Prop} {k:List AI} {n D:Nat} {τ:Nat->AV} {ω:Nat->Ent} {S:Nat->Nat->Ent} {l:List AOper} {d:Nat} {ps:List (Nat×Nat)} {es:List Eff}
theorem xP {z bytes:Nat} {ea zero x y kx ky} {m:Int} (hd:d < n) (hx:(stF n D τ ω S).ev x= .int kx m) (hy:(stF n D τ ω S).ev y= .int ky m)
  (h:0<=m/\m<=zD/\m*bytes<=zD/\zero.length=z/\0 < z)
  (hk:Rd C .pl Q (.dr ps l (es++[{val:= .own D d ((ω d).1+1) 0 m.toNat z ea,ups:=[(D,d,((ω d).1+1,.cells (yGW m.toNat zero).flatten))]}])::k) (stF n D (upd τ d (.own D d ((ω d).1+1) 0 m.toNat z ea)) (upd ω d ((ω d).1+1,.cells (yGW m.toNat zero).flatten)) S)):
  Rd C .pl Q (.dr ps (⟨some d,.mkslice z bytes ea zero x y,none⟩::l) es::k) (stF n D τ ω S):=by
 refine lO (e:={val:= .own D d ((ω d).1+1) 0 m.toNat z ea,ups:=[(D,d,((ω d).1+1,.cells (yGW m.toNat zero).flatten))]}) rfl ?_ ?_
 ·simp only[opf,uJ,if_pos hd,nW,hx,hy];rw[if_pos ⟨h.1,trivial,h.2.1,h.2.2.1,h.2.2.2.1,h.2.2.2.2⟩]
 ·simpa[zV,wQ,z5] using hk
theorem fJ {z} (hd:d < n)
  (hk:Rd C .pl Q (.dr ps l (es++[{val:= .ptr D d ((ω d).1+1) 0,ups:=[(D,d,((ω d).1+1,.cells (z.map AV.var1)))]}])::k) (stF n D (upd τ d (.ptr D d ((ω d).1+1) 0)) (upd ω d ((ω d).1+1,.cells (z.map AV.var1))) S)):
  Rd C .pl Q (.dr ps (⟨some d,.alloc z,none⟩::l) es::k) (stF n D τ ω S):=by
 refine lO (e:={val:= .ptr D d ((ω d).1+1) 0,ups:=[(D,d,((ω d).1+1,.cells (z.map AV.var1)))]}) rfl ?_ ?_
 ·simp only[opf,uJ,if_pos hd,nW]
 ·simpa[zV,wQ,z5] using hk
theorem nZ {z bytes:Nat} {ea zero x y kx ky} {m:Int} (dd i:Nat) (hdd:dd < D) (hx:(stF n D τ ω S).ev x= .int kx m) (hy:(stF n D τ ω S).ev y= .int ky m)
  (h:0<=m/\m<=zD/\m*bytes<=zD/\zero.length=z/\0 < z)
  (hk:Rd C .pl Q (.dr ps l (es++[{val:= .own dd i ((S dd i).1+1) 0 m.toNat z ea,ups:=[(dd,i,((S dd i).1+1,.cells (yGW m.toNat zero).flatten))]}])::k) (stF n D (upd τ d (.own dd i ((S dd i).1+1) 0 m.toNat z ea)) ω (updS S dd i ((S dd i).1+1,.cells (yGW m.toNat zero).flatten)))):
  Rd C .pl Q (.dr ps (⟨some d,.mkslice z bytes ea zero x y,none⟩::l) es::k) (stF n D τ ω S):=by
 have hne:¬dd=D:=by omega
 refine zER (e:={val:= .own dd i ((S dd i).1+1) 0 m.toNat z ea,ups:=[(dd,i,((S dd i).1+1,.cells (yGW m.toNat zero).flatten))]}) dd i rfl ?_ ?_
 ·simp only[opfP,xV hdd,hx,hy];rw[if_pos ⟨h.1,trivial,h.2.1,h.2.2.1,h.2.2.2.1,h.2.2.2.2⟩]
 ·simpa[zV,wQ,z5,hne] using hk
end
theorem zAH {f:Nat->Int} (h:∀i,0<=f i):∀{m n:Nat},m<=n->sumN m f<=sumN n f:=by
 intro m n hmn
 induction n with
 | zero=>
      obtain rfl:m=0:=by omega
      exact yGV _
 | succ n ih=>
  by_cases e:m=n+1
  ·subst e;exact yGV _
  ·have:=ih (by omega)
   show _<=sumN n f+f n
   have:=h n;omega
theorem iI {f:Nat->Int} {m n:Nat} (hn:∀i,i < n->0<=f i) (hmn:m<=n):sumN m f<=sumN n f:=by
 have e1:sumN m f=sumN m (fun i=>if i < n then f i else 0):=yD fun i hi=>by rw[if_pos (by omega)]
 have e2:sumN n f=sumN n (fun i=>if i < n then f i else 0):=yD fun i hi=>by rw[if_pos hi]
 rw[e1,e2];exact zAH (fun i=>by split;exact hn i (by assumption);exact yGV _) hmn
theorem l89 (D:Nat) (n:Nat) (hn1:n<=1000) (f:Nat->Int) (hf:∀i,i < n->0<=f i) (hs:sumN n f<=2199023255552) (S) (x:AV) (hx:(∃t,x= .sl 1 (mI n f) t)\/∃d s g,d < D/\x= .own d s g 0 n 1 false/\S d s=(g,.cells (mI n f))):
  ∀(j i:Nat) (τ ω),i+j=n->τ 6=x->τ 7= .int .i64 n->τ 8= .int .i64 i->τ 3= .int .i64 (sumN i f)->
  Rd (Loc Pg Gl) .im (RetM [.tmp 2] (.int .i64 (sumN n f)) D S []) [.lp c89_l0,.blk 0,.c zDD] (stF 17 D τ ω S):=by
 intro j
 induction j with
 | zero=>
  intro i τ ω hi h6 h7 h8 h3;refine zC c89_l0.eq_1 ?_;obtain rfl:i=n:=by omega
  simp[h6,h7,h8,h3,zDD,upds]
 | succ j ih=>
  intro i τ ω hi h6 h7 h8 h3;have hlt:i < n:=by omega
  have hwr:IntKind.i64.wrap ((i:Int)+1)=((i+1:Nat):Int):=zF hlt (by unfold maxLen;omega);have e1:sumN (i+1) f=sumN i f+f i:=rfl;have h0:=hf i hlt;have h1:sumN (i+1) f<=sumN n f:=iI hf hlt;have h2:0<=sumN i f:=xG fun k hk=>hf k (by omega);have hw:IntKind.i64.wrap (sumN i f+f i)=sumN (i+1) f:=by rw[<-e1];refine yO ?_ ?_<;>(have:=e1;omega)
  refine zC c89_l0.eq_1 ?_;rcases hx with ⟨t,rfl⟩ | ⟨d,s,g,hd,rfl,hS⟩
  ·simp[h6,h7,h8,h3,hlt,hw,hwr];refine ih (i+1) _ _ (by omega) ?_ ?_ ?_ ?_;all_goals simp[h6,h7]
  ·have hne:¬d=D:=by omega
   simp[h6,h7,h8,h3,hlt,hw,hwr,hne,hS];refine ih (i+1) _ _ (by omega) ?_ ?_ ?_ ?_;all_goals simp[h6,h7]
theorem zIG (D:Nat) (n:Nat) (hn1:n<=1000) (f:Nat->Int) (hf:∀i,i < n->0<=f i) (hs:sumN n f<=2199023255552):Go.Ab.Loc Pg Gl D 89 [.sl 1 (mI n f) .no] [] (.int .i64 (sumN n f)) []:=by
 refine y4 zR tok rfl rfl fun S hS=> ?_;unfold c89;simp;refine l89 D n hn1 f hf hs S (.sl 1 (mI n f) .no) (.inl ⟨_,rfl⟩) n 0 _ _ (yHB _) ?_ ?_ ?_ ?_;all_goals simp[sumN]
theorem zAL (D:Nat) (n:Nat) (hn1:n<=1000) (f:Nat->Int) (hf:∀i,i < n->0<=f i) (hs:sumN n f<=2199023255552) (d s g:Nat) (hd:d < D):Go.Ab.Loc Pg Gl D 89 [.own d s g 0 n 1 false] [(d,s,(g,.cells (mI n f)))] (.int .i64 (sumN n f)) []:=by
 refine y4 zR tok rfl rfl fun S hS=> ?_;have h1:=(hS (d,s,(g,.cells (mI n f))) (by simp)).2;unfold c89;simp;refine l89 D n hn1 f hf hs S (.own d s g 0 n 1 false) (.inr ⟨d,s,g,hd,rfl,h1⟩) n 0 _ _ (yHB _) ?_ ?_ ?_ ?_;all_goals simp[sumN]
end Go.Ab.Tab
/- bisim.matched: its loops. -/
namespace Go.Ab.Tab
open Go Go.Ab
theorem zBC (g:Nat->AV) {m k:Nat} (hk:k < m) (v:AV):List.take k ((yGX m).map g)++v::List.drop (k+1) ((yGX m).map g)=(yGX m).map fun j=>if j=k then v else g j:=by
 refine yHR fun j=> ?_;rw[yHS];simp only[yHT,yHU,yHV,yHW (Nat.le_of_lt hk)];by_cases h1:j < k
 ·rw[if_pos h1,yHX h1];simp[Nat.ne_of_lt h1,Nat.lt_trans h1 hk]
 ·rw[if_neg h1];by_cases h2:j=k
  ·subst h2;simp[hk]
  ·obtain ⟨t,rfl⟩:∃t,j=k+1+t:=⟨j - (k+1),by omega⟩;rw[show k+1+t - k=t+1 by omega,yHY,yHZ];rw[yHF,yHF];by_cases h3:k+1+t < m
   ·simp[h3,show k+1+t≠k by omega]
   ·rw[yIA (by simp;omega)];rfl
theorem cC {m:Nat} {f g:Nat->Int} (h:∀k,k < m->f k=g k):mI m f=mI m g:=by
 unfold mI;refine yHN fun k hk=> ?_;rw[h k (yGY.1 hk)]
theorem zTM (m:Nat):(yGW m [AV.int .i64 0]).flatten=mI m (fun _=>0):=by
 unfold mI
 induction m with
 | zero=>rfl
 | succ m ih=>rw[yHO,yHP,ih,yIC];simp[Function.comp_def]
theorem zTN (m:Nat):(yGW m [AV.bool false]).flatten=mB m (fun _=>false):=by
 unfold mB
 induction m with
 | zero=>rfl
 | succ m ih=>rw[yHO,yHP,ih,yIC];simp[Function.comp_def]
theorem fU (m:Nat):yGW m (AV.int .i64 0)=mI m (fun _=>0):=by
 rw[<-zTM];simp
theorem l6 (m:Nat):yGW m (AV.bool false)=mB m (fun _=>false):=by
 rw[<-zTN];simp
def tZ (n D m i:Nat):List AV:=(yGX n).map fun j=>if j < i then .own D j 1 0 m 1 false else .sl 1 [] .nil
theorem iL {n D m i:Nat} (hi:i < n):List.take i (tZ n D m i)++ .own D i 1 0 m 1 false::List.drop (i+1) (tZ n D m i)=tZ n D m (i+1):=by
 unfold tZ;rw[zBC _ hi];refine yHN fun j _=> ?_;by_cases h1:j=i
 ·subst h1;simp
 ·rw[if_neg h1];by_cases h2:j < i
  ·rw[if_pos h2,if_pos (by omega)]
  ·rw[if_neg h2,if_neg (by omega)]
theorem iM (n D m:Nat):tZ n D m n=uL n D m:=by
 unfold tZ uL;refine yHN fun j hj=> ?_;rw[if_pos (yGY.1 hj)]
theorem zKW (n D m:Nat):(yGW n [AV.sl 1 [] .nil]).flatten=tZ n D m 0:=by
 have e1:tZ n D m 0=yGW n (AV.sl 1 [] .nil):=by
  unfold tZ;refine yID.2 ⟨by simp,fun b hb=> ?_⟩;obtain ⟨j,_,rfl⟩:=yGT.1 hb;simp
 rw[e1]
 induction n with
 | zero=>rfl
 | succ n ih=>rw[yHO,yHP,ih (by unfold tZ;refine yID.2 ⟨by simp,fun b hb=> ?_⟩;obtain ⟨j,_,rfl⟩:=yGT.1 hb;simp)];rfl
theorem iN (n D m:Nat):yGW n (AV.sl 1 [] .nil)=tZ n D m 0:=by
 rw[<-zKW];simp
@[simp] theorem zTK (n D m i):(tZ n D m i).length=n:=by simp[tZ]
structure ME where
 n:Nat
 m:Nat
 D:Nat
 dM:Nat
 sM:Nat
 gM:Nat
 csM:List AV
 a:Nat->Int
 b:Nat->Int
 times:Int
 by_:Int
 S0:Nat->Nat->Ent
structure ME.Fr (e:ME) (τ:Nat->AV):Prop where
 h1:τ 1= .sl 1 (mI e.n e.a) .no
 h2:τ 2= .sl 1 (mI e.m e.b) .no
 h3:τ 3= .int .i64 e.times
 h4:τ 4= .int .i64 e.by_
 h5:τ 5= .ptr (e.D+1) 5 1 0
 h11:τ 11= .own (e.D+1) 25 1 0 e.n 1 false
 h12:τ 12= .ptr (e.D+1) 12 1 0
theorem ME.Fr.upd {e:ME} {τ:Nat->AV} (h:e.Fr τ) (d:Nat) (v:AV) (hd:¬(d=1\/d=2\/d=3\/d=4\/d=5\/d=11\/d=12):=by decide):e.Fr (upd τ d v):=by
 refine ⟨?_,?_,?_,?_,?_,?_,?_⟩<;>rw[vE,if_neg (by omega)]
 ·exact h.h1
 ·exact h.h2
 ·exact h.h3
 ·exact h.h4
 ·exact h.h5
 ·exact h.h11
 ·exact h.h12
structure ME.Ob (e:ME) (left right:Nat->Int) (ω:Nat->Ent):Prop where
 o5:ω 5=(1,.cells [.own e.dM e.sM e.gM 0 e.n 1 false])
 o25:ω 25=(1,.cells (mI e.n left))
 o28:ω 28=(1,.cells (mI e.m right))
 o12:ω 12=(1,.cells [.own (e.D+1) 28 1 0 e.m 1 false])
theorem ME.Ob.setL {e:ME} {left right ω} (h:e.Ob left right ω) (left'):e.Ob left' right (upd ω 25 (1,.cells (mI e.n left'))):=by
 refine ⟨?_,?_,?_,?_⟩<;>rw[vE]
 ·exact h.o5
 ·rfl
 ·exact h.o28
 ·exact h.o12
theorem ME.Ob.setR {e:ME} {left right ω} (h:e.Ob left right ω) (right'):e.Ob left right' (upd ω 28 (1,.cells (mI e.m right'))):=by
 refine ⟨?_,?_,?_,?_⟩<;>rw[vE]
 ·exact h.o5
 ·exact h.o25
 ·rfl
 ·exact h.o12
structure ME.Ok (e:ME) (may:Nat->Nat->Bool):Prop where
 hM:e.dM < e.D
 hn:e.n<=1000
 hm:e.m<=1000
 hlen:e.csM.length=e.n
 hrow:∀i,i < e.n->∃t,e.csM[i]?=some (.sl 1 (mB e.m (may i)) t)
 ha:∀i,i < e.n->0<=e.a i*e.times
 hb:∀k,k < e.m->0<=e.b k*e.by_
 hsa:sumN e.n (fun i=>e.a i*e.times)<=2199023255552
 hsb:sumN e.m (fun k=>e.b k*e.by_)<=2199023255552
theorem m0 {e:ME} {may} (ho:e.Ok may) {Q:St->Prop} {S right} (hk:∀τ ω,e.Fr τ->e.Ob (fun i=>e.a i*e.times) right ω->(∀d,d≠25->d=17\/d=20\/d=21\/d=64\/d=89->ω d=(0,.dead))->Rd (Loc Pg Gl) .pl Q [.c cW] (stF 109 (e.D+1) τ ω S)):
  ∀(j i:Nat) (τ ω) (left:Nat->Int),i+j=e.n->e.Fr τ->e.Ob left right ω->(∀d,d≠25->d=17\/d=20\/d=21\/d=64\/d=89->ω d=(0,.dead))->(∀j',j' < i->left j'=e.a j'*e.times)->τ 29= .sl 1 (mI e.n e.a) .no->τ 30= .int .i64 e.n->τ 31= .int .i64 i->
  Rd (Loc Pg Gl) .pl Q [.lp c88_l0,.blk 0,.c cW] (stF 109 (e.D+1) τ ω S):=by
 intro j
 induction j with
 | zero=>
  intro i τ ω left hi hf hO hw hl h29 h30 h31;obtain rfl:i=e.n:=by omega
  refine zC c88_l0.eq_1 ?_;simp[h29,h30,h31];refine hk _ ω ?_ ?_ hw
  ·repeat (first | exact hf | refine ME.Fr.upd ?_ _ _)
  ·have e1:mI e.n left=mI e.n (fun i=>e.a i*e.times):=cC hl;exact ⟨hO.o5,by rw[hO.o25,e1],hO.o28,hO.o12⟩
 | succ j ih=>
  intro i τ ω left hi hf hO hw hl h29 h30 h31;have hlt:i < e.n:=by omega
  have hn10:=ho.hn;have hwr:IntKind.i64.wrap ((i:Int)+1)=((i+1:Nat):Int):=zF hlt (by unfold maxLen;omega);have hi1:i+1<=e.n:=hlt;have a1:=ho.ha i hlt;have a2:e.a i*e.times<=sumN e.n (fun i=>e.a i*e.times):=vX (f:=fun i=>e.a i*e.times) ho.ha hlt;have a3:=ho.hsa;have hwm:IntKind.i64.wrap (e.a i*e.times)=e.a i*e.times:=yO (by omega) (by omega);refine zC c88_l0.eq_1 ?_;simp[h29,h30,h31,hlt,hf.h11,hf.h3,hO.o25,hwm,hi1,tN hlt,hwr];refine ih (i+1) _ _ (upd1 left i (e.a i*e.times)) (by omega) ?_ (hO.setL _) (fun d h1 h2=>by rw[vE,if_neg h1];exact hw d h1 h2) (fun j' hj'=> ?_) ?_ ?_ ?_
  ·repeat (first | exact hf | refine ME.Fr.upd ?_ _ _)
  ·unfold upd1;by_cases h:j'=i
   ·rw[if_pos h,h]
   ·rw[if_neg h];exact hl j' (by omega)
  all_goals simp[h29,h30]
def W0 (ω:Nat->Ent):Prop:=ω 17=(0,.dead)/\ω 64=(0,.dead)
theorem m1 {e:ME} {may} (ho:e.Ok may) {Q:St->Prop} {S left} (hk:∀τ ω,e.Fr τ->e.Ob left (fun k=>e.b k*e.by_) ω->W0 ω->Rd (Loc Pg Gl) .pl Q [.c cX] (stF 109 (e.D+1) τ ω S)):
  ∀(j i:Nat) (τ ω) (right:Nat->Int),i+j=e.m->e.Fr τ->e.Ob left right ω->W0 ω->(∀j',j' < i->right j'=e.b j'*e.by_)->τ 43= .sl 1 (mI e.m e.b) .no->τ 44= .int .i64 e.m->τ 45= .int .i64 i->
  Rd (Loc Pg Gl) .pl Q [.lp c88_l1,.blk 2,.c cX] (stF 109 (e.D+1) τ ω S):=by
 intro j
 induction j with
 | zero=>
  intro i τ ω right hi hf hO hw hl h29 h30 h31;obtain rfl:i=e.m:=by omega
  refine zC c88_l1.eq_1 ?_;simp[h29,h30,h31];refine hk _ ω ?_ ?_ hw
  ·repeat (first | exact hf | refine ME.Fr.upd ?_ _ _)
  ·have e1:mI e.m right=mI e.m (fun k=>e.b k*e.by_):=cC hl;exact ⟨hO.o5,hO.o25,by rw[hO.o28,e1],hO.o12⟩
 | succ j ih=>
  intro i τ ω right hi hf hO hw hl h29 h30 h31;have hlt:i < e.m:=by omega
  have hn10:=ho.hm;have hwr:IntKind.i64.wrap ((i:Int)+1)=((i+1:Nat):Int):=zF hlt (by unfold maxLen;omega);have hi1:i+1<=e.m:=hlt;have a1:=ho.hb i hlt;have a2:e.b i*e.by_<=sumN e.m (fun i=>e.b i*e.by_):=vX (f:=fun i=>e.b i*e.by_) ho.hb hlt;have a3:=ho.hsb;have hwm:IntKind.i64.wrap (e.b i*e.by_)=e.b i*e.by_:=yO (by omega) (by omega);refine zC c88_l1.eq_1 ?_;simp[h29,h30,h31,hlt,hf.h12,hf.h4,hO.o28,hO.o12,hwm,hi1,tN hlt,hwr];refine ih (i+1) _ _ (upd1 right i (e.b i*e.by_)) (by omega) ?_ (hO.setR _) ⟨hw.1,hw.2⟩ (fun j' hj'=> ?_) ?_ ?_ ?_
  ·repeat (first | exact hf | refine ME.Fr.upd ?_ _ _)
  ·unfold upd1;by_cases h:j'=i
   ·rw[if_pos h,h]
   ·rw[if_neg h];exact hl j' (by omega)
  all_goals simp[h29,h30]
structure ME.Rw (e:ME) (F:Nat->Nat->Int) (i:Nat) (S:Nat->Nat->Ent):Prop where
 rows:∀j,j < i->S e.D j=(1,.cells (mI e.m (F j)))
 rest:∀j,i<=j->S e.D j=(0,.dead)
 low:∀d j,d < e.D->S d j=e.S0 d j
 mayS:e.S0 e.dM e.sM=(e.gM,.cells e.csM)
structure ME.Ob2 (e:ME) (left right:Nat->Int) (cs:List AV) (ω:Nat->Ent):Prop where
 ob:e.Ob left right ω
 o17:ω 17=(1,.cells [.own (e.D+1) 64 1 0 e.n 1 false])
 o64:ω 64=(1,.cells cs)
theorem m2 {e:ME} {may} (ho:e.Ok may) {Q:St->Prop} {left right} (hk:∀τ ω S,e.Fr τ->τ 17= .ptr (e.D+1) 17 1 0->e.Ob2 left right (uL e.n e.D e.m) ω->e.Rw (fun _ _=>0) e.n S->Rd (Loc Pg Gl) .pl Q [.c cY] (stF 109 (e.D+1) τ ω S)):
  ∀(j i:Nat) (τ ω S),i+j=e.n->e.Fr τ->τ 17= .ptr (e.D+1) 17 1 0->e.Ob2 left right (tZ e.n e.D e.m i) ω->e.Rw (fun _ _=>0) i S->τ 66= .int .i64 e.n->τ 67= .int .i64 i->
  Rd (Loc Pg Gl) .pl Q [.lp c88_l2,.blk 4,.c cY] (stF 109 (e.D+1) τ ω S):=by
 intro j
 induction j with
 | zero=>
  intro i τ ω S hi hf h17 hO hR h66 h67;obtain rfl:i=e.n:=by omega
  refine zC c88_l2.eq_1 ?_;simp[h66,h67];rw[iM] at hO;refine hk _ ω S ?_ ?_ hO hR
  ·repeat (first | exact hf | refine ME.Fr.upd ?_ _ _)
  ·simp[h17]
 | succ j ih=>
  intro i τ ω S hi hf h17 hO hR h66 h67;have hlt:i < e.n:=by omega
  have hn10:=ho.hn;have hm10:=ho.hm;have hwr:IntKind.i64.wrap ((i:Int)+1)=((i+1:Nat):Int):=zF hlt (by unfold maxLen;omega);have hi1:i+1<=e.n:=hlt;refine zC c88_l2.eq_1 ?_;simp[h66,h67,hlt,hf.h2,h17,hO.o17];refine nZ (m:=e.m) (kx:= .i64) (ky:= .i64) e.D i (by omega) (by simp) (by simp) ⟨by omega,by unfold zD;omega,by unfold zD;omega,rfl,by decide⟩ ?_;simp[h66,h67,hlt,hf.h2,h17,hO.o17,hO.o64,hR.rest i (yGU _),iL hlt,hwr,hi1,fU];refine ih (i+1) _ _ _ (by omega) ?_ ?_ ⟨⟨hO.ob.o5,hO.ob.o25,hO.ob.o28,hO.ob.o12⟩,hO.o17,by simp⟩ ⟨fun j' hj'=> ?_,fun j' hj'=> ?_,fun d j' hd=> ?_,hR.mayS⟩ ?_ ?_
  ·repeat (first | exact hf | refine ME.Fr.upd ?_ _ _)
  ·simp[h17]
  ·unfold updS;by_cases h:j'=i
   ·subst h;rw[if_pos ⟨rfl,rfl⟩]
   ·rw[if_neg (fun q=>h q.2)];exact hR.rows j' (by omega)
  ·unfold updS;rw[if_neg (by omega)];exact hR.rest j' (by omega)
  ·unfold updS;rw[if_neg (by omega)];exact hR.low d j' hd
  all_goals simp[h66]
end Go.Ab.Tab
/- bisim.matched: the main loop; what it returns. -/
namespace Go.Ab.Tab
open Go Go.Ab
structure ME.Lp (e:ME) (may:Nat->Nat->Bool) (i:Nat) (left right:Nat->Int) (F:Nat->Nat->Int) (τ:Nat->AV) (ω:Nat->Ent) (S:Nat->Nat->Ent):Prop where
 fr:e.Fr τ
 h17:τ 17= .ptr (e.D+1) 17 1 0
 h78:τ 78= .int .i64 e.n
 h79:τ 79= .int .i64 i
 ob:e.Ob2 left right (uL e.n e.D e.m) ω
 rw_:e.Rw F e.n S
 flo:Flo e.n e.m may (fun i=>e.a i*e.times) (fun k=>e.b k*e.by_) left right F
 done:∀j,j < i->left j=0
theorem _root_.Go.Ab.Flo.bnd {n m may a b left right F} (h:Flo n m may a b left right F) (hb:∀k,k < m->0<=b k) (hs:sumN m b<=2199023255552):Bnd n m right F:=fun k hk=>by
 have h1:=h.cols k hk;have h2:b k<=sumN m b:=vX hb hk;omega
abbrev MQ (e:ME) (bq:Bool):St->Prop:=RetP [.tmp 10] (.slq bq) e.D e.S0 []
theorem zEZ {e:ME} {bq:Bool} {τ:Nat->AV} {ω S} (h1:(τ 10).wk=some (.slq bq)) (h2:∀d j,d < e.D->S d j=e.S0 d j):MQ e bq (stF 109 (e.D+1) τ ω S):=by
 refine ⟨⟨τ 10,?_,h1⟩,fun d j hd=> ?_⟩
 ·simp[uF,pC,pZ]
 ·exact h2 d j hd
def ME.pe (e:ME) (ω:Nat->Ent):PE:=⟨e.n,e.m,e.D,e.D+1,e.dM,e.sM,e.gM,e.csM,(ω 20).1+1,(ω 21).1+1,(ω 89).1+1⟩
theorem ME.Ok.pe {e:ME} {may} (ho:e.Ok may) (ω):(e.pe ω).Ok may:=⟨yHD _,ho.hM,ho.hrow,ho.hlen,ho.hm,ho.hn⟩
def ME.rowS (e:ME) (F:Nat->Nat->Int) (S:Nat->Nat->Ent):Nat->Nat->Ent:=fun d j=>if d=e.D/\j < e.n then (1,.cells (mI e.m (F j))) else S d j
theorem ME.foldl_dl (e:ME) {ω0:Nat->Ent} {τ:Nat->AV} {ω:Nat->Ent} {S seen right F}:((e.pe ω0).dl seen right F).foldl St.up (stF 109 (e.D+1) τ ω S)=
  stF 109 (e.D+1) τ (upd (upd ω 89 ((ω0 89).1+1,.cells (mB e.m seen))) 28 (1,.cells (mI e.m right))) (e.rowS F S):=by
 show List.foldl St.up _ ((e.D+1,89,((ω0 89).1+1,.cells (mB e.m seen)))::(e.D+1,28,(1,.cells (mI e.m right)))::(yGX e.n).map fun j=>(e.D,j,(1,.cells (mI e.m (F j)))))=_
 rw[yIE,yIE,wQ,if_pos rfl,wQ,if_pos rfl,lZ (fun u hu=>by
  obtain ⟨j,_,rfl⟩:=yGT.1 hu
  show e.D≠e.D+1
  omega)]
 congr 1
 funext d j
 refine fN _ (fun u hu=> ?_) (fun d j hd=> ?_) d j
 ·obtain ⟨j,hj,rfl⟩:=yGT.1 hu
  show (if _ then _ else _)=_
  rw[if_pos ⟨rfl,yGY.1 hj⟩]
 ·show (if _ then _ else _)=_
  rw[if_neg];rintro ⟨rfl,hj⟩;exact hd (e.D,j,(1,.cells (mI e.m (F j)))) (yGT.2 ⟨j,yGY.2 hj,rfl⟩) ⟨rfl,rfl⟩
theorem m3 {e:ME} {may} (ho:e.Ok may) {bq:Bool} (hq:bq=true↔¬Feas e.n e.m may (fun i=>e.a i*e.times) (fun k=>e.b k*e.by_)) {i:Nat} (hi:i < e.n)
  (hnext:∀τ ω S left right F,e.Lp may (i+1) left right F τ ω S->Rd (Loc Pg Gl) .pl (MQ e bq) [.lp c88_l4,.blk 6,.c gU] (stF 109 (e.D+1) τ ω S)):
  ∀(fuel:Nat) (left right:Nat->Int) (F:Nat->Nat->Int) (τ ω S),left i<=fuel->e.Lp may i left right F τ ω S->τ 19= .int .i64 i->
  Rd (Loc Pg Gl) .pl (MQ e bq) [.lp c88_l3,.blk 8,.blk 7,.c cZ,.lp c88_l4,.blk 6,.c gU] (stF 109 (e.D+1) τ ω S):=by
 have hn10:=ho.hn;have hm10:=ho.hm;have hwr:IntKind.i64.wrap ((i:Int)+1)=((i+1:Nat):Int):=zF hi (by unfold maxLen;omega);intro fuel
 induction fuel with
 | zero=>
  intro left right F τ ω S hfu hL h19;have h0:left i=0:=by have:=hL.flo.lf i hi;omega
  refine zC c88_l3.eq_1 ?_;simp[hL.fr.h11,h19,hi,hL.ob.ob.o25,h0,cZ,hL.h79,hwr];refine hnext _ ω S left right F ⟨?_,by simp[hL.h17],by simp[hL.h78],by simp,hL.ob,hL.rw_,hL.flo,fun j hj=> ?_⟩
  ·repeat (first | exact hL.fr | refine ME.Fr.upd ?_ _ _)
  ·by_cases h:j=i
   ·rw[h];exact h0
   ·exact hL.done j (by omega)
 | succ fuel ih=>
  intro left right F τ ω S hfu hL h19;by_cases h0:left i=0
  ·refine zC c88_l3.eq_1 ?_;simp[hL.fr.h11,h19,hi,hL.ob.ob.o25,h0,cZ,hL.h79,hwr];refine hnext _ ω S left right F ⟨?_,by simp[hL.h17],by simp[hL.h78],by simp,hL.ob,hL.rw_,hL.flo,fun j hj=> ?_⟩
   ·repeat (first | exact hL.fr | refine ME.Fr.upd ?_ _ _)
   ·by_cases h:j=i
    ·rw[h];exact h0
    ·exact hL.done j (by omega)
  ·have hl:=hL.flo.lf i hi;have hpos:0 < left i:=by omega
   have hb:=hL.flo.bnd (fun k hk=>ho.hb k hk) ho.hsb;refine zC c88_l3.eq_1 ?_;simp[hL.fr.h11,h19,hi,hL.ob.ob.o25,hpos,hL.fr.h2];refine uB (m:=e.m) (kx:= .i64) (ky:= .i64) (by decide) (by simp) (by simp) ⟨by omega,by unfold zD;omega,by unfold zD;omega,rfl,by decide⟩ ?_;simp[l6];refine rV (by decide) ?_;simp;refine rV (by decide) ?_;simp[hL.fr.h5,hL.fr.h12,hL.h17,AV.upto,h19,hi,hL.fr.h11,hL.ob.ob.o25];have hpe:=ho.pe ω;obtain ⟨r,s',rt',F',p1,p2⟩:=push hpe (yQ (fun _=>false) e.m) (fun _=>false) right F i (left i) (yGU _) hL.flo.cap hb hi hpos;have hdl:∀u∈(e.pe ω).dl s' rt' F',(u.1,u.2.1)∈((e.pe ω).fixed++(e.pe ω).dl (fun _=>false) right F).map (fun m=>(m.1,m.2.1))/\u.2.2.2≠ .dead:=by
    intro x hx;have hpl:((e.pe ω).dl s' rt' F').map (fun m=>(m.1,m.2.1))=((e.pe ω).dl (fun _=>false) right F).map (fun m=>(m.1,m.2.1)):=by simp[PE.dl,Function.comp_def]
    refine ⟨?_,?_⟩
    ·rw[yIB,<-hpl];exact yHG _ (yGT.2 ⟨x,hx,rfl⟩)
    ·simp only[PE.dl,yHA,yGT,yGY] at hx;rcases hx with rfl | rfl | ⟨j,hj,rfl⟩<;>simp
   refine sQ (f:=110) (cap:=(e.pe ω).caps) (p2 (e.D+2) (yHD _)) (by simp[ME.pe,PE.caps,AV.dem]) (by simp[ME.pe,PE.caps,AV.strip]) (fun x hx=> ?_) hdl ?_
   ·have hM:=ho.hM;simp only[PE.fixed,PE.dl,ME.pe,yHL,yHA,yHM,or_false,yGT,yGY] at hx;rcases hx with (rfl | rfl | rfl | rfl | rfl | rfl | rfl) | rfl | rfl | ⟨j,hj,rfl⟩
    ·refine ⟨by simp only;omega,by simp only;omega,?_⟩;rw[zS,if_neg (by simp only;omega),hL.rw_.low _ _ hM];exact hL.rw_.mayS
    ·refine ⟨yGU _,fun _=>by simp,?_⟩;simp[zS,hL.ob.ob.o5]
    ·refine ⟨yGU _,fun _=>by simp,?_⟩;simp[zS]
    ·refine ⟨yGU _,fun _=>by simp,?_⟩;simp[zS,hL.ob.ob.o12]
    ·refine ⟨yGU _,fun _=>by simp,?_⟩;simp[zS,hL.ob.o17]
    ·refine ⟨yGU _,fun _=>by simp,?_⟩;simp[zS,PE.caps]
    ·refine ⟨yGU _,fun _=>by simp,?_⟩;simp[zS,hL.ob.o64]
    ·refine ⟨yGU _,fun _=>by simp,?_⟩;simp[zS]
    ·refine ⟨yGU _,fun _=>by simp,?_⟩;simp[zS,hL.ob.ob.o28]
    ·refine ⟨by simp only;omega,by simp only;omega,?_⟩;rw[zS,if_neg (by simp only;omega)];exact hL.rw_.rows j hj
   rw[ME.foldl_dl];have hRw:e.Rw F' e.n (e.rowS F' S):=⟨fun j hj=>by unfold ME.rowS;rw[if_pos ⟨rfl,hj⟩],fun j hj=>by unfold ME.rowS;rw[if_neg (by omega)];exact hL.rw_.rest j hj,
    fun d j hd=>by unfold ME.rowS;rw[if_neg (by omega)];exact hL.rw_.low d j hd,hL.rw_.mayS⟩
   by_cases hr:r=0
   ·obtain ⟨e1,e2⟩:=p1.same hr;have hbq:bq=true:=hq.2 (hL.flo.cut s' hi h0 (p1.nb hr) fun k hk hs=>p1.cl hr k hk hs rfl);subst hr;simp;refine zEZ (by simp[AV.wk,hbq]) hRw.low
   ·have hr1:=p1.nn;have hr2:=p1.le;have a1:=hL.flo.rows i hi;have a2:e.a i*e.times<=sumN e.n (fun i=>e.a i*e.times):=vX (f:=fun i=>e.a i*e.times) ho.ha hi;have a3:=ho.hsa;have a4:0<=sumN e.m (F i):=xG fun k hk=>hL.flo.nn i k hi hk;have hw:IntKind.i64.wrap (left i - r)=left i - r:=yO (by omega) (by omega);have hi1:i+1<=e.n:=hi;simp[hr,hL.fr.h11,h19,hi,hL.ob.ob.o25,hw,hi1,tN hi];refine ih (upd1 left i (left i - r)) rt' F' _ _ _ (by unfold upd1;rw[if_pos rfl];omega) ⟨?_,by simp[hL.h17],by simp[hL.h78],by simp[hL.h79],⟨⟨?_,?_,?_,?_⟩,?_,?_⟩,hRw,hL.flo.mv p1.mv hi hr2,fun j hj=> ?_⟩ ?_
    ·repeat (first | exact hL.fr | refine ME.Fr.upd ?_ _ _)
    ·simp[hL.ob.ob.o5]
    ·simp
    ·simp
    ·simp[hL.ob.ob.o12]
    ·simp[hL.ob.o17]
    ·simp[hL.ob.o64]
    ·unfold upd1;rw[if_neg (by omega)];exact hL.done j hj
    ·simp[h19]
theorem m4 {e:ME} {may} (ho:e.Ok may) {bq:Bool} (hq:bq=true↔¬Feas e.n e.m may (fun i=>e.a i*e.times) (fun k=>e.b k*e.by_)) (hs:sumN e.n (fun i=>e.a i*e.times)=sumN e.m (fun k=>e.b k*e.by_)):
  ∀(j i:Nat) (τ ω S left right F),i+j=e.n->e.Lp may i left right F τ ω S->Rd (Loc Pg Gl) .pl (MQ e bq) [.lp c88_l4,.blk 6,.c gU] (stF 109 (e.D+1) τ ω S):=by
 intro j
 induction j with
 | zero=>
  intro i τ ω S left right F hi hL;obtain rfl:i=e.n:=by omega
  have hbq:bq=false:=by
   cases h:bq
   ·rfl
   ·exact absurd (hL.flo.feas hL.done hs) (hq.1 h)
  refine zC c88_l4.eq_1 ?_;simp[hL.h78,hL.h79,gU,hL.h17,hL.ob.o17];exact zEZ (by simp[AV.wk,hbq]) hL.rw_.low
 | succ j ih=>
  intro i τ ω S left right F hi hL;have hlt:i < e.n:=by omega
  refine zC c88_l4.eq_1 ?_;simp[hL.h78,hL.h79,hlt];refine m3 ho hq hlt (fun τ ω S left right F hL=>ih (i+1) τ ω S left right F (by omega) hL) (left i).toNat left right F _ ω S (by have:=hL.flo.lf i hlt;omega) ⟨?_,by simp[hL.h17],by simp[hL.h78],by simp[hL.h79],hL.ob,hL.rw_,hL.flo,hL.done⟩ (by simp);repeat (first | exact hL.fr | refine ME.Fr.upd ?_ _ _)
theorem cP {n m may a b} (h:Feas n m may a b):sumN n a=sumN m b:=by
 obtain ⟨x,x1,x2,x3⟩:=h;rw[<-yD x2,uH,yD x3]
theorem zIH {may:Nat->Nat->Bool} {n m D dM sM gM:Nat} {csM:List AV} {a b:Nat->Int} {times by_:Int} (ho:∀S0,(⟨n,m,D,dM,sM,gM,csM,a,b,times,by_,S0⟩:ME).Ok may) {bq:Bool}
  (hq:bq=true↔¬Feas n m may (fun i=>a i*times) (fun k=>b k*by_)):
  Go.Ab.Loc Pg Gl D 88 [.own dM sM gM 0 n 1 false,.sl 1 (mI n a) .no,.sl 1 (mI m b) .no,.int .i64 times,.int .i64 by_] [(dM,sM,(gM,.cells csM))] (.slq bq) []:=by
 refine zBU zR tok rfl .pl (by simp) rfl (by simp) fun S hS hSD=> ?_;have ho:=ho S;have hn10:=ho.hn;have hm10:=ho.hm;have hmay:=(hS (dM,sM,(gM,.cells csM)) (by simp)).2;unfold c88;simp;refine zOD (by decide) (by simp[AV.one]) ?_;simp;refine xP (m:=n) (kx:= .i64) (ky:= .i64) (by decide) (by simp) (by simp) ⟨by omega,by unfold zD;simp only at hn10;omega,by unfold zD;simp only at hn10;omega,rfl,by decide⟩ ?_;simp;refine xP (m:=m) (kx:= .i64) (ky:= .i64) (by decide) (by simp) (by simp) ⟨by omega,by unfold zD;simp only at hm10;omega,by unfold zD;simp only at hm10;omega,rfl,by decide⟩ ?_;simp;refine fJ (by decide) ?_;simp[AV.upto,fU];refine m0 (e:=⟨n,m,D,dM,sM,gM,csM,a,b,times,by_,S⟩) ho (S:=S) (right:=fun _=>0) (fun τ ω hf hO hw=> ?_) n 0 _ _ (fun _=>0) (yHB _) ⟨?_,?_,?_,?_,?_,?_,?_⟩ ⟨?_,?_,?_,?_⟩ ?_ (fun j hj=>by omega) ?_ ?_ ?_
 ·have hw1:=hw 17 (by decide) (by simp);have hw2:=hw 64 (by decide) (by simp);unfold cW;simp[hf.h2];refine m1 (e:=⟨n,m,D,dM,sM,gM,csM,a,b,times,by_,S⟩) ho (S:=S) (left:=fun i=>a i*times) (fun τ ω hf hO hw=> ?_) m 0 _ ω (fun _=>0) (yHB _) ?_ hO ⟨hw1,hw2⟩ (fun j hj=>by omega) ?_ ?_ ?_
  ·unfold cX;simp[hf.h11];refine zY (zAL (D+2) n hn10 (fun i=>a i*times) ho.ha ho.hsa (D+1) 25 1 (by omega)) (by simp[AV.strip]) (fun x hx=> ?_) (by simp) ?_
   ·simp at hx;subst hx;refine ⟨yGU _,fun _=>by simp,?_⟩;simp[zS,hO.o25]
   simp[hf.h12,hO.o12];refine zY (zAL (D+2) m hm10 (fun k=>b k*by_) ho.hb ho.hsb (D+1) 28 1 (by omega)) (by simp[AV.strip]) (fun x hx=> ?_) (by simp) ?_
   ·simp at hx;subst hx;refine ⟨yGU _,fun _=>by simp,?_⟩;simp[zS,hO.o28]
   by_cases hs:sumN n (fun i=>a i*times)=sumN m (fun k=>b k*by_)
   ·simp[hs,hf.h1];refine uB (m:=n) (kx:= .i64) (ky:= .i64) (by decide) (by simp) (by simp) ⟨by omega,by unfold zD;simp only at hn10;omega,by unfold zD;simp only at hn10;omega,rfl,by decide⟩ ?_;simp;refine rV (by decide) ?_;simp[AV.upto,iN n D m,hw.1,hw.2];refine m2 (e:=⟨n,m,D,dM,sM,gM,csM,a,b,times,by_,S⟩) ho (left:=fun i=>a i*times) (right:=fun k=>b k*by_) (fun τ ω S' hf h17 hO hR=> ?_) n 0 _ _ S (yHB _) ?_ ?_ ⟨⟨?_,?_,?_,?_⟩,?_,?_⟩ ⟨fun j hj=>by omega,fun j _=>hSD j,fun _ _ _=>rfl,hmay⟩ ?_ ?_
    ·unfold cY;simp[hf.h11];refine m4 (e:=⟨n,m,D,dM,sM,gM,csM,a,b,times,by_,S⟩) ho hq hs n 0 _ ω S' (fun i=>a i*times) (fun k=>b k*by_) (fun _ _=>0) (yHB _) ⟨?_,by simp[h17],by simp,by simp,hO,hR,⟨fun _ _ _ _=>yGV _,fun _ _ _ _ h=>absurd rfl h,ho.ha,ho.hb,fun i _=>by show sumN m (fun _=>0)+a i*times=a i*times;rw[yR];simp,fun k _=>by show sumN n (fun _=>0)+b k*by_=b k*by_;rw[yR];simp⟩,fun j hj=>by omega⟩;repeat (first | exact hf | refine ME.Fr.upd ?_ _ _)
    ·repeat (first | exact hf | refine ME.Fr.upd ?_ _ _)
    all_goals simp[hO.o5,hO.o25,hO.o28,hO.o12]
   ·have hbq:bq=true:=hq.2 fun h=>hs (cP h);simp[hs];exact zEZ (e:=⟨n,m,D,dM,sM,gM,csM,a,b,times,by_,S⟩) (by simp[AV.wk,hbq]) (fun _ _ _=>rfl)
  ·repeat (first | exact hf | refine ME.Fr.upd ?_ _ _)
  all_goals simp
 all_goals simp
 intro d h1 h2;rcases h2 with rfl | rfl | rfl | rfl | rfl<;>simp
end Go.Ab.Tab
