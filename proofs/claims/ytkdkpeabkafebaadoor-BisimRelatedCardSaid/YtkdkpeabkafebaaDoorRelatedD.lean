/- Layer 12's program: what its texts lean on. -/
import Derived.Test.YtkdkpeabkafebaaDoorRelatedB5
import Derived.Test.YtkdkpeabkafebaaDoorRelatedB
open Bool renaming true_and->yGT, false_and->yGV, and_eq_true->yHH
open Int renaming natCast_emod->yHT
open List renaming drop_eq_getElem_cons->yGU, getElem_mem->yGW, mem_cons->yGX, drop_length->yGY, length_eq_zero_iff->yGZ, length_drop->yHA, drop_eq_nil_of_le->yHB, replicate->yHC, mem_singleton->yHD, length_cons->yHE, map_drop->yHF, map_take->yHG, getElem?_map->yHI, getElem?_eq_getElem->yHJ, map_append->yHK, length_map->yHL, mem_cons_of_mem->yHM, set_eq_take_append_cons_drop->yHN, take_append_drop->yHO, length_take->yHP, getElem_append_right->yHQ, drop_zero->yHR, take_of_length_le->yHS, replicate_succ'->yHU, drop_drop->yHV
set_option linter.unusedVariables false
set_option linter.unusedSimpArgs false
set_option maxRecDepth 10000
namespace Go.Ab.Tab
open Go Go.Ab
theorem zR:PGood Pg:=⟨by kernel_rfl,Nat.le_of_ble_eq_true (by kernel_rfl)⟩
theorem zH {n:Nat} (h:n < 2^63):IntKind.i64.wrap (n:Int)=n:=by
 simp[IntKind.wrap,IntKind.bits,IntKind.signed];omega
theorem zF {i n:Nat} (h:i < n) (hn:n<=maxLen):IntKind.i64.wrap ((i:Int)+1)=((i+1:Nat):Int):=by
 unfold maxLen at hn;rw[<-zH (n:=i+1) (by omega)];rfl
def encI (l:List Int):AV:= .sl 1 (l.map (AV.int .i64)) .no
end Go.Ab.Tab
/- Functors: the data,and the reference's functions of layer 1. -/
namespace Go.Ab.Tab
open Go Go.Ab
inductive Fu where
 | mk (k n:Int) (gs:List Fu)
def Fu.k:Fu->Int | .mk k _ _=>k
def Fu.n:Fu->Int | .mk _ n _=>n
def Fu.gs:Fu->List Fu | .mk _ _ a=>a
theorem Fu.eta (f:Fu):f= .mk f.k f.n f.gs:=by cases f;rfl
mutual
theorem Fu.ind' {P:Fu->Prop} (h:∀k n gs,(∀a∈gs,P a)->P (.mk k n gs)):∀f,P f
 | .mk k n gs=>h k n gs (Fu.inds h gs)
theorem Fu.inds {P:Fu->Prop} (h:∀k n gs,(∀a∈gs,P a)->P (.mk k n gs)):∀(l:List Fu),∀a∈l,P a
 | [],_,ha=>by cases ha
 | b::l,a,ha=>by
  rcases yGX.1 ha with e | ha
  ·rw[e];exact Fu.ind' h b
  ·exact Fu.inds h l a ha
end
mutual
def encF:Fu->AV
 | .mk k n gs=> .agg [.int .i64 k,.int .i64 n,.sl 3 (zGN gs) .no]
def zGN:List Fu->List AV
 | []=>[]
 | f::l=>encF f::zGN l
end
theorem cS:∀l,zGN l=l.map encF
 | []=>rfl
 | f::l=>by rw[zGN,cS l];rfl
theorem zI (k n gs):encF (.mk k n gs)= .agg [.int .i64 k,.int .i64 n,.sl 3 (gs.map encF) .no]:=by rw[encF,cS]
mutual
def z6:Fu->Nat
 | .mk _ _ gs=>1+yA gs
def yA:List Fu->Nat
 | []=>0
 | f::l=>z6 f+yA l
end
mutual
def xJ:Fu->Nat
 | .mk _ _ gs=>1+xD gs
def xD:List Fu->Nat
 | []=>0
 | f::l=>max (xJ f) (xD l)
end
theorem zBQ (k n gs):z6 (.mk k n gs)=1+yA gs:=by rw[z6]
theorem mU (f:Fu):1<=z6 f:=by cases f;rw[z6];omega
theorem zCU:(∀f,xJ f<=z6 f):=by
 refine Fu.ind' fun k n gs h=> ?_;rw[xJ,z6];have:xD gs<=yA gs:=by
  induction gs with
  | nil=>simp[xD,yA]
  | cons a l ih=>
   rw[xD,yA];have h1:=h a (by simp);have h2:=ih fun b hb=>h b (by simp[hb]);omega
 omega
mutual
def fitF:Fu->Prop
 | .mk _ _ gs=>gs.length<=maxLen/\hJ gs
def hJ:List Fu->Prop
 | []=>True
 | f::l=>fitF f/\hJ l
end
theorem uS:∀{l:List Fu},hJ l->∀a∈l,fitF a
 | [],_,a,ha=>by cases ha
 | b::l,h,a,ha=>by
  rw[hJ] at h;rcases yGX.1 ha with e | ha
  ·rw[e];exact h.1
  ·exact uS h.2 a ha
theorem l103 (D:Nat) (k n:Int) (gs:List Fu) (hlen:gs.length<=maxLen) (hrec:∀a∈gs,∀(D m:Nat),1<=m->m < 2^62->Go.Ab.Loc Pg Gl D 29 [encF a,.int .i64 m] [] (.int .i64 ((m - z6 a:Nat):Int)) []) (S):∀(j i m:Nat) (τ ω) (r:AV),i+j=gs.length->m < 2^62->
  τ 1= .int .i64 m->τ 2= .ptr D 2 1 0->τ 5= .int .i64 i->ω 2=(1,.cells [.int .i64 k,.int .i64 n,.sl 3 (gs.map encF) .no])->r= .int .i64 ((m - yA (gs.drop i):Nat):Int)->
  Rd (Loc Pg Gl) .im (RetQ [.tmp 4] r S) [.lp c29_l0,.blk 0,.c bG] (stF 28 D τ ω S):=by
 intro j
 induction j with
 | zero=>
  intro i m τ ω r hi hm h1 h2 h5 w2 hr;refine zC c29_l0.eq_1 ?_;obtain rfl:i=gs.length:=by omega
  rw[yGY,yA] at hr;have hmx:¬(m:Int) < 0:=by omega
  simp[h1,h2,h5,w2,bG,opf];simp[hr]
 | succ j ih=>
  intro i m τ ω r hi hm h1 h2 h5 w2 hr;refine zC c29_l0.eq_1 ?_;have hlt:i < gs.length:=by omega
  have hwr:=zF hlt hlen;have hd:gs.drop i=gs[i]::gs.drop (i+1):=yGU hlt;rw[hd,yA] at hr;by_cases h0:0 < m
  ·simp[h1,h2,h5,w2,hlt,h0];have hx:=zI gs[i].k gs[i].n gs[i].gs;rw[<-Fu.eta] at hx;rw[hx];simp[h1,h2,h5,w2,hlt,h0];refine zE (hrec gs[i] (yGW hlt) _ m h0 hm) (by simp[hx,h1]) ?_;simp[h1,h2,h5,w2,hwr];refine ih (i+1) (m - z6 gs[i]) _ ω r (by omega) (by omega) ?_ ?_ ?_ w2 (by rw[hr];congr 2;omega);all_goals simp[h1,h2,h5]
  ·have e0:m=0:=by omega
   subst e0;simp[h1,h2,h5,w2,hlt,bG,opf];simp[hr]
theorem zTB:∀(f:Fu),fitF f->∀(D m:Nat),1<=m->m < 2^62->Go.Ab.Loc Pg Gl D 29 [encF f,.int .i64 m] [] (.int .i64 ((m - z6 f:Nat):Int)) []:=by
 refine Fu.ind' fun k n gs hrec=> ?_;intro hfit D m hm hm2;rw[fitF] at hfit;refine z0 zR tok rfl rfl fun S=> ?_;unfold c29;generalize hr:AV.int .i64 ((m - z6 (.mk k n gs):Nat):Int)=r;have hw:IntKind.i64.wrap ((m:Int) - 1)=((m - 1:Nat):Int):=by rw[<-zH (n:=m - 1) (by omega)];congr 1;omega
 rw[zI];simp[hw];refine l103 D k n gs hfit.1 (fun a ha D m=>hrec a ha (uS hfit.2 a ha) D m) S gs.length 0 (m - 1) _ _ r (by simp) (by omega) ?_ ?_ ?_ ?_ (by rw[<-hr,z6];congr 2;simp;omega);all_goals simp
theorem zSP (f:Fu) (hf:fitF f) (D m:Nat) (hm:m < 2^61):Go.Ab.Loc Pg Gl D 6 [encF f,.int .i64 m] [] (.bool (decide (z6 f<=m))) []:=by
 refine z0 zR tok rfl rfl fun S=> ?_;unfold c6;generalize hr:AV.bool (decide (z6 f<=m))=r;have hw:IntKind.i64.wrap ((m:Int)+1)=((m+1:Nat):Int):=by rw[<-zH (n:=m+1) (by omega)];rfl
 have hx:=zI f.k f.n f.gs;rw[<-Fu.eta] at hx;rw[hx];simp[hw];refine zE (zTB f hf _ (m+1) (by omega) (by omega)) (by simp[hx]) ?_;simp;rw[<-hr];congr 1;exact decide_eq_decide.2 (by omega)
end Go.Ab.Tab
/- Functors: Size,Most,Arity,shaped,Is,Same,Of of the reference. -/
namespace Go.Ab.Tab
open Go Go.Ab
theorem zB (f:Fu):encF f= .agg [.int .i64 f.k,.int .i64 f.n,.sl 3 (f.gs.map encF) .no]:=by
 have hx:=zI f.k f.n f.gs;rwa [<-Fu.eta] at hx
theorem mT:∀{l:List Fu} {a:Fu},a∈l->z6 a<=yA l
 | [],a,h=>by cases h
 | b::l,a,h=>by
  rw[yA];rcases yGX.1 h with e | h
  ·rw[e];omega
  ·have:=mT h;omega
theorem sC:∀(l:List Fu),l.length<=yA l
 | []=>by simp
 | b::l=>by rw[yA,yHE];have:=sC l;have:=mU b;omega
theorem l107 (D:Nat) (gs:List Fu) (hlen:gs.length < 2^62) (hrec:∀a∈gs,∀(D:Nat),Go.Ab.Loc Pg Gl D 38 [encF a] [] (.tup [.int .i64 (z6 a),.int .i64 (xJ a)]) []) (S):∀(j i m d:Nat) (τ ω) (r:AV),i+j=gs.length->m+yA (gs.drop i) < 2^62->d<=m->
  τ 2= .int .i64 m->τ 3= .int .i64 d->τ 9= .sl 3 (gs.map encF) .no->τ 10= .int .i64 gs.length->τ 11= .int .i64 i->r= .tup [.int .i64 ((m+yA (gs.drop i):Nat):Int),.int .i64 ((max d (xD (gs.drop i))+1:Nat):Int)]->
  Rd (Loc Pg Gl) .im (RetQ [.tmp 2,.tmp 3] r S) [.lp c38_l0,.blk 0,.c zDQ] (stF 30 D τ ω S):=by
 intro j
 induction j with
 | zero=>
  intro i m d τ ω r hi hm hd h2 h3 h9 h10 h11 hr;refine zC c38_l0.eq_1 ?_;obtain rfl:i=gs.length:=by omega
  rw[yGY] at hr hm;have hw:IntKind.i64.wrap ((d:Int)+1)=((d+1:Nat):Int):=by rw[<-zH (n:=d+1) (by omega)];rfl
  simp[h2,h3,h9,h10,h11,zDQ,hw];simp[hr,yA,xD]
 | succ j ih=>
  intro i m d τ ω r hi hm hd h2 h3 h9 h10 h11 hr;refine zC c38_l0.eq_1 ?_;have hlt:i < gs.length:=by omega
  have e:gs.drop i=gs[i]::gs.drop (i+1):=yGU hlt;rw[e,yA] at hr hm;rw[xD] at hr;have hln:=sC (gs.drop (i+1));rw[yHA] at hln;have hp:=mU gs[i];have hdp:=zCU gs[i];have hwr:IntKind.i64.wrap ((m:Int)+(z6 gs[i]:Int))=((m+z6 gs[i]:Nat):Int):=by rw[<-zH (n:=m+z6 gs[i]) (by omega)];rfl
  have hwi:IntKind.i64.wrap ((i:Int)+1)=((i+1:Nat):Int):=by rw[<-zH (n:=i+1) (by omega)];rfl
  simp[h2,h3,h9,h10,h11,hlt,zB gs[i]];refine zE (hrec gs[i] (yGW hlt) _) (by simp[zB gs[i]]) ?_;simp[h2,h3,h9,h10,h11,hwr,hwi];refine ih (i+1) (m+z6 gs[i]) (max d (xJ gs[i])) _ _ r (by omega) (by omega) (by omega) ?_ ?_ ?_ ?_ ?_ ?_
  case refine_2=>simp;split<;>omega
  case refine_6=>rw[hr];congr 4<;>omega
  all_goals simp[h2,h3,h9,h10,h11]
theorem zSV:∀(f:Fu),fitF f->z6 f < 2^62->∀(D:Nat),Go.Ab.Loc Pg Gl D 38 [encF f] [] (.tup [.int .i64 (z6 f),.int .i64 (xJ f)]) []:=by
 refine Fu.ind' fun k n gs hrec=> ?_;intro hfit hnod D;rw[fitF] at hfit;rw[z6] at hnod;refine z0 zR tok rfl rfl fun S=> ?_;unfold c38;generalize hr:AV.tup [.int .i64 (z6 (.mk k n gs)),.int .i64 (xJ (.mk k n gs))]=r;rw[zI];simp;refine l107 D gs (by have:=sC gs;omega) (fun a ha D=>hrec a ha (uS hfit.2 a ha) (by have:=mT ha;omega) D) S gs.length 0 1 0 _ _ r (by simp) (by simpa using hnod) (by omega) ?_ ?_ ?_ ?_ ?_ (by rw[<-hr,z6,xJ];simp;omega);all_goals simp
def y7 (k:Int):Int:=if k=1 then 16 else if k=4 then 4 else 0
def arK (k:Int):Int:=if k=0\/k=1 then 0 else if k=4\/k=5\/k=6\/k=7 then 1 else if k=2\/k=3 then 2 else -1
theorem zII (D:Nat) (k:Int):Go.Ab.Loc Pg Gl D 71 [.int .i64 k] [] (.int .i64 (y7 k)) []:=by
 refine z0 zR tok rfl rfl fun S=> ?_;unfold c71;unfold y7;by_cases h1:k=1
 ·simp[h1]
 by_cases h4:k=4
 ·simp[h4]
 simp[h1,h4]
theorem zSJ (D:Nat) (k:Int):Go.Ab.Loc Pg Gl D 72 [.int .i64 k] [] (.int .i64 (arK k)) []:=by
 refine z0 zR tok rfl rfl fun S=> ?_;unfold c72 zIW zIX zIY;unfold arK;by_cases h0:k=0
 ·simp[h0]
 by_cases h1:k=1
 ·simp[h1]
 by_cases h4:k=4
 ·simp[h4]
 by_cases h5:k=5
 ·simp[h5]
 by_cases h6:k=6
 ·simp[h6]
 by_cases h7:k=7
 ·simp[h7]
 by_cases h2:k=2
 ·simp[h2]
 by_cases h3:k=3
 ·simp[h3]
 simp[h0,h1,h2,h3,h4,h5,h6,h7]
mutual
def zT:Fu->Bool
 | .mk k n gs=>decide ((gs.length:Int)=arK k)&&(decide (min 1 (y7 k)<=n)&&(decide (n<=y7 k)&&xN gs))
def xN:List Fu->Bool
 | []=>true
 | f::l=>zT f&&xN l
end
theorem l108 (D:Nat) (gs:List Fu) (hlen:gs.length<=maxLen) (hrec:∀a∈gs,∀(D:Nat),Go.Ab.Loc Pg Gl D 39 [encF a] [] (.bool (zT a)) []) (S):∀(j i:Nat) (τ ω) (r:AV),i+j=gs.length->
  τ 32= .sl 3 (gs.map encF) .no->τ 33= .int .i64 gs.length->τ 34= .int .i64 i->r= .bool (xN (gs.drop i))->
  Rd (Loc Pg Gl) .im (RetQ [.tmp 2] r S) [.lp c39_l0,.blk 0,.c zDP] (stF 42 D τ ω S):=by
 intro j
 induction j with
 | zero=>
  intro i τ ω r hi h32 h33 h34 hr;refine zC c39_l0.eq_1 ?_;obtain rfl:i=gs.length:=by omega
  rw[yGY,xN] at hr;simp[h32,h33,h34,zDP,hr]
 | succ j ih=>
  intro i τ ω r hi h32 h33 h34 hr;refine zC c39_l0.eq_1 ?_;have hlt:i < gs.length:=by omega
  have hwr:=zF hlt hlen;have e:gs.drop i=gs[i]::gs.drop (i+1):=yGU hlt;rw[e,xN] at hr;simp[h32,h33,h34,hlt,zB gs[i]];refine zE (hrec gs[i] (yGW hlt) _) (by simp[zB gs[i]]) ?_;cases hb:zT gs[i] with
  | false=>
   rw[hb,yGV] at hr;simp[hr]
  | true=>
   rw[hb,yGT] at hr;simp[h32,h33,h34,hwr];refine ih (i+1) _ _ r (by omega) ?_ ?_ ?_ hr;all_goals simp[h32,h33,h34]
theorem zSU:∀(f:Fu),fitF f->∀(D:Nat),Go.Ab.Loc Pg Gl D 39 [encF f] [] (.bool (zT f)) []:=by
 refine Fu.ind' fun k n gs hrec=> ?_;intro hfit D;rw[fitF] at hfit;refine z0 zR tok rfl rfl fun S=> ?_;unfold c39;generalize hr:AV.bool (zT (.mk k n gs))=r;rw[zT] at hr;rw[zI];simp;refine zE (zII _ k) (by simp) ?_;simp;refine zZ (zSJ _ k) (by simp) ?_;have hmin:(if y7 k < 1 then y7 k else 1)=min 1 (y7 k):=by split<;>omega
 by_cases h1:(gs.length:Int)=arK k
 ·rw[decide_eq_true h1,yGT] at hr;by_cases h2:n < min 1 (y7 k)
  ·simp[h1,hmin,h2];simp[<-hr,show¬min 1 (y7 k)<=n by omega]
  rw[decide_eq_true (show min 1 (y7 k)<=n by omega),yGT] at hr;simp[h1,hmin,h2];refine zZ (zII _ k) (by simp) ?_;by_cases h3:y7 k < n
  ·simp[h3];simp[<-hr,show¬n<=y7 k by omega]
  rw[decide_eq_true (show n<=y7 k by omega),yGT] at hr;simp[h3];refine l108 D gs hfit.1 (fun a ha D=>hrec a ha (uS hfit.2 a ha) D) S gs.length 0 _ _ r (by simp) ?_ ?_ ?_ (by rw[<-hr];simp);all_goals simp[h1]
 ·rw[decide_eq_false h1,yGV] at hr;simp[h1,<-hr]
end Go.Ab.Tab
/- Functors: Is,Same,Of of the reference; the program's functor.Valid and det.automaton. -/
namespace Go.Ab.Tab
open Go Go.Ab
def isF (f:Fu):Bool:=decide (z6 f<=20)&&(decide (xJ f<=8)&&zT f)
theorem zTF (f:Fu) (hf:fitF f) (D:Nat):Go.Ab.Loc Pg Gl D 10 [encF f] [] (.bool (isF f)) []:=by
 refine z0 zR tok rfl rfl fun S=> ?_;unfold c10;generalize hr:AV.bool (isF f)=r;unfold isF at hr;rw[zB f];simp;refine zE (zSP f hf _ 20 (by omega)) (by simp[zB f]) ?_;by_cases h1:z6 f<=20
 ·rw[decide_eq_true h1,yGT] at hr;simp[h1];refine zE (zSV f hf (by omega) _) (by simp[zB f]) ?_;by_cases h2:xJ f<=8
  ·have h2':(xJ f:Int)<=8:=by omega
   rw[decide_eq_true h2,yGT] at hr;simp[h2'];refine zE (zSU f hf _) (by simp[zB f]) ?_;simp[<-hr]
  ·have h2':¬(xJ f:Int)<=8:=by omega
   rw[decide_eq_false h2,yGV] at hr;simp[h2',<-hr]
 ·rw[decide_eq_false h1,yGV] at hr;simp[h1,<-hr]
theorem zIO (D:Nat) (k n:Int) (gs:List Fu):Go.Ab.Loc Pg Gl D 32 [.int .i64 k,.int .i64 n,.sl 3 (gs.map encF) .no] [] (encF (.mk k n gs)) []:=by
 refine z0 zR tok rfl rfl fun S=> ?_;unfold c32;rw[zI];simp
end Go.Ab.Tab
/- The program's functor.Valid and det.automaton. -/
namespace Go.Ab.Tab
open Go Go.Ab
def okF (f:Fu) (left deep:Nat):Bool:=decide (z6 f<=left)&&(decide (deep+xJ f<=9)&&zT f)
def okFs (l:List Fu) (left deep:Nat):Bool:=decide (yA l<=left)&&(decide (deep+xD l<=8)&&xN l)
theorem zBL (a:Fu) (l:List Fu) (left deep:Nat) (hd:deep<=8):okFs (a::l) left deep=(okF a left (deep+1)&&okFs l (left - z6 a) deep):=by
 unfold okFs okF;rw[yA,xD,xN];by_cases h1:z6 a+yA l<=left
 ·rw[decide_eq_true h1,decide_eq_true (show z6 a<=left by omega),decide_eq_true (show yA l<=left - z6 a by omega)];by_cases h2:deep+max (xJ a) (xD l)<=8
  ·rw[decide_eq_true h2,decide_eq_true (show deep+1+xJ a<=9 by omega),decide_eq_true (show deep+xD l<=8 by omega)];simp
  ·rw[decide_eq_false h2];by_cases h3:deep+1+xJ a<=9
   ·rw[decide_eq_false (show¬deep+xD l<=8 by omega)];simp
   ·rw[decide_eq_false h3];simp
 ·rw[decide_eq_false h1];by_cases h3:z6 a<=left
  ·rw[decide_eq_false (show¬yA l<=left - z6 a by omega)];simp
  ·rw[decide_eq_false h3];simp
theorem l127 (D:Nat) (gs:List Fu) (hlen:gs.length<=maxLen) (d' o g:Nat) (hd:d' < D) (deep:Nat) (hdp:deep<=8)
  (hrec:∀a∈gs,∀(D left deep d' o g:Nat),d' < D->left < 2^40->deep<=9->∃left':Int,(okF a left deep=true->left'=((left - z6 a:Nat):Int))/\Go.Ab.Loc Pg Gl D 66 [encF a,.ptr d' o g 0,.int .i64 deep] [(d',o,(g,.cells [.int .i64 left]))] (.bool (okF a left deep)) [(d',o,(g,.cells [.int .i64 left']))])
  :∀(j i left:Nat) (b:Bool),i+j=gs.length->left < 2^40->b=okFs (gs.drop i) left deep->
  ∃left':Int,(b=true->left'=((left - yA (gs.drop i):Nat):Int))/\∀(S0:Nat->Nat->Ent) (τ:Nat->AV) (ω:Nat->Ent),τ 1= .ptr d' o g 0->τ 2= .int .i64 deep->τ 61= .sl 3 (gs.map encF) .no->τ 62= .int .i64 gs.length->τ 63= .int .i64 i->
   Rd (Loc Pg Gl) .im (RetM [.tmp 6] (.bool b) D S0 [(d',o,(g,.cells [.int .i64 left']))]) [.lp c66_l0,.blk 0,.c bD] (stF 74 D τ ω (updS S0 d' o (g,.cells [.int .i64 left]))):=by
 have hDd:¬d'=D:=by omega
 intro j
 induction j with
 | zero=>
  intro i left b hi hl hb;obtain rfl:i=gs.length:=by omega
  rw[yGY] at hb;refine ⟨left,fun _=>by simp[yA],?_⟩;intro S0 τ ω h1 h2 h61 h62 h63;refine zC c66_l0.eq_1 ?_;simp[h1,h2,h61,h62,h63,bD];rw[hb];simp[okFs,yA,xD,xN,hdp]
 | succ j ih=>
  intro i left b hi hl hb;have hlt:i < gs.length:=by omega
  have hwr:=zF hlt hlen;have hwd:IntKind.i64.wrap ((deep:Int)+1)=((deep+1:Nat):Int):=by rw[<-zH (n:=deep+1) (by omega)];rfl
  have e:gs.drop i=gs[i]::gs.drop (i+1):=yGU hlt;rw[e,zBL _ _ _ _ hdp] at hb;obtain ⟨l1,hl1,hloc⟩:=hrec gs[i] (yGW hlt) (D+1) left (deep+1) d' o g (by omega) hl (by omega);have hM:∀(S0:Nat->Nat->Ent) (τ':Nat->AV) (ω':Nat->Ent),∀m∈[(d',o,((g,Ob.cells [.int .i64 left]):Ent))],m.1<=D/\(m.1=D->m.2.1 < 74)/\(stF 74 D τ' ω' (updS S0 d' o (g,.cells [.int .i64 left]))).look m.1 m.2.1=m.2.2:=by
   intro S0 τ' ω' m hm;rw[yHD] at hm;subst hm;refine ⟨by simp;omega,fun e=>absurd e hDd,?_⟩;rw[zS,if_neg hDd,sU]
  cases hok:okF gs[i] left (deep+1) with
  | false=>
   rw[hok,yGV] at hb;subst hb;rw[hok] at hloc;refine ⟨l1,by simp,?_⟩;intro S0 τ ω h1 h2 h61 h62 h63;refine zC c66_l0.eq_1 ?_;simp[h1,h2,h61,h62,h63,hlt,hwd,zB gs[i]];refine yE hloc (by simp[zB gs[i],h1]) (hM _ _ _) (by simp) ?_;simp[hDd]
  | true=>
   rw[hok,yGT] at hb;rw[hok] at hloc;obtain rfl:=hl1 hok;have hn:z6 gs[i]<=left:=by simp[okF] at hok;exact hok.1
   obtain ⟨l2,hl2,hrd⟩:=ih (i+1) (left - z6 gs[i]) b (by omega) (by omega) hb;refine ⟨l2,fun hbt=>by rw[e,yA,hl2 hbt];congr 1;omega,?_⟩;intro S0 τ ω h1 h2 h61 h62 h63;refine zC c66_l0.eq_1 ?_;simp[h1,h2,h61,h62,h63,hlt,hwd,zB gs[i]];refine yE hloc (by simp[zB gs[i],h1]) (hM _ _ _) (by simp) ?_;simp[hDd,h63,hwr];refine hrd _ _ _ ?_ ?_ ?_ ?_ ?_;all_goals simp[h1,h2,h61,h62,h63]
theorem zGI (K:Nat) (h:K<=7):([.int .i64 0,.int .i64 0,.int .i64 16,.int .i64 0,.int .i64 0,.int .i64 2,.int .i64 0,.int .i64 2,.int .i64 4,.int .i64 1,.int .i64 0,.int .i64 1,.int .i64 0,.int .i64 1,.int .i64 0,.int .i64 1]:List AV)[K*2+1]?=some (.int .i64 (arK K)):=by
 have:K=0\/K=1\/K=2\/K=3\/K=4\/K=5\/K=6\/K=7:=by omega
 rcases this with rfl | rfl | rfl | rfl | rfl | rfl | rfl | rfl<;>rfl
theorem b8 (K:Nat) (h:K<=7):([.int .i64 0,.int .i64 0,.int .i64 16,.int .i64 0,.int .i64 0,.int .i64 2,.int .i64 0,.int .i64 2,.int .i64 4,.int .i64 1,.int .i64 0,.int .i64 1,.int .i64 0,.int .i64 1,.int .i64 0,.int .i64 1]:List AV)[K*2]?=some (.int .i64 (y7 K)):=by
 have:K=0\/K=1\/K=2\/K=3\/K=4\/K=5\/K=6\/K=7:=by omega
 rcases this with rfl | rfl | rfl | rfl | rfl | rfl | rfl | rfl<;>rfl
theorem zSO:∀(f:Fu),fitF f->∀(D left deep d' o g:Nat),d' < D->left < 2^40->deep<=9->∃left':Int,(okF f left deep=true->left'=((left - z6 f:Nat):Int))/\
  Go.Ab.Loc Pg Gl D 66 [encF f,.ptr d' o g 0,.int .i64 deep] [(d',o,(g,.cells [.int .i64 left]))] (.bool (okF f left deep)) [(d',o,(g,.cells [.int .i64 left']))]:=by
 refine Fu.ind' fun k n gs hrec=> ?_;intro hfit D left deep d' o g hd hl hdp;rw[fitF] at hfit;have hDd:¬d'=D:=by omega
 have hw:IntKind.i64.wrap ((left:Int) - 1)=(left:Int) - 1:=by
  simp[IntKind.wrap,IntKind.bits,IntKind.signed];omega
 have hnod:=zBQ k n gs;have hdep:xJ (.mk k n gs)=1+xD gs:=by rw[xJ]
 have hsh:zT (.mk k n gs)=(decide ((gs.length:Int)=arK k)&&(decide (min 1 (y7 k)<=n)&&(decide (n<=y7 k)&&xN gs))):=by rw[zT]
 -- the ways that answer false at once
 have fin:∀(left':Int),okF (.mk k n gs) left deep=false->(∀S0,S0 d' o=(g,.cells [.int .i64 left])->Rd (Loc Pg Gl) .im (RetM [.tmp 6] (.bool false) D S0 [(d',o,(g,.cells [.int .i64 left']))]) [.c c66] (stF 74 D (uY 0 [encF (.mk k n gs),.ptr d' o g 0,.int .i64 deep]) (fun _=>(0,.dead)) S0))->
   ∃left':Int,(okF (.mk k n gs) left deep=true->left'=((left - z6 (.mk k n gs):Nat):Int))/\Go.Ab.Loc Pg Gl D 66 [encF (.mk k n gs),.ptr d' o g 0,.int .i64 deep] [(d',o,(g,.cells [.int .i64 left]))] (.bool (okF (.mk k n gs) left deep)) [(d',o,(g,.cells [.int .i64 left']))]:=by
  intro left' hok h;refine ⟨left',by rw[hok];simp,?_⟩;rw[hok];refine y4 zR tok rfl rfl fun S hS=> ?_;exact h S (hS _ (yHD.2 rfl)).2
 have hw1:IntKind.i64.wrap (-1)= -1:=by decide
 by_cases h1:left=0
 ·refine fin (-1) (by simp[okF,hnod];omega) fun S0 hS=> ?_;subst h1;unfold c66;rw[zI];simp[hDd,hS,hw1]
 obtain ⟨L,hL⟩:∃L,left=L+1:=⟨left - 1,by omega⟩;have hwL:IntKind.i64.wrap ((left:Int) - 1)=(L:Int):=by rw[hw];omega
 by_cases h2:deep=9
 ·refine fin L (by simp[okF,hdep];omega) fun S0 hS=> ?_;subst h2;unfold c66;rw[zI];simp[hDd,hS,hwL]
 have h2':¬(8:Int) < deep:=by omega
 by_cases h3:k < 0
 ·refine fin L (by
   have:¬(gs.length:Int)=arK k:=by unfold arK;repeat (split;omega);omega
   simp[okF,hsh,this]) fun S0 hS=> ?_
  unfold c66;rw[zI];simp[hDd,hS,hwL,h2',h3]
 by_cases h4:7 < k
 ·refine fin L (by
   have:¬(gs.length:Int)=arK k:=by unfold arK;repeat (split;omega);omega
   simp[okF,hsh,this]) fun S0 hS=> ?_
  unfold c66;rw[zI];simp[hDd,hS,hwL,h2',h3,h4]
 obtain ⟨K,rfl⟩:∃K:Nat,k=K:=⟨k.toNat,by omega⟩;have h4':¬7 < K:=by omega
 have h4'':(K:Int) < 8:=by omega
 have far:=zGI K (by omega);have fmo:=b8 K (by omega);by_cases h5:(gs.length:Int)=arK K
 ·have hmin:(if y7 K < 1 then y7 K else 1)=min 1 (y7 K):=by split<;>omega
  by_cases h6:n < min 1 (y7 K)
  ·refine fin L (by simp[okF,hsh,show¬min 1 (y7 K)<=n by omega]) fun S0 hS=> ?_;unfold c66;rw[zI];simp[hDd,hS,hwL,h2',h3,h4,h4',h4'',far,fmo,h5,hmin,h6]
  by_cases h7:y7 K < n
  ·refine fin L (by simp[okF,hsh,show¬n<=y7 K by omega]) fun S0 hS=> ?_;unfold c66;rw[zI];simp[hDd,hS,hwL,h2',h3,h4,h4',h4'',far,fmo,h5,hmin,h6,h7]
  have hok:okF (.mk K n gs) left deep=okFs gs L deep:=by
   unfold okF okFs;rw[hnod,hdep,hsh,decide_eq_true h5,decide_eq_true (show min 1 (y7 K)<=n by omega),decide_eq_true (show n<=y7 K by omega),yGT,yGT,yGT];congr 1
   ·exact decide_eq_decide.2 (by omega)
   ·congr 1;exact decide_eq_decide.2 (by omega)
  obtain ⟨l2,hl2,hrd⟩:∃l2:Int,(okFs gs L deep=true->l2=((L - yA gs:Nat):Int))/\∀S0 (τ:Nat->AV) (ω:Nat->Ent),τ 1= .ptr d' o g 0->τ 2= .int .i64 deep->τ 61= .sl 3 (gs.map encF) .no->τ 62= .int .i64 gs.length->τ 63= .int .i64 ((0:Nat):Int)->
    Rd (Loc Pg Gl) .im (RetM [.tmp 6] (.bool (okFs gs L deep)) D S0 [(d',o,(g,.cells [.int .i64 l2]))]) [.lp c66_l0,.blk 0,.c bD] (stF 74 D τ ω (updS S0 d' o (g,.cells [.int .i64 L]))):=by
   have:=l127 D gs hfit.1 d' o g hd deep (by omega) (fun a ha=>hrec a ha (uS hfit.2 a ha)) gs.length 0 L (okFs gs L deep) (by simp) (by omega) (by simp);simpa using this
  refine ⟨l2,fun q=>by rw[hok] at q;rw[hl2 q,hnod];congr 1;omega,?_⟩;rw[hok];refine y4 zR tok rfl rfl fun S hS=> ?_;have hS:=(hS _ (yHD.2 rfl)).2;simp only at hS;unfold c66;rw[zI];simp[hDd,hS,hwL,h2',h3,h4,h4',h4'',far,fmo,h5,hmin,h6,h7];refine hrd S _ _ ?_ ?_ ?_ ?_ ?_;all_goals simp[h5]
 ·refine fin L (by simp[okF,hsh,h5]) fun S0 hS=> ?_;unfold c66;rw[zI];simp[hDd,hS,hwL,h2',h3,h4,h4',h4'',far,fmo,h5]
theorem zLG (f:Fu):okF f 20 1=isF f:=by
 unfold okF isF;congr 2;exact decide_eq_decide.2 (by omega)
theorem zSZ (f:Fu) (hf:fitF f) (D:Nat):Go.Ab.Loc Pg Gl D 33 [encF f] [] (.bool (isF f)) []:=by
 refine z0 zR tok rfl rfl fun S=> ?_;unfold c33;obtain ⟨l',_,hloc⟩:=zSO f hf (D+1) 20 1 D 3 1 (by omega) (by omega) (by omega);rw[zLG] at hloc;rw[zB f];simp;refine yE hloc (by simp[zB f]) ?_ (by simp) ?_
 ·intro m hm;rw[yHD] at hm;subst hm;simp
 simp
theorem xH {k n:Int} {gs:List Fu} (h:zT (.mk k n gs)=true):(gs.length:Int)=arK k/\min 1 (y7 k)<=n/\n<=y7 k/\∀a∈gs,zT a=true:=by
 rw[zT] at h;simp only[yHH,decide_eq_true_eq] at h;refine ⟨h.1,h.2.1,h.2.2.1,?_⟩;have:=h.2.2.2;clear h
 induction gs with
 | nil=>intro a ha;cases ha
 | cons b l ih=>
  rw[xN,yHH] at this;intro a ha;rcases yGX.1 ha with rfl | ha
  ·exact this.1
  ·exact ih this.2 a ha
theorem mY {f:Fu} (h:isF f=true):zT f=true:=by
 unfold isF at h;simp only[yHH] at h;exact h.2.2
end Go.Ab.Tab
/- Values: the data; the reference's left,light,Few,Nodes,order,Weighted,Sets,number,Compare,Same. -/
namespace Go.Ab.Tab
open Go Go.Ab
inductive Va where
 | mk (n:Int) (gs:List Va) (ws:List Int)
def Va.n:Va->Int | .mk n _ _=>n
def Va.gs:Va->List Va | .mk _ a _=>a
def Va.ws:Va->List Int | .mk _ _ w=>w
theorem Va.eta (v:Va):v= .mk v.n v.gs v.ws:=by cases v;rfl
mutual
theorem Va.ind' {P:Va->Prop} (h:∀n gs ws,(∀a∈gs,P a)->P (.mk n gs ws)):∀v,P v
 | .mk n gs ws=>h n gs ws (Va.inds h gs)
theorem Va.inds {P:Va->Prop} (h:∀n gs ws,(∀a∈gs,P a)->P (.mk n gs ws)):∀(l:List Va),∀a∈l,P a
 | [],_,ha=>by cases ha
 | b::l,a,ha=>by
  rcases yGX.1 ha with e | ha
  ·rw[e];exact Va.ind' h b
  ·exact Va.inds h l a ha
end
mutual
def encV:Va->AV
 | .mk n gs ws=> .agg [.int .i64 n,.sl 3 (zGM gs) .no,.sl 1 (ws.map (AV.int .i64)) .no]
def zGM:List Va->List AV
 | []=>[]
 | f::l=>encV f::zGM l
end
theorem cR:∀l,zGM l=l.map encV
 | []=>rfl
 | f::l=>by rw[zGM,cR l];rfl
theorem zG (n gs ws):encV (.mk n gs ws)= .agg [.int .i64 n,.sl 3 (gs.map encV) .no,.sl 1 (ws.map (AV.int .i64)) .no]:=by rw[encV,cR]
theorem zA (v:Va):encV v= .agg [.int .i64 v.n,.sl 3 (v.gs.map encV) .no,.sl 1 (v.ws.map (AV.int .i64)) .no]:=by
 have hx:=zG v.n v.gs v.ws;rwa [<-Va.eta] at hx
mutual
def zM:Va->Nat
 | .mk _ gs _=>1+zJ gs
def zJ:List Va->Nat
 | []=>0
 | f::l=>zM f+zJ l
end
theorem mS (f:Va):1<=zM f:=by cases f;rw[zM];omega
theorem tE:∀{l:List Va} {a:Va},a∈l->zM a<=zJ l
 | [],a,h=>by cases h
 | b::l,a,h=>by
  rw[zJ];rcases yGX.1 h with e | h
  ·rw[e];omega
  ·have:=tE h;omega
theorem sB:∀(l:List Va),l.length<=zJ l
 | []=>by simp
 | b::l=>by rw[zJ,yHE];have:=sB l;have:=mS b;omega
mutual
def fitV:Va->Prop
 | .mk _ gs ws=>(gs.length<=maxLen/\ws.length<=maxLen)/\nY gs
def nY:List Va->Prop
 | []=>True
 | f::l=>fitV f/\nY l
end
theorem yJ:∀{l:List Va},nY l->∀a∈l,fitV a
 | [],_,a,ha=>by cases ha
 | b::l,h,a,ha=>by
  rw[nY] at h;rcases yGX.1 ha with e | ha
  ·rw[e];exact h.1
  ·exact yJ h.2 a ha
theorem l104 (D:Nat) (n:Int) (gs:List Va) (ws:List Int) (hlen:gs.length<=maxLen) (hrec:∀a∈gs,∀(D m:Nat),1<=m->m < 2^62->Go.Ab.Loc Pg Gl D 30 [encV a,.int .i64 m] [] (.int .i64 ((m - zM a:Nat):Int)) []) (S):∀(j i m:Nat) (τ ω) (r:AV),i+j=gs.length->m < 2^62->
  τ 1= .int .i64 m->τ 2= .ptr D 2 1 0->τ 5= .int .i64 i->ω 2=(1,.cells [.int .i64 n,.sl 3 (gs.map encV) .no,.sl 1 (ws.map (AV.int .i64)) .no])->r= .int .i64 ((m - zJ (gs.drop i):Nat):Int)->
  Rd (Loc Pg Gl) .im (RetQ [.tmp 4] r S) [.lp c30_l0,.blk 0,.c bF] (stF 28 D τ ω S):=by
 intro j
 induction j with
 | zero=>
  intro i m τ ω r hi hm h1 h2 h5 w2 hr;refine zC c30_l0.eq_1 ?_;obtain rfl:i=gs.length:=by omega
  rw[yGY,zJ] at hr;have hmx:¬(m:Int) < 0:=by omega
  simp[h1,h2,h5,w2,bF,opf];simp[hr]
 | succ j ih=>
  intro i m τ ω r hi hm h1 h2 h5 w2 hr;refine zC c30_l0.eq_1 ?_;have hlt:i < gs.length:=by omega
  have hwr:=zF hlt hlen;have hd:gs.drop i=gs[i]::gs.drop (i+1):=yGU hlt;rw[hd,zJ] at hr;by_cases h0:0 < m
  ·simp[h1,h2,h5,w2,hlt,h0,zA gs[i]];refine zE (hrec gs[i] (yGW hlt) _ m h0 hm) (by simp[zA gs[i],h1]) ?_;simp[h1,h2,h5,w2,hwr];refine ih (i+1) (m - zM gs[i]) _ ω r (by omega) (by omega) ?_ ?_ ?_ w2 (by rw[hr];congr 2;omega);all_goals simp[h1,h2,h5]
  ·have e0:m=0:=by omega
   subst e0;simp[h1,h2,h5,w2,hlt,bF,opf];simp[hr]
theorem zIP:∀(v:Va),fitV v->∀(D m:Nat),1<=m->m < 2^62->Go.Ab.Loc Pg Gl D 30 [encV v,.int .i64 m] [] (.int .i64 ((m - zM v:Nat):Int)) []:=by
 refine Va.ind' fun n gs ws hrec=> ?_;intro hfit D m hm hm2;rw[fitV] at hfit;refine z0 zR tok rfl rfl fun S=> ?_;unfold c30;generalize hr:AV.int .i64 ((m - zM (.mk n gs ws):Nat):Int)=r;have hw:IntKind.i64.wrap ((m:Int) - 1)=((m - 1:Nat):Int):=by rw[<-zH (n:=m - 1) (by omega)];congr 1;omega
 rw[zG];simp[hw];refine l104 D n gs ws hfit.1.1 (fun a ha D m=>hrec a ha (yJ hfit.2 a ha) D m) S gs.length 0 (m - 1) _ _ r (by simp) (by omega) ?_ ?_ ?_ ?_ (by rw[<-hr,zM];congr 2;simp;omega);all_goals simp
mutual
def tO (m:Nat):Va->Bool
 | .mk _ gs ws=>oW m gs&&decide (ws.length<=m)
def oW (m:Nat):List Va->Bool
 | []=>true
 | f::l=>tO m f&&oW m l
end
theorem l105 (D:Nat) (m:Nat) (n:Int) (gs:List Va) (ws:List Int) (hlen:gs.length<=maxLen) (hrec:∀a∈gs,∀(D:Nat),Go.Ab.Loc Pg Gl D 31 [encV a,.int .i64 m] [] (.bool (tO m a)) []) (S):∀(j i:Nat) (τ ω) (r:AV),i+j=gs.length->
  τ 1= .int .i64 m->τ 2= .ptr D 2 1 0->τ 8= .sl 3 (gs.map encV) .no->τ 9= .int .i64 gs.length->τ 10= .int .i64 i->ω 2=(1,.cells [.int .i64 n,.sl 3 (gs.map encV) .no,.sl 1 (ws.map (AV.int .i64)) .no])->r= .bool (oW m (gs.drop i)&&decide (ws.length<=m))->
  Rd (Loc Pg Gl) .im (RetQ [.tmp 4] r S) [.lp c31_l0,.blk 0,.c zDU] (stF 24 D τ ω S):=by
 intro j
 induction j with
 | zero=>
  intro i τ ω r hi h1 h2 h8 h9 h10 w2 hr;refine zC c31_l0.eq_1 ?_;obtain rfl:i=gs.length:=by omega
  rw[yGY,oW,yGT] at hr;simp[h1,h2,h8,h9,h10,w2,zDU];simp[hr]
 | succ j ih=>
  intro i τ ω r hi h1 h2 h8 h9 h10 w2 hr;refine zC c31_l0.eq_1 ?_;have hlt:i < gs.length:=by omega
  have hwr:=zF hlt hlen;have hd:gs.drop i=gs[i]::gs.drop (i+1):=yGU hlt;rw[hd,oW] at hr;simp[h1,h2,h8,h9,h10,w2,hlt,zA gs[i]];refine zE (hrec gs[i] (yGW hlt) _) (by simp[zA gs[i],h1]) ?_;cases hb:tO m gs[i] with
  | false=>
   rw[hb,yGV,yGV] at hr;simp[hr]
  | true=>
   rw[hb,yGT] at hr;simp[h10,hwr];refine ih (i+1) _ _ r (by omega) ?_ ?_ ?_ ?_ ?_ ?_ hr;all_goals simp[h1,h2,h8,h9,h10,w2]
theorem zTA (m:Nat):∀(v:Va),fitV v->∀(D:Nat),Go.Ab.Loc Pg Gl D 31 [encV v,.int .i64 m] [] (.bool (tO m v)) []:=by
 refine Va.ind' fun n gs ws hrec=> ?_;intro hfit D;rw[fitV] at hfit;refine z0 zR tok rfl rfl fun S=> ?_;unfold c31;generalize hr:AV.bool (tO m (.mk n gs ws))=r;rw[tO] at hr;rw[zG];simp;refine l105 D m n gs ws hfit.1.1 (fun a ha D=>hrec a ha (yJ hfit.2 a ha) D) S gs.length 0 _ _ r (by simp) ?_ ?_ ?_ ?_ ?_ ?_ (by rw[<-hr];simp);all_goals simp
theorem zSL (v:Va) (hv:fitV v) (D m:Nat) (hm:m < 2^61):Go.Ab.Loc Pg Gl D 7 [encV v,.int .i64 m] [] (.bool (decide (zM v<=m)&&tO m v)) []:=by
 refine z0 zR tok rfl rfl fun S=> ?_;unfold c7;generalize hr:AV.bool (decide (zM v<=m)&&tO m v)=r;have hw:IntKind.i64.wrap ((m:Int)+1)=((m+1:Nat):Int):=by rw[<-zH (n:=m+1) (by omega)];rfl
 rw[zA v];simp[hw];refine zE (zIP v hv _ (m+1) (by omega) (by omega)) (by simp[zA v]) ?_;by_cases h:zM v<=m
 ·have h':0 < m+1 - zM v:=by omega
  rw[decide_eq_true h,yGT] at hr;simp[h'];refine zE (zTA m v hv _) (by simp[zA v]) ?_;simp[<-hr]
 ·have h':¬0 < m+1 - zM v:=by omega
  rw[decide_eq_false h,yGV] at hr;simp[h',<-hr]
def ordI (a b:Int):Int:=if a < b then -1 else if b < a then 1 else 0
theorem iJ (D:Nat) (a b:Int):Go.Ab.Loc Pg Gl D 93 [.int .i64 a,.int .i64 b] [] (.int .i64 (ordI a b)) []:=by
 refine z0 zR tok rfl rfl fun S=> ?_;unfold c93 ordI;by_cases h1:a < b
 ·simp[h1]
 by_cases h2:b < a
 ·simp[h1,h2]
 simp[h1,h2]
def wtd (k:Int):Bool:=decide (k=6) || decide (k=7)
theorem mG (D:Nat) (k:Int):Go.Ab.Loc Pg Gl D 76 [.int .i64 k] [] (.bool (wtd k)) []:=by
 refine z0 zR tok rfl rfl fun S=> ?_;unfold c76 wtd;by_cases h6:k=6
 ·simp[h6]
 by_cases h7:k=7
 ·simp[h7]
 simp[h6,h7]
def sets (k:Int):Bool:=decide (k=5) || wtd k
theorem dS (D:Nat) (k:Int):Go.Ab.Loc Pg Gl D 44 [.int .i64 k] [] (.bool (sets k)) []:=by
 refine z0 zR tok rfl rfl fun S=> ?_;unfold c44 sets;by_cases h5:k=5
 ·simp[h5]
 simp[h5];refine zE (mG _ k) (by simp) ?_;simp
def r8 (f:Fu) (n:Nat) (v:Va):Bool:=decide (0<=v.n)&&decide (v.n<=if f.k=0 then (n:Int) - 1 else if f.k=1 then f.n - 1 else if f.k=3 then 1 else 0)
theorem zSE (D:Nat) (f:Fu) (n:Nat) (hn:n<=100) (hfn:f.k=1->1<=f.n/\f.n<=16) (v:Va):Go.Ab.Loc Pg Gl D 90 [encF f,.int .i64 n,encV v] [] (.bool (r8 f n v)) []:=by
 refine z0 zR tok rfl rfl fun S=> ?_;unfold c90;generalize hr:AV.bool (r8 f n v)=r;unfold r8 at hr;rw[zB,zA];have hwn:IntKind.i64.wrap ((n:Int) - 1)=(n:Int) - 1:=by simp[IntKind.wrap,IntKind.bits,IntKind.signed];omega
 by_cases h0:f.k=0
 ·rw[if_pos h0] at hr;by_cases hv:0<=v.n
  ·simp[h0,hwn,hv,<-hr]
  ·simp[h0,hwn,hv,<-hr]
 by_cases h1:f.k=1
 ·rw[if_neg h0,if_pos h1] at hr;have hwf:IntKind.i64.wrap (f.n - 1)=f.n - 1:=by have:=hfn h1;simp[IntKind.wrap,IntKind.bits,IntKind.signed];omega
  by_cases hv:0<=v.n
  ·simp[h1,hwf,hv,<-hr]
  ·simp[h1,hwf,hv,<-hr]
 by_cases h3:f.k=3
 ·rw[if_neg h0,if_neg h1,if_pos h3] at hr;by_cases hv:0<=v.n
  ·simp[h3,hv,<-hr]
  ·simp[h3,hv,<-hr]
 ·rw[if_neg h0,if_neg h1,if_neg h3] at hr;by_cases hv:0<=v.n
  ·simp[h0,h1,h3,hv,<-hr]
  ·simp[h0,h1,h3,hv,<-hr]
end Go.Ab.Tab
/- Values: the reference's Compare,Same,gcd,weighed. -/
namespace Go.Ab.Tab
open Go Go.Ab
def yS:List Int->List Int->Int
 | [],[]=>0
 | [],_::_=> -1
 | _::_,[]=>1
 | a::l,b::m=>if a=b then yS l m else ordI a b
mutual
def cmpV:Va->Va->Int
 | .mk n gs ws,.mk n' gs' ws'=>if n=n' then (if yF gs gs'=0 then yS ws ws' else yF gs gs') else ordI n n'
def yF:List Va->List Va->Int
 | [],[]=>0
 | [],_::_=> -1
 | _::_,[]=>1
 | a::l,b::m=>if cmpV a b=0 then yF l m else cmpV a b
end
theorem tQ (m:List Va):yF [] m=ordI 0 m.length:=by
 cases m with
 | nil=>simp[yF,ordI]
 | cons b m=>rw[yF];simp[ordI]
theorem nP (m:List Va):yF m []=ordI m.length 0:=by
 cases m with
 | nil=>simp[yF,ordI]
 | cons b m=>rw[yF];unfold ordI;rw[yHE,if_neg (by omega),if_pos (by omega)]
theorem tR (m:List Int):yS [] m=ordI 0 m.length:=by
 cases m with
 | nil=>simp[yS,ordI]
 | cons b m=>rw[yS];simp[ordI]
theorem nR (m:List Int):yS m []=ordI m.length 0:=by
 cases m with
 | nil=>simp[yS,ordI]
 | cons b m=>rw[yS];unfold ordI;rw[yHE,if_neg (by omega),if_pos (by omega)]
theorem pM (a b i:Int):ordI (a - i) (b - i)=ordI a b:=by
 unfold ordI;by_cases h:a < b
 ·rw[if_pos h,if_pos (by omega)]
 ·rw[if_neg h,if_neg (by omega)];by_cases h2:b < a
  ·rw[if_pos h2,if_pos (by omega)]
  ·rw[if_neg h2,if_neg (by omega)]
section
variable (D:Nat) (n n':Int) (gs hs:List Va) (ws xs:List Int)
def two (n n':Int) (gs hs:List Va) (ws xs:List Int) (ω:Nat->Ent):Prop:=
 ω 2=(1,.cells [.int .i64 n,.sl 3 (gs.map encV) .no,.sl 1 (ws.map (AV.int .i64)) .no])/\ω 3=(1,.cells [.int .i64 n',.sl 3 (hs.map encV) .no,.sl 1 (xs.map (AV.int .i64)) .no])
theorem zUJ (h1:ws.length<=maxLen) (S):∀(j i:Nat) (τ ω) (r:AV),i+j=min ws.length xs.length->
  τ 2= .ptr D 2 1 0->τ 3= .ptr D 3 1 0->τ 7= .int .i64 i->two n n' gs hs ws xs ω->r= .int .i64 (yS (ws.drop i) (xs.drop i))->
  Rd (Loc Pg Gl) .im (RetQ [.tmp 4] r S) [.lp c75_l1,.blk 2,.c bC] (stF 103 D τ ω S):=by
 intro j
 induction j with
 | zero=>
  intro i τ ω r hi h2 h3 h7 w hr;have w2:=w.1;have w3:=w.2;refine zC c75_l1.eq_1 ?_;have hr2:r= .int .i64 (ordI ws.length xs.length):=by
   rw[hr];congr 1;rcases Nat.le_total ws.length xs.length with h | h
   ·rw[yHB (show ws.length<=i by omega),tR,yHA,<-pM ws.length xs.length i];congr 1<;>omega
   ·rw[yHB (show xs.length<=i by omega),nR,yHA,<-pM ws.length xs.length i];congr 1<;>omega
  by_cases hl:i < ws.length
  ·have hx:¬i < xs.length:=by omega
   simp[h2,h3,h7,w2,w3,hl,hx,bC];refine zE (iJ _ ws.length xs.length) (by simp) ?_;simp[hr2]
  ·simp[h2,h3,h7,w2,w3,hl,bC];refine zE (iJ _ ws.length xs.length) (by simp) ?_;simp[hr2]
 | succ j ih=>
  intro i τ ω r hi h2 h3 h7 w hr;have w2:=w.1;have w3:=w.2;refine zC c75_l1.eq_1 ?_;have hl:i < ws.length:=by omega
  have hx:i < xs.length:=by omega
  have hwr:=zF hl h1;rw[yGU hl,yGU hx,yS] at hr;by_cases he:ws[i]=xs[i]
  ·rw[if_pos he] at hr;simp[h2,h3,h7,w2,w3,hl,hx,he,hwr];refine ih (i+1) _ _ r (by omega) ?_ ?_ ?_ w hr;all_goals simp[h2,h3]
  ·rw[if_neg he] at hr;simp[h2,h3,h7,w2,w3,hl,hx,he];refine zZ (iJ _ ws[i] xs[i]) (by simp) ?_;simp[hr]
theorem zUK (hlen:gs.length<=maxLen) (h1:ws.length<=maxLen) (hrec:∀a∈gs,∀b (D:Nat),Go.Ab.Loc Pg Gl D 75 [encV a,encV b] [] (.int .i64 (cmpV a b)) []) (S):∀(j i:Nat) (τ ω) (r:AV),i+j=min gs.length hs.length->
  τ 2= .ptr D 2 1 0->τ 3= .ptr D 3 1 0->τ 5= .int .i64 i->two n n' gs hs ws xs ω->r= .int .i64 (if yF (gs.drop i) (hs.drop i)=0 then yS ws xs else yF (gs.drop i) (hs.drop i))->
  Rd (Loc Pg Gl) .im (RetQ [.tmp 4] r S) [.lp c75_l0,.blk 0,.c bB] (stF 103 D τ ω S):=by
 intro j
 induction j with
 | zero=>
  intro i τ ω r hi h2 h3 h5 w hr;have w2:=w.1;have w3:=w.2;refine zC c75_l0.eq_1 ?_;have hc:yF (gs.drop i) (hs.drop i)=ordI gs.length hs.length:=by
   rcases Nat.le_total gs.length hs.length with h | h
   ·rw[yHB (show gs.length<=i by omega),tQ,yHA,<-pM gs.length hs.length i];congr 1<;>omega
   ·rw[yHB (show hs.length<=i by omega),nP,yHA,<-pM gs.length hs.length i];congr 1<;>omega
  rw[hc] at hr;have fin:∀(τ':Nat->AV),τ' 2= .ptr D 2 1 0->τ' 3= .ptr D 3 1 0->Rd (Loc Pg Gl) .im (RetQ [.tmp 4] r S) [.c bB] (stF 103 D τ' ω S):=by
   intro τ' g2 g3;unfold bB;by_cases he:gs.length=hs.length
   ·have h0:ordI (gs.length:Int) hs.length=0:=by unfold ordI;rw[if_neg (by omega),if_neg (by omega)]
    rw[h0,if_pos rfl] at hr;simp[g2,g3,w2,w3,he];refine zUJ D n n' gs hs ws xs h1 S (min ws.length xs.length) 0 _ _ r (by simp) ?_ ?_ ?_ w (by rw[hr];simp);all_goals simp[g2,g3]
   ·have he':¬(gs.length:Int)=hs.length:=by omega
    have h0:¬ordI (gs.length:Int) hs.length=0:=by unfold ordI;split;omega;split;omega;omega
    rw[if_neg h0] at hr;simp[g2,g3,w2,w3,he'];refine zE (iJ _ gs.length hs.length) (by simp) ?_;simp[hr]
  by_cases hl:i < gs.length
  ·have hx:¬i < hs.length:=by omega
   simp[h2,h3,h5,w2,w3,hl,hx];exact fin _ (by simp[h2]) (by simp[h3])
  ·simp[h2,h3,h5,w2,w3,hl];exact fin _ (by simp[h2]) (by simp[h3])
 | succ j ih=>
  intro i τ ω r hi h2 h3 h5 w hr;have w2:=w.1;have w3:=w.2;refine zC c75_l0.eq_1 ?_;have hl:i < gs.length:=by omega
  have hx:i < hs.length:=by omega
  have hwr:=zF hl hlen;rw[yGU hl,yGU hx,yF] at hr;simp[h2,h3,h5,w2,w3,hl,hx,zA gs[i],zA hs[i]];refine zZ (hrec gs[i] (yGW hl) hs[i] _) (by simp[zA gs[i],zA hs[i]]) ?_;by_cases he:cmpV gs[i] hs[i]=0
  ·rw[if_pos he] at hr;simp[he,h5,hwr];refine ih (i+1) _ _ r (by omega) ?_ ?_ ?_ w hr;all_goals simp[h2,h3]
  ·rw[if_neg he,if_neg he] at hr;simp[he];simp[hr]
end
theorem zAN:∀(u:Va),fitV u->∀(v:Va) (D:Nat),Go.Ab.Loc Pg Gl D 75 [encV u,encV v] [] (.int .i64 (cmpV u v)) []:=by
 refine Va.ind' fun n gs ws hrec=> ?_;intro hfit v D;rw[fitV] at hfit;cases v with
 | mk n' hs xs=>
 refine z0 zR tok rfl rfl fun S=> ?_;unfold c75;generalize hr:AV.int .i64 (cmpV (.mk n gs ws) (.mk n' hs xs))=r;rw[cmpV] at hr;rw[zG,zG];by_cases h1:n=n'
 ·rw[if_pos h1] at hr;simp[h1];refine zUK D n' n' gs hs ws xs hfit.1.1 hfit.1.2 (fun a ha b D=>hrec a ha (yJ hfit.2 a ha) b D) S (min gs.length hs.length) 0 _ _ r (by simp) ?_ ?_ ?_ ⟨?_,?_⟩ (by rw[<-hr];simp);all_goals simp
 ·rw[if_neg h1] at hr;simp[h1];refine zE (iJ _ n n') (by simp) ?_;simp[<-hr]
theorem zSS (u v:Va) (hu:fitV u) (D:Nat):Go.Ab.Loc Pg Gl D 41 [encV u,encV v] [] (.bool (decide (cmpV u v=0))) []:=by
 refine z0 zR tok rfl rfl fun S=> ?_;unfold c41;rw[zA u,zA v];simp;refine zE (zAN u hu v _) (by simp[zA]) ?_;simp
end Go.Ab.Tab
/- Values: merging,in plain Lean; what the order of values is. -/
namespace Go.Ab.Tab
open Go Go.Ab
theorem oK {a b:Int}:ordI a b=0↔a=b:=by
 unfold ordI;split
 ·omega
 ·split<;>omega
theorem iR (a b:Int):ordI b a= - ordI a b:=by
 unfold ordI;by_cases h:a < b
 ·rw[if_neg (by omega),if_pos h,if_pos h];rfl
 ·by_cases h2:b < a
  ·rw[if_pos h2,if_neg h,if_pos h2]
  ·rw[if_neg h2,if_neg h,if_neg h,if_neg h2];rfl
theorem wR {a b:Int}:ordI a b < 0↔a < b:=by
 unfold ordI;split
 ·omega
 ·split<;>omega
theorem lF:∀{l m:List Int},yS l m=0↔l=m
 | [],[]=>by simp[yS]
 | [],_::_=>by simp[yS]
 | _::_,[]=>by simp[yS]
 | a::l,b::m=>by
  rw[yS];by_cases h:a=b
  ·rw[if_pos h,lF];simp[h]
  ·rw[if_neg h,oK];simp[h]
theorem lG:∀(l m:List Int),yS m l= - yS l m
 | [],[]=>by simp[yS]
 | [],_::_=>by simp[yS]
 | _::_,[]=>by simp[yS]
 | a::l,b::m=>by
  rw[yS,yS];by_cases h:a=b
  ·rw[if_pos h,if_pos h.symm,lG l m]
  ·rw[if_neg h,if_neg (Ne.symm h),iR]
theorem nQ:∀{l m k:List Int},yS l m < 0->yS m k < 0->yS l k < 0
 | [],[],_,h,_=>by simp[yS] at h
 | [],_::_,[],_,h=>by simp[yS] at h
 | [],_::_,_::_,_,_=>by simp[yS]
 | _::_,[],_,h,_=>by simp[yS] at h
 | _::_,_::_,[],_,h=>by simp[yS] at h
 | a::l,b::m,c::k,h1,h2=>by
  rw[yS] at h1 h2|-;by_cases e1:a=b
  ·subst e1;rw[if_pos rfl] at h1;by_cases e2:a=c
   ·rw[if_pos e2] at h2|-;exact nQ h1 h2
   ·rw[if_neg e2] at h2|-;exact h2
  ·rw[if_neg e1,wR] at h1;by_cases e2:b=c
   ·subst e2;rw[if_neg e1,wR];exact h1
   ·rw[if_neg e2,wR] at h2;rw[if_neg (by omega),wR];omega
theorem v9:∀{l m:List Va},(∀a∈l,∀b,cmpV a b=0↔a=b)->(yF l m=0↔l=m)
 | [],[],_=>by simp[yF]
 | [],_::_,_=>by simp[yF]
 | _::_,[],_=>by simp[yF]
 | a::l,b::m,h=>by
  rw[yF];have ha:=h a (by simp) b;by_cases e:cmpV a b=0
  ·rw[if_pos e,v9 fun c hc=>h c (by simp[hc])];simp[ha.1 e]
  ·rw[if_neg e];simp only[e,false_iff];intro q;injection q with q1 q2;exact e (ha.2 q1)
theorem uV:∀u v,cmpV u v=0↔u=v:=by
 refine Va.ind' fun n gs ws h v=> ?_;cases v with
 | mk n' hs xs=>
  rw[cmpV];by_cases e1:n=n'
  ·rw[if_pos e1];by_cases e2:yF gs hs=0
   ·rw[if_pos e2,lF];have:=(v9 h).1 e2;simp[e1,this]
   ·rw[if_neg e2];simp only[e2,false_iff];intro q;injection q with _ q _;exact e2 ((v9 h).2 q)
  ·rw[if_neg e1,oK];simp[e1]
theorem lE {l m:List Va}:yF l m=0↔l=m:=v9 fun a _=>uV a
theorem nO:∀{l:List Va} (m:List Va),(∀a∈l,∀b,cmpV b a= - cmpV a b)->yF m l= - yF l m
 | [],[],_=>by simp[yF]
 | [],_::_,_=>by simp[yF]
 | _::_,[],_=>by simp[yF]
 | a::l,b::m,h=>by
  rw[yF,yF,h a (by simp) b];by_cases e:cmpV a b=0
  ·rw[e,Int.neg_zero,if_pos rfl,if_pos rfl];exact nO m fun c hc=>h c (yHM _ hc)
  ·rw[if_neg e,if_neg (by omega)]
theorem zCZ:∀u v,cmpV v u= - cmpV u v:=by
 refine Va.ind' fun n gs ws h v=> ?_;cases v with
 | mk n' hs xs=>
  rw[cmpV,cmpV,nO hs h,lG ws xs];by_cases e1:n=n'
  ·rw[if_pos e1,if_pos e1.symm];by_cases e2:yF gs hs=0
   ·rw[if_pos e2,if_pos (by omega)]
   ·rw[if_neg e2,if_neg (by omega)]
  ·rw[if_neg e1,if_neg (Ne.symm e1),iR]
theorem qX:∀{l m k:List Va},(∀a∈l,∀b c,cmpV a b < 0->cmpV b c < 0->cmpV a c < 0)->yF l m < 0->yF m k < 0->yF l k < 0
 | [],[],_,_,h,_=>by simp[yF] at h
 | [],_::_,[],_,_,h=>by simp[yF] at h
 | [],_::_,_::_,_,_,_=>by simp[yF]
 | _::_,[],_,_,h,_=>by simp[yF] at h
 | _::_,_::_,[],_,_,h=>by simp[yF] at h
 | a::l,b::m,c::k,h,h1,h2=>by
  have tr:=h a (by simp) b c;rw[yF] at h1 h2|-;by_cases e1:cmpV a b=0
  ·obtain rfl:=(uV a b).1 e1;rw[if_pos e1] at h1;by_cases e2:cmpV a c=0
   ·rw[if_pos e2] at h2|-;exact qX (fun d hd=>h d (by simp[hd])) h1 h2
   ·rw[if_neg e2] at h2|-;exact h2
  ·rw[if_neg e1] at h1;by_cases e2:cmpV b c=0
   ·obtain rfl:=(uV b c).1 e2;rw[if_neg e1];exact h1
   ·rw[if_neg e2] at h2;have:=tr h1 h2;rw[if_neg (by omega)];exact this
theorem aP:∀a b c,cmpV a b < 0->cmpV b c < 0->cmpV a c < 0:=by
 refine Va.ind' fun n gs ws h v w h1 h2=> ?_;cases v with
 | mk n' hs xs=>
 cases w with
 | mk n'' ks ys=>
  rw[cmpV] at h1 h2|-;by_cases e1:n=n'
  ·subst e1;rw[if_pos rfl] at h1;by_cases e2:n=n''
   ·subst e2;rw[if_pos rfl] at h2|-;by_cases q1:yF gs hs=0
    ·obtain rfl:=lE.1 q1;rw[if_pos q1] at h1;by_cases q2:yF gs ks=0
     ·rw[if_pos q2] at h2|-;exact nQ h1 h2
     ·rw[if_neg q2] at h2|-;exact h2
    ·rw[if_neg q1] at h1;by_cases q2:yF hs ks=0
     ·obtain rfl:=lE.1 q2;rw[if_neg q1];exact h1
     ·rw[if_neg q2] at h2;have:=qX h h1 h2;rw[if_neg (by omega)];exact this
   ·rw[if_neg e2] at h2|-;exact h2
  ·rw[if_neg e1,wR] at h1;by_cases e2:n'=n''
   ·subst e2;rw[if_neg e1,wR];exact h1
   ·rw[if_neg e2,wR] at h2;rw[if_neg (by omega),wR];omega
theorem cV {a b:Va}:0 < cmpV a b↔cmpV b a < 0:=by have:=zCZ a b;omega
def ltV (a b:Va):Prop:=cmpV a b < 0
theorem ltV.trans {a b c:Va} (h:ltV a b) (k:ltV b c):ltV a c:=aP a b c h k
def insP (u:Va) (w:Int):List (Va×Int)->List (Va×Int)
 | []=>[(u,w)]
 | (a,x)::l=>if 0 < cmpV u a then (a,x)::insP u w l else if cmpV u a=0 then (a,x+w)::l else (u,w)::(a,x)::l
def posP (u:Va):List (Va×Int)->Nat
 | []=>0
 | (a,_)::l=>if 0 < cmpV u a then posP u l+1 else 0
def zipW (k:Int) (gs:List Va) (ws:List Int):List (Va×Int):=if wtd k then gs.zip ws else gs.map fun a=>(a,0)
def yX (l acc:List (Va×Int)):List (Va×Int):=l.foldl (fun acc p=>insP p.1 p.2 acc) acc
def gcdW (l:List Int):Nat:=l.foldl (fun g w=>Nat.gcd g w.toNat) 0
def divW (k:Int) (l:List Int):List Int:=if k=7 then l.map fun w=>w.tdiv (gcdW l) else l
def y2 (k:Int) (v:Va):Va:=
 let ps:=yX (zipW k v.gs v.ws) []
 .mk v.n (ps.map (·.1)) (if wtd k then divW k (ps.map (·.2)) else [])
theorem fW (u:Va):∀l,posP u l<=l.length
 | []=>by simp[posP]
 | (a,x)::l=>by
           rw[posP];split; · have:=fW u l;simp;omega
           ·simp
theorem zBF (u:Va):∀(l:List (Va×Int)) (i:Nat) (h:i < l.length),i < posP u l->0 < cmpV u l[i].1
 | [],i,h,_=>by simp at h
 | (a,x)::l,i,h,hi=>by
  rw[posP] at hi;split at hi
  ·rename_i hc;cases i with
   | zero=>exact hc
   | succ i=>exact zBF u l i (by simpa using h) (by omega)
  ·omega
theorem fX (u:Va):∀(l:List (Va×Int)) (h:posP u l < l.length),¬0 < cmpV u l[posP u l].1
 | [],h=>by simp at h
 | (a,x)::l,h=>by
  by_cases hc:0 < cmpV u a
  ·have e:posP u ((a,x)::l)=posP u l+1:=by rw[posP,if_pos hc]
   simp only[e] at h|-;have:=fX u l (by simpa using h);simpa using this
  ·have e:posP u ((a,x)::l)=0:=by rw[posP,if_neg hc]
   simp only[e];simpa using hc
theorem cJ (u:Va) (w:Int):∀(l:List (Va×Int)),(∀hl:posP u l < l.length,cmpV u l[posP u l].1≠0)->insP u w l=l.take (posP u l)++(u,w)::l.drop (posP u l)
 | [],_=>by simp[insP,posP]
 | (a,x)::l,h=>by
  by_cases hc:0 < cmpV u a
  ·have e:posP u ((a,x)::l)=posP u l+1:=by rw[posP,if_pos hc]
   rw[insP,if_pos hc,e,cJ u w l ?_]
   ·simp
   ·intro hl;have:=h (by rw[e];simpa using hl);simpa[e] using this
  ·have e:posP u ((a,x)::l)=0:=by rw[posP,if_neg hc]
   have h1:cmpV u a≠0:=by
    have:=h (by rw[e];simp);simpa[e] using this
   rw[insP,if_neg hc,if_neg h1,e];simp
theorem cI (u:Va) (w:Int):∀(l:List (Va×Int)) (hl:posP u l < l.length),cmpV u l[posP u l].1=0->insP u w l=l.take (posP u l)++(l[posP u l].1,l[posP u l].2+w)::l.drop (posP u l+1)
 | [],hl,_=>by simp at hl
 | (a,x)::l,hl,h=>by
  by_cases hc:0 < cmpV u a
  ·have e:posP u ((a,x)::l)=posP u l+1:=by rw[posP,if_pos hc]
   simp only[e] at hl h|-;rw[insP,if_pos hc,cI u w l (by simpa using hl) (by simpa using h)];simp
  ·have e:posP u ((a,x)::l)=0:=by rw[posP,if_neg hc]
   simp only[e] at hl h|-;have h1:cmpV u a=0:=by simpa using h
   rw[insP,if_neg hc,if_pos h1];simp
end Go.Ab.Tab
/- Values: the reference's Merged. -/
namespace Go.Ab.Tab
open Go Go.Ab
def wM (n:Int) (gs:List Va) (ws:List Int):List AV:=[.int .i64 n,.sl 3 (gs.map encV) .no,.sl 1 (ws.map (AV.int .i64)) .no]
def yK (t:Nat):Prop:=t=0\/t=3\/t=4\/t=5\/t=6\/t=7\/t=18\/t=19\/t=20
theorem zUG (D:Nat) (u:Va) (hu:fitV u) (acc:List (Va×Int)) (hacc:acc.length<=2^32) (n:Int) (W:AV) (g7:Nat) (Q:St->Prop) (k:List AI) (S):∀(j i:Nat) (c:Int) (τ ω),i+j=posP u acc->0 < c->
  τ 5= .ptr D 5 1 0->τ 7= .ptr D 7 g7 0->τ 8= .int .i64 i->τ 9= .int .i64 c->ω 5=(1,.cells [.int .i64 n,.sl 3 (acc.map fun p=>encV p.1) .tip,W])->ω 7=(g7,.cells (wM u.n u.gs u.ws))->
  (∀(τ':Nat->AV) (c':Int),(∀t,yK t->τ' t=τ t)->τ' 8= .int .i64 (posP u acc)->τ' 9= .int .i64 c'->(∀h:posP u acc < acc.length,c'=cmpV u acc[posP u acc].1)->(posP u acc=acc.length->0 < c')->Rd (Loc Pg Gl) .fr Q k (stF 130 D τ' ω S))->
  Rd (Loc Pg Gl) .fr Q (.lp c92_l0:: .blk 2::k) (stF 130 D τ ω S):=by
 have hple:=fW u acc;intro j
 induction j with
 | zero=>
  intro i c τ ω hi hc h5 h7 h8 h9 w5 w7 hk;obtain rfl:i=posP u acc:=by omega
  refine zC c92_l0.eq_1 ?_;by_cases hl:posP u acc < acc.length
  ·have hcmp:=fX u acc hl;obtain ⟨⟨a,x⟩,ha⟩:∃a,acc[posP u acc]=a:=⟨_,rfl⟩;rw[ha] at hcmp;simp[h5,h7,h8,h9,w5,w7,hl,hc,wM,ha,zA a];refine zZ (zAN u hu a _) (by simp[zA]) ?_;simp[h8,hcmp];refine zC c92_l0.eq_1 ?_;simp[h5,h8,w5,hl,hcmp];refine hk _ (cmpV u a) ?_ ?_ ?_ ?_ ?_
   ·rintro t (rfl | rfl | rfl | rfl | rfl | rfl | rfl | rfl | rfl)<;>simp
   ·simp[h8]
   ·simp
   ·intro _;rw[ha]
   ·intro e;omega
  ·simp[h5,h7,h8,h9,w5,w7,hl];refine hk _ c ?_ ?_ ?_ ?_ ?_
   ·rintro t (rfl | rfl | rfl | rfl | rfl | rfl | rfl | rfl | rfl)<;>simp
   ·simp[h8]
   ·simp[h9]
   ·intro h;exact absurd h hl
   ·intro _;exact hc
 | succ j ih=>
  intro i c τ ω hi hc h5 h7 h8 h9 w5 w7 hk;refine zC c92_l0.eq_1 ?_;have hl:i < acc.length:=by omega
  have hcmp:=zBF u acc i hl (by omega);obtain ⟨⟨a,x⟩,ha⟩:∃a,acc[i]=a:=⟨_,rfl⟩;rw[ha] at hcmp;have hwr:IntKind.i64.wrap ((i:Int)+1)=((i+1:Nat):Int):=by rw[<-zH (n:=i+1) (by omega)];rfl
  simp[h5,h7,h8,h9,w5,w7,hl,hc,wM,ha,zA a];refine zZ (zAN u hu a _) (by simp[zA]) ?_;simp[h8,hcmp,hwr];refine ih (i+1) (cmpV u a) _ ω (by omega) hcmp ?_ ?_ ?_ ?_ w5 w7 ?_
  case refine_5=>
   intro τ' c' q1 q2 q3 q4 q5;refine hk τ' c' (fun t ht=> ?_) q2 q3 q4 q5;rw[q1 t ht];rcases ht with rfl | rfl | rfl | rfl | rfl | rfl | rfl | rfl | rfl<;>simp
  all_goals simp[h5,h7]
def accC (acc:List (Va×Int)):List AV:=acc.map fun p=>encV p.1
theorem cE (D:Nat) (kd:Int) (hkw:wtd kd=true) (gs:List Va) (ws:List Int) (n:Int) (a5:AV) (B g p i:Nat) (hB:B < 3) (wl:List Int) (hp:p < wl.length) (hi:i < ws.length) (hov:0<=wl[p]+ws[i]/\wl[p]+ws[i] < 2^62) (Q:St->Prop) (k:List AI) (S) (τ ω)
  (h0:τ 0= .int .i64 kd) (h3:τ 3= .ptr D 3 1 0) (h5:τ 5= .ptr D 5 1 0) (h6:τ 6= .int .i64 i) (h8:τ 8= .int .i64 p) (w3:ω 3=(1,.cells (wM n gs ws))) (w5:ω 5=(1,.cells [.int .i64 n,a5,.own D B g 0 wl.length 1 false])) (wB:ω B=(g,.cells (wl.map (AV.int .i64))))
  (hk:∀(τ':Nat->AV) (ω':Nat->Ent),(∀t,yK t->τ' t=τ t)->(∀t,t≠B->ω' t=ω t)->ω' B=(g,.cells ((wl.set p (wl[p]+ws[i])).map (AV.int .i64)))->Rd (Loc Pg Gl) .fr Q k (stF 130 D τ' ω' S)):
  Rd (Loc Pg Gl) .fr Q (.c nS::k) (stF 130 D τ ω S):=by
 have hwa:IntKind.i64.wrap (wl[p]+ws[i])=wl[p]+ws[i]:=by simp[IntKind.wrap,IntKind.bits,IntKind.signed];omega
 have hwB:(wl.map (AV.int .i64))[p]?=some (.int .i64 wl[p]):=by rw[yHI,yHJ hp];rfl
 have hB5:¬B=5:=by omega
 have hB3:¬B=3:=by omega
 have hBn:B < 130:=by omega
 have hset:(wl.map (AV.int .i64)).take p++AV.int .i64 (wl[p]+ws[i])::(wl.map (AV.int .i64)).drop (p+1)=(wl.set p (wl[p]+ws[i])).map (AV.int .i64):=by
  rw[yHN,if_pos hp];simp
 have hp1:p+1<=wl.length:=hp;unfold nS;simp[h0];refine zE (mG _ kd) (by simp) ?_;rw[hkw];simp[h3,h5,h6,h8,w3,w5,wB,hB5,hB3,hBn,hp,hi,wM,hwa];rw[<-yHF,<-yHG] at hset;simp[hset,hp1];refine hk _ _ (fun t ht=> ?_) (fun t ht=> ?_) ?_
 ·rcases ht with rfl | rfl | rfl | rfl | rfl | rfl | rfl | rfl | rfl<;>simp
 ·simp[ht]
 ·simp[<-hset]
theorem bL (u:Va) (w:Int) (acc:List (Va×Int)) (c:Int) (hc:∀h:posP u acc < acc.length,c=cmpV u acc[posP u acc].1) (h:posP u acc=acc.length\/c < 0):
  insP u w acc=acc.take (posP u acc)++(u,w)::acc.drop (posP u acc):=by
 refine cJ u w acc fun hlt=> ?_;rcases h with h | h
 ·omega
 ·rw[<-hc hlt];omega
theorem zHB (u:Va) (w:Int) (acc:List (Va×Int)) (c:Int) (hc:∀h:posP u acc < acc.length,c=cmpV u acc[posP u acc].1) (h:posP u acc=acc.length\/c < 0):
  accC (insP u w acc)=(accC acc).take (posP u acc)++encV u::(accC acc).drop (posP u acc):=by
 rw[bL u w acc c hc h];unfold accC;simp only[yHK,List.map_cons,yHG,yHF]
theorem zHA (u:Va) (w:Int) (acc:List (Va×Int)) (hlt:posP u acc < acc.length) (h:cmpV u acc[posP u acc].1=0):accC (insP u w acc)=accC acc/\(insP u w acc).map (·.2)=(acc.map (·.2)).set (posP u acc) (acc[posP u acc].2+w):=by
 rw[cI u w acc hlt h];constructor
 ·have e:=yHO (posP u acc) (accC acc);rw[yGU (show posP u acc < (accC acc).length by simpa[accC] using hlt)] at e;simpa[accC] using e
 ·rw[yHN,if_pos (by simpa using hlt)];simp
def WtS (D:Nat) (acc:List (Va×Int)) (W:AV) (ω:Nat->Ent):Prop:=
 (acc= []/\W= .sl 1 [] .tip)\/(acc≠[]/\∃A g,A < 2/\W= .own D A g 0 acc.length 1 false/\ω A=(g,.cells ((acc.map (·.2)).map (AV.int .i64))))
theorem zLP (D:Nat) (kd:Int) (u:Va) (acc:List (Va×Int)) (hacc:acc.length<=2^32) (gs:List Va) (ws:List Int) (i:Nat) (n:Int) (W:AV) (g7:Nat) (Q:St->Prop) (k:List AI) (S) (c:Int) (τ ω)
  (hc:∀h:posP u acc < acc.length,c=cmpV u acc[posP u acc].1) (hc2:posP u acc=acc.length->0 < c)
  (h0:τ 0= .int .i64 kd) (h3:τ 3= .ptr D 3 1 0) (h5:τ 5= .ptr D 5 1 0) (h6:τ 6= .int .i64 i) (h7:τ 7= .ptr D 7 g7 0) (h8:τ 8= .int .i64 (posP u acc)) (h9:τ 9= .int .i64 c) (w3:ω 3=(1,.cells (wM n gs ws))) (w5:ω 5=(1,.cells [.int .i64 n,.sl 3 (accC acc) .tip,W])) (w7:ω 7=(g7,.cells (wM u.n u.gs u.ws)))
  (w:Int) (hw:if wtd kd then (∃h:i < ws.length,ws[i]=w) else w=0) (hW:if wtd kd then WtS D acc W ω else W= .sl 1 [] .tip) (hov:wtd kd=true->0<=w/\w < 2^61/\∀a∈acc,0<=a.2/\a.2 < 2^61)
  (hk:∀(τ':Nat->AV) (ω':Nat->Ent) (W':AV),(∀t,yK t->τ' t=τ t)->ω' 3=ω 3->ω' 4=ω 4->ω' 5=(1,.cells [.int .i64 n,.sl 3 (accC (insP u w acc)) .tip,W'])->(if wtd kd then WtS D (insP u w acc) W' ω' else W'= .sl 1 [] .tip)->Rd (Loc Pg Gl) .fr Q k (stF 130 D τ' ω' S)):
  Rd (Loc Pg Gl) .fr Q (.c lH::k) (stF 130 D τ ω S):=by
 have hple:=fW u acc;have hlen:(accC acc).length=acc.length:=by simp[accC]
 have hb:∀m:Nat,m<=2^32+1->m*56<=zD:=by intro m hm;unfold zD;omega
 have hb8:∀m:Nat,m<=2^32+1->m*8<=zD:=by intro m hm;unfold zD;omega
 -- where an equal element is met
 by_cases hnew:posP u acc=acc.length\/c < 0
 ·have hI:=zHB u w acc c hc hnew;have hN:=bL u w acc c hc hnew;obtain ⟨p,hp⟩:∃p,posP u acc=p:=⟨_,rfl⟩;rw[hp] at hI hN h8 hple hnew;have hb1:((accC acc).take p).length<=2^32:=by rw[yHP];omega
  have hb2:((accC acc).drop p).length<=2^32:=by rw[yHA];omega
  have hpl:p<=(accC acc).length:=by omega
  have hd:((p:Int)=(acc.length:Int))=True\/(((p:Int)=(acc.length:Int))=False/\(c < 0)=True):=by
   by_cases e:p=acc.length
   ·exact .inl (eq_true (by omega))
   ·exact .inr ⟨eq_false (by omega),eq_true (hnew.resolve_left e)⟩
  unfold lH;rcases hd with hd | ⟨hd,hd2⟩
  case' inl=>simp[h0,h5,h7,h8,h9,w5,w7,hd,wM,hlen,hple]
  case' inr=>simp[h0,h5,h7,h8,h9,w5,w7,hd,hd2,wM,hlen,hple]
  all_goals
   refine qM (xs:=[]) (z':=3) (t:= .nil) (ys:=(accC acc).take p) (r:=[]) (by simp) (by simp) (.inl rfl) (hb _ (by simpa using by omega)) (.inr rfl) ?_;simp[h7,w7,wM];refine qM (xs:=(accC acc).take p) (z':=3) (t:= .tip) (ys:=[encV u]) (r:=[]) (by simp) (by simp[zA u]) (.inl rfl) (hb _ (by simpa using by omega)) (.inl rfl) ?_;simp[h5,h8,w5,hpl];refine qM (xs:=(accC acc).take p++[encV u]) (z':=3) (t:= .tip) (ys:=(accC acc).drop p) (r:=[]) (by simp) (by simp) (.inl rfl) (hb _ (by simp;omega)) (.inl rfl) ?_;simp[h5,w5,h0];refine zE (mG _ kd) (by simp) ?_;cases hkd:wtd kd with
   | false=>
    rw[hkd] at hW hw hk;simp at hW hw;subst hW;subst hw;simp;unfold nS;simp[h0];refine zE (mG _ kd) (by simp) ?_;rw[hkd];simp;refine hk _ _ (.sl 1 [] .tip) (fun t ht=> ?_) ?_ ?_ ?_ rfl
    ·rcases ht with rfl | rfl | rfl | rfl | rfl | rfl | rfl | rfl | rfl<;>simp
    ·simp
    ·simp
    ·simp[hI]
   | true=>
    rw[hkd] at hW hw hk;simp only[if_true] at hW hw hk;obtain ⟨hi,hwi⟩:=hw;have hov:=hov hkd;obtain ⟨L,R,hLR,hLl⟩:∃L R:List Int,acc.map (·.2)=L++R/\L.length=p:=⟨(acc.map (·.2)).take p,(acc.map (·.2)).drop p,(yHO _ _).symm,by rw[yHP,yHL];omega⟩
    have hRl:p+R.length=acc.length:=by
     have:=congrArg List.length hLR;rw[yHL,List.length_append,hLl] at this;omega
    have hN2:(insP u w acc).map (·.2)=L++w::R:=by
     rw[hN,yHK,List.map_cons,yHG,yHF,hLR,<-hLl];simp
    have hF:∃h:p < (L++0::R).length,(L++0::R)[p]=0/\(L++0::R).set p ((L++0::R)[p]+ws[i])=(insP u w acc).map (·.2):=by
     refine ⟨by simp;omega,?_,?_⟩
     ·rw[yHQ (by omega)];simp[hLl]
     ·rw[hN2,yHQ (by omega),List.set_append_right (h:=by omega)];simp[hLl,hwi]
    have hFl:(L++0::R).length=acc.length+1:=by simp;omega
    have fin:∀(B g:Nat) (τ':Nat->AV) (ω':Nat->Ent),B < 2->(∀t,yK t->τ' t=τ t)->τ' 8= .int .i64 p->ω' 3=ω 3->ω' 4=ω 4->ω' 5=(1,.cells [.int .i64 n,.sl 3 (accC (insP u w acc)) .tip,.own D B g 0 (acc.length+1) 1 false])->
      ω' B=(g,.cells ((L++0::R).map (AV.int .i64)))->Rd (Loc Pg Gl) .fr Q (.c nS::k) (stF 130 D τ' ω' S):=by
     intro B g τ' ω' hB q1 q8 q3 q4 q5 qB;obtain ⟨e3,e4,e5⟩:=hF;refine cE D kd hkd gs ws n _ B g p i (by omega) _ e3 hi (by rw[e4,hwi];omega) Q k S τ' ω' (by rw[q1 0 (by simp[yK]),h0]) (by rw[q1 3 (by simp[yK]),h3]) (by rw[q1 5 (by simp[yK]),h5]) (by rw[q1 6 (by simp[yK]),h6]) q8 (by rw[q3,w3]) (by rw[hFl];exact q5) qB ?_;intro τ2 ω2 k1 k2 k3;refine hk τ2 ω2 _ (fun t ht=>(k1 t ht).trans (q1 t ht)) (by rw[k2 3 (by omega),q3]) (by rw[k2 4 (by omega),q4]) (by rw[k2 5 (by omega)];exact q5) (.inr ⟨?_,B,g,hB,?_,?_⟩)
     ·rw[hN];simp
     ·rw[hN];simp;omega
     ·rw[k3,e5]
    rcases hW with ⟨rfl,rfl⟩ | ⟨hne,A,g,hA,rfl,wA⟩
    ·have hp0:p=0:=by simpa using hple
     subst hp0;obtain rfl:L= []:=yGZ.1 hLl;obtain rfl:R= []:=yGZ.1 (by simpa using hRl);simp[h5,w5,h8];refine lP (z':=1) (r:=[]) (by simp) (by simp) ?_;simp;refine lQ (z':=1) (y0:= .int .i64 0) (ys:=[]) (r:=[]) 0 (by decide) (by simp) (by simp) (by simp[okEl]) (by simp[zD]) ?_;simp[h5,h8,w5,newC];refine qN (d':=D) (i:=0) (g:=(ω 0).1+1) (off:=0) (len:=1) (ea:=false) (r:=[]) (by simp) (by simp) ?_;simp[h5,w5];refine fin 0 ((ω 0).1+1) _ _ (by decide) (fun t ht=> ?_) ?_ ?_ ?_ ?_ ?_
     ·rcases ht with rfl | rfl | rfl | rfl | rfl | rfl | rfl | rfl | rfl<;>simp
     ·simp[h8]
     ·simp
     ·simp
     ·simp[hI]
     ·simp
    ·have hA2:A=0\/A=1:=by omega
     have hlp:0 < acc.length:=List.length_pos_iff.2 hne;rw[hLR] at wA;rcases hA2 with rfl | rfl
     ·-- the old weights lie in 0,the new ones in 1
      by_cases hp0:p=0
      ·subst hp0;obtain rfl:L= []:=yGZ.1 hLl;have hRl':R.length=acc.length:=by omega
       have hRn:R≠[]:=by intro e;subst e;simp at hRl;omega
       have hR0:0 < acc.length:=hlp;simp[h5,w5,h8];refine nU (z':=1) (r:=[(D,0)]) (by simp) (yv:= .own D 0 g 0 0 1 false) (by simp) (by exact (xE (l:=R) (by decide) (by simpa using wA) (by omega)).trans (by simp)) ?_;simp;refine uC (z':=1) (L:=[0]) (r:=[]) 1 (by decide) (by simp) (yv:= .sl 1 [.int .i64 0] .no) (by simp) (by simp) (by simp) (by simp[zD]) ?_;simp[h5,h8,w5,hlp];refine xM (i:=1) (g:=(ω 1).1+1) (L0:=[0]) (L:=R) (r:=[(D,0)]) (by decide) (by simp) (yv:= .own D 0 g 0 acc.length 1 false) (by simp) (by exact (xE (l:=R) (by decide) (by simpa using wA) (by omega)).trans (by rw[yHR,yHS (Nat.le_of_eq hRl')])) hRn (by simp) (hb8 _ (by simp;omega)) ?_;simp[h5,w5];refine fin 1 ((ω 1).1+1+1) _ _ (by decide) (fun t ht=> ?_) ?_ ?_ ?_ ?_ ?_
       ·rcases ht with rfl | rfl | rfl | rfl | rfl | rfl | rfl | rfl | rfl<;>simp
       ·simp[h8]
       ·simp
       ·simp
       ·simp[hI];try omega
       ·simp
      ·have hLn:L≠[]:=by intro e;subst e;simp at hLl;omega
       have hp0':0 < p:=by omega
       simp[h5,w5,h8,hple];refine uC (z':=1) (L:=L) (r:=[(D,0)]) 1 (by decide) (by simp) (yv:= .own D 0 g 0 p 1 false) (by simp) (by simpa[<-hLl] using xE (n:=130) (l:=L++R) (off:=0) (len:=p) (by decide) (by simpa using wA) (by simp;omega)) hLn (hb8 _ (by omega)) ?_;simp;refine xM (i:=1) (g:=(ω 1).1+1) (L0:=L) (L:=[0]) (r:=[]) (by decide) (by simp) (yv:= .sl 1 [.int .i64 0] .no) (by simp) (by simp) (by simp) (by simp) (hb8 _ (by simp;omega)) ?_;by_cases hpn:p=acc.length
       ·obtain rfl:R= []:=yGZ.1 (by omega);have e2:¬p < acc.length:=by omega
        simp[h5,h8,w5,hple,e2,hp0];refine qN (d':=D) (i:=1) (g:=(ω 1).1+1+1) (off:=0) (len:=L.length+1) (ea:=false) (r:=[]) (by simp) (by simp) ?_;simp[h5,w5];refine fin 1 ((ω 1).1+1+1) _ _ (by decide) (fun t ht=> ?_) ?_ ?_ ?_ ?_ ?_
        ·rcases ht with rfl | rfl | rfl | rfl | rfl | rfl | rfl | rfl | rfl<;>simp
        ·simp[h8]
        ·simp
        ·simp
        ·simp[hI];try omega
        ·simp
       ·have e2:p < acc.length:=by omega
        have hRn:R≠[]:=by intro e;subst e;simp at hRl;omega
        simp[h5,h8,w5,hple,e2,hp0];refine xM (i:=1) (g:=(ω 1).1+1+1) (L0:=L++[0]) (L:=R) (r:=[(D,0)]) (by decide) (by simp) (yv:= .own D 0 g p (acc.length - p) 1 false) (by simp) (by simpa[<-hLl,<-hRl] using xE (n:=130) (l:=L++R) (off:=p) (len:=acc.length - p) (by decide) (by simpa using wA) (by simp;omega)) hRn (by simp) (hb8 _ (by simp;omega)) ?_;simp[h5,w5];refine fin 1 ((ω 1).1+1+1+1) _ _ (by decide) (fun t ht=> ?_) ?_ ?_ ?_ ?_ ?_
        ·rcases ht with rfl | rfl | rfl | rfl | rfl | rfl | rfl | rfl | rfl<;>simp
        ·simp[h8]
        ·simp
        ·simp
        ·simp[hI];try omega
        ·simp
     ·-- the old weights lie in 1,the new ones in 0
      by_cases hp0:p=0
      ·subst hp0;obtain rfl:L= []:=yGZ.1 hLl;have hRl':R.length=acc.length:=by omega
       have hRn:R≠[]:=by intro e;subst e;simp at hRl;omega
       have hR0:0 < acc.length:=hlp;simp[h5,w5,h8];refine nU (z':=1) (r:=[(D,1)]) (by simp) (yv:= .own D 1 g 0 0 1 false) (by simp) (by exact (xE (l:=R) (by decide) (by simpa using wA) (by omega)).trans (by simp)) ?_;simp;refine uC (z':=1) (L:=[0]) (r:=[]) 0 (by decide) (by simp) (yv:= .sl 1 [.int .i64 0] .no) (by simp) (by simp) (by simp) (by simp[zD]) ?_;simp[h5,h8,w5,hlp];refine xM (i:=0) (g:=(ω 0).1+1) (L0:=[0]) (L:=R) (r:=[(D,1)]) (by decide) (by simp) (yv:= .own D 1 g 0 acc.length 1 false) (by simp) (by exact (xE (l:=R) (by decide) (by simpa using wA) (by omega)).trans (by rw[yHR,yHS (Nat.le_of_eq hRl')])) hRn (by simp) (hb8 _ (by simp;omega)) ?_;simp[h5,w5];refine fin 0 ((ω 0).1+1+1) _ _ (by decide) (fun t ht=> ?_) ?_ ?_ ?_ ?_ ?_
       ·rcases ht with rfl | rfl | rfl | rfl | rfl | rfl | rfl | rfl | rfl<;>simp
       ·simp[h8]
       ·simp
       ·simp
       ·simp[hI];try omega
       ·simp
      ·have hLn:L≠[]:=by intro e;subst e;simp at hLl;omega
       have hp0':0 < p:=by omega
       simp[h5,w5,h8,hple];refine uC (z':=1) (L:=L) (r:=[(D,1)]) 0 (by decide) (by simp) (yv:= .own D 1 g 0 p 1 false) (by simp) (by simpa[<-hLl] using xE (n:=130) (l:=L++R) (off:=0) (len:=p) (by decide) (by simpa using wA) (by simp;omega)) hLn (hb8 _ (by omega)) ?_;simp;refine xM (i:=0) (g:=(ω 0).1+1) (L0:=L) (L:=[0]) (r:=[]) (by decide) (by simp) (yv:= .sl 1 [.int .i64 0] .no) (by simp) (by simp) (by simp) (by simp) (hb8 _ (by simp;omega)) ?_;by_cases hpn:p=acc.length
       ·obtain rfl:R= []:=yGZ.1 (by omega);have e2:¬p < acc.length:=by omega
        simp[h5,h8,w5,hple,e2,hp0];refine qN (d':=D) (i:=0) (g:=(ω 0).1+1+1) (off:=0) (len:=L.length+1) (ea:=false) (r:=[]) (by simp) (by simp) ?_;simp[h5,w5];refine fin 0 ((ω 0).1+1+1) _ _ (by decide) (fun t ht=> ?_) ?_ ?_ ?_ ?_ ?_
        ·rcases ht with rfl | rfl | rfl | rfl | rfl | rfl | rfl | rfl | rfl<;>simp
        ·simp[h8]
        ·simp
        ·simp
        ·simp[hI];try omega
        ·simp
       ·have e2:p < acc.length:=by omega
        have hRn:R≠[]:=by intro e;subst e;simp at hRl;omega
        simp[h5,h8,w5,hple,e2,hp0];refine xM (i:=0) (g:=(ω 0).1+1+1) (L0:=L++[0]) (L:=R) (r:=[(D,1)]) (by decide) (by simp) (yv:= .own D 1 g p (acc.length - p) 1 false) (by simp) (by simpa[<-hLl,<-hRl] using xE (n:=130) (l:=L++R) (off:=p) (len:=acc.length - p) (by decide) (by simpa using wA) (by simp;omega)) hRn (by simp) (hb8 _ (by simp;omega)) ?_;simp[h5,w5];refine fin 0 ((ω 0).1+1+1+1) _ _ (by decide) (fun t ht=> ?_) ?_ ?_ ?_ ?_ ?_
        ·rcases ht with rfl | rfl | rfl | rfl | rfl | rfl | rfl | rfl | rfl<;>simp
        ·simp[h8]
        ·simp
        ·simp
        ·simp[hI];try omega
        ·simp
 ·have hlt:posP u acc < acc.length:=by omega
  have h0c:c=0:=by
   have h1:=hc hlt;have h2:=fX u acc hlt;omega
  have hcmp:cmpV u acc[posP u acc].1=0:=by rw[<-hc hlt];exact h0c
  obtain ⟨hA1,hA2⟩:=zHA u w acc hlt hcmp;have e1:¬(posP u acc:Int)=acc.length:=by omega
  have toJ:∀(P':Prop),(∀(τ':Nat->AV),(∀t,yK t->τ' t=τ t)->τ' 8=τ 8->Rd (Loc Pg Gl) .fr Q (.c nS::k) (stF 130 D τ' ω S))->Rd (Loc Pg Gl) .fr Q (.c lH::k) (stF 130 D τ ω S):=by
   intro _ hj;unfold lH;simp[h0,h5,h7,h8,h9,w5,w7,e1,h0c,wM,hlen];refine hj _ (fun t ht=> ?_) ?_
   ·rcases ht with rfl | rfl | rfl | rfl | rfl | rfl | rfl | rfl | rfl<;>simp
   ·simp
  refine toJ True fun τ' q1 q8=> ?_;cases hkd:wtd kd with
  | false=>
   rw[hkd] at hW hw hk;simp at hW hw;unfold nS;simp[q1 0 (by simp[yK]),h0];refine zE (mG _ kd) (by simp) ?_;rw[hkd];simp;refine hk _ ω W (fun t ht=> ?_) rfl rfl (by rw[hA1];exact w5) (by simpa using hW);rw[<-q1 t ht];rcases ht with rfl | rfl | rfl | rfl | rfl | rfl | rfl | rfl | rfl<;>simp
  | true=>
   rw[hkd] at hW hw hk;simp only[if_true] at hW hw hk;obtain ⟨hi,hwi⟩:=hw;have hov:=hov hkd;rcases hW with ⟨e,_⟩ | ⟨hne,A,g,hA,rfl,wA⟩
   ·rw[e] at hlt;simp at hlt
   ·have hm:=hov.2.2 _ (yGW hlt);have hg:(acc.map (·.2))[posP u acc]'(by simpa using hlt)=acc[posP u acc].2:=by simp
    refine cE D kd hkd gs ws n _ A g (posP u acc) i (by omega) (acc.map (·.2)) (by simpa using hlt) hi (by rw[hg,hwi];omega) Q k S τ' ω (by rw[q1 0 (by simp[yK]),h0]) (by rw[q1 3 (by simp[yK]),h3]) (by rw[q1 5 (by simp[yK]),h5]) (by rw[q1 6 (by simp[yK]),h6]) (by rw[q8,h8]) w3 (by rw[yHL];exact w5) wA ?_
    intro τ2 ω2 k1 k2 k3;refine hk τ2 ω2 _ (fun t ht=>(k1 t ht).trans (q1 t ht)) (by rw[k2 3 (by omega)]) (by rw[k2 4 (by omega)]) (by rw[k2 5 (by omega),hA1];exact w5) (.inr ⟨?_,A,g,hA,?_,?_⟩)
    ·intro e;have:=congrArg List.length hA2;rw[e] at this;simp at this;omega
    ·have:=congrArg List.length hA2;simp at this;rw[this]
    ·rw[k3,hA2,hg,hwi]
end Go.Ab.Tab
/- Values: the reference's gcd,weighed,Parts. -/
namespace Go.Ab.Tab
open Go Go.Ab
theorem l132 (D:Nat) (S):∀(m a b:Nat) (τ ω) (r:AV),b<=m->
  τ 0= .int .i64 a->τ 1= .int .i64 b->r= .int .i64 (Nat.gcd a b)->
  Rd (Loc Pg Gl) .im (RetQ [.tmp 4] r S) [.lp c111_l0,.blk 0,.c j5] (stF 12 D τ ω S):=by
 intro m
 induction m with
 | zero=>
  intro a b τ ω r hb h0 h1 hr;refine zC c111_l0.eq_1 ?_;obtain rfl:b=0:=by omega
  simp[h0,h1,j5];simp[hr]
 | succ m ih=>
  intro a b τ ω r hb h0 h1 hr;refine zC c111_l0.eq_1 ?_;by_cases hb0:b=0
  ·subst hb0;simp[h0,h1,j5];simp[hr]
  ·have e:(a:Int).tmod b=((a % b:Nat):Int):=by rw[Int.tmod_eq_emod_of_nonneg (by omega)];exact (yHT a b).symm
   have hlt:=Nat.mod_lt a (show 0 < b by omega);simp[h0,h1,hb0,e,-yHT];refine ih b (a % b) _ _ r (by omega) ?_ ?_ ?_
   case refine_3=>rw[hr,Nat.gcd_comm a b,Nat.gcd_rec b a,Nat.gcd_comm]
   all_goals simp
theorem zKO (D:Nat) (a b:Nat):Go.Ab.Loc Pg Gl D 111 [.int .i64 a,.int .i64 b] [] (.int .i64 (Nat.gcd a b)) []:=by
 refine z0 zR tok rfl rfl fun S=> ?_;unfold c111;generalize hr:AV.int .i64 (Nat.gcd a b)=r;simp;refine l132 D S b a b _ _ r (by omega) ?_ ?_ hr.symm;all_goals simp
def wOk:Int->List Int->Bool
 | _,[]=>true
 | s,w::l=>decide (1<=w)&&(decide (w<=1048576 - s)&&wOk (s+w) l)
def yI (k:Int) (v:Va):Bool:=if wtd k then wOk 0 v.ws&&(decide (v.ws.length=v.gs.length)&&(decide (k=6) || decide (0 < v.gs.length))) else decide (v.ws.length=0)
theorem l130 (D:Nat) (k:Int) (hk:wtd k=true) (n:Int) (gs:List Va) (ws:List Int) (hlen:ws.length<=maxLen) (S):∀(j i:Nat) (s:Int) (τ ω) (r:AV),i+j=ws.length->0<=s->s<=1048576->
  τ 0= .int .i64 k->τ 3= .ptr D 3 1 0->τ 5= .int .i64 s->τ 16= .sl 1 (ws.map (AV.int .i64)) .no->τ 17= .int .i64 ws.length->τ 18= .int .i64 i->ω 3=(1,.cells [.int .i64 n,.sl 3 (gs.map encV) .no,.sl 1 (ws.map (AV.int .i64)) .no])->
  r= .bool (wOk s (ws.drop i)&&(decide (ws.length=gs.length)&&(decide (k=6) || decide (0 < gs.length))))->
  Rd (Loc Pg Gl) .im (RetQ [.tmp 4] r S) [.lp c91_l0,.blk 0,.c gT] (stF 51 D τ ω S):=by
 intro j
 induction j with
 | zero=>
  intro i s τ ω r hi hs0 hs1 h0 h3 h5 h16 h17 h18 w3 hr;refine zC c91_l0.eq_1 ?_;obtain rfl:i=ws.length:=by omega
  rw[yGY,wOk,yGT] at hr;by_cases h:ws.length=gs.length
  ·rw[decide_eq_true h,yGT] at hr;by_cases h6:k=6
   ·simp[h0,h3,h5,h16,h17,h18,w3,gT,h,h6];simp[hr,h6]
   ·simp[h0,h3,h5,h16,h17,h18,w3,gT,h,h6];simp[hr,h6]
  ·have h':¬(ws.length:Int)=gs.length:=by omega
   rw[decide_eq_false h,yGV] at hr;simp[h0,h3,h5,h16,h17,h18,w3,gT,h',hr]
 | succ j ih=>
  intro i s τ ω r hi hs0 hs1 h0 h3 h5 h16 h17 h18 w3 hr;refine zC c91_l0.eq_1 ?_;have hlt:i < ws.length:=by omega
  have hwr:=zF hlt hlen;obtain ⟨w,hw⟩:∃w,ws[i]=w:=⟨_,rfl⟩;rw[yGU hlt,hw,wOk] at hr;have hws:IntKind.i64.wrap (1048576 - s)=1048576 - s:=by simp[IntKind.wrap,IntKind.bits,IntKind.signed];omega
  by_cases h1:w < 1
  ·rw[decide_eq_false (show¬1<=w by omega),yGV,yGV] at hr;simp[h0,h3,h5,h16,h17,h18,w3,hlt,hw,h1,hr]
  rw[decide_eq_true (show 1<=w by omega),yGT] at hr;by_cases h2:1048576 - s < w
  ·rw[decide_eq_false (show¬w<=1048576 - s by omega),yGV,yGV] at hr;simp[h0,h3,h5,h16,h17,h18,w3,hlt,hw,h1,hws,h2,hr]
  rw[decide_eq_true (show w<=1048576 - s by omega),yGT] at hr;have hwa:IntKind.i64.wrap (s+w)=s+w:=by simp[IntKind.wrap,IntKind.bits,IntKind.signed];omega
  simp[h0,h3,h5,h16,h17,h18,w3,hlt,hw,h1,hws,h2,hwa,hwr];refine ih (i+1) (s+w) _ _ r (by omega) (by omega) (by omega) ?_ ?_ ?_ ?_ ?_ ?_ w3 hr;all_goals simp[h0,h3,h5,h16,h17,h18]
theorem zSD (D:Nat) (k:Int) (v:Va) (hv:v.ws.length<=maxLen):Go.Ab.Loc Pg Gl D 91 [.int .i64 k,encV v] [] (.bool (yI k v)) []:=by
 refine z0 zR tok rfl rfl fun S=> ?_;unfold c91;generalize hr:AV.bool (yI k v)=r;unfold yI at hr;rw[zA v];simp;refine zE (mG _ k) (by simp) ?_;cases hk:wtd k with
 | false=>
  rw[hk] at hr;simp;simp at hr;by_cases h:v.ws= []
  ·simp[<-hr,h]
  ·have h':¬v.ws.length=0:=fun e=>h (yGZ.1 e);simp[<-hr,h]
 | true=>
  rw[hk,if_pos rfl] at hr;simp;refine l130 D k hk v.n v.gs v.ws hv S v.ws.length 0 0 _ _ r (by simp) (by omega) (by omega) ?_ ?_ ?_ ?_ ?_ ?_ ?_ (by rw[<-hr];simp);all_goals simp
def zQ (f:Fu) (v:Va):List Fu:=
 if f.k=0\/f.k=1 then [] else if f.k=2 then f.gs else if f.k=3 then (if v.n < 0\/1 < v.n then [] else (f.gs.drop v.n.toNat).take 1) else
 if f.k=4 then yHC f.n.toNat (f.gs.headD (.mk 0 0 [])) else yHC v.gs.length (f.gs.headD (.mk 0 0 []))
def xB (f:Fu) (v:Va):Bool:= !(decide (f.k=3)&&(decide (v.n < 0) || decide (1 < v.n)))&&decide ((zQ f v).length=v.gs.length)
def oI (f:Fu) (v:Va):AV:= .tup [.sl 3 ((zQ f v).map encF) .no,.bool (xB f v)]
theorem zUI (D:Nat) (k n:Int) (g:Fu) (v:Va) (N:Nat) (hN:N<=100) (S):∀(j i:Nat) (τ ω) (r:AV),i+j=N->
  τ 2= .ptr D 2 1 0->τ 3= .ptr D 3 1 0->τ 6= .sl 3 ((yHC i g).map encF) .tip->τ 60= .int .i64 N->τ 61= .int .i64 i->ω 2=(1,.cells [.int .i64 k,.int .i64 n,.sl 3 [encF g] .no])->ω 3=(1,.cells [.int .i64 v.n,.sl 3 (v.gs.map encV) .no,.sl 1 (v.ws.map (AV.int .i64)) .no])->
  r= .tup [.sl 3 ((yHC N g).map encF) .no,.bool (decide (N=v.gs.length))]->
  Rd (Loc Pg Gl) .im (RetQ [.tmp 4,.tmp 5] r S) [.lp c45_l0,.blk 3,.blk 0,.c tS] (stF 78 D τ ω S):=by
 intro j
 induction j with
 | zero=>
  intro i τ ω r hi h2 h3 h6 h60 h61 w2 w3 hr;refine zC c45_l0.eq_1 ?_;obtain rfl:i=N:=by omega
  simp[h2,h3,h6,h60,h61,w2,w3,tS];simp[hr];omega
 | succ j ih=>
  intro i τ ω r hi h2 h3 h6 h60 h61 w2 w3 hr;refine zC c45_l0.eq_1 ?_;have hlt:i < N:=by omega
  have hwr:IntKind.i64.wrap ((i:Int)+1)=((i+1:Nat):Int):=by rw[<-zH (n:=i+1) (by omega)];rfl
  have hle:(i+1)*40<=1099511627776:=by omega
  simp[h2,h3,h6,h60,h61,w2,w3,hlt,zB g,hle,hwr];refine ih (i+1) _ ω r (by omega) ?_ ?_ ?_ ?_ ?_ w2 w3 hr;all_goals simp[h2,h3,h6,h60,h61,yHU,zB g]
theorem zUH (D:Nat) (k n:Int) (g:Fu) (v:Va) (N:Nat) (hN:N<=2^32) (S):∀(j i:Nat) (τ ω) (r:AV),i+j=N->
  τ 2= .ptr D 2 1 0->τ 3= .ptr D 3 1 0->τ 6= .sl 3 ((yHC i g).map encF) .tip->τ 9= .int .i64 N->τ 10= .int .i64 i->ω 2=(1,.cells [.int .i64 k,.int .i64 n,.sl 3 [encF g] .no])->ω 3=(1,.cells [.int .i64 v.n,.sl 3 (v.gs.map encV) .no,.sl 1 (v.ws.map (AV.int .i64)) .no])->
  r= .tup [.sl 3 ((yHC N g).map encF) .no,.bool (decide (N=v.gs.length))]->
  Rd (Loc Pg Gl) .im (RetQ [.tmp 4,.tmp 5] r S) [.lp c45_l1,.blk 1,.blk 0,.c tS] (stF 78 D τ ω S):=by
 intro j
 induction j with
 | zero=>
  intro i τ ω r hi h2 h3 h6 h60 h61 w2 w3 hr;refine zC c45_l1.eq_1 ?_;obtain rfl:i=N:=by omega
  simp[h2,h3,h6,h60,h61,w2,w3,tS];simp[hr];omega
 | succ j ih=>
  intro i τ ω r hi h2 h3 h6 h60 h61 w2 w3 hr;refine zC c45_l1.eq_1 ?_;have hlt:i < N:=by omega
  have hwr:IntKind.i64.wrap ((i:Int)+1)=((i+1:Nat):Int):=by rw[<-zH (n:=i+1) (by omega)];rfl
  have hle:(i+1)*40<=1099511627776:=by omega
  simp[h2,h3,h6,h60,h61,w2,w3,hlt,zB g,hle,hwr];refine ih (i+1) _ ω r (by omega) ?_ ?_ ?_ ?_ ?_ w2 w3 hr;all_goals simp[h2,h3,h6,h60,h61,yHU,zB g]
theorem dR (D:Nat) (f:Fu) (hf:zT f=true) (v:Va) (hv:v.gs.length<=2^32):Go.Ab.Loc Pg Gl D 45 [encF f,encV v] [] (oI f v) []:=by
 refine z0 zR tok rfl rfl fun S=> ?_;unfold c45;generalize hr:oI f v=r;rw[zB f,zA v];cases f with
 | mk k n gs=>
 obtain ⟨hl,hn1,hn2,_⟩:=xH hf;simp only[Fu.k,Fu.n,Fu.gs];unfold oI xB zQ at hr;simp only[Fu.k,Fu.n,Fu.gs] at hr;by_cases h0:k=0
 ·subst h0;simp at hr;simp[tS,<-hr];omega
 by_cases h1:k=1
 ·subst h1;simp at hr;simp[tS,<-hr];omega
 by_cases h2:k=2
 ·subst h2;obtain ⟨a,b,rfl⟩:∃a b,gs= [a,b]:=by
   match gs,hl with
   | [a,b],_=>exact ⟨a,b,rfl⟩
  simp at hr;simp[tS,<-hr];omega
 by_cases h3:k=3
 ·subst h3;obtain ⟨a,b,rfl⟩:∃a b,gs= [a,b]:=by
   match gs,hl with
   | [a,b],_=>exact ⟨a,b,rfl⟩
  by_cases hv0:v.n < 0
  ·simp[hv0] at hr;simp[hv0,<-hr]
  by_cases hv1:1 < v.n
  ·simp[hv0,hv1] at hr;simp[hv0,hv1,<-hr]
  have:v.n=0\/v.n=1:=by omega
  have w1:IntKind.i64.wrap 1=1:=by decide
  have w2:IntKind.i64.wrap 2=2:=by decide
  rcases this with hn | hn
  ·simp[hn] at hr;simp[hn,w1,w2,tS,<-hr];omega
  ·simp[hn] at hr;simp[hn,w1,w2,tS,<-hr];omega
 have one:arK k=1->∃g,gs= [g]:=by
  intro e;rw[e] at hl
  match gs,hl with
  | [g],_=>exact ⟨g,rfl⟩
 by_cases h4:k=4
 ·subst h4;obtain ⟨g,rfl⟩:=one rfl;simp[y7] at hn1 hn2;obtain ⟨N,rfl⟩:∃N:Nat,n=N:=⟨n.toNat,by omega⟩;simp at hr;simp;refine zUI D 4 N g v N (by omega) S N 0 _ _ r (by simp) ?_ ?_ ?_ ?_ ?_ ?_ ?_ (by rw[<-hr];simp);all_goals simp
 ·simp[h0,h1,h2,h3,h4] at hr;have:k=5\/k=6\/k=7:=by
   unfold arK at hl;rw[if_neg (by omega)] at hl;split at hl
   ·omega
   ·rw[if_neg (by omega)] at hl;omega
  obtain ⟨g,rfl⟩:=one (by rcases this with rfl | rfl | rfl<;>rfl)
  simp[h0,h1,h2,h3,h4];refine zUH D k n g v v.gs.length hv S v.gs.length 0 _ _ r (by simp) ?_ ?_ ?_ ?_ ?_ ?_ ?_ (by rw[<-hr];simp);all_goals simp
end Go.Ab.Tab
/- Values: the reference's Merged,whole. -/
namespace Go.Ab.Tab
open Go Go.Ab
theorem jF (u:Va) (w:Int):∀(l:List (Va×Int)) (a:Va×Int),a∈insP u w l->a.2=w\/a∈l\/∃b∈l,a.2=b.2+w
 | [],a,h=>by rw[insP,yHD] at h;subst h;exact .inl rfl
 | (b,x)::l,a,h=>by
  rw[insP] at h;split at h
  ·rcases yGX.1 h with rfl | h
   ·exact .inr (.inl (by simp))
   ·rcases jF u w l a h with h | h | ⟨c,hc,e⟩
    ·exact .inl h
    ·exact .inr (.inl (by simp[h]))
    ·exact .inr (.inr ⟨c,by simp[hc],e⟩)
  ·split at h
   ·rcases yGX.1 h with rfl | h
    ·exact .inr (.inr ⟨(b,x),by simp,rfl⟩)
    ·exact .inr (.inl (by simp[h]))
   ·rcases yGX.1 h with rfl | h
    ·exact .inl rfl
    ·exact .inr (.inl h)
theorem jG (u:Va) (w:Int):∀(l:List (Va×Int)),(insP u w l).length<=l.length+1
 | []=>by simp[insP]
 | (b,x)::l=>by
           rw[insP];split; · have:=jG u w l;simp;omega
           ·split<;>simp
theorem zLR (u:Va) (w:Int) (l:List (Va×Int)):insP u w l≠[]:=by
 cases l with
 | nil=>simp[insP]
 | cons b l=>
        obtain ⟨b,x⟩:=b;rw[insP];split; · simp
        split<;>simp
def sumW:List Int->Int
 | []=>0
 | w::l=>w+sumW l
def zCC (acc:List (Va×Int)) (rest:List Int):Prop:=(∀w∈rest,0<=w)/\sumW rest<=1048576/\∀a∈acc,0<=a.2/\a.2+sumW rest<=1048576
theorem wE:∀{l:List Int},(∀w∈l,0<=w)->0<=sumW l
 | [],_=>by simp[sumW]
 | a::l,h=>by rw[sumW];have:=h a (by simp);have:=wE (l:=l) fun w hw=>h w (yHM _ hw);omega
theorem b9 {acc:List (Va×Int)} {w:Int} {rest:List Int} (u:Va) (h:zCC acc (w::rest)):zCC (insP u w acc) rest:=by
 obtain ⟨h1,h2,h3⟩:=h;rw[sumW] at h2;have hw:=h1 w (by simp);have hr:=wE (l:=rest) fun x hx=>h1 x (by simp[hx]);refine ⟨fun x hx=>h1 x (by simp[hx]),by omega,fun a ha=> ?_⟩;rcases jF u w acc a ha with e | ha | ⟨b,hb,e⟩
 ·omega
 ·have:=h3 a ha;rw[sumW] at this;omega
 ·have:=h3 b hb;rw[sumW] at this;omega
theorem xK {k:Int} (h:wtd k=false) (gs:List Va) (ws:List Int):zipW k gs ws=gs.map fun a=>(a,0):=by unfold zipW;rw[h];rfl
theorem yY {k:Int} (h:wtd k=true) (gs:List Va) (ws:List Int):zipW k gs ws=gs.zip ws:=by unfold zipW;rw[h];rfl
theorem zUF (D:Nat) (kd:Int) (gs:List Va) (hgl:gs.length<=2^32) (hgf:∀a∈gs,fitV a) (ws:List Int) (hws:wtd kd=true->ws.length=gs.length) (n:Int) (Q:St->Prop) (S)
  (hend:∀(acc:List (Va×Int)) (τ:Nat->AV) (ω:Nat->Ent) (W:AV),acc=yX (zipW kd gs ws) []->τ 0= .int .i64 kd->τ 4= .ptr D 4 1 0->τ 5= .ptr D 5 1 0->ω 4=(1,.cells [.int .i64 0,.sl 3 [] .tip,.sl 1 [] .tip])->ω 5=(1,.cells [.int .i64 n,.sl 3 (accC acc) .tip,W])->
   (if wtd kd then WtS D acc W ω else W= .sl 1 [] .tip)->(wtd kd=true->zCC acc [])->Rd (Loc Pg Gl) .fr Q [.c gS] (stF 130 D τ ω S)):
  ∀(j i:Nat) (acc:List (Va×Int)) (τ:Nat->AV) (ω:Nat->Ent) (W:AV),i+j=gs.length->acc.length<=i->yX ((zipW kd gs ws).drop i) acc=yX (zipW kd gs ws) []->(wtd kd=true->zCC acc (ws.drop i))->
  τ 0= .int .i64 kd->τ 3= .ptr D 3 1 0->τ 4= .ptr D 4 1 0->τ 5= .ptr D 5 1 0->τ 18= .sl 3 (gs.map encV) .no->τ 19= .int .i64 gs.length->τ 20= .int .i64 i->
  ω 3=(1,.cells (wM n gs ws))->ω 4=(1,.cells [.int .i64 0,.sl 3 [] .tip,.sl 1 [] .tip])->ω 5=(1,.cells [.int .i64 n,.sl 3 (accC acc) .tip,W])->(if wtd kd then WtS D acc W ω else W= .sl 1 [] .tip)->
  Rd (Loc Pg Gl) .fr Q [.lp c92_l1,.blk 0,.c gS] (stF 130 D τ ω S):=by
 have hzl:(zipW kd gs ws).length=gs.length:=by
  cases hk:wtd kd with
  | false=>rw[xK hk];simp
  | true=>rw[yY hk];simp[hws hk]
 intro j
 induction j with
 | zero=>
  intro i acc τ ω W hi hal hf hfit h0 h3 h4 h5 h18 h19 h20 w3 w4 w5 hW;refine zC c92_l1.eq_1 ?_;obtain rfl:i=gs.length:=by omega
  rw[yHB (by omega)] at hf;simp[h18,h19,h20];refine hend acc _ _ W hf ?_ ?_ ?_ w4 w5 hW ?_
  ·simp[h0]
  ·simp[h4]
  ·simp[h5]
  ·intro hk;have:=hfit hk;rwa [yHB (by rw[hws hk];omega)] at this
 | succ j ih=>
  intro i acc τ ω W hi hal hf hfit h0 h3 h4 h5 h18 h19 h20 w3 w4 w5 hW;refine zC c92_l1.eq_1 ?_;have hlt:i < gs.length:=by omega
  have hwr:IntKind.i64.wrap ((i:Int)+1)=((i+1:Nat):Int):=by rw[<-zH (n:=i+1) (by omega)];rfl
  obtain ⟨w,hw,hz⟩:∃w:Int,(if wtd kd then (∃h:i < ws.length,ws[i]=w) else w=0)/\(zipW kd gs ws).drop i=(gs[i],w)::(zipW kd gs ws).drop (i+1):=by
   rw[yGU (by omega)];cases hk:wtd kd with
   | false=>exact ⟨0,by simp,by simp[xK hk]⟩
   | true=>
    have hlw:i < ws.length:=by rw[hws hk];exact hlt
    exact ⟨ws[i],by simp[hlw],by simp[yY hk]⟩
  rw[hz] at hf;have hfit2:wtd kd=true->zCC (insP gs[i] w acc) (ws.drop (i+1))/\0<=w/\w < 2^61/\∀a∈acc,0<=a.2/\a.2 < 2^61:=by
   intro hk;rw[hk,if_pos rfl] at hw;obtain ⟨hlw,hwi⟩:=hw;have hq:=hfit hk;rw[yGU hlw,hwi] at hq;refine ⟨b9 gs[i] hq,?_⟩;obtain ⟨q1,q2,q3⟩:=hq;have hs:=wE (l:=ws.drop (i+1)) fun x hx=>q1 x (by simp[hx]);rw[sumW] at q2;have hw0:=q1 w (by simp);refine ⟨hw0,by omega,fun a ha=> ?_⟩;have:=q3 a ha;rw[sumW] at this;omega
  have hu:=hgf gs[i] (yGW hlt);simp[h0,h3,h4,h5,h18,h19,h20,hlt,zA gs[i]];have hal2:acc.length<=2^32:=by omega
  have step:∀(τ':Nat->AV) (g7:Nat) (ω':Nat->Ent),(∀t,t=0\/t=3\/t=4\/t=5\/t=18\/t=19\/t=20->τ' t=τ t)->τ' 6= .int .i64 i->τ' 7= .ptr D 7 g7 0->τ' 8= .int .i64 ((0:Nat):Int)->τ' 9= .int .i64 1->(∀t,t≠7->ω' t=ω t)->ω' 7=(g7,.cells (wM gs[i].n gs[i].gs gs[i].ws))->
    Rd (Loc Pg Gl) .fr Q [.lp c92_l0,.blk 2,.c lH,.blk 1,.c zDC,.lp c92_l1,.blk 0,.c gS] (stF 130 D τ' ω' S):=by
   intro τ' g7 ω' q1 q6 q7 q8 q9 q10 q11;have hW':if wtd kd then WtS D acc W ω' else W= .sl 1 [] .tip:=by
    cases hk:wtd kd with
    | false=>rw[hk] at hW;exact hW
    | true=>
     rw[hk] at hW;rcases hW with hW | ⟨hne,A,g,hA,e,wA⟩
     ·exact .inl hW
     ·exact .inr ⟨hne,A,g,hA,e,by rw[q10 A (by omega)];exact wA⟩
   refine zUG D gs[i] hu acc hal2 n W g7 Q _ S (posP gs[i] acc) 0 1 τ' ω' (by simp) (by omega) (by rw[q1 5 (by simp),h5]) q7 q8 q9 (by rw[q10 5 (by omega)];exact w5) q11 ?_;intro τ2 c k1 k2 k3 k4 k5;refine zLP D kd gs[i] acc hal2 gs ws i n W g7 Q _ S c τ2 ω' k4 k5 ?_ ?_ ?_ ?_ ?_ k2 k3 (by rw[q10 3 (by omega)];exact w3) (by rw[q10 5 (by omega)];exact w5) q11 w hw hW' (fun hk=>(hfit2 hk).2) ?_
   ·rw[k1 0 (by simp[yK]),q1 0 (by simp),h0]
   ·rw[k1 3 (by simp[yK]),q1 3 (by simp),h3]
   ·rw[k1 5 (by simp[yK]),q1 5 (by simp),h5]
   ·rw[k1 6 (by simp[yK]),q6]
   ·rw[k1 7 (by simp[yK]),q7]
   intro τ3 ω3 W3 m1 m2 m3 m4 m5;have g0:∀t,t=0\/t=3\/t=4\/t=5\/t=18\/t=19\/t=20->τ3 t=τ t:=by
    intro t ht;have hkt:yK t:=by rcases ht with rfl | rfl | rfl | rfl | rfl | rfl | rfl<;>simp[yK]
    rw[m1 t hkt,k1 t hkt,q1 t ht]
   unfold zDC;simp[g0 20 (by simp),h20,hwr];refine ih (i+1) (insP gs[i] w acc) _ _ W3 (by omega) (by have:=jG gs[i] w acc;omega) hf (fun hk=>(hfit2 hk).1) ?_ ?_ ?_ ?_ ?_ ?_ ?_ (by rw[m2,q10 3 (by omega)];exact w3) (by rw[m3,q10 4 (by omega)];exact w4) m4 m5
   ·simp[g0 0 (by simp),h0]
   ·simp[g0 3 (by simp),h3]
   ·simp[g0 4 (by simp),h4]
   ·simp[g0 5 (by simp),h5]
   ·simp[g0 18 (by simp),h18]
   ·simp[g0 19 (by simp),h19]
   ·simp
  refine step _ ((ω 7).1+1) _ ?_ ?_ ?_ ?_ ?_ ?_ ?_
  ·rintro t (rfl | rfl | rfl | rfl | rfl | rfl | rfl)<;>simp
  ·simp
  ·simp
  ·simp
  ·simp
  ·intro t ht;simp[ht]
  ·simp[wM]
def xC (g:Nat) (l:List Int):Nat:=l.foldl (fun g w=>Nat.gcd g w.toNat) g
theorem zUE (D:Nat) (A g:Nat) (hA:A < 2) (wl:List Int) (hpos:∀w∈wl,0<=w) (hwl:wl.length<=2^32+1) (a5:AV) (n:Int) (Q:St->Prop) (k:List AI) (S) (ω) (wA:ω A=(g,.cells (wl.map (AV.int .i64)))):
  ∀(j i:Nat) (gc:Nat) (τ:Nat->AV),i+j=wl.length->τ 10= .int .i64 gc->τ 101= .own D A g 0 wl.length 1 false->τ 102= .int .i64 wl.length->τ 103= .int .i64 i->
  (∀τ':Nat->AV,(∀t,t=4\/t=5->τ' t=τ t)->τ' 10= .int .i64 (xC gc (wl.drop i))->Rd (Loc Pg Gl) .fr Q k (stF 130 D τ' ω S))->
  Rd (Loc Pg Gl) .fr Q (.lp c92_l2:: .blk 4::k) (stF 130 D τ ω S):=by
 have hAn:A < 130:=by omega
 intro j
 induction j with
 | zero=>
  intro i gc τ hi h10 h101 h102 h103 hk;refine zC c92_l2.eq_1 ?_;obtain rfl:i=wl.length:=by omega
  rw[yGY] at hk;simp[h10,h101,h102,h103];refine hk _ (fun t ht=> ?_) ?_
  ·rcases ht with rfl | rfl<;>simp
  ·simp[h10,xC]
 | succ j ih=>
  intro i gc τ hi h10 h101 h102 h103 hk;refine zC c92_l2.eq_1 ?_;have hlt:i < wl.length:=by omega
  have hwr:IntKind.i64.wrap ((i:Int)+1)=((i+1:Nat):Int):=by rw[<-zH (n:=i+1) (by omega)];rfl
  have hw0:=hpos _ (yGW hlt);obtain ⟨w,hw⟩:∃w:Nat,wl[i]=w:=⟨wl[i].toNat,by omega⟩;have hwA:(wl.map (AV.int .i64))[i]?=some (.int .i64 w):=by rw[yHI,yHJ hlt,hw];rfl
  simp[h10,h101,h102,h103,hlt,wA,hAn,hwA,hw];refine zE (zKO _ gc w) (by simp) ?_;simp[h103,hwr];refine ih (i+1) (Nat.gcd gc w) _ (by omega) ?_ ?_ ?_ ?_ ?_
  case refine_5=>
   intro τ' q1 q2;refine hk τ' (fun t ht=> ?_) ?_
   ·rw[q1 t ht];rcases ht with rfl | rfl<;>simp
   ·rw[q2,yGU hlt,hw];rfl
  all_goals simp[h101,h102]
theorem zUD (D:Nat) (A g:Nat) (hA:A < 2) (gc:Nat) (hgc:0 < gc) (wl0:List Int) (hpos:∀w∈wl0,0<=w/\w < 2^62) (hwl:wl0.length<=2^32+1) (a5:AV) (n:Int) (Q:St->Prop) (k:List AI) (S):
  ∀(j i:Nat) (τ:Nat->AV) (ω:Nat->Ent),i+j=wl0.length->τ 5= .ptr D 5 1 0->τ 10= .int .i64 gc->τ 113= .int .i64 wl0.length->τ 114= .int .i64 i->ω 5=(1,.cells [.int .i64 n,a5,.own D A g 0 wl0.length 1 false])->
  ω A=(g,.cells (((wl0.take i).map (fun w=>w.tdiv gc)++wl0.drop i).map (AV.int .i64)))->
  (∀(τ':Nat->AV) (ω':Nat->Ent),(∀t,t=4\/t=5->τ' t=τ t)->(∀t,t≠A->ω' t=ω t)->ω' A=(g,.cells ((wl0.map fun w=>w.tdiv gc).map (AV.int .i64)))->Rd (Loc Pg Gl) .fr Q k (stF 130 D τ' ω' S))->
  Rd (Loc Pg Gl) .fr Q (.lp c92_l3:: .blk 6::k) (stF 130 D τ ω S):=by
 have hAn:A < 130:=by omega
 have hA5:¬A=5:=by omega
 intro j
 induction j with
 | zero=>
  intro i τ ω hi h5 h10 h113 h114 w5 wA hk;refine zC c92_l3.eq_1 ?_;obtain rfl:i=wl0.length:=by omega
  rw[yGY,List.take_length,List.append_nil] at wA;simp[h5,h10,h113,h114];refine hk _ ω (fun t ht=> ?_) (fun _ _=>rfl) wA;rcases ht with rfl | rfl<;>simp
 | succ j ih=>
  intro i τ ω hi h5 h10 h113 h114 w5 wA hk;refine zC c92_l3.eq_1 ?_;have hlt:i < wl0.length:=by omega
  have hwr:IntKind.i64.wrap ((i:Int)+1)=((i+1:Nat):Int):=by rw[<-zH (n:=i+1) (by omega)];rfl
  have hw0:=hpos _ (yGW hlt);have hg0:¬(gc:Int)=0:=by omega
  have hq:IntKind.i64.wrap ((wl0[i]).tdiv gc)=(wl0[i]).tdiv gc:=by
   have h1:0<=(wl0[i]).tdiv gc:=Int.tdiv_nonneg hw0.1 (by omega);have h2:(wl0[i]).tdiv gc<=wl0[i]:=by
    rw[Int.tdiv_eq_ediv_of_nonneg hw0.1];exact Int.ediv_le_self _ hw0.1
   simp[IntKind.wrap,IntKind.bits,IntKind.signed];omega
  obtain ⟨cur,hcur⟩:∃cur:List Int,(wl0.take i).map (fun w=>w.tdiv gc)++wl0.drop i=cur:=⟨_,rfl⟩;rw[hcur] at wA;have hcl:cur.length=wl0.length:=by rw[<-hcur];simp;omega
  have hci:cur[i]?=some wl0[i]:=by
   rw[<-hcur,List.getElem?_append_right (by simp;omega)];simp[show min i wl0.length=i by omega]
  have hwA:(cur.map (AV.int .i64))[i]?=some (.int .i64 wl0[i]):=by rw[yHI,hci];rfl
  have hi1:i+1<=cur.length:=by omega
  have hgc0:¬gc=0:=by omega
  have hi2:i+1<=wl0.length:=hlt;have hci2:cur[i]'(by omega)=wl0[i]:=by rw[yHJ (by omega)] at hci;exact Option.some.inj hci
  have hnew:(cur.take i++(wl0[i]).tdiv gc::cur.drop (i+1))=(wl0.take (i+1)).map (fun w=>w.tdiv gc)++wl0.drop (i+1):=by
   have ht:((wl0.take i).map (fun w=>w.tdiv gc)).length=i:=by simp;omega
   have e1:cur.take i=(wl0.take i).map (fun w=>w.tdiv gc):=by rw[<-hcur];exact List.take_left' ht
   have e2:cur.drop i=wl0.drop i:=by rw[<-hcur];exact List.drop_left' ht
   have e3:cur.drop (i+1)=wl0.drop (i+1):=by
    rw[<-yHV,e2,yHV]
   rw[e1,e3,List.take_succ_eq_append_getElem hlt,yHK,List.append_assoc];rfl
  simp[h5,h10,h113,h114,hlt,w5,wA,hAn,hA5,hcl,hci2,hg0,hgc0,hq,hi1,hi2,hwr];rw[<-yHG,<-yHF];refine ih (i+1) _ _ (by omega) ?_ ?_ ?_ ?_ ?_ ?_ ?_
  case refine_7=>
   intro τ' ω' q1 q2 q3;refine hk τ' ω' (fun t ht=> ?_) (fun t ht=> ?_) q3
   ·rw[q1 t ht];rcases ht with rfl | rfl<;>simp
   ·rw[q2 t ht];simp[ht]
  case refine_6=>rw[<-hnew];simp
  case refine_5=>simp[Ne.symm hA5,w5]
  all_goals simp[h5,h10,h113]
end Go.Ab.Tab
