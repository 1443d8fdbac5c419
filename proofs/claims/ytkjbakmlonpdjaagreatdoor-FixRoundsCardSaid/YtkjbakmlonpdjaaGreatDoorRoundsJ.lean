/- logic's checker, at valid formulas. -/
import Derived.Test.YtkjbakmlonpdjaaGreatDoorRoundsG
import Derived.Test.YtkjbakmlonpdjaaGreatDoorRoundsB5
import Derived.Test.YtkjbakmlonpdjaaGreatDoorRoundsE
import Derived.Test.YtkjbakmlonpdjaaGreatDoorRoundsI
open Bool renaming and_eq_true->yOB, and_true->yOI
open Int renaming add_assoc->yOQ
open List renaming mem_cons_of_mem->yOC, mem_append->yOD, mem_singleton->yOF, mem_cons->yOG, getElem_mem->yOH, mapM_cons->yOJ, mem_cons_self->yOK, range->yOL, drop_eq_getElem_cons->yOM, getElem?_eq_none->yON, getD_cons_zero->yOO, getElem?_eq_some_iff->yOR, take_length->yOS, take_succ_eq_append_getElem->yOT, not_mem_nil->yOU, all_eq_true->yOV, drop_length->yOW, mem_iff_getElem->yOX, ext_getElem?->yOY
open Nat renaming ne_of_lt->yOE, le_of_lt->yOP, testBit_and->yOZ
set_option linter.unusedVariables false
set_option linter.unusedSimpArgs false
set_option maxRecDepth 10000
namespace Go.Ab.Tab
open Go Go.Ab
theorem wN (i:Nat) (h:i < 2^62):IntKind.i64.wrap ((i:Int)+1)=((i+1:Nat):Int):=by rw[<-zL (n:=i+1) (by omega)];rfl
theorem zGU (D:Nat) (g x:Fu) (o:Int) (h:if o=7\/o=9 then g.gs[1]?=some x else g.gs[0]?=some x):Go.Ab.Loc Pg Gl D 174 [encF g,.int .i64 o] [] (encF x) []:=by
 refine fD zF tok rfl rfl fun S hS=> ?_;unfold c174;by_cases ho:o=7\/o=9
 ·rw[yRO ho] at h;obtain ⟨h1,h2⟩:=yOR.1 h;have h3:(1:Int) < g.gs.length:=by omega
  rcases ho with rfl | rfl
  ·simp[zB g,h1,h2,h3,zB x,upds]
  ·simp[zB g,h1,h2,h3,zB x,upds]
 ·rw[yRN ho] at h;obtain ⟨h1,h2⟩:=yOR.1 h;have o7:¬o=7:=fun e=>ho (.inl e);have o9:¬o=9:=fun e=>ho (.inr e);have h3:(0:Int) < g.gs.length:=by omega
  simp[zB g,h1,h2,h3,o7,o9,zB x,upds]
theorem bH (D:Nat) (g:Fu) (o n m:Int) (ar:List Fm) (h1:o=5\/o=10->0<=n/\n < g.n/\m=0) (h2:o=12->1<=n/\n<=1048576/\m=0) (h3:o=13->1<=n/\n<=m/\m<=1048576) (h4:o≠5->o≠10->o≠12->o≠13->n=0/\m=0):
  Go.Ab.Loc Pg Gl D 173 [encF g,encM (.mk o n m ar)] [] (.bool true) []:=by
 refine zP zF tok rfl rfl fun S=> ?_;unfold c173;by_cases o5:o=5
 ·obtain ⟨a,b,rfl⟩:=h1 (.inl o5);simp[zB g,zG,o5,a,b,nR]
 by_cases o10:o=10
 ·obtain ⟨a,b,rfl⟩:=h1 (.inr o10);simp[zB g,zG,o10,a,b,nR]
 by_cases o12:o=12
 ·obtain ⟨a,b,rfl⟩:=h2 o12;simp[zB g,zG,o12,a,b,nR]
 by_cases o13:o=13
 ·obtain ⟨a,b,c⟩:=h3 o13;simp[zB g,zG,o13,a,b,c,nR]
 obtain ⟨rfl,rfl⟩:=h4 o5 o10 o12 o13;simp[zB g,zG,o5,o10,o12,o13,nR]
section
variable {dc ic gc:Nat} {f:Fu}
def Ch (dc ic gc:Nat) (f:Fu) (left:Int):Nat×Nat×Ent:=(dc,ic,(gc,.cells [.int .i64 f.k,.int .i64 f.n,.sl 3 (f.gs.map encF) .no,.int .i64 left]))
def FP (dc ic gc:Nat) (f:Fu) (D:Nat):Option Fu->AV->List (Nat×Nat×Ent)->Prop
 | none,fp,MF=>fp= .nilp/\MF= []
 | some g,fp,MF=>zH g=true/\((g=f/\fp= .ptr dc ic gc 0/\MF= [])\/∃df jf gf,df < D/\¬(df=dc/\jf=ic)/\fp= .ptr df jf gf 0/\MF= [(df,jf,(gf,.cells [.int .i64 g.k,.int .i64 g.n,.sl 3 (g.gs.map encF) .no]))])
def zDP (dc ic gc:Nat) (f:Fu) (a:Fm):Prop:=∀(md:Option Fu) (odd:Bool),valM f 0 md odd a=true->∀(D:Nat) (fp:AV) (MF:List (Nat×Nat×Ent)) (left deep:Int),dc < D->FP dc ic gc f D md fp MF->zK a<=left->left<=5000->1<=deep->deep+y5 a<=101->
 Go.Ab.Loc Pg Gl D 150 [.ptr dc ic gc 0,fp,encM a,.int .i64 deep] (Ch dc ic gc f left::MF) (.bool true) [Ch dc ic gc f (left - zK a)]
theorem zNF {D n:Nat} {τ:Nat->AV} {ω:Nat->Ent} {S:Nat->Nat->Ent} {left:Int} {MF:List (Nat×Nat×Ent)} (hd:dc < D) (hC:S dc ic=(Ch dc ic gc f left).2.2) (hF:∀m∈MF,m.1 < D/\S m.1 m.2.1=m.2.2):
  ∀m∈Ch dc ic gc f left::MF,m.1<=D/\(m.1=D->m.2.1 < n)/\(stF n D τ ω S).look m.1 m.2.1=m.2.2:=by
 intro m hm;have h:m.1 < D/\S m.1 m.2.1=m.2.2:=by
  rcases yOG.1 hm with rfl | hm
  ·exact ⟨hd,hC⟩
  ·exact hF m hm
 refine ⟨yOP h.1,fun e=>absurd e (yOE h.1),?_⟩;rw[yD,yRN (yOE h.1)];exact h.2
def MB (d4 dc ic gc:Nat) (fp:AV) (deep:Int):List (Nat×Nat×Ent):=[(d4,4,(1,.cells [.ptr dc ic gc 0])),(d4,5,(1,.cells [fp])),(d4,7,(1,.cells [.int .i64 deep]))]
theorem zSA {b:Fm} (hb:zDP dc ic gc f b) {md:Option Fu} {odd:Bool} (hv:valM f 0 md odd b=true) {D d4:Nat} {fp:AV} {MF:List (Nat×Nat×Ent)} {left deep:Int} (hd:dc < d4) (hd4:d4 < D) (hF:FP dc ic gc f d4 md fp MF) (hl:zK b<=left) (hl2:left<=5000) (h1:1<=deep) (h2:deep+1+y5 b<=101):
  Go.Ab.Loc Pg Gl D 172 [encM b,.ptr d4 4 1 0,.ptr d4 5 1 0,.ptr d4 7 1 0] (Ch dc ic gc f left::(MF++MB d4 dc ic gc fp deep)) (.bool false) [Ch dc ic gc f (left - zK b)]:=by
 refine yH zF tok rfl rfl fun S hS=> ?_;have hC:=(hS _ (yOK ..)).2;have hne:¬d4=D:=by omega
 have hMF:∀m∈MF,m.1 < D/\S m.1 m.2.1=m.2.2:=fun m hm=>hS m (yOC _ (yOD.2 (.inl hm)));have g4:=(hS (d4,4,(1,.cells [.ptr dc ic gc 0])) (yOC _ (yOD.2 (.inr (by simp[MB]))))).2;have g5:=(hS (d4,5,(1,.cells [fp])) (yOC _ (yOD.2 (.inr (by simp[MB]))))).2;have g7:=(hS (d4,7,(1,.cells [.int .i64 deep])) (yOC _ (yOD.2 (.inr (by simp[MB]))))).2;simp only at g4 g5 g7;have hF':FP dc ic gc f (D+1) md fp MF:=by
  cases md with
  | none=>exact hF
  | some g=>
   obtain ⟨hsg,hF⟩:=hF;rcases hF with h | ⟨df,jf,gf,hdf,h⟩
   ·exact ⟨hsg,.inl h⟩
   ·exact ⟨hsg,.inr ⟨df,jf,gf,by omega,h⟩⟩
 have hw:IntKind.i64.wrap (deep+1)=deep+1:=vE (by omega) (by omega);have h150:=hb md odd hv (D+1) fp MF left (deep+1) (by omega) hF' hl hl2 (by omega) h2;have hfp:fp= .nilp\/∃a b c,fp= .ptr a b c 0:=by
  cases md with
  | none=>exact .inl hF.1
  | some g=>
   rcases hF.2 with ⟨_,h,_⟩ | ⟨df,jf,gf,_,_,h,_⟩
   ·exact .inr ⟨_,_,_,h⟩
   ·exact .inr ⟨_,_,_,h⟩
 unfold c172;rcases hfp with rfl | ⟨x,y,z,rfl⟩
 ·simp[zA b,hne,g4,g5,g7,hw];refine zR h150 (by simp[zA b]) (zNF (by omega) hC hMF) (by simp[Ch]) ?_;simp[Ch,upds,show¬dc=D by omega]
 ·simp[zA b,hne,g4,g5,g7,hw];refine zR h150 (by simp[zA b]) (zNF (by omega) hC hMF) (by simp[Ch]) ?_;simp[Ch,upds,show¬dc=D by omega]
theorem l188 {md:Option Fu} {odd:Bool} {d4:Nat} {fp:AV} {MF:List (Nat×Nat×Ent)} {deep:Int} (hd:dc < d4) (hF:FP dc ic gc f d4 md fp MF) (h1:1<=deep) (ar:List Fm) (hlen:ar.length<=2^30) (hb:∀b∈ar,zDP dc ic gc f b/\valM f 0 md odd b=true/\deep+1+y5 b<=101) {D:Nat} (hd4:d4 < D) (S0:Nat->Nat->Ent) (hMF:∀m∈MF++MB d4 dc ic gc fp deep,m.1 < D/\S0 m.1 m.2.1=m.2.2/\¬(m.1=dc/\m.2.1=ic)) (left0:Int) (hl0:zO ar<=left0) (hl2:left0<=5000):∀(j i:Nat) (S:Nat->Nat->Ent) (left:Int) (τ ω),i+j=ar.length->left+zO (ar.take i)=left0->
  (∀d k,¬(d=dc/\k=ic)->S d k=S0 d k)->S dc ic=(Ch dc ic gc f left).2.2->
  τ 0= .sl 4 (ar.map encM) .no->τ 1= .fn 172 [.ptr d4 4 1 0,.ptr d4 5 1 0,.ptr d4 7 1 0]->τ 7= .int .i64 ar.length->τ 8= .int .i64 i->
  Rd (Loc Pg Gl) .im (RetM [.tmp 4] (.int .i64 (-1)) D S0 [Ch dc ic gc f (left0 - zO ar)]) [.lp c188_l0,.blk 0,.c a6] (stF 19 D τ ω S):=by
 intro j
 induction j with
 | zero=>
  intro i S left τ ω hi hle hSo hSc t0 t1 t7 t8;refine zN c188_l0.eq_1 ?_;obtain rfl:i=ar.length:=by omega
  rw[yOS] at hle;simp[t7,t8,a6];intro d k hdD;simp only[updS];by_cases hc:d=dc/\k=ic
  ·obtain ⟨rfl,rfl⟩:=hc;rw[yRO ⟨rfl,rfl⟩,hSc,show left0 - (zO ar:Int)=left by omega]
  ·rw[yRN (show¬(d=(Ch dc ic gc f (left0 - (zO ar:Int))).1/\k=(Ch dc ic gc f (left0 - (zO ar:Int))).2.1) from hc)];exact hSo d k hc
 | succ j ih=>
  intro i S left τ ω hi hle hSo hSc t0 t1 t7 t8;refine zN c188_l0.eq_1 ?_;have hlt:i < ar.length:=by omega
  have hwr:=wN i (by omega);obtain ⟨hb1,hb2,hb3⟩:=hb _ (yOH hlt);have htk:zO (ar.take (i+1))=zO (ar.take i)+zK ar[i]:=by
   rw[yOT hlt];have:∀l:List Fm,∀b,zO (l++[b])=zO l+zK b:=by
    intro l b
    induction l with
    | nil=>simp[zO]
    | cons c l ih=>rw[List.cons_append,zO,zO,ih];omega
   exact this _ _
  have hall:zO (ar.take (i+1))<=zO ar:=by
   have:∀(l:List Fm) (k:Nat),zO (l.take k)<=zO l:=by
    intro l
    induction l with
    | nil=>intro k;simp
    | cons c l ih=>
     intro k;cases k with
     | zero=>rw[List.take_zero];simp only[zO];omega
     | succ k=>rw[List.take_succ_cons,zO,zO];have:=ih k;omega
   exact this _ _
  have h172:=zSA hb1 hb2 (D:=D+1) hd (by omega) hF (left:=left) (deep:=deep) (by omega) (by omega) h1 hb3;have hMD:∀m∈MF++MB d4 dc ic gc fp deep,m.1 < D/\S m.1 m.2.1=m.2.2:=fun m hm=>by
   obtain ⟨a1,a2,a3⟩:=hMF m hm;exact ⟨a1,by rw[hSo _ _ a3];exact a2⟩
  generalize hge:ar[i]=b at*;simp[t0,t1,t7,t8,hlt,hge,zA b];refine zZ (cap:=[.ptr d4 4 1 0,.ptr d4 5 1 0,.ptr d4 7 1 0]) h172 (by simp) (by simp[zA b]) (zNF (by omega) hSc hMD) (by simp[Ch]) ?_;simp[Ch,show¬dc=D by omega,t8,hwr];refine ih (i+1) _ (left - zK b) _ _ (by omega) (by omega) (fun d k hdk=> ?_) ?_ ?_ ?_ ?_ ?_
  ·simp only[updS];rw[yRN hdk];exact hSo d k hdk
  ·simp[updS,Ch]
  all_goals simp[t0,t1,t7]
theorem zSB {md:Option Fu} {odd:Bool} {d4:Nat} {fp:AV} {MF:List (Nat×Nat×Ent)} {deep:Int} (hd:dc < d4) (hF:FP dc ic gc f d4 md fp MF) (h1:1<=deep) (ar:List Fm) (hlen:ar.length<=2^30) (hb:∀b∈ar,zDP dc ic gc f b/\valM f 0 md odd b=true/\deep+1+y5 b<=101) {D:Nat} (hd4:d4 < D) (hdis:∀m∈MF++MB d4 dc ic gc fp deep,¬(m.1=dc/\m.2.1=ic)) (left:Int) (hl0:zO ar<=left) (hl2:left<=5000):
  Go.Ab.Loc Pg Gl D 171 [.sl 4 (ar.map encM) .no,.fn 172 [.ptr d4 4 1 0,.ptr d4 5 1 0,.ptr d4 7 1 0]] (Ch dc ic gc f left::(MF++MB d4 dc ic gc fp deep)) (.bool false) [Ch dc ic gc f (left - zO ar)]:=by
 have h188:Go.Ab.Loc Pg Gl (D+1) 188 [.sl 4 (ar.map encM) .no,.fn 172 [.ptr d4 4 1 0,.ptr d4 5 1 0,.ptr d4 7 1 0]] (Ch dc ic gc f left::(MF++MB d4 dc ic gc fp deep)) (.int .i64 (-1)) [Ch dc ic gc f (left - zO ar)]:=by
  refine yH zF tok rfl rfl fun S hS=> ?_;unfold c188;simp;refine l188 hd hF h1 ar hlen hb (by omega) S (fun m hm=>⟨(hS m (yOC _ hm)).1,(hS m (yOC _ hm)).2,hdis m hm⟩) left hl0 hl2 ar.length 0 S left _ _ (by omega) (by simp[zO]) (fun _ _ _=>rfl) (hS _ (yOK ..)).2 ?_ ?_ ?_ ?_;all_goals simp
 refine yH zF tok rfl rfl fun S hS=> ?_;unfold c171;simp;refine zR h188 (by simp) (zNF (by omega) (hS _ (yOK ..)).2 (fun m hm=>hS m (yOC _ hm))) (by simp[Ch]) ?_;simp[Ch,upds,show¬dc=D by omega]
end
end Go.Ab.Tab
/- logic's checker: a valid formula is valid. -/
namespace Go.Ab.Tab
open Go Go.Ab
section
variable {dc ic gc:Nat} {f:Fu}
theorem FP.dis {D:Nat} {md:Option Fu} {fp:AV} {MF:List (Nat×Nat×Ent)} (h:FP dc ic gc f D md fp MF):∀m∈MF,¬(m.1=dc/\m.2.1=ic):=by
 cases md with
 | none=>rw[h.2];simp
 | some g=>
  rcases h.2 with ⟨_,_,rfl⟩ | ⟨df,jf,gf,_,hdd,_,rfl⟩
  ·simp
  ·intro m hm;rw[yOF] at hm;subst hm;exact hdd
theorem FP.fp {D:Nat} {md:Option Fu} {fp:AV} {MF:List (Nat×Nat×Ent)} (h:FP dc ic gc f D md fp MF):fp= .nilp\/∃a b c,fp= .ptr a b c 0:=by
 cases md with
 | none=>exact .inl h.1
 | some g=>
  rcases h.2 with ⟨_,h,_⟩ | ⟨df,jf,gf,_,_,h,_⟩
  ·exact .inr ⟨_,_,_,h⟩
  ·exact .inr ⟨_,_,_,h⟩
theorem FP.up {D D':Nat} (hD:D<=D') {md:Option Fu} {fp:AV} {MF:List (Nat×Nat×Ent)} (h:FP dc ic gc f D md fp MF):FP dc ic gc f D' md fp MF:=by
 cases md with
 | none=>exact h
 | some g=>
  obtain ⟨hsg,h⟩:=h;rcases h with h | ⟨df,jf,gf,hdf,h⟩
  ·exact ⟨hsg,.inl h⟩
  ·exact ⟨hsg,.inr ⟨df,jf,gf,by omega,h⟩⟩
theorem dS {D n:Nat} {τ:Nat->AV} {ω:Nat->Ent} {S:Nat->Nat->Ent} {left:Int} {MF ML:List (Nat×Nat×Ent)} (hd:dc < D) (hF:∀m∈MF,m.1 < D/\S m.1 m.2.1=m.2.2) (hdis:∀m∈MF,¬(m.1=dc/\m.2.1=ic)) (hL:∀m∈ML,m.1=D/\m.2.1 < n/\ω m.2.1=m.2.2):
  ∀m∈Ch dc ic gc f left::(MF++ML),m.1<=D/\(m.1=D->m.2.1 < n)/\(stF n D τ ω (updS S dc ic (Ch dc ic gc f left).2.2)).look m.1 m.2.1=m.2.2:=by
 intro m hm;rcases yOG.1 hm with rfl | hm
 ·refine ⟨yOP hd,fun e=>absurd e (yOE hd),?_⟩;rw[yD,yRN (show¬(Ch dc ic gc f left).1=D from yOE hd)];simp[updS,Ch]
 rcases yOD.1 hm with hm | hm
 ·obtain ⟨h1,h2⟩:=hF m hm;refine ⟨yOP h1,fun e=>absurd e (yOE h1),?_⟩;rw[yD,yRN (yOE h1)];simp only[updS];rw[yRN (hdis m hm)];exact h2
 ·obtain ⟨h1,h2,h3⟩:=hL m hm;refine ⟨by omega,fun _=>h2,?_⟩;rw[yD,yRO h1,yRO h2];exact h3
theorem yDN:binf BinOp.eql EqK.ptr AV.nilp AV.nilp=some (.bool true):=rfl
theorem zCX (d i g o:Nat):binf BinOp.eql EqK.ptr (AV.ptr d i g o) AV.nilp=some (.bool false):=rfl
section
variable {g x:Fu} {o n m:Int} {b:Fm} {D df jf gf:Nat} {left deep:Int} {S:Nat->Nat->Ent} {r2:List AV} {N:Nat} (hd:dc < D) (hdf:df < D)
  (hC:S dc ic=(gc,.cells [.int .i64 f.k,.int .i64 f.n,.sl 3 (f.gs.map encF) .no,.int .i64 left])) (hFu:updS S dc ic (gc,.cells [.int .i64 f.k,.int .i64 f.n,.sl 3 (f.gs.map encF) .no,.int .i64 (left - 1)]) df jf=(gf,.cells (.int .i64 g.k:: .int .i64 g.n:: .sl 3 (g.gs.map encF) .no::r2)))
  (hw:IntKind.i64.wrap (left - 1)=left - 1) (hw2:IntKind.i64.wrap (deep+1)=deep+1) (hlt:¬left - 1 < 0) (hdp:¬100 < deep)
  (h173:Go.Ab.Loc Pg Gl (D+1) 173 [encF g,encM (.mk o n m [b])] [] (.bool true) []) (h174:Go.Ab.Loc Pg Gl (D+1) 174 [encF g,.int .i64 o] [] (encF x) [])
  (h150:Go.Ab.Loc Pg Gl (D+1) 150 [.ptr dc ic gc 0,.ptr D 11 1 0,encM b,.int .i64 (deep+1)] [Ch dc ic gc f (left - 1),(D,11,(1,.cells [.int .i64 x.k,.int .i64 x.n,.sl 3 (x.gs.map encF) .no]))] (.bool true) [Ch dc ic gc f (left - 1 - zK b)]) (hN:1+zK b=N)
include hd hdf hC hFu hw hw2 hlt hdp h173 h174 h150 hN
theorem zAY (oc:(g.k=2/\o=6)\/(g.k=2/\o=7)\/(g.k=3/\o=8)\/(g.k=3/\o=9)):
  Rd (Loc Pg Gl) .im (RetM [.tmp 8] (.bool true) D S [Ch dc ic gc f (left - N)]) [.c c150] (stF 141 D (vH 0 [.ptr dc ic gc 0,.ptr df jf gf 0,encM (.mk o n m [b]),.int .i64 deep]) (fun _=>(0,.dead)) S):=by
 have hne:¬dc=D:=by omega
 have hnf:¬df=D:=by omega
 have hnf':¬D=df:=by omega
 have hneD:¬D=dc:=by omega
 have hw1:IntKind.i64.wrap 1=1:=rfl;subst hN;have eN2:left - 1 - (zK b:Int)=left - (1+(zK b:Int)):=by omega
 unfold c150;rcases oc with ⟨hk,rfl⟩ | ⟨hk,rfl⟩ | ⟨hk,rfl⟩ | ⟨hk,rfl⟩;all_goals
  simp[zG,hne,hnf,hC,hFu,hw,hw2,hlt,hdp,rules,zA b,hk,zCX];refine zW h173 (by simp[zB g,zG,zA b,hk]) ?_;simp;refine zN c150_l0.eq_1 ?_;simp[hnf,hnf',hFu,hk,zA b];refine zW h174 (by simp[zB g,hk]) ?_;simp[zB x,hne,hneD,hnf,hnf',hw2];refine zR h150 (by simp[zA b]) (dS (MF:=[]) hd (by simp) (by simp) (fun m hm=>by
   rw[yOF] at hm;subst hm;simp)) (by simp[Ch]) ?_
  simp[Ch,hne];refine zN c150_l0.eq_1 ?_;simp[eM,upds,hne,eN2,hw1]
theorem zAX (oc:(g.k=4/\o=10)\/(g.k=5/\o=11)\/(g.k=6/\o=12)\/(g.k=7/\o=13)):
  Rd (Loc Pg Gl) .im (RetM [.tmp 8] (.bool true) D S [Ch dc ic gc f (left - N)]) [.c c150] (stF 141 D (vH 0 [.ptr dc ic gc 0,.ptr df jf gf 0,encM (.mk o n m [b]),.int .i64 deep]) (fun _=>(0,.dead)) S):=by
 have hne:¬dc=D:=by omega
 have hnf:¬df=D:=by omega
 have hnf':¬D=df:=by omega
 have hneD:¬D=dc:=by omega
 have hw1:IntKind.i64.wrap 1=1:=rfl;subst hN;have eN2:left - 1 - (zK b:Int)=left - (1+(zK b:Int)):=by omega
 unfold c150;rcases oc with ⟨hk,rfl⟩ | ⟨hk,rfl⟩ | ⟨hk,rfl⟩ | ⟨hk,rfl⟩;all_goals
  simp[zG,hne,hnf,hC,hFu,hw,hw2,hlt,hdp,rules,zA b,hk,zCX];refine zW h173 (by simp[zB g,zG,zA b,hk]) ?_;simp;refine zN c150_l0.eq_1 ?_;simp[hnf,hnf',hFu,hk,zA b];refine zW h174 (by simp[zB g,hk]) ?_;simp[zB x,hne,hneD,hnf,hnf',hw2];refine zR h150 (by simp[zA b]) (dS (MF:=[]) hd (by simp) (by simp) (fun m hm=>by
   rw[yOF] at hm;subst hm;simp)) (by simp[Ch]) ?_
  simp[Ch,hne];refine zN c150_l0.eq_1 ?_;simp[eM,upds,hne,eN2,hw1]
end
theorem yJC {o:Int} {ar:List Fm} (hcom:o=0\/o=1\/o=2) (l0:o=0->ar.length=0) (l1:o=1->ar.length=1) (l2:o=2->ar.length=2) {D:Nat} {fp:AV} {MF:List (Nat×Nat×Ent)} {left deep:Int} {S:Nat->Nat->Ent} {N:Nat} (hd:dc < D) (hfp:fp= .nilp\/∃a b c,fp= .ptr a b c 0) (hdis:∀m∈MF,¬(m.1=dc/\m.2.1=ic)) (hMF:∀m∈MF,m.1 < D/\S m.1 m.2.1=m.2.2)
  (hC:S dc ic=(gc,.cells [.int .i64 f.k,.int .i64 f.n,.sl 3 (f.gs.map encF) .no,.int .i64 left])) (hw:IntKind.i64.wrap (left - 1)=left - 1) (hlt:¬left - 1 < 0) (hdp:¬100 < deep)
  (h171:Go.Ab.Loc Pg Gl (D+1) 171 [.sl 4 (ar.map encM) .no,.fn 172 [.ptr D 4 1 0,.ptr D 5 1 0,.ptr D 7 1 0]] (Ch dc ic gc f (left - 1)::(MF++MB D dc ic gc fp deep)) (.bool false) [Ch dc ic gc f (left - 1 - zO ar)]) (hN:1+zO ar=N):
  Rd (Loc Pg Gl) .im (RetM [.tmp 8] (.bool true) D S [Ch dc ic gc f (left - N)]) [.c c150] (stF 141 D (vH 0 [.ptr dc ic gc 0,fp,encM (.mk o 0 0 ar),.int .i64 deep]) (fun _=>(0,.dead)) S):=by
 have hne:¬dc=D:=by omega
 subst hN;have eN2:left - 1 - (zO ar:Int)=left - (1+(zO ar:Int)):=by omega
 unfold c150;rcases hfp with rfl | ⟨x,y,w,rfl⟩;all_goals
  rcases hcom with rfl | rfl | rfl;all_goals
   simp[zG,hne,hC,hw,hlt,hdp,rules,l0,l1,l2];refine zR h171 (by simp) (dS hd hMF hdis (fun m hm=>by
    simp only[MB,yOG,yOU,or_false] at hm;rcases hm with rfl | rfl | rfl<;>simp)) (by simp[Ch]) ?_
   simp[Ch,upds,hne,eN2]
theorem zSI (hsf:zH f=true):∀a:Fm,zDP dc ic gc f a:=by
 refine Fm.ind' fun o n m ar ih=> ?_;intro md odd hv D fp MF left deep hd hF hn hl2 h1 h2;rw[zK] at hn|-;rw[y5] at h2;rw[y9] at hv;have hlen:=vN ar;refine yH zF tok rfl rfl fun S hS=> ?_;have hC:=(hS _ (yOK ..)).2;simp only[Ch] at hC;have hMF:∀m∈MF,m.1 < D/\S m.1 m.2.1=m.2.2:=fun m hm=>hS m (yOC _ hm);have hne:¬dc=D:=by omega
 have hw:IntKind.i64.wrap (left - 1)=left - 1:=vE (by omega) (by omega);have hw2:IntKind.i64.wrap (deep+1)=deep+1:=vE (by omega) (by omega);have hlt:¬left - 1 < 0:=by omega
 have hdp:¬100 < deep:=by omega
 have hchd:∀b∈ar,y5 b<=xS ar:=by
  have:∀l:List Fm,∀b∈l,y5 b<=xS l:=by
   intro l
   induction l with
   | nil=>intro b hb;cases hb
   | cons c l ihl=>
    intro b hb;rw[xS];rcases yOG.1 hb with rfl | hb
    ·omega
    ·have:=ihl b hb;omega
  exact this ar
 by_cases hcom:o=0\/o=1\/o=2
 ·obtain ⟨hnm,odd',hb'⟩:(n=0/\m=0)/\∃odd',(∀b∈ar,valM f 0 md odd' b=true)/\(o=0->ar.length=0)/\(o=1->ar.length=1)/\(o=2->ar.length=2):=by
   rcases hcom with rfl | rfl | rfl
   ·rw[yRO rfl] at hv;simp only[yOB,yRP] at hv;have:ar= []:=by simpa using hv.1.1
    subst this;exact ⟨⟨hv.1.2,hv.2⟩,odd,by simp,fun _=>rfl,fun h=>by omega,fun h=>by omega⟩
   ·rw[yRN (by omega),yRO rfl] at hv;simp only[yOB,yRP] at hv;rw[wZ,yOV] at hv;exact ⟨hv.1.1,!odd,hv.2,fun h=>by omega,fun _=>hv.1.2,fun h=>by omega⟩
   ·rw[yRN (by omega),yRN (by omega),yRO rfl] at hv;simp only[yOB,yRP] at hv;rw[wZ,yOV] at hv;exact ⟨hv.1.1,odd,hv.2,fun h=>by omega,fun h=>by omega,fun _=>hv.1.2⟩
  obtain ⟨rfl,rfl⟩:=hnm;obtain ⟨hb1,l0,l1,l2⟩:=hb';have h171:=zSB (dc:=dc) (ic:=ic) (gc:=gc) (f:=f) hd hF h1 ar (by omega) (fun b hb=>⟨ih b hb,hb1 b hb,by have:=hchd b hb;omega⟩) (D:=D+1) (by omega) (fun m hm=>by
   rcases yOD.1 hm with hm | hm
   ·exact hF.dis m hm
   ·simp only[MB,yOG,yOU,or_false] at hm;rcases hm with rfl | rfl | rfl<;>exact fun e=>hne e.1.symm) (left - 1) (by omega) (by omega)
  exact yJC hcom l0 l1 l2 hd hF.fp hF.dis hMF hC hw hlt hdp h171 rfl
 have o0:¬o=0:=fun e=>hcom (.inl e);have o1:¬o=1:=fun e=>hcom (.inr (.inl e));have o2:¬o=2:=fun e=>hcom (.inr (.inr e));rw[yRN o0,yRN o1,yRN o2] at hv;cases md with
 | none=>
  simp only at hv;obtain ⟨rfl,rfl⟩:=hF;by_cases o3:o=3
  ·subst o3;rw[yRO rfl] at hv;simp only[yOB,yRP] at hv;obtain ⟨⟨⟨rfl,rfl⟩,hl1⟩,hvs⟩:=hv;obtain ⟨b,rfl⟩:∃b,ar= [b]:=by rcases ar with _ | ⟨b,_ | ⟨c,l⟩⟩<;>simp at hl1;exact ⟨b,rfl⟩
   simp only[y6,yOI] at hvs;have hbd:=hchd b (by simp);have enb:zO [b]=zK b:=by simp[zO]
   rw[enb] at hn|-;have h150:=ih b (by simp) (some f) odd hvs (D+1) (.ptr dc ic gc 0) [] (left - 1) (deep+1) (by omega) ⟨hsf,.inl ⟨rfl,rfl,rfl⟩⟩ (by omega) (by omega) (by omega) (by omega);have eN2:left - 1 - (zK b:Int)=left - (1+(zK b:Int)):=by omega
   unfold c150;simp[zG,hne,hC,hw,hw2,hlt,hdp,rules,zA b,yDN];refine zM h150 (by simp[zA b]) (dS (ML:=[]) (MF:=[]) hd (by simp) (by simp) (by simp)) (by simp[Ch]) ?_;simp[Ch,upds,hne,eN2]
  ·rw[yRN o3] at hv;by_cases o14:o=14
   ·rw[yRO o14] at hv;simp at hv;omega
   ·rw[yRN o14] at hv;cases hv
 | some g=>
  simp only at hv;obtain ⟨hsg,hF⟩:=hF;obtain ⟨df,jf,gf,hdf,hfp,hFS,hFu⟩:∃df jf gf,df < D/\fp= .ptr df jf gf 0/\(∃r,S df jf=(gf,.cells (.int .i64 g.k:: .int .i64 g.n:: .sl 3 (g.gs.map encF) .no::r)))/\∃r,updS S dc ic (Ch dc ic gc f (left - 1)).2.2 df jf=(gf,.cells (.int .i64 g.k:: .int .i64 g.n:: .sl 3 (g.gs.map encF) .no::r)):=by
   rcases hF with ⟨rfl,rfl,rfl⟩ | ⟨df,jf,gf,hdf,hdi,rfl,rfl⟩
   ·exact ⟨dc,ic,gc,hd,rfl,⟨_,hC⟩,⟨[.int .i64 (left - 1)],by simp[updS,Ch]⟩⟩
   ·have:=(hMF _ (yOF.2 rfl)).2;refine ⟨df,jf,gf,hdf,rfl,⟨_,this⟩,⟨[],?_⟩⟩;simp only[updS];rw[yRN hdi];exact this
  obtain ⟨r1,hFS⟩:=hFS;obtain ⟨r2,hFu⟩:=hFu;simp only[Ch] at hFu;subst hfp;have hnf:¬df=D:=by omega
  have hnf':¬D=df:=by omega
  have hneD:¬D=dc:=by omega
  by_cases k0:g.k=0
  ·rw[yRO k0] at hv;simp only[yOB,yRP] at hv;obtain ⟨⟨⟨⟨rfl,rfl⟩,rfl⟩,hl1⟩,hvs⟩:=hv;obtain ⟨b,rfl⟩:∃b,ar= [b]:=by rcases ar with _ | ⟨b,_ | ⟨c,l⟩⟩<;>simp at hl1;exact ⟨b,rfl⟩
   simp only[y6,yOI] at hvs;have hbd:=hchd b (by simp);have enb:zO [b]=zK b:=by simp[zO]
   rw[enb] at hn|-;have h150:=ih b (by simp) none odd hvs (D+1) .nilp [] (left - 1) (deep+1) (by omega) ⟨rfl,rfl⟩ (by omega) (by omega) (by omega) (by omega);have h173:=bH (D+1) g 4 0 0 [b] (by omega) (by omega) (by omega) (by omega);have eN2:left - 1 - (zK b:Int)=left - (1+(zK b:Int)):=by omega
   unfold c150;simp[zG,hne,hnf,hC,hFu,hw,hw2,hlt,hdp,rules,zA b,k0,zCX];refine zW h173 (by simp[zB g,zG,zA b,k0]) ?_;simp[hne,hw2];refine zM h150 (by simp[zA b]) (dS (ML:=[]) (MF:=[]) hd (by simp) (by simp) (by simp)) (by simp[Ch]) ?_;simp[Ch,upds,hne,eN2]
  rw[yRN k0] at hv;by_cases k1:g.k=1
  ·rw[yRO k1] at hv;simp only[yOB,yRP] at hv;obtain ⟨⟨⟨⟨rfl,n0⟩,n1⟩,rfl⟩,hl1⟩:=hv;have:ar= []:=by simpa using hl1
   subst this;have h173:=bH (D+1) g 5 n 0 [] (fun _=>⟨n0,n1,rfl⟩) (by omega) (by omega) (by omega);unfold c150;simp[zG,hne,hnf,hC,hFu,hw,hw2,hlt,hdp,rules,k1,zCX];refine zW h173 (by simp[zB g,zG,k1]) ?_;simp;refine zN c150_l0.eq_1 ?_;simp[eM,Ch,upds,hne,zO]
  rw[yRN k1] at hv;simp only[yOB,yRP] at hv;obtain ⟨⟨hi,hl1⟩,hvs⟩:=hv;obtain ⟨b,rfl⟩:∃b,ar= [b]:=by rcases ar with _ | ⟨b,_ | ⟨c,l⟩⟩<;>simp at hl1;exact ⟨b,rfl⟩
  simp only[y6,yOI] at hvs;have hbd:=hchd b (by simp);have enb:zO [b]=zK b:=by simp[zO]
  rw[enb] at hn|-;have hne':¬(D=dc/\11=ic):=fun e=>hne e.1.symm;have hsx:=tP hsg hi;have h150:=ih b (by simp) (some (inF g o)) odd hvs (D+1) (.ptr D 11 1 0) [(D,11,(1,.cells [.int .i64 (inF g o).k,.int .i64 (inF g o).n,.sl 3 ((inF g o).gs.map encF) .no]))] (left - 1) (deep+1) (by omega) ⟨hsx,.inr ⟨D,11,1,by omega,hne',rfl,rfl⟩⟩ (by omega) (by omega) (by omega) (by omega);have eN2:left - 1 - (zK b:Int)=left - (1+(zK b:Int)):=by omega
  have two:g.k=2\/g.k=3->∃x y,g.gs= [x,y]:=fun h=>by
   rw[Fu.eta g] at hsg;exact sR hsg h
  have one:g.k=4\/g.k=5\/g.k=6\/g.k=7->∃x,g.gs= [x]:=fun h=>by
   rw[Fu.eta g] at hsg;exact uH hsg h
  have hnum:(o=5\/o=10->0<=n/\n < g.n/\m=0)/\(o=12->1<=n/\n<=1048576/\m=0)/\(o=13->1<=n/\n<=m/\m<=1048576)/\(o≠5->o≠10->o≠12->o≠13->n=0/\m=0):=by
   have hi':=hi;unfold inOk at hi';by_cases c1:g.k=2/\o=6\/g.k=3/\o=8\/g.k=2/\o=7\/g.k=3/\o=9\/g.k=5/\o=11
   ·rw[yRO c1,yRP] at hi';exact ⟨by omega,by omega,by omega,fun _ _ _ _=>hi'⟩
   rw[yRN c1] at hi';by_cases c2:g.k=4/\o=10
   ·rw[yRO c2,yRP] at hi';exact ⟨fun _=>hi',by omega,by omega,fun _ h=>absurd c2.2 h⟩
   rw[yRN c2] at hi';by_cases c3:g.k=6/\o=12
   ·rw[yRO c3,yRP] at hi';exact ⟨by omega,fun _=>hi',by omega,fun _ _ h=>absurd c3.2 h⟩
   rw[yRN c3] at hi';by_cases c4:g.k=7/\o=13
   ·rw[yRO c4,yRP] at hi';exact ⟨by omega,by omega,fun _=>by omega,fun _ _ _ h=>absurd c4.2 h⟩
   ·rw[yRN c4] at hi';cases hi'
  have hx:if o=7\/o=9 then g.gs[1]?=some (inF g o) else g.gs[0]?=some (inF g o):=by
   rcases wW hi with ⟨hk,rfl⟩ | ⟨hk,rfl⟩ | ⟨hk,rfl⟩ | ⟨hk,rfl⟩ | ⟨hk,rfl,_⟩ | ⟨hk,rfl⟩ | ⟨hk,rfl⟩ | ⟨hk,rfl,_⟩
   ·obtain ⟨x,y,e⟩:=two (.inl hk);simp[inF,hk,e]
   ·obtain ⟨x,y,e⟩:=two (.inl hk);simp[inF,hk,e]
   ·obtain ⟨x,y,e⟩:=two (.inr hk);simp[inF,hk,e]
   ·obtain ⟨x,y,e⟩:=two (.inr hk);simp[inF,hk,e]
   ·obtain ⟨x,e⟩:=one (.inl hk);simp[inF,hk,e]
   ·obtain ⟨x,e⟩:=one (.inr (.inl hk));simp[inF,hk,e]
   ·obtain ⟨x,e⟩:=one (.inr (.inr (.inl hk)));simp[inF,hk,e]
   ·obtain ⟨x,e⟩:=one (.inr (.inr (.inr hk)));simp[inF,hk,e]
  have h173:=fun D=>bH D g o n m [b] hnum.1 hnum.2.1 hnum.2.2.1 hnum.2.2.2;have h174:=fun D=>zGU D g (inF g o) o hx;have h173:=h173 (D+1);have h174:=h174 (D+1);have oc:=wW hi;generalize inF g o=x at*;rcases oc with h | h | h | h | ⟨ha,hb,_⟩ | h | h | ⟨ha,hb,_⟩
  ·exact zAY hd hdf hC hFu hw hw2 hlt hdp h173 h174 h150 rfl (.inl h)
  ·exact zAY hd hdf hC hFu hw hw2 hlt hdp h173 h174 h150 rfl (.inr (.inl h))
  ·exact zAY hd hdf hC hFu hw hw2 hlt hdp h173 h174 h150 rfl (.inr (.inr (.inl h)))
  ·exact zAY hd hdf hC hFu hw hw2 hlt hdp h173 h174 h150 rfl (.inr (.inr (.inr h)))
  ·exact zAX hd hdf hC hFu hw hw2 hlt hdp h173 h174 h150 rfl (.inl ⟨ha,hb⟩)
  ·exact zAX hd hdf hC hFu hw hw2 hlt hdp h173 h174 h150 rfl (.inr (.inl h))
  ·exact zAX hd hdf hC hFu hw hw2 hlt hdp h173 h174 h150 rfl (.inr (.inr (.inl h)))
  ·exact zAX hd hdf hC hFu hw hw2 hlt hdp h173 h174 h150 rfl (.inr (.inr (.inr ⟨ha,hb⟩)))
end
end Go.Ab.Tab
/- logic.Valid and fine,at valid formulas. -/
namespace Go.Ab.Tab
open Go Go.Ab
theorem zSR (D:Nat) (f:Fu) (hsf:zH f=true) (a:Fm) (hv:valM f 0 none false a=true) (hn:zK a<=2000) (hd:y5 a<=100):Go.Ab.Loc Pg Gl D 124 [encF f,encM a] [] (.bool true) []:=by
 refine yH zF tok rfl rfl fun S hS=> ?_;have h150:=zSI (dc:=D) (ic:=8) (gc:=1) hsf a none false hv (D+1) .nilp [] 2000 1 (by omega) ⟨rfl,rfl⟩ (by omega) (by omega) (by omega) (by omega);unfold c124;simp[zB f,zA a];refine zR h150 (by simp[zA a]) (fun m hm=>by
  rw[yOF] at hm;subst hm;simp[Ch]) (by simp[Ch]) ?_
 simp[Ch,upds]
theorem yAK (D:Nat) (s:Sy) (hs:fitY s) (hb:zI s.m<=2^32) (hy:isY s=true) (a:Fm) (hv:valM s.f 0 none false a=true) (hn:zK a<=2000) (hd:y5 a<=100):Go.Ab.Loc Pg Gl D 99 [encY s,encM a] [] (.int .i64 0) []:=by
 refine zP zF tok rfl rfl fun S=> ?_;have h102:=zHP s hs.1 hs.2.1 hs.2.2 hb (D+1);rw[hy] at h102;have h124:=zSR (D+1) s.f (oG hy) a hv hn hd;unfold c99;simp[encY,zA a] at h102|-;refine zE h102 (by simp) ?_;simp;refine zE h124 (by simp[zB s.f,zA a]) ?_;simp
end Go.Ab.Tab
/- logic's truths: functions of values. -/
namespace Go.Ab.Tab
open Go Go.Ab
def CV (N:Nat) (g:Fu) (p:AV) (φ:Va->Bool):Prop:=∃F caps,p= .fn F caps/\F≠yid/\caps.map AV.strip=caps/\(∀c∈caps,∃cs,c= .box cs 0)/\
 ∀(D:Nat) (v:Va),valN N v g=true->zJ v<=2000->Go.Ab.Loc Pg Gl D F (encV v::caps) [] (.bool (φ v)) []
section
variable {N:Nat} {g:Fu}
theorem yMO:CV N g (.fn 175 []) fun _=>true:=by
 refine ⟨175,[],rfl,by decide,rfl,by simp,fun D v hv hn=> ?_⟩;refine zP zF tok rfl rfl fun S=> ?_;unfold c175;simp[zC v]
theorem yMN {p:AV} {φ:Va->Bool} (h:CV N g p φ):CV N g (.fn 176 [.box [p] 0]) fun v=> !φ v:=by
 obtain ⟨F,caps,rfl,hF,hcs,hbx,hcall⟩:=h;refine ⟨176,[.box [.fn F caps] 0],rfl,by decide,rfl,by simp,fun D v hv hn=> ?_⟩;refine zP zF tok rfl rfl fun S=> ?_;have hc:=hcall (D+1) v hv hn;unfold c176;simp[zC v];refine zZ (cap:=caps) hc (by simp) (by simp[hcs,zC v]) (by simp) (by simp) ?_ hF;simp
theorem yMM {p q:AV} {φ ψ:Va->Bool} (h:CV N g p φ) (h':CV N g q ψ):CV N g (.fn 177 [.box [p] 0,.box [q] 0]) fun v=>φ v&&ψ v:=by
 obtain ⟨F,caps,rfl,hF,hcs,hbx,hcall⟩:=h;obtain ⟨F',caps',rfl,hF',hcs',hbx',hcall'⟩:=h';refine ⟨177,[.box [.fn F caps] 0,.box [.fn F' caps'] 0],rfl,by decide,rfl,by simp,fun D v hv hn=> ?_⟩;refine zP zF tok rfl rfl fun S=> ?_;have hc:=hcall (D+1) v hv hn;have hc':=hcall' (D+1) v hv hn;unfold c177;simp[zC v];refine zZ (cap:=caps) hc (by simp) (by simp[hcs,zC v]) (by simp) (by simp) ?_ hF;cases hp:φ v with
 | false=>simp
 | true=>
  simp;refine zZ (cap:=caps') hc' (by simp) (by simp[hcs',zC v]) (by simp) (by simp) ?_ hF';simp
theorem yML (hg:g.k=0) (hsh:zH g=true) (X:Nat) (hN:N<=2^30):CV N g (.fn 178 [.box [.sl 1 ((yOL N).map fun i=>AV.bool (X.testBit i)) .no] 0]) fun v=>X.testBit v.n.toNat:=by
 refine ⟨178,_,rfl,by decide,rfl,by simp,fun D v hv hn=> ?_⟩;refine zP zF tok rfl rfl fun S=> ?_;obtain ⟨_,h0,h1⟩:g.k=0/\0<=v.n/\v.n < N:=by
  rcases vS hsh hv with h | h | ⟨h,_⟩ | ⟨h,_⟩ | ⟨h,_⟩ | ⟨h,_⟩
  ·exact h
  all_goals omega
 obtain ⟨n,hn⟩:∃n:Nat,v.n=n:=⟨v.n.toNat,by omega⟩;have hlt:n < N:=by omega
 unfold c178;simp[zC v,hn,hlt]
theorem yMK (o n m:Int) (ar:List Fm):CV N g (.fn 179 [.box [.int .i64 o,.int .i64 n,.int .i64 m,.sl 4 (ar.map encM) .no] 0]) fun v=>decide (v.n=n):=by
 refine ⟨179,_,rfl,by decide,rfl,by simp,fun D v hv hn=> ?_⟩;refine zP zF tok rfl rfl fun S=> ?_;unfold c179;simp[zC v]
theorem yMJ (hk:g.k=2) (hsh:zH g=true) {p:AV} {φ:Va->Bool} (h:CV N (g.gs.getD 0 (.mk 0 0 [])) p φ):CV N g (.fn 180 [.box [p] 0]) fun v=>φ (v.gs.getD 0 v0):=by
 obtain ⟨F,caps,rfl,hF,hcs,hbx,hcall⟩:=h;refine ⟨180,[.box [.fn F caps] 0],rfl,by decide,rfl,by simp,fun D v hv hn=> ?_⟩;refine zP zF tok rfl rfl fun S=> ?_;obtain ⟨a,b,g1,g2,e1,e2,v1,v2⟩:∃a b g1 g2,v.gs= [a,b]/\g.gs= [g1,g2]/\valN N a g1=true/\valN N b g2=true:=by
  rcases vS hsh hv with ⟨h,_⟩ | h | ⟨_,h⟩ | ⟨h,_⟩ | ⟨h,_⟩ | ⟨h,_⟩
  ·omega
  ·omega
  ·exact h
  all_goals omega
 have hs:=xQ v;rw[e1] at hs;simp only[zI] at hs;rw[e2] at hcall;have hc:=hcall (D+1) a v1 (by omega);unfold c180;simp[zC v,e1,zC a];refine z9 (cap:=caps) hc (by simp) (by simp[hcs,zC a]) (by simp) (by simp) ?_ hF;simp
theorem yMI (hk:g.k=2) (hsh:zH g=true) {p:AV} {φ:Va->Bool} (h:CV N (g.gs.getD 1 (.mk 0 0 [])) p φ):CV N g (.fn 181 [.box [p] 0]) fun v=>φ (v.gs.getD 1 v0):=by
 obtain ⟨F,caps,rfl,hF,hcs,hbx,hcall⟩:=h;refine ⟨181,[.box [.fn F caps] 0],rfl,by decide,rfl,by simp,fun D v hv hn=> ?_⟩;refine zP zF tok rfl rfl fun S=> ?_;obtain ⟨a,b,g1,g2,e1,e2,v1,v2⟩:∃a b g1 g2,v.gs= [a,b]/\g.gs= [g1,g2]/\valN N a g1=true/\valN N b g2=true:=by
  rcases vS hsh hv with ⟨h,_⟩ | h | ⟨_,h⟩ | ⟨h,_⟩ | ⟨h,_⟩ | ⟨h,_⟩
  ·omega
  ·omega
  ·exact h
  all_goals omega
 have hs:=xQ v;rw[e1] at hs;simp only[zI] at hs;rw[e2] at hcall;have hc:=hcall (D+1) b v2 (by omega);unfold c181;simp[zC v,e1,zC b];refine z9 (cap:=caps) hc (by simp) (by simp[hcs,zC b]) (by simp) (by simp) ?_ hF;simp
end
end Go.Ab.Tab
/- logic's truths with an argument: sums,powers,sets. -/
namespace Go.Ab.Tab
open Go Go.Ab
section
variable {N:Nat} {g:Fu}
theorem yDW (hk:g.k=3) (hsh:zH g=true) {o n m:Int} {ar:List Fm} (ho:o=8\/o=9) {p:AV} {φ:Va->Bool} (h:CV N (g.gs.getD (o - 8).toNat (.mk 0 0 [])) p φ):
  CV N g (.fn 182 [.box [.int .i64 o,.int .i64 n,.int .i64 m,.sl 4 (ar.map encM) .no] 0,.box [p] 0]) fun v=>decide (v.n=o - 8)&&φ (v.gs.getD 0 v0):=by
 obtain ⟨F,caps,rfl,hF,hcs,hbx,hcall⟩:=h;refine ⟨182,_,rfl,by decide,rfl,by simp,fun D v hv hn=> ?_⟩;refine zP zF tok rfl rfl fun S=> ?_;obtain ⟨a,g1,g2,e1,e2,hc⟩:∃a g1 g2,v.gs= [a]/\g.gs= [g1,g2]/\((v.n=0/\valN N a g1=true)\/(v.n=1/\valN N a g2=true)):=by
  rcases vS hsh hv with ⟨h,_⟩ | h | ⟨h,_⟩ | ⟨_,h⟩ | ⟨h,_⟩ | ⟨h,_⟩
  ·omega
  ·omega
  ·omega
  ·exact h
  all_goals omega
 have hs:=xQ v;rw[e1] at hs;simp only[zI] at hs;rw[e2] at hcall;have w0:IntKind.i64.wrap 0=0:=rfl;have w1:IntKind.i64.wrap 1=1:=rfl;unfold c182;rcases ho with rfl | rfl<;>rcases hc with ⟨hvn,hva⟩ | ⟨hvn,hva⟩
 ·have hc:=hcall (D+1) a hva (by omega);simp[zC v,e1,zC a,hvn,w0];refine z9 (cap:=caps) hc (by simp) (by simp[hcs,zC a]) (by simp) (by simp) ?_ hF;simp
 ·simp[zC v,e1,zC a,hvn,w0]
 ·simp[zC v,e1,zC a,hvn,w1]
 ·have hc:=hcall (D+1) a hva (by omega);simp[zC v,e1,zC a,hvn,w1];refine z9 (cap:=caps) hc (by simp) (by simp[hcs,zC a]) (by simp) (by simp) ?_ hF;simp
theorem yMH (hk:g.k=4) (hsh:zH g=true) {o n m:Int} {ar:List Fm} (h0:0<=n) (h1:n < g.n) {p:AV} {φ:Va->Bool} (h:CV N (g.gs.getD 0 (.mk 0 0 [])) p φ):
  CV N g (.fn 183 [.box [p] 0,.box [.int .i64 o,.int .i64 n,.int .i64 m,.sl 4 (ar.map encM) .no] 0]) fun v=>φ (v.gs.getD n.toNat v0):=by
 obtain ⟨F,caps,rfl,hF,hcs,hbx,hcall⟩:=h;refine ⟨183,_,rfl,by decide,rfl,by simp,fun D v hv hn=> ?_⟩;refine zP zF tok rfl rfl fun S=> ?_;obtain ⟨hl,x,e2,hx⟩:v.gs.length=g.n.toNat/\∃x,g.gs= [x]/\∀a∈v.gs,valN N a x=true:=by
  rcases vS hsh hv with ⟨h,_⟩ | h | ⟨h,_⟩ | ⟨h,_⟩ | ⟨_,h,h'⟩ | ⟨h,_⟩
  ·omega
  ·omega
  ·omega
  ·omega
  ·exact ⟨h,h'⟩
  ·omega
 obtain ⟨i,rfl⟩:∃i:Nat,n=i:=⟨n.toNat,by omega⟩;have hlt:i < v.gs.length:=by omega
 have hs:=xQ v;have hi:=uN hlt;rw[e2] at hcall;have hc:=hcall (D+1) v.gs[i] (hx _ (yOH hlt)) (by omega);rw[Int.toNat_natCast];simp only[qV hlt];generalize hge:v.gs[i]=a at*;unfold c183;simp[zC v,hlt,hge,zC a];refine z9 (cap:=caps) hc (by simp) (by simp[hcs,zC a]) (by simp) (by simp) ?_ hF;simp
def idxP (φ:Va->Bool):List Va->Nat->Int
 | [],_=> -1
 | v::l,i=>if φ v then i else idxP φ l (i+1)
theorem zCK (φ:Va->Bool):∀(l:List Va) (i:Nat),decide (0<=idxP φ l i)=l.any φ
 | [],i=>rfl
 | v::l,i=>by
  rw[idxP,List.any_cons];cases h:φ v with
  | true=>simp
  | false=>simp[<-zCK φ l (i+1)]
theorem l189 {F:FuncId} {caps:List AV} {φ:Va->Bool} (hF:F≠yid) (hcs:caps.map AV.strip=caps) {D:Nat} (l:List Va) (hl:l.length<=2^30) (hcall:∀v∈l,Go.Ab.Loc Pg Gl (D+1) F (encV v::caps) [] (.bool (φ v)) []) (S:Nat->Nat->Ent):∀(j i:Nat) (τ ω) (r:AV),i+j=l.length->r= .int .i64 (idxP φ (l.drop i) i)->
  τ 0= .sl 3 (l.map encV) .no->τ 1= .fn F caps->τ 7= .int .i64 l.length->τ 8= .int .i64 i->Rd (Loc Pg Gl) .im (RetQ [.tmp 4] r S) [.lp c189_l0,.blk 0,.c aZ] (stF 19 D τ ω S):=by
 intro j
 induction j with
 | zero=>
  intro i τ ω r hi hr t0 t1 t7 t8;refine zN c189_l0.eq_1 ?_;obtain rfl:i=l.length:=by omega
  rw[yOW,idxP] at hr;simp[t7,t8,aZ,hr]
 | succ j ih=>
  intro i τ ω r hi hr t0 t1 t7 t8;refine zN c189_l0.eq_1 ?_;have hlt:i < l.length:=by omega
  have hwr:=wN i (by omega);have hc:=hcall _ (yOH hlt);rw[yOM hlt,idxP] at hr;generalize hge:l[i]=a at*;simp[t0,t1,t7,t8,hlt,hge,zC a];refine zZ (cap:=caps) hc (by simp[t1]) (by simp[hcs,zC a]) (by simp) (by simp) ?_ hF;cases h:φ a with
  | true=>rw[h] at hr;simp at hr;simp[hr]
  | false=>
   rw[h] at hr;simp at hr;simp[t8,hwr];refine ih (i+1) _ _ _ (by omega) hr ?_ ?_ ?_ ?_;all_goals simp[t0,t1,t7]
theorem zRZ {F:FuncId} {caps:List AV} {φ:Va->Bool} (hF:F≠yid) (hcs:caps.map AV.strip=caps) {D:Nat} (l:List Va) (hl:l.length<=2^30) (hcall:∀v∈l,Go.Ab.Loc Pg Gl (D+2) F (encV v::caps) [] (.bool (φ v)) []):
  Go.Ab.Loc Pg Gl D 185 [.sl 3 (l.map encV) .no,.fn F caps] [] (.bool (l.any φ)) []:=by
 have h189:Go.Ab.Loc Pg Gl (D+1) 189 [.sl 3 (l.map encV) .no,.fn F caps] [] (.int .i64 (idxP φ l 0)) []:=by
  refine zP zF tok rfl rfl fun S=> ?_;unfold c189;generalize hr:AV.int .i64 (idxP φ l 0)=r;simp;refine l189 hF hcs l hl hcall S l.length 0 _ _ _ (by omega) (by simpa using hr.symm) ?_ ?_ ?_ ?_;all_goals simp
 refine zP zF tok rfl rfl fun S=> ?_;unfold c185;rw[<-zCK φ l 0];simp;refine zE h189 (by simp[hcs]) ?_;simp
theorem yMG (hk:g.k=5) (hsh:zH g=true) {p:AV} {φ:Va->Bool} (h:CV N (g.gs.getD 0 (.mk 0 0 [])) p φ):CV N g (.fn 184 [.box [p] 0]) fun v=>v.gs.any φ:=by
 obtain ⟨F,caps,rfl,hF,hcs,hbx,hcall⟩:=h;refine ⟨184,_,rfl,by decide,rfl,by simp,fun D v hv hn=> ?_⟩;refine zP zF tok rfl rfl fun S=> ?_;obtain ⟨x,e2,hx⟩:∃x,g.gs= [x]/\∀a∈v.gs,valN N a x=true:=by
  rcases vS hsh hv with ⟨h,_⟩ | h | ⟨h,_⟩ | ⟨h,_⟩ | ⟨h,_⟩ | ⟨_,h,_⟩
  ·omega
  ·omega
  ·omega
  ·omega
  ·omega
  ·exact h
 have hs:=xQ v;have hlv:=wJ v.gs;rw[e2] at hcall;have h185:=zRZ (D:=D+1) (φ:=φ) hF hcs v.gs (by omega) (fun a ha=>hcall (D+1+2) a (hx a ha) (by
  obtain ⟨i,hi,rfl⟩:=yOX.1 ha;have:=uN hi;omega))
 unfold c184;simp[zC v];refine zE h185 (by simp[hcs]) ?_;simp
end
end Go.Ab.Tab
/- logic's truths of weights. -/
namespace Go.Ab.Tab
open Go Go.Ab
theorem zAZ (p:Va->Bool) (ws:List Int):wSum p [] ws=0:=by cases ws<;>rfl
def wB (o n m sum all:Int):Bool:=if o=12 then decide (n<=sum) else decide (n*all<=sum*m)
theorem l186 {F:FuncId} {caps:List AV} {φ:Va->Bool} (hF:F≠yid) (hcs:caps.map AV.strip=caps) {D:Nat} {v:Va} (hlw:v.ws.length=v.gs.length) (hgl:v.gs.length<=2000) (hcall:∀a∈v.gs,Go.Ab.Loc Pg Gl (D+1) F (encV a::caps) [] (.bool (φ a)) []) {o n m:Int} {ar:List Fm} (hnm:o≠12->0<=n/\n<=1048576/\0<=m/\m<=1048576) (S:Nat->Nat->Ent):
  ∀(j i:Nat) (sum all:Int) (τ ω) (r:AV),i+j=v.gs.length->0<=sum->sum<=all->all<=1048576->wOk all (v.ws.drop i)=true->r= .bool (wB o n m (sum+wSum φ (v.gs.drop i) (v.ws.drop i)) (all+wSum (fun _=>true) (v.gs.drop i) (v.ws.drop i)))->
  τ 1= .box [.fn F caps] 0->τ 2= .box [.int .i64 o,.int .i64 n,.int .i64 m,.sl 4 (ar.map encM) .no] 0->τ 3= .ptr D 3 1 0->ω 3=(1,.cells [.int .i64 v.n,.sl 3 (v.gs.map encV) .no,.sl 1 (v.ws.map (AV.int .i64)) .no])->τ 5= .int .i64 all->τ 6= .int .i64 sum->τ 10= .sl 3 (v.gs.map encV) .no->τ 11= .int .i64 v.gs.length->τ 12= .int .i64 i->
  Rd (Loc Pg Gl) .im (RetQ [.tmp 4] r S) [.lp c186_l0,.blk 0,.c eJ] (stF 51 D τ ω S):=by
 intro j
 induction j with
 | zero=>
  intro i sum all τ ω r hi h0 h1 h2 hwk hr t1 t2 t3 w3 t5 t6 t10 t11 t12;refine zN c186_l0.eq_1 ?_;obtain rfl:i=v.gs.length:=by omega
  rw[yOW,zAZ,zAZ] at hr;simp only[Int.add_zero] at hr;unfold wB at hr;by_cases o12:o=12
  ·subst o12;rw[yRO rfl] at hr;simp[t2,t5,t6,t11,t12,eJ,hr]
  ·rw[yRN o12] at hr;obtain ⟨n1,n2,m1,m2⟩:=hnm o12;have b1:sum*m<=1048576*1048576:=Int.mul_le_mul (by omega) m2 m1 (by omega);have b2:0<=sum*m:=Int.mul_nonneg h0 m1;have b3:n*all<=1048576*1048576:=Int.mul_le_mul n2 h2 (by omega) (by omega);have b4:0<=n*all:=Int.mul_nonneg n1 (by omega);have e1:IntKind.i64.wrap (sum*m)=sum*m:=vE (by omega) (by omega);have e2:IntKind.i64.wrap (n*all)=n*all:=vE (by omega) (by omega);simp[t2,t5,t6,t11,t12,eJ,o12,e1,e2,hr]
 | succ j ih=>
  intro i sum all τ ω r hi h0 h1 h2 hwk hr t1 t2 t3 w3 t5 t6 t10 t11 t12;refine zN c186_l0.eq_1 ?_;have hlt:i < v.gs.length:=by omega
  have hlw':i < v.ws.length:=by omega
  have hwr:=wN i (by omega);have hc:=hcall _ (yOH hlt);rw[yOM hlw',wOk] at hwk;simp only[yOB,yRP] at hwk;rw[yOM hlt,yOM hlw',wSum,wSum,yRO rfl] at hr;have e1:IntKind.i64.wrap (all+v.ws[i])=all+v.ws[i]:=vE (by omega) (by omega);have e2:IntKind.i64.wrap (sum+v.ws[i])=sum+v.ws[i]:=vE (by omega) (by omega);generalize hge:v.gs[i]=a at*;generalize hgw:v.ws[i]=w at*;simp[t1,t2,t3,w3,t5,t6,t10,t11,t12,hlt,hlw',hge,hgw,zC a,e1];refine zZ (cap:=caps) hc (by simp[t1]) (by simp[hcs,zC a]) (by simp) (by simp) ?_ hF;cases hp:φ a with
  | true=>
   rw[hp,yRO rfl] at hr;simp[t3,w3,t6,t12,hlw',hgw,e2,hwr];refine ih (i+1) (sum+w) (all+w) _ _ r (by omega) (by omega) (by omega) (by omega) hwk.2.2 (by rw[hr,yOQ,yOQ]) ?_ ?_ ?_ ?_ ?_ ?_ ?_ ?_ ?_;all_goals simp[t1,t2,t3,w3,t10,t11]
  | false=>
   rw[hp] at hr;simp only[Bool.false_eq_true,if_false,Int.zero_add] at hr;simp[t12,hwr];refine ih (i+1) sum (all+w) _ _ r (by omega) (by omega) (by omega) (by omega) hwk.2.2 (by rw[hr,yOQ]) ?_ ?_ ?_ ?_ ?_ ?_ ?_ ?_ ?_;all_goals simp[t1,t2,t3,w3,t6,t10,t11]
section
variable {N:Nat} {g:Fu}
theorem yDV (hk:g.k=6\/g.k=7) (hsh:zH g=true) {o n m:Int} {ar:List Fm} (hnm:o≠12->0<=n/\n<=1048576/\0<=m/\m<=1048576) {p:AV} {φ:Va->Bool} (h:CV N (g.gs.getD 0 (.mk 0 0 [])) p φ):
  CV N g (.fn 186 [.box [p] 0,.box [.int .i64 o,.int .i64 n,.int .i64 m,.sl 4 (ar.map encM) .no] 0]) fun v=>wB o n m (wSum φ v.gs v.ws) (wSum (fun _=>true) v.gs v.ws):=by
 obtain ⟨F,caps,rfl,hF,hcs,hbx,hcall⟩:=h;refine ⟨186,_,rfl,by decide,rfl,by simp,fun D v hv hn=> ?_⟩;refine zP zF tok rfl rfl fun S=> ?_;obtain ⟨⟨x,e2,hx⟩,hw1,hw2⟩:(∃x,g.gs= [x]/\∀a∈v.gs,valN N a x=true)/\v.ws.length=v.gs.length/\wOk 0 v.ws=true:=by
  rcases vS hsh hv with ⟨h,_⟩ | h | ⟨h,_⟩ | ⟨h,_⟩ | ⟨h,_⟩ | ⟨_,h,_,h'⟩
  ·omega
  ·omega
  ·omega
  ·omega
  ·omega
  ·exact ⟨h,h' (by omega)⟩
 have hs:=xQ v;have hlv:=wJ v.gs;rw[e2] at hcall;generalize hr:AV.bool (wB o n m (wSum φ v.gs v.ws) (wSum (fun _=>true) v.gs v.ws))=r;unfold c186;simp[zC v];refine l186 (o:=o) (n:=n) (m:=m) (ar:=ar) hF hcs hw1 (by omega) (fun a ha=>hcall (D+1) a (hx a ha) (by
  obtain ⟨i,hi,rfl⟩:=yOX.1 ha;have:=uN hi;omega)) hnm S v.gs.length 0 0 0 _ _ r (by omega) (by omega) (by omega) (by omega) (by simpa using hw2) (by simpa using hr.symm) ?_ ?_ ?_ ?_ ?_ ?_ ?_ ?_ ?_
 all_goals simp
end
end Go.Ab.Tab
/- logic's model: states. -/
namespace Go.Ab.Tab
open Go Go.Ab
def AZ (r:Nat->Bool) (n z:Nat):List Bool:=(yOL n).map fun i=>decide (i < z)&&r i
theorem tU (r n z):(AZ r n z).length=n:=by simp[AZ]
theorem zMA {r:Nat->Bool} {n z i:Nat} (h:i < n):(AZ r n z)[i]?=some (decide (i < z)&&r i):=by unfold AZ;rw[List.getElem?_map,List.getElem?_range h];rfl
theorem eS (r:Nat->Bool) (n:Nat):AZ r n 0=List.replicate n false:=by
 apply yOY;intro i;by_cases h:i < n
 ·rw[zMA h,List.getElem?_replicate,yRO h];simp
 ·rw[yON (by rw[tU];omega),yON (by simp;omega)]
theorem yFA (r:Nat->Bool) {n z:Nat} (h:z < n):(AZ r n z).set z (r z)=AZ r n (z+1):=by
 apply yOY;intro i;rw[List.getElem?_set];by_cases hi:i < n
 ·rw[zMA hi,zMA hi];by_cases e:z=i
  ·subst e;rw[yRO rfl,yRO (by rw[tU];omega)];simp
  ·rw[yRN e];by_cases h2:i < z
   ·simp[h2,show i < z+1 by omega]
   ·simp[h2,show¬i < z+1 by omega]
 ·rw[yON (by rw[tU];omega:(AZ r n (z+1)).length<=i),yRN (by omega),yON (by rw[tU];omega)]
theorem zDT (r:Nat->Bool) {n z:Nat} (h:z < n):List.take z ((AZ r n z).map AV.bool)++AV.bool (r z)::List.drop (z+1) ((AZ r n z).map AV.bool)=(AZ r n (z+1)).map AV.bool:=by
 have h1:=List.set_eq_take_append_cons_drop (l:=(AZ r n z).map AV.bool) (i:=z) (a:=AV.bool (r z));rw[yRO (by simp[tU,h])] at h1;rw[<-h1,<-List.map_set,yFA r h]
def bT (n X:Nat):List Bool:=(yOL n).map X.testBit
theorem jT (n X:Nat):(bT n X).length=n:=by simp[bT]
theorem zDL {n X i:Nat} (h:i < (bT n X).length):(bT n X)[i]=X.testBit i:=by simp[bT]
theorem zPC {r:Nat->Bool} {n X:Nat} (h:∀i,i < n->r i=X.testBit i):AZ r n n=bT n X:=by
 unfold AZ bT;refine List.map_congr_left fun i hi=> ?_;rw[List.mem_range] at hi;simp[hi,h i hi]
section
variable {D n:Nat} {S:Nat->Nat->Ent} {Q:St->Prop} {K:List AI}
theorem zTU (hn:n<=2^30) (hK:∀τ ω,τ 5= .own D 19 1 0 n 1 false->ω 19=(1,.cells ((AZ (fun _=>true) n n).map AV.bool))->Rd (Loc Pg Gl) .im Q K (stF 112 D τ ω S)):∀(j z:Nat) (τ ω),z+j=n->τ 5= .own D 19 1 0 n 1 false->τ 25= .int .i64 n->τ 26= .int .i64 z->ω 19=(1,.cells ((AZ (fun _=>true) n z).map AV.bool))->
  Rd (Loc Pg Gl) .im Q (.lp c125_l0:: .blk 1::K) (stF 112 D τ ω S):=by
 intro j
 induction j with
 | zero=>
  intro z τ ω hz t5 t25 t26 w19;refine zN c125_l0.eq_1 ?_;obtain rfl:z=n:=by omega
  simp[t25,t26];exact hK _ _ (by simp[t5]) w19
 | succ j ih=>
  intro z τ ω hz t5 t25 t26 w19;refine zN c125_l0.eq_1 ?_;have hlt:z < n:=by omega
  have hlt1:z+1<=n:=by omega
  have hwr:=wN z (by omega);have hp:=zDT (fun _=>true) hlt;have hl:=tU (fun _=>true) n z;try (simp only at hp)
  generalize AZ (fun _=>true) n z=A at*;generalize hB:AZ (fun _=>true) n (z+1)=B at*;simp[t5,t25,t26,w19,hlt,hlt1,hl,hp,hwr];refine ih (z+1) _ _ (by omega) ?_ ?_ ?_ ?_
  case refine_4=>rw[hB];simp
  all_goals simp[t5,t25]
theorem zTT (hn:n<=2^30) (X:Nat) (hK:∀τ ω,τ 5= .own D 19 1 0 n 1 false->ω 19=(1,.cells ((AZ (fun i=> !X.testBit i) n n).map AV.bool))->Rd (Loc Pg Gl) .im Q K (stF 112 D τ ω S)):∀(j z:Nat) (τ ω),z+j=n->τ 5= .own D 19 1 0 n 1 false->τ 40= .sl 1 ((bT n X).map AV.bool) .no->τ 41= .int .i64 n->τ 42= .int .i64 z->ω 19=(1,.cells ((AZ (fun i=> !X.testBit i) n z).map AV.bool))->
  Rd (Loc Pg Gl) .im Q (.lp c125_l1:: .blk 3::K) (stF 112 D τ ω S):=by
 intro j
 induction j with
 | zero=>
  intro z τ ω hz t5 t40 t41 t42 w19;refine zN c125_l1.eq_1 ?_;obtain rfl:z=n:=by omega
  simp[t41,t42];exact hK _ _ (by simp[t5]) w19
 | succ j ih=>
  intro z τ ω hz t5 t40 t41 t42 w19;refine zN c125_l1.eq_1 ?_;have hlt:z < n:=by omega
  have hlt1:z+1<=n:=by omega
  have hwr:=wN z (by omega);have hp:=zDT (fun i=> !X.testBit i) hlt;have hl:=tU (fun i=> !X.testBit i) n z;have hbl:=jT n X;have hzb:z < (bT n X).length:=by omega
  have hg:=zDL hzb;try (simp only at hp)
  generalize AZ (fun i=> !X.testBit i) n z=A at*;generalize hB:AZ (fun i=> !X.testBit i) n (z+1)=B at*;generalize bT n X=bX at*;simp[t5,t40,t41,t42,w19,hlt,hlt1,hl,hp,hwr,hbl,hzb,hg];refine ih (z+1) _ _ (by omega) ?_ ?_ ?_ ?_ ?_
  case refine_5=>rw[hB];simp
  all_goals simp[t5,t40,t41]
theorem zTS (hn:n<=2^30) (X Y:Nat) (hK:∀τ ω,τ 5= .own D 19 1 0 n 1 false->ω 19=(1,.cells ((AZ (fun i=>X.testBit i&&Y.testBit i) n n).map AV.bool))->Rd (Loc Pg Gl) .im Q K (stF 112 D τ ω S)):∀(j z:Nat) (τ ω),z+j=n->τ 5= .own D 19 1 0 n 1 false->τ 66= .sl 1 ((bT n X).map AV.bool) .no->τ 9= .sl 1 ((bT n Y).map AV.bool) .no->τ 67= .int .i64 n->τ 68= .int .i64 z->ω 19=(1,.cells ((AZ (fun i=>X.testBit i&&Y.testBit i) n z).map AV.bool))->
  Rd (Loc Pg Gl) .im Q (.lp c125_l2:: .blk 5::K) (stF 112 D τ ω S):=by
 intro j
 induction j with
 | zero=>
  intro z τ ω hz t5 t66 t9 t67 t68 w19;refine zN c125_l2.eq_1 ?_;obtain rfl:z=n:=by omega
  simp[t67,t68];exact hK _ _ (by simp[t5]) w19
 | succ j ih=>
  intro z τ ω hz t5 t66 t9 t67 t68 w19;refine zN c125_l2.eq_1 ?_;have hlt:z < n:=by omega
  have hlt1:z+1<=n:=by omega
  have hwr:=wN z (by omega);have hp:=zDT (fun i=>X.testBit i&&Y.testBit i) hlt;have hl:=tU (fun i=>X.testBit i&&Y.testBit i) n z;have hbl:=jT n X;have hzb:z < (bT n X).length:=by omega
  have hg:=zDL hzb;have hbl':=jT n Y;have hzb':z < (bT n Y).length:=by omega
  have hg':=zDL hzb';try (simp only at hp)
  generalize AZ (fun i=>X.testBit i&&Y.testBit i) n z=A at*;generalize hB:AZ (fun i=>X.testBit i&&Y.testBit i) n (z+1)=B at*;generalize bT n X=bX at*;generalize bT n Y=bY at*;cases hx:X.testBit z with
  | true=>
   rw[hx] at hg hp;simp at hp;simp[t5,t66,t9,t67,t68,w19,hlt,hlt1,hl,hp,hwr,hbl,hzb,hg,hbl',hzb',hg'];refine ih (z+1) _ _ (by omega) ?_ ?_ ?_ ?_ ?_ ?_
   case refine_6=>rw[hB];simp
   all_goals simp[t5,t66,t9,t67]
  | false=>
   rw[hx] at hg hp;simp at hp;simp[t5,t66,t9,t67,t68,w19,hlt,hlt1,hl,hp,hwr,hbl,hzb,hg];refine ih (z+1) _ _ (by omega) ?_ ?_ ?_ ?_ ?_ ?_
   case refine_6=>rw[hB];simp
   all_goals simp[t5,t66,t9,t67]
theorem zTR (m:List Va) (hm:m.length=n) (hn:n<=2^30) {F:FuncId} {caps:List AV} (hF:F≠yid) (hcs:caps.map AV.strip=caps) (φ:Va->Bool) (hcall:∀v∈m,Go.Ab.Loc Pg Gl (D+1) F (encV v::caps) [] (.bool (φ v)) []) (hK:∀τ ω,τ 5= .own D 19 1 0 n 1 false->ω 19=(1,.cells ((AZ (fun i=>φ (m.getD i v0)) n n).map AV.bool))->Rd (Loc Pg Gl) .im Q K (stF 112 D τ ω S)):∀(j z:Nat) (τ ω),z+j=n->τ 5= .own D 19 1 0 n 1 false->τ 12= .fn F caps->τ 97= .sl 3 (m.map encV) .no->τ 98= .int .i64 n->τ 99= .int .i64 z->ω 19=(1,.cells ((AZ (fun i=>φ (m.getD i v0)) n z).map AV.bool))->
  Rd (Loc Pg Gl) .im Q (.lp c125_l3:: .blk 7::K) (stF 112 D τ ω S):=by
 intro j
 induction j with
 | zero=>
  intro z τ ω hz t5 t12 t97 t98 t99 w19;refine zN c125_l3.eq_1 ?_;obtain rfl:z=n:=by omega
  simp[t98,t99];exact hK _ _ (by simp[t5]) w19
 | succ j ih=>
  intro z τ ω hz t5 t12 t97 t98 t99 w19;refine zN c125_l3.eq_1 ?_;have hlt:z < n:=by omega
  have hlt1:z+1<=n:=by omega
  have hltm:z < m.length:=by omega
  have hwr:=wN z (by omega);have hp:=zDT (fun i=>φ (m.getD i v0)) hlt;have hl:=tU (fun i=>φ (m.getD i v0)) n z;have hc:=hcall _ (yOH hltm);try (simp only at hp)
  rw[qV hltm] at hp;generalize AZ (fun i=>φ (m.getD i v0)) n z=A at*;generalize hB:AZ (fun i=>φ (m.getD i v0)) n (z+1)=B at*;generalize hge:m[z]=v at*;generalize φ v=fv at*;simp[t5,t12,t97,t98,t99,w19,hlt,hlt1,hltm,hge,zC v];refine zZ (cap:=caps) hc (by simp[t12]) (by simp[hcs,zC v]) (by simp) (by simp) ?_ hF;simp[w19,hlt,hlt1,hl,hp,t99,hwr];refine ih (z+1) _ _ (by omega) ?_ ?_ ?_ ?_ ?_ ?_
  case refine_6=>rw[hB];simp
  all_goals simp[t5,t12,t97,t98]
end
end Go.Ab.Tab
/- logic's model: truths. -/
namespace Go.Ab.Tab
open Go Go.Ab
section
variable (s:Sy)
def yEM (a:Fm):Prop:=∀odd,valM s.f 0 none odd a=true->∀D,Go.Ab.Loc Pg Gl D 125 [encY s,encM a] [] (vG (bT s.m.length (evS s.m [] a))) []
def yEL (a:Fm):Prop:=∀g odd,zH g=true->valM s.f 0 (some g) odd a=true->∃p,CV s.m.length g p (prB s.m [] a)/\∀D,Go.Ab.Loc Pg Gl D 151 [encY s,encF g,encM a] [] p []
end
section
variable {s:Sy} {D:Nat} {S:Nat->Nat->Ent}
theorem zCS {X:Nat} {bs:List Bool} (hb:bs.length=s.m.length) (he:bs=bT s.m.length X) (τ:Nat->AV) (ω:Nat->Ent) (t5:τ 5= .own D 19 1 0 s.m.length 1 false) (w19:ω 19=(1,.cells (bs.map AV.bool))):
  Rd (Loc Pg Gl) .im (RetQ [.tmp 4] (vG (bT s.m.length X)) S) [.c pD] (stF 112 D τ ω S):=by
 have hfr:∀τ,frz (stF 112 D τ ω S) frzD (.own D 19 1 0 s.m.length 1 false)=some (vG bs,[(D,19)]):=fun τ=>zJB (by decide) hb w19;rw[<-he];unfold pD;simp[t5,hfr];rfl
theorem zHK (hm:s.m.length<=2^30) (D:Nat):Go.Ab.Loc Pg Gl D 125 [encY s,encM (.mk 0 0 0 [])] [] (vG (bT s.m.length (evS s.m [] (.mk 0 0 0 [])))) []:=by
 refine zP zF tok rfl rfl fun S=> ?_;rw[xF,yRO rfl];have hn2:(s.m.length:Int)<=1099511627776:=by omega
 have z0:=eS (fun _=>true) s.m.length;have key:=fun z τ ω=>zTU (D:=D) (n:=s.m.length) (S:=S) (Q:=RetQ [.tmp 4] (vG (bT s.m.length (allT s.m.length))) S) (K:=[.blk 0,.c pD]) hm (fun τ ω t5 w19=>by
  simp;exact zCS (tU ..) (zPC fun i hi=>by rw[sP];simp[hi]) τ ω t5 w19) s.m.length z τ ω
 generalize vG (bT s.m.length (allT s.m.length))=r at*;unfold c125;simp[encY,zG,hn2];refine key 0 _ _ (by omega) ?_ ?_ ?_ ?_
 case refine_4=>rw[z0];simp
 all_goals simp
theorem zHJ (hm:s.m.length<=2^30) {b:Fm} (hb:∀D,Go.Ab.Loc Pg Gl D 125 [encY s,encM b] [] (vG (bT s.m.length (evS s.m [] b))) []) (n m:Int) (D:Nat):Go.Ab.Loc Pg Gl D 125 [encY s,encM (.mk 1 n m [b])] [] (vG (bT s.m.length (evS s.m [] (.mk 1 n m [b])))) []:=by
 refine zP zF tok rfl rfl fun S=> ?_;rw[xF,yRN (by omega),yRN (by omega),yRO rfl,yP,yOO];have hn2:(s.m.length:Int)<=1099511627776:=by omega
 have h:=hb (D+1);generalize evS s.m [] b=X at*;have z0:=eS (fun i=> !X.testBit i) s.m.length;have key:=fun z τ ω=>zTT (D:=D) (n:=s.m.length) (S:=S) (Q:=RetQ [.tmp 4] (vG (bT s.m.length (allT s.m.length ^^^ (allT s.m.length &&& X)))) S) (K:=[.blk 0,.c pD]) hm X (fun τ ω t5 w19=>by
  simp;exact zCS (tU ..) (zPC fun i hi=>by rw[Nat.testBit_xor,yOZ,sP];simp[hi]) τ ω t5 w19) s.m.length z τ ω
 generalize vG (bT s.m.length (allT s.m.length ^^^ (allT s.m.length &&& X)))=r at*;have hbl:=jT s.m.length X;simp only[vG] at h;unfold c125;simp[encY,zG,zA b,hn2] at h|-;refine zW h (by simp[zA b]) ?_;simp[hbl];refine key 0 _ _ (by omega) ?_ ?_ ?_ ?_ ?_
 case refine_5=>rw[z0];simp
 all_goals simp
theorem zHI (hm:s.m.length<=2^30) {b c:Fm} (hb:∀D,Go.Ab.Loc Pg Gl D 125 [encY s,encM b] [] (vG (bT s.m.length (evS s.m [] b))) []) (hc:∀D,Go.Ab.Loc Pg Gl D 125 [encY s,encM c] [] (vG (bT s.m.length (evS s.m [] c))) []) (n m:Int) (D:Nat):Go.Ab.Loc Pg Gl D 125 [encY s,encM (.mk 2 n m [b,c])] [] (vG (bT s.m.length (evS s.m [] (.mk 2 n m [b,c])))) []:=by
 refine zP zF tok rfl rfl fun S=> ?_;rw[xF,yRN (by omega),yRN (by omega),yRN (by omega),yRO rfl,yP,yP,yOO,List.getD_cons_succ,yOO];have hn2:(s.m.length:Int)<=1099511627776:=by omega
 have h:=hb (D+1);have h':=hc (D+1);generalize evS s.m [] b=X at*;generalize evS s.m [] c=Y at*;have z0:=eS (fun i=>X.testBit i&&Y.testBit i) s.m.length;have key:=fun z τ ω=>zTS (D:=D) (n:=s.m.length) (S:=S) (Q:=RetQ [.tmp 4] (vG (bT s.m.length (X &&& Y))) S) (K:=[.blk 0,.c pD]) hm X Y (fun τ ω t5 w19=>by
  simp;exact zCS (tU ..) (zPC fun i hi=>by rw[yOZ]) τ ω t5 w19) s.m.length z τ ω
 generalize vG (bT s.m.length (X &&& Y))=r at*;have hbl:=jT s.m.length X;simp only[vG] at h h';unfold c125;simp[encY,zG,zA b,zA c,hn2] at h h'|-;refine zW h' (by simp[zA c]) ?_;simp;refine zW h (by simp[zA b]) ?_;simp[hbl];refine key 0 _ _ (by omega) ?_ ?_ ?_ ?_ ?_ ?_
 case refine_6=>rw[z0];simp
 all_goals simp
theorem zHH (hm:s.m.length<=2^30) (hv:∀v∈s.m,valN s.m.length v s.f=true/\zJ v<=2000) {b:Fm} {p:AV} (hp:CV s.m.length s.f p (prB s.m [] b)) (hb:∀D,Go.Ab.Loc Pg Gl D 151 [encY s,encF s.f,encM b] [] p []) (n m:Int) (D:Nat):Go.Ab.Loc Pg Gl D 125 [encY s,encM (.mk 3 n m [b])] [] (vG (bT s.m.length (evS s.m [] (.mk 3 n m [b])))) []:=by
 refine zP zF tok rfl rfl fun S=> ?_;rw[xF,yRN (by omega),yRN (by omega),yRN (by omega),yRN (by omega),yL,yOO];have hn2:(s.m.length:Int)<=1099511627776:=by omega
 have h:=hb (D+1);obtain ⟨F,caps,rfl,hF,hcs,hbx,hcall⟩:=hp;generalize prB s.m [] b=φ at*;have z0:=eS (fun i=>φ (s.m.getD i v0)) s.m.length;have key:=fun z τ ω=>zTR (D:=D) (n:=s.m.length) (S:=S) (Q:=RetQ [.tmp 4] (vG (bT s.m.length (rB φ 0 s.m))) S) (K:=[.blk 0,.c pD]) s.m rfl hm hF hcs φ (fun v hvm=>hcall (D+1) v (hv v hvm).1 (hv v hvm).2) (fun τ ω t5 w19=>by
  simp;exact zCS (tU ..) (zPC fun i hi=>by
   rw[rA,Nat.sub_zero,decide_eq_true (show 0<=i/\i < 0+s.m.length by omega),Bool.true_and]) τ ω t5 w19) s.m.length z τ ω
 generalize vG (bT s.m.length (rB φ 0 s.m))=r at*;unfold c125;simp[encY,zG,zB s.f,zA b,hn2] at h|-;refine zW h (by simp[zB s.f,zA b]) ?_;simp[hcs];refine key 0 _ _ (by omega) ?_ ?_ ?_ ?_ ?_ ?_
 case refine_6=>rw[z0];simp
 all_goals simp[hcs]
end
end Go.Ab.Tab
/- logic's model: values. -/
namespace Go.Ab.Tab
open Go Go.Ab
theorem dV (σ:St) (k:Nat):∀caps:List AV,(∀c∈caps,∃cs,c= .box cs 0)->caps.mapM (frz σ (k+1))=some (caps.map fun c=>(c,[]))
 | [],_=>rfl
 | c::l,h=>by
  obtain ⟨cs,rfl⟩:=h c (by simp);rw[yOJ,dV σ k l fun d hd=>h d (by simp[hd])];rfl
theorem nN (σ:St) (k:Nat) {F:FuncId} {caps:List AV} (h:∀c∈caps,∃cs,c= .box cs 0):frz σ (k+2) (.fn F caps)=some (.fn F caps,[]):=by
 rw[frz,dV σ k caps h];simp only[List.map_map];have e1:caps.map ((fun x:AV×List (Nat×Nat)=>x.1)∘fun c=>(c,[]))=caps:=by
  have:((fun x:AV×List (Nat×Nat)=>x.1)∘fun c:AV=>(c,([]:List (Nat×Nat))))=id:=rfl;rw[this,List.map_id]
 have e2:(caps.map ((fun x:AV×List (Nat×Nat)=>x.2)∘fun c=>(c,[]))).flatten= []:=by
  clear h e1
  induction caps<;>simp_all
 rw[e1,e2]
theorem sG {D n:Nat} {τ:Nat->AV} {ω:Nat->Ent} {S:Nat->Nat->Ent} {i:Nat} (hi:i < n) {p:AV} (k:Nat) (hp:∀σ,frz σ (k+2) p=some (p,[])) (hone:p.one=true) (hst:p.strip1=p) (hw:ω i=(1,.cells [p])):frz (stF n D τ ω S) (k+3) (.ptr D i 1 0)=some (.box [p] 0,[(D,i)]):=by
 rw[frz];simp only[yD,if_true,yRO hi,hw];rw[yRO ⟨trivial,rfl,by simp[hone]⟩];have e:([p]:List AV).mapM (frz (stF n D τ ω S) (k+2))=some [(p,[])]:=by rw[yOJ,hp];rfl
 rw[e];simp[hst]
theorem fM {σ:St} {k:Nat} {f:FuncId} {a a':AV} {l:List (Nat×Nat)} (h:frz σ (k+1) a=some (a',l)):frz σ (k+2) (.fn f [a])=some (.fn f [a'],l):=by
 rw[frz];have e:([a]:List AV).mapM (frz σ (k+1))=some [(a',l)]:=by rw[yOJ,h];rfl
 rw[e];simp
theorem aE {σ:St} {k:Nat} {f:FuncId} {a a' b b':AV} {l l':List (Nat×Nat)} (h:frz σ (k+1) a=some (a',l)) (h':frz σ (k+1) b=some (b',l')):frz σ (k+2) (.fn f [a,b])=some (.fn f [a',b'],l++l'):=by
 rw[frz];have e:([a,b]:List AV).mapM (frz σ (k+1))=some [(a',l),(b',l')]:=by rw[yOJ,h,yOJ,h'];rfl
 rw[e];simp
theorem upBx {caps:List AV} (h:∀c∈caps,∃cs,c= .box cs 0) (D:Nat):(∀x,x∈caps->AV.upto D 19 x=true)=True:=eq_true fun x hx=>by obtain ⟨cs,rfl⟩:=h x hx;rfl
section
variable {s:Sy}
theorem zHA (g:Fu) (D:Nat) (n m:Int):Go.Ab.Loc Pg Gl D 151 [encY s,encF g,encM (.mk 0 n m [])] [] (.fn 175 []) []:=by
 refine zP zF tok rfl rfl fun S=> ?_;have hfz:∀σ,frz σ frzD (.fn 175 [])=some (.fn 175 [],[]):=fun σ=>rfl;unfold c151;simp[encY,zB g,zG,hfz]
theorem zGZ (g:Fu) {b:Fm} {F:FuncId} {caps:List AV} (hbx:∀c∈caps,∃cs,c=AV.box cs 0) (hcs:caps.map AV.strip=caps) (hb:∀D,Go.Ab.Loc Pg Gl D 151 [encY s,encF g,encM b] [] (.fn F caps) []) (n m:Int) (D:Nat):Go.Ab.Loc Pg Gl D 151 [encY s,encF g,encM (.mk 1 n m [b])] [] (.fn 176 [.box [.fn F caps] 0]) []:=by
 refine zP zF tok rfl rfl fun S=> ?_;have h:=hb (D+1);have hfz:∀τ ω,ω 7=(1,.cells [.fn F caps])->frz (stF 84 D τ ω S) frzD (.fn 176 [.ptr D 7 1 0])=some (.fn 176 [.box [.fn F caps] 0],[(D,7)]):=fun τ ω hw=>fM (sG (by omega) 16 (fun σ=>nN σ 16 hbx) rfl rfl hw);have hup:=upBx hbx D;unfold c151;simp[encY,zB g,zG,zA b] at h|-;refine zW h (by simp[zB g,zA b]) ?_;simp[hup,hfz]
theorem fL {D n:Nat} {τ:Nat->AV} {ω:Nat->Ent} {S:Nat->Nat->Ent} {i:Nat} (hi:i < n) (k:Nat) {a b c:Int} {l:List AV} (hw:ω i=(1,.cells [.int .i64 a,.int .i64 b,.int .i64 c,.sl 4 l .no])):frz (stF n D τ ω S) (k+3) (.ptr D i 1 0)=some (.box [.int .i64 a,.int .i64 b,.int .i64 c,.sl 4 l .no] 0,[(D,i)]):=by
 rw[frz];simp only[yD,if_true,yRO hi,hw];rw[yRO ⟨trivial,rfl,rfl⟩];rfl
theorem zGY (g:Fu) {b b':Fm} {F F':FuncId} {caps caps':List AV} (hbx:∀c∈caps,∃cs,c=AV.box cs 0) (hbx':∀c∈caps',∃cs,c=AV.box cs 0) (hb:∀D,Go.Ab.Loc Pg Gl D 151 [encY s,encF g,encM b] [] (.fn F caps) []) (hb':∀D,Go.Ab.Loc Pg Gl D 151 [encY s,encF g,encM b'] [] (.fn F' caps') []) (n m:Int) (D:Nat):Go.Ab.Loc Pg Gl D 151 [encY s,encF g,encM (.mk 2 n m [b,b'])] [] (.fn 177 [.box [.fn F caps] 0,.box [.fn F' caps'] 0]) []:=by
 refine zP zF tok rfl rfl fun S=> ?_;have h:=hb (D+1);have h':=hb' (D+1);have hfz:∀τ ω,ω 8=(1,.cells [.fn F caps])->ω 9=(1,.cells [.fn F' caps'])->frz (stF 84 D τ ω S) frzD (.fn 177 [.ptr D 8 1 0,.ptr D 9 1 0])=some (.fn 177 [.box [.fn F caps] 0,.box [.fn F' caps'] 0],[(D,8),(D,9)]):=fun τ ω hw hw'=>aE (sG (by omega) 16 (fun σ=>nN σ 16 hbx) rfl rfl hw) (sG (by omega) 16 (fun σ=>nN σ 16 hbx') rfl rfl hw');have hup:=upBx hbx D;have hup':=upBx hbx' D;unfold c151;simp[encY,zB g,zG,zA b,zA b'] at h h'|-;refine zW h (by simp[zB g,zA b]) ?_;simp;refine zW h' (by simp[zB g,zA b']) ?_;simp[hup,hup',hfz]
theorem zGX (g:Fu) {b:Fm} {bs:List Bool} (hb:∀D,Go.Ab.Loc Pg Gl D 125 [encY s,encM b] [] (vG bs) []) (n m:Int) (D:Nat):Go.Ab.Loc Pg Gl D 151 [encY s,encF g,encM (.mk 4 n m [b])] [] (.fn 178 [.box [vG bs] 0]) []:=by
 refine zP zF tok rfl rfl fun S=> ?_;have h:=hb (D+1);simp only[vG] at h|-;have hfz:∀τ ω,ω 10=(1,.cells [.sl 1 (bs.map AV.bool) .no])->frz (stF 84 D τ ω S) frzD (.fn 178 [.ptr D 10 1 0])=some (.fn 178 [.box [.sl 1 (bs.map AV.bool) .no] 0],[(D,10)]):=fun τ ω hw=>fM (sG (by omega) 16 (fun σ=>rfl) rfl rfl hw);unfold c151;simp[encY,zB g,zG,zA b] at h|-;refine zW h (by simp[zA b]) ?_;simp[hfz]
theorem zGW (g:Fu) (n m:Int) (ar:List Fm) (D:Nat):Go.Ab.Loc Pg Gl D 151 [encY s,encF g,encM (.mk 5 n m ar)] [] (.fn 179 [.box [.int .i64 5,.int .i64 n,.int .i64 m,.sl 4 (ar.map encM) .no] 0]) []:=by
 refine zP zF tok rfl rfl fun S=> ?_;have hfz:∀τ ω,ω 5=(1,.cells [.int .i64 5,.int .i64 n,.int .i64 m,.sl 4 (ar.map encM) .no])->frz (stF 84 D τ ω S) frzD (.fn 179 [.ptr D 5 1 0])=some (.fn 179 [.box [.int .i64 5,.int .i64 n,.int .i64 m,.sl 4 (ar.map encM) .no] 0],[(D,5)]):=fun τ ω hw=>fM (fL (by omega) 16 hw);unfold c151;simp[encY,zB g,zG,hfz]
def clX (o n m:Int) (ar:List Fm) (p:AV):AV:=if o=6 then .fn 180 [.box [p] 0] else if o=7 then .fn 181 [.box [p] 0] else if o=8\/o=9 then .fn 182 [.box [.int .i64 o,.int .i64 n,.int .i64 m,.sl 4 (ar.map encM) .no] 0,.box [p] 0]
 else if o=10 then .fn 183 [.box [p] 0,.box [.int .i64 o,.int .i64 n,.int .i64 m,.sl 4 (ar.map encM) .no] 0] else if o=11 then .fn 184 [.box [p] 0] else .fn 186 [.box [p] 0,.box [.int .i64 o,.int .i64 n,.int .i64 m,.sl 4 (ar.map encM) .no] 0]
theorem zGV (g x:Fu) {o:Int} (ho:(o=6\/o=7\/o=8\/o=9)\/(o=10\/o=11\/o=12\/o=13)) (hx:if o=7\/o=9 then g.gs[1]?=some x else g.gs[0]?=some x) {b:Fm} {F:FuncId} {caps:List AV} (hbx:∀c∈caps,∃cs,c=AV.box cs 0) (hb:∀D,Go.Ab.Loc Pg Gl D 151 [encY s,encF x,encM b] [] (.fn F caps) []) (n m:Int) (D:Nat):
  Go.Ab.Loc Pg Gl D 151 [encY s,encF g,encM (.mk o n m [b])] [] (clX o n m [b] (.fn F caps)) []:=by
 refine zP zF tok rfl rfl fun S=> ?_;have h:=hb (D+1);have h174:=zGU (D+1) g x o hx;have f1:∀f τ ω,ω 11=(1,.cells [.fn F caps])->frz (stF 84 D τ ω S) frzD (.fn f [.ptr D 11 1 0])=some (.fn f [.box [.fn F caps] 0],[(D,11)]):=fun f τ ω hw=>fM (sG (by omega) 16 (fun σ=>nN σ 16 hbx) rfl rfl hw);have f2:∀f τ ω,ω 11=(1,.cells [.fn F caps])->ω 5=(1,.cells [.int .i64 o,.int .i64 n,.int .i64 m,.sl 4 [encM b] .no])->frz (stF 84 D τ ω S) frzD (.fn f [.ptr D 11 1 0,.ptr D 5 1 0])=some (.fn f [.box [.fn F caps] 0,.box [.int .i64 o,.int .i64 n,.int .i64 m,.sl 4 [encM b] .no] 0],[(D,11),(D,5)]):=fun f τ ω hw hw'=>aE (sG (by omega) 16 (fun σ=>nN σ 16 hbx) rfl rfl hw) (fL (by omega) 16 hw')
 have f3:∀f τ ω,ω 11=(1,.cells [.fn F caps])->ω 5=(1,.cells [.int .i64 o,.int .i64 n,.int .i64 m,.sl 4 [encM b] .no])->frz (stF 84 D τ ω S) frzD (.fn f [.ptr D 5 1 0,.ptr D 11 1 0])=some (.fn f [.box [.int .i64 o,.int .i64 n,.int .i64 m,.sl 4 [encM b] .no] 0,.box [.fn F caps] 0],[(D,5),(D,11)]):=fun f τ ω hw hw'=>aE (fL (by omega) 16 hw') (sG (by omega) 16 (fun σ=>nN σ 16 hbx) rfl rfl hw);have hup:=upBx hbx D;unfold c151;rcases ho with (rfl | rfl | rfl | rfl) | (rfl | rfl | rfl | rfl);all_goals
  simp[encY,zB g,zB x,zG,zA b] at h f2 f3|-;refine zW h174 (by simp[zB g]) ?_;simp[zB x];refine zW h (by simp[zB x,zA b]) ?_;simp[hup,f1,f2,f3,zKT,clX,zA b]
end
end Go.Ab.Tab
/- logic's model at valid formulas; True. -/
namespace Go.Ab.Tab
open Go Go.Ab
theorem zUC {g:Fu} {o n m:Int} (hsg:zH g=true) (hi:inOk g o n m=true):if o=7\/o=9 then g.gs[1]?=some (inF g o) else g.gs[0]?=some (inF g o):=by
 have two:g.k=2\/g.k=3->∃x y,g.gs= [x,y]:=fun h=>by
  rw[Fu.eta g] at hsg;exact sR hsg h
 have one:g.k=4\/g.k=5\/g.k=6\/g.k=7->∃x,g.gs= [x]:=fun h=>by
  rw[Fu.eta g] at hsg;exact uH hsg h
 rcases wW hi with ⟨hk,rfl⟩ | ⟨hk,rfl⟩ | ⟨hk,rfl⟩ | ⟨hk,rfl⟩ | ⟨hk,rfl,_⟩ | ⟨hk,rfl⟩ | ⟨hk,rfl⟩ | ⟨hk,rfl,_⟩
 ·obtain ⟨x,y,e⟩:=two (.inl hk);simp[inF,hk,e]
 ·obtain ⟨x,y,e⟩:=two (.inl hk);simp[inF,hk,e]
 ·obtain ⟨x,y,e⟩:=two (.inr hk);simp[inF,hk,e]
 ·obtain ⟨x,y,e⟩:=two (.inr hk);simp[inF,hk,e]
 ·obtain ⟨x,e⟩:=one (.inl hk);simp[inF,hk,e]
 ·obtain ⟨x,e⟩:=one (.inr (.inl hk));simp[inF,hk,e]
 ·obtain ⟨x,e⟩:=one (.inr (.inr (.inl hk)));simp[inF,hk,e]
 ·obtain ⟨x,e⟩:=one (.inr (.inr (.inr hk)));simp[inF,hk,e]
section
variable {s:Sy} (hsh:zH s.f=true) (hm:s.m.length<=100) (hvv:∀v∈s.m,valN s.m.length v s.f=true/\zJ v<=2000)
include hsh hm hvv
theorem zIP:∀a:Fm,yEM s a/\yEL s a:=by
 refine Fm.ind' fun o n m ar ih=> ?_;have one:∀{md odd},ar.length=1->y6 s.f 0 md odd ar=true->∃b,ar= [b]/\valM s.f 0 md odd b=true:=by
  intro md odd hl h;rcases ar with _ | ⟨b,_ | ⟨c,l⟩⟩<;>simp at hl
  simp only[y6,yOI] at h;exact ⟨b,rfl,h⟩
 have two:∀{md odd},ar.length=2->y6 s.f 0 md odd ar=true->∃b b',ar= [b,b']/\valM s.f 0 md odd b=true/\valM s.f 0 md odd b'=true:=by
  intro md odd hl h;rcases ar with _ | ⟨b,_ | ⟨c,_ | ⟨x,l⟩⟩⟩<;>simp at hl
  simp only[y6,yOI,yOB] at h;exact ⟨b,c,rfl,h⟩
 constructor
 ·intro odd h D;rw[y9] at h;by_cases o0:o=0
  ·subst o0;rw[yRO rfl] at h;simp only[yOB,yRP] at h;obtain ⟨⟨h1,rfl⟩,rfl⟩:=h;have:ar= []:=by simpa using h1
   subst this;exact zHK (by omega) D
  rw[yRN o0] at h;by_cases o1:o=1
  ·subst o1;rw[yRO rfl] at h;simp only[yOB,yRP] at h;obtain ⟨b,rfl,hb⟩:=one h.1.2 h.2;exact zHJ (by omega) (fun D=>(ih b (by simp)).1 _ hb D) n m D
  rw[yRN o1] at h;by_cases o2:o=2
  ·subst o2;rw[yRO rfl] at h;simp only[yOB,yRP] at h;obtain ⟨b,c,rfl,hb,hc⟩:=two h.1.2 h.2;exact zHI (by omega) (fun D=>(ih b (by simp)).1 _ hb D) (fun D=>(ih c (by simp)).1 _ hc D) n m D
  rw[yRN o2] at h;simp only at h;by_cases o3:o=3
  ·subst o3;rw[yRO rfl] at h;simp only[yOB,yRP] at h;obtain ⟨b,rfl,hb⟩:=one h.1.2 h.2;obtain ⟨p,hp,hl⟩:=(ih b (by simp)).2 s.f odd hsh hb;exact zHH (by omega) hvv hp hl n m D
  rw[yRN o3] at h;by_cases o14:o=14
  ·rw[yRO o14] at h;simp at h;omega
  ·rw[yRN o14] at h;cases h
 ·intro g odd hg h;rw[y9] at h;by_cases o0:o=0
  ·subst o0;rw[yRO rfl] at h;simp only[yOB,yRP] at h;obtain ⟨⟨h1,rfl⟩,rfl⟩:=h;have:ar= []:=by simpa using h1
   subst this;exact ⟨_,by rw[xN,yRO rfl];exact yMO,fun D=>zHA g D 0 0⟩
  rw[yRN o0] at h;by_cases o1:o=1
  ·subst o1;rw[yRO rfl] at h;simp only[yOB,yRP] at h;obtain ⟨b,rfl,hb⟩:=one h.1.2 h.2;obtain ⟨p,hp,hl⟩:=(ih b (by simp)).2 g _ hg hb;have hp':=yMN hp;obtain ⟨F,caps,rfl,hF,hcs,hbx,hcall⟩:=hp;refine ⟨_,?_,fun D=>zGZ g hbx hcs hl n m D⟩;have e:prB s.m [] (.mk 1 n m [b])=fun v=> !prB s.m [] b v:=by
    rw[xN,yRN (by omega),yRN (by omega),yRN (by omega),yRN (by omega),yL]
    funext v;simp[oneB]
   rw[e];exact hp'
  rw[yRN o1] at h;by_cases o2:o=2
  ·subst o2;rw[yRO rfl] at h;simp only[yOB,yRP] at h;obtain ⟨b,c,rfl,hb,hc⟩:=two h.1.2 h.2;obtain ⟨p,hp,hl⟩:=(ih b (by simp)).2 g _ hg hb;obtain ⟨q,hq,hl'⟩:=(ih c (by simp)).2 g _ hg hc;have hp':=yMM hp hq;obtain ⟨F,caps,rfl,hF,hcs,hbx,hcall⟩:=hp;obtain ⟨F',caps',rfl,hF',hcs',hbx',hcall'⟩:=hq;refine ⟨_,?_,fun D=>zGY g hbx hbx' hl hl' n m D⟩;have e:prB s.m [] (.mk 2 n m [b,c])=fun v=>prB s.m [] b v&&prB s.m [] c v:=by
    rw[xN,yRN (by omega),yRN (by omega),yRN (by omega),yRO rfl,yL,yL]
    funext v;simp
   rw[e];exact hp'
  rw[yRN o2] at h;simp only at h;by_cases k0:g.k=0
  ·rw[yRO k0] at h;simp only[yOB,yRP] at h;obtain ⟨⟨⟨⟨rfl,rfl⟩,rfl⟩,hl1⟩,hvs⟩:=h;obtain ⟨b,rfl,hb⟩:=one hl1 hvs;refine ⟨_,?_,fun D=>zGX g (fun D=>(ih b (by simp)).1 _ hb D) 0 0 D⟩;have e:prB s.m [] (.mk 4 0 0 [b])=fun v=>(evS s.m [] b).testBit v.n.toNat:=by
    rw[xN,yRN (by omega),yRN (by omega),yRO rfl,yP]
    funext v;simp
   rw[e];have:=yML (N:=s.m.length) k0 hg (evS s.m [] b) (by omega);have e2:vG (bT s.m.length (evS s.m [] b))= .sl 1 ((yOL s.m.length).map fun i=>AV.bool ((evS s.m [] b).testBit i)) .no:=by
    unfold vG bT;rw[List.map_map];rfl
   rw[e2];exact this
  rw[yRN k0] at h;by_cases k1:g.k=1
  ·rw[yRO k1] at h;simp only[yOB,yRP] at h;obtain ⟨⟨⟨⟨rfl,n0⟩,n1⟩,rfl⟩,hl1⟩:=h;refine ⟨_,?_,fun D=>zGW g n 0 ar D⟩;have e:prB s.m [] (.mk 5 n 0 ar)=fun v=>decide (v.n=n):=by
    rw[xN,yRN (by omega),yRO rfl]
   rw[e];exact yMK 5 n 0 ar
  rw[yRN k1] at h;simp only[yOB,yRP] at h;obtain ⟨⟨hi,hl1⟩,hvs⟩:=h;obtain ⟨b,rfl,hb⟩:=one hl1 hvs;have hsx:=tP hg hi;have hx:=zUC hg hi;obtain ⟨p,hp,hl⟩:=(ih b (by simp)).2 (inF g o) _ hsx hb;have hp0:=hp;obtain ⟨F,caps,rfl,hF,hcs,hbx,hcall⟩:=hp0;have oc:=wW hi;have ho:(o=6\/o=7\/o=8\/o=9)\/(o=10\/o=11\/o=12\/o=13):=by
   rcases oc with ⟨_,h⟩ | ⟨_,h⟩ | ⟨_,h⟩ | ⟨_,h⟩ | ⟨_,h,_⟩ | ⟨_,h⟩ | ⟨_,h⟩ | ⟨_,h,_⟩<;>simp[h]
  refine ⟨_,?_,fun D=>zGV g (inF g o) ho hx hbx hl n m D⟩;have e:prB s.m [] (.mk o n m [b])=oneB o n m (prB s.m [] b):=by
   rw[xN,yRN (by omega),yRN (by omega),yRN (by omega),yRN (by omega),yL];rfl
  rw[e];generalize prB s.m [] b=φ at*;clear ih one two hvs hl hcall hx;unfold clX;rcases oc with ⟨hk,rfl⟩ | ⟨hk,rfl⟩ | ⟨hk,rfl⟩ | ⟨hk,rfl⟩ | ⟨hk,rfl,hn1,hn2⟩ | ⟨hk,rfl⟩ | ⟨hk,rfl⟩ | ⟨hk,rfl,hm1,hm2,hn1,hn2⟩
  ·rw[show inF g 6=g.gs.getD 0 (.mk 0 0 []) by simp[inF,hk]] at hp;have:=yMJ hk hg hp;rw[show (fun v=>φ (v.gs.getD 0 v0))=oneB 6 n m φ from funext fun v=>by simp[oneB,wB]] at this;simpa using this
  ·rw[show inF g 7=g.gs.getD 1 (.mk 0 0 []) by simp[inF,hk]] at hp;have:=yMI hk hg hp;rw[show (fun v=>φ (v.gs.getD 1 v0))=oneB 7 n m φ from funext fun v=>by simp[oneB,wB]] at this;simpa using this
  ·rw[show inF g 8=g.gs.getD ((8:Int) - 8).toNat (.mk 0 0 []) by simp[inF,hk]] at hp;have:=yDW (n:=n) (m:=m) (ar:=[b]) hk hg (.inl rfl) hp;rw[show (fun v=>decide (v.n=8 - 8)&&φ (v.gs.getD 0 v0))=oneB 8 n m φ from funext fun v=>by simp[oneB,wB]] at this;simpa using this
  ·rw[show inF g 9=g.gs.getD ((9:Int) - 8).toNat (.mk 0 0 []) by simp[inF,hk]] at hp;have:=yDW (n:=n) (m:=m) (ar:=[b]) hk hg (.inr rfl) hp;rw[show (fun v=>decide (v.n=9 - 8)&&φ (v.gs.getD 0 v0))=oneB 9 n m φ from funext fun v=>by simp[oneB,wB]] at this;simpa using this
  ·rw[show inF g 10=g.gs.getD 0 (.mk 0 0 []) by simp[inF,hk]] at hp;have:=yMH (o:=10) (m:=m) (ar:=[b]) hk hg hn1 hn2 hp;rw[show (fun v=>φ (v.gs.getD n.toNat v0))=oneB 10 n m φ from funext fun v=>by simp[oneB,wB]] at this;simpa using this
  ·rw[show inF g 11=g.gs.getD 0 (.mk 0 0 []) by simp[inF,hk]] at hp;have:=yMG hk hg hp;rw[show (fun v=>v.gs.any φ)=oneB 11 n m φ from funext fun v=>by simp[oneB,wB]] at this;simpa using this
  ·rw[show inF g 12=g.gs.getD 0 (.mk 0 0 []) by simp[inF,hk]] at hp;have:=yDV (o:=12) (n:=n) (m:=m) (ar:=[b]) (.inl hk) hg (fun h=>absurd rfl h) hp;rw[show (fun v=>wB 12 n m (wSum φ v.gs v.ws) (wSum (fun _=>true) v.gs v.ws))=oneB 12 n m φ from funext fun v=>by simp[oneB,wB]] at this;simpa using this
  ·rw[show inF g 13=g.gs.getD 0 (.mk 0 0 []) by simp[inF,hk]] at hp;have:=yDV (o:=13) (n:=n) (m:=m) (ar:=[b]) (.inr hk) hg (fun _=>by omega) hp;rw[show (fun v=>wB 13 n m (wSum φ v.gs v.ws) (wSum (fun _=>true) v.gs v.ws))=oneB 13 n m φ from funext fun v=>by simp[oneB,wB]] at this;simpa using this
end
end Go.Ab.Tab
/- logic.True. -/
namespace Go.Ab.Tab
open Go Go.Ab
theorem l43 {D n X:Nat} {S:Nat->Nat->Ent} (hn:n<=1000):∀(j i:Nat) (acc:List Nat) (τ ω) (r:AV),i+j=n->acc.length<=i->τ 7= .sl 1 (acc.map encN) .tip->τ 18= .sl 1 ((bT n X).map AV.bool) .no->τ 19= .int .i64 n->τ 20= .int .i64 i->r= .tup [.sl 1 ((acc++(List.range' i j).filter X.testBit).map encN) .no,.int .i64 0]->
  Rd (Loc Pg Gl) .im (RetS [.tmp 4,.tmp 5] r D S []) [.lp c43_l0,.blk 0,.c zKM] (stF 32 D τ ω S):=by
 have hbl:=jT n X;intro j
 induction j with
 | zero=>
  intro i acc τ ω r hi ha t7 t18 t19 t20 hr;refine zN c43_l0.eq_1 ?_;obtain rfl:i=n:=by omega
  simp at hr;simp[t7,t19,t20,zKM,hr,upds]
 | succ j ih=>
  intro i acc τ ω r hi ha t7 t18 t19 t20 hr;refine zN c43_l0.eq_1 ?_;have hlt:i < n:=by omega
  have hlb:i < (bT n X).length:=by omega
  have hg:=zDL hlb;have hwr:=wN i (by omega);rw[List.range'_succ,List.filter_cons] at hr;have hle:(acc.length+1)*8<=1099511627776:=by omega
  cases hb:X.testBit i with
  | true=>
   rw[hb] at hg hr;simp[t7,t18,t19,t20,hlt,hlb,hbl,hg,hle,hwr];refine ih (i+1) (acc++[i]) _ ω r (by omega) (by simp;omega) ?_ ?_ ?_ ?_ (by rw[hr];simp);all_goals simp[t7,t18,t19,encN]
  | false=>
   rw[hb] at hg hr;simp[t7,t18,t19,t20,hlt,hlb,hbl,hg,hwr];refine ih (i+1) acc _ ω r (by omega) (by omega) ?_ ?_ ?_ ?_ (by simpa using hr);all_goals simp[t7,t18,t19]
theorem yBD {s:Sy} (hs:fitY s) (hb:zI s.m<=2^32) (hy:isY s=true) {a:Fm} (hv:valM s.f 0 none false a=true) (hn:zK a<=2000) (hd:y5 a<=100) (D:Nat):Go.Ab.Loc Pg Gl D 43 [encY s,encM a] [] (.tup [encI (toZ (uY (evS s.m [] a) s.m.length)),.int .i64 0]) []:=by
 obtain ⟨y1,y2,y3⟩:=zCB hy;have h99:=yAK (D+1) s hs hb hy a hv hn hd;have h100:Go.Ab.Loc Pg Gl (D+1) 100 [encY s,encM a] [] (vG (bT s.m.length (evS s.m [] a))) []:=by
  have h125:=(zIP y1 y2 y3 a).1 false hv (D+1+1);refine zP zF tok rfl rfl fun S=> ?_;simp only[vG] at h125|-;unfold c100;simp[encY,zA a] at h125|-;refine zE h125 (by simp) ?_;simp
 refine fD zF tok rfl rfl fun S hS=> ?_;rw[<-zGH];generalize evS s.m [] a=X at*;have hbl:=jT s.m.length X;generalize hr:AV.tup [.sl 1 ((uY X s.m.length).map encN) .no,.int .i64 0]=r;simp only[vG] at h100;unfold c43;simp[encY,zA a] at h99 h100|-;refine zE h99 (by simp) ?_;simp;refine zE h100 (by simp) ?_;simp[hbl];refine l43 (n:=s.m.length) (X:=X) (by omega) s.m.length 0 [] _ _ r (by omega) (by simp) ?_ ?_ ?_ ?_ (by rw[<-hr];unfold uY;rw[List.range_eq_range'];simp);all_goals simp
end Go.Ab.Tab
/- Law 9 (FixRounds). -/
namespace Go.Ab.Tab
open Go Go.Ab
section
variable {D:Nat} {S:Nat->Nat->Ent} {Q:St->Prop} {K:List AI}
theorem l9_0 (haw:∀D,Go.Ab.Loc Pg Gl D 12 [] [] (.bool true) []) (l:List Eqn) (g0:Bool) (h0:∀h:0 < l.length,(l[0]'h).gr=g0) (hl:l.length<=1000) (v2:AV) (c2:Ent) (hK:(∀x∈l,x.gr=g0)->∀τ ω,τ 1= .sl 5 (l.map encE) .no->τ 2=v2->ω 2=c2->Rd (Loc Pg Gl) .im (RetQ [.tmp 4] (.bool true) S) K (stF 139 D τ ω S)):
  ∀(j i:Nat) (τ ω),i+j=l.length->(∀x∈l.take i,x.gr=g0)->τ 1= .sl 5 (l.map encE) .no->τ 2=v2->ω 2=c2->τ 34= .sl 5 (l.map encE) .no->τ 35= .int .i64 l.length->τ 36= .int .i64 i->
  Rd (Loc Pg Gl) .im (RetQ [.tmp 4] (.bool true) S) (.lp c9_l0:: .blk 0::K) (stF 139 D τ ω S):=by
 intro j
 induction j with
 | zero=>
  intro i τ ω hi ht t1 t2 w2 t34 t35 t36;refine zN c9_l0.eq_1 ?_;obtain rfl:i=l.length:=by omega
  rw[yOS] at ht;simp[t35,t36];exact hK ht _ _ (by simp[t1]) (by simp[t2]) w2
 | succ j ih=>
  intro i τ ω hi ht t1 t2 w2 t34 t35 t36;refine zN c9_l0.eq_1 ?_;have hlt:i < l.length:=by omega
  have hpos:0 < l.length:=by omega
  have hpos':(0:Int) < l.length:=by omega
  have hwr:=wN i (by omega);have hg0:=h0 hpos;have haw1:=haw (D+1);have htk:l[i].gr=g0->∀x∈l.take (i+1),x.gr=g0:=fun he x hx=>by
   rw[yOT hlt] at hx;rcases yOD.1 hx with hx | hx
   ·exact ht x hx
   ·rw[yOF] at hx;subst hx;exact he
  generalize hge:l[i]=e at*;generalize hge0:l[0]=e0 at*;cases hgr:e.gr<;>cases hg:g0<;>rw[hg] at hg0
  rotate_left
  iterate 2
   ·simp[t1,t34,t35,t36,hlt,hpos,hpos',hge,hge0,encE,hgr,hg0];refine zE haw1 (by simp) ?_;simp
  all_goals
   simp[t1,t34,t35,t36,hlt,hpos,hpos',hge,hge0,encE,hgr,hg0,hwr];refine ih (i+1) _ _ (by omega) (htk (hgr.trans hg.symm)) ?_ ?_ ?_ ?_ ?_ ?_;all_goals simp[t1,t2,w2,t34,t35]
theorem l9_1 {L:List (List Int)} {i:Nat} (hi:i < L.length) {x:List Int} (hx:x=L[i]) (hxl:x.length < 2^62) (ω:Nat->Ent) (τ0:Nat->AV) (t9:τ0 9= .sl 1 (L.map encI) .no) (t11:τ0 11= .int .i64 i) (hK:∀τ,(∀k,(k < 12\/k=95\/k=96\/k=97)->τ k=τ0 k)->Rd (Loc Pg Gl) .im Q K (stF 139 D τ ω S)):
  ∀(j k:Nat) (τ),k+j=x.length->(∀k,(k < 12\/k=95\/k=96\/k=97)->τ k=τ0 k)->τ 120= .sl 1 (x.map (AV.int .i64)) .no->τ 121= .int .i64 x.length->τ 122= .int .i64 k->
  Rd (Loc Pg Gl) .im Q (.lp c9_l1:: .blk 4::K) (stF 139 D τ ω S):=by
 intro j
 induction j with
 | zero=>
  intro k τ hk hτ t120 t121 t122;refine zN c9_l1.eq_1 ?_;obtain rfl:k=x.length:=by omega
  simp[t121,t122];refine hK _ fun k hk=> ?_;rw[<-hτ k hk];simp only[upd];rw[yRN (by omega)]
 | succ j ih=>
  intro k τ hk hτ t120 t121 t122;refine zN c9_l1.eq_1 ?_;have hlt:k < x.length:=by omega
  have hwr:=wN k (by omega);have u9:=(hτ 9 (by omega)).trans t9;have u11:=(hτ 11 (by omega)).trans t11;have hkl:k < L[i].length:=by rw[<-hx];exact hlt
  have hget:(L[i])[k]=x[k]:=by simp only[hx]
  generalize hge:x[k]=y at*;simp[t120,t121,t122,u9,u11,hlt,hi,encI,hkl,hge,hget,hwr];refine ih (k+1) _ (by omega) (fun q hq=> ?_) ?_ ?_ ?_
  ·rw[<-hτ q hq];simp only[upd];repeat rw[yRN (by omega)]
  all_goals simp[t120,t121]
end
end Go.Ab.Tab
