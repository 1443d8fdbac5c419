/- Formulas are monotone in the variables; solutions of equations. -/
import Derived.Test.YtkjbakmlonpdjaaGreatDoorRoundsF
import Derived.Test.YtkjbakmlonpdjaaGreatDoorRoundsE
open Bool renaming and_eq_true->yOB, false_eq_true->yOO
open List renaming getD_cons_zero->yOC, mem_cons->yOD, getElem_mem->yOG, not_mem_nil->yOH, map_cons->yOI, all_eq_true->yOJ, range->yOK, getD_cons_succ->yON, mem_of_mem_drop->yOQ, take_of_length_le->yOR, map_congr_left->yOS
open Nat renaming le_of_lt->yOE, testBit_and->yOF, eq_of_testBit_eq->yOL, testBit_xor->yOM, lt_of_le_of_lt->yOP
set_option linter.unusedVariables false
set_option linter.unusedSimpArgs false
set_option maxRecDepth 10000
namespace Go.Ab.Tab
open Go Go.Ab
def sub (a b:Nat):Prop:=∀i,a.testBit i=true->b.testBit i=true
def leB (g:Bool) (a b:Nat):Prop:=if g then sub b a else sub a b
theorem pO (a:Nat):sub a a:=fun _ h=>h
theorem eX {a b c:Nat} (h:sub a b) (h':sub b c):sub a c:=fun i hi=>h' i (h i hi)
theorem n9 {a b:Nat} (h:sub a b) (h':sub b a):a=b:=by
 apply yOL;intro i;have h1:=h i;have h2:=h' i;cases ha:a.testBit i<;>cases hb:b.testBit i<;>simp_all
theorem sub_zero (a:Nat):sub 0 a:=fun i h=>by simp at h
theorem xE (g:Bool) (a:Nat):leB g a a:=by cases g<;>exact pO a
theorem l5 {g:Bool} {a b c:Nat} (h:leB g a b) (h':leB g b c):leB g a c:=by
 cases g
 ·exact eX h h'
 ·exact eX h' h
theorem mF {g:Bool} {a b:Nat} (h:leB g a b) (h':leB g b a):a=b:=by
 cases g
 ·exact n9 h h'
 ·exact n9 h' h
theorem fE {g:Bool} {a b:Nat}:leB (!g) a b↔leB g b a:=by cases g<;>exact Iff.rfl
theorem zRB {a b:Nat}:sub a b↔a &&& b=a:=by
 constructor
 ·intro h;apply yOL;intro i;rw[yOF];have:=h i;cases ha:a.testBit i<;>simp_all
 ·intro h i hi;rw[<-h,yOF,yOB] at hi;exact hi.2
theorem zGK {a b:Nat} (h:sub a b):a<=b:=by
 rw[zRB] at h;rw[<-h];exact Nat.and_le_right
theorem zBI {a b:Nat} (h:sub a b) (hne:a≠b):a < b:=Nat.lt_of_le_of_ne (zGK h) hne
theorem mR {n a:Nat}:sub a (allT n)↔a < 2^n:=by
 constructor
 ·intro h;refine Nat.lt_pow_two_of_testBit a fun i hi=> ?_;cases ha:a.testBit i with
  | false=>rfl
  | true=>
   have:=h i ha;rw[sP] at this;simp at this;omega
 ·intro h i hi;rw[sP];by_cases hlt:i < n
  ·simp[hlt]
  ·have:a < 2^i:=Nat.lt_of_lt_of_le h (Nat.pow_le_pow_right (by decide) (by omega));rw[Nat.testBit_lt_two_pow this] at hi;cases hi
theorem qV {α:Type} {l:List α} {i:Nat} {d:α} (h:i < l.length):l.getD i d=l[i]:=by simp[List.getD_eq_getElem?_getD,List.getElem?_eq_getElem h]
def subP (N:Nat) (g:Fu) (p q:Va->Bool):Prop:=∀v,valN N v g=true->p v=true->q v=true
theorem o8:∀{l:List Int} {a:Int},0<=a->wOk a l=true->∀w∈l,0<=w
 | [],_,_,_=>by simp
 | w::l,a,ha,h=>by
  rw[wOk] at h;simp only[yOB,yRP] at h;intro x hx;rcases yOD.1 hx with rfl | hx
  ·omega
  ·exact o8 (a:=a+w) (by omega) h.2.2 x hx
theorem lD {p q:Va->Bool}:∀(l:List Va) (ws:List Int),(∀v∈l,p v=true->q v=true)->(∀w∈ws,0<=w)->wSum p l ws<=wSum q l ws
 | [],_,_,_=>by simp[wSum]
 | _::_,[],_,_=>by simp[wSum]
 | v::l,w::ws,h,hw=>by
  rw[wSum,wSum];have:=lD l ws (fun x hx=>h x (by simp[hx])) (fun x hx=>hw x (by simp[hx]));have h1:=h v (by simp);have h2:=hw w (by simp);cases hp:p v
  ·cases hq:q v<;>simp<;>omega
  ·rw[h1 hp];simp;omega
theorem dE {N:Nat} {g:Fu} (hg:zH g=true) {o n m:Int} (hi:inOk g o n m=true) {p q:Va->Bool} (h:subP N (inF g o) p q):subP N g (oneB o n m p) (oneB o n m q):=by
 intro v hv;have hany:=vS hg hv;rcases wW hi with ⟨hk,rfl⟩ | ⟨hk,rfl⟩ | ⟨hk,rfl⟩ | ⟨hk,rfl⟩ | ⟨hk,rfl,hn1,hn2⟩ | ⟨hk,rfl⟩ | ⟨hk,rfl⟩ | ⟨hk,rfl,hm1,hm2,hn1,hn2⟩
 ·obtain ⟨_,a,b,g1,g2,e1,e2,v1,v2⟩:=(hany.resolve_left (by omega)).resolve_left (by omega) |>.resolve_right (by omega);have e3:inF g 6=g1:=by simp[inF,hk,e2]
  rw[e3] at h;simpa[oneB,e1] using h a v1
 ·obtain ⟨_,a,b,g1,g2,e1,e2,v1,v2⟩:=(hany.resolve_left (by omega)).resolve_left (by omega) |>.resolve_right (by omega);have e3:inF g 7=g2:=by simp[inF,hk,e2]
  rw[e3] at h;simpa[oneB,e1] using h b v2
 ·obtain ⟨_,a,g1,g2,e1,e2,hc⟩:=(((hany.resolve_left (by omega)).resolve_left (by omega)).resolve_left (by omega)).resolve_right (by omega);have e3:inF g 8=g1:=by simp[inF,hk,e2]
  rw[e3] at h;rcases hc with ⟨hn,v1⟩ | ⟨hn,v1⟩
  ·simpa[oneB,e1,hn] using h a v1
  ·simp[oneB,e1,hn]
 ·obtain ⟨_,a,g1,g2,e1,e2,hc⟩:=(((hany.resolve_left (by omega)).resolve_left (by omega)).resolve_left (by omega)).resolve_right (by omega);have e3:inF g 9=g2:=by simp[inF,hk,e2]
  rw[e3] at h;rcases hc with ⟨hn,v1⟩ | ⟨hn,v1⟩
  ·simp[oneB,e1,hn]
  ·simpa[oneB,e1,hn] using h a v1
 ·obtain ⟨_,hl,x,e2,hx⟩:=((((hany.resolve_left (by omega)).resolve_left (by omega)).resolve_left (by omega)).resolve_left (by omega)).resolve_right (by omega);have e3:inF g 10=x:=by simp[inF,hk,e2]
  rw[e3] at h;obtain ⟨i,rfl⟩:∃i:Nat,n=i:=⟨n.toNat,by omega⟩;have hlt:i < v.gs.length:=by omega
  simpa[oneB,hlt] using h v.gs[i] (hx _ (yOG hlt))
 all_goals
  obtain ⟨_,⟨x,e2,hx⟩,hw1,hw2⟩:=((((hany.resolve_left (by omega)).resolve_left (by omega)).resolve_left (by omega)).resolve_left (by omega)).resolve_left (by omega)
 ·have e3:inF g 11=x:=by simp[inF,hk,e2]
  rw[e3] at h;simp only[oneB];simp only[if_false,show¬((11:Int)=1) by omega,show¬((11:Int)=6) by omega,show¬((11:Int)=7) by omega,show¬((11:Int)=8) by omega,show¬((11:Int)=9) by omega,show¬((11:Int)=10) by omega,show¬((11:Int)=12) by omega,show¬((11:Int)=13) by omega,List.any_eq_true];rintro ⟨a,ha,hpa⟩;exact ⟨a,ha,h a (hx a ha) hpa⟩
 ·have e3:inF g 12=x:=by simp[inF,hk,e2]
  rw[e3] at h;have hwn:=o8 (by omega) (hw2 (by omega)).2;have:=lD v.gs v.ws (fun a ha=>h a (hx a ha)) hwn;simp[oneB];omega
 ·have e3:inF g 13=x:=by simp[inF,hk,e2]
  rw[e3] at h;have hwn:=o8 (by omega) (hw2 (by omega)).2;have:=lD v.gs v.ws (fun a ha=>h a (hx a ha)) hwn;have h2:wSum p v.gs v.ws*m<=wSum q v.gs v.ws*m:=Int.mul_le_mul_of_nonneg_right this (by omega);simp[oneB];omega
def subE (e e':List Nat):Prop:=∀i,sub (e.getD i 0) (e'.getD i 0)
theorem zUS {f:Fu} (hf:zH f=true) {nx:List Va} (hnx:∀v∈nx,valN nx.length v f=true) {vars:Int} {e e':List Nat} (he:subE e e'):∀a:Fm,
  (∀odd,valM f vars none odd a=true->leB odd (evS nx e a) (evS nx e' a))/\
  (∀g odd,zH g=true->valM f vars (some g) odd a=true->if odd then subP nx.length g (prB nx e' a) (prB nx e a) else subP nx.length g (prB nx e a) (prB nx e' a)):=by
 refine Fm.ind' fun o n m ar ih=> ?_;have one:∀{md odd},ar.length=1->y6 f vars md odd ar=true->∃b,ar= [b]/\valM f vars md odd b=true:=by
  intro md odd hl h;rcases ar with _ | ⟨b,_ | ⟨c,l⟩⟩<;>simp at hl
  simp only[y6,Bool.and_true] at h;exact ⟨b,rfl,h⟩
 have two:∀{md odd},ar.length=2->y6 f vars md odd ar=true->∃b b',ar= [b,b']/\valM f vars md odd b=true/\valM f vars md odd b'=true:=by
  intro md odd hl h;rcases ar with _ | ⟨b,_ | ⟨c,_ | ⟨x,l⟩⟩⟩<;>simp at hl
  simp only[y6,Bool.and_true,yOB] at h;exact ⟨b,c,rfl,h⟩
 constructor
 ·intro odd h;by_cases o0:o=0
  ·rw[xF,xF,yRO o0,yRO o0];exact xE ..
  by_cases o1:o=1
  ·rw[y9,yRN o0,yRO o1] at h;simp only[yOB,yRP] at h;obtain ⟨b,rfl,hb⟩:=one h.1.2 h.2;have:=(ih b (by simp)).1 _ hb;have o14:¬o=14:=by omega
   rw[xF,xF,yRN o0,yRN o0,yRN o14,yRN o14,yRO o1,yRO o1,yP,yP,yOC,yOC];rw[fE] at this;have key:∀x y,sub x y->sub (allT nx.length ^^^ (allT nx.length &&& y)) (allT nx.length ^^^ (allT nx.length &&& x)):=by
    intro x y hxy i;have:=hxy i;simp only[yOM,yOF];cases (allT nx.length).testBit i<;>cases hx:x.testBit i<;>cases hy:y.testBit i<;>simp_all
   cases odd
   ·exact key _ _ this
   ·exact key _ _ this
  by_cases o2:o=2
  ·rw[y9,yRN o0,yRN o1,yRO o2] at h;simp only[yOB,yRP] at h;obtain ⟨b,b',rfl,hb,hb'⟩:=two h.1.2 h.2;have h1:=(ih b (by simp)).1 _ hb;have h2:=(ih b' (by simp)).1 _ hb';have o14:¬o=14:=by omega
   rw[xF,xF,yRN o0,yRN o0,yRN o14,yRN o14,yRN o1,yRN o1,yRO o2,yRO o2];simp only[yP,yOC,yON];have key:∀x y x' y',sub x y->sub x' y'->sub (x &&& x') (y &&& y'):=by
    intro x y x' y' hxy hxy' i;simp only[yOF,yOB];exact fun ⟨a,b⟩=>⟨hxy i a,hxy' i b⟩
   cases odd
   ·exact key _ _ _ _ h1 h2
   ·exact key _ _ _ _ h1 h2
  have hcm:comM o=false:=by simp[comM,o0,o1,o2]
  rw[xX _ _ _ _ _ _ _ _ hcm] at h;simp only at h;by_cases o3:o=3
  ·rw[yRO o3] at h;simp only[yOB,yRP] at h;obtain ⟨b,rfl,hb⟩:=one h.1.2 h.2;have:=(ih b (by simp)).2 f _ hf hb;have o14:¬o=14:=by omega
   rw[xF,xF,yRN o0,yRN o0,yRN o14,yRN o14,yRN o1,yRN o1,yRN o2,yRN o2,yL,yL,yOC,yOC];have key:∀p q,subP nx.length f p q->sub (rB p 0 nx) (rB q 0 nx):=by
    intro p q hpq i;rw[rA,rA];simp only[yOB,yRP];rintro ⟨h1,h2⟩;refine ⟨h1,hpq _ ?_ h2⟩;have hlt:i - 0 < nx.length:=by omega
    rw[qV hlt];exact hnx _ (yOG hlt)
   cases odd
   ·exact key _ _ this
   ·exact key _ _ this
  ·rw[yRN o3] at h;by_cases o14:o=14
   ·rw[yRO o14] at h;simp only[yOB,Bool.not_eq_true'] at h;rw[xF,xF,yRN o0,yRN o0,yRO o14,yRO o14,h.2];exact he _
   ·rw[yRN o14] at h;cases h
 ·intro g odd hg h;by_cases o0:o=0
  ·rw[xN,xN,yRO o0,yRO o0];cases odd<;>exact fun _ _ h=>h
  by_cases o1:o=1
  ·rw[y9,yRN o0,yRO o1] at h;simp only[yOB,yRP] at h;obtain ⟨b,rfl,hb⟩:=one h.1.2 h.2;have:=(ih b (by simp)).2 g _ hg hb;have o5:¬o=5:=by omega
   have o4:¬o=4:=by omega
   have o2:¬o=2:=by omega
   rw[xN,xN,yRN o0,yRN o0,yRN o5,yRN o5,yRN o4,yRN o4,yRN o2,yRN o2,yL,yL,yOC,yOC];have key:∀p q,subP nx.length g p q->subP nx.length g (oneB o n m q) (oneB o n m p):=by
    intro p q hpq v hv;have:=hpq v hv;simp only[oneB,o1,if_true];cases hp:p v<;>cases hq:q v<;>simp_all
   cases odd
   ·exact key _ _ this
   ·exact key _ _ this
  by_cases o2:o=2
  ·rw[y9,yRN o0,yRN o1,yRO o2] at h;simp only[yOB,yRP] at h;obtain ⟨b,b',rfl,hb,hb'⟩:=two h.1.2 h.2;have h1:=(ih b (by simp)).2 g _ hg hb;have h2:=(ih b' (by simp)).2 g _ hg hb';have o5:¬o=5:=by omega
   have o4:¬o=4:=by omega
   rw[xN,xN,yRN o0,yRN o0,yRN o5,yRN o5,yRN o4,yRN o4,yRO o2,yRO o2];simp only[yL,yOC,yON];have key:∀p q p' q',subP nx.length g p q->subP nx.length g p' q'->subP nx.length g (fun v=>p v&&p' v) (fun v=>q v&&q' v):=by
    intro p q p' q' a b v hv;simp only[yOB];exact fun ⟨x,y⟩=>⟨a v hv x,b v hv y⟩
   cases odd
   ·exact key _ _ _ _ h1 h2
   ·exact key _ _ _ _ h1 h2
  have hcm:comM o=false:=by simp[comM,o0,o1,o2]
  rw[sW _ _ _ _ _ _ _ _ hcm] at h;by_cases o4:o=4
  ·rw[yRO o4] at h;simp only[yOB,yRP] at h;obtain ⟨b,rfl,hb⟩:=one h.1.2.1 h.2;have:=(ih b (by simp)).1 _ hb;have o5:¬o=5:=by omega
   rw[xN,xN,yRN o0,yRN o0,yRN o5,yRN o5,yRO o4,yRO o4];simp only[yP,yOC];cases odd
   ·exact fun v _ hv=>this _ hv
   ·exact fun v _ hv=>this _ hv
  ·rw[yRN o4] at h;by_cases o5:o=5
   ·rw[xN,xN,yRN o0,yRN o0,yRO o5,yRO o5];cases odd<;>exact fun _ _ h=>h
   ·rw[yRN o5] at h;simp only[yOB,yRP] at h;obtain ⟨b,rfl,hb⟩:=one h.1.2 h.2;have:=(ih b (by simp)).2 _ _ (tP hg h.1.1) hb;rw[xN,xN,yRN o0,yRN o0,yRN o5,yRN o5,yRN o4,yRN o4,yRN o2,yRN o2,yL,yL,yOC,yOC];cases odd
    ·exact dE hg h.1.1 this
    ·exact dE hg h.1.1 this
theorem yDL {f:Fu} {nx:List Va} {vars:Int} {e:List Nat} (he:∀i,sub (e.getD i 0) (allT nx.length)):∀a:Fm,sub (evS nx e a) (allT nx.length):=by
 refine Fm.ind' fun o n m ar ih=> ?_;rw[xF];split
 ·exact pO _
 ·split
  ·exact he _
  ·split
   ·intro i;simp only[yOM,yOF];cases (allT nx.length).testBit i<;>simp
   ·split
    ·have:sub ((evSs nx e ar).getD 0 0) (allT nx.length):=by
      rcases ar with _ | ⟨a,l⟩
      ·exact sub_zero _
      ·rw[yP];exact ih a (by simp)
     intro i hi;simp only[yOF,yOB] at hi;exact this i hi.1
    ·intro i hi;rw[rA] at hi;simp only[yOB,yRP] at hi;rw[sP];simp;omega
end Go.Ab.Tab
/- Solutions of equations: what they are,and how the program's iteration reaches them. -/
namespace Go.Ab.Tab
open Go Go.Ab
def itN (H:Nat->Nat):Nat->Nat->Nat
 | 0,X=>X
 | m+1,X=>if H X=X then X else itN H m (H X)
theorem zNB {n:Nat} {g:Bool} {H:Nat->Nat} (hs:∀X,sub X (allT n)->sub (H X) (allT n)) (hm:∀X Y,sub X (allT n)->sub Y (allT n)->leB g X Y->leB g (H X) (H Y)):
  ∀(m X:Nat),sub X (allT n)->(if g then X < m else 2^n<=X+m)->leB g X (H X)->sub (itN H m X) (allT n)/\H (itN H m X)=itN H m X/\leB g X (itN H m X)/\
   ∀Y,sub Y (allT n)->leB g X Y->leB g (H Y) Y->leB g (itN H m X) Y:=by
 intro m
 induction m with
 | zero=>
  intro X hX hlt;cases g
  ·have:=mR.1 hX;simp at hlt;omega
  ·simp at hlt
 | succ m ih=>
  intro X hX hlt hle;rw[itN];by_cases he:H X=X
  ·rw[yRO he];exact ⟨hX,he,xE ..,fun Y _ h _=>h⟩
  ·rw[yRN he];have hHX:=hs X hX;have hst:if g then H X < m else 2^n<=H X+m:=by
    cases g
    ·have:=zBI (a:=X) (b:=H X) hle (Ne.symm he);simp only[yOO,if_false] at hlt|-;omega
    ·have:=zBI (a:=H X) (b:=X) hle he;simp only[if_true] at hlt|-;omega
   obtain ⟨h1,h2,h3,h4⟩:=ih (H X) hHX hst (hm _ _ hX hHX hle);refine ⟨h1,h2,l5 hle h3,fun Y hY hXY hYY=>h4 Y hY (l5 (hm _ _ hX hY hXY) hYY) hYY⟩
def wT (n:Nat) (g:Bool):Nat:=if g then allT n else 0
theorem uB {n X:Nat} (g:Bool) (h:sub X (allT n)):leB g (wT n g) X:=by
 cases g
 ·exact sub_zero _
 ·exact h
theorem start_sub (n:Nat) (g:Bool):sub (wT n g) (allT n):=by
 cases g
 ·exact sub_zero _
 ·exact pO _
def fixT (n:Nat) (g:Bool) (H:Nat->Nat):Nat:=itN H (2^n) (wT n g)
theorem dY {n:Nat} {g:Bool} {H:Nat->Nat} (hs:∀X,sub X (allT n)->sub (H X) (allT n)) (hm:∀X Y,sub X (allT n)->sub Y (allT n)->leB g X Y->leB g (H X) (H Y)):
  sub (fixT n g H) (allT n)/\H (fixT n g H)=fixT n g H/\∀Y,sub Y (allT n)->leB g (H Y) Y->leB g (fixT n g H) Y:=by
 obtain ⟨h1,h2,h3,h4⟩:=zNB hs hm (2^n) (wT n g) (start_sub n g) (by
  cases g
  ·simp
  ·have:=mR.1 (pO (allT n));simpa[wT] using this) (uB g (hs _ (start_sub n g)))
 exact ⟨h1,h2,fun Y hY hh=>h4 Y hY (uB g hY) hh⟩
def updE (e:Nat->Nat) (k X:Nat):Nat->Nat:=fun i=>if i=k then X else e i
theorem yK (e k X):updE e k X k=X:=yRO rfl
theorem xH {e k X i} (h:i≠k):updE e k X i=e i:=yRN h
def e4 (e:Nat->Nat):List Nat:=[e 0,e 1,e 2,e 3]
theorem zDC (e:Nat->Nat) (i:Nat):(e4 e).getD i 0=if i < 4 then e i else 0:=by
 rcases i with _ | _ | _ | _ | i
 case succ.succ.succ.succ=>rw[yRN (by omega)];simp[e4]
 all_goals simp[e4]
section
variable (nx:List Va)
def bodE (x:Eqn) (e:Nat->Nat):Nat:=evS nx (e4 e) x.body
def sol:List Eqn->Nat->(Nat->Nat)->(Nat->Nat)
 | [],_,e=>e
 | x::l,k,e=>sol l (k+1) (updE e k (fixT nx.length x.gr fun X=>bodE nx x (sol l (k+1) (updE e k X))))
def solX (x:Eqn) (l:List Eqn) (k:Nat) (e:Nat->Nat):Nat:=fixT nx.length x.gr fun X=>bodE nx x (sol nx l (k+1) (updE e k X))
theorem wC (x l k e):sol nx (x::l) k e=sol nx l (k+1) (updE e k (solX nx x l k e)):=rfl
theorem lM:∀(l:List Eqn) (k:Nat) (e:Nat->Nat) (i:Nat),i < k->sol nx l k e i=e i
 | [],_,_,_,_=>rfl
 | x::l,k,e,i,h=>by rw[wC,lM l (k+1) _ i (by omega),xH (by omega)]
theorem iF (x l k e):sol nx (x::l) k e k=solX nx x l k e:=by rw[wC,lM nx l (k+1) _ k (by omega),yK]
theorem iE:∀(l:List Eqn) (k:Nat) (e:Nat->Nat) (i:Nat),k+l.length<=i->sol nx l k e i=e i
 | [],_,_,_,_=>rfl
 | x::l,k,e,i,h=>by simp at h;rw[wC,iE l (k+1) _ i (by omega),xH (by omega)]
theorem pT:∀(l:List Eqn) (k:Nat) (e e':Nat->Nat),(∀i,i < k\/k+l.length<=i->e i=e' i)->sol nx l k e=sol nx l k e'
 | [],k,e,e',h=>funext fun i=>h i (by simp;omega)
 | x::l,k,e,e',h=>by
  have h1:∀X,sol nx l (k+1) (updE e k X)=sol nx l (k+1) (updE e' k X):=fun X=>pT l (k+1) _ _ fun i hi=>by
   by_cases hk:i=k
   ·rw[hk,yK,yK]
   ·rw[xH hk,xH hk];exact h i (by simp;omega)
  have h2:solX nx x l k e=solX nx x l k e':=by
   unfold solX;congr 1
   funext X;rw[h1]
  rw[wC,wC,h2,h1]
theorem zMH (x l k e) (h:sol nx (x::l) k e=e):sol nx l (k+1) e=e/\e k=solX nx x l k e:=by
 have h1:e k=solX nx x l k e:=by rw[<-iF,h]
 refine ⟨?_,h1⟩;have:updE e k (solX nx x l k e)=e:=by
  funext i
  by_cases hk:i=k
  ·rw[hk,yK,h1]
  ·rw[xH hk]
 rw[wC,this] at h;exact h
def yR (e:Nat->Nat):Prop:=∀i,sub (e i) (allT nx.length)
theorem yZ {e k X} (h:yR nx e) (hX:sub X (allT nx.length)):yR nx (updE e k X):=fun i=>by
 by_cases hk:i=k
 ·rw[hk,yK];exact hX
 ·rw[xH hk];exact h i
def eqOk (f:Fu) (vars:Int) (l:List Eqn):Prop:=∀x∈l,valM f vars none false x.body=true
variable {nx} {f:Fu} (hf:zH f=true) (hnx:∀v∈nx,valN nx.length v f=true) {vars:Int}
include hf hnx
theorem tA {x:Eqn} (hx:valM f vars none false x.body=true) (g:Bool) {e e':Nat->Nat} (h:∀i,leB g (e i) (e' i)):leB g (bodE nx x e) (bodE nx x e'):=by
 have key:∀e e':Nat->Nat,(∀i,sub (e i) (e' i))->sub (bodE nx x e) (bodE nx x e'):=fun e e' h=>
  (zUS hf hnx (vars:=vars) (e:=e4 e) (e':=e4 e') (fun i=>by
   rw[zDC,zDC];split
   ·exact h i
   ·exact pO _) x.body).1 false hx
 cases g
 ·exact key e e' h
 ·exact key e' e h
omit hf hnx in
theorem pF (x:Eqn) {e:Nat->Nat} (h:yR nx e):sub (bodE nx x e) (allT nx.length):=by
 refine yDL (f:= .mk 0 0 []) (vars:=0) (fun i=> ?_) x.body;rw[zDC];split
 ·exact h i
 ·exact sub_zero _
theorem uC:∀(l:List Eqn) (k:Nat),eqOk f vars l->(∀e,yR nx e->yR nx (sol nx l k e))/\
  (∀g (e e':Nat->Nat),yR nx e->yR nx e'->(∀i,i < k\/k+l.length<=i->leB g (e i) (e' i))->∀i,leB g (sol nx l k e i) (sol nx l k e' i))
 | [],k,_=>⟨fun _ h=>h,fun _ _ _ _ _ h i=>h i (by simp;omega)⟩
 | x::l,k,hl=>by
  obtain ⟨ih1,ih2⟩:=uC l (k+1) fun y hy=>hl y (by simp[hy]);have hx:=hl x (by simp);have hHs:∀e,yR nx e->∀X,sub X (allT nx.length)->sub (bodE nx x (sol nx l (k+1) (updE e k X))) (allT nx.length):=fun e he X hX=>pF x (ih1 _ (yZ nx he hX));have hHm:∀g (e e':Nat->Nat),yR nx e->yR nx e'->(∀i,i < k\/k+(x::l).length<=i->leB g (e i) (e' i))->∀X Y,sub X (allT nx.length)->sub Y (allT nx.length)->leB g X Y->
    leB g (bodE nx x (sol nx l (k+1) (updE e k X))) (bodE nx x (sol nx l (k+1) (updE e' k Y))):=by
   intro g e e' he he' h X Y hX hY hXY;refine tA hf hnx hx g fun i=>ih2 g _ _ (yZ nx he hX) (yZ nx he' hY) (fun i hi=> ?_) i;by_cases hk:i=k
   ·rw[hk,yK,yK];exact hXY
   ·rw[xH hk,xH hk];exact h i (by simp;omega)
  have hfix:∀e,yR nx e->_:=fun e he=>dY (g:=x.gr) (hHs e he) (fun X Y hX hY hXY=>hHm x.gr e e he he (fun i _=>xE ..) X Y hX hY hXY);have hX:∀e,yR nx e->sub (solX nx x l k e) (allT nx.length):=fun e he=>(hfix e he).1;have hXX:∀g (e e':Nat->Nat),yR nx e->yR nx e'->(∀i,i < k\/k+(x::l).length<=i->leB g (e i) (e' i))->leB g (solX nx x l k e) (solX nx x l k e'):=by
   have key:∀(e e':Nat->Nat),yR nx e->yR nx e'->(∀i,i < k\/k+(x::l).length<=i->leB x.gr (e i) (e' i))->leB x.gr (solX nx x l k e) (solX nx x l k e'):=by
    intro e e' he he' h;obtain ⟨a1,a2,a3⟩:=hfix e he;obtain ⟨b1,b2,b3⟩:=hfix e' he';refine a3 _ b1 ?_;have:=hHm x.gr e e' he he' h _ _ b1 b1 (xE ..);rw[b2] at this;exact this
   intro g e e' he he' h;by_cases hg:g=x.gr
   ·subst hg;exact key e e' he he' h
   ·have hg':g= !x.gr:=by cases g<;>cases hxg:x.gr<;>simp_all
    subst hg';rw[fE];exact key e' e he' he fun i hi=>fE.1 (h i hi)
  refine ⟨fun e he=>ih1 _ (yZ nx he (hX e he)),fun g e e' he he' h i=> ?_⟩;rw[wC,wC];refine ih2 g _ _ (yZ nx he (hX e he)) (yZ nx he' (hX e' he')) (fun i hi=> ?_) i;by_cases hk:i=k
  ·rw[hk,yK,yK];exact hXX g e e' he he' h
  ·rw[xH hk,xH hk];exact h i (by simp;omega)
theorem uG {x:Eqn} {l:List Eqn} {k:Nat} (hl:eqOk f vars (x::l)) {e:Nat->Nat} (he:yR nx e):
  sub (solX nx x l k e) (allT nx.length)/\bodE nx x (sol nx l (k+1) (updE e k (solX nx x l k e)))=solX nx x l k e/\
  ∀Y,sub Y (allT nx.length)->leB x.gr (bodE nx x (sol nx l (k+1) (updE e k Y))) Y->leB x.gr (solX nx x l k e) Y:=by
 obtain ⟨ih1,ih2⟩:=uC hf hnx l (k+1) fun y hy=>hl y (by simp[hy]);refine dY (g:=x.gr) (H:=fun X=>bodE nx x (sol nx l (k+1) (updE e k X))) (fun X hX=>pF x (ih1 _ (yZ nx he hX))) (fun X Y hX hY hXY=> ?_);refine tA hf hnx (hl x (by simp)) x.gr fun i=>ih2 x.gr _ _ (yZ nx he hX) (yZ nx he hY) (fun i hi=> ?_) i;by_cases hk:i=k
 ·rw[hk,yK,yK];exact hXY
 ·rw[xH hk,xH hk];exact xE ..
end
section
variable (nx:List Va)
def inv:List Eqn->Nat->(Nat->Nat)->Prop
 | [],_,_=>True
 | x::l,k,e=>leB x.gr (e k) (bodE nx x (sol nx l (k+1) e))/\leB x.gr (e k) (solX nx x l k e)/\inv l (k+1) e
variable {nx} {f:Fu} (hf:zH f=true) (hnx:∀v∈nx,valN nx.length v f=true) {vars:Int}
include hf hnx
theorem dQ:∀(l:List Eqn) (k:Nat) (e:Nat->Nat),eqOk f vars l->yR nx e->(∀(j:Nat) (h:j < l.length),e (k+j)=wT nx.length l[j].gr)->inv nx l k e
 | [],_,_,_,_,_=>trivial
 | x::l,k,e,hl,he,h=>by
  have h0:=h 0 (by simp);simp at h0;have hs:=uC hf hnx l (k+1) fun y hy=>hl y (by simp[hy]);refine ⟨?_,?_,dQ l (k+1) e (fun y hy=>hl y (by simp[hy])) he fun j hj=> ?_⟩
  ·rw[h0];exact uB _ (pF x (hs.1 e he))
  ·rw[h0];exact uB _ (uG hf hnx hl he).1
  ·have:=h (j+1) (by simp;omega);simp at this;rw[<-this];congr 1;omega
theorem zCE (g:Bool):∀(l:List Eqn) (k:Nat) (e e':Nat->Nat),eqOk f vars l->yR nx e->yR nx e'->sol nx l k e=e->(∀i,i < k\/k+l.length<=i->leB g (e i) (e' i))->
  (∀(j:Nat) (h:j < l.length),e' (k+j)=if l[j].gr=g then e (k+j) else wT nx.length l[j].gr)->inv nx l k e'
 | [],_,_,_,_,_,_,_,_,_=>trivial
 | x::l,k,e,e',hl,he,he',hs,hlt,h=>by
  obtain ⟨s1,s2⟩:=zMH nx x l k e hs;have h0:=h 0 (by simp);simp at h0;have hmo:=uC hf hnx l (k+1) fun y hy=>hl y (by simp[hy]);have hmo':=uC hf hnx (x::l) k hl;have hk:leB g (e k) (e' k):=by
   by_cases hg:x.gr=g
   ·rw[h0,yRO hg];exact xE ..
   ·rw[h0,yRN hg];have hg':g= !x.gr:=by cases g<;>cases hxg:x.gr<;>simp_all
    rw[hg',fE];exact uB _ (he k)
  have hlt':∀i,i < k+1\/k+1+l.length<=i->leB g (e i) (e' i):=by
   intro i hi;by_cases hik:i=k
   ·rw[hik];exact hk
   ·exact hlt i (by simp;omega)
  refine ⟨?_,?_,zCE g l (k+1) e e' (fun y hy=>hl y (by simp[hy])) he he' s1 hlt' fun j hj=> ?_⟩
  ·by_cases hg:x.gr=g
   ·rw[h0,yRO hg];have e1:e k=bodE nx x (sol nx l (k+1) e):=by
     have:=(uG hf hnx hl he (k:=k)).2.1;rw[<-s2] at this;have e2:updE e k (e k)=e:=funext fun i=>by
      by_cases hik:i=k
      ·rw[hik,yK]
      ·rw[xH hik]
     rw[e2] at this;exact this.symm
    rw[e1,hg];exact tA hf hnx (hl x (by simp)) g fun i=>hmo.2 g e e' he he' hlt' i
   ·rw[h0,yRN hg];exact uB _ (pF x (hmo.1 e' he'))
  ·by_cases hg:x.gr=g
   ·rw[h0,yRO hg,s2,<-iF,<-iF,hg];exact hmo'.2 g e e' he he' hlt k
   ·rw[h0,yRN hg];exact uB _ (uG hf hnx hl he').1
  ·have:=h (j+1) (by simp;omega);simp only[List.getElem_cons_succ] at this;rw[show k+1+j=k+(j+1) by omega];exact this
end
end Go.Ab.Tab
/- The solver: begin,solve. -/
namespace Go.Ab.Tab
open Go Go.Ab
abbrev SB (d0 A gA B gB:Nat) (l:List Eqn) (bo:AV):Nat×Nat×Ent:=(d0,B,(gB,.cells [.ptr d0 A gA 0,.sl 5 (l.map encE) .no,bo]))
theorem hM2 {D:Nat} {S:Nat->Nat->Ent} {m1 m2:Nat×Nat×Ent} (h:∀m∈[m1,m2],m.1 < D/\S m.1 m.2.1=m.2.2):(m1.1 < D/\S m1.1 m1.2.1=m1.2.2)/\(m2.1 < D/\S m2.1 m2.2.1=m2.2.2):=
 ⟨h _ (by simp),h _ (by simp)⟩
theorem hM3 {D:Nat} {S:Nat->Nat->Ent} {m1 m2 m3:Nat×Nat×Ent} (h:∀m∈[m1,m2,m3],m.1 < D/\S m.1 m.2.1=m.2.2):(m1.1 < D/\S m1.1 m1.2.1=m1.2.2)/\(m2.1 < D/\S m2.1 m2.2.1=m2.2.2)/\(m3.1 < D/\S m3.1 m3.2.1=m3.2.2):=
 ⟨h _ (by simp),h _ (by simp),h _ (by simp)⟩
theorem yF {S:Nat->Nat->Ent} {d i j:Nat} {e:Ent} (h:j≠i):updS S d i e d j=S d j:=by
 unfold updS;rw[yRN];rintro ⟨_,e⟩;exact h e
theorem bM (D d0 A gA B gB:Nat) (hD:d0 < D) (hAB:A≠B) (f:Fu) (nx:List Va) (l:List Eqn) (bo:AV) (e:Nat->Nat) (i:Nat) (hi:i < l.length) (h4:i < 4):
  Go.Ab.Loc Pg Gl D 105 [.ptr d0 B gB 0,.int .i64 i] [Mm d0 A gA f nx (e4 e),SB d0 A gA B gB l bo] (.tup []) [Mm d0 A gA f nx (e4 (updE e i (wT nx.length l[i].gr)))]:=by
 refine yH zF tok rfl rfl fun S hS=> ?_;obtain ⟨⟨_,h0⟩,⟨_,h1⟩⟩:=hM2 hS;simp only[tM,e4] at h0 h1;have hne:¬d0=D:=by omega
 unfold c105;have hi':(i:Int) < l.length:=by omega
 have hi4:i=0\/i=1\/i=2\/i=3:=by omega
 have e0:encW 0= [.int .u64 0,.int .u64 0]:=rfl;cases hg:l[i].gr
 ·rcases hi4 with rfl | rfl | rfl | rfl;all_goals push_cast at hi'
  all_goals simp[hne,h0,h1,hi,hi',yF hAB,yF hAB.symm,encE,hg,e4,updE,wT,tM,encW,upds]
 ·rcases hi4 with rfl | rfl | rfl | rfl;all_goals push_cast at hi'
  all_goals simp[hne,h0,h1,hi,hi',yF hAB,yF hAB.symm,encE,hg,e4,updE,wT,tM,encW,upds]
end Go.Ab.Tab
/- The solver: solve. -/
namespace Go.Ab.Tab
open Go Go.Ab
abbrev EC (d0 Cc gC:Nat) (cs:List AV):Nat×Nat×Ent:=(d0,Cc,(gC,.cells cs))
def rstE (n:Nat) (g:Bool) (l:List Eqn):Nat->Nat->(Nat->Nat)->(Nat->Nat)
 | 0,_,e=>e
 | j+1,i,e=>rstE n g l j (i+1) (if (l.map Eqn.gr).getD i g=g then e else updE e i (wT n (!g)))
theorem zBO (n:Nat) (g:Bool) (l:List Eqn):∀(j i:Nat) (e:Nat->Nat) (t:Nat),rstE n g l j i e t=if i<=t/\t < i+j/\(l.map Eqn.gr).getD t g≠g then wT n (!g) else e t
 | 0,i,e,t=>by rw[rstE,yRN (by omega)]
 | j+1,i,e,t=>by
  rw[rstE,zBO n g l j (i+1)];by_cases hc:i+1<=t/\t < i+1+j/\(l.map Eqn.gr).getD t g≠g
  ·rw[yRO hc,yRO ⟨by omega,by omega,hc.2.2⟩]
  ·rw[yRN hc];by_cases ht:t=i
   ·subst ht;by_cases hg:(l.map Eqn.gr).getD t g=g
    ·rw[yRO hg,yRN (fun h=>h.2.2 hg)]
    ·rw[yRN hg,yK,yRO ⟨by omega,by omega,hg⟩]
   ·have:¬(i<=t/\t < i+(j+1)/\(l.map Eqn.gr).getD t g≠g):=fun h=>hc ⟨by omega,by omega,h.2.2⟩;rw[yRN this];split
    ·rfl
    ·rw[xH ht]
theorem eW (e:Nat->Nat) (k:Nat):updE e k (e k)=e:=funext fun i=>by
 by_cases h:i=k
 ·rw[h,yK]
 ·rw[xH h]
theorem zEB (nx:List Va) (x:Eqn) (l:List Eqn) (k:Nat) (e e':Nat->Nat) (h:∀i,i < k\/k+(l.length+1)<=i->e i=e' i):solX nx x l k e=solX nx x l k e':=by
 rw[<-iF,<-iF,pT nx (x::l) k e e' h]
section
variable {nx:List Va} {f:Fu} (hf:zH f=true) (hnx:∀v∈nx,valN nx.length v f=true) {vars:Int} {x:Eqn} {l:List Eqn} {k:Nat} (hl:eqOk f vars (x::l)) {e:Nat->Nat} (he:yR nx e)
include hf hnx hl he
theorem yDH (i2:leB x.gr (e k) (solX nx x l k e)) (h:bodE nx x (sol nx l (k+1) e)=e k):sol nx l (k+1) e=sol nx (x::l) k e:=by
 obtain ⟨s1,s2,s3⟩:=uG hf hnx hl he (k:=k);have:=s3 (e k) (he k) (by rw[eW,h];exact xE ..);have hx:e k=solX nx x l k e:=mF i2 this;rw[wC,<-hx,eW]
theorem zRP (i1:leB x.gr (e k) (bodE nx x (sol nx l (k+1) e))) (i2:leB x.gr (e k) (solX nx x l k e)) {e1 e3:Nat->Nat} (he1:sol nx l (k+1) e=e1)
  (h3:∀i,e3 i=if i=k then bodE nx x e1 else if k+1<=i/\i < k+1+l.length/\(l.map Eqn.gr).getD (i - (k+1)) x.gr≠x.gr then wT nx.length (!x.gr) else e1 i):
  yR nx e3/\inv nx l (k+1) e3/\leB x.gr (e3 k) (bodE nx x (sol nx l (k+1) e3))/\leB x.gr (e3 k) (solX nx x l k e3)/\(∀i,i < k\/k+1+l.length<=i->e3 i=e i):=by
 have hl':eqOk f vars l:=fun y hy=>hl y (by simp[hy]);have hmo:=uC hf hnx l (k+1) hl';have ha1:yR nx e1:=by rw[<-he1];exact hmo.1 e he
 have hk1:e1 k=e k:=by rw[<-he1];exact lM nx l (k+1) e k (by omega)
 have h3k:e3 k=bodE nx x e1:=by rw[h3,yRO rfl]
 have hX:sub (bodE nx x e1) (allT nx.length):=pF x ha1;have ha3:yR nx e3:=by
  intro i;rw[h3];split
  ·exact hX
  ·split
   ·exact Go.Ab.Tab.start_sub nx.length _
   ·exact ha1 i
 have hag:∀i,i < k\/k+1+l.length<=i->e3 i=e i:=by
  intro i hi;rw[h3,yRN (by omega),yRN (fun h=>by omega),<-he1];rcases hi with hi | hi
  ·exact lM nx l (k+1) e i (by omega)
  ·exact iE nx l (k+1) e i (by omega)
 have hle:∀i,i < k+1\/k+1+l.length<=i->leB x.gr (e1 i) (e3 i):=by
  intro i hi;by_cases hik:i=k
  ·rw[hik,hk1,h3k,<-he1];exact i1
  ·rw[hag i (by omega)];have:e1 i=e i:=by
    rw[<-he1];rcases hi with hi | hi
    ·exact lM nx l (k+1) e i (by omega)
    ·exact iE nx l (k+1) e i (by omega)
   rw[this];exact xE ..
 have hid:sol nx l (k+1) e1=e1:=by
  rw[<-he1];refine pT nx l (k+1) _ e fun i hi=> ?_;rcases hi with hi | hi
  ·exact lM nx l (k+1) e i (by omega)
  ·exact iE nx l (k+1) e i (by omega)
 refine ⟨ha3,?_,?_,?_,hag⟩
 ·refine zCE hf hnx x.gr l (k+1) e1 e3 hl' ha1 ha3 hid hle fun j hj=> ?_;have hg:(l.map Eqn.gr).getD (k+1+j - (k+1)) x.gr=l[j].gr:=by
   rw[show k+1+j - (k+1)=j by omega,qV (by simpa using hj)];simp
  rw[h3,yRN (by omega),hg];by_cases hgg:l[j].gr=x.gr
  ·rw[yRN (fun h=>h.2.2 hgg),yRO hgg]
  ·rw[yRO ⟨by omega,by omega,hgg⟩,yRN hgg];congr 1;cases h1:l[j].gr<;>cases h2:x.gr<;>simp_all
 ·rw[h3k];refine tA hf hnx (hl x (by simp)) x.gr fun i=> ?_;have:=hmo.2 x.gr e1 e3 ha1 ha3 hle i;rw[hid] at this;exact this
 ·obtain ⟨s1,s2,s3⟩:=uG hf hnx hl he (k:=k);rw[h3k,zEB nx x l k e3 e (fun i hi=>hag i (by omega)),<-he1];rw[<-s2];refine tA hf hnx (hl x (by simp)) x.gr fun i=>hmo.2 x.gr e _ he (yZ nx he s1) (fun i hi=> ?_) i;by_cases hik:i=k
  ·rw[hik,yK];exact i2
  ·rw[xH hik];exact xE ..
end
section
variable {d0 A gA B gB Cc gC:Nat} {f:Fu} {nx:List Va} {l:List Eqn} {cs:List AV}
abbrev EA (d0 A gA:Nat) (f:Fu) (nx:List Va) (e:Nat->Nat):Ent:=(gA,.cells (tM f nx (allT nx.length) (e4 e)))
theorem m47a (hAB:A≠B) (hl4:l.length<=4) {D:Nat} (hD:d0 < D) {S:Nat->Nat->Ent} (hB:S d0 B=(SB d0 A gA B gB l (.own d0 Cc gC 0 l.length 1 false)).2.2) {Q:St->Prop} {K:List AI} {k:Nat} (hk:k < l.length):
  ∀(j i:Nat) (e:Nat->Nat) (τ ω),i+j=l.length->k < i->τ 0= .ptr d0 B gB 0->τ 1= .int .i64 k->τ 4= .meth 47 [.ptr d0 B gB 0]->τ 5= .meth 105 [.ptr d0 B gB 0]->τ 7= .int .i64 i->
  (∀τ',τ' 0= .ptr d0 B gB 0->τ' 1= .int .i64 k->τ' 4= .meth 47 [.ptr d0 B gB 0]->τ' 5= .meth 105 [.ptr d0 B gB 0]->Rd (Loc Pg Gl) .im Q K (stF 82 D τ' ω (updS S d0 A (EA d0 A gA f nx (rstE nx.length l[k].gr l j i e)))))->
  Rd (Loc Pg Gl) .im Q (.lp c47_l0:: .blk 2::K) (stF 82 D τ ω (updS S d0 A (EA d0 A gA f nx e))):=by
 have hne:¬d0=D:=by omega
 intro j
 induction j with
 | zero=>
  intro i e τ ω hi hki t0 t1 t4 t5 t7 hK;refine zN c47_l0.eq_1 ?_;obtain rfl:i=l.length:=by omega
  simp[t0,t1,t5,t7,hne,yF hAB.symm,hB];refine hK _ ?_ ?_ ?_ ?_;all_goals simp[t0,t1,t4,t5]
 | succ j ih=>
  intro i e τ ω hi hki t0 t1 t4 t5 t7 hK;refine zN c47_l0.eq_1 ?_;have hlt:i < l.length:=by omega
  have hlt':(i:Int) < l.length:=by omega
  have hk':(k:Int) < l.length:=by omega
  have hwr:IntKind.i64.wrap ((i:Int)+1)=((i+1:Nat):Int):=by rw[<-zL (n:=i+1) (by omega)];rfl
  have hgi:(l.map Eqn.gr).getD i l[k].gr=l[i].gr:=by rw[qV (by simpa using hlt)];simp
  rw[rstE,hgi] at hK;by_cases hg:l[i].gr=l[k].gr
  ·rw[yRO hg] at hK;simp[t0,t1,t5,t7,hne,yF hAB.symm,hB,hlt,hlt',hk,hk',encE,hg,hwr];refine ih (i+1) e _ ω (by omega) (by omega) ?_ ?_ ?_ ?_ ?_ hK;all_goals simp[t0,t1,t4,t5]
  ·rw[yRN hg] at hK;have hgb:(l[i].gr==l[k].gr)=false:=by simpa using hg
   have hg':l[i].gr= !l[k].gr:=by cases h1:l[i].gr<;>cases h2:l[k].gr<;>simp_all
   simp[t0,t1,t5,t7,hne,yF hAB.symm,hB,hlt,hlt',hk,hk',encE,hgb];have hM:∀m∈[Mm d0 A gA f nx (e4 e),SB d0 A gA B gB l (.own d0 Cc gC 0 l.length 1 false)],m.1<=D/\(m.1=D->m.2.1 < 82)/\(updS S d0 A (EA d0 A gA f nx e)) m.1 m.2.1=m.2.2:=by
    intro m hm;rcases yOD.1 hm with rfl | hm
    ·exact ⟨yOE hD,fun h=>absurd h hne,uF ..⟩
    ·rcases yOD.1 hm with rfl | hm
     ·exact ⟨yOE hD,fun h=>absurd h hne,(yF hAB.symm).trans hB⟩
     ·cases hm
   refine zDR (bs:=[.ptr d0 B gB 0]) (bM (D+1) d0 A gA B gB (by omega) hAB f nx l (.own d0 Cc gC 0 l.length 1 false) e i hlt (by omega)) (by simp[t5]) (by simp) (by simpa[hne] using hM) (by simp) ?_;simp[hne,t7,hwr];rw[hg'];refine ih (i+1) (updE e i (wT nx.length (!l[k].gr))) _ ω (by omega) (by omega) ?_ ?_ ?_ ?_ ?_ hK;all_goals simp[t0,t1,t4,t5]
theorem zFR (hn:nx.length<=128) {e:Nat->Nat} (h:yR nx e):zUV (e4 e):=by
 refine ⟨rfl,fun x hx=> ?_⟩;have key:∀i,e i < 2^128:=fun i=>yOP (zGK (h i)) (nV hn);simp only[e4,yOD,yOH,or_false] at hx;rcases hx with rfl | rfl | rfl | rfl<;>exact key _
theorem zIS (f:Fu) (nx:List Va) (al:Nat) (e:Nat->Nat):(tM f nx al (e4 e)).length=14:=rfl
theorem zBT (f:Fu) (nx:List Va) (al:Nat) (e:Nat->Nat) {k:Nat} (hk:k < 4):part true 2 (tM f nx al (e4 e)) (6+k*2)=some (.agg (encW (e k))):=by
 have:k=0\/k=1\/k=2\/k=3:=by omega
 rcases this with rfl | rfl | rfl | rfl<;>rfl
theorem zMO (f:Fu) (nx:List Va) (al:Nat) (e:Nat->Nat) {k:Nat} (hk:k < 4) (X:Nat):putC (tM f nx al (e4 e)) (6+k*2) (encW X)=tM f nx al (e4 (updE e k X)):=by
 have:k=0\/k=1\/k=2\/k=3:=by omega
 rcases this with rfl | rfl | rfl | rfl<;>rfl
theorem oM (X:Nat):encW X= [AV.int .u64 ((X:Int) % 18446744073709551616),AV.int .u64 ((X:Int) / 18446744073709551616)]:=by simp[encW]
theorem zJH (N M:Nat):wQ (encW N) (encW M)=some (decide (N=M)):=by
 unfold encW;simp only[wQ,if_true];by_cases h1:((N % 2^64:Nat):Int)=((M % 2^64:Nat):Int)
 ·rw[yRO h1];by_cases h2:((N / 2^64:Nat):Int)=((M / 2^64:Nat):Int)
  ·rw[yRO h2];have:N=M:=zNN (by omega) (by omega);simp[this]
  ·rw[yRN h2];have:N≠M:=fun e=>h2 (by rw[e]);simp[this]
 ·rw[yRN h1];have:N≠M:=fun e=>h1 (by rw[e]);simp[this]
theorem yAZ (hAB:A≠B) (hAC:A≠Cc) (hl4:l.length<=4) (hn:nx.length<=128) (hf:zH f=true) (hnx:∀v∈nx,valN nx.length v f=true) {vars:Int} (hl:eqOk f vars l) (hcs:cs.length=l.length)
  (hcl:∀i (h:i < l.length),ClS d0 A gA f nx (cs[i]'(by omega)) l[i].body):∀(m k:Nat),k+m=l.length->∀(D:Nat) (e0:Nat->Nat),d0 < D->yR nx e0->inv nx (l.drop k) k e0->
  Go.Ab.Loc Pg Gl D 47 [.ptr d0 B gB 0,.int .i64 k] [Mm d0 A gA f nx (e4 e0),SB d0 A gA B gB l (.own d0 Cc gC 0 l.length 1 false),EC d0 Cc gC cs] (.tup []) [Mm d0 A gA f nx (e4 (sol nx (l.drop k) k e0))]:=by
 intro m
 induction m with
 | zero=>
  intro k hk D e0 hD he hi;obtain rfl:k=l.length:=by omega
  refine yH zF tok rfl rfl fun S hS=> ?_;obtain ⟨⟨_,h0⟩,⟨_,h1⟩,_⟩:=hM3 hS;simp only at h0 h1;have hne:¬d0=D:=by omega
  rw[List.drop_length,sol];unfold c47;simp[hne,h0,h1,upds,uE _ _ _ h0]
 | succ m ih=>
  intro k hk D e0 hD he hi;have hkl:k < l.length:=by omega
  have hkl':(k:Int) < l.length:=by omega
  have hkcs:k < cs.length:=by omega
  have hk4:k < 4:=by omega
  have hne:¬d0=D:=by omega
  have hd:l.drop k=l[k]::l.drop (k+1):=List.drop_eq_getElem_cons hkl;rw[hd] at hi|-;obtain ⟨i1,i2,i3⟩:=hi;have hll:k+1+(l.drop (k+1)).length=l.length:=by simp;omega
  have hlk:eqOk f vars (l[k]::l.drop (k+1)):=by rw[<-hd];exact fun y hy=>hl y (yOQ hy)
  have hlk':eqOk f vars (l.drop (k+1)):=fun y hy=>hl y (yOQ hy);have hmo:=uC hf hnx (l.drop (k+1)) (k+1) hlk';have hbx:=hlk l[k] (List.mem_cons_self ..);obtain ⟨F,caps,hck,hF,hcaps,hup,hcall⟩:=hcl k hkl;have hwr:IntKind.i64.wrap ((k:Int)+1)=((k+1:Nat):Int):=by rw[<-zL (n:=k+1) (by omega)];rfl
  refine yH zF tok rfl rfl fun S hS=> ?_;obtain ⟨⟨_,h0⟩,⟨_,hB⟩,⟨_,hC⟩⟩:=hM3 hS;simp only at h0 hB hC;generalize hE:sol nx (l[k]::l.drop (k+1)) k e0=Es;have loop:∀(fu:Nat) (e:Nat->Nat) (τ ω),yR nx e->inv nx (l.drop (k+1)) (k+1) e->leB l[k].gr (e k) (bodE nx l[k] (sol nx (l.drop (k+1)) (k+1) e))->leB l[k].gr (e k) (solX nx l[k] (l.drop (k+1)) k e)->
    (∀i,i < k\/l.length<=i->e i=e0 i)->(if l[k].gr then e k < fu else 2^nx.length<=e k+fu)->τ 0= .ptr d0 B gB 0->τ 1= .int .i64 k->τ 4= .meth 47 [.ptr d0 B gB 0]->τ 5= .meth 105 [.ptr d0 B gB 0]->
    Rd (Loc Pg Gl) .im (RetM [] (.tup []) D S [Mm d0 A gA f nx (e4 Es)]) [.lp c47_l1,.blk 0] (stF 82 D τ ω (updS S d0 A (EA d0 A gA f nx e))):=by
   intro fu
   induction fu with
   | zero=>
    intro e τ ω he hi i1 i2 hag hfu;have h1:=mR.1 (he k);cases hg:l[k].gr<;>rw[hg] at hfu<;>simp at hfu
    omega
   | succ fu ihf=>
    intro e τ ω he hi i1 i2 hag hfu t0 t1 t4 t5;refine zN c47_l1.eq_1 ?_;have hin:=ih (k+1) (by omega) (D+1) e (by omega) he hi;generalize he1:sol nx (l.drop (k+1)) (k+1) e=e1 at*;have ha1:yR nx e1:=by rw[<-he1];exact hmo.1 e he
    have hM:∀e,∀m∈[Mm d0 A gA f nx (e4 e),SB d0 A gA B gB l (.own d0 Cc gC 0 l.length 1 false),EC d0 Cc gC cs],m.1<=D/\(m.1=D->m.2.1 < 82)/\(updS S d0 A (EA d0 A gA f nx e)) m.1 m.2.1=m.2.2:=by
     intro e m hm;simp only[yOD,yOH,or_false] at hm;rcases hm with rfl | rfl | rfl
     ·exact ⟨yOE hD,fun h=>absurd h hne,uF ..⟩
     ·exact ⟨yOE hD,fun h=>absurd h hne,(yF hAB.symm).trans hB⟩
     ·exact ⟨yOE hD,fun h=>absurd h hne,(yF hAC.symm).trans hC⟩
    simp[t0,t1,t4,hwr];refine zDR (bs:=[.ptr d0 B gB 0]) hin (by simp[t4]) (by simp) (by simpa[hne] using hM e) (by simp) ?_;simp[hne,t0,t1,yF hAB.symm,yF hAC.symm,hB,hC,hkl',hkl,hkcs,hck];refine zZ (cap:=caps) (hcall (D+1) (e4 e1) (by omega) (zFR hn ha1)) (by simp) (by simp[hcaps]) ?_ (by simp) ?_ hF
    ·intro m hm;have:=hM e1 m (by simp only[yOD] at hm|-;exact .inl (by simpa using hm));have e':(gA,Ob.cells (tM f nx (allT nx.length) (e4 e1)))=EA d0 A gA f nx e1:=rfl;rw[e'];simp only[yOD,yOH,or_false] at hm;subst hm;simpa[hne] using this
    have hbe:evS nx (e4 e1) l[k].body=bodE nx l[k] e1:=rfl;rw[hbe];generalize hX:bodE nx l[k] e1=X at*;have hXs:sub X (allT nx.length):=by rw[<-hX];exact pF _ ha1
    have hk4':(k:Int) < 4:=by omega
    have hpt:=zBT f nx (allT nx.length) e1 hk4;have hpc:=zMO f nx (allT nx.length) e1 hk4 X;have hec:=zJH X (e1 k);rw[oM] at hpt hpc;simp[putC] at hpc;rw[oM,oM] at hec;have hk6:6+k*2+2<=14:=by omega
    have hk1:e1 k=e k:=by rw[<-he1];exact lM nx _ (k+1) e k (by omega)
    by_cases hXe:X=e1 k
    ·have hfin:e1=Es:=by
      have:=yDH hf hnx hlk he i2 (by rw[he1,hX,hXe,hk1]);rw[he1] at this;rw[this,<-hE];exact pT nx _ k e e0 fun i hi=>hag i (by simp at hi;omega)
     have hXd:decide (X=e1 k)=true:=decide_eq_true hXe;simp[encT,encW,hne,t0,t1,yF hAB.symm,yF hAC.symm,hB,hC,hkl',hkl,hk4',hpt,hec,hXd];simp[hfin,upds]
    ·have hXd:decide (X=e1 k)=false:=decide_eq_false hXe;simp[encT,encW,hne,t0,t1,yF hAB.symm,yF hAC.symm,hB,hC,hkl',hkl,hk4',hpt,hec,hXd,hpc,zIS,hk6,hwr];refine m47a hAB hl4 hD hB hkl m (k+1) (updE e1 k X) _ _ (by omega) (by omega) ?_ ?_ ?_ ?_ ?_ fun τ' a0 a1 a4 a5=> ?_
     ·simp[t0]
     ·simp[t1]
     ·simp[t4]
     ·simp[t5]
     ·simp
     have h3:∀i,rstE nx.length l[k].gr l m (k+1) (updE e1 k X) i=if i=k then bodE nx l[k] e1 else if k+1<=i/\i < k+1+(l.drop (k+1)).length/\((l.drop (k+1)).map Eqn.gr).getD (i - (k+1)) l[k].gr≠l[k].gr then wT nx.length (!l[k].gr) else e1 i:=by
      intro i;rw[zBO];have hlm:(l.drop (k+1)).length=m:=by simp;omega
      rw[hlm];by_cases hik:i=k
      ·rw[yRN (by omega),yRO hik,hik,yK,hX]
      ·rw[yRN hik,xH hik];by_cases hr:k+1<=i/\i < k+1+m
       ·have e:((l.drop (k+1)).map Eqn.gr).getD (i - (k+1)) l[k].gr=(l.map Eqn.gr).getD i l[k].gr:=by
         rw[qV (by simp;omega),qV (by simp;omega)];simp only[List.getElem_map,List.getElem_drop];congr 2;omega
        rw[e]
       ·rw[yRN (fun h=>hr ⟨h.1,h.2.1⟩),yRN (fun h=>hr ⟨h.1,h.2.1⟩)]
     obtain ⟨b1,b2,b3,b4,b5⟩:=zRP hf hnx hlk he (by rw[he1,hX];exact i1) i2 he1 h3;generalize rstE nx.length l[k].gr l m (k+1) (updE e1 k X)=e3 at*;simp;refine ihf e3 τ' _ b1 b2 b3 b4 (fun i hi=>(b5 i (by omega)).trans (hag i hi)) ?_ a0 a1 a4 a5;have h3k:e3 k=X:=by rw[h3,yRO rfl,hX]
     rw[h3k];rw[hk1] at hXe;cases hg:l[k].gr
     ·rw[hg] at i1 hfu;have:=zBI (a:=e k) (b:=X) i1 (Ne.symm hXe);simp only[yOO,if_false] at hfu|-;omega
     ·rw[hg] at i1 hfu;have:=zBI (a:=X) (b:=e k) i1 hXe;simp only[if_true] at hfu|-;omega
  unfold c47;have key:∀τ ω,τ 0= .ptr d0 B gB 0->τ 1= .int .i64 k->τ 4= .meth 47 [.ptr d0 B gB 0]->τ 5= .meth 105 [.ptr d0 B gB 0]->Rd (Loc Pg Gl) .im (RetM [] (.tup []) D S [Mm d0 A gA f nx (e4 Es)]) [.lp c47_l1,.blk 0] (stF 82 D τ ω S):=by
   intro τ ω a0 a1 a4 a5;have:=loop (2^nx.length+1) e0 τ ω he i3 i1 i2 (fun i _=>rfl) (by
    have:=mR.1 (he k);cases l[k].gr<;>simp<;>omega) a0 a1 a4 a5
   rwa [uE _ _ _ h0] at this
  have hkd:decide ((k:Int)=l.length)=false:=decide_eq_false (by omega);simp[hne,hB,hkl',hkl,hkd];refine key _ _ ?_ ?_ ?_ ?_;all_goals simp
end
end Go.Ab.Tab
/- The solver: newSolver. -/
namespace Go.Ab.Tab
open Go Go.Ab
def S3 (S:Nat->Nat->Ent) (d0 A B C:Nat) (a b c:Ent):Nat->Nat->Ent:=fun d i=>if d=d0/\i=A then a else if d=d0/\i=B then b else if d=d0/\i=C then c else S d i
section
variable {S:Nat->Nat->Ent} {d0 A B C:Nat} {a b c x:Ent}
theorem S3_A:S3 S d0 A B C a b c d0 A=a:=by simp[S3]
theorem S3_B (h:A≠B):S3 S d0 A B C a b c d0 B=b:=by simp[S3,h.symm]
theorem S3_C (h:A≠C) (h':B≠C):S3 S d0 A B C a b c d0 C=c:=by simp[S3,h.symm,h'.symm]
theorem zOG:updS (S3 S d0 A B C a b c) d0 A x=S3 S d0 A B C x b c:=by
 funext d i;simp only[updS,S3]
 by_cases h:d=d0/\i=A
 ·rw[yRO h,yRO h]
 ·rw[yRN h,yRN h,yRN h]
theorem zOF (h:A≠B):updS (S3 S d0 A B C a b c) d0 B x=S3 S d0 A B C a x c:=by
 funext d i;simp only[updS,S3]
 by_cases h1:d=d0/\i=B
 ·rw[yRO h1,yRN (fun h2=>h (h2.2.symm.trans h1.2)),yRO h1]
 ·rw[yRN h1,yRN h1,yRN h1]
theorem zOE (h:A≠C) (h':B≠C):updS (S3 S d0 A B C a b c) d0 C x=S3 S d0 A B C a b x:=by
 funext d i;simp only[updS,S3]
 by_cases h1:d=d0/\i=C
 ·rw[yRO h1,yRN (fun h2=>h (h2.2.symm.trans h1.2)),yRN (fun h2=>h' (h2.2.symm.trans h1.2)),yRO h1]
 ·rw[yRN h1,yRN h1,yRN h1]
theorem zVI (h:A≠B) (h1:A≠C) (h':B≠C):updS (updS S d0 A a) d0 B b=S3 S d0 A B C a b (S d0 C):=by
 funext d i;simp only[updS,S3]
 by_cases hB:d=d0/\i=B
 ·rw[yRO hB,yRN (fun h2=>h (h2.2.symm.trans hB.2)),yRO hB]
 ·rw[yRN hB];by_cases hA:d=d0/\i=A
  ·rw[yRO hA,yRO hA]
  ·rw[yRN hA,yRN hA,yRN hB];by_cases hC:d=d0/\i=C
   ·rw[yRO hC,hC.1,hC.2]
   ·rw[yRN hC]
theorem zVH (h:A≠B) (h1:A≠C) (h':B≠C):upds S [(d0,A,a),(d0,B,b),(d0,C,c)]=S3 S d0 A B C a b c:=by
 simp only[upds,List.foldl];rw[zVI h h1 h',zOE h1 h']
end
theorem jD {P:Nat->AV->Prop}:∀{n:Nat},(∀i,i < n->∃c,P i c)->∃cs:List AV,cs.length=n/\∀i (h:i < cs.length),P i cs[i]
 | 0,_=>⟨[],rfl,fun i h=>by simp at h⟩
 | n+1,h=>by
  obtain ⟨cs,h1,h2⟩:=jD (n:=n) fun i hi=>h i (by omega);obtain ⟨c,hc⟩:=h n (by omega);refine ⟨cs++[c],by simp[h1],fun i hi=> ?_⟩;by_cases hin:i < cs.length
  ·rw[List.getElem_append_left hin];exact h2 i hin
  ·have:i=n:=by simp at hi;omega
   subst this;rw[List.getElem_append_right (by omega)];simpa[h1] using hc
def vI (n:Nat) (l:List Eqn) (j:Nat):Nat->Nat:=fun i=>if h:i < l.length/\i < j then wT n l[i].gr else 0
theorem bE (n:Nat) (l:List Eqn) (j:Nat) (h:j < l.length):vI n l (j+1)=updE (vI n l j) j (wT n l[j].gr):=by
 funext i
 by_cases hi:i=j
 ·subst hi;rw[yK,vI,dif_pos ⟨h,by omega⟩]
 ·rw[xH hi,vI,vI];by_cases hc:i < l.length/\i < j
  ·rw[dif_pos hc,dif_pos ⟨hc.1,by omega⟩]
  ·rw[dif_neg hc,dif_neg (fun h=>hc ⟨h.1,by omega⟩)]
theorem bD (n:Nat) (l:List Eqn):vI n l 0=fun _=>0:=by funext i;simp[vI]
abbrev boI (d0 Cc gC i:Nat):AV:=if i=0 then .sl 1 [] .nil else .own d0 Cc (gC+i) 0 i 1 false
theorem m46 {d0 A gA B gB Cc gC:Nat} (hAB:A≠B) (hAC:A≠Cc) (hBC:B≠Cc) {f:Fu} {nx:List Va} {l:List Eqn} (hl4:l.length<=4) {D:Nat} (hD:d0 < D) {cs:List AV} (hcs:cs.length=l.length)
  (hcl:∀i (h:i < l.length),Go.Ab.Loc Pg Gl (D+1) 104 [.ptr d0 A gA 0,encM l[i].body] [] (cs[i]'(by omega)) []/\ClS d0 A gA f nx (cs[i]'(by omega)) l[i].body) (S:Nat->Nat->Ent) (oC:Ob) (hSC:S d0 Cc=(gC,oC)):
  ∀(j i:Nat) (τ ω),i+j=l.length->0 < l.length->τ 5= .ptr d0 B gB 0->τ 13= .sl 5 (l.map encE) .no->τ 14= .int .i64 l.length->τ 15= .int .i64 i->
  Rd (Loc Pg Gl) .pl (CloQ d0 [.tmp 4] (.ptr d0 B gB 0) D S [Mm d0 A gA f nx (e4 (vI nx.length l l.length)),SB d0 A gA B gB l (.own d0 Cc (gC+l.length) 0 l.length 1 false),EC d0 Cc (gC+l.length) cs]) [.lp c46_l0,.blk 0,.c zKL]
   (stF 41 D τ ω (S3 S d0 A B Cc (EA d0 A gA f nx (vI nx.length l i)) (SB d0 A gA B gB l (boI d0 Cc gC i)).2.2 (if i=0 then (gC,oC) else (gC+i,.cells (cs.take i))))):=by
 have hne:¬d0=D:=by omega
 intro j
 induction j with
 | zero=>
  intro i τ ω hi h0 t5 t13 t14 t15;refine zN c46_l0.eq_1 ?_;obtain rfl:i=l.length:=by omega
  have hi0:¬l.length=0:=by omega
  simp[t5,t13,t14,t15,zKL,resC,frzC,hi0,zVH hAB hAC hBC,hcs];intro d i _;rw[zVI hAB hAC hBC,zOE hAC hBC,yOR (by omega)];simp only[boI,yRN hi0]
 | succ j ih=>
  intro i τ ω hi h0 t5 t13 t14 t15;refine zN c46_l0.eq_1 ?_;have hlt:i < l.length:=by omega
  have hwr:IntKind.i64.wrap ((i:Int)+1)=((i+1:Nat):Int):=by rw[<-zL (n:=i+1) (by omega)];rfl
  obtain ⟨hc1,hc2⟩:=hcl i hlt;obtain ⟨F,caps,hck,hF,hcaps,hup,hcall⟩:=id hc2;have up:=fnUp (D:=D) hup (yOE hD);have up0:=fnUp hup (Nat.le_refl _);rw[hck] at hc1;have q1:okEl 1 false [AV.fn F caps]=true:=rfl;have q2:newC [AV.fn F caps]= [AV.fn F caps]:=rfl;have q3:vF 1 false 1 [AV.fn F caps]= [AV.fn F caps]:=rfl;have q4:AV.upto d0 20 (.fn F caps)=true:=fn20 hup;have q5:AV.strip1 (.fn F caps)= .fn F caps:=rfl;have q6:AV.one (.fn F caps)=true:=rfl;have ih1:=ih (i+1);have est:=bE nx.length l i hlt;have etk:cs.take (i+1)=cs.take i++[.fn F caps]:=by rw[List.take_succ_eq_append_getElem (by omega),hck]
  simp only[boI,yRN (Nat.succ_ne_zero i),etk,est] at ih1;by_cases hi0:i=0
  ·subst hi0;simp[t5,t13,t14,t15,hlt,encE];refine cY (by decide) ?_;simp[t5,hne,S3_A,S3_B hAB,zOF hAB,boI];refine zM hc1 (by simp[zA l[0].body]) (by simp) (by simp) ?_;simp;refine oV (by decide) (by simp[up,q1]) ?_;simp[q2];refine zAT (z':=1) (y0:= .fn F caps) (ys:=[]) (r:=[(D,32)]) d0 Cc hD (by simp) (by simp[tR,q3,q4,q5,q6]) (by simp[q1,q6,z8]) ?_;simp[hne,q2,t5,S3_A,S3_B hAB,S3_C hAC hBC,zOG,zOF hAB,zOE hAC hBC];refine ⟨.inl (fun e=>hne e.symm),?_⟩;refine zR (bM (D+1) d0 A gA B gB (by omega) hAB f nx l (.own d0 Cc (gC+1) 0 1 1 false) (vI nx.length l 0) 0 hlt (by omega)) (by simp) ?_ (by simp) ?_
   ·simp[hne,S3_A,S3_B hAB];omega
   simp[hne,zOG,t15,show IntKind.i64.wrap 1=1 from rfl];simp at ih1;refine ih1 _ _ (by omega) h0 ?_ ?_ ?_ ?_;all_goals simp[t5,t13,t14]
  ·have hlen:(cs.take i).length=i:=by simp;omega
   have hst:(cs.take i).map AV.strip1=cs.take i:=by
    have:∀c∈cs.take i,AV.strip1 c=c:=by
     intro c hc;obtain ⟨k,hk,rfl⟩:=List.getElem_of_mem (List.mem_of_mem_take hc);obtain ⟨F',caps',e,_⟩:=(hcl k (by omega)).2;rw[e];rfl
    rw[yOS this,List.map_id']
   simp[t5,t13,t14,t15,hlt,encE];refine cY (by decide) ?_;simp[t5,hne,S3_A,S3_B hAB,zOF hAB,boI,hi0];refine zM hc1 (by simp[zA l[i].body]) (by simp) (by simp) ?_;simp;refine oV (by decide) (by simp[up,q1]) ?_;simp[q2];refine zGA (g:=gC+i) (len:=i) (ea:=false) (cs:=cs.take i) (ys:=[.fn F caps]) (r:=[(D,32)]) d0 Cc hD (by simp) (by simp[tR,q3,q4,q5,q6]) (by simp[hne,S3_C hAC hBC]) (by simp[q1,q6,z8,hlen];omega) ?_;simp[hne,q2,t5,S3_A,S3_B hAB,S3_C hAC hBC,zOG,zOF hAB,zOE hAC hBC,hst];have htt:List.take i (cs.take i)=cs.take i:=by rw[List.take_take,Nat.min_self]
   rw[htt];refine ⟨.inl (fun e=>hne e.symm),?_⟩;refine zR (bM (D+1) d0 A gA B gB (by omega) hAB f nx l (.own d0 Cc (gC+i+1) 0 (i+1) 1 false) (vI nx.length l i) i hlt (by omega)) (by simp) ?_ (by simp) ?_
   ·simp[hne,S3_A,S3_B hAB];omega
   simp[hne,zOG,t15,hwr];refine ih1 _ _ (by omega) h0 ?_ ?_ ?_ ?_;all_goals simp[t5,t13,t14]
theorem yBA {d0 A gA B gB Cc gC:Nat} (hAB:A≠B) (hAC:A≠Cc) (hBC:B≠Cc) {D:Nat} (hD:d0 < D) (oA oB oC:Ob) (s:Sy) (hn:s.m.length<=128) (l:List Eqn) (hl0:0 < l.length) (hl4:l.length<=4)
  (hc:∀x∈l,rR d0 A (gA+1) s.f s.m x.body):∃cs:List AV,∃hcs:cs.length=l.length,(∀i (h:i < l.length),ClS d0 A (gA+1) s.f s.m (cs[i]'(by omega)) l[i].body)/\
  Go.Ab.Loc Pg Gl D 46 [encY s,encL l] [(d0,A,(gA,oA)),(d0,B,(gB,oB)),(d0,Cc,(gC,oC))] (.ptr d0 B (gB+1) 0)
   [Mm d0 A (gA+1) s.f s.m (e4 (vI s.m.length l l.length)),SB d0 A (gA+1) B (gB+1) l (.own d0 Cc (gC+l.length) 0 l.length 1 false),EC d0 Cc (gC+l.length) cs]:=by
 obtain ⟨cs,hcs,hcl⟩:=jD (n:=l.length) (P:=fun i c=>∀h:i < l.length,Go.Ab.Loc Pg Gl (D+1) 104 [.ptr d0 A (gA+1) 0,encM l[i].body] [] c []/\ClS d0 A (gA+1) s.f s.m c l[i].body) (fun i hi=>by
  obtain ⟨c,h1,h2⟩:=hc l[i] (yOG hi) (D+1) (by omega);exact ⟨c,fun _=>⟨h1,h2⟩⟩)
 refine ⟨cs,hcs,fun i h=>(hcl i (by omega) h).2,?_⟩;refine xZ (d1:=d0) zF tok rfl .pl (by simp) rfl hD (by simp) trivial fun S hS=> ?_;obtain ⟨⟨_,hA⟩,⟨_,hB⟩,⟨_,hC⟩⟩:=hM3 hS;simp only at hA hB hC;have hne:¬d0=D:=by omega
 have h103:=zSX (D+1) d0 A gA oA (by omega) s hn;unfold c46;simp[encY,encL] at h103|-;refine zLS (by decide) (by simp) ?_;simp;refine zR h103 (by simp) (by simp[hne,hA];omega) (by simp) ?_;simp[hne];refine zLR d0 B hD (by simp) ?_;simp;rw[zVI hAB hAC hBC,yF hAB.symm,hB,hC];have h0:=m46 hAB hAC hBC hl4 hD hcs (fun i h=>hcl i (by omega) h) S oC hC (gB:=gB+1) l.length 0;rw[bD] at h0;refine h0 _ _ (by omega) hl0 ?_ ?_ ?_ ?_;all_goals simp
end Go.Ab.Tab
/- The reference's sets of lists: Sets. -/
namespace Go.Ab.Tab
open Go Go.Ab
def vG (bs:List Bool):AV:= .sl 1 (bs.map AV.bool) .no
theorem iY (s:St) (n:Nat):∀bs:List Bool,(bs.map AV.bool).mapM (frz s (n+1))=some (bs.map fun b=>(AV.bool b,[]))
 | []=>rfl
 | b::bs=>by rw[yOI,List.mapM_cons,iY s n bs];rfl
theorem mG:∀bs:List Bool,vF 1 false bs.length (bs.map AV.bool)=bs.map AV.bool
 | []=>rfl
 | b::bs=>by rw[List.length_cons,yOI,vF];simp[mG bs]
theorem zJB {n D:Nat} {τ:Nat->AV} {ω:Nat->Ent} {S:Nat->Nat->Ent} {A g m:Nat} (hA:A < n) {bs:List Bool} (hb:bs.length=m) (hw:ω A=(g,.cells (bs.map AV.bool))):
  frz (stF n D τ ω S) frzD (.own D A g 0 m 1 false)=some (vG bs,[(D,A)]):=by
 rw[show frzD=19+1 from rfl,frz];have h2:(bs.map AV.bool).all AV.one=true:=by
  rw[yOJ];intro v hv;obtain ⟨i,_,rfl⟩:=List.mem_map.1 hv;rfl
 simp only[yD,if_true,yRO hA,hw];rw[yRO ⟨trivial,rfl,by simp[hb],.inr trivial,h2⟩];rw[List.drop_zero,Nat.mul_one,yOR (by simp[hb]),iY];simp only[List.map_map];have e:vF 1 false m (bs.map ((fun x:AV×List (Nat×Nat)=>x.1.strip1)∘fun b=>(AV.bool b,[])))=bs.map AV.bool:=by
  rw[<-hb];have e':bs.map ((fun x:AV×List (Nat×Nat)=>x.1.strip1)∘fun b=>(AV.bool b,[]))=bs.map AV.bool:=yOS fun b _=>rfl;rw[e'];exact mG bs
 have e2:(bs.map ((fun x:AV×List (Nat×Nat)=>x.2)∘fun b=>(AV.bool b,[]))).flatten= []:=by
  induction bs<;>simp_all
 rw[e,e2];rfl
end Go.Ab.Tab
/- Solutions as lists; Solve. -/
namespace Go.Ab.Tab
open Go Go.Ab
theorem yAX (D d0 A gA B gB V gV:Nat) (hD:d0 < D) (f:Fu) (nx:List Va) (l:List Eqn) (bo:AV) (e:Nat->Nat) (i:Nat) (h4:i < 4):
  Go.Ab.Loc Pg Gl D 49 [.int .i64 i,.ptr d0 V gV 0] [(d0,V,(gV,.cells [.ptr d0 B gB 0])),Mm d0 A gA f nx (e4 e),SB d0 A gA B gB l bo] (encT (e i)) []:=by
 refine yH zF tok rfl rfl fun S hS=> ?_;obtain ⟨⟨_,hV⟩,⟨_,hA⟩,⟨_,hB⟩⟩:=hM3 hS;simp only at hV hA hB;have hne:¬d0=D:=by omega
 have hpt:=zBT f nx (allT nx.length) e h4;have h4':(i:Int) < 4:=by omega
 unfold c49;rw[oM] at hpt;simp[hne,hV,hA,hB,hpt,h4',encT,encW,upds]
def nJ (n N:Nat):AV:= .sl 1 ((uY N n).map encN) .no
theorem m48 {d0 A gA B gB:Nat} {f:Fu} {nx:List Va} {l:List Eqn} {bo:AV} {e:Nat->Nat} {D:Nat} (hD:d0 < D) (hn:nx.length<=128) (hl:l.length<=4) {F:FuncId} {caps:List AV} (hF:F≠yid) (hcaps:caps.map AV.strip=caps) {M:List (Nat×Nat×Ent)}
  (v:Nat->Nat) (hv:∀i,v i < 2^128) (hcall:∀i,i < l.length->Go.Ab.Loc Pg Gl (D+1) F (.int .i64 i::caps) M (encT (v i)) []) (S:Nat->Nat->Ent) (hM:∀m∈M,m.1 < D/\S m.1 m.2.1=m.2.2)
  (hA:S d0 A=EA d0 A gA f nx e) (hB:S d0 B=(SB d0 A gA B gB l bo).2.2):∀(j i:Nat) (acc:List AV) (tp:Tip) (τ ω) (r:AV),i+j=l.length->acc.length<=i->(tp= .tip\/(acc= []/\tp= .nil))->
  τ 0= .ptr d0 B gB 0->τ 1= .fn F caps->τ 5= .sl 1 acc tp->τ 11= .int .i64 l.length->τ 12= .int .i64 i->r= .sl 1 (acc++(List.range' i j).map fun i=>nJ nx.length (v i)) .no->
  Rd (Loc Pg Gl) .im (RetS [.tmp 4] r D S []) [.lp c48_l0,.blk 0,.c zKK] (stF 33 D τ ω S):=by
 have hne:¬d0=D:=by omega
 intro j
 induction j with
 | zero=>
  intro i acc tp τ ω r hi ha htp t0 t1 t5 t11 t12 hr;refine zN c48_l0.eq_1 ?_;obtain rfl:i=l.length:=by omega
  simp at hr;rcases htp with rfl | ⟨rfl,rfl⟩<;>simp[t0,t1,t5,t11,t12,zKK,hr,upds]
 | succ j ih=>
  intro i acc tp τ ω r hi ha htp t0 t1 t5 t11 t12 hr;refine zN c48_l0.eq_1 ?_;have hlt:i < l.length:=by omega
  have hwr:IntKind.i64.wrap ((i:Int)+1)=((i+1:Nat):Int):=by rw[<-zL (n:=i+1) (by omega)];rfl
  have hle:(acc.length+1)*24<=1099511627776:=by omega
  rw[List.range'_succ,yOI] at hr;have hMM:∀m∈M,m.1<=D/\(m.1=D->m.2.1 < 33)/\S m.1 m.2.1=m.2.2:=fun m hm=>⟨yOE (hM m hm).1,fun e=>absurd e (Nat.ne_of_lt (hM m hm).1),(hM m hm).2⟩;rcases htp with rfl | ⟨rfl,rfl⟩
  ·simp[t0,t1,t5,t11,t12,hlt];refine z9 (cap:=caps) (hcall i hlt) (by simp) (by simp[hcaps]) ?_ (by simp) ?_ hF
   ·intro m' hm;have h1:=hM m' hm;simp[show¬m'.1=D by omega,show m'.1<=D by omega,h1.2]
   have h106:=zHO (D+1) (v i) nx.length (hv i) hn;have hes:(encT (v i)).dem.strip=encT (v i):=rfl;simp[hne,t0,hA,hB,tM];refine zW h106 (by simp[hes]) ?_;simp[hle,t12,hwr,hne];refine ih (i+1) (acc++[nJ nx.length (v i)]) .tip _ _ r (by omega) (by simp;omega) (.inl rfl) ?_ ?_ ?_ ?_ ?_ (by rw[hr];simp);all_goals simp[t0,t1,t11,nJ]
  ·simp[t0,t1,t5,t11,t12,hlt];refine z9 (cap:=caps) (hcall i hlt) (by simp) (by simp[hcaps]) ?_ (by simp) ?_ hF
   ·intro m' hm;have h1:=hM m' hm;simp[show¬m'.1=D by omega,show m'.1<=D by omega,h1.2]
   have h106:=zHO (D+1) (v i) nx.length (hv i) hn;have hes:(encT (v i)).dem.strip=encT (v i):=rfl;simp[hne,t0,hA,hB,tM];refine zW h106 (by simp[hes]) ?_;simp[t12,hwr,hne];refine ih (i+1) ([]++[nJ nx.length (v i)]) .tip _ _ r (by omega) (by simp) (.inl rfl) ?_ ?_ ?_ ?_ ?_ (by rw[hr];simp);all_goals simp[t0,t1,t11,nJ]
theorem yAY {d0 A gA B gB:Nat} {f:Fu} {nx:List Va} {l:List Eqn} {bo:AV} {e:Nat->Nat} {D:Nat} (hD:d0 < D) (hn:nx.length<=128) (hl:l.length<=4) {F:FuncId} {caps:List AV} (hF:F≠yid) (hcaps:caps.map AV.strip=caps) {M:List (Nat×Nat×Ent)}
  (v:Nat->Nat) (hv:∀i,v i < 2^128) (hcall:∀i,i < l.length->Go.Ab.Loc Pg Gl (D+1) F (.int .i64 i::caps) M (encT (v i)) []) (hMA:Mm d0 A gA f nx (e4 e)∈M) (hMB:SB d0 A gA B gB l bo∈M):
  Go.Ab.Loc Pg Gl D 48 [.ptr d0 B gB 0,.fn F caps] M (.sl 1 ((yOK l.length).map fun i=>nJ nx.length (v i)) .no) []:=by
 refine fD zF tok rfl rfl fun S hS=> ?_;have hne:¬d0=D:=by omega
 have hA:=(hS _ hMA).2;have hB:=(hS _ hMB).2;simp only at hA hB;generalize hr:AV.sl 1 ((yOK l.length).map fun i=>nJ nx.length (v i)) .no=r;unfold c48;simp[hne,hB];refine m48 (e:=e) hD hn hl hF hcaps v hv hcall S hS hA hB l.length 0 [] .tip _ _ r (by omega) (by simp) (.inl rfl) ?_ ?_ ?_ ?_ ?_ (by rw[<-hr,List.range_eq_range'];simp);all_goals simp
end Go.Ab.Tab
/- The law's guards: looked,fault; the program's given. -/
namespace Go.Ab.Tab
open Go Go.Ab
theorem oG {s:Sy} (h:isY s=true):zH s.f=true:=by
 unfold isY at h;simp only[yOB] at h;exact wV h.1
def fitY (s:Sy):Prop:=fitF s.f/\s.m.length<=maxLen/\∀v∈s.m,fitV v
def zMY (n:Nat) (s:Sy) (l:List Eqn):Bool:=fewY 400 s&&((l.all fun x=>decide (zK x.body<=n))&&decide (l.length<=20))
theorem yBN (s:Sy) (hs:fitY s) (l:List Eqn) (hl:fitL l) (D n:Nat) (hn:n < 2^60):Go.Ab.Loc Pg Gl D 10 [encY s,encL l,.int .i64 n] [] (.bool (zMY n s l)) []:=by
 refine zP zF tok rfl rfl fun S=> ?_;unfold c10;have h16:=yBK s hs.1 hs.2.1 hs.2.2 (D+1) 400 (by omega);simp[encY,encL] at h16|-;refine zE h16 (by simp) ?_;unfold zMY;cases fewY 400 s
 ·simp
 ·simp;refine zE (yBF (D+1) n (by omega) l hl) (by simp[encL]) ?_;simp
def uX (s:Sy) (l:List Eqn):Int:=if isY s then (if isL s.f l then 0 else 90) else 30
theorem yBM (s:Sy) (hs:fitY s) (hb:zI s.m<=2^32) (l:List Eqn) (hl:fitL l) (D:Nat):Go.Ab.Loc Pg Gl D 11 [encY s,encL l] [] (.int .i64 (uX s l)) []:=by
 refine zP zF tok rfl rfl fun S=> ?_;unfold c11 uX;have h18:=yBJ s hs.1 hs.2.1 hs.2.2 hb (D+1);simp[encY,encL] at h18|-;refine zE h18 (by simp) ?_;cases hy:isY s
 ·simp
 ·simp;have hsh:zH s.f=true:=oG hy;refine zE (zGS (D+1) s.f hsh l hl) (by simp[encL,zB s.f]) ?_;cases isL s.f l<;>simp
theorem yBB (s:Sy) (hs:fitY s) (hb:zI s.m<=2^32) (l:List Eqn) (hl:fitL l) (D:Nat):Go.Ab.Loc Pg Gl D 45 [encY s,encL l] [] (.int .i64 (uX s l)) []:=by
 refine zP zF tok rfl rfl fun S=> ?_;unfold c45 uX;have h18:=zHP s hs.1 hs.2.1 hs.2.2 hb (D+1);simp[encY,encL] at h18|-;refine zE h18 (by simp) ?_;cases hy:isY s
 ·simp
 ·simp;have hsh:zH s.f=true:=oG hy;refine zE (zGO (D+1) s.f hsh l hl) (by simp[encL,zB s.f]) ?_;cases isL s.f l<;>simp
end Go.Ab.Tab
/- Solve. -/
namespace Go.Ab.Tab
open Go Go.Ab
theorem zCD {f:Fu} {l:List Eqn} (h:isL f l=true):1<=l.length/\l.length<=4/\eqOk f l.length l:=by
 unfold isL at h;simp only[yOB,yRP,yOJ] at h;refine ⟨h.1.1.1,h.1.1.2,fun x hx=> ?_⟩;have:=h.1.2 x hx;unfold okE at this;simp only[yOB] at this;exact this.1.2
theorem zCB {s:Sy} (h:isY s=true):zH s.f=true/\s.m.length<=100/\∀v∈s.m,valN s.m.length v s.f=true/\zJ v<=2000:=by
 refine ⟨oG h,?_⟩;unfold isY at h;simp only[yOB,yRP,yOJ] at h;refine ⟨h.2.1,fun v hv=> ?_⟩;have:=h.2.2.1 v hv;unfold valV at this;simp only[yOB,yRP] at this;exact ⟨this.2.1,this.1⟩
def solS (s:Sy) (l:List Eqn):Nat->Nat:=sol s.m l 0 (vI s.m.length l l.length)
theorem rT (s:Sy) (l:List Eqn) (j:Nat):yR s.m (vI s.m.length l j):=fun i=>by
 unfold vI;split
 ·exact Go.Ab.Tab.start_sub _ _
 ·exact sub_zero _
theorem zMI {s:Sy} {l:List Eqn} (hy:isY s=true) (hl:isL s.f l=true):yR s.m (solS s l):=by
 obtain ⟨y1,y2,y3⟩:=zCB hy;obtain ⟨_,_,l3⟩:=zCD hl;exact (uC y1 (fun v hv=>(y3 v hv).1) l 0 l3).1 _ (rT s l _)
def solR (s:Sy) (l:List Eqn):AV:=if uX s l=0 then .tup [.sl 1 ((yOK l.length).map fun i=>nJ s.m.length (solS s l i)) .no,.int .i64 0] else .tup [.sl 1 [] .no,.int .i64 (uX s l)]
theorem zHG (s:Sy) (hs:fitY s) (hb:zI s.m<=2^32) (l:List Eqn) (hl:fitL l) (D:Nat):Go.Ab.Loc Pg Gl D 13 [encY s,encL l] [] (solR s l) []:=by
 refine yH zF tok rfl rfl fun S hS=> ?_;have h45:=yBB s hs hb l hl (D+1);unfold c13;unfold solR;by_cases hf:uX s l=0
 ·rw[yRO hf];obtain ⟨hy,hll⟩:isY s=true/\isL s.f l=true:=by
   unfold uX at hf;cases h1:isY s<;>cases h2:isL s.f l<;>simp[h1,h2] at hf|-
  obtain ⟨y1,y2,y3⟩:=zCB hy;obtain ⟨l1,l2,l3⟩:=zCD hll;have hn:s.m.length<=128:=by omega
  have hnx:∀v∈s.m,valN s.m.length v s.f=true:=fun v hv=>(y3 v hv).1;rw[hf] at h45;obtain ⟨cs,hcs,hcl,h46⟩:=yBA (d0:=D) (A:=10) (B:=11) (Cc:=12) (gA:=0) (gB:=0) (gC:=0) (by decide) (by decide) (by decide) (D:=D+1) (by omega) .dead .dead .dead s hn l (by omega) l2
   (fun x hx=>((zNX y1 hn y3 l.length (by omega) x.body).1 false (l3 x hx)))
  have h47:=yAZ (d0:=D) (A:=10) (gA:=1) (B:=11) (gB:=1) (Cc:=12) (gC:=0+l.length) (f:=s.f) (nx:=s.m) (l:=l) (cs:=cs) (by decide) (by decide) l2 hn y1 hnx l3 hcs hcl l.length 0 (by omega) (D+1) (vI s.m.length l l.length) (by omega) (rT s l _)
   (dQ y1 hnx l 0 _ l3 (rT s l _) fun j hj=>by rw[vI,dif_pos ⟨by omega,by omega⟩];simp)
  have h48:=yAY (d0:=D) (A:=10) (gA:=1) (B:=11) (gB:=1) (f:=s.f) (nx:=s.m) (l:=l) (bo:= .own D 12 (0+l.length) 0 l.length 1 false) (e:=solS s l) (D:=D+1) (by omega) hn l2 (F:=49) (caps:=[.ptr D 7 1 0]) (by decide) rfl
   (M:=[(D,7,(1,.cells [.ptr D 11 1 0])),Mm D 10 1 s.f s.m (e4 (solS s l)),SB D 10 1 11 1 l (.own D 12 (0+l.length) 0 l.length 1 false)]) (solS s l) (fun i=>yOP (zGK (zMI hy hll i)) (nV hn)) (fun i hi=>yAX (D+1+1) D 10 1 11 1 7 1 (by omega) s.f s.m l _ (solS s l) i (by omega)) (by simp) (by simp)
  simp[encY,encL] at h45 h46|-;refine zE h45 (by simp) ?_;simp;refine zR h46 (by simp) (by simp) (by simp) ?_;simp;refine zR h47 (by simp) (by simp) (by simp) ?_;simp;refine zR h48 (by simp) (by simp[solS]) (by simp) ?_;simp[upds]
 ·rw[yRN hf];simp[encY,encL] at h45|-;refine zE h45 (by simp) ?_;have:decide (uX s l=0)=false:=decide_eq_false hf;simp[this,upds]
end Go.Ab.Tab
