/- Formulas and equations: the data; the reference's Few and Size. -/
import Derived.Test.YtkjbakmlonpdjaaGreatDoorRoundsE
import Derived.Test.YtkjbakmlonpdjaaGreatDoorRoundsB5
open Bool renaming and_eq_true->yOB, false_and->yOD, not_eq_true->yOE, true_and->yOF, and_assoc->yON, false_or->yOT, false_eq_true->yPI
open Int renaming natCast_emod->yOQ, natCast_pow->yOX, natCast_ediv->yOY, add_assoc->yOZ
open List renaming mem_cons_self->yOC, mem_cons->yOH, drop_eq_getElem_cons->yOI, mem_cons_of_mem->yOJ, drop_length->yOK, getElem_mem->yOL, all_eq_true->yOM, all_cons->yOR, eq_nil_of_length_eq_zero->yOS, getD_cons_zero->yPA, length_cons->yPB, map_cons->yPC, sum_cons->yPD, replicate->yPG, not_mem_nil->yPH, getElem_of_mem->yPO, getD_cons_succ->yPP
open Nat renaming le_refl->yOG, eq_of_testBit_eq->yOO, pow_lt_pow_right->yOP, testBit_or->yOU, testBit_mod_two_pow->yOV, testBit_div_two_pow->yOW, or_zero->yPE, testBit_two_pow->yPF, testBit_and->yPJ, testBit_xor->yPK, div_add_mod->yPL, or_lt_two_pow->yPM, min_eq_left->yPN, and_lt_two_pow->yPQ
set_option linter.unusedVariables false
set_option linter.unusedSimpArgs false
set_option maxRecDepth 10000
namespace Go.Ab.Tab
open Go Go.Ab
inductive Fm where
 | mk (o n m:Int) (ar:List Fm)
def Fm.o:Fm->Int | .mk o _ _ _=>o
def Fm.n:Fm->Int | .mk _ n _ _=>n
def Fm.m:Fm->Int | .mk _ _ m _=>m
def Fm.ar:Fm->List Fm | .mk _ _ _ a=>a
theorem Fm.eta (f:Fm):f= .mk f.o f.n f.m f.ar:=by cases f;rfl
mutual
theorem Fm.ind' {P:Fm->Prop} (h:∀o n m ar,(∀a∈ar,P a)->P (.mk o n m ar)):∀f,P f
 | .mk o n m ar=>h o n m ar (Fm.inds h ar)
theorem Fm.inds {P:Fm->Prop} (h:∀o n m ar,(∀a∈ar,P a)->P (.mk o n m ar)):∀(l:List Fm),∀a∈l,P a
 | [],_,ha=>by cases ha
 | b::l,a,ha=>by
  rcases yOH.1 ha with e | ha
  ·rw[e];exact Fm.ind' h b
  ·exact Fm.inds h l a ha
end
mutual
def encM:Fm->AV
 | .mk o n m ar=> .agg [.int .i64 o,.int .i64 n,.int .i64 m,.sl 4 (zNP ar) .no]
def zNP:List Fm->List AV
 | []=>[]
 | f::l=>encM f::zNP l
end
theorem zDA:∀l,zNP l=l.map encM
 | []=>rfl
 | f::l=>by rw[zNP,zDA l];rfl
theorem zG (o n m ar):encM (.mk o n m ar)= .agg [.int .i64 o,.int .i64 n,.int .i64 m,.sl 4 (ar.map encM) .no]:=by rw[encM,zDA]
theorem zA (f:Fm):encM f= .agg [.int .i64 f.o,.int .i64 f.n,.int .i64 f.m,.sl 4 (f.ar.map encM) .no]:=by
 have hx:=zG f.o f.n f.m f.ar;rwa [<-Fm.eta] at hx
mutual
def zK:Fm->Nat
 | .mk _ _ _ ar=>1+zO ar
def zO:List Fm->Nat
 | []=>0
 | f::l=>zK f+zO l
end
mutual
def y5:Fm->Nat
 | .mk _ _ _ ar=>1+xS ar
def xS:List Fm->Nat
 | []=>0
 | f::l=>max (y5 f) (xS l)
end
theorem iT (f:Fm):1<=zK f:=by cases f;rw[zK];omega
theorem rW:∀{l:List Fm} {a:Fm},a∈l->zK a<=zO l
 | [],a,h=>by cases h
 | b::l,a,h=>by
  rw[zO];rcases yOH.1 h with e | h
  ·rw[e];omega
  ·have:=rW h;omega
theorem vN:∀(l:List Fm),l.length<=zO l
 | []=>by simp
 | b::l=>by rw[zO,yPB];have:=vN l;have:=iT b;omega
theorem zJR:(∀f,y5 f<=zK f):=by
 refine Fm.ind' fun o n m gs h=> ?_;rw[y5,zK];have:xS gs<=zO gs:=by
  induction gs with
  | nil=>simp[xS,zO]
  | cons a l ih=>
   rw[xS,zO];have h1:=h a (by simp);have h2:=ih fun b hb=>h b (by simp[hb]);omega
 omega
mutual
def fitM:Fm->Prop
 | .mk _ _ _ ar=>ar.length<=maxLen/\iC ar
def iC:List Fm->Prop
 | []=>True
 | f::l=>fitM f/\iC l
end
theorem rJ:∀{l:List Fm},iC l->∀a∈l,fitM a
 | [],_,a,ha=>by cases ha
 | b::l,h,a,ha=>by
  rw[iC] at h;rcases yOH.1 ha with e | ha
  ·rw[e];exact h.1
  ·exact rJ h.2 a ha
theorem l53 (D:Nat) (gs:List Fm) (hlen:gs.length<=maxLen) (hrec:∀a∈gs,∀(D m:Nat),1<=m->m < 2^62->Go.Ab.Loc Pg Gl D 53 [encM a,.int .i64 m] [] (.int .i64 ((m - zK a:Nat):Int)) []) (S):∀(j i m:Nat) (τ ω) (r:AV),i+j=gs.length->m < 2^62->
  τ 1= .int .i64 m->τ 10= .sl 4 (gs.map encM) .no->τ 11= .int .i64 gs.length->τ 12= .int .i64 i->r= .int .i64 ((m - zO (gs.drop i):Nat):Int)->
  Rd (Loc Pg Gl) .im (RetQ [.tmp 4] r S) [.lp c53_l0,.blk 0,.c zKI] (stF 24 D τ ω S):=by
 intro j
 induction j with
 | zero=>
  intro i m τ ω r hi hm h1 h10 h11 h12 hr;refine zN c53_l0.eq_1 ?_;obtain rfl:i=gs.length:=by omega
  rw[yOK,zO] at hr;have hmx:¬(m:Int) < 0:=by omega
  simp[h1,h10,h11,h12,zKI,opf];simp[hr]
 | succ j ih=>
  intro i m τ ω r hi hm h1 h10 h11 h12 hr;refine zN c53_l0.eq_1 ?_;have hlt:i < gs.length:=by omega
  have hwr:=yA hlt hlen;have hd:gs.drop i=gs[i]::gs.drop (i+1):=yOI hlt;rw[hd,zO] at hr;by_cases h0:0 < m
  ·have h0':m≠0:=by omega
   simp[h1,h10,h11,h12,hlt,zA gs[i],h0'];refine zE (hrec gs[i] (yOL hlt) _ m h0 hm) (by simp[zA gs[i],h1]) ?_;simp[h1,h10,h11,h12,hwr];refine ih (i+1) (m - zK gs[i]) _ _ r (by omega) (by omega) ?_ ?_ ?_ ?_ (by rw[hr];congr 2;omega);all_goals simp[h1,h10,h11]
  ·have e0:m=0:=by omega
   subst e0;simp[h1,h10,h11,h12,hlt,zA gs[i],opf];simp[hr]
theorem yAV:∀(f:Fm),fitM f->∀(D m:Nat),1<=m->m < 2^62->Go.Ab.Loc Pg Gl D 53 [encM f,.int .i64 m] [] (.int .i64 ((m - zK f:Nat):Int)) []:=by
 refine Fm.ind' fun o n m' gs hrec=> ?_;intro hfit D m hm hm2;rw[fitM] at hfit;refine zP zF tok rfl rfl fun S=> ?_;unfold c53;generalize hr:AV.int .i64 ((m - zK (.mk o n m' gs):Nat):Int)=r;have hw:IntKind.i64.wrap ((m:Int) - 1)=((m - 1:Nat):Int):=by rw[<-zL (n:=m - 1) (by omega)];congr 1;omega
 rw[zG];simp[hw];refine l53 D gs hfit.1 (fun a ha D m=>hrec a ha (rJ hfit.2 a ha) D m) S gs.length 0 (m - 1) _ _ r (by simp) (by omega) ?_ ?_ ?_ ?_ (by rw[<-hr,zK];congr 2;simp;omega);all_goals simp
theorem zPS (f:Fm) (hf:fitM f) (D m:Nat) (hm:m < 2^61):Go.Ab.Loc Pg Gl D 17 [encM f,.int .i64 m] [] (.bool (decide (zK f<=m))) []:=by
 refine zP zF tok rfl rfl fun S=> ?_;unfold c17;generalize hr:AV.bool (decide (zK f<=m))=r;have hw:IntKind.i64.wrap ((m:Int)+1)=((m+1:Nat):Int):=by rw[<-zL (n:=m+1) (by omega)];rfl
 rw[zA];simp[hw];refine zE (yAV f hf _ (m+1) (by omega) (by omega)) (by simp[zA f]) ?_;simp;rw[<-hr];congr 1;exact decide_eq_decide.2 (by omega)
theorem l56 (D:Nat) (gs:List Fm) (hlen:gs.length < 2^62) (hrec:∀a∈gs,∀(D:Nat),Go.Ab.Loc Pg Gl D 56 [encM a] [] (.tup [.int .i64 (zK a),.int .i64 (y5 a)]) []) (S):∀(j i m d:Nat) (τ ω) (r:AV),i+j=gs.length->m+zO (gs.drop i) < 2^62->d<=m->
  τ 2= .int .i64 m->τ 3= .int .i64 d->τ 9= .sl 4 (gs.map encM) .no->τ 10= .int .i64 gs.length->τ 11= .int .i64 i->r= .tup [.int .i64 ((m+zO (gs.drop i):Nat):Int),.int .i64 ((max d (xS (gs.drop i))+1:Nat):Int)]->
  Rd (Loc Pg Gl) .im (RetQ [.tmp 2,.tmp 3] r S) [.lp c56_l0,.blk 0,.c zKH] (stF 30 D τ ω S):=by
 intro j
 induction j with
 | zero=>
  intro i m d τ ω r hi hm hd h2 h3 h9 h10 h11 hr;refine zN c56_l0.eq_1 ?_;obtain rfl:i=gs.length:=by omega
  rw[yOK] at hr hm;have hw:IntKind.i64.wrap ((d:Int)+1)=((d+1:Nat):Int):=by rw[<-zL (n:=d+1) (by omega)];rfl
  simp[h2,h3,h9,h10,h11,zKH,hw];simp[hr,zO,xS]
 | succ j ih=>
  intro i m d τ ω r hi hm hd h2 h3 h9 h10 h11 hr;refine zN c56_l0.eq_1 ?_;have hlt:i < gs.length:=by omega
  have e:gs.drop i=gs[i]::gs.drop (i+1):=yOI hlt;rw[e,zO] at hr hm;rw[xS] at hr;have hln:=vN (gs.drop (i+1));rw[List.length_drop] at hln;have hp:=iT gs[i];have hdp:=zJR gs[i];have hwr:IntKind.i64.wrap ((m:Int)+(zK gs[i]:Int))=((m+zK gs[i]:Nat):Int):=by rw[<-zL (n:=m+zK gs[i]) (by omega)];rfl
  have hwi:IntKind.i64.wrap ((i:Int)+1)=((i+1:Nat):Int):=by rw[<-zL (n:=i+1) (by omega)];rfl
  simp[h2,h3,h9,h10,h11,hlt,zA gs[i]];refine zE (hrec gs[i] (yOL hlt) _) (by simp[zA gs[i]]) ?_;simp[h2,h3,h9,h10,h11,hwr,hwi];refine ih (i+1) (m+zK gs[i]) (max d (y5 gs[i])) _ _ r (by omega) (by omega) (by omega) ?_ ?_ ?_ ?_ ?_ ?_
  case refine_2=>simp;split<;>omega
  case refine_6=>rw[hr];congr 4<;>omega
  all_goals simp[h2,h3,h9,h10,h11]
theorem yAT:∀(f:Fm),fitM f->zK f < 2^62->∀(D:Nat),Go.Ab.Loc Pg Gl D 56 [encM f] [] (.tup [.int .i64 (zK f),.int .i64 (y5 f)]) []:=by
 refine Fm.ind' fun o n m gs hrec=> ?_;intro hfit hnod D;rw[fitM] at hfit;rw[zK] at hnod;refine zP zF tok rfl rfl fun S=> ?_;unfold c56;generalize hr:AV.tup [.int .i64 (zK (.mk o n m gs)),.int .i64 (y5 (.mk o n m gs))]=r;rw[zG];simp;refine l56 D gs (by have:=vN gs;omega) (fun a ha D=>hrec a ha (rJ hfit.2 a ha) (by have:=rW ha;omega) D) S gs.length 0 1 0 _ _ r (by simp) (by simpa using hnod) (by omega) ?_ ?_ ?_ ?_ ?_ (by rw[<-hr,zK,y5];simp;omega);all_goals simp
structure Eqn where
 gr:Bool
 body:Fm
def encE (x:Eqn):AV:= .agg [.bool x.gr,.int .i64 x.body.o,.int .i64 x.body.n,.int .i64 x.body.m,.sl 4 (x.body.ar.map encM) .no]
def encL (l:List Eqn):AV:= .sl 5 (l.map encE) .no
def fitL (l:List Eqn):Prop:=l.length<=maxLen/\∀x∈l,fitM x.body
theorem l38 (D m:Nat) (hm:m < 2^61) (l:List Eqn) (hl:fitL l) (S):∀(j i:Nat) (τ ω) (r:AV),i+j=l.length->
  τ 0=encL l->τ 1= .int .i64 m->τ 7=encL l->τ 8= .int .i64 l.length->τ 9= .int .i64 i->r= .bool (((l.drop i).all fun x=>decide (zK x.body<=m))&&decide (l.length<=20))->
  Rd (Loc Pg Gl) .im (RetQ [.tmp 4] r S) [.lp c38_l0,.blk 0,.c zKO] (stF 22 D τ ω S):=by
 intro j
 induction j with
 | zero=>
  intro i τ ω r hi h0 h1 h7 h8 h9 hr;refine zN c38_l0.eq_1 ?_;obtain rfl:i=l.length:=by omega
  rw[yOK] at hr;simp[h0,h1,h7,h8,h9,encL,zKO];rw[hr];simp;omega
 | succ j ih=>
  intro i τ ω r hi h0 h1 h7 h8 h9 hr;refine zN c38_l0.eq_1 ?_;have hlt:i < l.length:=by omega
  have hwr:=yA hlt hl.1;have e:l.drop i=l[i]::l.drop (i+1):=yOI hlt;rw[e,yOR] at hr;simp[h0,h1,h7,h8,h9,encL,hlt,encE];refine zE (zPS l[i].body (hl.2 _ (yOL hlt)) _ m hm) (by simp[zA,h1]) ?_;by_cases hn:zK l[i].body<=m
  ·rw[decide_eq_true hn,yOF] at hr;simp[h0,h1,h7,h8,h9,hn,hwr];refine ih (i+1) _ _ r (by omega) ?_ ?_ ?_ ?_ ?_ hr;all_goals simp[h0,h1,h7,h8,encL]
  ·rw[decide_eq_false hn,yOD,yOD] at hr;simp[h0,h1,h7,h8,h9,hn,hr]
theorem yBF (D m:Nat) (hm:m < 2^61) (l:List Eqn) (hl:fitL l):Go.Ab.Loc Pg Gl D 38 [encL l,.int .i64 m] [] (.bool ((l.all fun x=>decide (zK x.body<=m))&&decide (l.length<=20))) []:=by
 refine zP zF tok rfl rfl fun S=> ?_;unfold c38;generalize hr:AV.bool _=r;simp[encL];refine l38 D m hm l hl S l.length 0 _ _ r (by simp) ?_ ?_ ?_ ?_ ?_ (by rw[<-hr];simp);all_goals simp[encL]
end Go.Ab.Tab
/- When formulas with variables are valid: the reference's checker. -/
namespace Go.Ab.Tab
open Go Go.Ab
def inF (g:Fu) (o:Int):Fu:=
 if (g.k=2/\o=6)\/(g.k=3/\o=8) then g.gs.getD 0 (.mk 0 0 []) else if (g.k=2/\o=7)\/(g.k=3/\o=9) then g.gs.getD 1 (.mk 0 0 [])
 else if (g.k=4/\o=10)\/(g.k=5/\o=11)\/(g.k=6/\o=12)\/(g.k=7/\o=13) then g.gs.getD 0 (.mk 0 0 []) else .mk 0 0 []
def inOk (g:Fu) (o n m:Int):Bool:=
 if (g.k=2/\o=6)\/(g.k=3/\o=8)\/(g.k=2/\o=7)\/(g.k=3/\o=9)\/(g.k=5/\o=11) then decide (n=0/\m=0)
 else if g.k=4/\o=10 then decide (0<=n/\n < g.n/\m=0)
 else if g.k=6/\o=12 then decide (1<=n/\n<=1048576/\m=0)
 else if g.k=7/\o=13 then decide (1<=m/\m<=1048576/\1<=n/\n<=m)
 else false
mutual
def valM (f:Fu) (vars:Int):Option Fu->Bool->Fm->Bool
 | md,odd,.mk o n m ar=>
  if o=0 then ar.isEmpty&&decide (n=0)&&decide (m=0)
  else if o=1 then decide (n=0)&&decide (m=0)&&decide (ar.length=1)&&y6 f vars md (!odd) ar
  else if o=2 then decide (n=0)&&decide (m=0)&&decide (ar.length=2)&&y6 f vars md odd ar
  else match md with
   | none=>
    if o=3 then decide (n=0)&&decide (m=0)&&decide (ar.length=1)&&y6 f vars (some f) odd ar
    else if o=14 then ar.isEmpty&&decide (m=0)&&decide (0<=n)&&decide (n < vars)&& !odd
    else false
   | some g=>
    if g.k=0 then decide (o=4)&&decide (n=0)&&decide (m=0)&&decide (ar.length=1)&&y6 f vars none odd ar
    else if g.k=1 then decide (o=5)&&decide (0<=n)&&decide (n < g.n)&&decide (m=0)&&ar.isEmpty
    else inOk g o n m&&decide (ar.length=1)&&y6 f vars (some (inF g o)) odd ar
def y6 (f:Fu) (vars:Int):Option Fu->Bool->List Fm->Bool
 | _,_,[]=>true
 | md,odd,a::l=>valM f vars md odd a&&y6 f vars md odd l
end
theorem wZ (f vars md odd):∀l,y6 f vars md odd l=l.all (valM f vars md odd)
 | []=>by rw[y6];rfl
 | a::l=>by rw[y6,wZ f vars md odd l];rfl
theorem y9 (f vars md odd o n m ar):valM f vars md odd (.mk o n m ar)=if o=0 then ar.isEmpty&&decide (n=0)&&decide (m=0)
  else if o=1 then decide (n=0)&&decide (m=0)&&decide (ar.length=1)&&y6 f vars md (!odd) ar
  else if o=2 then decide (n=0)&&decide (m=0)&&decide (ar.length=2)&&y6 f vars md odd ar
  else match md with
   | none=>
    if o=3 then decide (n=0)&&decide (m=0)&&decide (ar.length=1)&&y6 f vars (some f) odd ar
    else if o=14 then ar.isEmpty&&decide (m=0)&&decide (0<=n)&&decide (n < vars)&& !odd
    else false
   | some g=>
    if g.k=0 then decide (o=4)&&decide (n=0)&&decide (m=0)&&decide (ar.length=1)&&y6 f vars none odd ar
    else if g.k=1 then decide (o=5)&&decide (0<=n)&&decide (n < g.n)&&decide (m=0)&&ar.isEmpty
    else inOk g o n m&&decide (ar.length=1)&&y6 f vars (some (inF g o)) odd ar:=by
 rw[valM.eq_def]
def encC (f:Fu) (vars:Int):AV:= .agg [.int .i64 f.k,.int .i64 f.n,.sl 3 (f.gs.map encF) .no,.int .i64 vars]
theorem sR {k n:Int} {gs:List Fu} (hg:zH (.mk k n gs)=true) (hk:k=2\/k=3):∃x y,gs= [x,y]:=by
 rw[zH] at hg;have:arK k=2:=by rcases hk with rfl | rfl<;>rfl
 simp[this] at hg;rcases gs with _ | ⟨x,_ | ⟨y,_ | ⟨z,gs⟩⟩⟩<;>simp at hg
 ·exact ⟨x,y,rfl⟩
 ·omega
theorem uH {k n:Int} {gs:List Fu} (hg:zH (.mk k n gs)=true) (hk:k=4\/k=5\/k=6\/k=7):∃x,gs= [x]:=by
 rw[zH] at hg;have:arK k=1:=by rcases hk with rfl | rfl | rfl | rfl<;>rfl
 simp[this] at hg;rcases gs with _ | ⟨x,_ | ⟨y,gs⟩⟩<;>simp at hg
 ·exact ⟨x,rfl⟩
 ·omega
set_option maxHeartbeats 2000000 in
theorem zSL (D:Nat) (g:Fu) (hg:zH g=true) (a:Fm):Go.Ab.Loc Pg Gl D 140 [encF g,encM a] [] (.tup [encF (inF g a.o),.bool (inOk g a.o a.n a.m)]) []:=by
 refine zP zF tok rfl rfl fun S=> ?_;unfold c140;obtain ⟨k,gn,gs⟩:=g;obtain ⟨o,n,m,ar⟩:=a;generalize hr:AV.tup [encF (inF (.mk k gn gs) (Fm.mk o n m ar).o),.bool (inOk (.mk k gn gs) (Fm.mk o n m ar).o (Fm.mk o n m ar).n (Fm.mk o n m ar).m)]=r;simp only[Fm.o,Fm.n,Fm.m,inF,inOk,Fu.k,Fu.n,Fu.gs] at hr;rw[zU,zG];have he:encF (.mk 0 0 [])= .agg [.int .i64 0,.int .i64 0,.sl 3 [] .no]:=by rw[zU];rfl
 by_cases hk2:k=2
 ·subst hk2;obtain ⟨x,y,rfl⟩:=sR hg (by simp);by_cases ho6:o=6
  ·subst ho6;by_cases hn:n=0<;>by_cases hm:m=0<;>simp[hn,hm,zB x] at hr|-<;>exact hr
  by_cases ho7:o=7
  ·subst ho7;by_cases hn:n=0<;>by_cases hm:m=0<;>simp[hn,hm,zB y] at hr|-<;>exact hr
  simp[ho6,ho7,he] at hr|-;exact hr
 by_cases hk3:k=3
 ·subst hk3;obtain ⟨x,y,rfl⟩:=sR hg (by simp);by_cases ho8:o=8
  ·subst ho8;by_cases hn:n=0<;>by_cases hm:m=0<;>simp[hn,hm,zB x] at hr|-<;>exact hr
  by_cases ho9:o=9
  ·subst ho9;by_cases hn:n=0<;>by_cases hm:m=0<;>simp[hn,hm,zB y] at hr|-<;>exact hr
  simp[ho8,ho9,he] at hr|-;exact hr
 by_cases hk4:k=4
 ·subst hk4;obtain ⟨x,rfl⟩:=uH hg (by simp);by_cases ho:o=10
  ·subst ho;by_cases h0:0<=n<;>by_cases h1:n < gn<;>by_cases h2:m=0<;>simp[h0,h1,h2,zB x] at hr|-<;>exact hr
  simp[ho,he] at hr|-;exact hr
 by_cases hk5:k=5
 ·subst hk5;obtain ⟨x,rfl⟩:=uH hg (by simp);by_cases ho:o=11
  ·subst ho;by_cases h0:n=0<;>by_cases h1:m=0<;>simp[h0,h1,zB x] at hr|-<;>exact hr
  simp[ho,he] at hr|-;exact hr
 by_cases hk6:k=6
 ·subst hk6;obtain ⟨x,rfl⟩:=uH hg (by simp);by_cases ho:o=12
  ·subst ho;by_cases h0:1<=n<;>by_cases h1:n<=1048576<;>by_cases h2:m=0<;>simp[h0,h1,h2,zB x] at hr|-<;>exact hr
  simp[ho,he] at hr|-;exact hr
 by_cases hk7:k=7
 ·subst hk7;obtain ⟨x,rfl⟩:=uH hg (by simp);by_cases ho:o=13
  ·subst ho;by_cases h0:1<=m<;>by_cases h1:m<=1048576<;>by_cases h2:1<=n<;>by_cases h3:n<=m<;>simp[h0,h1,h2,h3,zB x] at hr|-<;>exact hr
  simp[ho,he] at hr|-;exact hr
 simp[hk2,hk3,hk4,hk5,hk6,hk7,he] at hr|-;exact hr
end Go.Ab.Tab
/- The reference's checker: both,state,value; Is. -/
namespace Go.Ab.Tab
open Go Go.Ab
def mdG:Option Fu->Fu
 | none=> .mk 0 0 []
 | some g=>g
theorem yLQ:encF (.mk 0 0 [])= .agg [.int .i64 0,.int .i64 0,.sl 3 [] .no]:=by rw[zU];rfl
def okMd:Option Fu->Prop
 | none=>True
 | some g=>zH g=true
def zAL (f:Fu) (vars:Int) (a:Fm):Prop:=∀(D:Nat) (odd:Bool),Go.Ab.Loc Pg Gl D 55 [encC f vars,encM a,.bool odd] [] (.bool (valM f vars none odd a)) []
def jU (f:Fu) (vars:Int) (a:Fm):Prop:=∀(D:Nat) (odd:Bool) (g:Fu),zH g=true->Go.Ab.Loc Pg Gl D 113 [encC f vars,encF g,encM a,.bool odd] [] (.bool (valM f vars (some g) odd a)) []
theorem l112 (D:Nat) (f:Fu) (vars:Int) (md:Option Fu) (hmd:okMd md) (odd:Bool) (l:List Fm) (hlen:l.length<=maxLen) (h1:∀a∈l,zAL f vars a) (h2:∀a∈l,jU f vars a) (S):∀(j i:Nat) (τ ω) (r:AV),i+j=l.length->
  τ 3= .bool md.isNone->τ 4= .bool odd->τ 5= .ptr D 5 1 0->τ 6= .ptr D 6 1 0->ω 5=(1,.cells [.int .i64 f.k,.int .i64 f.n,.sl 3 (f.gs.map encF) .no,.int .i64 vars])->ω 6=(1,.cells [.int .i64 (mdG md).k,.int .i64 (mdG md).n,.sl 3 ((mdG md).gs.map encF) .no])->
  τ 41= .sl 4 (l.map encM) .no->τ 42= .int .i64 l.length->τ 43= .int .i64 i->r= .tup [.bool true,.bool ((l.drop i).all (valM f vars md odd))]->
  Rd (Loc Pg Gl) .im (RetQ [.tmp 10,.tmp 11] r S) [.lp c112_l0,.blk 1,.c zAF] (stF 68 D τ ω S):=by
 intro j
 induction j with
 | zero=>
  intro i τ ω r hi h3 h4 h5 h6 w5 w6 h41 h42 h43 hr;refine zN c112_l0.eq_1 ?_;obtain rfl:i=l.length:=by omega
  rw[yOK] at hr;simp[h41,h42,h43,zAF,hr]
 | succ j ih=>
  intro i τ ω r hi h3 h4 h5 h6 w5 w6 h41 h42 h43 hr;refine zN c112_l0.eq_1 ?_;have hlt:i < l.length:=by omega
  have hwr:=yA hlt hlen;have e:l.drop i=l[i]::l.drop (i+1):=yOI hlt;rw[e,yOR] at hr;have hm:=yOL hlt;cases md with
  | none=>
   simp at h3;simp[h3,h4,h5,h6,w5,w6,h41,h42,h43,hlt,zA l[i]];refine zE (h1 _ hm _ odd) (by simp[encC,zA l[i],h4]) ?_;cases hb:valM f vars none odd l[i] with
   | false=>rw[hb,yOD] at hr;simp[h3,h4,h5,h6,hr]
   | true=>
    rw[hb,yOF] at hr;simp[h3,h4,h5,h6,h41,h42,h43,hwr];refine ih (i+1) _ _ r (by omega) ?_ ?_ ?_ ?_ ?_ ?_ ?_ ?_ ?_ hr;all_goals simp[h3,h4,h5,h6,w5,w6,h41,h42]
  | some g=>
   simp at h3;simp[h3,h4,h5,h6,w5,w6,h41,h42,h43,hlt,zA l[i]];refine zE (h2 _ hm _ odd g hmd) (by simp[encC,zA l[i],h4,mdG,zB g]) ?_;cases hb:valM f vars (some g) odd l[i] with
   | false=>rw[hb,yOD] at hr;simp[h3,h4,h5,h6,hr]
   | true=>
    rw[hb,yOF] at hr;simp[h3,h4,h5,h6,h41,h42,h43,hwr];refine ih (i+1) _ _ r (by omega) ?_ ?_ ?_ ?_ ?_ ?_ ?_ ?_ ?_ hr;all_goals simp[h3,h4,h5,h6,w5,w6,h41,h42,mdG]
def comM (o:Int):Bool:=decide (o=0\/o=1\/o=2)
theorem zHM (D:Nat) (f:Fu) (vars:Int) (md:Option Fu) (hmd:okMd md) (odd:Bool) (o n m:Int) (l:List Fm) (hlen:l.length<=maxLen) (h1:∀a∈l,zAL f vars a) (h2:∀a∈l,jU f vars a):
  Go.Ab.Loc Pg Gl D 112 [encC f vars,encF (mdG md),encM (.mk o n m l),.bool md.isNone,.bool odd] [] (.tup [.bool (comM o),.bool (comM o&&valM f vars md odd (.mk o n m l))]) []:=by
 refine zP zF tok rfl rfl fun S=> ?_;unfold c112;generalize hr:AV.tup [.bool (comM o),.bool (comM o&&valM f vars md odd (.mk o n m l))]=r;rw[y9] at hr;rw[zB (mdG md),zG,encC];by_cases h0:o=0
 ·subst h0;simp[comM] at hr;by_cases hl:l.length=0
  ·obtain rfl:=yOS hl;by_cases hn:n=0<;>by_cases hm:m=0<;>simp[hn,hm,pE] at hr|-<;>first | exact hr | skip
   refine l112 D f vars md hmd odd [] hlen h1 h2 S 0 0 _ _ r (by simp) ?_ ?_ ?_ ?_ ?_ ?_ ?_ ?_ ?_ (by simp[<-hr]);all_goals simp
  ·have hl':l≠[]:=fun e=>hl (by rw[e];rfl);have hl3:l.isEmpty=false:=by cases l<;>simp at hl'|-
   simp[hl,hl',hl3,pE] at hr|-;exact hr
 ·by_cases h1':o=1
  ·subst h1';simp[comM] at hr;by_cases hl:l.length=1
   ·by_cases hn:n=0<;>by_cases hm:m=0<;>simp[hn,hm,hl,pE] at hr|-<;>first | exact hr | skip
    refine l112 D f vars md hmd (!odd) l hlen h1 h2 S l.length 0 _ _ r (by simp) ?_ ?_ ?_ ?_ ?_ ?_ ?_ ?_ ?_ (by simp[<-hr,wZ]);all_goals simp[hl]
   ·have hl2:¬(l.length:Int)=1:=by omega
    simp[hl,hl2,pE] at hr|-;exact hr
  ·by_cases h2':o=2
   ·subst h2';simp[comM] at hr;by_cases hl:l.length=2
    ·by_cases hn:n=0<;>by_cases hm:m=0<;>simp[hn,hm,hl,pE] at hr|-<;>first | exact hr | skip
     refine l112 D f vars md hmd odd l hlen h1 h2 S l.length 0 _ _ r (by simp) ?_ ?_ ?_ ?_ ?_ ?_ ?_ ?_ ?_ (by simp[<-hr,wZ]);all_goals simp[hl]
    ·have hl2:¬(l.length:Int)=2:=by omega
     simp[hl,hl2,pE] at hr|-;exact hr
   ·simp[comM,h0,h1',h2'] at hr|-;exact hr
theorem xX (f vars md odd o n m ar) (h:comM o=false):valM f vars md odd (.mk o n m ar)=(match md with
   | none=>
    if o=3 then decide (n=0)&&decide (m=0)&&decide (ar.length=1)&&y6 f vars (some f) odd ar
    else if o=14 then ar.isEmpty&&decide (m=0)&&decide (0<=n)&&decide (n < vars)&& !odd
    else false
   | some g=>
    if g.k=0 then decide (o=4)&&decide (n=0)&&decide (m=0)&&decide (ar.length=1)&&y6 f vars none odd ar
    else if g.k=1 then decide (o=5)&&decide (0<=n)&&decide (n < g.n)&&decide (m=0)&&ar.isEmpty
    else inOk g o n m&&decide (ar.length=1)&&y6 f vars (some (inF g o)) odd ar):=by
 have h':o≠0/\o≠1/\o≠2:=by simp[comM] at h;exact h
 rw[y9,yRN h'.1,yRN h'.2.1,yRN h'.2.2];first | done | (cases md<;>rfl)
theorem zGR (f:Fu) (hf:zH f=true) (vars:Int) (o n m:Int) (l:List Fm) (hlen:l.length<=maxLen) (h1:∀a∈l,zAL f vars a) (h2:∀a∈l,jU f vars a):zAL f vars (.mk o n m l):=by
 intro D odd;refine zP zF tok rfl rfl fun S=> ?_;unfold c55;generalize hr:AV.bool (valM f vars none odd (.mk o n m l))=r;rw[zG,encC];simp;refine zE (zHM _ f vars none trivial odd o n m l hlen h1 h2) (by simp[encC,mdG,yLQ,zG]) ?_;cases hc:comM o with
 | true=>simp[<-hr]
 | false=>
  have h':o≠0/\o≠1/\o≠2:=by simp[comM] at hc;exact hc
  rw[xX _ _ _ _ _ _ _ _ hc] at hr;simp only at hr;by_cases h3:o=3
  ·subst h3;by_cases hl:l.length=1
   ·obtain ⟨b,rfl⟩:∃b,l= [b]:=by rcases l with _ | ⟨b,_ | ⟨c,l⟩⟩<;>simp at hl;exact ⟨b,rfl⟩
    by_cases hn:n=0<;>by_cases hm:m=0<;>simp[hn,hm,wZ] at hr|-<;>first | exact hr | skip
    simp[zA b];refine zW (h2 b (by simp) _ odd f hf) (by simp[encC,zB f,zA b]) ?_;simp[<-hr]
   ·have hl2:¬(l.length:Int)=1:=by omega
    by_cases hn:n=0<;>by_cases hm:m=0<;>simp[hn,hm,hl,hl2] at hr|-<;>exact hr
  ·by_cases h14:o=14
   ·subst h14;by_cases hl:l.length=0
    ·obtain rfl:=yOS hl;by_cases hm:m=0<;>by_cases hn:0<=n<;>by_cases hv:n < vars<;>simp[hn,hm,hv] at hr|-<;>exact hr
    ·have hl':l≠[]:=fun e=>hl (by rw[e];rfl);have hl3:l.isEmpty=false:=by cases l<;>simp at hl'|-
     simp[hl,hl',hl3] at hr|-;exact hr
   ·simp[h',h3,h14] at hr|-;exact hr
theorem tP {g:Fu} {o n m:Int} (hg:zH g=true) (hi:inOk g o n m=true):zH (inF g o)=true:=by
 have hg':=hg;rw[Fu.eta g] at hg;have hs:∀a∈g.gs,zH a=true:=by
  rw[zH] at hg;simp only[yOB] at hg;have:=hg.2.2.2;clear hg hg' hi;generalize g.gs=gs at this
  induction gs with
  | nil=>simp
  | cons b l ih=>
   rw[xI,yOB] at this;intro a ha;rcases yOH.1 ha with rfl | ha
   ·exact this.1
   ·exact ih this.2 a ha
 unfold inF;unfold inOk at hi;have two:g.k=2\/g.k=3->∀j,j < 2->zH (g.gs.getD j (.mk 0 0 []))=true:=by
  intro hk j hj;obtain ⟨x,y,e⟩:=sR hg hk;rw[e] at hs|-;rcases j with _ | _ | j
  ·exact hs x (by simp)
  ·exact hs y (by simp)
  ·omega
 have one:g.k=4\/g.k=5\/g.k=6\/g.k=7->zH (g.gs.getD 0 (.mk 0 0 []))=true:=by
  intro hk;obtain ⟨x,e⟩:=uH hg hk;rw[e] at hs|-;exact hs x (by simp)
 by_cases c1:g.k=2/\o=6\/g.k=3/\o=8
 ·rw[yRO c1];exact two (by omega) 0 (by omega)
 ·rw[yRN c1];by_cases c2:g.k=2/\o=7\/g.k=3/\o=9
  ·rw[yRO c2];exact two (by omega) 1 (by omega)
  ·rw[yRN c2];by_cases c3:g.k=4/\o=10\/g.k=5/\o=11\/g.k=6/\o=12\/g.k=7/\o=13
   ·rw[yRO c3];exact one (by omega)
   ·exfalso;rw[yRN (by omega),yRN (by omega),yRN (by omega),yRN (by omega)] at hi;cases hi
theorem zEA (f:Fu) (vars:Int) (o n m:Int) (l:List Fm) (hlen:l.length<=maxLen) (h1:∀a∈l,zAL f vars a) (h2:∀a∈l,jU f vars a):jU f vars (.mk o n m l):=by
 intro D odd g hg;refine zP zF tok rfl rfl fun S=> ?_;unfold c113;generalize hr:AV.bool (valM f vars (some g) odd (.mk o n m l))=r;rw[zG,encC,zB];simp;refine zE (zHM _ f vars (some g) hg odd o n m l hlen h1 h2) (by simp[encC,mdG,zB g,zG]) ?_;cases hc:comM o with
 | true=>simp[<-hr]
 | false=>
  have h':o≠0/\o≠1/\o≠2:=by simp[comM] at hc;exact hc
  rw[xX _ _ _ _ _ _ _ _ hc] at hr;simp only at hr;by_cases h0:g.k=0
  ·by_cases h4:o=4
   ·subst h4;by_cases hl:l.length=1
    ·obtain ⟨b,rfl⟩:∃b,l= [b]:=by rcases l with _ | ⟨b,_ | ⟨c,l⟩⟩<;>simp at hl;exact ⟨b,rfl⟩
     by_cases hn:n=0<;>by_cases hm:m=0<;>simp[h0,hn,hm,wZ] at hr|-<;>first | exact hr | skip
     simp[zA b];refine zW (h1 b (by simp) _ odd) (by simp[encC,zA b]) ?_;simp[<-hr]
    ·have hl2:¬(l.length:Int)=1:=by omega
     by_cases hn:n=0<;>by_cases hm:m=0<;>simp[h0,hn,hm,hl,hl2] at hr|-<;>exact hr
   ·simp[h0,h4] at hr|-;exact hr
  ·by_cases h1k:g.k=1
   ·by_cases h5:o=5
    ·subst h5;by_cases hl:l.length=0
     ·obtain rfl:=yOS hl;by_cases hm:m=0<;>by_cases hn:0<=n<;>by_cases hv:n < g.n<;>simp[h1k,hn,hm,hv] at hr|-<;>exact hr
     ·have hl':l≠[]:=fun e=>hl (by rw[e];rfl);have hl3:l.isEmpty=false:=by cases l<;>simp at hl'|-
      by_cases hm:m=0<;>by_cases hn:0<=n<;>by_cases hv:n < g.n<;>simp[h1k,hn,hm,hv,hl,hl',hl3] at hr|-<;>exact hr
    ·simp[h1k,h5] at hr|-;exact hr
   ·simp[h0,h1k] at hr|-;refine zE (zSL _ g hg (.mk o n m l)) (by simp[zB g,zG]) ?_;simp only[Fm.o,Fm.n,Fm.m];cases hi:inOk g o n m with
    | false=>rw[hi] at hr;simp[zB (inF g o)] at hr|-;exact hr
    | true=>
     rw[hi] at hr;by_cases hl:l.length=1
     ·obtain ⟨b,rfl⟩:∃b,l= [b]:=by rcases l with _ | ⟨b,_ | ⟨c,l⟩⟩<;>simp at hl;exact ⟨b,rfl⟩
      simp[zA b,zB (inF g o),wZ] at hr|-;have hsh:=tP hg hi;refine zW (h2 b (by simp) _ odd (inF g o) hsh) (by simp[encC,zA b,zB (inF g o)]) ?_;simp[<-hr]
     ·have hl2:¬(l.length:Int)=1:=by omega
      simp[hl,hl2,zB (inF g o)] at hr|-;exact hr
theorem zUZ (f:Fu) (hf:zH f=true) (vars:Int):∀a,fitM a->zAL f vars a/\jU f vars a:=by
 refine Fm.ind' fun o n m l hrec=> ?_;intro hfit;rw[fitM] at hfit;have h1:∀a∈l,zAL f vars a:=fun a ha=>(hrec a ha (rJ hfit.2 a ha)).1;have h2:∀a∈l,jU f vars a:=fun a ha=>(hrec a ha (rJ hfit.2 a ha)).2;exact ⟨zGR f hf vars o n m l hfit.1 h1 h2,zEA f vars o n m l hfit.1 h1 h2⟩
def okE (f:Fu) (vars:Int) (x:Eqn):Bool:=decide (zK x.body<=2000)&&valM f vars none false x.body&&decide (y5 x.body<=100)
def sumL (l:List Eqn):Nat:=(l.map fun x=>zK x.body).sum
def isL (f:Fu) (l:List Eqn):Bool:=decide (1<=l.length)&&decide (l.length<=4)&&l.all (okE f l.length)&&decide (sumL l<=2000)
theorem l36 (D:Nat) (f:Fu) (hf:zH f=true) (l:List Eqn) (hl:fitL l) (hl4:l.length<=4) (S):∀(j i s:Nat) (τ ω) (r:AV),i+j=l.length->s<=i*2000->
  τ 1=encL l->τ 2= .ptr D 2 1 0->ω 2=(1,.cells [.int .i64 f.k,.int .i64 f.n,.sl 3 (f.gs.map encF) .no])->τ 5= .int .i64 s->τ 18=encL l->τ 19= .int .i64 l.length->τ 20= .int .i64 i->r= .bool ((l.drop i).all (okE f l.length)&&decide (s+sumL (l.drop i)<=2000))->
  Rd (Loc Pg Gl) .im (RetQ [.tmp 4] r S) [.lp c36_l0,.blk 0,.c zKP] (stF 52 D τ ω S):=by
 intro j
 induction j with
 | zero=>
  intro i s τ ω r hi hs h1 h2 w2 h5 h18 h19 h20 hr;refine zN c36_l0.eq_1 ?_;obtain rfl:i=l.length:=by omega
  rw[yOK] at hr;simp[h1,h2,h5,h18,h19,h20,encL,zKP,hr,sumL];omega
 | succ j ih=>
  intro i s τ ω r hi hs h1 h2 w2 h5 h18 h19 h20 hr;refine zN c36_l0.eq_1 ?_;have hlt:i < l.length:=by omega
  have hwr:=yA hlt hl.1;have e:l.drop i=l[i]::l.drop (i+1):=yOI hlt;have hx:=hl.2 _ (yOL hlt);rw[e,yOR,okE,sumL,yPC,yPD] at hr;simp[h1,h2,w2,h5,h18,h19,h20,encL,hlt,encE];refine zE (zPS l[i].body hx _ 2000 (by omega)) (by simp[zA]) ?_;by_cases hn:zK l[i].body<=2000
  ·rw[decide_eq_true hn,yOF] at hr;simp[h1,h2,w2,h5,h18,h19,h20,hn];simp[encL];refine zE ((zUZ f hf l.length _ hx).1 _ false) (by simp[encC,zA]) ?_;cases hv:valM f l.length none false l[i].body with
   | false=>
    rw[hv,yOD,yOD,yOD] at hr;simp[hr]
   | true=>
    rw[hv,yOF] at hr;simp;refine zE (yAT _ hx (by omega) _) (by simp[zA]) ?_;have hw2:IntKind.i64.wrap ((s:Int)+(zK l[i].body:Int))=((s+zK l[i].body:Nat):Int):=by rw[<-zL (n:=s+zK l[i].body) (by omega)];rfl
    by_cases hd:y5 l[i].body<=100
    ·have hd':¬100 < (y5 l[i].body:Int):=by omega
     rw[decide_eq_true hd,yOF] at hr;simp[h1,h2,w2,h5,h18,h19,h20,hw2,hd',hwr];refine ih (i+1) (s+zK l[i].body) _ _ r (by omega) (by omega) ?_ ?_ ?_ ?_ ?_ ?_ ?_ (by rw[hr,sumL];congr 3;simp;omega);all_goals simp[h1,h2,w2,h18,h19]
    ·have hd':100 < (y5 l[i].body:Int):=by omega
     rw[decide_eq_false hd,yOD,yOD] at hr;simp[h5,hw2,hd',hr]
  ·rw[decide_eq_false hn,yOD,yOD,yOD,yOD] at hr;simp[h1,h2,w2,h5,h18,h19,h20,hn,hr]
theorem zGS (D:Nat) (f:Fu) (hf:zH f=true) (l:List Eqn) (hl:fitL l):Go.Ab.Loc Pg Gl D 36 [encF f,encL l] [] (.bool (isL f l)) []:=by
 refine zP zF tok rfl rfl fun S=> ?_;unfold c36;generalize hr:AV.bool (isL f l)=r;unfold isL at hr;rw[zB];by_cases h1:1<=l.length
 ·by_cases h4:l.length<=4
  ·have h1':¬(l.length:Int) < 1:=by omega
   have h4':¬4 < (l.length:Int):=by omega
   simp[encL,h1',h4'];refine l36 D f hf l hl h4 S l.length 0 0 _ _ r (by simp) (by simp) ?_ ?_ ?_ ?_ ?_ ?_ ?_ (by rw[<-hr];simp[h1,h4]);all_goals simp[encL]
  ·have h1':¬(l.length:Int) < 1:=by omega
   have h4':4 < (l.length:Int):=by omega
   simp[encL,h1',h4',<-hr,h4]
 ·have h1':(l.length:Int) < 1:=by omega
  simp[encL,h1',<-hr,h1]
end Go.Ab.Tab
/- The program's checker of formulas: what it computes,its small parts. -/
namespace Go.Ab.Tab
open Go Go.Ab
theorem sV {M:List (Nat×Nat×Ent)} {n D:Nat} {τ:Nat->AV} {ω:Nat->Ent} {S:Nat->Nat->Ent} (h:∀m∈M,m.1 < D/\S m.1 m.2.1=m.2.2):
  ∀m∈M,m.1<=D/\(m.1=D->m.2.1 < n)/\(stF n D τ ω S).look m.1 m.2.1=m.2.2:=by
 intro m hm;obtain ⟨h1,h2⟩:=h m hm;refine ⟨by omega,fun e=>by omega,?_⟩;rw[yD,yRN (by omega)];exact h2
mutual
def ckM (f:Fu) (vars:Int):Option Fu->Bool->Nat->Fm->Int->Bool×Int
 | md,ev,deep,.mk o n m ar,left=>
  if left - 1 < 0\/100 < deep then (false,left - 1)
  else if o=0 then (ar.isEmpty&&decide (n=0)&&decide (m=0),left - 1)
  else if o=1 then (if ar.length=1/\n=0/\m=0 then ckMs f vars md (!ev) (deep+1) ar (left - 1) else (false,left - 1))
  else if o=2 then (if ar.length=2/\n=0/\m=0 then ckMs f vars md ev (deep+1) ar (left - 1) else (false,left - 1))
  else match md with
   | none=>
    if o=14 then (ar.isEmpty&&decide (m=0)&&decide (0<=n)&&decide (n < vars)&&ev,left - 1)
    else if o=3 then (if ar.length=1/\n=0/\m=0 then ckMs f vars (some f) ev (deep+1) ar (left - 1) else (false,left - 1))
    else (false,left - 1)
   | some g=>
    if o=4 then (if g.k=0/\ar.length=1/\n=0/\m=0 then ckMs f vars none ev (deep+1) ar (left - 1) else (false,left - 1))
    else if o=5 then (decide (g.k=1)&&decide (0<=n)&&decide (n < g.n)&&ar.isEmpty&&decide (m=0),left - 1)
    else if inOk g o n m=true/\ar.length=1 then ckMs f vars (some (inF g o)) ev (deep+1) ar (left - 1)
    else (false,left - 1)
def ckMs (f:Fu) (vars:Int):Option Fu->Bool->Nat->List Fm->Int->Bool×Int
 | _,_,_,[],left=>(true,left)
 | md,ev,deep,a::l,left=>if (ckM f vars md ev deep a left).1 then ckMs f vars md ev deep l (ckM f vars md ev deep a left).2 else (false,(ckM f vars md ev deep a left).2)
end
theorem qI (f vars md ev deep o n m ar left):ckM f vars md ev deep (.mk o n m ar) left=if left - 1 < 0\/100 < deep then (false,left - 1)
  else if o=0 then (ar.isEmpty&&decide (n=0)&&decide (m=0),left - 1)
  else if o=1 then (if ar.length=1/\n=0/\m=0 then ckMs f vars md (!ev) (deep+1) ar (left - 1) else (false,left - 1))
  else if o=2 then (if ar.length=2/\n=0/\m=0 then ckMs f vars md ev (deep+1) ar (left - 1) else (false,left - 1))
  else match md with
   | none=>
    if o=14 then (ar.isEmpty&&decide (m=0)&&decide (0<=n)&&decide (n < vars)&&ev,left - 1)
    else if o=3 then (if ar.length=1/\n=0/\m=0 then ckMs f vars (some f) ev (deep+1) ar (left - 1) else (false,left - 1))
    else (false,left - 1)
   | some g=>
    if o=4 then (if g.k=0/\ar.length=1/\n=0/\m=0 then ckMs f vars none ev (deep+1) ar (left - 1) else (false,left - 1))
    else if o=5 then (decide (g.k=1)&&decide (0<=n)&&decide (n < g.n)&&ar.isEmpty&&decide (m=0),left - 1)
    else if inOk g o n m=true/\ar.length=1 then ckMs f vars (some (inF g o)) ev (deep+1) ar (left - 1)
    else (false,left - 1):=by
 rw[ckM.eq_def]
theorem uQ (f vars md ev deep a l left):ckMs f vars md ev deep (a::l) left=if (ckM f vars md ev deep a left).1 then ckMs f vars md ev deep l (ckM f vars md ev deep a left).2 else (false,(ckM f vars md ev deep a left).2):=by rw[ckMs]
theorem sM (f vars md ev deep left):ckMs f vars md ev deep [] left=(true,left):=by rw[ckMs]
theorem eE (f:Fu) (vars:Int):∀(a:Fm) (md:Option Fu) (ev:Bool) (deep:Nat) (left:Int),0<=left-> -1<=(ckM f vars md ev deep a left).2/\(ckM f vars md ev deep a left).2<=left/\((ckM f vars md ev deep a left).1=true->0<=(ckM f vars md ev deep a left).2):=by
 refine Fm.ind' fun o n m ar ih=> ?_;intro md ev deep left hl;have hs:∀(l:List Fm),(∀a∈l,a∈ar)->∀(md:Option Fu) (ev:Bool) (deep:Nat) (left:Int),0<=left-> -1<=(ckMs f vars md ev deep l left).2/\(ckMs f vars md ev deep l left).2<=left/\((ckMs f vars md ev deep l left).1=true->0<=(ckMs f vars md ev deep l left).2):=by
  intro l
  induction l with
  | nil=>intro _ md ev deep left hl;rw[sM];exact ⟨by simp;omega,by simp,fun _=>hl⟩
  | cons a l ihl=>
   intro hal md ev deep left hl;obtain ⟨q1,q2,q3⟩:=ih a (hal a (by simp)) md ev deep left hl;rw[uQ];cases hb:(ckM f vars md ev deep a left).1 with
   | false=>simp;exact ⟨q1,q2⟩
   | true=>
    obtain ⟨p1,p2,p3⟩:=ihl (fun b hb=>hal b (by simp[hb])) md ev deep _ (q3 hb);simp only[if_true];exact ⟨p1,by omega,p3⟩
 rw[qI];by_cases h1:left - 1 < 0\/100 < deep
 ·rw[yRO h1];simp;omega
 ·rw[yRN h1];have h0:0<=left - 1:=by omega
  have hself:=fun md ev deep=>hs ar (fun _ h=>h) md ev deep (left - 1) h0;have triv:∀b:Bool,-1<=((b,left - 1):Bool×Int).2/\((b,left - 1):Bool×Int).2<=left/\(((b,left - 1):Bool×Int).1=true->0<=((b,left - 1):Bool×Int).2):=fun b=>⟨by simp;omega,by simp;omega,fun _=>h0⟩;have key:∀md ev deep,-1<=(ckMs f vars md ev deep ar (left - 1)).2/\(ckMs f vars md ev deep ar (left - 1)).2<=left/\((ckMs f vars md ev deep ar (left - 1)).1=true->0<=(ckMs f vars md ev deep ar (left - 1)).2):=fun md ev deep=>⟨(hself md ev deep).1,by have:=(hself md ev deep).2.1;omega,(hself md ev deep).2.2⟩;cases md<;>simp only[]<;>(repeat' split)<;>first | exact triv _ | exact key _ _ _
theorem zHC (D d i g:Nat) (vars left:Int) (deep:Nat) (hl:0<=left/\left < 2^62) (hd:deep < 2^62):Go.Ab.Loc Pg Gl D 145 [.ptr d i g 0,.int .i64 deep] [(d,i,(g,.cells [.int .i64 vars,.int .i64 left]))]
  (.bool (!(decide (left - 1 < 0) || decide (100 < deep)))) [(d,i,(g,.cells [.int .i64 vars,.int .i64 (left - 1)]))]:=by
 refine yH zF tok rfl rfl fun S hS=> ?_;have h0:=(hS _ (yOC ..)).2;have hlt:=(hS _ (yOC ..)).1;simp only at h0 hlt;have hne:¬d=D:=by omega
 have hne':¬D=d:=by omega
 have hw:IntKind.i64.wrap (left - 1)=left - 1:=vE (by omega) (by omega);unfold c145;generalize hr:AV.bool (!(decide (left - 1 < 0) || decide (100 < deep)))=r;by_cases h1:1<=left
 ·have h2:((deep:Int)<=100)=(deep<=100):=by simp;omega
  have h3:decide (left - 1 < 0)=false:=decide_eq_false (by omega);rw[h3] at hr;simp[hne,h0,hw,h1,h2];rw[<-hr];congr 1;by_cases hd':deep<=100
  ·simp[hd',show¬100 < deep by omega]
  ·simp[hd',show 100 < deep by omega]
 ·have h3:decide (left - 1 < 0)=true:=decide_eq_true (by omega);rw[h3] at hr;simp[hne,h0,hw,h1];simpa using hr
theorem zSJ (D:Nat) (a:Fm) (k:Nat) (n m:Bool):Go.Ab.Loc Pg Gl D 146 [encM a,.int .i64 k,.bool n,.bool m] [] (.bool (decide (a.ar.length=k)&&(n || decide (a.n=0))&&(m || decide (a.m=0)))) []:=by
 refine zP zF tok rfl rfl fun S=> ?_;unfold c146;generalize hr:AV.bool _=r;rw[zA];by_cases h1:a.ar.length=k
 ·cases n<;>cases m<;>by_cases h2:a.n=0<;>by_cases h3:a.m=0<;>simp[h1,h2,h3] at hr|-<;>exact hr
 ·have h1':¬(a.ar.length:Int)=(k:Int):=by omega
  simp[h1,h1'] at hr|-;exact hr
theorem uU (D:Nat) (o n m:Int) (ar:List Fm) (k:Nat) (bn bm:Bool):Go.Ab.Loc Pg Gl D 146 [encM (.mk o n m ar),.int .i64 k,.bool bn,.bool bm] [] (.bool (decide (ar.length=k)&&(bn || decide (n=0))&&(bm || decide (m=0)))) []:=zSJ D (.mk o n m ar) k bn bm
def numB (g:Fu) (o n m:Int):Bool:=
 if o=5\/o=10 then decide (0<=n/\n < g.n) else if o=12 then decide (1<=n/\n<=1048576) else if o=13 then decide (1<=m/\m<=1048576/\1<=n/\n<=m) else true
theorem zSC (D:Nat) (g:Fu) (a:Fm):Go.Ab.Loc Pg Gl D 170 [encF g,encM a] [] (.bool (numB g a.o a.n a.m)) []:=by
 refine zP zF tok rfl rfl fun S=> ?_;unfold c170;generalize hr:AV.bool _=r;unfold numB at hr;rw[zA,zB];by_cases h5:a.o=5
 ·by_cases h1:0<=a.n<;>by_cases h2:a.n < g.n<;>simp[h5,h1,h2,nS] at hr|-<;>exact hr
 ·by_cases h10:a.o=10
  ·by_cases h1:0<=a.n<;>by_cases h2:a.n < g.n<;>simp[h10,h1,h2,nS] at hr|-<;>exact hr
  ·by_cases h12:a.o=12
   ·by_cases h1:1<=a.n<;>by_cases h2:a.n<=1048576<;>simp[h12,h1,h2,nS] at hr|-<;>exact hr
   ·by_cases h13:a.o=13
    ·by_cases h1:1<=a.m<;>by_cases h2:a.m<=1048576<;>by_cases h3:1<=a.n<;>by_cases h4:a.n<=a.m<;>simp[h13,h1,h2,h3,h4,nS] at hr|-<;>exact hr
    ·simp[h5,h10,h12,h13,nS] at hr|-;exact hr
theorem zBL (D:Nat) (g:Fu) (o n m:Int) (ar:List Fm):Go.Ab.Loc Pg Gl D 170 [encF g,encM (.mk o n m ar)] [] (.bool (numB g o n m)) []:=zSC D g (.mk o n m ar)
def fO (o:Int):List AV×Bool:=
 if o=5 then ([.int .i64 1,.int .i64 (-1),.bool true,.bool false],true)
 else if o=6 then ([.int .i64 2,.int .i64 0,.bool false,.bool false],true)
 else if o=7 then ([.int .i64 2,.int .i64 1,.bool false,.bool false],true)
 else if o=8 then ([.int .i64 3,.int .i64 0,.bool false,.bool false],true)
 else if o=9 then ([.int .i64 3,.int .i64 1,.bool false,.bool false],true)
 else if o=10 then ([.int .i64 4,.int .i64 0,.bool true,.bool false],true)
 else if o=11 then ([.int .i64 5,.int .i64 0,.bool false,.bool false],true)
 else if o=12 then ([.int .i64 6,.int .i64 0,.bool true,.bool false],true)
 else if o=13 then ([.int .i64 7,.int .i64 0,.bool true,.bool true],true)
 else ([.int .i64 0,.int .i64 0,.bool false,.bool false],false)
theorem bI (D:Nat) (o:Int):Go.Ab.Loc Pg Gl D 168 [.int .i64 o] [] (.tup [.agg (fO o).1,.bool (fO o).2]) []:=by
 refine zP zF tok rfl rfl fun S=> ?_;unfold c168;generalize hr:AV.tup [.agg (fO o).1,.bool (fO o).2]=r;unfold fO at hr;by_cases h5:o=5
 ·simp[h5] at hr|-;exact hr
 by_cases h6:o=6
 ·simp[h6] at hr|-;exact hr
 by_cases h7:o=7
 ·simp[h7] at hr|-;exact hr
 by_cases h8:o=8
 ·simp[h8] at hr|-;exact hr
 by_cases h9:o=9
 ·simp[h9] at hr|-;exact hr
 by_cases h10:o=10
 ·simp[h10] at hr|-;exact hr
 by_cases h11:o=11
 ·simp[h11] at hr|-;exact hr
 by_cases h12:o=12
 ·simp[h12] at hr|-;exact hr
 by_cases h13:o=13
 ·simp[h13] at hr|-;exact hr
 simp[h5,h6,h7,h8,h9,h10,h11,h12,h13] at hr|-;exact hr
end Go.Ab.Tab
/- The program's checker of formulas: common,state,value. -/
namespace Go.Ab.Tab
open Go Go.Ab
abbrev Ck (d i g:Nat) (vars left:Int):Nat×Nat×Ent:=(d,i,(g,.cells [.int .i64 vars,.int .i64 left]))
theorem zLZ {d i g:Nat} {vars l l':Int} {M0:List (Nat×Nat×Ent)} {D:Nat} {S:Nat->Nat->Ent} (hS:∀m∈Ck d i g vars l::M0,m.1 < D/\S m.1 m.2.1=m.2.2) (h0:∀m∈M0,m.1≠d):
  ∀m∈Ck d i g vars l'::M0,m.1 < D/\updS S d i (g,.cells [.int .i64 vars,.int .i64 l']) m.1 m.2.1=m.2.2:=by
 intro m hm;rcases yOH.1 hm with rfl | hm
 ·exact ⟨(hS _ (yOC ..)).1,by simp[updS]⟩
 ·obtain ⟨h1,h2⟩:=hS m (yOJ _ hm);refine ⟨h1,?_⟩;simp only[updS,yRN (fun e:m.1=d/\m.2.1=i=>h0 m hm e.1)];exact h2
def Below (f:Fu) (vars:Int) (d i g:Nat) (md:Option Fu) (ar:List Fm) (F:FuncId) (caps:List AV) (M0:List (Nat×Nat×Ent)) (Df:Nat):Prop:=
 ∀b∈ar,∀(D deep:Nat) (ev:Bool) (left:Int),Df < D->0<=left->left < 2^61->deep<=101->
  Go.Ab.Loc Pg Gl D F ([encM b,.bool ev,.int .i64 deep]++caps) (Ck d i g vars left::M0) (.bool (ckM f vars md ev deep b left).1) [Ck d i g vars (ckM f vars md ev deep b left).2]
def comR (f:Fu) (vars:Int) (md:Option Fu) (ev:Bool) (deep:Nat) (o n m:Int) (ar:List Fm) (left:Int):Bool×Int:=
 if o=0 then (ar.isEmpty&&decide (n=0)&&decide (m=0),left)
 else if o=1 then (if ar.length=1/\n=0/\m=0 then ckMs f vars md (!ev) (deep+1) ar left else (false,left))
 else if o=2 then (if ar.length=2/\n=0/\m=0 then ckMs f vars md ev (deep+1) ar left else (false,left))
 else (false,left)
theorem zHB {f:Fu} {vars:Int} {d i g:Nat} {md:Option Fu} {ar:List Fm} {F:FuncId} {caps:List AV} {M0:List (Nat×Nat×Ent)} {Df:Nat} (hF:F≠yid) (hB:Below f vars d i g md ar F caps M0 Df) (h0:∀m∈M0,m.1≠d)
  (hcs:caps.map AV.strip=caps) (D deep:Nat) (ev:Bool) (o n m left:Int) (hD:Df < D) (hd:d < Df) (hl:0<=left/\left < 2^61) (hdeep:deep<=100):
  Go.Ab.Loc Pg Gl D 148 [.ptr d i g 0,encM (.mk o n m ar),.bool ev,.int .i64 deep,.fn F caps] (Ck d i g vars left::M0) (.bool (comR f vars md ev deep o n m ar left).1) [Ck d i g vars (comR f vars md ev deep o n m ar left).2]:=by
 have hne:¬d=D:=by omega
 have hne':¬D=d:=by omega
 have hw:IntKind.i64.wrap ((deep:Int)+1)=((deep+1:Nat):Int):=by rw[<-zL (n:=deep+1) (by omega)];rfl
 have hself:∀{S:Nat->Nat->Ent},S d i=(g,.cells [.int .i64 vars,.int .i64 left])->upds S [Ck d i g vars left]=S:=fun h=>by simp only[upds,List.foldl];exact uE _ _ _ h
 refine yH zF tok rfl rfl fun S hS=> ?_;have hc:=(hS _ (yOC ..)).2;simp only at hc;unfold c148;generalize hr:comR f vars md ev deep o n m ar left=r;unfold comR at hr;rw[zG];by_cases o0:o=0
 ·subst o0;simp;refine zE (uU _ 0 n m ar 0 false false) (by simp[zG]) ?_;simp at hr;simp[<-hr,hself hc];rw[uE _ _ _ hc];cases ar<;>simp
 by_cases o1:o=1
 ·subst o1;simp;refine zE (uU _ 1 n m ar 1 false false) (by simp[zG]) ?_;simp only[yOT];by_cases hc1:ar.length=1/\n=0/\m=0
  ·obtain ⟨b,rfl⟩:∃b,ar= [b]:=by rcases ar with _ | ⟨b,_ | ⟨c,l⟩⟩<;>simp at hc1;exact ⟨b,rfl⟩
   obtain ⟨_,rfl,rfl⟩:=hc1;simp[uQ,sM] at hr;simp[zA b,hw];refine zZ (cap:=caps) (hB b (by simp) (D+1) (deep+1) (!ev) left (by omega) hl.1 hl.2 (by omega)) (by simp) (by simp[hcs,zA b]) (sV hS) (by simp) ?_ hF;simp[hne,<-hr];cases hb:(ckM f vars md (!ev) (deep+1) b left).1<;>simp
  ·have hb:(decide (ar.length=1)&&decide (n=0)&&decide (m=0))=false:=by
    rw[<-yOE];simp;intro a b c;exact hc1 ⟨a,b,c⟩
   rw[hb];simp[hc1] at hr;simp[<-hr,hc];rw[uE _ _ _ hc];simp
 by_cases o2:o=2
 ·subst o2;simp;refine zE (uU _ 2 n m ar 2 false false) (by simp[zG]) ?_;simp only[yOT];by_cases hc1:ar.length=2/\n=0/\m=0
  ·obtain ⟨b,b',rfl⟩:∃b b',ar= [b,b']:=by rcases ar with _ | ⟨b,_ | ⟨c,_ | ⟨c',l⟩⟩⟩<;>simp at hc1;exact ⟨b,c,rfl⟩
   obtain ⟨_,rfl,rfl⟩:=hc1;simp[uQ,sM] at hr;simp[zA b,hw];refine zZ (cap:=caps) (hB b (by simp) (D+1) (deep+1) ev left (by omega) hl.1 hl.2 (by omega)) (by simp) (by simp[hcs,zA b]) (sV hS) (by simp) ?_ hF;obtain ⟨q1,q2,q3⟩:=eE f vars b md ev (deep+1) left hl.1;cases hb:(ckM f vars md ev (deep+1) b left).1 with
   | false=>
    rw[hb] at hr;simp at hr;simp[hne,<-hr]
   | true=>
    rw[hb] at hr;simp at hr;simp[hne,zA b',hw];refine zZ (cap:=caps) (hB b' (by simp) (D+1) (deep+1) ev _ (by omega) (q3 hb) (by omega) (by omega)) (by simp) (by simp[hcs,zA b']) (sV (zLZ hS h0)) (by simp) ?_ hF;simp[hne,<-hr];cases hb:(ckM f vars md ev (deep+1) b' (ckM f vars md ev (deep+1) b left).2).1<;>simp
  ·have hb:(decide (ar.length=2)&&decide (n=0)&&decide (m=0))=false:=by
    rw[<-yOE];simp;intro a b c;exact hc1 ⟨a,b,c⟩
   rw[hb];simp[hc1] at hr;simp[<-hr,hc];rw[uE _ _ _ hc];simp
 simp[o0,o1,o2] at hr|-;simp[<-hr];rw[uE _ _ _ hc];simp
end Go.Ab.Tab
/- The program's checker of formulas: state,value,valid. -/
namespace Go.Ab.Tab
open Go Go.Ab
def gN (f:Fu) (vars:Int) (d i g:Nat) (a:Fm):Prop:=∀(D deep:Nat) (ev:Bool) (left:Int),0<=left->left < 2^61->deep<=101->
 Go.Ab.Loc Pg Gl D 120 [.ptr d i g 0,encF f,encM a,.bool ev,.int .i64 deep] [Ck d i g vars left] (.bool (ckM f vars none ev deep a left).1) [Ck d i g vars (ckM f vars none ev deep a left).2]
def gL (f:Fu) (vars:Int) (d i g:Nat) (a:Fm):Prop:=∀(h:Fu),zH h=true->∀(D deep:Nat) (ev:Bool) (left:Int),0<=left->left < 2^61->deep<=101->
 Go.Ab.Loc Pg Gl D 147 [.ptr d i g 0,encF f,encF h,encM a,.bool ev,.int .i64 deep] [Ck d i g vars left] (.bool (ckM f vars (some h) ev deep a left).1) [Ck d i g vars (ckM f vars (some h) ev deep a left).2]
def cF3 (f:Fu):Ent:=(1,.cells [.int .i64 f.k,.int .i64 f.n,.sl 3 (f.gs.map encF) .no])
theorem zOA {f:Fu} {vars:Int} {d i g:Nat} {ar:List Fm} (h:∀b∈ar,gN f vars d i g b) (Df:Nat):
  Below f vars d i g none ar 149 [.ptr Df 5 1 0,.ptr Df 6 1 0] [(Df,5,(1,.cells [.ptr d i g 0])),(Df,6,cF3 f)] Df:=by
 intro b hb D deep ev left hD h1 h2 h3;refine yH zF tok rfl rfl fun S hS=> ?_;have hne:¬Df=D:=by omega
 have w5:=(hS _ (yOJ _ (yOC ..))).2;have w6:=(hS _ (yOJ _ (yOJ _ (yOC ..)))).2;have hd:=(hS _ (yOC ..)).1;simp only[cF3] at w5 w6 hd;have hne0:¬d=D:=by omega
 unfold c149;simp[hne,w5,w6,zA b];refine zR (h b hb (D+1) deep ev left h1 h2 h3) (by simp[zB f,zA b]) (sV fun m hm=> ?_) (by simp) ?_
 ·exact hS m (by simp at hm;rw[hm];exact yOC ..)
 simp[hne0]
theorem zNZ {f h:Fu} (hh:zH h=true) {vars:Int} {d i g:Nat} {ar:List Fm} (hs:∀b∈ar,gL f vars d i g b) (Df:Nat):
  Below f vars d i g (some h) ar 169 [.ptr Df 6 1 0,.ptr Df 7 1 0,.ptr Df 8 1 0] [(Df,6,(1,.cells [.ptr d i g 0])),(Df,7,cF3 f),(Df,8,cF3 h)] Df:=by
 intro b hb D deep ev left hD h1 h2 h3;refine yH zF tok rfl rfl fun S hS=> ?_;have hne:¬Df=D:=by omega
 have w6:=(hS _ (yOJ _ (yOC ..))).2;have w7:=(hS _ (yOJ _ (yOJ _ (yOC ..)))).2;have w8:=(hS _ (yOJ _ (yOJ _ (yOJ _ (yOC ..))))).2;have hd:=(hS _ (yOC ..)).1;simp only[cF3] at w6 w7 w8 hd;have hne0:¬d=D:=by omega
 unfold c169;simp[hne,w6,w7,w8,zA b];refine zR (hs b hb h hh (D+1) deep ev left h1 h2 h3) (by simp[zB f,zB h,zA b]) (sV fun m hm=> ?_) (by simp) ?_
 ·exact hS m (by simp at hm;rw[hm];exact yOC ..)
 simp[hne0]
theorem zKB (f vars md ev deep o n m ar left) (h:¬(left - 1 < 0\/100 < deep)) (h2:comM o=true\/(md=none/\o≠14/\o≠3)\/(md≠none/\¬(4<=o/\o<=13))):
  ckM f vars md ev deep (.mk o n m ar) left=comR f vars md ev deep o n m ar (left - 1):=by
 rw[qI,yRN h,comR];by_cases o0:o=0
 ·rw[yRO o0,yRO o0]
 rw[yRN o0,yRN o0];by_cases o1:o=1
 ·rw[yRO o1,yRO o1]
 rw[yRN o1,yRN o1];by_cases o2:o=2
 ·rw[yRO o2,yRO o2]
 rw[yRN o2,yRN o2];rcases h2 with h2 | ⟨rfl,h14,h3⟩ | ⟨hm,ho⟩
 ·simp[comM] at h2;omega
 ·simp only[yRN h14,yRN h3]
 ·cases md with
  | none=>exact absurd rfl hm
  | some g=>
   have hi:inOk g o n m=false:=by
    unfold inOk;rw[yRN (by omega),yRN (by omega),yRN (by omega),yRN (by omega)]
   simp only[yRN (show¬o=4 by omega),yRN (show¬o=5 by omega),hi];simp
theorem zDY (f:Fu) (hf:zH f=true) (vars:Int) (d i g:Nat) (o n m:Int) (ar:List Fm) (h1:∀b∈ar,gN f vars d i g b) (h2:∀b∈ar,gL f vars d i g b):gN f vars d i g (.mk o n m ar):=by
 intro D deep ev left hl1 hl2 hdeep;refine yH zF tok rfl rfl fun S hS=> ?_;have hc:=(hS _ (yOC ..)).2;have hd:=(hS _ (yOC ..)).1;simp only at hc hd;have hne:¬d=D:=by omega
 have hne':¬D=d:=by omega
 have hw:IntKind.i64.wrap ((deep:Int)+1)=((deep+1:Nat):Int):=by rw[<-zL (n:=deep+1) (by omega)];rfl
 unfold c120;generalize hr:ckM f vars none ev deep (.mk o n m ar) left=r;rw[zB,zG];simp;refine zR (zHC (D+1) d i g vars left deep (by omega) (by omega)) (by simp) (sV hS) (by simp) ?_;by_cases hx:left - 1 < 0\/100 < deep
 ·have hb:(decide (left - 1 < 0) || decide (100 < deep))=true:=by simpa using hx
  rw[qI,yRO hx] at hr;rw[hb];simp[hne,<-hr]
 ·have hb:(decide (left - 1 < 0) || decide (100 < deep))=false:=by
   rw[<-yOE];simpa using hx
  rw[hb];have hS2:=zLZ (l':=left - 1) (M0:=[]) hS (by simp);by_cases h14:o=14
  ·subst h14;rw[qI,yRN hx] at hr;simp at hr;simp[hne];refine zW (uU _ 14 n m ar 0 true false) (by simp[zG]) ?_;have he:decide (ar= [])=decide (ar.length=0):=by cases ar<;>simp
   by_cases hc1:ar.length=0/\m=0
   ·obtain ⟨ha,rfl⟩:=hc1;obtain rfl:=yOS ha;by_cases hn:0<=n<;>by_cases hv:n < vars<;>simp[hn,hv,hne] at hr|-<;>simp[<-hr]
   ·have hb:(decide (ar.length=0)&&(true || decide (n=0))&&(false || decide (m=0)))=false:=by
     rw[<-yOE];simp;intro a b;exact hc1 ⟨by rw[a];rfl,b⟩
    have hb2:(ar.isEmpty&&decide (m=0))=false:=by
     rw[<-yOE];simp;intro a b;exact hc1 ⟨by rw[a];rfl,b⟩
    rw[hb];rw[hb2] at hr;simp at hr;simp[<-hr]
  ·by_cases h3:o=3
   ·subst h3;rw[qI,yRN hx] at hr;simp at hr;simp[hne];refine zW (uU _ 3 n m ar 1 false false) (by simp[zG]) ?_;by_cases hc1:ar.length=1/\n=0/\m=0
    ·obtain ⟨b,rfl⟩:∃b,ar= [b]:=by rcases ar with _ | ⟨b,_ | ⟨c,l⟩⟩<;>simp at hc1;exact ⟨b,rfl⟩
     obtain ⟨_,rfl,rfl⟩:=hc1;simp[uQ,sM] at hr;simp[zA b,hw];refine zM (h2 b (by simp) f hf (D+1) (deep+1) ev (left - 1) (by omega) (by omega) (by omega)) (by simp[zB f,zA b]) (sV hS2) (by simp) ?_;simp[hne,<-hr];cases hb:(ckM f vars (some f) ev (deep+1) b (left - 1)).1<;>simp
    ·have hb:(decide (ar.length=1)&&(false || decide (n=0))&&(false || decide (m=0)))=false:=by
      rw[<-yOE];simp;intro a b c;exact hc1 ⟨a,b,c⟩
     rw[hb];simp[hc1] at hr;simp[<-hr]
   ·rw[zKB f vars none ev deep o n m ar left hx (by by_cases hq:comM o=true;exact .inl hq;exact .inr (.inl ⟨rfl,h14,h3⟩))] at hr;simp[hne,h14,h3];refine zR (zHB (by decide) (zOA h1 D) (by simp;omega) (by simp) (D+1) deep ev o n m (left - 1) (by omega) (by omega) (by omega) (by omega)) (by simp[zG]) ?_ (by simp[hr]) ?_
    ·intro m hm;rcases yOH.1 hm with rfl | hm
     ·exact ⟨by simp;omega,by simp;omega,by simp[hne]⟩
     ·simp only[yOH,yPH,or_false] at hm;rcases hm with rfl | rfl
      ·simp[cF3]
      ·simp[cF3]
    simp[hne,hr]
theorem zUB {g:Fu} (hg:zH g=true) {o n m:Int} (h1:6<=o) (h2:o<=13):∃(k:Int) (a:Nat) (bn bm:Bool),fO o=([.int .i64 k,.int .i64 a,.bool bn,.bool bm],true)/\
  (g.k=k->a < g.gs.length/\(∀ha:a < g.gs.length,inF g o=g.gs[a]))/\inOk g o n m=(decide (g.k=k)&&numB g o n m&&(bn || decide (n=0))&&(bm || decide (m=0))):=by
 have two:g.k=2\/g.k=3->∃x y,g.gs= [x,y]:=by
  intro hk;rw[Fu.eta g] at hg;exact sR hg hk
 have one:g.k=4\/g.k=5\/g.k=6\/g.k=7->∃x,g.gs= [x]:=by
  intro hk;rw[Fu.eta g] at hg;exact uH hg hk
 have ho:o=6\/o=7\/o=8\/o=9\/o=10\/o=11\/o=12\/o=13:=by omega
 rcases ho with rfl | rfl | rfl | rfl | rfl | rfl | rfl | rfl
 ·refine ⟨2,0,false,false,rfl,fun hk=> ?_,?_⟩
  ·obtain ⟨x,y,e⟩:=two (.inl hk);simp[e,inF,hk]
  ·by_cases hk:g.k=2<;>simp[inOk,numB,hk]
 ·refine ⟨2,1,false,false,rfl,fun hk=> ?_,?_⟩
  ·obtain ⟨x,y,e⟩:=two (.inl hk);simp[e,inF,hk]
  ·by_cases hk:g.k=2<;>simp[inOk,numB,hk]
 ·refine ⟨3,0,false,false,rfl,fun hk=> ?_,?_⟩
  ·obtain ⟨x,y,e⟩:=two (.inr hk);simp[e,inF,hk]
  ·by_cases hk:g.k=3<;>simp[inOk,numB,hk]
 ·refine ⟨3,1,false,false,rfl,fun hk=> ?_,?_⟩
  ·obtain ⟨x,y,e⟩:=two (.inr hk);simp[e,inF,hk]
  ·by_cases hk:g.k=3<;>simp[inOk,numB,hk]
 ·refine ⟨4,0,true,false,rfl,fun hk=> ?_,?_⟩
  ·obtain ⟨x,e⟩:=one (.inl hk);simp[e,inF,hk]
  ·by_cases hk:g.k=4<;>simp[inOk,numB,hk,yON]
 ·refine ⟨5,0,false,false,rfl,fun hk=> ?_,?_⟩
  ·obtain ⟨x,e⟩:=one (by omega);simp[e,inF,hk]
  ·by_cases hk:g.k=5<;>simp[inOk,numB,hk]
 ·refine ⟨6,0,true,false,rfl,fun hk=> ?_,?_⟩
  ·obtain ⟨x,e⟩:=one (by omega);simp[e,inF,hk]
  ·by_cases hk:g.k=6<;>simp[inOk,numB,hk,yON]
 ·refine ⟨7,0,true,true,rfl,fun hk=> ?_,?_⟩
  ·obtain ⟨x,e⟩:=one (by omega);simp[e,inF,hk]
  ·by_cases hk:g.k=7<;>simp[inOk,numB,hk,yON]
theorem zDX (f:Fu) (vars:Int) (d i g:Nat) (o n m:Int) (ar:List Fm) (h1:∀b∈ar,gN f vars d i g b) (h2:∀b∈ar,gL f vars d i g b):gL f vars d i g (.mk o n m ar):=by
 intro h hh D deep ev left hl1 hl2 hdeep;refine yH zF tok rfl rfl fun S hS=> ?_;have hc:=(hS _ (yOC ..)).2;have hd:=(hS _ (yOC ..)).1;simp only at hc hd;have hne:¬d=D:=by omega
 have hne':¬D=d:=by omega
 have hw:IntKind.i64.wrap ((deep:Int)+1)=((deep+1:Nat):Int):=by rw[<-zL (n:=deep+1) (by omega)];rfl
 unfold c147;generalize hr:ckM f vars (some h) ev deep (.mk o n m ar) left=r;rw[zB f,zB h,zG];simp;refine zR (zHC (D+1) d i g vars left deep (by omega) (by omega)) (by simp) (sV hS) (by simp) ?_;by_cases hx:left - 1 < 0\/100 < deep
 ·have hb:(decide (left - 1 < 0) || decide (100 < deep))=true:=by simpa using hx
  rw[qI,yRO hx] at hr;rw[hb];simp[hne,<-hr]
 ·have hb:(decide (left - 1 < 0) || decide (100 < deep))=false:=by
   rw[<-yOE];simpa using hx
  rw[hb];have hS2:=zLZ (l':=left - 1) (M0:=[]) hS (by simp);by_cases h4:o=4
  ·subst h4;rw[qI,yRN hx] at hr;simp at hr;by_cases hk:h.k=0
   ·simp[hne,hk];refine zW (uU _ 4 n m ar 1 false false) (by simp[zG]) ?_;by_cases hc1:ar.length=1/\n=0/\m=0
    ·obtain ⟨b,rfl⟩:∃b,ar= [b]:=by rcases ar with _ | ⟨b,_ | ⟨c,l⟩⟩<;>simp at hc1;exact ⟨b,rfl⟩
     obtain ⟨_,rfl,rfl⟩:=hc1;simp[hk,uQ,sM] at hr;simp[zA b,hw];refine zM (h1 b (by simp) (D+1) (deep+1) ev (left - 1) (by omega) (by omega) (by omega)) (by simp[zB f,zA b]) (sV hS2) (by simp) ?_;simp[hne,<-hr];cases hb:(ckM f vars none ev (deep+1) b (left - 1)).1<;>simp
    ·have hb:(decide (ar.length=1)&&(false || decide (n=0))&&(false || decide (m=0)))=false:=by
      rw[<-yOE];simp;intro a b c;exact hc1 ⟨a,b,c⟩
     rw[hb];simp[hc1] at hr;simp[<-hr]
   ·simp[hk] at hr;simp[hne,hk,<-hr]
  ·by_cases hin:5<=o/\o<=13
   ·by_cases h5:o=5
    ·subst h5;rw[qI,yRN hx] at hr;simp at hr;simp[hne];refine zE (bI _ 5) (by simp) ?_;simp only[fO,if_true];by_cases hk:h.k=1
     ·simp[hne,hk];refine zE (zBL _ h 5 n m ar) (by simp[zB h,zG,hk]) ?_;simp only[numB,true_or,if_true];by_cases hn:0<=n/\n < h.n
      ·simp[hn];refine zE (uU _ 5 n m ar 0 true false) (by simp[zG]) ?_;simp[hk,hn] at hr;simp[<-hr];cases ar<;>simp
      ·have hn2:(decide (0<=n)&&decide (n < h.n))=false:=by rw[<-yOE];simpa using hn
       rw[decide_eq_false hn];simp[hk] at hr;rw[hn2] at hr;simp at hr;simp[<-hr]
     ·simp[hk] at hr;simp[hne,hk,<-hr]
    ·obtain ⟨k,a,bn,bm,e1,e2,e3⟩:=zUB (n:=n) (m:=m) hh (show 6<=o by omega) hin.2;rw[qI,yRN hx,yRN (by omega),yRN (by omega),yRN (by omega)] at hr;simp only[yRN h4,yRN h5] at hr;simp[hne,h4];refine zE (bI _ o) (by simp) ?_;rw[e1];by_cases hk:h.k=k
     ·simp[hne,hk];refine zE (zBL _ h o n m ar) (by simp[zB h,zG,hk]) ?_;rw[decide_eq_true hk,yOF] at e3;cases hnb:numB h o n m with
      | false=>
       rw[hnb,yOD,yOD] at e3;rw[e3] at hr;simp at hr;simp[<-hr]
      | true=>
       rw[hnb,yOF] at e3;have ha0:¬(a:Int) < 0:=by omega
       simp[ha0];refine zW (uU _ o n m ar 1 bn bm) (by simp[zG]) ?_;by_cases hc1:inOk h o n m=true/\ar.length=1
       ·obtain ⟨b,rfl⟩:∃b,ar= [b]:=by rcases ar with _ | ⟨b,_ | ⟨c,l⟩⟩<;>simp at hc1;exact ⟨b,rfl⟩
        have hi:=hc1.1;rw[yRO hc1] at hr;have hb:(decide ([b].length=1)&&(bn || decide (n=0))&&(bm || decide (m=0)))=true:=by
         rw[hi] at e3;simpa using e3.symm
        rw[hb];obtain ⟨hal,hae⟩:=e2 hk;have hae:=hae hal;simp[uQ,sM] at hr;simp[zA b,hw,hal,zB h.gs[a]];refine zM (h2 b (by simp) h.gs[a] (by rw[<-hae];exact tP hh hi) (D+1) (deep+1) ev (left - 1) (by omega) (by omega) (by omega)) (by simp[zB f,zB h.gs[a],zA b]) (sV hS2) (by simp) ?_;rw[hae] at hr;simp[hne,<-hr];cases hb:(ckM f vars (some h.gs[a]) ev (deep+1) b (left - 1)).1<;>simp
       ·have hb:(decide (ar.length=1)&&(bn || decide (n=0))&&(bm || decide (m=0)))=false:=by
         rw[<-yOE];intro hq;rw[yON,yOB,yRP] at hq;exact hc1 ⟨by rw[e3];exact hq.2,hq.1⟩
        rw[hb];rw[yRN hc1] at hr;simp[<-hr]
     ·rw[decide_eq_false hk,yOD,yOD,yOD] at e3;rw[e3] at hr;simp at hr;simp[hne,hk,<-hr]
   ·rw[zKB f vars (some h) ev deep o n m ar left hx (.inr (.inr ⟨by simp,by omega⟩))] at hr;have hfb:fO o=([.int .i64 0,.int .i64 0,.bool false,.bool false],false):=by
     unfold fO;rw[yRN (by omega),yRN (by omega),yRN (by omega),yRN (by omega),yRN (by omega),yRN (by omega),yRN (by omega),yRN (by omega),yRN (by omega)]
    simp[hne,h4];refine zE (bI _ o) (by simp) ?_;rw[hfb];simp[hne];refine zR (zHB (by decide) (zNZ hh h2 D) (by simp;omega) (by simp) (D+1) deep ev o n m (left - 1) (by omega) (by omega) (by omega) (by omega)) (by simp[zG]) ?_ (by simp[hr]) ?_
    ·intro m hm;rcases yOH.1 hm with rfl | hm
     ·exact ⟨by simp;omega,by simp;omega,by simp[hne]⟩
     ·simp only[yOH,yPH,or_false] at hm;rcases hm with rfl | rfl | rfl
      ·simp[cF3]
      ·simp[cF3]
      ·simp[cF3]
    simp[hne,hr]
end Go.Ab.Tab
/- The program's checker of formulas says what the reference's says; valid. -/
namespace Go.Ab.Tab
open Go Go.Ab
theorem zCJ {g:Fu} {o n m:Int} (h:g.k=0\/g.k=1):inOk g o n m=false:=by
 unfold inOk;rw[yRN (by omega),yRN (by omega),yRN (by omega),yRN (by omega)]
theorem zPY {g:Fu} {o n m:Int} (h:o=4\/o=5):inOk g o n m=false:=by
 unfold inOk;rw[yRN (by omega),yRN (by omega),yRN (by omega),yRN (by omega)]
theorem sW (f vars g odd o n m ar) (h:comM o=false):valM f vars (some g) odd (.mk o n m ar)=
  if o=4 then decide (g.k=0/\ar.length=1/\n=0/\m=0)&&y6 f vars none odd ar
  else if o=5 then decide (g.k=1)&&decide (0<=n)&&decide (n < g.n)&&ar.isEmpty&&decide (m=0)
  else decide (inOk g o n m=true/\ar.length=1)&&y6 f vars (some (inF g o)) odd ar:=by
 rw[xX _ _ _ _ _ _ _ _ h];simp only;by_cases o4:o=4
 ·subst o4;rw[yRO rfl];by_cases k0:g.k=0
  ·rw[yRO k0];by_cases c1:ar.length=1<;>by_cases c2:n=0<;>by_cases c3:m=0<;>simp[k0,c1,c2,c3]
  ·rw[yRN k0];by_cases k1:g.k=1
   ·rw[yRO k1];simp[k0]
   ·rw[yRN k1,zPY (.inl rfl)];simp[k0]
 ·rw[yRN o4];by_cases o5:o=5
  ·subst o5;rw[yRO rfl];by_cases k0:g.k=0
   ·rw[yRO k0];simp[k0]
   ·rw[yRN k0];by_cases k1:g.k=1
    ·rw[yRO k1];cases ar.isEmpty<;>by_cases c2:0<=n<;>by_cases c3:m=0<;>by_cases c4:n < g.n<;>simp[k1,c2,c3,c4]
    ·rw[yRN k1,zPY (.inr rfl)];simp[k1]
  ·rw[yRN o5];by_cases k0:g.k=0
   ·rw[yRO k0,zCJ (.inl k0)];simp[o4]
   ·rw[yRN k0];by_cases k1:g.k=1
    ·rw[yRO k1,zCJ (.inr k1)];simp[o5]
    ·rw[yRN k1];cases inOk g o n m<;>by_cases c1:ar.length=1<;>simp[c1]
theorem zKA (f:Fu) (vars:Int):∀(a:Fm) (md:Option Fu) (ev:Bool) (deep:Nat) (left:Int),0<=left->
  (ckM f vars md ev deep a left).1=(valM f vars md (!ev) a&&decide ((zK a:Int)<=left)&&decide (deep+y5 a<=101))/\((ckM f vars md ev deep a left).1=true->(ckM f vars md ev deep a left).2=left - zK a):=by
 refine Fm.ind' fun o n m ar ih=> ?_;intro md ev deep left hl;have hs:∀(l:List Fm),(∀a∈l,a∈ar)->∀(md:Option Fu) (ev:Bool) (deep:Nat) (left:Int),0<=left->deep<=101->
   (ckMs f vars md ev deep l left).1=(y6 f vars md (!ev) l&&decide ((zO l:Int)<=left)&&decide (deep+xS l<=101))/\((ckMs f vars md ev deep l left).1=true->(ckMs f vars md ev deep l left).2=left - zO l):=by
  intro l
  induction l with
  | nil=>intro _ md ev deep left hl hd;rw[sM,y6,zO,xS];simp;omega
  | cons a l ihl=>
   intro hal md ev deep left hl hd;obtain ⟨q1,q2⟩:=ih a (hal a (by simp)) md ev deep left hl;have q3:=eE f vars a md ev deep left hl;rw[uQ,y6,zO,xS];cases hb:(ckM f vars md ev deep a left).1 with
   | false=>
    rw[hb] at q1;simp only[yPI,if_false,false_imp_iff,and_true];have q1:=q1.symm;rw[<-yOE] at q1;symm;rw[<-yOE];simp only[yOB,yRP] at q1|-;intro hh;exact q1 ⟨⟨hh.1.1.1,by omega⟩,by omega⟩
   | true=>
    rw[hb] at q1;have q1:=q1.symm;simp only[yOB,yRP] at q1;have e2:=q2 hb;obtain ⟨p1,p2⟩:=ihl (fun b hb=>hal b (by simp[hb])) md ev deep _ (q3.2.2 hb) hd;simp only[if_true];rw[e2] at p1 p2|-;refine ⟨?_,fun hx=>by rw[p2 hx];omega⟩;rw[p1,q1.1.1,yOF];congr 1
    ·congr 1;exact decide_eq_decide.2 (by omega)
    ·exact decide_eq_decide.2 (by omega)
 have hself:=fun md ev=>hs ar (fun _ h=>h) md ev (deep+1) (left - 1);rw[qI,zK,y5];by_cases h1:left - 1 < 0\/100 < deep
 ·rw[yRO h1];simp only[yPI,false_imp_iff,and_true];have:(decide (((1+zO ar:Nat):Int)<=left)&&decide (deep+(1+xS ar)<=101))=false:=by
   rw[<-yOE];simp only[yOB,yRP];omega
  rw[yON,this,Bool.and_false]
 ·rw[yRN h1];have hself:=fun md ev=>hself md ev (by omega) (by omega)
  -- an operator that looks below
  have key:∀(md':Option Fu) (ev':Bool) (c:Prop) [Decidable c] (v:Bool),v=(decide c&&y6 f vars md' (!ev') ar)->
    (if c then ckMs f vars md' ev' (deep+1) ar (left - 1) else (false,left - 1)).1=(v&&decide (((1+zO ar:Nat):Int)<=left)&&decide (deep+(1+xS ar)<=101))/\
    ((if c then ckMs f vars md' ev' (deep+1) ar (left - 1) else (false,left - 1)).1=true->(if c then ckMs f vars md' ev' (deep+1) ar (left - 1) else (false,left - 1)).2=left - ((1+zO ar:Nat):Int)):=by
   intro md' ev' c _ v hv;subst hv;by_cases hc:c
   ·rw[yRO hc,decide_eq_true hc,yOF];obtain ⟨p1,p2⟩:=hself md' ev';refine ⟨?_,fun hx=>by rw[p2 hx];omega⟩;rw[p1];congr 1
    ·congr 1;exact decide_eq_decide.2 (by omega)
    ·exact decide_eq_decide.2 (by omega)
   ·rw[yRN hc,decide_eq_false hc];simp
  -- one that does not
  have leaf:∀(b v:Bool),v=b->(b=true->ar= [])->((b,left - 1):Bool×Int).1=(v&&decide (((1+zO ar:Nat):Int)<=left)&&decide (deep+(1+xS ar)<=101))/\(((b,left - 1):Bool×Int).1=true->((b,left - 1):Bool×Int).2=left - ((1+zO ar:Nat):Int)):=by
   intro b v hv hb;subst hv;cases v with
   | false=>simp
   | true=>
    rw[hb rfl,zO,xS];simp;omega
  by_cases o0:o=0
  ·rw[yRO o0];refine leaf _ _ ?_ (fun h=> ?_)
   ·rw[y9,yRO o0]
   ·simp at h;exact h.1.1
  rw[yRN o0];by_cases o1:o=1
  ·rw[yRO o1];refine key md (!ev) _ _ ?_;rw[y9,yRN o0,yRO o1];by_cases c1:ar.length=1<;>by_cases c2:n=0<;>by_cases c3:m=0<;>simp[c1,c2,c3]
  rw[yRN o1];by_cases o2:o=2
  ·rw[yRO o2];refine key md ev _ _ ?_;rw[y9,yRN o0,yRN o1,yRO o2];by_cases c1:ar.length=2<;>by_cases c2:n=0<;>by_cases c3:m=0<;>simp[c1,c2,c3]
  rw[yRN o2];have hcm:comM o=false:=by simp[comM,o0,o1,o2]
  cases md with
  | none=>
   simp only;rw[xX _ _ _ _ _ _ _ _ hcm];simp only;by_cases o14:o=14
   ·rw[yRO o14];rw[yRN (show¬o=3 by omega),yRO o14];refine leaf _ _ (by simp) (fun h=>by simp at h;exact h.1.1.1.1)
   ·rw[yRN o14];by_cases o3:o=3
    ·rw[yRO o3,yRO o3];refine key (some f) ev _ _ ?_;by_cases c1:ar.length=1<;>by_cases c2:n=0<;>by_cases c3:m=0<;>simp[c1,c2,c3]
    ·rw[yRN o3,yRN o3,yRN o14];exact leaf _ _ rfl (by simp)
  | some g=>
   simp only;rw[sW _ _ _ _ _ _ _ _ hcm];by_cases o4:o=4
   ·rw[yRO o4,yRO o4];exact key none ev _ _ rfl
   ·rw[yRN o4,yRN o4];by_cases o5:o=5
    ·rw[yRO o5,yRO o5];refine leaf _ _ rfl (fun h=>by simp at h;exact h.1.2)
    ·rw[yRN o5,yRN o5];exact key (some (inF g o)) ev _ _ rfl
def chkL (f:Fu) (vars:Int):List Eqn->Int->Bool
 | [],_=>true
 | x::l,left=>(ckM f vars none true 1 x.body left).1&&chkL f vars l (ckM f vars none true 1 x.body left).2
theorem zDH (f:Fu) (vars:Int):∀(l:List Eqn) (left:Int),0<=left->chkL f vars l left=(l.all (fun x=>valM f vars none false x.body&&decide (y5 x.body<=100))&&decide ((sumL l:Int)<=left))
 | [],left,hl=>by simp[chkL,sumL,hl]
 | x::l,left,hl=>by
  obtain ⟨q1,q2⟩:=zKA f vars x.body none true 1 left hl;have q3:=eE f vars x.body none true 1 left hl;rw[chkL,yOR,sumL,yPC,yPD];rw[Bool.not_true] at q1;cases hb:(ckM f vars none true 1 x.body left).1 with
  | false=>
   rw[hb] at q1;have q1:=q1.symm;rw[<-yOE] at q1;rw[yOD];symm;rw[<-yOE];simp only[yOB,yRP] at q1|-;intro hh;exact q1 ⟨⟨hh.1.1.1,by omega⟩,by omega⟩
  | true=>
   rw[yOF,q2 hb,zDH f vars l _ (by have:=q3.2.2 hb;rw[q2 hb] at this;exact this)];rw[hb] at q1;have q1:=q1.symm;simp only[yOB,yRP] at q1;rw[q1.1.1,decide_eq_true (show y5 x.body<=100 by omega)];simp only[yOF];congr 1;exact decide_eq_decide.2 (by rw[sumL];omega)
theorem zBG:∀{l:List Eqn} {x:Eqn},x∈l->zK x.body<=sumL l
 | [],x,h=>by cases h
 | y::l,x,h=>by
  rw[sumL,yPC,yPD];rcases yOH.1 h with rfl | h
  ·omega
  ·have:=zBG h;rw[sumL] at this;omega
theorem zTY (f:Fu) (l:List Eqn):isL f l=(decide (1<=l.length)&&decide (l.length<=4)&&chkL f l.length l 2000):=by
 rw[zDH _ _ _ _ (by omega),isL];have e:decide (((sumL l:Nat):Int)<=2000)=decide (sumL l<=2000):=decide_eq_decide.2 (by omega);rw[e];by_cases hs:sumL l<=2000
 ·have:l.all (okE f l.length)=l.all (fun x=>valM f l.length none false x.body&&decide (y5 x.body<=100)):=by
   rw[Bool.eq_iff_iff,yOM,yOM];constructor
   ·intro h x hx;have:=h x hx;unfold okE at this;simp only[yOB] at this|-;exact ⟨this.1.2,this.2⟩
   ·intro h x hx;have:=h x hx;unfold okE;simp only[yOB] at this|-;exact ⟨⟨decide_eq_true (by have:=zBG hx;omega),this.1⟩,this.2⟩
  simp only[this,yON]
 ·rw[decide_eq_false hs];simp
theorem zGL (f:Fu) (hf:zH f=true) (vars:Int) (d i g:Nat):∀a,gN f vars d i g a/\gL f vars d i g a:=by
 refine Fm.ind' fun o n m l hrec=> ?_;have h1:∀a∈l,gN f vars d i g a:=fun a ha=>(hrec a ha).1;have h2:∀a∈l,gL f vars d i g a:=fun a ha=>(hrec a ha).2;exact ⟨zDY f hf vars d i g o n m l h1 h2,zDX f vars d i g o n m l h1 h2⟩
theorem l92 (D:Nat) (f:Fu) (hf:zH f=true) (l:List Eqn) (hl:fitL l) (S):∀(j i:Nat) (left:Int) (τ ω) (r:AV),i+j=l.length->0<=left->left<=2000->
  τ 2= .ptr D 2 1 0->ω 2=(1,.cells [.int .i64 f.k,.int .i64 f.n,.sl 3 (f.gs.map encF) .no])->τ 5= .ptr D 19 1 0->ω 19=(1,.cells [.int .i64 l.length,.int .i64 left])->τ 20=encL l->τ 21= .int .i64 l.length->τ 22= .int .i64 i->r= .bool (chkL f l.length (l.drop i) left)->
  Rd (Loc Pg Gl) .im (RetQ [.tmp 4] r S) [.lp c92_l0,.blk 0,.c zKD] (stF 33 D τ ω S):=by
 intro j
 induction j with
 | zero=>
  intro i left τ ω r hi h0 hl2 h2 w2 h5 w19 h20 h21 h22 hr;refine zN c92_l0.eq_1 ?_;obtain rfl:i=l.length:=by omega
  rw[yOK] at hr;simp[h20,h21,h22,encL,zKD,hr,chkL]
 | succ j ih=>
  intro i left τ ω r hi h0 hl2 h2 w2 h5 w19 h20 h21 h22 hr;refine zN c92_l0.eq_1 ?_;have hlt:i < l.length:=by omega
  have hwr:=yA hlt hl.1;have e:l.drop i=l[i]::l.drop (i+1):=yOI hlt;rw[e,chkL] at hr;have q3:=eE f l.length l[i].body none true 1 left h0;simp[h2,w2,h5,h20,h21,h22,encL,hlt,encE];refine zR ((zGL f hf l.length D 19 1 l[i].body).1 (D+1) 1 true left h0 (by omega) (by omega)) (by simp[zB f,zA,h5]) ?_ (by simp) ?_
  ·intro m hm;simp at hm;subst hm;exact ⟨by simp,by simp,by simp[w19]⟩
  cases hb:(ckM f l.length none true 1 l[i].body left).1 with
  | false=>
   rw[hb,yOD] at hr;simp[hr]
  | true=>
   rw[hb,yOF] at hr;simp[h22,hwr];refine ih (i+1) _ _ _ r (by omega) (q3.2.2 hb) (by omega) ?_ ?_ ?_ ?_ ?_ ?_ ?_ hr;all_goals simp[h2,w2,h5,h20,h21]
theorem zGO (D:Nat) (f:Fu) (hf:zH f=true) (l:List Eqn) (hl:fitL l):Go.Ab.Loc Pg Gl D 92 [encF f,encL l] [] (.bool (isL f l)) []:=by
 refine zP zF tok rfl rfl fun S=> ?_;unfold c92;rw[zTY];generalize hr:AV.bool _=r;rw[zB];by_cases h1:1<=l.length
 ·by_cases h4:l.length<=4
  ·have h1':¬(l.length:Int) < 1:=by omega
   have h4':¬4 < (l.length:Int):=by omega
   simp[encL,h1',h4'];refine l92 D f hf l hl S l.length 0 2000 _ _ r (by simp) (by omega) (by omega) ?_ ?_ ?_ ?_ ?_ ?_ ?_ (by rw[<-hr];simp[h1,h4]);all_goals simp[encL]
  ·have h1':¬(l.length:Int) < 1:=by omega
   have h4':4 < (l.length:Int):=by omega
   simp[encL,h1',h4',<-hr,h4]
 ·have h1':(l.length:Int) < 1:=by omega
  simp[encL,h1',<-hr,h1]
end Go.Ab.Tab
/- Sets of states as two words. -/
namespace Go.Ab.Tab
open Go Go.Ab
theorem zVC (f:∀{n:Nat},BitVec n->BitVec n->BitVec n) (g:Nat->Nat->Nat) (h:∀(x y:BitVec 64),(f x y).toNat=g x.toNat y.toNat) {a b:Nat} (ha:a < 2^64) (hb:b < 2^64):
  oR .u64 (fun x y=>f x y) (a:Int) (b:Int)= .int .u64 ((g a b:Nat):Int):=by
 have hx:(BitVec.ofInt 64 (a:Int)).toNat=a:=by simp;omega
 have hy:(BitVec.ofInt 64 (b:Int)).toNat=b:=by simp;omega
 have:=h (BitVec.ofInt 64 (a:Int)) (BitVec.ofInt 64 (b:Int));rw[hx,hy] at this;simp only[oR,IntKind.bits];congr 1;rw[this,nY];rw[<-this];exact BitVec.isLt _
theorem zDK {a b:Nat} (ha:a < 2^64) (hb:b < 2^64):oR .u64 (fun x y=>x ||| y) (a:Int) (b:Int)= .int .u64 ((a ||| b:Nat):Int):=zVC (fun x y=>x ||| y) (fun x y=>x ||| y) (fun x y=>BitVec.toNat_or x y) ha hb
theorem jS {a b:Nat} (ha:a < 2^64) (hb:b < 2^64):oR .u64 (fun x y=>x &&& y) (a:Int) (b:Int)= .int .u64 ((a &&& b:Nat):Int):=zVC (fun x y=>x &&& y) (fun x y=>x &&& y) (fun x y=>BitVec.toNat_and x y) ha hb
theorem mM {a b:Nat} (ha:a < 2^64) (hb:b < 2^64):oR .u64 (fun x y=>x &&& ~~~y) (a:Int) (b:Int)= .int .u64 ((a ^^^ (a &&& b):Nat):Int):=by
 refine zVC (fun x y=>x &&& ~~~y) (fun x y=>x ^^^ (x &&& y)) (fun x y=> ?_) ha hb
 show (x &&& ~~~y).toNat=x.toNat ^^^ (x.toNat &&& y.toNat)
 rw[<-BitVec.toNat_and,<-BitVec.toNat_xor];congr 1;ext i hi;simp;cases x[i]<;>cases y[i]<;>rfl
def encW (N:Nat):List AV:=[.int .u64 ((N % 2^64:Nat):Int),.int .u64 ((N / 2^64:Nat):Int)]
def encT (N:Nat):AV:= .agg (encW N)
theorem W_lo (N:Nat):N % 2^64 < 2^64:=Nat.mod_lt _ (by decide)
theorem W_hi {N:Nat} (h:N < 2^128):N / 2^64 < 2^64:=by
 rw[Nat.div_lt_iff_lt_mul (by decide)];rw[<-Nat.pow_add];exact h
theorem yKD (N M:Nat):(N ||| M) % 2^64=N % 2^64 ||| M % 2^64:=by
 apply yOO;intro i;simp only[yOU,yOV];cases decide (i < 64)<;>simp
theorem yKE (N M:Nat):(N ||| M) / 2^64=N / 2^64 ||| M / 2^64:=by
 apply yOO;intro i;simp only[yOU,yOW]
theorem zQF (N M:Nat):(N &&& M) % 2^64=N % 2^64 &&& M % 2^64:=by
 apply yOO;intro i;simp only[yPJ,yOV];cases decide (i < 64)<;>simp
theorem zQG (N M:Nat):(N &&& M) / 2^64=N / 2^64 &&& M / 2^64:=by
 apply yOO;intro i;simp only[yPJ,yOW]
theorem zYM (N M:Nat):(N ^^^ M) % 2^64=N % 2^64 ^^^ M % 2^64:=by
 apply yOO;intro i;simp only[yPK,yOV];cases decide (i < 64)<;>simp
theorem zYN (N M:Nat):(N ^^^ M) / 2^64=N / 2^64 ^^^ M / 2^64:=by
 apply yOO;intro i;simp only[yPK,yOW]
theorem zNN {N M:Nat} (h1:N % 2^64=M % 2^64) (h2:N / 2^64=M / 2^64):N=M:=by
 rw[<-yPL N (2^64),<-yPL M (2^64),h1,h2]
theorem yBS {N x:Nat} (h:N < 2^128) (hx:x < 128):N ||| 2^x < 2^128:=yPM h (yOP (by decide) hx)
theorem zPE (x:Nat):(x:Int).tmod 64=((x % 64:Nat):Int):=rfl
theorem zPI (D N x:Nat) (hN:N < 2^128) (hx:x < 128):Go.Ab.Loc Pg Gl D 85 [encT N,.int .i64 x] [] (encT (N ||| 2^x)) []:=by
 refine zP zF tok rfl rfl fun S=> ?_;unfold c85;generalize hr:encT (N ||| 2^x)=r;have hd:IntKind.i64.wrap ((x:Int) / 64)=((x / 64:Nat):Int):=by rw[<-zL (n:=x / 64) (by omega)];rfl
 have hm:=zPE x;have hs:IntKind.u64.wrap ((2:Int)^(min (x % 64) IntKind.u64.bits))=((2^(x % 64):Nat):Int):=by
  rw[yPN (by show x % 64<=64;omega),<-nY (n:=2^(x % 64)) (yOP (by decide) (by omega))];congr 1
 have hp:2^(x % 64) < 2^64:=yOP (by decide) (by omega);have hlo:=W_lo N;have hhi:=W_hi hN;unfold encT encW at hr|-;rw[yKD,yKE] at hr;generalize N % 2^64=lo at*;generalize N / 2^64=hi at*;have hp':((2^(x % 64):Nat):Int)=((2^(x % 64):Nat):Int):=rfl;generalize hq:2^(x % 64)=q at*;by_cases h64:x < 64
 ·have e0:x / 64=0:=by omega
  have e1:x % 64=x:=by omega
  have e2:2^x % 2^64=q:=by rw[<-hq,e1];exact Nat.mod_eq_of_lt (yOP (by decide) h64)
  have e3:2^x / 2^64=0:=Nat.div_eq_of_lt (yOP (by decide) h64);rw[e2,e3,yPE] at hr;rw[e0] at hd;simp[hd,hm,hs,zDK hlo hp,-yOQ,-yOX];exact hr
 ·have e0:x / 64=1:=by omega
  have e2:2^x % 2^64=0:=Nat.mod_eq_zero_of_dvd (Nat.pow_dvd_pow 2 (by omega));have e3:2^x / 2^64=q:=by rw[<-hq,Nat.pow_div (by omega) (by decide)];congr 1;omega
  rw[e2,e3,yPE] at hr;rw[e0] at hd;simp[hd,hm,hs,zDK hhi hp,-yOQ,-yOX];exact hr
theorem zQD (a k:Nat):decide ((((a / 2^k) % 2:Nat):Int)=1)=a.testBit k:=by
 rw[Nat.testBit_eq_decide_div_mod_eq];exact decide_eq_decide.2 (by omega)
theorem zHF (D N x:Nat) (hN:N < 2^128) (hx:x < 128):Go.Ab.Loc Pg Gl D 134 [encT N,.int .i64 x] [] (.bool (N.testBit x)) []:=by
 refine zP zF tok rfl rfl fun S=> ?_;unfold c134;generalize hr:AV.bool (N.testBit x)=r;have hd:IntKind.i64.wrap ((x:Int) / 64)=((x / 64:Nat):Int):=by rw[<-zL (n:=x / 64) (by omega)];rfl
 have hm:=zPE x;have hlo:=W_lo N;have hhi:=W_hi hN;have key:∀w:Nat,w < 2^64->∀y:Nat,y < 64->oR .u64 (fun a b=>a &&& b) (Int.fdiv (w:Int) (2^(min y IntKind.u64.bits))) 1= .int .u64 (((w / 2^y) % 2:Nat):Int):=by
  intro w hw y hy;have e0:min y IntKind.u64.bits=y:=yPN (by show y<=64;omega);have e1:Int.fdiv (w:Int) (2^y)=((w / 2^y:Nat):Int):=by
   rw[Int.fdiv_eq_ediv_of_nonneg _ (by exact_mod_cast Nat.zero_le _)];norm_cast
  rw[e0,e1,show (1:Int)=((1:Nat):Int) from rfl,jS (Nat.lt_of_le_of_lt (Nat.div_le_self _ _) hw) (by decide),Nat.and_one_is_mod]
 unfold encT encW;by_cases h64:x < 64
 ·have e0:x / 64=0:=by omega
  have e1:x % 64=x:=by omega
  have e2:(N % 2^64).testBit x=N.testBit x:=by rw[yOV];simp[h64]
  rw[<-e2,<-zQD] at hr;generalize N % 2^64=lo at*;rw[e0] at hd;rw[e1] at hm;have:=key lo hlo x h64;simp[hd,hm,this,-yOQ,-yOX,-yOY];exact hr
 ·have e0:x / 64=1:=by omega
  have e2:(N / 2^64).testBit (x % 64)=N.testBit x:=by rw[yOW];congr 1;omega
  rw[<-e2,<-zQD] at hr;generalize N / 2^64=hi at*;generalize N % 2^64=lo at*;rw[e0] at hd;have:=key hi hhi (x % 64) (by omega);simp[hd,hm,this,-yOQ,-yOX,-yOY];exact hr
def uY (N n:Nat):List Nat:=(List.range n).filter N.testBit
theorem l106 (D N n:Nat) (hN:N < 2^128) (hn:n<=128) (S):∀(j i:Nat) (acc:List Nat) (τ ω) (r:AV),i+j=n->acc.length<=i->
  τ 2= .ptr D 2 1 0->ω 2=(1,.cells (encW N))->τ 5= .sl 1 (acc.map encN) .tip->τ 8= .int .i64 n->τ 9= .int .i64 i->r= .sl 1 ((acc++(List.range' i j).filter N.testBit).map encN) .no->
  Rd (Loc Pg Gl) .im (RetM [.tmp 4] r D S []) [.lp c106_l0,.blk 0,.c zAH] (stF 21 D τ ω S):=by
 intro j
 induction j with
 | zero=>
  intro i acc τ ω r hi ha h2 w2 h5 h8 h9 hr;refine zN c106_l0.eq_1 ?_;obtain rfl:i=n:=by omega
  simp[h5,h8,h9,zAH,hr,upds]
 | succ j ih=>
  intro i acc τ ω r hi ha h2 w2 h5 h8 h9 hr;refine zN c106_l0.eq_1 ?_;have hlt:i < n:=by omega
  have hwr:IntKind.i64.wrap ((i:Int)+1)=((i+1:Nat):Int):=by rw[<-zL (n:=i+1) (by omega)];rfl
  rw[List.range'_succ,List.filter_cons] at hr;simp[h2,w2,h5,h8,h9,hlt,encW];refine zE (zHF _ N i hN (by omega)) (by simp[encT,encW]) ?_;have hle:(acc.length+1)*8<=1099511627776:=by omega
  cases hb:N.testBit i with
  | false=>
   rw[hb] at hr;simp[h5,h9,hwr];refine ih (i+1) acc _ _ r (by omega) (by omega) ?_ ?_ ?_ ?_ ?_ (by simpa using hr);all_goals simp[h2,w2,h5,h8,encW]
  | true=>
   rw[hb] at hr;simp[h5,h9,hwr,hle];refine ih (i+1) (acc++[i]) _ _ r (by omega) (by simp;omega) ?_ ?_ ?_ ?_ ?_ (by rw[hr];simp);all_goals simp[h2,w2,h5,h8,encW,encN]
theorem zHO (D N n:Nat) (hN:N < 2^128) (hn:n<=128):Go.Ab.Loc Pg Gl D 106 [encT N,.int .i64 n] [] (.sl 1 ((uY N n).map encN) .no) []:=by
 refine yH zF tok rfl rfl fun S _=> ?_;unfold c106;generalize hr:AV.sl 1 ((uY N n).map encN) .no=r;simp[encT,encW];refine l106 D N n hN hn S n 0 [] _ _ r (by simp) (by simp) ?_ ?_ ?_ ?_ ?_ (by rw[<-hr,uY,List.range_eq_range'];simp);all_goals simp[encW]
end Go.Ab.Tab
/- The machine that evaluates formulas: newMachine. -/
namespace Go.Ab.Tab
open Go Go.Ab
def tM (f:Fu) (nx:List Va) (all:Nat) (env:List Nat):List AV:=
 [.int .i64 f.k,.int .i64 f.n,.sl 3 (f.gs.map encF) .no,.sl 3 (nx.map encV) .no]++encW all++env.flatMap encW
def allT:Nat->Nat
 | 0=>0
 | n+1=>allT n ||| 2^n
theorem nV:∀{n:Nat},n<=128->allT n < 2^128
 | 0,_=>by decide
 | n+1,h=>yBS (nV (by omega)) (by omega)
theorem sP:∀(n i:Nat),(allT n).testBit i=decide (i < n)
 | 0,i=>by simp[allT]
 | n+1,i=>by
  rw[allT,yOU,sP n i,yPF];by_cases h1:i < n
  ·simp[h1,show i < n+1 by omega]
  ·by_cases h2:n=i
   ·simp[h1,h2]
   ·simp[h1,h2,show¬i < n+1 by omega]
theorem zEW:([0,0,0,0]:List Nat).flatMap encW= [.int .u64 0,.int .u64 0,.int .u64 0,.int .u64 0,.int .u64 0,.int .u64 0,.int .u64 0,.int .u64 0]:=rfl
theorem m103 (D d0 A g0:Nat) (hd:d0 < D) (f:Fu) (nx:List Va) (hn:nx.length<=128) (S0:Nat->Nat->Ent):∀(j i:Nat) (τ ω),i+j=nx.length->
  τ 3= .ptr d0 A (g0+1) 0->τ 10= .int .i64 nx.length->τ 11= .int .i64 i->
  Rd (Loc Pg Gl) .pl (CloQ d0 [.tmp 2] (.ptr d0 A (g0+1) 0) D S0 [(d0,A,(g0+1,.cells (tM f nx (allT nx.length) [0,0,0,0])))]) [.lp c103_l0,.blk 0,.c zAI]
   (stF 25 D τ ω (updS S0 d0 A (g0+1,.cells (tM f nx (allT i) [0,0,0,0])))):=by
 have hne:¬d0=D:=by omega
 intro j
 induction j with
 | zero=>
  intro i τ ω hi h3 h10 h11;refine zN c103_l0.eq_1 ?_;obtain rfl:i=nx.length:=by omega
  simp[h3,h10,h11,zAI,resC,frzC]
 | succ j ih=>
  intro i τ ω hi h3 h10 h11;refine zN c103_l0.eq_1 ?_;have hlt:i < nx.length:=by omega
  have hwr:IntKind.i64.wrap ((i:Int)+1)=((i+1:Nat):Int):=by rw[<-zL (n:=i+1) (by omega)];rfl
  simp[h3,h10,h11,hlt,hne,tM,zEW];have e:encW (allT i)= [.int .u64 ((allT i % 2^64:Nat):Int),.int .u64 ((allT i / 2^64:Nat):Int)]:=rfl;have e':encW (allT (i+1))= [.int .u64 ((allT (i+1) % 2^64:Nat):Int),.int .u64 ((allT (i+1) / 2^64:Nat):Int)]:=rfl;rw[e];simp[-yOQ,-yOY];refine zE (zPI (D+1) (allT i) i (nV (by omega)) (by omega)) (by simp[encT,encW]) ?_;simp[encT,encW,hne,h11,hwr,-yOQ,-yOY];refine ih (i+1) _ ω (by omega) ?_ ?_ ?_;all_goals simp[h3,h10]
theorem zSX (D d0 A g0:Nat) (o:Ob) (hd:d0 < D) (s:Sy) (hn:s.m.length<=128):
  Go.Ab.Loc Pg Gl D 103 [encY s] [(d0,A,(g0,o))] (.ptr d0 A (g0+1) 0) [(d0,A,(g0+1,.cells (tM s.f s.m (allT s.m.length) [0,0,0,0])))]:=by
 refine xZ (d1:=d0) zF tok rfl .pl (by simp) rfl hd (by simp) trivial fun S hS=> ?_;have h0:=(hS _ (yOC ..)).2;simp only at h0;have hne:¬d0=D:=by omega
 unfold c103;simp[encY];refine zLS (by decide) (by simp) ?_;simp;refine zLR d0 A hd (by simp) ?_;simp[h0];refine m103 D d0 A g0 hd s.f s.m hn S s.m.length 0 _ _ (by simp) ?_ ?_ ?_;all_goals simp
end Go.Ab.Tab
/- What valid values look like; what formulas are true of. -/
namespace Go.Ab.Tab
open Go Go.Ab
theorem vS {n:Nat} {v:Va} {f:Fu} (hf:zH f=true) (h:valN n v f=true):
  (f.k=0/\0<=v.n/\v.n < n)\/(f.k=1)\/(f.k=2/\∃a b g1 g2,v.gs= [a,b]/\f.gs= [g1,g2]/\valN n a g1=true/\valN n b g2=true)\/
  (f.k=3/\∃a g1 g2,v.gs= [a]/\f.gs= [g1,g2]/\((v.n=0/\valN n a g1=true)\/(v.n=1/\valN n a g2=true)))\/
  (f.k=4/\v.gs.length=f.n.toNat/\∃g,f.gs= [g]/\∀a∈v.gs,valN n a g=true)\/
  ((f.k=5\/f.k=6\/f.k=7)/\(∃g,f.gs= [g]/\∀a∈v.gs,valN n a g=true)/\(f.k=5->v.ws= [])/\(f.k≠5->v.ws.length=v.gs.length/\wOk 0 v.ws=true)):=by
 rw[zBB] at h;simp only[yOB] at h;obtain ⟨hok,hset,hvs⟩:=h;unfold okV at hok;simp only[yOB] at hok;obtain ⟨hpo,hnum,hw⟩:=hok;have hpo':=hpo;unfold wE at hpo';simp only[yOB,Bool.not_eq_true',yRP] at hpo';obtain ⟨hp1,hpl⟩:=hpo';unfold oD at hnum;simp only[yOB,yRP] at hnum;have hf':=hf;rw[Fu.eta f] at hf';have hk:f.k=0\/f.k=1\/f.k=2\/f.k=3\/f.k=4\/f.k=5\/f.k=6\/f.k=7:=by
  rw[zH] at hf';simp only[yOB,yRP] at hf';have h1:=hf'.1;unfold arK at h1;by_cases q0:f.k=0\/f.k=1
  ·omega
  ·rw[yRN q0] at h1;by_cases q1:f.k=4\/f.k=5\/f.k=6\/f.k=7
   ·omega
   ·rw[yRN q1] at h1;by_cases q2:f.k=2\/f.k=3
    ·omega
    ·rw[yRN q2] at h1;omega
 have rep:∀g,(∃m,zY f v=yPG m g)->∀a∈v.gs,valN n a g=true:=by
  rintro g ⟨m,e⟩ a ha;obtain ⟨i,hi,rfl⟩:=yPO ha;have:=lE hvs i hi (by rw[hpl];exact hi);simp only[e,List.getElem_replicate] at this;exact this
 rcases hk with k | k | k | k | k | k | k | k
 ·exact .inl ⟨k,hnum.1,by have:=hnum.2;rw[yRO k] at this;omega⟩
 ·exact .inr (.inl k)
 ·obtain ⟨x,y,e⟩:=sR hf' (.inl k);have hp:zY f v= [x,y]:=by unfold zY;rw[yRN (by omega),yRO k,e]
  rw[hp] at hpl hvs;rcases hg:v.gs with _ | ⟨a,_ | ⟨b,_ | ⟨c,l⟩⟩⟩<;>rw[hg] at hpl hvs<;>simp at hpl
  simp only[vZ,yOB] at hvs;exact .inr (.inr (.inl ⟨k,a,b,x,y,rfl,e,hvs.1,hvs.2.1⟩))
 ·obtain ⟨x,y,e⟩:=sR hf' (.inr k);have hn:v.n=0\/v.n=1:=by
   have:=hnum.2;rw[yRN (by omega),yRN (by omega),yRO k] at this;omega
  have hp:zY f v=(if v.n=0 then [x] else [y]):=by
   unfold zY;rw[yRN (by omega),yRN (by omega),yRO k,yRN (by omega),e];rcases hn with q | q<;>simp[q]
  rw[hp] at hpl hvs;refine .inr (.inr (.inr (.inl ⟨k,?_⟩)));rcases hn with q | q
  ·rw[yRO q] at hpl hvs;rcases hg:v.gs with _ | ⟨a,_ | ⟨b,l⟩⟩<;>rw[hg] at hpl hvs<;>simp at hpl
   simp only[vZ,yOB] at hvs;exact ⟨a,x,y,rfl,e,.inl ⟨q,hvs.1⟩⟩
  ·rw[yRN (by omega)] at hpl hvs;rcases hg:v.gs with _ | ⟨a,_ | ⟨b,l⟩⟩<;>rw[hg] at hpl hvs<;>simp at hpl
   simp only[vZ,yOB] at hvs;exact ⟨a,x,y,rfl,e,.inr ⟨q,hvs.1⟩⟩
 ·obtain ⟨x,e⟩:=uH hf' (by omega);have hp:zY f v=yPG f.n.toNat x:=by
   unfold zY;rw[yRN (by omega),yRN (by omega),yRN (by omega),yRO k,e];rfl
  exact .inr (.inr (.inr (.inr (.inl ⟨k,by rw[<-hpl,hp,List.length_replicate],x,e,rep x ⟨_,hp⟩⟩))))
 all_goals
  obtain ⟨x,e⟩:=uH hf' (by omega);have hp:zY f v=yPG v.gs.length x:=by
   unfold zY;rw[yRN (by omega),yRN (by omega),yRN (by omega),yRN (by omega),e];rfl
  refine .inr (.inr (.inr (.inr (.inr ⟨by omega,⟨x,e,rep x ⟨_,hp⟩⟩,fun h5=> ?_,fun h5=> ?_⟩))))
  ·unfold yU at hw;have:wtd f.k=false:=by unfold wtd;rw[h5];rfl
   rw[this] at hw;simpa using hw
  ·unfold yU at hw;have:wtd f.k=true:=by unfold wtd;simp;omega
   rw[this] at hw;simp only[if_true,yOB,yRP] at hw;exact ⟨hw.2.1,hw.1⟩
def wSum (p:Va->Bool):List Va->List Int->Int
 | v::l,w::ws=>(if p v then w else 0)+wSum p l ws
 | _,_=>0
def oneB (o n m:Int) (p:Va->Bool) (v:Va):Bool:=
 if o=1 then !p v
 else if o=6 then p (v.gs.getD 0 v0)
 else if o=7 then p (v.gs.getD 1 v0)
 else if o=8 then decide (v.n=0)&&p (v.gs.getD 0 v0)
 else if o=9 then decide (v.n=1)&&p (v.gs.getD 0 v0)
 else if o=10 then p (v.gs.getD n.toNat v0)
 else if o=12 then decide (n<=wSum p v.gs v.ws)
 else if o=13 then decide (n*wSum (fun _=>true) v.gs v.ws<=wSum p v.gs v.ws*m)
 else v.gs.any p
def rB (p:Va->Bool):Nat->List Va->Nat
 | _,[]=>0
 | i,v::l=>(if p v then 2^i else 0) ||| rB p (i+1) l
mutual
def evS (nx:List Va) (env:List Nat):Fm->Nat
 | .mk o n m ar=>
  if o=0 then allT nx.length
  else if o=14 then env.getD n.toNat 0
  else if o=1 then allT nx.length ^^^ (allT nx.length &&& (evSs nx env ar).getD 0 0)
  else if o=2 then (evSs nx env ar).getD 0 0 &&& (evSs nx env ar).getD 1 0
  else rB ((prBs nx env ar).getD 0 fun _=>false) 0 nx
def evSs (nx:List Va) (env:List Nat):List Fm->List Nat
 | []=>[]
 | a::l=>evS nx env a::evSs nx env l
def prB (nx:List Va) (env:List Nat):Fm->Va->Bool
 | .mk o n m ar=>
  if o=0 then fun _=>true
  else if o=5 then fun v=>decide (v.n=n)
  else if o=4 then fun v=>((evSs nx env ar).getD 0 0).testBit v.n.toNat
  else if o=2 then fun v=>(prBs nx env ar).getD 0 (fun _=>false) v&&(prBs nx env ar).getD 1 (fun _=>false) v
  else oneB o n m ((prBs nx env ar).getD 0 fun _=>false)
def prBs (nx:List Va) (env:List Nat):List Fm->List (Va->Bool)
 | []=>[]
 | a::l=>prB nx env a::prBs nx env l
end
theorem xF (nx env o n m ar):evS nx env (.mk o n m ar)=if o=0 then allT nx.length
  else if o=14 then env.getD n.toNat 0
  else if o=1 then allT nx.length ^^^ (allT nx.length &&& (evSs nx env ar).getD 0 0)
  else if o=2 then (evSs nx env ar).getD 0 0 &&& (evSs nx env ar).getD 1 0
  else rB ((prBs nx env ar).getD 0 fun _=>false) 0 nx:=by rw[evS]
theorem xN (nx env o n m ar):prB nx env (.mk o n m ar)=if o=0 then fun _=>true
  else if o=5 then fun v=>decide (v.n=n)
  else if o=4 then fun v=>((evSs nx env ar).getD 0 0).testBit v.n.toNat
  else if o=2 then fun v=>(prBs nx env ar).getD 0 (fun _=>false) v&&(prBs nx env ar).getD 1 (fun _=>false) v
  else oneB o n m ((prBs nx env ar).getD 0 fun _=>false):=by rw[prB]
theorem yP (nx env a l):evSs nx env (a::l)=evS nx env a::evSs nx env l:=by rw[evSs]
theorem yL (nx env a l):prBs nx env (a::l)=prB nx env a::prBs nx env l:=by rw[prBs]
theorem rA (p:Va->Bool):∀(l:List Va) (i x:Nat),(rB p i l).testBit x=(decide (i<=x/\x < i+l.length)&&p (l.getD (x - i) v0))
 | [],i,x=>by
  simp[rB];omega
 | v::l,i,x=>by
  rw[rB,yOU,rA p l (i+1) x];by_cases h:i=x
  ·subst h;have h0:decide (i+1<=i/\i < i+1+l.length)=false:=decide_eq_false (by omega);have h1:decide (i<=i/\i < i+(v::l).length)=true:=decide_eq_true (by simp);rw[h0,h1,Nat.sub_self];cases hp:p v<;>simp[yPF,hp]
  ·have h1:(if p v=true then 2^i else 0).testBit x=false:=by
    cases p v<;>simp[yPF,h]
   rw[h1,yOT];by_cases h2:i<=x
   ·rw[show x - i=(x - (i+1))+1 by omega];simp only[yPP,yPB];congr 1;exact decide_eq_decide.2 (by omega)
   ·simp[h2,show¬i+1<=x by omega]
theorem zBM (p:Va->Bool):∀(l:List Va) (i:Nat),i+l.length<=128->rB p i l < 2^128
 | [],_,_=>by rw[rB];decide
 | v::l,i,h=>by
  simp at h;rw[rB];refine yPM ?_ (zBM p l (i+1) (by omega));cases p v
  ·simp
  ·simp only[if_true];exact yOP (by decide) (by omega)
theorem zCW (nx:List Va) (env:List Nat) (hn:nx.length<=128) (he:∀e∈env,e < 2^128):∀a,evS nx env a < 2^128:=by
 refine Fm.ind' fun o n m ar ih=> ?_;have hs:∀i,(evSs nx env ar).getD i 0 < 2^128:=by
  intro i;have:∀(l:List Fm),(∀a∈l,evS nx env a < 2^128)->∀i,(evSs nx env l).getD i 0 < 2^128:=by
   intro l
   induction l with
   | nil=>intro _ i;simp[evSs]
   | cons a l ihl=>
    intro h i;rw[yP];cases i with
    | zero=>simpa using h a (by simp)
    | succ i=>simpa using ihl (fun b hb=>h b (by simp[hb])) i
  exact this ar ih i
 rw[xF];have ha:=nV hn;split
 ·exact ha
 ·split
  ·rw[List.getD_eq_getElem?_getD];cases hx:env[n.toNat]? with
   | none=>simp
   | some e=>exact he e (List.mem_of_getElem? hx)
  ·split
   ·exact Nat.xor_lt_two_pow ha (yPQ _ (hs 0))
   ·split
    ·exact yPQ _ (hs 1)
    ·exact zBM _ _ _ (by omega)
end Go.Ab.Tab
/- What operators with one argument are true of: one. -/
namespace Go.Ab.Tab
open Go Go.Ab
def ClP (h N:Nat) (g:Fu) (p:AV) (φ:Va->Bool):Prop:=∃F caps,p= .fn F caps/\F≠yid/\caps.map AV.strip=caps/\caps.all (AV.upto h 18)=true/\
 ∀(D:Nat) (v:Va),h < D->valN N v g=true->zJ v<=2000->Go.Ab.Loc Pg Gl D F ([encV v]++caps) [] (.bool (φ v)) []
theorem uN {l:List Va} {i:Nat} (h:i < l.length):zJ l[i]<=zI l:=by
 induction l generalizing i with
 | nil=>simp at h
 | cons a l ih=>
  rw[zI];cases i with
  | zero=>simp
  | succ i=>have:=ih (i:=i) (by simpa using h);simp only[List.getElem_cons_succ];omega
theorem wJ:∀(l:List Va),l.length<=zI l
 | []=>by simp
 | b::l=>by
  rw[zI,yPB];have:=wJ l;have:1<=zJ b:=by cases b;rw[zJ];omega
  omega
theorem xQ (v:Va):zI v.gs+1<=zJ v:=by cases v;rw[zJ];simp only[Va.gs];omega
def finB (o n m:Int) (sm:Bool) (sum all:Int):Bool:=if o=12 then decide (n<=sum) else if o=13 then decide (n*all<=sum*m) else sm
theorem m163 (D h N:Nat) (hD:h < D) (g:Fu) (p:AV) (φ:Va->Bool) (hp:ClP h N g p φ) (o n m:Int) (as':List Fm) (hnm:o=13->0<=n/\n<=1048576/\0<=m/\m<=1048576) (v:Va) (hg:∀a∈v.gs,valN N a g=true) (hnod:zJ v<=2000) (hw:v.ws= []\/v.ws.length=v.gs.length) (S):
  ∀(j i:Nat) (sm:Bool) (sum all:Int) (τ ω) (r:AV),i+j=v.gs.length->0<=sum->sum<=all->all<=1048576->wOk all (v.ws.drop i)=true->
  τ 1=p->τ 3= .ptr D 3 1 0->ω 3=(1,.cells [.int .i64 o,.int .i64 n,.int .i64 m,.sl 4 (as'.map encM) .no])->τ 5= .ptr D 5 1 0->ω 5=(1,.cells [.int .i64 v.n,.sl 3 (v.gs.map encV) .no,.sl 1 (v.ws.map (AV.int .i64)) .no])->
  τ 7= .bool sm->τ 8= .int .i64 sum->τ 9= .int .i64 all->τ 74= .sl 3 (v.gs.map encV) .no->τ 75= .int .i64 v.gs.length->τ 76= .int .i64 i->
  r= .bool (finB o n m (sm || (v.gs.drop i).any φ) (sum+wSum φ (v.gs.drop i) (v.ws.drop i)) (all+wSum (fun _=>true) (v.gs.drop i) (v.ws.drop i)))->
  Rd (Loc Pg Gl) .im (RetQ [.tmp 6] r S) [.lp c163_l0,.blk 1,.c jP] (stF 128 D τ ω S):=by
 have hgl:v.gs.length<=2000:=by have:=xQ v;have:=wJ v.gs;omega
 obtain ⟨F,caps,rfl,hF,hcs,hup,hcall⟩:=hp;intro j
 induction j with
 | zero=>
  intro i sm sum all τ ω r hi h0 h1 h2 hwk t1 t3 w3 t5 w5 t7 t8 t9 t74 t75 t76 hr;refine zN c163_l0.eq_1 ?_;obtain rfl:i=v.gs.length:=by omega
  rw[yOK] at hr;simp[wSum] at hr;unfold finB at hr;by_cases o12:o=12
  ·subst o12;simp[t3,w3,t7,t8,t9,t74,t75,t76,jP];simpa using hr.symm
  ·by_cases o13:o=13
   ·subst o13;obtain ⟨n1,n2,m1,m2⟩:=hnm rfl;have b1:sum*m<=1048576*1048576:=Int.mul_le_mul (by omega) m2 m1 (by omega);have b2:0<=sum*m:=Int.mul_nonneg h0 m1;have b3:n*all<=1048576*1048576:=Int.mul_le_mul n2 h2 (by omega) (by omega);have b4:0<=n*all:=Int.mul_nonneg n1 (by omega);have e1:IntKind.i64.wrap (sum*m)=sum*m:=vE (by omega) (by omega);have e2:IntKind.i64.wrap (n*all)=n*all:=vE (by omega) (by omega);simp[t3,w3,t7,t8,t9,t74,t75,t76,jP,e1,e2];simpa using hr.symm
   ·simp[t3,w3,t7,t8,t9,t74,t75,t76,jP,o12,o13];simpa[o12,o13] using hr.symm
 | succ j ih=>
  intro i sm sum all τ ω r hi h0 h1 h2 hwk t1 t3 w3 t5 w5 t7 t8 t9 t74 t75 t76 hr;refine zN c163_l0.eq_1 ?_;have hlt:i < v.gs.length:=by omega
  have hwr:IntKind.i64.wrap ((i:Int)+1)=((i+1:Nat):Int):=by rw[<-zL (n:=i+1) (by omega)];rfl
  have hm:=yOL hlt;have hnv:zJ v.gs[i]<=2000:=by have:=uN hlt;have:=xQ v;omega
  rw[yOI hlt,List.any_cons] at hr;simp[t1,t3,w3,t5,w5,t7,t8,t9,t74,t75,t76,hlt,zC v.gs[i]];refine zZ (cap:=caps) (hcall (D+1) v.gs[i] (by omega) (hg _ hm) hnv) (by simp[t1]) (by simp[hcs,zC v.gs[i]]) (by simp) (by simp) ?_ hF;rcases hw with hw | hw
  ·have hw0:v.ws.drop i= []:=by rw[hw];simp
   have hw1:v.ws.drop (i+1)= []:=by rw[hw];simp
   rw[hw0] at hr;have hs0:∀q:Va->Bool,∀l,wSum q l []=0:=fun q l=>by cases l<;>rfl
   rw[hs0,hs0] at hr;cases hsm:sm with
   | false=>
    rw[hsm,yOT] at hr;simp[t3,t5,w5,t7,t8,t9,hsm,hw,t76,hwr];refine ih (i+1) (φ v.gs[i]) sum all _ _ r (by omega) h0 h1 h2 (by rw[hw1];rfl) ?_ ?_ ?_ ?_ ?_ ?_ ?_ ?_ ?_ ?_ ?_ (by rw[hr,hw1,hs0,hs0]);all_goals simp[t1,t3,w3,t5,w5,t8,t9,t74,t75,hw]
   | true=>
    simp[t3,t5,w5,t7,t8,t9,hsm,hw,t76,hwr];refine ih (i+1) true sum all _ _ r (by omega) h0 h1 h2 (by rw[hw1];rfl) ?_ ?_ ?_ ?_ ?_ ?_ ?_ ?_ ?_ ?_ ?_ (by rw[hr,hw1,hs0,hs0,hsm];simp);all_goals simp[t1,t3,w3,t5,w5,t8,t9,t74,t75,hw]
  ·have hlw:i < v.ws.length:=by omega
   have hne:¬v.ws= []:=fun e=>by rw[e] at hlw;simp at hlw
   rw[yOI hlw,wOk] at hwk;simp only[yOB,yRP] at hwk;rw[yOI hlw,wSum,wSum] at hr;have e1:IntKind.i64.wrap (all+v.ws[i])=all+v.ws[i]:=vE (by omega) (by omega);have e2:IntKind.i64.wrap (sum+v.ws[i])=sum+v.ws[i]:=vE (by omega) (by omega);cases hphi:φ v.gs[i] with
   | false=>
    rw[hphi] at hr;cases hsm:sm with
    | false=>
     rw[hsm] at hr;simp[t3,t5,w5,t7,t8,t9,hsm,hne,hlw,hphi,t76,hwr,e1];refine ih (i+1) false sum (all+v.ws[i]) _ _ r (by omega) h0 (by omega) (by omega) hwk.2.2 ?_ ?_ ?_ ?_ ?_ ?_ ?_ ?_ ?_ ?_ ?_ (by rw[hr];simp[yOZ]);all_goals simp[t1,t3,w3,t5,w5,t8,t9,t74,t75,hlw]
    | true=>
     rw[hsm] at hr;simp[t3,t5,w5,t7,t8,t9,hsm,hne,hlw,hphi,t76,hwr,e1];refine ih (i+1) true sum (all+v.ws[i]) _ _ r (by omega) h0 (by omega) (by omega) hwk.2.2 ?_ ?_ ?_ ?_ ?_ ?_ ?_ ?_ ?_ ?_ ?_ (by rw[hr];simp[yOZ]);all_goals simp[t1,t3,w3,t5,w5,t8,t9,t74,t75,hlw]
   | true=>
    rw[hphi] at hr;cases hsm:sm with
    | false=>
     rw[hsm] at hr;simp[t3,t5,w5,t7,t8,t9,hsm,hne,hlw,hphi,t76,hwr,e1,e2];refine ih (i+1) true (sum+v.ws[i]) (all+v.ws[i]) _ _ r (by omega) (by omega) (by omega) (by omega) hwk.2.2 ?_ ?_ ?_ ?_ ?_ ?_ ?_ ?_ ?_ ?_ ?_ (by rw[hr];simp[yOZ]);all_goals simp[t1,t3,w3,t5,w5,t8,t9,t74,t75,hlw]
    | true=>
     rw[hsm] at hr;simp[t3,t5,w5,t7,t8,t9,hsm,hne,hlw,hphi,t76,hwr,e1,e2];refine ih (i+1) true (sum+v.ws[i]) (all+v.ws[i]) _ _ r (by omega) (by omega) (by omega) (by omega) hwk.2.2 ?_ ?_ ?_ ?_ ?_ ?_ ?_ ?_ ?_ ?_ ?_ (by rw[hr];simp[yOZ]);all_goals simp[t1,t3,w3,t5,w5,t8,t9,t74,t75,hlw]
theorem wW {g:Fu} {o n m:Int} (h:inOk g o n m=true):(g.k=2/\o=6)\/(g.k=2/\o=7)\/(g.k=3/\o=8)\/(g.k=3/\o=9)\/(g.k=4/\o=10/\0<=n/\n < g.n)\/(g.k=5/\o=11)\/(g.k=6/\o=12)\/(g.k=7/\o=13/\1<=m/\m<=1048576/\1<=n/\n<=m):=by
 unfold inOk at h;by_cases c1:g.k=2/\o=6\/g.k=3/\o=8\/g.k=2/\o=7\/g.k=3/\o=9\/g.k=5/\o=11
 ·rcases c1 with c | c | c | c | c
  ·exact .inl c
  ·exact .inr (.inr (.inl c))
  ·exact .inr (.inl c)
  ·exact .inr (.inr (.inr (.inl c)))
  ·exact .inr (.inr (.inr (.inr (.inr (.inl c)))))
 ·rw[yRN c1] at h;by_cases c2:g.k=4/\o=10
  ·rw[yRO c2] at h;simp only[yRP] at h;exact .inr (.inr (.inr (.inr (.inl ⟨c2.1,c2.2,h.1,h.2.1⟩))))
  ·rw[yRN c2] at h;by_cases c3:g.k=6/\o=12
   ·exact .inr (.inr (.inr (.inr (.inr (.inr (.inl c3))))))
   ·rw[yRN c3] at h;by_cases c4:g.k=7/\o=13
    ·rw[yRO c4] at h;simp only[yRP] at h;exact .inr (.inr (.inr (.inr (.inr (.inr (.inr ⟨c4.1,c4.2,h⟩))))))
    ·rw[yRN c4] at h;cases h
set_option maxHeartbeats 1000000 in
theorem zSG (D h N:Nat) (hD:h < D) (g:Fu) (hg:zH g=true) (p:AV) (φ:Va->Bool) (o n m:Int) (ar:List Fm) (ho:o=1\/inOk g o n m=true) (hp:ClP h N (if o=1 then g else inF g o) p φ) (v:Va) (hv:valN N v g=true) (hnod:zJ v<=2000):
  Go.Ab.Loc Pg Gl D 163 [encM (.mk o n m ar),p,encV v] [] (.bool (oneB o n m φ v)) []:=by
 have hgl:v.gs.length<=2000:=by have:=xQ v;have:=wJ v.gs;omega
 refine zP zF tok rfl rfl fun S=> ?_;have hp0:=hp;obtain ⟨F,caps,e,hF,hcs,hup,hcall⟩:=hp;subst e;unfold c163;generalize hr:AV.bool (oneB o n m φ v)=r;rw[zG,zC];have hany:=vS hg hv;have hd1:∀a∈v.gs,zJ a<=2000:=by
  intro a ha;obtain ⟨i,hi,rfl⟩:=yPO ha;have:=uN hi;have:=xQ v;omega
 rcases ho with rfl | hi
 ·simp only[if_true] at hcall;simp;refine zZ (cap:=caps) (hcall (D+1) v (by omega) hv hnod) (by simp) (by simp[hcs,zC v]) (by simp) (by simp) ?_ hF;simp[oneB] at hr;simp[<-hr]
 have hi':=wW hi;rcases hi' with ⟨hk,rfl⟩ | ⟨hk,rfl⟩ | ⟨hk,rfl⟩ | ⟨hk,rfl⟩ | ⟨hk,rfl,hn1,hn2⟩ | ⟨hk,rfl⟩ | ⟨hk,rfl⟩ | ⟨hk,rfl,hm1,hm2,hn1,hn2⟩
 ·obtain ⟨_,a,b,g1,g2,e1,e2,v1,v2⟩:=(hany.resolve_left (by omega)).resolve_left (by omega) |>.resolve_right (by omega);have e3:inF g 6=g1:=by simp[inF,hk,e2]
  simp[e3] at hcall;have ha:=hd1 a (by rw[e1];simp);simp[e1,zC a];refine zZ (cap:=caps) (hcall (D+1) a (by omega) v1 ha) (by simp) (by simp[hcs,zC a]) (by simp) (by simp) ?_ hF;simp[oneB,e1] at hr;simp[<-hr]
 ·obtain ⟨_,a,b,g1,g2,e1,e2,v1,v2⟩:=(hany.resolve_left (by omega)).resolve_left (by omega) |>.resolve_right (by omega);have e3:inF g 7=g2:=by simp[inF,hk,e2]
  simp[e3] at hcall;have ha:=hd1 b (by rw[e1];simp);simp[e1,zC b];refine zZ (cap:=caps) (hcall (D+1) b (by omega) v2 ha) (by simp) (by simp[hcs,zC b]) (by simp) (by simp) ?_ hF;simp[oneB,e1] at hr;simp[<-hr]
 ·obtain ⟨_,a,g1,g2,e1,e2,hc⟩:=(((hany.resolve_left (by omega)).resolve_left (by omega)).resolve_left (by omega)).resolve_right (by omega);have e3:inF g 8=g1:=by simp[inF,hk,e2]
  simp[e3] at hcall;have ha:=hd1 a (by rw[e1];simp);rcases hc with ⟨hn,v1⟩ | ⟨hn,v1⟩
  ·simp[e1,hn,zC a];refine zZ (cap:=caps) (hcall (D+1) a (by omega) v1 ha) (by simp) (by simp[hcs,zC a]) (by simp) (by simp) ?_ hF;simp[oneB,e1,hn] at hr;simp[<-hr]
  ·simp[e1,hn];simp[oneB,e1,hn] at hr;exact hr
 ·obtain ⟨_,a,g1,g2,e1,e2,hc⟩:=(((hany.resolve_left (by omega)).resolve_left (by omega)).resolve_left (by omega)).resolve_right (by omega);have e3:inF g 9=g2:=by simp[inF,hk,e2]
  simp[e3] at hcall;have ha:=hd1 a (by rw[e1];simp);rcases hc with ⟨hn,v1⟩ | ⟨hn,v1⟩
  ·simp[e1,hn];simp[oneB,e1,hn] at hr;exact hr
  ·simp[e1,hn,zC a];refine zZ (cap:=caps) (hcall (D+1) a (by omega) v1 ha) (by simp) (by simp[hcs,zC a]) (by simp) (by simp) ?_ hF;simp[oneB,e1,hn] at hr;simp[<-hr]
 ·obtain ⟨_,hl,x,e2,hx⟩:=((((hany.resolve_left (by omega)).resolve_left (by omega)).resolve_left (by omega)).resolve_left (by omega)).resolve_right (by omega);have e3:inF g 10=x:=by simp[inF,hk,e2]
  simp[e3] at hcall;obtain ⟨i,rfl⟩:∃i:Nat,n=i:=⟨n.toNat,by omega⟩;have hlt:i < v.gs.length:=by omega
  have hm:=yOL hlt;simp[hlt,zC v.gs[i]];refine zZ (cap:=caps) (hcall (D+1) v.gs[i] (by omega) (hx _ hm) (hd1 _ hm)) (by simp) (by simp[hcs,zC v.gs[i]]) (by simp) (by simp) ?_ hF;simp[oneB,hlt] at hr;simp[<-hr]
 ·obtain ⟨_,⟨x,e2,hx⟩,hw1,hw2⟩:=((((hany.resolve_left (by omega)).resolve_left (by omega)).resolve_left (by omega)).resolve_left (by omega)).resolve_left (by omega);have e3:inF g 11=x:=by simp[inF,hk,e2]
  simp[e3] at hp0;simp;refine m163 D h N hD x _ φ hp0 11 n m ar (by omega) v hx hnod (.inl (hw1 hk)) S v.gs.length 0 false 0 0 _ _ r (by simp) (by simp) (by simp) (by omega) (by rw[hw1 hk];rfl) ?_ ?_ ?_ ?_ ?_ ?_ ?_ ?_ ?_ ?_ ?_ (by rw[<-hr];simp[oneB,finB]);all_goals simp
 ·obtain ⟨_,⟨x,e2,hx⟩,hw1,hw2⟩:=((((hany.resolve_left (by omega)).resolve_left (by omega)).resolve_left (by omega)).resolve_left (by omega)).resolve_left (by omega);have e3:inF g 12=x:=by simp[inF,hk,e2]
  obtain ⟨w1,w2⟩:=hw2 (by omega);simp[e3] at hp0;simp;refine m163 D h N hD x _ φ hp0 12 n m ar (by omega) v hx hnod (.inr w1) S v.gs.length 0 false 0 0 _ _ r (by simp) (by simp) (by simp) (by omega) (by simpa using w2) ?_ ?_ ?_ ?_ ?_ ?_ ?_ ?_ ?_ ?_ ?_ (by rw[<-hr];simp[oneB,finB]);all_goals simp
 ·obtain ⟨_,⟨x,e2,hx⟩,hw1,hw2⟩:=((((hany.resolve_left (by omega)).resolve_left (by omega)).resolve_left (by omega)).resolve_left (by omega)).resolve_left (by omega);have e3:inF g 13=x:=by simp[inF,hk,e2]
  obtain ⟨w1,w2⟩:=hw2 (by omega);simp[e3] at hp0;simp;refine m163 D h N hD x _ φ hp0 13 n m ar (by omega) v hx hnod (.inr w1) S v.gs.length 0 false 0 0 _ _ r (by simp) (by simp) (by simp) (by omega) (by simpa using w2) ?_ ?_ ?_ ?_ ?_ ?_ ?_ ?_ ?_ ?_ ?_ (by rw[<-hr];simp[oneB,finB]);all_goals simp
end Go.Ab.Tab
/- The functions that formulas are compiled to. -/
namespace Go.Ab.Tab
open Go Go.Ab
abbrev Mm (d0 A gA:Nat) (f:Fu) (nx:List Va) (env:List Nat):Nat×Nat×Ent:=(d0,A,(gA,.cells (tM f nx (allT nx.length) env)))
def zUV (env:List Nat):Prop:=env.length=4/\∀e∈env,e < 2^128
def ClV (d0 A gA:Nat) (f:Fu) (nx:List Va) (g:Fu) (c:AV) (a:Fm):Prop:=∃F caps,c= .fn F caps/\F≠yid/\caps.map AV.strip=caps/\caps.all (AV.upto d0 18)=true/\
 ∀(D:Nat) (env:List Nat),d0 < D->zUV env->∃p,Go.Ab.Loc Pg Gl D F caps [Mm d0 A gA f nx env] p []/\ClP d0 nx.length g p (prB nx env a)
def ClS (d0 A gA:Nat) (f:Fu) (nx:List Va) (c:AV) (a:Fm):Prop:=∃F caps,c= .fn F caps/\F≠yid/\caps.map AV.strip=caps/\caps.all (AV.upto d0 18)=true/\
 ∀(D:Nat) (env:List Nat),d0 < D->zUV env->Go.Ab.Loc Pg Gl D F caps [Mm d0 A gA f nx env] (encT (evS nx env a)) []
@[simp] theorem zWW (D d j g off:Nat):AV.upto D 18 (AV.ptr d j g off)=decide (d<=D):=rfl
@[simp] theorem zWX (D:Nat) (kd:IntKind) (i:Int):AV.upto D 18 (AV.int kd i)=true:=rfl
@[simp] theorem zZI (D:Nat) (z:Nat) (xs:List AV) (t:Tip):AV.upto D 18 (AV.sl z xs t)=true:=rfl
theorem fn20 {d:Nat} {F:FuncId} {caps:List AV} (h:caps.all (AV.upto d 18)=true):AV.upto d 20 (.fn F caps)=true:=by
 show caps.all (AV.upto d 19)=true
 rw[yOM] at h|-;intro c hc;have:=h c hc;revert this;have:∀n (b:AV),b.upto d n=true->b.upto d (n+1)=true:=by
  intro n
  induction n with
  | zero=>intro b h;simp[AV.upto] at h
  | succ n ih=>
   intro b h;cases b with
   | agg cs=>simp only[AV.upto,yOM] at h|-;exact fun c hc=>ih c (h c hc)
   | tup cs=>simp only[AV.upto,yOM] at h|-;exact fun c hc=>ih c (h c hc)
   | fn f cs=>simp only[AV.upto,yOM] at h|-;exact fun c hc=>ih c (h c hc)
   | meth f cs=>simp only[AV.upto,yOM] at h|-;exact fun c hc=>ih c (h c hc)
   | ifc t v=>simp only[AV.upto] at h|-;exact ih v h
   | _=>exact h
 exact this 18 c
theorem fnUp {d D:Nat} {caps:List AV} (h:caps.all (AV.upto d 18)=true) (hd:d<=D):(∀x∈caps,AV.upto D 19 x=true)=True:=by
 refine eq_true ?_;have:=fn20 (F:=0) h;simp at this;exact fun x hx=>AV.upto_mono hd 19 (this x hx)
def bxM (h:Nat) (a:Fm):AV:= .bx h [.int .i64 a.o,.int .i64 a.n,.int .i64 a.m,.sl 4 (a.ar.map encM) .no] 0
theorem zWH (h N:Nat) (g:Fu):ClP h N g (.fn 154 []) fun _=>true:=by
 refine ⟨154,[],rfl,by decide,rfl,rfl,fun D v hD hv hn=> ?_⟩;refine zP zF tok rfl rfl fun S=> ?_;unfold c154;simp[zC v]
theorem yEZ (h N:Nat) (g:Fu) (a:Fm):ClP h N g (.fn 156 [bxM h a]) fun v=>decide (v.n=a.n):=by
 refine ⟨156,_,rfl,by decide,rfl,by simp[bxM],fun D v hD hv hn=> ?_⟩;refine zP zF tok rfl rfl fun S=> ?_;unfold c156;simp[zC v,bxM]
theorem zLY (h N:Nat) (hN:N<=128) (g:Fu) (hg:zH g=true) (hk:g.k=0) (s:Nat) (hs:s < 2^128):ClP h N g (.fn 158 [.bx h (encW s) 0]) fun v=>s.testBit v.n.toNat:=by
 refine ⟨158,_,rfl,by decide,rfl,by simp,fun D v hD hv hn=> ?_⟩;refine zP zF tok rfl rfl fun S=> ?_;have hb:0<=v.n/\v.n < N:=by
  rcases vS hg hv with h | h | h | h | h | h<;>first | exact h.2 | omega
 obtain ⟨x,hx⟩:∃x:Nat,v.n=x:=⟨v.n.toNat,by omega⟩;unfold c158;simp[zC v,encW,hx];refine zE (zHF _ s x hs (by omega)) (by simp[encT,encW]) ?_;simp
theorem zWJ {h N:Nat} {g:Fu} {p q:AV} {φ ψ:Va->Bool} (hp:ClP h N g p φ) (hq:ClP h N g q ψ):ClP h N g (.fn 160 [.bx h [p] 0,.bx h [q] 0]) fun v=>φ v&&ψ v:=by
 obtain ⟨F,caps,rfl,hF,hcs,hup,hcall⟩:=hp;obtain ⟨F',caps',rfl,hF',hcs',hup',hcall'⟩:=hq;refine ⟨160,_,rfl,by decide,rfl,by simp,fun D v hD hv hn=> ?_⟩;refine zP zF tok rfl rfl fun S=> ?_;unfold c160;simp[zC v];refine zZ (cap:=caps) (hcall (D+1) v (by omega) hv hn) (by simp) (by simp[hcs,zC v]) (by simp) (by simp) ?_ hF;cases hb:φ v with
 | false=>simp
 | true=>
  simp[zC v];refine zZ (cap:=caps') (hcall' (D+1) v (by omega) hv hn) (by simp) (by simp[hcs',zC v]) (by simp) (by simp) ?_ hF';simp
theorem zWI {h N:Nat} {g:Fu} (hg:zH g=true) {p:AV} {φ:Va->Bool} {o n m:Int} {ar:List Fm} (ho:o=1\/inOk g o n m=true) (hp:ClP h N (if o=1 then g else inF g o) p φ):ClP h N g (.fn 162 [bxM h (.mk o n m ar),.bx h [p] 0]) (oneB o n m φ):=by
 obtain ⟨F,caps,e,hF,hcs,hup,hcall⟩:=id hp;subst e;refine ⟨162,_,rfl,by decide,rfl,by simp[bxM],fun D v hD hv hn=> ?_⟩;refine zP zF tok rfl rfl fun S=> ?_;unfold c162;simp[zC v,bxM,Fm.o,Fm.n,Fm.m,Fm.ar];refine zE (zSG _ h N (by omega) g hg (.fn F caps) φ o n m ar ho hp v hv hn) (by simp[zG,zC v]) ?_;simp
section
variable {d0 A gA:Nat} {f:Fu} {nx:List Va}
theorem zWA (g:Fu) (o n m:Int) (ar:List Fm) (ho:o=0):ClV d0 A gA f nx g (.fn 153 []) (.mk o n m ar):=by
 refine ⟨153,[],rfl,by decide,rfl,rfl,fun D env hD he=>⟨.fn 154 [],?_,?_⟩⟩
 ·refine xZ (d1:=d0) zF tok rfl .im (by simp) rfl hD (by simp) trivial fun S hS=> ?_;unfold c153;simp[resC,frzC,upds]
 ·rw[xN,yRO ho];exact zWH ..
theorem yEY (g:Fu) (o n m:Int) (ar:List Fm) (ho:o=5):ClV d0 A gA f nx g (.fn 155 [bxM d0 (.mk o n m ar)]) (.mk o n m ar):=by
 refine ⟨155,_,rfl,by decide,rfl,by simp[bxM],fun D env hD he=>⟨.fn 156 [bxM d0 (.mk o n m ar)],?_,?_⟩⟩
 ·refine xZ (d1:=d0) zF tok rfl .im (by simp) rfl hD (by simp[bxM]) trivial fun S hS=> ?_;unfold c155;simp[resC,frzC,upds,bxM]
 ·rw[xN,yRN (by omega),yRO ho];exact yEZ ..
theorem zLX (hn:nx.length<=128) {g:Fu} (hg:zH g=true) (hk:g.k=0) {c:AV} {a:Fm} (h:ClS d0 A gA f nx c a) (o n m:Int) (ho:o=4):ClV d0 A gA f nx g (.fn 157 [.bx d0 [c] 0]) (.mk o n m [a]):=by
 obtain ⟨F,caps,rfl,hF,hcs,hup,hcall⟩:=h;refine ⟨157,_,rfl,by decide,rfl,by simp,fun D env hD he=>⟨.fn 158 [.bx d0 (encW (evS nx env a)) 0],?_,?_⟩⟩
 ·have hne:¬d0=D:=by omega
  have hlt:¬D<=d0:=by omega
  refine xZ (d1:=d0) zF tok rfl .im (by simp) rfl hD (by simp) trivial fun S hS=> ?_;unfold c157;simp;refine zZ (cap:=caps) (hcall (D+1) env (by omega) he) (by simp) (by simp[hcs]) (sV hS) (by simp) ?_ hF;simp[encT,encW,resC,frzC,upds,hlt]
 ·rw[xN,yRN (by omega),yRN (by omega),yRO ho,yP];exact zLY d0 nx.length hn g hg hk _ (zCW nx env hn he.2 a)
theorem zWC {g:Fu} {c c':AV} {a a':Fm} (h:ClV d0 A gA f nx g c a) (h':ClV d0 A gA f nx g c' a') (o n m:Int) (ho:o=2):ClV d0 A gA f nx g (.fn 159 [.bx d0 [c] 0,.bx d0 [c'] 0]) (.mk o n m [a,a']):=by
 obtain ⟨F,caps,rfl,hF,hcs,hup,hcall⟩:=h;obtain ⟨F',caps',rfl,hF',hcs',hup',hcall'⟩:=h';refine ⟨159,_,rfl,by decide,rfl,by simp,fun D env hD he=> ?_⟩;obtain ⟨p,hp,hp2⟩:=hcall (D+1) env (by omega) he;obtain ⟨q,hq,hq2⟩:=hcall' (D+1) env (by omega) he;refine ⟨.fn 160 [.bx d0 [p] 0,.bx d0 [q] 0],?_,?_⟩
 ·have hne:¬d0=D:=by omega
  have hne':¬D=d0:=by omega
  have hlt:¬D<=d0:=by omega
  obtain ⟨Fp,cp,rfl,_,hps,hpu,_⟩:=id hp2;obtain ⟨Fq,cq,rfl,_,hqs,hqu,_⟩:=id hq2;have up:=fnUp (D:=D) hpu (by omega);have uq:=fnUp (D:=D) hqu (by omega);have up0:=fnUp hpu (yOG _);have uq0:=fnUp hqu (yOG _);refine xZ (d1:=d0) zF tok rfl .im (by simp) rfl hD (by simp) trivial fun S hS=> ?_;unfold c159;simp;refine z9 (cap:=caps) hp (by simp) (by simp[hcs]) (sV hS) (by simp) ?_ hF;simp;refine z9 (cap:=caps') hq (by simp) (by simp[hcs']) (sV hS) (by simp) ?_ hF';simp[hne,hne',up,uq,up0,uq0,resC,frzC,upds,hlt]
 ·rw[xN,yRN (by omega),yRN (by omega),yRN (by omega),yRO ho,yL,yL];exact zWJ hp2 hq2
theorem zWB {g:Fu} (hg:zH g=true) {c:AV} {a:Fm} {o n m:Int} (ho:o=1\/inOk g o n m=true) (h:ClV d0 A gA f nx (if o=1 then g else inF g o) c a):ClV d0 A gA f nx g (.fn 161 [.bx d0 [c] 0,bxM d0 (.mk o n m [a])]) (.mk o n m [a]):=by
 obtain ⟨F,caps,rfl,hF,hcs,hup,hcall⟩:=h;refine ⟨161,_,rfl,by decide,rfl,by simp[bxM],fun D env hD he=> ?_⟩;obtain ⟨p,hp,hp2⟩:=hcall (D+1) env (by omega) he;have hon:o≠0/\o≠5/\o≠4/\o≠2:=by
  rcases ho with h | h
  ·omega
  ·rcases wW h with c | c | c | c | c | c | c | c<;>omega
 refine ⟨.fn 162 [bxM d0 (.mk o n m [a]),.bx d0 [p] 0],?_,?_⟩
 ·have hne:¬d0=D:=by omega
  have hne':¬D=d0:=by omega
  have hlt:¬D<=d0:=by omega
  obtain ⟨Fp,cp,rfl,_,hps,hpu,_⟩:=id hp2;have up:=fnUp (D:=D) hpu (by omega);have up0:=fnUp hpu (yOG _);refine xZ (d1:=d0) zF tok rfl .im (by simp) rfl hD (by simp[bxM]) trivial fun S hS=> ?_;unfold c161;simp[bxM];refine zZ (cap:=caps) hp (by simp) (by simp[hcs]) (sV hS) (by simp) ?_ hF;simp[hne,hne',up,up0,resC,frzC,upds,hlt]
 ·rw[xN,yRN hon.1,yRN hon.2.1,yRN hon.2.2.1,yRN hon.2.2.2,yL];exact zWI hg ho hp2
theorem zWE (hn:nx.length<=128) (o n m:Int) (ar:List Fm) (ho:o=0):ClS d0 A gA f nx (.fn 128 [.bx d0 [.ptr d0 A gA 0] 0]) (.mk o n m ar):=by
 refine ⟨128,_,rfl,by decide,rfl,by simp,fun D env hD he=> ?_⟩;have hne:¬d0=D:=by omega
 rw[xF,yRO ho];refine yH zF tok rfl rfl fun S hS=> ?_;have h0:=(hS _ (yOC ..)).2;simp only[tM] at h0;unfold c128;simp[hne,h0,encW,encT,upds]
theorem env4 {env:List Nat} (h:env.length=4):∃a b c d,env= [a,b,c,d]:=by
 rcases env with _ | ⟨a,_ | ⟨b,_ | ⟨c,_ | ⟨d,_ | ⟨e,l⟩⟩⟩⟩⟩<;>simp at h
 exact ⟨a,b,c,d,rfl⟩
theorem zWD (o n m:Int) (ar:List Fm) (ho:o=14) (hn0:0<=n) (h4:n < 4):ClS d0 A gA f nx (.fn 129 [.bx d0 [.ptr d0 A gA 0] 0,bxM d0 (.mk o n m ar)]) (.mk o n m ar):=by
 refine ⟨129,_,rfl,by decide,rfl,by simp[bxM],fun D env hD he=> ?_⟩;have hne:¬d0=D:=by omega
 rw[xF,yRN (by omega),yRO ho];obtain ⟨a,b,c,d,rfl⟩:=env4 he.1;have hn:n=0\/n=1\/n=2\/n=3:=by omega
 refine yH zF tok rfl rfl fun S hS=> ?_;have h0:=(hS _ (yOC ..)).2;simp only[tM] at h0;unfold c129;rcases hn with rfl | rfl | rfl | rfl<;>simp[hne,h0,encW,encT,bxM,Fm.n,upds]
theorem zLC (N M:Nat):(N ^^^ (N &&& M)) % 2^64=N % 2^64 ^^^ (N % 2^64 &&& M % 2^64):=by rw[zYM,zQF]
theorem zLD (N M:Nat):(N ^^^ (N &&& M)) / 2^64=N / 2^64 ^^^ (N / 2^64 &&& M / 2^64):=by rw[zYN,zQG]
theorem zWF (hn:nx.length<=128) {c:AV} {a:Fm} (h:ClS d0 A gA f nx c a) (o n m:Int) (ho:o=1):ClS d0 A gA f nx (.fn 130 [.bx d0 [c] 0,.bx d0 [.ptr d0 A gA 0] 0]) (.mk o n m [a]):=by
 obtain ⟨F,caps,rfl,hF,hcs,hup,hcall⟩:=h;refine ⟨130,_,rfl,by decide,rfl,by simp,fun D env hD he=> ?_⟩;have hne:¬d0=D:=by omega
 have hne':¬D=d0:=by omega
 have hs:=zCW nx env hn he.2 a;rw[xF,yRN (by omega),yRN (by omega),yRO ho,yP,yPA];refine yH zF tok rfl rfl fun S hS=> ?_;have h0:=(hS _ (yOC ..)).2;simp only[tM] at h0;unfold c130;unfold encT encW;rw[zLC,zLD];have hal:=W_lo (allT nx.length);have hah:=W_hi (nV hn);have hsl:=W_lo (evS nx env a);have hsh:=W_hi hs;unfold encW at h0;generalize hr:AV.agg [AV.int .u64 ((allT nx.length % 2^64 ^^^ (allT nx.length % 2^64 &&& evS nx env a % 2^64):Nat):Int),AV.int .u64 ((allT nx.length / 2^64 ^^^ (allT nx.length / 2^64 &&& evS nx env a / 2^64):Nat):Int)]=r;generalize hAl:allT nx.length % 2^64=al at*;generalize hAh:allT nx.length / 2^64=ah at*;simp;refine zZ (cap:=caps) (hcall (D+1) env (by omega) he) (by simp) (by simp[hcs]) (sV hS) (by simp) ?_ hF;unfold encT encW;generalize evS nx env a % 2^64=sl at*;generalize evS nx env a / 2^64=sh at*;simp[hne,hne',h0,mM hal hsl,mM hah hsh];exact hr
end
end Go.Ab.Tab
/- The functions that formulas are compiled to: and,step; the compiler. -/
namespace Go.Ab.Tab
open Go Go.Ab
section
variable {d0 A gA:Nat} {f:Fu} {nx:List Va}
theorem zWG (hn:nx.length<=128) {c c':AV} {a a':Fm} (h:ClS d0 A gA f nx c a) (h':ClS d0 A gA f nx c' a') (o n m:Int) (ho:o=2):ClS d0 A gA f nx (.fn 131 [.bx d0 [c] 0,.bx d0 [c'] 0]) (.mk o n m [a,a']):=by
 obtain ⟨F,caps,rfl,hF,hcs,hup,hcall⟩:=h;obtain ⟨F',caps',rfl,hF',hcs',hup',hcall'⟩:=h';refine ⟨131,_,rfl,by decide,rfl,by simp,fun D env hD he=> ?_⟩;have hne:¬d0=D:=by omega
 have hne':¬D=d0:=by omega
 have hs:=zCW nx env hn he.2 a;have hs':=zCW nx env hn he.2 a';rw[xF,yRN (by omega),yRN (by omega),yRN (by omega),yRO ho,yP,yP,yPA,yPP,yPA];refine yH zF tok rfl rfl fun S hS=> ?_;unfold c131;have h1:=W_lo (evS nx env a);have h2:=W_hi hs;have h3:=W_lo (evS nx env a');have h4:=W_hi hs';simp;refine z9 (cap:=caps) (hcall (D+1) env (by omega) he) (by simp) (by simp[hcs]) (sV hS) (by simp) ?_ hF;simp;refine z9 (cap:=caps') (hcall' (D+1) env (by omega) he) (by simp) (by simp[hcs']) (sV hS) (by simp) ?_ hF';unfold encT encW;rw[zQF,zQG];generalize evS nx env a % 2^64=l1 at*;generalize evS nx env a / 2^64=l2 at*;generalize evS nx env a' % 2^64=l3 at*;generalize evS nx env a' / 2^64=l4 at*;simp[hne,hne',jS h1 h3,jS h2 h4,upds]
theorem m133 (D:Nat) (p:AV) (φ:Va->Bool) (hD:d0 < D) (hp:ClP d0 nx.length f p φ) (hn:nx.length<=128) (hnx:∀v∈nx,valN nx.length v f=true/\zJ v<=2000) (S):∀(j i acc:Nat) (τ ω) (r:AV),i+j=nx.length->acc < 2^128->
  τ 2= .ptr D 2 1 0->ω 2=(1,.cells [.int .u64 0,.int .u64 0])->τ 3=p->τ 4= .ptr D 4 1 0->ω 4=(1,.cells (encW acc))->τ 13= .sl 3 (nx.map encV) .no->τ 14= .int .i64 nx.length->τ 15= .int .i64 i->r=encT (acc ||| rB φ i (nx.drop i))->
  Rd (Loc Pg Gl) .im (RetM [.cell 2 true 2] r D S []) [.lp c133_l0,.blk 0,.c zAC] (stF 28 D τ ω S):=by
 obtain ⟨F,caps,rfl,hF,hcs,hup,hcall⟩:=hp;intro j
 induction j with
 | zero=>
  intro i acc τ ω r hi hacc h2 w2 h3 h4 w4 h13 h14 h15 hr;refine zN c133_l0.eq_1 ?_;obtain rfl:i=nx.length:=by omega
  rw[yOK,rB,yPE] at hr;unfold encW at w4;unfold encT encW at hr;simp[h2,w2,h4,w4,h13,h14,h15,zAC,hr,upds]
 | succ j ih=>
  intro i acc τ ω r hi hacc h2 w2 h3 h4 w4 h13 h14 h15 hr;refine zN c133_l0.eq_1 ?_;have hlt:i < nx.length:=by omega
  have hwr:IntKind.i64.wrap ((i:Int)+1)=((i+1:Nat):Int):=by rw[<-zL (n:=i+1) (by omega)];rfl
  rw[yOI hlt,rB] at hr;have hv:=hnx _ (yOL hlt);unfold encW at w4;simp[h2,w2,h3,h4,w4,h13,h14,h15,hlt,zC nx[i]];refine zZ (cap:=caps) (hcall (D+1) nx[i] (by omega) hv.1 hv.2) (by simp[h3]) (by simp[hcs,zC nx[i]]) (by simp) (by simp) ?_ hF;cases hb:φ nx[i] with
  | false=>
   rw[hb] at hr;simp at hr;simp[h15,hwr];refine ih (i+1) acc _ _ r (by omega) hacc ?_ ?_ ?_ ?_ ?_ ?_ ?_ ?_ hr;all_goals simp[h2,w2,h3,h4,w4,encW,h13,h14]
  | true=>
   rw[hb] at hr;simp only[if_true] at hr;rw[<-Nat.or_assoc] at hr;simp[h4,w4];refine zE (zPI (D+1) acc i hacc (by omega)) (by simp[encT,encW]) ?_;simp[encT,encW,h4,w4,h15,hwr];refine ih (i+1) (acc ||| 2^i) _ _ r (by omega) (yBS hacc (by omega)) ?_ ?_ ?_ ?_ ?_ ?_ ?_ ?_ hr;all_goals simp[h2,w2,h3,h4,encW,h13,h14]
theorem zPB (hn:nx.length<=128) (hnx:∀v∈nx,valN nx.length v f=true/\zJ v<=2000) {c:AV} {a:Fm} (h:ClV d0 A gA f nx f c a) (o n m:Int) (ho:o=3):ClS d0 A gA f nx (.fn 133 [.bx d0 [c] 0,.bx d0 [.ptr d0 A gA 0] 0]) (.mk o n m [a]):=by
 obtain ⟨F,caps,rfl,hF,hcs,hup,hcall⟩:=h;refine ⟨133,_,rfl,by decide,rfl,by simp,fun D env hD he=> ?_⟩;have hne:¬d0=D:=by omega
 have hne':¬D=d0:=by omega
 obtain ⟨p,hp,hp2⟩:=hcall (D+1) env (by omega) he;obtain ⟨Fp,cp,rfl,_,hps,hpu,_⟩:=id hp2;rw[xF,yRN (by omega),yRN (by omega),yRN (by omega),yRN (by omega),yL,yPA];generalize hr:encT (rB (prB nx env a) 0 nx)=r;refine yH zF tok rfl rfl fun S hS=> ?_;have hm0:=(hS _ (yOC ..)).2;simp only[tM] at hm0;unfold c133;simp;refine zZ (cap:=caps) hp (by simp) (by simp[hcs]) (sV hS) (by simp) ?_ hF;simp[hne,hne',hm0];refine m133 D _ _ hD hp2 hn hnx S nx.length 0 0 _ _ r (by simp) (by decide) ?_ ?_ ?_ ?_ ?_ ?_ ?_ ?_ (by rw[<-hr];simp);all_goals simp[encW]
end
end Go.Ab.Tab
/- The compiler of formulas: state,value. -/
namespace Go.Ab.Tab
open Go Go.Ab
section
variable {d0 A gA:Nat} {f:Fu} {nx:List Va}
def rR (d0 A gA:Nat) (f:Fu) (nx:List Va) (a:Fm):Prop:=∀D,d0 < D->∃c,Go.Ab.Loc Pg Gl D 104 [.ptr d0 A gA 0,encM a] [] c []/\ClS d0 A gA f nx c a
def qK (d0 A gA:Nat) (f:Fu) (nx:List Va) (g:Fu) (a:Fm):Prop:=∀D,d0 < D->∃c,Go.Ab.Loc Pg Gl D 132 [.ptr d0 A gA 0,encM a] [] c []/\ClV d0 A gA f nx g c a
theorem zFK (hn:nx.length<=128) (o n m:Int) (ar:List Fm) (ho:o=0):rR d0 A gA f nx (.mk o n m ar):=by
 intro D hD;have hlt:¬D<=d0:=by omega
 refine ⟨_,?_,zWE hn o n m ar ho⟩;refine xZ (d1:=d0) zF tok rfl .im (by simp) rfl hD (by simp) trivial fun S hS=> ?_;unfold c104;subst ho;simp[zG,resC,frzC,upds,hlt]
theorem zFJ (o n m:Int) (ar:List Fm) (ho:o=14) (h0:0<=n) (h4:n < 4):rR d0 A gA f nx (.mk o n m ar):=by
 intro D hD;have hlt:¬D<=d0:=by omega
 refine ⟨_,?_,zWD o n m ar ho h0 h4⟩;refine xZ (d1:=d0) zF tok rfl .im (by simp) rfl hD (by simp[bxM]) trivial fun S hS=> ?_;unfold c104;subst ho;simp[zG,resC,frzC,upds,hlt,bxM,Fm.o,Fm.n,Fm.m,Fm.ar]
theorem zFL (hn:nx.length<=128) {a:Fm} (h:rR d0 A gA f nx a) (o n m:Int) (ho:o=1):rR d0 A gA f nx (.mk o n m [a]):=by
 intro D hD;have hlt:¬D<=d0:=by omega
 have hle:d0<=D:=by omega
 obtain ⟨c,hc,hc2⟩:=h (D+1) (by omega);refine ⟨_,?_,zWF hn hc2 o n m ho⟩;obtain ⟨F,caps,rfl,hF,hcs,hup,_⟩:=hc2;have up:=fnUp (D:=D) hup hle;have up0:=fnUp hup (yOG _);refine xZ (d1:=d0) zF tok rfl .im (by simp) rfl hD (by simp) trivial fun S hS=> ?_;unfold c104;subst ho;simp[zG,zA a];refine zM hc (by simp[zA a]) (by simp) (by simp) ?_;simp[up,up0,resC,frzC,upds,hlt,hle]
theorem zFM (hn:nx.length<=128) {a a':Fm} (h:rR d0 A gA f nx a) (h':rR d0 A gA f nx a') (o n m:Int) (ho:o=2):rR d0 A gA f nx (.mk o n m [a,a']):=by
 intro D hD;have hlt:¬D<=d0:=by omega
 have hle:d0<=D:=by omega
 obtain ⟨c,hc,hc2⟩:=h (D+1) (by omega);obtain ⟨c',hc',hc2'⟩:=h' (D+1) (by omega);refine ⟨_,?_,zWG hn hc2 hc2' o n m ho⟩;obtain ⟨F,caps,rfl,hF,hcs,hup,_⟩:=hc2;obtain ⟨F',caps',rfl,hF',hcs',hup',_⟩:=hc2';have up:=fnUp (D:=D) hup hle;have up0:=fnUp hup (yOG _);have up':=fnUp (D:=D) hup' hle;have up0':=fnUp hup' (yOG _);refine xZ (d1:=d0) zF tok rfl .im (by simp) rfl hD (by simp) trivial fun S hS=> ?_;unfold c104;subst ho;simp[zG,zA a];refine zM hc (by simp[zA a]) (by simp) (by simp) ?_;simp[zA a'];refine zM hc' (by simp[zA a']) (by simp) (by simp) ?_;simp[up,up0,up',up0',resC,frzC,upds,hlt,hle]
theorem aT (hn:nx.length<=128) (hnx:∀v∈nx,valN nx.length v f=true/\zJ v<=2000) {a:Fm} (h:qK d0 A gA f nx f a) (o n m:Int) (ho:o=3):rR d0 A gA f nx (.mk o n m [a]):=by
 intro D hD;have hlt:¬D<=d0:=by omega
 have hle:d0<=D:=by omega
 obtain ⟨c,hc,hc2⟩:=h (D+1) (by omega);refine ⟨_,?_,zPB hn hnx hc2 o n m ho⟩;obtain ⟨F,caps,rfl,hF,hcs,hup,_⟩:=hc2;have up:=fnUp (D:=D) hup hle;have up0:=fnUp hup (yOG _);refine xZ (d1:=d0) zF tok rfl .im (by simp) rfl hD (by simp) trivial fun S hS=> ?_;unfold c104;subst ho;simp[zG,zA a];refine zM hc (by simp[zA a]) (by simp) (by simp) ?_;simp[up,up0,resC,frzC,upds,hlt,hle]
theorem zFH (g:Fu) (o n m:Int) (ar:List Fm) (ho:o=0):qK d0 A gA f nx g (.mk o n m ar):=by
 intro D hD;refine ⟨_,?_,zWA g o n m ar ho⟩;refine xZ (d1:=d0) zF tok rfl .im (by simp) rfl hD (by simp) trivial fun S hS=> ?_;unfold c132;subst ho;simp[zG,resC,frzC,upds]
theorem zJY (g:Fu) (o n m:Int) (ar:List Fm) (ho:o=5):qK d0 A gA f nx g (.mk o n m ar):=by
 intro D hD;have hlt:¬D<=d0:=by omega
 refine ⟨_,?_,yEY g o n m ar ho⟩;refine xZ (d1:=d0) zF tok rfl .im (by simp) rfl hD (by simp[bxM]) trivial fun S hS=> ?_;unfold c132;subst ho;simp[zG,resC,frzC,upds,hlt,bxM,Fm.o,Fm.n,Fm.m,Fm.ar]
theorem cK (hn:nx.length<=128) {g:Fu} (hg:zH g=true) (hk:g.k=0) {a:Fm} (h:rR d0 A gA f nx a) (o n m:Int) (ho:o=4):qK d0 A gA f nx g (.mk o n m [a]):=by
 intro D hD;have hlt:¬D<=d0:=by omega
 have hle:d0<=D:=by omega
 obtain ⟨c,hc,hc2⟩:=h (D+1) (by omega);refine ⟨_,?_,zLX hn hg hk hc2 o n m ho⟩;obtain ⟨F,caps,rfl,hF,hcs,hup,_⟩:=hc2;have up:=fnUp (D:=D) hup hle;have up0:=fnUp hup (yOG _);refine xZ (d1:=d0) zF tok rfl .im (by simp) rfl hD (by simp) trivial fun S hS=> ?_;unfold c132;subst ho;simp[zG,zA a];refine zR hc (by simp[zA a]) (by simp) (by simp) ?_;simp[up,up0,resC,frzC,upds,hlt,hle]
theorem zFI {g:Fu} {a a':Fm} (h:qK d0 A gA f nx g a) (h':qK d0 A gA f nx g a') (o n m:Int) (ho:o=2):qK d0 A gA f nx g (.mk o n m [a,a']):=by
 intro D hD;have hlt:¬D<=d0:=by omega
 have hle:d0<=D:=by omega
 obtain ⟨c,hc,hc2⟩:=h (D+1) (by omega);obtain ⟨c',hc',hc2'⟩:=h' (D+1) (by omega);refine ⟨_,?_,zWC hc2 hc2' o n m ho⟩;obtain ⟨F,caps,rfl,hF,hcs,hup,_⟩:=hc2;obtain ⟨F',caps',rfl,hF',hcs',hup',_⟩:=hc2';have up:=fnUp (D:=D) hup hle;have up0:=fnUp hup (yOG _);have up':=fnUp (D:=D) hup' hle;have up0':=fnUp hup' (yOG _);refine xZ (d1:=d0) zF tok rfl .im (by simp) rfl hD (by simp) trivial fun S hS=> ?_;unfold c132;subst ho;simp[zG,zA a];refine zM hc (by simp[zA a]) (by simp) (by simp) ?_;simp[zA a'];refine zM hc' (by simp[zA a']) (by simp) (by simp) ?_;simp[up,up0,up',up0',resC,frzC,upds,hlt,hle]
theorem gH {g:Fu} (hg:zH g=true) {a:Fm} {o n m:Int} (ho:o=1\/inOk g o n m=true) (h:qK d0 A gA f nx (if o=1 then g else inF g o) a):qK d0 A gA f nx g (.mk o n m [a]):=by
 intro D hD;have hlt:¬D<=d0:=by omega
 have hle:d0<=D:=by omega
 have hon:o≠0/\o≠5/\o≠4/\o≠2:=by
  rcases ho with h | h
  ·omega
  ·rcases wW h with c | c | c | c | c | c | c | c<;>omega
 obtain ⟨c,hc,hc2⟩:=h (D+1) (by omega);refine ⟨_,?_,zWB hg ho hc2⟩;obtain ⟨F,caps,rfl,hF,hcs,hup,_⟩:=hc2;have up:=fnUp (D:=D) hup hle;have up0:=fnUp hup (yOG _);refine xZ (d1:=d0) zF tok rfl .im (by simp) rfl hD (by simp[bxM]) trivial fun S hS=> ?_;unfold c132;simp[zG,zA a,hon];refine zR hc (by simp[zA a]) (by simp) (by simp) ?_;simp[up,up0,resC,frzC,upds,hlt,hle,bxM,Fm.o,Fm.n,Fm.m,Fm.ar,zA a]
theorem zNX (hf:zH f=true) (hn:nx.length<=128) (hnx:∀v∈nx,valN nx.length v f=true/\zJ v<=2000) (vars:Int) (hv:vars<=4):∀a:Fm,(∀odd,valM f vars none odd a=true->rR d0 A gA f nx a)/\(∀g odd,zH g=true->valM f vars (some g) odd a=true->qK d0 A gA f nx g a):=by
 refine Fm.ind' fun o n m ar ih=> ?_;have one:∀{md odd},ar.length=1->y6 f vars md odd ar=true->∃b,ar= [b]/\valM f vars md odd b=true:=by
  intro md odd hl h;rcases ar with _ | ⟨b,_ | ⟨c,l⟩⟩<;>simp at hl
  simp only[y6,Bool.and_true] at h;exact ⟨b,rfl,h⟩
 have two:∀{md odd},ar.length=2->y6 f vars md odd ar=true->∃b b',ar= [b,b']/\valM f vars md odd b=true/\valM f vars md odd b'=true:=by
  intro md odd hl h;rcases ar with _ | ⟨b,_ | ⟨c,_ | ⟨e,l⟩⟩⟩<;>simp at hl
  simp only[y6,Bool.and_true,yOB] at h;exact ⟨b,c,rfl,h⟩
 constructor
 ·intro odd h;by_cases o0:o=0
  ·exact zFK hn o n m ar o0
  by_cases o1:o=1
  ·rw[y9,yRN o0,yRO o1] at h;simp only[yOB,yRP] at h;obtain ⟨b,rfl,hb⟩:=one h.1.2 h.2;exact zFL hn ((ih b (by simp)).1 _ hb) o n m o1
  by_cases o2:o=2
  ·rw[y9,yRN o0,yRN o1,yRO o2] at h;simp only[yOB,yRP] at h;obtain ⟨b,b',rfl,hb,hb'⟩:=two h.1.2 h.2;exact zFM hn ((ih b (by simp)).1 _ hb) ((ih b' (by simp)).1 _ hb') o n m o2
  have hcm:comM o=false:=by simp[comM,o0,o1,o2]
  rw[xX _ _ _ _ _ _ _ _ hcm] at h;simp only at h;by_cases o3:o=3
  ·rw[yRO o3] at h;simp only[yOB,yRP] at h;obtain ⟨b,rfl,hb⟩:=one h.1.2 h.2;exact aT hn hnx ((ih b (by simp)).2 f _ hf hb) o n m o3
  ·rw[yRN o3] at h;by_cases o14:o=14
   ·rw[yRO o14] at h;simp only[yOB,yRP] at h;exact zFJ o n m ar o14 h.1.1.2 (by omega)
   ·rw[yRN o14] at h;cases h
 ·intro g odd hg h;by_cases o0:o=0
  ·exact zFH g o n m ar o0
  by_cases o1:o=1
  ·rw[y9,yRN o0,yRO o1] at h;simp only[yOB,yRP] at h;obtain ⟨b,rfl,hb⟩:=one h.1.2 h.2;refine gH hg (.inl o1) ?_;rw[yRO o1];exact (ih b (by simp)).2 g _ hg hb
  by_cases o2:o=2
  ·rw[y9,yRN o0,yRN o1,yRO o2] at h;simp only[yOB,yRP] at h;obtain ⟨b,b',rfl,hb,hb'⟩:=two h.1.2 h.2;exact zFI ((ih b (by simp)).2 g _ hg hb) ((ih b' (by simp)).2 g _ hg hb') o n m o2
  have hcm:comM o=false:=by simp[comM,o0,o1,o2]
  rw[sW _ _ _ _ _ _ _ _ hcm] at h;by_cases o4:o=4
  ·rw[yRO o4] at h;simp only[yOB,yRP] at h;obtain ⟨b,rfl,hb⟩:=one h.1.2.1 h.2;exact cK hn hg h.1.1 ((ih b (by simp)).1 _ hb) o n m o4
  ·rw[yRN o4] at h;by_cases o5:o=5
   ·exact zJY g o n m ar o5
   ·rw[yRN o5] at h;simp only[yOB,yRP] at h;obtain ⟨b,rfl,hb⟩:=one h.1.2 h.2;refine gH hg (.inr h.1.1) ?_;rw[yRN o1];exact (ih b (by simp)).2 _ _ (tP hg h.1.1) hb
end
end Go.Ab.Tab
