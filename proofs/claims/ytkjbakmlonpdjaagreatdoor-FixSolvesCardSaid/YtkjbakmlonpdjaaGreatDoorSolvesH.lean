/- Building formulas of limited size: use, node, copied, given. -/
import Derived.Test.YtkjbakmlonpdjaaGreatDoorSolvesF
import Derived.Test.YtkjbakmlonpdjaaGreatDoorSolvesB5
import Derived.Test.YtkjbakmlonpdjaaGreatDoorSolvesG
import Derived.Test.YtkjbakmlonpdjaaGreatDoorSolvesB4
set_option linter.unusedVariables false
set_option linter.unusedSimpArgs false
set_option maxRecDepth 100000
namespace Go.Ab.Tab
open Go Go.Ab
abbrev Bd (d i g:Nat) (left:Int):Nat×Nat×Ent:=(d,i,(g,.cells [.int .i64 left]))
theorem spec91 (D d i g:Nat) (hd:d < D) (left:Int) (h1:1<=left) (h2:left<=100000):Go.Ab.Loc Pg Gl D 91 [.ptr d i g 0] [Bd d i g left] (.tup []) [Bd d i g (left - 1)]:=by
 refine zX zF tok rfl rfl fun S hS=> ?_
 have h0:=(hS _ (List.mem_cons_self ..)).2
 simp only at h0
 have hne:¬d=D:=by omega
 have hw:IntKind.i64.wrap (left - 1)=left - 1:=i64_id (by omega) (by omega)
 unfold c91
 simp[hne,h0,hw,show¬left - 1 < 0 by omega,upds]
theorem spec60 (D d i g:Nat) (hd:d < D) (left:Int) (h1:1<=left) (h2:left<=100000) (op:Int) (ar:List Fm):
  Go.Ab.Loc Pg Gl D 60 [.ptr d i g 0,.int .i64 op,.sl 4 (ar.map encM) .no] [Bd d i g left] (encM (.mk op 0 0 ar)) [Bd d i g (left - 1)]:=by
 refine zX zF tok rfl rfl fun S hS=> ?_
 have h0:=(hS _ (List.mem_cons_self ..)).2
 simp only at h0
 have hne:¬d=D:=by omega
 rw[zL]
 unfold c60
 simp
 refine zR (spec91 (D+1) d i g (by omega) left h1 h2) (by simp) (by simp[hne,h0];omega) (by simp) ?_
 simp[hne,upds]
mutual
def subM (φ:Int->Fm):Fm->Fm
 | .mk o n m ar=>if o=14 then φ n else .mk o n m (subMs φ ar)
def subMs (φ:Int->Fm):List Fm->List Fm
 | []=>[]
 | a::l=>subM φ a::subMs φ l
end
mutual
def costM (c:Int->Nat):Fm->Nat
 | .mk o n _ ar=>if o=14 then c n else 1+costMs c ar
def costMs (c:Int->Nat):List Fm->Nat
 | []=>0
 | a::l=>costM c a+costMs c l
end
theorem subMs_eq (φ):∀l,subMs φ l=l.map (subM φ)
 | []=>rfl
 | a::l=>by rw[subMs,subMs_eq φ l];rfl
mutual
def okVar (P:Int->Prop):Fm->Prop
 | .mk o n _ ar=>if o=14 then P n else okVars P ar
def okVars (P:Int->Prop):List Fm->Prop
 | []=>True
 | a::l=>okVar P a/\okVars P l
end
def VarC (d i g:Nat) (F:FuncId) (caps:List AV) (M0:List (Nat×Nat×Ent)) (φ:Int->Fm) (c:Int->Nat) (P:Int->Prop):Prop:=
 F≠yid/\caps.map AV.strip=caps/\∀(D:Nat) (n left:Int),d < D->(∀m∈M0,m.1 < D)->P n->c n<=left->left<=100000->Go.Ab.Loc Pg Gl D F (.int .i64 n::caps) (Bd d i g left::M0) (encM (φ n)) [Bd d i g (left - c n)]
theorem okVars_get {P:Int->Prop}:∀{l:List Fm} {i:Nat} (h:i < l.length),okVars P l->okVar P l[i]
 | a::l,0,_,h=>h.1
 | a::l,i+1,hi,h=>by simpa using okVars_get (l:=l) (i:=i) (by simpa using hi) h.2
def Sub89 (d i g:Nat) (F:FuncId) (caps:List AV) (M0:List (Nat×Nat×Ent)) (φ:Int->Fm) (c:Int->Nat) (P:Int->Prop) (a:Fm):Prop:=
 okVar P a->∀(D:Nat) (left:Int),d < D->(∀m∈M0,m.1 < D)->(costM c a:Int)<=left->left<=100000->Go.Ab.Loc Pg Gl D 89 [.ptr d i g 0,encM a,.fn F caps] (Bd d i g left::M0) (encM (subM φ a)) [Bd d i g (left - costM c a)]
theorem l89b {d i g:Nat} {F:FuncId} {caps:List AV} {M0:List (Nat×Nat×Ent)} {φ:Int->Fm} {c:Int->Nat} {P:Int->Prop} (hcaps:caps.map AV.strip=caps) (o n m:Int) (ar:List Fm) (hlen:ar.length<=2^30) (hP:okVars P ar) (hrec:∀a∈ar,Sub89 d i g F caps M0 φ c P a)
  {D:Nat} (hd:d < D) (hM0:∀m∈M0,m.1 < D) (S:Nat->Nat->Ent) (hS0:∀m∈M0,S m.1 m.2.1=m.2.2) (hdis:∀m∈M0,¬(m.1=d/\m.2.1=i)):∀(j k:Nat) (acc:List Fm) (tp:Tip) (left:Int) (τ ω) (r:AV) (fin:Int),
  k+j=ar.length->(tp= .tip\/tp= .nil)->acc.length=k->(costMs c (ar.drop k):Int)<=left->left<=100000->fin=left - costMs c (ar.drop k)->
  τ 0= .ptr d i g 0->τ 2= .fn F caps->τ 6= .ptr D 6 1 0->τ 7= .ptr D 7 1 0->τ 27= .sl 4 (ar.map encM) .no->τ 28= .int .i64 ar.length->τ 29= .int .i64 k->
  ω 6=(1,.cells [.int .i64 0,.int .i64 0,.int .i64 0,.sl 4 [] .tip])->ω 7=(1,.cells [.int .i64 o,.int .i64 n,.int .i64 m,.sl 4 (acc.map encM) tp])->r=encM (.mk o n m (acc++(ar.drop k).map (subM φ)))->
  Rd (Loc Pg Gl) .im (RetM [.cell 6 true 4] r D S [Bd d i g fin]) [.lp c89_l0,.blk 0,.c c89_k0] (stF 44 D τ ω (updS S d i (Bd d i g left).2.2)):=by
 have hne:¬d=D:=by omega
 intro j
 induction j with
 | zero=>
  intro k acc tp left τ ω r fin hk htp hal hc hl hfin t0 t2 t6 t7 t27 t28 t29 w6 w7 hr
  refine zK c89_l0.eq_1 ?_
  obtain rfl:k=ar.length:=by omega
  rw[List.drop_length] at hr hfin
  simp[costMs] at hfin
  subst hfin
  rw[zL] at hr
  simp at hr
  rcases htp with rfl | rfl<;>simp[t6,t7,t27,t28,t29,w6,w7,c89_k0,hr,upds]
 | succ j ih=>
  intro k acc tp left τ ω r fin hk htp hal hc hl hfin t0 t2 t6 t7 t27 t28 t29 w6 w7 hr
  refine zK c89_l0.eq_1 ?_
  have hlt:k < ar.length:=by omega
  have hwr:=z6 hlt (by unfold maxLen;omega)
  rw[List.drop_eq_getElem_cons hlt] at hr hfin hc
  rw[costMs] at hfin hc
  rw[List.map_cons] at hr
  have hle:(k+1)*48<=1099511627776:=by omega
  have hsub:=hrec ar[k] (List.getElem_mem hlt) (okVars_get hlt hP) (D+1) left (by omega) (fun m hm=>by have:=hM0 m hm;omega) (by omega) hl
  have htp':(tp= .nil\/tp= .tip)=True:=by simp;exact htp.symm
  simp[t0,t2,t6,t7,t27,t28,t29,w6,w7,hlt,hwr,zB ar[k]]
  refine zJ hsub (by simp[zB ar[k],hcaps]) ?_ (by simp) ?_
  ·intro m' hm
   rcases List.mem_cons.1 hm with rfl | hm
   ·simp[hne];omega
   ·refine ⟨Nat.le_of_lt (hM0 m' hm),fun e=>absurd e (Nat.ne_of_lt (hM0 m' hm)),?_⟩
    have h1:=hM0 m' hm
    have h2:=hdis m' hm
    have:updS S d i (Bd d i g left).2.2 m'.1 m'.2.1=S m'.1 m'.2.1:=by unfold updS;rw[if_neg h2]
    simp[show¬m'.1=D by omega,this]
    exact hS0 m' hm
  simp[hne,t6,t7,w6,w7,htp,htp',zB (subM φ ar[k]),hal,hle,t29,hwr]
  refine ⟨⟨.inl (fun e=>hne e.symm),fun a a1 a2 b hm=> .inl (fun e=>by have:=hM0 _ hm;simp only at this;omega)⟩,?_⟩
  refine ih (k+1) (acc++[subM φ ar[k]]) .tip (left - costM c ar[k]) _ _ r fin (by omega) (.inl rfl) (by simp[hal]) (by omega) (by omega) (by omega) ?_ ?_ ?_ ?_ ?_ ?_ ?_ ?_ ?_ (by rw[hr];simp)
  all_goals simp[t0,t2,t6,t7,t27,t28,t29,w6,w7,zB (subM φ ar[k])]
theorem spec89 {d i g:Nat} {F:FuncId} {caps:List AV} {M0:List (Nat×Nat×Ent)} {φ:Int->Fm} {c:Int->Nat} {P:Int->Prop} (hv:VarC d i g F caps M0 φ c P) (hdis:∀m∈M0,¬(m.1=d/\m.2.1=i)):∀a:Fm,zZ a<=2^30->Sub89 d i g F caps M0 φ c P a:=by
 obtain ⟨hF,hcaps,hcall⟩:=hv
 refine Fm.ind' fun o n m ar ih=> ?_
 intro hfit hP D left hd hM0 hc hl
 have hne:¬d=D:=by omega
 rw[zZ] at hfit
 have hlen:=nodesMs_len ar
 refine zX zF tok rfl rfl fun S hS=> ?_
 have h0:=(hS _ (List.mem_cons_self ..)).2
 simp only at h0
 have hS0:∀m∈M0,S m.1 m.2.1=m.2.2:=fun m hm=>(hS m (List.mem_cons_of_mem _ hm)).2
 rw[okVar] at hP
 rw[subM,costM]
 rw[costM] at hc
 unfold c89
 by_cases ho:o=14
 ·rw[if_pos ho] at hP hc|-
  rw[if_pos ho]
  simp[zL,ho]
  refine yC (cap:=caps) (hcall (D+1) n left (by omega) (fun m hm=>by have:=hM0 m hm;omega) hP hc hl) (by simp) (by simp[hcaps]) ?_ (by simp) ?_ hF
  ·intro m' hm
   rcases List.mem_cons.1 hm with rfl | hm
   ·simp[hne,h0];omega
   ·have h1:=hM0 m' hm
    simp[show¬m'.1=D by omega,show m'.1<=D by omega]
    exact hS0 m' hm
  simp[hne,zB (φ n),upds]
 ·rw[if_neg ho] at hP hc|-
  rw[if_neg ho]
  simp[zL,ho]
  refine zR (spec91 (D+1) d i g (by omega) left (by omega) hl) (by simp) (by simp[hne,h0];omega) (by simp) ?_
  simp[hne]
  refine l89b hcaps o n m ar (by omega) hP (fun a ha=>ih a ha (by have:=nodesMs_le ha;omega)) hd hM0 S hS0 hdis ar.length 0 [] .tip (left - 1) _ _ _ _ (by simp) (.inl rfl) rfl (by simp;omega) (by omega) (by simp;omega) ?_ ?_ ?_ ?_ ?_ ?_ ?_ ?_ ?_ (by rw[zL];simp[subMs_eq])
  all_goals simp
end Go.Ab.Tab
/- Building formulas of limited size: every. -/
namespace Go.Ab.Tab
open Go Go.Ab
def notM (a:Fm):Fm:= .mk 1 0 0 [a]
theorem spec142 (D d i g e ge:Nat) (hd:d < D) (dc:Nat) (hdc:dc < D) (left:Int) (h1:1<=left) (h2:left<=100000) (a:Fm):
  Go.Ab.Loc Pg Gl D 142 [encM a,.ptr dc e ge 0] [Bd d i g left,(dc,e,(ge,.cells [.ptr d i g 0]))] (encM (notM a)) [Bd d i g (left - 1)]:=by
 refine zX zF tok rfl rfl fun S hS=> ?_
 have h0:=(hS _ (List.mem_cons_self ..)).2
 have h3:=(hS _ (List.mem_cons_of_mem _ (List.mem_cons_self ..))).2
 simp only at h0 h3
 have hne:¬d=D:=by omega
 have hne':¬dc=D:=by omega
 rw[notM]
 generalize hr:encM (.mk 1 0 0 [a])=r
 unfold c142
 simp[zB a,hne,hne',h0,h3]
 have hs:=spec60 (D+1) d i g (by omega) left h1 h2 1 [a]
 rw[hr] at hs
 rw[<-hr,zL] at hs|-
 refine zR hs (by simp[zB a]) (by simp[hne,h0];omega) (by simp) ?_
 simp[hne,upds,zB a]
theorem spec65 (D d i g e ge:Nat) (hd:d < D) (dc:Nat) (hdc:dc < D) (left:Int) (h1:1<=left) (h2:left<=100000) (a:Fm):
  Go.Ab.Loc Pg Gl D 65 [encM a,.ptr dc e ge 0] [Bd d i g left,(dc,e,(ge,.cells [.ptr d i g 0]))] (encM (notM a)) [Bd d i g (left - 1)]:=by
 refine zX zF tok rfl rfl fun S hS=> ?_
 have h0:=(hS _ (List.mem_cons_self ..)).2
 have h3:=(hS _ (List.mem_cons_of_mem _ (List.mem_cons_self ..))).2
 simp only at h0 h3
 have hne:¬d=D:=by omega
 have hne':¬dc=D:=by omega
 rw[notM]
 unfold c65
 simp[zB a,hne,hne',h0,h3]
 have hs:=spec60 (D+1) d i g (by omega) left h1 h2 1 [a]
 rw[zL] at hs|-
 refine zR hs (by simp[zB a]) (by simp[hne,h0];omega) (by simp) ?_
 simp[hne,upds,zB a]
theorem spec143 (D d i g:Nat) (hd:d < D) (left:Int) (h1:1<=left) (h2:left<=100000) (k:Int) (a:Fm):
  Go.Ab.Loc Pg Gl D 143 [.ptr d i g 0,.int .i64 k,encM a] [Bd d i g left] (encM (.mk 10 k 0 [a])) [Bd d i g (left - 1)]:=by
 refine zX zF tok rfl rfl fun S hS=> ?_
 have h0:=(hS _ (List.mem_cons_self ..)).2
 simp only at h0
 have hne:¬d=D:=by omega
 unfold c143
 simp[zB a,hne,h0]
 have hs:=spec60 (D+1) d i g (by omega) left h1 h2 10 [a]
 rw[zL] at hs|-
 refine zR hs (by simp[zB a]) (by simp[hne,h0];omega) (by simp) ?_
 simp[hne,upds,zB a]
theorem spec63 (D d i g:Nat) (hd:d < D) (left:Int) (h1:1<=left) (h2:left<=100000):
  Go.Ab.Loc Pg Gl D 63 [.ptr d i g 0] [Bd d i g left] (encM (.mk 14 0 0 [])) [Bd d i g (left - 1)]:=by
 refine zX zF tok rfl rfl fun S hS=> ?_
 have h0:=(hS _ (List.mem_cons_self ..)).2
 simp only at h0
 have hne:¬d=D:=by omega
 unfold c63
 simp[hne,h0]
 have hs:=spec60 (D+1) d i g (by omega) left h1 h2 14 []
 rw[zL] at hs|-
 refine zR hs (by simp) (by simp[hne,h0];omega) (by simp) ?_
 simp[hne,upds]
section
variable {C:zP} {own:Md} {Q:St->Prop} {k:List AI} {n D:Nat} {τ:Nat->AV} {ω:Nat->Ent} {S:Nat->Nat->Ent} {l:List AOper} {d:Nat}
theorem Rd_drCallZ {f:FuncId} {v:AV} {cap:List AV} {x:Opd} {r} {M dl:List (Nat×Nat×Ent)} {ps es} (hv:v= .fn f cap\/v= .meth f cap) (h:C (D+1) f cap M r dl) (hx:(stF n D τ ω S).ev x=v) (hc:cap.map AV.strip=cap)
  (hM:∀m∈M,m.1<=D/\(m.1=D->m.2.1 < n)/\(stF n D τ ω S).look m.1 m.2.1=m.2.2) (hdl:∀u∈dl,(u.1,u.2.1)∈M.map (fun m=>(m.1,m.2.1))/\u.2.2.2≠ .dead)
  (hk:Rd C own Q (.dr ps l (es++[{val:=r,ups:=dl,rd:=M.map fun m=>(m.1,m.2.1)}])::k) ((dl.foldl St.up (stF n D τ ω S)).put (some d) r)) (hf:f≠yid):Rd C own Q (.dr ps (⟨some d,.callv x [],none⟩::l) es::k) (stF n D τ ω S):=by
 rcases hv with rfl | rfl
 ·exact yD h hx (by simp[hc]) hM hdl hk hf
 ·exact Rd_drCallm h hx (by simp[hc]) hM hdl hk hf
end
def GenC (d i g:Nat) (v:AV) (M0:List (Nat×Nat×Ent)) (A:Fm) (c:Nat):Prop:=∃F caps,(v= .fn F caps\/v= .meth F caps)/\F≠yid/\caps.map AV.strip=caps/\(∀m∈M0,¬(m.1=d/\m.2.1=i))/\
 ∀(D:Nat) (left:Int),d < D->(∀m∈M0,m.1 < D)->(c:Int)<=left->left<=100000->Go.Ab.Loc Pg Gl D F caps (Bd d i g left::M0) (encM A) [Bd d i g (left - c)]
def expM (e:Fm):Fm->Nat->Nat->Fm
 | out,_,0=>out
 | out,i,j+1=>expM e (.mk 2 0 0 [out,.mk 10 i 0 [e]]) (i+1) j
mutual
def evM (A:Fm):Fu->Fm
 | .mk k n gs=>if k=0 then .mk 4 0 0 [A] else if k=1 then .mk 0 0 0 [] else if k=2 then .mk 2 0 0 [.mk 6 0 0 [(evMs A gs).getD 0 A],.mk 7 0 0 [(evMs A gs).getD 1 A]]
  else if k=3 then notM (.mk 2 0 0 [notM (.mk 8 0 0 [(evMs A gs).getD 0 A]),notM (.mk 9 0 0 [(evMs A gs).getD 1 A])])
  else if k=4 then expM ((evMs A gs).getD 0 A) (.mk 10 0 0 [(evMs A gs).getD 0 A]) 1 (n.toNat - 1)
  else if k=5 then notM (.mk 11 0 0 [notM ((evMs A gs).getD 0 A)])
  else if k=6 then notM (.mk 12 1 0 [notM ((evMs A gs).getD 0 A)])
  else .mk 13 1 1 [(evMs A gs).getD 0 A]
def evMs (A:Fm):List Fu->List Fm
 | []=>[]
 | g::l=>evM A g::evMs A l
end
mutual
def evC (c:Nat):Fu->Nat
 | .mk k n gs=>if k=0 then 1+c else if k=1 then 1 else if k=2 then 3+(evCs c gs).getD 0 0+(evCs c gs).getD 1 0
  else if k=3 then 6+(evCs c gs).getD 0 0+(evCs c gs).getD 1 0
  else if k=4 then 1+(evCs c gs).getD 0 0+(n.toNat - 1)*(2+(evCs c gs).getD 0 0)
  else if k=5 then 3+(evCs c gs).getD 0 0
  else if k=6 then 3+(evCs c gs).getD 0 0
  else 1+(evCs c gs).getD 0 0
def evCs (c:Nat):List Fu->List Nat
 | []=>[]
 | g::l=>evC c g::evCs c l
end
def Sub116 (d i g:Nat) (v:AV) (M0:List (Nat×Nat×Ent)) (A:Fm) (c:Nat) (f:Fu):Prop:=
 zI f=true->∀(D:Nat) (left:Int),d < D->(∀m∈M0,m.1 < D)->(evC c f:Int)<=left->left<=100000->Go.Ab.Loc Pg Gl D 116 [.ptr d i g 0,encF f,v] (Bd d i g left::M0) (encM (evM A f)) [Bd d i g (left - evC c f)]
end Go.Ab.Tab
/- Building formulas of limited size: every,its contract. -/
namespace Go.Ab.Tab
open Go Go.Ab
section
variable {d i g:Nat} {M0:List (Nat×Nat×Ent)} {S:Nat->Nat->Ent} {D n:Nat} {τ:Nat->AV} {ω:Nat->Ent}
theorem bdM (hd:d < D) (hM0:∀m∈M0,m.1 < D) (hS0:∀m∈M0,S m.1 m.2.1=m.2.2) (hdis:∀m∈M0,¬(m.1=d/\m.2.1=i)) (left:Int):
  ∀m∈Bd d i g left::M0,m.1<=D/\(m.1=D->m.2.1 < n)/\(stF n D τ ω (updS S d i (g,Ob.cells [AV.int .i64 left]))).look m.1 m.2.1=m.2.2:=by
 intro m hm
 rcases List.mem_cons.1 hm with rfl | hm
 ·refine ⟨Nat.le_of_lt hd,fun e=>absurd e (Nat.ne_of_lt hd),?_⟩
  rw[yB,if_neg (Nat.ne_of_lt hd)]
  exact updS_same ..
 ·have h1:=hM0 m hm
  refine ⟨Nat.le_of_lt h1,fun e=>absurd e (Nat.ne_of_lt h1),?_⟩
  rw[yB,if_neg (Nat.ne_of_lt h1),updS,if_neg (hdis m hm)]
  exact hS0 m hm
theorem bdM0 (hd:d < D) (hM0:∀m∈M0,m.1 < D) (hS0:∀m∈M0,S m.1 m.2.1=m.2.2) (left:Int) (h0:S d i=(g,Ob.cells [AV.int .i64 left])):
  ∀m∈Bd d i g left::M0,m.1<=D/\(m.1=D->m.2.1 < n)/\(stF n D τ ω S).look m.1 m.2.1=m.2.2:=by
 intro m hm
 rcases List.mem_cons.1 hm with rfl | hm
 ·refine ⟨Nat.le_of_lt hd,fun e=>absurd e (Nat.ne_of_lt hd),?_⟩
  rw[yB,if_neg (Nat.ne_of_lt hd)]
  exact h0
 ·have h1:=hM0 m hm
  refine ⟨Nat.le_of_lt h1,fun e=>absurd e (Nat.ne_of_lt h1),?_⟩
  rw[yB,if_neg (Nat.ne_of_lt h1)]
  exact hS0 m hm
theorem bdN (hd:d < D) (left:Int):∀m∈[Bd d i g left],m.1<=D/\(m.1=D->m.2.1 < n)/\(stF n D τ ω (updS S d i (g,Ob.cells [AV.int .i64 left]))).look m.1 m.2.1=m.2.2:=
 bdM hd (by simp) (by simp) (by simp) left
theorem bdN0 (hd:d < D) (left:Int) (h0:S d i=(g,Ob.cells [AV.int .i64 left])):∀m∈[Bd d i g left],m.1<=D/\(m.1=D->m.2.1 < n)/\(stF n D τ ω S).look m.1 m.2.1=m.2.2:=
 bdM0 hd (by simp) (by simp) left h0
theorem bdE (hd:d < D) (left:Int) {e:Nat} {ge:Nat} (he:e < n) (hw:ω e=(ge,.cells [.ptr d i g 0])):∀m∈[Bd d i g left,(D,e,(ge,.cells [.ptr d i g 0]))],m.1<=D/\(m.1=D->m.2.1 < n)/\(stF n D τ ω (updS S d i (g,Ob.cells [AV.int .i64 left]))).look m.1 m.2.1=m.2.2:=by
 intro m hm
 rcases List.mem_cons.1 hm with rfl | hm
 ·exact bdN hd left _ (by simp)
 ·rw[List.mem_singleton] at hm
  subst hm
  refine ⟨Nat.le_refl _,fun _=>he,?_⟩
  rw[yB,if_pos rfl,if_pos he];exact hw
end
section
variable {d i g:Nat} {v:AV} {M0:List (Nat×Nat×Ent)} {A:Fm} {c:Nat}
theorem m116 (hgen:GenC d i g v M0 A c) {n:Int} {x:Fu} (hx:Sub116 d i g v M0 A c x) (hsx:zI x=true) (hn4:n<=4) {D:Nat} (hd:d < D) (hM0:∀m∈M0,m.1 < D) (S:Nat->Nat->Ent) (hS0:∀m∈M0,S m.1 m.2.1=m.2.2) (K:List AI):
  ∀(j k g8:Nat) (out:Fm) (left:Int) (τ ω) (r:AV) (fin:Int),(k:Int)+j=n->(j*(2+evC c x):Int)<=left->left<=100000->fin=left - j*(2+evC c x)->
  τ 2=v->τ 3= .ptr D 3 1 0->τ 4= .ptr D 4 1 0->τ 6= .ptr D 6 1 0->τ 8= .ptr D 8 g8 0->τ 9= .int .i64 k->ω 3=(1,.cells [.ptr d i g 0])->ω 4=(1,.cells [.int .i64 4,.int .i64 n,.sl 3 [encF x] .no])->
  ω 6=(1,.cells [.int .i64 0,.int .i64 0,.int .i64 0,.sl 4 [] .tip])->ω 8=(g8,.cells [.int .i64 out.o,.int .i64 out.n,.int .i64 out.m,.sl 4 (out.ar.map encM) .no])->r=encM (expM (evM A x) out k j)->
  Rd (Loc Pg Gl) .im (RetM [.cell 6 true 4] r D S [Bd d i g fin]) (.lp c116_l0:: .blk 1:: .c c116_k0::K) (stF 161 D τ ω (updS S d i (g,Ob.cells [AV.int .i64 left]))):=by
 obtain ⟨F,caps,hv,hF,hcaps,hdis,hcall⟩:=hgen
 have hne:¬d=D:=by omega
 have hne':¬D=d:=by omega
 have hMd:∀a (q:Nat×Nat×Ob),(a,q)∈M0->¬D=a:=fun a q hm e=>by have:=hM0 _ hm;simp only at this;omega
 have v1:v.dem=v:=by rcases hv with rfl | rfl<;>rfl
 have v2:v.var1=v:=by rcases hv with rfl | rfl<;>rfl
 have v3:v.strip=v:=by rcases hv with rfl | rfl<;>rfl
 have hM1:∀m∈M0,m.1 < D+1:=fun m hm=>by have:=hM0 m hm;omega
 intro j
 induction j with
 | zero=>
  intro k g8 out left τ ω r fin hk hc hl hfin t2 t3 t4 t6 t8 t9 w3 w4 w6 w8 hr
  refine zK c116_l0.eq_1 ?_
  have hkn:¬(k:Int) < n:=by omega
  have hf:fin=left:=by rw[hfin];simp
  subst hf
  rw[expM] at hr
  rw[zB] at hr
  have hkd:decide ((k:Int) < n)=false:=decide_eq_false hkn
  simp[t3,t4,t6,t8,t9,w4,w6,w8,hkd,c116_k0,hr,upds]
 | succ j ih=>
  intro k g8 out left τ ω r fin hk hc hl hfin t2 t3 t4 t6 t8 t9 w3 w4 w6 w8 hr
  refine zK c116_l0.eq_1 ?_
  have hkn:(k:Int) < n:=by omega
  have hwr:IntKind.i64.wrap ((k:Int)+1)=((k+1:Nat):Int):=by rw[<-zE (n:=k+1) (by omega)];rfl
  have hmul:(((j+1:Nat):Int)*(2+evC c x):Int)=j*(2+evC c x)+(2+evC c x):=by
   rw[Int.natCast_add,Int.add_mul];simp
  have hnn:(0:Int)<=j*(2+evC c x):=Int.mul_nonneg (by omega) (by omega)
  rw[hmul] at hc hfin
  have h1:=hx hsx (D+1) left (by omega) hM1 (by omega) hl
  have h2:=spec143 (D+1) d i g (by omega) (left - evC c x) (by omega) (by omega) k (evM A x)
  have h3:=spec60 (D+1) d i g (by omega) (left - evC c x - 1) (by omega) (by omega) 2 [out,.mk 10 k 0 [evM A x]]
  simp only[zL] at h2 h3
  rw[expM] at hr
  generalize hex:evM A x=ex at*
  simp[t2,t3,t4,t6,t8,t9,w3,w4,w6,w8,hkn,v1,v2,zA x]
  refine zJ h1 (by simp[v1,v2,v3,t2,zA x]) (bdM hd hM0 hS0 hdis _) (by simp) ?_
  simp[hne,zB ex,t3,t9]
  refine zJ h2 (by simp[zB ex]) (bdN hd _) (by simp) ?_
  simp[hne,t3,t8]
  refine zJ h3 (by simp[zL,zB ex,zB out]) (bdN hd _) (by simp) ?_
  simp[hne,hne',t8,w8,t9,hwr]
  refine ih (k+1) g8 (.mk 2 0 0 [out,.mk 10 k 0 [ex]]) (left - evC c x - 1 - 1) _ _ r fin (by omega) (by omega) (by omega) (by omega) ?_ ?_ ?_ ?_ ?_ ?_ ?_ ?_ ?_ ?_ hr
  all_goals simp[t2,t3,t4,t6,t8,w3,w4,w6,Fm.o,Fm.n,Fm.m,Fm.ar]
theorem spec116_of (hgen:GenC d i g v M0 A c) (k n:Int) (gs:List Fu) (ih:∀a∈gs,Sub116 d i g v M0 A c a):Sub116 d i g v M0 A c (.mk k n gs):=by
 intro hf D left hd hM0 hc hl
 obtain ⟨F,caps,hv,hF,hcaps,hdis,hcall⟩:=hgen
 have hne:¬d=D:=by omega
 have hne':¬D=d:=fun e=>hne e.symm
 have hMd:∀a (q:Nat×Nat×Ob),(a,q)∈M0->¬D=a:=fun a q hm e=>by have:=hM0 _ hm;simp only at this;omega
 have v1:v.dem=v:=by rcases hv with rfl | rfl<;>rfl
 have v2:v.var1=v:=by rcases hv with rfl | rfl<;>rfl
 have v3:v.strip=v:=by rcases hv with rfl | rfl<;>rfl
 have hgs:∀a∈gs,zI a=true:=by
  intro a ha
  rw[zI] at hf
  simp only[Bool.and_eq_true] at hf
  have:∀{l:List Fu},shapedFs l=true->∀a∈l,zI a=true:=by
   intro l
   induction l with
   | nil=>intro _ a ha;cases ha
   | cons f l ihl=>
    intro h a ha
    rw[shapedFs,Bool.and_eq_true] at h
    rcases List.mem_cons.1 ha with rfl | ha
    ·exact h.1
    ·exact ihl h.2 a ha
  exact this hf.2.2.2 a ha
 refine zX zF tok rfl rfl fun S hS=> ?_
 have h0:=(hS _ (List.mem_cons_self ..)).2
 simp only at h0
 have hS0:∀m∈M0,S m.1 m.2.1=m.2.2:=fun m hm=>(hS m (List.mem_cons_of_mem _ hm)).2
 have hM1:∀m∈M0,m.1 < D+1:=fun m hm=>by have:=hM0 m hm;omega
 unfold c116
 rw[zO]
 by_cases k0:k=0
 ·subst k0
  have e1:evC c (.mk 0 n gs)=1+c:=by rw[evC];rfl
  have e2:evM A (.mk 0 n gs)= .mk 4 0 0 [A]:=by rw[evM];rfl
  rw[e1] at hc
  rw[e1,e2,show left - ((1+c:Nat):Int)=left - c - 1 by omega]
  have h60:=spec60 (D+1) d i g (by omega) (left - c) (by omega) (by omega) 4 [A]
  rw[zL] at h60|-
  simp[v1,v2]
  refine Rd_drCallZ hv (hcall (D+1) left (by omega) hM1 (by omega) hl) (by simp[v1]) hcaps (bdM0 hd hM0 hS0 left h0) (by simp) ?_ hF
  simp[hne,zB A]
  refine zJ h60 (by simp[zB A]) (bdN hd _) (by simp) ?_
  simp[hne,zB A,upds]
 by_cases k1:k=1
 ·subst k1
  have e1:evC c (.mk 1 n gs)=1:=by rw[evC];rfl
  have e2:evM A (.mk 1 n gs)= .mk 0 0 0 []:=by rw[evM];rfl
  rw[e1] at hc
  rw[e1,e2]
  have h60:=spec60 (D+1) d i g (by omega) left (by omega) (by omega) 0 []
  rw[zL] at h60|-
  simp[v1,v2]
  refine zR h60 (by simp) (bdN0 hd _ h0) (by simp) ?_
  simp[hne,upds]
 by_cases k2:k=2
 ·subst k2
  obtain ⟨x,y,rfl⟩:=shape2 hf (.inl rfl)
  have e1:evC c (.mk 2 n [x,y])=3+evC c x+evC c y:=by rw[evC];simp[evCs]
  have e2:evM A (.mk 2 n [x,y])= .mk 2 0 0 [.mk 6 0 0 [evM A x],.mk 7 0 0 [evM A y]]:=by rw[evM];simp[evMs]
  rw[e1] at hc
  rw[e1,e2,show left - ((3+evC c x+evC c y:Nat):Int)=left - evC c x - 1 - evC c y - 1 - 1 by omega]
  have hx:=ih x (by simp) (hgs x (by simp)) (D+1) left (by omega) hM1 (by omega) hl
  have h1:=spec60 (D+1) d i g (by omega) (left - evC c x) (by omega) (by omega) 6 [evM A x]
  have hy:=ih y (by simp) (hgs y (by simp)) (D+1) (left - evC c x - 1) (by omega) hM1 (by omega) (by omega)
  have h2:=spec60 (D+1) d i g (by omega) (left - evC c x - 1 - evC c y) (by omega) (by omega) 7 [evM A y]
  have h3:=spec60 (D+1) d i g (by omega) (left - evC c x - 1 - evC c y - 1) (by omega) (by omega) 2 [.mk 6 0 0 [evM A x],.mk 7 0 0 [evM A y]]
  rw[zL] at h1 h2 h3|-
  generalize hex:evM A x=ex at*
  generalize hey:evM A y=ey at*
  simp[v1,v2,zA x]
  refine zJ hx (by simp[v1,v2,v3,zA x]) (bdM0 hd hM0 hS0 left h0) (by simp) ?_
  simp[hne,zB ex]
  refine zJ h1 (by simp[zB ex]) (bdN hd _) (by simp) ?_
  simp[hne,v1,v2,zA y]
  refine zJ hy (by simp[v1,v2,v3,zA y]) (bdM hd hM0 hS0 hdis _) (by simp) ?_
  simp[hne,zB ey]
  refine zJ h2 (by simp[zB ey]) (bdN hd _) (by simp) ?_
  simp[hne]
  refine zJ h3 (by simp[zL,zB ex,zB ey]) (bdN hd _) (by simp) ?_
  simp[hne,upds,zL,zB ex,zB ey]
 by_cases k3:k=3
 ·subst k3
  obtain ⟨x,y,rfl⟩:=shape2 hf (.inr rfl)
  have e1:evC c (.mk 3 n [x,y])=6+evC c x+evC c y:=by rw[evC];simp[evCs]
  have e2:evM A (.mk 3 n [x,y])=notM (.mk 2 0 0 [notM (.mk 8 0 0 [evM A x]),notM (.mk 9 0 0 [evM A y])]):=by rw[evM];simp[evMs]
  rw[e1] at hc
  rw[e1,e2,show left - ((6+evC c x+evC c y:Nat):Int)=left - evC c x - 1 - 1 - evC c y - 1 - 1 - 1 - 1 by omega]
  have hx:=ih x (by simp) (hgs x (by simp)) (D+1) left (by omega) hM1 (by omega) hl
  have h1:=spec60 (D+1) d i g (by omega) (left - evC c x) (by omega) (by omega) 8 [evM A x]
  have h2:=spec142 (D+1) d i g 3 1 (by omega) D (by omega) (left - evC c x - 1) (by omega) (by omega) (.mk 8 0 0 [evM A x])
  have hy:=ih y (by simp) (hgs y (by simp)) (D+1) (left - evC c x - 1 - 1) (by omega) hM1 (by omega) (by omega)
  have h3:=spec60 (D+1) d i g (by omega) (left - evC c x - 1 - 1 - evC c y) (by omega) (by omega) 9 [evM A y]
  have h4:=spec142 (D+1) d i g 3 1 (by omega) D (by omega) (left - evC c x - 1 - 1 - evC c y - 1) (by omega) (by omega) (.mk 9 0 0 [evM A y])
  have h5:=spec60 (D+1) d i g (by omega) (left - evC c x - 1 - 1 - evC c y - 1 - 1) (by omega) (by omega) 2 [notM (.mk 8 0 0 [evM A x]),notM (.mk 9 0 0 [evM A y])]
  have h6:=spec142 (D+1) d i g 3 1 (by omega) D (by omega) (left - evC c x - 1 - 1 - evC c y - 1 - 1 - 1) (by omega) (by omega) (.mk 2 0 0 [notM (.mk 8 0 0 [evM A x]),notM (.mk 9 0 0 [evM A y])])
  simp only[notM,zL] at h1 h2 h3 h4 h5 h6|-
  generalize hex:evM A x=ex at*
  generalize hey:evM A y=ey at*
  simp[v1,v2,zA x]
  refine zJ hx (by simp[v1,v2,v3,zA x]) (bdM0 hd hM0 hS0 left h0) (by simp) ?_
  simp[hne,zB ex]
  refine zJ h1 (by simp[zB ex]) (bdN hd _) (by simp) ?_
  simp[hne]
  refine yD (cap:=[.ptr D 3 1 0]) h2 (by simp) (by simp[zL,zB ex]) (bdE hd _ (by decide) (by simp)) (by simp) ?_
  simp[hne,v1,v2,zA y]
  refine zJ hy (by simp[v1,v2,v3,zA y]) (bdM hd hM0 hS0 hdis _) (by simp) ?_
  simp[hne,zB ey]
  refine zJ h3 (by simp[zB ey]) (bdN hd _) (by simp) ?_
  simp[hne]
  refine yD (cap:=[.ptr D 3 1 0]) h4 (by simp) (by simp[zL,zB ey]) (bdE hd _ (by decide) (by simp)) (by simp) ?_
  simp[hne]
  refine zJ h5 (by simp[notM,zL,zB ex,zB ey]) (bdN hd _) (by simp) ?_
  simp[hne]
  refine yD (cap:=[.ptr D 3 1 0]) h6 (by simp) (by simp[notM,zL,zB ex,zB ey]) (bdE hd _ (by decide) (by simp)) (by simp) ?_
  simp[hne,upds,notM,zL,zB ex,zB ey]
 by_cases k5:k=5
 ·subst k5
  obtain ⟨x,rfl⟩:=shape1 hf (by simp)
  have e1:evC c (.mk 5 n [x])=3+evC c x:=by rw[evC];simp[evCs]
  have e2:evM A (.mk 5 n [x])=notM (.mk 11 0 0 [notM (evM A x)]):=by rw[evM];simp[evMs]
  rw[e1] at hc
  rw[e1,e2,show left - ((3+evC c x:Nat):Int)=left - evC c x - 1 - 1 - 1 by omega]
  have hx:=ih x (by simp) (hgs x (by simp)) (D+1) left (by omega) hM1 (by omega) hl
  have h1:=spec142 (D+1) d i g 3 1 (by omega) D (by omega) (left - evC c x) (by omega) (by omega) (evM A x)
  have h2:=spec60 (D+1) d i g (by omega) (left - evC c x - 1) (by omega) (by omega) 11 [notM (evM A x)]
  have h3:=spec142 (D+1) d i g 3 1 (by omega) D (by omega) (left - evC c x - 1 - 1) (by omega) (by omega) (.mk 11 0 0 [notM (evM A x)])
  simp only[notM,zL] at h1 h2 h3|-
  generalize hex:evM A x=ex at*
  simp[v1,v2,zA x]
  refine zJ hx (by simp[v1,v2,v3,zA x]) (bdM0 hd hM0 hS0 left h0) (by simp) ?_
  simp[hne,zB ex]
  refine yD (cap:=[.ptr D 3 1 0]) h1 (by simp) (by simp[zB ex]) (bdE hd _ (by decide) (by simp)) (by simp) ?_
  simp[hne]
  refine zJ h2 (by simp[notM,zL,zB ex]) (bdN hd _) (by simp) ?_
  simp[hne]
  refine yD (cap:=[.ptr D 3 1 0]) h3 (by simp) (by simp[notM,zL,zB ex]) (bdE hd _ (by decide) (by simp)) (by simp) ?_
  simp[hne,upds,notM,zL,zB ex]
 by_cases k6:k=6
 ·subst k6
  obtain ⟨x,rfl⟩:=shape1 hf (by simp)
  have e1:evC c (.mk 6 n [x])=3+evC c x:=by rw[evC];simp[evCs]
  have e2:evM A (.mk 6 n [x])=notM (.mk 12 1 0 [notM (evM A x)]):=by rw[evM];simp[evMs]
  rw[e1] at hc
  rw[e1,e2,show left - ((3+evC c x:Nat):Int)=left - evC c x - 1 - 1 - 1 by omega]
  have hx:=ih x (by simp) (hgs x (by simp)) (D+1) left (by omega) hM1 (by omega) hl
  have h1:=spec142 (D+1) d i g 3 1 (by omega) D (by omega) (left - evC c x) (by omega) (by omega) (evM A x)
  have h2:=spec60 (D+1) d i g (by omega) (left - evC c x - 1) (by omega) (by omega) 12 [notM (evM A x)]
  have h3:=spec142 (D+1) d i g 3 1 (by omega) D (by omega) (left - evC c x - 1 - 1) (by omega) (by omega) (.mk 12 1 0 [notM (evM A x)])
  simp only[notM,zL] at h1 h2 h3|-
  generalize hex:evM A x=ex at*
  simp[v1,v2,zA x]
  refine zJ hx (by simp[v1,v2,v3,zA x]) (bdM0 hd hM0 hS0 left h0) (by simp) ?_
  simp[hne,zB ex]
  refine yD (cap:=[.ptr D 3 1 0]) h1 (by simp) (by simp[zB ex]) (bdE hd _ (by decide) (by simp)) (by simp) ?_
  simp[hne]
  refine zJ h2 (by simp[notM,zL,zB ex]) (bdN hd _) (by simp) ?_
  simp[hne,hne']
  refine ⟨fun a a1 a2 b hm=> .inl (hMd a (a1,a2,b) hm),?_⟩
  refine yC (cap:=[.ptr D 3 1 0]) h3 (by simp) (by simp[notM,zL,zB ex]) (bdE hd _ (by decide) (by simp)) (by simp) ?_
  simp[hne,upds,notM,zL,zB ex]
 by_cases k4:k=4
 ·subst k4
  obtain ⟨x,rfl⟩:=shape1 hf (by simp)
  have hn4:1<=n/\n<=4:=by
   rw[zI] at hf
   simp only[Bool.and_eq_true,decide_eq_true_eq] at hf
   have e:mostK 4=4:=rfl
   have:=hf.2
   rw[e] at this
   omega
  obtain ⟨j,hj⟩:∃j:Nat,n=1+(j:Int):=⟨(n - 1).toNat,by omega⟩
  have hnj:n.toNat - 1=j:=by omega
  have e1:evC c (.mk 4 n [x])=1+evC c x+j*(2+evC c x):=by rw[evC];simp[evCs,hnj]
  have e2:evM A (.mk 4 n [x])=expM (evM A x) (.mk 10 0 0 [evM A x]) 1 j:=by rw[evM];simp[evMs,hnj]
  have hc2:((1+evC c x+j*(2+evC c x):Nat):Int)=1+evC c x+j*(2+evC c x):=by push_cast;rfl
  have hnn:(0:Int)<=j*(2+evC c x):=Int.mul_nonneg (by omega) (by omega)
  rw[e1,hc2] at hc
  rw[e1,e2,hc2]
  have h1:=ih x (by simp) (hgs x (by simp)) (D+1) left (by omega) hM1 (by omega) hl
  have h2:=spec143 (D+1) d i g (by omega) (left - evC c x) (by omega) (by omega) 0 (evM A x)
  simp only[zL] at h2
  generalize hr:encM (expM (evM A x) (.mk 10 0 0 [evM A x]) 1 j)=r
  generalize hex:evM A x=ex at*
  simp[v1,v2,zA x]
  refine zJ h1 (by simp[v1,v2,v3,zA x]) (bdM0 hd hM0 hS0 left h0) (by simp) ?_
  simp[hne,zB ex]
  refine zJ h2 (by simp[zB ex]) (bdN hd _) (by simp) ?_
  simp[hne,hne']
  refine ⟨fun a a1 a2 b hm=> .inl (hMd a (a1,a2,b) hm),?_⟩
  refine m116 ⟨F,caps,hv,hF,hcaps,hdis,hcall⟩ (n:=n) (ih x (by simp)) (hgs x (by simp)) (by omega) hd hM0 S hS0 _ j 1 1 (.mk 10 0 0 [ex]) (left - evC c x - 1) _ _ r _ (by omega) (by omega) (by omega) ?_ ?_ ?_ ?_ ?_ ?_ ?_ ?_ ?_ ?_ ?_ (by rw[hex,<-hr])
  ·omega
  all_goals simp[v1,v2,Fm.o,Fm.n,Fm.m,Fm.ar,zA x]
 ·have k7:k=7:=by
   have:=hf
   rw[zI] at this
   simp only[Bool.and_eq_true,decide_eq_true_eq] at this
   have h1:=this.1
   unfold arK at h1
   repeat (split at h1<;>try omega)
  subst k7
  obtain ⟨x,rfl⟩:=shape1 hf (by simp)
  have e1:evC c (.mk 7 n [x])=1+evC c x:=by rw[evC];simp[evCs]
  have e2:evM A (.mk 7 n [x])= .mk 13 1 1 [evM A x]:=by rw[evM];simp[evMs]
  rw[e1] at hc
  rw[e1,e2,show left - ((1+evC c x:Nat):Int)=left - evC c x - 1 by omega]
  have hx:=ih x (by simp) (hgs x (by simp)) (D+1) left (by omega) hM1 (by omega) hl
  have h1:=spec60 (D+1) d i g (by omega) (left - evC c x) (by omega) (by omega) 13 [evM A x]
  rw[zL] at h1|-
  generalize hex:evM A x=ex at*
  simp[v1,v2,zA x,c116_k1]
  refine zJ hx (by simp[v1,v2,v3,zA x]) (bdM0 hd hM0 hS0 left h0) (by simp) ?_
  simp[hne,zB ex]
  refine zJ h1 (by simp[zB ex]) (bdN hd _) (by simp) ?_
  simp[hne,hne',upds,zL,zB ex]
  exact fun a a1 a2 b hm=> .inl (hMd a (a1,a2,b) hm)
theorem spec116 (hgen:GenC d i g v M0 A c):∀f,Sub116 d i g v M0 A c f:=Fu.ind' fun k n gs ih=>spec116_of hgen k n gs ih
theorem spec62 (hgen:GenC d i g v M0 A c) (f:Fu) (hf:zI f=true) {D:Nat} {left:Int} (hd:d < D) (hM0:∀m∈M0,m.1 < D) (hc:(1+evC c f:Int)<=left) (hl:left<=100000):
  Go.Ab.Loc Pg Gl D 62 [.ptr d i g 0,encF f,v] (Bd d i g left::M0) (encM (.mk 3 0 0 [evM A f])) [Bd d i g (left - evC c f - 1)]:=by
 have hgen0:=hgen
 obtain ⟨F,caps,hv,hF,hcaps,hdis,hcall⟩:=hgen
 have hne:¬d=D:=by omega
 have v1:v.dem=v:=by rcases hv with rfl | rfl<;>rfl
 have v2:v.var1=v:=by rcases hv with rfl | rfl<;>rfl
 have v3:v.strip=v:=by rcases hv with rfl | rfl<;>rfl
 refine zX zF tok rfl rfl fun S hS=> ?_
 have h0:=(hS _ (List.mem_cons_self ..)).2
 simp only at h0
 have hS0:∀m∈M0,S m.1 m.2.1=m.2.2:=fun m hm=>(hS m (List.mem_cons_of_mem _ hm)).2
 have hM1:∀m∈M0,m.1 < D+1:=fun m hm=>by have:=hM0 m hm;omega
 have h1:=spec116 hgen0 f hf (D+1) left (by omega) hM1 (by omega) hl
 have h2:=spec60 (D+1) d i g (by omega) (left - evC c f) (by omega) (by omega) 3 [evM A f]
 simp only[zL] at h2|-
 generalize hex:evM A f=ex at*
 unfold c62
 simp[v1,v2,zA f]
 refine zR h1 (by simp[v1,v2,v3,zA f]) (bdM0 hd hM0 hS0 left h0) (by simp) ?_
 simp[hne,zB ex]
 refine zR h2 (by simp[zB ex]) (bdN hd _) (by simp) ?_
 simp[hne,upds,zB ex]
theorem spec61 (a:Fm) (hb:zZ a<=2^30) (hv:okVar (fun _=>False) a) {D d i g:Nat} {left:Int} (hd:d < D) (hc:(costM (fun _=>0) a:Int)<=left) (hl:left<=100000):
  Go.Ab.Loc Pg Gl D 61 [.ptr d i g 0,encM a] [Bd d i g left] (encM (subM (fun _=> .mk 0 0 0 []) a)) [Bd d i g (left - costM (fun _=>0) a)]:=by
 have hne:¬d=D:=by omega
 refine zX zF tok rfl rfl fun S hS=> ?_
 have h0:=(hS _ (List.mem_cons_self ..)).2
 simp only at h0
 have hvc:VarC d i g 115 [] [] (fun _=> .mk 0 0 0 []) (fun _=>0) (fun _=>False):=⟨by decide,rfl,fun _ _ _ _ _ h _ _=>h.elim⟩
 have h1:=spec89 hvc (by simp) a hb hv (D+1) left (by omega) (by simp) hc hl
 generalize hex:subM (fun _=> .mk 0 0 0 []) a=ex at*
 unfold c61
 simp[zB a]
 refine zR h1 (by simp[zB a]) (bdN0 hd _ h0) (by simp) ?_
 simp[hne,upds,zB ex]
end
end Go.Ab.Tab
/- built: the function that defers a closure which recovers. -/
namespace Go.Ab.Tab
open Go Go.Ab
noncomputable def cD (P:Program) (k:Nat):Option (Nat×(List AOper×Nat×FuncId×List Opd×AC)×List RV):=match P.funcs[k]? with
 | some fn => if fn.name == "runtime.NumGoroutine" then none else match fn.body with
  | some b=>match compD P Gl Lx b,compR P fn.results.toList with
   | some ac,some rs=>some (fn.ntmps,ac,rs)
   | _,_=>none
  | none=>none
 | none=>none
def a74:AC:= .seq (.region [⟨some 5,.mov false (.t 0),none⟩,⟨some 6,.build [.int .i64 0] [(0,(1,.c (.int .i64 2000)))],none⟩,⟨some 7,.box 1 (.t 6),none⟩,⟨some 8,.callv (.t 5) [.t 7],none⟩,⟨none,.store 4 (.t 2) (.t 8),none⟩,⟨none,.store 1 (.t 3) (.c (.bool true)),none⟩] none) .ret
def l74:List AOper:=[⟨some 2,.alloc [.int .i64 0,.int .i64 0,.int .i64 0,.sl 4 [] .nil],none⟩,⟨some 3,.alloc [.bool false],none⟩]
theorem d74:cD Pg 74=some (9,(l74,4,119,[.t 2,.t 3],a74),[.cell 2 true 4,.cell 3 false 1]):=by kernel_rfl
theorem loc_rdD {f n:Nat} {l0 t g caps ac rs} (hc:cD Pg f=some (n,(l0,t,g,caps,ac),rs)) (hg:DefN Pg g) (htn:t < n) {args:List AV} {M dl:List (Nat×Nat×Ent)} {r:AV} {D:Nat} (hl:Nat.ble args.length n=true)
  (h:∀S,(∀m∈M,m.1 < D/\S m.1 m.2.1=m.2.2)->Rd (Loc Pg Gl) .im (RetM rs r D S dl) [.c (.seq (.region l0 none) (.seq (.region [⟨some t,.mkfn g caps,none⟩] none) ac))] (stF n D (argsT 0 args) (fun _=>(0,.dead)) S)):Loc Pg Gl D f args M r dl:=by
 unfold cD at hc
 split at hc
 ·rename_i fn hfn
  split at hc
  ·cases hc
  ·rename_i hname
   split at hc
   ·rename_i b hb
    split at hc
    ·rename_i x rs' h1 h2
     injection hc with hc
     simp only[Prod.mk.injEq] at hc
     obtain ⟨rfl,rfl,rfl⟩:=hc
     refine loc_of_defer (L:=Lx) zF hfn hb (by simpa using hname) h1 h2 hg htn fun S hS=> ?_
     rw[start_stF _ _ _ _ (Nat.le_of_ble_eq_true hl)]
     exact (h S hS).run
    ·cases hc
   ·cases hc
 ·cases hc
theorem rec_run {P:Program} {o:Oper} {ρ} {w:World} (h:o.op= .call ⟨.builtin .recover,#[],#[]⟩):(execOp ρ o).run P w= .ok .recover w:=by
 unfold execOp
 rw[h]
 simp[resolve,invoke,builtin]
theorem eqIn_ifc {P:Program} {w:World} (d:Nat) {t:TypeId} {ms} (hu:P.underlying t=some (.interface ms)):(Op.equalIn (d+1) t .nilIface .nilIface).run P w= .ok true w:=by simp[Op.equalIn,run_underlying hu]
theorem neq_run {P:Program} {o:Oper} {ρ:Operand->Value} {w:World} {t:TypeId} {x:Operand} {t' ms} (hu:P.underlying t=some (.interface ms)) (h:o.op= .binOp .neq t x (.const .nilIface) t') (hx:ρ x= .nilIface) (hc:ρ (.const .nilIface)= .nilIface):(execOp ρ o).run P w= .ok (.value (.bool false)) w:=by
 unfold execOp
 rw[h]
 have h1:(Op.equalIn (9999+1) t Value.nilIface Value.nilIface).run P w= .ok true w:=eqIn_ifc 9999 hu
 have h2:(eqGuard .neq t x (.const .nilIface) .nilIface .nilIface).run P w= .ok () w:=by simp[eqGuard]
 have h3:(binOp .neq t .nilIface .nilIface).run P w= .ok (.bool false) w:=by
  simp only[binOp,Op.equal,Op.maxDepth,Sem.run_bind]
  refine (congrArg (fun r=>Result.andThen r _) h1).trans ?_
  rfl
 simp only[hx,hc,Sem.run_bind,h2,Result.andThen_ok,h3]
 rfl
theorem defN_of {P : Program} {g : FuncId} {fn : Func} {i0 i1 : Nat} {o0 o1 o2 o3 : Oper} {x : Code} {ty ty' : TypeId} {ms} (hf : P.funcs[g]? = some fn) (hn : (fn.name == "runtime.NumGoroutine") = false)
  (hb:fn.body=some (.seq (.region i0 #[o0,o1] false) (.seq (.region i1 #[o2,o3] false) (.cond (.tmp 7) x .skip)))) (hsz:8<=fn.ntmps) (hr:fn.results= #[]) (hu:P.underlying ty=some (.interface ms))
  (h0:o0.op= .call ⟨.builtin .recover,#[],#[]⟩/\o0.dst=some 5/\o0.guard=none) (h1:o1.op= .assign (.tmp 5)/\o1.dst=some 2/\o1.guard=none) (h2:o2.op= .move (.tmp 2)/\o2.dst=some 6/\o2.guard=none)
  (h3:o3.op= .binOp .neq ty (.tmp 6) (.const .nilIface) ty'/\o3.dst=some 7/\o3.guard=none):DefN P g:=by
 refine ⟨⟨fn,hf,by rw[hb];rfl,hn⟩,fun vs w=> ?_⟩
 refine callsD_of_wpS hf hb fun c₀ cs hu0=> ?_
 obtain ⟨h01,h02,h03⟩:=h0
 obtain ⟨h11,h12,h13⟩:=h1
 obtain ⟨h21,h22,h23⟩:=h2
 obtain ⟨h31,h32,h33⟩:=h3
 have hsize:∀v:Array Value,8<=(v++Array.replicate (fn.ntmps - v.size) undef).size:=by intro v;simp;omega
 have hs0:=hsize vs
 generalize vs++Array.replicate (fn.ntmps - vs.size) undef=tm at hs0
 have hrec:recoverD (c₀::cs)=none:=by simp[recoverD,hu0]
 refine wpS_seq (wpS_region ?_)
 have e:List.range (#[o0,o1]:Array Oper).size= [0,1]:=rfl
 have e':List.range (#[o2,o3]:Array Oper).size= [0,1]:=rfl
 rw[e]
 have w0:∀tm,Region.wanted o0 (yielded #[o0,o1] tm)=true:=fun tm=>by simp[Region.wanted,h03]
 have w1:∀tm,Region.wanted o1 (yielded #[o0,o1] tm)=true:=fun tm=>by simp[Region.wanted,h13]
 have w2:∀tm,Region.wanted o2 (yielded #[o2,o3] tm)=true:=fun tm=>by simp[Region.wanted,h23]
 have w3:∀tm,Region.wanted o3 (yielded #[o2,o3] tm)=true:=fun tm=>by simp[Region.wanted,h33]
 have r0:∀ρ,(execOp ρ o0).run P w= .ok .recover w:=fun ρ=>rec_run h01
 have r1:∀ρ,(execOp ρ o1).run P w= .ok (.value (ρ (.tmp 5))) w:=fun ρ=>by unfold execOp;rw[h11];rfl
 have r2:∀ρ,(execOp ρ o2).run P w= .ok (.value (ρ (.tmp 2))) w:=fun ρ=>by unfold execOp;rw[h21];rfl
 simp only[Go.wpOpsS,List.getElem?_toArray,List.getElem?_cons_zero,List.getElem?_cons_succ,w0,w1,if_true,r0,r1,hrec,h02,h12]
 have p5:({tmps:=tm,defers:=[]}:Act).put (some 5) Value.nilIface={tmps:=tm.setIfInBounds 5 .nilIface,defers:=[]}:=rfl
 have v5:(tm.setIfInBounds 5 Value.nilIface).getD 5 undef= .nilIface:=by simp[Array.getD_eq_getD_getElem?,Array.getElem?_setIfInBounds_self_of_lt (show 5 < tm.size by omega)]
 have ev5:(({tmps:=tm,defers:=[]}:Act).put (some 5) Value.nilIface).eval (.tmp 5)= .nilIface:=v5
 simp only[Oper.upon,h12,ev5,Exit.thenS]
 refine wpS_seq (wpS_region ?_)
 rw[e']
 simp only[Go.wpOpsS,List.getElem?_toArray,List.getElem?_cons_zero,List.getElem?_cons_succ,w2,w3,if_true,r2,Oper.upon,h22]
 have putev:∀(a:Act) (i:Nat) (v:Value),i < a.tmps.size->(a.put (some i) v).eval (.tmp i)=v:=fun a i v h=>by
  show (a.tmps.setIfInBounds i v).getD i undef=v
  simp[Array.getD_eq_getD_getElem?,Array.getElem?_setIfInBounds_self_of_lt h]
 have putsz:∀(a:Act) (i:Nat) (v:Value),(a.put (some i) v).tmps.size=a.tmps.size:=fun a i v=>by
  show (a.tmps.setIfInBounds i v).size=_
  simp
 have putdf:∀(a:Act) (i:Nat) (v:Value),(a.put (some i) v).defers=a.defers:=fun a i v=>rfl
 generalize hA1:({tmps:=tm,defers:=[]}:Act).put (some 5) Value.nilIface=A1 at*
 have s1:A1.tmps.size=tm.size:=by rw[<-hA1,putsz]
 have e2:(A1.put (some 2) Value.nilIface).eval (.tmp 2)= .nilIface:=putev _ _ _ (by omega)
 rw[e2]
 generalize hA2:A1.put (some 2) Value.nilIface=A2 at*
 have s2:A2.tmps.size=tm.size:=by rw[<-hA2,putsz,s1]
 have e6:(A2.put (some 6) Value.nilIface).eval (.tmp 6)= .nilIface:=putev _ _ _ (by omega)
 generalize hA3:A2.put (some 6) Value.nilIface=A3 at*
 have s3:A3.tmps.size=tm.size:=by rw[<-hA3,putsz,s2]
 have r3:=neq_run (P:=P) (w:=w) hu h31 (ρ:=A3.eval) e6 rfl
 rw[r3]
 simp only[h32]
 refine wpS_cond (t:=false) (putev _ _ _ (by omega)) ?_
 refine wpS_of_wp (wp_skip ?_)
 have hd:(A3.put (some 7) (Value.bool false)).defers= []:=by rw[putdf,<-hA3,putdf,<-hA2,putdf,<-hA1,putdf]
 refine ⟨hd,.returning,by rw[<-hu0],.tuple #[],?_,⟨_,rfl⟩,rfl,rfl⟩
 unfold results
 rw[hr]
 simp
theorem n119:DefN Pg 119:=by
 have hf:Pg.funcs[119]?=some Go.Proofs.Tryz.f119:=by kernel_rfl
 have hu:Pg.underlying 20=some (.interface (match Pg.underlying 20 with | some (.interface m)=>m | _=>default)):=by kernel_rfl
 exact defN_of hf rfl rfl (by decide) rfl hu ⟨rfl,rfl,rfl⟩ ⟨rfl,rfl,rfl⟩ ⟨rfl,rfl,rfl⟩ ⟨rfl,rfl,rfl⟩
theorem spec74 {D:Nat} {F:FuncId} {caps:List AV} {M0:List (Nat×Nat×Ent)} (hF:F≠yid) (hcaps:caps.map AV.strip=caps) (hM0:∀m∈M0,m.1 < D) {A:Fm} {left:Int}
  (hcall:Go.Ab.Loc Pg Gl (D+1) F (.ptr D 7 1 0::caps) (Bd D 7 1 2000::M0) (encM A) [Bd D 7 1 left]):Go.Ab.Loc Pg Gl D 74 [.fn F caps] M0 (.tup [encM A,.bool true]) []:=by
 refine loc_rdD d74 n119 (by decide) rfl fun S hS=> ?_
 unfold l74 a74
 rw[zB] at hcall|-
 simp
 refine yC (cap:=caps) hcall (by simp) (by simp[hcaps]) ?_ (by simp) ?_ hF
 ·intro m hm
  rcases List.mem_cons.1 hm with rfl | hm
  ·simp
  ·have h1:=hM0 m hm
   refine ⟨Nat.le_of_lt h1,fun e=>absurd e (Nat.ne_of_lt h1),?_⟩
   rw[yB,if_neg (Nat.ne_of_lt h1)]
   exact (hS m hm).2
 simp[upds]
end Go.Ab.Tab
/- Always,Possible,where nothing is too large. -/
namespace Go.Ab.Tab
open Go Go.Ab
def cellsM (a:Fm):List AV:=[.int .i64 a.o,.int .i64 a.n,.int .i64 a.m,.sl 4 (a.ar.map encM) .no]
def cellsF (f:Fu):List AV:=[.int .i64 f.k,.int .i64 f.n,.sl 3 (f.gs.map encF) .no]
def gvM (a:Fm):Fm:=subM (fun _=> .mk 0 0 0 []) a
def gvC (a:Fm):Nat:=costM (fun _=>0) a
def varM:Fm:= .mk 14 0 0 []
theorem gen_var (d i g:Nat):GenC d i g (.meth 63 [.ptr d i g 0]) [] varM 1:=
 ⟨63,[.ptr d i g 0],.inr rfl,by decide,rfl,by simp,fun D left hd _ hc hl=>spec63 D d i g hd left (by omega) hl⟩
def alwM (a:Fm) (f:Fu):Fm:= .mk 2 0 0 [gvM a,.mk 3 0 0 [evM varM f]]
theorem spec59 {D d i g dA:Nat} (hd:d < D) (hdA:dA < d) (a:Fm) (hb:zZ a<=2^30) (hv:okVar (fun _=>False) a) (f:Fu) (hf:zI f=true) {left:Int} (hc:(gvC a+evC 1 f+2:Int)<=left) (hl:left<=100000):
  Go.Ab.Loc Pg Gl D 59 [.ptr d i g 0,.ptr dA 3 1 0,.ptr dA 2 1 0] [Bd d i g left,(dA,3,(1,.cells (cellsM a))),(dA,2,(1,.cells (cellsF f)))] (encM (alwM a f)) [Bd d i g (left - gvC a - evC 1 f - 1 - 1)]:=by
 have hne:¬d=D:=by omega
 have hne2:¬dA=D:=by omega
 have hne3:¬d=dA:=by omega
 have hne4:¬dA=d:=by omega
 refine zX zF tok rfl rfl fun S hS=> ?_
 obtain ⟨⟨_,h0⟩,⟨_,hA⟩,⟨_,hB⟩⟩:=hM3 hS
 simp only[cellsM,cellsF] at h0 hA hB
 have h1:=spec61 a hb hv (D:=D+1) (d:=d) (i:=i) (g:=g) (left:=left) (by omega) (by unfold gvC at hc;omega) hl
 have h2:=spec62 (gen_var d i g) f hf (D:=D+1) (left:=left - gvC a) (by omega) (by simp) (by omega) (by omega)
 have h3:=spec60 (D+1) d i g (by omega) (left - gvC a - evC 1 f - 1) (by omega) (by omega) 2 [gvM a,.mk 3 0 0 [evM varM f]]
 have eg:subM (fun _=> .mk 0 0 0 []) a=gvM a:=rfl
 have ec:costM (fun _=>0) a=gvC a:=rfl
 rw[eg,ec] at h1
 rw[alwM]
 simp only[zL] at h2 h3|-
 generalize gvM a=ga at*
 generalize evM varM f=ef at*
 have hu:∀e,updS S d i e dA 2=S dA 2:=fun e=>by unfold updS;rw[if_neg];rintro ⟨e1,_⟩;exact hne4 e1
 have hu3:∀e,updS S d i e dA 3=S dA 3:=fun e=>by unfold updS;rw[if_neg];rintro ⟨e1,_⟩;exact hne4 e1
 unfold c59
 simp[hne2,hA]
 refine zJ h1 (by simp[zB a]) (bdN0 hd _ h0) (by simp) ?_
 simp[hne,hne2,hu,hB]
 refine zJ h2 (by simp[zA f]) (bdN hd _) (by simp) ?_
 simp[hne,zB ga]
 refine zJ h3 (by simp[zL,zB ga,zB ef]) (bdN hd _) (by simp) ?_
 simp[hne,hne3,hne4,upds,zL,zB ga,zB ef]
def posM (a:Fm) (f:Fu):Fm:=notM (.mk 2 0 0 [notM (gvM a),.mk 3 0 0 [evM (notM varM) f]])
theorem spec66 {D d i g dB:Nat} (hd:d < D) (hB:dB < D) {left:Int} (hc:2<=left) (hl:left<=100000):
  Go.Ab.Loc Pg Gl D 66 [.ptr dB 5 1 0,.ptr dB 3 1 0] (Bd d i g left::[(dB,5,(1,.cells [.fn 65 [.ptr dB 3 1 0]])),(dB,3,(1,.cells [.ptr d i g 0]))]) (encM (notM varM)) [Bd d i g (left - 2)]:=by
 have hne:¬d=D:=by omega
 have hne2:¬dB=D:=by omega
 refine zX zF tok rfl rfl fun S hS=> ?_
 obtain ⟨⟨_,h0⟩,⟨_,h5⟩,⟨_,h3⟩⟩:=hM3 hS
 simp only at h0 h3 h5
 by_cases hsite:d=dB/\i=3
 ·obtain ⟨rfl,rfl⟩:=hsite
  rw[h0] at h3
  injection h3 with _ h3;injection h3 with h3;injection h3 with h3;cases h3
 by_cases hsite5:d=dB/\i=5
 ·obtain ⟨rfl,rfl⟩:=hsite5
  rw[h0] at h5
  injection h5 with _ h5;injection h5 with h5;injection h5 with h5;cases h5
 have hs5:¬d=dB\/¬i=5:=by
  by_cases h:d=dB
  ·exact .inr fun e=>hsite5 ⟨h,e⟩
  ·exact .inl h
 have hs5':¬dB=d\/¬5=i:=by
  rcases hs5 with h | h
  ·exact .inl fun e=>h e.symm
  ·exact .inr fun e=>h e.symm
 have hu:∀e,updS S d i e dB 3=S dB 3:=fun e=>by unfold updS;rw[if_neg];rintro ⟨e1,e2⟩;exact hsite ⟨e1.symm,e2.symm⟩
 have h1:=spec63 (D+1) d i g (by omega) left (by omega) hl
 have h2:=spec65 (D+1) d i g 3 1 (by omega) dB (by omega) (left - 1) (by omega) (by omega) varM
 simp only[notM,varM,zL] at h1 h2|-
 rw[show left - 2=left - 1 - 1 by omega]
 unfold c66
 simp[hne2,h3,h5]
 refine zJ h1 (by simp) (bdN0 hd _ h0) (by simp) ?_
 simp[hne]
 refine yD (cap:=[.ptr dB 3 1 0]) h2 (by simp) (by simp) ?_ (by simp) ?_
 ·intro m hm
  rcases List.mem_cons.1 hm with rfl | hm
  ·exact bdN hd _ _ (by simp)
  ·rw[List.mem_singleton] at hm
   subst hm
   refine ⟨Nat.le_of_lt hB,fun e=>absurd e hne2,?_⟩
   rw[yB,if_neg hne2]
   simp only
   rw[hu];exact h3
 simp[hne,hs5,hs5',upds]
theorem spec64 {D d i g dA:Nat} (hd:d < D) (hdA:dA < d) (a:Fm) (hb:zZ a<=2^30) (hv:okVar (fun _=>False) a) (f:Fu) (hf:zI f=true) {left:Int} (hc:(gvC a+evC 2 f+4:Int)<=left) (hl:left<=100000):
  Go.Ab.Loc Pg Gl D 64 [.ptr d i g 0,.ptr dA 3 1 0,.ptr dA 2 1 0] [Bd d i g left,(dA,3,(1,.cells (cellsM a))),(dA,2,(1,.cells (cellsF f)))] (encM (posM a f)) [Bd d i g (left - gvC a - 1 - evC 2 f - 1 - 1 - 1)]:=by
 have hne:¬d=D:=by omega
 have hne':¬D=d:=by omega
 have hne2:¬dA=D:=by omega
 have hne3:¬d=dA:=by omega
 have hne4:¬dA=d:=by omega
 refine zX zF tok rfl rfl fun S hS=> ?_
 obtain ⟨⟨_,h0⟩,⟨_,hA⟩,⟨_,hB⟩⟩:=hM3 hS
 simp only[cellsM,cellsF] at h0 hA hB
 have hgen:GenC d i g (.fn 66 [.ptr D 5 1 0,.ptr D 3 1 0]) [(D,5,(1,.cells [.fn 65 [.ptr D 3 1 0]])),(D,3,(1,.cells [.ptr d i g 0]))] (notM varM) 2:=
  ⟨66,_,.inl rfl,by decide,rfl,by simp[hne'],fun D' left' hd' hM' hc' hl'=>spec66 hd' (hM' (D,5,(1,.cells [.fn 65 [.ptr D 3 1 0]])) (by simp)) hc' hl'⟩
 have h1:=spec61 a hb hv (D:=D+1) (d:=d) (i:=i) (g:=g) (left:=left) (by omega) (by unfold gvC at hc;omega) hl
 have h2:=spec65 (D+1) d i g 3 1 (by omega) D (by omega) (left - gvC a) (by omega) (by omega) (gvM a)
 have h3:=spec62 hgen f hf (D:=D+1) (left:=left - gvC a - 1) (by omega) (by simp) (by omega) (by omega)
 have h4:=spec60 (D+1) d i g (by omega) (left - gvC a - 1 - evC 2 f - 1) (by omega) (by omega) 2 [notM (gvM a),.mk 3 0 0 [evM (notM varM) f]]
 have h5:=spec65 (D+1) d i g 3 1 (by omega) D (by omega) (left - gvC a - 1 - evC 2 f - 1 - 1) (by omega) (by omega) (.mk 2 0 0 [notM (gvM a),.mk 3 0 0 [evM (notM varM) f]])
 have eg:subM (fun _=> .mk 0 0 0 []) a=gvM a:=rfl
 have ec:costM (fun _=>0) a=gvC a:=rfl
 rw[eg,ec] at h1
 rw[posM]
 generalize evM (notM varM) f=ef at*
 simp only[notM,zL] at h2 h3 h4 h5|-
 generalize gvM a=ga at*
 have hu:∀e,updS S d i e dA 2=S dA 2:=fun e=>by unfold updS;rw[if_neg];rintro ⟨e1,_⟩;exact hne4 e1
 have hu3:∀e,updS S d i e dA 3=S dA 3:=fun e=>by unfold updS;rw[if_neg];rintro ⟨e1,_⟩;exact hne4 e1
 unfold c64
 simp[hne2,hA]
 refine zJ h1 (by simp[zB a]) (bdN0 hd _ h0) (by simp) ?_
 simp[hne]
 refine yD (cap:=[.ptr D 3 1 0]) h2 (by simp) (by simp[zB ga]) (bdE hd _ (by decide) (by simp)) (by simp) ?_
 simp[hne,hne2,hu,hB]
 refine zJ h3 (by simp[zA f]) ?_ (by simp) ?_
 ·intro m hm
  rcases List.mem_cons.1 hm with rfl | hm
  ·exact bdN hd _ _ (by simp)
  ·simp only[List.mem_cons,List.not_mem_nil,or_false] at hm
   rcases hm with rfl | rfl
   ·simp
   ·simp
 simp[hne,zB ga]
 refine zJ h4 (by simp[zL,zB ga,zB ef]) (bdN hd _) (by simp) ?_
 simp[hne,zB ga]
 refine yD (cap:=[.ptr D 3 1 0]) h5 (by simp) (by simp[zL,zB ga,zB ef]) (bdE hd _ (by decide) (by simp)) (by simp) ?_
 simp[hne,hne',hne3,hne4,upds,zL,zB ga,zB ef]
end Go.Ab.Tab
/- Always,Possible,the error of Dual. -/
namespace Go.Ab.Tab
open Go Go.Ab
def isFm (f:Fu) (a:Fm):Bool:=valM f 0 none false a&&decide (zZ a<=2000)&&decide (depthM a<=100)
theorem spec77 (D:Nat) (f:Fu) (hf:zI f=true) (a:Fm):Go.Ab.Loc Pg Gl D 77 [encF f,encM a] [] (.bool (isFm f a)) []:=by
 refine zS zF tok rfl rfl fun S=> ?_
 have e:isFm f a=(ckM f 0 none true 1 a 2000).1:=by
  rw[(ckM_iff f 0 a none true 1 2000 (by omega)).1,isFm]
  have e1:decide ((zZ a:Int)<=2000)=decide (zZ a<=2000):=decide_eq_decide.2 (by omega)
  have e2:decide (1+depthM a<=101)=decide (depthM a<=100):=decide_eq_decide.2 (by omega)
  rw[e1,e2];rfl
 rw[e]
 unfold c77
 simp[zA f,zB a]
 refine zR ((sub_all f hf 0 D 6 1 a).1 (D+1) 1 true 2000 (by omega) (by omega) (by omega)) (by simp[zA f,zB a]) (by simp) (by simp) ?_
 simp
def fineN (f:Fu) (a:Fm):Int:=if isF f then (if isFm f a then 0 else 70) else 10
theorem spec57 (D:Nat) (f:Fu) (hf:fitF f) (a:Fm):Go.Ab.Loc Pg Gl D 57 [encF f,encM a] [] (.int .i64 (fineN f a)) []:=by
 refine zS zF tok rfl rfl fun S=> ?_
 unfold c57 fineN
 simp[zA f,zB a]
 refine zD (spec114 f hf (D+1)) (by simp[zA f]) ?_
 cases h:isF f
 ·simp
 ·simp
  refine zD (spec77 (D+1) f (isF_shaped h) a) (by simp[zA f,zB a]) ?_
  cases isFm f a<;>simp
theorem fitM_of:∀a:Fm,zZ a<=maxLen->fitM a:=by
 refine Fm.ind' fun o n m ar ih h=> ?_
 rw[zZ] at h
 have:=nodesMs_len ar
 rw[fitM]
 refine ⟨by omega,?_⟩
 have:∀l:List Fm,(∀b∈l,fitM b)->fitMs l:=by
  intro l
  induction l with
  | nil=>intro _;rw[fitMs];trivial
  | cons b l ihl=>intro h;rw[fitMs];exact ⟨h b (by simp),ihl fun c hc=>h c (by simp[hc])⟩
 exact this ar fun b hb=>ih b hb (by have:=nodesMs_le hb;omega)
def singR (f:Fu) (x:Eqn):AV:=if isL f [x] then .tup [.sl 5 [encE x] .no,.int .i64 0] else .tup [.sl 5 [] .no,.int .i64 2]
theorem spec58 {D:Nat} (f:Fu) (hf:zI f=true) (gr:Bool) {F:FuncId} {caps:List AV} {M0:List (Nat×Nat×Ent)} (hF:F≠yid) (hcaps:caps.map AV.strip=caps) (hM0:∀m∈M0,m.1 < D) {A:Fm} (hA:zZ A<=maxLen) {left:Int}
  (hcall:Go.Ab.Loc Pg Gl (D+2) F (.ptr (D+1) 7 1 0::caps) (Bd (D+1) 7 1 2000::M0) (encM A) [Bd (D+1) 7 1 left]):
  Go.Ab.Loc Pg Gl D 58 [encF f,.bool gr,.fn F caps] M0 (singR f ⟨gr,A⟩) []:=by
 refine zX zF tok rfl rfl fun S hS=> ?_
 have h74:=spec74 (D:=D+1) hF hcaps (fun m hm=>by have:=hM0 m hm;omega) hcall
 have h92:=spec92 (D+1) f hf [⟨gr,A⟩] ⟨by simp[maxLen],fun x hx=>by rw[List.mem_singleton] at hx;subst hx;exact fitM_of A hA⟩
 simp[encL,encE] at h92
 rw[zB] at h74
 unfold c58 singR
 simp[zA f]
 refine zR h74 (by simp[hcaps]) ?_ (by simp) ?_
 ·intro m hm
  have h1:=hM0 m hm
  refine ⟨Nat.le_of_lt h1,fun e=>absurd e (Nat.ne_of_lt h1),?_⟩
  rw[yB,if_neg (Nat.ne_of_lt h1)]
  exact (hS m hm).2
 simp
 refine zD h92 (by simp[zA f]) ?_
 cases isL f [⟨gr,A⟩]<;>simp[upds,encE]
theorem spec20 (D:Nat) (f:Fu) (hf:fitF f) (a:Fm) (h0:fineN f a=0) (hv:okVar (fun _=>False) a) (hc:gvC a+evC 1 f+2<=2000) (hA:zZ (alwM a f)<=maxLen):
  Go.Ab.Loc Pg Gl D 20 [encF f,encM a] [] (singR f ⟨true,alwM a f⟩) []:=by
 have hfs:zI f=true/\zZ a<=2000:=by
  unfold fineN at h0
  cases h1:isF f with
  | false=>rw[h1] at h0;simp at h0
  | true=>
   refine ⟨isF_shaped h1,?_⟩
   cases h2:isFm f a with
   | false=>rw[h1,h2] at h0;simp at h0
   | true=>
    unfold isFm at h2
    simp only[Bool.and_eq_true,decide_eq_true_eq] at h2
    exact h2.1.2
 refine zX zF tok rfl rfl fun S hS=> ?_
 have h57:=spec57 (D+1) f hf a
 rw[h0] at h57
 have h59:=spec59 (D:=D+1+2) (d:=D+1+1) (i:=7) (g:=1) (dA:=D) (by omega) (by omega) a (by omega) hv f hfs.1 (left:=2000) (by omega) (by omega)
 have h58:=spec58 (D:=D+1) f hfs.1 true (F:=59) (caps:=[.ptr D 3 1 0,.ptr D 2 1 0]) (M0:=[(D,3,(1,.cells (cellsM a))),(D,2,(1,.cells (cellsF f)))]) (by decide) rfl (by simp) hA h59
 have hsr:(∃e1:List AV,∃e2:Int,singR f ⟨true,alwM a f⟩= .tup [.sl 5 e1 .no,.int .i64 e2]):=by
  unfold singR;split
  ·exact ⟨_,_,rfl⟩
  ·exact ⟨_,_,rfl⟩
 obtain ⟨e1,e2,hsr⟩:=hsr
 rw[hsr] at h58|-
 unfold c20
 simp[zA f,zB a]
 refine zD h57 (by simp[zA f,zB a]) ?_
 simp
 refine zR h58 (by simp[zA f]) (by simp[cellsM,cellsF]) (by simp) ?_
 simp[upds]
theorem spec21 (D:Nat) (f:Fu) (hf:fitF f) (a:Fm) (h0:fineN f a=0) (hv:okVar (fun _=>False) a) (hc:gvC a+evC 2 f+4<=2000) (hA:zZ (posM a f)<=maxLen):
  Go.Ab.Loc Pg Gl D 21 [encF f,encM a] [] (singR f ⟨false,posM a f⟩) []:=by
 have hfs:zI f=true/\zZ a<=2000:=by
  unfold fineN at h0
  cases h1:isF f with
  | false=>rw[h1] at h0;simp at h0
  | true=>
   refine ⟨isF_shaped h1,?_⟩
   cases h2:isFm f a with
   | false=>rw[h1,h2] at h0;simp at h0
   | true=>
    unfold isFm at h2
    simp only[Bool.and_eq_true,decide_eq_true_eq] at h2
    exact h2.1.2
 refine zX zF tok rfl rfl fun S hS=> ?_
 have h57:=spec57 (D+1) f hf a
 rw[h0] at h57
 have h64:=spec64 (D:=D+1+2) (d:=D+1+1) (i:=7) (g:=1) (dA:=D) (by omega) (by omega) a (by omega) hv f hfs.1 (left:=2000) (by omega) (by omega)
 have h58:=spec58 (D:=D+1) f hfs.1 false (F:=64) (caps:=[.ptr D 3 1 0,.ptr D 2 1 0]) (M0:=[(D,3,(1,.cells (cellsM a))),(D,2,(1,.cells (cellsF f)))]) (by decide) rfl (by simp) hA h64
 have hsr:(∃e1:List AV,∃e2:Int,singR f ⟨false,posM a f⟩= .tup [.sl 5 e1 .no,.int .i64 e2]):=by
  unfold singR;split
  ·exact ⟨_,_,rfl⟩
  ·exact ⟨_,_,rfl⟩
 obtain ⟨e1,e2,hsr⟩:=hsr
 rw[hsr] at h58|-
 unfold c21
 simp[zA f,zB a]
 refine zD h57 (by simp[zA f,zB a]) ?_
 simp
 refine zR h58 (by simp[zA f]) (by simp[cellsM,cellsF]) (by simp) ?_
 simp[upds]
def asksN (f:Fu) (l:List Eqn):Int:=if isF f then (if isL f l then 0 else 90) else 10
theorem spec87 (D:Nat) (f:Fu) (hf:fitF f) (l:List Eqn) (hl:fitL l):Go.Ab.Loc Pg Gl D 87 [encF f,encL l] [] (.int .i64 (asksN f l)) []:=by
 refine zS zF tok rfl rfl fun S=> ?_
 unfold c87 asksN
 simp[zA f,encL]
 refine zD (spec114 f hf (D+1)) (by simp[zA f]) ?_
 cases h:isF f
 ·simp
 ·simp
  refine zD (spec92 (D+1) f (isF_shaped h) l hl) (by simp[zA f,encL]) ?_
  cases isL f l<;>simp
theorem spec34e (D:Nat) (f:Fu) (hf:fitF f) (l:List Eqn) (hl:fitL l) (h0:asksN f l≠0):Go.Ab.Loc Pg Gl D 34 [encF f,encL l] [] (.tup [.sl 5 [] .no,.int .i64 (asksN f l)]) []:=by
 refine zS zF tok rfl rfl fun S=> ?_
 have hd:decide (asksN f l=0)=false:=decide_eq_false h0
 unfold c34
 simp[zA f,encL]
 refine zD (spec87 (D+1) f hf l hl) (by simp[zA f,encL]) ?_
 simp[hd]
theorem spec81 (D:Nat) (o n m:Int) (ar:List Fm):Go.Ab.Loc Pg Gl D 81 [.int .i64 o,.int .i64 n,.int .i64 m,.sl 4 (ar.map encM) .no] [] (encM (.mk o n m ar)) []:=by
 refine zS zF tok rfl rfl fun S=> ?_
 rw[zL]
 unfold c81
 simp
end Go.Ab.Tab
/- awake: calls that do not depend on the input. -/
namespace Go.Ab.Tab
open Go Go.Ab
def chF:Fu:= .mk 2 0 [.mk 1 2 [],.mk 7 0 [.mk 0 0 []]]
def chM:List Va:=[.mk 0 [.mk 0 [] [],.mk 0 [.mk 1 [] [],.mk 2 [] []] [1,2]] [],.mk 0 [.mk 1 [] [],.mk 0 [.mk 1 [] []] [1]] [],.mk 0 [.mk 1 [] [],.mk 0 [.mk 2 [] []] [1]] []]
def chS:Sy:=⟨chF,chM⟩
def chA:Fm:= .mk 3 0 0 [.mk 6 0 0 [.mk 5 1 0 []]]
theorem spec44 (D:Nat):Go.Ab.Loc Pg Gl D 44 [] [] (.tup [encY chS,encM chA]) []:=by
 refine zS zF tok rfl rfl fun S=> ?_
 have h1:=spec101 (D+1) 1 2 []
 have h2:=spec101 (D+1) 0 0 []
 have h3:=spec101 (D+1) 7 0 [.mk 0 0 []]
 have h4:=spec101 (D+1) 2 0 [.mk 1 2 [],.mk 7 0 [.mk 0 0 []]]
 have h5:=spec81 (D+1) 5 1 0 []
 have h6:=spec81 (D+1) 6 0 0 [.mk 5 1 0 []]
 have h7:=spec81 (D+1) 3 0 0 [.mk 6 0 0 [.mk 5 1 0 []]]
 simp[zO,zL] at h1 h2 h3 h4 h5 h6 h7
 simp[encY,chS,chF,chM,chA,zO,zN,zL,Fu.k,Fu.n,Fu.gs]
 unfold c44
 simp
 refine zD h1 (by simp) ?_
 refine zD h2 (by simp) ?_
 simp
 refine zD h3 (by simp) ?_
 simp
 refine zD h4 (by simp) ?_
 simp
 refine zU h5 (by simp) ?_
 simp
 refine zU h6 (by simp) ?_
 simp
 refine zU h7 (by simp) ?_
 simp
def xA:Eqn:=⟨true,alwM chA chF⟩
def xP:Eqn:=⟨false,posM chA chF⟩
theorem chain_facts:fineN chF chA=0/\gvC chA+evC 1 chF+2<=2000/\gvC chA+evC 2 chF+4<=2000/\isL chF [xA]=true/\isL chF [xP]=true/\zZ (alwM chA chF)<=1000/\zZ (posM chA chF)<=1000/\
  faultN chS [xA]=0/\faultN chS [xP]=0/\elemsT (solS chS [xA] 0) 3= [1,2]/\elemsT (solS chS [xP] 0) 3= [0,1,2]/\zH chM<=100:=by
 refine ⟨by rfl,by decide,by decide,by rfl,by rfl,by decide,by decide,by rfl,by rfl,by rfl,by rfl,by decide⟩
theorem fit_ch:fitY chS:=by
 refine ⟨?_,?_,?_⟩
 ·simp[chS,chF,fitF,fitFs,maxLen]
 ·simp[chS,chM,maxLen]
 ·simp[chS,chM,fitV,fitVs,maxLen]
theorem okVar_ch:okVar (fun _=>False) chA:=by simp[chA,okVar,okVars]
theorem sing_ok {f:Fu} {x:Eqn} (h:isL f [x]=true):singR f x= .tup [.sl 5 [encE x] .no,.int .i64 0]:=by unfold singR;rw[if_pos h]
theorem fitL_one {x:Eqn} (h:zZ x.body<=maxLen):fitL [x]:=⟨by simp[maxLen],fun y hy=>by rw[List.mem_singleton] at hy;subst hy;exact fitM_of _ h⟩
theorem sol_one {x:Eqn} (h0:faultN chS [x]=0):solR chS [x]= .tup [.sl 1 [listT 3 (solS chS [x] 0)] .no,.int .i64 0]:=by
 unfold solR;rw[if_pos h0];rfl
theorem spec12 (D:Nat):Go.Ab.Loc Pg Gl D 12 [] [] (.bool true) []:=by
 obtain ⟨f1,f2,f3,f4,f5,f6,f7,f8,f9,f10,f11,f12⟩:=chain_facts
 have n6:zZ xA.body<=maxLen:=by unfold maxLen;exact Nat.le_trans f6 (by decide)
 have n7:zZ xP.body<=maxLen:=by unfold maxLen;exact Nat.le_trans f7 (by decide)
 have h44:=spec44 (D+1)
 have h20:=spec20 (D+1) chF fit_ch.1 chA f1 okVar_ch f2 n6
 have h21:=spec21 (D+1) chF fit_ch.1 chA f1 okVar_ch f3 n7
 have e20:singR chF ⟨true,alwM chA chF⟩= .tup [.sl 5 [encE xA] .no,.int .i64 0]:=sing_ok f4
 have e21:singR chF ⟨false,posM chA chF⟩= .tup [.sl 5 [encE xP] .no,.int .i64 0]:=sing_ok f5
 rw[e20] at h20
 rw[e21] at h21
 have hsh:zI chF=true:=by rfl
 have h36a:=spec36 (D+1) chF hsh [xA] (fitL_one n6)
 have h36p:=spec36 (D+1) chF hsh [xP] (fitL_one n7)
 rw[f4] at h36a
 rw[f5] at h36p
 have h13a:=spec13 chS fit_ch (by show zH chM<=_;omega) [xA] (fitL_one n6) (D+1)
 have h13p:=spec13 chS fit_ch (by show zH chM<=_;omega) [xP] (fitL_one n7) (D+1)
 rw[sol_one f8,listT,f10] at h13a
 rw[sol_one f9,listT,f11] at h13p
 have h34:=spec34e (D+1) (.mk (-1) 0 []) (by simp[fitF,fitFs,maxLen]) [] ⟨by simp[maxLen],by simp⟩ (by decide)
 have e34:asksN (.mk (-1) 0 []) []=10:=by rfl
 rw[e34] at h34
 rw[zO] at h34
 have eY:encY chS= .agg [.int .i64 2,.int .i64 0,.sl 3 (chF.gs.map encF) .no,.sl 3 (chM.map encV) .no]:=rfl
 have eF:encF chF= .agg [.int .i64 2,.int .i64 0,.sl 3 (chF.gs.map encF) .no]:=by rw[zA];rfl
 have eA:encM chA= .agg [.int .i64 3,.int .i64 0,.int .i64 0,.sl 4 (chA.ar.map encM) .no]:=by rw[zB];rfl
 have eLA:encL [xA]= .sl 5 [encE xA] .no:=rfl
 have eLP:encL [xP]= .sl 5 [encE xP] .no:=rfl
 have eL0:encL []= .sl 5 [] .no:=rfl
 rw[eY] at h44 h13a h13p
 rw[eA] at h44 h20 h21
 rw[eF] at h20 h21 h36a h36p
 rw[eLA] at h36a h13a
 rw[eLP] at h36p h13p
 rw[eL0] at h34
 generalize chF.gs.map encF=gF at*
 generalize chM.map encV=gM at*
 generalize chA.ar.map encM=gA at*
 generalize encE xA=EA' at*
 generalize encE xP=EP' at*
 refine zS zF tok rfl rfl fun S=> ?_
 unfold c12
 simp
 refine zD h44 (by simp) ?_
 simp
 refine zD h20 (by simp) ?_
 simp
 refine zD h21 (by simp) ?_
 simp
 refine zD h36a (by simp) ?_
 simp
 refine zD h36p (by simp) ?_
 simp
 refine zD h13a (by simp) ?_
 simp
 refine zD h13p (by simp) ?_
 simp
 refine zD h34 (by simp) ?_
 simp[encN]
end Go.Ab.Tab
/- Arguments as data. -/
namespace Go.Ab
open Go
section
variable {P:Program} {t:TypeId} {n:Nat} {cs:List AV}
theorem ty_int {k:IntKind} (hu:P.underlying t=some (.int k)) (h:tyOk P n t cs):∃i,cs= [.int k i]/\(Lit.int k i).wf=true:=by
 cases n with
 | zero=>cases h
 | succ n=>simpa only[tyOk,hu] using h
theorem ty_slice {e:TypeId} (hu:P.underlying t=some (.slice e)) (h:tyOk P n t cs):∃xs n',cs= [.sl (P.cellsOf e) xs .no]/\xs.length<=maxLen/\∀x∈xs,∃c,x=mkV P e c/\tyOk P n' e c:=by
 cases n with
 | zero=>cases h
 | succ n=>
  simp only[tyOk,hu] at h
  obtain ⟨xs,h1,h2,h3⟩:=h
  exact ⟨xs,n,h1,h2,h3⟩
def fieldsOf (P:Program) (t:TypeId):List (TypeId×Nat):=match P.underlying t with
 | some (.struct fs)=>fs.toList.map fun f=>(f.type,f.offset)
 | _=>[]
def isStruct (P:Program) (t:TypeId):Bool:=match P.underlying t with
 | some (.struct _)=>true
 | _=>false
theorem map_exists {α β:Type} (f:α->β) (q:α->Prop):∀(l:List β),(∀x∈l,∃a,x=f a/\q a)->∃bs:List α,l=bs.map f/\∀a∈bs,q a
 | [],_=>⟨[],rfl,by simp⟩
 | x::l,h=>by
  obtain ⟨a,h1,h2⟩:=h x (by simp)
  obtain ⟨bs,h3,h4⟩:=map_exists f q l fun y hy=>h y (by simp[hy])
  exact ⟨a::bs,by simp[h1,h3],fun b hb=>by rcases List.mem_cons.1 hb with rfl | hb;exact h2;exact h4 b hb⟩
theorem mkV_one (h:isAggT P t=false) (c:AV):mkV P t [c]=c:=by unfold mkV;rw[h];rfl
theorem mkV_agg (h:isAggT P t=true):mkV P t cs= .agg cs:=by unfold mkV;rw[h];rfl
end
namespace Tab
theorem u3:Pg.underlying 3=some (.int .i64):=by kernel_rfl
theorem u40:Pg.underlying 40=some (.slice 3):=by kernel_rfl
theorem z3:Pg.cellsOf 3=1:=by kernel_rfl
theorem z40:Pg.cellsOf 40=1:=by kernel_rfl
theorem g3:isAggT Pg 3=false:=by kernel_rfl
theorem g40:isAggT Pg 40=false:=by kernel_rfl
theorem ty40 {n:Nat} {cs:List AV} (h:tyOk Pg n 40 cs):∃l:List Int,cs= [encI l]/\l.length<=maxLen:=by
 obtain ⟨xs,n',rfl,h2,h3⟩:=ty_slice u40 h
 obtain ⟨l,rfl,_⟩:=map_exists (AV.int .i64) (fun _=>True) xs fun x hx=>by
  obtain ⟨c,rfl,hc⟩:=h3 x hx
  obtain ⟨i,rfl,_⟩:=ty_int u3 hc
  exact ⟨i,mkV_one g3 _,trivial⟩
 exact ⟨l,by rw[z3];rfl,by simpa using h2⟩
theorem u22:Pg.underlying 22=some (.slice 24):=by kernel_rfl
theorem u25:Pg.underlying 25=some (.slice 102):=by kernel_rfl
theorem s24:isStruct Pg 24=true:=by kernel_rfl
theorem s102:isStruct Pg 102=true:=by kernel_rfl
theorem s27:isStruct Pg 27=true:=by kernel_rfl
theorem f24:fieldsOf Pg 24= [(3,0),(3,1),(22,2)]:=by kernel_rfl
theorem f102:fieldsOf Pg 102= [(3,0),(25,1),(40,2)]:=by kernel_rfl
theorem f27:fieldsOf Pg 27= [(24,0),(25,3)]:=by kernel_rfl
theorem z24:Pg.cellsOf 24=3:=by kernel_rfl
theorem z102:Pg.cellsOf 102=3:=by kernel_rfl
theorem z27:Pg.cellsOf 27=4:=by kernel_rfl
theorem z22:Pg.cellsOf 22=1:=by kernel_rfl
theorem z25:Pg.cellsOf 25=1:=by kernel_rfl
theorem g24:isAggT Pg 24=true:=by kernel_rfl
theorem g102:isAggT Pg 102=true:=by kernel_rfl
theorem g27:isAggT Pg 27=true:=by kernel_rfl
theorem ty_slice' {P:Program} {t e:TypeId} {n:Nat} {cs:List AV} (hu:P.underlying t=some (.slice e)) (h:tyOk P (n+1) t cs):∃xs,cs= [.sl (P.cellsOf e) xs .no]/\xs.length<=maxLen/\∀x∈xs,∃c,x=mkV P e c/\tyOk P n e c:=by
 simp only[tyOk,hu] at h
 exact h
theorem ty_struct' {P:Program} {t:TypeId} {n:Nat} {cs:List AV} (hs:isStruct P t=true) (h:tyOk P (n+1) t cs):cs.length=P.cellsOf t/\∀f∈fieldsOf P t,tyOk P n f.1 ((cs.drop f.2).take (P.cellsOf f.1)):=by
 unfold isStruct at hs
 unfold fieldsOf
 cases hu:P.underlying t with
 | none=>rw[hu] at hs;cases hs
 | some d=>
  rw[hu] at hs
  cases d with
  | struct fs=>
   simp only[tyOk,hu] at h
   refine ⟨h.1,fun f hf=> ?_⟩
   obtain ⟨g,hg,rfl⟩:=List.mem_map.1 hf
   exact h.2 g hg
  | _=>cases hs
theorem fitFs_of:∀{l:List Fu},(∀a∈l,fitF a)->fitFs l
 | [],_=>by rw[fitFs];trivial
 | a::l,h=>by rw[fitFs];exact ⟨h a (by simp),fitFs_of fun b hb=>h b (by simp[hb])⟩
theorem three {cs:List AV} (h:cs.length=3):∃a b c,cs= [a,b,c]:=by
 match cs,h with
 | [a,b,c],_=>exact ⟨a,b,c,rfl⟩
theorem ty24:∀(n:Nat) {cs:List AV},tyOk Pg n 24 cs->∃f:Fu,cs= [.int .i64 f.k,.int .i64 f.n,.sl 3 (f.gs.map encF) .no]/\fitF f:=by
 intro n
 induction n using Nat.strongRecOn with
 | ind n ih=>
  intro cs h
  cases n with
  | zero=>cases h
  | succ n=>
   obtain ⟨hl,hf⟩:=ty_struct' s24 h
   rw[f24] at hf
   rw[z24] at hl
   obtain ⟨a,b,c,rfl⟩:=three hl
   have k0:=hf (3,0) (by simp)
   have k1:=hf (3,1) (by simp)
   have k2:=hf (22,2) (by simp)
   rw[z3] at k0 k1
   rw[z22] at k2
   obtain ⟨i,e0,_⟩:=ty_int u3 k0
   obtain ⟨j,e1,_⟩:=ty_int u3 k1
   simp at e0 e1
   subst e0;subst e1
   cases n with
   | zero=>cases k2
   | succ n=>
    obtain ⟨xs,e2,h2,h3⟩:=ty_slice' u22 k2
    obtain ⟨gs,hgs,hfit⟩:=map_exists encF fitF xs fun x hx=>by
     obtain ⟨c',rfl,hc⟩:=h3 x hx
     obtain ⟨f,rfl,hff⟩:=ih n (by omega) hc
     exact ⟨f,by rw[mkV_agg g24,zA],hff⟩
    subst hgs
    rw[z24] at e2
    simp at e2
    subst e2
    refine ⟨.mk i j gs,rfl,?_⟩
    rw[fitF]
    exact ⟨by simpa using h2,fitFs_of hfit⟩
theorem ty102:∀(n:Nat) {cs:List AV},tyOk Pg n 102 cs->∃v:Va,cs= [.int .i64 v.n,.sl 3 (v.gs.map encV) .no,.sl 1 (v.ws.map (AV.int .i64)) .no]/\fitV v:=by
 intro n
 induction n using Nat.strongRecOn with
 | ind n ih=>
  intro cs h
  cases n with
  | zero=>cases h
  | succ n=>
   obtain ⟨hl,hf⟩:=ty_struct' s102 h
   rw[f102] at hf
   rw[z102] at hl
   obtain ⟨a,b,c,rfl⟩:=three hl
   have k0:=hf (3,0) (by simp)
   have k1:=hf (25,1) (by simp)
   have k2:=hf (40,2) (by simp)
   rw[z3] at k0
   rw[z25] at k1
   rw[z40] at k2
   obtain ⟨i,e0,_⟩:=ty_int u3 k0
   obtain ⟨ws,e2,hws⟩:=ty40 k2
   simp at e0 e2
   subst e0;subst e2
   cases n with
   | zero=>cases k1
   | succ n=>
    obtain ⟨xs,e1,h2,h3⟩:=ty_slice' u25 k1
    obtain ⟨gs,hgs,hfit⟩:=map_exists encV fitV xs fun x hx=>by
     obtain ⟨c',rfl,hc⟩:=h3 x hx
     obtain ⟨f,rfl,hff⟩:=ih n (by omega) hc
     exact ⟨f,by rw[mkV_agg g102,zC],hff⟩
    subst hgs
    rw[z102] at e1
    simp at e1
    subst e1
    refine ⟨.mk i gs ws,rfl,?_⟩
    rw[fitV]
    exact ⟨⟨by simpa using h2,hws⟩,fitVs_of hfit⟩
theorem arg27 {a:AV} (h:Arg Pg 27 a):∃s:Sy,a=encY s/\fitF s.f/\s.m.length<=maxLen/\∀v∈s.m,fitV v:=by
 obtain ⟨fuel,cs,h1,h2,rfl⟩:=h
 cases fuel with
 | zero=>cases h1
 | succ n=>
  obtain ⟨hl,hf⟩:=ty_struct' s27 h1
  rw[f27] at hf
  rw[z27] at hl
  obtain ⟨a,b,c,d,rfl⟩:∃a b c d,cs= [a,b,c,d]:=by
   match cs,hl with
   | [a,b,c,d],_=>exact ⟨a,b,c,d,rfl⟩
  have k0:=hf (24,0) (by simp)
  have k1:=hf (25,3) (by simp)
  rw[z24] at k0
  rw[z25] at k1
  obtain ⟨f,e0,hff⟩:=ty24 _ k0
  simp at e0
  obtain ⟨rfl,rfl,rfl⟩:=e0
  cases n with
  | zero=>cases k1
  | succ n=>
   obtain ⟨xs,e1,h2',h3⟩:=ty_slice' u25 k1
   obtain ⟨m,hm,hfit⟩:=map_exists encV fitV xs fun x hx=>by
    obtain ⟨c',rfl,hc⟩:=h3 x hx
    obtain ⟨v,rfl,hvv⟩:=ty102 _ hc
    exact ⟨v,by rw[mkV_agg g102,zC],hvv⟩
   subst hm
   rw[z102] at e1
   simp at e1
   subst e1
   refine ⟨⟨f,m⟩,by rw[mkV_agg g27];rfl,hff,by simpa using h2',hfit⟩
theorem four {cs:List AV} (h:cs.length=4):∃a b c d,cs= [a,b,c,d]:=by
 match cs,h with
 | [a,b,c,d],_=>exact ⟨a,b,c,d,rfl⟩
theorem ty_bool {P:Program} {t:TypeId} {n:Nat} {cs:List AV} (hu:P.underlying t=some .bool) (h:tyOk P n t cs):∃b,cs= [.bool b]:=by
 cases n with
 | zero=>cases h
 | succ n=>simpa only[tyOk,hu] using h
theorem u4:Pg.underlying 4=some .bool:=by kernel_rfl
theorem u43:Pg.underlying 43=some (.slice 45):=by kernel_rfl
theorem u28:Pg.underlying 28=some (.slice 71):=by kernel_rfl
theorem s45:isStruct Pg 45=true:=by kernel_rfl
theorem s71:isStruct Pg 71=true:=by kernel_rfl
theorem f45:fieldsOf Pg 45= [(3,0),(3,1),(3,2),(43,3)]:=by kernel_rfl
theorem f71:fieldsOf Pg 71= [(4,0),(45,1)]:=by kernel_rfl
theorem z45:Pg.cellsOf 45=4:=by kernel_rfl
theorem z71:Pg.cellsOf 71=5:=by kernel_rfl
theorem z43:Pg.cellsOf 43=1:=by kernel_rfl
theorem z4:Pg.cellsOf 4=1:=by kernel_rfl
theorem g45:isAggT Pg 45=true:=by kernel_rfl
theorem g71:isAggT Pg 71=true:=by kernel_rfl
theorem g28:isAggT Pg 28=false:=by kernel_rfl
theorem fitMs_of:∀{l:List Fm},(∀a∈l,fitM a)->fitMs l
 | [],_=>by rw[fitMs];trivial
 | a::l,h=>by rw[fitMs];exact ⟨h a (by simp),fitMs_of fun b hb=>h b (by simp[hb])⟩
theorem ty45:∀(n:Nat) {cs:List AV},tyOk Pg n 45 cs->∃f:Fm,cs= [.int .i64 f.o,.int .i64 f.n,.int .i64 f.m,.sl 4 (f.ar.map encM) .no]/\fitM f:=by
 intro n
 induction n using Nat.strongRecOn with
 | ind n ih=>
  intro cs h
  cases n with
  | zero=>cases h
  | succ n=>
   obtain ⟨hl,hf⟩:=ty_struct' s45 h
   rw[f45] at hf
   rw[z45] at hl
   obtain ⟨a,b,c,d,rfl⟩:=four hl
   have k0:=hf (3,0) (by simp)
   have k1:=hf (3,1) (by simp)
   have k2:=hf (3,2) (by simp)
   have k3:=hf (43,3) (by simp)
   rw[z3] at k0 k1 k2
   rw[z43] at k3
   obtain ⟨i,e0,_⟩:=ty_int u3 k0
   obtain ⟨j,e1,_⟩:=ty_int u3 k1
   obtain ⟨l,e2,_⟩:=ty_int u3 k2
   simp at e0 e1 e2
   subst e0;subst e1;subst e2
   cases n with
   | zero=>cases k3
   | succ n=>
    obtain ⟨xs,e3,h2,h3⟩:=ty_slice' u43 k3
    obtain ⟨gs,hgs,hfit⟩:=map_exists encM fitM xs fun x hx=>by
     obtain ⟨c',rfl,hc⟩:=h3 x hx
     obtain ⟨f,rfl,hff⟩:=ih n (by omega) hc
     exact ⟨f,by rw[mkV_agg g45,zB],hff⟩
    subst hgs
    rw[z45] at e3
    simp at e3
    subst e3
    refine ⟨.mk i j l gs,rfl,?_⟩
    rw[fitM]
    exact ⟨by simpa using h2,fitMs_of hfit⟩
theorem ty71 {n:Nat} {cs:List AV} (h:tyOk Pg n 71 cs):∃x:Eqn,mkV Pg 71 cs=encE x/\fitM x.body:=by
 cases n with
 | zero=>cases h
 | succ n=>
  obtain ⟨hl,hf⟩:=ty_struct' s71 h
  rw[f71] at hf
  rw[z71] at hl
  obtain ⟨a,b,c,d,e,rfl⟩:∃a b c d e,cs= [a,b,c,d,e]:=by
   match cs,hl with
   | [a,b,c,d,e],_=>exact ⟨a,b,c,d,e,rfl⟩
  have k0:=hf (4,0) (by simp)
  have k1:=hf (45,1) (by simp)
  rw[z4] at k0
  rw[z45] at k1
  obtain ⟨g,e0⟩:=ty_bool u4 k0
  obtain ⟨f,e1,hff⟩:=ty45 _ k1
  simp at e0 e1
  obtain ⟨rfl,rfl,rfl,rfl⟩:=e1
  subst e0
  exact ⟨⟨g,f⟩,by rw[mkV_agg g71];rfl,hff⟩
theorem arg28 {a:AV} (h:Arg Pg 28 a):∃l:List Eqn,a=encL l/\fitL l:=by
 obtain ⟨fuel,cs,h1,h2,rfl⟩:=h
 obtain ⟨xs,n',rfl,h2,h3⟩:=ty_slice u28 h1
 obtain ⟨l,hl,hfit⟩:=map_exists encE (fun x=>fitM x.body) xs fun x hx=>by
  obtain ⟨c,rfl,hc⟩:=h3 x hx
  exact ty71 hc
 subst hl
 exact ⟨l,by rw[mkV_one g28,z71];rfl,by simpa using h2,hfit⟩
theorem arg27' {a:AV} (h:Arg Pg 27 a):∃s:Sy,a=encY s/\fitY s:=by
 obtain ⟨s,rfl,h1,h2,h3⟩:=arg27 h
 exact ⟨s,rfl,h1,h2,h3⟩
end Tab
end Go.Ab
/- The reference's List,and same: of sets that lie in a frame below. -/
namespace Go.Ab.Tab
open Go Go.Ab
structure Rw where
 s:Nat
 g:Nat
 b:List Bool
def rowA (d:Nat) (x:Rw):AV:= .own d x.s x.g 0 x.b.length 1 false
def rowE (x:Rw):Ent:=(x.g,.cells (x.b.map AV.bool))
def rowM (d:Nat) (x:Rw):Nat×Nat×Ent:=(d,x.s,rowE x)
def elemsL (bs:List Bool):List Nat:=(List.range bs.length).filter fun i=>bs.getD i false
theorem l24a {D:Nat} {L:List (List Int)} {S:Nat->Nat->Ent} {r:AV} {K:List AI} {i:Nat} (hi:i < L.length) {x:List Nat} (hx:toZ x=L[i]) (hxl:x.length < 2^62):∀(j k:Nat) (τ ω),k+j=x.length->
  τ 0= .sl 1 (L.map encI) .no->τ 5= .int .i64 i->τ 32= .sl 1 (x.map encN) .no->τ 33= .int .i64 x.length->τ 34= .int .i64 k->
  (∀τ',τ' 0=τ 0->τ' 1=τ 1->τ' 15=τ 15->τ' 16=τ 16->τ' 17=τ 17->Rd (Loc Pg Gl) .im (RetM [.tmp 4] r D S []) K (stF 50 D τ' ω S))->
  Rd (Loc Pg Gl) .im (RetM [.tmp 4] r D S []) (.lp c24_l0:: .blk 2::K) (stF 50 D τ ω S):=by
 intro j
 induction j with
 | zero=>
  intro k τ ω hk t0 t5 t32 t33 t34 hK
  refine zK c24_l0.eq_1 ?_
  obtain rfl:k=x.length:=by omega
  simp[t0,t5,t32,t33,t34]
  refine hK _ ?_ ?_ ?_ ?_ ?_
  all_goals simp
 | succ j ih=>
  intro k τ ω hk t0 t5 t32 t33 t34 hK
  refine zK c24_l0.eq_1 ?_
  have hlt:k < x.length:=by omega
  have hlt':(k:Int) < x.length:=by omega
  have hi':(i:Int) < L.length:=by omega
  have hwr:IntKind.i64.wrap ((k:Int)+1)=((k+1:Nat):Int):=by rw[<-zE (n:=k+1) (by omega)];rfl
  have hkl:k < L[i].length:=by rw[<-hx,toZ_len];exact hlt
  have hkl':(k:Int) < L[i].length:=by omega
  have hget:(L[i])[k]=(x[k]:Int):=by simp only[<-hx];simp[toZ]
  simp[t0,t5,t32,t33,t34,hlt,hlt',hi,hi',encI,encN,hkl,hkl',hget,hwr]
  refine ih (k+1) _ ω (by omega) ?_ ?_ ?_ ?_ ?_ fun τ' a1 a2 a3 a4 a5=>hK τ' (a1.trans ?_) (a2.trans ?_) (a3.trans ?_) (a4.trans ?_) (a5.trans ?_)
  all_goals simp[t0,t5,t32,t33,encI]
theorem elemsL_bits (n X:Nat):elemsL (zY n X)=elemsT X n:=by
 unfold elemsL elemsT zY
 rw[List.length_map,List.length_range]
 refine List.filter_congr fun i hi=> ?_
 rw[List.mem_range] at hi
 rw[getD_lt (by simpa using hi)];simp
end Go.Ab.Tab
/- Changes of objects of the frame itself. -/
namespace Go.Ab.Tab
open Go Go.Ab
def updL (ω:Nat->Ent) (dl:List (Nat×Nat×Ent)):Nat->Ent:=dl.foldl (fun ω u=>upd ω u.2.1 u.2.2) ω
theorem upL {n D:Nat} {τ:Nat->AV} {S:Nat->Nat->Ent}:∀(dl:List (Nat×Nat×Ent)) (ω:Nat->Ent),(∀u∈dl,u.1=D)->dl.foldl St.up (stF n D τ ω S)=stF n D τ (updL ω dl) S
 | [],ω,_=>rfl
 | u::dl,ω,h=>by
  obtain ⟨d,i,e⟩:=u
  have hd:d=D:=h (d,i,e) (by simp)
  rw[List.foldl_cons,stF_up,if_pos hd,upL dl _ fun v hv=>h v (by simp[hv])]
  rfl
theorem updL_ne:∀(dl:List (Nat×Nat×Ent)) (ω:Nat->Ent) (t:Nat),(∀u∈dl,u.2.1≠t)->updL ω dl t=ω t
 | [],ω,t,_=>rfl
 | u::dl,ω,t,h=>by
  have:updL ω (u::dl)=updL (upd ω u.2.1 u.2.2) dl:=rfl
  rw[this,updL_ne dl _ t fun v hv=>h v (by simp[hv]),upd_at,if_neg (fun e=>h u (by simp) e.symm)]
theorem updL_mem:∀(dl:List (Nat×Nat×Ent)) (ω:Nat->Ent),(dl.map fun u=>u.2.1).Nodup->∀u∈dl,updL ω dl u.2.1=u.2.2
 | [],ω,_,u,h=>by simp at h
 | v::dl,ω,hn,u,h=>by
  rw[List.map_cons,List.nodup_cons] at hn
  have e:updL ω (v::dl)=updL (upd ω v.2.1 v.2.2) dl:=rfl
  rw[e]
  rcases List.mem_cons.1 h with rfl | h
  ·rw[updL_ne dl _ _ fun w hw e=>hn.1 (List.mem_map.2 ⟨w,hw,e⟩),upd_at,if_pos rfl]
  ·exact updL_mem dl _ hn.2 u h
end Go.Ab.Tab
/- The reference's sets of lists,that lie in a frame below: Sets. -/
namespace Go.Ab.Tab
open Go Go.Ab
section
variable {S:Nat->Nat->Ent} {E:Nat->Ent} {d0 o base n:Nat} {l:List (List Int)}
theorem upds_rows (f:Nat->Ent):∀(j:Nat) (S:Nat->Nat->Ent),upds S ((List.range j).map fun i=>(d0,base+i,f i))=fun d t=>if d=d0/\base<=t/\t < base+j then f (t - base) else S d t
 | 0,S=>by funext d t;rw[if_neg (by omega)];rfl
 | j+1,S=>by
  have:=upds_rows f j S
  unfold upds at this|-
  rw[List.range_succ,List.map_append,List.foldl_append,this]
  funext d t
  simp only[List.map_cons,List.map_nil,List.foldl_cons,List.foldl_nil,updS]
  by_cases h2:d=d0/\t=base+j
  ·rw[if_pos h2,if_pos ⟨h2.1,by omega,by omega⟩,h2.2,Nat.add_sub_cancel_left]
  ·rw[if_neg h2]
   by_cases h3:d=d0/\base<=t/\t < base+j
   ·rw[if_pos h3,if_pos ⟨h3.1,h3.2.1,by omega⟩]
   ·rw[if_neg h3,if_neg (fun h=>by
     by_cases e:t=base+j
     ·exact h2 ⟨h.1,e⟩
     ·exact h3 ⟨h.1,h.2.1,by omega⟩)]
end
end Go.Ab.Tab
/- Apply. -/
namespace Go.Ab.Tab
open Go Go.Ab
theorem spec86 (D d0 A gA B gB Cc gC V gV:Nat) (hD:d0 < D) (f:Fu) (nx:List Va) (l:List Eqn) (cs:List AV) (hcs:cs.length=l.length) (hcl:∀i (h:i < l.length),ClS d0 A gA f nx (cs[i]'(by omega)) l[i].body)
  (e:Nat->Nat) (he:envOk (e4 e)) (i:Nat) (hi:i < l.length):
  Go.Ab.Loc Pg Gl D 86 [.int .i64 i,.ptr d0 V gV 0] [(d0,V,(gV,.cells [.ptr d0 B gB 0])),Mm d0 A gA f nx (e4 e),SB d0 A gA B gB l (.own d0 Cc gC 0 l.length 1 false),EC d0 Cc gC cs] (encT (evS nx (e4 e) l[i].body)) []:=by
 refine zX zF tok rfl rfl fun S hS=> ?_
 have hV:=(hS _ (List.mem_cons_self ..)).2
 have hA:=(hS (Mm d0 A gA f nx (e4 e)) (by simp)).2
 have hB:=(hS (SB d0 A gA B gB l (.own d0 Cc gC 0 l.length 1 false)) (by simp)).2
 have hC:=(hS (EC d0 Cc gC cs) (by simp)).2
 simp only at hV hA hB hC
 have hne:¬d0=D:=by omega
 obtain ⟨F,caps,hck,hF,hcaps,hup,hcall⟩:=hcl i hi
 have hi':(i:Int) < l.length:=by omega
 have hics:i < cs.length:=by omega
 unfold c86
 simp[hne,hV,hB,hC,hi',hi,hics,hck]
 refine yC (cap:=caps) (hcall (D+1) (e4 e) (by omega) he) (by simp) (by simp[hcaps]) ?_ (by simp) ?_ hF
 ·intro m hm
  simp only[List.mem_cons,List.not_mem_nil,or_false] at hm
  subst hm
  refine ⟨Nat.le_of_lt hD,fun e=>absurd e hne,?_⟩
  rw[yB,if_neg hne];exact hA
 simp[encT,encW,upds]
def setT (N:Nat) (x:List Int):Nat:=x.foldl (fun N y=>N ||| 2^y.toNat) N
theorem updE_twice (e:Nat->Nat) (i X Y:Nat):updE (updE e i X) i Y=updE e i Y:=by
 funext t
 by_cases h:t=i
 ·rw[h,z5,z5]
 ·rw[yN h,yN h,yN h]
theorem l33a (D:Nat) {f:Fu} {nx:List Va} (hn:nx.length<=128) {m:List AV} (hm:m.length=nx.length) {w3:List AV} {w11:List AV} {w12:Ent} (x:List Int) (hx:x.length < 2^63) {i:Nat} (hi:i < 4) {S:Nat->Nat->Ent} {r:AV} {K:List AI}:∀(j k:Nat) (e:Nat->Nat) (τ ω),k+j=x.length->e i < 2^128->
  τ 3= .ptr D 3 1 0->τ 9= .ptr D 9 1 0->τ 10= .int .i64 i->τ 11=encI x->τ 44=encI x->τ 45= .int .i64 x.length->τ 46= .int .i64 k->
  ω 3=(1,.cells [.int .i64 f.k,.int .i64 f.n,.sl 3 (f.gs.map encF) .no,.sl 3 m .no])->ω 9=(1,.cells [.ptr D 11 1 0])->ω 10=(1,.cells (machC f nx (allT nx.length) (e4 e)))->ω 11=(1,.cells (.ptr D 10 1 0::w11))->ω 12=w12->
  ((List.range' k j).all (okI nx.length x)=false->r= .tup [.sl 1 [] .no,.int .i64 1])->
  ((
   List.range' k j).all (okI nx.length x)=true->∀τ' ω',τ' 3=τ 3->τ' 9=τ 9->τ' 28=τ 28->τ' 29=τ 29->τ' 30=τ 30->ω' 3=ω 3->ω' 9=ω 9->ω' 10=(1,.cells (machC f nx (allT nx.length) (e4 (updE e i (setT (e i) (x.drop k))))))->ω' 11=ω 11->ω' 12=w12->
   Rd (Loc Pg Gl) .im (RetM [.tmp 6,.tmp 7] r D S []) K (stF 97 D τ' ω' S))->
  Rd (Loc Pg Gl) .im (RetM [.tmp 6,.tmp 7] r D S []) (.lp c33_l0:: .blk 2::K) (stF 97 D τ ω S):=by
 intro j
 induction j with
 | zero=>
  intro k e τ ω hk heN t3 t9 t10 t11 t44 t45 t46 w3 w9 w10 w11 w12 hf hK
  refine zK c33_l0.eq_1 ?_
  obtain rfl:k=x.length:=by omega
  rw[List.drop_length] at hK
  simp[t44,t45,t46]
  refine hK rfl _ _ ?_ ?_ ?_ ?_ ?_ ?_ ?_ ?_ ?_ ?_
  case refine_8=>
   have:setT (e i) []=e i:=rfl
   rw[this,updE_self];exact w10
  case refine_10=>exact w12
  all_goals simp
 | succ j ih=>
  intro k e τ ω hk heN t3 t9 t10 t11 t44 t45 t46 w3 w9 w10 w11 w12 hf hK
  refine zK c33_l0.eq_1 ?_
  have hlt:k < x.length:=by omega
  have hwr:IntKind.i64.wrap ((k:Int)+1)=((k+1:Nat):Int):=by rw[<-zE (n:=k+1) (by omega)];rfl
  rw[List.range'_succ,List.all_cons] at hf hK
  have t11':=t11
  have t44':=t44
  unfold encI at t11 t44
  have hgi:x.getD k 0=x[k]:=by simp[List.getD_eq_getElem?_getD,hlt]
  by_cases c1:x[k] < 0
  ·have hno:okI nx.length x k=false:=by unfold okI;rw[hgi];simp;omega
   rw[hno] at hf
   have hr:=hf rfl
   simp[t3,t44,t45,t46,hlt,c1,hr,upds]
  by_cases c2:(nx.length:Int)<=x[k]
  ·have hno:okI nx.length x k=false:=by unfold okI;rw[hgi];simp;omega
   rw[hno] at hf
   have hr:=hf rfl
   simp[t3,w3,t44,t45,t46,hlt,c1,c2,hr,hm,upds]
  obtain ⟨y,hy⟩:∃y:Nat,x[k]=y:=⟨x[k].toNat,by omega⟩
  have hyn:y < nx.length:=by omega
  rw[hy] at c1 c2
  have hgp:k≠0->∃h:k - 1 < x.length,x.getD (k - 1) 0=x[k - 1]:=fun h0=>⟨by omega,by rw[getD_lt (by omega)]⟩
  have hwp:k≠0->IntKind.i64.wrap ((k:Int) - 1)=((k - 1:Nat):Int):=fun h0=>by rw[<-zE (n:=k - 1) (by omega)];congr 1;omega
  by_cases c3:k≠0/\(y:Int)<=x.getD (k - 1) 0
  ·obtain ⟨h0,c4⟩:=c3
   obtain ⟨hlt',hgp⟩:=hgp h0
   have hwp:=hwp h0
   have h0k:0 < k:=by omega
   rw[hgp] at c4
   have hno:okI nx.length x k=false:=by unfold okI;rw[hgi,hy,hgp];simp;omega
   rw[hno] at hf
   have hr:=hf rfl
   simp[t3,w3,t11,t44,t45,t46,hlt,hy,c1,c2,hm,hyn,h0k,hwp,hlt',c4,hr,upds]
  ·have hyes:okI nx.length x k=true:=by
    unfold okI;rw[hgi,hy]
    simp only[Bool.and_eq_true,Bool.or_eq_true,decide_eq_true_eq]
    refine ⟨⟨by omega,by omega⟩,?_⟩
    by_cases h0:k=0
    ·exact .inl h0
    ·right
     have:¬(y:Int)<=x.getD (k - 1) 0:=fun h=>c3 ⟨h0,h⟩
     omega
   rw[hyes,Bool.true_and] at hf hK
   rw[List.drop_eq_getElem_cons hlt] at hK
   have hset:setT (e i) (x[k]::x.drop (k+1))=setT (e i ||| 2^y) (x.drop (k+1)):=by rw[setT,List.foldl_cons,hy];rfl
   rw[hset] at hK
   have hi4:(i:Int) < 4:=by omega
   have hi6:6+i*2+2<=14:=by omega
   have hpt:=part_env f nx (allT nx.length) e hi
   have hpc:=putC_env f nx (allT nx.length) e hi (e i ||| 2^y)
   rw[encW_simp] at hpt hpc
   simp[putC] at hpc
   have h85:=spec85 (D+1) (e i) y heN (by omega)
   have hN':e i ||| 2^y < 2^128:=Nat.or_lt_two_pow heN (Nat.pow_lt_pow_right (by decide) (by omega))
   have cont:∀τ1 ω1,τ1 3=τ 3->τ1 9=τ 9->τ1 10=τ 10->τ1 11=τ 11->τ1 44=τ 44->τ1 45=τ 45->τ1 46= .int .i64 ((k+1:Nat):Int)->τ1 28=τ 28->τ1 29=τ 29->τ1 30=τ 30->ω1 3=ω 3->ω1 9=ω 9->ω1 10=(1,.cells (machC f nx (allT nx.length) (e4 (updE e i (e i ||| 2^y)))))->ω1 11=ω 11->ω1 12=ω 12->
     Rd (Loc Pg Gl) .im (RetM [.tmp 6,.tmp 7] r D S []) (.lp c33_l0:: .blk 2::K) (stF 97 D τ1 ω1 S):=by
    intro τ1 ω1 a3 a9 a10 a11 a44 a45 a46 a28 a29 a30 b3 b9 b10 b11 b12
    refine ih (k+1) (updE e i (e i ||| 2^y)) τ1 ω1 (by omega) (by rw[z5];exact hN') (a3.trans t3) (a9.trans t9) (a10.trans t10) (a11.trans t11') (a44.trans t44') (a45.trans t45) a46 (b3.trans w3) (b9.trans w9) b10 (b11.trans w11) (b12.trans w12) hf fun ho τ' ω' g3 g9 g28 g29 g30 h3 h9 h10 h11 h12=> ?_
    rw[z5,updE_twice] at h10
    exact hK ho τ' ω' (g3.trans a3) (g9.trans a9) (g28.trans a28) (g29.trans a29) (g30.trans a30) (h3.trans b3) (h9.trans b9) h10 (h11.trans b11) h12
   by_cases h0:k=0
   ·subst h0
    simp[t3,w3,t9,w9,w10,w11,t10,t11,t44,t45,t46,hlt,hy,c1,c2,hm,hyn,hi4,hpt]
    refine zU h85 (by simp[encT,encW]) ?_
    simp[encT,encW_simp,t3,w3,t9,w9,w10,w11,t10,t46,hi4,machC_len,hi6,hpc,show IntKind.i64.wrap 1=1 from rfl]
    refine cont _ _ ?_ ?_ ?_ ?_ ?_ ?_ ?_ ?_ ?_ ?_ ?_ ?_ ?_ ?_ ?_
    all_goals simp[t10]
   ·obtain ⟨hlt',hgp⟩:=hgp h0
    have hwp:=hwp h0
    have h0k:0 < k:=by omega
    have c4:¬(y:Int)<=x[k - 1]:=by rw[<-hgp];exact fun h=>c3 ⟨h0,h⟩
    simp[t3,w3,t9,w9,w10,w11,t10,t11,t44,t45,t46,hlt,hy,c1,c2,hm,hyn,h0k,hwp,hlt',c4,hi4,hpt]
    refine zU h85 (by simp[encT,encW]) ?_
    simp[encT,encW_simp,t3,w3,t9,w9,w10,w11,t10,t46,hi4,machC_len,hi6,hpc,hwr]
    refine cont _ _ ?_ ?_ ?_ ?_ ?_ ?_ ?_ ?_ ?_ ?_ ?_ ?_ ?_ ?_ ?_
    all_goals simp[t10]
def envV (n:Nat) (l:List Eqn) (vs:List (List Int)) (i:Nat):Nat->Nat:=fun t=>if t < i then setT 0 (vs.getD t []) else startE n l l.length t
theorem envV_succ (n:Nat) (l:List Eqn) (vs:List (List Int)) (i:Nat):envV n l vs (i+1)=updE (envV n l vs i) i (setT 0 (vs.getD i [])):=by
 funext t
 unfold envV
 by_cases h:t=i
 ·subst h;rw[z5,if_pos (by omega)]
 ·rw[yN h]
  by_cases h2:t < i
  ·rw[if_pos h2,if_pos (by omega)]
  ·rw[if_neg h2,if_neg (by omega)]
theorem envV_zero (n:Nat) (l:List Eqn) (vs:List (List Int)):envV n l vs 0=startE n l l.length:=by
 funext t;unfold envV;rw[if_neg (by omega)]
theorem l33b (D:Nat) {f:Fu} {nx:List Va} (hn:nx.length<=128) {m:List AV} (hm:m.length=nx.length) {c11:List AV} {c12:Ent} (l:List Eqn) (vs:List (List Int)) (hv:vs.length<=4) (hx:∀x∈vs,x.length < 2^63) {S:Nat->Nat->Ent} {r:AV} {K:List AI}:∀(j i:Nat) (τ ω),i+j=vs.length->
  τ 3= .ptr D 3 1 0->τ 9= .ptr D 9 1 0->τ 28= .sl 1 (vs.map encI) .no->τ 29= .int .i64 vs.length->τ 30= .int .i64 i->
  ω 3=(1,.cells [.int .i64 f.k,.int .i64 f.n,.sl 3 (f.gs.map encF) .no,.sl 3 m .no])->ω 9=(1,.cells [.ptr D 11 1 0])->ω 10=(1,.cells (machC f nx (allT nx.length) (e4 (envV nx.length l vs i))))->ω 11=(1,.cells (.ptr D 10 1 0::c11))->ω 12=c12->
  ((vs.drop i).all (okX nx.length)=false->r= .tup [.sl 1 [] .no,.int .i64 1])->
  ((
   vs.drop i).all (okX nx.length)=true->∀τ' ω',τ' 9= .ptr D 9 1 0->ω' 9=(1,.cells [.ptr D 11 1 0])->ω' 10=(1,.cells (machC f nx (allT nx.length) (e4 (envV nx.length l vs vs.length))))->ω' 11=(1,.cells (.ptr D 10 1 0::c11))->ω' 12=c12->
   Rd (Loc Pg Gl) .im (RetM [.tmp 6,.tmp 7] r D S []) K (stF 97 D τ' ω' S))->
  Rd (Loc Pg Gl) .im (RetM [.tmp 6,.tmp 7] r D S []) (.lp c33_l1:: .blk 0::K) (stF 97 D τ ω S):=by
 intro j
 induction j with
 | zero=>
  intro i τ ω hi t3 t9 t28 t29 t30 w3 w9 w10 w11 w12 hf hK
  refine zK c33_l1.eq_1 ?_
  obtain rfl:i=vs.length:=by omega
  rw[List.drop_length] at hK
  simp[t28,t29,t30]
  refine hK rfl _ _ ?_ w9 w10 w11 w12
  simp[t9]
 | succ j ih=>
  intro i τ ω hi t3 t9 t28 t29 t30 w3 w9 w10 w11 w12 hf hK
  refine zK c33_l1.eq_1 ?_
  have hlt:i < vs.length:=by omega
  have hwr:IntKind.i64.wrap ((i:Int)+1)=((i+1:Nat):Int):=by rw[<-zE (n:=i+1) (by omega)];rfl
  rw[List.drop_eq_getElem_cons hlt,List.all_cons] at hf hK
  have hi4:i < 4:=by omega
  have hi4':(i:Int) < 4:=by omega
  have hi6:6+i*2+2<=14:=by omega
  have hgv:vs.getD i []=vs[i]:=getD_lt hlt
  have hpc:=putC_env f nx (allT nx.length) (envV nx.length l vs i) hi4 0
  rw[encW_simp] at hpc
  simp[putC] at hpc
  simp[t3,t9,t28,t29,t30,w9,w10,w11,hlt,hi4',machC_len,hi6,hpc,encI]
  refine l33a D (f:=f) hn hm (w3:=[]) (w11:=c11) (w12:=c12) vs[i] (hx _ (List.getElem_mem hlt)) hi4 vs[i].length 0 (updE (envV nx.length l vs i) i 0) _ _ (by omega) (by rw[z5];decide) ?_ ?_ ?_ ?_ ?_ ?_ ?_ ?_ ?_ ?_ ?_ ?_ (fun ho=> ?_) fun ho τ' ω' g3 g9 g28 g29 g30 h3 h9 h10 h11 h12=> ?_
  case refine_13=>
   refine hf ?_
   have:okX nx.length vs[i]=false:=ho
   rw[this,Bool.false_and]
  case refine_14=>
   have ho':okX nx.length vs[i]=true:=ho
   rw[ho',Bool.true_and] at hf hK
   rw[z5,updE_twice,List.drop_zero,<-hgv,<-envV_succ] at h10
   simp at g3 g9 g28 g29 g30 h3 h9 h11
   simp[c33_k0,g30,t30,hwr]
   refine ih (i+1) _ ω' (by omega) ?_ ?_ ?_ ?_ ?_ ?_ ?_ h10 ?_ h12 hf hK
   all_goals simp[g3,g9,g28,g29,h3,h9,h11,t3,t9,t28,t29,w3,w9,w11]
  all_goals simp[t3,t9,w3,w9,w11,w12,encI]
def appR (s:Sy) (l:List Eqn) (vs:List (List Int)):AV:=
 if faultN s l=0 then
  if vs.length=l.length/\vs.all (okX s.m.length)=true then .tup [.sl 1 ((List.range l.length).map fun i=>listT s.m.length (if h:i < l.length then evS s.m (e4 (envV s.m.length l vs vs.length)) l[i].body else 0)) .no,.int .i64 0]
  else .tup [.sl 1 [] .no,.int .i64 1]
 else .tup [.sl 1 [] .no,.int .i64 (faultN s l)]
theorem setT_sub {n:Nat}:∀(x:List Int) (N:Nat),(∀y∈x,0<=y/\y < n)->sub N (allT n)->sub (setT N x) (allT n)
 | [],N,_,h=>h
 | y::x,N,hx,h=>by
  have e:setT N (y::x)=setT (N ||| 2^y.toNat) x:=rfl
  rw[e]
  refine setT_sub x _ (fun z hz=>hx z (by simp[hz])) fun i hi=> ?_
  rw[Nat.testBit_or,Nat.testBit_two_pow,Bool.or_eq_true] at hi
  rcases hi with hi | hi
  ·exact h i hi
  ·have hy:=hx y (by simp)
   rw[decide_eq_true_eq] at hi
   rw[allT_bit];simp;omega
theorem okX_mem {n:Nat} {x:List Int} (h:okX n x=true):∀y∈x,0<=y/\y < n:=by
 intro y hy
 obtain ⟨i,hi,rfl⟩:=List.getElem_of_mem hy
 unfold okX at h
 rw[List.all_eq_true] at h
 have:=h i (List.mem_range'.2 ⟨i,hi,by omega⟩)
 unfold okI at this
 rw[getD_lt hi] at this
 simp only[Bool.and_eq_true,decide_eq_true_eq] at this
 exact this.1
theorem envV_all {s:Sy} {l:List Eqn} {vs:List (List Int)} (h:vs.all (okX s.m.length)=true) (j:Nat):yR s.m (envV s.m.length l vs j):=by
 intro i
 unfold envV
 split
 ·refine setT_sub _ _ ?_ (sub_zero _)
  by_cases hi:i < vs.length
  ·rw[getD_lt hi]
   rw[List.all_eq_true] at h
   exact okX_mem (h _ (List.getElem_mem hi))
  ·rw[List.getD_eq_getElem?_getD,List.getElem?_eq_none (by omega)];simp
 ·exact startE_all s l _ i
theorem spec33 (s:Sy) (hs:fitY s) (hb:zH s.m<=2^32) (l:List Eqn) (hl:fitL l) (vs:List (List Int)) (hvl:vs.length < 2^62) (hvx:∀x∈vs,x.length < 2^63) (D:Nat):Go.Ab.Loc Pg Gl D 33 [encY s,encL l,.sl 1 (vs.map encI) .no] [] (appR s l vs) []:=by
 refine zX zF tok rfl rfl fun S hS=> ?_
 have h45:=spec45 s hs hb l hl (D+1)
 unfold c33
 generalize hr:appR s l vs=r
 unfold appR at hr
 by_cases hf:faultN s l=0
 ·rw[if_pos hf] at hr
  obtain ⟨hy,hll⟩:isY s=true/\isL s.f l=true:=by
   unfold faultN at hf
   cases h1:isY s<;>cases h2:isL s.f l<;>simp[h1,h2] at hf|-
  obtain ⟨y1,y2,y3⟩:=isY_ok hy
  obtain ⟨l1,l2,l3⟩:=isL_ok hll
  have hn:s.m.length<=128:=by omega
  have hnx:∀v∈s.m,valN s.m.length v s.f=true:=fun v hv=>(y3 v hv).1
  rw[hf] at h45
  simp[encY,encL] at h45|-
  refine zD h45 (by simp) ?_
  simp
  by_cases hlen:vs.length=l.length
  ·obtain ⟨cs,hcs,hcl,h46⟩:=spec46 (d0:=D) (A:=10) (B:=11) (Cc:=12) (gA:=0) (gB:=0) (gC:=0) (by decide) (by decide) (by decide) (D:=D+1) (by omega) .dead .dead .dead s hn l (by omega) l2
    (fun x hx=>((comp_all y1 hn y3 l.length (by omega) x.body).1 false (l3 x hx)))
   simp[encY,encL] at h46
   have hld:decide ((vs.length:Int)=l.length)=true:=decide_eq_true (by omega)
   simp[hld]
   refine zR h46 (by simp) (by simp) (by simp) ?_
   simp
   refine l33b D hn (f:=s.f) (nx:=s.m) (m:=s.m.map encV) (by simp) (c11:=[.sl 5 (l.map encE) .no,.own D 12 (0+l.length) 0 l.length 1 false]) (c12:=(0+l.length,.cells cs)) l vs (by omega) hvx vs.length 0 _ _ (by omega) ?_ ?_ ?_ ?_ ?_ ?_ ?_ ?_ ?_ ?_ (fun ho=> ?_) fun ho τ' ω' g9 h9 h10 h11 h12=> ?_
   case refine_11=>
    rw[List.drop_zero] at ho
    rw[ho] at hr
    simp at hr
    exact hr.symm
   case refine_12=>
    rw[List.drop_zero] at ho
    rw[if_pos ⟨hlen,ho⟩] at hr
    have hea:=envV_all (l:=l) ho vs.length
    generalize hE:envV s.m.length l vs vs.length=E at*
    have h48:=spec48 (d0:=D) (A:=10) (gA:=1) (B:=11) (gB:=1) (f:=s.f) (nx:=s.m) (l:=l) (bo:= .own D 12 (0+l.length) 0 l.length 1 false) (e:=E) (D:=D+1) (by omega) hn l2 (F:=86) (caps:=[.ptr D 9 1 0]) (by decide) rfl
     (M:=[(D,9,(1,.cells [.ptr D 11 1 0])),Mm D 10 1 s.f s.m (e4 E),SB D 10 1 11 1 l (.own D 12 (0+l.length) 0 l.length 1 false),EC D 12 (0+l.length) cs]) (fun i=>if h:i < l.length then evS s.m (e4 E) l[i].body else 0)
     (fun i=>by
      split
      ·exact Nat.lt_of_le_of_lt (sub_le (bod_all _ hea)) (allT_lt hn)
      ·decide)
     (fun i hi=>by
      rw[dif_pos hi]
      exact spec86 (D+1+1) D 10 1 11 1 12 (0+l.length) 9 1 (by omega) s.f s.m l cs hcs hcl E (allSub_env hn hea) i hi) (by simp) (by simp)
    simp[c33_k1,g9,h9]
    refine zR h48 (by simp) (by simp[h9,h10,h11,h12]) (by simp) ?_
    simp[upds,<-hr]
   all_goals simp[envV_zero]
  ·have hld:decide ((vs.length:Int)=l.length)=false:=decide_eq_false (by omega)
   rw[if_neg (fun h=>hlen h.1)] at hr
   simp[hld,<-hr,upds]
 ·rw[if_neg hf] at hr
  simp[encY,encL] at h45|-
  refine zD h45 (by simp) ?_
  have:decide (faultN s l=0)=false:=decide_eq_false hf
  simp[this,upds,<-hr]
end Go.Ab.Tab
