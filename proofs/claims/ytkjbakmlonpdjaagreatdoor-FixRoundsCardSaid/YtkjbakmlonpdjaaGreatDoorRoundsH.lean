/- Building formulas of limited size, whether or not they fit: use, node, copied. -/
import Derived.Test.YtkjbakmlonpdjaaGreatDoorRoundsF
import Derived.Test.YtkjbakmlonpdjaaGreatDoorRoundsB5
import Derived.Test.YtkjbakmlonpdjaaGreatDoorRoundsG
open Array renaming replicate->yOK, getD_eq_getD_getElem?->yOO, getElem?_setIfInBounds_self_of_lt->yOP
open Bool renaming and_eq_true->yOB
open List renaming mem_cons_self->yOC, mem_cons->yOD, mem_cons_of_mem->yOG, mem_singleton->yOH, not_mem_nil->yOI, getElem?_toArray->yOL, getElem?_cons_zero->yOM, getElem?_cons_succ->yON
open Nat renaming ne_of_lt->yOE, le_of_lt->yOF, le_of_ble_eq_true->yOJ
set_option linter.unusedVariables false
set_option linter.unusedSimpArgs false
set_option maxRecDepth 100000
namespace Go.Ab.Tab
open Go Go.Ab
def cl (left:Int) (c:Nat):Int:=max (left - c) (-1)
def Bg (n:Int):Prop:= -1<=n/\n<=100000
theorem Bg.cl {n:Int} (h:Bg n) (c:Nat):Bg (cl n c):=by unfold Bg Tab.cl at *; omega
theorem vK {n:Int} (h:Bg n) (c:Nat):n < 0->cl n c < 0:=by unfold Bg cl at *; omega
theorem r7 (n:Int) (a b:Nat):cl (cl n a) b=cl n (a+b):=by unfold cl;omega
theorem zJZ {n:Int} (h:Bg n):cl n 0=n:=by unfold Bg cl at *; omega
theorem cM {n:Int} {a b:Nat} (h:a=b):cl n a=cl n b:=by rw[h]
abbrev Bd (d i g:Nat) (left:Int):Nat×Nat×Ent:=(d,i,(g,.cells [.int .i64 left]))
def cB (d i g:Nat):Cnt:=⟨d,i,g,fun n=> .cells [.int .i64 n],fun n m h=>by injection h with h;injection h with h;injection h,fun n h=>by cases h⟩
def pvB:PanicEntry:=⟨.iface 160 (.agg #[]),false,false⟩
abbrev LB (d i g:Nat):zQ:=LocB Pg Gl pvB (cB d i g)
def u0:AC:= .region [⟨some 2,.mov false (.t 0),none⟩,⟨some 3,.nilchk (.t 2),none⟩,⟨some 4,.faddr 0 (.t 3),none⟩,⟨some 5,.load false 1 false (.t 4),none⟩,⟨some 6,.bin .sub .other (.t 5) (.c (.int .i64 1)),none⟩,⟨some 7,.nilchk (.t 2),none⟩,⟨some 8,.faddr 0 (.t 7),none⟩,⟨none,.store 1 (.t 8) (.t 6),none⟩] none
def u1:AC:= .region [⟨some 9,.mov false (.t 0),none⟩,⟨some 10,.nilchk (.t 9),none⟩,⟨some 11,.faddr 0 (.t 10),none⟩,⟨some 12,.load false 1 false (.t 11),none⟩,⟨some 13,.bin .lss .other (.t 12) (.c (.int .i64 0)),none⟩] none
theorem zFP {P:Program} {o:Oper} {ρ:Operand->Value} {w:World} {t:TypeId} {inf:TypeInfo} (h:o.op= .build t #[]) (hi:P.info? t=some inf) (hz:inf.zero=some (.agg #[])) (hu:P.underlying t=some (.struct #[])):(execOp ρ o).run P w= .ok (.value (.agg #[])) w:=by
 unfold execOp;rw[h];simp[Instr.build,xM hi hz,run_underlying hu,Instr.fill,Value.cells]
theorem zMX {P:Program} {o:Oper} {ρ:Operand->Value} {w:World} {t:TypeId} {x:Operand} {v:Value} (h:o.op= .makeInterface t x) (hx:ρ x=v) (hu:P.underlying t=some (.struct #[])):(execOp ρ o).run P w= .ok (.value (.iface t v)) w:=by
 unfold execOp;rw[h];simp[Instr.makeInterface,hx,run_underlying hu]
theorem zTG {D d i g:Nat} (hd:d < D):LocP Pg Gl pvB D 91 [.ptr d i g 0] [Bd d i g 0] [Bd d i g (-1)]:=by
 have hf:Pg.funcs[91]?=some Go.Proofs.Tryz.f91:=by kernel_rfl
 have hi:Pg.info? 160=some (match Pg.info? 160 with | some i=>i | none=>default):=by kernel_rfl
 have hz:(match Pg.info? 160 with | some i=>i | none=>default).zero=some (.agg #[]):=by kernel_rfl
 have hu:Pg.underlying 160=some (.struct #[]):=by kernel_rfl
 refine zMZ (L:=Lx) (t:=13) (i:=14) (j:=15) (a0:=u0) (a1:=u1) zF hf rfl rfl ?_ ?_ rfl ⟨rfl,rfl,rfl⟩ ⟨rfl,rfl,rfl⟩ ⟨rfl,rfl⟩ (fun ρ w=>zFP rfl hi hz hu) (fun ρ w h=>zMX rfl h hu) fun S hS=> ?_
 ·kernel_rfl
 ·kernel_rfl
 have h0:=(hS _ (yOC ..)).2;simp only at h0;have hne:¬d=D:=by omega
 rw[show (Go.Proofs.Tryz.f91).ntmps=16 from rfl,wG _ _ _ _ (by simp)];unfold u0 u1;have hw:IntKind.i64.wrap (-1)= -1:=vE (by omega) (by omega);have htl:∀(n D:Nat) τ ω S,(stF n D τ ω S).ts.length=n:=fun _ _ _ _ _=>by simp[stF]
 simp[hne,h0,upds,r9,xL,hw,htl]
theorem zPF (D:Nat) {d i g:Nat} (hd:d < D) {left:Int} (hl:Bg left):LB d i g D 91 [.ptr d i g 0] [Bd d i g left] (.tup []) [Bd d i g (cl left 1)]:=by
 refine .inr ⟨by decide,left,cl left 1,yOH.2 rfl,rfl,vK hl 1,fun h1 h2=> ?_,fun h1 h2=> ?_⟩
 ·have h3:1<=left:=by unfold cl at h2;omega
  have hcl:cl left 1=left - 1:=by unfold cl;omega
  have hl2:left<=100000:=hl.2;refine yH zF tok rfl rfl fun S hS=> ?_;have h0:=(hS _ (yOC ..)).2;simp only at h0;have hne:¬d=D:=by omega
  have hw:IntKind.i64.wrap (left - 1)=left - 1:=vE (by omega) (by omega);unfold c91;simp[hne,h0,hw,show¬left - 1 < 0 by omega,upds,hcl,Cnt.e,cB]
 ·obtain rfl:left=0:=by unfold cl at h2;omega
  exact zTG hd
theorem v7 {d i g:Nat} {left:Int} {M0:List (Nat×Nat×Ent)}:(cB d i g).e left∈Bd d i g left::M0:=yOC ..
theorem wH (D:Nat) {d i g:Nat} (hd:d < D) {left:Int} (hl:Bg left) (op:Int) (ar:List Fm):
  LB d i g D 60 [.ptr d i g 0,.int .i64 op,.sl 4 (ar.map encM) .no] [Bd d i g left] (encM (.mk op 0 0 ar)) [Bd d i g (cl left 1)]:=by
 refine wF zF tok rfl (cB d i g) [6] .im rfl (by simp) v7 hd (vK hl 1) fun S hS=> ?_;have h0:=(hS _ (yOC ..)).2;simp only at h0;have hne:¬d=D:=by omega
 rw[zG];unfold c60;simp;refine zR (zPF (D+1) (by omega) hl) (by simp) (by simp[hne,h0];omega) (by simp) ?_;simp[hne,upds,Cnt.e,cB]
mutual
def subM (φ:Int->Fm):Fm->Fm
 | .mk o n m ar=>if o=14 then φ n else .mk o n m (sU φ ar)
def sU (φ:Int->Fm):List Fm->List Fm
 | []=>[]
 | a::l=>subM φ a::sU φ l
end
mutual
def jJ (c:Int->Nat):Fm->Nat
 | .mk o n _ ar=>if o=14 then c n else 1+mJ c ar
def mJ (c:Int->Nat):List Fm->Nat
 | []=>0
 | a::l=>jJ c a+mJ c l
end
theorem zBJ (φ):∀l,sU φ l=l.map (subM φ)
 | []=>rfl
 | a::l=>by rw[sU,zBJ φ l];rfl
mutual
def uK (P:Int->Prop):Fm->Prop
 | .mk o n _ ar=>if o=14 then P n else vD P ar
def vD (P:Int->Prop):List Fm->Prop
 | []=>True
 | a::l=>uK P a/\vD P l
end
def VarC (d i g:Nat) (F:FuncId) (caps:List AV) (M0:List (Nat×Nat×Ent)) (φ:Int->Fm) (c:Int->Nat) (P:Int->Prop):Prop:=
 F≠yid/\caps.map AV.strip=caps/\∀(D:Nat) (n left:Int),d < D->(∀m∈M0,m.1 < D)->P n->Bg left->LB d i g D F (.int .i64 n::caps) (Bd d i g left::M0) (encM (φ n)) [Bd d i g (cl left (c n))]
theorem iP {P:Int->Prop}:∀{l:List Fm} {i:Nat} (h:i < l.length),vD P l->uK P l[i]
 | a::l,0,_,h=>h.1
 | a::l,i+1,hi,h=>by simpa using iP (l:=l) (i:=i) (by simpa using hi) h.2
def yEK (d i g:Nat) (F:FuncId) (caps:List AV) (M0:List (Nat×Nat×Ent)) (φ:Int->Fm) (c:Int->Nat) (P:Int->Prop) (a:Fm):Prop:=
 uK P a->∀(D:Nat) (left:Int),d < D->(∀m∈M0,m.1 < D)->Bg left->LB d i g D 89 [.ptr d i g 0,encM a,.fn F caps] (Bd d i g left::M0) (encM (subM φ a)) [Bd d i g (cl left (jJ c a))]
theorem l89b {d i g:Nat} {F:FuncId} {caps:List AV} {M0:List (Nat×Nat×Ent)} {φ:Int->Fm} {c:Int->Nat} {P:Int->Prop} (hcaps:caps.map AV.strip=caps) (o n m:Int) (ar:List Fm) (hlen:ar.length<=2^30) (hP:vD P ar) (hrec:∀a∈ar,yEK d i g F caps M0 φ c P a)
  {D:Nat} (hd:d < D) (hM0:∀m∈M0,m.1 < D) (S:Nat->Nat->Ent) (hS0:∀m∈M0,S m.1 m.2.1=m.2.2) (hdis:∀m∈M0,¬(m.1=d/\m.2.1=i)):∀(j k:Nat) (acc:List Fm) (tp:Tip) (left:Int) (τ ω) (r:AV) (fin:Int),
  k+j=ar.length->(tp= .tip\/tp= .nil)->acc.length=k->Bg left->fin=cl left (mJ c (ar.drop k))->
  τ 0= .ptr d i g 0->τ 2= .fn F caps->τ 6= .ptr D 6 1 0->τ 7= .ptr D 7 1 0->τ 27= .sl 4 (ar.map encM) .no->τ 28= .int .i64 ar.length->τ 29= .int .i64 k->
  ω 6=(1,.cells [.int .i64 0,.int .i64 0,.int .i64 0,.sl 4 [] .tip])->ω 7=(1,.cells [.int .i64 o,.int .i64 n,.int .i64 m,.sl 4 (acc.map encM) tp])->r=encM (.mk o n m (acc++(ar.drop k).map (subM φ)))->
  Rd (LB d i g) .im (RetM [.cell 6 true 4] r D S [Bd d i g fin]) [.lp c89_l0,.blk 0,.c zKE] (stF 44 D τ ω (updS S d i (Bd d i g left).2.2)):=by
 have hne:¬d=D:=by omega
 intro j
 induction j with
 | zero=>
  intro k acc tp left τ ω r fin hk htp hal hl hfin t0 t2 t6 t7 t27 t28 t29 w6 w7 hr;refine zN c89_l0.eq_1 ?_;obtain rfl:k=ar.length:=by omega
  rw[List.drop_length] at hr hfin;rw[mJ,zJZ hl] at hfin;subst hfin;rw[zG] at hr;simp at hr;rcases htp with rfl | rfl<;>simp[t6,t7,t27,t28,t29,w6,w7,zKE,hr,upds]
 | succ j ih=>
  intro k acc tp left τ ω r fin hk htp hal hl hfin t0 t2 t6 t7 t27 t28 t29 w6 w7 hr;refine zN c89_l0.eq_1 ?_;have hlt:k < ar.length:=by omega
  have hwr:=yA hlt (by unfold maxLen;omega);rw[List.drop_eq_getElem_cons hlt] at hr hfin;rw[mJ] at hfin;rw[List.map_cons] at hr;have hle:(k+1)*48<=1099511627776:=by omega
  have hsub:=hrec ar[k] (List.getElem_mem hlt) (iP hlt hP) (D+1) left (by omega) (fun m hm=>by have:=hM0 m hm;omega) hl;have htp':(tp= .nil\/tp= .tip)=True:=by simp;exact htp.symm
  simp[t0,t2,t6,t7,t27,t28,t29,w6,w7,hlt,hwr,zA ar[k]];refine zM hsub (by simp[zA ar[k],hcaps]) ?_ (by simp) ?_
  ·intro m' hm;rcases yOD.1 hm with rfl | hm
   ·simp[hne];omega
   ·refine ⟨yOF (hM0 m' hm),fun e=>absurd e (yOE (hM0 m' hm)),?_⟩;have h1:=hM0 m' hm;have h2:=hdis m' hm;have:updS S d i (Bd d i g left).2.2 m'.1 m'.2.1=S m'.1 m'.2.1:=by unfold updS;rw[yRN h2]
    simp[show¬m'.1=D by omega,this];exact hS0 m' hm
  simp[hne,t6,t7,w6,w7,htp,htp',zA (subM φ ar[k]),hal,hle,t29,hwr];refine ⟨⟨.inl (fun e=>hne e.symm),fun a a1 a2 b hm=> .inl (fun e=>by have:=hM0 _ hm;simp only at this;omega)⟩,?_⟩;refine ih (k+1) (acc++[subM φ ar[k]]) .tip (cl left (jJ c ar[k])) _ _ r fin (by omega) (.inl rfl) (by simp[hal]) (hl.cl _) (by rw[hfin,r7]) ?_ ?_ ?_ ?_ ?_ ?_ ?_ ?_ ?_ (by rw[hr];simp);all_goals simp[t0,t2,t6,t7,t27,t28,t29,w6,w7,zA (subM φ ar[k])]
theorem zPG {d i g:Nat} {F:FuncId} {caps:List AV} {M0:List (Nat×Nat×Ent)} {φ:Int->Fm} {c:Int->Nat} {P:Int->Prop} (hv:VarC d i g F caps M0 φ c P) (hdis:∀m∈M0,¬(m.1=d/\m.2.1=i)):∀a:Fm,zK a<=2^30->yEK d i g F caps M0 φ c P a:=by
 obtain ⟨hF,hcaps,hcall⟩:=hv;refine Fm.ind' fun o n m ar ih=> ?_;intro hfit hP D left hd hM0 hl;have hne:¬d=D:=by omega
 rw[zK] at hfit;have hlen:=vN ar;refine wF zF tok rfl (cB d i g) [6,7,9,33,41] .im rfl (by simp) v7 hd (vK hl _) fun S hS=> ?_;have h0:=(hS _ (yOC ..)).2;simp only at h0;have hS0:∀m∈M0,S m.1 m.2.1=m.2.2:=fun m hm=>(hS m (yOG _ hm)).2;rw[uK] at hP;rw[subM,jJ];unfold c89;by_cases ho:o=14
 ·rw[yRO ho] at hP|-;rw[yRO ho];simp[zG,ho];refine zZ (cap:=caps) (hcall (D+1) n left (by omega) (fun m hm=>by have:=hM0 m hm;omega) hP hl) (by simp) (by simp[hcaps]) ?_ (by simp) ?_ hF
  ·intro m' hm;rcases yOD.1 hm with rfl | hm
   ·simp[hne,h0];omega
   ·have h1:=hM0 m' hm;simp[show¬m'.1=D by omega,show m'.1<=D by omega];exact hS0 m' hm
  simp[hne,zA (φ n),upds,Cnt.e,cB]
 ·rw[yRN ho] at hP|-;rw[yRN ho];simp[zG,ho];refine zR (zPF (D+1) (by omega) hl) (by simp) (by simp[hne,h0];omega) (by simp) ?_;simp[hne];refine l89b hcaps o n m ar (by omega) hP (fun a ha=>ih a ha (by have:=rW ha;omega)) hd hM0 S hS0 hdis ar.length 0 [] .tip (cl left 1) _ _ _ _ (by simp) (.inl rfl) rfl (hl.cl _) (by rw[r7];rfl) ?_ ?_ ?_ ?_ ?_ ?_ ?_ ?_ ?_ (by rw[zG];simp[zBJ]);all_goals simp
end Go.Ab.Tab
/- Building formulas of limited size,whether or not they fit: every. -/
namespace Go.Ab.Tab
open Go Go.Ab
def notM (a:Fm):Fm:= .mk 1 0 0 [a]
theorem qO (D:Nat) {d i g:Nat} (e ge:Nat) (hd:d < D) (dc:Nat) (hdc:dc < D) {left:Int} (hl:Bg left) (a:Fm):
  LB d i g D 142 [encM a,.ptr dc e ge 0] [Bd d i g left,(dc,e,(ge,.cells [.ptr d i g 0]))] (encM (notM a)) [Bd d i g (cl left 1)]:=by
 refine wF zF tok rfl (cB d i g) [3] .im rfl (by simp) v7 hd (vK hl 1) fun S hS=> ?_;have h0:=(hS _ (yOC ..)).2;have h3:=(hS _ (yOG _ (yOC ..))).2;simp only at h0 h3;have hne:¬d=D:=by omega
 have hne':¬dc=D:=by omega
 rw[notM];generalize hr:encM (.mk 1 0 0 [a])=r;unfold c142;simp[zA a,hne,hne',h0,h3];have hs:=wH (D+1) (show d < D+1 by omega) hl (i:=i) (g:=g) 1 [a];rw[hr] at hs;rw[<-hr,zG] at hs|-;refine zR hs (by simp[zA a]) (by simp[hne,h0];omega) (by simp) ?_;simp[hne,upds,zA a,Cnt.e,cB]
theorem zGQ (D:Nat) {d i g:Nat} (e ge:Nat) (hd:d < D) (dc:Nat) (hdc:dc < D) {left:Int} (hl:Bg left) (a:Fm):
  LB d i g D 65 [encM a,.ptr dc e ge 0] [Bd d i g left,(dc,e,(ge,.cells [.ptr d i g 0]))] (encM (notM a)) [Bd d i g (cl left 1)]:=by
 refine wF zF tok rfl (cB d i g) [3] .im rfl (by simp) v7 hd (vK hl 1) fun S hS=> ?_;have h0:=(hS _ (yOC ..)).2;have h3:=(hS _ (yOG _ (yOC ..))).2;simp only at h0 h3;have hne:¬d=D:=by omega
 have hne':¬dc=D:=by omega
 rw[notM];unfold c65;simp[zA a,hne,hne',h0,h3];have hs:=wH (D+1) (show d < D+1 by omega) hl (i:=i) (g:=g) 1 [a];rw[zG] at hs|-;refine zR hs (by simp[zA a]) (by simp[hne,h0];omega) (by simp) ?_;simp[hne,upds,zA a,Cnt.e,cB]
theorem zHD (D:Nat) {d i g:Nat} (hd:d < D) {left:Int} (hl:Bg left) (k:Int) (a:Fm):
  LB d i g D 143 [.ptr d i g 0,.int .i64 k,encM a] [Bd d i g left] (encM (.mk 10 k 0 [a])) [Bd d i g (cl left 1)]:=by
 refine wF zF tok rfl (cB d i g) [6,7,13] .im rfl (by simp) v7 hd (vK hl 1) fun S hS=> ?_;have h0:=(hS _ (yOC ..)).2;simp only at h0;have hne:¬d=D:=by omega
 unfold c143;simp[zA a,hne,h0];have hs:=wH (D+1) (show d < D+1 by omega) hl (i:=i) (g:=g) 10 [a];rw[zG] at hs|-;refine zR hs (by simp[zA a]) (by simp[hne,h0];omega) (by simp) ?_;simp[hne,upds,zA a,Cnt.e,cB]
theorem zPL (D:Nat) {d i g:Nat} (hd:d < D) {left:Int} (hl:Bg left):
  LB d i g D 63 [.ptr d i g 0] [Bd d i g left] (encM (.mk 14 0 0 [])) [Bd d i g (cl left 1)]:=by
 refine wF zF tok rfl (cB d i g) [2] .im rfl (by simp) v7 hd (vK hl 1) fun S hS=> ?_;have h0:=(hS _ (yOC ..)).2;simp only at h0;have hne:¬d=D:=by omega
 unfold c63;simp[hne,h0];have hs:=wH (D+1) (show d < D+1 by omega) hl (i:=i) (g:=g) 14 [];rw[zG] at hs|-;refine zR hs (by simp) (by simp[hne,h0];omega) (by simp) ?_;simp[hne,upds,Cnt.e,cB]
section
variable {C:zQ} {own:Md} {Q:St->Prop} {k:List AI} {n D:Nat} {τ:Nat->AV} {ω:Nat->Ent} {S:Nat->Nat->Ent} {l:List AOper} {d:Nat}
theorem zGE {f:FuncId} {v:AV} {cap:List AV} {x:Opd} {r} {M dl:List (Nat×Nat×Ent)} {ps es} (hv:v= .fn f cap\/v= .meth f cap) (h:C (D+1) f cap M r dl) (hx:(stF n D τ ω S).ev x=v) (hc:cap.map AV.strip=cap)
  (hM:∀m∈M,m.1<=D/\(m.1=D->m.2.1 < n)/\(stF n D τ ω S).look m.1 m.2.1=m.2.2) (hdl:∀u∈dl,(u.1,u.2.1)∈M.map (fun m=>(m.1,m.2.1))/\u.2.2.2≠ .dead)
  (hk:Rd C own Q (.dr ps l (es++[{val:=r,ups:=dl,rd:=M.map fun m=>(m.1,m.2.1)}])::k) ((dl.foldl St.up (stF n D τ ω S)).put (some d) r)) (hf:f≠yid):Rd C own Q (.dr ps (⟨some d,.callv x [],none⟩::l) es::k) (stF n D τ ω S):=by
 rcases hv with rfl | rfl
 ·exact z9 h hx (by simp[hc]) hM hdl hk hf
 ·exact zGD h hx (by simp[hc]) hM hdl hk hf
end
def GenC (d i g:Nat) (v:AV) (M0:List (Nat×Nat×Ent)) (A:Fm) (c:Nat):Prop:=∃F caps,(v= .fn F caps\/v= .meth F caps)/\F≠yid/\caps.map AV.strip=caps/\(∀m∈M0,¬(m.1=d/\m.2.1=i))/\
 ∀(D:Nat) (left:Int),d < D->(∀m∈M0,m.1 < D)->Bg left->LB d i g D F caps (Bd d i g left::M0) (encM A) [Bd d i g (cl left c)]
def expM (e:Fm):Fm->Nat->Nat->Fm
 | out,_,0=>out
 | out,i,j+1=>expM e (.mk 2 0 0 [out,.mk 10 i 0 [e]]) (i+1) j
mutual
def evM (A:Fm):Fu->Fm
 | .mk k n gs=>if k=0 then .mk 4 0 0 [A] else if k=1 then .mk 0 0 0 [] else if k=2 then .mk 2 0 0 [.mk 6 0 0 [(evMs A gs).getD 0 A],.mk 7 0 0 [(evMs A gs).getD 1 A]]
  else if k=3 then notM (.mk 2 0 0 [notM (.mk 8 0 0 [(evMs A gs).getD 0 A]),notM (.mk 9 0 0 [(evMs A gs).getD 1 A])])
  else if k=4 then expM ((evMs A gs).getD 0 A) (.mk 10 0 0 [(evMs A gs).getD 0 A]) 1 (n.toNat - 1)
  else if k=5 then notM (.mk 11 0 0 [notM ((evMs A gs).getD 0 A)])
  else if k=6 then notM (.mk 12 1 0 [notM ((evMs A gs).getD 0 A)])
  else .mk 13 1 1 [(evMs A gs).getD 0 A]
def evMs (A:Fm):List Fu->List Fm
 | []=>[]
 | g::l=>evM A g::evMs A l
end
mutual
def evC (c:Nat):Fu->Nat
 | .mk k n gs=>if k=0 then 1+c else if k=1 then 1 else if k=2 then 3+(evCs c gs).getD 0 0+(evCs c gs).getD 1 0
  else if k=3 then 6+(evCs c gs).getD 0 0+(evCs c gs).getD 1 0
  else if k=4 then 1+(evCs c gs).getD 0 0+(n.toNat - 1)*(2+(evCs c gs).getD 0 0)
  else if k=5 then 3+(evCs c gs).getD 0 0
  else if k=6 then 3+(evCs c gs).getD 0 0
  else 1+(evCs c gs).getD 0 0
def evCs (c:Nat):List Fu->List Nat
 | []=>[]
 | g::l=>evC c g::evCs c l
end
def zDQ (d i g:Nat) (v:AV) (M0:List (Nat×Nat×Ent)) (A:Fm) (c:Nat) (f:Fu):Prop:=
 zH f=true->∀(D:Nat) (left:Int),d < D->(∀m∈M0,m.1 < D)->Bg left->LB d i g D 116 [.ptr d i g 0,encF f,v] (Bd d i g left::M0) (encM (evM A f)) [Bd d i g (cl left (evC c f))]
end Go.Ab.Tab
/- Building formulas of limited size,whether or not they fit: every,its contract. -/
namespace Go.Ab.Tab
open Go Go.Ab
section
variable {d i g:Nat} {M0:List (Nat×Nat×Ent)} {S:Nat->Nat->Ent} {D n:Nat} {τ:Nat->AV} {ω:Nat->Ent}
theorem bdM (hd:d < D) (hM0:∀m∈M0,m.1 < D) (hS0:∀m∈M0,S m.1 m.2.1=m.2.2) (hdis:∀m∈M0,¬(m.1=d/\m.2.1=i)) (left:Int):
  ∀m∈Bd d i g left::M0,m.1<=D/\(m.1=D->m.2.1 < n)/\(stF n D τ ω (updS S d i (g,Ob.cells [AV.int .i64 left]))).look m.1 m.2.1=m.2.2:=by
 intro m hm;rcases yOD.1 hm with rfl | hm
 ·refine ⟨yOF hd,fun e=>absurd e (yOE hd),?_⟩;rw[yD,yRN (yOE hd)];exact uF ..
 ·have h1:=hM0 m hm;refine ⟨yOF h1,fun e=>absurd e (yOE h1),?_⟩;rw[yD,yRN (yOE h1),updS,yRN (hdis m hm)];exact hS0 m hm
theorem bdM0 (hd:d < D) (hM0:∀m∈M0,m.1 < D) (hS0:∀m∈M0,S m.1 m.2.1=m.2.2) (left:Int) (h0:S d i=(g,Ob.cells [AV.int .i64 left])):
  ∀m∈Bd d i g left::M0,m.1<=D/\(m.1=D->m.2.1 < n)/\(stF n D τ ω S).look m.1 m.2.1=m.2.2:=by
 intro m hm;rcases yOD.1 hm with rfl | hm
 ·refine ⟨yOF hd,fun e=>absurd e (yOE hd),?_⟩;rw[yD,yRN (yOE hd)];exact h0
 ·have h1:=hM0 m hm;refine ⟨yOF h1,fun e=>absurd e (yOE h1),?_⟩;rw[yD,yRN (yOE h1)];exact hS0 m hm
theorem bdN (hd:d < D) (left:Int):∀m∈[Bd d i g left],m.1<=D/\(m.1=D->m.2.1 < n)/\(stF n D τ ω (updS S d i (g,Ob.cells [AV.int .i64 left]))).look m.1 m.2.1=m.2.2:=
 bdM hd (by simp) (by simp) (by simp) left
theorem bdN0 (hd:d < D) (left:Int) (h0:S d i=(g,Ob.cells [AV.int .i64 left])):∀m∈[Bd d i g left],m.1<=D/\(m.1=D->m.2.1 < n)/\(stF n D τ ω S).look m.1 m.2.1=m.2.2:=
 bdM0 hd (by simp) (by simp) left h0
theorem bdE (hd:d < D) (left:Int) {e:Nat} {ge:Nat} (he:e < n) (hw:ω e=(ge,.cells [.ptr d i g 0])):∀m∈[Bd d i g left,(D,e,(ge,.cells [.ptr d i g 0]))],m.1<=D/\(m.1=D->m.2.1 < n)/\(stF n D τ ω (updS S d i (g,Ob.cells [AV.int .i64 left]))).look m.1 m.2.1=m.2.2:=by
 intro m hm;rcases yOD.1 hm with rfl | hm
 ·exact bdN hd left _ (by simp)
 ·rw[yOH] at hm;subst hm;refine ⟨Nat.le_refl _,fun _=>he,?_⟩;rw[yD,yRO rfl,yRO he];exact hw
end
section
variable {d i g:Nat} {v:AV} {M0:List (Nat×Nat×Ent)} {A:Fm} {c:Nat}
theorem m116 (hgen:GenC d i g v M0 A c) {n:Int} {x:Fu} (hx:zDQ d i g v M0 A c x) (hsx:zH x=true) (hn4:n<=4) {D:Nat} (hd:d < D) (hM0:∀m∈M0,m.1 < D) (S:Nat->Nat->Ent) (hS0:∀m∈M0,S m.1 m.2.1=m.2.2) (K:List AI):
  ∀(j k g8:Nat) (out:Fm) (left:Int) (τ ω) (r:AV) (fin:Int),(k:Int)+j=n->Bg left->fin=cl left (j*(2+evC c x))->
  τ 2=v->τ 3= .ptr D 3 1 0->τ 4= .ptr D 4 1 0->τ 6= .ptr D 6 1 0->τ 8= .ptr D 8 g8 0->τ 9= .int .i64 k->ω 3=(1,.cells [.ptr d i g 0])->ω 4=(1,.cells [.int .i64 4,.int .i64 n,.sl 3 [encF x] .no])->
  ω 6=(1,.cells [.int .i64 0,.int .i64 0,.int .i64 0,.sl 4 [] .tip])->ω 8=(g8,.cells [.int .i64 out.o,.int .i64 out.n,.int .i64 out.m,.sl 4 (out.ar.map encM) .no])->r=encM (expM (evM A x) out k j)->
  Rd (LB d i g) .im (RetM [.cell 6 true 4] r D S [Bd d i g fin]) (.lp c116_l0:: .blk 1:: .c zAE::K) (stF 161 D τ ω (updS S d i (g,Ob.cells [AV.int .i64 left]))):=by
 obtain ⟨F,caps,hv,hF,hcaps,hdis,hcall⟩:=hgen;have hne:¬d=D:=by omega
 have hne':¬D=d:=by omega
 have hMd:∀a (q:Nat×Nat×Ob),(a,q)∈M0->¬D=a:=fun a q hm e=>by have:=hM0 _ hm;simp only at this;omega
 have v1:v.dem=v:=by rcases hv with rfl | rfl<;>rfl
 have v2:v.var1=v:=by rcases hv with rfl | rfl<;>rfl
 have v3:v.strip=v:=by rcases hv with rfl | rfl<;>rfl
 have hM1:∀m∈M0,m.1 < D+1:=fun m hm=>by have:=hM0 m hm;omega
 intro j
 induction j with
 | zero=>
  intro k g8 out left τ ω r fin hk hl hfin t2 t3 t4 t6 t8 t9 w3 w4 w6 w8 hr;refine zN c116_l0.eq_1 ?_;have hkn:¬(k:Int) < n:=by omega
  have hf:fin=left:=by rw[hfin,Nat.zero_mul,zJZ hl]
  subst hf;rw[expM] at hr;rw[zA] at hr;have hkd:decide ((k:Int) < n)=false:=decide_eq_false hkn;simp[Cnt.e,cB,t3,t4,t6,t8,t9,w4,w6,w8,hkd,zAE,hr,upds]
 | succ j ih=>
  intro k g8 out left τ ω r fin hk hl hfin t2 t3 t4 t6 t8 t9 w3 w4 w6 w8 hr;refine zN c116_l0.eq_1 ?_;have hkn:(k:Int) < n:=by omega
  have hwr:IntKind.i64.wrap ((k:Int)+1)=((k+1:Nat):Int):=by rw[<-zL (n:=k+1) (by omega)];rfl
  rw[Nat.succ_mul] at hfin;have h1:=hx hsx (D+1) _ (by omega) hM1 hl;have h2:=zHD (D+1) (d:=d) (i:=i) (g:=g) (by omega) (hl.cl (evC c x)) k (evM A x);have h3:=wH (D+1) (d:=d) (i:=i) (g:=g) (by omega) ((hl.cl (evC c x)).cl 1) 2 [out,.mk 10 k 0 [evM A x]];simp only[zG] at h2 h3;rw[expM] at hr;generalize hex:evM A x=ex at*;simp[t2,t3,t4,t6,t8,t9,w3,w4,w6,w8,hkn,v1,v2,zB x];refine zM h1 (by simp[v1,v2,v3,t2,zB x]) (bdM hd hM0 hS0 hdis _) (by simp) ?_;simp[hne,zA ex,t3,t9];refine zM h2 (by simp[zA ex]) (bdN hd _) (by simp) ?_;simp[hne,t3,t8];refine zM h3 (by simp[zG,zA ex,zA out]) (bdN hd _) (by simp) ?_;simp[hne,hne',t8,w8,t9,hwr];refine ih (k+1) g8 (.mk 2 0 0 [out,.mk 10 k 0 [ex]]) (cl (cl (cl left (evC c x)) 1) 1) _ _ r fin (by omega) (((hl.cl _).cl _).cl _) (by rw[hfin];simp only[r7];exact cM (by omega)) ?_ ?_ ?_ ?_ ?_ ?_ ?_ ?_ ?_ ?_ hr
  all_goals simp[t2,t3,t4,t6,t8,w3,w4,w6,Fm.o,Fm.n,Fm.m,Fm.ar]
theorem zDZ (hgen:GenC d i g v M0 A c) (k n:Int) (gs:List Fu) (ih:∀a∈gs,zDQ d i g v M0 A c a):zDQ d i g v M0 A c (.mk k n gs):=by
 intro hf D left hd hM0 hl;obtain ⟨F,caps,hv,hF,hcaps,hdis,hcall⟩:=hgen;have hne:¬d=D:=by omega
 have hne':¬D=d:=fun e=>hne e.symm;have hMd:∀a (q:Nat×Nat×Ob),(a,q)∈M0->¬D=a:=fun a q hm e=>by have:=hM0 _ hm;simp only at this;omega
 have v1:v.dem=v:=by rcases hv with rfl | rfl<;>rfl
 have v2:v.var1=v:=by rcases hv with rfl | rfl<;>rfl
 have v3:v.strip=v:=by rcases hv with rfl | rfl<;>rfl
 have hgs:∀a∈gs,zH a=true:=by
  intro a ha;rw[zH] at hf;simp only[yOB] at hf;have:∀{l:List Fu},xI l=true->∀a∈l,zH a=true:=by
   intro l
   induction l with
   | nil=>intro _ a ha;cases ha
   | cons f l ihl=>
    intro h a ha;rw[xI,yOB] at h;rcases yOD.1 ha with rfl | ha
    ·exact h.1
    ·exact ihl h.2 a ha
  exact this hf.2.2.2 a ha
 refine wF zF tok rfl (cB d i g) [6,8,10,11,144,158,159] .im rfl (by simp) v7 hd (vK hl _) fun S hS=> ?_;have h0:=(hS _ (yOC ..)).2;simp only at h0;have hS0:∀m∈M0,S m.1 m.2.1=m.2.2:=fun m hm=>(hS m (yOG _ hm)).2;have hM1:∀m∈M0,m.1 < D+1:=fun m hm=>by have:=hM0 m hm;omega
 unfold c116;rw[zU];by_cases k0:k=0
 ·subst k0;have e1:evC c (.mk 0 n gs)=1+c:=by rw[evC];rfl
  have e2:evM A (.mk 0 n gs)= .mk 4 0 0 [A]:=by rw[evM];rfl
  rw[e1,e2,show cl left (1+c)=cl (cl left c) 1 by simp only[r7];exact cM (by omega)];have h60:=wH (D+1) (d:=d) (i:=i) (g:=g) (by omega) (hl.cl c) 4 [A];rw[zG] at h60|-;simp[v1,v2];refine zGE hv (hcall (D+1) _ (by omega) hM1 hl) (by simp[v1]) hcaps (bdM0 hd hM0 hS0 left h0) (by simp) ?_ hF;simp[hne,zA A];refine zM h60 (by simp[zA A]) (bdN hd _) (by simp) ?_;simp[Cnt.e,cB,hne,zA A,upds]
 by_cases k1:k=1
 ·subst k1;have e1:evC c (.mk 1 n gs)=1:=by rw[evC];rfl
  have e2:evM A (.mk 1 n gs)= .mk 0 0 0 []:=by rw[evM];rfl
  rw[e1,e2];have h60:=wH (D+1) (d:=d) (i:=i) (g:=g) (by omega) hl 0 [];rw[zG] at h60|-;simp[v1,v2];refine zR h60 (by simp) (bdN0 hd _ h0) (by simp) ?_;simp[Cnt.e,cB,hne,upds]
 by_cases k2:k=2
 ·subst k2;obtain ⟨x,y,rfl⟩:=sR hf (.inl rfl);have e1:evC c (.mk 2 n [x,y])=3+evC c x+evC c y:=by rw[evC];simp[evCs]
  have e2:evM A (.mk 2 n [x,y])= .mk 2 0 0 [.mk 6 0 0 [evM A x],.mk 7 0 0 [evM A y]]:=by rw[evM];simp[evMs]
  rw[e1,e2,show cl left (3+evC c x+evC c y)=cl (cl (cl (cl (cl left (evC c x)) 1) (evC c y)) 1) 1 by simp only[r7];exact cM (by omega)];have hx:=ih x (by simp) (hgs x (by simp)) (D+1) _ (by omega) hM1 hl;have h1:=wH (D+1) (d:=d) (i:=i) (g:=g) (by omega) (hl.cl (evC c x)) 6 [evM A x];have hy:=ih y (by simp) (hgs y (by simp)) (D+1) _ (by omega) hM1 ((hl.cl (evC c x)).cl 1);have h2:=wH (D+1) (d:=d) (i:=i) (g:=g) (by omega) (((hl.cl (evC c x)).cl 1).cl (evC c y)) 7 [evM A y];have h3:=wH (D+1) (d:=d) (i:=i) (g:=g) (by omega) ((((hl.cl (evC c x)).cl 1).cl (evC c y)).cl 1) 2 [.mk 6 0 0 [evM A x],.mk 7 0 0 [evM A y]];rw[zG] at h1 h2 h3|-;generalize hex:evM A x=ex at*;generalize hey:evM A y=ey at*;simp[v1,v2,zB x];refine zM hx (by simp[v1,v2,v3,zB x]) (bdM0 hd hM0 hS0 left h0) (by simp) ?_;simp[hne,zA ex];refine zM h1 (by simp[zA ex]) (bdN hd _) (by simp) ?_;simp[hne,v1,v2,zB y]
  refine zM hy (by simp[v1,v2,v3,zB y]) (bdM hd hM0 hS0 hdis _) (by simp) ?_;simp[hne,zA ey];refine zM h2 (by simp[zA ey]) (bdN hd _) (by simp) ?_;simp[hne];refine zM h3 (by simp[zG,zA ex,zA ey]) (bdN hd _) (by simp) ?_;simp[Cnt.e,cB,hne,upds,zG,zA ex,zA ey]
 by_cases k3:k=3
 ·subst k3;obtain ⟨x,y,rfl⟩:=sR hf (.inr rfl);have e1:evC c (.mk 3 n [x,y])=6+evC c x+evC c y:=by rw[evC];simp[evCs]
  have e2:evM A (.mk 3 n [x,y])=notM (.mk 2 0 0 [notM (.mk 8 0 0 [evM A x]),notM (.mk 9 0 0 [evM A y])]):=by rw[evM];simp[evMs]
  rw[e1,e2,show cl left (6+evC c x+evC c y)=cl (cl (cl (cl (cl (cl (cl (cl left (evC c x)) 1) 1) (evC c y)) 1) 1) 1) 1 by simp only[r7];exact cM (by omega)];have hx:=ih x (by simp) (hgs x (by simp)) (D+1) _ (by omega) hM1 hl;have h1:=wH (D+1) (d:=d) (i:=i) (g:=g) (by omega) (hl.cl (evC c x)) 8 [evM A x];have h2:=qO (D+1) (d:=d) (i:=i) (g:=g) 3 1 (by omega) D (by omega) ((hl.cl (evC c x)).cl 1) (.mk 8 0 0 [evM A x]);have hy:=ih y (by simp) (hgs y (by simp)) (D+1) _ (by omega) hM1 (((hl.cl (evC c x)).cl 1).cl 1);have h3:=wH (D+1) (d:=d) (i:=i) (g:=g) (by omega) ((((hl.cl (evC c x)).cl 1).cl 1).cl (evC c y)) 9 [evM A y];have h4:=qO (D+1) (d:=d) (i:=i) (g:=g) 3 1 (by omega) D (by omega) (((((hl.cl (evC c x)).cl 1).cl 1).cl (evC c y)).cl 1) (.mk 9 0 0 [evM A y])
  have h5:=wH (D+1) (d:=d) (i:=i) (g:=g) (by omega) ((((((hl.cl (evC c x)).cl 1).cl 1).cl (evC c y)).cl 1).cl 1) 2 [notM (.mk 8 0 0 [evM A x]),notM (.mk 9 0 0 [evM A y])];have h6:=qO (D+1) (d:=d) (i:=i) (g:=g) 3 1 (by omega) D (by omega) (((((((hl.cl (evC c x)).cl 1).cl 1).cl (evC c y)).cl 1).cl 1).cl 1) (.mk 2 0 0 [notM (.mk 8 0 0 [evM A x]),notM (.mk 9 0 0 [evM A y])]);simp only[notM,zG] at h1 h2 h3 h4 h5 h6|-;generalize hex:evM A x=ex at*;generalize hey:evM A y=ey at*;simp[v1,v2,zB x];refine zM hx (by simp[v1,v2,v3,zB x]) (bdM0 hd hM0 hS0 left h0) (by simp) ?_;simp[hne,zA ex];refine zM h1 (by simp[zA ex]) (bdN hd _) (by simp) ?_;simp[hne];refine z9 (cap:=[.ptr D 3 1 0]) h2 (by simp) (by simp[zG,zA ex]) (bdE hd _ (by decide) (by simp)) (by simp) ?_;simp[hne,v1,v2,zB y];refine zM hy (by simp[v1,v2,v3,zB y]) (bdM hd hM0 hS0 hdis _) (by simp) ?_;simp[hne,zA ey]
  refine zM h3 (by simp[zA ey]) (bdN hd _) (by simp) ?_;simp[hne];refine z9 (cap:=[.ptr D 3 1 0]) h4 (by simp) (by simp[zG,zA ey]) (bdE hd _ (by decide) (by simp)) (by simp) ?_;simp[hne];refine zM h5 (by simp[notM,zG,zA ex,zA ey]) (bdN hd _) (by simp) ?_;simp[hne];refine z9 (cap:=[.ptr D 3 1 0]) h6 (by simp) (by simp[notM,zG,zA ex,zA ey]) (bdE hd _ (by decide) (by simp)) (by simp) ?_;simp[Cnt.e,cB,hne,upds,notM,zG,zA ex,zA ey]
 by_cases k5:k=5
 ·subst k5;obtain ⟨x,rfl⟩:=uH hf (by simp);have e1:evC c (.mk 5 n [x])=3+evC c x:=by rw[evC];simp[evCs]
  have e2:evM A (.mk 5 n [x])=notM (.mk 11 0 0 [notM (evM A x)]):=by rw[evM];simp[evMs]
  rw[e1,e2,show cl left (3+evC c x)=cl (cl (cl (cl left (evC c x)) 1) 1) 1 by simp only[r7];exact cM (by omega)];have hx:=ih x (by simp) (hgs x (by simp)) (D+1) _ (by omega) hM1 hl;have h1:=qO (D+1) (d:=d) (i:=i) (g:=g) 3 1 (by omega) D (by omega) (hl.cl (evC c x)) (evM A x);have h2:=wH (D+1) (d:=d) (i:=i) (g:=g) (by omega) ((hl.cl (evC c x)).cl 1) 11 [notM (evM A x)];have h3:=qO (D+1) (d:=d) (i:=i) (g:=g) 3 1 (by omega) D (by omega) (((hl.cl (evC c x)).cl 1).cl 1) (.mk 11 0 0 [notM (evM A x)]);simp only[notM,zG] at h1 h2 h3|-;generalize hex:evM A x=ex at*;simp[v1,v2,zB x];refine zM hx (by simp[v1,v2,v3,zB x]) (bdM0 hd hM0 hS0 left h0) (by simp) ?_;simp[hne,zA ex];refine z9 (cap:=[.ptr D 3 1 0]) h1 (by simp) (by simp[zA ex]) (bdE hd _ (by decide) (by simp)) (by simp) ?_;simp[hne];refine zM h2 (by simp[notM,zG,zA ex]) (bdN hd _) (by simp) ?_;simp[hne]
  refine z9 (cap:=[.ptr D 3 1 0]) h3 (by simp) (by simp[notM,zG,zA ex]) (bdE hd _ (by decide) (by simp)) (by simp) ?_;simp[Cnt.e,cB,hne,upds,notM,zG,zA ex]
 by_cases k6:k=6
 ·subst k6;obtain ⟨x,rfl⟩:=uH hf (by simp);have e1:evC c (.mk 6 n [x])=3+evC c x:=by rw[evC];simp[evCs]
  have e2:evM A (.mk 6 n [x])=notM (.mk 12 1 0 [notM (evM A x)]):=by rw[evM];simp[evMs]
  rw[e1,e2,show cl left (3+evC c x)=cl (cl (cl (cl left (evC c x)) 1) 1) 1 by simp only[r7];exact cM (by omega)];have hx:=ih x (by simp) (hgs x (by simp)) (D+1) _ (by omega) hM1 hl;have h1:=qO (D+1) (d:=d) (i:=i) (g:=g) 3 1 (by omega) D (by omega) (hl.cl (evC c x)) (evM A x);have h2:=wH (D+1) (d:=d) (i:=i) (g:=g) (by omega) ((hl.cl (evC c x)).cl 1) 12 [notM (evM A x)];have h3:=qO (D+1) (d:=d) (i:=i) (g:=g) 3 1 (by omega) D (by omega) (((hl.cl (evC c x)).cl 1).cl 1) (.mk 12 1 0 [notM (evM A x)]);simp only[notM,zG] at h1 h2 h3|-;generalize hex:evM A x=ex at*;simp[v1,v2,zB x];refine zM hx (by simp[v1,v2,v3,zB x]) (bdM0 hd hM0 hS0 left h0) (by simp) ?_;simp[hne,zA ex];refine z9 (cap:=[.ptr D 3 1 0]) h1 (by simp) (by simp[zA ex]) (bdE hd _ (by decide) (by simp)) (by simp) ?_;simp[hne];refine zM h2 (by simp[notM,zG,zA ex]) (bdN hd _) (by simp) ?_;simp[hne,hne']
  refine ⟨fun a a1 a2 b hm=> .inl (hMd a (a1,a2,b) hm),?_⟩;refine zZ (cap:=[.ptr D 3 1 0]) h3 (by simp) (by simp[notM,zG,zA ex]) (bdE hd _ (by decide) (by simp)) (by simp) ?_;simp[Cnt.e,cB,hne,upds,notM,zG,zA ex]
 by_cases k4:k=4
 ·subst k4;obtain ⟨x,rfl⟩:=uH hf (by simp);have hn4:1<=n/\n<=4:=by
   rw[zH] at hf;simp only[yOB,yRP] at hf;have e:wO 4=4:=rfl;have:=hf.2;rw[e] at this;omega
  obtain ⟨j,hj⟩:∃j:Nat,n=1+(j:Int):=⟨(n - 1).toNat,by omega⟩;have hnj:n.toNat - 1=j:=by omega
  have e1:evC c (.mk 4 n [x])=1+evC c x+j*(2+evC c x):=by rw[evC];simp[evCs,hnj]
  have e2:evM A (.mk 4 n [x])=expM (evM A x) (.mk 10 0 0 [evM A x]) 1 j:=by rw[evM];simp[evMs,hnj]
  rw[e1,e2];have h1:=ih x (by simp) (hgs x (by simp)) (D+1) _ (by omega) hM1 hl;have h2:=zHD (D+1) (d:=d) (i:=i) (g:=g) (by omega) (hl.cl (evC c x)) 0 (evM A x);simp only[zG] at h2;generalize hr:encM (expM (evM A x) (.mk 10 0 0 [evM A x]) 1 j)=r;generalize hex:evM A x=ex at*;simp[v1,v2,zB x];refine zM h1 (by simp[v1,v2,v3,zB x]) (bdM0 hd hM0 hS0 left h0) (by simp) ?_;simp[hne,zA ex];refine zM h2 (by simp[zA ex]) (bdN hd _) (by simp) ?_;simp[hne,hne'];refine ⟨fun a a1 a2 b hm=> .inl (hMd a (a1,a2,b) hm),?_⟩;refine m116 ⟨F,caps,hv,hF,hcaps,hdis,hcall⟩ (n:=n) (ih x (by simp)) (hgs x (by simp)) (by omega) hd hM0 S hS0 _ j 1 1 (.mk 10 0 0 [ex]) (cl (cl left (evC c x)) 1) _ _ r _ (by omega) ((hl.cl _).cl _) (by simp only[r7];exact cM (by omega)) ?_ ?_ ?_ ?_ ?_ ?_ ?_ ?_ ?_ ?_ (by rw[hex,<-hr]);all_goals simp[v1,v2,Fm.o,Fm.n,Fm.m,Fm.ar,zB x]
 ·have k7:k=7:=by
   have:=hf;rw[zH] at this;simp only[yOB,yRP] at this;have h1:=this.1;unfold arK at h1;repeat (split at h1<;>try omega)
  subst k7;obtain ⟨x,rfl⟩:=uH hf (by simp);have e1:evC c (.mk 7 n [x])=1+evC c x:=by rw[evC];simp[evCs]
  have e2:evM A (.mk 7 n [x])= .mk 13 1 1 [evM A x]:=by rw[evM];simp[evMs]
  rw[e1,e2,show cl left (1+evC c x)=cl (cl left (evC c x)) 1 by simp only[r7];exact cM (by omega)];have hx:=ih x (by simp) (hgs x (by simp)) (D+1) _ (by omega) hM1 hl;have h1:=wH (D+1) (d:=d) (i:=i) (g:=g) (by omega) (hl.cl (evC c x)) 13 [evM A x];rw[zG] at h1|-;generalize hex:evM A x=ex at*;simp[v1,v2,zB x,zKY];refine zM hx (by simp[v1,v2,v3,zB x]) (bdM0 hd hM0 hS0 left h0) (by simp) ?_;simp[hne,zA ex];refine zM h1 (by simp[zA ex]) (bdN hd _) (by simp) ?_;simp[Cnt.e,cB,hne,hne',upds,zG,zA ex];exact fun a a1 a2 b hm=> .inl (hMd a (a1,a2,b) hm)
theorem zST (hgen:GenC d i g v M0 A c):∀f,zDQ d i g v M0 A c f:=Fu.ind' fun k n gs ih=>zDZ hgen k n gs ih
theorem zPM (hgen:GenC d i g v M0 A c) (f:Fu) (hf:zH f=true) {D:Nat} {left:Int} (hd:d < D) (hM0:∀m∈M0,m.1 < D) (hl:Bg left):
  LB d i g D 62 [.ptr d i g 0,encF f,v] (Bd d i g left::M0) (encM (.mk 3 0 0 [evM A f])) [Bd d i g (cl (cl left (evC c f)) 1)]:=by
 have hgen0:=hgen;obtain ⟨F,caps,hv,hF,hcaps,hdis,hcall⟩:=hgen;have hne:¬d=D:=by omega
 have v1:v.dem=v:=by rcases hv with rfl | rfl<;>rfl
 have v2:v.var1=v:=by rcases hv with rfl | rfl<;>rfl
 have v3:v.strip=v:=by rcases hv with rfl | rfl<;>rfl
 refine wF zF tok rfl (cB d i g) [6] .im rfl (by simp) v7 hd (fun h=>vK (hl.cl _) _ (vK hl _ h)) fun S hS=> ?_;have h0:=(hS _ (yOC ..)).2;simp only at h0;have hS0:∀m∈M0,S m.1 m.2.1=m.2.2:=fun m hm=>(hS m (yOG _ hm)).2;have hM1:∀m∈M0,m.1 < D+1:=fun m hm=>by have:=hM0 m hm;omega
 have h1:=zST hgen0 f hf (D+1) _ (by omega) hM1 hl;have h2:=wH (D+1) (d:=d) (i:=i) (g:=g) (by omega) (hl.cl (evC c f)) 3 [evM A f];simp only[zG] at h2|-;generalize hex:evM A f=ex at*;unfold c62;simp[v1,v2,zB f];refine zR h1 (by simp[v1,v2,v3,zB f]) (bdM0 hd hM0 hS0 left h0) (by simp) ?_;simp[hne,zA ex];refine zR h2 (by simp[zA ex]) (bdN hd _) (by simp) ?_;simp[Cnt.e,cB,hne,upds,zA ex]
theorem zPN (a:Fm) (hb:zK a<=2^30) (hv:uK (fun _=>False) a) {D d i g:Nat} {left:Int} (hd:d < D) (hl:Bg left):
  LB d i g D 61 [.ptr d i g 0,encM a] [Bd d i g left] (encM (subM (fun _=> .mk 0 0 0 []) a)) [Bd d i g (cl left (jJ (fun _=>0) a))]:=by
 have hne:¬d=D:=by omega
 refine wF zF tok rfl (cB d i g) [4] .im rfl (by simp) v7 hd (vK hl _) fun S hS=> ?_;have h0:=(hS _ (yOC ..)).2;simp only at h0;have hvc:VarC d i g 115 [] [] (fun _=> .mk 0 0 0 []) (fun _=>0) (fun _=>False):=⟨by decide,rfl,fun _ _ _ _ _ h _=>h.elim⟩;have h1:=zPG hvc (by simp) a hb hv (D+1) left (by omega) (by simp) hl;generalize hex:subM (fun _=> .mk 0 0 0 []) a=ex at*;unfold c61;simp[zA a];refine zR h1 (by simp[zA a]) (bdN0 hd _ h0) (by simp) ?_;simp[Cnt.e,cB,hne,upds,zA ex]
end
end Go.Ab.Tab
/- The closures of Always,Possible,Every and Dual,whether or not what they build fits. -/
namespace Go.Ab.Tab
open Go Go.Ab
def oQ (a:Fm):List AV:=[.int .i64 a.o,.int .i64 a.n,.int .i64 a.m,.sl 4 (a.ar.map encM) .no]
def sT (f:Fu):List AV:=[.int .i64 f.k,.int .i64 f.n,.sl 3 (f.gs.map encF) .no]
def gvM (a:Fm):Fm:=subM (fun _=> .mk 0 0 0 []) a
def gvC (a:Fm):Nat:=jJ (fun _=>0) a
def varM:Fm:= .mk 14 0 0 []
theorem zUG (d i g:Nat):GenC d i g (.meth 63 [.ptr d i g 0]) [] varM 1:=
 ⟨63,[.ptr d i g 0],.inr rfl,by decide,rfl,by simp,fun D left hd _ hl=>zPL D hd hl⟩
def alwM (a:Fm) (f:Fu):Fm:= .mk 2 0 0 [gvM a,.mk 3 0 0 [evM varM f]]
theorem yAS {D d i g dA:Nat} (hd:d < D) (hdA:dA < d) (a:Fm) (hb:zK a<=2^30) (hv:uK (fun _=>False) a) (f:Fu) (hf:zH f=true) {left:Int} (hl:Bg left):
  LB d i g D 59 [.ptr d i g 0,.ptr dA 3 1 0,.ptr dA 2 1 0] [Bd d i g left,(dA,3,(1,.cells (oQ a))),(dA,2,(1,.cells (sT f)))] (encM (alwM a f)) [Bd d i g (cl (cl (cl (cl left (gvC a)) (evC 1 f)) 1) 1)]:=by
 have hne:¬d=D:=by omega
 have hne2:¬dA=D:=by omega
 have hne3:¬d=dA:=by omega
 have hne4:¬dA=d:=by omega
 refine wF zF tok rfl (cB d i g) [4] .im rfl (by simp) v7 hd (fun h=>by simp only[r7];exact vK hl _ h) fun S hS=> ?_;obtain ⟨⟨_,h0⟩,⟨_,hA⟩,⟨_,hB⟩⟩:=hM3 hS;simp only[oQ,sT] at h0 hA hB;have h1:=zPN a hb hv (D:=D+1) (d:=d) (i:=i) (g:=g) (left:=left) (by omega) hl;have h2:=zPM (zUG d i g) f hf (D:=D+1) (left:=cl left (gvC a)) (by omega) (by simp) (hl.cl _);have h3:=wH (D+1) (d:=d) (i:=i) (g:=g) (by omega) (((hl.cl (gvC a)).cl (evC 1 f)).cl 1) 2 [gvM a,.mk 3 0 0 [evM varM f]];have eg:subM (fun _=> .mk 0 0 0 []) a=gvM a:=rfl;have ec:jJ (fun _=>0) a=gvC a:=rfl;rw[eg,ec] at h1;rw[alwM];simp only[zG] at h2 h3|-;generalize gvM a=ga at*;generalize evM varM f=ef at*;have hu:∀e,updS S d i e dA 2=S dA 2:=fun e=>by unfold updS;rw[yRN];rintro ⟨e1,_⟩;exact hne4 e1
 have hu3:∀e,updS S d i e dA 3=S dA 3:=fun e=>by unfold updS;rw[yRN];rintro ⟨e1,_⟩;exact hne4 e1
 unfold c59;simp[hne2,hA];refine zM h1 (by simp[zA a]) (bdN0 hd _ h0) (by simp) ?_;simp[hne,hne2,hu,hB];refine zM h2 (by simp[zB f]) (bdN hd _) (by simp) ?_;simp[hne,zA ga];refine zM h3 (by simp[zG,zA ga,zA ef]) (bdN hd _) (by simp) ?_;simp[Cnt.e,cB,hne,hne3,hne4,upds,zG,zA ga,zA ef]
def posM (a:Fm) (f:Fu):Fm:=notM (.mk 2 0 0 [notM (gvM a),.mk 3 0 0 [evM (notM varM) f]])
theorem yAQ {D d i g dB:Nat} (hd:d < D) (hB:dB < D) {left:Int} (hl:Bg left):
  LB d i g D 66 [.ptr dB 5 1 0,.ptr dB 3 1 0] (Bd d i g left::[(dB,5,(1,.cells [.fn 65 [.ptr dB 3 1 0]])),(dB,3,(1,.cells [.ptr d i g 0]))]) (encM (notM varM)) [Bd d i g (cl left 2)]:=by
 have hne:¬d=D:=by omega
 have hne2:¬dB=D:=by omega
 refine wF zF tok rfl (cB d i g) [2] .im rfl (by simp) v7 hd (vK hl _) fun S hS=> ?_;obtain ⟨⟨_,h0⟩,⟨_,h5⟩,⟨_,h3⟩⟩:=hM3 hS;simp only at h0 h3 h5;by_cases hsite:d=dB/\i=3
 ·obtain ⟨rfl,rfl⟩:=hsite;rw[h0] at h3;injection h3 with _ h3;injection h3 with h3;injection h3 with h3;cases h3
 by_cases hsite5:d=dB/\i=5
 ·obtain ⟨rfl,rfl⟩:=hsite5;rw[h0] at h5;injection h5 with _ h5;injection h5 with h5;injection h5 with h5;cases h5
 have hs5:¬d=dB\/¬i=5:=by
  by_cases h:d=dB
  ·exact .inr fun e=>hsite5 ⟨h,e⟩
  ·exact .inl h
 have hs5':¬dB=d\/¬5=i:=by
  rcases hs5 with h | h
  ·exact .inl fun e=>h e.symm
  ·exact .inr fun e=>h e.symm
 have hu:∀e,updS S d i e dB 3=S dB 3:=fun e=>by unfold updS;rw[yRN];rintro ⟨e1,e2⟩;exact hsite ⟨e1.symm,e2.symm⟩
 have h1:=zPL (D+1) (d:=d) (i:=i) (g:=g) (by omega) hl;have h2:=zGQ (D+1) (d:=d) (i:=i) (g:=g) 3 1 (by omega) dB (by omega) (hl.cl 1) varM;simp only[notM,varM,zG] at h1 h2|-;rw[show cl left 2=cl (cl left 1) 1 by simp only[r7]];unfold c66;simp[hne2,h3,h5];refine zM h1 (by simp) (bdN0 hd _ h0) (by simp) ?_;simp[hne];refine z9 (cap:=[.ptr dB 3 1 0]) h2 (by simp) (by simp) ?_ (by simp) ?_
 ·intro m hm;rcases yOD.1 hm with rfl | hm
  ·exact bdN hd _ _ (by simp)
  ·rw[yOH] at hm;subst hm;refine ⟨yOF hB,fun e=>absurd e hne2,?_⟩;rw[yD,yRN hne2];simp only;rw[hu];exact h3
 simp[Cnt.e,cB,hne,hs5,hs5',upds]
theorem yAR {D d i g dA:Nat} (hd:d < D) (hdA:dA < d) (a:Fm) (hb:zK a<=2^30) (hv:uK (fun _=>False) a) (f:Fu) (hf:zH f=true) {left:Int} (hl:Bg left):
  LB d i g D 64 [.ptr d i g 0,.ptr dA 3 1 0,.ptr dA 2 1 0] [Bd d i g left,(dA,3,(1,.cells (oQ a))),(dA,2,(1,.cells (sT f)))] (encM (posM a f)) [Bd d i g (cl (cl (cl (cl (cl (cl left (gvC a)) 1) (evC 2 f)) 1) 1) 1)]:=by
 have hne:¬d=D:=by omega
 have hne':¬D=d:=by omega
 have hne2:¬dA=D:=by omega
 have hne3:¬d=dA:=by omega
 have hne4:¬dA=d:=by omega
 refine wF zF tok rfl (cB d i g) [4,5] .im rfl (by simp) v7 hd (fun h=>by simp only[r7];exact vK hl _ h) fun S hS=> ?_;obtain ⟨⟨_,h0⟩,⟨_,hA⟩,⟨_,hB⟩⟩:=hM3 hS;simp only[oQ,sT] at h0 hA hB;have hgen:GenC d i g (.fn 66 [.ptr D 5 1 0,.ptr D 3 1 0]) [(D,5,(1,.cells [.fn 65 [.ptr D 3 1 0]])),(D,3,(1,.cells [.ptr d i g 0]))] (notM varM) 2:=
  ⟨66,_,.inl rfl,by decide,rfl,by simp[hne'],fun D' left' hd' hM' hl'=>yAQ hd' (hM' (D,5,(1,.cells [.fn 65 [.ptr D 3 1 0]])) (by simp)) hl'⟩
 have h1:=zPN a hb hv (D:=D+1) (d:=d) (i:=i) (g:=g) (left:=left) (by omega) hl;have h2:=zGQ (D+1) (d:=d) (i:=i) (g:=g) 3 1 (by omega) D (by omega) (hl.cl (gvC a)) (gvM a);have h3:=zPM hgen f hf (D:=D+1) (left:=cl (cl left (gvC a)) 1) (by omega) (by simp) ((hl.cl _).cl _);have h4:=wH (D+1) (d:=d) (i:=i) (g:=g) (by omega) ((((hl.cl (gvC a)).cl 1).cl (evC 2 f)).cl 1) 2 [notM (gvM a),.mk 3 0 0 [evM (notM varM) f]];have h5:=zGQ (D+1) (d:=d) (i:=i) (g:=g) 3 1 (by omega) D (by omega) (((((hl.cl (gvC a)).cl 1).cl (evC 2 f)).cl 1).cl 1) (.mk 2 0 0 [notM (gvM a),.mk 3 0 0 [evM (notM varM) f]]);have eg:subM (fun _=> .mk 0 0 0 []) a=gvM a:=rfl;have ec:jJ (fun _=>0) a=gvC a:=rfl;rw[eg,ec] at h1;rw[posM];generalize evM (notM varM) f=ef at*;simp only[notM,zG] at h2 h3 h4 h5|-;generalize gvM a=ga at*;have hu:∀e,updS S d i e dA 2=S dA 2:=fun e=>by unfold updS;rw[yRN];rintro ⟨e1,_⟩;exact hne4 e1
 have hu3:∀e,updS S d i e dA 3=S dA 3:=fun e=>by unfold updS;rw[yRN];rintro ⟨e1,_⟩;exact hne4 e1
 unfold c64;simp[hne2,hA];refine zM h1 (by simp[zA a]) (bdN0 hd _ h0) (by simp) ?_;simp[hne];refine z9 (cap:=[.ptr D 3 1 0]) h2 (by simp) (by simp[zA ga]) (bdE hd _ (by decide) (by simp)) (by simp) ?_;simp[hne,hne2,hu,hB];refine zM h3 (by simp[zB f]) ?_ (by simp) ?_
 ·intro m hm;rcases yOD.1 hm with rfl | hm
  ·exact bdN hd _ _ (by simp)
  ·simp only[yOD,yOI,or_false] at hm;rcases hm with rfl | rfl
   ·simp
   ·simp
 simp[hne,zA ga];refine zM h4 (by simp[zG,zA ga,zA ef]) (bdN hd _) (by simp) ?_;simp[hne,zA ga];refine z9 (cap:=[.ptr D 3 1 0]) h5 (by simp) (by simp[zG,zA ga,zA ef]) (bdE hd _ (by decide) (by simp)) (by simp) ?_;simp[Cnt.e,cB,hne,hne',hne3,hne4,upds,zG,zA ga,zA ef]
end Go.Ab.Tab
/- built: the function that defers a closure which recovers,whether or not something panics. -/
namespace Go.Ab.Tab
open Go Go.Ab
noncomputable def cD (P:Program) (k:Nat):Option (Nat×(List AOper×Nat×FuncId×List Opd×AC)×List RV):=match P.funcs[k]? with
 | some fn => if fn.name == "runtime.NumGoroutine" then none else match fn.body with
  | some b=>match zJV P Gl Lx b,vP P fn.results.toList with
   | some ac,some rs=>some (fn.ntmps,ac,rs)
   | _,_=>none
  | none=>none
 | none=>none
def a74:AC:= .seq (.region [⟨some 5,.mov false (.t 0),none⟩,⟨some 6,.build [.int .i64 0] [(0,(1,.c (.int .i64 2000)))],none⟩,⟨some 7,.box 1 (.t 6),none⟩,⟨some 8,.callv (.t 5) [.t 7],none⟩,⟨none,.store 4 (.t 2) (.t 8),none⟩,⟨none,.store 1 (.t 3) (.c (.bool true)),none⟩] none) .ret
def l74:List AOper:=[⟨some 2,.alloc [.int .i64 0,.int .i64 0,.int .i64 0,.sl 4 [] .nil],none⟩,⟨some 3,.alloc [.bool false],none⟩]
theorem d74:cD Pg 74=some (9,(l74,4,119,[.t 2,.t 3],a74),[.cell 2 true 4,.cell 3 false 1]):=by kernel_rfl
theorem zTP {f n:Nat} {l0 t g caps ac rs} (hc:cD Pg f=some (n,(l0,t,g,caps,ac),rs)) (hg:DefN Pg g) (htn:t < n) {args:List AV} {M dl:List (Nat×Nat×Ent)} {r:AV} {D:Nat} (hl:Nat.ble args.length n=true)
  (h:∀S,(∀m∈M,m.1 < D/\S m.1 m.2.1=m.2.2)->Rd (Loc Pg Gl) .im (RetM rs r D S dl) [.c (.seq (.region l0 none) (.seq (.region [⟨some t,.mkfn g caps,none⟩] none) ac))] (stF n D (vH 0 args) (fun _=>(0,.dead)) S)):Loc Pg Gl D f args M r dl:=by
 unfold cD at hc;split at hc
 ·rename_i fn hfn;split at hc
  ·cases hc
  ·rename_i hname;split at hc
   ·rename_i b hb;split at hc
    ·rename_i x rs' h1 h2;injection hc with hc;simp only[Prod.mk.injEq] at hc;obtain ⟨rfl,rfl,rfl⟩:=hc;refine dO (L:=Lx) zF hfn hb (by simpa using hname) h1 h2 hg htn fun S hS=> ?_;rw[wG _ _ _ _ (yOJ hl)];exact (h S hS).run
    ·cases hc
   ·cases hc
 ·cases hc
theorem zTA {P:Program} {o:Oper} {ρ} {w:World} (h:o.op= .call ⟨.builtin .recover,#[],#[]⟩):(execOp ρ o).run P w= .ok .recover w:=by
 unfold execOp;rw[h];simp[resolve,invoke,builtin]
theorem zNM {P:Program} {w:World} (d:Nat) {t:TypeId} {ms} (hu:P.underlying t=some (.interface ms)):(Op.equalIn (d+1) t .nilIface .nilIface).run P w= .ok true w:=by simp[Op.equalIn,run_underlying hu]
theorem zTN {P:Program} {o:Oper} {ρ:Operand->Value} {w:World} {t:TypeId} {x:Operand} {t' ms} (hu:P.underlying t=some (.interface ms)) (h:o.op= .binOp .neq t x (.const .nilIface) t') (hx:ρ x= .nilIface) (hc:ρ (.const .nilIface)= .nilIface):(execOp ρ o).run P w= .ok (.value (.bool false)) w:=by
 unfold execOp;rw[h];have h1:(Op.equalIn (9999+1) t Value.nilIface Value.nilIface).run P w= .ok true w:=zNM 9999 hu;have h2:(eqGuard .neq t x (.const .nilIface) .nilIface .nilIface).run P w= .ok () w:=by simp[eqGuard]
 have h3:(binOp .neq t .nilIface .nilIface).run P w= .ok (.bool false) w:=by
  simp only[binOp,Op.equal,Op.maxDepth,Sem.run_bind];refine (congrArg (fun r=>Result.andThen r _) h1).trans ?_;rfl
 simp only[hx,hc,Sem.run_bind,h2,Result.andThen_ok,h3];rfl
theorem zUX {P : Program} {g : FuncId} {fn : Func} {i0 i1 : Nat} {o0 o1 o2 o3 : Oper} {x : Code} {ty ty' : TypeId} {ms} (hf : P.funcs[g]? = some fn) (hn : (fn.name == "runtime.NumGoroutine") = false)
  (hb:fn.body=some (.seq (.region i0 #[o0,o1] false) (.seq (.region i1 #[o2,o3] false) (.cond (.tmp 7) x .skip)))) (hsz:8<=fn.ntmps) (hr:fn.results= #[]) (hu:P.underlying ty=some (.interface ms))
  (h0:o0.op= .call ⟨.builtin .recover,#[],#[]⟩/\o0.dst=some 5/\o0.guard=none) (h1:o1.op= .assign (.tmp 5)/\o1.dst=some 2/\o1.guard=none) (h2:o2.op= .move (.tmp 2)/\o2.dst=some 6/\o2.guard=none)
  (h3:o3.op= .binOp .neq ty (.tmp 6) (.const .nilIface) ty'/\o3.dst=some 7/\o3.guard=none):DefN P g:=by
 refine ⟨⟨fn,hf,by rw[hb];rfl,hn⟩,fun vs w=> ?_⟩;refine callsD_of_wpS hf hb fun c₀ cs hu0=> ?_;obtain ⟨h01,h02,h03⟩:=h0;obtain ⟨h11,h12,h13⟩:=h1;obtain ⟨h21,h22,h23⟩:=h2;obtain ⟨h31,h32,h33⟩:=h3;have hsize:∀v:Array Value,8<=(v++yOK (fn.ntmps - v.size) undef).size:=by intro v;simp;omega
 have hs0:=hsize vs;generalize vs++yOK (fn.ntmps - vs.size) undef=tm at hs0;have hrec:recoverD (c₀::cs)=none:=by simp[recoverD,hu0]
 refine wpS_seq (wpS_region ?_);have e:List.range (#[o0,o1]:Array Oper).size= [0,1]:=rfl;have e':List.range (#[o2,o3]:Array Oper).size= [0,1]:=rfl;rw[e];have w0:∀tm,Region.wanted o0 (yielded #[o0,o1] tm)=true:=fun tm=>by simp[Region.wanted,h03]
 have w1:∀tm,Region.wanted o1 (yielded #[o0,o1] tm)=true:=fun tm=>by simp[Region.wanted,h13]
 have w2:∀tm,Region.wanted o2 (yielded #[o2,o3] tm)=true:=fun tm=>by simp[Region.wanted,h23]
 have w3:∀tm,Region.wanted o3 (yielded #[o2,o3] tm)=true:=fun tm=>by simp[Region.wanted,h33]
 have r0:∀ρ,(execOp ρ o0).run P w= .ok .recover w:=fun ρ=>zTA h01;have r1:∀ρ,(execOp ρ o1).run P w= .ok (.value (ρ (.tmp 5))) w:=fun ρ=>by unfold execOp;rw[h11];rfl
 have r2:∀ρ,(execOp ρ o2).run P w= .ok (.value (ρ (.tmp 2))) w:=fun ρ=>by unfold execOp;rw[h21];rfl
 simp only[Go.wpOpsS,yOL,yOM,yON,w0,w1,if_true,r0,r1,hrec,h02,h12];have p5:({tmps:=tm,defers:=[]}:Act).put (some 5) Value.nilIface={tmps:=tm.setIfInBounds 5 .nilIface,defers:=[]}:=rfl;have v5:(tm.setIfInBounds 5 Value.nilIface).getD 5 undef= .nilIface:=by simp[yOO,yOP (show 5 < tm.size by omega)]
 have ev5:(({tmps:=tm,defers:=[]}:Act).put (some 5) Value.nilIface).eval (.tmp 5)= .nilIface:=v5;simp only[Oper.upon,h12,ev5,Exit.thenS];refine wpS_seq (wpS_region ?_);rw[e'];simp only[Go.wpOpsS,yOL,yOM,yON,w2,w3,if_true,r2,Oper.upon,h22];have putev:∀(a:Act) (i:Nat) (v:Value),i < a.tmps.size->(a.put (some i) v).eval (.tmp i)=v:=fun a i v h=>by
  show (a.tmps.setIfInBounds i v).getD i undef=v
  simp[yOO,yOP h]
 have putsz:∀(a:Act) (i:Nat) (v:Value),(a.put (some i) v).tmps.size=a.tmps.size:=fun a i v=>by
  show (a.tmps.setIfInBounds i v).size=_
  simp
 have putdf:∀(a:Act) (i:Nat) (v:Value),(a.put (some i) v).defers=a.defers:=fun a i v=>rfl;generalize hA1:({tmps:=tm,defers:=[]}:Act).put (some 5) Value.nilIface=A1 at*;have s1:A1.tmps.size=tm.size:=by rw[<-hA1,putsz]
 have e2:(A1.put (some 2) Value.nilIface).eval (.tmp 2)= .nilIface:=putev _ _ _ (by omega);rw[e2];generalize hA2:A1.put (some 2) Value.nilIface=A2 at*;have s2:A2.tmps.size=tm.size:=by rw[<-hA2,putsz,s1]
 have e6:(A2.put (some 6) Value.nilIface).eval (.tmp 6)= .nilIface:=putev _ _ _ (by omega);generalize hA3:A2.put (some 6) Value.nilIface=A3 at*;have s3:A3.tmps.size=tm.size:=by rw[<-hA3,putsz,s2]
 have r3:=zTN (P:=P) (w:=w) hu h31 (ρ:=A3.eval) e6 rfl;rw[r3];simp only[h32];refine wpS_cond (t:=false) (putev _ _ _ (by omega)) ?_;refine wpS_of_wp (wp_skip ?_);have hd:(A3.put (some 7) (Value.bool false)).defers= []:=by rw[putdf,<-hA3,putdf,<-hA2,putdf,<-hA1,putdf]
 refine ⟨hd,.returning,by rw[<-hu0],.tuple #[],?_,⟨_,rfl⟩,rfl,rfl⟩;unfold results;rw[hr];simp
theorem n119:DefN Pg 119:=by
 have hf:Pg.funcs[119]?=some Go.Proofs.Tryz.f119:=by kernel_rfl
 have hu:Pg.underlying 20=some (.interface (match Pg.underlying 20 with | some (.interface m)=>m | _=>default)):=by kernel_rfl
 exact zUX hf rfl rfl (by decide) rfl hu ⟨rfl,rfl,rfl⟩ ⟨rfl,rfl,rfl⟩ ⟨rfl,rfl,rfl⟩ ⟨rfl,rfl,rfl⟩
def a5r:AC:= .region [⟨some 16,.build [.int .i64 0,.int .i64 0,.int .i64 0,.sl 4 [] .nil] [],none⟩,⟨none,.store 4 (.t 0) (.t 16),none⟩,⟨none,.store 1 (.t 1) (.c (.bool false)),none⟩] none
theorem r119 {D:Nat} {c2 c3:List AV} (h2:c2.length=4) (h3:c3.length=1):DefL Pg Gl pvB (D+1) 119 [.ptr D 2 1 0,.ptr D 3 1 0] [(D,2,(1,.cells c2)),(D,3,(1,.cells c3))] [(D,2,(1,.cells [.int .i64 0,.int .i64 0,.int .i64 0,.sl 4 [] .tip])),(D,3,(1,.cells [.bool false]))]:=by
 have hf:Pg.funcs[119]?=some Go.Proofs.Tryz.f119:=by kernel_rfl
 have hu:Pg.underlying 20=some (.interface (match Pg.underlying 20 with | some (.interface m)=>m | _=>default)):=by kernel_rfl
 have hul:Pg.underlying 160=some (.struct #[]):=by kernel_rfl
 refine zUY (L:=Lx) (a5:=a5r) zF hf rfl rfl rfl rfl rfl hu hul (by simp) ⟨rfl,rfl,rfl⟩ ⟨rfl,rfl,rfl⟩ ⟨rfl,rfl,rfl⟩ ?_ ?_ ?_ ?_ ?_ ?_ fun S τ ω hS t0 t1=> ?_
 ·kernel_rfl
 ·kernel_rfl
 ·kernel_rfl
 ·kernel_rfl
 ·kernel_rfl
 ·kernel_rfl
 obtain ⟨⟨_,k2⟩,⟨_,k3⟩⟩:=hM2 hS;simp only at k2 k3
 match c2,h2 with
 | [x0,x1,x2,x3],_=>match c3,h3 with
  | [y],_=>
   unfold a5r;have hu3:∀e,updS S D 2 e D 3=S D 3:=fun e=>by unfold updS;rw[yRN];rintro ⟨_,e2⟩;cases e2
   simp[t0,t1,k2,k3,hu3,upds]
theorem zIU {f n:Nat} {l0 t g caps rs l1 l2 acr} {o:AOper} (hc:cD Pg f=some (n,(l0,t,g,caps,.seq (.region (l1++o::l2) none) acr),rs)) (hge:pI Pg g) (htn:t < n) (cv:List AV) {args:List AV} {M dl:List (Nat×Nat×Ent)} {r:AV} {D:Nat} (hl:Nat.ble args.length n=true)
  (h:∀S,(∀m∈M,m.1 < D/\S m.1 m.2.1=m.2.2)->Rd (Loc Pg Gl) .im (fun s=>(caps.map fun x=>(s.ev x).strip)=cv/\Rd (Loc Pg Gl) .im (zQH Pg Gl pvB g cv rs o D S r dl) [.c (.seq (.region [⟨some t,.mkfn g caps,none⟩] none) (.region l1 none))] s) [.c (.region l0 none)] (stF n D (vH 0 args) (fun _=>(0,.dead)) S)):Loc Pg Gl D f args M r dl:=by
 unfold cD at hc;split at hc
 ·rename_i fn hfn;split at hc
  ·cases hc
  ·rename_i hname;split at hc
   ·rename_i b hb;split at hc
    ·rename_i x rs' h1 h2;injection hc with hc;simp only[Prod.mk.injEq] at hc;obtain ⟨rfl,rfl,rfl⟩:=hc;refine iA (L:=Lx) (pv:=pvB) zF rfl hfn hb (by simpa using hname) h1 h2 htn hge cv fun S hS=> ?_;rw[wG _ _ _ _ (yOJ hl)];exact h S hS
    ·cases hc
   ·cases hc
 ·cases hc
theorem yKY {d i g D:Nat} {f:FuncId} {args:List AV} {left left':Int} {M0:List (Nat×Nat×Ent)} {r:AV} (h:LB d i g D f args (Bd d i g left::M0) r [Bd d i g left']) (h0:0<=left) (hd:∀m∈M0,¬(m.1=d/\m.2.1=i)):(0<=left'->Go.Ab.Loc Pg Gl D f args (Bd d i g left::M0) r [Bd d i g left'])/\(left' < 0->LocP Pg Gl pvB D f args (Bd d i g left::M0) [Bd d i g (-1)]):=by
 rcases h with ⟨_,h1,_⟩ | ⟨_,n,n',hm,hdl,_,k2,k3⟩
 ·exact absurd rfl (h1 _ (yOC ..))
 ·have e':left'=n':=by
   have:=(List.cons.inj hdl).1;exact (cB d i g).inj _ _ (Prod.mk.inj (Prod.mk.inj (Prod.mk.inj this).2).2).2
  have e:left=n:=by
   rcases yOD.1 hm with hm | hm
   ·exact ((cB d i g).inj _ _ (Prod.mk.inj (Prod.mk.inj (Prod.mk.inj hm).2).2).2).symm
   ·exact absurd ⟨rfl,rfl⟩ (hd _ hm)
  subst e;subst e';exact ⟨k2 h0,k3 h0⟩
def zDJ (A:Fm) (c:Nat):AV:=if c<=2000 then .tup [encM A,.bool true] else .tup [encM (.mk 0 0 0 []),.bool false]
theorem zPK {D:Nat} {F:FuncId} {caps:List AV} {M0:List (Nat×Nat×Ent)} (hF:F≠yid) (hcaps:caps.map AV.strip=caps) (hM0:∀m∈M0,m.1 < D) {A:Fm} {c:Nat}
  (hcall:LB D 7 1 (D+1) F (.ptr D 7 1 0::caps) (Bd D 7 1 2000::M0) (encM A) [Bd D 7 1 (cl 2000 c)]):Go.Ab.Loc Pg Gl D 74 [.fn F caps] M0 (zDJ A c) []:=by
 obtain ⟨hk1,hk2⟩:=yKY hcall (by omega) (fun m hm e=>by have:=hM0 m hm;omega);have hbd:∀(τ ω) (S:Nat->Nat->Ent),(∀m∈M0,m.1 < D/\S m.1 m.2.1=m.2.2)->ω 7=(1,.cells [.int .i64 2000])->∀m∈Bd D 7 1 2000::M0,m.1<=D/\(m.1=D->m.2.1 < 9)/\(stF 9 D τ ω S).look m.1 m.2.1=m.2.2:=by
  intro τ ω S hS h7 m hm;rcases yOD.1 hm with rfl | hm
  ·refine ⟨Nat.le_refl _,fun _=>show 7 < 9 by omega,?_⟩;rw[yD,yRO rfl,yRO (show 7 < 9 by omega)];exact h7
  ·have h1:=hM0 m hm;refine ⟨yOF h1,fun e=>absurd e (yOE h1),?_⟩;rw[yD,yRN (yOE h1)];exact (hS m hm).2
 unfold zDJ;by_cases hc:c<=2000
 ·rw[yRO hc];have hcall:=hk1 (by unfold cl;omega);refine zTP d74 n119 (by decide) rfl fun S hS=> ?_;unfold l74 a74;rw[zA] at hcall|-;simp;refine zZ (cap:=caps) hcall (by simp) (by simp[hcaps]) (hbd _ _ S hS (by simp[xL])) (by simp) ?_ hF;simp[upds]
 ·rw[yRN hc];have hcall:=hk2 (by unfold cl;omega);refine zIU (l1:=[⟨some 5,.mov false (.t 0),none⟩,⟨some 6,.build [.int .i64 0] [(0,(1,.c (.int .i64 2000)))],none⟩,⟨some 7,.box 1 (.t 6),none⟩]) (o:=⟨some 8,.callv (.t 5) [.t 7],none⟩) (l2:=[⟨none,.store 4 (.t 2) (.t 8),none⟩,⟨none,.store 1 (.t 3) (.c (.bool true)),none⟩]) (acr:= .ret) d74 n119.1 (by decide) [.ptr D 2 1 0,.ptr D 3 1 0] rfl fun S hS=> ?_;unfold l74;simp;generalize hω:(upd (upd (upd (fun x=>((0,Ob.dead):Ent)) 2 (1,Ob.cells [AV.int IntKind.i64 0,AV.int IntKind.i64 0,AV.int IntKind.i64 0,AV.sl 4 [] Tip.tip])) 3 (1,Ob.cells [AV.bool false])) 7 (1,Ob.cells [AV.int IntKind.i64 2000]))=ω;generalize hτ:(upd (upd (upd (upd (upd (upd (upd (fun x=>ud) 0 (AV.fn F caps)) 2 (AV.ptr D 2 1 0)) 3 (AV.ptr D 3 1 0)) 4 (AV.fn 119 [AV.ptr D 2 1 0,AV.ptr D 3 1 0])) 5 (AV.fn F caps)) 6 (AV.agg [AV.int IntKind.i64 2000])) 7 (AV.ptr D 7 1 0))=τ
  have t2:τ 2= .ptr D 2 1 0:=by rw[<-hτ];simp[xL]
  have t3:τ 3= .ptr D 3 1 0:=by rw[<-hτ];simp[xL]
  have t5:τ 5= .fn F caps:=by rw[<-hτ];simp[xL]
  have t7:τ 7= .ptr D 7 1 0:=by rw[<-hτ];simp[xL]
  have w2:ω 2=(1,Ob.cells [AV.int IntKind.i64 0,AV.int IntKind.i64 0,AV.int IntKind.i64 0,AV.sl 4 [] Tip.tip]):=by rw[<-hω];simp[xL]
  have w3:ω 3=(1,Ob.cells [AV.bool false]):=by rw[<-hω];simp[xL]
  have w7:ω 7=(1,Ob.cells [AV.int IntKind.i64 2000]):=by rw[<-hω];simp[xL]
  have hargs:(([.t 7]:List Opd).map fun x=>((stF 9 D τ ω S).ev x).strip)++caps.map AV.strip= .ptr D 7 1 0::caps:=by simp[hcaps,bF,t7]
  have hX: [Bd D 7 1 (-1)].foldl St.up (stF 9 D τ ω S)=stF 9 D τ (upd ω 7 (1,.cells [.int .i64 (-1)])) S:=by
   rw[List.foldl_cons,List.foldl_nil,pQ,yRO rfl]
  refine ⟨rfl,rfl,[Bd D 7 1 (-1)],_,.callv (M:=Bd D 7 1 2000::M0) (dl:=[]) (r:=ud) hF (f:=F) (cap:=caps) (by simp[bF,t5]) ?_ (hbd τ ω S hS w7) (by simp),_,_,r119 (c2:=[AV.int IntKind.i64 0,AV.int IntKind.i64 0,AV.int IntKind.i64 0,AV.sl 4 [] Tip.tip]) (c3:=[AV.bool false]) rfl rfl,?_,?_,?_,?_⟩
  ·rw[hargs];exact ⟨rfl,rfl,by simp,hcall⟩
  ·rw[hX];intro m hm;simp only[yOD,yOI,or_false] at hm;rcases hm with rfl | rfl
   ·simp[xL,w2]
   ·simp[xL,w3]
  ·simp
  ·rw[hX,zG];simp[t2,t3,w2,w3]
  ·rw[hX];intro d i hd;simp[upds]
end Go.Ab.Tab
/- Every,Always,Possible: whether or not what they build fits. -/
namespace Go.Ab.Tab
open Go Go.Ab
def isFm (f:Fu) (a:Fm):Bool:=valM f 0 none false a&&decide (zK a<=2000)&&decide (y5 a<=100)
theorem zPJ (D:Nat) (f:Fu) (hf:zH f=true) (a:Fm):Go.Ab.Loc Pg Gl D 77 [encF f,encM a] [] (.bool (isFm f a)) []:=by
 refine zP zF tok rfl rfl fun S=> ?_;have e:isFm f a=(ckM f 0 none true 1 a 2000).1:=by
  rw[(zKA f 0 a none true 1 2000 (by omega)).1,isFm];have e1:decide ((zK a:Int)<=2000)=decide (zK a<=2000):=decide_eq_decide.2 (by omega);have e2:decide (1+y5 a<=101)=decide (y5 a<=100):=decide_eq_decide.2 (by omega);rw[e1,e2];rfl
 rw[e];unfold c77;simp[zB f,zA a];refine zR ((zGL f hf 0 D 6 1 a).1 (D+1) 1 true 2000 (by omega) (by omega) (by omega)) (by simp[zB f,zA a]) (by simp) (by simp) ?_;simp
def nO (f:Fu) (a:Fm):Int:=if isF f then (if isFm f a then 0 else 70) else 10
theorem zPP (D:Nat) (f:Fu) (hf:fitF f) (a:Fm):Go.Ab.Loc Pg Gl D 57 [encF f,encM a] [] (.int .i64 (nO f a)) []:=by
 refine zP zF tok rfl rfl fun S=> ?_;unfold c57 nO;simp[zB f,zA a];refine zE (bL f hf (D+1)) (by simp[zB f]) ?_;cases h:isF f
 ·simp
 ·simp;refine zE (zPJ (D+1) f (wV h) a) (by simp[zB f,zA a]) ?_;cases isFm f a<;>simp
theorem zJD:∀a:Fm,zK a<=maxLen->fitM a:=by
 refine Fm.ind' fun o n m ar ih h=> ?_;rw[zK] at h;have:=vN ar;rw[fitM];refine ⟨by omega,?_⟩;have:∀l:List Fm,(∀b∈l,fitM b)->iC l:=by
  intro l
  induction l with
  | nil=>intro _;rw[iC];trivial
  | cons b l ihl=>intro h;rw[iC];exact ⟨h b (by simp),ihl fun c hc=>h c (by simp[hc])⟩
 exact this ar fun b hb=>ih b hb (by have:=rW hb;omega)
def jY (f:Fu) (x:Eqn):AV:=if isL f [x] then .tup [.sl 5 [encE x] .no,.int .i64 0] else .tup [.sl 5 [] .no,.int .i64 2]
theorem zBV (f:Fu) (vars:Int):∀(a:Fm) (md:Option Fu) (odd:Bool),valM f vars md odd a=true->uK (fun n=>0<=n/\n < vars) a:=by
 refine Fm.ind' fun o n m ar ih md odd h=> ?_;have hs:∀(md:Option Fu) (odd:Bool),y6 f vars md odd ar=true->vD (fun n=>0<=n/\n < vars) ar:=by
  intro md odd h;rw[wZ,List.all_eq_true] at h;have:∀l:List Fm,(∀b∈l,b∈ar)->vD (fun n=>0<=n/\n < vars) l:=by
   intro l
   induction l with
   | nil=>intro _;rw[vD];trivial
   | cons b l ihl=>intro hl;rw[vD];exact ⟨ih b (hl b (by simp)) md odd (h b (hl b (by simp))),ihl fun c hc=>hl c (by simp[hc])⟩
  exact this ar fun _ h=>h
 have nil:ar.isEmpty=true->vD (fun n=>0<=n/\n < vars) ar:=fun h=>by
  rw[List.isEmpty_iff.1 h];rw[vD];trivial
 rw[y9] at h;rw[uK];by_cases h0:o=0
 ·subst h0;rw[yRO rfl] at h;simp only[yOB] at h;rw[yRN (by omega)];exact nil h.1.1
 rw[yRN h0] at h;by_cases h1:o=1
 ·subst h1;rw[yRO rfl] at h;simp only[yOB] at h;rw[yRN (by omega)];exact hs _ _ h.2
 rw[yRN h1] at h;by_cases h2:o=2
 ·subst h2;rw[yRO rfl] at h;simp only[yOB] at h;rw[yRN (by omega)];exact hs _ _ h.2
 rw[yRN h2] at h;cases md with
 | none=>
  simp only at h;by_cases h3:o=3
  ·subst h3;rw[yRO rfl] at h;simp only[yOB] at h;rw[yRN (by omega)];exact hs _ _ h.2
  rw[yRN h3] at h;by_cases h4:o=14
  ·subst h4;rw[yRO rfl] at h|-;simp only[yOB,yRP] at h;exact ⟨h.1.1.2,h.1.2⟩
  ·rw[yRN h4] at h;cases h
 | some g=>
  simp only at h;by_cases k0:g.k=0
  ·rw[yRO k0] at h;simp only[yOB,yRP] at h;rw[yRN (by omega)];exact hs _ _ h.2
  rw[yRN k0] at h;by_cases k1:g.k=1
  ·rw[yRO k1] at h;simp only[yOB,yRP] at h;rw[yRN (by omega)];exact nil h.2
  rw[yRN k1] at h;simp only[yOB,yRP] at h;have ho:¬o=14:=by
   rintro rfl;have:=h.1.1;simp[inOk] at this
  rw[yRN ho];exact hs _ _ h.2
theorem zEI {P Q:Int->Prop} (h:∀n,P n->Q n):∀a:Fm,uK P a->uK Q a:=by
 refine Fm.ind' fun o n m ar ih=> ?_;rw[uK,uK];split
 ·exact h n
 ·have:∀l:List Fm,(∀b∈l,b∈ar)->vD P l->vD Q l:=by
   intro l
   induction l with
   | nil=>intro _ _;rw[vD];trivial
   | cons b l ihl=>intro hl;rw[vD,vD];exact fun q=>⟨ih b (hl b (by simp)) q.1,ihl (fun c hc=>hl c (by simp[hc])) q.2⟩
  exact this ar fun _ h=>h
theorem hJ {P:Int->Prop} {φ:Int->Fm} {c:Int->Nat} (h:∀n,P n->c n=zK (φ n)):∀a:Fm,uK P a->jJ c a=zK (subM φ a):=by
 refine Fm.ind' fun o n m ar ih=> ?_;rw[uK,jJ,subM];split
 ·exact h n
 ·have:∀l:List Fm,(∀b∈l,b∈ar)->vD P l->mJ c l=zO (sU φ l):=by
   intro l
   induction l with
   | nil=>intro _ _;rw[mJ,sU,zO]
   | cons b l ihl=>intro hl q;rw[vD] at q;rw[mJ,sU,zO,ih b (hl b (by simp)) q.1,ihl (fun c hc=>hl c (by simp[hc])) q.2]
  intro q;rw[zK,this ar (fun _ h=>h) q]
theorem zRC {φ:Int->Fm}:∀a:Fm,uK (fun _=>False) a->subM φ a=a:=by
 refine Fm.ind' fun o n m ar ih=> ?_;rw[uK,subM];split
 ·exact False.elim
 ·have:∀l:List Fm,(∀b∈l,b∈ar)->vD (fun _=>False) l->sU φ l=l:=by
   intro l
   induction l with
   | nil=>intro _ _;rw[sU]
   | cons b l ihl=>intro hl q;rw[vD] at q;rw[sU,ih b (hl b (by simp)) q.1,ihl (fun c hc=>hl c (by simp[hc])) q.2]
  intro q;rw[this ar (fun _ h=>h) q]
theorem yCZ {a:Fm} (h:uK (fun _=>False) a):gvM a=a/\gvC a=zK a:=by
 have h1:gvM a=a:=zRC a h;refine ⟨h1,?_⟩;have h2:gvC a=zK (gvM a):=hJ (P:=fun _=>False) (fun n hn=>hn.elim) a h;rw[h2,h1]
theorem dH (e:Fm):∀(j i:Nat) (out:Fm),zK (expM e out i j)=zK out+j*(2+zK e)
 | 0,i,out=>by rw[expM];simp
 | j+1,i,out=>by rw[expM,dH e j,Nat.succ_mul];simp only[zK,zO];omega
theorem zCV (A:Fm):∀f:Fu,zH f=true->zK (evM A f)=evC (zK A) f:=by
 refine Fu.ind' fun k n gs ih hf=> ?_;have hgs:∀a∈gs,zH a=true:=by
  intro a ha;have:=hf;rw[zH] at this;simp only[yOB] at this;have hh:∀{l:List Fu},xI l=true->∀a∈l,zH a=true:=by
   intro l
   induction l with
   | nil=>intro _ a ha;cases ha
   | cons f l ihl=>
    intro h a ha;rw[xI,yOB] at h;rcases yOD.1 ha with rfl | ha
    ·exact h.1
    ·exact ihl h.2 a ha
  exact hh this.2.2.2 a ha
 have two:∀x y,gs= [x,y]->zK ((evMs A gs).getD 0 A)=(evCs (zK A) gs).getD 0 0/\zK ((evMs A gs).getD 1 A)=(evCs (zK A) gs).getD 1 0:=by
  rintro x y rfl;exact ⟨by simp[evMs,evCs,ih x (by simp) (hgs x (by simp))],by simp[evMs,evCs,ih y (by simp) (hgs y (by simp))]⟩
 have one:∀x,gs= [x]->zK ((evMs A gs).getD 0 A)=(evCs (zK A) gs).getD 0 0:=by
  rintro x rfl;simp[evMs,evCs,ih x (by simp) (hgs x (by simp))]
 rw[evM,evC];by_cases k0:k=0
 ·rw[yRO k0,yRO k0];simp only[zK,zO];omega
 rw[yRN k0,yRN k0];by_cases k1:k=1
 ·rw[yRO k1,yRO k1];simp only[zK,zO]
 rw[yRN k1,yRN k1];by_cases k2:k=2
 ·rw[yRO k2,yRO k2];obtain ⟨x,y,e⟩:=sR hf (.inl k2);obtain ⟨e1,e2⟩:=two x y e;simp only[zK,zO,e1,e2];omega
 rw[yRN k2,yRN k2];by_cases k3:k=3
 ·rw[yRO k3,yRO k3];obtain ⟨x,y,e⟩:=sR hf (.inr k3);obtain ⟨e1,e2⟩:=two x y e;simp only[notM,zK,zO,e1,e2];omega
 rw[yRN k3,yRN k3];have hk:k=4\/k=5\/k=6\/k=7:=by
  have:=hf;rw[zH] at this;simp only[yOB,yRP] at this;have h1:=this.1;unfold arK at h1;repeat (split at h1<;>try omega)
 obtain ⟨x,e⟩:=uH hf hk;have e1:=one x e;by_cases k4:k=4
 ·rw[yRO k4,yRO k4,dH,e1];simp only[zK,zO,e1];omega
 rw[yRN k4,yRN k4];by_cases k5:k=5
 ·rw[yRO k5,yRO k5];simp only[notM,zK,zO,e1];omega
 rw[yRN k5,yRN k5];by_cases k6:k=6
 ·rw[yRO k6,yRO k6];simp only[notM,zK,zO,e1];omega
 rw[yRN k6,yRN k6];simp only[zK,zO,e1];omega
theorem zTZ {f:Fu} {gr:Bool} {A:Fm} (h:2000 < zK A):isL f [⟨gr,A⟩]=false:=by
 unfold isL okE;have:decide (zK A<=2000)=false:=decide_eq_false (by omega);simp[this]
theorem zPO {D:Nat} (f:Fu) (hf:zH f=true) (gr:Bool) {F:FuncId} {caps:List AV} {M0:List (Nat×Nat×Ent)} (hF:F≠yid) (hcaps:caps.map AV.strip=caps) (hM0:∀m∈M0,m.1 < D) {A:Fm} {c:Nat} (hA:zK A=c)
  (hcall:LB (D+1) 7 1 (D+2) F (.ptr (D+1) 7 1 0::caps) (Bd (D+1) 7 1 2000::M0) (encM A) [Bd (D+1) 7 1 (cl 2000 c)]):
  Go.Ab.Loc Pg Gl D 58 [encF f,.bool gr,.fn F caps] M0 (jY f ⟨gr,A⟩) []:=by
 refine yH zF tok rfl rfl fun S hS=> ?_;have h74:=zPK (D:=D+1) hF hcaps (fun m hm=>by have:=hM0 m hm;omega) hcall;unfold zDJ at h74;have hmem:∀τ ω,∀m∈M0,m.1<=D/\(m.1=D->m.2.1 < 29)/\(stF 29 D τ ω S).look m.1 m.2.1=m.2.2:=by
  intro τ ω m hm;have h1:=hM0 m hm;refine ⟨yOF h1,fun e=>absurd e (yOE h1),?_⟩;rw[yD,yRN (yOE h1)];exact (hS m hm).2
 unfold c58 jY;by_cases hc:c<=2000
 ·rw[yRO hc] at h74;have h92:=zGO (D+1) f hf [⟨gr,A⟩] ⟨by simp[maxLen],fun x hx=>by rw[yOH] at hx;subst hx;exact zJD A (by show zK A<=_;unfold maxLen;omega)⟩;simp[encL,encE] at h92;rw[zA] at h74;simp[zB f];refine zR h74 (by simp[hcaps]) (hmem _ _) (by simp) ?_;simp;refine zE h92 (by simp[zB f]) ?_;cases isL f [⟨gr,A⟩]<;>simp[upds,encE]
 ·rw[yRN hc] at h74;rw[zTZ (f:=f) (gr:=gr) (A:=A) (by omega)];rw[zG] at h74;simp[zB f];refine zR h74 (by simp[hcaps]) (hmem _ _) (by simp) ?_;simp[upds]
theorem yDG {f:Fu} {a:Fm} (h0:nO f a=0):isF f=true/\isFm f a=true:=by
 unfold nO at h0;cases h1:isF f with
 | false=>rw[h1] at h0;simp at h0
 | true=>
  refine ⟨rfl,?_⟩;cases h2:isFm f a with
  | false=>rw[h1,h2] at h0;simp at h0
  | true=>rfl
theorem zIZ {f:Fu} {a:Fm} (h:isFm f a=true):uK (fun _=>False) a/\zK a<=2000:=by
 unfold isFm at h;simp only[yOB,yRP] at h;exact ⟨zEI (fun n hn=>by omega) a (zBV f 0 a _ _ h.1.1),h.1.2⟩
def zAK (f:Fu) (a:Fm):AV:=if nO f a=0 then jY f ⟨true,alwM a f⟩ else .tup [.sl 5 [] .no,.int .i64 (nO f a)]
def zTE (f:Fu) (a:Fm):AV:=if nO f a=0 then jY f ⟨false,posM a f⟩ else .tup [.sl 5 [] .no,.int .i64 (nO f a)]
theorem iH (f:Fu) (x:Eqn):∃e1:List AV,∃e2:Int,jY f x= .tup [.sl 5 e1 .no,.int .i64 e2]:=by
 unfold jY;split
 ·exact ⟨_,_,rfl⟩
 ·exact ⟨_,_,rfl⟩
theorem yBI (D:Nat) (f:Fu) (hf:fitF f) (a:Fm):Go.Ab.Loc Pg Gl D 20 [encF f,encM a] [] (zAK f a) []:=by
 refine yH zF tok rfl rfl fun S hS=> ?_;have h57:=zPP (D+1) f hf a;unfold c20 zAK;by_cases h0:nO f a=0
 ·rw[yRO h0];rw[h0] at h57;obtain ⟨g1,g2⟩:=yDG h0;obtain ⟨hv,hn⟩:=zIZ g2;have hfs:=wV g1;have h59:=yAS (D:=D+1+2) (d:=D+1+1) (i:=7) (g:=1) (dA:=D) (by omega) (by omega) a (by omega) hv f hfs (left:=2000) (by unfold Bg;omega);simp only[r7] at h59;have hA:zK (alwM a f)=gvC a+evC 1 f+1+1:=by
   obtain ⟨e1,e2⟩:=yCZ hv;have:=zCV varM f hfs;unfold alwM;rw[e1,e2];simp only[zK,zO,this];have:zK varM=1:=by simp[varM,zK,zO]
   rw[this];omega
  have h58:=zPO (D:=D+1) f hfs true (F:=59) (caps:=[.ptr D 3 1 0,.ptr D 2 1 0]) (M0:=[(D,3,(1,.cells (oQ a))),(D,2,(1,.cells (sT f)))]) (by decide) rfl (by simp) hA h59;obtain ⟨e1,e2,hsr⟩:=iH f ⟨true,alwM a f⟩;rw[hsr] at h58|-;simp[zB f,zA a];refine zE h57 (by simp[zB f,zA a]) ?_;simp;refine zR h58 (by simp[zB f]) (by simp[oQ,sT]) (by simp) ?_;simp[upds]
 ·rw[yRN h0];have hd:decide (nO f a=0)=false:=decide_eq_false h0;simp[zB f,zA a];refine zE h57 (by simp[zB f,zA a]) ?_;simp[hd,upds]
theorem yBH (D:Nat) (f:Fu) (hf:fitF f) (a:Fm):Go.Ab.Loc Pg Gl D 21 [encF f,encM a] [] (zTE f a) []:=by
 refine yH zF tok rfl rfl fun S hS=> ?_;have h57:=zPP (D+1) f hf a;unfold c21 zTE;by_cases h0:nO f a=0
 ·rw[yRO h0];rw[h0] at h57;obtain ⟨g1,g2⟩:=yDG h0;obtain ⟨hv,hn⟩:=zIZ g2;have hfs:=wV g1;have h64:=yAR (D:=D+1+2) (d:=D+1+1) (i:=7) (g:=1) (dA:=D) (by omega) (by omega) a (by omega) hv f hfs (left:=2000) (by unfold Bg;omega);simp only[r7] at h64;have hA:zK (posM a f)=gvC a+1+evC 2 f+1+1+1:=by
   obtain ⟨e1,e2⟩:=yCZ hv;have:=zCV (notM varM) f hfs;unfold posM;rw[e1,e2];have e3:zK (notM varM)=2:=by simp[notM,varM,zK,zO]
   rw[e3] at this;simp only[notM,zK,zO] at this|-;rw[this];omega
  have h58:=zPO (D:=D+1) f hfs false (F:=64) (caps:=[.ptr D 3 1 0,.ptr D 2 1 0]) (M0:=[(D,3,(1,.cells (oQ a))),(D,2,(1,.cells (sT f)))]) (by decide) rfl (by simp) hA h64;obtain ⟨e1,e2,hsr⟩:=iH f ⟨false,posM a f⟩;rw[hsr] at h58|-;simp[zB f,zA a];refine zE h57 (by simp[zB f,zA a]) ?_;simp;refine zR h58 (by simp[zB f]) (by simp[oQ,sT]) (by simp) ?_;simp[upds]
 ·rw[yRN h0];have hd:decide (nO f a=0)=false:=decide_eq_false h0;simp[zB f,zA a];refine zE h57 (by simp[zB f,zA a]) ?_;simp[hd,upds]
theorem zNE {f:Fu} {A:Fm} (h:2000 < zK A):isFm f A=false:=by
 unfold isFm;have:decide (zK A<=2000)=false:=decide_eq_false (by omega);simp[this]
def oS (f:Fu) (l:List Eqn):Int:=if isF f then (if isL f l then 0 else 90) else 10
theorem zPH (D:Nat) (f:Fu) (hf:fitF f) (l:List Eqn) (hl:fitL l):Go.Ab.Loc Pg Gl D 87 [encF f,encL l] [] (.int .i64 (oS f l)) []:=by
 refine zP zF tok rfl rfl fun S=> ?_;unfold c87 oS;simp[zB f,encL];refine zE (bL f hf (D+1)) (by simp[zB f]) ?_;cases h:isF f
 ·simp
 ·simp;refine zE (zGO (D+1) f (wV h) l hl) (by simp[zB f,encL]) ?_;cases isL f l<;>simp
theorem zRT (D:Nat) (f:Fu) (hf:fitF f) (l:List Eqn) (hl:fitL l) (h0:oS f l≠0):Go.Ab.Loc Pg Gl D 34 [encF f,encL l] [] (.tup [.sl 5 [] .no,.int .i64 (oS f l)]) []:=by
 refine zP zF tok rfl rfl fun S=> ?_;have hd:decide (oS f l=0)=false:=decide_eq_false h0;unfold c34;simp[zB f,encL];refine zE (zPH (D+1) f hf l hl) (by simp[zB f,encL]) ?_;simp[hd]
theorem zGP (D:Nat) (o n m:Int) (ar:List Fm):Go.Ab.Loc Pg Gl D 81 [.int .i64 o,.int .i64 n,.int .i64 m,.sl 4 (ar.map encM) .no] [] (encM (.mk o n m ar)) []:=by
 refine zP zF tok rfl rfl fun S=> ?_;rw[zG];unfold c81;simp
end Go.Ab.Tab
