/- Values: the contract of the reference's Merged. -/
import Derived.Test.YtkjbakmlonpdjaaGreatDoorFormsD
set_option linter.unusedVariables false
set_option linter.unusedSimpArgs false
set_option maxRecDepth 10000
namespace Go.Ab.Tab
open Go Go.Ab
theorem gcdFrom_zero (l:List Int):gcdFrom 0 l=gcdW l:=rfl
end Go.Ab.Tab
/- Values: the reference's normal,wide,Normal,Is. -/
namespace Go.Ab.Tab
open Go Go.Ab
def putV (f:Fu) (v:Va) (gs:List Va):Va:=if sets f.k then mergedR f.k (.mk v.n gs v.ws) else .mk v.n gs v.ws
def okV (n:Nat) (f:Fu) (v:Va):Bool:=partsOk f v&&(numOk f n v&&weighedR f.k v)
def v0:Va:= .mk 0 [] []
theorem wOk_sum:∀{l:List Int} {s:Int},s<=1048576->wOk s l=true->(∀w∈l,1<=w)/\s+sumW l<=1048576
 | [],s,hs,_=>by simp[sumW];exact hs
 | w::l,s,hs,h=>by
  rw[wOk] at h
  simp only[Bool.and_eq_true,decide_eq_true_eq] at h
  obtain ⟨h1,h2⟩:=wOk_sum (by omega) h.2.2
  refine ⟨fun x hx=> ?_,?_⟩
  ·rcases List.mem_cons.1 hx with rfl | hx
   ·exact h.1
   ·exact h1 x hx
  ·rw[sumW];omega
theorem fitV_gs (v:Va):fitV v↔(v.gs.length<=maxLen/\v.ws.length<=maxLen)/\fitVs v.gs:=by cases v;rw[fitV];exact Iff.rfl
end Go.Ab.Tab
/- Values: the reference's wide,Normal,Is. -/
namespace Go.Ab.Tab
open Go Go.Ab
mutual
def wideV:Va->Fu->Bool
 | .mk a gs ws,f=>(sets f.k&&decide (100 < gs.length)) || wideVs gs (y4 f (.mk a gs ws))
def wideVs:List Va->List Fu->Bool
 | [],_=>false
 | v::l,[]=>false
 | v::l,f::fs=>wideV v f || wideVs l fs
end
theorem sets_k {k:Int} (h:sets k=true):k=5\/k=6\/k=7:=by
 unfold sets wtd at h
 simpa only[Bool.or_eq_true,decide_eq_true_eq] using h
end Go.Ab.Tab
/- Values in normal form: the plain law between the reference's normal and a local criterion. -/
namespace Go.Ab.Tab
open Go Go.Ab
def incr:List Va->Bool
 | []=>true
 | [_]=>true
 | a::b::l=>decide (cmpV a b < 0)&&incr (b::l)
end Go.Ab.Tab
/- Values in normal form: a value is its own normal form just if it meets a local criterion. -/
namespace Go.Ab.Tab
open Go Go.Ab
def setOk (k:Int) (v:Va):Bool:= !(sets k) || (incr v.gs&&(!(decide (k=7)) || decide (gcdW v.ws=1)))
mutual
def valN (n:Nat):Va->Fu->Bool
 | .mk a gs ws,f=>okV n f (.mk a gs ws)&&(setOk f.k (.mk a gs ws)&&valNs n gs (y4 f (.mk a gs ws)))
def valNs (n:Nat):List Va->List Fu->Bool
 | [],_=>true
 | v::l,[]=>false
 | v::l,f::fs=>valN n v f&&valNs n l fs
end
theorem valN_eta (n:Nat) (v:Va) (f:Fu):valN n v f=(okV n f v&&(setOk f.k v&&valNs n v.gs (y4 f v))):=by
 cases v;rw[valN];rfl
theorem valNs_get {n:Nat}:∀{l:List Va} {fs:List Fu},valNs n l fs=true->∀(i:Nat) (h1:i < l.length) (h2:i < fs.length),valN n l[i] fs[i]=true
 | [],_,_,i,h1,_=>absurd h1 (by simp)
 | v::l,[],h,_,_,_=>by rw[valNs] at h;cases h
 | v::l,f::fs,h,i,h1,h2=>by
  rw[valNs,Bool.and_eq_true] at h
  cases i with
  | zero=>exact h.1
  | succ i=>exact valNs_get h.2 i (by simpa using h1) (by simpa using h2)
def valV (f:Fu) (n:Nat) (v:Va):Bool:=decide (zU v<=2000)&&(valN n v f&& !(wideV v f))
end Go.Ab.Tab
/- Systems: the reference's Few and Is. -/
namespace Go.Ab.Tab
open Go Go.Ab
structure Sy where
 f:Fu
 m:List Va
def encY (s:Sy):AV:= .agg [.int .i64 s.f.k,.int .i64 s.f.n,.sl 3 (s.f.gs.map encF) .no,.sl 3 (s.m.map encV) .no]
def isY (s:Sy):Bool:=isF s.f&&(decide (s.m.length<=100)&&(s.m.all (fun v=>valV s.f s.m.length v)&&decide (zT s.m<=20000)))
end Go.Ab.Tab
/- Values: the program's order,gcd,weighed,Nodes. -/
namespace Go.Ab
open Go
section
variable {C:zM} {own:Md} {Q:St->Prop} {k:List AI} {n D:Nat} {τ:Nat->AV} {ω:Nat->Ent} {S:Nat->Nat->Ent} {l:List AOper} {d:Nat}
theorem Rd_callV {f args r args' x} (hx:(stF n D τ ω S).ev x= .fn f []) (h:C (D+1) f args' [] r []) (ha:args.map (fun x=>((stF n D τ ω S).ev x).strip)=args')
  (hk:Rd C own Q (.ops l::k) (stF n D (upd τ d r) ω S)) (hf:f≠yid:=by decide):Rd C own Q (.ops (⟨some d,.callv x args,none⟩::l)::k) (stF n D τ ω S):=by
 refine .opsCall rfl (.callv (M:=[]) (dl:=[]) (r:=r) hf hx (by rw[ha,List.map_nil,List.append_nil];exact h) (by simp) (by simp)) ?_
 simpa[z9,yD] using hk
end
end Go.Ab
namespace Go.Ab.Tab
open Go Go.Ab
theorem spec193 (D:Nat) (a b:Int):Go.Ab.Loc Pg Gl D 193 [.int .i64 a,.int .i64 b] [] (.int .i64 (ordI a b)) []:=by
 refine zW zH tok rfl rfl fun S=> ?_
 unfold c193
 unfold ordI
 by_cases h1:a < b
 ·simp[h1]
 ·by_cases h2:b < a
  ·simp[h1,h2]
  ·simp[h1,h2]
theorem ordI_eq (a:Int):ordI a a=0:=by simp[ordI]
theorem ordI_ne {a b:Int} (h:a≠b):ordI a b≠0:=fun e=>h (ordI_zero.1 e)
theorem l141 (D:Nat) (ws xs:List Int) (h1:ws.length<=maxLen) (S):∀(j i:Nat) (τ ω) (r:AV),i+j=ws.length->i<=xs.length->
  τ 0= .sl 1 (ws.map (AV.int .i64)) .no->τ 1= .sl 1 (xs.map (AV.int .i64)) .no->τ 2= .fn 193 []->τ 11= .sl 1 (ws.map (AV.int .i64)) .no->τ 12= .int .i64 ws.length->τ 13= .int .i64 i->r= .int .i64 (cmpIs (ws.drop i) (xs.drop i))->
  Rd (Loc Pg Gl) .im (RetQ [.tmp 6] r S) [.lp c197_l0,.blk 0,.c c197_k0] (stF 39 D τ ω S):=by
 intro j
 induction j with
 | zero=>
  intro i τ ω r hi hx g0 g1 g2 g11 g12 g13 hr
  refine zL c197_l0.eq_1 ?_
  obtain rfl:i=ws.length:=by omega
  rw[List.drop_length,cmpIs_nil_left,List.length_drop] at hr
  by_cases h:ws.length < xs.length
  ·have e:ordI 0 ((xs.length - ws.length:Nat):Int)= -1:=by unfold ordI;rw[if_pos (by omega)]
   rw[e] at hr
   simp[g0,g1,g2,g11,g12,g13,c197_k0,h,hr]
  ·have e:ordI 0 ((xs.length - ws.length:Nat):Int)=0:=by unfold ordI;rw[if_neg (by omega),if_neg (by omega)]
   rw[e] at hr
   simp[g0,g1,g2,g11,g12,g13,c197_k0,h,hr]
 | succ j ih=>
  intro i τ ω r hi hx g0 g1 g2 g11 g12 g13 hr
  refine zL c197_l0.eq_1 ?_
  have hlt:i < ws.length:=by omega
  have hwr:=yC hlt h1
  rw[List.drop_eq_getElem_cons hlt] at hr
  by_cases hx2:i < xs.length
  ·have hx3:¬xs.length<=i:=by omega
   rw[List.drop_eq_getElem_cons hx2,cmpIs] at hr
   simp[g0,g1,g2,g11,g12,g13,hlt,hx2,hx3]
   refine Rd_callV (by simp[g2]) (spec193 _ ws[i] xs[i]) (by simp) ?_
   by_cases he:ws[i]=xs[i]
   ·rw[if_pos he] at hr
    rw[he,ordI_eq]
    simp[g13,hwr]
    refine ih (i+1) _ _ r (by omega) (by omega) ?_ ?_ ?_ ?_ ?_ ?_ hr
    all_goals simp[g0,g1,g2,g11,g12,g13]
   ·rw[if_neg he] at hr
    have hne:=ordI_ne he
    generalize ordI ws[i] xs[i]=c at hr hne
    simp[hne,hr]
  ·obtain rfl:i=xs.length:=by omega
   rw[List.drop_length,cmpIs] at hr
   simp[g0,g1,g2,g11,g12,g13,hlt,hr]
theorem spec197 (D:Nat) (ws xs:List Int) (h1:ws.length<=maxLen):Go.Ab.Loc Pg Gl D 197 [.sl 1 (ws.map (AV.int .i64)) .no,.sl 1 (xs.map (AV.int .i64)) .no,.fn 193 []] [] (.int .i64 (cmpIs ws xs)) []:=by
 refine zW zH tok rfl rfl fun S=> ?_
 unfold c197
 generalize hr:AV.int .i64 (cmpIs ws xs)=r
 simp
 refine l141 D ws xs h1 S ws.length 0 _ _ r (by simp) (by simp) ?_ ?_ ?_ ?_ ?_ ?_ (by rw[<-hr];simp)
 all_goals simp
theorem spec195 (D:Nat) (ws xs:List Int) (h1:ws.length<=maxLen):Go.Ab.Loc Pg Gl D 195 [.sl 1 (ws.map (AV.int .i64)) .no,.sl 1 (xs.map (AV.int .i64)) .no,.fn 193 []] [] (.int .i64 (cmpIs ws xs)) []:=by
 refine zW zH tok rfl rfl fun S=> ?_
 unfold c195
 simp
 refine zE (spec197 _ ws xs h1) (by simp) ?_
 simp
theorem l140 (D:Nat) (gs hs:List Va) (h1:gs.length<=maxLen) (hrec:∀a∈gs,∀b (D:Nat),Go.Ab.Loc Pg Gl D 192 [encV a,encV b] [] (.int .i64 (cmpV a b)) []) (S):∀(j i:Nat) (τ ω) (r:AV),i+j=gs.length->i<=hs.length->
  τ 0= .sl 3 (gs.map encV) .no->τ 1= .sl 3 (hs.map encV) .no->τ 2= .fn 192 []->τ 11= .sl 3 (gs.map encV) .no->τ 12= .int .i64 gs.length->τ 13= .int .i64 i->r= .int .i64 (cmpVs (gs.drop i) (hs.drop i))->
  Rd (Loc Pg Gl) .im (RetQ [.tmp 6] r S) [.lp c196_l0,.blk 0,.c c196_k0] (stF 39 D τ ω S):=by
 intro j
 induction j with
 | zero=>
  intro i τ ω r hi hx g0 g1 g2 g11 g12 g13 hr
  refine zL c196_l0.eq_1 ?_
  obtain rfl:i=gs.length:=by omega
  rw[List.drop_length,cmpVs_nil_left,List.length_drop] at hr
  by_cases h:gs.length < hs.length
  ·have e:ordI 0 ((hs.length - gs.length:Nat):Int)= -1:=by unfold ordI;rw[if_pos (by omega)]
   rw[e] at hr
   simp[g0,g1,g2,g11,g12,g13,c196_k0,h,hr]
  ·have e:ordI 0 ((hs.length - gs.length:Nat):Int)=0:=by unfold ordI;rw[if_neg (by omega),if_neg (by omega)]
   rw[e] at hr
   simp[g0,g1,g2,g11,g12,g13,c196_k0,h,hr]
 | succ j ih=>
  intro i τ ω r hi hx g0 g1 g2 g11 g12 g13 hr
  refine zL c196_l0.eq_1 ?_
  have hlt:i < gs.length:=by omega
  have hwr:=yC hlt h1
  rw[List.drop_eq_getElem_cons hlt] at hr
  by_cases hx2:i < hs.length
  ·have hx3:¬hs.length<=i:=by omega
   rw[List.drop_eq_getElem_cons hx2,cmpVs] at hr
   simp[g0,g1,g2,g11,g12,g13,hlt,hx2,hx3,zK gs[i],zK hs[i]]
   refine Rd_callV (by simp[g2]) (hrec gs[i] (List.getElem_mem hlt) hs[i] _) (by simp[zK gs[i],zK hs[i]]) ?_
   by_cases he:cmpV gs[i] hs[i]=0
   ·rw[if_pos he] at hr
    rw[he]
    simp[g13,hwr]
    refine ih (i+1) _ _ r (by omega) (by omega) ?_ ?_ ?_ ?_ ?_ ?_ hr
    all_goals simp[g0,g1,g2,g11,g12,g13]
   ·rw[if_neg he] at hr
    generalize cmpV gs[i] hs[i]=c at hr he
    simp[he,hr]
  ·obtain rfl:i=hs.length:=by omega
   rw[List.drop_length,cmpVs] at hr
   simp[g0,g1,g2,g11,g12,g13,hlt,hr,zK gs[hs.length]]
theorem spec192:∀(u:Va),fitV u->∀(v:Va) (D:Nat),Go.Ab.Loc Pg Gl D 192 [encV u,encV v] [] (.int .i64 (cmpV u v)) []:=by
 refine Va.ind' fun n gs ws hrec=> ?_
 intro hfit v D
 rw[fitV] at hfit
 cases v with
 | mk n' hs xs=>
 have spec196:∀D,Go.Ab.Loc Pg Gl D 196 [.sl 3 (gs.map encV) .no,.sl 3 (hs.map encV) .no,.fn 192 []] [] (.int .i64 (cmpVs gs hs)) []:=by
  intro D
  refine zW zH tok rfl rfl fun S=> ?_
  unfold c196
  generalize hr:AV.int .i64 (cmpVs gs hs)=r
  simp
  refine l140 D gs hs hfit.1.1 (fun a ha b D=>hrec a ha (fitVs_mem hfit.2 a ha) b D) S gs.length 0 _ _ r (by simp) (by simp) ?_ ?_ ?_ ?_ ?_ ?_ (by rw[<-hr];simp)
  all_goals simp
 have spec194:∀D,Go.Ab.Loc Pg Gl D 194 [.sl 3 (gs.map encV) .no,.sl 3 (hs.map encV) .no,.fn 192 []] [] (.int .i64 (cmpVs gs hs)) []:=by
  intro D
  refine zW zH tok rfl rfl fun S=> ?_
  unfold c194
  simp
  refine zE (spec196 _) (by simp) ?_
  simp
 refine zW zH tok rfl rfl fun S=> ?_
 unfold c192
 generalize hr:AV.int .i64 (cmpV (.mk n gs ws) (.mk n' hs xs))=r
 rw[cmpV] at hr
 rw[zV,zV]
 simp
 refine zE (spec193 _ n n') (by simp) ?_
 by_cases h1:n=n'
 ·rw[if_pos h1] at hr
  rw[h1,ordI_eq]
  simp
  refine zE (spec194 _) (by simp) ?_
  by_cases h2:cmpVs gs hs=0
  ·rw[if_pos h2] at hr
   rw[h2]
   simp
   refine zE (spec195 _ ws xs hfit.1.2) (by simp) ?_
   simp[<-hr]
  ·rw[if_neg h2] at hr
   generalize cmpVs gs hs=c at hr h2
   simp[h2,<-hr]
 ·rw[if_neg h1] at hr
  have hne:=ordI_ne h1
  generalize ordI n n'=c at hr hne
  simp[hne,<-hr]
end Go.Ab.Tab
/- Values: the program's Nodes,weighed,gcd. -/
namespace Go.Ab.Tab
open Go Go.Ab
theorem l116 (D:Nat) (gs:List Va) (hlen:gs.length < 2^62) (hrec:∀a∈gs,∀(D:Nat),Go.Ab.Loc Pg Gl D 127 [encV a] [] (.int .i64 (zU a)) []) (S):∀(j i m:Nat) (τ ω) (r:AV),i+j=gs.length->m+zT (gs.drop i) < 2^62->
  τ 3= .int .i64 m->τ 7= .sl 3 (gs.map encV) .no->τ 8= .int .i64 gs.length->τ 9= .int .i64 i->r= .int .i64 ((m+zT (gs.drop i):Nat):Int)->
  Rd (Loc Pg Gl) .im (RetQ [.tmp 2] r S) [.lp c127_l0,.blk 0,.c c127_k0] (stF 19 D τ ω S):=by
 intro j
 induction j with
 | zero=>
  intro i m τ ω r hi hm h3 h7 h8 h9 hr
  refine zL c127_l0.eq_1 ?_
  obtain rfl:i=gs.length:=by omega
  rw[List.drop_length,zT] at hr
  simp[h3,h7,h8,h9,c127_k0]
  simp[hr]
 | succ j ih=>
  intro i m τ ω r hi hm h3 h7 h8 h9 hr
  refine zL c127_l0.eq_1 ?_
  have hlt:i < gs.length:=by omega
  have hwi:IntKind.i64.wrap ((i:Int)+1)=((i+1:Nat):Int):=by rw[<-zG (n:=i+1) (by omega)];rfl
  have hd:gs.drop i=gs[i]::gs.drop (i+1):=List.drop_eq_getElem_cons hlt
  rw[hd,zT] at hr hm
  have hwr:IntKind.i64.wrap ((m:Int)+(zU gs[i]:Int))=((m+zU gs[i]:Nat):Int):=by rw[<-zG (n:=m+zU gs[i]) (by omega)];rfl
  simp[h3,h7,h8,h9,hlt,zK gs[i]]
  refine zE (hrec gs[i] (List.getElem_mem hlt) _) (by simp[zK gs[i]]) ?_
  simp[h3,h9,hwr,hwi]
  refine ih (i+1) (m+zU gs[i]) _ _ r (by omega) (by omega) ?_ ?_ ?_ ?_ (by rw[hr];congr 2;omega)
  all_goals simp[h3,h7,h8,h9]
theorem spec127:∀(v:Va),zU v < 2^62->∀(D:Nat),Go.Ab.Loc Pg Gl D 127 [encV v] [] (.int .i64 (zU v)) []:=by
 refine Va.ind' fun n gs ws hrec=> ?_
 intro hn D
 rw[zU] at hn
 refine zW zH tok rfl rfl fun S=> ?_
 unfold c127
 generalize hr:AV.int .i64 (zU (.mk n gs ws))=r
 rw[zV]
 simp
 refine l116 D gs (by have:=nodesVs_len gs;omega) (fun a ha D=>hrec a ha (by have:=nodesVs_le ha;omega) D) S gs.length 0 1 _ _ r (by simp) (by simpa using hn) ?_ ?_ ?_ ?_ (by rw[<-hr,zU];simp)
 all_goals simp
theorem l134 (D:Nat) (ws:List Int) (hlen:ws.length<=maxLen) (S):∀(j i:Nat) (s:Int) (τ ω) (r:AV),i+j=ws.length->0<=s->s<=1048576->
  τ 3= .int .i64 s->τ 6= .sl 1 (ws.map (AV.int .i64)) .no->τ 7= .int .i64 ws.length->τ 8= .int .i64 i->r= .bool (wOk s (ws.drop i))->
  Rd (Loc Pg Gl) .im (RetQ [.tmp 2] r S) [.lp c190_l0,.blk 0,.c c190_k0] (stF 24 D τ ω S):=by
 intro j
 induction j with
 | zero=>
  intro i s τ ω r hi hs0 hs1 h3 h6 h7 h8 hr
  refine zL c190_l0.eq_1 ?_
  obtain rfl:i=ws.length:=by omega
  rw[List.drop_length,wOk] at hr
  simp[h3,h6,h7,h8,c190_k0,hr]
 | succ j ih=>
  intro i s τ ω r hi hs0 hs1 h3 h6 h7 h8 hr
  refine zL c190_l0.eq_1 ?_
  have hlt:i < ws.length:=by omega
  have hwr:=yC hlt hlen
  obtain ⟨w,hw⟩:∃w,ws[i]=w:=⟨_,rfl⟩
  rw[List.drop_eq_getElem_cons hlt,hw,wOk] at hr
  by_cases h1:w < 1
  ·rw[decide_eq_false (show¬1<=w by omega),Bool.false_and] at hr
   simp[h3,h6,h7,h8,hlt,hw,h1,hr]
  rw[decide_eq_true (show 1<=w by omega),Bool.true_and] at hr
  by_cases h2:1048576 < w
  ·rw[decide_eq_false (show¬w<=1048576 - s by omega),Bool.false_and] at hr
   simp[h3,h6,h7,h8,hlt,hw,h1,h2,hr]
  have hwa:IntKind.i64.wrap (s+w)=s+w:=by simp[IntKind.wrap,IntKind.bits,IntKind.signed];omega
  by_cases h4:1048576 < s+w
  ·rw[decide_eq_false (show¬w<=1048576 - s by omega),Bool.false_and] at hr
   simp[h3,h6,h7,h8,hlt,hw,h1,h2,hwa,h4,hr]
  rw[decide_eq_true (show w<=1048576 - s by omega),Bool.true_and] at hr
  simp[h3,h6,h7,h8,hlt,hw,h1,h2,hwa,h4,hwr]
  refine ih (i+1) (s+w) _ _ r (by omega) (by omega) (by omega) ?_ ?_ ?_ ?_ hr
  all_goals simp[h3,h6,h7,h8]
theorem spec190 (D:Nat) (ws:List Int) (hlen:ws.length<=maxLen):Go.Ab.Loc Pg Gl D 190 [.sl 1 (ws.map (AV.int .i64)) .no] [] (.bool (wOk 0 ws)) []:=by
 refine zW zH tok rfl rfl fun S=> ?_
 unfold c190
 generalize hr:AV.bool (wOk 0 ws)=r
 simp
 refine l134 D ws hlen S ws.length 0 0 _ _ r (by simp) (by omega) (by omega) ?_ ?_ ?_ ?_ (by rw[<-hr];simp)
 all_goals simp
theorem l135_0 (D:Nat) (Q:St->Prop) (k:List AI) (S) (ω):∀(m a b:Nat) (τ:Nat->AV),b<=m->
  τ 3= .int .i64 a->τ 5= .int .i64 b->
  (∀τ':Nat->AV,τ' 3= .int .i64 (Nat.gcd a b)->τ' 6=τ 6->τ' 7=τ 7->τ' 8=τ 8->Rd (Loc Pg Gl) .im Q k (stF 20 D τ' ω S))->
  Rd (Loc Pg Gl) .im Q (.lp c191_l0:: .blk 2::k) (stF 20 D τ ω S):=by
 intro m
 induction m with
 | zero=>
  intro a b τ hb h3 h5 hk
  refine zL c191_l0.eq_1 ?_
  obtain rfl:b=0:=by omega
  simp[h3,h5]
  refine hk _ ?_ ?_ ?_ ?_
  all_goals simp[h3]
 | succ m ih=>
  intro a b τ hb h3 h5 hk
  refine zL c191_l0.eq_1 ?_
  by_cases hb0:b=0
  ·subst hb0
   simp[h3,h5]
   refine hk _ ?_ ?_ ?_ ?_
   all_goals simp[h3]
  ·have e:(a:Int).tmod b=((a % b:Nat):Int):=by rw[Int.tmod_eq_emod_of_nonneg (by omega)];exact (Int.natCast_emod a b).symm
   have hlt:=Nat.mod_lt a (show 0 < b by omega)
   simp[h3,h5,hb0,e,-Int.natCast_emod]
   refine ih b (a % b) _ (by omega) ?_ ?_ fun τ' q3 q6 q7 q8=>hk τ' ?_ ?_ ?_ ?_
   case refine_3=>rw[q3,Nat.gcd_comm a b,Nat.gcd_rec b a,Nat.gcd_comm]
   all_goals first | simp[q6,q7,q8] | simp
theorem l135_1 (D:Nat) (ws:List Int) (hlen:ws.length<=maxLen) (hpos:∀w∈ws,0<=w) (S):∀(j i a:Nat) (τ ω) (r:AV),i+j=ws.length->
  τ 3= .int .i64 a->τ 6= .sl 1 (ws.map (AV.int .i64)) .no->τ 7= .int .i64 ws.length->τ 8= .int .i64 i->r= .int .i64 (gcdFrom a (ws.drop i))->
  Rd (Loc Pg Gl) .im (RetQ [.tmp 2] r S) [.lp c191_l1,.blk 0,.c c191_k1] (stF 20 D τ ω S):=by
 intro j
 induction j with
 | zero=>
  intro i a τ ω r hi h3 h6 h7 h8 hr
  refine zL c191_l1.eq_1 ?_
  obtain rfl:i=ws.length:=by omega
  rw[List.drop_length] at hr
  simp[h3,h6,h7,h8,c191_k1]
  simp[hr,gcdFrom]
 | succ j ih=>
  intro i a τ ω r hi h3 h6 h7 h8 hr
  refine zL c191_l1.eq_1 ?_
  have hlt:i < ws.length:=by omega
  have hwr:=yC hlt hlen
  obtain ⟨w,hw⟩:∃w:Nat,ws[i]=w:=Int.eq_ofNat_of_zero_le (hpos _ (List.getElem_mem hlt))
  rw[List.drop_eq_getElem_cons hlt,hw] at hr
  have hr:r= .int .i64 (gcdFrom (Nat.gcd a w) (ws.drop (i+1))):=hr
  simp[h3,h6,h7,h8,hlt,hw]
  refine l135_0 D _ _ S _ w a w _ (Nat.le_refl _) ?_ ?_ fun τ' q3 q6 q7 q8=> ?_
  case refine_3=>
   simp[h6] at q6
   simp[h7] at q7
   simp[h8] at q8
   simp[c191_k0,q8,hwr]
   refine ih (i+1) (Nat.gcd a w) _ _ r (by omega) ?_ ?_ ?_ ?_ hr
   all_goals simp[q3,q6,q7]
  all_goals simp[h3]
theorem spec191 (D:Nat) (ws:List Int) (hlen:ws.length<=maxLen) (hpos:∀w∈ws,0<=w):Go.Ab.Loc Pg Gl D 191 [.sl 1 (ws.map (AV.int .i64)) .no] [] (.int .i64 (gcdW ws)) []:=by
 refine zW zH tok rfl rfl fun S=> ?_
 unfold c191
 generalize hr:AV.int .i64 (gcdW ws)=r
 simp
 refine l135_1 D ws hlen hpos S ws.length 0 0 _ _ r (by simp) ?_ ?_ ?_ ?_ (by rw[<-hr,List.drop_zero,gcdFrom_zero])
 all_goals simp
end Go.Ab.Tab
/- Values: the program's elements. -/
namespace Go.Ab.Tab
open Go Go.Ab
def setP (k:Int) (v:Va):Bool:=(decide (k=5) || (decide (v.ws.length=v.gs.length)&&wOk 0 v.ws))&&(!(decide (k=7)&&decide (v.gs.length=0))&&(decide (v.gs.length<=100)&&((!(decide (k=7)) || decide (gcdW v.ws=1))&&incr v.gs)))
theorem l133 (D:Nat) (gs:List Va) (hlen:gs.length<=maxLen) (hfit:∀a∈gs,fitV a) (n:Int) (W:AV) (d' o:Nat) (hd:¬d'=D) (S) (Q:St->Prop) (b:Bool) (hQ:∀τ ω,τ 6= .bool b->Q (stF 76 D τ ω S)):∀(j i:Nat) (τ ω),1<=i->gs.length<=i+j->
  τ 5= .ptr D 5 1 0->τ 7= .int .i64 i->ω 5=(1,.cells [.int .i64 n,.sl 3 (gs.map encV) .no,W])->b=incr (gs.drop (i - 1))->
  Rd (Loc Pg Gl) .im Q [.lp c187_l0,.blk 0,.c c187_k0] (stF 76 D τ ω S):=by
 intro j
 induction j with
 | zero=>
  intro i τ ω h1 hi h5 h7 w5 hb
  refine zL c187_l0.eq_1 ?_
  have hx:incr (gs.drop (i - 1))=true:=by
   have:(gs.drop (i - 1)).length<=1:=by rw[List.length_drop];omega
   match gs.drop (i - 1),this with
   | [],_=>rfl
   | [_],_=>rfl
  have hle:¬i < gs.length:=by omega
  simp[h5,h7,w5,hle,c187_k0]
  refine hQ _ _ ?_
  simp[hb,hx]
 | succ j ih=>
  intro i τ ω h1 hi h5 h7 w5 hb
  refine zL c187_l0.eq_1 ?_
  by_cases hlt:i < gs.length
  ·have hwr:=yC hlt hlen
   obtain ⟨p,rfl⟩:∃p,i=p+1:=⟨i - 1,by omega⟩
   have hp:p < gs.length:=by omega
   have hml:=hlen;unfold maxLen at hml
   have hws:IntKind.i64.wrap (((p+1:Nat):Int) - 1)=(p:Int):=by simp[IntKind.wrap,IntKind.bits,IntKind.signed];omega
   rw[Nat.add_sub_cancel,List.drop_eq_getElem_cons hp,List.drop_eq_getElem_cons hlt,incr] at hb
   simp[h5,h7,w5,hlt,hp,hws,zK gs[p],zK gs[p+1],-Int.natCast_add]
   refine zZ (spec192 gs[p] (hfit _ (List.getElem_mem hp)) gs[p+1] _) (by simp[zK gs[p],zK gs[p+1]]) ?_
   by_cases hc:cmpV gs[p] gs[p+1] < 0
   ·rw[decide_eq_true hc,Bool.true_and] at hb
    have hc':¬0<=cmpV gs[p] gs[p+1]:=by omega
    simp[hc',h7,hwr,-Int.natCast_add]
    refine ih (p+1+1) _ _ (by omega) (by omega) ?_ ?_ w5 ?_
    case refine_3=>rw[hb,Nat.add_sub_cancel,List.drop_eq_getElem_cons hlt]
    all_goals simp[h5]
   ·rw[decide_eq_false hc,Bool.false_and] at hb
    have hc':0<=cmpV gs[p] gs[p+1]:=by omega
    simp[hc']
    refine hQ _ _ ?_
    simp[hb]
  ·have hx:incr (gs.drop (i - 1))=true:=by
    have:(gs.drop (i - 1)).length<=1:=by rw[List.length_drop];omega
    match gs.drop (i - 1),this with
    | [],_=>rfl
    | [_],_=>rfl
   simp[h5,h7,w5,hlt,c187_k0]
   refine hQ _ _ ?_
   simp[hb,hx]
theorem spec187 (D:Nat) (f:Fu) (n:Nat) (left:Int) (v:Va) (hv:fitV v) (d' o g:Nat) (hd:d' < D):Go.Ab.Loc Pg Gl D 187 [.ptr d' o g 0,encF f,encV v] [(d',o,(g,.cells [.int .i64 n,.int .i64 left,.bool false]))] (.bool (setP f.k v)) []:=by
 have hDd:¬d'=D:=by omega
 refine yP zH tok rfl rfl fun S hS=> ?_
 have hS:=(hS _ (List.mem_singleton.2 rfl)).2
 simp only at hS
 have hfv:=(fitV_gs v).1 hv
 unfold c187
 generalize hr:setP f.k v=b
 unfold setP at hr
 rw[zB f,zK v]
 have h100:(100 < (v.gs.length:Int))↔¬v.gs.length<=100:=by omega
 by_cases h5:f.k=5
 ·simp[h5] at hr
  by_cases hl:v.gs.length<=100
  ·rw[decide_eq_true hl,Bool.true_and] at hr
   simp[h5,hDd,hS,h100,hl]
   refine l133 D v.gs hfv.1.1 (fitVs_mem hfv.2) v.n (.sl 1 (v.ws.map (AV.int .i64)) .no) d' o hDd S _ b ?_ v.gs.length 1 _ _ (by omega) (by omega) ?_ ?_ ?_ ?_
   case refine_5=>rw[<-hr];rfl
   case refine_1=>intro τ ω h;simp[h]
   all_goals simp
  ·rw[decide_eq_false hl,Bool.false_and] at hr
   simp[h5,hDd,hS,h100,hl,<-hr]
 rw[decide_eq_false h5,Bool.false_or] at hr
 by_cases hw:v.ws.length=v.gs.length
 case neg=>
  have hw':¬(v.ws.length:Int)=v.gs.length:=by omega
  rw[decide_eq_false hw,Bool.false_and,Bool.false_and] at hr
  simp[h5,hDd,hS,hw',hw,<-hr]
 rw[decide_eq_true hw,Bool.true_and] at hr
 simp[h5,hDd,hS,hw]
 refine zE (spec190 _ v.ws hfv.1.2) (by simp) ?_
 cases hk:wOk 0 v.ws with
 | false=>
  rw[hk,Bool.false_and] at hr
  simp[<-hr]
 | true=>
 have hpos:∀w∈v.ws,0<=w:=fun w hw=>by have:=(wOk_sum (by omega) hk).1 w hw;omega
 rw[hk,Bool.true_and] at hr
 by_cases h7:f.k=7
 ·rw[decide_eq_true h7,Bool.true_and,Bool.not_true,Bool.false_or] at hr
  by_cases h0:v.gs.length=0
  ·rw[decide_eq_true h0,Bool.not_true,Bool.false_and] at hr
   have h0':v.gs= []:=List.length_eq_zero_iff.1 h0
   simp[h7,h0',<-hr]
  ·rw[decide_eq_false h0,Bool.not_false,Bool.true_and] at hr
   have h0':¬v.gs= []:=fun e=>h0 (by rw[e];rfl)
   by_cases hl:v.gs.length<=100
   ·rw[decide_eq_true hl,Bool.true_and] at hr
    simp[h7,h0',hDd,hS,h100,hl]
    refine zE (spec191 _ v.ws hfv.1.2 hpos) (by simp) ?_
    by_cases hg:gcdW v.ws=1
    ·rw[decide_eq_true hg,Bool.true_and] at hr
     simp[hg]
     refine l133 D v.gs hfv.1.1 (fitVs_mem hfv.2) v.n (.sl 1 (v.ws.map (AV.int .i64)) .no) d' o hDd S _ b ?_ v.gs.length 1 _ _ (by omega) (by omega) ?_ ?_ ?_ ?_
     case refine_5=>rw[<-hr];rfl
     case refine_1=>intro τ ω h;simp[h]
     all_goals simp
    ·rw[decide_eq_false hg,Bool.false_and] at hr
     have hg':¬(gcdW v.ws:Int)=1:=by omega
     simp[hg',hg,<-hr]
   ·rw[decide_eq_false hl,Bool.false_and] at hr
    simp[h7,h0',hDd,hS,h100,hl,<-hr]
 ·rw[decide_eq_false h7,Bool.false_and,Bool.not_false,Bool.true_and,Bool.true_or,Bool.true_and] at hr
  by_cases hl:v.gs.length<=100
  ·rw[decide_eq_true hl,Bool.true_and] at hr
   simp[h7,hDd,hS,h100,hl]
   refine l133 D v.gs hfv.1.1 (fitVs_mem hfv.2) v.n (.sl 1 (v.ws.map (AV.int .i64)) .no) d' o hDd S _ b ?_ v.gs.length 1 _ _ (by omega) (by omega) ?_ ?_ ?_ ?_
   case refine_5=>rw[<-hr];rfl
   case refine_1=>intro τ ω h;simp[h]
   all_goals simp
  ·rw[decide_eq_false hl,Bool.false_and] at hr
   simp[h7,hDd,hS,h100,hl,<-hr]
end Go.Ab.Tab
/- Values: the program's checker.valid and value.Valid. -/
namespace Go.Ab.Tab
open Go Go.Ab
def locP (n:Nat) (f:Fu) (v:Va):Bool:=okV n f v&&(setOk f.k v&& !(sets f.k&&decide (100 < v.gs.length)))
mutual
def valP (n:Nat):Va->Fu->Bool
 | .mk a gs ws,f=>locP n f (.mk a gs ws)&&valPs n gs (y4 f (.mk a gs ws))
def valPs (n:Nat):List Va->List Fu->Bool
 | [],_=>true
 | v::l,[]=>false
 | v::l,f::fs=>valP n v f&&valPs n l fs
end
theorem valP_mk (n:Nat) (a:Int) (gs:List Va) (ws:List Int) (f:Fu):valP n (.mk a gs ws) f=(locP n f (.mk a gs ws)&&valPs n gs (y4 f (.mk a gs ws))):=by rw[valP]
theorem valPs_rep (n:Nat) (g:Fu):∀(l:List Va),valPs n l (List.replicate l.length g)=l.all (fun v=>valP n v g)
 | []=>by rw[valPs];rfl
 | v::l=>by rw[List.length_cons,List.replicate_succ,valPs,valPs_rep n g l];rfl
theorem valPs_eq {n:Nat}:∀{l:List Va} {fs:List Fu},(∀v∈l,∀f,valP n v f=(valN n v f&& !(wideV v f)))->valPs n l fs=(valNs n l fs&& !(wideVs l fs))
 | [],_,_=>by rw[valPs,valNs,wideVs];rfl
 | v::l,[],_=>by rw[valPs,valNs];rfl
 | v::l,f::fs,h=>by
  rw[valPs,valNs,wideVs,h v (by simp) f,valPs_eq fun w hw=>h w (List.mem_cons_of_mem _ hw)]
  cases valN n v f<;>cases wideV v f<;>cases valNs n l fs<;>rfl
theorem valP_eq {n:Nat}:∀(v:Va) (f:Fu),valP n v f=(valN n v f&& !(wideV v f)):=by
 refine Va.ind' fun a gs ws hrec=> ?_
 intro f
 rw[valP,valN,wideV,valPs_eq hrec,locP]
 have e:(Va.mk a gs ws).gs=gs:=rfl
 rw[e]
 cases okV n f (.mk a gs ws)<;>cases setOk f.k (.mk a gs ws)<;>cases (sets f.k&&decide (100 < gs.length))<;>cases valNs n gs (y4 f (.mk a gs ws))<;>cases wideVs gs (y4 f (.mk a gs ws))<;>rfl
def okC (n:Nat) (f:Fu) (v:Va) (left:Nat):Bool:=decide (zU v<=left)&&valP n v f
def okCr (n:Nat) (g:Fu) (l:List Va) (left:Nat):Bool:=decide (zT l<=left)&&l.all (fun v=>valP n v g)
theorem okCr_cons (n:Nat) (g:Fu) (v:Va) (l:List Va) (left:Nat):okCr n g (v::l) left=(okC n g v left&&okCr n g l (left - zU v)):=by
 unfold okCr okC
 rw[zT,List.all_cons]
 by_cases h1:zU v+zT l<=left
 ·rw[decide_eq_true h1,decide_eq_true (show zU v<=left by omega),decide_eq_true (show zT l<=left - zU v by omega)]
  simp
 ·rw[decide_eq_false h1]
  by_cases h3:zU v<=left
  ·rw[decide_eq_false (show¬zT l<=left - zU v by omega)];simp
  ·rw[decide_eq_false h3];simp
def Spec128 (n:Nat) (v:Va):Prop:=∀(f:Fu),zJ f=true->∀(D left d' o g:Nat),d' < D->left < 2^40->∃left':Int,(okC n f v left=true->left'=((left - zU v:Nat):Int))/\
  Go.Ab.Loc Pg Gl D 152 [.ptr d' o g 0,encF f,encV v] [(d',o,(g,.cells [.int .i64 n,.int .i64 left,.bool false]))] (.bool (okC n f v left)) [(d',o,(g,.cells [.int .i64 n,.int .i64 left',.bool false]))]
theorem l128 (D:Nat) (n:Nat) (k m:Int) (gf:Fu) (hgf:zJ gf=true) (gs:List Va) (hlen:gs.length<=maxLen) (d' o g:Nat) (hd:d' < D)
  (hrec:∀a∈gs,Spec128 n a)
  :∀(j i left:Nat) (b:Bool),i+j=gs.length->left < 2^40->b=okCr n gf (gs.drop i) left->
  ∃left':Int,(b=true->left'=((left - zT (gs.drop i):Nat):Int))/\∀(S0:Nat->Nat->Ent) (τ:Nat->AV) (ω:Nat->Ent),τ 0= .ptr d' o g 0->τ 4= .ptr D 4 1 0->τ 153= .sl 3 (gs.map encV) .no->τ 154= .int .i64 gs.length->τ 155= .int .i64 i->
   ω 4=(1,.cells [.int .i64 k,.int .i64 m,.sl 3 [encF gf] .no])->
   Rd (Loc Pg Gl) .im (RetM [.tmp 6] (.bool b) D S0 [(d',o,(g,.cells [.int .i64 n,.int .i64 left',.bool false]))]) [.lp c152_l0,.blk 1,.c c152_k0] (stF 168 D τ ω (updS S0 d' o (g,.cells [.int .i64 n,.int .i64 left,.bool false]))):=by
 have hDd:¬d'=D:=by omega
 intro j
 induction j with
 | zero=>
  intro i left b hi hl hb
  obtain rfl:i=gs.length:=by omega
  rw[List.drop_length] at hb
  refine ⟨left,fun _=>by simp[zT],?_⟩
  intro S0 τ ω h0 h4 h153 h154 h155 w4
  refine zL c152_l0.eq_1 ?_
  simp[h0,h4,h153,h154,h155,w4,c152_k0]
  rw[hb]
  simp[okCr,zT]
 | succ j ih=>
  intro i left b hi hl hb
  have hlt:i < gs.length:=by omega
  have hwr:=yC hlt hlen
  have e:gs.drop i=gs[i]::gs.drop (i+1):=List.drop_eq_getElem_cons hlt
  rw[e,okCr_cons] at hb
  obtain ⟨l1,hl1,hloc⟩:=hrec gs[i] (List.getElem_mem hlt) gf hgf (D+1) left d' o g (by omega) hl
  have hM:∀(S0:Nat->Nat->Ent) (τ':Nat->AV) (ω':Nat->Ent),∀m∈[(d',o,((g,Ob.cells [.int .i64 n,.int .i64 left,.bool false]):Ent))],m.1<=D/\(m.1=D->m.2.1 < 168)/\(stF 168 D τ' ω' (updS S0 d' o (g,.cells [.int .i64 n,.int .i64 left,.bool false]))).look m.1 m.2.1=m.2.2:=by
   intro S0 τ' ω' m hm
   rw[List.mem_singleton] at hm;subst hm
   refine ⟨by simp;omega,fun e=>absurd e hDd,?_⟩
   rw[yX,if_neg hDd,updS_same]
  cases hok:okC n gf gs[i] left with
  | false=>
   rw[hok,Bool.false_and] at hb
   subst hb
   rw[hok] at hloc
   refine ⟨l1,by simp,?_⟩
   intro S0 τ ω h0 h4 h153 h154 h155 w4
   refine zL c152_l0.eq_1 ?_
   simp[h0,h4,h153,h154,h155,w4,hlt,zK gs[i],zB gf]
   refine zI hloc (by simp[zK gs[i],zB gf,h0]) (hM _ _ _) (by simp) ?_
   simp[hDd]
  | true=>
   rw[hok,Bool.true_and] at hb
   rw[hok] at hloc
   obtain rfl:=hl1 hok
   have hn:zU gs[i]<=left:=by simp[okC] at hok;exact hok.1
   obtain ⟨l2,hl2,hrd⟩:=ih (i+1) (left - zU gs[i]) b (by omega) (by omega) hb
   refine ⟨l2,fun hbt=>by rw[e,zT,hl2 hbt];congr 1;omega,?_⟩
   intro S0 τ ω h0 h4 h153 h154 h155 w4
   refine zL c152_l0.eq_1 ?_
   simp[h0,h4,h153,h154,h155,w4,hlt,zK gs[i],zB gf]
   refine zI hloc (by simp[zK gs[i],zB gf,h0]) (hM _ _ _) (by simp) ?_
   simp[hDd,h155,hwr]
   refine hrd _ _ _ ?_ ?_ ?_ ?_ ?_ ?_
   all_goals simp[h0,h4,h153,h154,h155,w4]
end Go.Ab.Tab
/- Values: the program's checker.valid and value.Valid. -/
namespace Go.Ab.Tab
open Go Go.Ab
theorem zN {n:Nat} {f:Fu} {a:Int} {gs:List Va} {ws:List Int} {left:Nat} (h:locP n f (.mk a gs ws)=false):okC n f (.mk a gs ws) left=false:=by
 unfold okC;rw[valP_mk,h];simp
theorem okC_loc {n:Nat} {f:Fu} {a:Int} {gs:List Va} {ws:List Int} {left:Nat} (h:locP n f (.mk a gs ws)=true):okC n f (.mk a gs ws) (left+1)=(decide (zT gs<=left)&&valPs n gs (y4 f (.mk a gs ws))):=by
 unfold okC;rw[valP_mk,h,zU,Bool.true_and];congr 1;exact decide_eq_decide.2 (by omega)
theorem k_cases {k m:Int} {gs:List Fu} (h:zJ (.mk k m gs)=true):k=0\/k=1\/k=2\/k=3\/k=4\/k=5\/k=6\/k=7:=by
 obtain ⟨hl,_⟩:=shaped_mk h
 apply Classical.byContradiction;intro h
 have:arK k= -1:=by unfold arK;repeat rw[if_neg (by omega)]
 omega
theorem locP_k (n:Nat) (k m:Int) (fg:List Fu) (a:Int) (gs:List Va) (ws:List Int):locP n (.mk k m fg) (.mk a gs ws)=
  ((partsOk (.mk k m fg) (.mk a gs ws)&&(numOk (.mk k m fg) n (.mk a gs ws)&&weighedR k (.mk a gs ws)))&&(setOk k (.mk a gs ws)&& !(sets k&&decide (100 < gs.length)))):=rfl
theorem numOk_k (n:Nat) (k m:Int) (fg:List Fu) (a:Int) (gs:List Va) (ws:List Int):numOk (.mk k m fg) n (.mk a gs ws)=(decide (0<=a)&&decide (a<=if k=0 then (n:Int) - 1 else if k=1 then m - 1 else if k=3 then 1 else 0)):=rfl
theorem partsOk_k (k m:Int) (fg:List Fu) (a:Int) (gs:List Va) (ws:List Int):partsOk (.mk k m fg) (.mk a gs ws)=(!(decide (k=3)&&(decide (a < 0) || decide (1 < a)))&&decide ((y4 (.mk k m fg) (.mk a gs ws)).length=gs.length)):=rfl
theorem weighedR_k (k:Int) (a:Int) (gs:List Va) (ws:List Int):weighedR k (.mk a gs ws)=(if wtd k then wOk 0 ws&&(decide (ws.length=gs.length)&&(decide (k=6) || decide (0 < gs.length))) else decide (ws.length=0)):=rfl
theorem setOk_k (k:Int) (a:Int) (gs:List Va) (ws:List Int):setOk k (.mk a gs ws)=(!(sets k) || (incr gs&&(!(decide (k=7)) || decide (gcdW ws=1)))):=rfl
theorem y8 (k m:Int) (fg:List Fu) (a:Int) (gs:List Va) (ws:List Int):y4 (.mk k m fg) (.mk a gs ws)=if k=0\/k=1 then [] else if k=2 then fg else if k=3 then (if a < 0\/1 < a then [] else (fg.drop a.toNat).take 1) else
 if k=4 then List.replicate m.toNat (fg.headD (.mk 0 0 [])) else List.replicate gs.length (fg.headD (.mk 0 0 [])):=rfl
def okP (n:Nat) (l:List Va) (fs:List Fu) (left:Nat):Bool:=decide (zT l<=left)&&valPs n l fs
theorem okP_nil (n:Nat) (fs:List Fu) (left:Nat):okP n [] fs left=true:=by unfold okP;rw[zT,valPs];simp
theorem okP_cons (n:Nat) (v:Va) (l:List Va) (f:Fu) (fs:List Fu) (left:Nat):okP n (v::l) (f::fs) left=(okC n f v left&&okP n l fs (left - zU v)):=by
 unfold okP okC
 rw[zT,valPs]
 by_cases h1:zU v+zT l<=left
 ·rw[decide_eq_true h1,decide_eq_true (show zU v<=left by omega),decide_eq_true (show zT l<=left - zU v by omega)]
  simp
 ·rw[decide_eq_false h1]
  by_cases h3:zU v<=left
  ·rw[decide_eq_false (show¬zT l<=left - zU v by omega)];simp
  ·rw[decide_eq_false h3];simp
theorem okP_rep (n:Nat) (l:List Va) (g:Fu) (left:Nat):okP n l (List.replicate l.length g) left=okCr n g l left:=by
 unfold okP okCr;rw[valPs_rep]
theorem okC_loc' {n:Nat} {f:Fu} {a:Int} {gs:List Va} {ws:List Int} {left:Nat} (h:locP n f (.mk a gs ws)=true):okC n f (.mk a gs ws) (left+1)=okP n gs (y4 f (.mk a gs ws)) left:=okC_loc h
theorem okC_nodes {n:Nat} {f:Fu} {v:Va} {left:Nat} (h:okC n f v left=true):zU v<=left:=by
 unfold okC at h;simp at h;exact h.1
theorem setP_eq {k:Int} (hs:sets k=true) (v:Va) (h5:k=5->v.ws= []):setP k v=(weighedR k v&&(setOk k v&& !(decide (100 < v.gs.length)))):=by
 unfold setP weighedR setOk
 have hd:(!(decide (100 < v.gs.length)))=decide (v.gs.length<=100):=by
  by_cases h:v.gs.length<=100
  ·rw[decide_eq_true h,decide_eq_false (by omega)];rfl
  ·rw[decide_eq_false h,decide_eq_true (by omega)];rfl
 rw[hs,hd]
 rcases sets_k hs with rfl | rfl | rfl
 ·rw[h5 rfl]
  simp[wtd]
  exact Bool.and_comm _ _
 ·simp[wtd]
  rw[Bool.and_comm (wOk 0 v.ws)]
  cases decide (v.ws.length=v.gs.length)<;>cases wOk 0 v.ws<;>cases decide (v.gs.length<=100)<;>cases incr v.gs<;>rfl
 ·have h0:decide (v.gs.length=0)= !(decide (0 < v.gs.length)):=by
   by_cases h:v.gs.length=0
   ·rw[decide_eq_true h,decide_eq_false (by omega)];rfl
   ·rw[decide_eq_false h,decide_eq_true (by omega)];rfl
  have e1:wtd 7=true:=rfl
  rw[e1,if_pos rfl,h0]
  have e2:decide ((7:Int)=5)=false:=rfl
  have e3:decide ((7:Int)=7)=true:=rfl
  have e4:decide ((7:Int)=6)=false:=rfl
  rw[e2,e3,e4]
  cases decide (v.ws.length=v.gs.length)<;>cases wOk 0 v.ws<;>cases decide (v.gs.length<=100)<;>cases incr v.gs<;>cases decide (gcdW v.ws=1)<;>cases decide (0 < v.gs.length)<;>rfl
theorem spec152 (n:Nat) (hn:n<=2000):∀(v:Va),fitV v->Spec128 n v:=by
 refine Va.ind' fun a gs ws hrec=> ?_
 intro hfit f hf D left d' o g hd hl
 have hfv:=(fitV_gs _).1 hfit
 have hgl:gs.length<=maxLen:=hfv.1.1
 have hrec:∀a∈gs,Spec128 n a:=fun b hb=>hrec b hb (fitVs_mem hfv.2 b hb)
 have hDd:¬d'=D:=by omega
 have hw:IntKind.i64.wrap ((left:Int) - 1)=(left:Int) - 1:=by
  simp[IntKind.wrap,IntKind.bits,IntKind.signed];omega
 cases f with
 | mk k m fg=>
 have hk:=k_cases hf
 obtain ⟨hfl,hm1,hm2,hfg⟩:=shaped_mk hf
 have hM:∀(l:Int) (S0:Nat->Nat->Ent) (τ':Nat->AV) (ω':Nat->Ent),∀q∈[(d',o,((g,Ob.cells [.int .i64 n,.int .i64 l,.bool false]):Ent))],q.1<=D/\(q.1=D->q.2.1 < 168)/\(stF 168 D τ' ω' (updS S0 d' o (g,.cells [.int .i64 n,.int .i64 l,.bool false]))).look q.1 q.2.1=q.2.2:=by
  intro l S0 τ' ω' q hq
  rw[List.mem_singleton] at hq;subst hq
  refine ⟨by simp;omega,fun e=>absurd e hDd,?_⟩
  rw[yX,if_neg hDd,updS_same]
 -- a way that ends
 have go:∀(left':Int) (b:Bool),okC n (.mk k m fg) (.mk a gs ws) left=b->(b=true->left'=((left - zU (.mk a gs ws):Nat):Int))->
   (∀S0,S0 d' o=(g,.cells [.int .i64 n,.int .i64 left,.bool false])->Rd (Loc Pg Gl) .im (RetM [.tmp 6] (.bool b) D S0 [(d',o,(g,.cells [.int .i64 n,.int .i64 left',.bool false]))]) [.c c152] (stF 168 D (argsT 0 [.ptr d' o g 0,encF (.mk k m fg),encV (.mk a gs ws)]) (fun _=>(0,.dead)) S0))->
   ∃left':Int,(okC n (.mk k m fg) (.mk a gs ws) left=true->left'=((left - zU (.mk a gs ws):Nat):Int))/\Go.Ab.Loc Pg Gl D 152 [.ptr d' o g 0,encF (.mk k m fg),encV (.mk a gs ws)] [(d',o,(g,.cells [.int .i64 n,.int .i64 left,.bool false]))] (.bool (okC n (.mk k m fg) (.mk a gs ws) left)) [(d',o,(g,.cells [.int .i64 n,.int .i64 left',.bool false]))]:=by
  intro left' b hok hb h
  refine ⟨left',by rw[hok];exact hb,?_⟩
  rw[hok]
  refine yP zH tok rfl rfl fun S hS=> ?_
  exact h S (hS _ (List.mem_singleton.2 rfl)).2
 have fin:∀(left':Int),okC n (.mk k m fg) (.mk a gs ws) left=false->
   (∀S0,S0 d' o=(g,.cells [.int .i64 n,.int .i64 left,.bool false])->Rd (Loc Pg Gl) .im (RetM [.tmp 6] (.bool false) D S0 [(d',o,(g,.cells [.int .i64 n,.int .i64 left',.bool false]))]) [.c c152] (stF 168 D (argsT 0 [.ptr d' o g 0,encF (.mk k m fg),encV (.mk a gs ws)]) (fun _=>(0,.dead)) S0))->_:=
  fun left' h1 h2=>go left' false h1 (by simp) h2
 have hw1:IntKind.i64.wrap (-1)= -1:=by decide
 by_cases h1:left=0
 ·refine fin (-1) (by simp[okC];have:=nodesV_pos (.mk a gs ws);omega) fun S0 hS=> ?_
  subst h1
  unfold c152
  rw[zO,zV]
  simp[hDd,hS,hw1]
 obtain ⟨L,hL⟩:∃L,left=L+1:=⟨left - 1,by omega⟩
 have hwL:IntKind.i64.wrap ((left:Int) - 1)=(L:Int):=by rw[hw];omega
 rcases hk with rfl | rfl | rfl | rfl | rfl | rfl | rfl | rfl
 ·-- 0
  have hloc:=locP_k n 0 m fg a gs ws
  simp[numOk_k,partsOk_k,weighedR_k,setOk_k,y8,sets,wtd] at hloc
  by_cases hws:ws= []
  case neg=>
   refine fin L (zN (by rw[hloc];simp[hws])) fun S0 hS=> ?_
   unfold c152
   rw[zO,zV]
   simp[hDd,hS,hwL,hws]
  by_cases hgs:gs= []
  case neg=>
   refine fin L (zN (by rw[hloc];simp[show¬0=gs.length from fun e=>hgs (List.length_eq_zero_iff.1 e.symm)])) fun S0 hS=> ?_
   unfold c152
   rw[zO,zV]
   simp[hDd,hS,hwL,hws,hgs]
  subst hws hgs
  simp at hloc
  by_cases ha:0<=a
  case neg=>
   refine fin L (zN (by rw[hloc];simp[ha])) fun S0 hS=> ?_
   unfold c152
   rw[zO,zV]
   simp[hDd,hS,hwL,ha]
  refine go L (decide (a < n)) ?_ ?_ fun S0 hS=> ?_
  ·by_cases hb:a < n
   ·rw[hL,okC_loc (by rw[hloc];simp[ha];omega),y8]
    simp[zT,valPs,hb]
   ·rw[zN (by rw[hloc];simp[ha];omega)]
    simp[hb]
  ·intro _;rw[zU,zT,hL];simp
  ·unfold c152
   rw[zO,zV]
   simp[hDd,hS,hwL,ha]
 ·-- 1
  have hloc:=locP_k n 1 m fg a gs ws
  simp[numOk_k,partsOk_k,weighedR_k,setOk_k,y8,sets,wtd] at hloc
  by_cases hws:ws= []
  case neg=>
   refine fin L (zN (by rw[hloc];simp[hws])) fun S0 hS=> ?_
   unfold c152
   rw[zO,zV]
   simp[hDd,hS,hwL,hws]
  by_cases hgs:gs= []
  case neg=>
   refine fin L (zN (by rw[hloc];simp[show¬0=gs.length from fun e=>hgs (List.length_eq_zero_iff.1 e.symm)])) fun S0 hS=> ?_
   unfold c152
   rw[zO,zV]
   simp[hDd,hS,hwL,hws,hgs]
  subst hws hgs
  simp at hloc
  by_cases ha:0<=a
  case neg=>
   refine fin L (zN (by rw[hloc];simp[ha])) fun S0 hS=> ?_
   unfold c152
   rw[zO,zV]
   simp[hDd,hS,hwL,ha]
  refine go L (decide (a < m)) ?_ ?_ fun S0 hS=> ?_
  ·by_cases hb:a < m
   ·rw[hL,okC_loc (by rw[hloc];simp[ha];omega),y8]
    simp[zT,valPs,hb]
   ·rw[zN (by rw[hloc];simp[ha];omega)]
    simp[hb]
  ·intro _;rw[zU,zT,hL];simp
  ·unfold c152
   rw[zO,zV]
   simp[hDd,hS,hwL,ha]
 ·-- 2
  have hloc:=locP_k n 2 m fg a gs ws
  simp[numOk_k,partsOk_k,weighedR_k,setOk_k,y8,sets,wtd] at hloc
  by_cases hws:ws= []
  case neg=>
   refine fin L (zN (by rw[hloc];simp[hws])) fun S0 hS=> ?_
   unfold c152
   rw[zO,zV]
   simp[hDd,hS,hwL,hws]
  by_cases ha:a=0
  case neg=>
   refine fin L (zN (by rw[hloc];simp[hws];omega)) fun S0 hS=> ?_
   unfold c152
   rw[zO,zV]
   simp[hDd,hS,hwL,hws,ha]
  subst ha
  subst hws
  obtain ⟨f0,f1,rfl⟩:∃f0 f1,fg= [f0,f1]:=by
   match fg,hfl with
   | [a,b],_=>exact ⟨a,b,rfl⟩
  simp at hloc
  by_cases hg:gs.length=2
  case neg=>
   have hg':¬(gs.length:Int)=2:=by omega
   refine fin L (zN (by rw[hloc];simp;omega)) fun S0 hS=> ?_
   unfold c152
   rw[zO,zV]
   simp[hDd,hS,hwL,hg']
  obtain ⟨v0,v1,rfl⟩:∃v0 v1,gs= [v0,v1]:=by
   match gs,hg with
   | [a,b],_=>exact ⟨a,b,rfl⟩
  simp at hloc
  have hP:y4 (.mk 2 m [f0,f1]) (.mk 0 [v0,v1] [])= [f0,f1]:=by rw[y8];rfl
  have hok:=okC_loc' (left:=L) hloc
  rw[hP,okP_cons,okP_cons,okP_nil,Bool.and_true] at hok
  rw[<-hL] at hok
  obtain ⟨l1,hl1,hloc1⟩:=hrec v0 (by simp) f0 (hfg f0 (by simp)) (D+1) L d' o g (by omega) (by omega)
  cases hb0:okC n f0 v0 L with
  | false=>
   rw[hb0] at hloc1
   refine go l1 false (by rw[hok,hb0];rfl) (by simp) fun S0 hS=> ?_
   unfold c152
   rw[zO,zV]
   simp[hDd,hS,hwL,zB f0,zK v0]
   refine zI hloc1 (by simp[zK v0,zB f0]) (hM _ _ _ _) (by simp) ?_
   simp[hDd]
  | true=>
   rw[hb0] at hloc1
   obtain rfl:=hl1 hb0
   have hn0:=okC_nodes hb0
   obtain ⟨l2,hl2,hloc2⟩:=hrec v1 (by simp) f1 (hfg f1 (by simp)) (D+1) (L - zU v0) d' o g (by omega) (by omega)
   generalize hb1:okC n f1 v1 (L - zU v0)=b1 at*
   refine go l2 b1 (by rw[hok,hb0];rfl) ?_ fun S0 hS=> ?_
   ·intro e
    have e1:zU (.mk 0 [v0,v1] [])=1+(zU v0+(zU v1+0)):=by rw[zU,zT,zT,zT]
    rw[hl2 e,e1]
    congr 1;omega
   unfold c152
   rw[zO,zV]
   simp[hDd,hS,hwL,zB f0,zK v0]
   refine zI hloc1 (by simp[zK v0,zB f0]) (hM _ _ _ _) (by simp) ?_
   simp[hDd,zB f1,zK v1]
   refine zI hloc2 (by simp[zK v1,zB f1]) (hM _ _ _ _) (by simp) ?_
   simp[hDd]
 ·-- 3
  have hloc:=locP_k n 3 m fg a gs ws
  simp[numOk_k,partsOk_k,weighedR_k,setOk_k,y8,sets,wtd] at hloc
  by_cases hws:ws= []
  case neg=>
   refine fin L (zN (by rw[hloc];simp[hws])) fun S0 hS=> ?_
   unfold c152
   rw[zO,zV]
   simp[hDd,hS,hwL,hws]
  subst hws
  obtain ⟨f0,f1,rfl⟩:∃f0 f1,fg= [f0,f1]:=by
   match fg,hfl with
   | [a,b],_=>exact ⟨a,b,rfl⟩
  by_cases hg:gs.length=1
  case neg=>
   have hg':¬(gs.length:Int)=1:=by omega
   refine fin L (zN (by
    rw[locP_k,partsOk_k,y8]
    by_cases hr:a < 0\/1 < a
    ·simp[hr];omega
    ·simp[hr];omega)) fun S0 hS=> ?_
   unfold c152
   rw[zO,zV]
   simp[hDd,hS,hwL,hg']
  obtain ⟨v0,rfl⟩:∃v0,gs= [v0]:=by
   match gs,hg with
   | [a],_=>exact ⟨a,rfl⟩
  by_cases ha:a=0
  ·subst ha
   have hP:y4 (.mk 3 m [f0,f1]) (.mk 0 [v0] [])= [f0]:=by rw[y8];rfl
   have hloc2:locP n (.mk 3 m [f0,f1]) (.mk 0 [v0] [])=true:=by rw[hloc];simp
   have hok:=okC_loc' (left:=L) hloc2
   rw[hP,okP_cons,okP_nil,Bool.and_true] at hok
   rw[<-hL] at hok
   obtain ⟨l1,hl1,hloc1⟩:=hrec v0 (by simp) f0 (hfg f0 (by simp)) (D+1) L d' o g (by omega) (by omega)
   generalize hb1:okC n f0 v0 L=b1 at*
   refine go l1 b1 hok ?_ fun S0 hS=> ?_
   ·intro e
    have e1:zU (.mk 0 [v0] [])=1+(zU v0+0):=by rw[zU,zT,zT]
    rw[hl1 e,e1]
    congr 1;omega
   unfold c152
   rw[zO,zV]
   simp[hDd,hS,hwL,zB f0,zK v0]
   refine zI hloc1 (by simp[zK v0,zB f0]) (hM _ _ _ _) (by simp) ?_
   simp[hDd]
  by_cases ha1:a=1
  ·subst ha1
   have hP:y4 (.mk 3 m [f0,f1]) (.mk 1 [v0] [])= [f1]:=by rw[y8];rfl
   have hloc2:locP n (.mk 3 m [f0,f1]) (.mk 1 [v0] [])=true:=by rw[hloc];simp
   have hok:=okC_loc' (left:=L) hloc2
   rw[hP,okP_cons,okP_nil,Bool.and_true] at hok
   rw[<-hL] at hok
   obtain ⟨l1,hl1,hloc1⟩:=hrec v0 (by simp) f1 (hfg f1 (by simp)) (D+1) L d' o g (by omega) (by omega)
   generalize hb1:okC n f1 v0 L=b1 at*
   refine go l1 b1 hok ?_ fun S0 hS=> ?_
   ·intro e
    have e1:zU (.mk 1 [v0] [])=1+(zU v0+0):=by rw[zU,zT,zT]
    rw[hl1 e,e1]
    congr 1;omega
   unfold c152
   rw[zO,zV]
   simp[hDd,hS,hwL,zB f1,zK v0]
   refine zI hloc1 (by simp[zK v0,zB f1]) (hM _ _ _ _) (by simp) ?_
   simp[hDd]
  ·refine fin L (zN (by rw[hloc];simp;omega)) fun S0 hS=> ?_
   unfold c152
   rw[zO,zV]
   simp[hDd,hS,hwL,ha,ha1]
 ·-- 4
  have hloc:=locP_k n 4 m fg a gs ws
  simp[numOk_k,partsOk_k,weighedR_k,setOk_k,y8,sets,wtd] at hloc
  by_cases hws:ws= []
  case neg=>
   refine fin L (zN (by rw[hloc];simp[hws])) fun S0 hS=> ?_
   unfold c152
   rw[zO,zV]
   simp[hDd,hS,hwL,hws]
  by_cases ha:a=0
  case neg=>
   refine fin L (zN (by rw[hloc];simp[hws];omega)) fun S0 hS=> ?_
   unfold c152
   rw[zO,zV]
   simp[hDd,hS,hwL,hws,ha]
  subst ha
  subst hws
  obtain ⟨f0,rfl⟩:∃f0,fg= [f0]:=by
   match fg,hfl with
   | [a],_=>exact ⟨a,rfl⟩
  by_cases hg:(gs.length:Int)=m
  case neg=>
   refine fin L (zN (by
    have e4:mostK 4=4:=rfl
    rw[e4] at hm1
    rw[hloc];simp;omega)) fun S0 hS=> ?_
   unfold c152
   rw[zO,zV]
   simp[hDd,hS,hwL,hg]
  subst hg
  simp at hloc
  have hP:y4 (.mk 4 gs.length [f0]) (.mk 0 gs [])=List.replicate gs.length f0:=by rw[y8];simp
  have hok:=okC_loc' (left:=L) hloc
  rw[hP,okP_rep,<-hL] at hok
  obtain ⟨l1,hl1,hrd⟩:=l128 D n 4 gs.length f0 (hfg f0 (by simp)) gs hgl d' o g hd hrec gs.length 0 L (okCr n f0 gs L) (by omega) (by omega) (by simp)
  generalize hb1:okCr n f0 gs L=b1 at*
  refine go l1 b1 hok ?_ fun S0 hS=> ?_
  ·intro e
   rw[hl1 e,zU,List.drop_zero]
   congr 1;omega
  unfold c152
  rw[zO,zV]
  simp[hDd,hS,hwL,c152_j0]
  refine hrd S0 _ _ ?_ ?_ ?_ ?_ ?_ ?_
  all_goals simp
 ·-- 5
  by_cases hws:ws= []
  case neg=>
   refine fin L (zN (by rw[locP_k,weighedR_k,if_neg (by simp[wtd]),decide_eq_false (fun e=>hws (List.length_eq_zero_iff.1 e))];simp)) fun S0 hS=> ?_
   unfold c152
   rw[zO,zV]
   simp[hDd,hS,hwL,hws]
  by_cases ha:a=0
  case neg=>
   refine fin L (zN (by rw[locP_k,numOk_k];simp;omega)) fun S0 hS=> ?_
   unfold c152
   rw[zO,zV]
   simp[hDd,hS,hwL,ha,hws]
  subst ha
  obtain ⟨f0,rfl⟩:∃f0,fg= [f0]:=by
   match fg,hfl with
   | [a],_=>exact ⟨a,rfl⟩
  have hP:y4 (.mk 5 m [f0]) (.mk 0 gs ws)=List.replicate gs.length f0:=by rw[y8];rfl
  have hloc:locP n (.mk 5 m [f0]) (.mk 0 gs ws)=setP 5 (.mk 0 gs ws):=by
   rw[setP_eq (show sets 5=true from rfl) (.mk 0 gs ws) (fun _=>hws)]
   have e1:partsOk (.mk 5 m [f0]) (.mk 0 gs ws)=true:=by rw[partsOk_k,hP];simp
   have e2:numOk (.mk 5 m [f0]) n (.mk 0 gs ws)=true:=by rw[numOk_k];rfl
   rw[locP_k,e1,e2,Bool.true_and,Bool.true_and];rfl
  have h133:=spec187 (D+1) (.mk 5 m [f0]) n L (.mk 0 gs ws) hfit d' o g (by omega)
  have hkk:(Fu.mk 5 m [f0]).k=5:=rfl
  rw[hkk] at h133
  cases hsp:setP 5 (.mk 0 gs ws) with
  | false=>
   rw[hsp] at h133
   refine fin L (zN (by rw[hloc,hsp])) fun S0 hS=> ?_
   unfold c152
   rw[zO,zV]
   simp[hDd,hS,hwL,hws]
   refine zP h133 (by simp[zO,zV,hws]) (hM _ _ _ _) (by simp) ?_
   simp[hDd]
  | true=>
   rw[hsp] at h133 hloc
   have hok:=okC_loc' (left:=L) hloc
   rw[hP,okP_rep,<-hL] at hok
   obtain ⟨l1,hl1,hrd⟩:=l128 D n 5 m f0 (hfg f0 (by simp)) gs hgl d' o g hd hrec gs.length 0 L (okCr n f0 gs L) (by omega) (by omega) (by simp)
   generalize hb1:okCr n f0 gs L=b1 at*
   refine go l1 b1 hok ?_ fun S0 hS=> ?_
   ·intro e
    rw[hl1 e,zU,List.drop_zero]
    congr 1;omega
   unfold c152
   rw[zO,zV]
   simp[hDd,hS,hwL,hws]
   refine zP h133 (by simp[zO,zV,hws]) (hM _ _ _ _) (by simp) ?_
   simp[hDd,c152_j0]
   refine hrd S0 _ _ ?_ ?_ ?_ ?_ ?_ ?_
   all_goals simp
 ·-- 6
  by_cases ha:a=0
  case neg=>
   refine fin L (zN (by rw[locP_k,numOk_k];simp;omega)) fun S0 hS=> ?_
   unfold c152
   rw[zO,zV]
   simp[hDd,hS,hwL,ha]
  subst ha
  obtain ⟨f0,rfl⟩:∃f0,fg= [f0]:=by
   match fg,hfl with
   | [a],_=>exact ⟨a,rfl⟩
  have hP:y4 (.mk 6 m [f0]) (.mk 0 gs ws)=List.replicate gs.length f0:=by rw[y8];rfl
  have hloc:locP n (.mk 6 m [f0]) (.mk 0 gs ws)=setP 6 (.mk 0 gs ws):=by
   rw[setP_eq (show sets 6=true from rfl) (.mk 0 gs ws) (fun h=>absurd h (by omega))]
   have e1:partsOk (.mk 6 m [f0]) (.mk 0 gs ws)=true:=by rw[partsOk_k,hP];simp
   have e2:numOk (.mk 6 m [f0]) n (.mk 0 gs ws)=true:=by rw[numOk_k];rfl
   rw[locP_k,e1,e2,Bool.true_and,Bool.true_and];rfl
  have h133:=spec187 (D+1) (.mk 6 m [f0]) n L (.mk 0 gs ws) hfit d' o g (by omega)
  have hkk:(Fu.mk 6 m [f0]).k=6:=rfl
  rw[hkk] at h133
  cases hsp:setP 6 (.mk 0 gs ws) with
  | false=>
   rw[hsp] at h133
   refine fin L (zN (by rw[hloc,hsp])) fun S0 hS=> ?_
   unfold c152
   rw[zO,zV]
   simp[hDd,hS,hwL]
   refine zP h133 (by simp[zO,zV]) (hM _ _ _ _) (by simp) ?_
   simp[hDd]
  | true=>
   rw[hsp] at h133 hloc
   have hok:=okC_loc' (left:=L) hloc
   rw[hP,okP_rep,<-hL] at hok
   obtain ⟨l1,hl1,hrd⟩:=l128 D n 6 m f0 (hfg f0 (by simp)) gs hgl d' o g hd hrec gs.length 0 L (okCr n f0 gs L) (by omega) (by omega) (by simp)
   generalize hb1:okCr n f0 gs L=b1 at*
   refine go l1 b1 hok ?_ fun S0 hS=> ?_
   ·intro e
    rw[hl1 e,zU,List.drop_zero]
    congr 1;omega
   unfold c152
   rw[zO,zV]
   simp[hDd,hS,hwL]
   refine zP h133 (by simp[zO,zV]) (hM _ _ _ _) (by simp) ?_
   simp[hDd,c152_j0]
   refine hrd S0 _ _ ?_ ?_ ?_ ?_ ?_ ?_
   all_goals simp
 ·-- 7
  by_cases ha:a=0
  case neg=>
   refine fin L (zN (by rw[locP_k,numOk_k];simp;omega)) fun S0 hS=> ?_
   unfold c152
   rw[zO,zV]
   simp[hDd,hS,hwL,ha]
  subst ha
  obtain ⟨f0,rfl⟩:∃f0,fg= [f0]:=by
   match fg,hfl with
   | [a],_=>exact ⟨a,rfl⟩
  have hP:y4 (.mk 7 m [f0]) (.mk 0 gs ws)=List.replicate gs.length f0:=by rw[y8];rfl
  have hloc:locP n (.mk 7 m [f0]) (.mk 0 gs ws)=setP 7 (.mk 0 gs ws):=by
   rw[setP_eq (show sets 7=true from rfl) (.mk 0 gs ws) (fun h=>absurd h (by omega))]
   have e1:partsOk (.mk 7 m [f0]) (.mk 0 gs ws)=true:=by rw[partsOk_k,hP];simp
   have e2:numOk (.mk 7 m [f0]) n (.mk 0 gs ws)=true:=by rw[numOk_k];rfl
   rw[locP_k,e1,e2,Bool.true_and,Bool.true_and];rfl
  have h133:=spec187 (D+1) (.mk 7 m [f0]) n L (.mk 0 gs ws) hfit d' o g (by omega)
  have hkk:(Fu.mk 7 m [f0]).k=7:=rfl
  rw[hkk] at h133
  cases hsp:setP 7 (.mk 0 gs ws) with
  | false=>
   rw[hsp] at h133
   refine fin L (zN (by rw[hloc,hsp])) fun S0 hS=> ?_
   unfold c152
   rw[zO,zV]
   simp[hDd,hS,hwL]
   refine zP h133 (by simp[zO,zV]) (hM _ _ _ _) (by simp) ?_
   simp[hDd]
  | true=>
   rw[hsp] at h133 hloc
   have hok:=okC_loc' (left:=L) hloc
   rw[hP,okP_rep,<-hL] at hok
   obtain ⟨l1,hl1,hrd⟩:=l128 D n 7 m f0 (hfg f0 (by simp)) gs hgl d' o g hd hrec gs.length 0 L (okCr n f0 gs L) (by omega) (by omega) (by simp)
   generalize hb1:okCr n f0 gs L=b1 at*
   refine go l1 b1 hok ?_ fun S0 hS=> ?_
   ·intro e
    rw[hl1 e,zU,List.drop_zero]
    congr 1;omega
   unfold c152
   rw[zO,zV]
   simp[hDd,hS,hwL]
   refine zP h133 (by simp[zO,zV]) (hM _ _ _ _) (by simp) ?_
   simp[hDd,c152_j0]
   refine hrd S0 _ _ ?_ ?_ ?_ ?_ ?_ ?_
   all_goals simp
theorem spec126 (f:Fu) (hf:zJ f=true) (n:Nat) (hn:n<=2000) (v:Va) (hv:fitV v) (D:Nat):Go.Ab.Loc Pg Gl D 126 [encF f,.int .i64 n,encV v] [] (.bool (valV f n v)) []:=by
 have he:valV f n v=okC n f v 2000:=by unfold valV okC;rw[valP_eq]
 rw[he]
 refine zW zH tok rfl rfl fun S=> ?_
 unfold c126
 obtain ⟨l',_,hloc⟩:=spec152 n hn v hv f hf (D+1) 2000 D 10 1 (by omega) (by omega)
 rw[zB f,zK v]
 simp
 refine zP hloc (by simp[zB f,zK v]) ?_ (by simp) ?_
 ·intro m hm
  rw[List.mem_singleton] at hm;subst hm
  simp
 simp
end Go.Ab.Tab
/- Systems: the program's Valid. -/
namespace Go.Ab.Tab
open Go Go.Ab
theorem l95 (D:Nat) (s:Sy) (hsh:zJ s.f=true) (hl:s.m.length<=100) (hv:∀v∈s.m,fitV v) (hb:zT s.m<=2^32) (S):∀(j i t:Nat) (τ ω) (r:AV),i+j=s.m.length->t+zT (s.m.drop i)<=2^33->
  τ 1= .ptr D 1 1 0->τ 3= .int .i64 t->τ 17= .sl 3 (s.m.map encV) .no->τ 18= .int .i64 s.m.length->τ 19= .int .i64 i->
  ω 1=(1,.cells [.int .i64 s.f.k,.int .i64 s.f.n,.sl 3 (s.f.gs.map encF) .no,.sl 3 (s.m.map encV) .no])->
  r= .bool ((s.m.drop i).all (fun v=>valV s.f s.m.length v)&&decide (t+zT (s.m.drop i)<=20000))->
  Rd (Loc Pg Gl) .im (RetQ [.tmp 2] r S) [.lp c102_l0,.blk 0,.c c102_k0] (stF 38 D τ ω S):=by
 intro j
 induction j with
 | zero=>
  intro i t τ ω r hi ht h1 h3 h17 h18 h19 w1 hr
  refine zL c102_l0.eq_1 ?_
  obtain rfl:i=s.m.length:=by omega
  rw[List.drop_length,zT,Nat.add_zero] at hr
  simp at hr
  simp[h1,h3,h17,h18,h19,w1,c102_k0,hr]
  omega
 | succ j ih=>
  intro i t τ ω r hi ht h1 h3 h17 h18 h19 w1 hr
  refine zL c102_l0.eq_1 ?_
  have hlt:i < s.m.length:=by omega
  have hwr:=yC hlt (by unfold maxLen;omega)
  have hd:s.m.drop i=s.m[i]::s.m.drop (i+1):=List.drop_eq_getElem_cons hlt
  have hnm:=nodesVs_le (List.getElem_mem hlt)
  rw[hd,List.all_cons,zT,<-Nat.add_assoc] at hr
  rw[hd,zT,<-Nat.add_assoc] at ht
  simp[h1,h3,h17,h18,h19,w1,hlt,zK s.m[i]]
  refine zE (spec126 s.f hsh s.m.length (by omega) s.m[i] (hv _ (List.getElem_mem hlt)) _) (by simp[zK s.m[i],zB s.f]) ?_
  cases hb:valV s.f s.m.length s.m[i] with
  | false=>
   rw[hb] at hr
   simp at hr
   simp[hr]
  | true=>
   rw[hb,Bool.true_and] at hr
   simp[h3]
   refine zE (spec127 s.m[i] (by omega) _) (by simp[zK s.m[i]]) ?_
   have hwt:IntKind.i64.wrap ((t:Int)+(zU s.m[i]:Int))=((t+zU s.m[i]:Nat):Int):=by rw[<-zG (n:=t+zU s.m[i]) (by omega)];rfl
   simp[h3,h19,hwt,hwr,-Int.natCast_add]
   refine ih (i+1) (t+zU s.m[i]) _ _ r (by omega) (by omega) ?_ ?_ ?_ ?_ ?_ ?_ hr
   all_goals simp[h1,h3,h17,h18,h19,w1]
theorem spec102 (s:Sy) (hf:fitF s.f) (hl:s.m.length<=maxLen) (hv:∀v∈s.m,fitV v) (hb:zT s.m<=2^32) (D:Nat):Go.Ab.Loc Pg Gl D 102 [encY s] [] (.bool (isY s)) []:=by
 refine zW zH tok rfl rfl fun S=> ?_
 unfold c102
 generalize hr:AV.bool (isY s)=r
 unfold isY at hr
 unfold encY
 simp
 refine zE (spec114 s.f hf _) (by simp[zB s.f]) ?_
 cases h1:isF s.f with
 | false=>
  rw[h1,Bool.false_and] at hr
  simp[<-hr]
 | true=>
  rw[h1,Bool.true_and] at hr
  by_cases h2:s.m.length<=100
  ·rw[decide_eq_true h2,Bool.true_and] at hr
   have h2':¬100 < (s.m.length:Int):=by omega
   simp[h2']
   refine l95 D s (isF_shaped h1) h2 hv hb S s.m.length 0 0 _ _ r (by omega) (by rw[List.drop_zero];omega) ?_ ?_ ?_ ?_ ?_ ?_ (by rw[<-hr];simp)
   all_goals simp
  ·rw[decide_eq_false h2,Bool.false_and] at hr
   have h2':100 < (s.m.length:Int):=by omega
   simp[h2',<-hr]
end Go.Ab.Tab
/- Numbers of states as numbers of the program. -/
namespace Go.Ab.Tab
open Go Go.Ab
end Go.Ab.Tab
