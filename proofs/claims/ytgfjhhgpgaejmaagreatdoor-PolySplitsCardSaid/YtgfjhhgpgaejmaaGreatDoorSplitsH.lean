/- Arguments as data. -/
import Derived.Test.YtgfjhhgpgaejmaaGreatDoorSplitsG
import Derived.Test.YtgfjhhgpgaejmaaGreatDoorSplitsB4
namespace Go.Ab
open Go
section
variable {P : Program} {t : TypeId} {n : Nat} {cs : List AV}
theorem ty_int {k : IntKind} (hu : P.underlying t = some (.int k)) (h : tyOk P n t cs) : ∃ i,cs = [.int k i] ∧ (Lit.int k i).wf = true := by
 cases n with
 | zero => cases h
 | succ n => simpa only [tyOk,hu] using h
theorem ty_slice {e : TypeId} (hu : P.underlying t = some (.slice e)) (h : tyOk P n t cs) : ∃ xs n',cs = [.sl (P.cellsOf e) xs .no] ∧ xs.length ≤ maxLen ∧ ∀ x ∈ xs,∃ c,x = mkV P e c ∧ tyOk P n' e c := by
 cases n with
 | zero => cases h
 | succ n =>
  simp only [tyOk,hu] at h
  obtain ⟨xs,h1,h2,h3⟩ := h
  exact ⟨xs,n,h1,h2,h3⟩
def fieldsOf (P : Program) (t : TypeId) : List (TypeId × Nat) := match P.underlying t with
 | some (.struct fs) => fs.toList.map fun f => (f.type,f.offset)
 | _ => []
def isStruct (P : Program) (t : TypeId) : Bool := match P.underlying t with
 | some (.struct _) => true
 | _ => false
theorem map_exists {α β : Type} (f : α → β) (q : α → Prop) : ∀ (l : List β),(∀ x ∈ l,∃ a,x = f a ∧ q a) → ∃ bs : List α,l = bs.map f ∧ ∀ a ∈ bs,q a
 | [],_ => ⟨[],rfl,by simp⟩
 | x :: l,h => by
  obtain ⟨a,h1,h2⟩ := h x (by simp)
  obtain ⟨bs,h3,h4⟩ := map_exists f q l fun y hy => h y (by simp [hy])
  exact ⟨a :: bs,by simp [h1,h3],fun b hb => by rcases List.mem_cons.1 hb with rfl | hb; exact h2; exact h4 b hb⟩
theorem mkV_one (h : isAggT P t = false) (c : AV) : mkV P t [c] = c := by unfold mkV; rw [h]; rfl
theorem mkV_agg (h : isAggT P t = true) : mkV P t cs = .agg cs := by unfold mkV; rw [h]; rfl
end
set_option maxRecDepth 10000
set_option linter.unusedVariables false
set_option linter.unusedSimpArgs false
namespace Tab
theorem u3 : Pg.underlying 3 = some (.int .i64) := by kernel_rfl
theorem u26 : Pg.underlying 26 = some (.slice 3) := by kernel_rfl
theorem z3 : Pg.cellsOf 3 = 1 := by kernel_rfl
theorem z26 : Pg.cellsOf 26 = 1 := by kernel_rfl
theorem g3 : isAggT Pg 3 = false := by kernel_rfl
theorem g26 : isAggT Pg 26 = false := by kernel_rfl
theorem ty26 {n : Nat} {cs : List AV} (h : tyOk Pg n 26 cs) : ∃ l : List Int,cs = [encI l] ∧ l.length ≤ maxLen := by
 obtain ⟨xs,n',rfl,h2,h3⟩ := ty_slice u26 h
 obtain ⟨l,rfl,_⟩ := map_exists (AV.int .i64) (fun _ => True) xs fun x hx => by
  obtain ⟨c,rfl,hc⟩ := h3 x hx
  obtain ⟨i,rfl,_⟩ := ty_int u3 hc
  exact ⟨i,mkV_one g3 _,trivial⟩
 exact ⟨l,by rw [z3]; rfl,by simpa using h2⟩
theorem arg3 {a : AV} (h : Arg Pg 3 a) : ∃ n : Int,a = .int .i64 n := by
 obtain ⟨fuel,cs,h1,h2,rfl⟩ := h
 obtain ⟨i,rfl,_⟩ := ty_int u3 h1
 exact ⟨i,mkV_one g3 _⟩
theorem arg26 {a : AV} (h : Arg Pg 26 a) : ∃ l : List Int,a = encI l ∧ l.length ≤ maxLen := by
 obtain ⟨fuel,cs,h1,h2,rfl⟩ := h
 obtain ⟨l,rfl,hl⟩ := ty26 h1
 exact ⟨l,mkV_one g26 _,hl⟩
theorem u22 : Pg.underlying 22 = some (.slice 24) := by kernel_rfl
theorem u25 : Pg.underlying 25 = some (.slice 28) := by kernel_rfl
theorem s24 : isStruct Pg 24 = true := by kernel_rfl
theorem s28 : isStruct Pg 28 = true := by kernel_rfl
theorem f24 : fieldsOf Pg 24 = [(3,0),(3,1),(22,2)] := by kernel_rfl
theorem f28 : fieldsOf Pg 28 = [(3,0),(25,1),(26,2)] := by kernel_rfl
theorem z24 : Pg.cellsOf 24 = 3 := by kernel_rfl
theorem z28 : Pg.cellsOf 28 = 3 := by kernel_rfl
theorem z22 : Pg.cellsOf 22 = 1 := by kernel_rfl
theorem z25 : Pg.cellsOf 25 = 1 := by kernel_rfl
theorem g24 : isAggT Pg 24 = true := by kernel_rfl
theorem g28 : isAggT Pg 28 = true := by kernel_rfl
theorem ty_slice' {P : Program} {t e : TypeId} {n : Nat} {cs : List AV} (hu : P.underlying t = some (.slice e)) (h : tyOk P (n + 1) t cs) : ∃ xs,cs = [.sl (P.cellsOf e) xs .no] ∧ xs.length ≤ maxLen ∧ ∀ x ∈ xs,∃ c,x = mkV P e c ∧ tyOk P n e c := by
 simp only [tyOk,hu] at h
 exact h
theorem ty_struct' {P : Program} {t : TypeId} {n : Nat} {cs : List AV} (hs : isStruct P t = true) (h : tyOk P (n + 1) t cs) : cs.length = P.cellsOf t ∧ ∀ f ∈ fieldsOf P t,tyOk P n f.1 ((cs.drop f.2).take (P.cellsOf f.1)) := by
 unfold isStruct at hs
 unfold fieldsOf
 cases hu : P.underlying t with
 | none => rw [hu] at hs; cases hs
 | some d =>
  rw [hu] at hs
  cases d with
  | struct fs =>
   simp only [tyOk,hu] at h
   refine ⟨h.1,fun f hf => ?_⟩
   obtain ⟨g,hg,rfl⟩ := List.mem_map.1 hf
   exact h.2 g hg
  | _ => cases hs
theorem fitFs_of : ∀ {l : List Fu},(∀ a ∈ l,fitF a) → fitFs l
 | [],_ => by rw [fitFs]; trivial
 | a :: l,h => by rw [fitFs]; exact ⟨h a (by simp),fitFs_of fun b hb => h b (by simp [hb])⟩
theorem three {cs : List AV} (h : cs.length = 3) : ∃ a b c,cs = [a,b,c] := by
 match cs,h with
 | [a,b,c],_ => exact ⟨a,b,c,rfl⟩
theorem ty24 : ∀ (n : Nat) {cs : List AV},tyOk Pg n 24 cs → ∃ f : Fu,cs = [.int .i64 f.k,.int .i64 f.n,.sl 3 (f.gs.map encF) .no] ∧ fitF f := by
 intro n
 induction n using Nat.strongRecOn with
 | ind n ih =>
  intro cs h
  cases n with
  | zero => cases h
  | succ n =>
   obtain ⟨hl,hf⟩ := ty_struct' s24 h
   rw [f24] at hf
   rw [z24] at hl
   obtain ⟨a,b,c,rfl⟩ := three hl
   have k0 := hf (3,0) (by simp)
   have k1 := hf (3,1) (by simp)
   have k2 := hf (22,2) (by simp)
   rw [z3] at k0 k1
   rw [z22] at k2
   obtain ⟨i,e0,_⟩ := ty_int u3 k0
   obtain ⟨j,e1,_⟩ := ty_int u3 k1
   simp at e0 e1
   subst e0; subst e1
   cases n with
   | zero => cases k2
   | succ n =>
    obtain ⟨xs,e2,h2,h3⟩ := ty_slice' u22 k2
    obtain ⟨gs,hgs,hfit⟩ := map_exists encF fitF xs fun x hx => by
     obtain ⟨c',rfl,hc⟩ := h3 x hx
     obtain ⟨f,rfl,hff⟩ := ih n (by omega) hc
     exact ⟨f,by rw [mkV_agg g24,encF_eta],hff⟩
    subst hgs
    rw [z24] at e2
    simp at e2
    subst e2
    refine ⟨.mk i j gs,rfl,?_⟩
    rw [fitF]
    exact ⟨by simpa using h2,fitFs_of hfit⟩
theorem ty28 : ∀ (n : Nat) {cs : List AV},tyOk Pg n 28 cs → ∃ v : Va,cs = [.int .i64 v.n,.sl 3 (v.gs.map encV) .no,.sl 1 (v.ws.map (AV.int .i64)) .no] ∧ fitV v := by
 intro n
 induction n using Nat.strongRecOn with
 | ind n ih =>
  intro cs h
  cases n with
  | zero => cases h
  | succ n =>
   obtain ⟨hl,hf⟩ := ty_struct' s28 h
   rw [f28] at hf
   rw [z28] at hl
   obtain ⟨a,b,c,rfl⟩ := three hl
   have k0 := hf (3,0) (by simp)
   have k1 := hf (25,1) (by simp)
   have k2 := hf (26,2) (by simp)
   rw [z3] at k0
   rw [z25] at k1
   rw [z26] at k2
   obtain ⟨i,e0,_⟩ := ty_int u3 k0
   obtain ⟨ws,e2,hws⟩ := ty26 k2
   simp at e0 e2
   subst e0; subst e2
   cases n with
   | zero => cases k1
   | succ n =>
    obtain ⟨xs,e1,h2,h3⟩ := ty_slice' u25 k1
    obtain ⟨gs,hgs,hfit⟩ := map_exists encV fitV xs fun x hx => by
     obtain ⟨c',rfl,hc⟩ := h3 x hx
     obtain ⟨f,rfl,hff⟩ := ih n (by omega) hc
     exact ⟨f,by rw [mkV_agg g28,encV_eta],hff⟩
    subst hgs
    rw [z28] at e1
    simp at e1
    subst e1
    refine ⟨.mk i gs ws,rfl,?_⟩
    rw [fitV]
    exact ⟨⟨by simpa using h2,hws⟩,fitVs_of hfit⟩
theorem arg24 {a : AV} (h : Arg Pg 24 a) : ∃ f : Fu,a = encF f ∧ fitF f := by
 obtain ⟨fuel,cs,h1,h2,rfl⟩ := h
 obtain ⟨f,rfl,hf⟩ := ty24 _ h1
 exact ⟨f,by rw [mkV_agg g24,encF_eta],hf⟩
theorem arg28 {a : AV} (h : Arg Pg 28 a) : ∃ v : Va,a = encV v ∧ fitV v := by
 obtain ⟨fuel,cs,h1,h2,rfl⟩ := h
 obtain ⟨v,rfl,hf⟩ := ty28 _ h1
 exact ⟨v,by rw [mkV_agg g28,encV_eta],hf⟩
end Tab
end Go.Ab
/- The reference's flat (70),Shape (29). -/
namespace Go.Ab.Tab
open Go Go.Ab
set_option maxRecDepth 10000
set_option linter.unusedVariables false
set_option linter.unusedSimpArgs false
mutual
def flatV : Va → Fu → Va
 | .mk a gs ws,f => if f.k = 0 then .mk 0 gs ws else if partsOk f (.mk a gs ws) then .mk a (flatVs gs (partsF f (.mk a gs ws))) ws else .mk a gs ws
def flatVs : List Va → List Fu → List Va
 | [],_ => []
 | _ :: _,[] => []
 | v :: l,f :: fs => flatV v f :: flatVs l fs
end
theorem flatV_eta (v : Va) (f : Fu) : flatV v f = if f.k = 0 then .mk 0 v.gs v.ws else if partsOk f v then .mk v.n (flatVs v.gs (partsF f v)) v.ws else v := by cases v; rw [flatV]; rfl
theorem l70 (D : Nat) (f : Fu) (v : Va) (hvl : v.gs.length ≤ 2 ^ 30) (hpl : (partsF f v).length = v.gs.length)
  (hrec : ∀ (i : Nat) (h1 : i < v.gs.length) (h2 : i < (partsF f v).length),∀ (D : Nat),Go.Ab.Loc Pg Gl D 70 [encF (partsF f v)[i],encV v.gs[i]] [] (encV (flatV v.gs[i] (partsF f v)[i])) []) (S) (r : AV) :
  ∀ (j i : Nat) (acc : List Va) (τ ω),i + j = v.gs.length → acc.length = i →
  τ 4 = .ptr D 4 1 0 → τ 5 = .sl 3 ((partsF f v).map encF) .no → τ 7 = .ptr D 7 1 0 → τ 33 = .sl 3 (v.gs.map encV) .no → τ 34 = .int .i64 v.gs.length → τ 35 = .int .i64 i →
  ω 4 = (1,.cells [.int .i64 0,.sl 3 [] .tip,.sl 1 [] .tip]) → ω 7 = (1,.cells [.int .i64 v.n,.sl 3 (acc.map encV) .tip,.sl 1 (v.ws.map (AV.int .i64)) .no]) →
  r = encV (.mk v.n (acc ++ flatVs (v.gs.drop i) ((partsF f v).drop i)) v.ws) →
  Rd (Loc Pg Gl) .im (RetQ [.cell 4 true 3] r S) [.lp c70_l0,.blk 0,.c c70_k0] (stF 53 D τ ω S) := by
 intro j
 induction j with
 | zero =>
  intro i acc τ ω hi hal h4 h5 h7 h33 h34 h35 w4 w7 hr
  refine Rd_lpE c70_l0.eq_1 ?_
  obtain rfl : i = v.gs.length := by omega
  rw [List.drop_length,flatVs,List.append_nil,encV_mk] at hr
  simp [h4,h7,h34,h35,w4,w7,c70_k0,hr]
 | succ j ih =>
  intro i acc τ ω hi hal h4 h5 h7 h33 h34 h35 w4 w7 hr
  refine Rd_lpE c70_l0.eq_1 ?_
  have hlt : i < v.gs.length := by omega
  have hlp : i < (partsF f v).length := by omega
  have hwr := wrap_next hlt (by unfold maxLen; omega)
  have hle : (i + 1) * 56 ≤ 1099511627776 := by omega
  rw [List.drop_eq_getElem_cons hlt,List.drop_eq_getElem_cons hlp,flatVs] at hr
  have hc := hrec i hlt hlp (D + 1)
  simp [h5,h7,h33,h34,h35,w7,hlt,hlp,encV_eta v.gs[i],encF_eta (partsF f v)[i]]
  refine Rd_drCall hc (by simp [encV_eta v.gs[i],encF_eta (partsF f v)[i]]) ?_
  generalize flatV v.gs[i] (partsF f v)[i] = u at hr
  simp [encV_eta u,h7,w7,hal,hle,h35,hwr]
  refine ih (i + 1) (acc ++ [u]) _ _ (by omega) (by simp [hal]) ?_ ?_ ?_ ?_ ?_ ?_ ?_ ?_ (by rw [hr]; simp)
  all_goals simp [h4,h5,h7,h33,h34,w4,encV_eta u]
theorem spec70 : ∀ (v : Va),fitV v → nodesV v ≤ 2 ^ 30 → ∀ (f : Fu),shapedF f = true → ∀ (D : Nat),Go.Ab.Loc Pg Gl D 70 [encF f,encV v] [] (encV (flatV v f)) [] := by
 refine Va.ind' fun a gs ws hrec => ?_
 intro hfit hnod f hf D
 have hfit' := (fitV_gs _).1 hfit
 rw [nodesV] at hnod
 refine loc_rd mixedP tok rfl rfl fun S => ?_
 generalize hv' : Va.mk a gs ws = v at *
 have ev : v.gs = gs := by rw [← hv']; rfl
 rw [flatV_eta]
 unfold c70
 rw [encF_eta f,encV_eta v]
 by_cases k0 : f.k = 0
 ·rw [if_pos k0,encV_mk]
  simp [k0]
 ·rw [if_neg k0]
  simp [k0]
  refine Rd_call (spec52 _ f hf v (by have := nodesVs_len gs; rw [ev]; omega)) (by simp [encF_eta f,encV_eta v]) ?_
  cases hpo : partsOk f v with
  | false => simp [rParts,hpo,encV_eta v]
  | true =>
   have hpl : (partsF f v).length = v.gs.length := by
    unfold partsOk at hpo
    simp only [Bool.and_eq_true,decide_eq_true_eq] at hpo
    exact hpo.2
   simp [rParts,hpo]
   refine l70 D f v (by have := nodesVs_len gs; rw [ev]; omega) hpl (fun i h1 h2 D => ?_) S _ v.gs.length 0 [] _ _ (by omega) rfl ?_ ?_ ?_ ?_ ?_ ?_ ?_ ?_ ?_
   case refine_1 =>
    have hm : v.gs[i] ∈ gs := by rw [← ev]; exact List.getElem_mem h1
    have hgm := List.getElem_mem h2
    exact hrec _ hm (fitVs_mem hfit'.2 _ (List.getElem_mem h1)) (by have := nodesVs_le hm; omega) _ (partsF_shaped hf v _ hgm) D
   all_goals simp
theorem flatVs_len : ∀ (l : List Va) (fs : List Fu),fs.length = l.length → (flatVs l fs).length = l.length
 | [],_,_ => by rw [flatVs]
 | v :: l,[],h => by simp at h
 | v :: l,f :: fs,h => by rw [flatVs,List.length_cons,List.length_cons,flatVs_len l fs (by simpa using h)]
mutual
theorem flatV_nodes : ∀ (v : Va) (f : Fu),nodesV (flatV v f) = nodesV v
 | .mk a gs ws,f => by
  rw [flatV]
  by_cases k0 : f.k = 0
  ·rw [if_pos k0,nodesV,nodesV]
  ·rw [if_neg k0]
   cases hp : partsOk f (.mk a gs ws) with
   | false => rfl
   | true =>
    have hpl : (partsF f (.mk a gs ws)).length = gs.length := by
     unfold partsOk at hp
     simp only [Bool.and_eq_true,decide_eq_true_eq] at hp
     exact hp.2
    rw [if_pos rfl,nodesV,nodesV,flatVs_nodes gs _ hpl]
theorem flatVs_nodes : ∀ (l : List Va) (fs : List Fu),fs.length = l.length → nodesVs (flatVs l fs) = nodesVs l
 | [],_,_ => by rw [flatVs]
 | v :: l,[],h => by simp at h
 | v :: l,f :: fs,h => by rw [flatVs,nodesVs,nodesVs,flatV_nodes v f,flatVs_nodes l fs (by simpa using h)]
end
mutual
theorem flatV_fit : ∀ (v : Va) (f : Fu),fitV v → fitV (flatV v f)
 | .mk a gs ws,f,h => by
  rw [fitV] at h
  rw [flatV]
  by_cases k0 : f.k = 0
  ·rw [if_pos k0,fitV]; exact h
  ·rw [if_neg k0]
   cases hp : partsOk f (.mk a gs ws) with
   | false => rw [if_neg (by simp),fitV]; exact h
   | true =>
    have hpl : (partsF f (.mk a gs ws)).length = gs.length := by
     unfold partsOk at hp
     simp only [Bool.and_eq_true,decide_eq_true_eq] at hp
     exact hp.2
    rw [if_pos rfl,fitV,flatVs_len gs _ hpl]
    exact ⟨h.1,flatVs_fit gs _ h.2⟩
theorem flatVs_fit : ∀ (l : List Va) (fs : List Fu),fitVs l → fitVs (flatVs l fs)
 | [],_,_ => by rw [flatVs,fitVs]; trivial
 | v :: l,[],h => by rw [flatVs,fitVs]; trivial
 | v :: l,f :: fs,h => by
  rw [fitVs] at h
  rw [flatVs,fitVs]
  exact ⟨flatV_fit v f h.1,flatVs_fit l fs h.2⟩
end
theorem partsF_gs {f : Fu} {a : Int} {gs hs ws zs} (h : gs.length = hs.length) : partsF f (.mk a gs ws) = partsF f (.mk a hs zs) := by
 unfold partsF
 simp only [Va.n,Va.gs,h]
 rfl
mutual
theorem flat_val (n : Nat) : ∀ (v : Va) (f : Fu),shapedF f = true → polyF f = true → (valN n v f = true ↔ valN 1 (flatV v f) f = true ∧ ∀ x ∈ leavesV v f,0 ≤ x ∧ x < n)
 | .mk a gs ws,f,hf,hp => by
  have hs := poly_sets hp
  have hw : wtd f.k = false := by unfold sets at hs; simp only [Bool.or_eq_false_iff] at hs; exact hs.2
  rw [flatV,leavesV]
  by_cases k0 : f.k = 0
  ·rw [if_pos k0,if_pos k0,valN,valN]
   have e : partsF f (.mk 0 gs ws) = partsF f (.mk a gs ws) := by unfold partsF; simp [k0]
   have e0 : partsF f (.mk a gs ws) = [] := by unfold partsF; simp [k0]
   unfold okV partsOk setOk weighedR numOk
   rw [e,e0,hs,hw]
   simp only [Va.n,Va.gs,Va.ws,k0,List.mem_singleton,forall_eq]
   cases gs with
   | cons b l => simp
   | nil =>
    simp only [valNs]
    simp
    constructor
    ·rintro ⟨⟨h1,h2⟩,h3⟩
     exact ⟨h3,of_decide_eq_true h1,by omega⟩
    ·rintro ⟨h3,h1,h2⟩
     exact ⟨⟨decide_eq_true h1,by omega⟩,h3⟩
  ·rw [if_neg k0,if_neg k0]
   cases hpo : partsOk f (.mk a gs ws) with
   | false =>
    have : okV n f (.mk a gs ws) = false := by unfold okV; rw [hpo]; rfl
    have h' : okV 1 f (.mk a gs ws) = false := by unfold okV; rw [hpo]; rfl
    rw [if_neg (by simp),valN,valN,this,h']
    simp
   | true =>
    have hpl : (partsF f (.mk a gs ws)).length = gs.length := by
     unfold partsOk at hpo
     simp only [Bool.and_eq_true,decide_eq_true_eq] at hpo
     exact hpo.2
    have hfl := flatVs_len gs _ hpl
    have e : partsF f (.mk a (flatVs gs (partsF f (.mk a gs ws))) ws) = partsF f (.mk a gs ws) := partsF_gs hfl
    rw [if_pos rfl,valN,valN,e]
    have ih := flats_val n gs (partsF f (.mk a gs ws)) hpl (fun g hg => ⟨partsF_shaped hf _ g hg,poly_parts hf hp _ g hg⟩)
    have eo : okV 1 f (.mk a (flatVs gs (partsF f (.mk a gs ws))) ws) = okV n f (.mk a gs ws) := by
     unfold okV partsOk numOk weighedR
     rw [e,hw]
     simp only [Va.n,Va.gs,Va.ws,hfl,if_neg k0]
     rfl
    rw [eo]
    have es : ∀ w : Va,setOk f.k w = true := by intro w; unfold setOk; rw [hs]; rfl
    rw [es,es]
    simp only [Bool.and_eq_true,Bool.true_and]
    rw [ih]
    constructor
    ·rintro ⟨h1,h2,h3⟩; exact ⟨⟨h1,h2⟩,h3⟩
    ·rintro ⟨⟨h1,h2⟩,h3⟩; exact ⟨h1,h2,h3⟩
theorem flats_val (n : Nat) : ∀ (l : List Va) (fs : List Fu),fs.length = l.length → (∀ g ∈ fs,shapedF g = true ∧ polyF g = true) → (valNs n l fs = true ↔ valNs 1 (flatVs l fs) fs = true ∧ ∀ x ∈ leavesVs l fs,0 ≤ x ∧ x < n)
 | [],fs,_,_ => by rw [flatVs,leavesVs,valNs,valNs]; simp
 | v :: l,[],h,_ => by simp at h
 | v :: l,f :: fs,h,hf => by
  obtain ⟨h1,h2⟩ := hf f (List.mem_cons_self ..)
  rw [flatVs,leavesVs,valNs,valNs,Bool.and_eq_true,Bool.and_eq_true,flat_val n v f h1 h2,flats_val n l fs (by simpa using h) fun g hg => hf g (List.mem_cons_of_mem _ hg)]
  constructor
  ·rintro ⟨⟨a1,a2⟩,b1,b2⟩
   refine ⟨⟨a1,b1⟩,fun x hx => ?_⟩
   rcases List.mem_append.1 hx with hx | hx
   ·exact a2 x hx
   ·exact b2 x hx
  ·rintro ⟨⟨a1,b1⟩,c⟩
   exact ⟨⟨a1,fun x hx => c x (List.mem_append_left _ hx)⟩,b1,fun x hx => c x (List.mem_append_right _ hx)⟩
end
mutual
theorem wide_poly : ∀ (v : Va) (f : Fu),shapedF f = true → polyF f = true → wideV v f = false
 | .mk a gs ws,f,hf,hp => by
  rw [wideV,poly_sets hp,Bool.false_and,Bool.false_or]
  exact wides_poly gs _ fun g hg => ⟨partsF_shaped hf _ g hg,poly_parts hf hp _ g hg⟩
theorem wides_poly : ∀ (l : List Va) (fs : List Fu),(∀ g ∈ fs,shapedF g = true ∧ polyF g = true) → wideVs l fs = false
 | [],_,_ => by rw [wideVs]
 | _ :: _,[],_ => by rw [wideVs]
 | v :: l,f :: fs,h => by
  obtain ⟨h1,h2⟩ := h f (List.mem_cons_self ..)
  rw [wideVs,wide_poly v f h1 h2,wides_poly l fs fun g hg => h g (List.mem_cons_of_mem _ hg)]; rfl
end
theorem valV_poly {f : Fu} (hf : shapedF f = true) (hp : polyF f = true) (n : Nat) (v : Va) : valV f n v = (decide (nodesV v ≤ 2000) && valN n v f) := by
 unfold valV
 rw [wide_poly v f hf hp]
 simp
end Go.Ab.Tab
/- The reference's Shape (29); it is the program's. -/
namespace Go.Ab.Tab
open Go Go.Ab
set_option maxRecDepth 10000
set_option linter.unusedVariables false
set_option linter.unusedSimpArgs false
theorem ordL_app : ∀ (x y : List Int) (c : Nat),ordL c (x ++ y) = (ordL c x && ordL (c + x.length : Nat) y)
 | [],y,c => by simp [ordL]
 | a :: x,y,c => by
  have ih := ordL_app x y (c + 1)
  rw [List.cons_append,ordL,ordL,show (c : Int) + 1 = ((c + 1 : Nat) : Int) by omega,ih,List.length_cons,Bool.and_assoc,show c + 1 + x.length = c + (x.length + 1) by omega]
theorem ordL_mem : ∀ (l : List Int) (c : Nat),ordL c l = true → ∀ x ∈ l,(c : Int) ≤ x ∧ x < (c + l.length : Nat)
 | [],c,_,x,hx => by cases hx
 | a :: l,c,h,x,hx => by
  rw [ordL,Bool.and_eq_true,decide_eq_true_eq,show (c : Int) + 1 = ((c + 1 : Nat) : Int) by omega] at h
  rw [List.length_cons]
  rcases List.mem_cons.1 hx with rfl | hx
  ·omega
  ·have := ordL_mem l (c + 1) h.2 x hx
   omega
theorem ordL_range : ∀ (l : List Int) (c : Nat),(∀ (i : Nat) (h : i < l.length),l[i] = (c + i : Nat)) → ordL c l = true
 | [],c,_ => rfl
 | a :: l,c,h => by
  rw [ordL,Bool.and_eq_true,decide_eq_true_eq,show (c : Int) + 1 = ((c + 1 : Nat) : Int) by omega]
  refine ⟨by have h0 := h 0 (by simp); rw [List.getElem_cons_zero] at h0; exact h0,ordL_range l (c + 1) fun i hi => ?_⟩
  have := h (i + 1) (by simpa using hi)
  rw [List.getElem_cons_succ] at this
  rw [this]
  omega
theorem flat_poly {v : Va} {f : Fu} (hf : shapedF f = true) (hp : polyF f = true) (h : valN 1 (flatV v f) f = true) :
  v.ws = [] ∧ (f.k = 0 → v.gs = []) ∧ (f.k ≠ 0 → partsOk f v = true) ∧ (partsF f v).length = v.gs.length ∧ (f.k ≠ 0 → valNs 1 (flatVs v.gs (partsF f v)) (partsF f v) = true) := by
 obtain ⟨h1,h2,h3,h4⟩ := valN_poly hf hp h
 by_cases k0 : f.k = 0
 ·have e : flatV v f = .mk 0 v.gs v.ws := by rw [flatV_eta,if_pos k0]
  rw [e] at h1 h2 h4
  have e0 : ∀ w,partsF f w = [] := by intro w; unfold partsF; simp [k0]
  rw [e0] at h2
  have hg : v.gs = [] := List.eq_nil_of_length_eq_zero (show v.gs.length = 0 from h2.symm)
  exact ⟨h1,fun _ => hg,fun h => absurd k0 h,by rw [e0,hg]; rfl,fun h => absurd k0 h⟩
 ·cases hpo : partsOk f v with
  | false =>
   have e : flatV v f = v := by rw [flatV_eta,if_neg k0,hpo]; rfl
   rw [e,valN_eta] at h
   unfold okV at h
   rw [hpo] at h
   simp at h
  | true =>
   have e : flatV v f = .mk v.n (flatVs v.gs (partsF f v)) v.ws := by rw [flatV_eta,if_neg k0,hpo]; rfl
   have hpl : (partsF f v).length = v.gs.length := by
    have := hpo
    unfold partsOk at this
    simp only [Bool.and_eq_true,decide_eq_true_eq] at this
    exact this.2
   have ep : partsF f (flatV v f) = partsF f v := by
    rw [e]
    cases v with
    | mk a gs ws => exact partsF_gs (flatVs_len gs _ hpl)
   rw [ep,e] at h3
   rw [e] at h1
   exact ⟨h1,fun h => absurd h k0,fun _ => rfl,hpl,fun _ => h3⟩
mutual
theorem fill_ord : ∀ (v : Va) (f : Fu) (c : Nat),shapedF f = true → polyF f = true → valN 1 (flatV v f) f = true → (fillV (fun c => (c : Int)) c v f = v ↔ ordL c (leavesV v f) = true)
 | .mk a gs ws,f,c,hf,hp,h => by
  obtain ⟨h1,h2,h3,h4,h5⟩ := flat_poly hf hp h
  simp only [Va.ws,Va.gs] at h1 h2 h4 h5
  subst h1
  rw [fillV,leavesV]
  by_cases k0 : f.k = 0
  ·rw [if_pos k0,if_pos k0,h2 k0]
   simp [ordL,eq_comm]
  ·rw [if_neg k0,if_neg k0]
   have ih := fills_ord gs _ c h4 (fun g hg => ⟨partsF_shaped hf _ g hg,poly_parts hf hp _ g hg⟩) (h5 k0)
   rw [← ih]
   simp
theorem fills_ord : ∀ (l : List Va) (fs : List Fu) (c : Nat),fs.length = l.length → (∀ g ∈ fs,shapedF g = true ∧ polyF g = true) → valNs 1 (flatVs l fs) fs = true → (fillVs (fun c => (c : Int)) c l fs = l ↔ ordL c (leavesVs l fs) = true)
 | [],fs,c,_,_,_ => by rw [fillVs,leavesVs]; simp [ordL]
 | v :: l,[],c,h,_,_ => by simp at h
 | v :: l,f :: fs,c,hl,hf,h => by
  rw [flatVs,valNs,Bool.and_eq_true] at h
  obtain ⟨h1,h2⟩ := hf f (List.mem_cons_self ..)
  rw [fillVs,leavesVs,ordL_app,Bool.and_eq_true,← fill_ord v f c h1 h2 h.1,← fills_ord l fs _ (by simpa using hl) (fun g hg => hf g (List.mem_cons_of_mem _ hg)) h.2]
  simp
end
mutual
theorem flat_pt : ∀ (v : Va) (f : Fu),shapedF f = true → polyF f = true → valN 1 (flatV v f) f = true → ptV v f
 | .mk a gs ws,f,hf,hp,h => by
  obtain ⟨h1,h2,h3,h4,h5⟩ := flat_poly hf hp h
  rw [ptV]
  refine ⟨h4,?_⟩
  by_cases k0 : f.k = 0
  ·have := h2 k0
   simp only [Va.gs] at this
   subst this
   rw [ptVs]; trivial
  ·exact flats_pt gs _ h4 (fun g hg => ⟨partsF_shaped hf _ g hg,poly_parts hf hp _ g hg⟩) (h5 k0)
theorem flats_pt : ∀ (l : List Va) (fs : List Fu),fs.length = l.length → (∀ g ∈ fs,shapedF g = true ∧ polyF g = true) → valNs 1 (flatVs l fs) fs = true → ptVs l fs
 | [],_,_,_,_ => by rw [ptVs]; trivial
 | v :: l,[],h,_,_ => by simp at h
 | v :: l,f :: fs,hl,hf,h => by
  rw [flatVs,valNs,Bool.and_eq_true] at h
  obtain ⟨h1,h2⟩ := hf f (List.mem_cons_self ..)
  rw [ptVs]
  exact ⟨flat_pt v f h1 h2 h.1,flats_pt l fs (by simpa using hl) (fun g hg => hf g (List.mem_cons_of_mem _ hg)) h.2⟩
theorem val_light {n : Nat} (m : Nat) : ∀ (v : Va) (f : Fu),shapedF f = true → polyF f = true → valN n v f = true → lightV m v = true
 | .mk a gs ws,f,hf,hp,h => by
  obtain ⟨h1,h2,h3,_⟩ := valN_poly hf hp h
  simp only [Va.ws,Va.gs] at h1 h2 h3
  subst h1
  rw [lightV,vals_light m gs _ h2 (fun g hg => ⟨partsF_shaped hf _ g hg,poly_parts hf hp _ g hg⟩) h3]
  simp
theorem vals_light {n : Nat} (m : Nat) : ∀ (l : List Va) (fs : List Fu),fs.length = l.length → (∀ g ∈ fs,shapedF g = true ∧ polyF g = true) → valNs n l fs = true → lightVs m l = true
 | [],_,_,_,_ => by rw [lightVs]
 | v :: l,[],h,_,_ => by simp at h
 | v :: l,f :: fs,hl,hf,h => by
  rw [valNs,Bool.and_eq_true] at h
  obtain ⟨h1,h2⟩ := hf f (List.mem_cons_self ..)
  rw [lightVs,val_light m v f h1 h2 h.1,vals_light m l fs (by simpa using hl) (fun g hg => hf g (List.mem_cons_of_mem _ hg)) h.2]; rfl
end
def shapeR (f : Fu) (v : Va) : Bool := (decide (nodesV v ≤ 2000) && lightV 2000 v) && (valV f 1 (flatV v f) && decide (cmpV (shapeV v f) v = 0))
theorem shapeR_eq {f : Fu} (hf : shapedF f = true) (hp : polyF f = true) (v : Va) : shapeR f v = shapeB f v := by
 unfold shapeR shapeB
 rw [valV_poly hf hp,valV_poly hf hp,flatV_nodes]
 by_cases hn : nodesV v ≤ 2000
 case neg => simp [hn]
 rw [decide_eq_true hn,Bool.true_and,Bool.true_and,Bool.true_and]
 have hfv := flat_val 2000 v f hf hp
 rw [Bool.eq_iff_iff]
 simp only [Bool.and_eq_true,decide_eq_true_eq]
 constructor
 ·rintro ⟨_,h1,h2⟩
  have ho := (fill_ord v f 0 hf hp h1).1 ((cmpV_zero _ _).1 h2)
  refine ⟨hfv.2 ⟨h1,fun x hx => ?_⟩,ho⟩
  have := ordL_mem _ 0 ho x hx
  have hl := leavesV_le v f
  omega
 ·rintro ⟨h1,h2⟩
  have hfl := (hfv.1 h1).1
  exact ⟨val_light 2000 v f hf hp h1,hfl,(cmpV_zero _ _).2 ((fill_ord v f 0 hf hp hfl).2 h2)⟩
theorem spec29 (f : Fu) (hf : shapedF f = true) (hp : polyF f = true) (v : Va) (hv : fitV v) (hn : nodesV v ≤ 2 ^ 30) (D : Nat) : Go.Ab.Loc Pg Gl D 29 [encF f,encV v] [] (.bool (shapeB f v)) [] := by
 rw [← shapeR_eq hf hp]
 refine loc_rd mixedP tok rfl rfl fun S => ?_
 have h8 := spec8 v hv (D + 1) 2000 (by omega)
 have h70 := spec70 v hv hn f hf (D + 1)
 have h15 := spec15v f hf 1 (by omega) (flatV v f) (flatV_fit v f hv) (by rw [flatV_nodes]; omega) (D + 1)
 unfold c29 shapeR
 generalize (decide (nodesV v ≤ 2000) && lightV 2000 v) = b1 at h8
 rw [encF_eta f,encV_eta v]
 simp
 refine Rd_drCall h8 (by simp [encV_eta v]) ?_
 cases b1 with
 | false => simp
 | true =>
  simp
  refine Rd_drCall h70 (by simp [encV_eta v,encF_eta f]) ?_
  simp
  refine Rd_drCall h15 (by simp [encF_eta f,encV_eta (flatV v f)]) ?_
  cases hb : valV f 1 (flatV v f) with
  | false => simp
  | true =>
   have hpt := flat_pt v f hf hp (by rw [valV_poly hf hp] at hb; simp only [Bool.and_eq_true] at hb; exact hb.2)
   simp
   refine Rd_call (spec28p v hv hn f hf hpt _) (by simp [encF_eta f,encV_eta v]) ?_
   simp [encI,encV_eta (shapeV v f)]
   refine Rd_call (spec13 (shapeV v f) v (shape_fit v hv hn f) _) (by simp [encV_eta v,encV_eta (shapeV v f)]) ?_
   simp
end Go.Ab.Tab
/- Filling; the reference's join (71),Join (31). -/
namespace Go.Ab.Tab
open Go Go.Ab
set_option maxRecDepth 10000
set_option linter.unusedVariables false
set_option linter.unusedSimpArgs false
mutual
theorem fill_leaves (h : Nat → Int) : ∀ (v : Va) (f : Fu) (c : Nat),ptV v f → leavesV (fillV h c v f) f = (List.range' c (leavesV v f).length).map h
 | .mk a gs ws,f,c,hp => by
  rw [ptV] at hp
  rw [fillV,leavesV]
  by_cases k0 : f.k = 0
  ·rw [if_pos k0,if_pos k0,leavesV,if_pos k0]; rfl
  ·rw [if_neg k0,if_neg k0,leavesV,if_neg k0]
   have e : partsF f (.mk a (fillVs h c gs (partsF f (.mk a gs ws))) []) = partsF f (.mk a gs ws) := partsF_gs (fillVs_len h c gs _ (by omega))
   rw [e]
   exact fills_leaves h gs _ c hp.1 hp.2
theorem fills_leaves (h : Nat → Int) : ∀ (l : List Va) (fs : List Fu) (c : Nat),fs.length = l.length → ptVs l fs → leavesVs (fillVs h c l fs) fs = (List.range' c (leavesVs l fs).length).map h
 | [],fs,c,_,_ => by rw [fillVs,leavesVs]; rfl
 | v :: l,[],c,hl,_ => by simp at hl
 | v :: l,f :: fs,c,hl,hp => by
  rw [ptVs] at hp
  rw [fillVs,leavesVs,leavesVs,fill_leaves h v f c hp.1,fills_leaves h l fs _ (by simpa using hl) hp.2,List.length_append,← List.map_append]
  congr 1
  rw [List.range'_append_1]
end
theorem fill_llen (h : Nat → Int) {v : Va} {f : Fu} (c : Nat) (hp : ptV v f) : (leavesV (fillV h c v f) f).length = (leavesV v f).length := by rw [fill_leaves h v f c hp]; simp
mutual
theorem fill_fill (g h : Nat → Int) : ∀ (v : Va) (f : Fu) (c d : Nat),ptV v f → fillV g d (fillV h c v f) f = fillV g d v f
 | .mk a gs ws,f,c,d,hp => by
  rw [ptV] at hp
  rw [fillV,fillV]
  by_cases k0 : f.k = 0
  ·rw [if_pos k0,if_pos k0,fillV,if_pos k0]
  ·rw [if_neg k0,if_neg k0,fillV,if_neg k0]
   have e : partsF f (.mk a (fillVs h c gs (partsF f (.mk a gs ws))) []) = partsF f (.mk a gs ws) := partsF_gs (fillVs_len h c gs _ (by omega))
   rw [e,fills_fill g h gs _ c d hp.1 hp.2]
theorem fills_fill (g h : Nat → Int) : ∀ (l : List Va) (fs : List Fu) (c d : Nat),fs.length = l.length → ptVs l fs → fillVs g d (fillVs h c l fs) fs = fillVs g d l fs
 | [],fs,c,d,_,_ => by rw [fillVs,fillVs]
 | v :: l,[],c,d,hl,_ => by simp at hl
 | v :: l,f :: fs,c,d,hl,hp => by
  rw [ptVs] at hp
  rw [fillVs,fillVs,fillVs,fill_fill g h v f c d hp.1,fill_llen h c hp.1,fills_fill g h l fs _ _ (by simpa using hl) hp.2]
end
mutual
theorem fill_self (h : Nat → Int) {n : Nat} : ∀ (v : Va) (f : Fu) (c : Nat),shapedF f = true → polyF f = true → valN n v f = true → (∀ i x,(leavesV v f)[i]? = some x → h (c + i) = x) → fillV h c v f = v
 | .mk a gs ws,f,c,hf,hp,hv,hh => by
  obtain ⟨h1,h2,h3,h4⟩ := valN_poly hf hp hv
  simp only [Va.ws,Va.gs] at h1 h2 h3 h4
  subst h1
  rw [fillV]
  rw [leavesV] at hh
  by_cases k0 : f.k = 0
  ·have hg : gs = [] := by
    rcases h4 with h | h | h | h | h
    ·exact h.2.2.2
    all_goals exact absurd h.1 (by omega)
   subst hg
   rw [if_pos k0] at hh ⊢
   rw [show h c = a from hh 0 a rfl]
  ·rw [if_neg k0] at hh ⊢
   rw [fills_self h gs _ c h2 (fun g hg => ⟨partsF_shaped hf _ g hg,poly_parts hf hp _ g hg⟩) h3 hh]
theorem fills_self (h : Nat → Int) {n : Nat} : ∀ (l : List Va) (fs : List Fu) (c : Nat),fs.length = l.length → (∀ g ∈ fs,shapedF g = true ∧ polyF g = true) → valNs n l fs = true → (∀ i x,(leavesVs l fs)[i]? = some x → h (c + i) = x) → fillVs h c l fs = l
 | [],fs,c,_,_,_,_ => by rw [fillVs]
 | v :: l,[],c,hl,_,_,_ => by simp at hl
 | v :: l,f :: fs,c,hl,hf,hv,hh => by
  rw [valNs,Bool.and_eq_true] at hv
  obtain ⟨h1,h2⟩ := hf f (List.mem_cons_self ..)
  rw [leavesVs] at hh
  rw [fillVs,fill_self h v f c h1 h2 hv.1 (fun i x hx => hh i x (by
   have hlt := (List.getElem?_eq_some_iff.1 hx).1
   rw [List.getElem?_append_left hlt]; exact hx)),
   fills_self h l fs _ (by simpa using hl) (fun g hg => hf g (List.mem_cons_of_mem _ hg)) hv.2 fun i x hx => by
    have := hh ((leavesV v f).length + i) x (by rw [List.getElem?_append_right (by omega),Nat.add_sub_cancel_left]; exact hx)
    rw [← this]; congr 1; omega]
end
mutual
theorem fill_flat (h : Nat → Int) {n : Nat} : ∀ (v : Va) (f : Fu) (c : Nat),shapedF f = true → polyF f = true → valN n v f = true → flatV (fillV h c v f) f = flatV v f
 | .mk a gs ws,f,c,hf,hp,hv => by
  obtain ⟨h1,h2,h3,h4⟩ := valN_poly hf hp hv
  simp only [Va.ws,Va.gs] at h1 h2 h3 h4
  subst h1
  rw [fillV,flatV]
  by_cases k0 : f.k = 0
  ·have hg : gs = [] := by
    rcases h4 with h | h | h | h | h
    ·exact h.2.2.2
    all_goals exact absurd h.1 (by omega)
   subst hg
   rw [if_pos k0,if_pos k0,flatV,if_pos k0]
  ·have hl := fillVs_len h c gs (partsF f (.mk a gs [])) (by omega)
   have e : partsF f (.mk a (fillVs h c gs (partsF f (.mk a gs []))) []) = partsF f (.mk a gs []) := partsF_gs hl
   have hpo : partsOk f (.mk a gs []) = true := by
    rw [valN] at hv
    unfold okV at hv
    simp only [Bool.and_eq_true] at hv
    exact hv.1.1
   have hpo' : partsOk f (.mk a (fillVs h c gs (partsF f (.mk a gs []))) []) = true := by
    unfold partsOk at hpo ⊢
    rw [e]
    simp only [Va.n,Va.gs,hl] at hpo ⊢
    exact hpo
   rw [if_neg k0,if_neg k0,flatV,if_neg k0,hpo,hpo',if_pos rfl,if_pos rfl,e,fills_flat h gs _ c h2 (fun g hg => ⟨partsF_shaped hf _ g hg,poly_parts hf hp _ g hg⟩) h3]
theorem fills_flat (h : Nat → Int) {n : Nat} : ∀ (l : List Va) (fs : List Fu) (c : Nat),fs.length = l.length → (∀ g ∈ fs,shapedF g = true ∧ polyF g = true) → valNs n l fs = true → flatVs (fillVs h c l fs) fs = flatVs l fs
 | [],fs,c,_,_,_ => by rw [fillVs]
 | v :: l,[],c,hl,_,_ => by simp at hl
 | v :: l,f :: fs,c,hl,hf,hv => by
  rw [valNs,Bool.and_eq_true] at hv
  obtain ⟨h1,h2⟩ := hf f (List.mem_cons_self ..)
  rw [fillVs,flatVs,flatVs,fill_flat h v f c h1 h2 hv.1,fills_flat h l fs _ (by simpa using hl) (fun g hg => hf g (List.mem_cons_of_mem _ hg)) hv.2]
end
theorem fill_val (h : Nat → Int) {n m : Nat} {v : Va} {f : Fu} (hf : shapedF f = true) (hp : polyF f = true) (hv : valN n v f = true) (hh : ∀ i,i < (leavesV v f).length → 0 ≤ h i ∧ h i < m) : valN m (fillV h 0 v f) f = true ∧ nodesV (fillV h 0 v f) = nodesV v := by
 have e := fill_flat h v f 0 hf hp hv
 refine ⟨(flat_val m _ f hf hp).2 ⟨?_,fun x hx => ?_⟩,?_⟩
 ·rw [e]; exact ((flat_val n v f hf hp).1 hv).1
 ·rw [fill_leaves h v f 0 (val_pt v f hv)] at hx
  obtain ⟨i,hi,rfl⟩ := List.mem_map.1 hx
  rw [List.mem_range'_1] at hi
  exact hh i (by omega)
 ·rw [← flatV_nodes (fillV h 0 v f) f,e,flatV_nodes]
theorem shape_is {f : Fu} (hf : shapedF f = true) (hp : polyF f = true) {n : Nat} {v : Va} (hv : valN n v f = true) (hn : nodesV v ≤ 2000) : shapeB f (shapeV v f) = true := by
 have hl := leavesV_le v f
 obtain ⟨h1,h2⟩ := fill_val (fun c => (c : Int)) (m := 2000) hf hp hv (fun i hi => by omega)
 unfold shapeB
 rw [valV_poly hf hp]
 unfold shapeV
 rw [h1,h2,decide_eq_true hn,fill_leaves _ v f 0 (val_pt v f hv)]
 refine ordL_range _ 0 fun i hi => ?_
 simp
theorem shape_pos {f : Fu} {n : Nat} {v : Va} (hv : valN n v f = true) : (leavesV (shapeV v f) f).length = (leavesV v f).length := fill_llen _ 0 (val_pt v f hv)
theorem join_split {f : Fu} (hf : shapedF f = true) (hp : polyF f = true) {n : Nat} {v : Va} (hv : valN n v f = true) : joinV (leavesV v f) (shapeV v f) f = v := by
 unfold joinV shapeV
 rw [fill_fill _ _ v f 0 0 (val_pt v f hv)]
 refine fill_self _ v f 0 hf hp hv fun i x hx => ?_
 rw [Nat.zero_add,hx]; rfl
theorem split_join {f : Fu} (hf : shapedF f = true) (hp : polyF f = true) {v : Va} (hs : shapeB f v = true) {ws : List Int} (hl : ws.length = (leavesV v f).length) :
  shapeV (joinV ws v f) f = v ∧ leavesV (joinV ws v f) f = ws := by
 unfold shapeB at hs
 rw [Bool.and_eq_true] at hs
 obtain ⟨hn,hv⟩ := valV_ok hs.1
 have hpt := val_pt v f hv
 constructor
 ·unfold joinV shapeV
  rw [fill_fill _ _ v f 0 0 hpt]
  exact (fill_ord v f 0 hf hp ((flat_val _ v f hf hp).1 hv).1).2 hs.2
 ·unfold joinV
  rw [fill_leaves _ v f 0 hpt]
  apply List.ext_getElem (by simp [hl])
  intro i h1 h2
  simp [h2]
mutual
def joinF (ws : List Int) : Va → Fu → Va
 | .mk a gs _,f => if f.k = 0 then .mk (ws[a.toNat]?.getD 0) [] [] else .mk a (joinFs ws gs (partsF f (.mk a gs []))) []
def joinFs (ws : List Int) : List Va → List Fu → List Va
 | [],_ => []
 | _ :: _,[] => []
 | v :: l,f :: fs => joinF ws v f :: joinFs ws l fs
end
mutual
theorem join_fill (ws : List Int) : ∀ (v : Va) (f : Fu) (c : Nat),ptV v f → ordL c (leavesV v f) = true → joinF ws v f = fillV (fun c => ws[c]?.getD 0) c v f
 | .mk a gs zs,f,c,hp,ho => by
  rw [ptV] at hp
  rw [leavesV] at ho
  rw [joinF,fillV]
  by_cases k0 : f.k = 0
  ·rw [if_pos k0] at ho
   simp [ordL] at ho
   subst ho
   rw [if_pos k0,if_pos k0,Int.toNat_natCast]
  ·rw [if_neg k0] at ho
   have e : partsF f (.mk a gs []) = partsF f (.mk a gs zs) := partsF_gs rfl
   rw [if_neg k0,if_neg k0,e,joins_fill ws gs _ c hp.1 hp.2 ho]
theorem joins_fill (ws : List Int) : ∀ (l : List Va) (fs : List Fu) (c : Nat),fs.length = l.length → ptVs l fs → ordL c (leavesVs l fs) = true → joinFs ws l fs = fillVs (fun c => ws[c]?.getD 0) c l fs
 | [],fs,c,_,_,_ => by rw [joinFs,fillVs]
 | v :: l,[],c,hl,_,_ => by simp at hl
 | v :: l,f :: fs,c,hl,hp,ho => by
  rw [ptVs] at hp
  rw [leavesVs,ordL_app,Bool.and_eq_true] at ho
  rw [joinFs,fillVs,join_fill ws v f c hp.1 ho.1,joins_fill ws l fs _ (by simpa using hl) hp.2 ho.2]
end
theorem leavesVs_get : ∀ (l : List Va) (fs : List Fu) (i : Nat) (h1 : i < l.length) (h2 : i < fs.length),fs.length = l.length → ∀ x ∈ leavesV l[i] fs[i],x ∈ leavesVs l fs
 | [],_,i,h1,_,_,_,_ => absurd h1 (by simp)
 | v :: l,[],i,_,h2,_,_,_ => absurd h2 (by simp)
 | v :: l,f :: fs,i,h1,h2,hl,x,hx => by
  rw [leavesVs]
  cases i with
  | zero => exact List.mem_append_left _ hx
  | succ i => exact List.mem_append_right _ (leavesVs_get l fs i (by simpa using h1) (by simpa using h2) (by simpa using hl) x hx)
theorem l71j (D : Nat) (f : Fu) (v : Va) (ws : List Int) (hvl : v.gs.length ≤ 2 ^ 30) (hpl : (partsF f v).length = v.gs.length)
  (hrec : ∀ (i : Nat) (h1 : i < v.gs.length) (h2 : i < (partsF f v).length),∀ (D : Nat),Go.Ab.Loc Pg Gl D 71 [encF (partsF f v)[i],encV v.gs[i],encI ws] [] (encV (joinF ws v.gs[i] (partsF f v)[i])) []) (S) (r : AV) :
  ∀ (j i : Nat) (acc : List Va) (τ ω),i + j = v.gs.length → acc.length = i →
  τ 2 = encI ws → τ 6 = .ptr D 6 1 0 → τ 7 = .sl 3 ((partsF f v).map encF) .no → τ 9 = .ptr D 9 1 0 → τ 31 = .sl 3 (v.gs.map encV) .no → τ 32 = .int .i64 v.gs.length → τ 33 = .int .i64 i →
  ω 6 = (1,.cells [.int .i64 0,.sl 3 [] .tip,.sl 1 [] .tip]) → (∃ tw,ω 9 = (1,.cells [.int .i64 v.n,.sl 3 (acc.map encV) .tip,.sl 1 [] tw])) →
  r = encV (.mk v.n (acc ++ joinFs ws (v.gs.drop i) ((partsF f v).drop i)) []) →
  Rd (Loc Pg Gl) .im (RetQ [.cell 6 true 3] r S) [.lp c71_l0,.blk 0,.c c71_k0] (stF 52 D τ ω S) := by
 intro j
 induction j with
 | zero =>
  intro i acc τ ω hi hal h2 h6 h7 h9 h31 h32 h33 w6 w9 hr
  obtain ⟨tw,w9⟩ := w9
  refine Rd_lpE c71_l0.eq_1 ?_
  obtain rfl : i = v.gs.length := by omega
  rw [List.drop_length,joinFs,List.append_nil,encV_mk] at hr
  cases tw <;> simp [h6,h9,h32,h33,w6,w9,c71_k0,hr]
 | succ j ih =>
  intro i acc τ ω hi hal h2 h6 h7 h9 h31 h32 h33 w6 w9 hr
  obtain ⟨tw,w9⟩ := w9
  refine Rd_lpE c71_l0.eq_1 ?_
  have hlt : i < v.gs.length := by omega
  have hlp : i < (partsF f v).length := by omega
  have hwr := wrap_next hlt (by unfold maxLen; omega)
  have hle : (i + 1) * 56 ≤ 1099511627776 := by omega
  rw [List.drop_eq_getElem_cons hlt,List.drop_eq_getElem_cons hlp,joinFs] at hr
  have hc := hrec i hlt hlp (D + 1)
  rw [encI] at hc h2
  simp [h2,h7,h9,h31,h32,h33,w9,hlt,hlp,encV_eta v.gs[i],encF_eta (partsF f v)[i]]
  refine Rd_drCall hc (by simp [encV_eta v.gs[i],encF_eta (partsF f v)[i]]) ?_
  generalize joinF ws v.gs[i] (partsF f v)[i] = u at hr
  simp [encV_eta u,h9,w9,hal,hle,h33,hwr]
  refine ih (i + 1) (acc ++ [u]) _ _ (by omega) (by simp [hal]) ?_ ?_ ?_ ?_ ?_ ?_ ?_ ?_ ⟨tw,?_⟩ (by rw [hr]; simp)
  all_goals simp [h2,h6,h7,h9,h31,h32,w6,encV_eta u,encI]
theorem spec71 (ws : List Int) : ∀ (v : Va),fitV v → nodesV v ≤ 2 ^ 30 → ∀ (f : Fu),shapedF f = true → ptV v f → (∀ x ∈ leavesV v f,0 ≤ x ∧ x < ws.length) → ∀ (D : Nat),Go.Ab.Loc Pg Gl D 71 [encF f,encV v,encI ws] [] (encV (joinF ws v f)) [] := by
 refine Va.ind' fun a gs zs hrec => ?_
 intro hfit hnod f hf hpt hlv D
 have hfit' := (fitV_gs _).1 hfit
 rw [nodesV] at hnod
 refine loc_rd mixedP tok rfl rfl fun S => ?_
 obtain ⟨hpl,hps⟩ := (ptV_eta _ _).1 hpt
 generalize hv' : Va.mk a gs zs = v at *
 have ev : v.gs = gs := by rw [← hv']; rfl
 have ej : joinF ws v f = if f.k = 0 then .mk (ws[v.n.toNat]?.getD 0) [] [] else .mk v.n (joinFs ws v.gs (partsF f v)) [] := by
  rw [← hv',joinF]
  have e : partsF f (.mk a gs []) = partsF f (.mk a gs zs) := partsF_gs rfl
  rw [e]; rfl
 rw [leavesV_eta] at hlv
 rw [ej]
 unfold c71 encI
 rw [encF_eta f,encV_eta v]
 by_cases k0 : f.k = 0
 ·rw [if_pos k0] at hlv
  have := hlv v.n (List.mem_singleton.2 rfl)
  rw [if_pos k0,encV_mk]
  obtain ⟨m,hm⟩ : ∃ m : Nat,v.n = m := ⟨v.n.toNat,by omega⟩
  have hml : m < ws.length := by omega
  simp [k0,hm,hml]
 ·rw [if_neg k0] at hlv
  rw [if_neg k0]
  simp [k0]
  refine Rd_call (spec52 _ f hf v (by have := nodesVs_len gs; rw [ev]; omega)) (by simp [encF_eta f,encV_eta v]) ?_
  simp [rParts]
  refine l71j D f v ws (by have := nodesVs_len gs; rw [ev]; omega) hpl (fun i h1 h2 D => ?_) S _ v.gs.length 0 [] _ _ (by omega) rfl ?_ ?_ ?_ ?_ ?_ ?_ ?_ ?_ ⟨.tip,?_⟩ ?_
  case refine_1 =>
   have hm : v.gs[i] ∈ gs := by rw [← ev]; exact List.getElem_mem h1
   have hgm := List.getElem_mem h2
   exact hrec _ hm (fitVs_mem hfit'.2 _ (List.getElem_mem h1)) (by have := nodesVs_le hm; omega) _ (partsF_shaped hf v _ hgm) (ptVs_get hps i h1 h2) (fun x hx => hlv x (leavesVs_get _ _ i h1 h2 hpl x hx)) D
  all_goals simp [encI]
theorem spec31 (ws : List Int) (v : Va) (hfit : fitV v) (hnod : nodesV v ≤ 2 ^ 30) (f : Fu) (hf : shapedF f = true) (hp : polyF f = true) (hs : shapeB f v = true) (hl : ws.length = (leavesV v f).length) (D : Nat) : Go.Ab.Loc Pg Gl D 31 [encF f,encV v,encI ws] [] (encV (joinV ws v f)) [] := by
 unfold shapeB at hs
 rw [Bool.and_eq_true] at hs
 obtain ⟨hn,hv⟩ := valV_ok hs.1
 have hpt := val_pt v f hv
 have h71 := spec71 ws v hfit hnod f hf hpt (fun x hx => by have := ordL_mem _ 0 hs.2 x hx; omega) (D + 1)
 have ej : joinF ws v f = joinV ws v f := join_fill ws v f 0 hpt hs.2
 rw [ej] at h71
 refine loc_rd mixedP tok rfl rfl fun S => ?_
 unfold c31
 rw [encI] at h71 ⊢
 rw [encF_eta f,encV_eta v]
 simp
 refine Rd_call h71 (by simp [encF_eta f,encV_eta v]) ?_
 simp [encV_eta (joinV ws v f)]
end Go.Ab.Tab
