/- math/bits.Mul, slices.Repeat. -/
import Derived.Test.YtgfjhhgpgaejmaaGreatDoorApartF
namespace Go.Ab.Tab
open Go Go.Ab
set_option maxRecDepth 10000
set_option linter.unusedVariables false
set_option linter.unusedSimpArgs false
theorem spec134 (m : Nat) (hm : m ≤ 4) (D : Nat) : Go.Ab.Loc Pg Gl D 134 [.int .u64 1,.int .u64 m] [] (.tup [.int .u64 0,.int .u64 m]) [] := by
 refine loc_rd mixedP tok rfl rfl fun S => ?_
 unfold c134
 have hb : ∀ k : Nat,k ≤ 4 → bitsI .u64 (fun x y => x &&& y) (k : Int) 4294967295 = .int .u64 k := by
  intro k hk
  have : k = 0 ∨ k = 1 ∨ k = 2 ∨ k = 3 ∨ k = 4 := by omega
  rcases this with rfl | rfl | rfl | rfl | rfl <;> rfl
 have hs : ∀ k : Nat,k ≤ 4 → Int.fdiv (k : Int) (2 ^ (min 32 (IntKind.bits .u64))) = 0 := by
  intro k hk
  have : k = 0 ∨ k = 1 ∨ k = 2 ∨ k = 3 ∨ k = 4 := by omega
  rcases this with rfl | rfl | rfl | rfl | rfl <;> rfl
 have hb1 := hb 1 (by omega)
 have hs1 := hs 1 (by omega)
 have hs0 := hs 0 (by omega)
 have hb0 := hb 0 (by omega)
 have hw : ∀ k : Nat,k ≤ 4 → IntKind.u64.wrap (k : Int) = (k : Int) := fun k hk => wrap_u64_nat (by omega)
 have hw0 : IntKind.u64.wrap 0 = 0 := rfl
 have hbm := hb m hm
 have hsm := hs m hm
 have hwm := hw m hm
 simp only [Int.natCast_one,Int.natCast_zero,Int.ofNat_eq_natCast] at hb1 hs1 hs0 hb0
 simp [hb1,hs1,hs0,hb0,hbm,hsm,hwm,hw0]
theorem spec124 (m : Nat) (hm : m ≤ 4) (D : Nat) : Go.Ab.Loc Pg Gl D 124 [.int .u64 1,.int .u64 m] [] (.tup [.int .u64 0,.int .u64 m]) [] := by
 refine loc_rd mixedP tok rfl rfl fun S => ?_
 unfold c124
 simp
 refine Rd_call (spec134 m hm _) (by simp) ?_
 simp
theorem mapM_id {s : St} {k : Nat} : ∀ {cs : List AV},(∀ c ∈ cs,frz s k c = some (c,[]) ∧ c.strip1 = c ∧ c.one = true) → cs.mapM (frz s k) = some (cs.map fun c => (c,[]))
 | [],_ => rfl
 | c :: cs,h => by
  rw [List.mapM_cons,(h c (by simp)).1,mapM_id fun d hd => h d (by simp [hd])]
  rfl
theorem frz_cells {n D : Nat} {τ : Nat → AV} {ω : Nat → Ent} {S : Nat → Nat → Ent} {A g m : Nat} {cs : List AV} (hA : A < n) (hw : ω A = (g,.cells cs)) (hl : cs.length = m * 3)
  (hc : ∀ c ∈ cs,frz (stF n D τ ω S) 19 c = some (c,[]) ∧ c.strip1 = c ∧ c.one = true) :
  ∃ l,frz (stF n D τ ω S) frzD (.own D A g 0 m 3 true) = some (.sl 3 (groups 3 true m cs) .no,l) := by
 rw [show frzD = 19 + 1 from rfl,frz]
 simp only [stF_look,if_true,if_pos hA,hw]
 have h2 : cs.all AV.one = true := by rw [List.all_eq_true]; exact fun c h => (hc c h).2.2
 rw [if_pos ⟨trivial,rfl,by omega,.inl trivial,h2⟩]
 rw [List.drop_zero,← hl,List.take_length,mapM_id hc]
 simp only [List.map_map]
 refine ⟨(D,A) :: (cs.map ((fun x : AV × List (Nat × Nat) => x.2) ∘ fun c => (c,[]))).flatten,?_⟩
 have : cs.map ((fun x : AV × List (Nat × Nat) => x.1.strip1) ∘ fun c => (c,[])) = cs := by
  conv => rhs; rw [← List.map_id cs]
  exact List.map_congr_left fun c h => (hc c h).2.1
 rw [this]
theorem frz_repF {D : Nat} {τ : Nat → AV} {ω : Nat → Ent} {S : Nat → Nat → Ent} (g : Fu) (m : Nat) {cs : List AV} (hcs : cs = (List.replicate m [AV.int .i64 g.k,.int .i64 g.n,.sl 3 (g.gs.map encF) .no]).flatten) :
  ∃ l,frz (stF 48 D τ (upd ω 30 (1,.cells cs)) S) frzD (.own D 30 1 0 m 3 true) = some (.sl 3 (List.replicate m (encF g)) .no,l) := by
 have hg : ∀ m,groups 3 true m (List.replicate m [AV.int .i64 g.k,.int .i64 g.n,.sl 3 (g.gs.map encF) .no]).flatten = List.replicate m (encF g) := by
  intro m
  induction m with
  | zero => rfl
  | succ m ih => rw [List.replicate_succ,List.flatten_cons,groups,List.replicate_succ,encF_eta]; simp [ih,encF_eta]
 rw [← hg m,← hcs]
 refine frz_cells (by omega) (by simp) (by rw [hcs]; simp) fun c h => ?_
 rw [hcs] at h
 simp only [List.mem_flatten,List.mem_replicate] at h
 obtain ⟨l,⟨_,rfl⟩,hc⟩ := h
 simp only [List.mem_cons,List.mem_nil_iff,or_false] at hc
 rcases hc with rfl | rfl | rfl <;> exact ⟨rfl,rfl,rfl⟩
theorem spec102 (g : Fu) (m : Nat) (hm : 1 ≤ m) (hm4 : m ≤ 4) (D : Nat) : Go.Ab.Loc Pg Gl D 102 [.sl 3 [encF g] .no,.int .i64 m] [] (.sl 3 (List.replicate m (encF g)) .no) [] := by
 refine loc_rdF mixedP tok rfl rfl fun S => ?_
 unfold c102
 have hw : IntKind.u64.wrap (m : Int) = (m : Int) := wrap_u64_nat (by omega)
 have hw2 : IntKind.i64.wrap (m : Int) = (m : Int) := wrap_i64_nat (by omega)
 have hw1 : IntKind.u64.wrap 1 = 1 := rfl
 simp [c102_j1,hw,hw1,encF_eta g]
 refine Rd_call (spec124 m hm4 _) (by simp) ?_
 have hb : ¬ (9223372036854775807 : Int) < m := by omega
 have hm' : m = 1 ∨ m = 2 ∨ m = 3 ∨ m = 4 := by omega
 rcases hm' with rfl | rfl | rfl | rfl
 ·simp [c102_j0,okEl,newC,show IntKind.i64.wrap 1 = 1 from rfl,show IntKind.i64.wrap 2 = 2 from rfl,show IntKind.i64.wrap 3 = 3 from rfl,show IntKind.i64.wrap 4 = 4 from rfl]
  refine Rd_lpE c102_l0.eq_1 ?_
  have hfz : ∀ τ ω,∃ l,frz (stF 48 D τ (upd ω 30 (1,.cells [.int .i64 g.k,.int .i64 g.n,.sl 3 (g.gs.map encF) .no])) S) frzD (.own D 30 1 0 1 3 true) = some (.sl 3 (List.replicate 1 (encF g)) .no,l) := fun τ ω => frz_repF g 1 rfl
  simp [c102_k0]
  obtain ⟨l,hl⟩ := hfz _ _
  rw [hl]
  simp [List.replicate,encF_eta g]
 ·simp [c102_j0,okEl,newC,show IntKind.i64.wrap 1 = 1 from rfl,show IntKind.i64.wrap 2 = 2 from rfl,show IntKind.i64.wrap 3 = 3 from rfl,show IntKind.i64.wrap 4 = 4 from rfl]
  refine Rd_lpE c102_l0.eq_1 ?_
  simp [elemsOf,groups,okEl,newC,AV.clean,show IntKind.i64.wrap 1 = 1 from rfl,show IntKind.i64.wrap 2 = 2 from rfl,show IntKind.i64.wrap 3 = 3 from rfl,show IntKind.i64.wrap 4 = 4 from rfl]
  refine Rd_lpE c102_l0.eq_1 ?_
  have hfz : ∀ τ ω,∃ l,frz (stF 48 D τ (upd ω 30 (1,.cells [.int .i64 g.k,.int .i64 g.n,.sl 3 (g.gs.map encF) .no,.int .i64 g.k,.int .i64 g.n,.sl 3 (g.gs.map encF) .no])) S) frzD (.own D 30 1 0 2 3 true) = some (.sl 3 (List.replicate 2 (encF g)) .no,l) := fun τ ω => frz_repF g 2 rfl
  simp [c102_k0]
  obtain ⟨l,hl⟩ := hfz _ _
  rw [hl]
  simp [List.replicate,encF_eta g]
 ·simp [c102_j0,okEl,newC,show IntKind.i64.wrap 1 = 1 from rfl,show IntKind.i64.wrap 2 = 2 from rfl,show IntKind.i64.wrap 3 = 3 from rfl,show IntKind.i64.wrap 4 = 4 from rfl]
  refine Rd_lpE c102_l0.eq_1 ?_
  simp [elemsOf,groups,okEl,newC,AV.clean,show IntKind.i64.wrap 1 = 1 from rfl,show IntKind.i64.wrap 2 = 2 from rfl,show IntKind.i64.wrap 3 = 3 from rfl,show IntKind.i64.wrap 4 = 4 from rfl]
  refine Rd_lpE c102_l0.eq_1 ?_
  simp [elemsOf,groups,okEl,newC,AV.clean,show IntKind.i64.wrap 1 = 1 from rfl,show IntKind.i64.wrap 2 = 2 from rfl,show IntKind.i64.wrap 3 = 3 from rfl,show IntKind.i64.wrap 4 = 4 from rfl]
  refine Rd_lpE c102_l0.eq_1 ?_
  have hfz : ∀ τ ω,∃ l,frz (stF 48 D τ (upd ω 30 (1,.cells [.int .i64 g.k,.int .i64 g.n,.sl 3 (g.gs.map encF) .no,.int .i64 g.k,.int .i64 g.n,.sl 3 (g.gs.map encF) .no,.int .i64 g.k,.int .i64 g.n,.sl 3 (g.gs.map encF) .no])) S) frzD (.own D 30 1 0 3 3 true) = some (.sl 3 (List.replicate 3 (encF g)) .no,l) := fun τ ω => frz_repF g 3 rfl
  simp [c102_k0]
  obtain ⟨l,hl⟩ := hfz _ _
  rw [hl]
  simp [List.replicate,encF_eta g]
 ·simp [c102_j0,okEl,newC,show IntKind.i64.wrap 1 = 1 from rfl,show IntKind.i64.wrap 2 = 2 from rfl,show IntKind.i64.wrap 3 = 3 from rfl,show IntKind.i64.wrap 4 = 4 from rfl]
  refine Rd_lpE c102_l0.eq_1 ?_
  simp [elemsOf,groups,okEl,newC,AV.clean,show IntKind.i64.wrap 1 = 1 from rfl,show IntKind.i64.wrap 2 = 2 from rfl,show IntKind.i64.wrap 3 = 3 from rfl,show IntKind.i64.wrap 4 = 4 from rfl]
  refine Rd_lpE c102_l0.eq_1 ?_
  simp [elemsOf,groups,okEl,newC,AV.clean,show IntKind.i64.wrap 1 = 1 from rfl,show IntKind.i64.wrap 2 = 2 from rfl,show IntKind.i64.wrap 3 = 3 from rfl,show IntKind.i64.wrap 4 = 4 from rfl]
  refine Rd_lpE c102_l0.eq_1 ?_
  have hfz : ∀ τ ω,∃ l,frz (stF 48 D τ (upd ω 30 (1,.cells [.int .i64 g.k,.int .i64 g.n,.sl 3 (g.gs.map encF) .no,.int .i64 g.k,.int .i64 g.n,.sl 3 (g.gs.map encF) .no,.int .i64 g.k,.int .i64 g.n,.sl 3 (g.gs.map encF) .no,.int .i64 g.k,.int .i64 g.n,.sl 3 (g.gs.map encF) .no])) S) frzD (.own D 30 1 0 4 3 true) = some (.sl 3 (List.replicate 4 (encF g)) .no,l) := fun τ ω => frz_repF g 4 rfl
  simp [c102_k0]
  obtain ⟨l,hl⟩ := hfz _ _
  rw [hl]
  simp [List.replicate,encF_eta g]
end Go.Ab.Tab
/- The program's poly.values. -/
namespace Go.Ab.Tab
open Go Go.Ab
set_option maxRecDepth 10000
set_option linter.unusedVariables false
set_option linter.unusedSimpArgs false
def sumL : Nat → List Va → List (Option (List Va)) → Option (List Va)
 | _,acc,[] => some acc
 | _,_,none :: _ => none
 | n,acc,some l :: r => if 64 < acc.length + l.length then none else sumL (n + 1) (acc ++ l.map fun v => .mk n [v] []) r
def prodS (us l : List Va) : List Va := us.flatMap fun u => l.map fun v => .mk 0 (u.gs ++ [v]) []
def prodL : List Va → List (Option (List Va)) → Option (List Va)
 | acc,[] => some acc
 | _,none :: _ => none
 | acc,some l :: r => if 64 < acc.length * l.length then none else prodL (prodS acc l) r
mutual
def valsF : Fu → Option (List Va)
 | .mk k n gs => if k = 0 then some [v0] else if k = 1 then some ((List.range n.toNat).map fun (i : Nat) => .mk i [] []) else if k = 3 then sumL 0 [] (valsFs gs)
  else prodL [v0] (if k = 4 then List.replicate n.toNat ((valsFs gs).headD none) else valsFs gs)
def valsFs : List Fu → List (Option (List Va))
 | [] => []
 | f :: l => valsF f :: valsFs l
end
theorem valsFs_map : ∀ l,valsFs l = l.map valsF
 | [] => rfl
 | f :: l => by rw [valsFs,valsFs_map l]; rfl
def rVals (o : Option (List Va)) : AV := .tup [.sl 3 ((o.getD []).map encV) .no,.bool o.isSome]
theorem l75_0 (D : Nat) (n : Nat) (hn : n ≤ 16) (K : List AI) (S) : ∀ (j i : Nat) (τ ω),i + j = n →
  τ 4 = .sl 3 (((List.range i).map fun (i : Nat) => Va.mk i [] []).map encV) .tip → τ 33 = .int .i64 n → τ 34 = .int .i64 i →
  Rd (Loc Pg Gl) .im (RetQ [.tmp 2,.tmp 3] (rVals (some ((List.range n).map fun (i : Nat) => Va.mk i [] []))) S) (.lp c75_l0 :: .blk 1 :: .c c75_k0 :: K) (stF 146 D τ ω S) := by
 intro j
 induction j with
 | zero =>
  intro i τ ω hi h4 h33 h34
  refine Rd_lpE c75_l0.eq_1 ?_
  obtain rfl : i = n := by omega
  simp [h4,h33,h34,c75_k0,rVals]
 | succ j ih =>
  intro i τ ω hi h4 h33 h34
  refine Rd_lpE c75_l0.eq_1 ?_
  have hlt : i < n := by omega
  have hwr : IntKind.i64.wrap ((i : Int) + 1) = ((i + 1 : Nat) : Int) := by rw [← wrap_i64_nat (n := i + 1) (by omega)]; rfl
  have hle : (i + 1) * 56 ≤ 1099511627776 := by omega
  simp [h4,h33,h34,hlt,hle,hwr]
  refine ih (i + 1) _ _ (by omega) ?_ ?_ ?_
  all_goals simp [h33,List.range_succ,encV_mk]
theorem l75_1 (D : Nat) (n : Nat) (l : List Va) (hl : l.length ≤ 64) (Q : St → Prop) (K : List AI) (S) (w1 : Ent) : ∀ (j i : Nat) (acc : List Va) (τ : Nat → AV) (ω' : Nat → Ent),i + j = l.length → acc.length ≤ 64 + i → ω' 1 = w1 →
  τ 6 = .sl 3 (acc.map encV) .tip → τ 7 = .int .i64 n → τ 69 = .sl 3 (l.map encV) .no → τ 70 = .int .i64 l.length → τ 71 = .int .i64 i →
  (∀ (τ' : Nat → AV) (ω'' : Nat → Ent),ω'' 1 = w1 → τ' 6 = .sl 3 ((acc ++ (l.drop i).map fun v => Va.mk n [v] []).map encV) .tip → τ' 1 = τ 1 → τ' 47 = τ 47 → τ' 48 = τ 48 → τ' 49 = τ 49 → Rd (Loc Pg Gl) .im Q K (stF 146 D τ' ω'' S)) →
  Rd (Loc Pg Gl) .im Q (.lp c75_l1 :: .blk 5 :: K) (stF 146 D τ ω' S) := by
 intro j
 induction j with
 | zero =>
  intro i acc τ ω' hi hal v1 h6 h7 h69 h70 h71 hk
  refine Rd_lpE c75_l1.eq_1 ?_
  obtain rfl : i = l.length := by omega
  rw [List.drop_length,List.map_nil,List.append_nil] at hk
  simp [h70,h71]
  exact hk _ _ v1 (by simpa using h6) (by simp) (by simp) (by simp) (by simp)
 | succ j ih =>
  intro i acc τ ω' hi hal v1 h6 h7 h69 h70 h71 hk
  refine Rd_lpE c75_l1.eq_1 ?_
  have hlt : i < l.length := by omega
  have hwr := wrap_next hlt (by unfold maxLen; omega)
  have hle : (acc.length + 1) * 56 ≤ 1099511627776 := by omega
  rw [List.drop_eq_getElem_cons hlt,List.map_cons] at hk
  simp [h6,h7,h69,h70,h71,hlt,hle,hwr,encV_eta l[i]]
  refine ih (i + 1) (acc ++ [.mk n [l[i]] []]) _ _ (by omega) (by simp; omega) ?_ ?_ ?_ ?_ ?_ ?_ fun τ' ω'' v1' g6 g1 g47 g48 g49 => hk τ' ω'' v1' ?_ ?_ ?_ ?_ ?_
  case refine_7 => rw [g6,List.append_assoc]; rfl
  case refine_2 => simp [encV_mk,encV_eta l[i]]
  all_goals first | (simp [h7,h69,h70,v1]; done) | (simp [g1]; done) | (simp [g47]; done) | (simp [g48]; done) | (simp [g49]; done)
theorem l75_2 (D : Nat) (k nn : Int) (gs : List Fu) (hgl : gs.length ≤ 2) (hrec : ∀ a ∈ gs,∀ D,Go.Ab.Loc Pg Gl D 75 [encF a] [] (rVals (valsF a)) []) (hlen : ∀ a ∈ gs,∀ l,valsF a = some l → l.length ≤ 64) (K : List AI) (S) (r : AV) : ∀ (j i : Nat) (acc : List Va) (τ ω),i + j = gs.length → acc.length ≤ 64 →
  τ 1 = .ptr D 1 1 0 → τ 6 = .sl 3 (acc.map encV) .tip → τ 47 = .sl 3 (gs.map encF) .no → τ 48 = .int .i64 gs.length → τ 49 = .int .i64 i →
  ω 1 = (1,.cells [.int .i64 k,.int .i64 nn,.sl 3 (gs.map encF) .no]) → r = rVals (sumL i acc (valsFs (gs.drop i))) →
  Rd (Loc Pg Gl) .im (RetQ [.tmp 2,.tmp 3] r S) (.lp c75_l2 :: .blk 3 :: .c c75_k2 :: K) (stF 146 D τ ω S) := by
 intro j
 induction j with
 | zero =>
  intro i acc τ ω hi hal h1 h6 h47 h48 h49 w1 hr
  refine Rd_lpE c75_l2.eq_1 ?_
  obtain rfl : i = gs.length := by omega
  rw [List.drop_length,valsFs,sumL] at hr
  simp [h6,h48,h49,c75_k2,hr,rVals]
 | succ j ih =>
  intro i acc τ ω hi hal h1 h6 h47 h48 h49 w1 hr
  refine Rd_lpE c75_l2.eq_1 ?_
  have hlt : i < gs.length := by omega
  have hwr := wrap_next hlt (by unfold maxLen; omega)
  rw [List.drop_eq_getElem_cons hlt,valsFs] at hr
  simp [h47,h48,h49,hlt,encF_eta gs[i]]
  refine Rd_call (hrec gs[i] (List.getElem_mem hlt) _) (by simp [encF_eta gs[i]]) ?_
  cases hv : valsF gs[i] with
  | none =>
   rw [hv,sumL] at hr
   simp [rVals,hr]
  | some l =>
   rw [hv,sumL] at hr
   have hll := hlen _ (List.getElem_mem hlt) l hv
   have hsum : IntKind.i64.wrap ((acc.length : Int) + (l.length : Int)) = ((acc.length + l.length : Nat) : Int) := by rw [← wrap_i64_nat (n := acc.length + l.length) (by omega)]; rfl
   simp [rVals,h6,hsum,-Int.natCast_add]
   by_cases hb : 64 < acc.length + l.length
   ·rw [if_pos hb] at hr
    have hb' : (64 : Int) < (acc.length : Int) + (l.length : Int) := by omega
    simp [hb',hr,rVals]
   ·rw [if_neg hb] at hr
    have hb' : ¬ (64 : Int) < (acc.length : Int) + (l.length : Int) := by omega
    simp [hb']
    refine l75_1 D i l hll _ _ S (ω 1) l.length 0 acc _ _ (by omega) (by omega) ?_ ?_ ?_ ?_ ?_ ?_ fun τ' ω'' v1 g6 g1 g47 g48 g49 => ?_
    case refine_7 =>
     simp at g1 g47 g48 g49
     simp [c75_k1,g49,h49,hwr]
     refine ih (i + 1) _ _ _ (by omega) (by simp; omega) ?_ ?_ ?_ ?_ ?_ ?_ hr
     all_goals first | (simp [g1,h1]; done) | (simp [g47,h47]; done) | (simp [g48,h48]; done) | (rw [v1,w1]; done) | (simp [g6]; done) | simp
    all_goals simp [h6,w1]
def kp75 (t : Nat) : Prop := t = 1 ∨ t = 17 ∨ t = 97 ∨ t = 98 ∨ t = 99 ∨ t = 118 ∨ t = 119 ∨ t = 120
theorem l75_3 (D : Nat) (u : Va) (hu : u.gs.length ≤ 2 ^ 20) (l : List Va) (hl : l.length ≤ 64) (hlv : ∀ v ∈ l,nodesV v ≤ 2 ^ 30 ∧ lightV 0 v = true) (Q : St → Prop) (K : List AI) (S) (w1 : Ent) (gu : Nat) : ∀ (j i : Nat) (acc : List Va) (τ : Nat → AV) (ω' : Nat → Ent),i + j = l.length → acc.length ≤ 2 ^ 20 + i → ω' 1 = w1 →
  τ 19 = .sl 3 (acc.map encV) .tip → τ 21 = .ptr D 21 gu 0 → τ 124 = .sl 3 (l.map encV) .no → τ 125 = .int .i64 l.length → τ 126 = .int .i64 i →
  ω' 21 = (gu,.cells [.int .i64 u.n,.sl 3 (u.gs.map encV) .no,.sl 1 (u.ws.map (AV.int .i64)) .no]) →
  (∀ (τ' : Nat → AV) (ω'' : Nat → Ent),ω'' 1 = w1 → τ' 19 = .sl 3 ((acc ++ (l.drop i).map fun v => Va.mk 0 (u.gs ++ [v]) []).map encV) .tip → (∀ t,kp75 t → τ' t = τ t) → Rd (Loc Pg Gl) .im Q K (stF 146 D τ' ω'' S)) →
  Rd (Loc Pg Gl) .im Q (.lp c75_l3 :: .blk 11 :: K) (stF 146 D τ ω' S) := by
 intro j
 induction j with
 | zero =>
  intro i acc τ ω' hi hal v1 h19 h21 h124 h125 h126 w21 hk
  refine Rd_lpE c75_l3.eq_1 ?_
  obtain rfl : i = l.length := by omega
  rw [List.drop_length,List.map_nil,List.append_nil] at hk
  simp [h125,h126]
  exact hk _ _ v1 (by simpa using h19) (by rintro t (rfl | rfl | rfl | rfl | rfl | rfl | rfl | rfl) <;> simp)
 | succ j ih =>
  intro i acc τ ω' hi hal v1 h19 h21 h124 h125 h126 w21 hk
  refine Rd_lpE c75_l3.eq_1 ?_
  have hlt : i < l.length := by omega
  have hwr := wrap_next hlt (by unfold maxLen; omega)
  have hle : (acc.length + 1) * 56 ≤ 1099511627776 := by omega
  have hle2 : (u.gs.length + 1) * 56 ≤ 1099511627776 := by omega
  obtain ⟨hv1,hv2⟩ := hlv _ (List.getElem_mem hlt)
  rw [List.drop_eq_getElem_cons hlt,List.map_cons] at hk
  simp [h19,h21,h124,h125,h126,w21,hlt,encV_eta l[i]]
  refine Rd_drCall (spec103 u.gs (by omega) _) (by simp) ?_
  simp
  refine Rd_drCall (spec104 l[i] hv1 hv2 _) (by simp [encV_eta l[i]]) ?_
  simp [h19,h126,hle,hle2,hwr,encV_eta l[i]]
  refine ih (i + 1) (acc ++ [.mk 0 (u.gs ++ [l[i]]) []]) _ _ (by omega) (by simp; omega) ?_ ?_ ?_ ?_ ?_ ?_ ?_ fun τ' ω'' v1' g19 gk => hk τ' ω'' v1' ?_ fun t ht => ?_
  case refine_8 => rw [g19,List.append_assoc]; rfl
  case refine_9 =>
   rw [gk t ht]
   rcases ht with (rfl | rfl | rfl | rfl | rfl | rfl | rfl | rfl) <;> simp
  case refine_2 => simp [encV_mk,encV_eta l[i]]
  all_goals first | (simp [h21,h124,h125,v1,w21]; done)
theorem l75_4 (D : Nat) (us : List Va) (hus : us.length ≤ 64) (hu : ∀ u ∈ us,u.gs.length ≤ 2 ^ 20) (l : List Va) (hl : l.length ≤ 64) (hlv : ∀ v ∈ l,nodesV v ≤ 2 ^ 30 ∧ lightV 0 v = true) (Q : St → Prop) (K : List AI) (S) (w1 : Ent) : ∀ (j i : Nat) (acc : List Va) (τ : Nat → AV) (ω' : Nat → Ent),i + j = us.length → acc.length ≤ i * 64 → ω' 1 = w1 →
  τ 19 = .sl 3 (acc.map encV) .tip → τ 17 = .sl 3 (l.map encV) .no → τ 118 = .sl 3 (us.map encV) .no → τ 119 = .int .i64 us.length → τ 120 = .int .i64 i →
  (∀ (τ' : Nat → AV) (ω'' : Nat → Ent),ω'' 1 = w1 → τ' 19 = .sl 3 ((acc ++ prodS (us.drop i) l).map encV) .tip → (∀ t,(t = 1 ∨ t = 97 ∨ t = 98 ∨ t = 99) → τ' t = τ t) → Rd (Loc Pg Gl) .im Q K (stF 146 D τ' ω'' S)) →
  Rd (Loc Pg Gl) .im Q (.lp c75_l4 :: .blk 9 :: K) (stF 146 D τ ω' S) := by
 intro j
 induction j with
 | zero =>
  intro i acc τ ω' hi hal v1 h19 h17 h118 h119 h120 hk
  refine Rd_lpE c75_l4.eq_1 ?_
  obtain rfl : i = us.length := by omega
  rw [List.drop_length,prodS,List.flatMap_nil,List.append_nil] at hk
  simp [h119,h120]
  exact hk _ _ v1 (by simpa using h19) (by rintro t (rfl | rfl | rfl | rfl) <;> simp)
 | succ j ih =>
  intro i acc τ ω' hi hal v1 h19 h17 h118 h119 h120 hk
  refine Rd_lpE c75_l4.eq_1 ?_
  have hlt : i < us.length := by omega
  have hwr := wrap_next hlt (by unfold maxLen; omega)
  rw [List.drop_eq_getElem_cons hlt,prodS,List.flatMap_cons] at hk
  simp [h17,h118,h119,h120,hlt,encV_eta us[i]]
  refine l75_3 D us[i] (hu _ (List.getElem_mem hlt)) l hl hlv _ _ S w1 ((ω' 21).1 + 1) l.length 0 acc _ _ (by omega) (by omega) ?_ ?_ ?_ ?_ ?_ ?_ ?_ fun τ' ω'' v1' g19 gk => ?_
  case refine_8 =>
   have k17 := gk 17 (by simp [kp75])
   have k118 := gk 118 (by simp [kp75])
   have k119 := gk 119 (by simp [kp75])
   have k120 := gk 120 (by simp [kp75])
   simp at k17 k118 k119 k120
   simp [c75_k3,k120,h120,hwr]
   refine ih (i + 1) (acc ++ l.map fun v => Va.mk 0 (us[i].gs ++ [v]) []) _ _ (by omega) ?_ v1' (by simp [g19]) ?_ ?_ ?_ ?_ fun τ2 ω2 v2 q19 qk => hk τ2 ω2 v2 ?_ fun t ht => ?_
   case refine_6 => rw [q19,List.append_assoc]; simp [prodS]
   case refine_7 =>
    rw [qk t ht]
    have := gk t (by rcases ht with rfl | rfl | rfl | rfl <;> simp [kp75])
    rcases ht with rfl | rfl | rfl | rfl <;> simp [this] <;> simpa using this
   case refine_1 => simp; omega
   all_goals first | (simp [k17,k118,k119,h17,h118,h119]; done)
  all_goals simp [h19,v1]
theorem prodS_len (us l : List Va) : (prodS us l).length = us.length * l.length := by
 unfold prodS
 induction us with
 | nil => simp
 | cons u us ih => rw [List.flatMap_cons,List.length_append,ih,List.length_map,List.length_cons,Nat.add_mul]; omega
theorem prodS_mem {us l : List Va} {x : Va} (h : x ∈ prodS us l) : ∃ u ∈ us,∃ v ∈ l,x = .mk 0 (u.gs ++ [v]) [] := by
 unfold prodS at h
 obtain ⟨u,hu,h⟩ := List.mem_flatMap.1 h
 obtain ⟨v,hv,rfl⟩ := List.mem_map.1 h
 exact ⟨u,hu,v,hv,rfl⟩
theorem l75_5 (D : Nat) (parts : List Fu) (hgl : parts.length ≤ 4) (hrec : ∀ a ∈ parts,∀ D,Go.Ab.Loc Pg Gl D 75 [encF a] [] (rVals (valsF a)) []) (hlen : ∀ a ∈ parts,∀ l,valsF a = some l → l.length ≤ 64 ∧ ∀ v ∈ l,nodesV v ≤ 2 ^ 30 ∧ lightV 0 v = true) (S) (r : AV) (w1 : Ent) : ∀ (j i : Nat) (acc : List Va) (τ ω),i + j = parts.length → acc.length ≤ 64 → (∀ u ∈ acc,u.gs.length ≤ i) →
  (τ 14 = .sl 3 (acc.map encV) .tip ∨ τ 14 = .sl 3 (acc.map encV) .no) → τ 97 = .sl 3 (parts.map encF) .no → τ 98 = .int .i64 parts.length → τ 99 = .int .i64 i →
  ω 1 = w1 → r = rVals (prodL acc ((parts.drop i).map valsF)) →
  Rd (Loc Pg Gl) .im (RetQ [.tmp 2,.tmp 3] r S) [.lp c75_l5,.blk 7,.c c75_k6] (stF 146 D τ ω S) := by
 intro j
 induction j with
 | zero =>
  intro i acc τ ω hi hal hag h14 h97 h98 h99 w1' hr
  refine Rd_lpE c75_l5.eq_1 ?_
  obtain rfl : i = parts.length := by omega
  rw [List.drop_length,List.map_nil,prodL] at hr
  rcases h14 with h14 | h14 <;> simp [h14,h98,h99,c75_k6,hr,rVals]
 | succ j ih =>
  intro i acc τ ω hi hal hag h14 h97 h98 h99 w1' hr
  refine Rd_lpE c75_l5.eq_1 ?_
  have h14' : (τ 14).dem.var1.dem = .sl 3 (acc.map encV) .no ∧ (τ 14).dem.var1 = .sl 3 (acc.map encV) .no := by rcases h14 with h14 | h14 <;> simp [h14]
  obtain ⟨h14a,h14b⟩ := h14'
  have hlt : i < parts.length := by omega
  have hwr := wrap_next hlt (by unfold maxLen; omega)
  rw [List.drop_eq_getElem_cons hlt,List.map_cons] at hr
  simp [h97,h98,h99,hlt,encF_eta parts[i]]
  refine Rd_call (hrec parts[i] (List.getElem_mem hlt) _) (by simp [encF_eta parts[i]]) ?_
  cases hv : valsF parts[i] with
  | none =>
   rw [hv,prodL] at hr
   simp [rVals,hr]
  | some l =>
   rw [hv,prodL] at hr
   obtain ⟨hll,hlv⟩ := hlen _ (List.getElem_mem hlt) l hv
   have hmul : acc.length * l.length ≤ 64 * 64 := Nat.mul_le_mul hal hll
   have hprod : IntKind.i64.wrap ((acc.length : Int) * (l.length : Int)) = ((acc.length * l.length : Nat) : Int) := by rw [← wrap_i64_nat (n := acc.length * l.length) (by omega)]; rfl
   simp [rVals,h14a,h14b,hprod,-Int.natCast_mul]
   by_cases hb : 64 < acc.length * l.length
   ·rw [if_pos hb] at hr
    have hb' : (64 : Int) < ((acc.length * l.length : Nat) : Int) := by omega
    simp [hb',hr,rVals,-Int.natCast_mul]
   ·rw [if_neg hb] at hr
    have hb' : ¬ (64 : Int) < ((acc.length * l.length : Nat) : Int) := by omega
    simp [hb',h14a,h14b,-Int.natCast_mul]
    refine l75_4 D acc hal (fun u hu => by have := hag u hu; omega) l hll hlv _ _ S (ω 1) acc.length 0 [] _ _ (by omega) (by simp) ?_ ?_ ?_ ?_ ?_ ?_ fun τ' ω'' v1 g19 gk => ?_
    case refine_7 =>
     have k97 := gk 97 (by simp)
     have k98 := gk 98 (by simp)
     have k99 := gk 99 (by simp)
     simp at k97 k98 k99
     simp [c75_k4,c75_k5,k99,h99,hwr,g19]
     refine ih (i + 1) (prodS acc l) _ _ (by omega) (by rw [prodS_len]; omega) ?_ ?_ ?_ ?_ ?_ ?_ hr
     case refine_1 =>
      intro x hx
      obtain ⟨u,hu,v,_,rfl⟩ := prodS_mem hx
      have := hag u hu
      simp [Va.gs]
      exact this
     all_goals first | (simp [k97,k98,h97,h98]; done) | (rw [v1,w1']; done) | simp
    all_goals simp [h14b]
theorem sumL_some : ∀ {ls : List (Option (List Va))} {n : Nat} {acc l : List Va},acc.length ≤ 64 → sumL n acc ls = some l → l.length ≤ 64
 | [],_,acc,l,h,hs => by rw [sumL] at hs; injection hs with hs; subst hs; exact h
 | none :: ls,_,_,_,_,hs => by rw [sumL] at hs; cases hs
 | some m :: ls,n,acc,l,h,hs => by
  rw [sumL] at hs
  split at hs
  ·cases hs
  ·exact sumL_some (by simp; omega) hs
theorem prodL_some : ∀ {ls : List (Option (List Va))} {acc l : List Va},acc.length ≤ 64 → prodL acc ls = some l → l.length ≤ 64
 | [],acc,l,h,hs => by rw [prodL] at hs; injection hs with hs; subst hs; exact h
 | none :: ls,_,_,_,hs => by rw [prodL] at hs; cases hs
 | some m :: ls,acc,l,h,hs => by
  rw [prodL] at hs
  split at hs
  ·cases hs
  ·exact prodL_some (by rw [prodS_len]; omega) hs
theorem vals_len : ∀ (f : Fu),shapedF f = true → ∀ l,valsF f = some l → l.length ≤ 64
 | .mk k n gs,hs,l,h => by
  obtain ⟨h1,h2,h3,h4⟩ := shaped_mk hs
  rw [valsF] at h
  split at h
  ·injection h with h; subst h; simp
  ·split at h
   ·rename_i hk
    subst hk
    injection h with h; subst h
    simp [mostK] at h3
    simp; omega
   ·split at h
    ·exact sumL_some (by simp) h
    ·exact prodL_some (by simp) h
theorem nodesVs_app : ∀ (l m : List Va),nodesVs (l ++ m) = nodesVs l + nodesVs m
 | [],m => by simp [nodesVs]
 | a :: l,m => by rw [List.cons_append,nodesVs,nodesVs,nodesVs_app l m]; omega
theorem lightVs_app (m : Nat) : ∀ (l k : List Va),lightVs m (l ++ k) = (lightVs m l && lightVs m k)
 | [],k => by simp [lightVs]
 | a :: l,k => by rw [List.cons_append,lightVs,lightVs,lightVs_app m l k,Bool.and_assoc]
theorem sumL_ok {B : Nat} : ∀ {ls : List (Option (List Va))} {n : Nat} {acc l : List Va},(∀ m,some m ∈ ls → ∀ v ∈ m,nodesV v ≤ B ∧ lightV 0 v = true) → (∀ v ∈ acc,nodesV v ≤ 1 + B ∧ lightV 0 v = true) → sumL n acc ls = some l → ∀ v ∈ l,nodesV v ≤ 1 + B ∧ lightV 0 v = true
 | [],_,acc,l,_,h,hs => by rw [sumL] at hs; injection hs with hs; subst hs; exact h
 | none :: ls,_,_,_,_,_,hs => by rw [sumL] at hs; cases hs
 | some m :: ls,n,acc,l,hm,h,hs => by
  rw [sumL] at hs
  split at hs
  ·cases hs
  ·refine sumL_ok (fun k hk => hm k (List.mem_cons_of_mem _ hk)) (fun v hv => ?_) hs
   rcases List.mem_append.1 hv with hv | hv
   ·exact h v hv
   ·obtain ⟨w,hw,rfl⟩ := List.mem_map.1 hv
    obtain ⟨q1,q2⟩ := hm m (List.mem_cons_self ..) w hw
    refine ⟨?_,?_⟩
    ·rw [nodesV,nodesVs,nodesVs]; omega
    ·rw [lightV,lightVs,lightVs,q2]; rfl
theorem prodL_ok {B : Nat} : ∀ {ls : List (Option (List Va))} {i : Nat} {acc l : List Va},(∀ m,some m ∈ ls → ∀ v ∈ m,nodesV v ≤ B ∧ lightV 0 v = true) → (∀ u ∈ acc,nodesVs u.gs ≤ i * B ∧ lightVs 0 u.gs = true ∧ u.ws = []) → prodL acc ls = some l → ∀ u ∈ l,nodesVs u.gs ≤ (i + ls.length) * B ∧ lightVs 0 u.gs = true ∧ u.ws = []
 | [],i,acc,l,_,h,hs => by rw [prodL] at hs; injection hs with hs; subst hs; simpa using h
 | none :: ls,_,_,_,_,_,hs => by rw [prodL] at hs; cases hs
 | some m :: ls,i,acc,l,hm,h,hs => by
  rw [prodL] at hs
  split at hs
  ·cases hs
  ·have := prodL_ok (B := B) (i := i + 1) (fun k hk => hm k (List.mem_cons_of_mem _ hk)) (fun x hx => ?_) hs
   ·rw [List.length_cons,show i + (ls.length + 1) = i + 1 + ls.length by omega]; exact this
   ·obtain ⟨u,hu,v,hv,rfl⟩ := prodS_mem hx
    obtain ⟨q1,q2,q3⟩ := h u hu
    obtain ⟨p1,p2⟩ := hm m (List.mem_cons_self ..) v hv
    refine ⟨?_,?_,rfl⟩
    ·show nodesVs (u.gs ++ [v]) ≤ _
     rw [nodesVs_app,nodesVs,nodesVs,Nat.add_mul]; omega
    ·show lightVs 0 (u.gs ++ [v]) = true
     rw [lightVs_app,lightVs,lightVs,q2,p2]; rfl
theorem depthFs_le : ∀ {l : List Fu} {a : Fu},a ∈ l → depthF a ≤ depthFs l
 | [],a,h => by cases h
 | b :: l,a,h => by
  rw [depthFs]
  rcases List.mem_cons.1 h with e | h
  ·rw [e]; omega
  ·have := depthFs_le h; omega
theorem vals_ok : ∀ (f : Fu),shapedF f = true → ∀ l,valsF f = some l → ∀ v ∈ l,nodesV v ≤ 5 ^ depthF f ∧ lightV 0 v = true := by
 refine Fu.ind' fun k n gs hrec => ?_
 intro hs l h v hv
 obtain ⟨h1,h2,h3,h4⟩ := shaped_mk hs
 rw [valsF,valsFs_map] at h
 rw [depthF]
 have hB : 1 ≤ 5 ^ depthFs gs := Nat.pow_pos (by omega)
 have hP : 5 ^ (1 + depthFs gs) = 5 * 5 ^ depthFs gs := by rw [Nat.pow_add]
 have hm : ∀ m,some m ∈ gs.map valsF → ∀ v ∈ m,nodesV v ≤ 5 ^ depthFs gs ∧ lightV 0 v = true := by
  intro m hm v hv
  obtain ⟨a,ha,e⟩ := List.mem_map.1 hm
  obtain ⟨q1,q2⟩ := hrec a ha (h4 a ha) m e v hv
  exact ⟨Nat.le_trans q1 (Nat.pow_le_pow_right (by omega) (depthFs_le ha)),q2⟩
 rw [hP]
 split at h
 ·injection h with h; subst h
  rw [List.mem_singleton] at hv; subst hv
  refine ⟨?_,rfl⟩
  unfold v0; rw [nodesV,nodesVs]; omega
 ·split at h
  ·injection h with h; subst h
   obtain ⟨i,_,rfl⟩ := List.mem_map.1 hv
   refine ⟨?_,rfl⟩
   rw [nodesV,nodesVs]; omega
  ·split at h
   ·have := sumL_ok hm (by simp) h v hv
    exact ⟨by omega,this.2⟩
   ·have hlen : ∀ ls : List (Option (List Va)),ls.length ≤ 4 → (∀ m,some m ∈ ls → ∀ v ∈ m,nodesV v ≤ 5 ^ depthFs gs ∧ lightV 0 v = true) → prodL [v0] ls = some l → nodesV v ≤ 5 * 5 ^ depthFs gs ∧ lightV 0 v = true := by
     intro ls hll hm h
     have := prodL_ok (i := 0) hm (by intro u hu; rw [List.mem_singleton] at hu; subst hu; exact ⟨by simp [v0,Va.gs,nodesVs],rfl,rfl⟩) h v hv
     obtain ⟨q1,q2,q3⟩ := this
     have hle : (0 + ls.length) * 5 ^ depthFs gs ≤ 4 * 5 ^ depthFs gs := Nat.mul_le_mul_right _ (by omega)
     rw [Va.eta v,nodesV,lightV,q3,q2]
     exact ⟨by omega,rfl⟩
    split at h
    ·rename_i hk
     subst hk
     simp [mostK] at h3
     refine hlen _ (by simp; omega) (fun m hmm v hv => ?_) h
     obtain ⟨_,e⟩ := List.mem_replicate.1 hmm
     refine hm m ?_ v hv
     cases gs with
     | nil => simp at e
     | cons g gs => simp at e; simp [e]
    ·refine hlen _ ?_ hm h
     unfold arK at h1
     rw [List.length_map]
     split at h1
     ·omega
     ·split at h1
      ·omega
      ·split at h1 <;> omega
end Go.Ab.Tab
/- The program's poly.values,List,Shapes. -/
namespace Go.Ab.Tab
open Go Go.Ab
set_option maxRecDepth 10000
set_option linter.unusedVariables false
set_option linter.unusedSimpArgs false
theorem spec75 : ∀ (f : Fu),shapedF f = true → polyF f = true → depthF f ≤ 12 → ∀ (D : Nat),Go.Ab.Loc Pg Gl D 75 [encF f] [] (rVals (valsF f)) [] := by
 refine Fu.ind' fun k n gs hrec => ?_
 intro hf hp hd D
 obtain ⟨h1,h2,h3,h4⟩ := shaped_mk hf
 rw [depthF] at hd
 have hpg := poly_gs hp
 simp only [Fu.gs] at hpg
 have hrec' : ∀ a ∈ gs,∀ D,Go.Ab.Loc Pg Gl D 75 [encF a] [] (rVals (valsF a)) [] := fun a ha D => hrec a ha (h4 a ha) (hpg a ha) (by have := depthFs_le ha; omega) D
 have hlen' : ∀ a ∈ gs,∀ l,valsF a = some l → l.length ≤ 64 ∧ ∀ v ∈ l,nodesV v ≤ 2 ^ 30 ∧ lightV 0 v = true := by
  intro a ha l hl
  refine ⟨vals_len a (h4 a ha) l hl,fun v hv => ?_⟩
  obtain ⟨q1,q2⟩ := vals_ok a (h4 a ha) l hl v hv
  have : 5 ^ depthF a ≤ 5 ^ 12 := Nat.pow_le_pow_right (by omega) (by have := depthFs_le ha; omega)
  exact ⟨by omega,q2⟩
 have hsets := poly_sets hp
 refine loc_rd mixedP tok rfl rfl fun S => ?_
 unfold c75
 rw [encF_mk,valsF,valsFs_map]
 by_cases k0 : k = 0
 ·subst k0
  simp [rVals,v0,encV_mk]
 by_cases k1 : k = 1
 ·subst k1
  simp [mostK] at h2 h3
  obtain ⟨m,rfl⟩ : ∃ m : Nat,n = m := ⟨n.toNat,by omega⟩
  simp
  refine l75_0 D m (by omega) _ S m 0 _ _ (by omega) ?_ ?_ ?_
  all_goals simp
 by_cases k3 : k = 3
 ·subst k3
  simp [arK] at h1
  simp
  refine l75_2 D 3 n gs (by omega) hrec' (fun a ha l hl => (hlen' a ha l hl).1) _ S _ gs.length 0 [] _ _ (by omega) (by simp) ?_ ?_ ?_ ?_ ?_ ?_ (by rw [List.drop_zero,valsFs_map])
  all_goals simp
 rw [if_neg k0,if_neg k1,if_neg k3]
 by_cases k4 : k = 4
 ·subst k4
  simp [arK,mostK] at h1 h2 h3
  obtain ⟨g,rfl⟩ : ∃ g,gs = [g] := by
   match gs,h1 with
   | [g],_ => exact ⟨g,rfl⟩
  obtain ⟨m,rfl⟩ : ∃ m : Nat,n = m := ⟨n.toNat,by omega⟩
  simp [c75_k7]
  refine Rd_call (spec102 g m (by omega) (by omega) _) (by simp) ?_
  simp [c75_j0]
  refine l75_5 D (List.replicate m g) (by simp; omega) (fun a ha => hrec' a (by rw [(List.mem_replicate.1 ha).2]; simp)) (fun a ha => hlen' a (by rw [(List.mem_replicate.1 ha).2]; simp)) S _ _ m 0 [v0] _ _ (by simp) (by simp) (by simp [v0,Va.gs]) ?_ ?_ ?_ ?_ rfl ?_
  all_goals simp [v0,encV_mk]
 ·have k2 : k = 2 := by
   unfold sets wtd at hsets
   simp only [Fu.k,Bool.or_eq_false_iff] at hsets
   have h5 := of_decide_eq_false hsets.1
   have h6 := of_decide_eq_false hsets.2.1
   have h7 := of_decide_eq_false hsets.2.2
   unfold arK at h1
   rw [if_neg (by omega),if_neg (by omega)] at h1
   by_cases h : k = 2 ∨ k = 3
   ·omega
   ·rw [if_neg h] at h1; omega
  subst k2
  simp [arK] at h1
  simp [c75_k7,c75_j0]
  refine l75_5 D gs (by omega) hrec' hlen' S _ _ gs.length 0 [v0] _ _ (by omega) (by simp) (by simp [v0,Va.gs]) ?_ ?_ ?_ ?_ rfl (by rw [List.drop_zero])
  all_goals simp [v0,encV_mk]
theorem prodL_valid {n : Nat} : ∀ {ps : List Fu} {acc l : List Va} {qs : List Fu},(∀ f ∈ ps,∀ m,valsF f = some m → ∀ v ∈ m,valN n v f = true) → (∀ u ∈ acc,u.n = 0 ∧ u.ws = [] ∧ u.gs.length = qs.length ∧ valNs n u.gs qs = true) → prodL acc (ps.map valsF) = some l →
  ∀ u ∈ l,u.n = 0 ∧ u.ws = [] ∧ u.gs.length = (qs ++ ps).length ∧ valNs n u.gs (qs ++ ps) = true
 | [],acc,l,qs,_,h,hs => by rw [List.map_nil,prodL] at hs; injection hs with hs; subst hs; simpa using h
 | f :: ps,acc,l,qs,hp,h,hs => by
  rw [List.map_cons] at hs
  cases hv : valsF f with
  | none => rw [hv,prodL] at hs; cases hs
  | some m =>
   rw [hv,prodL] at hs
   split at hs
   ·cases hs
   ·have := prodL_valid (qs := qs ++ [f]) (fun g hg => hp g (List.mem_cons_of_mem _ hg)) (fun x hx => ?_) hs
    ·rw [List.append_assoc] at this; exact this
    ·obtain ⟨u,hu,v,hvm,rfl⟩ := prodS_mem hx
     obtain ⟨q1,q2,q3,q4⟩ := h u hu
     have hv1 := hp f (List.mem_cons_self ..) m hv v hvm
     refine ⟨rfl,rfl,by show (u.gs ++ [v]).length = _; simp [q3],?_⟩
     show valNs n (u.gs ++ [v]) (qs ++ [f]) = true
     clear hu hx hs h
     revert q3 q4
     generalize u.gs = gs
     intro q3 q4
     induction gs generalizing qs with
     | nil =>
      have : qs = [] := List.eq_nil_of_length_eq_zero (by simpa using q3.symm)
      subst this
      simp [valNs,hv1]
     | cons a gs ih =>
      cases qs with
      | nil => simp at q3
      | cons b qs =>
       rw [valNs,Bool.and_eq_true] at q4
       rw [List.cons_append,List.cons_append,valNs,q4.1,Bool.true_and]
       exact ih qs (by simpa using q3) q4.2
theorem valN_mk {n : Nat} {f : Fu} {v : Va} (hs : sets f.k = false) (hws : v.ws = []) (hpo : partsOk f v = true) (hnum : numOk f n v = true) (hvs : valNs n v.gs (partsF f v) = true) : valN n v f = true := by
 have hw : wtd f.k = false := by
  unfold sets at hs
  rw [Bool.or_eq_false_iff] at hs; exact hs.2
 rw [valN_eta,hvs]
 unfold okV setOk weighedR
 rw [hpo,hnum,hw,hs,hws]
 rfl
theorem sumL_valid {n : Nat} : ∀ {ps : List Fu} {i : Nat} {acc l : List Va} {P : Va → Prop},(∀ v ∈ acc,P v) → (∀ (j : Nat) (f : Fu) m,ps[j]? = some f → valsF f = some m → ∀ v ∈ m,P (.mk (i + j : Nat) [v] [])) → sumL i acc (ps.map valsF) = some l → ∀ v ∈ l,P v
 | [],_,acc,l,P,h,_,hs => by rw [List.map_nil,sumL] at hs; injection hs with hs; subst hs; exact h
 | f :: ps,i,acc,l,P,h,hp,hs => by
  rw [List.map_cons] at hs
  cases hv : valsF f with
  | none => rw [hv,sumL] at hs; cases hs
  | some m =>
   rw [hv,sumL] at hs
   split at hs
   ·cases hs
   ·refine sumL_valid (n := n) (fun v hvm => ?_) (fun j g m' hj hm' v hvm => ?_) hs
    ·rcases List.mem_append.1 hvm with hvm | hvm
     ·exact h v hvm
     ·obtain ⟨w,hw,rfl⟩ := List.mem_map.1 hvm
      exact hp 0 f m rfl hv w hw
    ·have := hp (j + 1) g m' (by simpa using hj) hm' v hvm
     rw [show i + 1 + j = i + (j + 1) by omega]; exact this
theorem vals_valid : ∀ (f : Fu),shapedF f = true → polyF f = true → ∀ l,valsF f = some l → ∀ v ∈ l,valN 1 v f = true := by
 refine Fu.ind' fun k n gs hrec => ?_
 intro hf hp l h v hv
 obtain ⟨h1,h2,h3,h4⟩ := shaped_mk hf
 have hpg := poly_gs hp
 simp only [Fu.gs] at hpg
 have hsets := poly_sets hp
 have hr : ∀ f ∈ gs,∀ m,valsF f = some m → ∀ v ∈ m,valN 1 v f = true := fun a ha m hm v hv => hrec a ha (h4 a ha) (hpg a ha) m hm v hv
 rw [valsF,valsFs_map] at h
 by_cases k0 : k = 0
 ·subst k0
  rw [if_pos rfl] at h
  injection h with h; subst h
  rw [List.mem_singleton] at hv; subst hv
  simp [arK] at h1
  exact valN_mk hsets rfl (by simp [partsOk,partsF_mk,v0,Va.gs,Fu.k]) (by simp [numOk,v0,Va.n,Fu.k]) (by simp [v0,Va.gs,valNs])
 rw [if_neg k0] at h
 by_cases k1 : k = 1
 ·subst k1
  rw [if_pos rfl] at h
  injection h with h; subst h
  obtain ⟨i,hi,rfl⟩ := List.mem_map.1 hv
  have hi := List.mem_range.1 hi
  exact valN_mk hsets rfl (by simp [partsOk,partsF_mk,Va.gs,Fu.k]) (by simp [numOk,Va.n,Fu.n,Fu.k]; omega) (by simp [Va.gs,valNs])
 rw [if_neg k1] at h
 by_cases k3 : k = 3
 ·subst k3
  rw [if_pos rfl] at h
  simp [arK] at h1
  refine sumL_valid (n := 1) (P := fun v => valN 1 v (.mk 3 n gs) = true) (by simp) (fun j f m hj hm w hw => ?_) h v hv
  have hjl : j < gs.length := (List.getElem?_eq_some_iff.1 hj).1
  have hjf : gs[j] = f := (List.getElem?_eq_some_iff.1 hj).2
  have hwv := hr f (by rw [← hjf]; exact List.getElem_mem hjl) m hm w hw
  have hpf : partsF (.mk 3 n gs) (.mk ((0 + j : Nat) : Int) [w] []) = [f] := by
   rw [partsF_mk]
   match gs,h1,hj with
   | [a,b],_,hj =>
    have : j = 0 ∨ j = 1 := by simp at hjl; omega
    rcases this with rfl | rfl <;> simp at hj <;> simp [Va.n,hj]
  refine valN_mk hsets rfl ?_ ?_ ?_
  ·unfold partsOk; rw [hpf]; simp [Va.gs,Va.n,Fu.k]; omega
  ·simp [numOk,Va.n,Fu.k]; omega
  ·rw [hpf]; simp [Va.gs,valNs,hwv]
 rw [if_neg k3] at h
 have fin : ∀ ps : List Fu,(∀ f ∈ ps,∀ m,valsF f = some m → ∀ v ∈ m,valN 1 v f = true) → prodL [v0] (ps.map valsF) = some l → partsF (.mk k n gs) v = ps → valN 1 v (.mk k n gs) = true := by
  intro ps hps h hpa
  have := prodL_valid (n := 1) (qs := []) hps (by intro u hu; rw [List.mem_singleton] at hu; subst hu; exact ⟨rfl,rfl,rfl,by simp [v0,Va.gs,valNs]⟩) h v hv
  obtain ⟨q1,q2,q3,q4⟩ := this
  rw [List.nil_append] at q3 q4
  refine valN_mk hsets q2 ?_ ?_ (by rw [hpa]; exact q4)
  ·unfold partsOk; rw [hpa]; simp [Fu.k,k3,q3]
  ·simp [numOk,Fu.k,k0,k1,k3,q1]
 by_cases k4 : k = 4
 ·subst k4
  rw [if_pos rfl] at h
  simp [arK] at h1
  obtain ⟨g,rfl⟩ : ∃ g,gs = [g] := by
   match gs,h1 with
   | [g],_ => exact ⟨g,rfl⟩
  refine fin (List.replicate n.toNat g) (fun f hf m hm => hr f (by rw [(List.mem_replicate.1 hf).2]; simp) m hm) ?_ ?_
  ·rw [List.map_replicate]; exact h
  ·rw [partsF_mk]; simp
 ·rw [if_neg k4] at h
  have k2 : k = 2 := by
   unfold sets wtd at hsets
   simp only [Fu.k,Bool.or_eq_false_iff] at hsets
   have h5 := of_decide_eq_false hsets.1
   have h6 := of_decide_eq_false hsets.2.1
   have h7 := of_decide_eq_false hsets.2.2
   unfold arK at h1
   rw [if_neg (by omega),if_neg (by omega)] at h1
   by_cases h : k = 2 ∨ k = 3
   ·omega
   ·rw [if_neg h] at h1; omega
  subst k2
  exact fin gs hr h (by rw [partsF_mk]; simp)
end Go.Ab.Tab
/- The program's List,Shapes. -/
namespace Go.Ab.Tab
open Go Go.Ab
set_option maxRecDepth 10000
set_option linter.unusedVariables false
set_option linter.unusedSimpArgs false
theorem fillVs_fit (h : Nat → Int) : ∀ (c : Nat) (l : List Va) (fs : List Fu),(∀ v ∈ l,∀ c f,fitV (fillV h c v f)) → (fillVs h c l fs).length ≤ l.length ∧ ∀ a ∈ fillVs h c l fs,fitV a
 | _,[],_,_ => by rw [fillVs]; simp
 | _,v :: l,[],_ => by rw [fillVs]; simp
 | c,v :: l,f :: fs,hv => by
  rw [fillVs]
  obtain ⟨q1,q2⟩ := fillVs_fit h (c + (leavesV v f).length) l fs fun w hw => hv w (by simp [hw])
  refine ⟨by simp; omega,fun a ha => ?_⟩
  rcases List.mem_cons.1 ha with rfl | ha
  ·exact hv v (by simp) c f
  ·exact q2 a ha
theorem fillV_fit (h : Nat → Int) : ∀ (v : Va),fitV v → ∀ c f,fitV (fillV h c v f) := by
 refine Va.ind' fun a gs ws hrec => ?_
 intro hv c f
 have hf := (fitV_gs _).1 hv
 rw [fillV]
 split
 ·simp [fitV,fitVs,maxLen]
 ·obtain ⟨q1,q2⟩ := fillVs_fit h c gs (partsF f (.mk a gs ws)) fun v hv' c f => hrec v hv' (fitVs_mem hf.2 v hv') c f
  rw [fitV_gs]
  have := hf.1.1
  simp only [Va.gs] at this
  exact ⟨⟨by simp only [Va.gs]; omega,by simp [Va.ws,maxLen]⟩,fitVs_of q2⟩
def listL (f : Fu) (l : List Va) : List Va := (l.map fun v => shapeV v f).filter fun v => shapeB f v
theorem l42 (D : Nat) (f : Fu) (hf : shapedF f = true) (hp : polyF f = true) (l : List Va) (hll : l.length ≤ 64) (hl : ∀ v ∈ l,fitV v ∧ nodesV v ≤ 2 ^ 30 ∧ valN 1 v f = true) (S) (r : AV) : ∀ (j i : Nat) (acc : List Va) (τ ω),i + j = l.length → acc.length ≤ i →
  τ 1 = .ptr D 1 1 0 → τ 6 = .sl 3 (acc.map encV) .tip → τ 16 = .sl 3 (l.map encV) .no → τ 17 = .int .i64 l.length → τ 18 = .int .i64 i →
  ω 1 = (1,.cells [.int .i64 f.k,.int .i64 f.n,.sl 3 (f.gs.map encF) .no]) → r = rVals (some (acc ++ listL f (l.drop i))) →
  Rd (Loc Pg Gl) .im (RetQ [.tmp 2,.tmp 3] r S) [.lp c42_l0,.blk 0,.c c42_k0] (stF 34 D τ ω S) := by
 intro j
 induction j with
 | zero =>
  intro i acc τ ω hi hal h1 h6 h16 h17 h18 w1 hr
  refine Rd_lpE c42_l0.eq_1 ?_
  obtain rfl : i = l.length := by omega
  rw [List.drop_length,listL,List.map_nil,List.filter_nil,List.append_nil] at hr
  simp [h6,h17,h18,c42_k0,hr,rVals]
 | succ j ih =>
  intro i acc τ ω hi hal h1 h6 h16 h17 h18 w1 hr
  refine Rd_lpE c42_l0.eq_1 ?_
  have hlt : i < l.length := by omega
  have hwr := wrap_next hlt (by unfold maxLen; omega)
  have hle : (acc.length + 1) * 56 ≤ 1099511627776 := by omega
  obtain ⟨q1,q2,q3⟩ := hl _ (List.getElem_mem hlt)
  have hfit : fitV (shapeV l[i] f) := fillV_fit _ l[i] q1 0 f
  rw [List.drop_eq_getElem_cons hlt,listL,List.map_cons,List.filter_cons] at hr
  simp [h1,h6,h16,h17,h18,w1,hlt,encV_eta l[i]]
  refine Rd_call (spec50 l[i] q1 q2 f hf hp q3 _) (by simp [encV_eta l[i],encF_eta f]) ?_
  generalize hs : shapeV l[i] f = u at hr hfit
  simp [h1,w1,encV_eta u]
  refine Rd_call (spec64 f hf hp u hfit _) (by simp [encV_eta u,encF_eta f]) ?_
  cases hb : shapeB f u with
  | false =>
   rw [hb] at hr
   simp [h18,hwr]
   refine ih (i + 1) acc _ _ (by omega) (by omega) ?_ ?_ ?_ ?_ ?_ ?_ (by rw [hr]; rfl)
   all_goals simp [h1,h6,h16,h17,w1]
  | true =>
   rw [hb,if_pos rfl] at hr
   simp [h6,h18,hwr,hle,encV_eta u]
   refine ih (i + 1) (acc ++ [u]) _ _ (by omega) (by simp; omega) ?_ ?_ ?_ ?_ ?_ ?_ (by rw [hr,List.append_assoc]; rfl)
   all_goals simp [h1,h16,h17,w1,encV_eta u]
theorem sh_fit : ∀ (v : Va),lightV 0 v = true → nodesV v ≤ maxLen → fitV v := by
 refine Va.ind' fun a gs ws hrec => ?_
 intro hl hn
 rw [lightV,Bool.and_eq_true,decide_eq_true_eq] at hl
 rw [nodesV] at hn
 have hng := nodesVs_len gs
 have hw := hl.2
 rw [fitV_gs]
 refine ⟨⟨?_,?_⟩,fitVs_of fun b hb => hrec b hb (lightVs_mem hl.1 b hb) ?_⟩
 ·show gs.length ≤ maxLen; omega
 ·show ws.length ≤ maxLen; omega
 ·have hb' : b ∈ gs := hb
  have := nodesVs_le hb'; omega
theorem vals_all (f : Fu) (hf : shapedF f = true) (hp : polyF f = true) (hd : depthF f ≤ 12) {l : List Va} (h : valsF f = some l) : l.length ≤ 64 ∧ ∀ v ∈ l,fitV v ∧ nodesV v ≤ 2 ^ 30 ∧ valN 1 v f = true := by
 refine ⟨vals_len f hf l h,fun v hv => ?_⟩
 obtain ⟨q1,q2⟩ := vals_ok f hf l h v hv
 have : 5 ^ depthF f ≤ 5 ^ 12 := Nat.pow_le_pow_right (by omega) hd
 exact ⟨sh_fit v q2 (by unfold maxLen; omega),by omega,vals_valid f hf hp l h v hv⟩
def listR (f : Fu) : Option (List Va) := (valsF f).map (listL f)
theorem spec42 (f : Fu) (hf : shapedF f = true) (hp : polyF f = true) (hd : depthF f ≤ 12) (D : Nat) : Go.Ab.Loc Pg Gl D 42 [encF f] [] (rVals (listR f)) [] := by
 refine loc_rd mixedP tok rfl rfl fun S => ?_
 have h75 := spec75 f hf hp hd (D + 1)
 unfold c42 listR
 cases hv : valsF f with
 | none =>
  rw [hv] at h75
  rw [encF_eta f]
  simp
  refine Rd_call h75 (by simp [encF_eta f]) ?_
  simp [rVals]
 | some l =>
  rw [hv] at h75
  obtain ⟨hll,hl⟩ := vals_all f hf hp hd hv
  rw [encF_eta f]
  simp
  refine Rd_call h75 (by simp [encF_eta f]) ?_
  simp [rVals]
  refine l42 D f hf hp l hll hl S _ l.length 0 [] _ _ (by omega) (by simp) ?_ ?_ ?_ ?_ ?_ ?_ (by simp [rVals])
  all_goals simp
def shapesR (f : Fu) : List Va × Int := if askF f ≠ 0 then ([],askF f) else match listR f with | none => ([],2) | some l => (l,0)
theorem isF_depth {f : Fu} (h : isF f = true) : depthF f ≤ 12 := by
 unfold isF at h
 simp only [Bool.and_eq_true,decide_eq_true_eq] at h
 omega
theorem spec10 (f : Fu) (hf : fitF f) (D : Nat) : Go.Ab.Loc Pg Gl D 10 [encF f] [] (.tup [.sl 3 ((shapesR f).1.map encV) .no,.int .i64 (shapesR f).2]) [] := by
 refine loc_rd mixedP tok rfl rfl fun S => ?_
 unfold c10 shapesR
 rw [encF_eta f]
 simp
 refine Rd_call (spec41 f hf _) (by simp [encF_eta f]) ?_
 by_cases ha : askF f = 0
 ·obtain ⟨hi,hp⟩ := ask_ok ha
  simp [ha]
  refine Rd_call (spec42 f (isF_shaped hi) hp (isF_depth hi) _) (by simp [encF_eta f]) ?_
  cases hl : listR f with
  | none => simp [rVals]
  | some l => simp [rVals]
 ·simp [ha]
end Go.Ab.Tab
/- The reference's split and Split. -/
namespace Go.Ab
open Go
section
variable {C : CallRel} {own : Md} {Q : St → Prop} {k : List AI} {n D : Nat} {τ : Nat → AV} {ω : Nat → Ent} {S : Nat → Nat → Ent} {l : List AOper} {d : Nat}
theorem Rd_drCallL0 {f args r args' ps es} (h : C (D + 1) f args' [] r []) (ha : args.map (fun x => ((stF n D τ ω S).evr x).keep) = args')
  (hk : Rd C own Q (.dr ps l (es ++ [{ val := r,ups := [],dem := args.flatMap Opd.tmp,rd := [] }]) :: k) ((stF n D τ ω S).app (some d) { val := r,ups := [],dem := args.flatMap Opd.tmp,rd := [] }))
  (hf : f ≠ yid := by decide) (hn : (args.flatMap Opd.tmp).Nodup := by decide) : Rd C own Q (.dr ps (⟨some d,.callL f args,none⟩ :: l) es :: k) (stF n D τ ω S) :=
 .drCall rfl (.callL (M := []) (dl := []) (r := r) hf hn (by rw [ha]; exact h) (by simp) (by simp)) hk
end
end Go.Ab
namespace Go.Ab.Tab
open Go Go.Ab
set_option maxRecDepth 10000
set_option linter.unusedVariables false
set_option linter.unusedSimpArgs false
theorem l69 (D : Nat) (f : Fu) (hf : shapedF f = true) (v : Va) (hvl : v.gs.length ≤ 2 ^ 30) (hpl : (partsF f v).length = v.gs.length) (N : Nat) (hN : N ≤ 2 ^ 32)
  (hrec : ∀ (i : Nat) (h1 : i < v.gs.length) (h2 : i < (partsF f v).length),∀ (D : Nat) (ls : List Int),ls.length + (leavesV v.gs[i] (partsF f v)[i]).length ≤ N →
   Go.Ab.Loc Pg Gl D 69 [encF (partsF f v)[i],encV v.gs[i],.sl 1 (ls.map (AV.int .i64)) .tip] [] (.tup [encV (fillV (fun c => (c : Int)) ls.length v.gs[i] (partsF f v)[i]),.sl 1 ((ls ++ leavesV v.gs[i] (partsF f v)[i]).map (AV.int .i64)) .tip]) []) (S) (r : AV) :
  ∀ (j i : Nat) (ls : List Int) (acc : List Va) (τ ω),i + j = v.gs.length → acc.length = i → ls.length + (leavesVs (v.gs.drop i) ((partsF f v).drop i)).length ≤ N →
  (τ 2 = .sl 1 (ls.map (AV.int .i64)) .tip ∨ (τ 2 = .sl 1 [] .nil ∧ ls = [])) → τ 6 = .ptr D 6 1 0 → τ 8 = .sl 3 ((partsF f v).map encF) .no → τ 10 = .ptr D 10 1 0 → τ 35 = .sl 3 (v.gs.map encV) .no → τ 36 = .int .i64 v.gs.length → τ 37 = .int .i64 i →
  ω 6 = (1,.cells [.int .i64 0,.sl 3 [] .tip,.sl 1 [] .tip]) → (∃ tw,ω 10 = (1,.cells [.int .i64 v.n,.sl 3 (acc.map encV) .tip,.sl 1 [] tw])) →
  r = .tup [encV (.mk v.n (acc ++ fillVs (fun c => (c : Int)) ls.length (v.gs.drop i) ((partsF f v).drop i)) []),.sl 1 ((ls ++ leavesVs (v.gs.drop i) ((partsF f v).drop i)).map (AV.int .i64)) .tip] →
  Rd (Loc Pg Gl) .im (RetT [.cell 6 true 3,.tmp 7] r D S []) [.lp c69_l0,.blk 0,.c c69_k0] (stF 61 D τ ω S) := by
 intro j
 induction j with
 | zero =>
  intro i ls acc τ ω hi hal hn h2 h6 h8 h10 h35 h36 h37 w6 w10 hr
  obtain ⟨tw,w10⟩ := w10
  refine Rd_lpE c69_l0.eq_1 ?_
  obtain rfl : i = v.gs.length := by omega
  rw [List.drop_length,fillVs,leavesVs,List.append_nil,List.append_nil,encV_mk] at hr
  rcases h2 with h2 | ⟨h2,rfl⟩ <;> cases tw <;> simp [h2,h6,h10,h36,h37,w6,w10,c69_k0,hr]
 | succ j ih =>
  intro i ls acc τ ω hi hal hn h2 h6 h8 h10 h35 h36 h37 w6 w10 hr
  obtain ⟨tw,w10⟩ := w10
  have hlt : i < v.gs.length := by omega
  have hlp : i < (partsF f v).length := by omega
  have hwr := wrap_next hlt (by unfold maxLen; omega)
  have hle : (i + 1) * 56 ≤ 1099511627776 := by omega
  rw [List.drop_eq_getElem_cons hlt,List.drop_eq_getElem_cons hlp,leavesVs,List.length_append] at hn
  rw [List.drop_eq_getElem_cons hlt,List.drop_eq_getElem_cons hlp,leavesVs,fillVs] at hr
  have hc := hrec i hlt hlp (D + 1) ls (by omega)
  have fin : ∀ (τ' : Nat → AV) (ω' : Nat → Ent),τ' 2 = .sl 1 ((ls ++ leavesV v.gs[i] (partsF f v)[i]).map (AV.int .i64)) .tip → τ' 6 = .ptr D 6 1 0 → τ' 8 = .sl 3 ((partsF f v).map encF) .no → τ' 10 = .ptr D 10 1 0 → τ' 35 = .sl 3 (v.gs.map encV) .no → τ' 36 = .int .i64 v.gs.length → τ' 37 = .int .i64 ((i + 1 : Nat) : Int) →
    ω' 6 = (1,.cells [.int .i64 0,.sl 3 [] .tip,.sl 1 [] .tip]) → ω' 10 = (1,.cells [.int .i64 v.n,.sl 3 ((acc ++ [fillV (fun c => (c : Int)) ls.length v.gs[i] (partsF f v)[i]]).map encV) .tip,.sl 1 [] tw]) →
    Rd (Loc Pg Gl) .im (RetT [.cell 6 true 3,.tmp 7] r D S []) [.lp c69_l0,.blk 0,.c c69_k0] (stF 61 D τ' ω' S) := by
   intro τ' ω' g2 g6 g8 g10 g35 g36 g37 v6 v10
   refine ih (i + 1) _ _ _ _ (by omega) (by simp [hal]) (by simp; omega) (.inl g2) g6 g8 g10 g35 g36 g37 v6 ⟨tw,v10⟩ ?_
   rw [hr]; simp [List.append_assoc]
  have htail : ∀ (t2 : AV),τ 2 = t2 → (t2 = .sl 1 (ls.map (AV.int .i64)) .tip ∨ (t2 = .sl 1 [] .nil ∧ ls = [])) → Rd (Loc Pg Gl) .im (RetT [.cell 6 true 3,.tmp 7] r D S []) [.lp c69_l0,.blk 0,.c c69_k0] (stF 61 D τ ω S) := by
   intro t2 e2 h2
   refine Rd_lpE c69_l0.eq_1 ?_
   rcases h2 with rfl | ⟨rfl,rfl⟩
   ·simp [e2,h6,h8,h10,h35,h36,h37,w6,w10,hlt,hlp,encV_eta v.gs[i],encF_eta (partsF f v)[i]]
    refine Rd_drCallL0 hc (by simp [encV_eta v.gs[i],encF_eta (partsF f v)[i]]) ?_
    generalize fillV (fun c => (c : Int)) ls.length v.gs[i] (partsF f v)[i] = u at fin
    generalize leavesV v.gs[i] (partsF f v)[i] = q at fin
    simp [encV_eta u,h10,w10,hal,hle,h37,hwr]
    refine fin _ _ ?_ ?_ ?_ ?_ ?_ ?_ ?_ ?_ ?_
    all_goals simp [h6,h8,h10,h35,h36,w6,encV_eta u]
   ·simp [e2,h6,h8,h10,h35,h36,h37,w6,w10,hlt,hlp,encV_eta v.gs[i],encF_eta (partsF f v)[i]]
    refine Rd_drCallL0 hc (by simp [encV_eta v.gs[i],encF_eta (partsF f v)[i]]) ?_
    generalize fillV (fun c => (c : Int)) ([] : List Int).length v.gs[i] (partsF f v)[i] = u at fin
    generalize leavesV v.gs[i] (partsF f v)[i] = q at fin
    simp [encV_eta u,h10,w10,hal,hle,h37,hwr]
    refine fin _ _ ?_ ?_ ?_ ?_ ?_ ?_ ?_ ?_ ?_
    all_goals simp [h6,h8,h10,h35,h36,w6,encV_eta u]
  exact htail _ rfl h2
mutual
theorem val_pt {n : Nat} : ∀ (v : Va) (f : Fu),valN n v f = true → ptV v f
 | .mk a gs ws,f,h => by
  rw [valN] at h
  rw [ptV]
  unfold okV partsOk at h
  simp only [Bool.and_eq_true,decide_eq_true_eq] at h
  exact ⟨h.1.1.2,val_pts gs _ h.2.2⟩
theorem val_pts {n : Nat} : ∀ (l : List Va) (fs : List Fu),valNs n l fs = true → ptVs l fs
 | [],_,_ => by rw [ptVs]; trivial
 | v :: l,[],h => by rw [valNs] at h; cases h
 | v :: l,f :: fs,h => by
  rw [valNs,Bool.and_eq_true] at h
  rw [ptVs]
  exact ⟨val_pt v f h.1,val_pts l fs h.2⟩
end
theorem spec69 (N : Nat) (hN : N ≤ 2 ^ 32) : ∀ (v : Va),fitV v → nodesV v ≤ 2 ^ 30 → ∀ (f : Fu),shapedF f = true → ptV v f → ∀ (D : Nat) (ls : List Int) (tp : Tip),(tp = .tip ∨ (tp = .nil ∧ ls = [])) → ls.length + (leavesV v f).length ≤ N →
  Go.Ab.Loc Pg Gl D 69 [encF f,encV v,.sl 1 (ls.map (AV.int .i64)) tp] [] (.tup [encV (fillV (fun c => (c : Int)) ls.length v f),.sl 1 ((ls ++ leavesV v f).map (AV.int .i64)) .tip]) [] := by
 refine Va.ind' fun a gs ws hrec => ?_
 intro hfit hnod f hf hv D ls tp htp hn
 obtain ⟨hpl,hvs⟩ := (ptV_eta _ _).1 hv
 have hfit' := (fitV_gs _).1 hfit
 rw [nodesV] at hnod
 refine loc_rdT mixedP tok rfl rfl fun S hS => ?_
 generalize hv' : Va.mk a gs ws = v at *
 have ev : v.gs = gs := by rw [← hv']; rfl
 rw [leavesV_eta] at hn ⊢
 rw [fillV_eta]
 unfold c69
 rw [encF_eta f,encV_eta v]
 by_cases k0 : f.k = 0
 ·rw [if_pos k0] at hn ⊢
  rw [if_pos k0,encV_mk]
  simp at hn
  have hle : (ls.length + 1) * 8 ≤ 1099511627776 := by omega
  rcases htp with rfl | ⟨rfl,rfl⟩
  ·simp [k0,hle]
  ·simp [k0]
 ·rw [if_neg k0] at hn ⊢
  rw [if_neg k0]
  simp [k0]
  refine Rd_call (spec52 _ f hf v (by have := nodesVs_len gs; rw [ev]; omega)) (by simp [encF_eta f,encV_eta v]) ?_
  have hrec' : ∀ (i : Nat) (h1 : i < v.gs.length) (h2 : i < (partsF f v).length),∀ (D : Nat) (ls : List Int),ls.length + (leavesV v.gs[i] (partsF f v)[i]).length ≤ N →
    Go.Ab.Loc Pg Gl D 69 [encF (partsF f v)[i],encV v.gs[i],.sl 1 (ls.map (AV.int .i64)) .tip] [] (.tup [encV (fillV (fun c => (c : Int)) ls.length v.gs[i] (partsF f v)[i]),.sl 1 ((ls ++ leavesV v.gs[i] (partsF f v)[i]).map (AV.int .i64)) .tip]) [] := by
   intro i h1 h2 D ls hls
   have hm : v.gs[i] ∈ gs := by rw [← ev]; exact List.getElem_mem h1
   have hgm := List.getElem_mem h2
   exact hrec _ hm (fitVs_mem hfit'.2 _ (List.getElem_mem h1)) (by have := nodesVs_le hm; omega) _ (partsF_shaped hf v _ hgm) (ptVs_get hvs i h1 h2) D ls .tip (.inl rfl) hls
  simp [rParts]
  refine l69 D f hf v (by have := nodesVs_len gs; rw [ev]; omega) hpl N hN hrec' S _ v.gs.length 0 ls [] _ _ (by omega) rfl (by simpa using hn) ?_ ?_ ?_ ?_ ?_ ?_ ?_ ?_ ⟨.tip,?_⟩ ?_
  case refine_1 => rcases htp with rfl | ⟨rfl,rfl⟩ <;> simp
  all_goals simp
end Go.Ab.Tab
/- The reference's Split,Positions; zero,same,States of the laws. -/
namespace Go.Ab.Tab
open Go Go.Ab
set_option maxRecDepth 10000
set_option linter.unusedVariables false
set_option linter.unusedSimpArgs false
theorem spec28p (v : Va) (hfit : fitV v) (hnod : nodesV v ≤ 2 ^ 30) (f : Fu) (hf : shapedF f = true) (hv : ptV v f) (D : Nat) :
  Go.Ab.Loc Pg Gl D 28 [encF f,encV v] [] (.tup [encV (shapeV v f),encI (leavesV v f)]) [] := by
 have hl := leavesV_le v f
 have h69 := spec69 (2 ^ 32) (Nat.le_refl _) v hfit hnod f hf hv (D + 1) [] .nil (.inr ⟨rfl,rfl⟩) (by simp; omega)
 simp at h69
 refine loc_rd mixedP tok rfl rfl fun S => ?_
 unfold c28 encI
 rw [encF_eta f,encV_eta v]
 simp
 refine Rd_callL0 h69 (by simp [encF_eta f,encV_eta v]) ?_
 unfold shapeV
 simp [encV_eta (fillV _ 0 v f)]
theorem spec28 {n : Nat} (v : Va) (hfit : fitV v) (hnod : nodesV v ≤ 2 ^ 30) (f : Fu) (hf : shapedF f = true) (hp : polyF f = true) (hv : valN n v f = true) (D : Nat) :
  Go.Ab.Loc Pg Gl D 28 [encF f,encV v] [] (.tup [encV (shapeV v f),encI (leavesV v f)]) [] := spec28p v hfit hnod f hf (val_pt v f hv) D
theorem l23 (D : Nat) (a b : List Int) (ha : a.length ≤ maxLen) (hab : a.length = b.length) (S) (r : AV) : ∀ (j i : Nat) (τ ω),i + j = a.length →
  τ 1 = .sl 1 (b.map (AV.int .i64)) .no → τ 12 = .sl 1 (a.map (AV.int .i64)) .no → τ 13 = .int .i64 a.length → τ 14 = .int .i64 i → r = .bool (decide (a.drop i = b.drop i)) →
  Rd (Loc Pg Gl) .im (RetQ [.tmp 4] r S) [.lp c23_l0,.blk 0,.c c23_k0] (stF 26 D τ ω S) := by
 intro j
 induction j with
 | zero =>
  intro i τ ω hi h1 h12 h13 h14 hr
  refine Rd_lpE c23_l0.eq_1 ?_
  obtain rfl : i = a.length := by omega
  rw [List.drop_length,hab,List.drop_length] at hr
  simp at hr
  simp [h13,h14,c23_k0,hr]
 | succ j ih =>
  intro i τ ω hi h1 h12 h13 h14 hr
  refine Rd_lpE c23_l0.eq_1 ?_
  have hlt : i < a.length := by omega
  have hlb : i < b.length := by omega
  have hwr := wrap_next hlt ha
  have hc : (a.drop i = b.drop i) ↔ (a[i] = b[i] ∧ a.drop (i + 1) = b.drop (i + 1)) := by
   rw [List.drop_eq_getElem_cons hlt,List.drop_eq_getElem_cons hlb,List.cons.injEq]
  rw [decide_eq_decide.2 hc] at hr
  by_cases he : a[i] = b[i]
  ·have e1 : (a[i] = b[i] ∧ a.drop (i + 1) = b.drop (i + 1)) ↔ a.drop (i + 1) = b.drop (i + 1) := ⟨fun h => h.2,fun h => ⟨he,h⟩⟩
   rw [decide_eq_decide.2 e1] at hr
   simp [h1,h12,h13,h14,hlt,hlb,he,hwr]
   refine ih (i + 1) _ _ (by omega) ?_ ?_ ?_ ?_ ?_
   case refine_5 => exact hr
   all_goals first | (simp [h1,h12,h13]; done) | exact hr | infer_instance
  ·rw [decide_eq_false (fun h => he h.1)] at hr
   simp [h1,h12,h13,h14,hlt,hlb,he,hr]
theorem spec23 (a b : List Int) (ha : a.length ≤ maxLen) (D : Nat) : Go.Ab.Loc Pg Gl D 23 [encI a,encI b] [] (.bool (decide (a = b))) [] := by
 refine loc_rd mixedP tok rfl rfl fun S => ?_
 unfold c23 encI
 generalize hr : AV.bool (decide (a = b)) = r
 simp
 by_cases hl : a.length = b.length
 ·simp [hl]
  refine l23 D a b ha hl S r a.length 0 _ _ (by omega) ?_ ?_ ?_ ?_ (by rw [← hr]; simp)
  all_goals simp [hl]
 ·have : a ≠ b := fun e => hl (by rw [e])
  simp [this] at hr
  simp [show ¬ ((a.length : Int) = (b.length : Int)) by omega,← hr]
end Go.Ab.Tab
/- The reference's States. -/
namespace Go.Ab.Tab
open Go Go.Ab
set_option maxRecDepth 10000
set_option linter.unusedVariables false
set_option linter.unusedSimpArgs false
theorem spec18 (s : Sy) (x : Int) (D : Nat) : Go.Ab.Loc Pg Gl D 18 [encY s,.sl 1 [.int .i64 x] .no] [] (.bool (decide (0 ≤ x ∧ x < s.m.length))) [] := by
 refine loc_rd mixedP tok rfl rfl fun S => ?_
 unfold c18 encY
 simp
 refine Rd_lpE c18_l0.eq_1 ?_
 by_cases h0 : x < 0
 ·have h0' : ¬ (0 : Int) ≤ x := by omega
  simp [h0,h0']
 ·have h0' : (0 : Int) ≤ x := by omega
  by_cases h1 : (s.m.length : Int) ≤ x
  ·have h1' : ¬ x < (s.m.length : Int) := by omega
   simp [h0,h1,h1']
  ·have h1' : x < (s.m.length : Int) := by omega
   simp [h0,h1,h0',h1',show IntKind.i64.wrap 1 = 1 from rfl]
   refine Rd_lpE c18_l0.eq_1 ?_
   simp [c18_k0]
end Go.Ab.Tab
/- The law's fault,of one system. -/
namespace Go.Ab.Tab
open Go Go.Ab
set_option maxRecDepth 10000
set_option linter.unusedVariables false
set_option linter.unusedSimpArgs false
end Go.Ab.Tab
/- slices.Reverse: of an own object,of nothing. -/
namespace Go.Ab
open Go
set_option linter.unusedVariables false
section
variable {C : CallRel} {Q : St → Prop} {k : List AI} {n D : Nat} {τ : Nat → AV} {ω : Nat → Ent} {S : Nat → Nat → Ent} {l : List AOper} {d : Nat} {ps : List (Nat × Nat)} {es : List Eff}
 {z bytes z' : Nat} {x y : Opd} {xs ys : List AV} {t : Tip} {r : List (Nat × Nat)}
theorem Rd_appO {i g len : Nat} {ea : Bool} {cs : List AV} (hi : i < n) (hx : (stF n D τ ω S).evr x = .own D i g 0 len z ea) (hy : elemsOf (stF n D τ ω S) z ((stF n D τ ω S).ev y) = some (ys,r)) (hne : ys ≠ []) (hw : ω i = (g,.cells cs)) (hl : len * z ≤ cs.length) (hok : okEl z ea ys = true) (hb : (len + ys.length) * bytes ≤ maxElems)
  (hk : Rd C .fr Q (.ops l :: k) (stF n D (upd τ d (.own D i (g + 1) 0 (len + ys.length) z ea)) (upd ω i (g + 1,.cells ((cs.take (len * z)).map AV.strip1 ++ newC ys))) S)) : Rd C .fr Q (.ops (⟨some d,.append z bytes x y,none⟩ :: l) :: k) (stF n D τ ω S) := by
 refine Rd_app (e := { val := .own D i (g + 1) 0 (len + ys.length) z ea,ups := [(D,i,(g + 1,.cells ((cs.take (len * z)).map AV.strip1 ++ newC ys)))],rd := r }) (.inr ⟨none,?_⟩) ?_
 ·obtain ⟨y0,ys',rfl⟩ : ∃ y0 ys',ys = y0 :: ys' := by
   cases ys with
   | nil => exact absurd rfl hne
   | cons a b => exact ⟨a,b,rfl⟩
  simp only [opfO,hx,hy,stF_look,if_true,if_pos hi,hw,stF_D]
  exact if_pos ⟨trivial,trivial,trivial,trivial,hl,hne,hok,hb⟩
 ·simpa [app_stF] using hk
end
end Go.Ab
namespace Go.Ab.Tab
open Go Go.Ab
set_option maxRecDepth 10000
set_option linter.unusedVariables false
set_option linter.unusedSimpArgs false
def swL (l : List Int) (i : Nat) : List Int := (List.range l.length).map fun k => if k < i ∨ l.length ≤ k + i then l.getD (l.length - 1 - k) 0 else l.getD k 0
theorem swL_len (l : List Int) (i : Nat) : (swL l i).length = l.length := by unfold swL; simp
theorem swL_get' {l : List Int} {i k : Nat} (h : k < l.length) : (swL l i)[k]? = some (if k < i ∨ l.length ≤ k + i then l.getD (l.length - 1 - k) 0 else l.getD k 0) := by
 unfold swL
 rw [List.getElem?_map,List.getElem?_range h]; rfl
theorem swL_get {l : List Int} {i k : Nat} (h : k < (swL l i).length) : (swL l i)[k] = if k < i ∨ l.length ≤ k + i then l.getD (l.length - 1 - k) 0 else l.getD k 0 := by
 have e := swL_get' (l := l) (i := i) (k := k) (by rw [swL_len] at h; exact h)
 rw [List.getElem?_eq_getElem h] at e
 exact Option.some.inj e
theorem swL_zero (l : List Int) : swL l 0 = l := by
 apply List.ext_getElem (swL_len l 0)
 intro k h1 h2
 rw [swL_get,if_neg (by omega),List.getD_eq_getElem?_getD,List.getElem?_eq_getElem h2]; rfl
theorem swL_end {l : List Int} {i : Nat} (h : l.length ≤ i + i + 1) : swL l i = l.reverse := by
 apply List.ext_getElem (by rw [swL_len,List.length_reverse])
 intro k h1 h2
 rw [swL_get,List.getElem_reverse]
 rw [List.length_reverse] at h2
 have hg : ∀ j,(hj : j < l.length) → l.getD j 0 = l[j] := fun j hj => by rw [List.getD_eq_getElem?_getD,List.getElem?_eq_getElem hj]; rfl
 by_cases c : k < i ∨ l.length ≤ k + i
 ·rw [if_pos c]; exact hg _ (by omega)
 ·rw [if_neg c]
  have e : l.length - 1 - k = k := by omega
  rw [hg k h2]
  congr 1; omega
theorem swL_step {l : List Int} {i : Nat} (h : i + i + 1 < l.length) : ((swL l i).set i (l.getD (l.length - 1 - i) 0)).set (l.length - 1 - i) (l.getD i 0) = swL l (i + 1) := by
 apply List.ext_getElem (by rw [List.length_set,List.length_set,swL_len,swL_len])
 intro k h1 h2
 rw [swL_get,List.getElem_set,List.getElem_set,swL_get]
 rw [swL_len] at h2
 by_cases e1 : l.length - 1 - i = k
 ·rw [if_pos e1,if_pos (by omega)]
  congr 1; omega
 ·rw [if_neg e1]
  by_cases e2 : i = k
  ·rw [if_pos e2,if_pos (by omega),e2]
  ·rw [if_neg e2]
   by_cases c : k < i ∨ l.length ≤ k + i
   ·rw [if_pos c,if_pos (by omega)]
   ·rw [if_neg c,if_neg (by omega)]
theorem swL_at {l : List Int} {i k : Nat} (h1 : i ≤ k) (h2 : k + i < l.length) : (swL l i)[k]? = some (l.getD k 0) := by
 rw [List.getElem?_eq_getElem (by rw [swL_len]; omega),swL_get,if_neg (by omega)]
theorem l59 (D : Nat) (l : List Int) (hlen : l.length ≤ 2 ^ 32) (d' o g : Nat) (hd : d' < D) (S0 : Nat → Nat → Ent) : ∀ (m i j : Nat) (τ ω),i + j + 1 = l.length → i ≤ j + 1 → m = j →
  τ 0 = .own d' o g 0 l.length 1 false → τ 2 = .int .i64 i → τ 3 = .int .i64 j →
  Rd (Loc Pg Gl) .im (RetM [] (.tup []) D S0 [(d',o,(g,.cells (l.map (AV.int .i64)).reverse))]) [.lp c59_l0,.blk 0] (stF 28 D τ ω (updS S0 d' o (g,.cells ((swL l i).map (AV.int .i64))))) := by
 have hD : ¬ d' = D := by omega
 intro m
 induction m using Nat.strongRecOn with
 | ind m ih =>
  intro i j τ ω hij hi hm h0 h2 h3
  refine Rd_lpE c59_l0.eq_1 ?_
  by_cases hlt : i < j
  ·have hil : i < l.length := by omega
   have hjl : j < l.length := by omega
   have hgi : ((swL l i).map (AV.int .i64))[i]? = some (.int .i64 (l.getD i 0)) := by rw [List.getElem?_map,swL_at (Nat.le_refl _) (by omega)]; rfl
   have hgj : ((swL l i).map (AV.int .i64))[j]? = some (.int .i64 (l.getD j 0)) := by rw [List.getElem?_map,swL_at (by omega) (by omega)]; rfl
   have hcl : ((swL l i).map (AV.int .i64)).length = l.length := by rw [List.length_map,swL_len]
   generalize hcs : (swL l i).map (AV.int .i64) = cs at hgi hgj hcl
   have hgl : l.getD j 0 = l[j] := by rw [List.getD_eq_getElem?_getD,List.getElem?_eq_getElem hjl]; rfl
   have hgl' : l.getD i 0 = l[i] := by rw [List.getD_eq_getElem?_getD,List.getElem?_eq_getElem hil]; rfl
   obtain ⟨cs1,hcs1⟩ : ∃ cs1,List.take i cs ++ AV.int .i64 l[j] :: List.drop (i + 1) cs = cs1 := ⟨_,rfl⟩
   obtain ⟨cs2,hcs2⟩ : ∃ cs2,List.take j cs1 ++ AV.int .i64 l[i] :: List.drop (j + 1) cs1 = cs2 := ⟨_,rfl⟩
   have h11 : i + 1 ≤ cs.length := by omega
   have e1 : cs1 = cs.set i (.int .i64 l[j]) := by rw [← hcs1,List.set_eq_take_append_cons_drop,if_pos (by omega)]
   have h12 : j + 1 ≤ cs1.length := by rw [e1,List.length_set]; omega
   have e2 : cs2 = cs1.set j (.int .i64 l[i]) := by rw [← hcs2,List.set_eq_take_append_cons_drop,if_pos (by omega)]
   have e3 : cs2 = (swL l (i + 1)).map (AV.int .i64) := by
    rw [e2,e1,← hcs,← swL_step (show i + i + 1 < l.length by omega),List.map_set,List.map_set,show l.length - 1 - i = j by omega,hgl,hgl']
   have hw1 : IntKind.i64.wrap ((i : Int) + 1) = ((i + 1 : Nat) : Int) := by rw [← wrap_i64_nat (n := i + 1) (by omega)]; rfl
   have hw2 : IntKind.i64.wrap ((j : Int) - 1) = ((j - 1 : Nat) : Int) := by rw [← wrap_i64_nat (n := j - 1) (by omega)]; congr 1; omega
   simp [h0,h2,h3,hlt,hD,hil,hjl,hgi,hgj,h11,hcs1]
   simp [h0,h2,h3,hlt,hD,hil,hjl,hgi,hgj,h12,hcs2,hw1,hw2]
   rw [e3]
   refine ih (j - 1) (by omega) (i + 1) (j - 1) _ _ (by omega) (by omega) rfl ?_ ?_ ?_
   all_goals simp [h0]
  ·have hsw : swL l i = l.reverse := swL_end (by omega)
   rw [hsw]
   simp [h0,h2,h3,hlt]
theorem spec59 (D : Nat) (l : List Int) (hlen : l.length ≤ 2 ^ 32) (hne : l ≠ []) (d' o g : Nat) (hd : d' < D) :
  Go.Ab.Loc Pg Gl D 59 [.own d' o g 0 l.length 1 false] [(d',o,(g,.cells (l.map (AV.int .i64))))] (.tup []) [(d',o,(g,.cells (l.map (AV.int .i64)).reverse))] := by
 have hD : ¬ d' = D := by omega
 have hl1 : 1 ≤ l.length := by
  have : l.length ≠ 0 := by simpa using hne
  omega
 refine loc_rdM mixedP tok rfl rfl fun S hS => ?_
 have hS := (hS _ (List.mem_singleton.2 rfl)).2
 simp only at hS
 unfold c59
 have hw2 : IntKind.i64.wrap ((l.length : Int) - 1) = ((l.length - 1 : Nat) : Int) := by rw [← wrap_i64_nat (n := l.length - 1) (by omega)]; congr 1; omega
 have key := l59 D l hlen d' o g hd S (l.length - 1) 0 (l.length - 1)
 rw [swL_zero,updS_self S d' o hS] at key
 simp [hw2]
 refine key _ _ (by omega) (by omega) rfl ?_ ?_ ?_
 all_goals simp
theorem spec59_1 (D : Nat) (l : List Int) (hlen : l.length ≤ 2 ^ 32) (d' o g : Nat) (hd : d' < D) :
  Go.Ab.Loc Pg Gl D 59 [.own d' o g 0 l.length 1 false] [(d',o,(g,.cells (l.map (AV.int .i64))))] (.tup []) [(d',o,(g,.cells (l.map (AV.int .i64)).reverse))] := by
 by_cases hne : l = []
 case neg => exact spec59 D l hlen hne d' o g hd
 subst hne
 refine loc_rdM mixedP tok rfl rfl fun S hS => ?_
 have hS := (hS _ (List.mem_singleton.2 rfl)).2
 simp only at hS
 unfold c59
 simp
 refine Rd_lpE c59_l0.eq_1 ?_
 have hw : IntKind.i64.wrap (-1) = -1 := by decide
 simp [hw]
 intro a b _
 simp at hS
 rw [updS_self S d' o hS]
end Go.Ab.Tab
/- The program's Apart: the search xs a pure function. -/
namespace Go.Ab.Tab
open Go Go.Ab
set_option maxRecDepth 10000
set_option linter.unusedVariables false
set_option linter.unusedSimpArgs false
structure Wy where
 a : Nat
 b : Nat
 fr : Int
 ps : Nat
def encWy (w : Wy) : AV := .agg [.int .i64 w.a,.int .i64 w.b,.int .i64 w.fr,.int .i64 w.ps]
def hasW (ws : List Wy) (a b : Nat) : Bool := ws.any fun w => decide (w.a = a ∧ w.b = b)
def entsW (ws : List Wy) : List (AV × AV) := ws.map fun w => (.agg [.int .i64 w.a,.int .i64 w.b],.bool true)
theorem mfind_W (a b : Nat) : ∀ ws : List Wy,mfind 2 [.int .i64 a,.int .i64 b] (entsW ws) = some (if hasW ws a b then some (.bool true) else none)
 | [] => rfl
 | w :: ws => by
  have ih := mfind_W a b ws
  rw [entsW] at ih
  rw [entsW,List.map_cons,mfind]
  have hh : hasW (w :: ws) a b = (decide (w.a = a ∧ w.b = b) || hasW ws a b) := rfl
  rw [hh]
  simp only [List.length_cons,List.length_nil,if_true,eqCells]
  by_cases h1 : w.a = a
  ·by_cases h2 : w.b = b
   ·simp [h1,h2]
   ·have : ¬ ((b : Int) = (w.b : Int)) := by omega
    simp [h1,h2,this,ih]
  ·have : ¬ ((a : Int) = (w.a : Int)) := by omega
   simp [h1,this,ih]
theorem entsW_snoc (ws : List Wy) (w : Wy) : entsW (ws ++ [w]) = entsW ws ++ [(.agg [.int .i64 w.a,.int .i64 w.b],.bool true)] := by unfold entsW; simp
def addWy (ws : List Wy) (k : Nat) (p : Nat) (a b : Nat) : List Wy := if hasW ws a b then ws else ws ++ [⟨a,b,k,p⟩]
def addWys (ws : List Wy) (k : Nat) : Nat → List Int → List Int → List Wy
 | _,[],_ => ws
 | _,_ :: _,[] => ws
 | p,a :: xs,b :: ys => addWys (addWy ws k p a.toNat b.toNat) k (p + 1) xs ys
def pathW (ws : List Wy) : Nat → Nat → List Int
 | 0,_ => []
 | f + 1,i => match ws[i]? with
  | some w => if w.fr < 0 then [] else (w.ps : Int) :: pathW ws f w.fr.toNat
  | none => []
def diffS (s t : Sy) (a b : Nat) : Bool := !decide (cmpV (shapeV (s.m[a]?.getD v0) s.f) (shapeV (t.m[b]?.getD v0) t.f) = 0)
def bfsW (s t : Sy) : Nat → Nat → List Wy → Option (List Int)
 | 0,_,_ => none
 | f + 1,k,ws => match ws[k]? with
  | none => none
  | some w => if diffS s t w.a w.b then some (pathW ws (k + 1) k).reverse
   else bfsW s t f (k + 1) (addWys ws k 0 (leavesV (s.m[w.a]?.getD v0) s.f) (leavesV (t.m[w.b]?.getD v0) t.f))
def rAp (o : Option (List Int)) (e : Int) : AV := .tup [encI (o.getD []),.bool o.isSome,.int .i64 e]
structure WOk (n m : Nat) (ws : List Wy) : Prop where
 get : ∀ (i : Nat) w,ws[i]? = some w → w.a < n ∧ w.b < m ∧ w.fr < i ∧ -1 ≤ w.fr ∧ w.ps ≤ 2 ^ 32
 nd : (ws.map fun w => w.a * m + w.b).Nodup
theorem nodup_le : ∀ (n : Nat) (xs : List Nat),xs.Nodup → (∀ x ∈ xs,x < n) → xs.length ≤ n
 | 0,xs,_,hb => by
  cases xs with
  | nil => simp
  | cons a l => exact absurd (hb a (List.mem_cons_self ..)) (by omega)
 | n + 1,xs,hn,hb => by
  have h1 : (xs.erase n).Nodup := hn.erase n
  have h2 : ∀ x ∈ xs.erase n,x < n := by
   intro x hx
   have hm := List.mem_of_mem_erase hx
   have := hb x hm
   have hne : x ≠ n := by
    intro e
    subst e
    exact hn.not_mem_erase hx
   omega
  have := nodup_le n _ h1 h2
  have h3 := List.length_erase (a := n) (l := xs)
  split at h3 <;> omega
theorem key_lt {a b n m : Nat} (ha : a < n) (hb : b < m) : a * m + b < n * m := by
 have : a * m + m ≤ n * m := by
  rw [← Nat.succ_mul]
  exact Nat.mul_le_mul_right _ ha
 omega
theorem key_inj {a b c d m : Nat} (hb : b < m) (hd : d < m) (h : a * m + b = c * m + d) : a = c ∧ b = d := by
 have h1 : (a * m + b) / m = a := by rw [Nat.mul_comm,Nat.mul_add_div (by omega),Nat.div_eq_of_lt hb,Nat.add_zero]
 have h2 : (c * m + d) / m = c := by rw [Nat.mul_comm,Nat.mul_add_div (by omega),Nat.div_eq_of_lt hd,Nat.add_zero]
 rw [h,h2] at h1
 subst h1
 exact ⟨rfl,by omega⟩
theorem WOk.len {n m : Nat} {ws : List Wy} (h : WOk n m ws) : ws.length ≤ n * m := by
 have := nodup_le (n * m) _ h.nd (by
  intro x hx
  obtain ⟨w,hw,rfl⟩ := List.mem_map.1 hx
  obtain ⟨i,hi⟩ := List.getElem?_of_mem hw
  obtain ⟨h1,h2,_⟩ := h.get i w hi
  exact key_lt h1 h2)
 rwa [List.length_map] at this
theorem WOk.add {n m : Nat} {ws : List Wy} (h : WOk n m ws) {k p a b : Nat} (hk : k < ws.length) (ha : a < n) (hb : b < m) (hp : p ≤ 2 ^ 32) : WOk n m (addWy ws k p a b) := by
 unfold addWy
 cases hh : hasW ws a b with
 | true => exact h
 | false =>
  refine ⟨fun i w hi => ?_,?_⟩
  ·simp only [Bool.false_eq_true,if_false] at hi
   rw [List.getElem?_append] at hi
   split at hi
   ·exact h.get i w hi
   ·rename_i hlt
    have : i - ws.length = 0 := by
     have := (List.getElem?_eq_some_iff.1 hi).1
     simpa using this
    rw [this] at hi
    simp at hi
    subst hi
    refine ⟨ha,hb,?_,?_,hp⟩ <;> simp only <;> omega
  ·simp only [Bool.false_eq_true,if_false,List.map_append,List.map_cons,List.map_nil]
   rw [List.nodup_append]
   refine ⟨h.nd,by simp,fun x hx y hy => ?_⟩
   rw [List.mem_singleton] at hy
   obtain ⟨w,hw,rfl⟩ := List.mem_map.1 hx
   subst hy
   intro e
   obtain ⟨i,hi⟩ := List.getElem?_of_mem hw
   obtain ⟨h1,h2,_⟩ := h.get i w hi
   obtain ⟨e1,e2⟩ := key_inj h2 hb e
   have : hasW ws a b = true := List.any_eq_true.2 ⟨w,hw,by simp [e1,e2]⟩
   rw [hh] at this; cases this
theorem addWy_len (ws : List Wy) (k p a b : Nat) : ws.length ≤ (addWy ws k p a b).length := by
 unfold addWy
 split
 ·exact Nat.le_refl _
 ·simp
theorem WOk.adds {n m : Nat} {k : Nat} : ∀ (xs ys : List Int) (p : Nat) {ws : List Wy},WOk n m ws → k < ws.length → (∀ x ∈ xs,0 ≤ x ∧ x < n) → (∀ x ∈ ys,0 ≤ x ∧ x < m) → p + xs.length ≤ 2 ^ 32 → WOk n m (addWys ws k p xs ys)
 | [],ys,p,ws,h,_,_,_,_ => by rw [addWys]; exact h
 | a :: xs,[],p,ws,h,_,_,_,_ => by rw [addWys]; exact h
 | a :: xs,b :: ys,p,ws,h,hk,ha,hb,hp => by
  rw [addWys]
  have h1 := ha a (List.mem_cons_self ..)
  have h2 := hb b (List.mem_cons_self ..)
  rw [List.length_cons] at hp
  exact WOk.adds xs ys (p + 1) (h.add hk (by omega) (by omega) (by omega)) (by have := addWy_len ws k p a.toNat b.toNat; omega) (fun x hx => ha x (List.mem_cons_of_mem _ hx)) (fun x hx => hb x (List.mem_cons_of_mem _ hx)) (by omega)
theorem addWys_len {k : Nat} : ∀ (xs ys : List Int) (p : Nat) (ws : List Wy),ws.length ≤ (addWys ws k p xs ys).length
 | [],ys,p,ws => by rw [addWys]; exact Nat.le_refl _
 | a :: xs,[],p,ws => by rw [addWys]; exact Nat.le_refl _
 | a :: xs,b :: ys,p,ws => by
  rw [addWys]
  exact Nat.le_trans (addWy_len ..) (addWys_len xs ys (p + 1) _)
theorem partsF_same {n : Nat} {u v : Va} {f : Fu} (hf : shapedF f = true) (hp : polyF f = true) (hu : valN n u f = true) (h : u.n = v.n) : partsF f u = partsF f v := by
 obtain ⟨_,_,_,hk⟩ := valN_poly hf hp hu
 have hk' : f.k = 0 ∨ f.k = 1 ∨ f.k = 2 ∨ f.k = 3 ∨ f.k = 4 := by
  rcases hk with h | h | h | h | h
  ·exact .inl h.1
  ·exact .inr (.inl h.1)
  ·exact .inr (.inr (.inl h.1))
  ·exact .inr (.inr (.inr (.inl h.1)))
  ·exact .inr (.inr (.inr (.inr h.1)))
 unfold partsF
 rcases hk' with h' | h' | h' | h' | h' <;> simp [h',h]
theorem shaped_parts {f : Fu} (hf : shapedF f = true) (v : Va) : ∀ a ∈ partsF f v,shapedF a = true := fun a ha => by
 have hm := partsF_mem hf v a ha
 cases f with
 | mk k n gs => exact (shaped_mk hf).2.2.2 a hm
mutual
theorem fill_len (s : Nat → Int) {n m : Nat} : ∀ (u v : Va) (f : Fu) (c : Nat),shapedF f = true → polyF f = true → valN n u f = true → valN m v f = true → fillV s c u f = fillV s c v f → (leavesV u f).length = (leavesV v f).length
 | .mk a gs ws,.mk b hs zs,f,c,hf,hp,hu,hv,h => by
  rw [leavesV,leavesV]
  rw [fillV,fillV] at h
  by_cases h0 : f.k = 0
  ·simp [h0]
  ·rw [if_neg h0,if_neg h0] at h
   rw [if_neg h0,if_neg h0]
   injection h with h1 h2 h3
   have e := partsF_same (v := .mk b hs zs) hf hp hu h1
   have q1 := (valN_poly hf hp hu).2.2.1
   have q2 := (valN_poly hf hp hv).2.2.1
   rw [e] at h2 q1 ⊢
   exact fills_len s gs hs _ c (fun g hg => ⟨shaped_parts hf _ g hg,poly_parts hf hp _ g hg⟩) q1 q2 h2
theorem fills_len (s : Nat → Int) {n m : Nat} : ∀ (us vs : List Va) (fs : List Fu) (c : Nat),(∀ g ∈ fs,shapedF g = true ∧ polyF g = true) → valNs n us fs = true → valNs m vs fs = true → fillVs s c us fs = fillVs s c vs fs → (leavesVs us fs).length = (leavesVs vs fs).length
 | [],[],fs,c,_,_,_,h => rfl
 | [],v :: vs,[],c,_,_,_,h => rfl
 | [],v :: vs,f :: fs,c,_,_,_,h => by rw [fillVs,fillVs] at h; cases h
 | u :: us,[],[],c,_,_,_,h => rfl
 | u :: us,[],f :: fs,c,_,_,_,h => by rw [fillVs,fillVs] at h; cases h
 | u :: us,v :: vs,[],c,_,_,_,h => rfl
 | u :: us,v :: vs,f :: fs,c,hf,hu,hv,h => by
  rw [fillVs,fillVs] at h
  rw [valNs,Bool.and_eq_true] at hu hv
  injection h with h1 h2
  obtain ⟨q1,q2⟩ := hf f (List.mem_cons_self ..)
  have e := fill_len s u v f c q1 q2 hu.1 hv.1 h1
  rw [e] at h2
  rw [leavesVs,leavesVs,List.length_append,List.length_append,e,fills_len s us vs fs _ (fun g hg => hf g (List.mem_cons_of_mem _ hg)) hu.2 hv.2 h2]
end
end Go.Ab.Tab
/- The program's Apart: the path (loop 0). -/
namespace Go.Ab.Tab
open Go Go.Ab
set_option maxRecDepth 10000
set_option linter.unusedVariables false
set_option linter.unusedSimpArgs false
theorem l20_0 (D : Nat) (ws : List Wy) {n m : Nat} (hW : WOk n m ws) (S) (K : List AI) : ∀ (f a : Nat) (acc : List Int) (g : Nat) (τ ω) (r : AV),a < f → a < ws.length → acc.length + f ≤ 2 ^ 20 →
  τ 13 = .sl 4 (ws.map encWy) .tip → τ 19 = .int .i64 a → τ 18 = .own D 110 g 0 acc.length 1 false → ω 110 = (g,.cells (acc.map (AV.int .i64))) → r = rAp (some (acc ++ pathW ws f a).reverse) 0 →
  Rd (Loc Pg Gl) .fr (RetQ [.tmp 8,.tmp 9,.tmp 10] r S) (.lp c20_l0 :: .blk 2 :: .c c20_k0 :: K) (stF 168 D τ ω S) := by
 intro f
 induction f with
 | zero => intro a acc g τ ω r h; omega
 | succ f ih =>
  intro a acc g τ ω r haf hal hlen h13 h19 h18 w18 hr
  refine Rd_lpE c20_l0.eq_1 ?_
  obtain ⟨w,hw⟩ : ∃ w,ws[a]? = some w := ⟨_,List.getElem?_eq_getElem hal⟩
  have hwe : ws[a] = w := (List.getElem?_eq_some_iff.1 hw).2
  obtain ⟨_,_,hfr,hfr1,_⟩ := hW.get a w hw
  rw [pathW,hw] at hr
  simp only at hr
  by_cases hn : w.fr < 0
  ·have e : ¬ 0 ≤ w.fr := by omega
   rw [if_pos hn,List.append_nil] at hr
   simp [h13,h18,h19,hal,hwe,encWy,e,c20_k0]
   have hD : D < D + 1 := Nat.lt_succ_self D
   refine Rd_callM (spec59_1 (D + 1) acc (by omega) D 110 g hD) (by simp [h18]) ?_ ?_ ?_
   ·intro m hm
    rw [List.mem_singleton.1 hm]
    simp [w18]
   ·intro u hu
    rw [List.mem_singleton.1 hu]
    simp
   ·simp [h18]
    have hrev : (acc.map (AV.int .i64)).reverse = acc.reverse.map (AV.int .i64) := by simp
    rw [show acc.length = acc.reverse.length by simp]
    rw [show frzD = 18 + 2 from rfl,frz_own_ints 18 (l := acc.reverse) (g := g) (show 110 < 168 by omega) (by simp) (Nat.le_refl _)]
    simp [hr,List.take_of_length_le,rAp,encI]
  ·have e : 0 ≤ w.fr := by omega
   rw [if_neg hn] at hr
   obtain ⟨b,hb⟩ : ∃ b : Nat,w.fr = b := ⟨w.fr.toNat,by omega⟩
   rw [hb,Int.toNat_natCast] at hr
   simp [h13,h18,h19,hal,hwe,encWy,e]
   refine Rd_appO (cs := acc.map (AV.int .i64)) (ys := [.int .i64 w.ps]) (r := []) (by omega) (g := g) (len := acc.length) (ea := false) (by simp) (by simp) (by simp) w18 (by simp) (by simp [okEl]) (by simp [maxElems]; omega) ?_
   simp [h13,h18,h19,hal,hwe,encWy,hb]
   refine ih b (acc ++ [(w.ps : Int)]) (g + 1) _ _ r (by omega) (by omega) ?_ ?_ ?_ ?_ ?_ ?_
   ·rw [List.length_append,List.length_singleton]; omega
   ·simp [h13,encWy]
   ·simp
   ·simp
   ·have e1 : (AV.strip1 ∘ AV.int IntKind.i64) = AV.int .i64 := rfl
    have e2 : newC [AV.int .i64 (w.ps : Int)] = [AV.int .i64 w.ps] := rfl
    simp [e1,e2,List.take_of_length_le]
   ·rw [hr]; simp
end Go.Ab.Tab
/- The program's Apart: the pairs that one pair leads to (loop 1). -/
namespace Go.Ab.Tab
open Go Go.Ab
set_option maxRecDepth 10000
set_option linter.unusedVariables false
set_option linter.unusedSimpArgs false
theorem l20_1 (D : Nat) (n m k : Nat) (hk : k ≤ 10000) (S) (xs ys : List Int) (hl : xs.length = ys.length) (hxs : ∀ x ∈ xs,0 ≤ x ∧ x < n) (hys : ∀ x ∈ ys,0 ≤ x ∧ x < m) (hlen : xs.length ≤ 2 ^ 31) (hnm : n * m ≤ 10000) (e4 e5 : Ent) (K : List AI) (Q : St → Prop) :
  ∀ (j i : Nat) (ws : List Wy) (τ ω),i + j = xs.length → WOk n m ws → k < ws.length →
  τ 4 = .ptr D 4 1 0 → τ 5 = .ptr D 5 1 0 → τ 13 = .sl 4 (ws.map encWy) .tip → τ 14 = .mp D 69 1 → τ 15 = .int .i64 k → τ 20 = .sl 1 (ys.map (AV.int .i64)) .no → τ 141 = .sl 1 (xs.map (AV.int .i64)) .no → τ 142 = .int .i64 xs.length → τ 143 = .int .i64 i →
  ω 4 = e4 → ω 5 = e5 → ω 69 = (1,.mp (entsW ws)) →
  (∀ ws' τ' ω',ws' = addWys ws k i (xs.drop i) (ys.drop i) → τ' 4 = .ptr D 4 1 0 → τ' 5 = .ptr D 5 1 0 → τ' 13 = .sl 4 (ws'.map encWy) .tip → τ' 14 = .mp D 69 1 → τ' 15 = .int .i64 k → ω' 4 = e4 → ω' 5 = e5 → ω' 69 = (1,.mp (entsW ws')) → Rd (Loc Pg Gl) .fr Q K (stF 168 D τ' ω' S)) →
  Rd (Loc Pg Gl) .fr Q (.lp c20_l1 :: .blk 4 :: K) (stF 168 D τ ω S) := by
 intro j
 induction j with
 | zero =>
  intro i ws τ ω hi hW hkl h4 h5 h13 h14 h15 h20 h141 h142 h143 w4 w5 w69 hend
  refine Rd_lpE c20_l1.eq_1 ?_
  obtain rfl : i = xs.length := by omega
  simp [h142,h143]
  refine hend ws _ _ (by rw [List.drop_length,addWys]) ?_ ?_ ?_ ?_ ?_ w4 w5 w69
  all_goals simp [h4,h5,h13,h14,h15]
 | succ j ih =>
  intro i ws τ ω hi hW hkl h4 h5 h13 h14 h15 h20 h141 h142 h143 w4 w5 w69 hend
  refine Rd_lpE c20_l1.eq_1 ?_
  have hlt : i < xs.length := by omega
  have hlt' : i < ys.length := by omega
  have hwr := wrap_next hlt (show xs.length ≤ maxLen by unfold maxLen; omega)
  have hx := hxs _ (List.getElem_mem hlt)
  have hy := hys _ (List.getElem_mem hlt')
  obtain ⟨a,ha⟩ : ∃ a : Nat,xs[i] = a := ⟨xs[i].toNat,by omega⟩
  obtain ⟨b,hb⟩ : ∃ b : Nat,ys[i] = b := ⟨ys[i].toNat,by omega⟩
  rw [List.drop_eq_getElem_cons hlt,List.drop_eq_getElem_cons hlt',addWys,ha,hb,Int.toNat_natCast,Int.toNat_natCast] at hend
  rw [ha] at hx
  rw [hb] at hy
  have hW' := hW.add (p := i) hkl (a := a) (b := b) (by omega) (by omega) (by omega)
  have hwl := hW.len
  have hmf := mfind_W a b ws
  cases hh : hasW ws a b with
  | true =>
   rw [hh] at hmf
   have e : addWy ws k i a b = ws := by unfold addWy; rw [hh]; rfl
   rw [e] at hend
   simp [h14,h20,h141,h142,h143,hlt,hlt',ha,hb,w69,hmf,AV.plain1,hwr]
   refine ih (i + 1) ws _ _ (by omega) hW hkl ?_ ?_ ?_ ?_ ?_ ?_ ?_ ?_ ?_ ?_ ?_ ?_ hend
   all_goals simp [h4,h5,h13,h14,h15,h20,h141,h142,w4,w5,w69]
  | false =>
   rw [hh] at hmf
   have e : addWy ws k i a b = ws ++ [⟨a,b,k,i⟩] := by unfold addWy; rw [hh]; rfl
   rw [e] at hend hW'
   simp [h14,h20,h141,h142,h143,hlt,hlt',ha,hb,w69,hmf,AV.plain1,h13,h15]
   refine Rd_appI (z' := 4) (xs := ws.map encWy) (ys := [encWy ⟨a,b,k,i⟩]) (t := .tip) (r := []) (by simp) (by simp [encWy]) (.inl rfl) (by simp [maxElems]; omega) (.inl rfl) ?_
   simp [h143,hwr]
   refine ih (i + 1) (ws ++ [⟨a,b,k,i⟩]) _ _ (by omega) hW' (by simp; omega) ?_ ?_ ?_ ?_ ?_ ?_ ?_ ?_ ?_ ?_ ?_ ?_ hend
   all_goals simp [h4,h5,h13,h14,h15,h20,h141,h142,w4,w5,w69,entsW_snoc]
end Go.Ab.Tab
/- The program's Apart. -/
namespace Go.Ab.Tab
open Go Go.Ab
set_option maxRecDepth 10000
set_option linter.unusedVariables false
set_option linter.unusedSimpArgs false
theorem shape_fit (v : Va) (h : fitV v) (hn : nodesV v ≤ 2 ^ 30) (f : Fu) : fitV (shapeV v f) := by
 unfold shapeV
 exact fillV_fit _ v h 0 f
def ycells (s : Sy) : Ent := (1,.cells [.int .i64 s.f.k,.int .i64 s.f.n,.sl 3 (s.f.gs.map encF) .no,.sl 3 (s.m.map encV) .no])
theorem l20_2 (D : Nat) (s t : Sy) (hs : PolyY s) (ht : PolyY t) (hft : s.f = t.f) (S) : ∀ (f k : Nat) (ws : List Wy) (τ ω) (r : AV),f + k = 10001 → k ≤ ws.length → WOk s.m.length t.m.length ws →
  τ 4 = .ptr D 4 1 0 → τ 5 = .ptr D 5 1 0 → τ 13 = .sl 4 (ws.map encWy) .tip → τ 14 = .mp D 69 1 → τ 15 = .int .i64 k → ω 4 = ycells s → ω 5 = ycells t → ω 69 = (1,.mp (entsW ws)) →
  r = rAp (bfsW s t f k ws) 0 →
  Rd (Loc Pg Gl) .fr (RetQ [.tmp 8,.tmp 9,.tmp 10] r S) [.lp c20_l2,.blk 0,.c c20_k3] (stF 168 D τ ω S) := by
 have hnm : s.m.length * t.m.length ≤ 10000 := Nat.mul_le_mul hs.len ht.len
 intro f
 induction f with
 | zero =>
  intro k ws τ ω r hf hk hW
  have := hW.len
  omega
 | succ f ih =>
  intro k ws τ ω r hf hk hW h4 h5 h13 h14 h15 w4 w5 w69 hr
  have hwl := hW.len
  refine Rd_lpE c20_l2.eq_1 ?_
  by_cases hkl : k < ws.length
  case neg =>
   obtain rfl : k = ws.length := by omega
   rw [bfsW,List.getElem?_eq_none (Nat.le_refl _)] at hr
   simp [h13,h15,c20_k3,hr,rAp,encI]
  case pos =>
  obtain ⟨w,hw⟩ : ∃ w,ws[k]? = some w := ⟨_,List.getElem?_eq_getElem hkl⟩
  have hwe : ws[k] = w := (List.getElem?_eq_some_iff.1 hw).2
  obtain ⟨ha,hb,_⟩ := hW.get k w hw
  obtain ⟨u,hu⟩ : ∃ u,s.m[w.a] = u := ⟨_,rfl⟩
  obtain ⟨v,hv⟩ : ∃ v,t.m[w.b] = v := ⟨_,rfl⟩
  have hum : u ∈ s.m := hu ▸ List.getElem_mem ha
  have hvm : v ∈ t.m := hv ▸ List.getElem_mem hb
  obtain ⟨un,uN⟩ := valV_ok (hs.va u hum)
  obtain ⟨vn,vN⟩ := valV_ok (ht.va v hvm)
  rw [bfsW,hw] at hr
  simp only at hr
  rw [diffS,List.getElem?_eq_getElem ha,Option.getD_some,List.getElem?_eq_getElem hb,Option.getD_some,hu,hv] at hr
  simp [h4,h5,h13,h15,w4,w5,ycells,hkl,hwe,encWy,ha,hb,hu,hv,encV_eta u,encV_eta v]
  refine Rd_drCall (spec50 u (hs.m u hum) (by omega) s.f hs.sh hs.po uN _) (by simp [encF_eta s.f,encV_eta u]) ?_
  simp [h5,w5,ycells]
  refine Rd_drCall (spec50 v (ht.m v hvm) (by omega) t.f ht.sh ht.po vN _) (by simp [encF_eta t.f,encV_eta v]) ?_
  simp
  have hfu := (shape_fit u (hs.m u hum) (by omega) s.f)
  refine Rd_drCall (spec58 (shapeV u s.f) (shapeV v t.f) hfu _) (by simp [encV_eta (shapeV u s.f),encV_eta (shapeV v t.f)]) ?_
  by_cases hc : cmpV (shapeV u s.f) (shapeV v t.f) = 0
  ·rw [decide_eq_true hc] at hr
   simp only [Bool.not_true,Bool.false_eq_true,if_false] at hr
   simp [hc,c20_k1,h5,w5,ycells]
   refine Rd_call (spec51 v (ht.m v hvm) (by omega) t.f ht.sh ht.po vN _) (by simp [encF_eta t.f,encV_eta v]) ?_
   simp [h4,w4,ycells,encI]
   refine Rd_call (spec51 u (hs.m u hum) (by omega) s.f hs.sh hs.po uN _) (by simp [encF_eta s.f,encV_eta u]) ?_
   simp [encI]
   have hse : shapeV u s.f = shapeV v t.f := (cmpV_zero _ _).1 hc
   rw [← hft] at hse vN hr
   have hl : (leavesV u s.f).length = (leavesV v s.f).length := fill_len _ u v s.f 0 hs.sh hs.po uN vN hse
   rw [← hft]
   have hul := leavesV_le u s.f
   refine l20_1 D s.m.length t.m.length k (by omega) S (leavesV u s.f) (leavesV v s.f) hl (leavesV_range u s.f uN) (leavesV_range v s.f vN) (by omega) hnm (ycells s) (ycells t) _ _ (leavesV u s.f).length 0 ws _ _ (by omega) hW hkl ?_ ?_ ?_ ?_ ?_ ?_ ?_ ?_ ?_ ?_ ?_ ?_ ?_
   case refine_13 =>
    intro ws' τ' ω' hws' g4 g5 g13 g14 g15 v4 v5 v69
    rw [List.drop_zero,List.drop_zero] at hws'
    have hW' : WOk s.m.length t.m.length ws' := hws' ▸ WOk.adds _ _ 0 hW hkl (leavesV_range u s.f uN) (leavesV_range v s.f vN) (by omega)
    have hwl' : ws.length ≤ ws'.length := hws' ▸ addWys_len _ _ 0 ws
    have hwr := wrap_next hkl (show ws.length ≤ maxLen by unfold maxLen; omega)
    simp [c20_k2,g15,hwr]
    refine ih (k + 1) ws' _ _ r (by omega) (by omega) hW' ?_ ?_ ?_ ?_ ?_ v4 v5 v69 ?_
    case refine_6 => rw [hr,hws']
    all_goals simp [g4,g5,g13,g14]
   all_goals simp [h4,h5,h13,h14,h15,w4,w5,w69,ycells]
  ·rw [decide_eq_false hc] at hr
   simp only [Bool.not_false,if_true] at hr
   simp [hc]
   refine Rd_emp (by omega) ?_
   simp [h15]
   refine l20_0 D ws hW S _ (k + 1) k [] ((ω 110).1 + 1) _ _ r (by omega) hkl (by simp; omega) ?_ ?_ ?_ ?_ (by rw [hr]; simp)
   all_goals simp [h13]
def apErr (s t : Sy) (x y : Int) : Int :=
 if isY s && isY t then (if askF s.f ≠ 0 then askF s.f else if eqF s.f t.f = false ∨ x < 0 ∨ (s.m.length : Int) ≤ x ∨ y < 0 ∨ (t.m.length : Int) ≤ y then 1 else 0) else 30
def aparR (s t : Sy) (x y : Int) : Option (List Int) × Int := if apErr s t x y ≠ 0 then (none,apErr s t x y) else (bfsW s t 10001 0 [⟨x.toNat,y.toNat,-1,0⟩],0)
theorem spec56 (s t : Sy) (hfs : fitF s.f) (hls : s.m.length ≤ maxLen) (hvs : ∀ v ∈ s.m,fitV v) (hbs : nodesVs s.m ≤ 2 ^ 32) (hft : fitF t.f) (hlt : t.m.length ≤ maxLen) (hvt : ∀ v ∈ t.m,fitV v) (hbt : nodesVs t.m ≤ 2 ^ 32) (D : Nat) :
  Go.Ab.Loc Pg Gl D 56 [encY s,encY t] [] (.int .i64 (if isY s && isY t then (if eqF s.f t.f then 0 else 1) else 30)) [] := by
 refine loc_rd mixedP tok rfl rfl fun S => ?_
 have h1 := spec89 s hfs hls hvs hbs (D + 1)
 have h2 := spec89 t hft hlt hvt hbt (D + 1)
 unfold c56
 have hE : ∀ s : Sy,encY s = .agg [.int .i64 s.f.k,.int .i64 s.f.n,.sl 3 (s.f.gs.map encF) .no,.sl 3 (s.m.map encV) .no] := fun s => rfl
 rw [hE] at h1 h2
 rw [hE,hE]
 simp
 refine Rd_call h1 (by simp) ?_
 cases isY s with
 | false => simp
 | true =>
  simp
  refine Rd_call h2 (by simp) ?_
  cases isY t with
  | false => simp
  | true =>
   simp
   refine Rd_call (spec57 s.f hfs t.f _) (by simp [encF_eta s.f,encF_eta t.f]) ?_
   cases eqF s.f t.f <;> simp
theorem spec20 (s t : Sy) (hfs : fitF s.f) (hls : s.m.length ≤ maxLen) (hvs : ∀ v ∈ s.m,fitV v) (hbs : nodesVs s.m ≤ 2 ^ 32) (hft : fitF t.f) (hlt : t.m.length ≤ maxLen) (hvt : ∀ v ∈ t.m,fitV v) (hbt : nodesVs t.m ≤ 2 ^ 32) (x y : Int) (D : Nat) :
  Go.Ab.Loc Pg Gl D 20 [encY s,encY t,.int .i64 x,.int .i64 y] [] (rAp (aparR s t x y).1 (aparR s t x y).2) [] := by
 refine loc_rdF mixedP tok rfl rfl fun S => ?_
 have h56 := spec56 s t hfs hls hvs hbs hft hlt hvt hbt (D + 1)
 unfold c20
 have hE : ∀ s : Sy,encY s = .agg [.int .i64 s.f.k,.int .i64 s.f.n,.sl 3 (s.f.gs.map encF) .no,.sl 3 (s.m.map encV) .no] := fun s => rfl
 rw [hE,hE] at h56
 rw [hE,hE]
 generalize hr : rAp (aparR s t x y).1 (aparR s t x y).2 = r
 have hbad : ∀ e : Int,apErr s t x y = e → e ≠ 0 → r = .tup [.sl 1 [] .no,.bool false,.int .i64 e] := by
  intro e he hne
  rw [← hr,aparR,if_pos (by rw [he]; exact hne),he]; rfl
 simp
 refine Rd_call h56 (by simp) ?_
 cases hi : isY s with
 | false =>
  have := hbad 30 (by unfold apErr; rw [hi]; rfl) (by decide)
  simp [this]
 | true =>
  cases hj : isY t with
  | false =>
   have := hbad 30 (by unfold apErr; rw [hi,hj]; rfl) (by decide)
   simp [this]
  | true =>
   have h20 : ∀ b : Bool,¬ ((if b = true then (0 : Int) else 1) = 30) := by intro b; cases b <;> decide
   simp [h20]
   refine Rd_call (spec41 s.f hfs _) (by simp [encF_eta s.f]) ?_
   by_cases ha : askF s.f = 0
   ·simp [ha]
    refine Rd_call (spec57 s.f hfs t.f _) (by simp [encF_eta s.f,encF_eta t.f]) ?_
    cases he : eqF s.f t.f with
    | false =>
     have := hbad 1 (by unfold apErr; rw [hi,hj]; simp [ha,he]) (by decide)
     simp [this]
    | true =>
     by_cases c1 : x < 0
     ·have := hbad 1 (by unfold apErr; rw [hi,hj]; simp [ha,c1]) (by decide)
      simp [this,c1]
     by_cases c2 : (s.m.length : Int) ≤ x
     ·have := hbad 1 (by unfold apErr; rw [hi,hj]; simp [ha,c2]) (by decide)
      simp [this,c1,c2]
     by_cases c3 : y < 0
     ·have := hbad 1 (by unfold apErr; rw [hi,hj]; simp [ha,c3]) (by decide)
      simp [this,c1,c2,c3]
     by_cases c4 : (t.m.length : Int) ≤ y
     ·have := hbad 1 (by unfold apErr; rw [hi,hj]; simp [ha,c4]) (by decide)
      simp [this,c1,c2,c3,c4]
     have h0 : apErr s t x y = 0 := by unfold apErr; rw [hi,hj]; simp [ha,he,c1,c2,c3,c4]
     rw [aparR,if_neg (by simp [h0])] at hr
     obtain ⟨a,rfl⟩ : ∃ a : Nat,x = a := ⟨x.toNat,by omega⟩
     obtain ⟨b,rfl⟩ : ∃ b : Nat,y = b := ⟨y.toNat,by omega⟩
     have hfe := (eqF_iff _ _).1 he
     simp [c2,c4,AV.plain1,mfind]
     refine l20_2 D s t (poly_of hfs hvs hi ha) (poly_of hft hvt hj (hfe ▸ ha)) hfe S 10001 0 [⟨a,b,-1,0⟩] _ _ r rfl (by simp) ?_ ?_ ?_ ?_ ?_ ?_ ?_ ?_ ?_ ?_
     case refine_1 =>
      refine ⟨fun i w hw => ?_,by simp⟩
      cases i with
      | zero => simp at hw; subst hw; simp; omega
      | succ i => simp at hw
     case refine_10 => rw [← hr]; simp
     all_goals simp [ycells,encWy,entsW]
   ·have := hbad (askF s.f) (by unfold apErr; rw [hi,hj]; simp [ha]) ha
    simp [ha,this]
end Go.Ab.Tab
/- The fixed calls of the laws (awake). -/
namespace Go.Ab.Tab
open Go Go.Ab
set_option maxRecDepth 10000
set_option linter.unusedVariables false
set_option linter.unusedSimpArgs false
def exF : Fu := .mk 3 0 [.mk 1 1 [],.mk 2 0 [.mk 1 3 [],.mk 0 0 []]]
def powF : Fu := .mk 5 0 [.mk 0 0 []]
def exV (b : Int) : Va := .mk 1 [.mk 0 [.mk 2 [] [],.mk b [] []] []] []
def exY : Sy := ⟨exF,[exV 0]⟩
theorem spec39 (D : Nat) : Go.Ab.Loc Pg Gl D 39 [] [] (encF exF) [] := by
 refine loc_rd mixedP tok rfl rfl fun S => ?_
 unfold c39 exF
 generalize hr : encF (.mk 3 0 [.mk 1 1 [],.mk 2 0 [.mk 1 3 [],.mk 0 0 []]]) = r
 simp
 refine Rd_call (spec40 _ 1 1 []) (by simp) ?_
 simp [encF_mk]
 refine Rd_call (spec40 _ 1 3 []) (by simp) ?_
 simp [encF_mk]
 refine Rd_call (spec40 _ 0 0 []) (by simp) ?_
 simp [encF_mk]
 refine Rd_call (spec40 _ 2 0 [.mk 1 3 [],.mk 0 0 []]) (by simp [encF_mk]) ?_
 simp [encF_mk]
 refine Rd_call (spec40 _ 3 0 [.mk 1 1 [],.mk 2 0 [.mk 1 3 [],.mk 0 0 []]]) (by simp [encF_mk]) ?_
 simp [encF_mk,← hr]
theorem ex_fit : fitF exF := by simp [exF,fitF,fitFs,maxLen]
theorem exV_fit (b : Int) : fitV (exV b) := by simp [exV,fitV,fitVs,maxLen]
theorem pow_fit : fitF powF := by simp [powF,fitF,fitFs,maxLen]
theorem ex_shapes : (shapesR exF).2 = 0 ∧ (shapesR exF).1.length = 4 := by constructor <;> kernel_rfl
theorem pow_shapes : shapesR powF = ([],1) := by kernel_rfl
theorem ex_split : splitR exF 9 (exV 5) = (exV 0,[5],0) := by kernel_rfl
theorem ex_pos : posR exF (exV 0) = (1,0) := by kernel_rfl
theorem ex_apart : aparR exY exY 0 0 = (none,0) := by kernel_rfl
theorem encF_ex : encF exF = .agg [.int .i64 3,.int .i64 0,.sl 3 (exF.gs.map encF) .no] := by rw [encF_eta]; rfl
theorem spec9 (D : Nat) : Go.Ab.Loc Pg Gl D 9 [] [] (.bool true) [] := by
 have h39 := spec39 (D + 1)
 have h10 := spec10 exF ex_fit (D + 1)
 have h16 := spec16 exF ex_fit 9 (exV 5) (exV_fit 5) (D + 1)
 have h25 := spec25 exF ex_fit (exV 0) (exV_fit 0) (D + 1)
 have h20 := spec20 exY exY ex_fit (by decide) (by simp [exY]; exact exV_fit 0) (by decide) ex_fit (by decide) (by simp [exY]; exact exV_fit 0) (by decide) 0 0 (D + 1)
 have h10' := spec10 powF pow_fit (D + 1)
 have h23 := spec23 [5] [5] (by decide) (D + 1)
 rw [ex_shapes.1] at h10
 have hl := ex_shapes.2
 generalize (shapesR exF).1 = l at h10 hl
 rw [ex_split] at h16
 rw [ex_pos] at h25
 rw [ex_apart] at h20
 rw [pow_shapes] at h10'
 have hv : ∀ b,encV (exV b) = .agg [.int .i64 1,.sl 3 [.agg [.int .i64 0,.sl 3 [.agg [.int .i64 2,.sl 3 [] .no,.sl 1 [] .no],.agg [.int .i64 b,.sl 3 [] .no,.sl 1 [] .no]] .no,.sl 1 [] .no]] .no,.sl 1 [] .no] := by intro b; simp [exV,encV_mk]
 have hy : encY exY = .agg [.int .i64 3,.int .i64 0,.sl 3 (exF.gs.map encF) .no,.sl 3 [encV (exV 0)] .no] := rfl
 have hp : encF powF = .agg [.int .i64 5,.int .i64 0,.sl 3 [.agg [.int .i64 0,.int .i64 0,.sl 3 [] .no]] .no] := by simp [powF,encF_mk]
 have h0 : encF (.mk 0 0 []) = .agg [.int .i64 0,.int .i64 0,.sl 3 [] .no] := by simp [encF_mk]
 have h40 := spec40 (D + 1) 0 0 []
 have h40' := spec40 (D + 1) 5 0 [.mk 0 0 []]
 rw [show Fu.mk 5 0 [.mk 0 0 []] = powF from rfl,hp] at h40'
 rw [h0] at h40
 rw [hp] at h10'
 rw [rSplit,hv,hv] at h16
 rw [hv] at h25 hy
 rw [hy] at h20
 rw [encF_ex] at h39 h10 h16 h25
 generalize exF.gs.map encF = gs at h39 h10 h16 h25 h20
 try simp only [encI,rAp,Option.getD_none,List.map_cons,List.map_nil,h0] at h16
 try simp only [encI,rAp,Option.getD_none,List.map_cons,List.map_nil,h0] at h20
 try simp only [encI,rAp,Option.getD_none,List.map_cons,List.map_nil,h0] at h40'
 try simp only [encI,rAp,Option.getD_none,List.map_cons,List.map_nil,h0] at h10'
 try simp only [encI,rAp,Option.getD_none,List.map_cons,List.map_nil,h0] at h23
 refine loc_rd mixedP tok rfl rfl fun S => ?_
 unfold c9
 try simp
 refine Rd_call h39 (by simp) ?_
 try simp
 refine Rd_call h10 (by simp) ?_
 try simp
 refine Rd_drCall h39 (by simp) ?_
 try simp
 refine Rd_drCall h16 (by simp) ?_
 try simp
 refine Rd_drCall h39 (by simp) ?_
 try simp
 refine Rd_drCall h25 (by simp) ?_
 try simp
 refine Rd_call h39 (by simp) ?_
 try simp
 refine Rd_call h20 (by simp) ?_
 try simp
 refine Rd_call h40 (by simp) ?_
 try simp
 refine Rd_call h40' (by simp) ?_
 try simp
 refine Rd_call h10' (by simp) ?_
 simp [hl]
 refine Rd_call h23 (by simp) ?_
 try simp
end Go.Ab.Tab
/- Proved: for every input,ectypelaw12.PolyPaths returns true and its arguments read afterwards as before. Conditions: those of the given card (the package variable ectype/functor.forms starts as the program's text lays it); nothing more. -/
namespace Go.Ab.Tab
open Go Go.Ab
set_option maxRecDepth 10000
set_option linter.unusedVariables false
set_option linter.unusedSimpArgs false
def inY (s : Sy) (x : Int) : Bool := decide (0 ≤ x ∧ x < s.m.length)
end Go.Ab.Tab
