/- Proved: for every input, ectypelaw16.UptoCloses returns true and its arguments read afterwards as before. Conditions: those of the given card (the package variable ectype/functor.forms starts as the program's text lays it); nothing more. -/
import Derived.Test.YtpgdlniekkeikaaDoorClosesD
import Derived.Test.YtpgdlniekkeikaaDoorClosesC
import Derived.Test.YtpgdlniekkeikaaDoorB4
import Derived.Test.YtpgdlniekkeikaaDoorCards
import Derived.Test.YtpgdlniekkeikaaDoorTie
import Derived.LaidLaws
import Derived.Handed
import Derived.SevenTiedAt
namespace Go.Ab.Tab
open Go Go.Ab
set_option maxRecDepth 10000
set_option linter.unusedVariables false
set_option linter.unusedSimpArgs false

theorem law3 (n : Int) (ps : List PI) (hpl : ps.length ≤ maxLen) (hps : ∀ p ∈ ps, p.1.length ≤ maxLen ∧ p.2.length ≤ maxLen) (x y : List Int) (hx : x.length ≤ maxLen) (hy : y.length ≤ maxLen) :
    Go.Ab.Loc Pg Gl 0 3 [.int .i64 n, .sl 2 (ps.map encPI) .no, encI x, encI y] [] (.bool true) [] := by
  refine loc_rd mixedP tok rfl rfl fun S => ?_
  unfold c3
  simp [encI]
  refine Rd_call (spec13 _ ps hpl [x, y] (by simp [maxLen])) (by simp [encI]) ?_
  cases hf : fewOk ps [x, y] with
  | false =>
    simp
    refine Rd_call loc14 (by simp) ?_
    simp
  | true =>
    simp
    refine Rd_call (spec15 _ n ps hps x hx) (by simp [encI]) ?_
    have bad : ∀ (z : List Int), (n < 0 ∨ 100 < n ∨ (decide (ps.length ≤ 1000) && pairsOk n ps) = false ∨ isSet n x = false) → askOk n ps x z = false := by
      intro z h
      unfold askOk
      rcases h with h | h | h | h
      · simp [show ¬ 0 ≤ n by omega]
      · simp [show ¬ n ≤ 100 by omega]
      · rw [h]; simp
      · rw [h]; simp
    by_cases h1 : n < 0
    · have hb := fun z => bad z (.inl h1)
      simp [hb]
      refine Rd_call (spec16 _ n ps hps x y hx hy) (by simp [encI]) ?_
      simp [hb, h1]
      refine Rd_call loc14 (by simp) ?_
      simp
    by_cases h2 : 100 < n
    · have hb := fun z => bad z (.inr (.inl h2))
      simp [hb]
      refine Rd_call (spec16 _ n ps hps x y hx hy) (by simp [encI]) ?_
      simp [hb, h1, h2]
      refine Rd_call loc14 (by simp) ?_
      simp
    obtain ⟨N, rfl⟩ : ∃ N : Nat, n = N := ⟨n.toNat, by omega⟩
    cases h3 : decide (ps.length ≤ 1000) && pairsOk N ps with
    | false =>
      have hb := fun z => bad z (.inr (.inr (.inl h3)))
      simp [hb]
      refine Rd_call (spec16 _ N ps hps x y hx hy) (by simp [encI]) ?_
      simp [hb, h1, h2]
      refine Rd_call (spec17 _ N ps hps) (by simp [encI]) ?_
      rw [h3]
      simp
      refine Rd_call loc14 (by simp) ?_
      simp
    | true =>
    cases h4 : isSet N x with
    | false =>
      have hb := fun z => bad z (.inr (.inr (.inr h4)))
      simp [hb]
      refine Rd_call (spec16 _ N ps hps x y hx hy) (by simp [encI]) ?_
      simp [hb, h1, h2]
      refine Rd_call (spec17 _ N ps hps) (by simp [encI]) ?_
      rw [h3]
      simp
      refine Rd_call (spec18 _ N x hx) (by simp [encI]) ?_
      rw [h4]
      simp
      refine Rd_call loc14 (by simp) ?_
      simp
    | true =>
    have hN : N ≤ 128 := by omega
    have hask : ∀ z, askOk N ps x z = isSet N z := by
      intro z; unfold askOk; rw [h3, h4]; simp [show (N : Int) ≤ 100 by omega]
    rw [Bool.and_eq_true, decide_eq_true_eq] at h3
    have hB := pairsOk_below h3.2
    have hP : PBelow N ps := fun p hp => ⟨hB p hp, hps p hp⟩
    have hXB := isSet_below h4
    have hcx := cl_full hN hB hXB
    simp [hask, isSet_nil]
    refine Rd_call (spec16 _ N ps hps x y hx hy) (by simp [encI]) ?_
    rw [hask]
    cases h5 : isSet N y with
    | false =>
      simp [h1, h2]
      refine Rd_call (spec17 _ N ps hps) (by simp [encI]) ?_
      rw [h3.2]
      simp [h3.1]
      refine Rd_call (spec18 _ N x hx) (by simp [encI]) ?_
      rw [h4]
      simp
      refine Rd_call (spec20 _ N hN ps h3.1 hP x hXB hx) (by simp [encI]) ?_
      simp
      refine Rd_call (spec19 _ ((listN N (cl (ps.map toPS) (toS x))).map fun (x : Nat) => (x : Int)) ((listN N (cl (ps.map toPS) (toS x))).map fun (x : Nat) => (x : Int)) (by have := listN_len N (cl (ps.map toPS) (toS x)); unfold maxLen; rw [List.length_map]; omega)) (by simp [encI, encN, list_eq hN hcx]) ?_
      simp
      refine Rd_call (spec18 _ N y hy) (by simp [encI]) ?_
      rw [h5]
      simp
      refine Rd_call loc14 (by simp) ?_
      simp
    | true =>
      have hYB := isSet_below h5
      have hcy := cl_full hN hB hYB
      simp [h1, h2]
      refine Rd_call (spec17 _ N ps hps) (by simp [encI]) ?_
      rw [h3.2]
      simp [h3.1]
      refine Rd_call (spec18 _ N x hx) (by simp [encI]) ?_
      rw [h4]
      simp
      refine Rd_call (spec20 _ N hN ps h3.1 hP x hXB hx) (by simp [encI]) ?_
      simp
      refine Rd_call (spec19 _ ((listN N (cl (ps.map toPS) (toS x))).map fun (x : Nat) => (x : Int)) ((listN N (cl (ps.map toPS) (toS x))).map fun (x : Nat) => (x : Int)) (by have := listN_len N (cl (ps.map toPS) (toS x)); unfold maxLen; rw [List.length_map]; omega)) (by simp [encI, encN, list_eq hN hcx]) ?_
      simp
      refine Rd_call (spec18 _ N y hy) (by simp [encI]) ?_
      rw [h5]
      simp
      refine Rd_call (spec21 _ N hN ps h3.1 hP x y hXB hx hYB hy) (by simp [encI]) ?_
      have e21 : decide (listN N (cl (ps.map toPS) (toS x)) = listN N (cl (ps.map toPS) (toS y))) = decide (cl (ps.map toPS) (toS x) = cl (ps.map toPS) (toS y)) := decide_eq_decide.2 (listN_inj hN hcx hcy)
      rw [e21]
      simp
      refine Rd_call loc14 (by simp) ?_
      simp
end Go.Ab.Tab
/- Arguments as data; UptoCloses' contract. -/
namespace Go.Ab
open Go
section
variable {P : Program} {t : TypeId} {n : Nat} {cs : List AV}
theorem ty_int {k : IntKind} (hu : P.underlying t = some (.int k)) (h : tyOk P n t cs) : ∃ i, cs = [.int k i] ∧ (Lit.int k i).wf = true := by
  cases n with
  | zero => cases h
  | succ n => simpa only [tyOk, hu] using h
theorem ty_slice {e : TypeId} (hu : P.underlying t = some (.slice e)) (h : tyOk P n t cs) : ∃ xs n', cs = [.sl (P.cellsOf e) xs .no] ∧ xs.length ≤ maxLen ∧ ∀ x ∈ xs, ∃ c, x = mkV P e c ∧ tyOk P n' e c := by
  cases n with
  | zero => cases h
  | succ n =>
    simp only [tyOk, hu] at h
    obtain ⟨xs, h1, h2, h3⟩ := h
    exact ⟨xs, n, h1, h2, h3⟩
def fieldsOf (P : Program) (t : TypeId) : List (TypeId × Nat) := match P.underlying t with
  | some (.struct fs) => fs.toList.map fun f => (f.type, f.offset)
  | _ => []
def isStruct (P : Program) (t : TypeId) : Bool := match P.underlying t with
  | some (.struct _) => true
  | _ => false
theorem ty_struct (hs : isStruct P t = true) (h : tyOk P n t cs) : cs.length = P.cellsOf t ∧ ∃ n', ∀ f ∈ fieldsOf P t, tyOk P n' f.1 ((cs.drop f.2).take (P.cellsOf f.1)) := by
  unfold isStruct at hs
  unfold fieldsOf
  cases n with
  | zero => cases h
  | succ n =>
    cases hu : P.underlying t with
    | none => rw [hu] at hs; cases hs
    | some d =>
      rw [hu] at hs
      cases d with
      | struct fs =>
        simp only [tyOk, hu] at h
        refine ⟨h.1, n, fun f hf => ?_⟩
        obtain ⟨g, hg, rfl⟩ := List.mem_map.1 hf
        exact h.2 g hg
      | _ => cases hs
theorem map_exists {α β : Type} (f : α → β) (q : α → Prop) : ∀ (l : List β), (∀ x ∈ l, ∃ a, x = f a ∧ q a) → ∃ bs : List α, l = bs.map f ∧ ∀ a ∈ bs, q a
  | [], _ => ⟨[], rfl, by simp⟩
  | x :: l, h => by
    obtain ⟨a, h1, h2⟩ := h x (by simp)
    obtain ⟨bs, h3, h4⟩ := map_exists f q l fun y hy => h y (by simp [hy])
    exact ⟨a :: bs, by simp [h1, h3], fun b hb => by rcases List.mem_cons.1 hb with rfl | hb; exact h2; exact h4 b hb⟩
theorem mkV_one (h : isAggT P t = false) (c : AV) : mkV P t [c] = c := by unfold mkV; rw [h]; rfl
theorem mkV_agg (h : isAggT P t = true) : mkV P t cs = .agg cs := by unfold mkV; rw [h]; rfl
end
set_option maxRecDepth 10000
namespace Tab
theorem u3 : Pg.underlying 3 = some (.int .i64) := by kernel_rfl
theorem u23 : Pg.underlying 23 = some (.slice 3) := by kernel_rfl
theorem u22 : Pg.underlying 22 = some (.slice 96) := by kernel_rfl
theorem s96 : isStruct Pg 96 = true := by kernel_rfl
theorem f96 : fieldsOf Pg 96 = [(23, 0), (23, 1)] := by kernel_rfl
theorem z3 : Pg.cellsOf 3 = 1 := by kernel_rfl
theorem z23 : Pg.cellsOf 23 = 1 := by kernel_rfl
theorem z96 : Pg.cellsOf 96 = 2 := by kernel_rfl
theorem g3 : isAggT Pg 3 = false := by kernel_rfl
theorem g22 : isAggT Pg 22 = false := by kernel_rfl
theorem g23 : isAggT Pg 23 = false := by kernel_rfl
theorem g96 : isAggT Pg 96 = true := by kernel_rfl

theorem ty23 {n : Nat} {cs : List AV} (h : tyOk Pg n 23 cs) : ∃ l : List Int, cs = [encI l] ∧ l.length ≤ maxLen := by
  obtain ⟨xs, n', rfl, h2, h3⟩ := ty_slice u23 h
  obtain ⟨l, rfl, _⟩ := map_exists (AV.int .i64) (fun _ => True) xs fun x hx => by
    obtain ⟨c, rfl, hc⟩ := h3 x hx
    obtain ⟨i, rfl, _⟩ := ty_int u3 hc
    exact ⟨i, mkV_one g3 _, trivial⟩
  exact ⟨l, by rw [z3]; rfl, by simpa using h2⟩
theorem arg3 {a : AV} (h : Arg Pg 3 a) : ∃ n : Int, a = .int .i64 n := by
  obtain ⟨fuel, cs, h1, h2, rfl⟩ := h
  obtain ⟨i, rfl, _⟩ := ty_int u3 h1
  exact ⟨i, mkV_one g3 _⟩
theorem arg23 {a : AV} (h : Arg Pg 23 a) : ∃ l : List Int, a = encI l ∧ l.length ≤ maxLen := by
  obtain ⟨fuel, cs, h1, h2, rfl⟩ := h
  obtain ⟨l, rfl, hl⟩ := ty23 h1
  exact ⟨l, mkV_one g23 _, hl⟩
theorem arg22 {a : AV} (h : Arg Pg 22 a) : ∃ ps : List PI, a = .sl 2 (ps.map encPI) .no ∧ ps.length ≤ maxLen ∧ ∀ p ∈ ps, p.1.length ≤ maxLen ∧ p.2.length ≤ maxLen := by
  obtain ⟨fuel, cs, h1, h2, rfl⟩ := h
  obtain ⟨xs, n', rfl, h2, h3⟩ := ty_slice u22 h1
  obtain ⟨ps, rfl, hps⟩ := map_exists encPI (fun p => p.1.length ≤ maxLen ∧ p.2.length ≤ maxLen) xs fun x hx => by
    obtain ⟨c, rfl, hc⟩ := h3 x hx
    obtain ⟨hl, m, hf⟩ := ty_struct s96 hc
    rw [f96] at hf
    rw [z96] at hl
    obtain ⟨c0, c1, rfl⟩ : ∃ c0 c1, c = [c0, c1] := by
      match c, hl with
      | [c0, c1], _ => exact ⟨c0, c1, rfl⟩
    have k0 := hf (23, 0) (by simp)
    have k1 := hf (23, 1) (by simp)
    rw [z23] at k0 k1
    obtain ⟨l0, e0, h0⟩ := ty23 k0
    obtain ⟨l1, e1, h1⟩ := ty23 k1
    simp at e0 e1
    subst e0; subst e1
    exact ⟨(l0, l1), mkV_agg g96, h0, h1⟩
  exact ⟨ps, by rw [z96, mkV_one g22], by simpa using h2, hps⟩

/-- UptoCloses -/
theorem law3_arg : ∀ a0 a1 a2 a3, Arg Pg 3 a0 → Arg Pg 22 a1 → Arg Pg 23 a2 → Arg Pg 23 a3 → Go.Ab.Loc Pg Gl 0 3 [a0, a1, a2, a3] [] (.bool true) [] := by
  intro a0 a1 a2 a3 h0 h1 h2 h3
  obtain ⟨n, rfl⟩ := arg3 h0
  obtain ⟨ps, rfl, hl, hps⟩ := arg22 h1
  obtain ⟨x, rfl, hx⟩ := arg23 h2
  obtain ⟨y, rfl, hy⟩ := arg23 h3
  exact law3 n ps hl hps x y hx hy
end Tab
end Go.Ab
namespace Go.Proofs.YtpgdlniekkeikaaDoor
open Go.ChangeShapes Go.WideShapes Go.ChangeAt Go.RowKit Go.Ab Go.Ab.Tab
theorem Tryd.own : ownKnob Tryd.prog.godebug = none := by kernel_rfl
theorem Tryd.laidOut : laidOutB Tryd.prog = true := by kernel_rfl
theorem formsN : Tryd.prog.globalNamed "ectype/functor.forms" = some 0 := by kernel_rfl
theorem formsType : (Tryd.prog.globals[0]?).map (·.type) = some 205 := by kernel_rfl
def ints : List Int := [0,0,16,0,0,2,0,2,4,1,0,1,0,1,0,1]
theorem flatOk : flatTys Tryd.prog [205, 204, 3] = true := by kernel_rfl
theorem glob_ok {W : World} (h : laidMet Tryd.prog Rows.uptoClosesRow.laid W) : ∀ g cs, Gl g = some cs → ∀ (j : Nat) (c : AV), cs[j]? = some c → ∃ v, allImm W g j = some v ∧ RelI (allImm W) c v := by
  intro g cs hg j c hc
  unfold Gl at hg
  split at hg
  · rename_i hg0; subst hg0
    injection hg with hg; subst hg
    obtain ⟨ps, ⟨g, t, cs, fuel, p, q, hg, ht, hvar, hd, _, _⟩, _⟩ := h
    obtain rfl := Option.some.inj (formsN.symm.trans hg)
    obtain rfl := Option.some.inj (formsType.symm.trans ht)
    have hf := trod_flat flatOk fuel 5 205 cs.toList (ints.map (Value.int .i64)) _ (by simp) hd rfl
    unfold forms at hc
    rw [List.getElem?_map, Option.map_eq_some_iff] at hc
    obtain ⟨n, hn, rfl⟩ := hc
    have hcell := World.var?_cell hg hvar j
    have hcs : cs[j]? = some (.int .i64 n) := by
      rw [← Array.getElem?_toList, hf, List.getElem?_map]
      have : ints[j]? = some n := hn
      rw [this]; rfl
    rw [hcs] at hcell
    refine ⟨.int .i64 n, ?_, .int _ _⟩
    simp only [allImm]
    have e : W.cell? ⟨0, j, none⟩ = some (.int .i64 n) := by simpa using hcell
    simp [e, Value.oneCell']
  · cases hg
noncomputable def laidWorld (os : Os) : World :=
  let w0 := World.holding Tryd.prog os ⟨#[], #[], []⟩
  { w0 with heap := w0.heap.modify 0 fun
      | .cells _ t frozen => .cells (ints.map (Value.int .i64)).toArray t frozen
      | o => o }
theorem laid_met (os : Os) (args : Array Value) : laidMet Tryd.prog Rows.uptoClosesRow.laid ((laidWorld os).forCall (fun _ _ => 0) ⟨#[], args, []⟩).memory :=
  laidMet_of_run' 8 (by kernel_rfl) (by kernel_rfl)
theorem closedOk : closedTys Tryd.prog [3, 22, 23, 96] = true := by kernel_rfl
theorem below_of {W W' : World} (h : Stands W W') : Below W.heap.size W W' := ⟨h.os, h.tape, h.output, h.size, h.heap⟩
set_option maxRecDepth 100000 in
theorem law_lifted (hlaw : ∀ a0 a1 a2 a3, Arg Tryd.prog 3 a0 → Arg Tryd.prog 22 a1 → Arg Tryd.prog 23 a2 → Arg Tryd.prog 23 a3 → Go.Ab.Loc Tryd.prog Gl 0 3 [a0, a1, a2, a3] [] (.bool true) [])
    (os : Os) (started : os.Started) (H : Type) (enc : TypeId × Value → H) :
    ReturnsInHanded {} Tryd.checked os 3 .any (fun w args => (Rows.uptoClosesSpec.pre enc Tryd.prog Tryd.f3 Rows.uptoClosesRow.domain false w args ∧ laidMet Tryd.prog Rows.uptoClosesRow.laid w) ∧ sizedMet enc Tryd.prog Tryd.f3 (OpenSpec.ofChange Rows.uptoClosesSpec) false w args)
      (Rows.uptoClosesSpec.post enc Tryd.prog Tryd.f3 false true false false) := by
  refine returnsInHanded_of_change_and (C := Tryd.checked) (X := fun w _ => laidMet Tryd.prog Rows.uptoClosesRow.laid w) (fun _ _ _ hh h => h.of_heap hh) Tryd.own started (by kernel_rfl) Tryd.func3
    (ChangeSpec.witness_at (enc := enc) (C := Tryd.checked) (os := os) (X := fun w _ => laidMet Tryd.prog Rows.uptoClosesRow.laid w) false (laidWorld os) #[.int .i64 0, .slice none 0 0, .slice none 0 0, .slice none 0 0] 8 rfl (by kernel_rfl) (by kernel_rfl) (by kernel_rfl) (by kernel_rfl) (by kernel_rfl) (laid_met os _)) ?_
  intro W base args ds gs before hval0 hW hcnd0 _ hL _
  have hval : ∀ (j : Nat) t v, Tryd.f3.params[j]? = some t → args[j]? = some v → Value.okWide Tryd.prog W .any base t v := hval0
  have hW' := hW
  obtain ⟨p, q, hA0, hV, rfl, hfz, hnd⟩ := hW
  have hA : DataW.TrodAll enc Tryd.prog W 0 (fun _ => true) true Tryd.f3.params.toList args.toList ds p := hA0
  rw [Tryd.params3] at hA hval
  obtain ⟨v0, v1, v2, v3, d0, d1, d2, d3, p0, p1, p2, p3, rfl, rfl, rfl, h0, h1, h2, h3⟩ := trodAll_four hA
  obtain ⟨rfl, rfl⟩ := trodVars_none hV
  obtain ⟨a0, t0, r0, n0⟩ := arg_rel closedOk (by simp) (hval 0 3 v0 rfl rfl) h0
  obtain ⟨a1, t1, r1, n1⟩ := arg_rel closedOk (by simp) (hval 1 22 v1 rfl rfl) h1
  obtain ⟨a2, t2, r2, n2⟩ := arg_rel closedOk (by simp) (hval 2 23 v2 rfl rfl) h2
  obtain ⟨a3, t3, r3, n3⟩ := arg_rel closedOk (by simp) (hval 3 23 v3 rfl rfl) h3
  refine (law_calls (hlaw a0 a1 a2 a3 t0 t1 t2 t3) (W := W) (vs := #[v0, v1, v2, v3]) rfl (fun i b v hb hv => ?_) (fun b hb => ?_) (glob_ok hL)).mono fun e W' ⟨he, hs⟩ => ?_
  · match i, hb, hv with
    | 0, hb, hv => simp at hb hv; subst hb; subst hv; exact r0
    | 1, hb, hv => simp at hb hv; subst hb; subst hv; exact r1
    | 2, hb, hv => simp at hb hv; subst hb; subst hv; exact r2
    | 3, hb, hv => simp at hb hv; subst hb; subst hv; exact r3
    | n + 4, hb, hv => simp at hb
  · simp at hb
    rcases hb with rfl | rfl | rfl | rfl <;> assumption
  subst he
  have hB := below_of hs
  simp only [List.append_nil] at hW'
  have hlt : ∀ x ∈ p0 ++ p1 ++ p2 ++ p3, x.block < W.heap.size := fun x hx => by
    have := hW'.lt x (by simpa using hx)
    simpa using this
  refine ⟨_, rfl, _, _, _, [], (p0 ++ (p1 ++ (p2 ++ p3))), [], hW', ?_, ?_, rfl, hB.frame _, fun h => by cases h⟩
  · exact trodAll_mk1 (shut_bool (by kernel_rfl) true)
  · refine trodAll_mk4 (Below.trod Tryd.laidOut (by kernel_rfl) (of_decide_eq_true (by kernel_rfl)) h0 hB fun x hx => hlt x (by simp [hx])) (Below.trod Tryd.laidOut (by kernel_rfl) (of_decide_eq_true (by kernel_rfl)) h1 hB fun x hx => hlt x (by simp [hx]))
      (Below.trod Tryd.laidOut (by kernel_rfl) (of_decide_eq_true (by kernel_rfl)) h2 hB fun x hx => hlt x (by simp [hx])) (Below.trod Tryd.laidOut (by kernel_rfl) (of_decide_eq_true (by kernel_rfl)) h3 hB fun x hx => hlt x (by simp [hx]))
theorem row_holds (hlaw : ∀ a0 a1 a2 a3, Arg Tryd.prog 3 a0 → Arg Tryd.prog 22 a1 → Arg Tryd.prog 23 a2 → Arg Tryd.prog 23 a3 → Go.Ab.Loc Tryd.prog Gl 0 3 [a0, a1, a2, a3] [] (.bool true) []) : Rows.UptoClosesSaid :=
  OpenClaim.holds_of_wide 3 Tryd.f3 rfl rfl rfl rfl rfl rfl rfl ⟨rfl, rfl, rfl, rfl, rfl⟩ rfl rfl rfl rfl rfl (by kernel_rfl) Tryd.func3 (by kernel_rfl)
    (of_decide_eq_true (by kernel_rfl)) (by unfold Func.isWrapper; first | (rw [if_pos (by decide +kernel)]; kernel_rfl) | (rw [if_neg (by decide +kernel)]; exact ⟨rfl, rfl⟩))
    (fun os started H enc _ => law_lifted hlaw os started H enc)
theorem card_holds (hlaw : ∀ a0 a1 a2 a3, Arg Tryd.prog 3 a0 → Arg Tryd.prog 22 a1 → Arg Tryd.prog 23 a2 → Arg Tryd.prog 23 a3 → Go.Ab.Loc Tryd.prog Gl 0 3 [a0, a1, a2, a3] [] (.bool true) []) : Rows.UptoClosesCardSaid :=
  Claim7.holds_tied_plain_at .later [] [.data] true (true, "083f600fa324912a3f64b4a9d9348dcca761660d41196ed62dae77b3effad808") false
    (row_holds hlaw) (fun _ h => by cases h) (by kernel_rfl) (fun _ h => by cases h) uptoCloses_row_tie rfl ⟨rfl, rfl⟩ (by kernel_rfl) rfl
    (fun f fn hf hfn => by
      obtain rfl : f = 3 := Option.some.inj ((show Tryd.prog.funcNamed "ectype/ectypelaw16.UptoCloses" = some 3 by kernel_rfl).symm.trans hf) |>.symm
      obtain rfl : fn = Tryd.f3 := (Option.some.inj (Tryd.func3.symm.trans hfn)).symm
      exact ⟨by kernel_rfl, fun j t ht => by
        rw [Tryd.params3] at ht
        have h3 : t ∈ [3, 22, 23] := by
          match j, ht with
          | 0, ht => simp at ht; simp [← ht]
          | 1, ht => simp at ht; simp [← ht]
          | 2, ht => simp at ht; simp [← ht]
          | 3, ht => simp at ht; simp [← ht]
          | n + 4, ht => simp at ht
        have : ([3, 22, 23].all fun t => Tryd.prog.wantsStandIn t == false) = true := by kernel_rfl
        have := List.all_eq_true.1 this t h3
        have e : Tryd.prog.wantsStandIn t = false := by simpa using this
        exact e⟩)
    (by kernel_rfl)
theorem closes : Rows.UptoClosesCardSaid := card_holds law3_arg
end Go.Proofs.YtpgdlniekkeikaaDoor
