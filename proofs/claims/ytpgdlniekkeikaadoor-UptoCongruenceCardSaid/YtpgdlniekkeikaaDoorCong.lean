/- Proved: for every input, ectypelaw16.UptoCongruence returns true and its arguments read afterwards as before. Conditions: those of the given card (the package variable ectype/functor.forms starts as the program's text lays it); nothing more. -/
import Derived.Test.YtpgdlniekkeikaaDoorCongD
import Derived.Test.YtpgdlniekkeikaaDoorCongC
import Derived.Test.YtpgdlniekkeikaaDoorB4
import Derived.Test.YtpgdlniekkeikaaDoorCards
import Derived.Test.YtpgdlniekkeikaaDoorTie
import Derived.LaidLaws
import Derived.Handed
import Derived.SevenTiedAt
namespace Go.Ab.Tab
open Go Go.Ab
set_option maxRecDepth 10000
set_option linter.unusedVariables false
set_option linter.unusedSimpArgs false

theorem cl_mono {ps : List PS} {s t : BS} (h : s.sub t = true) : (cl ps s).sub (cl ps t) = true :=
  (cl_is ps s).least _ (sub_trans h (cl_is ps t).up) (cl_is ps t).shut
theorem cl_idem (ps : List PS) (s : BS) : cl ps (cl ps s) = cl ps s := (cl_is ps _).uniq ⟨sub_refl _, (cl_is ps s).shut, fun _ h _ => h⟩
theorem cl_least {ps : List PS} {s t : BS} (h : s.sub (cl ps t) = true) : (cl ps s).sub (cl ps t) = true := (cl_is ps s).least _ h (cl_is ps t).shut
theorem cl_or {ps : List PS} {x y z w : BS} (h : cl ps x = cl ps y) (k : cl ps z = cl ps w) : cl ps (z.or x) = cl ps (w.or y) := by
  have up : ∀ (a b : BS), a.sub (cl ps (a.or b)) = true := fun a b => sub_trans (sub_or_left a b) (cl_is ps _).up
  have up2 : ∀ (a b : BS), b.sub (cl ps (a.or b)) = true := fun a b => sub_trans (sub_or_right a b) (cl_is ps _).up
  have one : ∀ {x y z w : BS}, cl ps x = cl ps y → cl ps z = cl ps w → (cl ps (z.or x)).sub (cl ps (w.or y)) = true := by
    intro x y z w h k
    refine cl_least (or_sub ?_ ?_)
    · exact sub_trans ((cl_is ps z).up) (k ▸ cl_least (up w y))
    · exact sub_trans ((cl_is ps x).up) (h ▸ cl_least (up2 w y))
  exact sub_antisymm (one h k) (one h.symm k.symm)

theorem law4 (n : Int) (ps : List PI) (hpl : ps.length ≤ maxLen) (hps : ∀ p ∈ ps, p.1.length ≤ maxLen ∧ p.2.length ≤ maxLen) (x y z w : List Int) (hx : x.length ≤ maxLen) (hy : y.length ≤ maxLen) (hz : z.length ≤ maxLen) (hw : w.length ≤ maxLen) :
    Go.Ab.Loc Pg Gl 0 4 [.int .i64 n, .sl 2 (ps.map encPI) .no, encI x, encI y, encI z, encI w] [] (.bool true) [] := by
  refine loc_rd mixedP tok rfl rfl fun S => ?_
  unfold c4
  simp [encI]
  refine Rd_call (spec13 _ ps hpl [x, y, z, w] (by simp [maxLen])) (by simp [encI]) ?_
  cases hf : fewOk ps [x, y, z, w] with
  | false =>
    simp
    refine Rd_call loc14 (by simp) ?_
    simp
  | true =>
  by_cases h1 : n < 0
  · simp [h1]
    refine Rd_call loc14 (by simp) ?_
    simp
  by_cases h2 : 100 < n
  · simp [h1, h2]
    refine Rd_call loc14 (by simp) ?_
    simp
  obtain ⟨N, rfl⟩ : ∃ N : Nat, n = N := ⟨n.toNat, by omega⟩
  simp [h1, h2]
  refine Rd_call (spec17 _ N ps hps) (by simp [encI]) ?_
  cases h3 : decide (ps.length ≤ 1000) && pairsOk N ps with
  | false =>
    simp
    refine Rd_call loc14 (by simp) ?_
    simp
  | true =>
  simp
  refine Rd_call (spec18 _ N x hx) (by simp [encI]) ?_
  cases hX : isSet N x with
  | false =>
    simp
    refine Rd_call loc14 (by simp) ?_
    simp
  | true =>
  simp
  refine Rd_call (spec18 _ N y hy) (by simp [encI]) ?_
  cases hY : isSet N y with
  | false =>
    simp
    refine Rd_call loc14 (by simp) ?_
    simp
  | true =>
  simp
  refine Rd_call (spec18 _ N z hz) (by simp [encI]) ?_
  cases hZ : isSet N z with
  | false =>
    simp
    refine Rd_call loc14 (by simp) ?_
    simp
  | true =>
  simp
  refine Rd_call (spec18 _ N w hw) (by simp [encI]) ?_
  cases hW : isSet N w with
  | false =>
    simp
    refine Rd_call loc14 (by simp) ?_
    simp
  | true =>
  rw [Bool.and_eq_true, decide_eq_true_eq] at h3
  have hN : N ≤ 100 := by omega
  have vp : VP N ps := ⟨h3.2, h3.1, hps, hN⟩
  have vx : VS N x := ⟨hX, hx, hN⟩
  have vy : VS N y := ⟨hY, hy, hN⟩
  have vz : VS N z := ⟨hZ, hz, hN⟩
  have vw : VS N w := ⟨hW, hw, hN⟩
  generalize hQ : RetQ [RV.tmp 12] (AV.bool true) S = Q
  simp
  refine Rd_call (spec15v _ vp vx) (by simp [encI]) ?_
  have fA := vp.clf vx
  obtain ⟨A, hA⟩ : ∃ A, cl (ps.map toPS) (toS x) = A := ⟨_, rfl⟩
  rw [hA] at fA ⊢
  have vA : VS N (lN N A) := lN_vs hN A
  simp [encI]
  refine Rd_call (spec18 _ N _ vA.len) (by simp [encI]) ?_
  rw [vA.is]
  simp
  refine Rd_call (spec22 _ vA vx) (by simp [encI]) ?_
  have eA : toS (lN N A) = A := toS_lN hN fA
  have e1 : (toS x).or (toS (lN N A)) = A := by
    rw [eA, ← hA]; exact sub_antisymm (or_sub (cl_is _ _).up (sub_refl _)) (sub_or_right _ _)
  rw [e1]
  simp [encI]
  refine Rd_call (spec19 _ (lN N A) (lN N A) vA.len) (by simp [encI]) ?_
  simp
  refine Rd_call (spec15v _ vp vA) (by simp [encI]) ?_
  have e2 : cl (ps.map toPS) (toS (lN N A)) = A := by rw [eA, ← hA, cl_idem]
  rw [e2]
  simp [encI]
  refine Rd_call (spec22 _ vx vz) (by simp [encI]) ?_
  have fXZ : ((toS z).or (toS x)).sub (fullS N) = true := or_sub vz.full vx.full
  obtain ⟨U, hU⟩ : ∃ U, (toS z).or (toS x) = U := ⟨_, rfl⟩
  rw [hU] at fXZ ⊢
  have vU : VS N (lN N U) := lN_vs hN U
  have eU := toS_lN hN fXZ
  refine Rd_call (spec15v _ vp vU) (by simp [encI]) ?_
  have fC := vp.clf vU
  rw [eU] at fC ⊢
  obtain ⟨C, hC⟩ : ∃ C, cl (ps.map toPS) U = C := ⟨_, rfl⟩
  rw [hC] at fC ⊢
  have vC : VS N (lN N C) := lN_vs hN C
  have eC := toS_lN hN fC
  simp [encI]
  refine Rd_call (spec19 _ (lN N A) (lN N A) vA.len) (by simp [encI]) ?_
  simp
  refine Rd_call (spec18 _ N _ vC.len) (by simp [encI]) ?_
  rw [vC.is]
  simp
  refine Rd_call (spec22 _ vA vC) (by simp [encI]) ?_
  have e3 : (toS (lN N C)).or (toS (lN N A)) = C := by
    rw [eA, eC]
    refine sub_antisymm (or_sub (sub_refl _) ?_) (sub_or_left _ _)
    rw [← hA, ← hC, ← hU]; exact cl_mono (sub_or_right _ _)
  rw [e3]
  simp [encI]
  refine Rd_call (spec19 _ (lN N C) (lN N C) vC.len) (by simp [encI]) ?_
  simp
  refine Rd_call (spec16v _ vp vx vx) (by simp [encI]) ?_
  simp
  refine Rd_call (spec16v _ vp vx vy) (by simp [encI]) ?_
  simp
  refine Rd_call (spec16v _ vp vy vx) (by simp [encI]) ?_
  simp
  refine Rd_call (spec16v _ vp vy vz) (by simp [encI]) ?_
  simp
  refine Rd_call (spec16v _ vp vx vz) (by simp [encI]) ?_
  simp
  refine Rd_call (spec16v _ vp vz vw) (by simp [encI]) ?_
  simp
  refine Rd_call (spec22 _ vx vz) (by simp [encI]) ?_
  simp [encI]
  refine Rd_call (spec22 _ vy vw) (by simp [encI]) ?_
  rw [hU]
  have fV : ((toS w).or (toS y)).sub (fullS N) = true := or_sub vw.full vy.full
  obtain ⟨V, hV⟩ : ∃ V, (toS w).or (toS y) = V := ⟨_, rfl⟩
  rw [hV] at fV ⊢
  have vV : VS N (lN N V) := lN_vs hN V
  have eV := toS_lN hN fV
  refine Rd_call (spec16v _ vp vU vV) (by simp [encI]) ?_
  rw [eU, eV, hC]
  have exy : decide (cl (ps.map toPS) (toS y) = cl (ps.map toPS) (toS x)) = decide (cl (ps.map toPS) (toS x) = cl (ps.map toPS) (toS y)) := decide_eq_decide.2 eq_comm
  have etr : cl (ps.map toPS) (toS x) = cl (ps.map toPS) (toS y) → cl (ps.map toPS) (toS y) = cl (ps.map toPS) (toS z) → decide (cl (ps.map toPS) (toS x) = cl (ps.map toPS) (toS z)) = true := fun h k => decide_eq_true (h.trans k)
  have eal : cl (ps.map toPS) (toS x) = cl (ps.map toPS) (toS y) → cl (ps.map toPS) (toS z) = cl (ps.map toPS) (toS w) → decide (C = cl (ps.map toPS) V) = true := fun h k => decide_eq_true (by rw [← hC, ← hU, ← hV]; exact cl_or h k)
  rw [exy]
  generalize hxz : decide (cl (ps.map toPS) (toS x) = cl (ps.map toPS) (toS z)) = bxz at etr ⊢
  generalize hcv : decide (C = cl (ps.map toPS) V) = bcv at eal ⊢
  by_cases p1 : cl (ps.map toPS) (toS x) = cl (ps.map toPS) (toS y)
  · rw [decide_eq_true p1]
    by_cases p2 : cl (ps.map toPS) (toS y) = cl (ps.map toPS) (toS z)
    · rw [decide_eq_true p2, etr p1 p2]
      by_cases p3 : cl (ps.map toPS) (toS z) = cl (ps.map toPS) (toS w)
      · rw [decide_eq_true p3, eal p1 p3]
        simp
        refine Rd_call loc14 (by simp) ?_
        simp [← hQ]
      · rw [decide_eq_false p3]
        simp
        refine Rd_call loc14 (by simp) ?_
        simp [← hQ]
    · rw [decide_eq_false p2]
      by_cases p3 : cl (ps.map toPS) (toS z) = cl (ps.map toPS) (toS w)
      · rw [decide_eq_true p3, eal p1 p3]
        simp
        refine Rd_call loc14 (by simp) ?_
        simp [← hQ]
      · rw [decide_eq_false p3]
        simp
        refine Rd_call loc14 (by simp) ?_
        simp [← hQ]
  · rw [decide_eq_false p1]
    simp
    refine Rd_call loc14 (by simp) ?_
    simp [← hQ]
end Go.Ab.Tab
/- UptoCongruence's contract. -/
namespace Go.Ab
open Go
namespace Tab
theorem law4_arg : ∀ a0 a1 a2 a3 a4 a5, Arg Pg 3 a0 → Arg Pg 22 a1 → Arg Pg 23 a2 → Arg Pg 23 a3 → Arg Pg 23 a4 → Arg Pg 23 a5 → Go.Ab.Loc Pg Gl 0 4 [a0, a1, a2, a3, a4, a5] [] (.bool true) [] := by
  intro a0 a1 a2 a3 a4 a5 h0 h1 h2 h3 h4 h5
  obtain ⟨n, rfl⟩ := arg3 h0
  obtain ⟨ps, rfl, hl, hps⟩ := arg22 h1
  obtain ⟨x, rfl, hx⟩ := arg23 h2
  obtain ⟨y, rfl, hy⟩ := arg23 h3
  obtain ⟨z, rfl, hz⟩ := arg23 h4
  obtain ⟨w, rfl, hw⟩ := arg23 h5
  exact law4 n ps hl hps x y z w hx hy hz hw
end Tab
end Go.Ab
namespace Go.Proofs.YtpgdlniekkeikaaDoor
open Go.ChangeShapes Go.WideShapes Go.ChangeAt Go.RowKit Go.Ab Go.Ab.Tab
theorem Tryd.own : ownKnob Tryd.prog.godebug = none := by kernel_rfl
theorem Tryd.laidOut : laidOutB Tryd.prog = true := by kernel_rfl
theorem formsN : Tryd.prog.globalNamed "ectype/functor.forms" = some 0 := by kernel_rfl
theorem formsType : (Tryd.prog.globals[0]?).map (·.type) = some 205 := by kernel_rfl
def ints : List Int := [0,0,16,0,0,2,0,2,4,1,0,1,0,1,0,1]
theorem flatOk : flatTys Tryd.prog [205, 204, 3] = true := by kernel_rfl
theorem glob_ok {W : World} (h : laidMet Tryd.prog Rows.uptoCongruenceRow.laid W) : ∀ g cs, Gl g = some cs → ∀ (j : Nat) (c : AV), cs[j]? = some c → ∃ v, allImm W g j = some v ∧ RelI (allImm W) c v := by
  intro g cs hg j c hc
  unfold Gl at hg
  split at hg
  · rename_i hg0; subst hg0
    injection hg with hg; subst hg
    obtain ⟨ps, ⟨g, t, cs, fuel, p, q, hg, ht, hvar, hd, _, _⟩, _⟩ := h
    obtain rfl := Option.some.inj (formsN.symm.trans hg)
    obtain rfl := Option.some.inj (formsType.symm.trans ht)
    have hf := trod_flat flatOk fuel 5 205 cs.toList (ints.map (Value.int .i64)) _ (by simp) hd rfl
    unfold forms at hc
    rw [List.getElem?_map, Option.map_eq_some_iff] at hc
    obtain ⟨n, hn, rfl⟩ := hc
    have hcell := World.var?_cell hg hvar j
    have hcs : cs[j]? = some (.int .i64 n) := by
      rw [← Array.getElem?_toList, hf, List.getElem?_map]
      have : ints[j]? = some n := hn
      rw [this]; rfl
    rw [hcs] at hcell
    refine ⟨.int .i64 n, ?_, .int _ _⟩
    simp only [allImm]
    have e : W.cell? ⟨0, j, none⟩ = some (.int .i64 n) := by simpa using hcell
    simp [e, Value.oneCell']
  · cases hg
noncomputable def laidWorld (os : Os) : World :=
  let w0 := World.holding Tryd.prog os ⟨#[], #[], []⟩
  { w0 with heap := w0.heap.modify 0 fun
      | .cells _ t frozen => .cells (ints.map (Value.int .i64)).toArray t frozen
      | o => o }
theorem laid_met (os : Os) (args : Array Value) : laidMet Tryd.prog Rows.uptoCongruenceRow.laid ((laidWorld os).forCall (fun _ _ => 0) ⟨#[], args, []⟩).memory :=
  laidMet_of_run' 8 (by kernel_rfl) (by kernel_rfl)
theorem closedOk : closedTys Tryd.prog [3, 22, 23, 96] = true := by kernel_rfl
theorem below_of {W W' : World} (h : Stands W W') : Below W.heap.size W W' := ⟨h.os, h.tape, h.output, h.size, h.heap⟩
section
variable {H : Type} {enc : TypeId × Value → H} {P : Program} {w : World} {base : Nat} {spare : Nat → Bool} {held : Bool}
theorem trodAll_n {t0 t1 t2 t3 t4 t5 : TypeId} {args : Array Value} {ds : List (DataW H)} {ps : List MemPlace} (h : DataW.TrodAll enc P w base spare held [t0, t1, t2, t3, t4, t5] args.toList ds ps) :
    ∃ v0 v1 v2 v3 v4 v5 d0 d1 d2 d3 d4 d5 p0 p1 p2 p3 p4 p5, args = #[v0, v1, v2, v3, v4, v5] ∧ ds = [d0, d1, d2, d3, d4, d5] ∧ ps = p0 ++ p1 ++ p2 ++ p3 ++ p4 ++ p5 ∧ DataW.Trod enc P w base spare held t0 v0 d0 p0 ∧ DataW.Trod enc P w base spare held t1 v1 d1 p1 ∧ DataW.Trod enc P w base spare held t2 v2 d2 p2 ∧ DataW.Trod enc P w base spare held t3 v3 d3 p3 ∧ DataW.Trod enc P w base spare held t4 v4 d4 p4 ∧ DataW.Trod enc P w base spare held t5 v5 d5 p5 := by
  obtain ⟨v0, vs0, d0, ds0, p0, q0, hargs, rfl, rfl, h0, r0⟩ := trodAll_cons h
  obtain ⟨v1, vs1, d1, ds1, p1, q1, rfl, rfl, rfl, h1, r1⟩ := trodAll_cons r0
  obtain ⟨v2, vs2, d2, ds2, p2, q2, rfl, rfl, rfl, h2, r2⟩ := trodAll_cons r1
  obtain ⟨v3, vs3, d3, ds3, p3, q3, rfl, rfl, rfl, h3, r3⟩ := trodAll_cons r2
  obtain ⟨v4, vs4, d4, ds4, p4, q4, rfl, rfl, rfl, h4, r4⟩ := trodAll_cons r3
  obtain ⟨v5, vs5, d5, ds5, p5, q5, rfl, rfl, rfl, h5, r5⟩ := trodAll_cons r4
  obtain ⟨rfl, rfl, rfl⟩ := trodAll_nil r5
  exact ⟨v0, v1, v2, v3, v4, v5, d0, d1, d2, d3, d4, d5, p0, p1, p2, p3, p4, p5, by cases args; simp_all, rfl, by simp, h0, h1, h2, h3, h4, h5⟩
theorem trodAll_mkn {t0 t1 t2 t3 t4 t5 : TypeId} {v0 v1 v2 v3 v4 v5 : Value} {d0 d1 d2 d3 d4 d5 : DataW H} {p0 p1 p2 p3 p4 p5 : List MemPlace} (h0 : DataW.Trod enc P w base spare held t0 v0 d0 p0) (h1 : DataW.Trod enc P w base spare held t1 v1 d1 p1) (h2 : DataW.Trod enc P w base spare held t2 v2 d2 p2) (h3 : DataW.Trod enc P w base spare held t3 v3 d3 p3) (h4 : DataW.Trod enc P w base spare held t4 v4 d4 p4) (h5 : DataW.Trod enc P w base spare held t5 v5 d5 p5) : DataW.TrodAll enc P w base spare held [t0, t1, t2, t3, t4, t5] [v0, v1, v2, v3, v4, v5] [d0, d1, d2, d3, d4, d5] (p0 ++ (p1 ++ (p2 ++ (p3 ++ (p4 ++ p5))))) :=
  ⟨p0, _, h0, ⟨p1, _, h1, ⟨p2, _, h2, ⟨p3, _, h3, ⟨p4, _, h4, trodAll_mk1 h5, rfl⟩, rfl⟩, rfl⟩, rfl⟩, rfl⟩
end
set_option maxRecDepth 100000 in
theorem law_lifted (hlaw : ∀ a0 a1 a2 a3 a4 a5, Arg Tryd.prog 3 a0 → Arg Tryd.prog 22 a1 → Arg Tryd.prog 23 a2 → Arg Tryd.prog 23 a3 → Arg Tryd.prog 23 a4 → Arg Tryd.prog 23 a5 → Go.Ab.Loc Tryd.prog Gl 0 4 [a0, a1, a2, a3, a4, a5] [] (.bool true) [])
    (os : Os) (started : os.Started) (H : Type) (enc : TypeId × Value → H) :
    ReturnsInHanded {} Tryd.checked os 4 .any (fun w args => (Rows.uptoCongruenceSpec.pre enc Tryd.prog Tryd.f4 Rows.uptoCongruenceRow.domain false w args ∧ laidMet Tryd.prog Rows.uptoCongruenceRow.laid w) ∧ sizedMet enc Tryd.prog Tryd.f4 (OpenSpec.ofChange Rows.uptoCongruenceSpec) false w args)
      (Rows.uptoCongruenceSpec.post enc Tryd.prog Tryd.f4 false true false false) := by
  refine returnsInHanded_of_change_and (C := Tryd.checked) (X := fun w _ => laidMet Tryd.prog Rows.uptoCongruenceRow.laid w) (fun _ _ _ hh h => h.of_heap hh) Tryd.own started (by kernel_rfl) Tryd.func4
    (ChangeSpec.witness_at (enc := enc) (C := Tryd.checked) (os := os) (X := fun w _ => laidMet Tryd.prog Rows.uptoCongruenceRow.laid w) false (laidWorld os) #[.int .i64 0, .slice none 0 0, .slice none 0 0, .slice none 0 0, .slice none 0 0, .slice none 0 0] 8 rfl (by kernel_rfl) (by kernel_rfl) (by kernel_rfl) (by kernel_rfl) (by kernel_rfl) (laid_met os _)) ?_
  intro W base args ds gs before hval0 hW hcnd0 _ hL _
  have hval : ∀ (j : Nat) t v, Tryd.f4.params[j]? = some t → args[j]? = some v → Value.okWide Tryd.prog W .any base t v := hval0
  have hW' := hW
  obtain ⟨p, q, hA0, hV, rfl, hfz, hnd⟩ := hW
  have hA : DataW.TrodAll enc Tryd.prog W 0 (fun _ => true) true Tryd.f4.params.toList args.toList ds p := hA0
  rw [Tryd.params4] at hA hval
  obtain ⟨v0, v1, v2, v3, v4, v5, d0, d1, d2, d3, d4, d5, p0, p1, p2, p3, p4, p5, rfl, rfl, rfl, h0, h1, h2, h3, h4, h5⟩ := trodAll_n hA
  obtain ⟨rfl, rfl⟩ := trodVars_none hV
  obtain ⟨a0, t0, r0, n0⟩ := arg_rel closedOk (by simp) (hval 0 3 v0 rfl rfl) h0
  obtain ⟨a1, t1, r1, n1⟩ := arg_rel closedOk (by simp) (hval 1 22 v1 rfl rfl) h1
  obtain ⟨a2, t2, r2, n2⟩ := arg_rel closedOk (by simp) (hval 2 23 v2 rfl rfl) h2
  obtain ⟨a3, t3, r3, n3⟩ := arg_rel closedOk (by simp) (hval 3 23 v3 rfl rfl) h3
  obtain ⟨a4, t4, r4, n4⟩ := arg_rel closedOk (by simp) (hval 4 23 v4 rfl rfl) h4
  obtain ⟨a5, t5, r5, n5⟩ := arg_rel closedOk (by simp) (hval 5 23 v5 rfl rfl) h5
  refine (law_calls (hlaw a0 a1 a2 a3 a4 a5 t0 t1 t2 t3 t4 t5) (W := W) (vs := #[v0, v1, v2, v3, v4, v5]) rfl (fun i b v hb hv => ?_) (fun b hb => ?_) (glob_ok hL)).mono fun e W' ⟨he, hs⟩ => ?_
  · match i, hb, hv with
    | 0, hb, hv => simp at hb hv; subst hb; subst hv; exact r0
    | 1, hb, hv => simp at hb hv; subst hb; subst hv; exact r1
    | 2, hb, hv => simp at hb hv; subst hb; subst hv; exact r2
    | 3, hb, hv => simp at hb hv; subst hb; subst hv; exact r3
    | 4, hb, hv => simp at hb hv; subst hb; subst hv; exact r4
    | 5, hb, hv => simp at hb hv; subst hb; subst hv; exact r5
    | n + 6, hb, hv => simp at hb
  · simp at hb
    rcases hb with rfl | rfl | rfl | rfl | rfl | rfl <;> assumption
  subst he
  have hB := below_of hs
  simp only [List.append_nil] at hW'
  have hlt : ∀ x ∈ p0 ++ p1 ++ p2 ++ p3 ++ p4 ++ p5, x.block < W.heap.size := fun x hx => by
    have := hW'.lt x (by simpa using hx)
    simpa using this
  refine ⟨_, rfl, _, _, _, [], (p0 ++ (p1 ++ (p2 ++ (p3 ++ (p4 ++ p5))))), [], hW', ?_, ?_, rfl, hB.frame _, fun h => by cases h⟩
  · exact trodAll_mk1 (shut_bool (by kernel_rfl) true)
  · refine trodAll_mkn (Below.trod Tryd.laidOut (by kernel_rfl) (of_decide_eq_true (by kernel_rfl)) h0 hB fun x hx => hlt x (by simp [hx])) (Below.trod Tryd.laidOut (by kernel_rfl) (of_decide_eq_true (by kernel_rfl)) h1 hB fun x hx => hlt x (by simp [hx])) (Below.trod Tryd.laidOut (by kernel_rfl) (of_decide_eq_true (by kernel_rfl)) h2 hB fun x hx => hlt x (by simp [hx])) (Below.trod Tryd.laidOut (by kernel_rfl) (of_decide_eq_true (by kernel_rfl)) h3 hB fun x hx => hlt x (by simp [hx])) (Below.trod Tryd.laidOut (by kernel_rfl) (of_decide_eq_true (by kernel_rfl)) h4 hB fun x hx => hlt x (by simp [hx])) (Below.trod Tryd.laidOut (by kernel_rfl) (of_decide_eq_true (by kernel_rfl)) h5 hB fun x hx => hlt x (by simp [hx]))
theorem row_holds (hlaw : ∀ a0 a1 a2 a3 a4 a5, Arg Tryd.prog 3 a0 → Arg Tryd.prog 22 a1 → Arg Tryd.prog 23 a2 → Arg Tryd.prog 23 a3 → Arg Tryd.prog 23 a4 → Arg Tryd.prog 23 a5 → Go.Ab.Loc Tryd.prog Gl 0 4 [a0, a1, a2, a3, a4, a5] [] (.bool true) []) : Rows.UptoCongruenceSaid :=
  OpenClaim.holds_of_wide 4 Tryd.f4 rfl rfl rfl rfl rfl rfl rfl ⟨rfl, rfl, rfl, rfl, rfl⟩ rfl rfl rfl rfl rfl (by kernel_rfl) Tryd.func4 (by kernel_rfl)
    (of_decide_eq_true (by kernel_rfl)) (by unfold Func.isWrapper; first | (rw [if_pos (by decide +kernel)]; kernel_rfl) | (rw [if_neg (by decide +kernel)]; exact ⟨rfl, rfl⟩))
    (fun os started H enc _ => law_lifted hlaw os started H enc)
theorem card_holds (hlaw : ∀ a0 a1 a2 a3 a4 a5, Arg Tryd.prog 3 a0 → Arg Tryd.prog 22 a1 → Arg Tryd.prog 23 a2 → Arg Tryd.prog 23 a3 → Arg Tryd.prog 23 a4 → Arg Tryd.prog 23 a5 → Go.Ab.Loc Tryd.prog Gl 0 4 [a0, a1, a2, a3, a4, a5] [] (.bool true) []) : Rows.UptoCongruenceCardSaid :=
  Claim7.holds_tied_plain_at .later [] [.data] true (true, "083f600fa324912a3f64b4a9d9348dcca761660d41196ed62dae77b3effad808") false
    (row_holds hlaw) (fun _ h => by cases h) (by kernel_rfl) (fun _ h => by cases h) uptoCongruence_row_tie rfl ⟨rfl, rfl⟩ (by kernel_rfl) rfl
    (fun f fn hf hfn => by
      obtain rfl : f = 4 := Option.some.inj ((show Tryd.prog.funcNamed "ectype/ectypelaw16.UptoCongruence" = some 4 by kernel_rfl).symm.trans hf) |>.symm
      obtain rfl : fn = Tryd.f4 := (Option.some.inj (Tryd.func4.symm.trans hfn)).symm
      exact ⟨by kernel_rfl, fun j t ht => by
        rw [Tryd.params4] at ht
        have h3 : t ∈ [3, 22, 23] := by
          match j, ht with
          | 0, ht => simp at ht; simp [← ht]
          | 1, ht => simp at ht; simp [← ht]
          | 2, ht => simp at ht; simp [← ht]
          | 3, ht => simp at ht; simp [← ht]
          | 4, ht => simp at ht; simp [← ht]
          | 5, ht => simp at ht; simp [← ht]
          | n + 6, ht => simp at ht
        have : ([3, 22, 23].all fun t => Tryd.prog.wantsStandIn t == false) = true := by kernel_rfl
        have := List.all_eq_true.1 this t h3
        have e : Tryd.prog.wantsStandIn t = false := by simpa using this
        exact e⟩)
    (by kernel_rfl)
theorem congruence : Rows.UptoCongruenceCardSaid := card_holds law4_arg
end Go.Proofs.YtpgdlniekkeikaaDoor
