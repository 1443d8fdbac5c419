/- Law 5 over its arguments. -/
import Derived.Test.YtpgdlniekkeikaaDoorAutomataH
import Derived.Test.YtpgdlniekkeikaaDoorAutomataB4
import Derived.Test.YtpgdlniekkeikaaDoorCards
import Derived.Test.YtpgdlniekkeikaaDoorTie
import Derived.LaidLaws
import Derived.Handed
import Derived.SevenTiedAt
namespace Go.Ab
open Go
namespace Tab
theorem law5_arg : ∀ a0 a1, Arg Pg 43 a0 → Arg Pg 44 a1 → Go.Ab.Loc Pg Gl 0 5 [a0, a1] [] (.bool true) [] := by
  intro a0 a1 h0 h1
  obtain ⟨s, rfl, hf, hl, hv⟩ := arg43 h0
  obtain ⟨ls, rfl, hll, hls⟩ := arg44 h1
  exact law5 s hf hl hv ls hll hls
end Tab
end Go.Ab
namespace Go.Proofs.YtpgdlniekkeikaaDoor
open Go.ChangeShapes Go.WideShapes Go.ChangeAt Go.RowKit Go.Ab Go.Ab.Tab
theorem Tryd.own : ownKnob Tryd.prog.godebug = none := by kernel_rfl
theorem Tryd.laidOut : laidOutB Tryd.prog = true := by kernel_rfl
theorem formsN : Tryd.prog.globalNamed "ectype/functor.forms" = some 0 := by kernel_rfl
theorem formsType : (Tryd.prog.globals[0]?).map (·.type) = some 205 := by kernel_rfl
def ints : List Int := [0,0,16,0,0,2,0,2,4,1,0,1,0,1,0,1]
theorem flatOk : flatTys Tryd.prog [205, 204, 3] = true := by kernel_rfl
theorem glob_ok {W : World} (h : laidMet Tryd.prog Rows.detAutomataRow.laid W) : ∀ g cs, Gl g = some cs → ∀ (j : Nat) (c : AV), cs[j]? = some c → ∃ v, allImm W g j = some v ∧ RelI (allImm W) c v := by
  intro g cs hg j c hc
  unfold Gl at hg
  split at hg
  · rename_i hg0; subst hg0
    injection hg with hg; subst hg
    obtain ⟨ps, ⟨g, t, cs, fuel, p, q, hg, ht, hvar, hd, _, _⟩, _⟩ := h
    obtain rfl := Option.some.inj (formsN.symm.trans hg)
    obtain rfl := Option.some.inj (formsType.symm.trans ht)
    have hf := trod_flat flatOk fuel 5 205 cs.toList (ints.map (Value.int .i64)) _ (by simp) hd rfl
    unfold forms at hc
    rw [List.getElem?_map, Option.map_eq_some_iff] at hc
    obtain ⟨n, hn, rfl⟩ := hc
    have hcell := World.var?_cell hg hvar j
    have hcs : cs[j]? = some (.int .i64 n) := by
      rw [← Array.getElem?_toList, hf, List.getElem?_map]
      have : ints[j]? = some n := hn
      rw [this]; rfl
    rw [hcs] at hcell
    refine ⟨.int .i64 n, ?_, .int _ _⟩
    simp only [allImm]
    have e : W.cell? ⟨0, j, none⟩ = some (.int .i64 n) := by simpa using hcell
    simp [e, Value.oneCell']
  · cases hg
noncomputable def laidWorld (os : Os) : World :=
  let w0 := World.holding Tryd.prog os ⟨#[], #[], []⟩
  { w0 with heap := w0.heap.modify 0 fun
      | .cells _ t frozen => .cells (ints.map (Value.int .i64)).toArray t frozen
      | o => o }
theorem laid_met (os : Os) (args : Array Value) : laidMet Tryd.prog Rows.detAutomataRow.laid ((laidWorld os).forCall (fun _ _ => 0) ⟨#[], args, []⟩).memory :=
  laidMet_of_run' 8 (by kernel_rfl) (by kernel_rfl)
theorem closedOk : closedTys Tryd.prog [43, 40, 41, 125, 38, 3, 23, 44] = true := by kernel_rfl
theorem below_of {W W' : World} (h : Stands W W') : Below W.heap.size W W' := ⟨h.os, h.tape, h.output, h.size, h.heap⟩
section
variable {H : Type} {enc : TypeId × Value → H} {P : Program} {w : World} {base : Nat} {spare : Nat → Bool} {held : Bool}
theorem trodAll_n {t0 t1 : TypeId} {args : Array Value} {ds : List (DataW H)} {ps : List MemPlace} (h : DataW.TrodAll enc P w base spare held [t0, t1] args.toList ds ps) :
    ∃ v0 v1 d0 d1 p0 p1, args = #[v0, v1] ∧ ds = [d0, d1] ∧ ps = p0 ++ p1 ∧ DataW.Trod enc P w base spare held t0 v0 d0 p0 ∧ DataW.Trod enc P w base spare held t1 v1 d1 p1 := by
  obtain ⟨v0, vs0, d0, ds0, p0, q0, hargs, rfl, rfl, h0, r0⟩ := trodAll_cons h
  obtain ⟨v1, vs1, d1, ds1, p1, q1, rfl, rfl, rfl, h1, r1⟩ := trodAll_cons r0
  obtain ⟨rfl, rfl, rfl⟩ := trodAll_nil r1
  exact ⟨v0, v1, d0, d1, p0, p1, by cases args; simp_all, rfl, by simp, h0, h1⟩
theorem trodAll_mkn {t0 t1 : TypeId} {v0 v1 : Value} {d0 d1 : DataW H} {p0 p1 : List MemPlace} (h0 : DataW.Trod enc P w base spare held t0 v0 d0 p0) (h1 : DataW.Trod enc P w base spare held t1 v1 d1 p1) : DataW.TrodAll enc P w base spare held [t0, t1] [v0, v1] [d0, d1] (p0 ++ p1) :=
  ⟨p0, _, h0, trodAll_mk1 h1, rfl⟩
end
set_option maxRecDepth 100000 in
theorem law_lifted (hlaw : ∀ a0 a1, Arg Tryd.prog 43 a0 → Arg Tryd.prog 44 a1 → Go.Ab.Loc Tryd.prog Gl 0 5 [a0, a1] [] (.bool true) [])
    (os : Os) (started : os.Started) (H : Type) (enc : TypeId × Value → H) :
    ReturnsInHanded {} Tryd.checked os 5 .any (fun w args => (Rows.detAutomataSpec.pre enc Tryd.prog Tryd.f5 Rows.detAutomataRow.domain false w args ∧ laidMet Tryd.prog Rows.detAutomataRow.laid w) ∧ sizedMet enc Tryd.prog Tryd.f5 (OpenSpec.ofChange Rows.detAutomataSpec) false w args)
      (Rows.detAutomataSpec.post enc Tryd.prog Tryd.f5 false true false false) := by
  refine returnsInHanded_of_change_and (C := Tryd.checked) (X := fun w _ => laidMet Tryd.prog Rows.detAutomataRow.laid w) (fun _ _ _ hh h => h.of_heap hh) Tryd.own started (by kernel_rfl) Tryd.func5
    (ChangeSpec.witness_at (enc := enc) (C := Tryd.checked) (os := os) (X := fun w _ => laidMet Tryd.prog Rows.detAutomataRow.laid w) false (laidWorld os) #[.agg #[.int .i64 0, .int .i64 0, .slice none 0 0, .slice none 0 0], .slice none 0 0] 8 rfl (by kernel_rfl) (by kernel_rfl) (by kernel_rfl) (by kernel_rfl) (by kernel_rfl) (laid_met os _)) ?_
  intro W base args ds gs before hval0 hW hcnd0 _ hL _
  have hval : ∀ (j : Nat) t v, Tryd.f5.params[j]? = some t → args[j]? = some v → Value.okWide Tryd.prog W .any base t v := hval0
  have hW' := hW
  obtain ⟨p, q, hA0, hV, rfl, hfz, hnd⟩ := hW
  have hA : DataW.TrodAll enc Tryd.prog W 0 (fun _ => true) true Tryd.f5.params.toList args.toList ds p := hA0
  rw [Tryd.params5] at hA hval
  obtain ⟨v0, v1, d0, d1, p0, p1, rfl, rfl, rfl, h0, h1⟩ := trodAll_n hA
  obtain ⟨rfl, rfl⟩ := trodVars_none hV
  obtain ⟨a0, t0, r0, n0⟩ := arg_rel closedOk (by simp) (hval 0 43 v0 rfl rfl) h0
  obtain ⟨a1, t1, r1, n1⟩ := arg_rel closedOk (by simp) (hval 1 44 v1 rfl rfl) h1
  refine (law_calls (hlaw a0 a1 t0 t1) (W := W) (vs := #[v0, v1]) rfl (fun i b v hb hv => ?_) (fun b hb => ?_) (glob_ok hL)).mono fun e W' ⟨he, hs⟩ => ?_
  · match i, hb, hv with
    | 0, hb, hv => simp at hb hv; subst hb; subst hv; exact r0
    | 1, hb, hv => simp at hb hv; subst hb; subst hv; exact r1
    | n + 2, hb, hv => simp at hb
  · simp at hb
    rcases hb with rfl | rfl <;> assumption
  subst he
  have hB := below_of hs
  simp only [List.append_nil] at hW'
  have hlt : ∀ x ∈ p0 ++ p1, x.block < W.heap.size := fun x hx => by
    have := hW'.lt x (by simpa using hx)
    simpa using this
  refine ⟨_, rfl, _, _, _, [], (p0 ++ p1), [], hW', ?_, ?_, rfl, hB.frame _, fun h => by cases h⟩
  · exact trodAll_mk1 (shut_bool (by kernel_rfl) true)
  · refine trodAll_mkn (Below.trod Tryd.laidOut (by kernel_rfl) (of_decide_eq_true (by kernel_rfl)) h0 hB fun x hx => hlt x (by simp [hx])) (Below.trod Tryd.laidOut (by kernel_rfl) (of_decide_eq_true (by kernel_rfl)) h1 hB fun x hx => hlt x (by simp [hx]))
theorem row_holds (hlaw : ∀ a0 a1, Arg Tryd.prog 43 a0 → Arg Tryd.prog 44 a1 → Go.Ab.Loc Tryd.prog Gl 0 5 [a0, a1] [] (.bool true) []) : Rows.DetAutomataSaid :=
  OpenClaim.holds_of_wide 5 Tryd.f5 rfl rfl rfl rfl rfl rfl rfl ⟨rfl, rfl, rfl, rfl, rfl⟩ rfl rfl rfl rfl rfl (by kernel_rfl) Tryd.func5 (by kernel_rfl)
    (of_decide_eq_true (by kernel_rfl)) (by unfold Func.isWrapper; first | (rw [if_pos (by decide +kernel)]; kernel_rfl) | (rw [if_neg (by decide +kernel)]; exact ⟨rfl, rfl⟩))
    (fun os started H enc _ => law_lifted hlaw os started H enc)
theorem card_holds (hlaw : ∀ a0 a1, Arg Tryd.prog 43 a0 → Arg Tryd.prog 44 a1 → Go.Ab.Loc Tryd.prog Gl 0 5 [a0, a1] [] (.bool true) []) : Rows.DetAutomataCardSaid :=
  Claim7.holds_tied_plain_at .later [] [.data] true (true, "083f600fa324912a3f64b4a9d9348dcca761660d41196ed62dae77b3effad808") false
    (row_holds hlaw) (fun _ h => by cases h) (by kernel_rfl) (fun _ h => by cases h) detAutomata_row_tie rfl ⟨rfl, rfl⟩ (by kernel_rfl) rfl
    (fun f fn hf hfn => by
      obtain rfl : f = 5 := Option.some.inj ((show Tryd.prog.funcNamed "ectype/ectypelaw15.DetAutomata" = some 5 by kernel_rfl).symm.trans hf) |>.symm
      obtain rfl : fn = Tryd.f5 := (Option.some.inj (Tryd.func5.symm.trans hfn)).symm
      exact ⟨by kernel_rfl, fun j t ht => by
        rw [Tryd.params5] at ht
        have h3 : t ∈ [43, 44] := by
          match j, ht with
          | 0, ht => simp at ht; simp [← ht]
          | 1, ht => simp at ht; simp [← ht]
          | n + 2, ht => simp at ht
        have : ([43, 44].all fun t => Tryd.prog.wantsStandIn t == false) = true := by kernel_rfl
        have := List.all_eq_true.1 this t h3
        have e : Tryd.prog.wantsStandIn t = false := by simpa using this
        exact e⟩)
    (by kernel_rfl)
theorem automata : Rows.DetAutomataCardSaid := card_holds law5_arg
end Go.Proofs.YtpgdlniekkeikaaDoor
