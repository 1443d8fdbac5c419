/- Proved: for every input, ectypelaw16.UptoEqual returns true and its arguments read afterwards as before. Conditions: those of the given card (the package variable ectype/functor.forms starts as the program's text lays it); nothing more. -/
import Derived.Test.YtpgdlniekkeikaaDoorEqualG
import Derived.Test.YtpgdlniekkeikaaDoorEqualC
import Derived.Test.YtpgdlniekkeikaaDoorEqualB4
import Derived.Test.YtpgdlniekkeikaaDoorCards
import Derived.Test.YtpgdlniekkeikaaDoorTie
import Derived.LaidLaws
import Derived.Handed
import Derived.SevenTiedAt
namespace Go.Ab.Tab
open Go Go.Ab
set_option maxRecDepth 10000
set_option linter.unusedVariables false
set_option linter.unusedSimpArgs false

theorem law7 (s : Sy) (hf : fitF s.f) (hl : s.m.length ≤ maxLen) (hv : ∀ v ∈ s.m, fitV v) (x y : List Int) (hx : x.length ≤ maxLen) (hy : y.length ≤ maxLen) :
    Go.Ab.Loc Pg Gl 0 7 [encY s, encI x, encI y] [] (.bool true) [] := by
  refine loc_rd mixedP tok rfl rfl fun S => ?_
  unfold c7
  have h30 := spec30 s hf hl hv 1 8000 (by omega)
  have h13 := spec13 1 [] (by simp [maxLen]) [x, y] (by simp [maxLen])
  have hE := encY.eq_1 s
  have hw0 : IntKind.i64.wrap 0 = 0 := by decide
  rw [hE] at h30 ⊢
  simp [encI]
  refine Rd_call h30 (by simp) ?_
  cases hfew : fewY 8000 s with
  | false =>
    simp
    refine Rd_call loc14 (by simp) ?_
    simp
  | true =>
  unfold fewY at hfew
  simp only [Bool.and_eq_true, decide_eq_true_eq] at hfew
  have hbn : nodesVs s.m ≤ 2 ^ 32 := by have := fewL_sum (by omega) hfew.2.2; omega
  have h32 := spec32 1 s hf hl hv hbn [x, y] (by simp [maxLen]) (by intro l hl; simp at hl; rcases hl with rfl | rfl <;> assumption)
  simp
  refine Rd_call h13 (by simp [encI]) ?_
  cases h2 : fewOk [] [x, y] with
  | false =>
    simp
    refine Rd_call loc14 (by simp) ?_
    simp
  | true =>
  simp
  by_cases h14 : s.m.length ≤ 14
  case neg =>
    have h14' : (14 : Int) < s.m.length := by omega
    simp [h14']
    refine Rd_call loc14 (by simp) ?_
    simp
  have h14' : ¬ (14 : Int) < s.m.length := by omega
  simp [h14']
  by_cases h0 : faultR s [x, y] = 0
  case neg =>
    have h35 := spec35_bad 1 s hf hl hv hbn x y hx hy h0
    rw [hE] at h35 h32
    refine Rd_call h35 (by simp [encI]) ?_
    simp [encT, encI, hw0]
    refine Rd_call h32 (by simp [encI]) ?_
    simp [h0]
    refine Rd_call loc14 (by simp) ?_
    simp
  obtain ⟨hY, hL, hX, hY2⟩ := fault_ok h0
  obtain ⟨k, ps, hps, rfl⟩ := isY_au hY hL
  have hm : (auY k ps).m.length = ps.length := List.length_map _
  rw [hm] at hX hY2
  have vx : VS ps.length x := ⟨hX, hx, hps.len⟩
  have vy : VS ps.length y := ⟨hY2, hy, hps.len⟩
  have hrl : ∀ p ∈ ps, ∀ r ∈ p.2, r.length ≤ maxLen := fun p hp => fit_rows (hv _ (List.mem_map.2 ⟨p, hp, rfl⟩))
  obtain ⟨e, he⟩ : ∃ e, e = searchR (paOf k ps) (toS x) (toS y) := ⟨_, rfl⟩
  have hok := searchR_ok hps vx vy
  rw [← he] at hok
  have h35 := spec35_ok 1 k ps hps hrl hY hv hbn x y vx vy e he
  rw [h0] at h32
  rw [hE] at h35 h32
  refine Rd_call h35 (by simp [encI]) ?_
  cases hs : vS e with
  | true =>
    have h1 : vB e = false := by cases e <;> first | rfl | cases hs
    have h2 : vR e = [] := by cases e <;> first | rfl | cases hs
    have h3 : vW e = [] := by cases e <;> first | rfl | cases hs
    have h8 : (8 : Int) < ps.length := by
      cases e with
      | space => have : 8 < (paOf k ps).n := hok; have : 8 < ps.length := this; omega
      | same rs => cases hs
      | word w => cases hs
    simp [encT, encI, h1, h2, h3, hw0]
    refine Rd_call h32 (by simp [encI]) ?_
    simp [hm, h8]
    refine Rd_call loc14 (by simp) ?_
    simp
  | false =>
    obtain ⟨c1, c2, c3⟩ := check_search hps vx vy hok hs
    have h37 := spec37_ok 1 k ps hps hrl hY hv hbn x y vx vy (vB e) (vR e) c2 (vW e) c3
    have h36 := spec36 1 k ps hps hrl x y vx vy (vB e) (vR e) c2 (vW e) c3
    rw [verd_check hps vx vy, c1] at h36
    rw [c1] at h37
    have h34 := spec34 1 k 300 (by omega) ps hps hrl x y vx vy (by have := isSet_len hX hps.len; omega) (by have := isSet_len hY2 hps.len; omega)
    have hag := equal_agrees hps vx vy hok hs
    rw [hE] at h34 h36 h37
    generalize equalE ps k 300 301 0 ([(x, y)], [keyP x y]) = eq at h34 hag
    obtain ⟨b, c⟩ := eq
    simp only at hag
    cases hB : vB e with
    | true =>
      rw [hB] at h36 h37 hag
      simp [encT, encI, hB]
      refine Rd_call h32 (by simp [encI]) ?_
      simp
      refine Rd_call h36 (by simp [encI]) ?_
      simp
      refine Rd_call h34 (by simp [encI]) ?_
      cases c with
      | false =>
        simp [rEq]
        refine Rd_call h37 (by simp [encI, encT]) ?_
        simp
        refine Rd_call loc14 (by simp) ?_
        simp
      | true =>
        obtain rfl := hag rfl
        simp [rEq]
        refine Rd_call h37 (by simp [encI, encT]) ?_
        simp
        refine Rd_call loc14 (by simp) ?_
        simp
    | false =>
      rw [hB] at h36 h37 hag
      simp [encT, encI, hB]
      refine Rd_call h32 (by simp [encI]) ?_
      simp
      refine Rd_call h36 (by simp [encI]) ?_
      simp
      refine Rd_call h34 (by simp [encI]) ?_
      cases c with
      | false =>
        simp [rEq]
        refine Rd_call h37 (by simp [encI, encT]) ?_
        simp
        refine Rd_call loc14 (by simp) ?_
        simp
      | true =>
        obtain rfl := hag rfl
        simp [rEq]
        refine Rd_call h37 (by simp [encI, encT]) ?_
        simp
        refine Rd_call loc14 (by simp) ?_
        simp
end Go.Ab.Tab
/- The law's contract over its arguments. -/
namespace Go.Ab
open Go
namespace Tab
theorem law7_arg : ∀ a0 a1 a2, Arg Pg 43 a0 → Arg Pg 23 a1 → Arg Pg 23 a2 → Go.Ab.Loc Pg Gl 0 7 [a0, a1, a2] [] (.bool true) [] := by
  intro a0 a1 a2 h0 h1 h2
  obtain ⟨s, rfl, hf, hl, hv⟩ := arg43 h0
  obtain ⟨x, rfl, hx⟩ := arg23 h1
  obtain ⟨y, rfl, hy⟩ := arg23 h2
  exact law7 s hf hl hv x y hx hy
end Tab
end Go.Ab
namespace Go.Proofs.YtpgdlniekkeikaaDoor
open Go.ChangeShapes Go.WideShapes Go.ChangeAt Go.RowKit Go.Ab Go.Ab.Tab
theorem Tryd.own : ownKnob Tryd.prog.godebug = none := by kernel_rfl
theorem Tryd.laidOut : laidOutB Tryd.prog = true := by kernel_rfl
theorem formsN : Tryd.prog.globalNamed "ectype/functor.forms" = some 0 := by kernel_rfl
theorem formsType : (Tryd.prog.globals[0]?).map (·.type) = some 205 := by kernel_rfl
def ints : List Int := [0,0,16,0,0,2,0,2,4,1,0,1,0,1,0,1]
theorem flatOk : flatTys Tryd.prog [205, 204, 3] = true := by kernel_rfl
theorem glob_ok {W : World} (h : laidMet Tryd.prog Rows.uptoEqualRow.laid W) : ∀ g cs, Gl g = some cs → ∀ (j : Nat) (c : AV), cs[j]? = some c → ∃ v, allImm W g j = some v ∧ RelI (allImm W) c v := by
  intro g cs hg j c hc
  unfold Gl at hg
  split at hg
  · rename_i hg0; subst hg0
    injection hg with hg; subst hg
    obtain ⟨ps, ⟨g, t, cs, fuel, p, q, hg, ht, hvar, hd, _, _⟩, _⟩ := h
    obtain rfl := Option.some.inj (formsN.symm.trans hg)
    obtain rfl := Option.some.inj (formsType.symm.trans ht)
    have hf := trod_flat flatOk fuel 5 205 cs.toList (ints.map (Value.int .i64)) _ (by simp) hd rfl
    unfold forms at hc
    rw [List.getElem?_map, Option.map_eq_some_iff] at hc
    obtain ⟨n, hn, rfl⟩ := hc
    have hcell := World.var?_cell hg hvar j
    have hcs : cs[j]? = some (.int .i64 n) := by
      rw [← Array.getElem?_toList, hf, List.getElem?_map]
      have : ints[j]? = some n := hn
      rw [this]; rfl
    rw [hcs] at hcell
    refine ⟨.int .i64 n, ?_, .int _ _⟩
    simp only [allImm]
    have e : W.cell? ⟨0, j, none⟩ = some (.int .i64 n) := by simpa using hcell
    simp [e, Value.oneCell']
  · cases hg
noncomputable def laidWorld (os : Os) : World :=
  let w0 := World.holding Tryd.prog os ⟨#[], #[], []⟩
  { w0 with heap := w0.heap.modify 0 fun
      | .cells _ t frozen => .cells (ints.map (Value.int .i64)).toArray t frozen
      | o => o }
theorem laid_met (os : Os) (args : Array Value) : laidMet Tryd.prog Rows.uptoEqualRow.laid ((laidWorld os).forCall (fun _ _ => 0) ⟨#[], args, []⟩).memory :=
  laidMet_of_run' 8 (by kernel_rfl) (by kernel_rfl)
theorem closedOk : closedTys Tryd.prog [43, 40, 41, 125, 38, 3, 22, 96, 23] = true := by kernel_rfl
theorem below_of {W W' : World} (h : Stands W W') : Below W.heap.size W W' := ⟨h.os, h.tape, h.output, h.size, h.heap⟩
section
variable {H : Type} {enc : TypeId × Value → H} {P : Program} {w : World} {base : Nat} {spare : Nat → Bool} {held : Bool}
theorem trodAll_n {t0 t1 t2 : TypeId} {args : Array Value} {ds : List (DataW H)} {ps : List MemPlace} (h : DataW.TrodAll enc P w base spare held [t0, t1, t2] args.toList ds ps) :
    ∃ v0 v1 v2 d0 d1 d2 p0 p1 p2, args = #[v0, v1, v2] ∧ ds = [d0, d1, d2] ∧ ps = p0 ++ p1 ++ p2 ∧ DataW.Trod enc P w base spare held t0 v0 d0 p0 ∧ DataW.Trod enc P w base spare held t1 v1 d1 p1 ∧ DataW.Trod enc P w base spare held t2 v2 d2 p2 := by
  obtain ⟨v0, vs0, d0, ds0, p0, q0, hargs, rfl, rfl, h0, r0⟩ := trodAll_cons h
  obtain ⟨v1, vs1, d1, ds1, p1, q1, rfl, rfl, rfl, h1, r1⟩ := trodAll_cons r0
  obtain ⟨v2, vs2, d2, ds2, p2, q2, rfl, rfl, rfl, h2, r2⟩ := trodAll_cons r1
  obtain ⟨rfl, rfl, rfl⟩ := trodAll_nil r2
  exact ⟨v0, v1, v2, d0, d1, d2, p0, p1, p2, by cases args; simp_all, rfl, by simp, h0, h1, h2⟩
theorem trodAll_mkn {t0 t1 t2 : TypeId} {v0 v1 v2 : Value} {d0 d1 d2 : DataW H} {p0 p1 p2 : List MemPlace} (h0 : DataW.Trod enc P w base spare held t0 v0 d0 p0) (h1 : DataW.Trod enc P w base spare held t1 v1 d1 p1) (h2 : DataW.Trod enc P w base spare held t2 v2 d2 p2) : DataW.TrodAll enc P w base spare held [t0, t1, t2] [v0, v1, v2] [d0, d1, d2] (p0 ++ (p1 ++ p2)) :=
  ⟨p0, _, h0, ⟨p1, _, h1, trodAll_mk1 h2, rfl⟩, rfl⟩
end
set_option maxRecDepth 100000 in
theorem law_lifted (hlaw : ∀ a0 a1 a2, Arg Tryd.prog 43 a0 → Arg Tryd.prog 23 a1 → Arg Tryd.prog 23 a2 → Go.Ab.Loc Tryd.prog Gl 0 7 [a0, a1, a2] [] (.bool true) [])
    (os : Os) (started : os.Started) (H : Type) (enc : TypeId × Value → H) :
    ReturnsInHanded {} Tryd.checked os 7 .any (fun w args => (Rows.uptoEqualSpec.pre enc Tryd.prog Tryd.f7 Rows.uptoEqualRow.domain false w args ∧ laidMet Tryd.prog Rows.uptoEqualRow.laid w) ∧ sizedMet enc Tryd.prog Tryd.f7 (OpenSpec.ofChange Rows.uptoEqualSpec) false w args)
      (Rows.uptoEqualSpec.post enc Tryd.prog Tryd.f7 false true false false) := by
  refine returnsInHanded_of_change_and (C := Tryd.checked) (X := fun w _ => laidMet Tryd.prog Rows.uptoEqualRow.laid w) (fun _ _ _ hh h => h.of_heap hh) Tryd.own started (by kernel_rfl) Tryd.func7
    (ChangeSpec.witness_at (enc := enc) (C := Tryd.checked) (os := os) (X := fun w _ => laidMet Tryd.prog Rows.uptoEqualRow.laid w) false (laidWorld os) #[.agg #[.int .i64 0, .int .i64 0, .slice none 0 0, .slice none 0 0], .slice none 0 0, .slice none 0 0] 8 rfl (by kernel_rfl) (by kernel_rfl) (by kernel_rfl) (by kernel_rfl) (by kernel_rfl) (laid_met os _)) ?_
  intro W base args ds gs before hval0 hW hcnd0 _ hL _
  have hval : ∀ (j : Nat) t v, Tryd.f7.params[j]? = some t → args[j]? = some v → Value.okWide Tryd.prog W .any base t v := hval0
  have hW' := hW
  obtain ⟨p, q, hA0, hV, rfl, hfz, hnd⟩ := hW
  have hA : DataW.TrodAll enc Tryd.prog W 0 (fun _ => true) true Tryd.f7.params.toList args.toList ds p := hA0
  rw [Tryd.params7] at hA hval
  obtain ⟨v0, v1, v2, d0, d1, d2, p0, p1, p2, rfl, rfl, rfl, h0, h1, h2⟩ := trodAll_n hA
  obtain ⟨rfl, rfl⟩ := trodVars_none hV
  obtain ⟨a0, t0, r0, n0⟩ := arg_rel closedOk (by simp) (hval 0 43 v0 rfl rfl) h0
  obtain ⟨a1, t1, r1, n1⟩ := arg_rel closedOk (by simp) (hval 1 23 v1 rfl rfl) h1
  obtain ⟨a2, t2, r2, n2⟩ := arg_rel closedOk (by simp) (hval 2 23 v2 rfl rfl) h2
  refine (law_calls (hlaw a0 a1 a2 t0 t1 t2) (W := W) (vs := #[v0, v1, v2]) rfl (fun i b v hb hv => ?_) (fun b hb => ?_) (glob_ok hL)).mono fun e W' ⟨he, hs⟩ => ?_
  · match i, hb, hv with
    | 0, hb, hv => simp at hb hv; subst hb; subst hv; exact r0
    | 1, hb, hv => simp at hb hv; subst hb; subst hv; exact r1
    | 2, hb, hv => simp at hb hv; subst hb; subst hv; exact r2
    | n + 3, hb, hv => simp at hb
  · simp at hb
    rcases hb with rfl | rfl | rfl <;> assumption
  subst he
  have hB := below_of hs
  simp only [List.append_nil] at hW'
  have hlt : ∀ x ∈ p0 ++ p1 ++ p2, x.block < W.heap.size := fun x hx => by
    have := hW'.lt x (by simpa using hx)
    simpa using this
  refine ⟨_, rfl, _, _, _, [], (p0 ++ (p1 ++ p2)), [], hW', ?_, ?_, rfl, hB.frame _, fun h => by cases h⟩
  · exact trodAll_mk1 (shut_bool (by kernel_rfl) true)
  · refine trodAll_mkn (Below.trod Tryd.laidOut (by kernel_rfl) (of_decide_eq_true (by kernel_rfl)) h0 hB fun x hx => hlt x (by simp [hx])) (Below.trod Tryd.laidOut (by kernel_rfl) (of_decide_eq_true (by kernel_rfl)) h1 hB fun x hx => hlt x (by simp [hx])) (Below.trod Tryd.laidOut (by kernel_rfl) (of_decide_eq_true (by kernel_rfl)) h2 hB fun x hx => hlt x (by simp [hx]))
theorem row_holds (hlaw : ∀ a0 a1 a2, Arg Tryd.prog 43 a0 → Arg Tryd.prog 23 a1 → Arg Tryd.prog 23 a2 → Go.Ab.Loc Tryd.prog Gl 0 7 [a0, a1, a2] [] (.bool true) []) : Rows.UptoEqualSaid :=
  OpenClaim.holds_of_wide 7 Tryd.f7 rfl rfl rfl rfl rfl rfl rfl ⟨rfl, rfl, rfl, rfl, rfl⟩ rfl rfl rfl rfl rfl (by kernel_rfl) Tryd.func7 (by kernel_rfl)
    (of_decide_eq_true (by kernel_rfl)) (by unfold Func.isWrapper; first | (rw [if_pos (by decide +kernel)]; kernel_rfl) | (rw [if_neg (by decide +kernel)]; exact ⟨rfl, rfl⟩))
    (fun os started H enc _ => law_lifted hlaw os started H enc)
theorem card_holds (hlaw : ∀ a0 a1 a2, Arg Tryd.prog 43 a0 → Arg Tryd.prog 23 a1 → Arg Tryd.prog 23 a2 → Go.Ab.Loc Tryd.prog Gl 0 7 [a0, a1, a2] [] (.bool true) []) : Rows.UptoEqualCardSaid :=
  Claim7.holds_tied_plain_at .later [] [.data] true (true, "083f600fa324912a3f64b4a9d9348dcca761660d41196ed62dae77b3effad808") false
    (row_holds hlaw) (fun _ h => by cases h) (by kernel_rfl) (fun _ h => by cases h) uptoEqual_row_tie rfl ⟨rfl, rfl⟩ (by kernel_rfl) rfl
    (fun f fn hf hfn => by
      obtain rfl : f = 7 := Option.some.inj ((show Tryd.prog.funcNamed "ectype/ectypelaw16.UptoEqual" = some 7 by kernel_rfl).symm.trans hf) |>.symm
      obtain rfl : fn = Tryd.f7 := (Option.some.inj (Tryd.func7.symm.trans hfn)).symm
      exact ⟨by kernel_rfl, fun j t ht => by
        rw [Tryd.params7] at ht
        have h3 : t ∈ [23, 43] := by
          match j, ht with
          | 0, ht => simp at ht; simp [← ht]
          | 1, ht => simp at ht; simp [← ht]
          | 2, ht => simp at ht; simp [← ht]
          | n + 3, ht => simp at ht
        have : ([23, 43].all fun t => Tryd.prog.wantsStandIn t == false) = true := by kernel_rfl
        have := List.all_eq_true.1 this t h3
        have e : Tryd.prog.wantsStandIn t = false := by simpa using this
        exact e⟩)
    (by kernel_rfl)
theorem equal : Rows.UptoEqualCardSaid := card_holds law7_arg
end Go.Proofs.YtpgdlniekkeikaaDoor
