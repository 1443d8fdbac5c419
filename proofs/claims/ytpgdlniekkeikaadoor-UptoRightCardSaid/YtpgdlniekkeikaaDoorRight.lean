/- Proved: for every input, ectypelaw16.UptoRight returns true and its arguments read afterwards as before. Conditions: those of the given card (the package variable ectype/functor.forms starts as the program's text lays it); nothing more. -/
import Derived.Test.YtpgdlniekkeikaaDoorRightG
import Derived.Test.YtpgdlniekkeikaaDoorRightC
import Derived.Test.YtpgdlniekkeikaaDoorRightB4
import Derived.Test.YtpgdlniekkeikaaDoorCards
import Derived.Test.YtpgdlniekkeikaaDoorTie
import Derived.LaidLaws
import Derived.Handed
import Derived.SevenTiedAt
namespace Go.Ab.Tab
open Go Go.Ab
set_option maxRecDepth 10000
set_option linter.unusedVariables false
set_option linter.unusedSimpArgs false

theorem l9_j0 (s : Sy) (hf : fitF s.f) (hl : s.m.length ≤ maxLen) (hv : ∀ v ∈ s.m, fitV v) (hbn : nodesVs s.m ≤ 2 ^ 32) (x y : List Int) (hx : x.length ≤ maxLen) (hy : y.length ≤ maxLen)
    (b : Bool) (Q : List PI) (hQs : ∀ p ∈ Q, p.1.length ≤ maxLen ∧ p.2.length ≤ maxLen) (w : List Int) (hw : w.length ≤ maxLen) (S) (τ ω) (h2 : τ 2 = encI x) (h3 : τ 3 = encI y) (h5 : τ 5 = .ptr 0 5 1 0) (h9 : τ 9 = .ptr 0 9 1 0)
    (w5 : ω 5 = (1, .cells [.int .i64 s.f.k, .int .i64 s.f.n, .sl 3 (s.f.gs.map encF) .no, .sl 3 (s.m.map encV) .no])) (w9 : ω 9 = (1, .cells [.bool b, .sl 2 (Q.map encPI) .no, encI w])) :
    Rd (Loc Pg Gl) .im (RetQ [.tmp 10] (.bool true) S) [.c c9_j0] (stF 133 0 τ ω S) := by
  unfold c9_j0
  have hE := encY.eq_1 s
  have h32 := spec32 1 s hf hl hv hbn [x, y] (by simp [maxLen]) (by intro l hl; simp at hl; rcases hl with rfl | rfl <;> assumption)
  by_cases h0 : faultR s [x, y] = 0
  case neg =>
    have h37 := spec37_bad 1 s hf hl hv hbn x y hx hy h0 b Q w
    rw [hE] at h32 h37
    simp [h2, h3, h5, h9, w5, w9, encI]
    refine Rd_call h37 (by simp [encI, encT]) ?_
    simp [h2, h3, h5, h9, w5, w9, encI]
    refine Rd_call h32 (by simp [encI]) ?_
    simp [h0]
    refine Rd_call loc14 (by simp) ?_
    simp
  obtain ⟨hY, hL, hX, hY2⟩ := fault_ok h0
  obtain ⟨k, ps, hps, rfl⟩ := isY_au hY hL
  have hm : (auY k ps).m.length = ps.length := List.length_map _
  rw [hm] at hX hY2
  have vx : VS ps.length x := ⟨hX, hx, hps.len⟩
  have vy : VS ps.length y := ⟨hY2, hy, hps.len⟩
  have hrl : ∀ p ∈ ps, ∀ r ∈ p.2, r.length ≤ maxLen := fun p hp => fit_rows (hv _ (List.mem_map.2 ⟨p, hp, rfl⟩))
  have h37 := spec37_ok 1 k ps hps hrl hY hv hbn x y vx vy b Q hQs w hw
  have h36 := spec36 1 k ps hps hrl x y vx vy b Q hQs w hw
  rw [verd_check hps vx vy] at h36
  rw [h0] at h32
  rw [hE] at h32 h36 h37
  simp [h2, h3, h5, h9, w5, w9, encI]
  refine Rd_call h37 (by simp [encI, encT]) ?_
  simp [h2, h3, h5, h9, w5, w9, encI]
  refine Rd_call h32 (by simp [encI]) ?_
  simp [h2, h3, h5, h9, w5, w9, encI]
  refine Rd_call h36 (by simp [encI, encT]) ?_
  simp
  refine Rd_call loc14 (by simp) ?_
  simp

theorem spec33_badE (D : Nat) (s : Sy) (R : AV) (hR : R = R.strip) (hf : fitF s.f) (hl : s.m.length ≤ maxLen) (hv : ∀ v ∈ s.m, fitV v) (hb : nodesVs s.m ≤ 2 ^ 32) (h : isY s = false ∨ lettersF s.f = 0) :
    Go.Ab.Loc Pg Gl D 33 [encY s, R] [] (rRight false (if isY s then 1 else 30)) [] := by
  refine loc_rd mixedP tok rfl rfl fun S => ?_
  unfold c33
  have h66 := spec66_bad (D + 1) s hf hl hv hb h
  generalize hr : rRight false (if isY s then 1 else 30) = r
  have hc : (if isY s then (1 : Int) else 30) ≠ 0 := by split <;> omega
  generalize (if isY s then (1 : Int) else 30) = c at h66 hr hc
  rw [encY] at h66 ⊢
  simp
  refine Rd_call h66 (by simp) ?_
  simp [hc]
  rw [← hr, rRight]
theorem fault0 (s : Sy) (h : faultR s [] ≠ 0) : (isY s = false ∨ lettersF s.f = 0) ∧ faultR s [] = (if isY s then 1 else 30) := by
  unfold faultR at h ⊢
  cases h1 : isY s with
  | false => exact ⟨.inl rfl, by simp⟩
  | true =>
    by_cases h2 : lettersF s.f = 0
    · exact ⟨.inr h2, by simp [h2]⟩
    · simp [h1, h2] at h
theorem law9 (s : Sy) (hf : fitF s.f) (hl : s.m.length ≤ maxLen) (hv : ∀ v ∈ s.m, fitV v) (R : List PI) (hRl : R.length ≤ maxLen) (hRs : ∀ p ∈ R, p.1.length ≤ maxLen ∧ p.2.length ≤ maxLen) (x y : List Int) (hx : x.length ≤ maxLen) (hy : y.length ≤ maxLen)
    (b : Bool) (Q : List PI) (hQl : Q.length ≤ maxLen) (hQs : ∀ p ∈ Q, p.1.length ≤ maxLen ∧ p.2.length ≤ maxLen) (w : List Int) (hw : w.length ≤ maxLen) :
    Go.Ab.Loc Pg Gl 0 9 [encY s, .sl 2 (R.map encPI) .no, encI x, encI y, encT b Q w] [] (.bool true) [] := by
  refine loc_rd mixedP tok rfl rfl fun S => ?_
  unfold c9
  have h30 := spec30 s hf hl hv 1 8000 (by omega)
  have h13 := spec13 1 R hRl [x, y, w] (by simp [maxLen])
  have h13q := spec13 1 Q hQl [] (by simp [maxLen])
  have hE := encY.eq_1 s
  rw [hE] at h30 ⊢
  simp [encI, encT]
  refine Rd_call h30 (by simp) ?_
  cases hfew : fewY 8000 s with
  | false =>
    simp
    refine Rd_call loc14 (by simp) ?_
    simp
  | true =>
  unfold fewY at hfew
  simp only [Bool.and_eq_true, decide_eq_true_eq] at hfew
  have hbn : nodesVs s.m ≤ 2 ^ 32 := by have := fewL_sum (by omega) hfew.2.2; omega
  have h31 := fun R => spec31 1 s (by omega) R
  have h32 := spec32 1 s hf hl hv hbn [x, y] (by simp [maxLen]) (by intro l hl; simp at hl; rcases hl with rfl | rfl <;> assumption)
  have h32n := spec32 1 s hf hl hv hbn [] (by simp [maxLen]) (by intro l hl; cases hl)
  rw [hE] at h31 h32 h32n
  simp
  refine Rd_call h13 (by simp [encI]) ?_
  cases h2 : fewOk R [x, y, w] with
  | false =>
    simp
    refine Rd_call loc14 (by simp) ?_
    simp
  | true =>
  simp
  refine Rd_call h13q (by simp) ?_
  cases h2q : fewOk Q [] with
  | false =>
    simp
    refine Rd_call loc14 (by simp) ?_
    simp
  | true =>
  simp
  refine Rd_call (h31 (R.map encPI)) (by simp) ?_
  cases h3 : heavyB s.m.length (R.map encPI).length with
  | true =>
    simp
    refine Rd_call loc14 (by simp) ?_
    simp
  | false =>
  simp
  refine Rd_call (h31 (Q.map encPI)) (by simp) ?_
  cases h3q : heavyB s.m.length (Q.map encPI).length with
  | true =>
    simp
    refine Rd_call loc14 (by simp) ?_
    simp
  | false =>
  have hm9 : s.m.length ≤ 2 ^ 32 := by omega
  have bad : ∀ (e : Int), e ≠ 0 → True := fun _ _ => trivial
  by_cases h0 : faultR s [] = 0
  case neg =>
    obtain ⟨g1, g2⟩ := fault0 s h0
    have h33 := spec33_badE 1 s (.sl 2 (R.map encPI) .no) (by simp) hf hl hv hbn g1
    rw [← g2] at h33
    rw [hE] at h33
    simp
    refine Rd_call h33 (by simp) ?_
    simp [rRight]
    refine Rd_call h32n (by simp) ?_
    simp [h0]
    unfold c9_j1
    simp [h0]
    refine l9_j0 s hf hl hv hbn x y hx hy b Q hQs w hw S _ _ ?_ ?_ ?_ ?_ ?_ ?_
    all_goals simp [encI]
  have hYL : isY s = true ∧ lettersF s.f ≠ 0 := by
    unfold faultR at h0
    split at h0
    · rename_i h1
      split at h0
      · cases h0
      · rename_i h2; exact ⟨h1, h2⟩
    · cases h0
  obtain ⟨hY, hL⟩ := hYL
  obtain ⟨k, ps, hps, rfl⟩ := isY_au hY hL
  have hm : (auY k ps).m.length = ps.length := List.length_map _
  have hrl : ∀ p ∈ ps, ∀ r ∈ p.2, r.length ≤ maxLen := fun p hp => fit_rows (hv _ (List.mem_map.2 ⟨p, hp, rfl⟩))
  have h33 := spec33_ok 1 k ps hps hrl hY hv hbn R hRs
  rw [hE] at h33
  simp
  refine Rd_call h33 (by simp) ?_
  cases hok : (decide (R.length ≤ 1000) && pairsOk ps.length R) with
  | false =>
    rw [h0] at h32n
    rw [hok] at h33
    simp [rRight]
    refine Rd_call h32n (by simp) ?_
    simp
    refine Rd_call (spec17 _ _ R hRs) (by simp [hm]; rfl) ?_
    rw [hok]
    simp
    unfold c9_j1
    simp
    refine l9_j0 (auY k ps) hf hl hv hbn x y hx hy b Q hQs w hw S _ _ ?_ ?_ ?_ ?_ ?_ ?_
    all_goals simp [encI]
  | true =>
    rw [h0] at h32n
    rw [hok] at h33
    have hok' := hok
    simp only [Bool.and_eq_true, decide_eq_true_eq] at hok'
    have vR : VP ps.length R := ⟨hok'.2, hok'.1, hRs, hps.len⟩
    have hRv : ∀ c ∈ R, VS ps.length c.1 ∧ VS ps.length c.2 := by
      intro c hc
      have := List.all_eq_true.1 hok'.2 c hc
      rw [Bool.and_eq_true] at this
      exact ⟨⟨this.1, (hRs c hc).1, hps.len⟩, ⟨this.2, (hRs c hc).2, hps.len⟩⟩
    have h45 := spec45 1 k ps hps hrl R vR hRv
    rw [hE] at h45
    simp [rRight]
    refine Rd_call h32n (by simp) ?_
    simp
    refine Rd_call (spec17 _ _ R hRs) (by simp [hm]; rfl) ?_
    rw [hok]
    simp
    unfold c9_j1
    simp
    refine Rd_call h45 (by simp) ?_
    simp
    refine l9_j0 (auY k ps) hf hl hv hbn x y hx hy b Q hQs w hw S _ _ ?_ ?_ ?_ ?_ ?_ ?_
    all_goals simp [encI]
end Go.Ab.Tab
/- A verdict as an argument; the law's contract over its arguments. -/
namespace Go.Ab
open Go
set_option maxRecDepth 10000
set_option linter.unusedVariables false
set_option linter.unusedSimpArgs false
namespace Tab
theorem u4 : Pg.underlying 4 = some .bool := by kernel_rfl
theorem s75 : isStruct Pg 75 = true := by kernel_rfl
theorem f75 : fieldsOf Pg 75 = [(4, 0), (22, 1), (23, 2)] := by kernel_rfl
theorem z75 : Pg.cellsOf 75 = 3 := by kernel_rfl
theorem z4 : Pg.cellsOf 4 = 1 := by kernel_rfl
theorem z22 : Pg.cellsOf 22 = 1 := by kernel_rfl
theorem g75 : isAggT Pg 75 = true := by kernel_rfl
theorem ty_bool {P : Program} {t : TypeId} {n : Nat} {cs : List AV} (hu : P.underlying t = some .bool) (h : tyOk P n t cs) : ∃ b, cs = [.bool b] := by
  cases n with
  | zero => cases h
  | succ n => simpa only [tyOk, hu] using h
theorem ty22 {n : Nat} {cs : List AV} (h : tyOk Pg n 22 cs) : ∃ ps : List PI, cs = [.sl 2 (ps.map encPI) .no] ∧ ps.length ≤ maxLen ∧ ∀ p ∈ ps, p.1.length ≤ maxLen ∧ p.2.length ≤ maxLen := by
  obtain ⟨xs, n', rfl, h2, h3⟩ := ty_slice u22 h
  obtain ⟨ps, rfl, hps⟩ := map_exists encPI (fun p => p.1.length ≤ maxLen ∧ p.2.length ≤ maxLen) xs fun x hx => by
    obtain ⟨c, rfl, hc⟩ := h3 x hx
    obtain ⟨hl, m, hf⟩ := ty_struct s96 hc
    rw [f96] at hf
    rw [z96] at hl
    obtain ⟨c0, c1, rfl⟩ : ∃ c0 c1, c = [c0, c1] := by
      match c, hl with
      | [c0, c1], _ => exact ⟨c0, c1, rfl⟩
    have k0 := hf (23, 0) (by simp)
    have k1 := hf (23, 1) (by simp)
    rw [z23] at k0 k1
    obtain ⟨l0, e0, h0⟩ := ty23 k0
    obtain ⟨l1, e1, h1⟩ := ty23 k1
    simp at e0 e1
    subst e0; subst e1
    exact ⟨(l0, l1), mkV_agg g96, h0, h1⟩
  exact ⟨ps, by rw [z96], by simpa using h2, hps⟩
theorem arg75 {a : AV} (h : Arg Pg 75 a) : ∃ (b : Bool) (Q : List PI) (w : List Int), a = encT b Q w ∧ Q.length ≤ maxLen ∧ (∀ p ∈ Q, p.1.length ≤ maxLen ∧ p.2.length ≤ maxLen) ∧ w.length ≤ maxLen := by
  obtain ⟨fuel, cs, h1, h2, rfl⟩ := h
  cases fuel with
  | zero => cases h1
  | succ n =>
    obtain ⟨hl, hf⟩ := ty_struct' s75 h1
    rw [f75] at hf
    rw [z75] at hl
    obtain ⟨a, b, c, rfl⟩ := three hl
    have k0 := hf (4, 0) (by simp)
    have k1 := hf (22, 1) (by simp)
    have k2 := hf (23, 2) (by simp)
    rw [z4] at k0
    rw [z22] at k1
    rw [z23] at k2
    obtain ⟨bb, e0⟩ := ty_bool u4 k0
    obtain ⟨Q, e1, hQ, hQs⟩ := ty22 k1
    obtain ⟨w, e2, hw⟩ := ty23 k2
    simp at e0 e1 e2
    subst e0; subst e1; subst e2
    exact ⟨bb, Q, w, mkV_agg g75, hQ, hQs, hw⟩
theorem law9_arg : ∀ a0 a1 a2 a3 a4, Arg Pg 43 a0 → Arg Pg 22 a1 → Arg Pg 23 a2 → Arg Pg 23 a3 → Arg Pg 75 a4 → Go.Ab.Loc Pg Gl 0 9 [a0, a1, a2, a3, a4] [] (.bool true) [] := by
  intro a0 a1 a2 a3 a4 h0 h1 h2 h3 h4
  obtain ⟨s, rfl, hf, hl, hv⟩ := arg43 h0
  obtain ⟨ps, rfl, hpl, hps⟩ := arg22 h1
  obtain ⟨x, rfl, hx⟩ := arg23 h2
  obtain ⟨y, rfl, hy⟩ := arg23 h3
  obtain ⟨b, Q, w, rfl, hQ, hQs, hw⟩ := arg75 h4
  exact law9 s hf hl hv ps hpl hps x y hx hy b Q hQ hQs w hw
end Tab
end Go.Ab
namespace Go.Proofs.YtpgdlniekkeikaaDoor
open Go.ChangeShapes Go.WideShapes Go.ChangeAt Go.RowKit Go.Ab Go.Ab.Tab
theorem Tryd.own : ownKnob Tryd.prog.godebug = none := by kernel_rfl
theorem Tryd.laidOut : laidOutB Tryd.prog = true := by kernel_rfl
theorem formsN : Tryd.prog.globalNamed "ectype/functor.forms" = some 0 := by kernel_rfl
theorem formsType : (Tryd.prog.globals[0]?).map (·.type) = some 205 := by kernel_rfl
def ints : List Int := [0,0,16,0,0,2,0,2,4,1,0,1,0,1,0,1]
theorem flatOk : flatTys Tryd.prog [205, 204, 3] = true := by kernel_rfl
theorem glob_ok {W : World} (h : laidMet Tryd.prog Rows.uptoRightRow.laid W) : ∀ g cs, Gl g = some cs → ∀ (j : Nat) (c : AV), cs[j]? = some c → ∃ v, allImm W g j = some v ∧ RelI (allImm W) c v := by
  intro g cs hg j c hc
  unfold Gl at hg
  split at hg
  · rename_i hg0; subst hg0
    injection hg with hg; subst hg
    obtain ⟨ps, ⟨g, t, cs, fuel, p, q, hg, ht, hvar, hd, _, _⟩, _⟩ := h
    obtain rfl := Option.some.inj (formsN.symm.trans hg)
    obtain rfl := Option.some.inj (formsType.symm.trans ht)
    have hf := trod_flat flatOk fuel 5 205 cs.toList (ints.map (Value.int .i64)) _ (by simp) hd rfl
    unfold forms at hc
    rw [List.getElem?_map, Option.map_eq_some_iff] at hc
    obtain ⟨n, hn, rfl⟩ := hc
    have hcell := World.var?_cell hg hvar j
    have hcs : cs[j]? = some (.int .i64 n) := by
      rw [← Array.getElem?_toList, hf, List.getElem?_map]
      have : ints[j]? = some n := hn
      rw [this]; rfl
    rw [hcs] at hcell
    refine ⟨.int .i64 n, ?_, .int _ _⟩
    simp only [allImm]
    have e : W.cell? ⟨0, j, none⟩ = some (.int .i64 n) := by simpa using hcell
    simp [e, Value.oneCell']
  · cases hg
noncomputable def laidWorld (os : Os) : World :=
  let w0 := World.holding Tryd.prog os ⟨#[], #[], []⟩
  { w0 with heap := w0.heap.modify 0 fun
      | .cells _ t frozen => .cells (ints.map (Value.int .i64)).toArray t frozen
      | o => o }
theorem laid_met (os : Os) (args : Array Value) : laidMet Tryd.prog Rows.uptoRightRow.laid ((laidWorld os).forCall (fun _ _ => 0) ⟨#[], args, []⟩).memory :=
  laidMet_of_run' 8 (by kernel_rfl) (by kernel_rfl)
theorem closedOk : closedTys Tryd.prog [43, 40, 41, 125, 38, 3, 22, 96, 23, 75, 4] = true := by kernel_rfl
theorem below_of {W W' : World} (h : Stands W W') : Below W.heap.size W W' := ⟨h.os, h.tape, h.output, h.size, h.heap⟩
section
variable {H : Type} {enc : TypeId × Value → H} {P : Program} {w : World} {base : Nat} {spare : Nat → Bool} {held : Bool}
theorem trodAll_n {t0 t1 t2 t3 t4 : TypeId} {args : Array Value} {ds : List (DataW H)} {ps : List MemPlace} (h : DataW.TrodAll enc P w base spare held [t0, t1, t2, t3, t4] args.toList ds ps) :
    ∃ v0 v1 v2 v3 v4 d0 d1 d2 d3 d4 p0 p1 p2 p3 p4, args = #[v0, v1, v2, v3, v4] ∧ ds = [d0, d1, d2, d3, d4] ∧ ps = p0 ++ p1 ++ p2 ++ p3 ++ p4 ∧ DataW.Trod enc P w base spare held t0 v0 d0 p0 ∧ DataW.Trod enc P w base spare held t1 v1 d1 p1 ∧ DataW.Trod enc P w base spare held t2 v2 d2 p2 ∧ DataW.Trod enc P w base spare held t3 v3 d3 p3 ∧ DataW.Trod enc P w base spare held t4 v4 d4 p4 := by
  obtain ⟨v0, vs0, d0, ds0, p0, q0, hargs, rfl, rfl, h0, r0⟩ := trodAll_cons h
  obtain ⟨v1, vs1, d1, ds1, p1, q1, rfl, rfl, rfl, h1, r1⟩ := trodAll_cons r0
  obtain ⟨v2, vs2, d2, ds2, p2, q2, rfl, rfl, rfl, h2, r2⟩ := trodAll_cons r1
  obtain ⟨v3, vs3, d3, ds3, p3, q3, rfl, rfl, rfl, h3, r3⟩ := trodAll_cons r2
  obtain ⟨v4, vs4, d4, ds4, p4, q4, rfl, rfl, rfl, h4, r4⟩ := trodAll_cons r3
  obtain ⟨rfl, rfl, rfl⟩ := trodAll_nil r4
  exact ⟨v0, v1, v2, v3, v4, d0, d1, d2, d3, d4, p0, p1, p2, p3, p4, by cases args; simp_all, rfl, by simp, h0, h1, h2, h3, h4⟩
theorem trodAll_mkn {t0 t1 t2 t3 t4 : TypeId} {v0 v1 v2 v3 v4 : Value} {d0 d1 d2 d3 d4 : DataW H} {p0 p1 p2 p3 p4 : List MemPlace} (h0 : DataW.Trod enc P w base spare held t0 v0 d0 p0) (h1 : DataW.Trod enc P w base spare held t1 v1 d1 p1) (h2 : DataW.Trod enc P w base spare held t2 v2 d2 p2) (h3 : DataW.Trod enc P w base spare held t3 v3 d3 p3) (h4 : DataW.Trod enc P w base spare held t4 v4 d4 p4) : DataW.TrodAll enc P w base spare held [t0, t1, t2, t3, t4] [v0, v1, v2, v3, v4] [d0, d1, d2, d3, d4] (p0 ++ (p1 ++ (p2 ++ (p3 ++ p4)))) :=
  ⟨p0, _, h0, ⟨p1, _, h1, ⟨p2, _, h2, ⟨p3, _, h3, trodAll_mk1 h4, rfl⟩, rfl⟩, rfl⟩, rfl⟩
end
set_option maxRecDepth 100000 in
theorem law_lifted (hlaw : ∀ a0 a1 a2 a3 a4, Arg Tryd.prog 43 a0 → Arg Tryd.prog 22 a1 → Arg Tryd.prog 23 a2 → Arg Tryd.prog 23 a3 → Arg Tryd.prog 75 a4 → Go.Ab.Loc Tryd.prog Gl 0 9 [a0, a1, a2, a3, a4] [] (.bool true) [])
    (os : Os) (started : os.Started) (H : Type) (enc : TypeId × Value → H) :
    ReturnsInHanded {} Tryd.checked os 9 .any (fun w args => (Rows.uptoRightSpec.pre enc Tryd.prog Tryd.f9 Rows.uptoRightRow.domain false w args ∧ laidMet Tryd.prog Rows.uptoRightRow.laid w) ∧ sizedMet enc Tryd.prog Tryd.f9 (OpenSpec.ofChange Rows.uptoRightSpec) false w args)
      (Rows.uptoRightSpec.post enc Tryd.prog Tryd.f9 false true false false) := by
  refine returnsInHanded_of_change_and (C := Tryd.checked) (X := fun w _ => laidMet Tryd.prog Rows.uptoRightRow.laid w) (fun _ _ _ hh h => h.of_heap hh) Tryd.own started (by kernel_rfl) Tryd.func9
    (ChangeSpec.witness_at (enc := enc) (C := Tryd.checked) (os := os) (X := fun w _ => laidMet Tryd.prog Rows.uptoRightRow.laid w) false (laidWorld os) #[.agg #[.int .i64 0, .int .i64 0, .slice none 0 0, .slice none 0 0], .slice none 0 0, .slice none 0 0, .slice none 0 0, .agg #[.bool false, .slice none 0 0, .slice none 0 0]] 8 rfl (by kernel_rfl) (by kernel_rfl) (by kernel_rfl) (by kernel_rfl) (by kernel_rfl) (laid_met os _)) ?_
  intro W base args ds gs before hval0 hW hcnd0 _ hL _
  have hval : ∀ (j : Nat) t v, Tryd.f9.params[j]? = some t → args[j]? = some v → Value.okWide Tryd.prog W .any base t v := hval0
  have hW' := hW
  obtain ⟨p, q, hA0, hV, rfl, hfz, hnd⟩ := hW
  have hA : DataW.TrodAll enc Tryd.prog W 0 (fun _ => true) true Tryd.f9.params.toList args.toList ds p := hA0
  rw [Tryd.params9] at hA hval
  obtain ⟨v0, v1, v2, v3, v4, d0, d1, d2, d3, d4, p0, p1, p2, p3, p4, rfl, rfl, rfl, h0, h1, h2, h3, h4⟩ := trodAll_n hA
  obtain ⟨rfl, rfl⟩ := trodVars_none hV
  obtain ⟨a0, t0, r0, n0⟩ := arg_rel closedOk (by simp) (hval 0 43 v0 rfl rfl) h0
  obtain ⟨a1, t1, r1, n1⟩ := arg_rel closedOk (by simp) (hval 1 22 v1 rfl rfl) h1
  obtain ⟨a2, t2, r2, n2⟩ := arg_rel closedOk (by simp) (hval 2 23 v2 rfl rfl) h2
  obtain ⟨a3, t3, r3, n3⟩ := arg_rel closedOk (by simp) (hval 3 23 v3 rfl rfl) h3
  obtain ⟨a4, t4, r4, n4⟩ := arg_rel closedOk (by simp) (hval 4 75 v4 rfl rfl) h4
  refine (law_calls (hlaw a0 a1 a2 a3 a4 t0 t1 t2 t3 t4) (W := W) (vs := #[v0, v1, v2, v3, v4]) rfl (fun i b v hb hv => ?_) (fun b hb => ?_) (glob_ok hL)).mono fun e W' ⟨he, hs⟩ => ?_
  · match i, hb, hv with
    | 0, hb, hv => simp at hb hv; subst hb; subst hv; exact r0
    | 1, hb, hv => simp at hb hv; subst hb; subst hv; exact r1
    | 2, hb, hv => simp at hb hv; subst hb; subst hv; exact r2
    | 3, hb, hv => simp at hb hv; subst hb; subst hv; exact r3
    | 4, hb, hv => simp at hb hv; subst hb; subst hv; exact r4
    | n + 5, hb, hv => simp at hb
  · simp at hb
    rcases hb with rfl | rfl | rfl | rfl | rfl <;> assumption
  subst he
  have hB := below_of hs
  simp only [List.append_nil] at hW'
  have hlt : ∀ x ∈ p0 ++ p1 ++ p2 ++ p3 ++ p4, x.block < W.heap.size := fun x hx => by
    have := hW'.lt x (by simpa using hx)
    simpa using this
  refine ⟨_, rfl, _, _, _, [], (p0 ++ (p1 ++ (p2 ++ (p3 ++ p4)))), [], hW', ?_, ?_, rfl, hB.frame _, fun h => by cases h⟩
  · exact trodAll_mk1 (shut_bool (by kernel_rfl) true)
  · refine trodAll_mkn (Below.trod Tryd.laidOut (by kernel_rfl) (of_decide_eq_true (by kernel_rfl)) h0 hB fun x hx => hlt x (by simp [hx])) (Below.trod Tryd.laidOut (by kernel_rfl) (of_decide_eq_true (by kernel_rfl)) h1 hB fun x hx => hlt x (by simp [hx])) (Below.trod Tryd.laidOut (by kernel_rfl) (of_decide_eq_true (by kernel_rfl)) h2 hB fun x hx => hlt x (by simp [hx])) (Below.trod Tryd.laidOut (by kernel_rfl) (of_decide_eq_true (by kernel_rfl)) h3 hB fun x hx => hlt x (by simp [hx])) (Below.trod Tryd.laidOut (by kernel_rfl) (of_decide_eq_true (by kernel_rfl)) h4 hB fun x hx => hlt x (by simp [hx]))
theorem row_holds (hlaw : ∀ a0 a1 a2 a3 a4, Arg Tryd.prog 43 a0 → Arg Tryd.prog 22 a1 → Arg Tryd.prog 23 a2 → Arg Tryd.prog 23 a3 → Arg Tryd.prog 75 a4 → Go.Ab.Loc Tryd.prog Gl 0 9 [a0, a1, a2, a3, a4] [] (.bool true) []) : Rows.UptoRightSaid :=
  OpenClaim.holds_of_wide 9 Tryd.f9 rfl rfl rfl rfl rfl rfl rfl ⟨rfl, rfl, rfl, rfl, rfl⟩ rfl rfl rfl rfl rfl (by kernel_rfl) Tryd.func9 (by kernel_rfl)
    (of_decide_eq_true (by kernel_rfl)) (by unfold Func.isWrapper; first | (rw [if_pos (by decide +kernel)]; kernel_rfl) | (rw [if_neg (by decide +kernel)]; exact ⟨rfl, rfl⟩))
    (fun os started H enc _ => law_lifted hlaw os started H enc)
theorem card_holds (hlaw : ∀ a0 a1 a2 a3 a4, Arg Tryd.prog 43 a0 → Arg Tryd.prog 22 a1 → Arg Tryd.prog 23 a2 → Arg Tryd.prog 23 a3 → Arg Tryd.prog 75 a4 → Go.Ab.Loc Tryd.prog Gl 0 9 [a0, a1, a2, a3, a4] [] (.bool true) []) : Rows.UptoRightCardSaid :=
  Claim7.holds_tied_plain_at .later [] [.data] true (true, "083f600fa324912a3f64b4a9d9348dcca761660d41196ed62dae77b3effad808") false
    (row_holds hlaw) (fun _ h => by cases h) (by kernel_rfl) (fun _ h => by cases h) uptoRight_row_tie rfl ⟨rfl, rfl⟩ (by kernel_rfl) rfl
    (fun f fn hf hfn => by
      obtain rfl : f = 9 := Option.some.inj ((show Tryd.prog.funcNamed "ectype/ectypelaw16.UptoRight" = some 9 by kernel_rfl).symm.trans hf) |>.symm
      obtain rfl : fn = Tryd.f9 := (Option.some.inj (Tryd.func9.symm.trans hfn)).symm
      exact ⟨by kernel_rfl, fun j t ht => by
        rw [Tryd.params9] at ht
        have h3 : t ∈ [22, 23, 43, 75] := by
          match j, ht with
          | 0, ht => simp at ht; simp [← ht]
          | 1, ht => simp at ht; simp [← ht]
          | 2, ht => simp at ht; simp [← ht]
          | 3, ht => simp at ht; simp [← ht]
          | 4, ht => simp at ht; simp [← ht]
          | n + 5, ht => simp at ht
        have : ([22, 23, 43, 75].all fun t => Tryd.prog.wantsStandIn t == false) = true := by kernel_rfl
        have := List.all_eq_true.1 this t h3
        have e : Tryd.prog.wantsStandIn t = false := by simpa using this
        exact e⟩)
    (by kernel_rfl)
theorem right : Rows.UptoRightCardSaid := card_holds law9_arg
end Go.Proofs.YtpgdlniekkeikaaDoor
