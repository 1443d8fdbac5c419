/- Proved: for every input, ectypelaw16.UptoSound returns true and its arguments read afterwards as before. Conditions: those of the given card (the package variable ectype/functor.forms starts as the program's text lays it); nothing more. -/
import Derived.Test.YtpgdlniekkeikaaDoorSoundG
import Derived.Test.YtpgdlniekkeikaaDoorSoundC
import Derived.Test.YtpgdlniekkeikaaDoorSoundD
import Derived.Test.YtpgdlniekkeikaaDoorSoundB4
import Derived.Test.YtpgdlniekkeikaaDoorCards
import Derived.Test.YtpgdlniekkeikaaDoorTie
import Derived.LaidLaws
import Derived.Handed
import Derived.SevenTiedAt
namespace Go.Ab.Tab
open Go Go.Ab
set_option maxRecDepth 10000
set_option linter.unusedVariables false
set_option linter.unusedSimpArgs false

theorem fit_rows {p : Bool × List (List Nat)} (h : fitV (mkAu p)) : ∀ r ∈ p.2, r.length ≤ maxLen := by
  intro r hr
  have h1 := (fitV_gs _).1 h
  have h2 : fitV (.mk 0 (p.2.map mkRow) []) := fitVs_mem h1.2 _ (by simp [mkAu, Va.gs])
  have h3 := (fitV_gs _).1 h2
  have h4 : fitV (mkRow r) := fitVs_mem h3.2 _ (by show mkRow r ∈ p.2.map mkRow; exact List.mem_map.2 ⟨r, hr, rfl⟩)
  have h5 := ((fitV_gs _).1 h4).1.1
  have : (r.map mkSt).length ≤ maxLen := h5
  rwa [List.length_map] at this

theorem fault_ok {s : Sy} {x y : List Int} (h : faultR s [x, y] = 0) : isY s = true ∧ lettersF s.f ≠ 0 ∧ isSet s.m.length x = true ∧ isSet s.m.length y = true := by
  unfold faultR at h
  split at h
  · rename_i h1
    split at h
    · cases h
    · rename_i h2
      split at h
      · rename_i h3
        simp at h3
        exact ⟨h1, h2, h3.1, h3.2⟩
      · cases h
  · cases h
theorem isSetFrom_len {n : Int} : ∀ {l : List Int} {b : Int}, isSetFrom n (some b) l = true → b < n → (l.length : Int) ≤ n - 1 - b
  | [], b, _, hb => by simp; omega
  | a :: l, b, h, hb => by
    rw [isSetFrom] at h
    simp only [Bool.and_eq_true, decide_eq_true_eq, prevOk] at h
    have := isSetFrom_len h.2 h.1.1.2
    rw [List.length_cons]; omega
theorem isSet_len {n : Nat} {l : List Int} (h : isSet n l = true) (hn : n ≤ 100) : l.length ≤ 100 := by
  unfold isSet at h
  cases l with
  | nil => simp
  | cons a l =>
    rw [isSetFrom] at h
    simp only [Bool.and_eq_true, decide_eq_true_eq] at h
    have := isSetFrom_len h.2 h.1.1.2
    rw [List.length_cons]; omega

theorem law6 (s : Sy) (hf : fitF s.f) (hl : s.m.length ≤ maxLen) (hv : ∀ v ∈ s.m, fitV v) (R : List PI) (hRl : R.length ≤ maxLen) (hRs : ∀ p ∈ R, p.1.length ≤ maxLen ∧ p.2.length ≤ maxLen) (x y : List Int) (hx : x.length ≤ maxLen) (hy : y.length ≤ maxLen) :
    Go.Ab.Loc Pg Gl 0 6 [encY s, .sl 2 (R.map encPI) .no, encI x, encI y] [] (.bool true) [] := by
  refine loc_rd mixedP tok rfl rfl fun S => ?_
  unfold c6
  have h30 := spec30 s hf hl hv 1 8000 (by omega)
  have h13 := spec13 1 R hRl [x, y] (by simp [maxLen])
  have hE := encY.eq_1 s
  rw [hE] at h30 ⊢
  simp [encI]
  refine Rd_call h30 (by simp) ?_
  cases hfew : fewY 8000 s with
  | false =>
    simp
    refine Rd_call loc14 (by simp) ?_
    simp
  | true =>
  unfold fewY at hfew
  simp only [Bool.and_eq_true, decide_eq_true_eq] at hfew
  have hbn : nodesVs s.m ≤ 2 ^ 32 := by have := fewL_sum (by omega) hfew.2.2; omega
  have h31 := spec31 1 s (by omega) (R.map encPI)
  have h32 := spec32 1 s hf hl hv hbn [x, y] (by simp [maxLen]) (by intro l hl; simp at hl; rcases hl with rfl | rfl <;> assumption)
  rw [hE] at h31 h32
  simp
  refine Rd_call h13 (by simp [encI]) ?_
  cases h2 : fewOk R [x, y] with
  | false =>
    simp
    refine Rd_call loc14 (by simp) ?_
    simp
  | true =>
  simp
  refine Rd_call h31 (by simp) ?_
  cases h3 : heavyB s.m.length (R.map encPI).length with
  | true =>
    simp
    refine Rd_call loc14 (by simp) ?_
    simp
  | false =>
  simp
  refine Rd_call h32 (by simp [encI]) ?_
  by_cases h4 : faultR s [x, y] = 0
  case neg =>
    simp [h4]
    refine Rd_call loc14 (by simp) ?_
    simp
  simp [h4]
  refine Rd_call (spec17 _ s.m.length R hRs) (by simp [encI]) ?_
  cases h5 : (decide (R.length ≤ 1000) && pairsOk s.m.length R) with
  | false =>
    simp
    refine Rd_call loc14 (by simp) ?_
    simp
  | true =>
  obtain ⟨hY, hL, hX, hY2⟩ := fault_ok h4
  obtain ⟨k, ps, hps, rfl⟩ := isY_au hY hL
  have hm : (auY k ps).m.length = ps.length := List.length_map _
  rw [hm] at h5 hX hY2
  have h5' := h5
  simp only [Bool.and_eq_true, decide_eq_true_eq] at h5'
  have vx : VS ps.length x := ⟨hX, hx, hps.len⟩
  have vy : VS ps.length y := ⟨hY2, hy, hps.len⟩
  have vR : VP ps.length R := ⟨h5'.2, h5'.1, hRs, hps.len⟩
  have hrl : ∀ p ∈ ps, ∀ r ∈ p.2, r.length ≤ maxLen := fun p hp => fit_rows (hv _ (List.mem_map.2 ⟨p, hp, rfl⟩))
  have h33 := spec33_ok 1 k ps hps hrl hY hv hbn R hRs
  rw [h5, if_pos rfl] at h33
  have h16 := spec16v 1 vR vx vy
  have h34 := spec34 1 k 300 (by omega) ps hps hrl x y vx vy (by have := isSet_len hX hps.len; omega) (by have := isSet_len hY2 hps.len; omega)
  rw [hE] at h33 h34
  rw [hm]
  simp
  refine Rd_call h33 (by simp) ?_
  simp [rRight]
  refine Rd_call h16 (by simp [encI, hm]) ?_
  simp
  cases hr1 : rightB (paOf k ps) (R.map toPS) (R.map toPS) with
  | false =>
    simp
    refine Rd_call loc14 (by simp) ?_
    simp
  | true =>
  by_cases hc : cl (R.map toPS) (toS x) = cl (R.map toPS) (toS y)
  case neg =>
    simp [hc]
    refine Rd_call loc14 (by simp) ?_
    simp
  simp [hc]
  refine Rd_call h34 (by simp [encI]) ?_
  have hs := equalE_sound (lim := 300) hps (rightB_iff.1 hr1) 301 0 ([(x, y)], [keyP x y]) (by intro c hcm; rw [List.mem_singleton.1 hcm]; exact ⟨⟨vx, vy⟩, hc⟩)
  generalize equalE ps k 300 301 0 ([(x, y)], [keyP x y]) = e at hs
  obtain ⟨b, c⟩ := e
  simp only at hs
  cases b with
  | true =>
    simp [rEq]
    refine Rd_call loc14 (by simp) ?_
    simp
  | false =>
    cases c with
    | true => exact absurd (hs rfl) (by simp)
    | false =>
      simp [rEq]
      refine Rd_call loc14 (by simp) ?_
      simp
end Go.Ab.Tab
/- Systems as arguments. -/
namespace Go.Ab
open Go
set_option maxRecDepth 10000
set_option linter.unusedVariables false
set_option linter.unusedSimpArgs false
namespace Tab
theorem u38 : Pg.underlying 38 = some (.slice 40) := by kernel_rfl
theorem u41 : Pg.underlying 41 = some (.slice 125) := by kernel_rfl
theorem s40 : isStruct Pg 40 = true := by kernel_rfl
theorem s125 : isStruct Pg 125 = true := by kernel_rfl
theorem s43 : isStruct Pg 43 = true := by kernel_rfl
theorem f40 : fieldsOf Pg 40 = [(3, 0), (3, 1), (38, 2)] := by kernel_rfl
theorem f125 : fieldsOf Pg 125 = [(3, 0), (41, 1), (23, 2)] := by kernel_rfl
theorem f43 : fieldsOf Pg 43 = [(40, 0), (41, 3)] := by kernel_rfl
theorem z40 : Pg.cellsOf 40 = 3 := by kernel_rfl
theorem z125 : Pg.cellsOf 125 = 3 := by kernel_rfl
theorem z43 : Pg.cellsOf 43 = 4 := by kernel_rfl
theorem z38 : Pg.cellsOf 38 = 1 := by kernel_rfl
theorem z41 : Pg.cellsOf 41 = 1 := by kernel_rfl
theorem g40 : isAggT Pg 40 = true := by kernel_rfl
theorem g125 : isAggT Pg 125 = true := by kernel_rfl
theorem g43 : isAggT Pg 43 = true := by kernel_rfl
theorem g38 : isAggT Pg 38 = false := by kernel_rfl
theorem g41 : isAggT Pg 41 = false := by kernel_rfl

/-- cells of a functor / value, by the fuel -/
theorem ty_slice' {P : Program} {t e : TypeId} {n : Nat} {cs : List AV} (hu : P.underlying t = some (.slice e)) (h : tyOk P (n + 1) t cs) : ∃ xs, cs = [.sl (P.cellsOf e) xs .no] ∧ xs.length ≤ maxLen ∧ ∀ x ∈ xs, ∃ c, x = mkV P e c ∧ tyOk P n e c := by
  simp only [tyOk, hu] at h
  exact h
theorem ty_struct' {P : Program} {t : TypeId} {n : Nat} {cs : List AV} (hs : isStruct P t = true) (h : tyOk P (n + 1) t cs) : cs.length = P.cellsOf t ∧ ∀ f ∈ fieldsOf P t, tyOk P n f.1 ((cs.drop f.2).take (P.cellsOf f.1)) := by
  unfold isStruct at hs
  unfold fieldsOf
  cases hu : P.underlying t with
  | none => rw [hu] at hs; cases hs
  | some d =>
    rw [hu] at hs
    cases d with
    | struct fs =>
      simp only [tyOk, hu] at h
      refine ⟨h.1, fun f hf => ?_⟩
      obtain ⟨g, hg, rfl⟩ := List.mem_map.1 hf
      exact h.2 g hg
    | _ => cases hs
theorem fitFs_of : ∀ {l : List Fu}, (∀ a ∈ l, fitF a) → fitFs l
  | [], _ => by rw [fitFs]; trivial
  | a :: l, h => by rw [fitFs]; exact ⟨h a (by simp), fitFs_of fun b hb => h b (by simp [hb])⟩
theorem three {cs : List AV} (h : cs.length = 3) : ∃ a b c, cs = [a, b, c] := by
  match cs, h with
  | [a, b, c], _ => exact ⟨a, b, c, rfl⟩
theorem ty40 : ∀ (n : Nat) {cs : List AV}, tyOk Pg n 40 cs → ∃ f : Fu, cs = [.int .i64 f.k, .int .i64 f.n, .sl 3 (f.gs.map encF) .no] ∧ fitF f := by
  intro n
  induction n using Nat.strongRecOn with
  | ind n ih =>
    intro cs h
    cases n with
    | zero => cases h
    | succ n =>
      obtain ⟨hl, hf⟩ := ty_struct' s40 h
      rw [f40] at hf
      rw [z40] at hl
      obtain ⟨a, b, c, rfl⟩ := three hl
      have k0 := hf (3, 0) (by simp)
      have k1 := hf (3, 1) (by simp)
      have k2 := hf (38, 2) (by simp)
      rw [z3] at k0 k1
      rw [z38] at k2
      obtain ⟨i, e0, _⟩ := ty_int u3 k0
      obtain ⟨j, e1, _⟩ := ty_int u3 k1
      simp at e0 e1
      subst e0; subst e1
      cases n with
      | zero => cases k2
      | succ n =>
        obtain ⟨xs, e2, h2, h3⟩ := ty_slice' u38 k2
        obtain ⟨gs, hgs, hfit⟩ := map_exists encF fitF xs fun x hx => by
          obtain ⟨c', rfl, hc⟩ := h3 x hx
          obtain ⟨f, rfl, hff⟩ := ih n (by omega) hc
          exact ⟨f, by rw [mkV_agg g40, encF_eta], hff⟩
        subst hgs
        rw [z40] at e2
        simp at e2
        subst e2
        refine ⟨.mk i j gs, rfl, ?_⟩
        rw [fitF]
        exact ⟨by simpa using h2, fitFs_of hfit⟩
theorem ty125 : ∀ (n : Nat) {cs : List AV}, tyOk Pg n 125 cs → ∃ v : Va, cs = [.int .i64 v.n, .sl 3 (v.gs.map encV) .no, .sl 1 (v.ws.map (AV.int .i64)) .no] ∧ fitV v := by
  intro n
  induction n using Nat.strongRecOn with
  | ind n ih =>
    intro cs h
    cases n with
    | zero => cases h
    | succ n =>
      obtain ⟨hl, hf⟩ := ty_struct' s125 h
      rw [f125] at hf
      rw [z125] at hl
      obtain ⟨a, b, c, rfl⟩ := three hl
      have k0 := hf (3, 0) (by simp)
      have k1 := hf (41, 1) (by simp)
      have k2 := hf (23, 2) (by simp)
      rw [z3] at k0
      rw [z41] at k1
      rw [z23] at k2
      obtain ⟨i, e0, _⟩ := ty_int u3 k0
      obtain ⟨ws, e2, hws⟩ := ty23 k2
      simp at e0 e2
      subst e0; subst e2
      cases n with
      | zero => cases k1
      | succ n =>
        obtain ⟨xs, e1, h2, h3⟩ := ty_slice' u41 k1
        obtain ⟨gs, hgs, hfit⟩ := map_exists encV fitV xs fun x hx => by
          obtain ⟨c', rfl, hc⟩ := h3 x hx
          obtain ⟨f, rfl, hff⟩ := ih n (by omega) hc
          exact ⟨f, by rw [mkV_agg g125, encV_eta], hff⟩
        subst hgs
        rw [z125] at e1
        simp at e1
        subst e1
        refine ⟨.mk i gs ws, rfl, ?_⟩
        rw [fitV]
        exact ⟨⟨by simpa using h2, hws⟩, fitVs_of hfit⟩
theorem arg43 {a : AV} (h : Arg Pg 43 a) : ∃ s : Sy, a = encY s ∧ fitF s.f ∧ s.m.length ≤ maxLen ∧ ∀ v ∈ s.m, fitV v := by
  obtain ⟨fuel, cs, h1, h2, rfl⟩ := h
  cases fuel with
  | zero => cases h1
  | succ n =>
    obtain ⟨hl, hf⟩ := ty_struct' s43 h1
    rw [f43] at hf
    rw [z43] at hl
    obtain ⟨a, b, c, d, rfl⟩ : ∃ a b c d, cs = [a, b, c, d] := by
      match cs, hl with
      | [a, b, c, d], _ => exact ⟨a, b, c, d, rfl⟩
    have k0 := hf (40, 0) (by simp)
    have k1 := hf (41, 3) (by simp)
    rw [z40] at k0
    rw [z41] at k1
    obtain ⟨f, e0, hff⟩ := ty40 _ k0
    simp at e0
    obtain ⟨rfl, rfl, rfl⟩ := e0
    cases n with
    | zero => cases k1
    | succ n =>
      obtain ⟨xs, e1, h2', h3⟩ := ty_slice' u41 k1
      obtain ⟨m, hm, hfit⟩ := map_exists encV fitV xs fun x hx => by
        obtain ⟨c', rfl, hc⟩ := h3 x hx
        obtain ⟨v, rfl, hvv⟩ := ty125 _ hc
        exact ⟨v, by rw [mkV_agg g125, encV_eta], hvv⟩
      subst hm
      rw [z125] at e1
      simp at e1
      subst e1
      refine ⟨⟨f, m⟩, by rw [mkV_agg g43]; rfl, hff, by simpa using h2', hfit⟩
theorem law6_arg : ∀ a0 a1 a2 a3, Arg Pg 43 a0 → Arg Pg 22 a1 → Arg Pg 23 a2 → Arg Pg 23 a3 → Go.Ab.Loc Pg Gl 0 6 [a0, a1, a2, a3] [] (.bool true) [] := by
  intro a0 a1 a2 a3 h0 h1 h2 h3
  obtain ⟨s, rfl, hf, hl, hv⟩ := arg43 h0
  obtain ⟨ps, rfl, hpl, hps⟩ := arg22 h1
  obtain ⟨x, rfl, hx⟩ := arg23 h2
  obtain ⟨y, rfl, hy⟩ := arg23 h3
  exact law6 s hf hl hv ps hpl hps x y hx hy
end Tab
end Go.Ab
namespace Go.Proofs.YtpgdlniekkeikaaDoor
open Go.ChangeShapes Go.WideShapes Go.ChangeAt Go.RowKit Go.Ab Go.Ab.Tab
theorem Tryd.own : ownKnob Tryd.prog.godebug = none := by kernel_rfl
theorem Tryd.laidOut : laidOutB Tryd.prog = true := by kernel_rfl
theorem formsN : Tryd.prog.globalNamed "ectype/functor.forms" = some 0 := by kernel_rfl
theorem formsType : (Tryd.prog.globals[0]?).map (·.type) = some 205 := by kernel_rfl
def ints : List Int := [0,0,16,0,0,2,0,2,4,1,0,1,0,1,0,1]
theorem flatOk : flatTys Tryd.prog [205, 204, 3] = true := by kernel_rfl
theorem glob_ok {W : World} (h : laidMet Tryd.prog Rows.uptoSoundRow.laid W) : ∀ g cs, Gl g = some cs → ∀ (j : Nat) (c : AV), cs[j]? = some c → ∃ v, allImm W g j = some v ∧ RelI (allImm W) c v := by
  intro g cs hg j c hc
  unfold Gl at hg
  split at hg
  · rename_i hg0; subst hg0
    injection hg with hg; subst hg
    obtain ⟨ps, ⟨g, t, cs, fuel, p, q, hg, ht, hvar, hd, _, _⟩, _⟩ := h
    obtain rfl := Option.some.inj (formsN.symm.trans hg)
    obtain rfl := Option.some.inj (formsType.symm.trans ht)
    have hf := trod_flat flatOk fuel 5 205 cs.toList (ints.map (Value.int .i64)) _ (by simp) hd rfl
    unfold forms at hc
    rw [List.getElem?_map, Option.map_eq_some_iff] at hc
    obtain ⟨n, hn, rfl⟩ := hc
    have hcell := World.var?_cell hg hvar j
    have hcs : cs[j]? = some (.int .i64 n) := by
      rw [← Array.getElem?_toList, hf, List.getElem?_map]
      have : ints[j]? = some n := hn
      rw [this]; rfl
    rw [hcs] at hcell
    refine ⟨.int .i64 n, ?_, .int _ _⟩
    simp only [allImm]
    have e : W.cell? ⟨0, j, none⟩ = some (.int .i64 n) := by simpa using hcell
    simp [e, Value.oneCell']
  · cases hg
noncomputable def laidWorld (os : Os) : World :=
  let w0 := World.holding Tryd.prog os ⟨#[], #[], []⟩
  { w0 with heap := w0.heap.modify 0 fun
      | .cells _ t frozen => .cells (ints.map (Value.int .i64)).toArray t frozen
      | o => o }
theorem laid_met (os : Os) (args : Array Value) : laidMet Tryd.prog Rows.uptoSoundRow.laid ((laidWorld os).forCall (fun _ _ => 0) ⟨#[], args, []⟩).memory :=
  laidMet_of_run' 8 (by kernel_rfl) (by kernel_rfl)
theorem closedOk : closedTys Tryd.prog [43, 40, 41, 125, 38, 3, 22, 96, 23] = true := by kernel_rfl
theorem below_of {W W' : World} (h : Stands W W') : Below W.heap.size W W' := ⟨h.os, h.tape, h.output, h.size, h.heap⟩
section
variable {H : Type} {enc : TypeId × Value → H} {P : Program} {w : World} {base : Nat} {spare : Nat → Bool} {held : Bool}
theorem trodAll_n {t0 t1 t2 t3 : TypeId} {args : Array Value} {ds : List (DataW H)} {ps : List MemPlace} (h : DataW.TrodAll enc P w base spare held [t0, t1, t2, t3] args.toList ds ps) :
    ∃ v0 v1 v2 v3 d0 d1 d2 d3 p0 p1 p2 p3, args = #[v0, v1, v2, v3] ∧ ds = [d0, d1, d2, d3] ∧ ps = p0 ++ p1 ++ p2 ++ p3 ∧ DataW.Trod enc P w base spare held t0 v0 d0 p0 ∧ DataW.Trod enc P w base spare held t1 v1 d1 p1 ∧ DataW.Trod enc P w base spare held t2 v2 d2 p2 ∧ DataW.Trod enc P w base spare held t3 v3 d3 p3 := by
  obtain ⟨v0, vs0, d0, ds0, p0, q0, hargs, rfl, rfl, h0, r0⟩ := trodAll_cons h
  obtain ⟨v1, vs1, d1, ds1, p1, q1, rfl, rfl, rfl, h1, r1⟩ := trodAll_cons r0
  obtain ⟨v2, vs2, d2, ds2, p2, q2, rfl, rfl, rfl, h2, r2⟩ := trodAll_cons r1
  obtain ⟨v3, vs3, d3, ds3, p3, q3, rfl, rfl, rfl, h3, r3⟩ := trodAll_cons r2
  obtain ⟨rfl, rfl, rfl⟩ := trodAll_nil r3
  exact ⟨v0, v1, v2, v3, d0, d1, d2, d3, p0, p1, p2, p3, by cases args; simp_all, rfl, by simp, h0, h1, h2, h3⟩
theorem trodAll_mkn {t0 t1 t2 t3 : TypeId} {v0 v1 v2 v3 : Value} {d0 d1 d2 d3 : DataW H} {p0 p1 p2 p3 : List MemPlace} (h0 : DataW.Trod enc P w base spare held t0 v0 d0 p0) (h1 : DataW.Trod enc P w base spare held t1 v1 d1 p1) (h2 : DataW.Trod enc P w base spare held t2 v2 d2 p2) (h3 : DataW.Trod enc P w base spare held t3 v3 d3 p3) : DataW.TrodAll enc P w base spare held [t0, t1, t2, t3] [v0, v1, v2, v3] [d0, d1, d2, d3] (p0 ++ (p1 ++ (p2 ++ p3))) :=
  ⟨p0, _, h0, ⟨p1, _, h1, ⟨p2, _, h2, trodAll_mk1 h3, rfl⟩, rfl⟩, rfl⟩
end
set_option maxRecDepth 100000 in
theorem law_lifted (hlaw : ∀ a0 a1 a2 a3, Arg Tryd.prog 43 a0 → Arg Tryd.prog 22 a1 → Arg Tryd.prog 23 a2 → Arg Tryd.prog 23 a3 → Go.Ab.Loc Tryd.prog Gl 0 6 [a0, a1, a2, a3] [] (.bool true) [])
    (os : Os) (started : os.Started) (H : Type) (enc : TypeId × Value → H) :
    ReturnsInHanded {} Tryd.checked os 6 .any (fun w args => (Rows.uptoSoundSpec.pre enc Tryd.prog Tryd.f6 Rows.uptoSoundRow.domain false w args ∧ laidMet Tryd.prog Rows.uptoSoundRow.laid w) ∧ sizedMet enc Tryd.prog Tryd.f6 (OpenSpec.ofChange Rows.uptoSoundSpec) false w args)
      (Rows.uptoSoundSpec.post enc Tryd.prog Tryd.f6 false true false false) := by
  refine returnsInHanded_of_change_and (C := Tryd.checked) (X := fun w _ => laidMet Tryd.prog Rows.uptoSoundRow.laid w) (fun _ _ _ hh h => h.of_heap hh) Tryd.own started (by kernel_rfl) Tryd.func6
    (ChangeSpec.witness_at (enc := enc) (C := Tryd.checked) (os := os) (X := fun w _ => laidMet Tryd.prog Rows.uptoSoundRow.laid w) false (laidWorld os) #[.agg #[.int .i64 0, .int .i64 0, .slice none 0 0, .slice none 0 0], .slice none 0 0, .slice none 0 0, .slice none 0 0] 8 rfl (by kernel_rfl) (by kernel_rfl) (by kernel_rfl) (by kernel_rfl) (by kernel_rfl) (laid_met os _)) ?_
  intro W base args ds gs before hval0 hW hcnd0 _ hL _
  have hval : ∀ (j : Nat) t v, Tryd.f6.params[j]? = some t → args[j]? = some v → Value.okWide Tryd.prog W .any base t v := hval0
  have hW' := hW
  obtain ⟨p, q, hA0, hV, rfl, hfz, hnd⟩ := hW
  have hA : DataW.TrodAll enc Tryd.prog W 0 (fun _ => true) true Tryd.f6.params.toList args.toList ds p := hA0
  rw [Tryd.params6] at hA hval
  obtain ⟨v0, v1, v2, v3, d0, d1, d2, d3, p0, p1, p2, p3, rfl, rfl, rfl, h0, h1, h2, h3⟩ := trodAll_n hA
  obtain ⟨rfl, rfl⟩ := trodVars_none hV
  obtain ⟨a0, t0, r0, n0⟩ := arg_rel closedOk (by simp) (hval 0 43 v0 rfl rfl) h0
  obtain ⟨a1, t1, r1, n1⟩ := arg_rel closedOk (by simp) (hval 1 22 v1 rfl rfl) h1
  obtain ⟨a2, t2, r2, n2⟩ := arg_rel closedOk (by simp) (hval 2 23 v2 rfl rfl) h2
  obtain ⟨a3, t3, r3, n3⟩ := arg_rel closedOk (by simp) (hval 3 23 v3 rfl rfl) h3
  refine (law_calls (hlaw a0 a1 a2 a3 t0 t1 t2 t3) (W := W) (vs := #[v0, v1, v2, v3]) rfl (fun i b v hb hv => ?_) (fun b hb => ?_) (glob_ok hL)).mono fun e W' ⟨he, hs⟩ => ?_
  · match i, hb, hv with
    | 0, hb, hv => simp at hb hv; subst hb; subst hv; exact r0
    | 1, hb, hv => simp at hb hv; subst hb; subst hv; exact r1
    | 2, hb, hv => simp at hb hv; subst hb; subst hv; exact r2
    | 3, hb, hv => simp at hb hv; subst hb; subst hv; exact r3
    | n + 4, hb, hv => simp at hb
  · simp at hb
    rcases hb with rfl | rfl | rfl | rfl <;> assumption
  subst he
  have hB := below_of hs
  simp only [List.append_nil] at hW'
  have hlt : ∀ x ∈ p0 ++ p1 ++ p2 ++ p3, x.block < W.heap.size := fun x hx => by
    have := hW'.lt x (by simpa using hx)
    simpa using this
  refine ⟨_, rfl, _, _, _, [], (p0 ++ (p1 ++ (p2 ++ p3))), [], hW', ?_, ?_, rfl, hB.frame _, fun h => by cases h⟩
  · exact trodAll_mk1 (shut_bool (by kernel_rfl) true)
  · refine trodAll_mkn (Below.trod Tryd.laidOut (by kernel_rfl) (of_decide_eq_true (by kernel_rfl)) h0 hB fun x hx => hlt x (by simp [hx])) (Below.trod Tryd.laidOut (by kernel_rfl) (of_decide_eq_true (by kernel_rfl)) h1 hB fun x hx => hlt x (by simp [hx])) (Below.trod Tryd.laidOut (by kernel_rfl) (of_decide_eq_true (by kernel_rfl)) h2 hB fun x hx => hlt x (by simp [hx])) (Below.trod Tryd.laidOut (by kernel_rfl) (of_decide_eq_true (by kernel_rfl)) h3 hB fun x hx => hlt x (by simp [hx]))
theorem row_holds (hlaw : ∀ a0 a1 a2 a3, Arg Tryd.prog 43 a0 → Arg Tryd.prog 22 a1 → Arg Tryd.prog 23 a2 → Arg Tryd.prog 23 a3 → Go.Ab.Loc Tryd.prog Gl 0 6 [a0, a1, a2, a3] [] (.bool true) []) : Rows.UptoSoundSaid :=
  OpenClaim.holds_of_wide 6 Tryd.f6 rfl rfl rfl rfl rfl rfl rfl ⟨rfl, rfl, rfl, rfl, rfl⟩ rfl rfl rfl rfl rfl (by kernel_rfl) Tryd.func6 (by kernel_rfl)
    (of_decide_eq_true (by kernel_rfl)) (by unfold Func.isWrapper; first | (rw [if_pos (by decide +kernel)]; kernel_rfl) | (rw [if_neg (by decide +kernel)]; exact ⟨rfl, rfl⟩))
    (fun os started H enc _ => law_lifted hlaw os started H enc)
theorem card_holds (hlaw : ∀ a0 a1 a2 a3, Arg Tryd.prog 43 a0 → Arg Tryd.prog 22 a1 → Arg Tryd.prog 23 a2 → Arg Tryd.prog 23 a3 → Go.Ab.Loc Tryd.prog Gl 0 6 [a0, a1, a2, a3] [] (.bool true) []) : Rows.UptoSoundCardSaid :=
  Claim7.holds_tied_plain_at .later [] [.data] true (true, "083f600fa324912a3f64b4a9d9348dcca761660d41196ed62dae77b3effad808") false
    (row_holds hlaw) (fun _ h => by cases h) (by kernel_rfl) (fun _ h => by cases h) uptoSound_row_tie rfl ⟨rfl, rfl⟩ (by kernel_rfl) rfl
    (fun f fn hf hfn => by
      obtain rfl : f = 6 := Option.some.inj ((show Tryd.prog.funcNamed "ectype/ectypelaw16.UptoSound" = some 6 by kernel_rfl).symm.trans hf) |>.symm
      obtain rfl : fn = Tryd.f6 := (Option.some.inj (Tryd.func6.symm.trans hfn)).symm
      exact ⟨by kernel_rfl, fun j t ht => by
        rw [Tryd.params6] at ht
        have h3 : t ∈ [22, 23, 43] := by
          match j, ht with
          | 0, ht => simp at ht; simp [← ht]
          | 1, ht => simp at ht; simp [← ht]
          | 2, ht => simp at ht; simp [← ht]
          | 3, ht => simp at ht; simp [← ht]
          | n + 4, ht => simp at ht
        have : ([22, 23, 43].all fun t => Tryd.prog.wantsStandIn t == false) = true := by kernel_rfl
        have := List.all_eq_true.1 this t h3
        have e : Tryd.prog.wantsStandIn t = false := by simpa using this
        exact e⟩)
    (by kernel_rfl)
theorem sound : Rows.UptoSoundCardSaid := card_holds law6_arg
end Go.Proofs.YtpgdlniekkeikaaDoor
