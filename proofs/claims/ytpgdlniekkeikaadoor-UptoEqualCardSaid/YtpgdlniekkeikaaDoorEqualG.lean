/- Automata as data. -/
import Derived.Test.YtpgdlniekkeikaaDoorEqualF
import Derived.Test.YtpgdlniekkeikaaDoorEqualD
namespace Go.Ab.Tab
open Go Go.Ab
set_option maxRecDepth 10000
set_option linter.unusedVariables false
set_option linter.unusedSimpArgs false

def mkSt (x : Nat) : Va := .mk x [] []
def mkRow (r : List Nat) : Va := .mk 0 (r.map mkSt) []
def mkOut (b : Bool) : Va := .mk (if b then 1 else 0) [] []
def mkAu (p : Bool × List (List Nat)) : Va := .mk 0 [mkOut p.1, .mk 0 (p.2.map mkRow) []] []

theorem valP_un {n : Nat} {k m : Int} {fg : List Fu} {a : Int} {gs : List Va} {ws : List Int} (h : valP n (.mk a gs ws) (.mk k m fg) = true) :
    (partsF (.mk k m fg) (.mk a gs ws)).length = gs.length ∧ (0 ≤ a ∧ a ≤ if k = 0 then (n : Int) - 1 else if k = 1 then m - 1 else if k = 3 then 1 else 0) ∧ (wtd k = false → ws = []) ∧ valPs n gs (partsF (.mk k m fg) (.mk a gs ws)) = true := by
  rw [valP_mk, locP_k, partsOk_k, numOk_k, weighedR_k] at h
  simp only [Bool.and_eq_true, decide_eq_true_eq] at h
  refine ⟨h.1.1.1.2, h.1.1.2.1, fun hw => ?_, h.2⟩
  have := h.1.1.2.2
  rw [hw] at this
  exact List.length_eq_zero_iff.1 (by simpa using this)
theorem all_ex {α β : Type} {P : β → Prop} {g : β → α} : ∀ {l : List α}, (∀ a ∈ l, ∃ b, a = g b ∧ P b) → ∃ m : List β, l = m.map g ∧ ∀ b ∈ m, P b
  | [], _ => ⟨[], rfl, by simp⟩
  | a :: l, h => by
    obtain ⟨b, rfl, hb⟩ := h a (by simp)
    obtain ⟨m, rfl, hm⟩ := all_ex (l := l) fun x hx => h x (by simp [hx])
    exact ⟨b :: m, rfl, by simpa using ⟨hb, hm⟩⟩
theorem valP_st {n : Nat} {v : Va} (h : valP n v (.mk 0 0 []) = true) : ∃ x : Nat, v = mkSt x ∧ x < n := by
  cases v with
  | mk a gs ws =>
  obtain ⟨h1, h2, h3, _⟩ := valP_un h
  have e : partsF (.mk 0 0 []) (.mk a gs ws) = [] := rfl
  rw [e] at h1
  rw [if_pos rfl] at h2
  refine ⟨a.toNat, ?_, by omega⟩
  rw [h3 rfl, List.length_eq_zero_iff.1 h1.symm, mkSt, Int.toNat_of_nonneg h2.1]
theorem valP_row {n : Nat} {v : Va} (h : valP n v (.mk 5 0 [.mk 0 0 []]) = true) : ∃ r : List Nat, v = mkRow r ∧ ∀ x ∈ r, x < n := by
  cases v with
  | mk a gs ws =>
  obtain ⟨h1, h2, h3, h4⟩ := valP_un h
  have e : partsF (.mk 5 0 [.mk 0 0 []]) (.mk a gs ws) = List.replicate gs.length (.mk 0 0 []) := rfl
  rw [e, valPs_rep, List.all_eq_true] at h4
  have h2 : 0 ≤ a ∧ a ≤ 0 := h2
  obtain ⟨r, hr, hx⟩ := all_ex fun b hb => valP_st (h4 b hb)
  refine ⟨r, ?_, hx⟩
  rw [h3 rfl, hr, show a = 0 by omega]; rfl
theorem valP_au {n k : Nat} (hk : 1 ≤ k) {v : Va} (h : valP n v (typ k) = true) : ∃ p : Bool × List (List Nat), v = mkAu p ∧ p.2.length = k ∧ ∀ r ∈ p.2, ∀ x ∈ r, x < n := by
  cases v with
  | mk a gs ws =>
  unfold typ at h
  obtain ⟨h1, h2, h3, h4⟩ := valP_un h
  have e : partsF (.mk 2 0 [.mk 1 2 [], .mk 4 k [.mk 5 0 [.mk 0 0 []]]]) (.mk a gs ws) = [.mk 1 2 [], .mk 4 k [.mk 5 0 [.mk 0 0 []]]] := rfl
  rw [e] at h1 h4
  obtain ⟨o, w, rfl⟩ : ∃ o w, gs = [o, w] := by
    match gs, h1 with
    | [o, w], _ => exact ⟨o, w, rfl⟩
  rw [valPs, valPs, valPs] at h4
  simp only [Bool.and_eq_true, and_true] at h4
  have h2 : 0 ≤ a ∧ a ≤ 0 := h2
  obtain ⟨ho, hw⟩ := h4
  cases o with
  | mk b gs1 ws1 =>
  cases w with
  | mk c gs2 ws2 =>
  obtain ⟨o1, o2, o3, _⟩ := valP_un ho
  have e1 : partsF (.mk 1 2 []) (.mk b gs1 ws1) = [] := rfl
  rw [e1] at o1
  have o2 : 0 ≤ b ∧ b ≤ 1 := o2
  obtain ⟨w1, w2, w3, w4⟩ := valP_un hw
  have e2 : partsF (.mk 4 k [.mk 5 0 [.mk 0 0 []]]) (.mk c gs2 ws2) = List.replicate k (.mk 5 0 [.mk 0 0 []]) := by rw [partsF_k]; simp
  rw [e2] at w1 w4
  rw [List.length_replicate] at w1
  have w2 : 0 ≤ c ∧ c ≤ 0 := w2
  rw [w1, valPs_rep, List.all_eq_true] at w4
  obtain ⟨rs, hr, hx⟩ := all_ex fun b hb => valP_row (w4 b hb)
  refine ⟨(decide (b = 1), rs), ?_, by rw [hr, List.length_map] at w1; exact w1.symm, hx⟩
  rw [h3 rfl, o3 rfl, w3 rfl, List.length_eq_zero_iff.1 o1.symm, hr, show a = 0 by omega, show c = 0 by omega]
  unfold mkAu mkOut
  by_cases hb : b = 1
  · simp [hb]
  · simp [hb]; omega

/-- an automaton with k letters -/
structure AuOk (k : Nat) (ps : List (Bool × List (List Nat))) : Prop where
  kpos : 1 ≤ k
  kle : k ≤ 4
  len : ps.length ≤ 100
  row : ∀ p ∈ ps, p.2.length = k ∧ ∀ r ∈ p.2, ∀ x ∈ r, x < ps.length
def auY (k : Nat) (ps : List (Bool × List (List Nat))) : Sy := ⟨typ k, ps.map mkAu⟩
theorem isY_au {s : Sy} (h : isY s = true) (hl : lettersF s.f ≠ 0) : ∃ k ps, AuOk k ps ∧ s = auY k ps := by
  obtain ⟨k, h1, h4, hk⟩ := letters_pos hl
  unfold isY at h
  simp only [Bool.and_eq_true, decide_eq_true_eq, List.all_eq_true] at h
  obtain ⟨_, g1, g2, _⟩ := h
  obtain ⟨ps, hp, hx⟩ := all_ex (P := fun p : Bool × List (List Nat) => p.2.length = k ∧ ∀ r ∈ p.2, ∀ x ∈ r, x < s.m.length) (g := mkAu) fun v hv => by
    have := g2 v hv
    unfold valV at this
    simp only [Bool.and_eq_true] at this
    have hv : valP s.m.length v (typ k) = true := by rw [valP_eq, ← hk, this.2.1, this.2.2]; rfl
    exact valP_au h1 hv
  have hlen : s.m.length = ps.length := by rw [hp, List.length_map]
  refine ⟨k, ps, ⟨h1, h4, by omega, fun p hq => ⟨(hx p hq).1, fun r hr x hx' => by have := (hx p hq).2 r hr x hx'; omega⟩⟩, ?_⟩
  cases s with
  | mk f m =>
    simp only at hk hp
    rw [auY, hk, hp]
end Go.Ab.Tab
/- Automata: the reference's Type, Letters, Final, list, Next. -/
namespace Go.Ab.Tab
open Go Go.Ab
set_option maxRecDepth 10000
set_option linter.unusedVariables false
set_option linter.unusedSimpArgs false

theorem encV_au (p : Bool × List (List Nat)) : encV (mkAu p) = .agg [.int .i64 0, .sl 3 [.agg [.int .i64 (if p.1 then 1 else 0), .sl 3 [] .no, .sl 1 [] .no], .agg [.int .i64 0, .sl 3 (p.2.map fun r => encV (mkRow r)) .no, .sl 1 [] .no]] .no, .sl 1 [] .no] := by
  unfold mkAu mkOut
  rw [encV_mk]
  simp [encV_mk, Function.comp_def]
theorem encV_row (r : List Nat) : encV (mkRow r) = .agg [.int .i64 0, .sl 3 (r.map fun x => encV (mkSt x)) .no, .sl 1 [] .no] := by
  unfold mkRow
  rw [encV_mk]
  simp [Function.comp_def]
theorem encV_st (x : Nat) : encV (mkSt x) = .agg [.int .i64 x, .sl 3 [] .no, .sl 1 [] .no] := by
  unfold mkSt
  rw [encV_mk]; simp
theorem encY_au (k : Nat) (ps : List (Bool × List (List Nat))) : encY (auY k ps) = .agg [.int .i64 2, .int .i64 0, .sl 3 ([.mk 1 2 [], .mk 4 k [.mk 5 0 [.mk 0 0 []]]].map encF) .no, .sl 3 (ps.map fun p => encV (mkAu p)) .no] := by
  unfold encY auY typ
  simp [Fu.k, Fu.n, Fu.gs, Function.comp_def]

/-! Final -/
def finL (ps : List (Bool × List (List Nat))) (l : List Int) : Bool := l.any fun x => ((ps[x.toNat]?).map (·.1)).getD false
theorem l76 (D : Nat) (ps : List (Bool × List (List Nat))) (l : List Int) (hl : Below ps.length l) (hlen : l.length ≤ maxLen) (f1 f2 f3 : AV) (S) : ∀ (j i : Nat) (τ ω) (r : AV), i + j = l.length →
    τ 2 = .ptr D 2 1 0 → τ 7 = encI l → τ 8 = .int .i64 l.length → τ 9 = .int .i64 i → ω 2 = (1, .cells [f1, f2, f3, .sl 3 (ps.map fun p => encV (mkAu p)) .no]) → r = .bool (finL ps (l.drop i)) →
    Rd (Loc Pg Gl) .im (RetQ [.tmp 4] r S) [.lp c76_l0, .blk 0, .c c76_k0] (stF 24 D τ ω S) := by
  intro j
  induction j with
  | zero =>
    intro i τ ω r hi h2 h7 h8 h9 w2 hr
    refine Rd_lpE c76_l0.eq_1 ?_
    obtain rfl : i = l.length := by omega
    rw [List.drop_length] at hr
    simp [h2, h7, h8, h9, w2, c76_k0, encI]
    simp [hr, finL]
  | succ j ih =>
    intro i τ ω r hi h2 h7 h8 h9 w2 hr
    refine Rd_lpE c76_l0.eq_1 ?_
    have hlt : i < l.length := by omega
    have hwr := wrap_next hlt hlen
    obtain ⟨x, hx⟩ : ∃ x, l[i] = x := ⟨_, rfl⟩
    have hxb := hl x (by rw [← hx]; exact List.getElem_mem hlt)
    obtain ⟨y, rfl⟩ : ∃ y : Nat, x = y := ⟨x.toNat, by omega⟩
    have hy : y < ps.length := by omega
    have hd : l.drop i = (y : Int) :: l.drop (i + 1) := by rw [List.drop_eq_getElem_cons hlt, hx]
    obtain ⟨p, hp⟩ : ∃ p, ps[y] = p := ⟨_, rfl⟩
    have hr2 : r = .bool (p.1 || finL ps (l.drop (i + 1))) := by
      rw [hr, hd, finL, List.any_cons, Int.toNat_natCast, List.getElem?_eq_getElem hy, hp]; rfl
    cases hb : p.1 with
    | true =>
      rw [hb, Bool.true_or] at hr2
      simp [h2, h7, h8, h9, w2, encI, hlt, hx, hy, hp, encV_au, hb, hr2]
    | false =>
      rw [hb, Bool.false_or] at hr2
      simp [h2, h7, h8, h9, w2, encI, hlt, hx, hy, hp, encV_au, hb, hwr]
      refine ih (i + 1) _ _ r (by omega) ?_ ?_ ?_ ?_ ?_ hr2
      all_goals simp [h2, h7, h8, h9, w2, encI, encV_au]
theorem spec76 (D k : Nat) (ps : List (Bool × List (List Nat))) (l : List Int) (hl : Below ps.length l) (hlen : l.length ≤ maxLen) : Go.Ab.Loc Pg Gl D 76 [encY (auY k ps), encI l] [] (.bool (finL ps l)) [] := by
  refine loc_rd mixedP tok rfl rfl fun S => ?_
  unfold c76
  generalize hr : AV.bool (finL ps l) = r
  rw [encY_au]
  simp [encI]
  refine l76 D ps l hl hlen _ _ _ S l.length 0 _ _ r (by omega) ?_ ?_ ?_ ?_ (by simp; exact ⟨rfl, rfl, rfl⟩) hr.symm
  all_goals simp [encI]

/-! list -/
theorem l91 (D : Nat) (n : Nat) (hn : n ≤ 128) (u : BS) (d' o g : Nat) (hd : ¬ d' = D) (S) (hS : S d' o = (g, .cells (vec n u))) : ∀ (m i : Nat) (acc : List Nat) (τ ω) (r : AV), i + m = n →
    τ 3 = .sl 1 (acc.map encN) .tip → τ 6 = .own d' o g 0 n 1 false → τ 7 = .int .i64 n → τ 8 = .int .i64 i → acc.length ≤ i →
    r = .sl 1 ((acc ++ (List.range' i m).filter u.has).map encN) .no →
    Rd (Loc Pg Gl) .im (RetM [.tmp 2] r D S []) [.lp c91_l0, .blk 0, .c c91_k0] (stF 20 D τ ω S) := by
  intro m
  induction m with
  | zero =>
    intro i acc τ ω r hi h3 h6 h7 h8 hl hr
    refine Rd_lpE c91_l0.eq_1 ?_
    obtain rfl : i = n := by omega
    simp [h3, h6, h7, h8, c91_k0, hr]
  | succ m ih =>
    intro i acc τ ω r hi h3 h6 h7 h8 hl hr
    refine Rd_lpE c91_l0.eq_1 ?_
    have hlt : i < n := by omega
    have hwr : IntKind.i64.wrap ((i : Int) + 1) = ((i + 1 : Nat) : Int) := by rw [← wrap_i64_nat (n := i + 1) (by omega)]; rfl
    have hg : (vec n u)[i]? = some (.bool (u.has i)) := by simp [vec, hlt]
    rw [List.range'_succ, List.filter_cons] at hr
    cases hs : u.has i with
    | false =>
      rw [hs] at hr
      simp [h3, h6, h7, h8, hd, hS, hlt, hg, hs, hwr]
      refine ih (i + 1) acc _ ω r (by omega) ?_ ?_ ?_ ?_ (by omega) hr <;> simp [h3, h6, h7, h8]
    | true =>
      rw [hs] at hr
      have hle : (acc.length + 1) * 8 ≤ 1099511627776 := by omega
      simp [h3, h6, h7, h8, hd, hS, hlt, hg, hs, hwr, hle]
      refine ih (i + 1) (acc ++ [i]) _ ω r (by omega) ?_ ?_ ?_ ?_ (by simp; omega) ?_ <;> simp [h3, h6, h7, h8, hr, encN]
theorem spec91 (D : Nat) (n : Nat) (hn : n ≤ 128) (u : BS) (d' o g : Nat) (hd : d' < D) : Go.Ab.Loc Pg Gl D 91 [.own d' o g 0 n 1 false] [(d', o, (g, .cells (vec n u)))] (encI (lN n u)) [] := by
  have hDd : ¬ d' = D := by omega
  refine loc_rdM mixedP tok rfl rfl fun S hS => ?_
  have hS := (hS _ (List.mem_singleton.2 rfl)).2
  simp only at hS
  unfold c91
  rw [← encN_lN]
  generalize hr : AV.sl 1 ((listN n u).map encN) .no = r
  simp
  refine l91 D n hn u d' o g hDd S hS n 0 [] _ _ r (by simp) ?_ ?_ ?_ ?_ (by simp) (by rw [← hr, listN, List.range_eq_range', List.nil_append])
  all_goals simp

/-! Next -/
def toN (r : List Nat) : BS := r.foldr (fun x s => (BS.single x).or s) (0#64, 0#64)
def rowN (ps : List (Bool × List (List Nat))) (x a : Nat) : List Nat := (((ps[x]?).map (·.2)).getD [])[a]?.getD []
def nxtL (ps : List (Bool × List (List Nat))) (a : Nat) : List Int → BS
  | [] => (0#64, 0#64)
  | x :: l => (toN (rowN ps x.toNat a)).or (nxtL ps a l)

theorem l49_0 (D : Nat) (n : Nat) (hn : n ≤ 128) (row : List Nat) (hrow : ∀ x ∈ row, x < n) (hlen : row.length ≤ maxLen) (t : BS) (keep : Nat → Prop) (hkeep : ∀ x, keep x → x < 36 ∧ x ≠ 11 ∧ x ≠ 9) (Q : St → Prop) (k : List AI) (S) (τ0 : Nat → AV) (ω3 : Ent) : ∀ (m i : Nat) (u : BS) (τ ω), i + m = row.length →
    τ 7 = .own D 15 1 0 n 1 false → τ 34 = .sl 3 (row.map fun x => encV (mkSt x)) .no → τ 35 = .int .i64 row.length → τ 36 = .int .i64 i → ω 15 = (1, .cells (vec n u)) → ω 3 = ω3 → (∀ x, keep x → τ x = τ0 x) → t = u.or (toN (row.drop i)) →
    (∀ τ' ω', ω' 15 = (1, .cells (vec n t)) → ω' 3 = ω3 → (∀ x, keep x → τ' x = τ0 x) → Rd (Loc Pg Gl) .im Q k (stF 48 D τ' ω' S)) →
    Rd (Loc Pg Gl) .im Q (.lp c49_l0 :: .blk 2 :: k) (stF 48 D τ ω S) := by
  intro m
  induction m with
  | zero =>
    intro i u τ ω hi h7 h34 h35 h36 w15 w3 hk ht hend
    refine Rd_lpE c49_l0.eq_1 ?_
    obtain rfl : i = row.length := by omega
    rw [List.drop_length, toN, List.foldr_nil, or_zero] at ht
    simp [h7, h34, h35, h36, w15]
    refine hend _ _ (by rw [ht]; exact w15) w3 fun x hx => ?_
    have := hkeep x hx
    rw [← hk x hx]
    simp [upd]; omega
  | succ m ih =>
    intro i u τ ω hi h7 h34 h35 h36 w15 w3 hk ht hend
    refine Rd_lpE c49_l0.eq_1 ?_
    have hlt : i < row.length := by omega
    have hwr := wrap_next hlt hlen
    obtain ⟨y, hx⟩ : ∃ y, row[i] = y := ⟨_, rfl⟩
    have hy : y < n := hrow y (by rw [← hx]; exact List.getElem_mem hlt)
    have hd : row.drop i = y :: row.drop (i + 1) := by rw [List.drop_eq_getElem_cons hlt, hx]
    have hvl : (vec n u).length = n := by simp [vec]
    have e : toN (y :: row.drop (i + 1)) = (BS.single y).or (toN (row.drop (i + 1))) := rfl
    rw [hd, e, ← or_assoc] at ht
    have hy1 : y + 1 ≤ n := hy
    simp [h7, h34, h35, h36, w15, hlt, hx, hy, hy1, hvl, hwr, vec_set hn, encV_st]
    refine ih (i + 1) (u.or (BS.single y)) _ _ (by omega) ?_ ?_ ?_ ?_ ?_ ?_ (fun x hx => ?_) ht hend
    case refine_7 =>
      obtain ⟨k1, k2, k3⟩ := hkeep x hx
      rw [← hk x hx]
      simp [upd, show ¬ x = 36 by omega, show ¬ x = 37 by omega, show ¬ x = 38 by omega, show ¬ x = 39 by omega, show ¬ x = 40 by omega, show ¬ x = 41 by omega, show ¬ x = 42 by omega, show ¬ x = 43 by omega, show ¬ x = 44 by omega, k2]
    all_goals simp [h7, h34, h35, h36, w3, encV_st]
end Go.Ab.Tab
/- Automata: the reference's Next, Type, Letters. -/
namespace Go.Ab.Tab
open Go Go.Ab
set_option maxRecDepth 10000
set_option linter.unusedVariables false
set_option linter.unusedSimpArgs false

theorem rowN_of {ps : List (Bool × List (List Nat))} {x a : Nat} (hx : x < ps.length) (ha : a < (ps[x]).2.length) : rowN ps x a = (ps[x]).2[a] := by
  unfold rowN
  rw [List.getElem?_eq_getElem hx, Option.map_some, Option.getD_some, List.getElem?_eq_getElem ha, Option.getD_some]

theorem l49_1 (D k a : Nat) (ps : List (Bool × List (List Nat))) (hps : AuOk k ps) (ha : a < k) (hrl : ∀ p ∈ ps, ∀ r ∈ p.2, r.length ≤ maxLen) (f1 f2 f3 : AV) (l : List Int) (hl : Below ps.length l) (hlen : l.length ≤ maxLen) (t : BS) (S) : ∀ (m i : Nat) (u : BS) (τ ω) (r : AV), i + m = l.length →
    τ 2 = .int .i64 a → τ 3 = .ptr D 3 1 0 → τ 7 = .own D 15 1 0 ps.length 1 false → τ 16 = encI l → τ 17 = .int .i64 l.length → τ 18 = .int .i64 i → ω 15 = (1, .cells (vec ps.length u)) →
    ω 3 = (1, .cells [f1, f2, f3, .sl 3 (ps.map fun p => encV (mkAu p)) .no]) → t = u.or (nxtL ps a (l.drop i)) → r = encI (lN ps.length t) →
    Rd (Loc Pg Gl) .im (RetQ [.tmp 6] r S) [.lp c49_l1, .blk 0, .c c49_k1] (stF 48 D τ ω S) := by
  have hn : ps.length ≤ 128 := by have := hps.len; omega
  intro m
  induction m with
  | zero =>
    intro i u τ ω r hi h2 h3 h7 h16 h17 h18 w15 w3 ht hr
    refine Rd_lpE c49_l1.eq_1 ?_
    obtain rfl : i = l.length := by omega
    rw [List.drop_length, nxtL, or_zero] at ht
    subst ht
    simp [h2, h3, h7, h16, h17, h18, w15, w3, c49_k1, encI]
    refine Rd_callM (spec91 (D + 1) ps.length hn t D 15 1 (by omega)) (by simp [h7]) ?_ (by simp) ?_
    · intro m hm
      rw [List.mem_singleton] at hm; subst hm
      simp [w15]
    simp [hr, encI]
  | succ m ih =>
    intro i u τ ω r hi h2 h3 h7 h16 h17 h18 w15 w3 ht hr
    refine Rd_lpE c49_l1.eq_1 ?_
    have hlt : i < l.length := by omega
    have hwr := wrap_next hlt hlen
    obtain ⟨x, hx⟩ : ∃ x, l[i] = x := ⟨_, rfl⟩
    have hxb := hl x (by rw [← hx]; exact List.getElem_mem hlt)
    obtain ⟨y, rfl⟩ : ∃ y : Nat, x = y := ⟨x.toNat, by omega⟩
    have hy : y < ps.length := by omega
    have hd : l.drop i = (y : Int) :: l.drop (i + 1) := by rw [List.drop_eq_getElem_cons hlt, hx]
    obtain ⟨hk1, hk2⟩ := hps.row ps[y] (List.getElem_mem hy)
    have hay : a < (ps[y]).2.length := by omega
    have hrow := rowN_of hy hay
    rw [hd, nxtL, Int.toNat_natCast, ← or_assoc, hrow] at ht
    have hmem := List.getElem_mem hay
    have hrb := hk2 _ hmem
    have hrl2 := hrl _ (List.getElem_mem hy) _ hmem
    obtain ⟨p, hp⟩ : ∃ p, ps[y] = p := ⟨_, rfl⟩
    simp only [hp] at ht hrb hrl2 hay
    obtain ⟨row, hrw⟩ : ∃ row, p.2[a] = row := ⟨_, rfl⟩
    rw [hrw] at ht hrb hrl2
    simp [h2, h3, h7, h16, h17, h18, w15, w3, encI, hlt, hx, hy, hp, encV_au, hay, hrw, encV_row]
    refine l49_0 D ps.length hn row hrb hrl2 (u.or (toN row)) (fun x => x = 2 ∨ x = 3 ∨ x = 7 ∨ x = 16 ∨ x = 17 ∨ x = 18) (fun x hx => by omega) _ _ S τ (ω 3) row.length 0 u _ _ (by omega) ?_ ?_ ?_ ?_ ?_ ?_ ?_ (by simp) ?_
    case refine_8 =>
      intro τ' ω' v15 v3 hk
      have g2 := hk 2 (by simp); have g3 := hk 3 (by simp); have g7 := hk 7 (by simp); have g16 := hk 16 (by simp); have g17 := hk 17 (by simp); have g18 := hk 18 (by simp)
      rw [h2] at g2; rw [h3] at g3; rw [h7] at g7; rw [h16] at g16; rw [h17] at g17; rw [h18] at g18
      rw [w3] at v3
      simp [c49_k0, g18, hwr]
      refine ih (i + 1) (u.or (toN row)) _ _ r (by omega) ?_ ?_ ?_ ?_ ?_ ?_ v15 v3 ht hr
      all_goals simp [g2, g3, g7, g16, g17]
    case refine_7 =>
      intro x hx
      rcases hx with rfl | rfl | rfl | rfl | rfl | rfl <;> simp
    all_goals simp [h7, w15, encV_row]

theorem spec49 (D k a : Nat) (ps : List (Bool × List (List Nat))) (hps : AuOk k ps) (ha : a < k) (hrl : ∀ p ∈ ps, ∀ r ∈ p.2, r.length ≤ maxLen) (l : List Int) (hl : Below ps.length l) (hlen : l.length ≤ maxLen) : Go.Ab.Loc Pg Gl D 49 [encY (auY k ps), encI l, .int .i64 a] [] (encI (lN ps.length (nxtL ps a l))) [] := by
  have hn := hps.len
  refine loc_rd mixedP tok rfl rfl fun S => ?_
  unfold c49
  generalize hr : encI (lN ps.length (nxtL ps a l)) = r
  rw [encY_au]
  have hn2 : (ps.length : Int) ≤ 1099511627776 := by omega
  simp [encI, vec_zero, hn2]
  refine l49_1 D k a ps hps ha hrl _ _ _ l hl hlen (nxtL ps a l) S l.length 0 (0#64, 0#64) _ _ r (by omega) ?_ ?_ ?_ ?_ ?_ ?_ ?_ (by simp; exact ⟨rfl, rfl, rfl⟩) (by rw [List.drop_zero]; simp [BS.or]) hr.symm
  all_goals simp [encI, vec_var1]

/-! Type, Letters -/
theorem spec90 (D k : Nat) : Go.Ab.Loc Pg Gl D 90 [.int .i64 k] [] (encF (typ k)) [] := by
  refine loc_rd mixedP tok rfl rfl fun S => ?_
  unfold c90
  generalize hr : encF (typ k) = r
  simp
  refine Rd_call (spec74 _ 1 2 []) (by simp) ?_
  simp
  refine Rd_call (spec74 _ 0 0 []) (by simp) ?_
  simp [encF_mk]
  refine Rd_call (spec74 _ 5 0 [.mk 0 0 []]) (by simp [encF_mk]) ?_
  simp [encF_mk]
  refine Rd_call (spec74 _ 4 k [.mk 5 0 [.mk 0 0 []]]) (by simp [encF_mk]) ?_
  simp [encF_mk]
  refine Rd_call (spec74 _ 2 0 [.mk 1 2 [], .mk 4 k [.mk 5 0 [.mk 0 0 []]]]) (by simp [encF_mk]) ?_
  simp [encF_mk]
  rw [← hr, typ]
  simp [encF_mk]

def lf (f : Fu) : Nat → Nat → Nat
  | 0, _ => 0
  | j + 1, i => if eqF f (typ i) then i else lf f j (i + 1)
theorem lf_eq (f : Fu) : lf f 4 1 = lettersF f := rfl
theorem l48 (D : Nat) (f : Fu) (hf : fitF f) (m : AV) (S) : ∀ (j i : Nat) (τ ω) (r : AV), i + j = 5 →
    τ 1 = .ptr D 1 1 0 → τ 3 = .int .i64 i → ω 1 = (1, .cells [.int .i64 f.k, .int .i64 f.n, .sl 3 (f.gs.map encF) .no, m]) → r = .int .i64 (lf f j i) →
    Rd (Loc Pg Gl) .im (RetQ [.tmp 2] r S) [.lp c48_l0, .blk 0, .c c48_k0] (stF 14 D τ ω S) := by
  intro j
  induction j with
  | zero =>
    intro i τ ω r hi h1 h3 w1 hr
    refine Rd_lpE c48_l0.eq_1 ?_
    obtain rfl : i = 5 := by omega
    simp [h1, h3, w1, c48_k0]
    simp [hr, lf]
  | succ j ih =>
    intro i τ ω r hi h1 h3 w1 hr
    refine Rd_lpE c48_l0.eq_1 ?_
    have hle : ¬ (4 : Int) < i := by omega
    have hle2 : (i : Int) ≤ 4 := by omega
    have hwr : IntKind.i64.wrap ((i : Int) + 1) = ((i + 1 : Nat) : Int) := by rw [← wrap_i64_nat (n := i + 1) (by omega)]; rfl
    rw [lf] at hr
    simp [h1, h3, w1, hle, hle2]
    refine Rd_drCall (spec90 _ i) (by simp [h3]) ?_
    simp [encF_eta (typ i)]
    refine Rd_drCall (spec71 f hf (typ i) _) (by simp [encF_eta f, encF_eta (typ i)]) ?_
    cases he : eqF f (typ i) with
    | true =>
      rw [he, if_pos rfl] at hr
      simp [h3, hr]
    | false =>
      rw [he, if_neg (by simp)] at hr
      simp [h3, hwr]
      refine ih (i + 1) _ _ r (by omega) ?_ ?_ ?_ hr
      all_goals simp [h1, w1]
theorem spec48 (D : Nat) (s : Sy) (hf : fitF s.f) : Go.Ab.Loc Pg Gl D 48 [encY s] [] (.int .i64 (lettersF s.f)) [] := by
  refine loc_rd mixedP tok rfl rfl fun S => ?_
  unfold c48
  generalize hr : AV.int .i64 (lettersF s.f) = r
  unfold encY
  simp
  refine l48 D s.f hf (.sl 3 (s.m.map encV) .no) S 4 1 _ _ r (by omega) ?_ ?_ ?_ (by rw [← hr, lf_eq])
  all_goals simp
end Go.Ab.Tab
/- Automata: heavy, fault, pair. -/
namespace Go.Ab.Tab
open Go Go.Ab
set_option maxRecDepth 10000
set_option linter.unusedVariables false
set_option linter.unusedSimpArgs false

/-! heavy -/
def heavyB (m r : Nat) : Bool := decide (r ≤ 1000) && decide (100000 < r * r * (m + 1))
theorem spec31 (D : Nat) (s : Sy) (hm : s.m.length ≤ 2 ^ 20) (rs : List AV) : Go.Ab.Loc Pg Gl D 31 [encY s, .sl 2 rs .no] [] (.bool (heavyB s.m.length rs.length)) [] := by
  refine loc_rd mixedP tok rfl rfl fun S => ?_
  unfold c31
  generalize hr : AV.bool (heavyB s.m.length rs.length) = r
  unfold heavyB at hr
  unfold encY
  by_cases h1 : rs.length ≤ 1000
  · rw [decide_eq_true h1, Bool.true_and] at hr
    have hle : ¬ (1000 : Int) < rs.length := by omega
    have hle2 : (rs.length : Int) ≤ 1000 := by omega
    have b1 : rs.length * rs.length ≤ 1000 * 1000 := Nat.mul_le_mul h1 h1
    have b2 : rs.length * rs.length * (s.m.length + 1) ≤ 1000000 * (2 ^ 20 + 1) := Nat.mul_le_mul b1 (by omega)
    have e1 : IntKind.i64.wrap ((rs.length : Int) * rs.length) = ((rs.length * rs.length : Nat) : Int) := by rw [← Int.natCast_mul]; exact wrap_i64_nat (by omega)
    have e2 : IntKind.i64.wrap ((s.m.length : Int) + 1) = ((s.m.length + 1 : Nat) : Int) := by rw [← wrap_i64_nat (n := s.m.length + 1) (by omega)]; rfl
    have e3 : IntKind.i64.wrap (((rs.length * rs.length : Nat) : Int) * ((s.m.length + 1 : Nat) : Int)) = ((rs.length * rs.length * (s.m.length + 1) : Nat) : Int) := by rw [← Int.natCast_mul]; exact wrap_i64_nat (by omega)
    generalize rs.length * rs.length * (s.m.length + 1) = P at hr e3 b2
    have e4 : (100000 < (P : Int)) = (100000 < P) := propext (by omega)
    simp [hle, hle2, e1, e2, e3, e4, -Int.natCast_mul, -Int.natCast_add, h1]
    simp [← hr]
  · rw [decide_eq_false h1, Bool.false_and] at hr
    have hle : (1000 : Int) < rs.length := by omega
    have hle2 : ¬ (rs.length : Int) ≤ 1000 := by omega
    simp [hle, hle2, h1, ← hr]

/-! fault -/
def faultR (s : Sy) (ls : List (List Int)) : Int := if isY s then (if lettersF s.f = 0 then 1 else if ls.all (isSet s.m.length) then 0 else 1) else 30
theorem l32 (D : Nat) (f1 f2 f3 : AV) (ms : List AV) (n : Nat) (hn : ms.length = n) (ls : List (List Int)) (hls : ls.length ≤ maxLen) (hl : ∀ l ∈ ls, l.length ≤ maxLen) (S) : ∀ (j i : Nat) (τ ω) (r : AV), i + j = ls.length →
    τ 2 = .ptr D 2 1 0 → τ 13 = .sl 1 (ls.map encI) .no → τ 14 = .int .i64 ls.length → τ 15 = .int .i64 i → ω 2 = (1, .cells [f1, f2, f3, .sl 3 ms .no]) → r = .int .i64 (if (ls.drop i).all (isSet n) then 0 else 1) →
    Rd (Loc Pg Gl) .im (RetQ [.tmp 4] r S) [.lp c32_l0, .blk 0, .c c32_k0] (stF 26 D τ ω S) := by
  intro j
  induction j with
  | zero =>
    intro i τ ω r hi h2 h13 h14 h15 w2 hr
    refine Rd_lpE c32_l0.eq_1 ?_
    obtain rfl : i = ls.length := by omega
    rw [List.drop_length] at hr
    simp at hr
    simp [h2, h13, h14, h15, w2, c32_k0, hr]
  | succ j ih =>
    intro i τ ω r hi h2 h13 h14 h15 w2 hr
    refine Rd_lpE c32_l0.eq_1 ?_
    have hlt : i < ls.length := by omega
    have hwr := wrap_next hlt hls
    obtain ⟨x, hx⟩ : ∃ x, ls[i] = x := ⟨_, rfl⟩
    have hd : ls.drop i = x :: ls.drop (i + 1) := by rw [List.drop_eq_getElem_cons hlt, hx]
    rw [hd, List.all_cons] at hr
    simp [h2, h13, h14, h15, w2, hlt, hx, encI, hn]
    refine Rd_call (spec18 _ n x (hl x (by rw [← hx]; exact List.getElem_mem hlt))) (by simp [encI]) ?_
    cases hb : isSet n x with
    | false =>
      rw [hb] at hr
      simp at hr
      simp [hr]
    | true =>
      rw [hb, Bool.true_and] at hr
      simp [h15, hwr]
      refine ih (i + 1) _ _ r (by omega) ?_ ?_ ?_ ?_ ?_ hr
      all_goals simp [h2, h13, h14, w2]
theorem spec32 (D : Nat) (s : Sy) (hf : fitF s.f) (hl : s.m.length ≤ maxLen) (hv : ∀ v ∈ s.m, fitV v) (hb : nodesVs s.m ≤ 2 ^ 32) (ls : List (List Int)) (hls : ls.length ≤ maxLen) (hll : ∀ l ∈ ls, l.length ≤ maxLen) :
    Go.Ab.Loc Pg Gl D 32 [encY s, .sl 1 (ls.map encI) .no] [] (.int .i64 (faultR s ls)) [] := by
  refine loc_rd mixedP tok rfl rfl fun S => ?_
  unfold c32
  generalize hr : AV.int .i64 (faultR s ls) = r
  unfold faultR at hr
  have he := encY.eq_1 s
  rw [he]
  simp
  refine Rd_call (spec39 s hf hl hv hb _) (by simp [he]) ?_
  cases h1 : isY s with
  | false =>
    rw [h1, if_neg (by simp)] at hr
    simp [← hr]
  | true =>
    rw [h1, if_pos rfl] at hr
    simp
    refine Rd_call (spec48 _ s hf) (by simp [he]) ?_
    by_cases h2 : lettersF s.f = 0
    · rw [if_pos h2] at hr
      simp [h2, ← hr]
    · rw [if_neg h2] at hr
      simp [h2]
      refine l32 D _ _ _ (s.m.map encV) s.m.length (by simp) ls hls hll S ls.length 0 _ _ r (by omega) ?_ ?_ ?_ ?_ (by simp; exact ⟨rfl, rfl, rfl⟩) hr.symm
      all_goals simp

/-! pair -/
def keyP (p q : List Int) : List Int := p ++ -1 :: q
theorem spec82 (D : Nat) (p q : List Int) (hp : p.length ≤ 200) (hq : q.length ≤ 200) : Go.Ab.Loc Pg Gl D 82 [encI p, encI q] [] (.sl 1 ((keyP p q).map (AV.int .i64)) .tip) [] := by
  refine loc_rd mixedP tok rfl rfl fun S => ?_
  unfold c82
  generalize hr : AV.sl 1 ((keyP p q).map (AV.int .i64)) .tip = r
  have h1 : p.length * 8 ≤ 1099511627776 := by omega
  have h2 : (p.length + 1) * 8 ≤ 1099511627776 := by omega
  have h3 : (p.length + 1 + q.length) * 8 ≤ 1099511627776 := by omega
  have h4 : (p.length + (q.length + 1)) * 8 ≤ 1099511627776 := by omega
  simp [encI]
  simp [h1]
  simp [h2]
  simp [h3, h4]
  simp [← hr, keyP]
end Go.Ab.Tab
/- Automata: the reference's Equal. -/
namespace Go.Ab.Tab
open Go Go.Ab
set_option maxRecDepth 10000
set_option linter.unusedVariables false
set_option linter.unusedSimpArgs false

def keep34 (x : Nat) : Prop := x ≤ 17 ∨ x = 57 ∨ x = 58
theorem keep34_lt {x : Nat} (h : keep34 x) : ¬ x = 18 ∧ ¬ x = 20 ∧ (x < 59) := by unfold keep34 at h; omega

theorem l34_0 (D : Nat) (p q : List Int) (hp : p.length ≤ 200) (hq : q.length ≤ 200) (ks : List (List Int)) (hks : ks.length ≤ maxLen) (hkl : ∀ e ∈ ks, e.length ≤ maxLen) (Q : St → Prop) (k : List AI) (S) (τ0 : Nat → AV) (ω) (t : Bool) : ∀ (m i : Nat) (b : Bool) (τ), i + m = ks.length →
    τ0 16 = encI p → τ0 17 = encI q → τ 18 = .bool b → τ 69 = .sl 1 (ks.map encI) .no → τ 70 = .int .i64 ks.length → τ 71 = .int .i64 i → (∀ x, keep34 x → τ x = τ0 x) → t = (b && !((ks.drop i).any fun e => decide (e = keyP p q))) →
    (∀ τ', τ' 18 = .bool t → (∀ x, keep34 x → τ' x = τ0 x) → Rd (Loc Pg Gl) .im Q k (stF 99 D τ' ω S)) →
    Rd (Loc Pg Gl) .im Q (.lp c34_l0 :: .blk 4 :: k) (stF 99 D τ ω S) := by
  intro m
  induction m with
  | zero =>
    intro i b τ hi h16 h17 h18 h69 h70 h71 hk ht hend
    refine Rd_lpE c34_l0.eq_1 ?_
    obtain rfl : i = ks.length := by omega
    rw [List.drop_length] at ht
    simp at ht
    simp [h18, h69, h70, h71]
    refine hend _ (by simp [h18, ht]) fun x hx => ?_
    have := keep34_lt hx
    rw [← hk x hx]
    simp [upd, show ¬ x = 72 by omega]
  | succ m ih =>
    intro i b τ hi h16 h17 h18 h69 h70 h71 hk ht hend
    refine Rd_lpE c34_l0.eq_1 ?_
    have hlt : i < ks.length := by omega
    have hwr := wrap_next hlt hks
    obtain ⟨e, hx⟩ : ∃ e, ks[i] = e := ⟨_, rfl⟩
    have hel := hkl e (by rw [← hx]; exact List.getElem_mem hlt)
    have hd : ks.drop i = e :: ks.drop (i + 1) := by rw [List.drop_eq_getElem_cons hlt, hx]
    have g16 := hk 16 (by unfold keep34; omega)
    have g17 := hk 17 (by unfold keep34; omega)
    rw [h16] at g16
    rw [h17] at g17
    rw [hd, List.any_cons] at ht
    have hkeep : ∀ (τ' : Nat → AV), (∀ x, keep34 x → τ' x = τ x) → ∀ x, keep34 x → τ' x = τ0 x := fun τ' h x hx => (h x hx).trans (hk x hx)
    cases b with
    | false =>
      simp at ht
      simp [h18, h69, h70, h71, hlt, hx, hwr, encI]
      refine ih (i + 1) false _ (by omega) h16 h17 ?_ ?_ ?_ ?_ (fun x hx => ?_) (by simpa using ht) hend
      case refine_5 =>
        have := keep34_lt hx
        rw [← hk x hx]
        simp [upd, show ¬ x = 71 by omega, show ¬ x = 72 by omega, show ¬ x = 73 by omega, show ¬ x = 74 by omega, show ¬ x = 75 by omega, show ¬ x = 76 by omega, show ¬ x = 77 by omega, show ¬ x = 78 by omega, show ¬ x = 79 by omega, show ¬ x = 80 by omega, show ¬ x = 81 by omega, show ¬ x = 82 by omega, show ¬ x = 83 by omega, show ¬ x = 84 by omega, this.1, this.2.1]
      all_goals simp [h69, h70]
    | true =>
      simp [h18, h69, h70, h71, hlt, hx, encI, g16, g17]
      refine Rd_call (spec82 _ p q hp hq) (by simp [encI]) ?_
      simp
      refine Rd_call (spec19 _ e (keyP p q) hel) (by simp [encI]) ?_
      simp [h71, hwr]
      refine ih (i + 1) (!(decide (e = keyP p q))) _ (by omega) h16 h17 ?_ ?_ ?_ ?_ (fun x hx => ?_) ?_ hend
      case refine_5 =>
        have := keep34_lt hx
        rw [← hk x hx]
        simp [upd, show ¬ x = 71 by omega, show ¬ x = 72 by omega, show ¬ x = 73 by omega, show ¬ x = 74 by omega, show ¬ x = 75 by omega, show ¬ x = 76 by omega, show ¬ x = 77 by omega, show ¬ x = 78 by omega, show ¬ x = 79 by omega, show ¬ x = 80 by omega, show ¬ x = 81 by omega, show ¬ x = 82 by omega, show ¬ x = 83 by omega, show ¬ x = 84 by omega, this.1, this.2.1]
      case refine_6 => rw [ht]; cases decide (e = keyP p q) <;> simp
      all_goals simp [h69, h70]

def nx (ps : List (Bool × List (List Nat))) (a : Nat) (p : List Int) : List Int := lN ps.length (nxtL ps a p)
def addE (st : List PI × List (List Int)) (p q : List Int) : List PI × List (List Int) := if st.2.any (fun e => decide (e = keyP p q)) then st else (st.1 ++ [(p, q)], st.2 ++ [keyP p q])
def stepE (ps : List (Bool × List (List Nat))) (p q : List Int) : Nat → Nat → List PI × List (List Int) → List PI × List (List Int)
  | 0, _, st => st
  | j + 1, a, st => stepE ps p q j (a + 1) (addE st (nx ps a p) (nx ps a q))

theorem l34_1 (D k : Nat) (ps : List (Bool × List (List Nat))) (hps : AuOk k ps) (hrl : ∀ p ∈ ps, ∀ r ∈ p.2, r.length ≤ maxLen) (FL : List AV) (hy : encY (auY k ps) = .agg [.int .i64 2, .int .i64 0, .sl 3 FL .no, .sl 3 (ps.map fun p => encV (mkAu p)) .no]) (p q : List Int) (hp : Below ps.length p) (hq : Below ps.length q) (hpl : p.length ≤ maxLen) (hql : q.length ≤ maxLen) (Q : St → Prop) (kk : List AI) (S) (lim i12 : AV) (st' : List PI × List (List Int)) : ∀ (m a : Nat) (st : List PI × List (List Int)) (τ ω), a + m = k → st.1.length ≤ 400 + a → st.2.length ≤ 400 + a → (∀ e ∈ st.2, e.length ≤ maxLen) →
    τ 3 = lim → τ 4 = .ptr D 4 1 0 → τ 10 = .sl 1 (st.2.map encI) .tip → τ 11 = .sl 2 (st.1.map encPI) .tip → τ 12 = i12 → τ 13 = encI p → τ 14 = encI q → τ 57 = .int .i64 k → τ 58 = .int .i64 a → ω 4 = (1, .cells [.int .i64 2, .int .i64 0, .sl 3 FL .no, .sl 3 (ps.map fun p => encV (mkAu p)) .no]) → st' = stepE ps p q m a st →
    (∀ τ' ω', τ' 3 = lim → τ' 4 = .ptr D 4 1 0 → τ' 10 = .sl 1 (st'.2.map encI) .tip → τ' 11 = .sl 2 (st'.1.map encPI) .tip → τ' 12 = i12 → ω' 4 = (1, .cells [.int .i64 2, .int .i64 0, .sl 3 FL .no, .sl 3 (ps.map fun p => encV (mkAu p)) .no]) → Rd (Loc Pg Gl) .im Q kk (stF 99 D τ' ω' S)) →
    Rd (Loc Pg Gl) .im Q (.lp c34_l1 :: .blk 2 :: kk) (stF 99 D τ ω S) := by
  have hn := hps.len
  intro m
  induction m with
  | zero =>
    intro a st τ ω ha hs1 hs2 hse h3 h4 h10 h11 h12 h13 h14 h57 h58 w4 hst hend
    refine Rd_lpE c34_l1.eq_1 ?_
    obtain rfl : a = k := by omega
    simp [h57, h58]
    rw [stepE] at hst
    subst hst
    refine hend _ _ ?_ ?_ ?_ ?_ ?_ w4
    all_goals simp [h3, h4, h10, h11, h12]
  | succ m ih =>
    intro a st τ ω ha hs1 hs2 hse h3 h4 h10 h11 h12 h13 h14 h57 h58 w4 hst hend
    refine Rd_lpE c34_l1.eq_1 ?_
    have hak : a < k := by omega
    have hwr : IntKind.i64.wrap ((a : Int) + 1) = ((a + 1 : Nat) : Int) := by have := hps.kle; rw [← wrap_i64_nat (n := a + 1) (by omega)]; rfl
    rw [stepE] at hst
    have np : (nx ps a p).length ≤ 100 := by have := lN_len ps.length (nxtL ps a p); unfold nx; omega
    have nq : (nx ps a q).length ≤ 100 := by have := lN_len ps.length (nxtL ps a q); unfold nx; omega
    have sp := spec49 (D + 1) k a ps hps hak hrl p hp hpl
    have sq := spec49 (D + 1) k a ps hps hak hrl q hq hql
    rw [hy] at sp sq
    simp [h4, h57, h58, w4, hak]
    refine Rd_drCall sp (by simp [h13, encI]) ?_
    simp [h4, w4]
    refine Rd_drCall sq (by simp [h14, encI]) ?_
    have e1 : encI (lN ps.length (nxtL ps a p)) = encI (nx ps a p) := rfl
    have e2 : encI (lN ps.length (nxtL ps a q)) = encI (nx ps a q) := rfl
    rw [e1, e2]
    generalize nx ps a p = p' at *
    generalize nx ps a q = q' at *
    simp [h10, encI]
    refine l34_0 D p' q' (by omega) (by omega) st.2 (by have := hs2; have := hps.kle; unfold maxLen; omega) hse _ _ S _ _ (!(st.2.any fun e => decide (e = keyP p' q'))) st.2.length 0 true _ (by omega) ?_ ?_ ?_ ?_ ?_ ?_ (fun x _ => rfl) (by simp) ?_
    case refine_7 =>
      intro τ' g18 hk
      have g3 := hk 3 (by unfold keep34; omega); have g4 := hk 4 (by unfold keep34; omega); have g10 := hk 10 (by unfold keep34; omega); have g11 := hk 11 (by unfold keep34; omega); have g12 := hk 12 (by unfold keep34; omega)
      have g13 := hk 13 (by unfold keep34; omega); have g14 := hk 14 (by unfold keep34; omega); have g57 := hk 57 (by unfold keep34; omega); have g58 := hk 58 (by unfold keep34; omega); have g16 := hk 16 (by unfold keep34; omega); have g17 := hk 17 (by unfold keep34; omega)
      clear hk
      simp [h3] at g3
      simp [h4] at g4
      simp [h10] at g10
      simp [h11] at g11
      simp [h12] at g12
      simp [h13] at g13
      simp [h14] at g14
      simp [h57] at g57
      simp [h58] at g58
      simp at g16
      simp at g17
      cases hb : (st.2.any fun e => decide (e = keyP p' q')) with
      | true =>
        rw [hb] at g18
        have ea : addE st p' q' = st := by unfold addE; rw [if_pos hb]
        rw [ea] at hst
        simp [c34_k0, g18, c34_k1, g58, hwr]
        refine ih (a + 1) st _ _ (by omega) (by omega) (by omega) hse ?_ ?_ ?_ ?_ ?_ ?_ ?_ ?_ ?_ w4 hst hend
        all_goals simp [g3, g4, g10, g11, g12, g13, g14, g57]
      | false =>
        rw [hb] at g18
        have ea : addE st p' q' = (st.1 ++ [(p', q')], st.2 ++ [keyP p' q']) := by unfold addE; rw [if_neg (by simp [hb])]
        rw [ea] at hst
        have b1 : (st.2.length + 1) * 24 ≤ 1099511627776 := by have := hps.kle; omega
        have b2 : (st.1.length + 1) * 48 ≤ 1099511627776 := by have := hps.kle; omega
        simp [c34_k0, g18, g10, g16, g17]
        refine Rd_call (spec82 _ p' q' (by omega) (by omega)) (by simp [encI, g16, g17]) ?_
        simp [b1, b2, g11, g16, g17, c34_k1, g58, hwr]
        refine ih (a + 1) (st.1 ++ [(p', q')], st.2 ++ [keyP p' q']) _ _ (by omega) (by simp; omega) (by simp; omega) ?_ ?_ ?_ ?_ ?_ ?_ ?_ ?_ ?_ ?_ w4 hst hend
        case refine_1 =>
          intro e he
          rcases List.mem_append.1 he with he | he
          · exact hse e he
          · rw [List.mem_singleton.1 he, keyP]; unfold maxLen; simp; omega
        all_goals simp [g3, g4, g10, g11, g12, g13, g14, g57, encI, encPI]
    all_goals simp [encI]
end Go.Ab.Tab
/- Automata: the reference's Equal. -/
namespace Go.Ab.Tab
open Go Go.Ab
set_option maxRecDepth 10000
set_option linter.unusedVariables false
set_option linter.unusedSimpArgs false

def equalE (ps : List (Bool × List (List Nat))) (k lim : Nat) : Nat → Nat → List PI × List (List Int) → Bool × Bool
  | 0, _, _ => (true, true)
  | m + 1, i, st => match st.1[i]? with
    | none => (true, true)
    | some (p, q) => if finL ps p ≠ finL ps q then (false, true) else if lim < st.1.length then (false, false) else equalE ps k lim m (i + 1) (stepE ps p q k 0 st)

theorem addE_len (st : List PI × List (List Int)) (p q : List Int) : (addE st p q).1.length ≤ st.1.length + 1 ∧ (addE st p q).2.length ≤ st.2.length + 1 := by
  unfold addE; split
  · exact ⟨by omega, by omega⟩
  · simp
theorem stepE_len (ps : List (Bool × List (List Nat))) (p q : List Int) : ∀ (j a : Nat) (st : List PI × List (List Int)), (stepE ps p q j a st).1.length ≤ st.1.length + j ∧ (stepE ps p q j a st).2.length ≤ st.2.length + j
  | 0, a, st => by rw [stepE]; exact ⟨by omega, by omega⟩
  | j + 1, a, st => by
    rw [stepE]
    have h1 := stepE_len ps p q j (a + 1) (addE st (nx ps a p) (nx ps a q))
    have h2 := addE_len st (nx ps a p) (nx ps a q)
    exact ⟨by omega, by omega⟩
/-- the queue's elements and the keys -/
structure OkE (ps : List (Bool × List (List Nat))) (st : List PI × List (List Int)) : Prop where
  mem : ∀ c ∈ st.1, VS ps.length c.1 ∧ VS ps.length c.2
  len : ∀ e ∈ st.2, e.length ≤ maxLen
  num : st.2.length = st.1.length
theorem keyP_len {n : Nat} {p q : List Int} (hp : p.length ≤ 200) (hq : q.length ≤ 200) : (keyP p q).length ≤ maxLen := by unfold keyP maxLen; simp; omega
theorem addE_ok {ps : List (Bool × List (List Nat))} {st : List PI × List (List Int)} (h : OkE ps st) {p q : List Int} (hp : VS ps.length p) (hq : VS ps.length q) (hpl : p.length ≤ 200) (hql : q.length ≤ 200) : OkE ps (addE st p q) := by
  unfold addE; split
  · exact h
  · refine ⟨fun c hc => ?_, fun e he => ?_, by simp [h.num]⟩
    · rcases List.mem_append.1 hc with hc | hc
      · exact h.mem c hc
      · rw [List.mem_singleton.1 hc]; exact ⟨hp, hq⟩
    · rcases List.mem_append.1 he with he | he
      · exact h.len e he
      · rw [List.mem_singleton.1 he]; exact keyP_len (n := 0) hpl hql
theorem stepE_ok {ps : List (Bool × List (List Nat))} (hn : ps.length ≤ 100) (p q : List Int) : ∀ (j a : Nat) {st : List PI × List (List Int)}, OkE ps st → OkE ps (stepE ps p q j a st)
  | 0, a, st, h => by rw [stepE]; exact h
  | j + 1, a, st, h => by
    rw [stepE]
    refine stepE_ok hn p q j (a + 1) (addE_ok h (lN_vs hn _) (lN_vs hn _) ?_ ?_)
    · have := lN_len ps.length (nxtL ps a p); unfold nx; omega
    · have := lN_len ps.length (nxtL ps a q); unfold nx; omega

theorem l34_2 (D k lim : Nat) (hlim : lim ≤ 300) (ps : List (Bool × List (List Nat))) (hps : AuOk k ps) (hf : fitF (typ k)) (hlk : lettersF (typ k) = k) (hrl : ∀ p ∈ ps, ∀ r ∈ p.2, r.length ≤ maxLen) (FL : List AV) (hy : encY (auY k ps) = .agg [.int .i64 2, .int .i64 0, .sl 3 FL .no, .sl 3 (ps.map fun p => encV (mkAu p)) .no]) (S) : ∀ (m i : Nat) (st : List PI × List (List Int)) (τ ω) (r : AV), m + i = lim + 1 → i ≤ lim → st.1.length ≤ lim + 5 → OkE ps st →
    τ 3 = .int .i64 lim → τ 4 = .ptr D 4 1 0 → τ 10 = .sl 1 (st.2.map encI) .tip → τ 11 = .sl 2 (st.1.map encPI) .tip → τ 12 = .int .i64 i → ω 4 = (1, .cells [.int .i64 2, .int .i64 0, .sl 3 FL .no, .sl 3 (ps.map fun p => encV (mkAu p)) .no]) →
    r = .tup [.bool (equalE ps k lim m i st).1, .bool (equalE ps k lim m i st).2] →
    Rd (Loc Pg Gl) .im (RetQ [.tmp 8, .tmp 9] r S) [.lp c34_l2, .blk 0, .c c34_k3] (stF 99 D τ ω S) := by
  have hn := hps.len
  have hk := hps.kle
  intro m
  induction m with
  | zero => intro i st τ ω r h1 h2; omega
  | succ m ih =>
    intro i st τ ω r hm hi hl hok h3 h4 h10 h11 h12 w4 hr
    refine Rd_lpE c34_l2.eq_1 ?_
    rw [equalE] at hr
    by_cases hlt : i < st.1.length
    · obtain ⟨⟨p, q⟩, hx⟩ : ∃ x, st.1[i] = x := ⟨_, rfl⟩
      have hmem := hok.mem _ (List.getElem_mem hlt)
      rw [hx] at hmem
      obtain ⟨vp, vq⟩ := hmem
      simp only at vp vq
      rw [List.getElem?_eq_getElem hlt, hx] at hr
      simp only at hr
      have fp := spec76 (D + 1) k ps p vp.below vp.len
      have fq := spec76 (D + 1) k ps q vq.below vq.len
      have fl := spec48 (D + 1) (auY k ps) hf
      have e0 : lettersF (auY k ps).f = k := hlk
      rw [e0] at fl
      rw [hy] at fp fq fl
      have hwr : IntKind.i64.wrap ((i : Int) + 1) = ((i + 1 : Nat) : Int) := by rw [← wrap_i64_nat (n := i + 1) (by omega)]; rfl
      simp [h3, h4, h11, h12, w4, hlt, hx, encPI, encI]
      refine Rd_drCall fp (by simp [encI]) ?_
      simp [h4, w4]
      refine Rd_drCall fq (by simp [encI]) ?_
      by_cases he : finL ps p = finL ps q
      case neg =>
        rw [if_pos he] at hr
        generalize finL ps p = bp at he hr
        generalize finL ps q = bq at he hr
        cases bp <;> cases bq <;> first | exact absurd rfl he | simp [hr]
      rw [if_neg (by simpa using he)] at hr
      rw [he]
      by_cases hle : lim < st.1.length
      · rw [if_pos hle] at hr
        generalize finL ps q = bq
        cases bq <;> simp [h3, h11, hle, hr]
      rw [if_neg hle] at hr
      have key : ∀ τ' ω', τ' 3 = .int .i64 lim → τ' 4 = .ptr D 4 1 0 → τ' 10 = .sl 1 (st.2.map encI) .tip → τ' 11 = .sl 2 (st.1.map encPI) .tip → τ' 12 = .int .i64 i → τ' 13 = encI p → τ' 14 = encI q → τ' 57 = .int .i64 k → τ' 58 = .int .i64 (0 : Nat) → ω' 4 = (1, .cells [.int .i64 2, .int .i64 0, .sl 3 FL .no, .sl 3 (ps.map fun p => encV (mkAu p)) .no]) →
          Rd (Loc Pg Gl) .im (RetQ [.tmp 8, .tmp 9] r S) (.lp c34_l1 :: .blk 2 :: .blk 1 :: .c c34_k2 :: [.lp c34_l2, .blk 0, .c c34_k3]) (stF 99 D τ' ω' S) := by
        intro τ' ω' g3 g4 g10 g11 g12 g13 g14 g57 g58 v4
        refine l34_1 D k ps hps hrl FL hy p q vp.below vq.below vp.len vq.len _ _ S _ _ _ k 0 st τ' ω' (by omega) (by omega) (by have := hok.num; omega) hok.len g3 g4 g10 g11 g12 g13 g14 g57 g58 v4 rfl ?_
        intro τ2 ω2 q3 q4 q10 q11 q12 u4
        have sl := stepE_len ps p q k 0 st
        simp [c34_k2, q12, hwr]
        refine ih (i + 1) (stepE ps p q k 0 st) _ _ r (by omega) (by omega) (by omega) (stepE_ok hn p q k 0 hok) ?_ ?_ ?_ ?_ ?_ u4 hr
        all_goals simp [q3, q4, q10, q11]
      generalize finL ps q = bq
      cases bq
      · simp [h3, h4, h11, w4, hle]
        refine Rd_call fl (by simp) ?_
        simp
        refine key _ _ ?_ ?_ ?_ ?_ ?_ ?_ ?_ ?_ ?_ w4
        all_goals simp [h3, h4, h10, h11, h12, encI]
      · simp [h3, h4, h11, w4, hle]
        refine Rd_call fl (by simp) ?_
        simp
        refine key _ _ ?_ ?_ ?_ ?_ ?_ ?_ ?_ ?_ ?_ w4
        all_goals simp [h3, h4, h10, h11, h12, encI]
    · rw [List.getElem?_eq_none (by omega)] at hr
      simp [h11, h12, hlt, c34_k3, hr]

theorem fitF_typ (k : Nat) : fitF (typ k) := by
  unfold typ
  simp [fitF, fitFs, maxLen]
def rEq (p : Bool × Bool) : AV := .tup [.bool p.1, .bool p.2]
theorem spec34 (D k lim : Nat) (hlim : lim ≤ 300) (ps : List (Bool × List (List Nat))) (hps : AuOk k ps) (hrl : ∀ p ∈ ps, ∀ r ∈ p.2, r.length ≤ maxLen) (x y : List Int) (hx : VS ps.length x) (hy : VS ps.length y) (hxl : x.length ≤ 200) (hyl : y.length ≤ 200) :
    Go.Ab.Loc Pg Gl D 34 [encY (auY k ps), encI x, encI y, .int .i64 lim] [] (rEq (equalE ps k lim (lim + 1) 0 ([(x, y)], [keyP x y]))) [] := by
  refine loc_rd mixedP tok rfl rfl fun S => ?_
  unfold c34
  generalize hr : rEq (equalE ps k lim (lim + 1) 0 ([(x, y)], [keyP x y])) = r
  have hY := encY_au k ps
  rw [hY]
  simp [encI]
  refine Rd_call (spec82 _ x y hxl hyl) (by simp [encI]) ?_
  simp
  refine l34_2 D k lim hlim ps hps (fitF_typ k) (letters_typ hps.kpos hps.kle) hrl _ hY S (lim + 1) 0 ([(x, y)], [keyP x y]) _ _ r (by omega) (by omega) (by simp) ⟨?_, ?_, rfl⟩ ?_ ?_ ?_ ?_ ?_ ?_ hr.symm
  case refine_1 => intro c hc; rw [List.mem_singleton.1 hc]; exact ⟨hx, hy⟩
  case refine_2 => intro e he; rw [List.mem_singleton.1 he]; exact keyP_len (n := 0) hxl hyl
  all_goals simp [encI, encPI]
end Go.Ab.Tab
/- Automata: the program's Ends, Next. -/
namespace Go.Ab.Tab
open Go Go.Ab
set_option maxRecDepth 10000
set_option linter.unusedVariables false
set_option linter.unusedSimpArgs false

theorem bits_and (a b : BitVec 64) : bitsI .u64 (· &&& ·) a.toNat b.toNat = .int .u64 (a &&& b).toNat := by
  simp only [bitsI, IntKind.bits]
  rw [BitVec.ofInt_natCast, BitVec.ofInt_natCast, BitVec.ofNat_toNat, BitVec.ofNat_toNat, BitVec.setWidth_eq, BitVec.setWidth_eq, wrap_u64_nat (BitVec.isLt _)]; rfl

/-- the program's automaton -/
structure PA where
  n : Nat
  k : Nat
  F : BS
  rows : List (List BS)
def encA (A : PA) : AV := .box [.int .i64 A.n, .int .i64 A.k, .int .u64 A.F.1.toNat, .int .u64 A.F.2.toNat, .sl 1 (A.rows.map fun r => .sl 2 (r.map encS) .no) .no] 0
def endsB (F u : BS) : Bool := decide (((u.1 &&& F.1) ||| (u.2 &&& F.2)) ≠ 0#64)
theorem spec69 (D : Nat) (A : PA) (u : BS) : Go.Ab.Loc Pg Gl D 69 [encA A, encS u] [] (.bool (endsB A.F u)) [] := by
  refine loc_rd mixedP tok rfl rfl fun S => ?_
  unfold c69
  generalize hr : AV.bool (endsB A.F u) = r
  unfold encA encS
  simp [bits_and, bits_or, -BitVec.toNat_or, -BitVec.toNat_and]
  rw [← hr, endsB]
  generalize (u.1 &&& A.F.1 ||| u.2 &&& A.F.2) = X
  by_cases h : X = 0#64
  · subst h; rfl
  · have : ¬ X.toNat = 0 := fun e => h (BitVec.eq_of_toNat_eq e)
    simp [h, this]

/-! Next -/
def nxtB (rows : List (List BS)) (a : Nat) (u : BS) : Nat → Nat → BS → BS
  | 0, _, s => s
  | j + 1, x, s => nxtB rows a u j (x + 1) (if u.has x then s.or ((rows[x]?.getD [])[a]?.getD (0#64, 0#64)) else s)
theorem l70 (D : Nat) (A : PA) (hn : A.n ≤ 100) (hrows : A.rows.length = A.n) (a : Nat) (ha : ∀ r ∈ A.rows, a < r.length) (u t : BS) (S) : ∀ (j x : Nat) (s : BS) (τ ω) (r : AV), x + j = A.n →
    τ 0 = encA A → τ 2 = .int .i64 a → τ 4 = .ptr D 4 1 0 → τ 6 = .ptr D 6 1 0 → τ 7 = .ptr D 7 1 0 → τ 12 = .int .i64 A.n → τ 13 = .int .i64 x → ω 4 = (1, .cells [.int .u64 u.1.toNat, .int .u64 u.2.toNat]) → ω 6 = (1, .cells [.int .u64 0, .int .u64 0]) → ω 7 = (1, .cells [.int .u64 s.1.toNat, .int .u64 s.2.toNat]) →
    t = nxtB A.rows a u j x s → r = encS t →
    Rd (Loc Pg Gl) .im (RetQ [.cell 6 true 2] r S) [.lp c70_l0, .blk 0, .c c70_k0] (stF 33 D τ ω S) := by
  intro j
  induction j with
  | zero =>
    intro x s τ ω r hx h0 h2 h4 h6 h7 h12 h13 w4 w6 w7 ht hr
    refine Rd_lpE c70_l0.eq_1 ?_
    obtain rfl : x = A.n := by omega
    rw [nxtB] at ht
    subst ht
    simp [h0, h2, h4, h6, h7, h12, h13, w4, w6, w7, c70_k0]
    simp [hr, encS]
  | succ j ih =>
    intro x s τ ω r hx h0 h2 h4 h6 h7 h12 h13 w4 w6 w7 ht hr
    refine Rd_lpE c70_l0.eq_1 ?_
    have hlt : x < A.n := by omega
    have hwr : IntKind.i64.wrap ((x : Int) + 1) = ((x + 1 : Nat) : Int) := by rw [← wrap_i64_nat (n := x + 1) (by omega)]; rfl
    have hxr : x < A.rows.length := by omega
    obtain ⟨row, hrow⟩ : ∃ row, A.rows[x] = row := ⟨_, rfl⟩
    have har := ha row (by rw [← hrow]; exact List.getElem_mem hxr)
    rw [nxtB, List.getElem?_eq_getElem hxr, Option.getD_some, hrow, List.getElem?_eq_getElem har, Option.getD_some] at ht
    obtain ⟨c, hc⟩ : ∃ c, row[a] = c := ⟨_, rfl⟩
    rw [hc] at ht
    simp [h0, h2, h4, h6, h7, h12, h13, w4, w6, w7, hlt]
    refine Rd_call (spec94 _ u x (by omega)) (by simp [encS]) ?_
    cases hb : u.has x with
    | false =>
      rw [hb] at ht
      simp at ht
      simp [h13, hwr]
      refine ih (x + 1) s _ _ r (by omega) ?_ ?_ ?_ ?_ ?_ ?_ ?_ w4 w6 w7 ht hr
      all_goals simp [h0, h2, h4, h6, h7, h12]
    | true =>
      rw [hb, if_pos rfl] at ht
      simp [h0, h2, h4, h6, h7, h12, h13, w4, w6, w7, encA, hxr, hrow, har, hc, encS]
      refine Rd_drCall (spec98 _ s c) (by simp [encS]) ?_
      simp [encS, h7, w7, h13, hwr, -BitVec.toNat_or]
      refine ih (x + 1) (s.or c) _ _ r (by omega) ?_ ?_ ?_ ?_ ?_ ?_ ?_ ?_ ?_ ?_ ht hr
      all_goals simp [h0, h2, h4, h6, h7, h12, w4, w6, encA]
theorem spec70 (D : Nat) (A : PA) (hn : A.n ≤ 100) (hrows : A.rows.length = A.n) (a : Nat) (ha : ∀ r ∈ A.rows, a < r.length) (u : BS) : Go.Ab.Loc Pg Gl D 70 [encA A, encS u, .int .i64 a] [] (encS (nxtB A.rows a u A.n 0 (0#64, 0#64))) [] := by
  refine loc_rd mixedP tok rfl rfl fun S => ?_
  unfold c70
  generalize hr : encS (nxtB A.rows a u A.n 0 (0#64, 0#64)) = r
  simp [encA, encS]
  refine l70 D A hn hrows a ha u _ S A.n 0 (0#64, 0#64) _ _ r (by omega) ?_ ?_ ?_ ?_ ?_ ?_ ?_ ?_ ?_ ?_ rfl hr.symm
  all_goals simp [encA]
end Go.Ab.Tab
/- Automata: the program's New. -/
namespace Go.Ab.Tab
open Go Go.Ab
set_option maxRecDepth 10000
set_option linter.unusedVariables false
set_option linter.unusedSimpArgs false

def keep66 (x : Nat) : Prop := x = 1 ∨ x = 4 ∨ x = 7 ∨ x = 10 ∨ x = 34 ∨ x = 35 ∨ x = 36 ∨ x = 60 ∨ x = 61 ∨ x = 62
theorem l66_0 (D n : Nat) (hn : n ≤ 100) (row : List Nat) (hrow : ∀ x ∈ row, x < n) (hlen : row.length ≤ maxLen) (t : BS) (g10 : Nat) (Q : St → Prop) (k : List AI) (S) (τ0 : Nat → AV) (ω0 : Nat → Ent) : ∀ (m i : Nat) (s : BS) (τ ω), i + m = row.length →
    τ 10 = .ptr D 10 g10 0 → τ 67 = .sl 3 (row.map fun x => encV (mkSt x)) .no → τ 68 = .int .i64 row.length → τ 69 = .int .i64 i → ω 10 = (g10, .cells [.int .u64 s.1.toNat, .int .u64 s.2.toNat]) →
    (∀ x, keep66 x → τ x = τ0 x) → ω 1 = ω0 1 → ω 32 = ω0 32 → t = s.or (toN (row.drop i)) →
    (∀ τ' ω', (∀ x, keep66 x → τ' x = τ0 x) → ω' 1 = ω0 1 → ω' 32 = ω0 32 → ω' 10 = (g10, .cells [.int .u64 t.1.toNat, .int .u64 t.2.toNat]) → Rd (Loc Pg Gl) .im Q k (stF 95 D τ' ω' S)) →
    Rd (Loc Pg Gl) .im Q (.lp c66_l0 :: .blk 5 :: k) (stF 95 D τ ω S) := by
  intro m
  induction m with
  | zero =>
    intro i s τ ω hi h10 h67 h68 h69 w10 hk w1 w32 ht hend
    refine Rd_lpE c66_l0.eq_1 ?_
    obtain rfl : i = row.length := by omega
    rw [List.drop_length, toN, List.foldr_nil, or_zero] at ht
    subst ht
    simp [h68, h69]
    refine hend _ _ (fun x hx => ?_) w1 w32 w10
    unfold keep66 at hx
    rw [← hk x hx]
    simp [upd, show ¬ x = 70 by omega]
  | succ m ih =>
    intro i s τ ω hi h10 h67 h68 h69 w10 hk w1 w32 ht hend
    refine Rd_lpE c66_l0.eq_1 ?_
    have hlt : i < row.length := by omega
    have hwr := wrap_next hlt hlen
    obtain ⟨y, hx⟩ : ∃ y, row[i] = y := ⟨_, rfl⟩
    have hy : y < n := hrow y (by rw [← hx]; exact List.getElem_mem hlt)
    have hd : row.drop i = y :: row.drop (i + 1) := by rw [List.drop_eq_getElem_cons hlt, hx]
    have e : toN (y :: row.drop (i + 1)) = (BS.single y).or (toN (row.drop (i + 1))) := rfl
    rw [hd, e, ← or_assoc] at ht
    simp [h10, h67, h68, h69, w10, hlt, hx, encV_st]
    refine Rd_call (spec101 _ s y (by omega)) (by simp [encS]) ?_
    simp [h10, w10, h69, hwr, encS, -BitVec.toNat_or]
    refine ih (i + 1) (s.or (BS.single y)) _ _ (by omega) ?_ ?_ ?_ ?_ ?_ (fun x hx => ?_) ?_ ?_ ht hend
    case refine_6 =>
      have hx' := hx
      unfold keep66 at hx'
      rw [← hk x hx]
      simp [upd, show ¬ x = 12 by omega, show ¬ x = 69 by omega, show ¬ x = 70 by omega, show ¬ x = 71 by omega, show ¬ x = 72 by omega, show ¬ x = 73 by omega, show ¬ x = 74 by omega, show ¬ x = 75 by omega, show ¬ x = 76 by omega, show ¬ x = 77 by omega]
    all_goals simp [h10, h67, h68, w1, w32, encV_st]

/-- the loop over the letters of a state -/
def keep66b (x : Nat) : Prop := x = 1 ∨ x = 4 ∨ x = 34 ∨ x = 35 ∨ x = 36
theorem l66_1 (D n : Nat) (hn : n ≤ 100) (rows : List (List Nat)) (hrl : rows.length ≤ 4) (hrow : ∀ r ∈ rows, (∀ x ∈ r, x < n) ∧ r.length ≤ maxLen) (Q : St → Prop) (k : List AI) (S) (τ0 : Nat → AV) (ω0 : Nat → Ent) : ∀ (m i : Nat) (τ ω), i + m = rows.length →
    τ 7 = .sl 2 ((rows.map fun r => encS (toN r)).take i) .tip → τ 60 = .sl 3 (rows.map fun r => encV (mkRow r)) .no → τ 61 = .int .i64 rows.length → τ 62 = .int .i64 i →
    (∀ x, keep66b x → τ x = τ0 x) → ω 1 = ω0 1 → ω 32 = ω0 32 →
    (∀ τ' ω', (∀ x, keep66b x → τ' x = τ0 x) → ω' 1 = ω0 1 → ω' 32 = ω0 32 → τ' 7 = .sl 2 (rows.map fun r => encS (toN r)) .tip → Rd (Loc Pg Gl) .im Q k (stF 95 D τ' ω' S)) →
    Rd (Loc Pg Gl) .im Q (.lp c66_l1 :: .blk 3 :: k) (stF 95 D τ ω S) := by
  intro m
  induction m with
  | zero =>
    intro i τ ω hi h7 h60 h61 h62 hk w1 w32 hend
    refine Rd_lpE c66_l1.eq_1 ?_
    obtain rfl : i = rows.length := by omega
    rw [List.take_of_length_le (by simp)] at h7
    simp [h61, h62]
    refine hend _ _ (fun x hx => ?_) w1 w32 (by simp [h7])
    unfold keep66b at hx
    rw [← hk x hx]
    simp [upd, show ¬ x = 63 by omega]
  | succ m ih =>
    intro i τ ω hi h7 h60 h61 h62 hk w1 w32 hend
    refine Rd_lpE c66_l1.eq_1 ?_
    have hlt : i < rows.length := by omega
    have hwr : IntKind.i64.wrap ((i : Int) + 1) = ((i + 1 : Nat) : Int) := by rw [← wrap_i64_nat (n := i + 1) (by omega)]; rfl
    obtain ⟨row, hx⟩ : ∃ row, rows[i] = row := ⟨_, rfl⟩
    obtain ⟨r1, r2⟩ := hrow row (by rw [← hx]; exact List.getElem_mem hlt)
    simp [h7, h60, h61, h62, hlt, hx, encV_row]
    refine l66_0 D n hn row r1 r2 (toN row) ((ω 10).1 + 1) _ _ S _ ω row.length 0 (0#64, 0#64) _ _ (by omega) ?_ ?_ ?_ ?_ ?_ (fun x _ => rfl) ?_ ?_ (by simp [BS.or]) ?_
    case refine_8 =>
      intro τ' ω' hk2 v1 v32 v10
      have g1 := hk2 1 (by unfold keep66; omega); have g4 := hk2 4 (by unfold keep66; omega); have g7 := hk2 7 (by unfold keep66; omega); have g10 := hk2 10 (by unfold keep66; omega); have g34 := hk2 34 (by unfold keep66; omega)
      have g35 := hk2 35 (by unfold keep66; omega); have g36 := hk2 36 (by unfold keep66; omega); have g60 := hk2 60 (by unfold keep66; omega); have g61 := hk2 61 (by unfold keep66; omega); have g62 := hk2 62 (by unfold keep66; omega)
      clear hk2
      simp at g1 g4 g10 g34 g35 g36
      simp [h7] at g7
      simp [h60] at g60
      simp [h61] at g61
      simp [h62] at g62
      have hl : (List.take i (List.map (fun r => encS (toN r)) rows)).length = i := by simp; omega
      have hle : (i + 1) * 16 ≤ 1099511627776 := by omega
      have htk : (rows.map fun r => encS (toN r)).take (i + 1) = (rows.map fun r => encS (toN r)).take i ++ [encS (toN row)] := by
        rw [List.take_add_one]; simp [hlt, hx]
      generalize hA : List.take i (List.map (fun r => encS (toN r)) rows) = A at *
      simp [c66_k0, g7, g10, v10, hl, hle, c66_k1, g62, hwr]
      refine ih (i + 1) _ _ (by omega) ?_ ?_ ?_ ?_ (fun x hx => ?_) ?_ ?_ hend
      case refine_5 =>
        have hx' := hx
        unfold keep66b at hx'
        rw [← hk x hx]
        rcases hx' with rfl | rfl | rfl | rfl | rfl <;> simp [g1, g4, g34, g35, g36]
      case refine_1 => rw [htk]; simp [encS]
      all_goals simp [g60, g61, v1, v32, w1, w32]
    all_goals simp [encV_row]
end Go.Ab.Tab
/- Automata: the program's New. -/
namespace Go.Ab.Tab
open Go Go.Ab
set_option maxRecDepth 10000
set_option linter.unusedVariables false
set_option linter.unusedSimpArgs false

def finF : Nat → List (Bool × List (List Nat)) → BS → BS
  | _, [], F => F
  | i, p :: l, F => finF (i + 1) l (if p.1 then F.or (BS.single i) else F)
def paOf (k : Nat) (ps : List (Bool × List (List Nat))) : PA := ⟨ps.length, k, finF 0 ps (0#64, 0#64), ps.map fun p => p.2.map toN⟩
def rowsV (ps : List (Bool × List (List Nat))) : List AV := ps.map fun p => .sl 2 (p.2.map fun r => encS (toN r)) .no

theorem l66_2 (D k : Nat) (ps : List (Bool × List (List Nat))) (hps : AuOk k ps) (hrl : ∀ p ∈ ps, ∀ r ∈ p.2, r.length ≤ maxLen) (S) (T : BS) : ∀ (m i : Nat) (F : BS) (tp : Tip) (τ ω) (r : AV), i + m = ps.length → (tp = .tip ∨ tp = .nil) →
    τ 4 = .ptr D 32 1 0 → τ 34 = .sl 3 (ps.map fun p => encV (mkAu p)) .no → τ 35 = .int .i64 ps.length → τ 36 = .int .i64 i →
    ω 32 = (1, .cells [.int .i64 ps.length, .int .i64 k, .int .u64 F.1.toNat, .int .u64 F.2.toNat, .sl 1 ((rowsV ps).take i) tp]) → T = finF i (ps.drop i) F →
    r = .tup [.box [.int .i64 ps.length, .int .i64 k, .int .u64 T.1.toNat, .int .u64 T.2.toNat, .sl 1 (rowsV ps) .no] 0, .int .i64 0] →
    Rd (Loc Pg Gl) .im (RetQ [.tmp 2, .tmp 3] r S) [.lp c66_l2, .blk 1, .c c66_k4] (stF 95 D τ ω S) := by
  have hn := hps.len
  intro m
  induction m with
  | zero =>
    intro i F tp τ ω r hi htp h4 h34 h35 h36 w32 hT hr
    refine Rd_lpE c66_l2.eq_1 ?_
    obtain rfl : i = ps.length := by omega
    rw [List.drop_length, finF] at hT
    subst hT
    rw [List.take_of_length_le (by simp [rowsV])] at w32
    simp [h4, h34, h35, h36, w32, c66_k4]
    have hfz : ∀ τ', frz (stF 95 D τ' ω S) frzD (.ptr D 32 1 0) = some (.box [.int .i64 ps.length, .int .i64 k, .int .u64 T.1.toNat, .int .u64 T.2.toNat, .sl 1 (rowsV ps) .no] 0, [(D, 32)]) := by
      intro τ'
      rw [frzD, frz]
      rcases htp with rfl | rfl
      · simp [w32, frz_int _ 18, frz_sl _ 18]
      · simp [w32, frz_int _ 18, frz_sl _ 18]
    rw [hfz]
    simp [hr]
  | succ m ih =>
    intro i F tp τ ω r hi htp h4 h34 h35 h36 w32 hT hr
    refine Rd_lpE c66_l2.eq_1 ?_
    have hlt : i < ps.length := by omega
    have hwr : IntKind.i64.wrap ((i : Int) + 1) = ((i + 1 : Nat) : Int) := by rw [← wrap_i64_nat (n := i + 1) (by omega)]; rfl
    obtain ⟨p, hx⟩ : ∃ p, ps[i] = p := ⟨_, rfl⟩
    have hmem : p ∈ ps := by rw [← hx]; exact List.getElem_mem hlt
    obtain ⟨r1, r2⟩ := hps.row p hmem
    have r3 := hrl p hmem
    have hkl := hps.kle
    rw [List.drop_eq_getElem_cons hlt, hx, finF] at hT
    have rest : ∀ (F' : BS) τ' ω' g6, T = finF (i + 1) (ps.drop (i + 1)) F' → τ' 6 = .ptr D 6 g6 0 → τ' 4 = .ptr D 32 1 0 → τ' 34 = .sl 3 (ps.map fun p => encV (mkAu p)) .no → τ' 35 = .int .i64 ps.length → τ' 36 = .int .i64 i → ω' 6 = (g6, .cells [.int .i64 0, .sl 3 [.agg [.int .i64 (if p.1 then 1 else 0), .sl 3 [] .no, .sl 1 [] .no], .agg [.int .i64 0, .sl 3 (p.2.map fun r => encV (mkRow r)) .no, .sl 1 [] .no]] .no, .sl 1 [] .no]) →
        ω' 32 = (1, .cells [.int .i64 ps.length, .int .i64 k, .int .u64 F'.1.toNat, .int .u64 F'.2.toNat, .sl 1 ((rowsV ps).take i) tp]) →
        Rd (Loc Pg Gl) .im (RetQ [.tmp 2, .tmp 3] r S) [.c c66_j0, .blk 2, .c c66_k3, .lp c66_l2, .blk 1, .c c66_k4] (stF 95 D τ' ω' S) := by
      intro F' τ' ω' g6 hT' g6' g4 g34 g35 g36 v6 v32
      unfold c66_j0
      have hkl' : p.2.length ≤ 4 := by omega
      simp [g6', v6]
      refine l66_1 D ps.length hn p.2 hkl' (fun r hr => ⟨r2 r hr, r3 r hr⟩) _ _ S τ' ω' p.2.length 0 _ _ (by omega) ?_ ?_ ?_ ?_ ?_ ?_ ?_ ?_
      case refine_8 =>
        intro τ2 ω2 hk2 u1 u32 q7
        have q4 := hk2 4 (by unfold keep66b; omega); have q34 := hk2 34 (by unfold keep66b; omega); have q35 := hk2 35 (by unfold keep66b; omega); have q36 := hk2 36 (by unfold keep66b; omega)
        rw [g4] at q4; rw [g34] at q34; rw [g35] at q35; rw [g36] at q36; rw [v32] at u32
        have hl : (List.take i (rowsV ps)).length = i := by simp [rowsV]; omega
        have hle : (i + 1) * 24 ≤ 1099511627776 := by omega
        have htk : (rowsV ps).take (i + 1) = (rowsV ps).take i ++ [.sl 2 (p.2.map fun r => encS (toN r)) .no] := by
          rw [List.take_add_one]; simp [rowsV, hlt, hx]
        generalize hA : List.take i (rowsV ps) = A at *
        simp [c66_k2, q4, q7, u32, hl, hle, htp, c66_k3, q36, hwr]
        refine ih (i + 1) F' .tip _ _ r (by omega) (.inl rfl) ?_ ?_ ?_ ?_ ?_ hT' hr
        case refine_5 => rw [htk]; simp
        all_goals simp [q34, q35, q4]
      case refine_5 => intro x hx; rcases hx with rfl | rfl | rfl | rfl | rfl <;> simp
      all_goals simp
    cases hb : p.1 with
    | false =>
      rw [hb] at hT
      simp at hT
      simp [h4, h34, h35, h36, hlt, hx, encV_au, hb]
      refine rest F _ _ ((ω 6).1 + 1) hT ?_ ?_ ?_ ?_ ?_ ?_ ?_
      all_goals simp [h4, h34, h35, h36, w32, hb, encV_au]
    | true =>
      rw [hb, if_pos rfl] at hT
      simp [h4, h34, h35, h36, hlt, hx, encV_au, hb, w32]
      refine Rd_call (spec101 _ F i (by omega)) (by simp [encS]) ?_
      simp [encS, w32, -BitVec.toNat_or]
      refine rest (F.or (BS.single i)) _ _ ((ω 6).1 + 1) hT ?_ ?_ ?_ ?_ ?_ ?_ ?_
      all_goals simp [h4, h34, h35, h36, w32, hb, encV_au]

theorem isF_typ {k : Nat} (h1 : 1 ≤ k) (h4 : k ≤ 4) : shapedF (typ k) = true := by
  have : k = 1 ∨ k = 2 ∨ k = 3 ∨ k = 4 := by omega
  rcases this with rfl | rfl | rfl | rfl <;> rfl
theorem spec66_ok (D k : Nat) (ps : List (Bool × List (List Nat))) (hps : AuOk k ps) (hrl : ∀ p ∈ ps, ∀ r ∈ p.2, r.length ≤ maxLen) (hY : isY (auY k ps) = true) (hv : ∀ v ∈ (auY k ps).m, fitV v) (hb : nodesVs (auY k ps).m ≤ 2 ^ 32) :
    Go.Ab.Loc Pg Gl D 66 [encY (auY k ps)] [] (.tup [encA (paOf k ps), .int .i64 0]) [] := by
  have hn := hps.len
  refine loc_rd mixedP tok rfl rfl fun S => ?_
  unfold c66
  generalize hr : AV.tup [encA (paOf k ps), .int .i64 0] = r
  have h95 := spec95 (auY k ps) (fitF_typ k) (by show (ps.map mkAu).length ≤ maxLen; rw [List.length_map]; unfold maxLen; omega) hv hb (D + 1)
  have h100 := spec100 (typ k) (isF_typ hps.kpos hps.kle) (D + 1)
  have hl : decide (lettersF (typ k) ≠ 0) = true := by rw [letters_typ hps.kpos hps.kle]; have := hps.kpos; simp; omega
  rw [hY] at h95
  rw [hl] at h100
  rw [encY_au] at h95 ⊢
  have htyp : encF (typ k) = .agg [.int .i64 2, .int .i64 0, .sl 3 [encF (.mk 1 2 []), encF (.mk 4 k [.mk 5 0 [.mk 0 0 []]])] .no] := by unfold typ; rw [encF_mk]; rfl
  rw [htyp] at h100
  simp
  refine Rd_call h95 (by simp) ?_
  simp
  refine Rd_call h100 (by simp) ?_
  simp [encF_mk]
  refine l66_2 D k ps hps hrl S (finF 0 ps (0#64, 0#64)) ps.length 0 (0#64, 0#64) .tip _ _ r (by omega) (.inl rfl) ?_ ?_ ?_ ?_ ?_ (by simp) ?_
  case refine_6 => rw [← hr, encA, paOf, rowsV]; simp [Function.comp_def]
  all_goals simp
theorem spec66_bad (D : Nat) (s : Sy) (hf : fitF s.f) (hl : s.m.length ≤ maxLen) (hv : ∀ v ∈ s.m, fitV v) (hb : nodesVs s.m ≤ 2 ^ 32) (h : isY s = false ∨ lettersF s.f = 0) :
    Go.Ab.Loc Pg Gl D 66 [encY s] [] (.tup [.nilp, .int .i64 (if isY s then 1 else 30)]) [] := by
  refine loc_rd mixedP tok rfl rfl fun S => ?_
  unfold c66
  have h95 := spec95 s hf hl hv hb (D + 1)
  rw [encY] at h95 ⊢
  simp
  refine Rd_call h95 (by simp) ?_
  cases hy : isY s with
  | false => simp
  | true =>
    have hl0 : lettersF s.f = 0 := h.resolve_left (by rw [hy]; simp)
    have hsh : shapedF s.f = true := isF_shaped (by unfold isY at hy; simp only [Bool.and_eq_true] at hy; exact hy.1)
    have h100 := spec100 s.f hsh (D + 1)
    rw [hl0, encF_eta s.f] at h100
    simp
    refine Rd_call h100 (by simp) ?_
    simp
end Go.Ab.Tab
/- Automata: the program's Right. -/
namespace Go.Ab.Tab
open Go Go.Ab
set_option maxRecDepth 10000
set_option linter.unusedVariables false
set_option linter.unusedSimpArgs false

def nextA (A : PA) (u : BS) (a : Nat) : BS := nxtB A.rows a u A.n 0 (0#64, 0#64)
noncomputable def lettB (A : PA) (rs : List PS) (p : PS) : Nat → Nat → Bool
  | 0, _ => true
  | j + 1, a => decide (cl rs (nextA A p.1 a) = cl rs (nextA A p.2 a)) && lettB A rs p j (a + 1)
noncomputable def rightB (A : PA) (rs : List PS) (l : List PS) : Bool := l.all fun p => decide (endsB A.F p.1 = endsB A.F p.2) && lettB A rs p A.k 0

theorem l81_0 (D : Nat) (A : PA) (hn : A.n ≤ 100) (hk : A.k ≤ 4) (hrows : A.rows.length = A.n) (hw : ∀ r ∈ A.rows, A.k ≤ r.length) (rs : List PS) (hlen : rs.length ≤ 1000) (p : PS) (g6 : Nat) (v8 v9 v10 : AV) (S) (k : List AI) (r : AV) : ∀ (m a : Nat) (τ ω), a + m = A.k →
    τ 0 = encA A → τ 1 = .sl 4 (rs.map encPS) .no → τ 6 = .ptr D 6 g6 0 → τ 8 = v8 → τ 9 = v9 → τ 10 = v10 → τ 26 = .int .i64 A.k → τ 27 = .int .i64 a →
    ω 6 = (g6, .cells [.int .u64 p.1.1.toNat, .int .u64 p.1.2.toNat, .int .u64 p.2.1.toNat, .int .u64 p.2.2.toNat]) →
    (lettB A rs p m a = false → r = .bool false) →
    (lettB A rs p m a = true → ∀ τ' ω', τ' 0 = encA A → τ' 1 = .sl 4 (rs.map encPS) .no → τ' 8 = v8 → τ' 9 = v9 → τ' 10 = v10 → Rd (Loc Pg Gl) .im (RetQ [.tmp 4] r S) k (stF 46 D τ' ω' S)) →
    Rd (Loc Pg Gl) .im (RetQ [.tmp 4] r S) (.lp c81_l0 :: .blk 2 :: k) (stF 46 D τ ω S) := by
  intro m
  induction m with
  | zero =>
    intro a τ ω ha h0 h1 h6 h8 h9 h10 h26 h27 w6 hf hend
    refine Rd_lpE c81_l0.eq_1 ?_
    obtain rfl : a = A.k := by omega
    simp [h26, h27]
    refine hend rfl _ _ ?_ ?_ ?_ ?_ ?_
    all_goals simp [h0, h1, h8, h9, h10]
  | succ m ih =>
    intro a τ ω ha h0 h1 h6 h8 h9 h10 h26 h27 w6 hf hend
    refine Rd_lpE c81_l0.eq_1 ?_
    have hlt : a < A.k := by omega
    have hwr : IntKind.i64.wrap ((a : Int) + 1) = ((a + 1 : Nat) : Int) := by rw [← wrap_i64_nat (n := a + 1) (by omega)]; rfl
    rw [lettB] at hf hend
    have s1 := spec70 (D + 1) A hn hrows a (fun r hr => by have := hw r hr; omega) p.1
    have s2 := spec70 (D + 1) A hn hrows a (fun r hr => by have := hw r hr; omega) p.2
    have s3 := spec62 (D + 1) rs hlen (nextA A p.1 a, nextA A p.2 a)
    simp only at s3
    have e1 : nxtB A.rows a p.1 A.n 0 (0#64, 0#64) = nextA A p.1 a := rfl
    have e2 : nxtB A.rows a p.2 A.n 0 (0#64, 0#64) = nextA A p.2 a := rfl
    rw [e1] at s1
    rw [e2] at s2
    simp [h0, h1, h6, h26, h27, w6, hlt, encA]
    refine Rd_drCall s1 (by simp [encA, encS]) ?_
    simp [h0, h6, w6, h27, encA]
    refine Rd_drCall s2 (by simp [encA, encS]) ?_
    simp [encS]
    refine Rd_drCall s3 (by simp [encPS, h1]) ?_
    by_cases hc : cl rs (nextA A p.1 a) = cl rs (nextA A p.2 a)
    · rw [decide_eq_true hc, Bool.true_and] at hf hend
      simp [hc, h27, hwr]
      refine ih (a + 1) _ _ (by omega) ?_ ?_ ?_ ?_ ?_ ?_ ?_ ?_ ?_ hf hend
      all_goals simp [h0, h1, h6, h8, h9, h10, h26, w6, encA]
    · rw [decide_eq_false hc, Bool.false_and] at hf
      simp [hc, hf rfl]

theorem l81_1 (D : Nat) (A : PA) (hn : A.n ≤ 100) (hk : A.k ≤ 4) (hrows : A.rows.length = A.n) (hw : ∀ r ∈ A.rows, A.k ≤ r.length) (rs : List PS) (hlen : rs.length ≤ 1000) (S) : ∀ (m i : Nat) (τ ω) (r : AV), i + m = rs.length →
    τ 0 = encA A → τ 1 = .sl 4 (rs.map encPS) .no → τ 8 = .sl 4 (rs.map encPS) .no → τ 9 = .int .i64 rs.length → τ 10 = .int .i64 i → r = .bool (rightB A rs (rs.drop i)) →
    Rd (Loc Pg Gl) .im (RetQ [.tmp 4] r S) [.lp c81_l1, .blk 0, .c c81_k1] (stF 46 D τ ω S) := by
  intro m
  induction m with
  | zero =>
    intro i τ ω r hi h0 h1 h8 h9 h10 hr
    refine Rd_lpE c81_l1.eq_1 ?_
    obtain rfl : i = rs.length := by omega
    rw [List.drop_length, rightB, List.all_nil] at hr
    simp [h0, h1, h8, h9, h10, c81_k1, hr]
  | succ m ih =>
    intro i τ ω r hi h0 h1 h8 h9 h10 hr
    refine Rd_lpE c81_l1.eq_1 ?_
    have hlt : i < rs.length := by omega
    have hwr : IntKind.i64.wrap ((i : Int) + 1) = ((i + 1 : Nat) : Int) := by rw [← wrap_i64_nat (n := i + 1) (by omega)]; rfl
    obtain ⟨p, hx⟩ : ∃ p, rs[i] = p := ⟨_, rfl⟩
    rw [List.drop_eq_getElem_cons hlt, hx, rightB, List.all_cons] at hr
    have s1 := spec69 (D + 1) A p.1
    have s2 := spec69 (D + 1) A p.2
    simp [h0, h8, h9, h10, hlt, hx, encPS]
    refine Rd_drCall s1 (by simp [h0, encA, encS]) ?_
    simp [h0, encA]
    refine Rd_drCall s2 (by simp [encA, encS]) ?_
    by_cases he : endsB A.F p.1 = endsB A.F p.2
    case neg =>
      rw [decide_eq_false he, Bool.false_and, Bool.false_and] at hr
      generalize endsB A.F p.1 = b1 at he
      generalize endsB A.F p.2 = b2 at he
      cases b1 <;> cases b2 <;> first | exact absurd rfl he | simp [hr]
    rw [decide_eq_true he, Bool.true_and] at hr
    rw [he]
    have key : ∀ τ' ω', τ' 0 = encA A → τ' 1 = .sl 4 (rs.map encPS) .no → τ' 6 = .ptr D 6 ((ω 6).1 + 1) 0 → τ' 8 = .sl 4 (rs.map encPS) .no → τ' 9 = .int .i64 rs.length → τ' 10 = .int .i64 i → τ' 26 = .int .i64 A.k → τ' 27 = .int .i64 (0 : Nat) → ω' 6 = ((ω 6).1 + 1, .cells [.int .u64 p.1.1.toNat, .int .u64 p.1.2.toNat, .int .u64 p.2.1.toNat, .int .u64 p.2.2.toNat]) →
        Rd (Loc Pg Gl) .im (RetQ [.tmp 4] r S) (.lp c81_l0 :: .blk 2 :: .blk 1 :: .c c81_k0 :: [.lp c81_l1, .blk 0, .c c81_k1]) (stF 46 D τ' ω' S) := by
      intro τ' ω' g0 g1 g6 g8 g9 g10 g26 g27 v6
      refine l81_0 D A hn hk hrows hw rs hlen p _ _ _ _ S _ r A.k 0 τ' ω' (by omega) g0 g1 g6 g8 g9 g10 g26 g27 v6 (fun h => by rw [hr, h]; rfl) ?_
      intro hl τ2 ω2 q0 q1 q8 q9 q10
      rw [hl, Bool.true_and] at hr
      simp [c81_k0, q10, hwr]
      refine ih (i + 1) _ _ r (by omega) ?_ ?_ ?_ ?_ ?_ hr
      all_goals simp [q0, q1, q8, q9]
    generalize endsB A.F p.2 = b2
    cases b2
    · simp [h0, encA]
      refine key _ _ ?_ ?_ ?_ ?_ ?_ ?_ ?_ ?_ ?_
      all_goals simp [h0, h1, h8, h9, h10, encA]
    · simp [h0, encA]
      refine key _ _ ?_ ?_ ?_ ?_ ?_ ?_ ?_ ?_ ?_
      all_goals simp [h0, h1, h8, h9, h10, encA]
theorem spec81 (D : Nat) (A : PA) (hn : A.n ≤ 100) (hk : A.k ≤ 4) (hrows : A.rows.length = A.n) (hw : ∀ r ∈ A.rows, A.k ≤ r.length) (rs : List PS) (hlen : rs.length ≤ 1000) : Go.Ab.Loc Pg Gl D 81 [encA A, .sl 4 (rs.map encPS) .no] [] (.bool (rightB A rs rs)) [] := by
  refine loc_rd mixedP tok rfl rfl fun S => ?_
  unfold c81
  generalize hr : AV.bool (rightB A rs rs) = r
  simp [encA]
  refine l81_1 D A hn hk hrows hw rs hlen S rs.length 0 _ _ r (by omega) ?_ ?_ ?_ ?_ ?_ hr.symm
  all_goals simp [encA]
end Go.Ab.Tab
/- Automata: the plain law of Right. -/
namespace Go.Ab.Tab
open Go Go.Ab
set_option maxRecDepth 10000
set_option linter.unusedVariables false
set_option linter.unusedSimpArgs false

/-! sets by a criterion -/
theorem has_toN {y : Nat} (hy : y < 128) : ∀ {r : List Nat}, (∀ x ∈ r, x < 128) → (toN r).has y = decide (y ∈ r)
  | [], _ => by
    show BS.has (0#64, 0#64) y = _
    unfold BS.has; simp
  | x :: r, h => by
    have e : toN (x :: r) = (BS.single x).or (toN r) := rfl
    rw [e, has_or, has_single (h x (by simp)) hy, has_toN hy fun z hz => h z (by simp [hz])]
    simp [Bool.decide_or]
def bsOf (P : Nat → Bool) : BS := toN ((List.range 128).filter P)
theorem has_bsOf (P : Nat → Bool) {x : Nat} (hx : x < 128) : (bsOf P).has x = P x := by
  unfold bsOf
  rw [has_toN hx fun z hz => by have := (List.mem_filter.1 hz).1; simpa using this]
  cases h : P x with
  | true => exact decide_eq_true (List.mem_filter.2 ⟨by simpa using hx, h⟩)
  | false => exact decide_eq_false fun q => by have := (List.mem_filter.1 q).2; rw [h] at this; cases this

/-! next -/
def cellA (A : PA) (x a : Nat) : BS := (A.rows[x]?.getD [])[a]?.getD (0#64, 0#64)
theorem has_nxtB (rows : List (List BS)) (a : Nat) (u : BS) (y : Nat) : ∀ (j x : Nat) (s : BS), (nxtB rows a u j x s).has y = true ↔ s.has y = true ∨ ∃ z, x ≤ z ∧ z < x + j ∧ u.has z = true ∧ ((rows[z]?.getD [])[a]?.getD (0#64, 0#64)).has y = true
  | 0, x, s => by
    rw [nxtB]
    constructor
    · exact .inl
    · rintro (h | ⟨z, h1, h2, _⟩)
      · exact h
      · omega
  | j + 1, x, s => by
    rw [nxtB, has_nxtB rows a u y j (x + 1)]
    constructor
    · rintro (h | ⟨z, h1, h2, h3⟩)
      · by_cases hx : u.has x = true
        · rw [if_pos hx, has_or, Bool.or_eq_true] at h
          rcases h with h | h
          · exact .inl h
          · exact .inr ⟨x, by omega, by omega, hx, h⟩
        · rw [if_neg hx] at h; exact .inl h
      · exact .inr ⟨z, by omega, by omega, h3⟩
    · rintro (h | ⟨z, h1, h2, h3, h4⟩)
      · refine .inl ?_
        split
        · rw [has_or, h]; rfl
        · exact h
      · by_cases e : z = x
        · subst e
          refine .inl ?_
          rw [if_pos h3, has_or, h4]; simp
        · exact .inr ⟨z, by omega, by omega, h3, h4⟩
theorem has_nextA {A : PA} {u : BS} {a y : Nat} : (nextA A u a).has y = true ↔ ∃ z, z < A.n ∧ u.has z = true ∧ (cellA A z a).has y = true := by
  unfold nextA
  rw [has_nxtB]
  constructor
  · rintro (h | ⟨z, _, h2, h3⟩)
    · exfalso; unfold BS.has at h; simp at h
    · exact ⟨z, by omega, h3⟩
  · rintro ⟨z, h2, h3⟩
    exact .inr ⟨z, by omega, by omega, h3⟩
theorem has_lt {u : BS} {x : Nat} (h : u.has x = true) : x < 128 := by
  apply Classical.byContradiction; intro hx
  unfold BS.has at h
  rw [if_neg (by omega)] at h
  rw [BitVec.getLsbD_of_ge _ _ (by omega)] at h
  cases h
theorem nextA_sub {A : PA} {u w : BS} {a : Nat} : (nextA A u a).sub w = true ↔ ∀ z, z < A.n → u.has z = true → (cellA A z a).sub w = true := by
  rw [sub_iff]
  constructor
  · intro h z hz hu
    rw [sub_iff]
    intro y hy hc
    exact h y hy (has_nextA.2 ⟨z, hz, hu, hc⟩)
  · intro h y hy hn
    obtain ⟨z, hz, hu, hc⟩ := has_nextA.1 hn
    exact sub_iff.1 (h z hz hu) y hy hc

theorem cl_leastT {ps : List PS} {s t : BS} (h : s.sub (cl ps t) = true) : (cl ps s).sub (cl ps t) = true := (cl_is ps s).least _ h (cl_is ps t).shut
/-- what Right says of the pairs -/
structure RightOk (A : PA) (rs : List PS) : Prop where
  ends : ∀ p ∈ rs, endsB A.F p.1 = endsB A.F p.2
  next : ∀ p ∈ rs, ∀ a, a < A.k → cl rs (nextA A p.1 a) = cl rs (nextA A p.2 a)
theorem lettB_all {A : PA} {rs : List PS} {p : PS} : ∀ {j a : Nat}, lettB A rs p j a = true ↔ ∀ b, a ≤ b → b < a + j → cl rs (nextA A p.1 b) = cl rs (nextA A p.2 b)
  | 0, a => by rw [lettB]; exact ⟨fun _ b h1 h2 => by omega, fun _ => rfl⟩
  | j + 1, a => by
    rw [lettB, Bool.and_eq_true, decide_eq_true_eq, lettB_all]
    constructor
    · rintro ⟨h1, h2⟩ b hb1 hb2
      by_cases e : b = a
      · subst e; exact h1
      · exact h2 b (by omega) (by omega)
    · intro h
      exact ⟨h a (by omega) (by omega), fun b h1 h2 => h b (by omega) (by omega)⟩
theorem rightB_iff {A : PA} {rs : List PS} : rightB A rs rs = true ↔ RightOk A rs := by
  unfold rightB
  rw [List.all_eq_true]
  constructor
  · intro h
    refine ⟨fun p hp => ?_, fun p hp a ha => ?_⟩
    · have := h p hp
      simp only [Bool.and_eq_true, decide_eq_true_eq] at this
      exact this.1
    · have := h p hp
      simp only [Bool.and_eq_true] at this
      exact lettB_all.1 this.2 a (by omega) (by omega)
  · intro h p hp
    rw [Bool.and_eq_true, decide_eq_true_eq]
    exact ⟨h.ends p hp, lettB_all.2 fun b _ hb => h.next p hp b (by omega)⟩

theorem right_next1 {A : PA} {rs : List PS} (h : RightOk A rs) {u v : BS} (huv : cl rs u = cl rs v) {a : Nat} (ha : a < A.k) : (nextA A u a).sub (cl rs (nextA A v a)) = true := by
  obtain ⟨W, hW⟩ : ∃ W : BS, W = bsOf fun x => !(decide (x < A.n)) || (cellA A x a).sub (cl rs (nextA A v a)) := ⟨_, rfl⟩
  have hWs : ∀ t : BS, t.sub W = true ↔ (nextA A t a).sub (cl rs (nextA A v a)) = true := by
    intro t
    rw [nextA_sub, sub_iff]
    constructor
    · intro q z hz ht
      have := q z (has_lt ht) ht
      rw [hW, has_bsOf _ (has_lt ht), decide_eq_true hz] at this
      simpa using this
    · intro q z hz ht
      rw [hW, has_bsOf _ hz]
      by_cases hn : z < A.n
      · rw [q z hn ht]; simp
      · rw [decide_eq_false hn]; rfl
  have hshut : Shut rs W := by
    intro p hp
    have e := h.next p hp a ha
    refine ⟨fun k => (hWs _).2 ?_, fun k => (hWs _).2 ?_⟩
    · have := cl_leastT ((hWs _).1 k)
      rw [e] at this
      exact sub_trans (cl_is rs _).up this
    · have := cl_leastT ((hWs _).1 k)
      rw [← e] at this
      exact sub_trans (cl_is rs _).up this
  have hv : v.sub W = true := (hWs v).2 (cl_is rs _).up
  have hc := (cl_is rs v).least W hv hshut
  rw [← huv] at hc
  exact (hWs u).1 (sub_trans (cl_is rs u).up hc)
theorem right_next {A : PA} {rs : List PS} (h : RightOk A rs) {u v : BS} (huv : cl rs u = cl rs v) {a : Nat} (ha : a < A.k) : cl rs (nextA A u a) = cl rs (nextA A v a) :=
  sub_antisymm (cl_leastT (right_next1 h huv ha)) (cl_leastT (right_next1 h huv.symm ha))

theorem endsB_iff {F u : BS} : endsB F u = true ↔ ∃ x, u.has x = true ∧ F.has x = true := by
  unfold endsB
  rw [decide_eq_true_eq]
  constructor
  · intro h
    apply Classical.byContradiction; intro hn
    apply h
    apply BitVec.eq_of_getLsbD_eq
    intro i hi
    rw [BitVec.getLsbD_or, BitVec.getLsbD_and, BitVec.getLsbD_and]
    have h1 : (u.1.getLsbD i && F.1.getLsbD i) = false := by
      cases q : (u.1.getLsbD i && F.1.getLsbD i) with
      | false => rfl
      | true =>
        rw [Bool.and_eq_true] at q
        exact absurd ⟨i, by unfold BS.has; rw [if_pos hi]; exact q.1, by unfold BS.has; rw [if_pos hi]; exact q.2⟩ hn
    have h2 : (u.2.getLsbD i && F.2.getLsbD i) = false := by
      cases q : (u.2.getLsbD i && F.2.getLsbD i) with
      | false => rfl
      | true =>
        rw [Bool.and_eq_true] at q
        refine absurd ⟨i + 64, ?_, ?_⟩ hn
        · unfold BS.has; rw [if_neg (by omega), Nat.add_sub_cancel]; exact q.1
        · unfold BS.has; rw [if_neg (by omega), Nat.add_sub_cancel]; exact q.2
    rw [h1, h2]; simp
  · rintro ⟨x, hu, hF⟩ h
    unfold BS.has at hu hF
    split at hu
    · rename_i hx
      rw [if_pos hx] at hF
      have := congrArg (fun b => BitVec.getLsbD b x) h
      simp only [BitVec.getLsbD_or, BitVec.getLsbD_and, hu, hF] at this
      simp at this
    · rename_i hx
      rw [if_neg hx] at hF
      have := congrArg (fun b => BitVec.getLsbD b (x - 64)) h
      simp only [BitVec.getLsbD_or, BitVec.getLsbD_and, hu, hF] at this
      simp at this
theorem right_ends1 {A : PA} {rs : List PS} (h : RightOk A rs) {u v : BS} (huv : cl rs u = cl rs v) (hv : endsB A.F v = false) : endsB A.F u = false := by
  obtain ⟨W, hW⟩ : ∃ W : BS, W = bsOf fun x => !(A.F.has x) := ⟨_, rfl⟩
  have hWs : ∀ t : BS, t.sub W = true ↔ endsB A.F t = false := by
    intro t
    rw [sub_iff]
    constructor
    · intro q
      cases he : endsB A.F t with
      | false => rfl
      | true =>
        obtain ⟨x, h1, h2⟩ := endsB_iff.1 he
        have := q x (has_lt h1) h1
        rw [hW, has_bsOf _ (has_lt h1), h2] at this
        cases this
    · intro q z hz ht
      rw [hW, has_bsOf _ hz]
      cases hF : A.F.has z with
      | false => rfl
      | true => rw [endsB_iff.2 ⟨z, ht, hF⟩] at q; cases q
  have hshut : Shut rs W := by
    intro p hp
    have e := h.ends p hp
    exact ⟨fun k => (hWs _).2 (by rw [← e]; exact (hWs _).1 k), fun k => (hWs _).2 (by rw [e]; exact (hWs _).1 k)⟩
  have hc := (cl_is rs v).least W ((hWs v).2 hv) hshut
  rw [← huv] at hc
  exact (hWs u).1 (sub_trans (cl_is rs u).up hc)
theorem right_ends {A : PA} {rs : List PS} (h : RightOk A rs) {u v : BS} (huv : cl rs u = cl rs v) : endsB A.F u = endsB A.F v := by
  cases h1 : endsB A.F v with
  | false => exact right_ends1 h huv h1
  | true =>
    cases h2 : endsB A.F u with
    | true => rfl
    | false => have := right_ends1 h huv.symm h2; rw [h1] at this; cases this
end Go.Ab.Tab
/- Automata: Equal never finds a difference where Right holds. -/
namespace Go.Ab.Tab
open Go Go.Ab
set_option maxRecDepth 10000
set_option linter.unusedVariables false
set_option linter.unusedSimpArgs false

theorem has_zero (x : Nat) : BS.has (0#64, 0#64) x = false := by unfold BS.has; simp
theorem has_finF {x : Nat} (hx : x < 128) : ∀ (l : List (Bool × List (List Nat))) (i : Nat) (F : BS), i + l.length ≤ 128 → ((finF i l F).has x = true ↔ F.has x = true ∨ (i ≤ x ∧ (l[x - i]?.map (·.1)).getD false = true))
  | [], i, F, _ => by
    rw [finF]; simp
  | p :: l, i, F, h => by
    rw [List.length_cons] at h
    rw [finF, has_finF hx l (i + 1) _ (by omega)]
    by_cases e : x = i
    · subst e
      have h1 : ¬ (x + 1 ≤ x ∧ (l[x - (x + 1)]?.map (·.1)).getD false = true) := fun q => by omega
      have h2 : (x ≤ x ∧ ((p :: l)[x - x]?.map (·.1)).getD false = true) ↔ p.1 = true := by simp
      rw [h2]
      by_cases hp : p.1 = true
      · rw [if_pos hp, has_or, has_single hx hx]; simp [hp]
      · rw [if_neg hp]
        constructor
        · rintro (q | q)
          · exact .inl q
          · exact absurd q h1
        · rintro (q | q)
          · exact .inl q
          · exact absurd q hp
    · have h1 : ∀ q : i + 1 ≤ x, (p :: l)[x - i]? = l[x - (i + 1)]? := by
        intro q
        obtain ⟨d, rfl⟩ : ∃ d, x = i + 1 + d := ⟨x - (i + 1), by omega⟩
        rw [show i + 1 + d - i = d + 1 by omega, show i + 1 + d - (i + 1) = d by omega]; rfl
      have h3 : (if p.1 = true then F.or (BS.single i) else F).has x = F.has x := by
        split
        · rw [has_or, has_single (by omega) hx]; simp [e]
        · rfl
      rw [h3]
      constructor
      · rintro (q | ⟨q1, q2⟩)
        · exact .inl q
        · refine .inr ⟨by omega, ?_⟩
          rw [h1 q1]; exact q2
      · rintro (q | ⟨q1, q2⟩)
        · exact .inl q
        · refine .inr ⟨by omega, ?_⟩
          rw [← h1 (by omega)]; exact q2
theorem finL_ends {k : Nat} {ps : List (Bool × List (List Nat))} (hn : ps.length ≤ 100) {l : List Int} (hl : Below ps.length l) : finL ps l = endsB (paOf k ps).F (toS l) := by
  have hF : ∀ x, x < 128 → ((paOf k ps).F.has x = true ↔ (ps[x]?.map (·.1)).getD false = true) := by
    intro x hx
    show (finF 0 ps (0#64, 0#64)).has x = true ↔ _
    rw [has_finF hx ps 0 _ (by omega), has_zero]
    simp
  rw [Bool.eq_iff_iff, endsB_iff]
  unfold finL
  rw [List.any_eq_true]
  constructor
  · rintro ⟨x, hx, h⟩
    have hb := hl x hx
    refine ⟨x.toNat, ?_, (hF _ (by omega)).2 h⟩
    rw [has_toS (show ps.length ≤ 128 by omega) hl (by omega), decide_eq_true_eq, Int.toNat_of_nonneg hb.1]; exact hx
  · rintro ⟨x, hu, hf⟩
    have hx := has_lt hu
    rw [has_toS (show ps.length ≤ 128 by omega) hl hx, decide_eq_true_eq] at hu
    refine ⟨x, hu, ?_⟩
    rw [Int.toNat_natCast]
    exact (hF x hx).1 hf

theorem cellA_paOf (k : Nat) (ps : List (Bool × List (List Nat))) (x a : Nat) : cellA (paOf k ps) x a = toN (rowN ps x a) := by
  unfold cellA rowN
  show ((ps.map fun p => p.2.map toN)[x]?.getD [])[a]?.getD _ = _
  rw [List.getElem?_map]
  cases ps[x]? with
  | none => rfl
  | some p =>
    simp only [Option.map_some, Option.getD_some, List.getElem?_map]
    cases p.2[a]? with
    | none => rfl
    | some r => rfl
theorem has_nxtL {ps : List (Bool × List (List Nat))} {a y : Nat} : ∀ {l : List Int}, (nxtL ps a l).has y = true ↔ ∃ x ∈ l, (toN (rowN ps x.toNat a)).has y = true
  | [] => by rw [nxtL, has_zero]; simp
  | x :: l => by
    rw [nxtL, has_or, Bool.or_eq_true, has_nxtL]
    simp
theorem nxtL_next {k : Nat} {ps : List (Bool × List (List Nat))} (hn : ps.length ≤ 100) {l : List Int} (hl : Below ps.length l) (a : Nat) : nxtL ps a l = nextA (paOf k ps) (toS l) a := by
  refine BS.ext fun y hy => ?_
  rw [Bool.eq_iff_iff, has_nxtL, has_nextA]
  constructor
  · rintro ⟨x, hx, h⟩
    have hb := hl x hx
    refine ⟨x.toNat, (by show x.toNat < ps.length; omega), ?_, by rw [cellA_paOf]; exact h⟩
    rw [has_toS (show ps.length ≤ 128 by omega) hl (by omega), decide_eq_true_eq, Int.toNat_of_nonneg hb.1]; exact hx
  · rintro ⟨x, hx, hu, h⟩
    have hx' : x < ps.length := hx
    rw [has_toS (show ps.length ≤ 128 by omega) hl (by omega), decide_eq_true_eq] at hu
    refine ⟨x, hu, ?_⟩
    rw [Int.toNat_natCast, ← cellA_paOf k]; exact h
theorem has_fullN {n x : Nat} (hn : n ≤ 128) (hx : x < n) : (fullS n).has x = true := by
  unfold fullS
  rw [has_toS hn (full_below n) (by omega), decide_eq_true_eq, List.mem_map]
  exact ⟨x, by simpa using hx, rfl⟩
theorem rowN_lt {k : Nat} {ps : List (Bool × List (List Nat))} (hps : AuOk k ps) {x a y : Nat} (h : y ∈ rowN ps x a) : y < ps.length := by
  unfold rowN at h
  cases hx : ps[x]? with
  | none => rw [hx] at h; simp at h
  | some p =>
    rw [hx] at h
    simp only [Option.map_some, Option.getD_some] at h
    cases hr : p.2[a]? with
    | none => rw [hr] at h; simp at h
    | some r =>
      rw [hr, Option.getD_some] at h
      exact (hps.row p (List.mem_of_getElem? hx)).2 r (List.mem_of_getElem? hr) y h
theorem nxtL_full {k : Nat} {ps : List (Bool × List (List Nat))} (hps : AuOk k ps) (a : Nat) (l : List Int) : (nxtL ps a l).sub (fullS ps.length) = true := by
  have hn := hps.len
  rw [sub_iff]
  intro y hy h
  obtain ⟨x, _, h⟩ := has_nxtL.1 h
  have hr : ∀ z ∈ rowN ps x.toNat a, z < 128 := fun z hz => by have := rowN_lt hps hz; omega
  rw [has_toN hy hr, decide_eq_true_eq] at h
  exact has_fullN (show ps.length ≤ 128 by omega) (rowN_lt hps h)
theorem toS_nx {k : Nat} {ps : List (Bool × List (List Nat))} (hps : AuOk k ps) (a : Nat) {l : List Int} (hl : Below ps.length l) : toS (nx ps a l) = nextA (paOf k ps) (toS l) a := by
  rw [← nxtL_next hps.len hl]
  exact toS_lN hps.len (nxtL_full hps a l)

/-- the pairs in the queue are congruent -/
def CongQ (ps : List (Bool × List (List Nat))) (rs : List PS) (st : List PI × List (List Int)) : Prop := ∀ c ∈ st.1, (VS ps.length c.1 ∧ VS ps.length c.2) ∧ cl rs (toS c.1) = cl rs (toS c.2)
theorem stepE_cong {k : Nat} {ps : List (Bool × List (List Nat))} (hps : AuOk k ps) {rs : List PS} (hR : RightOk (paOf k ps) rs) {p q : List Int} (hp : VS ps.length p) (hq : VS ps.length q) (hpq : cl rs (toS p) = cl rs (toS q)) : ∀ (j a : Nat) {st : List PI × List (List Int)}, a + j ≤ k → CongQ ps rs st → CongQ ps rs (stepE ps p q j a st)
  | 0, a, st, _, h => by rw [stepE]; exact h
  | j + 1, a, st, ha, h => by
    rw [stepE]
    refine stepE_cong hps hR hp hq hpq j (a + 1) (by omega) ?_
    unfold addE
    split
    · exact h
    · intro c hc
      rcases List.mem_append.1 hc with hc | hc
      · exact h c hc
      · rw [List.mem_singleton.1 hc]
        refine ⟨⟨lN_vs hps.len _, lN_vs hps.len _⟩, ?_⟩
        show cl rs (toS (nx ps a p)) = cl rs (toS (nx ps a q))
        rw [toS_nx hps a hp.below, toS_nx hps a hq.below]
        exact right_next hR hpq (show a < k by omega)
theorem equalE_sound {k lim : Nat} {ps : List (Bool × List (List Nat))} (hps : AuOk k ps) {rs : List PS} (hR : RightOk (paOf k ps) rs) : ∀ (m i : Nat) (st : List PI × List (List Int)), CongQ ps rs st → (equalE ps k lim m i st).2 = true → (equalE ps k lim m i st).1 = true
  | 0, i, st, _, _ => by rw [equalE]
  | m + 1, i, st, h, h2 => by
    rw [equalE] at h2 ⊢
    cases hx : st.1[i]? with
    | none => rfl
    | some c =>
      obtain ⟨p, q⟩ := c
      have hc := h _ (List.mem_of_getElem? hx)
      obtain ⟨⟨hp, hq⟩, hpq⟩ := hc
      simp only at hp hq hpq
      have he : finL ps p = finL ps q := by
        rw [finL_ends (k := k) hps.len hp.below, finL_ends (k := k) hps.len hq.below]
        exact right_ends hR hpq
      rw [hx] at h2
      simp only [he, ne_eq, not_true_eq_false, if_false] at h2 ⊢
      split
      · rename_i hl
        rw [if_pos hl] at h2; cases h2
      · rename_i hl
        rw [if_neg hl] at h2
        exact equalE_sound hps hR m (i + 1) _ (stepE_cong hps hR hp hq hpq k 0 (by omega) h) h2
end Go.Ab.Tab
/- Facts of systems that are read. -/
namespace Go.Ab.Tab
open Go Go.Ab
set_option maxRecDepth 10000
set_option linter.unusedVariables false
set_option linter.unusedSimpArgs false

theorem fit_rows {p : Bool × List (List Nat)} (h : fitV (mkAu p)) : ∀ r ∈ p.2, r.length ≤ maxLen := by
  intro r hr
  have h1 := (fitV_gs _).1 h
  have h2 : fitV (.mk 0 (p.2.map mkRow) []) := fitVs_mem h1.2 _ (by simp [mkAu, Va.gs])
  have h3 := (fitV_gs _).1 h2
  have h4 : fitV (mkRow r) := fitVs_mem h3.2 _ (by show mkRow r ∈ p.2.map mkRow; exact List.mem_map.2 ⟨r, hr, rfl⟩)
  have h5 := ((fitV_gs _).1 h4).1.1
  have : (r.map mkSt).length ≤ maxLen := h5
  rwa [List.length_map] at this

theorem fault_ok {s : Sy} {x y : List Int} (h : faultR s [x, y] = 0) : isY s = true ∧ lettersF s.f ≠ 0 ∧ isSet s.m.length x = true ∧ isSet s.m.length y = true := by
  unfold faultR at h
  split at h
  · rename_i h1
    split at h
    · cases h
    · rename_i h2
      split at h
      · rename_i h3
        simp at h3
        exact ⟨h1, h2, h3.1, h3.2⟩
      · cases h
  · cases h
theorem isSetFrom_len {n : Int} : ∀ {l : List Int} {b : Int}, isSetFrom n (some b) l = true → b < n → (l.length : Int) ≤ n - 1 - b
  | [], b, _, hb => by simp; omega
  | a :: l, b, h, hb => by
    rw [isSetFrom] at h
    simp only [Bool.and_eq_true, decide_eq_true_eq, prevOk] at h
    have := isSetFrom_len h.2 h.1.1.2
    rw [List.length_cons]; omega
theorem isSet_len {n : Nat} {l : List Int} (h : isSet n l = true) (hn : n ≤ 100) : l.length ≤ 100 := by
  unfold isSet at h
  cases l with
  | nil => simp
  | cons a l =>
    rw [isSetFrom] at h
    simp only [Bool.and_eq_true, decide_eq_true_eq] at h
    have := isSetFrom_len h.2 h.1.1.2
    rw [List.length_cons]; omega
end Go.Ab.Tab
/- Systems as arguments. -/
namespace Go.Ab
open Go
set_option maxRecDepth 10000
set_option linter.unusedVariables false
set_option linter.unusedSimpArgs false
namespace Tab
theorem u38 : Pg.underlying 38 = some (.slice 40) := by kernel_rfl
theorem u41 : Pg.underlying 41 = some (.slice 125) := by kernel_rfl
theorem s40 : isStruct Pg 40 = true := by kernel_rfl
theorem s125 : isStruct Pg 125 = true := by kernel_rfl
theorem s43 : isStruct Pg 43 = true := by kernel_rfl
theorem f40 : fieldsOf Pg 40 = [(3, 0), (3, 1), (38, 2)] := by kernel_rfl
theorem f125 : fieldsOf Pg 125 = [(3, 0), (41, 1), (23, 2)] := by kernel_rfl
theorem f43 : fieldsOf Pg 43 = [(40, 0), (41, 3)] := by kernel_rfl
theorem z40 : Pg.cellsOf 40 = 3 := by kernel_rfl
theorem z125 : Pg.cellsOf 125 = 3 := by kernel_rfl
theorem z43 : Pg.cellsOf 43 = 4 := by kernel_rfl
theorem z38 : Pg.cellsOf 38 = 1 := by kernel_rfl
theorem z41 : Pg.cellsOf 41 = 1 := by kernel_rfl
theorem g40 : isAggT Pg 40 = true := by kernel_rfl
theorem g125 : isAggT Pg 125 = true := by kernel_rfl
theorem g43 : isAggT Pg 43 = true := by kernel_rfl
theorem g38 : isAggT Pg 38 = false := by kernel_rfl
theorem g41 : isAggT Pg 41 = false := by kernel_rfl

/-- cells of a functor / value, by the fuel -/
theorem ty_slice' {P : Program} {t e : TypeId} {n : Nat} {cs : List AV} (hu : P.underlying t = some (.slice e)) (h : tyOk P (n + 1) t cs) : ∃ xs, cs = [.sl (P.cellsOf e) xs .no] ∧ xs.length ≤ maxLen ∧ ∀ x ∈ xs, ∃ c, x = mkV P e c ∧ tyOk P n e c := by
  simp only [tyOk, hu] at h
  exact h
theorem ty_struct' {P : Program} {t : TypeId} {n : Nat} {cs : List AV} (hs : isStruct P t = true) (h : tyOk P (n + 1) t cs) : cs.length = P.cellsOf t ∧ ∀ f ∈ fieldsOf P t, tyOk P n f.1 ((cs.drop f.2).take (P.cellsOf f.1)) := by
  unfold isStruct at hs
  unfold fieldsOf
  cases hu : P.underlying t with
  | none => rw [hu] at hs; cases hs
  | some d =>
    rw [hu] at hs
    cases d with
    | struct fs =>
      simp only [tyOk, hu] at h
      refine ⟨h.1, fun f hf => ?_⟩
      obtain ⟨g, hg, rfl⟩ := List.mem_map.1 hf
      exact h.2 g hg
    | _ => cases hs
theorem fitFs_of : ∀ {l : List Fu}, (∀ a ∈ l, fitF a) → fitFs l
  | [], _ => by rw [fitFs]; trivial
  | a :: l, h => by rw [fitFs]; exact ⟨h a (by simp), fitFs_of fun b hb => h b (by simp [hb])⟩
theorem three {cs : List AV} (h : cs.length = 3) : ∃ a b c, cs = [a, b, c] := by
  match cs, h with
  | [a, b, c], _ => exact ⟨a, b, c, rfl⟩
theorem ty40 : ∀ (n : Nat) {cs : List AV}, tyOk Pg n 40 cs → ∃ f : Fu, cs = [.int .i64 f.k, .int .i64 f.n, .sl 3 (f.gs.map encF) .no] ∧ fitF f := by
  intro n
  induction n using Nat.strongRecOn with
  | ind n ih =>
    intro cs h
    cases n with
    | zero => cases h
    | succ n =>
      obtain ⟨hl, hf⟩ := ty_struct' s40 h
      rw [f40] at hf
      rw [z40] at hl
      obtain ⟨a, b, c, rfl⟩ := three hl
      have k0 := hf (3, 0) (by simp)
      have k1 := hf (3, 1) (by simp)
      have k2 := hf (38, 2) (by simp)
      rw [z3] at k0 k1
      rw [z38] at k2
      obtain ⟨i, e0, _⟩ := ty_int u3 k0
      obtain ⟨j, e1, _⟩ := ty_int u3 k1
      simp at e0 e1
      subst e0; subst e1
      cases n with
      | zero => cases k2
      | succ n =>
        obtain ⟨xs, e2, h2, h3⟩ := ty_slice' u38 k2
        obtain ⟨gs, hgs, hfit⟩ := map_exists encF fitF xs fun x hx => by
          obtain ⟨c', rfl, hc⟩ := h3 x hx
          obtain ⟨f, rfl, hff⟩ := ih n (by omega) hc
          exact ⟨f, by rw [mkV_agg g40, encF_eta], hff⟩
        subst hgs
        rw [z40] at e2
        simp at e2
        subst e2
        refine ⟨.mk i j gs, rfl, ?_⟩
        rw [fitF]
        exact ⟨by simpa using h2, fitFs_of hfit⟩
theorem ty125 : ∀ (n : Nat) {cs : List AV}, tyOk Pg n 125 cs → ∃ v : Va, cs = [.int .i64 v.n, .sl 3 (v.gs.map encV) .no, .sl 1 (v.ws.map (AV.int .i64)) .no] ∧ fitV v := by
  intro n
  induction n using Nat.strongRecOn with
  | ind n ih =>
    intro cs h
    cases n with
    | zero => cases h
    | succ n =>
      obtain ⟨hl, hf⟩ := ty_struct' s125 h
      rw [f125] at hf
      rw [z125] at hl
      obtain ⟨a, b, c, rfl⟩ := three hl
      have k0 := hf (3, 0) (by simp)
      have k1 := hf (41, 1) (by simp)
      have k2 := hf (23, 2) (by simp)
      rw [z3] at k0
      rw [z41] at k1
      rw [z23] at k2
      obtain ⟨i, e0, _⟩ := ty_int u3 k0
      obtain ⟨ws, e2, hws⟩ := ty23 k2
      simp at e0 e2
      subst e0; subst e2
      cases n with
      | zero => cases k1
      | succ n =>
        obtain ⟨xs, e1, h2, h3⟩ := ty_slice' u41 k1
        obtain ⟨gs, hgs, hfit⟩ := map_exists encV fitV xs fun x hx => by
          obtain ⟨c', rfl, hc⟩ := h3 x hx
          obtain ⟨f, rfl, hff⟩ := ih n (by omega) hc
          exact ⟨f, by rw [mkV_agg g125, encV_eta], hff⟩
        subst hgs
        rw [z125] at e1
        simp at e1
        subst e1
        refine ⟨.mk i gs ws, rfl, ?_⟩
        rw [fitV]
        exact ⟨⟨by simpa using h2, hws⟩, fitVs_of hfit⟩
theorem arg43 {a : AV} (h : Arg Pg 43 a) : ∃ s : Sy, a = encY s ∧ fitF s.f ∧ s.m.length ≤ maxLen ∧ ∀ v ∈ s.m, fitV v := by
  obtain ⟨fuel, cs, h1, h2, rfl⟩ := h
  cases fuel with
  | zero => cases h1
  | succ n =>
    obtain ⟨hl, hf⟩ := ty_struct' s43 h1
    rw [f43] at hf
    rw [z43] at hl
    obtain ⟨a, b, c, d, rfl⟩ : ∃ a b c d, cs = [a, b, c, d] := by
      match cs, hl with
      | [a, b, c, d], _ => exact ⟨a, b, c, d, rfl⟩
    have k0 := hf (40, 0) (by simp)
    have k1 := hf (41, 3) (by simp)
    rw [z40] at k0
    rw [z41] at k1
    obtain ⟨f, e0, hff⟩ := ty40 _ k0
    simp at e0
    obtain ⟨rfl, rfl, rfl⟩ := e0
    cases n with
    | zero => cases k1
    | succ n =>
      obtain ⟨xs, e1, h2', h3⟩ := ty_slice' u41 k1
      obtain ⟨m, hm, hfit⟩ := map_exists encV fitV xs fun x hx => by
        obtain ⟨c', rfl, hc⟩ := h3 x hx
        obtain ⟨v, rfl, hvv⟩ := ty125 _ hc
        exact ⟨v, by rw [mkV_agg g125, encV_eta], hvv⟩
      subst hm
      rw [z125] at e1
      simp at e1
      subst e1
      refine ⟨⟨f, m⟩, by rw [mkV_agg g43]; rfl, hff, by simpa using h2', hfit⟩
end Tab
end Go.Ab
/- Automata: the reference's Right, Letters of words, Accepts; the program's run. -/
namespace Go.Ab.Tab
open Go Go.Ab
set_option maxRecDepth 10000
set_option linter.unusedVariables false
set_option linter.unusedSimpArgs false

/-! words -/
def wordOk (k : Nat) (w : List Int) : Bool := w.all fun a => decide (0 ≤ a) && decide (a < k)
theorem l58 (D : Nat) (k : Nat) (w : List Int) (hlen : w.length ≤ maxLen) (S) : ∀ (m i : Nat) (τ ω) (r : AV), i + m = w.length →
    τ 0 = .int .i64 k → τ 7 = encI w → τ 8 = .int .i64 w.length → τ 9 = .int .i64 i → r = .bool (wordOk k (w.drop i)) →
    Rd (Loc Pg Gl) .im (RetQ [.tmp 4] r S) [.lp c58_l0, .blk 0, .c c58_k0] (stF 21 D τ ω S) := by
  intro m
  induction m with
  | zero =>
    intro i τ ω r hi h0 h7 h8 h9 hr
    refine Rd_lpE c58_l0.eq_1 ?_
    obtain rfl : i = w.length := by omega
    rw [List.drop_length, wordOk] at hr
    simp [h0, h7, h8, h9, c58_k0, encI]
    simp [hr]
  | succ m ih =>
    intro i τ ω r hi h0 h7 h8 h9 hr
    refine Rd_lpE c58_l0.eq_1 ?_
    have hlt : i < w.length := by omega
    have hwr := wrap_next hlt hlen
    obtain ⟨a, hx⟩ : ∃ a, w[i] = a := ⟨_, rfl⟩
    rw [List.drop_eq_getElem_cons hlt, hx, wordOk, List.all_cons] at hr
    by_cases h1 : a < 0
    · rw [decide_eq_false (show ¬ 0 ≤ a by omega), Bool.false_and, Bool.false_and] at hr
      simp [h0, h7, h8, h9, encI, hlt, hx, h1, hr]
    by_cases h2 : (k : Int) ≤ a
    · rw [decide_eq_false (show ¬ a < k by omega), Bool.and_false, Bool.false_and] at hr
      simp [h0, h7, h8, h9, encI, hlt, hx, h1, h2, hr]
    · rw [decide_eq_true (show 0 ≤ a by omega), decide_eq_true (show a < k by omega), Bool.true_and, Bool.true_and] at hr
      simp [h0, h7, h8, h9, encI, hlt, hx, h1, h2, hwr]
      refine ih (i + 1) _ _ r (by omega) ?_ ?_ ?_ ?_ hr
      all_goals simp [h0, h7, h8, encI]
theorem spec58 (D k : Nat) (w : List Int) (hlen : w.length ≤ maxLen) : Go.Ab.Loc Pg Gl D 58 [.int .i64 k, encI w] [] (.bool (wordOk k w)) [] := by
  refine loc_rd mixedP tok rfl rfl fun S => ?_
  unfold c58
  generalize hr : AV.bool (wordOk k w) = r
  simp [encI]
  refine l58 D k w hlen S w.length 0 _ _ r (by omega) ?_ ?_ ?_ ?_ (by rw [← hr]; simp)
  all_goals simp [encI]

/-! Accepts of the reference -/
def accL (ps : List (Bool × List (List Nat))) (l : List Int) (w : List Int) : Bool := finL ps (w.foldl (fun l a => nx ps a.toNat l) l)
theorem l50 (D k : Nat) (ps : List (Bool × List (List Nat))) (hps : AuOk k ps) (hrl : ∀ p ∈ ps, ∀ r ∈ p.2, r.length ≤ maxLen) (FL : List AV) (hy : encY (auY k ps) = .agg [.int .i64 2, .int .i64 0, .sl 3 FL .no, .sl 3 (ps.map fun p => encV (mkAu p)) .no]) (w : List Int) (hw : wordOk k w = true) (hlen : w.length ≤ maxLen) (S) : ∀ (m i : Nat) (l : List Int) (τ ω) (r : AV), i + m = w.length → VS ps.length l →
    τ 1 = encI l → τ 3 = .ptr D 3 1 0 → τ 9 = encI w → τ 10 = .int .i64 w.length → τ 11 = .int .i64 i → ω 3 = (1, .cells [.int .i64 2, .int .i64 0, .sl 3 FL .no, .sl 3 (ps.map fun p => encV (mkAu p)) .no]) → r = .bool (accL ps l (w.drop i)) →
    Rd (Loc Pg Gl) .im (RetQ [.tmp 6] r S) [.lp c50_l0, .blk 0, .c c50_k0] (stF 23 D τ ω S) := by
  intro m
  induction m with
  | zero =>
    intro i l τ ω r hi vl h1 h3 h9 h10 h11 w3 hr
    refine Rd_lpE c50_l0.eq_1 ?_
    obtain rfl : i = w.length := by omega
    rw [List.drop_length, accL, List.foldl_nil] at hr
    have fp := spec76 (D + 1) k ps l vl.below vl.len
    rw [hy] at fp
    simp [h1, h3, h9, h10, h11, w3, c50_k0]
    refine Rd_call fp (by simp [h1, encI]) ?_
    simp [hr]
  | succ m ih =>
    intro i l τ ω r hi vl h1 h3 h9 h10 h11 w3 hr
    refine Rd_lpE c50_l0.eq_1 ?_
    have hlt : i < w.length := by omega
    have hwr := wrap_next hlt hlen
    obtain ⟨x, hx⟩ : ∃ x, w[i] = x := ⟨_, rfl⟩
    have hxb := List.all_eq_true.1 hw x (by rw [← hx]; exact List.getElem_mem hlt)
    simp only [Bool.and_eq_true, decide_eq_true_eq] at hxb
    obtain ⟨a, rfl⟩ : ∃ a : Nat, x = a := ⟨x.toNat, by omega⟩
    rw [List.drop_eq_getElem_cons hlt, hx, accL, List.foldl_cons, Int.toNat_natCast] at hr
    have sn := spec49 (D + 1) k a ps hps (by omega) hrl l vl.below vl.len
    rw [hy] at sn
    simp [h1, h3, h9, h10, h11, w3, hlt, hx, encI]
    refine Rd_call sn (by simp [h1, encI]) ?_
    simp [h11, hwr, encI]
    refine ih (i + 1) (nx ps a l) _ _ r (by omega) (lN_vs hps.len _) ?_ ?_ ?_ ?_ ?_ w3 hr
    all_goals simp [h3, h9, h10, encI, nx]
theorem spec50 (D k : Nat) (ps : List (Bool × List (List Nat))) (hps : AuOk k ps) (hrl : ∀ p ∈ ps, ∀ r ∈ p.2, r.length ≤ maxLen) (l : List Int) (vl : VS ps.length l) (w : List Int) (hw : wordOk k w = true) (hlen : w.length ≤ maxLen) : Go.Ab.Loc Pg Gl D 50 [encY (auY k ps), encI l, encI w] [] (.bool (accL ps l w)) [] := by
  refine loc_rd mixedP tok rfl rfl fun S => ?_
  unfold c50
  generalize hr : AV.bool (accL ps l w) = r
  have hY := encY_au k ps
  rw [hY]
  simp [encI]
  refine l50 D k ps hps hrl _ hY w hw hlen S w.length 0 l _ _ r (by omega) vl ?_ ?_ ?_ ?_ ?_ ?_ (by rw [← hr]; simp)
  all_goals simp [encI]
end Go.Ab.Tab
/- Automata: the reference's Right; the program's run. -/
namespace Go.Ab.Tab
open Go Go.Ab
set_option maxRecDepth 10000
set_option linter.unusedVariables false
set_option linter.unusedSimpArgs false

/-! Congruent of the reference at valid inputs -/
theorem spec21v (D n : Nat) {R : List PI} {x y : List Int} (hp : VP n R) (hx : VS n x) (hy : VS n y) : Go.Ab.Loc Pg Gl D 21 [.int .i64 n, .sl 2 (R.map encPI) .no, encI x, encI y] [] (.bool (decide (cl (R.map toPS) (toS x) = cl (R.map toPS) (toS y)))) [] := by
  have hn : n ≤ 128 := by have := hp.nle; omega
  have h := spec21 D n hn R hp.num hp.pb x y hx.below hx.len hy.below hy.len
  have e : decide (listN n (cl (R.map toPS) (toS x)) = listN n (cl (R.map toPS) (toS y))) = decide (cl (R.map toPS) (toS x) = cl (R.map toPS) (toS y)) := decide_eq_decide.2 (listN_inj hn (hp.clf hx) (hp.clf hy))
  rwa [e] at h

noncomputable def lettL (ps : List (Bool × List (List Nat))) (rs : List PS) (c : PI) : Nat → Nat → Bool
  | 0, _ => true
  | j + 1, a => decide (cl rs (toS (nx ps a c.1)) = cl rs (toS (nx ps a c.2))) && lettL ps rs c j (a + 1)
noncomputable def rightL (ps : List (Bool × List (List Nat))) (k : Nat) (rs : List PS) (l : List PI) : Bool := l.all fun c => decide (finL ps c.1 = finL ps c.2) && lettL ps rs c k 0
theorem lettL_eq {k : Nat} {ps : List (Bool × List (List Nat))} (hps : AuOk k ps) {rs : List PS} {c : PI} (h1 : Below ps.length c.1) (h2 : Below ps.length c.2) : ∀ (j a : Nat), lettL ps rs c j a = lettB (paOf k ps) rs (toPS c) j a
  | 0, a => by rw [lettL, lettB]
  | j + 1, a => by rw [lettL, lettB, lettL_eq hps h1 h2 j, toS_nx hps a h1, toS_nx hps a h2]; rfl
theorem rightL_eq {k : Nat} {ps : List (Bool × List (List Nat))} (hps : AuOk k ps) {rs : List PS} : ∀ {l : List PI}, (∀ c ∈ l, Below ps.length c.1 ∧ Below ps.length c.2) → rightL ps k rs l = rightB (paOf k ps) rs (l.map toPS)
  | [], _ => rfl
  | c :: l, h => by
    have ih := rightL_eq hps (rs := rs) (l := l) fun d hd => h d (by simp [hd])
    obtain ⟨h1, h2⟩ := h c (by simp)
    unfold rightL rightB at ih ⊢
    rw [List.map_cons, List.all_cons, List.all_cons, ih, lettL_eq hps h1 h2, finL_ends (k := k) hps.len h1, finL_ends (k := k) hps.len h2]
    rfl
theorem l45_0 (D k : Nat) (ps : List (Bool × List (List Nat))) (hps : AuOk k ps) (hrl : ∀ p ∈ ps, ∀ r ∈ p.2, r.length ≤ maxLen) (FL : List AV) (hy : encY (auY k ps) = .agg [.int .i64 2, .int .i64 0, .sl 3 FL .no, .sl 3 (ps.map fun p => encV (mkAu p)) .no]) (R : List PI) (hR : VP ps.length R) (c : PI) (v1 : VS ps.length c.1) (v2 : VS ps.length c.2) (g6 : Nat) (w8 w9 w10 : AV) (kk : List AI) (S) (r : AV) : ∀ (m a : Nat) (τ ω), a + m = k →
    τ 1 = .sl 2 (R.map encPI) .no → τ 2 = .ptr D 2 1 0 → τ 6 = .ptr D 6 g6 0 → τ 8 = w8 → τ 9 = w9 → τ 10 = w10 → τ 24 = .int .i64 k → τ 25 = .int .i64 a →
    ω 2 = (1, .cells [.int .i64 2, .int .i64 0, .sl 3 FL .no, .sl 3 (ps.map fun p => encV (mkAu p)) .no]) → ω 6 = (g6, .cells [encI c.1, encI c.2]) →
    (lettL ps (R.map toPS) c m a = false → r = .bool false) →
    (lettL ps (R.map toPS) c m a = true → ∀ τ' ω', τ' 1 = .sl 2 (R.map encPI) .no → τ' 2 = .ptr D 2 1 0 → τ' 8 = w8 → τ' 9 = w9 → τ' 10 = w10 → ω' 2 = (1, .cells [.int .i64 2, .int .i64 0, .sl 3 FL .no, .sl 3 (ps.map fun p => encV (mkAu p)) .no]) → Rd (Loc Pg Gl) .im (RetQ [.tmp 4] r S) kk (stF 46 D τ' ω' S)) →
    Rd (Loc Pg Gl) .im (RetQ [.tmp 4] r S) (.lp c45_l0 :: .blk 2 :: kk) (stF 46 D τ ω S) := by
  have hk := hps.kle
  intro m
  induction m with
  | zero =>
    intro a τ ω ha h1 h2 h6 h8 h9 h10 h24 h25 w2 w6 hf hend
    refine Rd_lpE c45_l0.eq_1 ?_
    obtain rfl : a = k := by omega
    simp [h24, h25]
    refine hend rfl _ _ ?_ ?_ ?_ ?_ ?_ w2
    all_goals simp [h1, h2, h8, h9, h10]
  | succ m ih =>
    intro a τ ω ha h1 h2 h6 h8 h9 h10 h24 h25 w2 w6 hf hend
    refine Rd_lpE c45_l0.eq_1 ?_
    have hlt : a < k := by omega
    have hwr : IntKind.i64.wrap ((a : Int) + 1) = ((a + 1 : Nat) : Int) := by rw [← wrap_i64_nat (n := a + 1) (by omega)]; rfl
    rw [lettL] at hf hend
    have s1 := spec49 (D + 1) k a ps hps hlt hrl c.1 v1.below v1.len
    have s2 := spec49 (D + 1) k a ps hps hlt hrl c.2 v2.below v2.len
    have s3 := spec21v (D + 1) ps.length hR (lN_vs hps.len (nxtL ps a c.1)) (lN_vs hps.len (nxtL ps a c.2))
    rw [hy] at s1 s2
    simp [h1, h2, h6, h24, h25, w2, w6, hlt, encI]
    refine Rd_drCall s1 (by simp [encI]) ?_
    simp [h2, h6, h25, w2, w6, encI]
    refine Rd_drCall s2 (by simp [encI]) ?_
    simp [encI]
    refine Rd_drCall s3 (by simp [encI, h1]) ?_
    by_cases hc : cl (R.map toPS) (toS (nx ps a c.1)) = cl (R.map toPS) (toS (nx ps a c.2))
    · rw [decide_eq_true hc, Bool.true_and] at hf hend
      have hc' : decide (cl (R.map toPS) (toS (lN ps.length (nxtL ps a c.1))) = cl (R.map toPS) (toS (lN ps.length (nxtL ps a c.2)))) = true := decide_eq_true hc
      rw [hc']
      simp [h25, hwr]
      refine ih (a + 1) _ _ (by omega) ?_ ?_ ?_ ?_ ?_ ?_ ?_ ?_ w2 w6 hf hend
      all_goals simp [h1, h2, h6, h8, h9, h10, h24]
    · rw [decide_eq_false hc, Bool.false_and] at hf
      have hc' : decide (cl (R.map toPS) (toS (lN ps.length (nxtL ps a c.1))) = cl (R.map toPS) (toS (lN ps.length (nxtL ps a c.2)))) = false := decide_eq_false hc
      rw [hc']
      simp [hf rfl]
end Go.Ab.Tab
/- Automata: the reference's Right. -/
namespace Go.Ab.Tab
open Go Go.Ab
set_option maxRecDepth 10000
set_option linter.unusedVariables false
set_option linter.unusedSimpArgs false

theorem l45_1 (D k : Nat) (ps : List (Bool × List (List Nat))) (hps : AuOk k ps) (hf : fitF (typ k)) (hlk : lettersF (typ k) = k) (hrl : ∀ p ∈ ps, ∀ r ∈ p.2, r.length ≤ maxLen) (FL : List AV) (hy : encY (auY k ps) = .agg [.int .i64 2, .int .i64 0, .sl 3 FL .no, .sl 3 (ps.map fun p => encV (mkAu p)) .no]) (R : List PI) (hR : VP ps.length R) (hRv : ∀ c ∈ R, VS ps.length c.1 ∧ VS ps.length c.2) (S) : ∀ (m i : Nat) (τ ω) (r : AV), i + m = R.length →
    τ 1 = .sl 2 (R.map encPI) .no → τ 2 = .ptr D 2 1 0 → τ 8 = .sl 2 (R.map encPI) .no → τ 9 = .int .i64 R.length → τ 10 = .int .i64 i →
    ω 2 = (1, .cells [.int .i64 2, .int .i64 0, .sl 3 FL .no, .sl 3 (ps.map fun p => encV (mkAu p)) .no]) → r = .bool (rightL ps k (R.map toPS) (R.drop i)) →
    Rd (Loc Pg Gl) .im (RetQ [.tmp 4] r S) [.lp c45_l1, .blk 0, .c c45_k1] (stF 46 D τ ω S) := by
  have hk := hps.kle
  intro m
  induction m with
  | zero =>
    intro i τ ω r hi h1 h2 h8 h9 h10 w2 hr
    refine Rd_lpE c45_l1.eq_1 ?_
    obtain rfl : i = R.length := by omega
    rw [List.drop_length, rightL, List.all_nil] at hr
    simp [h1, h2, h8, h9, h10, c45_k1, hr]
  | succ m ih =>
    intro i τ ω r hi h1 h2 h8 h9 h10 w2 hr
    refine Rd_lpE c45_l1.eq_1 ?_
    have hlt : i < R.length := by omega
    have hwr : IntKind.i64.wrap ((i : Int) + 1) = ((i + 1 : Nat) : Int) := by have := hR.num; rw [← wrap_i64_nat (n := i + 1) (by omega)]; rfl
    obtain ⟨⟨p, q⟩, hx⟩ : ∃ c, R[i] = c := ⟨_, rfl⟩
    have hm := hRv _ (List.getElem_mem hlt)
    rw [hx] at hm
    obtain ⟨v1, v2⟩ := hm
    rw [List.drop_eq_getElem_cons hlt, hx, rightL, List.all_cons] at hr
    have s1 := spec76 (D + 1) k ps p v1.below v1.len
    have s2 := spec76 (D + 1) k ps q v2.below v2.len
    have fl := spec48 (D + 1) (auY k ps) hf
    have e0 : lettersF (auY k ps).f = k := hlk
    rw [e0] at fl
    rw [hy] at s1 s2 fl
    simp [h2, h8, h9, h10, w2, hlt, hx, encPI, encI]
    refine Rd_drCall s1 (by simp [encI]) ?_
    simp [h2, w2, encI]
    refine Rd_drCall s2 (by simp [encI]) ?_
    by_cases he : finL ps p = finL ps q
    case neg =>
      simp only at hr
      rw [decide_eq_false he, Bool.false_and, Bool.false_and] at hr
      generalize finL ps p = b1 at he
      generalize finL ps q = b2 at he
      cases b1 <;> cases b2 <;> first | exact absurd rfl he | simp [hr]
    simp only at hr
    rw [decide_eq_true he, Bool.true_and] at hr
    rw [he]
    have key : ∀ τ' ω', τ' 1 = .sl 2 (R.map encPI) .no → τ' 2 = .ptr D 2 1 0 → τ' 6 = .ptr D 6 ((ω 6).1 + 1) 0 → τ' 8 = .sl 2 (R.map encPI) .no → τ' 9 = .int .i64 R.length → τ' 10 = .int .i64 i → τ' 24 = .int .i64 k → τ' 25 = .int .i64 (0 : Nat) →
        ω' 2 = (1, .cells [.int .i64 2, .int .i64 0, .sl 3 FL .no, .sl 3 (ps.map fun p => encV (mkAu p)) .no]) → ω' 6 = ((ω 6).1 + 1, .cells [encI p, encI q]) →
        Rd (Loc Pg Gl) .im (RetQ [.tmp 4] r S) (.lp c45_l0 :: .blk 2 :: .blk 1 :: .c c45_k0 :: [.lp c45_l1, .blk 0, .c c45_k1]) (stF 46 D τ' ω' S) := by
      intro τ' ω' g1 g2 g6 g8 g9 g10 g24 g25 v2' v6
      refine l45_0 D k ps hps hrl FL hy R hR (p, q) v1 v2 _ _ _ _ _ S r k 0 τ' ω' (by omega) g1 g2 g6 g8 g9 g10 g24 g25 v2' v6 (fun h => by rw [hr, h]; rfl) ?_
      intro hl τ2 ω2 q1 q2 q8 q9 q10 u2
      rw [hl, Bool.true_and] at hr
      simp [c45_k0, q10, hwr]
      refine ih (i + 1) _ _ r (by omega) ?_ ?_ ?_ ?_ ?_ u2 hr
      all_goals simp [q1, q2, q8, q9]
    generalize finL ps q = b2
    cases b2
    · simp [h2, w2]
      refine Rd_call fl (by simp) ?_
      simp
      refine key _ _ ?_ ?_ ?_ ?_ ?_ ?_ ?_ ?_ ?_ ?_
      all_goals simp [h1, h2, h8, h9, h10, w2, encI, encPI]
    · simp [h2, w2]
      refine Rd_call fl (by simp) ?_
      simp
      refine key _ _ ?_ ?_ ?_ ?_ ?_ ?_ ?_ ?_ ?_ ?_
      all_goals simp [h1, h2, h8, h9, h10, w2, encI, encPI]
theorem fitF_typ' (k : Nat) : fitF (typ k) := fitF_typ k
theorem spec45 (D k : Nat) (ps : List (Bool × List (List Nat))) (hps : AuOk k ps) (hrl : ∀ p ∈ ps, ∀ r ∈ p.2, r.length ≤ maxLen) (R : List PI) (hR : VP ps.length R) (hRv : ∀ c ∈ R, VS ps.length c.1 ∧ VS ps.length c.2) : Go.Ab.Loc Pg Gl D 45 [encY (auY k ps), .sl 2 (R.map encPI) .no] [] (.bool (rightB (paOf k ps) (R.map toPS) (R.map toPS))) [] := by
  refine loc_rd mixedP tok rfl rfl fun S => ?_
  unfold c45
  rw [← rightL_eq hps fun c hc => ⟨(hRv c hc).1.below, (hRv c hc).2.below⟩]
  generalize hr : AV.bool (rightL ps k (R.map toPS) R) = r
  have hY := encY_au k ps
  rw [hY]
  simp
  refine l45_1 D k ps hps (fitF_typ k) (letters_typ hps.kpos hps.kle) hrl _ hY R hR hRv S R.length 0 _ _ r (by omega) ?_ ?_ ?_ ?_ ?_ ?_ (by rw [← hr]; simp)
  all_goals simp
end Go.Ab.Tab
/- Automata: the program's run of a word. -/
namespace Go.Ab.Tab
open Go Go.Ab
set_option maxRecDepth 10000
set_option linter.unusedVariables false
set_option linter.unusedSimpArgs false

def runB (A : PA) (u : BS) (w : List Int) : BS := w.foldl (fun u a => nextA A u a.toNat) u
def rRun (A : PA) (u : BS) (w : List Int) : AV := if wordOk A.k w then .tup [encS (runB A u w), .bool true] else .tup [encS (0#64, 0#64), .bool false]
theorem l85 (D : Nat) (A : PA) (hn : A.n ≤ 100) (hk : A.k ≤ 4) (hrows : A.rows.length = A.n) (hw : ∀ r ∈ A.rows, A.k ≤ r.length) (w : List Int) (hlen : w.length ≤ maxLen) (S) : ∀ (m i : Nat) (u : BS) (τ ω) (r : AV), i + m = w.length →
    τ 0 = encA A → τ 4 = .ptr D 4 1 0 → τ 6 = .ptr D 6 1 0 → τ 10 = encI w → τ 11 = .int .i64 w.length → τ 12 = .int .i64 i → ω 4 = (1, .cells [.int .u64 u.1.toNat, .int .u64 u.2.toNat]) → ω 6 = (1, .cells [.int .u64 0, .int .u64 0]) →
    r = rRun A u (w.drop i) →
    Rd (Loc Pg Gl) .im (RetQ [.cell 6 true 2, .tmp 7] r S) [.lp c85_l0, .blk 0, .c c85_k0] (stF 33 D τ ω S) := by
  intro m
  induction m with
  | zero =>
    intro i u τ ω r hi h0 h4 h6 h10 h11 h12 w4 w6 hr
    refine Rd_lpE c85_l0.eq_1 ?_
    obtain rfl : i = w.length := by omega
    rw [List.drop_length] at hr
    have hr : r = .tup [encS u, .bool true] := hr
    simp [h0, h4, h6, h10, h11, h12, w4, w6, c85_k0, encI]
    simp [hr, encS]
  | succ m ih =>
    intro i u τ ω r hi h0 h4 h6 h10 h11 h12 w4 w6 hr
    refine Rd_lpE c85_l0.eq_1 ?_
    have hlt : i < w.length := by omega
    have hwr := wrap_next hlt hlen
    obtain ⟨a, hx⟩ : ∃ a, w[i] = a := ⟨_, rfl⟩
    rw [List.drop_eq_getElem_cons hlt, hx, rRun, wordOk, List.all_cons] at hr
    by_cases h1 : a < 0
    · rw [decide_eq_false (show ¬ 0 ≤ a by omega), Bool.false_and, Bool.false_and, if_neg (by simp)] at hr
      simp [h0, h6, h10, h11, h12, w6, encI, hlt, hx, h1, encA]
      simp [hr, encS]
    by_cases h2 : (A.k : Int) ≤ a
    · rw [decide_eq_false (show ¬ a < A.k by omega), Bool.and_false, Bool.false_and, if_neg (by simp)] at hr
      simp [h0, h6, h10, h11, h12, w6, encI, hlt, hx, h1, h2, encA]
      simp [hr, encS]
    · rw [decide_eq_true (show 0 ≤ a by omega), decide_eq_true (show a < A.k by omega), Bool.true_and, Bool.true_and] at hr
      obtain ⟨b, rfl⟩ : ∃ b : Nat, a = b := ⟨a.toNat, by omega⟩
      have s1 := spec70 (D + 1) A hn hrows b (fun r hr => by have := hw r hr; omega) u
      have e1 : nxtB A.rows b u A.n 0 (0#64, 0#64) = nextA A u b := rfl
      rw [e1] at s1
      simp [h0, h4, h6, h10, h11, h12, w4, w6, encI, hlt, hx, h1, h2, encA]
      refine Rd_call s1 (by simp [encA, encS, h0]) ?_
      simp [encS, h4, w4, h12, hwr]
      refine ih (i + 1) (nextA A u b) _ _ r (by omega) ?_ ?_ ?_ ?_ ?_ ?_ ?_ ?_ hr
      all_goals simp [h0, h4, h6, h10, h11, w6, encI, encA]
theorem spec85 (D : Nat) (A : PA) (hn : A.n ≤ 100) (hk : A.k ≤ 4) (hrows : A.rows.length = A.n) (hw : ∀ r ∈ A.rows, A.k ≤ r.length) (u : BS) (w : List Int) (hlen : w.length ≤ maxLen) : Go.Ab.Loc Pg Gl D 85 [encA A, encS u, encI w] [] (rRun A u w) [] := by
  refine loc_rd mixedP tok rfl rfl fun S => ?_
  unfold c85
  generalize hr : rRun A u w = r
  simp [encA, encS, encI]
  refine l85 D A hn hk hrows hw w hlen S w.length 0 u _ _ r (by omega) ?_ ?_ ?_ ?_ ?_ ?_ ?_ ?_ (by rw [← hr]; simp)
  all_goals simp [encA, encI]
end Go.Ab.Tab
/- Automata: the program's given (83) and Check (37). -/
namespace Go.Ab.Tab
open Go Go.Ab
set_option maxRecDepth 10000
set_option linter.unusedVariables false
set_option linter.unusedSimpArgs false

def zPS : AV := encPS ((0#64, 0#64), (0#64, 0#64))
theorem fault_split (s : Sy) (x y : List Int) (h : faultR s [x, y] ≠ 0) : ((isY s = false ∨ lettersF s.f = 0) ∧ faultR s [x, y] = (if isY s then 1 else 30)) ∨ (isY s = true ∧ lettersF s.f ≠ 0 ∧ (isSet s.m.length x && isSet s.m.length y) = false ∧ faultR s [x, y] = 1) := by
  unfold faultR at h ⊢
  cases h1 : isY s with
  | false => exact .inl ⟨.inl rfl, by simp⟩
  | true =>
    by_cases h2 : lettersF s.f = 0
    · exact .inl ⟨.inr h2, by simp [h2]⟩
    · refine .inr ⟨rfl, h2, ?_⟩
      cases h3 : isSet s.m.length x <;> cases h4 : isSet s.m.length y <;> simp [h1, h2, h3, h4] at h ⊢
theorem spec83_ok (D k : Nat) (ps : List (Bool × List (List Nat))) (hps : AuOk k ps) (hrl : ∀ p ∈ ps, ∀ r ∈ p.2, r.length ≤ maxLen) (hY : isY (auY k ps) = true) (hv : ∀ v ∈ (auY k ps).m, fitV v) (hb : nodesVs (auY k ps).m ≤ 2 ^ 32)
    (x y : List Int) (hx : x.length ≤ maxLen) (hy : y.length ≤ maxLen) :
    Go.Ab.Loc Pg Gl D 83 [encY (auY k ps), encI x, encI y] [] (if isSet ps.length x && isSet ps.length y then .tup [encA (paOf k ps), encPS (toS x, toS y), .int .i64 0] else .tup [.nilp, zPS, .int .i64 1]) [] := by
  have hn := hps.len
  refine loc_rd mixedP tok rfl rfl fun S => ?_
  unfold c83
  generalize hr : (if isSet ps.length x && isSet ps.length y then AV.tup [encA (paOf k ps), encPS (toS x, toS y), .int .i64 0] else .tup [.nilp, zPS, .int .i64 1]) = r
  have h66 := spec66_ok (D + 1) k ps hps hrl hY hv hb
  have h97 := spec97 (D + 1) ps.length (by omega) x y hx hy
  have hA2 : encA (paOf k ps) = .box [.int .i64 ps.length, .int .i64 k, .int .u64 (paOf k ps).F.1.toNat, .int .u64 (paOf k ps).F.2.toNat, .sl 1 ((paOf k ps).rows.map fun r => .sl 2 (r.map encS) .no) .no] 0 := rfl
  rw [encY_au] at h66 ⊢
  simp [encI]
  refine Rd_call h66 (by simp) ?_
  rw [hA2] at hr ⊢
  simp
  refine Rd_call h97 (by simp [encI]) ?_
  cases hok : (isSet ps.length x && isSet ps.length y) with
  | false =>
    rw [hok, if_neg (by simp)] at hr
    simp [encPS]
    rw [← hr, zPS, encPS]; simp
  | true =>
    rw [hok, if_pos rfl] at hr
    rw [Bool.and_eq_true] at hok
    simp [encPS, ofS, hok.1, hok.2]
    rw [← hr, encPS]
theorem spec83_bad (D : Nat) (s : Sy) (hf : fitF s.f) (hl : s.m.length ≤ maxLen) (hv : ∀ v ∈ s.m, fitV v) (hb : nodesVs s.m ≤ 2 ^ 32) (x y : List Int) (hx : x.length ≤ maxLen) (hy : y.length ≤ maxLen) (h : faultR s [x, y] ≠ 0) :
    Go.Ab.Loc Pg Gl D 83 [encY s, encI x, encI y] [] (.tup [.nilp, zPS, .int .i64 (faultR s [x, y])]) [] := by
  rcases fault_split s x y h with ⟨h1, h2⟩ | ⟨h1, h2, h3, h4⟩
  · refine loc_rd mixedP tok rfl rfl fun S => ?_
    unfold c83
    have h66 := spec66_bad (D + 1) s hf hl hv hb h1
    rw [← h2] at h66
    generalize faultR s [x, y] = c at h h66 ⊢
    generalize hr : AV.tup [.nilp, zPS, .int .i64 c] = r
    rw [encY] at h66 ⊢
    simp [encI]
    refine Rd_call h66 (by simp) ?_
    simp [h]
    rw [← hr, zPS, encPS]; simp
  · obtain ⟨k, ps, hps, rfl⟩ := isY_au h1 h2
    have hm : (auY k ps).m.length = ps.length := List.length_map _
    have hrl : ∀ p ∈ ps, ∀ r ∈ p.2, r.length ≤ maxLen := fun p hp => fit_rows (hv _ (List.mem_map.2 ⟨p, hp, rfl⟩))
    have := spec83_ok D k ps hps hrl h1 hv hb x y hx hy
    rw [hm] at h3
    rw [h3, if_neg (by simp)] at this
    rw [h4]; exact this

/-! Check -/
def encT (b : Bool) (R : List PI) (w : List Int) : AV := .agg [.bool b, .sl 2 (R.map encPI) .no, encI w]
noncomputable def checkB (k : Nat) (ps : List (Bool × List (List Nat))) (x y : List Int) (b : Bool) (R : List PI) (w : List Int) : Bool :=
  if b then ((decide (R.length ≤ 1000) && pairsOk ps.length R) && decide (w.length = 0)) && (rightB (paOf k ps) (R.map toPS) (R.map toPS) && decide (cl (R.map toPS) (toS x) = cl (R.map toPS) (toS y)))
  else (wordOk k w && decide (R.length = 0)) && (endsB (paOf k ps).F (runB (paOf k ps) (toS x) w) != endsB (paOf k ps).F (runB (paOf k ps) (toS y) w))
theorem spec37_bad (D : Nat) (s : Sy) (hf : fitF s.f) (hl : s.m.length ≤ maxLen) (hv : ∀ v ∈ s.m, fitV v) (hb : nodesVs s.m ≤ 2 ^ 32) (x y : List Int) (hx : x.length ≤ maxLen) (hy : y.length ≤ maxLen) (h : faultR s [x, y] ≠ 0) (b : Bool) (R : List PI) (w : List Int) :
    Go.Ab.Loc Pg Gl D 37 [encY s, encI x, encI y, encT b R w] [] (.tup [.bool false, .int .i64 (faultR s [x, y])]) [] := by
  refine loc_rd mixedP tok rfl rfl fun S => ?_
  unfold c37
  have h83 := spec83_bad (D + 1) s hf hl hv hb x y hx hy h
  generalize faultR s [x, y] = c at h h83 ⊢
  generalize hr : AV.tup [.bool false, .int .i64 c] = r
  rw [encY] at h83 ⊢
  simp [encI, encT]
  refine Rd_call h83 (by simp [encI]) ?_
  simp [h, zPS, encPS]
  rw [← hr]
theorem spec37_ok (D k : Nat) (ps : List (Bool × List (List Nat))) (hps : AuOk k ps) (hrl : ∀ p ∈ ps, ∀ r ∈ p.2, r.length ≤ maxLen) (hY : isY (auY k ps) = true) (hv : ∀ v ∈ (auY k ps).m, fitV v) (hb : nodesVs (auY k ps).m ≤ 2 ^ 32)
    (x y : List Int) (hx : VS ps.length x) (hy : VS ps.length y) (b : Bool) (R : List PI) (hRl : ∀ p ∈ R, p.1.length ≤ maxLen ∧ p.2.length ≤ maxLen) (w : List Int) (hw : w.length ≤ maxLen) :
    Go.Ab.Loc Pg Gl D 37 [encY (auY k ps), encI x, encI y, encT b R w] [] (.tup [.bool (checkB k ps x y b R w), .int .i64 0]) [] := by
  have hn := hps.len
  have hk := hps.kle
  refine loc_rd mixedP tok rfl rfl fun S => ?_
  unfold c37
  generalize hr : AV.tup [.bool (checkB k ps x y b R w), .int .i64 0] = r
  have h83 := spec83_ok (D + 1) k ps hps hrl hY hv hb x y hx.len hy.len
  rw [hx.is, hy.is, Bool.and_self, if_pos rfl] at h83
  have h80 := spec80 (D + 1) ps.length (by omega) R hRl
  have hA : (paOf k ps).n = ps.length := rfl
  have hAk : (paOf k ps).k = k := rfl
  have hw2 : ∀ r ∈ (paOf k ps).rows, (paOf k ps).k ≤ r.length := by
    intro r hr
    obtain ⟨p, hp, rfl⟩ := List.mem_map.1 hr
    rw [List.length_map, (hps.row p hp).1]
    exact Nat.le_refl _
  have hrows : (paOf k ps).rows.length = (paOf k ps).n := by show (ps.map _).length = ps.length; rw [List.length_map]
  have h81 := fun hle : (R.map toPS).length ≤ 1000 => spec81 (D + 1) (paOf k ps) (by rw [hA]; omega) (by rw [hAk]; exact hk) hrows hw2 (R.map toPS) hle
  have h62 := fun hle : (R.map toPS).length ≤ 1000 => spec62 (D + 1) (R.map toPS) hle (toS x, toS y)
  have h85 := fun u => spec85 (D + 1) (paOf k ps) (by rw [hA]; omega) (by rw [hAk]; exact hk) hrows hw2 u w hw
  have h69 := fun u => spec69 (D + 1) (paOf k ps) u
  have hA2 : encA (paOf k ps) = .box [.int .i64 ps.length, .int .i64 k, .int .u64 (paOf k ps).F.1.toNat, .int .u64 (paOf k ps).F.2.toNat, .sl 1 ((paOf k ps).rows.map fun r => .sl 2 (r.map encS) .no) .no] 0 := rfl
  simp only [rRun, hAk] at h85
  rw [encY_au] at h83 ⊢
  rw [hA2] at h81 h85 h69 h83
  simp [encI, encT]
  refine Rd_call h83 (by simp [encI]) ?_
  cases b with
  | true =>
    have hcb : checkB k ps x y true R w = (((decide (R.length ≤ 1000) && pairsOk ps.length R) && decide (w.length = 0)) && (rightB (paOf k ps) (R.map toPS) (R.map toPS) && decide (cl (R.map toPS) (toS x) = cl (R.map toPS) (toS y)))) := by unfold checkB; rw [if_pos rfl]
    rw [hcb] at hr
    simp [encPS]
    refine Rd_drCall h80 (by simp) ?_
    cases hok : (decide (R.length ≤ 1000) && pairsOk ps.length R) with
    | false =>
      rw [hok] at hr
      simp [rRead]
      rw [← hr]; simp
    | true =>
      rw [hok] at hr
      have hok' := hok
      simp only [Bool.and_eq_true, decide_eq_true_eq] at hok'
      have hle : (R.map toPS).length ≤ 1000 := by rw [List.length_map]; exact hok'.1
      by_cases hwl : w = []
      case neg =>
        have hwl' : ¬ w.length = 0 := by simpa using hwl
        rw [decide_eq_false hwl'] at hr
        simp [rRead, hwl]
        rw [← hr]; simp
      subst hwl
      simp [rRead]
      refine Rd_call (h81 hle) (by simp) ?_
      cases hrb : rightB (paOf k ps) (R.map toPS) (R.map toPS) with
      | false =>
        rw [hrb] at hr
        simp
        rw [← hr]; simp
      | true =>
        rw [hrb] at hr
        simp
        refine Rd_call (h62 hle) (by simp [encPS]) ?_
        simp
        rw [← hr]; simp
  | false =>
    have hcb : checkB k ps x y false R w = ((wordOk k w && decide (R.length = 0)) && (endsB (paOf k ps).F (runB (paOf k ps) (toS x) w) != endsB (paOf k ps).F (runB (paOf k ps) (toS y) w))) := by unfold checkB; rw [if_neg (by simp)]
    rw [hcb] at hr
    simp [encPS]
    refine Rd_call (h85 (toS x)) (by simp [encS, encI]) ?_
    cases hwo : wordOk k w with
    | false =>
      rw [hwo] at hr h85
      simp [encS]
      refine Rd_call (h85 (toS y)) (by simp [encS, encI]) ?_
      simp [encS]
      rw [← hr]; simp
    | true =>
      rw [hwo] at hr h85
      simp [encS]
      refine Rd_call (h85 (toS y)) (by simp [encS, encI]) ?_
      simp [encS]
      cases hR : R with
      | nil =>
        subst hR
        simp
        refine Rd_drCall (h69 (runB (paOf k ps) (toS x) w)) (by simp [encS]) ?_
        simp
        refine Rd_drCall (h69 (runB (paOf k ps) (toS y) w)) (by simp [encS]) ?_
        simp
        rw [← hr]; simp
        generalize endsB (paOf k ps).F (runB (paOf k ps) (toS x) w) = e1
        generalize endsB (paOf k ps).F (runB (paOf k ps) (toS y) w) = e2
        cases e1 <;> cases e2 <;> rfl
      | cons c R' =>
        rw [hR] at hr
        simp
        rw [← hr]; simp
end Go.Ab.Tab
/- Automata: the reference's Verdict (36), and that both agree. -/
namespace Go.Ab.Tab
open Go Go.Ab
set_option maxRecDepth 10000
set_option linter.unusedVariables false
set_option linter.unusedSimpArgs false

noncomputable def verdB (k : Nat) (ps : List (Bool × List (List Nat))) (x y : List Int) (b : Bool) (R : List PI) (w : List Int) : Bool :=
  if (decide (R.length ≤ 1000) && pairsOk ps.length R) && wordOk k w then
    (if b then decide (w.length = 0) && (rightB (paOf k ps) (R.map toPS) (R.map toPS) && decide (cl (R.map toPS) (toS x) = cl (R.map toPS) (toS y)))
    else decide (R.length = 0) && (accL ps x w != accL ps y w))
  else false

theorem accL_run {k : Nat} {ps : List (Bool × List (List Nat))} (hps : AuOk k ps) : ∀ {w : List Int} {x : List Int}, Below ps.length x → accL ps x w = endsB (paOf k ps).F (runB (paOf k ps) (toS x) w)
  | [], x, h => by rw [accL, runB, List.foldl_nil, List.foldl_nil]; exact finL_ends hps.len h
  | a :: w, x, h => by
    rw [accL, runB, List.foldl_cons, List.foldl_cons, ← toS_nx hps a.toNat h]
    exact accL_run hps (lN_vs hps.len _).below
theorem verd_check {k : Nat} {ps : List (Bool × List (List Nat))} (hps : AuOk k ps) {x y : List Int} (hx : VS ps.length x) (hy : VS ps.length y) (b : Bool) (R : List PI) (w : List Int) : verdB k ps x y b R w = checkB k ps x y b R w := by
  unfold verdB checkB
  rw [accL_run hps hx.below, accL_run hps hy.below]
  cases b with
  | true =>
    simp only [if_true]
    by_cases hw : w = []
    · subst hw
      have : wordOk k [] = true := rfl
      rw [this, Bool.and_true]
      cases (decide (R.length ≤ 1000) && pairsOk ps.length R) <;> simp
    · have : decide (w.length = 0) = false := by simpa using hw
      rw [this]; simp
  | false =>
    simp only [Bool.false_eq_true, if_false]
    by_cases hR : R = []
    · subst hR
      have : (decide (([] : List PI).length ≤ 1000) && pairsOk ps.length []) = true := rfl
      rw [this, Bool.true_and]
      cases wordOk k w <;> simp
    · have : decide (R.length = 0) = false := by simpa using hR
      rw [this]; simp
theorem spec36 (D k : Nat) (ps : List (Bool × List (List Nat))) (hps : AuOk k ps) (hrl : ∀ p ∈ ps, ∀ r ∈ p.2, r.length ≤ maxLen)
    (x y : List Int) (hx : VS ps.length x) (hy : VS ps.length y) (b : Bool) (R : List PI) (hRl : ∀ p ∈ R, p.1.length ≤ maxLen ∧ p.2.length ≤ maxLen) (w : List Int) (hw : w.length ≤ maxLen) :
    Go.Ab.Loc Pg Gl D 36 [encY (auY k ps), encI x, encI y, .bool b, .sl 2 (R.map encPI) .no, encI w] [] (.bool (verdB k ps x y b R w)) [] := by
  have hn := hps.len
  refine loc_rd mixedP tok rfl rfl fun S => ?_
  unfold c36
  generalize hr : AV.bool (verdB k ps x y b R w) = r
  have h17 := spec17 (D + 1) ps.length R hRl
  have h48 := spec48 (D + 1) (auY k ps) (fitF_typ k)
  have e0 : lettersF (auY k ps).f = k := letters_typ hps.kpos hps.kle
  rw [e0] at h48
  have h58 := spec58 (D + 1) k w hw
  have h45 := fun hp hpv => spec45 (D + 1) k ps hps hrl R hp hpv
  have h21 := fun (hp : VP ps.length R) => spec21v (D + 1) ps.length hp hx hy
  have h50x := fun hw2 => spec50 (D + 1) k ps hps hrl x hx w hw2 hw
  have h50y := fun hw2 => spec50 (D + 1) k ps hps hrl y hy w hw2 hw
  unfold verdB at hr
  rw [encY_au] at h48 h45 h50x h50y ⊢
  simp [encI]
  refine Rd_call h17 (by simp) ?_
  cases h1 : (decide (R.length ≤ 1000) && pairsOk ps.length R) with
  | false =>
    simp
    simp [← hr, h1]
  | true =>
  rw [h1] at hr
  simp
  refine Rd_call h48 (by simp) ?_
  simp
  refine Rd_call h58 (by simp [encI]) ?_
  cases h2 : wordOk k w with
  | false =>
    simp
    simp [← hr, h2]
  | true =>
  rw [h2, Bool.true_and, if_pos rfl] at hr
  have h1' := h1
  simp only [Bool.and_eq_true, decide_eq_true_eq] at h1'
  have vR : VP ps.length R := ⟨h1'.2, h1'.1, hRl, hps.len⟩
  have hRv : ∀ c ∈ R, VS ps.length c.1 ∧ VS ps.length c.2 := by
    intro c hc
    have := List.all_eq_true.1 h1'.2 c hc
    rw [Bool.and_eq_true] at this
    exact ⟨⟨this.1, (hRl c hc).1, hps.len⟩, ⟨this.2, (hRl c hc).2, hps.len⟩⟩
  cases b with
  | true =>
    simp only [if_true] at hr
    by_cases hwl : w = []
    case neg =>
      have hwl' : ¬ w.length = 0 := by simpa using hwl
      rw [decide_eq_false hwl'] at hr
      simp [hwl]
      rw [← hr]; simp
    subst hwl
    simp
    refine Rd_call (h45 vR hRv) (by simp) ?_
    cases hrb : rightB (paOf k ps) (R.map toPS) (R.map toPS) with
    | false =>
      rw [hrb] at hr
      simp
      rw [← hr]; simp
    | true =>
      rw [hrb] at hr
      simp
      refine Rd_call (h21 vR) (by simp [encI]) ?_
      simp
      rw [← hr]; simp
  | false =>
    simp only [Bool.false_eq_true, if_false] at hr
    cases hR : R with
    | nil =>
      subst hR
      simp
      refine Rd_drCall (h50x h2) (by simp [encI]) ?_
      simp
      refine Rd_drCall (h50y h2) (by simp [encI]) ?_
      simp
      rw [← hr]; simp
      generalize accL ps x w = e1
      generalize accL ps y w = e2
      cases e1 <;> cases e2 <;> rfl
    | cons c R' =>
      rw [hR] at hr
      have hne : ¬ (R'.length : Int) + 1 = 0 := by omega
      simp [hne]
      rw [← hr]; simp
end Go.Ab.Tab
/- Automata: the plain law of the program's search. -/
namespace Go.Ab.Tab
open Go Go.Ab
set_option maxRecDepth 10000
set_option linter.unusedVariables false
set_option linter.unusedSimpArgs false

theorem shut_mono {rs l : List PS} {u : BS} (h : Shut (rs ++ l) u) : Shut rs u := fun p hp => h p (List.mem_append_left l hp)
theorem cl_mono (rs l : List PS) (u : BS) : (cl rs u).sub (cl (rs ++ l) u) = true := (cl_is rs u).least _ (cl_is _ u).up (shut_mono (cl_is _ u).shut)
theorem cong_mono {rs : List PS} (l : List PS) {u v : BS} (h : cl rs u = cl rs v) : cl (rs ++ l) u = cl (rs ++ l) v := by
  refine sub_antisymm (cl_leastT ?_) (cl_leastT ?_)
  · refine sub_trans (cl_is rs u).up ?_
    rw [h]; exact cl_mono rs l v
  · refine sub_trans (cl_is rs v).up ?_
    rw [← h]; exact cl_mono rs l u
theorem cong_self {rs : List PS} {p : PS} (h : p ∈ rs) : cl rs p.1 = cl rs p.2 :=
  sub_antisymm (cl_leastT (((cl_is rs p.2).shut p h).2 (cl_is rs p.2).up)) (cl_leastT (((cl_is rs p.1).shut p h).1 (cl_is rs p.1).up))
theorem cl_shut {rs : List PS} {u : BS} (h : Shut rs u) : cl rs u = u := sub_antisymm ((cl_is rs u).least u (sub_refl u) h) (cl_is rs u).up
theorem shut_cl {rs : List PS} {u : BS} (h : cl rs u = u) : Shut rs u := by rw [← h]; exact (cl_is rs u).shut
theorem cong_new {rs : List PS} {p : PS} (h : cl rs p.1 ≠ cl rs p.2) : ¬ Shut (rs ++ [p]) (cl rs p.1) ∨ ¬ Shut (rs ++ [p]) (cl rs p.2) := by
  apply Classical.byContradiction
  intro hc
  rw [not_or, Classical.not_not, Classical.not_not] at hc
  obtain ⟨h1, h2⟩ := hc
  refine h (sub_antisymm ((cl_is rs p.1).least _ ?_ (shut_mono h2)) ((cl_is rs p.2).least _ ?_ (shut_mono h1)))
  · exact (h2 p (by simp)).2 (cl_is rs p.2).up
  · exact (h1 p (by simp)).1 (cl_is rs p.1).up
theorem cl_sub_full {n : Nat} {rs : List PS} (h : ∀ p ∈ rs, p.1.sub (fullS n) = true ∧ p.2.sub (fullS n) = true) {u : BS} (hu : u.sub (fullS n) = true) : (cl rs u).sub (fullS n) = true :=
  (cl_is rs u).least _ hu fun p hp => ⟨fun _ => (h p hp).2, fun _ => (h p hp).1⟩

/-! counting the closed sets -/
theorem countP_lt' {α : Type} {p q : α → Bool} : ∀ {l : List α}, (∀ x ∈ l, p x = true → q x = true) → (∃ x ∈ l, q x = true ∧ p x = false) → l.countP p < l.countP q
  | [], _, h => by obtain ⟨x, hx, _⟩ := h; cases hx
  | a :: l, h, hx => by
    rw [List.countP_cons, List.countP_cons]
    have hle : l.countP p ≤ l.countP q := List.countP_mono_left fun x hx => h x (List.mem_cons_of_mem a hx)
    obtain ⟨x, hx, h1, h2⟩ := hx
    rcases List.mem_cons.1 hx with rfl | hx
    · rw [h1, h2]; simp; omega
    · have := countP_lt' (fun x hx => h x (List.mem_cons_of_mem a hx)) ⟨x, hx, h1, h2⟩
      have ha := h a (by simp)
      cases hp : p a with
      | true => rw [ha hp]; simp; omega
      | false => simp; split <;> omega
def subsN (n : Nat) : List BS := (List.range (2 ^ n)).map fun m => (BitVec.ofNat 64 m, 0#64)
theorem has_full_lt {n x : Nat} (hn : n ≤ 128) (hx : x < 128) (h : (fullS n).has x = true) : x < n := by
  unfold fullS at h
  rw [has_toS hn (full_below n) hx, decide_eq_true_eq, List.mem_map] at h
  obtain ⟨y, hy, e⟩ := h
  rw [List.mem_range] at hy
  omega
theorem mem_subsN {n : Nat} (hn : n ≤ 8) {u : BS} (hu : u.sub (fullS n) = true) : u ∈ subsN n := by
  have hlt : ∀ x, x < 128 → u.has x = true → x < n := fun x hx h => has_full_lt (by omega) hx (sub_iff.1 hu x hx h)
  obtain ⟨a, b⟩ := u
  have hb : b = 0#64 := by
    apply BitVec.eq_of_getLsbD_eq
    intro i hi
    rw [BitVec.getLsbD_zero]
    cases hg : b.getLsbD i with
    | false => rfl
    | true =>
      have : BS.has (a, b) (64 + i) = true := by unfold BS.has; rw [if_neg (by omega), Nat.add_sub_cancel_left]; exact hg
      have := hlt _ (by omega) this
      omega
  have ha : a.toNat < 2 ^ n := by
    apply Nat.lt_pow_two_of_testBit
    intro i hi
    cases hg : a.toNat.testBit i with
    | false => rfl
    | true =>
      by_cases h64 : i < 64
      · have : BS.has (a, b) i = true := by unfold BS.has; rw [if_pos h64]; exact hg
        have := hlt _ (by omega) this
        omega
      · have : a.getLsbD i = false := BitVec.getLsbD_of_ge _ _ (by omega)
        unfold BitVec.getLsbD at this
        rw [hg] at this; cases this
  subst hb
  unfold subsN
  rw [List.mem_map]
  refine ⟨a.toNat, List.mem_range.2 ha, ?_⟩
  rw [BitVec.ofNat_toNat, BitVec.setWidth_eq]
noncomputable def nC (n : Nat) (rs : List PS) : Nat := (subsN n).countP fun u => decide (cl rs u = u)
theorem nC_le (n : Nat) (rs : List PS) : nC n rs ≤ 2 ^ n := by
  have h : nC n rs ≤ (subsN n).length := List.countP_le_length
  have e : (subsN n).length = 2 ^ n := by unfold subsN; rw [List.length_map, List.length_range]
  omega
theorem nC_lt {n : Nat} (hn : n ≤ 8) {rs : List PS} (h : ∀ p ∈ rs, p.1.sub (fullS n) = true ∧ p.2.sub (fullS n) = true) {p : PS} (hp : p.1.sub (fullS n) = true ∧ p.2.sub (fullS n) = true) (hne : cl rs p.1 ≠ cl rs p.2) : nC n (rs ++ [p]) < nC n rs := by
  refine countP_lt' (fun u _ hu => ?_) ?_
  · rw [decide_eq_true_eq] at hu ⊢
    exact cl_shut (shut_mono (shut_cl hu))
  · have key : ∀ v : BS, v.sub (fullS n) = true → ¬ Shut (rs ++ [p]) (cl rs v) → ∃ x ∈ subsN n, decide (cl rs x = x) = true ∧ decide (cl (rs ++ [p]) x = x) = false := by
      intro v hv hs
      refine ⟨cl rs v, mem_subsN hn (cl_sub_full h hv), ?_, ?_⟩
      · exact decide_eq_true (cl_shut (cl_is rs v).shut)
      · exact decide_eq_false fun e => hs (shut_cl e)
    rcases cong_new hne with q | q
    · exact key _ hp.1 q
    · exact key _ hp.2 q

/-! the search -/
inductive SR where
  | same (rs : List PS)
  | word (w : List Nat)
  | space
noncomputable def newQ (A : PA) (w : List Nat) (p : PS) (j : Nat) : List (List Nat × PS) := (List.range j).map fun a => (a :: w, (nextA A p.1 a, nextA A p.2 a))
noncomputable def searchB (A : PA) : Nat → List (List Nat × PS) → List PS → SR
  | 0, _, rs => .same rs
  | _ + 1, [], rs => .same rs
  | m + 1, (w, p) :: q, rs =>
      if cl rs p.1 = cl rs p.2 then searchB A m q rs
      else if endsB A.F p.1 = endsB A.F p.2 then
        (if rs.length = 1000 then .space else searchB A m (q ++ newQ A w p A.k) (rs ++ [p]))
      else .word w
def runN (A : PA) (u : BS) (w : List Nat) : BS := w.foldl (fun u a => nextA A u a) u
theorem runN_snoc (A : PA) (u : BS) (w : List Nat) (a : Nat) : runN A u (w ++ [a]) = nextA A (runN A u w) a := by unfold runN; rw [List.foldl_append]; rfl
def SOk (A : PA) (x0 y0 : BS) : SR → Prop
  | .same rs => rs.length ≤ 1000 ∧ (∀ p ∈ rs, p.1.sub (fullS A.n) = true ∧ p.2.sub (fullS A.n) = true) ∧ RightOk A rs ∧ cl rs x0 = cl rs y0
  | .word w => w.length ≤ 1000 ∧ (∀ a ∈ w, a < A.k) ∧ endsB A.F (runN A x0 w.reverse) ≠ endsB A.F (runN A y0 w.reverse)
  | .space => 8 < A.n
structure SInv (A : PA) (x0 y0 : BS) (q : List (List Nat × PS)) (rs : List PS) : Prop where
  word : ∀ e ∈ q, (∀ a ∈ e.1, a < A.k) ∧ e.2 = (runN A x0 e.1.reverse, runN A y0 e.1.reverse)
  fullq : ∀ e ∈ q, e.2.1.sub (fullS A.n) = true ∧ e.2.2.sub (fullS A.n) = true
  fullr : ∀ p ∈ rs, p.1.sub (fullS A.n) = true ∧ p.2.sub (fullS A.n) = true
  ends : ∀ p ∈ rs, endsB A.F p.1 = endsB A.F p.2
  next : ∀ p ∈ rs, ∀ a, a < A.k → cl rs (nextA A p.1 a) = cl rs (nextA A p.2 a) ∨ ∃ e ∈ q, e.2 = (nextA A p.1 a, nextA A p.2 a)
  start : cl rs x0 = cl rs y0 ∨ ∃ e ∈ q, e.2 = (x0, y0)
  count : A.n ≤ 8 → rs.length + nC A.n rs ≤ 2 ^ A.n
  len : rs.length ≤ 1000
  wl : ∀ e ∈ q, e.1.length ≤ rs.length
theorem SInv.drop {A : PA} {x0 y0 : BS} {e : List Nat × PS} {q : List (List Nat × PS)} {rs : List PS} (h : SInv A x0 y0 (e :: q) rs) (hc : cl rs e.2.1 = cl rs e.2.2) : SInv A x0 y0 q rs where
  word := fun e' he => h.word e' (List.mem_cons_of_mem _ he)
  fullq := fun e' he => h.fullq e' (List.mem_cons_of_mem _ he)
  fullr := h.fullr
  ends := h.ends
  next := by
    intro p hp a ha
    rcases h.next p hp a ha with g | ⟨e', he, g⟩
    · exact .inl g
    · rcases List.mem_cons.1 he with rfl | he
      · rw [g] at hc; exact .inl hc
      · exact .inr ⟨e', he, g⟩
  start := by
    rcases h.start with g | ⟨e', he, g⟩
    · exact .inl g
    · rcases List.mem_cons.1 he with rfl | he
      · rw [g] at hc; exact .inl hc
      · exact .inr ⟨e', he, g⟩
  count := h.count
  len := h.len
  wl := fun e' he => h.wl e' (List.mem_cons_of_mem _ he)
theorem SInv.push {A : PA} (hA : ∀ u a, (nextA A u a).sub (fullS A.n) = true) {x0 y0 : BS} {w : List Nat} {p : PS} {q : List (List Nat × PS)} {rs : List PS} (h : SInv A x0 y0 ((w, p) :: q) rs) (hne : cl rs p.1 ≠ cl rs p.2) (he : endsB A.F p.1 = endsB A.F p.2) (hl : rs.length ≠ 1000) : SInv A x0 y0 (q ++ newQ A w p A.k) (rs ++ [p]) := by
  have hp := h.fullq (w, p) (by simp)
  have hw := h.word (w, p) (by simp)
  simp only at hp hw
  have hnew : ∀ e, e ∈ newQ A w p A.k ↔ ∃ a, a < A.k ∧ e = (a :: w, (nextA A p.1 a, nextA A p.2 a)) := by
    intro e
    unfold newQ
    rw [List.mem_map]
    constructor
    · rintro ⟨a, ha, rfl⟩; exact ⟨a, List.mem_range.1 ha, rfl⟩
    · rintro ⟨a, ha, rfl⟩; exact ⟨a, List.mem_range.2 ha, rfl⟩
  constructor
  case word =>
    intro e hm
    rcases List.mem_append.1 hm with hm | hm
    · exact h.word e (List.mem_cons_of_mem _ hm)
    · obtain ⟨a, ha, rfl⟩ := (hnew e).1 hm
      refine ⟨?_, ?_⟩
      · intro b hb
        rcases List.mem_cons.1 hb with rfl | hb
        · exact ha
        · exact hw.1 b hb
      · simp only [List.reverse_cons, runN_snoc]
        rw [hw.2]
  case fullq =>
    intro e hm
    rcases List.mem_append.1 hm with hm | hm
    · exact h.fullq e (List.mem_cons_of_mem _ hm)
    · obtain ⟨a, ha, rfl⟩ := (hnew e).1 hm
      exact ⟨hA _ _, hA _ _⟩
  case fullr =>
    intro r hr
    rcases List.mem_append.1 hr with hr | hr
    · exact h.fullr r hr
    · rw [List.mem_singleton.1 hr]; exact hp
  case ends =>
    intro r hr
    rcases List.mem_append.1 hr with hr | hr
    · exact h.ends r hr
    · rw [List.mem_singleton.1 hr]; exact he
  case next =>
    intro r hr a ha
    rcases List.mem_append.1 hr with hr | hr
    · rcases h.next r hr a ha with g | ⟨e', hm, g⟩
      · exact .inl (cong_mono [p] g)
      · rcases List.mem_cons.1 hm with rfl | hm
        · simp only at g
          have hs : cl (rs ++ [p]) p.1 = cl (rs ++ [p]) p.2 := cong_self (by simp)
          exact .inl (by rw [show nextA A r.1 a = p.1 from (congrArg Prod.fst g).symm, show nextA A r.2 a = p.2 from (congrArg Prod.snd g).symm]; exact hs)
        · exact .inr ⟨e', List.mem_append_left _ hm, g⟩
    · rw [List.mem_singleton.1 hr]
      exact .inr ⟨_, List.mem_append_right _ ((hnew _).2 ⟨a, ha, rfl⟩), rfl⟩
  case start =>
    rcases h.start with g | ⟨e', hm, g⟩
    · exact .inl (cong_mono [p] g)
    · rcases List.mem_cons.1 hm with rfl | hm
      · simp only at g
        have hs : cl (rs ++ [p]) p.1 = cl (rs ++ [p]) p.2 := cong_self (by simp)
        exact .inl (by rw [show x0 = p.1 from (congrArg Prod.fst g).symm, show y0 = p.2 from (congrArg Prod.snd g).symm]; exact hs)
      · exact .inr ⟨e', List.mem_append_left _ hm, g⟩
  case count =>
    intro hn
    have h1 := h.count hn
    have h2 := nC_lt hn h.fullr hp hne
    rw [List.length_append, List.length_singleton]
    omega
  case len =>
    have := h.len
    rw [List.length_append, List.length_singleton]
    omega
  case wl =>
    have hw0 := h.wl (w, p) (by simp)
    intro e hm
    rw [List.length_append, List.length_singleton]
    rcases List.mem_append.1 hm with hm | hm
    · have := h.wl e (List.mem_cons_of_mem _ hm); omega
    · obtain ⟨a, ha, rfl⟩ := (hnew e).1 hm
      simp only [List.length_cons] at hw0 ⊢; omega
theorem search_ok {A : PA} (hA : ∀ u a, (nextA A u a).sub (fullS A.n) = true) {x0 y0 : BS} : ∀ (m : Nat) {q : List (List Nat × PS)} {rs : List PS}, q.length + (1000 - rs.length) * A.k ≤ m → SInv A x0 y0 q rs → SOk A x0 y0 (searchB A m q rs) := by
  have base : ∀ rs, SInv A x0 y0 [] rs → SOk A x0 y0 (.same rs) := by
    intro rs h
    refine ⟨h.len, h.fullr, ⟨h.ends, fun p hp a ha => ?_⟩, ?_⟩
    · rcases h.next p hp a ha with g | ⟨e, he, _⟩
      · exact g
      · cases he
    · rcases h.start with g | ⟨e, he, _⟩
      · exact g
      · cases he
  intro m
  induction m with
  | zero =>
    intro q rs hm h
    obtain rfl : q = [] := List.length_eq_zero_iff.1 (by omega)
    exact base rs h
  | succ m ih =>
    intro q rs hm h
    match q, h, hm with
    | [], h, hm => rw [searchB]; exact base rs h
    | (w, p) :: q, h, hm =>
      rw [List.length_cons] at hm
      rw [searchB]
      by_cases h1 : cl rs p.1 = cl rs p.2
      · rw [if_pos h1]
        exact ih (by omega) (h.drop h1)
      rw [if_neg h1]
      by_cases h2 : endsB A.F p.1 = endsB A.F p.2
      · rw [if_pos h2]
        by_cases h3 : rs.length = 1000
        · rw [if_pos h3]
          show 8 < A.n
          apply Classical.byContradiction
          intro hn
          have hn : A.n ≤ 8 := by omega
          have h4 := h.count hn
          have : 2 ^ A.n ≤ 2 ^ 8 := Nat.pow_le_pow_right (by omega) hn
          omega
        · rw [if_neg h3]
          have hlen := h.len
          refine ih ?_ (h.push hA h1 h2 h3)
          rw [List.length_append, List.length_append, List.length_singleton, newQ, List.length_map, List.length_range]
          have e : 1000 - rs.length = 1000 - (rs.length + 1) + 1 := by omega
          rw [e, Nat.add_mul, Nat.one_mul] at hm
          omega
      · rw [if_neg h2]
        have hw := h.word (w, p) (by simp)
        have hl0 := h.wl (w, p) (by simp)
        have hl1 := h.len
        refine ⟨by simp only at hl0; omega, hw.1, ?_⟩
        have e := hw.2
        simp only at e
        rw [e] at h2
        exact h2
theorem nextA_full {k : Nat} {ps : List (Bool × List (List Nat))} (hps : AuOk k ps) (u : BS) (a : Nat) : (nextA (paOf k ps) u a).sub (fullS ps.length) = true := by
  have hn := hps.len
  rw [sub_iff]
  intro y hy h
  obtain ⟨x, hx, _, h⟩ := has_nextA.1 h
  rw [cellA_paOf] at h
  have hr : ∀ z ∈ rowN ps x a, z < 128 := fun z hz => by have := rowN_lt hps hz; omega
  rw [has_toN hy hr, decide_eq_true_eq] at h
  exact has_fullN (show ps.length ≤ 128 by omega) (rowN_lt hps h)
noncomputable def searchR (A : PA) (x y : BS) : SR := searchB A (1000 * A.k + 1) [([], (x, y))] []
theorem searchR_ok {k : Nat} {ps : List (Bool × List (List Nat))} (hps : AuOk k ps) {x y : List Int} (hx : VS ps.length x) (hy : VS ps.length y) : SOk (paOf k ps) (toS x) (toS y) (searchR (paOf k ps) (toS x) (toS y)) := by
  refine search_ok (fun u a => nextA_full hps u a) _ (by rw [List.length_singleton, List.length_nil]; omega) ?_
  constructor
  case word => intro e he; rw [List.mem_singleton.1 he]; exact ⟨fun a ha => (by cases ha), rfl⟩
  case fullq => intro e he; rw [List.mem_singleton.1 he]; exact ⟨hx.full, hy.full⟩
  case fullr => intro p hp; cases hp
  case ends => intro p hp; cases hp
  case next => intro p hp; cases hp
  case start => exact .inr ⟨([], (toS x, toS y)), by simp, rfl⟩
  case count =>
    intro hn
    have := nC_le (paOf k ps).n []
    simpa using this
  case len => simp
  case wl => intro e he; rw [List.mem_singleton.1 he]; exact Nat.le_refl _
end Go.Ab.Tab
/- Automata: where the reference's Equal says yes, both sets accept the same words. -/
namespace Go.Ab.Tab
open Go Go.Ab
set_option maxRecDepth 10000
set_option linter.unusedVariables false
set_option linter.unusedSimpArgs false

theorem keyP_inj : ∀ {p q p' q' : List Int}, (∀ x ∈ p, 0 ≤ x) → (∀ x ∈ p', 0 ≤ x) → keyP p q = keyP p' q' → p = p' ∧ q = q'
  | [], q, [], q', _, _, h => by
    unfold keyP at h
    injection h with _ h
    exact ⟨rfl, h⟩
  | [], q, a :: p', q', _, h', h => by
    unfold keyP at h
    injection h with h1 _
    have := h' a (by simp)
    omega
  | a :: p, q, [], q', h', _, h => by
    unfold keyP at h
    injection h with h1 _
    have := h' a (by simp)
    omega
  | a :: p, q, b :: p', q', h1, h2, h => by
    unfold keyP at h
    injection h with e h
    have := keyP_inj (p := p) (q := q) (p' := p') (q' := q') (fun x hx => h1 x (List.mem_cons_of_mem _ hx)) (fun x hx => h2 x (List.mem_cons_of_mem _ hx)) h
    exact ⟨by rw [e, this.1], this.2⟩
structure ELst (ps : List (Bool × List (List Nat))) (st : List PI × List (List Int)) : Prop where
  vs : ∀ c ∈ st.1, VS ps.length c.1 ∧ VS ps.length c.2
  keys : st.2 = st.1.map fun c => keyP c.1 c.2
theorem addE_full {ps : List (Bool × List (List Nat))} {st : List PI × List (List Int)} (h : ELst ps st) {p q : List Int} (hp : VS ps.length p) (hq : VS ps.length q) : ELst ps (addE st p q) ∧ (∃ l, (addE st p q).1 = st.1 ++ l) ∧ (p, q) ∈ (addE st p q).1 := by
  unfold addE
  by_cases hc : (st.2.any fun e => decide (e = keyP p q)) = true
  · rw [if_pos hc]
    refine ⟨h, ⟨[], by rw [List.append_nil]⟩, ?_⟩
    rw [h.keys, List.any_eq_true] at hc
    obtain ⟨e, he, hk⟩ := hc
    rw [decide_eq_true_eq] at hk
    obtain ⟨c, hc, rfl⟩ := List.mem_map.1 he
    obtain ⟨v1, v2⟩ := h.vs c hc
    have := keyP_inj (fun x hx => (v1.below x hx).1) (fun x hx => (hp.below x hx).1) hk
    rw [← this.1, ← this.2]
    exact hc
  · rw [if_neg hc]
    refine ⟨⟨fun c hm => ?_, ?_⟩, ⟨[(p, q)], rfl⟩, by simp⟩
    · rcases List.mem_append.1 hm with hm | hm
      · exact h.vs c hm
      · rw [List.mem_singleton.1 hm]; exact ⟨hp, hq⟩
    · show st.2 ++ [keyP p q] = (st.1 ++ [(p, q)]).map _
      rw [List.map_append, h.keys]; rfl
theorem stepE_full {ps : List (Bool × List (List Nat))} (hn : ps.length ≤ 100) (p q : List Int) : ∀ (j a : Nat) {st : List PI × List (List Int)}, ELst ps st → ELst ps (stepE ps p q j a st) ∧ (∃ l, (stepE ps p q j a st).1 = st.1 ++ l) ∧ ∀ b, a ≤ b → b < a + j → (nx ps b p, nx ps b q) ∈ (stepE ps p q j a st).1
  | 0, a, st, h => by
    rw [stepE]
    exact ⟨h, ⟨[], by rw [List.append_nil]⟩, fun b h1 h2 => by omega⟩
  | j + 1, a, st, h => by
    rw [stepE]
    obtain ⟨h1, ⟨l1, h2⟩, h3⟩ := addE_full h (p := nx ps a p) (q := nx ps a q) (lN_vs hn _) (lN_vs hn _)
    obtain ⟨g1, ⟨l2, g2⟩, g3⟩ := stepE_full hn p q j (a + 1) h1
    refine ⟨g1, ⟨l1 ++ l2, by rw [g2, h2, List.append_assoc]⟩, fun b hb1 hb2 => ?_⟩
    by_cases e : b = a
    · subst e
      rw [g2]
      exact List.mem_append_left _ h3
    · exact g3 b (by omega) (by omega)
def EClosed (ps : List (Bool × List (List Nat))) (k : Nat) (L : List PI) : Prop := ∀ c ∈ L, finL ps c.1 = finL ps c.2 ∧ ∀ a, a < k → (nx ps a c.1, nx ps a c.2) ∈ L
theorem equalE_full {ps : List (Bool × List (List Nat))} (hn : ps.length ≤ 100) {k lim : Nat} {x y : List Int} : ∀ (m i : Nat) {st : List PI × List (List Int)}, m + i = lim + 1 → i ≤ lim → ELst ps st → (x, y) ∈ st.1 →
    (∀ j, j < i → ∀ c, st.1[j]? = some c → finL ps c.1 = finL ps c.2 ∧ ∀ a, a < k → (nx ps a c.1, nx ps a c.2) ∈ st.1) → equalE ps k lim m i st = (true, true) → ∃ L, (x, y) ∈ L ∧ EClosed ps k L
  | 0, i, st, h1, h2, _, _, _, _ => by omega
  | m + 1, i, st, h1, h2, h3, h4, h5, h6 => by
    rw [equalE] at h6
    cases hx : st.1[i]? with
    | none =>
      refine ⟨st.1, h4, fun c hc => ?_⟩
      obtain ⟨j, hj⟩ := List.mem_iff_getElem?.1 hc
      have hlen := List.getElem?_eq_none_iff.1 hx
      have hj2 : j < st.1.length := by
        apply Classical.byContradiction
        intro hh
        rw [List.getElem?_eq_none (by omega)] at hj
        cases hj
      exact h5 j (by omega) c hj
    | some c =>
      obtain ⟨p, q⟩ := c
      rw [hx] at h6
      simp only at h6
      by_cases he : finL ps p = finL ps q
      case neg => rw [if_pos he] at h6; cases h6
      rw [if_neg (by simpa using he)] at h6
      by_cases hl : lim < st.1.length
      · rw [if_pos hl] at h6; cases h6
      rw [if_neg hl] at h6
      have hi : i < st.1.length := by
        apply Classical.byContradiction
        intro hh
        rw [List.getElem?_eq_none (by omega)] at hx
        cases hx
      obtain ⟨g1, ⟨l, g2⟩, g3⟩ := stepE_full hn p q k 0 h3
      refine equalE_full hn m (i + 1) (by omega) (by omega) g1 (by rw [g2]; exact List.mem_append_left _ h4) ?_ h6
      intro j hj c hc
      rw [g2, List.getElem?_append_left (by omega)] at hc
      by_cases e : j = i
      · subst e
        rw [hx] at hc
        injection hc with hc
        subst hc
        exact ⟨he, fun a ha => g3 a (by omega) (by omega)⟩
      · obtain ⟨k1, k2⟩ := h5 j (by omega) c hc
        exact ⟨k1, fun a ha => by rw [g2]; exact List.mem_append_left _ (k2 a ha)⟩
theorem closed_acc {ps : List (Bool × List (List Nat))} {k : Nat} {L : List PI} (h : EClosed ps k L) : ∀ {w : List Int} {x y : List Int}, (x, y) ∈ L → wordOk k w = true → accL ps x w = accL ps y w
  | [], x, y, hm, _ => by
    rw [accL, accL, List.foldl_nil, List.foldl_nil]
    exact (h _ hm).1
  | a :: w, x, y, hm, hw => by
    unfold wordOk at hw
    rw [List.all_cons] at hw
    simp only [Bool.and_eq_true, decide_eq_true_eq] at hw
    have := closed_acc h ((h _ hm).2 a.toNat (by omega)) hw.2
    unfold accL at this ⊢
    rw [List.foldl_cons, List.foldl_cons]
    exact this
theorem equalE_acc {ps : List (Bool × List (List Nat))} (hn : ps.length ≤ 100) {k : Nat} {x y : List Int} (hx : VS ps.length x) (hy : VS ps.length y) (h : equalE ps k 300 301 0 ([(x, y)], [keyP x y]) = (true, true)) {w : List Int} (hw : wordOk k w = true) : accL ps x w = accL ps y w := by
  obtain ⟨L, h1, h2⟩ := equalE_full (x := x) (y := y) hn 301 0 (by omega) (by omega) ⟨fun c hc => by rw [List.mem_singleton.1 hc]; exact ⟨hx, hy⟩, rfl⟩ (by simp) (fun j hj => by omega) h
  exact closed_acc h2 h1 hw
end Go.Ab.Tab
/- The program's word of a step (106) and Reverse (118). -/
namespace Go.Ab.Tab
open Go Go.Ab
set_option maxRecDepth 10000
set_option linter.unusedVariables false
set_option linter.unusedSimpArgs false

/-- the first i elements exchanged with the last i ones -/
def swL (l : List Int) (i : Nat) : List Int := (List.range l.length).map fun k => if k < i ∨ l.length ≤ k + i then l.getD (l.length - 1 - k) 0 else l.getD k 0
theorem swL_len (l : List Int) (i : Nat) : (swL l i).length = l.length := by unfold swL; simp
theorem swL_get' {l : List Int} {i k : Nat} (h : k < l.length) : (swL l i)[k]? = some (if k < i ∨ l.length ≤ k + i then l.getD (l.length - 1 - k) 0 else l.getD k 0) := by
  unfold swL
  rw [List.getElem?_map, List.getElem?_range h]; rfl
theorem swL_get {l : List Int} {i k : Nat} (h : k < (swL l i).length) : (swL l i)[k] = if k < i ∨ l.length ≤ k + i then l.getD (l.length - 1 - k) 0 else l.getD k 0 := by
  have e := swL_get' (l := l) (i := i) (k := k) (by rw [swL_len] at h; exact h)
  rw [List.getElem?_eq_getElem h] at e
  exact Option.some.inj e
theorem swL_zero (l : List Int) : swL l 0 = l := by
  apply List.ext_getElem (swL_len l 0)
  intro k h1 h2
  rw [swL_get, if_neg (by omega), List.getD_eq_getElem?_getD, List.getElem?_eq_getElem h2]; rfl
theorem swL_end {l : List Int} {i : Nat} (h : l.length ≤ i + i + 1) : swL l i = l.reverse := by
  apply List.ext_getElem (by rw [swL_len, List.length_reverse])
  intro k h1 h2
  rw [swL_get, List.getElem_reverse]
  rw [List.length_reverse] at h2
  have hg : ∀ j, (hj : j < l.length) → l.getD j 0 = l[j] := fun j hj => by rw [List.getD_eq_getElem?_getD, List.getElem?_eq_getElem hj]; rfl
  by_cases c : k < i ∨ l.length ≤ k + i
  · rw [if_pos c]; exact hg _ (by omega)
  · rw [if_neg c]
    have e : l.length - 1 - k = k := by omega
    rw [hg k h2]
    congr 1; omega
theorem swL_step {l : List Int} {i : Nat} (h : i + i + 1 < l.length) : ((swL l i).set i (l.getD (l.length - 1 - i) 0)).set (l.length - 1 - i) (l.getD i 0) = swL l (i + 1) := by
  apply List.ext_getElem (by rw [List.length_set, List.length_set, swL_len, swL_len])
  intro k h1 h2
  rw [swL_get, List.getElem_set, List.getElem_set, swL_get]
  rw [swL_len] at h2
  by_cases e1 : l.length - 1 - i = k
  · rw [if_pos e1, if_pos (by omega)]
    congr 1; omega
  · rw [if_neg e1]
    by_cases e2 : i = k
    · rw [if_pos e2, if_pos (by omega), e2]
    · rw [if_neg e2]
      by_cases c : k < i ∨ l.length ≤ k + i
      · rw [if_pos c, if_pos (by omega)]
      · rw [if_neg c, if_neg (by omega)]
theorem swL_at {l : List Int} {i k : Nat} (h1 : i ≤ k) (h2 : k + i < l.length) : (swL l i)[k]? = some (l.getD k 0) := by
  rw [List.getElem?_eq_getElem (by rw [swL_len]; omega), swL_get, if_neg (by omega)]

theorem l118 (D : Nat) (l : List Int) (hlen : l.length ≤ 2 ^ 32) (d' o g : Nat) (hd : d' < D) (S0 : Nat → Nat → Ent) : ∀ (m i j : Nat) (τ ω), i + j + 1 = l.length → i ≤ j + 1 → m = j →
    τ 0 = .own d' o g 0 l.length 1 false → τ 2 = .int .i64 i → τ 3 = .int .i64 j →
    Rd (Loc Pg Gl) .im (RetM [] (.tup []) D S0 [(d', o, (g, .cells (l.map (AV.int .i64)).reverse))]) [.lp c118_l0, .blk 0] (stF 28 D τ ω (updS S0 d' o (g, .cells ((swL l i).map (AV.int .i64))))) := by
  have hD : ¬ d' = D := by omega
  intro m
  induction m using Nat.strongRecOn with
  | ind m ih =>
    intro i j τ ω hij hi hm h0 h2 h3
    refine Rd_lpE c118_l0.eq_1 ?_
    by_cases hlt : i < j
    · have hil : i < l.length := by omega
      have hjl : j < l.length := by omega
      have hgi : ((swL l i).map (AV.int .i64))[i]? = some (.int .i64 (l.getD i 0)) := by rw [List.getElem?_map, swL_at (Nat.le_refl _) (by omega)]; rfl
      have hgj : ((swL l i).map (AV.int .i64))[j]? = some (.int .i64 (l.getD j 0)) := by rw [List.getElem?_map, swL_at (by omega) (by omega)]; rfl
      have hcl : ((swL l i).map (AV.int .i64)).length = l.length := by rw [List.length_map, swL_len]
      generalize hcs : (swL l i).map (AV.int .i64) = cs at hgi hgj hcl
      have hgl : l.getD j 0 = l[j] := by rw [List.getD_eq_getElem?_getD, List.getElem?_eq_getElem hjl]; rfl
      have hgl' : l.getD i 0 = l[i] := by rw [List.getD_eq_getElem?_getD, List.getElem?_eq_getElem hil]; rfl
      obtain ⟨cs1, hcs1⟩ : ∃ cs1, List.take i cs ++ AV.int .i64 l[j] :: List.drop (i + 1) cs = cs1 := ⟨_, rfl⟩
      obtain ⟨cs2, hcs2⟩ : ∃ cs2, List.take j cs1 ++ AV.int .i64 l[i] :: List.drop (j + 1) cs1 = cs2 := ⟨_, rfl⟩
      have h11 : i + 1 ≤ cs.length := by omega
      have e1 : cs1 = cs.set i (.int .i64 l[j]) := by rw [← hcs1, List.set_eq_take_append_cons_drop, if_pos (by omega)]
      have h12 : j + 1 ≤ cs1.length := by rw [e1, List.length_set]; omega
      have e2 : cs2 = cs1.set j (.int .i64 l[i]) := by rw [← hcs2, List.set_eq_take_append_cons_drop, if_pos (by omega)]
      have e3 : cs2 = (swL l (i + 1)).map (AV.int .i64) := by
        rw [e2, e1, ← hcs, ← swL_step (show i + i + 1 < l.length by omega), List.map_set, List.map_set, show l.length - 1 - i = j by omega, hgl, hgl']
      have hw1 : IntKind.i64.wrap ((i : Int) + 1) = ((i + 1 : Nat) : Int) := by rw [← wrap_i64_nat (n := i + 1) (by omega)]; rfl
      have hw2 : IntKind.i64.wrap ((j : Int) - 1) = ((j - 1 : Nat) : Int) := by rw [← wrap_i64_nat (n := j - 1) (by omega)]; congr 1; omega
      simp [h0, h2, h3, hlt, hD, hil, hjl, hgi, hgj, h11, hcs1]
      simp [h0, h2, h3, hlt, hD, hil, hjl, hgi, hgj, h12, hcs2, hw1, hw2]
      rw [e3]
      refine ih (j - 1) (by omega) (i + 1) (j - 1) _ _ (by omega) (by omega) rfl ?_ ?_ ?_
      all_goals simp [h0]
    · have hsw : swL l i = l.reverse := swL_end (by omega)
      rw [hsw]
      simp [h0, h2, h3, hlt]
theorem spec118 (D : Nat) (l : List Int) (hlen : l.length ≤ 2 ^ 32) (hne : l ≠ []) (d' o g : Nat) (hd : d' < D) :
    Go.Ab.Loc Pg Gl D 118 [.own d' o g 0 l.length 1 false] [(d', o, (g, .cells (l.map (AV.int .i64))))] (.tup []) [(d', o, (g, .cells (l.map (AV.int .i64)).reverse))] := by
  have hD : ¬ d' = D := by omega
  have hl1 : 1 ≤ l.length := by
    have : l.length ≠ 0 := by simpa using hne
    omega
  refine loc_rdM mixedP tok rfl rfl fun S hS => ?_
  have hS := (hS _ (List.mem_singleton.2 rfl)).2
  simp only at hS
  unfold c118
  have hw2 : IntKind.i64.wrap ((l.length : Int) - 1) = ((l.length - 1 : Nat) : Int) := by rw [← wrap_i64_nat (n := l.length - 1) (by omega)]; congr 1; omega
  have key := l118 D l hlen d' o g hd S (l.length - 1) 0 (l.length - 1)
  rw [swL_zero, updS_self S d' o hS] at key
  simp [hw2]
  refine key _ _ (by omega) (by omega) rfl ?_ ?_ ?_
  all_goals simp
end Go.Ab.Tab
/- The program's word of a step (106). -/
namespace Go.Ab
open Go
set_option linter.unusedVariables false
section
variable {C : CallRel} {Q : St → Prop} {k : List AI} {n D : Nat} {τ : Nat → AV} {ω : Nat → Ent} {S : Nat → Nat → Ent} {l : List AOper} {d : Nat} {ps : List (Nat × Nat)} {es : List Eff}
  {z bytes z' : Nat} {x y : Opd} {xs ys : List AV} {t : Tip} {r : List (Nat × Nat)}
/-- an object grows -/
theorem Rd_appO {i g len : Nat} {ea : Bool} {cs : List AV} (hi : i < n) (hx : (stF n D τ ω S).evr x = .own D i g 0 len z ea) (hy : elemsOf (stF n D τ ω S) z ((stF n D τ ω S).ev y) = some (ys, r)) (hne : ys ≠ []) (hw : ω i = (g, .cells cs)) (hl : len * z ≤ cs.length) (hok : okEl z ea ys = true) (hb : (len + ys.length) * bytes ≤ maxElems)
    (hk : Rd C .fr Q (.ops l :: k) (stF n D (upd τ d (.own D i (g + 1) 0 (len + ys.length) z ea)) (upd ω i (g + 1, .cells ((cs.take (len * z)).map AV.strip1 ++ newC ys))) S)) : Rd C .fr Q (.ops (⟨some d, .append z bytes x y, none⟩ :: l) :: k) (stF n D τ ω S) := by
  refine Rd_app (e := { val := .own D i (g + 1) 0 (len + ys.length) z ea, ups := [(D, i, (g + 1, .cells ((cs.take (len * z)).map AV.strip1 ++ newC ys)))], rd := r }) (.inr ⟨none, ?_⟩) ?_
  · obtain ⟨y0, ys', rfl⟩ : ∃ y0 ys', ys = y0 :: ys' := by
      cases ys with
      | nil => exact absurd rfl hne
      | cons a b => exact ⟨a, b, rfl⟩
    simp only [opfO, hx, hy, stF_look, if_true, if_pos hi, hw, stF_D]
    exact if_pos ⟨trivial, trivial, trivial, trivial, hl, hne, hok, hb⟩
  · simpa [app_stF] using hk
end
end Go.Ab
namespace Go.Ab.Tab
open Go Go.Ab
set_option maxRecDepth 10000
set_option linter.unusedVariables false
set_option linter.unusedSimpArgs false

def encW : List Nat → AV
  | [] => .nilp
  | a :: w => .box [encW w, .int .i64 a] 0
@[simp] theorem encW_dem (w : List Nat) : (encW w).dem = encW w := by cases w <;> rfl
@[simp] theorem encW_var1 (w : List Nat) : (encW w).var1 = encW w := by cases w <;> rfl
@[simp] theorem encW_dem1 (w : List Nat) : (encW w).dem1 = encW w := by cases w <;> rfl
@[simp] theorem encW_strip1 (w : List Nat) : (encW w).strip1 = encW w := by cases w <;> rfl
@[simp] theorem encW_strip (w : List Nat) : (encW w).strip = encW w := by cases w <;> rfl
@[simp] theorem encW_one (w : List Nat) : (encW w).one = true := by cases w <;> rfl
@[simp] theorem encW_cells (w : List Nat) : (encW w).cells = [encW w] := by cases w <;> rfl
@[simp] theorem left_encW (τ : Nat → AV) (i : Nat) (w : List Nat) : left τ i (encW w) = τ := by cases w <;> rfl
theorem spec118' (D : Nat) (l : List Int) (hlen : l.length ≤ 2 ^ 32) (d' o g : Nat) (hd : d' < D) :
    Go.Ab.Loc Pg Gl D 118 [.own d' o g 0 l.length 1 false] [(d', o, (g, .cells (l.map (AV.int .i64))))] (.tup []) [(d', o, (g, .cells (l.map (AV.int .i64)).reverse))] := by
  by_cases hne : l = []
  case neg => exact spec118 D l hlen hne d' o g hd
  subst hne
  refine loc_rdM mixedP tok rfl rfl fun S hS => ?_
  have hS := (hS _ (List.mem_singleton.2 rfl)).2
  simp only at hS
  unfold c118
  simp
  refine Rd_lpE c118_l0.eq_1 ?_
  have hw : IntKind.i64.wrap (-1) = -1 := by decide
  simp [hw]
  intro a b _
  simp at hS
  rw [updS_self S d' o hS]
theorem ne_nil : binf BinOp.neq EqK.ptr AV.nilp AV.nilp = some (.bool false) := rfl
theorem ne_box (cs : List AV) (o : Nat) : binf BinOp.neq EqK.ptr (AV.box cs o) AV.nilp = some (.bool true) := rfl
theorem l106 (D : Nat) (S) : ∀ (w : List Nat) (acc : List Int) (g : Nat) (τ ω) (r : AV), acc.length + w.length ≤ 2 ^ 20 → τ 3 = .own D 5 g 0 acc.length 1 false → τ 4 = encW w → ω 5 = (g, .cells (acc.map (AV.int .i64))) → r = .sl 1 ((acc ++ w.map fun (a : Nat) => (a : Int)).map (AV.int .i64)).reverse .no →
    Rd (Loc Pg Gl) .fr (RetQ [.tmp 2] r S) [.lp c106_l0, .blk 0, .c c106_k0] (stF 23 D τ ω S) := by
  intro w
  induction w with
  | nil =>
    intro acc g τ ω r hlen h3 h4 w5 hr
    rw [encW] at h4
    refine Rd_lpE c106_l0.eq_1 ?_
    simp [h3, h4, ne_nil, c106_k0]
    have hD : D < D + 1 := Nat.lt_succ_self D
    refine Rd_callM (spec118' (D + 1) acc (by simp at hlen; omega) D 5 g hD) (by simp) ?_ ?_ ?_
    · intro m hm
      rw [List.mem_singleton.1 hm]
      simp [w5]
    · intro u hu
      rw [List.mem_singleton.1 hu]
      simp
    · simp [h3]
      have hrev : (acc.map (AV.int .i64)).reverse = acc.reverse.map (AV.int .i64) := by simp
      rw [show acc.length = acc.reverse.length by simp]
      rw [show frzD = 18 + 2 from rfl, frz_own_ints 18 (l := acc.reverse) (g := g) (show 5 < 23 by omega) (by simp) (Nat.le_refl _)]
      simp [hr, List.take_of_length_le]
  | cons a w ih =>
    intro acc g τ ω r hlen h3 h4 w5 hr
    rw [encW] at h4
    refine Rd_lpE c106_l0.eq_1 ?_
    simp [h3, h4, ne_box]
    refine Rd_appO (cs := acc.map (AV.int .i64)) (ys := [.int .i64 a]) (r := []) (by omega) (g := g) (len := acc.length) (ea := false) (by simp) (by simp) (by simp) w5 (by simp) (by simp [okEl]) (by rw [List.length_cons] at hlen; simp [maxElems]; omega) ?_
    simp [h3, h4]
    refine ih (acc ++ [(a : Int)]) (g + 1) _ _ r ?_ ?_ ?_ ?_ ?_
    · rw [List.length_append, List.length_singleton]; rw [List.length_cons] at hlen; omega
    · simp
    · simp
    · have e1 : (AV.strip1 ∘ AV.int IntKind.i64) = AV.int .i64 := rfl
      have e2 : newC [AV.int .i64 (a : Int)] = [AV.int .i64 a] := rfl
      simp [e1, e2, List.take_of_length_le]
    · rw [hr]; simp
theorem spec106 (D : Nat) (w : List Nat) (hlen : w.length ≤ 2 ^ 20) : Go.Ab.Loc Pg Gl D 106 [encW w] [] (.sl 1 ((w.map fun (a : Nat) => (a : Int)).map (AV.int .i64)).reverse .no) [] := by
  obtain ⟨fn, code, t1, t2, t3, t4, t5, t6⟩ := tok 106 _ (rfl : T 106 = some ⟨23, c106, [.tmp 2], true⟩)
  refine loc_of_run mixedP t1 t2 t3 t4 t5 fun S hS => ?_
  rw [t6, start_stF _ _ _ _ (show [encW w].length ≤ 23 by simp)]
  obtain ⟨r, hr⟩ : ∃ r, r = AV.sl 1 ((w.map fun (a : Nat) => (a : Int)).map (AV.int .i64)).reverse .no := ⟨_, rfl⟩
  rw [← hr]
  show Run (Loc Pg Gl) (fun s' => resV s' [.tmp 2] = some r ∧ ∀ d i, d ≠ D → s'.S d i = upds S [] d i) [.c c106] (stF 23 D (argsT 0 [encW w]) (fun _ => (0, .dead)) S)
  unfold c106
  refine .seq (.region ?_)
  refine .opsOn (e := { val := AV.var1 (.sl 1 [] .nil) }) rfl (.op rfl) ?_
  rw [app_stF]
  simp only [List.foldl_nil, stF_put]
  refine .opsNil (.seq (.region ?_))
  refine .opsOn (e := { val := .own D 5 1 0 0 1 false, ups := [(D, 5, (1, .cells []))] }) rfl (.emp (ent := (0, .dead)) rfl (by simp [stF_os])) ?_
  rw [app_stF]
  simp only [List.foldl_nil, List.foldl_cons, stF_up, if_true, stF_put]
  have key : Rd (Loc Pg Gl) .fr (RetQ [.tmp 2] r S) [.ops [⟨some 3, .mov true (.t 5), none⟩], .c (.seq (.seq (.region [⟨some 6, .mov false (.t 0), none⟩, ⟨some 4, .mov true (.t 6), none⟩] none) (.block 0 (.loop c106_l0))) c106_k0)]
      (stF 23 D (upd (upd (argsT 0 [encW w]) 2 (AV.var1 (.sl 1 [] .nil))) 5 (.own D 5 1 0 0 1 false)) (upd (fun _ => (0, .dead)) 5 (1, .cells [])) S) := by
    simp
    refine l106 D S w [] 1 _ _ r (by simpa using hlen) ?_ ?_ ?_ (by rw [hr]; simp)
    all_goals simp
  exact key.run.imp fun s' ⟨h1, h2⟩ => ⟨h1, fun d i _ => by rw [h2]; rfl⟩
end Go.Ab.Tab
/- The program's search (84). -/
namespace Go.Ab
open Go
set_option linter.unusedVariables false
section
variable {C : CallRel} {own : Md} {Q : St → Prop} {k : List AI} {n D : Nat} {τ : Nat → AV} {ω : Nat → Ent} {S : Nat → Nat → Ent} {l : List AOper} {d : Nat} {ps : List (Nat × Nat)} {es : List Eff}
  {x y : Opd} {c : Opd}
theorem opfC_send {i g cap : Nat} {buf : List AV} {v : AV} (hi : i < n) (hc : (stF n D τ ω S).ev c = .ch D i g) (hx : frz (stF n D τ ω S) frzD ((stF n D τ ω S).ev x) = some (v, [])) (hw : ω i = (g, .ch cap buf)) (hl : buf.length < cap) :
    opfC (stF n D τ ω S) (.send c x) = some { ups := [(D, i, (g, .ch cap (buf ++ [v.strip])))] } := by
  simp only [opfC, hc, hx, stF_look, if_true, if_pos hi, hw, kill, List.map_nil, List.nil_append]
  exact if_pos ⟨trivial, hl⟩
theorem opfC_recv {i g cap : Nat} {buf : List AV} {v : AV} (hi : i < n) (hc : (stF n D τ ω S).ev c = .ch D i g) (hw : ω i = (g, .ch cap (v :: buf))) :
    opfC (stF n D τ ω S) (.recv c) = some { val := v.strip, ups := [(D, i, (g, .ch cap buf))] } := by
  simp only [opfC, hc, stF_look, if_true, if_pos hi, hw]
theorem Rd_send {i g cap : Nat} {buf : List AV} {v : AV} (hi : i < n) (hc : (stF n D τ ω S).ev c = .ch D i g) (hx : frz (stF n D τ ω S) frzD ((stF n D τ ω S).ev x) = some (v, [])) (hw : ω i = (g, .ch cap buf)) (hl : buf.length < cap)
    (hk : Rd C own Q (.ops l :: k) (stF n D τ (upd ω i (g, .ch cap (buf ++ [v.strip]))) S)) : Rd C own Q (.ops (⟨none, .send c x, none⟩ :: l) :: k) (stF n D τ ω S) := by
  refine .opsOn rfl (e := { ups := [(D, i, (g, .ch cap (buf ++ [v.strip])))] }) (opfC_send hi hc hx hw hl) ?_
  rw [app_stF]
  simpa [stF_up, stF_put0] using hk
theorem Rd_dr_send {i g cap : Nat} {buf : List AV} {v : AV} (hi : i < n) (hc : (stF n D τ ω S).ev c = .ch D i g) (hx : frz (stF n D τ ω S) frzD ((stF n D τ ω S).ev x) = some (v, [])) (hw : ω i = (g, .ch cap buf)) (hl : buf.length < cap)
    (hk : Rd C own Q (.dr ps l (es ++ [{ ups := [(D, i, (g, .ch cap (buf ++ [v.strip])))] }]) :: k) (stF n D τ (upd ω i (g, .ch cap (buf ++ [v.strip]))) S)) : Rd C own Q (.dr ps (⟨none, .send c x, none⟩ :: l) es :: k) (stF n D τ ω S) := by
  refine .drOn rfl (e := { ups := [(D, i, (g, .ch cap (buf ++ [v.strip])))] }) (opfC_send hi hc hx hw hl) ?_
  rw [app_stF]
  simpa [stF_up, stF_put0] using hk
theorem opfC_sendK {i j g cap : Nat} {buf : List AV} {v : AV} (hi : i < n) (hj : j < n) (hc : (stF n D τ ω S).ev c = .ch D i g) (hx : frz (stF n D τ ω S) frzD ((stF n D τ ω S).ev x) = some (v, [(D, j)])) (hw : ω i = (g, .ch cap buf)) (hl : buf.length < cap) :
    opfC (stF n D τ ω S) (.send c x) = some { ups := [(D, j, ((ω j).1, .dead)), (D, i, (g, .ch cap (buf ++ [v.strip])))] } := by
  simp only [opfC, hc, hx, stF_look, if_true, if_pos hi, if_pos hj, hw, kill, List.map_nil, List.map_cons, List.nil_append, List.cons_append]
  exact if_pos ⟨trivial, hl⟩
theorem Rd_dr_sendK {i j g cap : Nat} {buf : List AV} {v : AV} (hi : i < n) (hj : j < n) (hc : (stF n D τ ω S).ev c = .ch D i g) (hx : frz (stF n D τ ω S) frzD ((stF n D τ ω S).ev x) = some (v, [(D, j)])) (hw : ω i = (g, .ch cap buf)) (hl : buf.length < cap)
    (hk : Rd C own Q (.dr ps l (es ++ [{ ups := [(D, j, ((ω j).1, .dead)), (D, i, (g, .ch cap (buf ++ [v.strip])))] }]) :: k) (stF n D τ (upd (upd ω j ((ω j).1, .dead)) i (g, .ch cap (buf ++ [v.strip]))) S)) : Rd C own Q (.dr ps (⟨none, .send c x, none⟩ :: l) es :: k) (stF n D τ ω S) := by
  refine .drOn rfl (e := { ups := [(D, j, ((ω j).1, .dead)), (D, i, (g, .ch cap (buf ++ [v.strip])))] }) (opfC_sendK hi hj hc hx hw hl) ?_
  rw [app_stF]
  simpa [stF_up, stF_put0] using hk
theorem Rd_recv {i g cap : Nat} {buf : List AV} {v : AV} (hi : i < n) (hc : (stF n D τ ω S).ev c = .ch D i g) (hw : ω i = (g, .ch cap (v :: buf)))
    (hk : Rd C own Q (.ops l :: k) (stF n D (upd τ d v.strip) (upd ω i (g, .ch cap buf)) S)) : Rd C own Q (.ops (⟨some d, .recv c, none⟩ :: l) :: k) (stF n D τ ω S) := by
  refine .opsOn rfl (e := { val := v.strip, ups := [(D, i, (g, .ch cap buf))] }) (opfC_recv hi hc hw) ?_
  rw [app_stF]
  simpa [stF_up, stF_put] using hk
end
end Go.Ab
namespace Go.Ab.Tab
open Go Go.Ab
set_option maxRecDepth 10000
set_option linter.unusedVariables false
set_option linter.unusedSimpArgs false

@[simp] theorem encW_still1 (w : List Nat) : (encW w).still1 = true := by cases w <;> rfl
def encQ (e : List Nat × PS) : AV := .agg [encW e.1, .int .u64 e.2.1.1.toNat, .int .u64 e.2.1.2.toNat, .int .u64 e.2.2.1.toNat, .int .u64 e.2.2.2.toNat]
@[simp] theorem encW_upto (d m : Nat) (w : List Nat) : (encW w).upto d (m + 1) = true := by cases w <;> rfl
@[simp] theorem encQ_strip (e : List Nat × PS) : (encQ e).strip = encQ e := by simp [encQ]
theorem frz_encQ (s : St) (e : List Nat × PS) : frz s frzD (encQ e) = some (encQ e, []) := frz_agg s 18 (by simp)
theorem frz_encW (s : St) (m : Nat) (w : List Nat) : frz s (m + 1) (encW w) = some (encW w, []) := frz_still1 s m (encW_still1 w)
theorem frz_step {n D : Nat} {τ : Nat → AV} {ω : Nat → Ent} {S : Nat → Nat → Ent} {j g a : Nat} {w : List Nat} {p : PS} (hj : j < n) (hw : ω j = (g, .cells [encW w, .int .i64 a])) :
    frz (stF n D τ ω S) frzD (.agg [.ptr D j g 0, .int .u64 p.1.1.toNat, .int .u64 p.1.2.toNat, .int .u64 p.2.1.toNat, .int .u64 p.2.2.toNat]) = some (encQ (a :: w, p), [(D, j)]) := by
  have h1 : frz (stF n D τ ω S) 19 (.ptr D j g 0) = some (.box [encW w, .int .i64 a] 0, [(D, j)]) := by
    rw [frz]
    simp [stF_look, stF_D, hj, hw, frz_encW _ 17, frz_int _ 17]
  rw [frzD, frz]
  simp only [List.mapM_cons, List.mapM_nil, h1, frz_int _ 18, Option.pure_def, Option.bind_eq_bind, Option.bind_some, List.map_cons, List.map_nil]
  simp [encQ, encW]
noncomputable def newF (A : PA) (w : List Nat) (p : PS) (a m : Nat) : List (List Nat × PS) := (List.range' a m).map fun a => (a :: w, (nextA A p.1 a, nextA A p.2 a))
theorem newF_zero (A : PA) (w : List Nat) (p : PS) (m : Nat) : newF A w p 0 m = newQ A w p m := by unfold newF newQ; rw [List.range_eq_range']
theorem newF_succ (A : PA) (w : List Nat) (p : PS) (a m : Nat) : newF A w p a (m + 1) = (a :: w, (nextA A p.1 a, nextA A p.2 a)) :: newF A w p (a + 1) m := by unfold newF; rw [List.range'_succ, List.map_cons]

theorem l84_0 (D : Nat) (A : PA) (hn : A.n ≤ 100) (hk : A.k ≤ 4) (hrows : A.rows.length = A.n) (hw : ∀ r ∈ A.rows, A.k ≤ r.length) (w : List Nat) (p : PS) (g9 cap : Nat) (S) (k : List AI) (Q : St → Prop) (v8 : AV) (c4 : Ent) : ∀ (m a : Nat) (buf : List AV) (τ ω), a + m = A.k → buf.length + m ≤ cap →
    τ 0 = encA A → τ 4 = .ptr D 4 1 0 → τ 7 = .ch D 21 1 → τ 8 = v8 → τ 9 = .ptr D 9 g9 0 → τ 61 = .int .i64 A.k → τ 62 = .int .i64 a → ω 9 = (g9, .cells [encW w, .int .u64 p.1.1.toNat, .int .u64 p.1.2.toNat, .int .u64 p.2.1.toNat, .int .u64 p.2.2.toNat]) → ω 21 = (1, .ch cap buf) → ω 4 = c4 →
    (∀ τ' ω', τ' 0 = encA A → τ' 4 = .ptr D 4 1 0 → τ' 7 = .ch D 21 1 → τ' 8 = v8 → ω' 21 = (1, .ch cap (buf ++ (newF A w p a m).map encQ)) → ω' 4 = c4 → Rd (Loc Pg Gl) .im Q k (stF 107 D τ' ω' S)) →
    Rd (Loc Pg Gl) .im Q (.lp c84_l0 :: .blk 2 :: k) (stF 107 D τ ω S) := by
  intro m
  induction m with
  | zero =>
    intro a buf τ ω ha hb h0 h4 h7 h8 h9 h61 h62 w9 w21 w4 hend
    refine Rd_lpE c84_l0.eq_1 ?_
    obtain rfl : a = A.k := by omega
    simp [h61, h62]
    refine hend _ _ ?_ ?_ ?_ ?_ ?_ ?_
    all_goals simp [h0, h4, h7, h8, w21, w4, newF]
  | succ m ih =>
    intro a buf τ ω ha hb h0 h4 h7 h8 h9 h61 h62 w9 w21 w4 hend
    refine Rd_lpE c84_l0.eq_1 ?_
    have hlt : a < A.k := by omega
    have hwr : IntKind.i64.wrap ((a : Int) + 1) = ((a + 1 : Nat) : Int) := by rw [← wrap_i64_nat (n := a + 1) (by omega)]; rfl
    have s1 := spec70 (D + 1) A hn hrows a (fun r hr => by have := hw r hr; omega) p.1
    have s2 := spec70 (D + 1) A hn hrows a (fun r hr => by have := hw r hr; omega) p.2
    have e1 : nxtB A.rows a p.1 A.n 0 (0#64, 0#64) = nextA A p.1 a := rfl
    have e2 : nxtB A.rows a p.2 A.n 0 (0#64, 0#64) = nextA A p.2 a := rfl
    rw [e1] at s1
    rw [e2] at s2
    simp [h0, h7, h9, h61, h62, w9, hlt, encA]
    refine Rd_drCall s1 (by simp [encA, encS]) ?_
    simp [h0, h7, h9, h61, h62, w9, hlt, encA]
    refine Rd_drCall s2 (by simp [encA, encS]) ?_
    simp [encS]
    refine Rd_dr_sendK (i := 21) (j := 70) (g := 1) (cap := cap) (buf := buf) (v := encQ (a :: w, (nextA A p.1 a, nextA A p.2 a))) (by omega) (by omega) (by simp [h7]) ?_ (by simp [w21]) (by omega) ?_
    · simp
      exact frz_step (p := (nextA A p.1 a, nextA A p.2 a)) (by omega) (by simp)
    simp [h62, hwr]
    refine ih (a + 1) (buf ++ [encQ (a :: w, (nextA A p.1 a, nextA A p.2 a))]) _ _ (by omega) (by rw [List.length_append, List.length_singleton]; omega) ?_ ?_ ?_ ?_ ?_ ?_ ?_ ?_ ?_ ?_ ?_
    case refine_11 =>
      intro τ' ω' g0 g4 g7 g8 v21 v4
      refine hend τ' ω' g0 g4 g7 g8 ?_ v4
      rw [v21, newF_succ, List.map_cons, List.append_assoc]; rfl
    all_goals simp [h0, h4, h7, h8, h9, h61, w9, w21, w4, encA]

def encLP (p : PS) : AV := .agg [.sl 1 (p.1.list.map encN) .no, .sl 1 (p.2.list.map encN) .no]
def rSame (rs : List PS) : AV := .tup [.agg [.bool true, .sl 2 (rs.map encLP) .no, .sl 1 [] .no], .bool true]
def rS : SR → AV
  | .same rs => rSame rs
  | .word w => .tup [.agg [.bool false, .sl 2 [] .no, .sl 1 ((w.map fun (a : Nat) => (a : Int)).map (AV.int .i64)).reverse .no], .bool true]
  | .space => .tup [.agg [.bool false, .sl 2 [] .no, .sl 1 [] .no], .bool false]
theorem l84_2 (D : Nat) (rs : List PS) (tp : Tip) (hlen : rs.length ≤ 1000) (S) : ∀ (m i : Nat) (tp' : Tip) (g : Nat) (τ ω) (r : AV), i + m = rs.length → (tp' = .tip ∨ tp' = .nil) →
    τ 4 = .ptr D 4 1 0 → τ 11 = .ptr D 11 g 0 → τ 87 = .sl 4 (rs.map encPS) tp → τ 88 = .int .i64 rs.length → τ 89 = .int .i64 i →
    ω 4 = (1, .cells [.bool false, .sl 2 [] .tip, .sl 1 [] .tip]) → ω 11 = (g, .cells [.bool true, .sl 2 ((rs.take i).map encLP) tp', .sl 1 [] .tip]) → r = rSame rs →
    Rd (Loc Pg Gl) .im (RetQ [.cell 4 true 3, .tmp 5] r S) [.lp c84_l2, .blk 4, .c c84_k0] (stF 107 D τ ω S) := by
  intro m
  induction m with
  | zero =>
    intro i tp' g τ ω r hi htp h4 h11 h87 h88 h89 w4 w11 hr
    refine Rd_lpE c84_l2.eq_1 ?_
    obtain rfl : i = rs.length := by omega
    rw [List.take_length] at w11
    rcases htp with rfl | rfl <;> simp [h4, h11, h87, h88, h89, w4, w11, c84_k0, hr, rSame]
  | succ m ih =>
    intro i tp' g τ ω r hi htp h4 h11 h87 h88 h89 w4 w11 hr
    refine Rd_lpE c84_l2.eq_1 ?_
    have hlt : i < rs.length := by omega
    have hwr : IntKind.i64.wrap ((i : Int) + 1) = ((i + 1 : Nat) : Int) := by rw [← wrap_i64_nat (n := i + 1) (by omega)]; rfl
    obtain ⟨p, hx⟩ : ∃ p, rs[i] = p := ⟨_, rfl⟩
    simp [h4, h11, h87, h88, h89, w4, w11, hlt, hx, encPS]
    refine Rd_drCall (spec61 _ p.1) (by simp [encS]) ?_
    simp [h4, h11, h87, h88, h89, w4, w11, hlt, hx, encPS]
    refine Rd_drCall (spec61 _ p.2) (by simp [encS]) ?_
    have hmin : min i rs.length = i := by omega
    have hle : (i + 1) * 48 ≤ 1099511627776 := by omega
    have htk : (rs.take (i + 1)).map encLP = (rs.map encLP).take i ++ [encLP p] := by
      rw [List.take_succ_eq_append_getElem hlt, List.map_append, hx, List.map_take]; rfl
    simp [h4, h11, h87, h88, h89, w4, w11, hlt, hx, encPS, hmin, hle, htp, hwr]
    refine ih (i + 1) .tip g _ _ r (by omega) (.inl rfl) ?_ ?_ ?_ ?_ ?_ ?_ ?_ hr
    case refine_7 =>
      rw [htk]
      simp [encLP]
    all_goals simp [h4, h11, h87, h88, h89, w4]

theorem l84_1 (D : Nat) (A : PA) (hn : A.n ≤ 100) (hk : A.k ≤ 4) (hrows : A.rows.length = A.n) (hw : ∀ r ∈ A.rows, A.k ≤ r.length) (S) : ∀ (m : Nat) (q : List (List Nat × PS)) (rs : List PS) (τ ω) (r : AV), q.length + (1000 - rs.length) * A.k ≤ m → q.length + (1000 - rs.length) * A.k ≤ 1000 * A.k + 1 → rs.length ≤ 1000 → (∀ e ∈ q, e.1.length ≤ rs.length) →
    τ 0 = encA A → τ 4 = .ptr D 4 1 0 → τ 7 = .ch D 21 1 → τ 8 = .sl 4 (rs.map encPS) .tip → ω 4 = (1, .cells [.bool false, .sl 2 [] .tip, .sl 1 [] .tip]) → ω 21 = (1, .ch (1000 * A.k + 1) (q.map encQ)) → r = rS (searchB A m q rs) →
    Rd (Loc Pg Gl) .im (RetQ [.cell 4 true 3, .tmp 5] r S) [.lp c84_l1, .blk 0, .c c84_k1] (stF 107 D τ ω S) := by
  have last : ∀ (rs : List PS) (τ ω) (r : AV), rs.length ≤ 1000 → τ 0 = encA A → τ 4 = .ptr D 4 1 0 → τ 7 = .ch D 21 1 → τ 8 = .sl 4 (rs.map encPS) .tip → ω 4 = (1, .cells [.bool false, .sl 2 [] .tip, .sl 1 [] .tip]) → ω 21 = (1, .ch (1000 * A.k + 1) []) → r = rSame rs →
      Rd (Loc Pg Gl) .im (RetQ [.cell 4 true 3, .tmp 5] r S) [.lp c84_l1, .blk 0, .c c84_k1] (stF 107 D τ ω S) := by
    intro rs τ ω r hle h0 h4 h7 h8 w4 w21 hr
    refine Rd_lpE c84_l1.eq_1 ?_
    simp [h0, h4, h7, h8, w4, w21, c84_k1]
    refine l84_2 D rs .no hle S rs.length 0 .tip ((ω 11).1 + 1) _ _ r (by omega) (.inl rfl) ?_ ?_ ?_ ?_ ?_ ?_ ?_ hr
    all_goals simp [h0, h4, h7, h8, w4, w21]
  intro m
  induction m with
  | zero =>
    intro q rs τ ω r hm hc hle hq h0 h4 h7 h8 w4 w21 hr
    obtain rfl : q = [] := List.length_eq_zero_iff.1 (by omega)
    rw [searchB] at hr
    exact last rs τ ω r hle h0 h4 h7 h8 w4 w21 hr
  | succ m ih =>
    intro q rs τ ω r hm hc hle hq h0 h4 h7 h8 w4 w21 hr
    match q, hm, hc, hq, w21, hr with
    | [], hm, hc, hq, w21, hr =>
      rw [searchB] at hr
      exact last rs τ ω r hle h0 h4 h7 h8 w4 w21 hr
    | (w, p) :: q, hm, hc, hq, w21, hr =>
      rw [searchB] at hr
      rw [List.length_cons] at hm hc
      have s62 := spec62 (D + 1) rs hle p
      have s1 := spec69 (D + 1) A p.1
      have s2 := spec69 (D + 1) A p.2
      refine Rd_lpE c84_l1.eq_1 ?_
      rw [List.map_cons] at w21
      simp [h0, h4, h7, h8, w4, w21]
      refine Rd_recv (i := 21) (g := 1) (cap := 1000 * A.k + 1) (buf := q.map encQ) (v := encQ (w, p)) (by omega) (by simp) (by simp [w21]) ?_
      have hq0 := hq (w, p) (by simp)
      have hq' : ∀ e ∈ q, e.1.length ≤ rs.length := fun e he => hq e (List.mem_cons_of_mem _ he)
      simp only at hq0
      simp [encQ, h8]
      refine Rd_call s62 (by simp [encPS]) ?_
      by_cases h1 : cl rs p.1 = cl rs p.2
      · rw [if_pos h1] at hr
        simp [h1]
        refine ih q rs _ _ r (by omega) (by omega) hle hq' ?_ ?_ ?_ ?_ ?_ ?_ hr
        all_goals simp [h0, h4, h7, h8, w4]
      rw [if_neg h1] at hr
      simp [h1, h0, encA]
      refine Rd_drCall s1 (by simp [encA, encS]) ?_
      simp [h0, encA]
      refine Rd_drCall s2 (by simp [encA, encS]) ?_
      by_cases h2 : endsB A.F p.1 = endsB A.F p.2
      case neg =>
        rw [if_neg h2] at hr
        have s106 := spec106 (D + 1) w (by omega)
        generalize endsB A.F p.1 = b1 at h2
        generalize endsB A.F p.2 = b2 at h2
        have hb : (b1 == b2) = false := by cases b1 <;> cases b2 <;> first | rfl | exact absurd rfl h2
        simp [hb, h4, w4]
        refine Rd_call s106 (by simp) ?_
        simp [h4, w4]
        rw [hr, rS]; simp
      rw [if_pos h2] at hr
      rw [h2]
      simp [h8]
      by_cases h3 : rs.length = 1000
      · rw [if_pos h3] at hr
        have h3' : (rs.length : Int) = 1000 := by omega
        simp [h3', h4, w4]
        rw [hr, rS]
      rw [if_neg h3] at hr
      have h3' : ¬ (rs.length : Int) = 1000 := by omega
      have hle2 : (rs.length + 1) * 32 ≤ 1099511627776 := by omega
      have hmul : 1000 - rs.length = 1000 - (rs.length + 1) + 1 := by omega
      rw [hmul, Nat.add_mul, Nat.one_mul] at hm hc
      simp [h3', h4, w4, h8, h0, encA, encPS, hle2]
      refine l84_0 D A hn hk hrows hw w p ((ω 9).1 + 1) (1000 * A.k + 1) S _ _ (.sl 4 ((rs ++ [p]).map encPS) .tip) (ω 4) A.k 0 (q.map encQ) _ _ (by omega) (by rw [List.length_map]; omega) ?_ ?_ ?_ ?_ ?_ ?_ ?_ ?_ ?_ ?_ ?_
      case refine_11 =>
        intro τ' ω' g0 g4 g7 g8 v21 v4
        rw [newF_zero, ← List.map_append] at v21
        simp
        refine ih (q ++ newQ A w p A.k) (rs ++ [p]) τ' ω' r ?_ ?_ ?_ ?_ g0 g4 g7 g8 (v4.trans w4) v21 hr
        · rw [List.length_append, List.length_append, List.length_singleton, newQ, List.length_map, List.length_range]; omega
        · rw [List.length_append, List.length_append, List.length_singleton, newQ, List.length_map, List.length_range]; omega
        · rw [List.length_append, List.length_singleton]; omega
        · intro e he
          rw [List.length_append, List.length_singleton]
          rcases List.mem_append.1 he with he | he
          · have := hq' e he; omega
          · unfold newQ at he
            obtain ⟨a, _, rfl⟩ := List.mem_map.1 he
            simp only [List.length_cons]; omega
      all_goals simp [h0, h4, h7, h8, w4, w21, encA, encPS]
theorem spec84 (D : Nat) (A : PA) (hn : A.n ≤ 100) (hk : A.k ≤ 4) (hrows : A.rows.length = A.n) (hw : ∀ r ∈ A.rows, A.k ≤ r.length) (x y : BS) : Go.Ab.Loc Pg Gl D 84 [encA A, encPS (x, y)] [] (rS (searchR A x y)) [] := by
  refine loc_rd mixedP tok rfl rfl fun S => ?_
  unfold c84
  generalize hr : rS (searchR A x y) = r
  have hw1 : IntKind.i64.wrap (1000 * (A.k : Int)) = 1000 * (A.k : Int) := by
    have := wrap_i64_nat (n := 1000 * A.k) (by omega)
    rw [show ((1000 * A.k : Nat) : Int) = 1000 * (A.k : Int) by omega] at this; exact this
  have hw2 : IntKind.i64.wrap (1000 * (A.k : Int) + 1) = ((1000 * A.k + 1 : Nat) : Int) := by
    have := wrap_i64_nat (n := 1000 * A.k + 1) (by omega)
    rw [show ((1000 * A.k + 1 : Nat) : Int) = 1000 * (A.k : Int) + 1 by omega] at this ⊢; exact this
  obtain ⟨cap, hcap⟩ : ∃ cap : Nat, cap = 1000 * A.k + 1 := ⟨_, rfl⟩
  rw [← hcap] at hw2
  have c1 : (0 : Int) ≤ cap := by omega
  have c2 : (cap : Int) ≤ 9223372036854775807 := by omega
  have c3 : 40 * (cap : Int) ≤ 281474976710544 := by omega
  simp [encA, encPS, hw1, hw2, c1, c2, c3]
  refine Rd_send (i := 21) (g := 1) (cap := cap) (buf := []) (v := encQ ([], (x, y))) (by omega) (by simp) (by simp; rfl) (by simp) (by rw [List.length_nil]; omega) ?_
  simp
  refine l84_1 D A hn hk hrows hw S (1000 * A.k + 1) [([], (x, y))] [] _ _ r (by simp; omega) (by simp; omega) (by simp) (by simp) ?_ ?_ ?_ ?_ ?_ ?_ (by rw [← hr]; rfl)
  all_goals simp [encA, encPS, hcap]
end Go.Ab.Tab
/- The program's Equal (35): its verdict is right. -/
namespace Go.Ab.Tab
open Go Go.Ab
set_option maxRecDepth 10000
set_option linter.unusedVariables false
set_option linter.unusedSimpArgs false

def liN (u : BS) : List Int := u.list.map fun (x : Nat) => (x : Int)
def vB : SR → Bool
  | .same _ => true
  | _ => false
def vR : SR → List PI
  | .same rs => rs.map fun p => (liN p.1, liN p.2)
  | _ => []
def vW : SR → List Int
  | .word w => (w.map fun (a : Nat) => (a : Int)).reverse
  | _ => []
def vS : SR → Bool
  | .space => true
  | _ => false
theorem rS_eq (e : SR) : rS e = .tup [encT (vB e) (vR e) (vW e), .bool (!vS e)] := by
  have h1 : ∀ p : PS, encLP p = encPI (liN p.1, liN p.2) := by
    intro p
    unfold encLP encPI encI liN
    simp [encN]
  cases e with
  | same rs =>
    unfold rS rSame encT vB vR vW vS
    simp [encI, h1, Function.comp_def]
  | word w => simp [rS, encT, vB, vR, vW, vS, encI]
  | space => simp [rS, encT, vB, vR, vW, vS, encI]
theorem spec35_ok (D k : Nat) (ps : List (Bool × List (List Nat))) (hps : AuOk k ps) (hrl : ∀ p ∈ ps, ∀ r ∈ p.2, r.length ≤ maxLen) (hY : isY (auY k ps) = true) (hv : ∀ v ∈ (auY k ps).m, fitV v) (hb : nodesVs (auY k ps).m ≤ 2 ^ 32)
    (x y : List Int) (hx : VS ps.length x) (hy : VS ps.length y) (e : SR) (he : e = searchR (paOf k ps) (toS x) (toS y)) :
    Go.Ab.Loc Pg Gl D 35 [encY (auY k ps), encI x, encI y] [] (.tup [encT (vB e) (vR e) (vW e), .int .i64 (if vS e then 3 else 0)]) [] := by
  have hn := hps.len
  have hk := hps.kle
  refine loc_rd mixedP tok rfl rfl fun S => ?_
  unfold c35
  generalize hr : AV.tup [encT (vB e) (vR e) (vW e), .int .i64 (if vS e then 3 else 0)] = r
  have h83 := spec83_ok (D + 1) k ps hps hrl hY hv hb x y hx.len hy.len
  rw [hx.is, hy.is, Bool.and_self, if_pos rfl] at h83
  have hA : (paOf k ps).n = ps.length := rfl
  have hAk : (paOf k ps).k = k := rfl
  have hw2 : ∀ r ∈ (paOf k ps).rows, (paOf k ps).k ≤ r.length := by
    intro r hr
    obtain ⟨p, hp, rfl⟩ := List.mem_map.1 hr
    rw [List.length_map, (hps.row p hp).1]
    exact Nat.le_refl _
  have hrows : (paOf k ps).rows.length = (paOf k ps).n := by show (ps.map _).length = ps.length; rw [List.length_map]
  have h84 := spec84 (D + 1) (paOf k ps) (by rw [hA]; omega) (by rw [hAk]; exact hk) hrows hw2 (toS x) (toS y)
  rw [← he, rS_eq] at h84
  have hA2 : encA (paOf k ps) = .box [.int .i64 ps.length, .int .i64 k, .int .u64 (paOf k ps).F.1.toNat, .int .u64 (paOf k ps).F.2.toNat, .sl 1 ((paOf k ps).rows.map fun r => .sl 2 (r.map encS) .no) .no] 0 := rfl
  rw [encY_au] at h83 ⊢
  rw [hA2] at h83 h84
  simp [encI]
  refine Rd_call h83 (by simp [encI]) ?_
  simp [encPS]
  refine Rd_call h84 (by simp [encPS]) ?_
  cases hs : vS e with
  | false =>
    rw [hs] at hr
    simp [encT, encI]
    rw [← hr]; simp [encT, encI]
  | true =>
    rw [hs] at hr
    have h1 : vB e = false := by cases e <;> first | rfl | cases hs
    have h2 : vR e = [] := by cases e <;> first | rfl | cases hs
    have h3 : vW e = [] := by cases e <;> first | rfl | cases hs
    simp [encT, encI]
    rw [← hr]; simp [encT, encI, h1, h2, h3]
theorem spec35_bad (D : Nat) (s : Sy) (hf : fitF s.f) (hl : s.m.length ≤ maxLen) (hv : ∀ v ∈ s.m, fitV v) (hb : nodesVs s.m ≤ 2 ^ 32) (x y : List Int) (hx : x.length ≤ maxLen) (hy : y.length ≤ maxLen) (h : faultR s [x, y] ≠ 0) :
    Go.Ab.Loc Pg Gl D 35 [encY s, encI x, encI y] [] (.tup [encT false [] [], .int .i64 (faultR s [x, y])]) [] := by
  refine loc_rd mixedP tok rfl rfl fun S => ?_
  unfold c35
  have h83 := spec83_bad (D + 1) s hf hl hv hb x y hx hy h
  generalize faultR s [x, y] = c at h h83 ⊢
  generalize hr : AV.tup [encT false [] [], .int .i64 c] = r
  rw [encY] at h83 ⊢
  simp [encI]
  refine Rd_call h83 (by simp [encI]) ?_
  simp [h, zPS, encPS]
  rw [← hr]; simp [encT, encI]

/-! the verdict is right -/
theorem liN_eq {n : Nat} (hn : n ≤ 100) {u : BS} (h : u.sub (fullS n) = true) : liN u = lN n u := by
  unfold liN lN
  rw [list_eq (show n ≤ 128 by omega) h]
theorem runB_map (A : PA) : ∀ (l : List Nat) (u : BS), runB A u (l.map fun (a : Nat) => (a : Int)) = runN A u l
  | [], u => rfl
  | a :: l, u => by
    unfold runB runN
    rw [List.map_cons, List.foldl_cons, List.foldl_cons]
    exact runB_map A l _
theorem vR_map {k : Nat} {ps : List (Bool × List (List Nat))} (hps : AuOk k ps) {rs : List PS} (h : ∀ p ∈ rs, p.1.sub (fullS ps.length) = true ∧ p.2.sub (fullS ps.length) = true) : (rs.map fun p => (liN p.1, liN p.2)).map toPS = rs := by
  rw [List.map_map]
  conv => rhs; rw [← List.map_id rs]
  refine List.map_congr_left fun p hp => ?_
  obtain ⟨h1, h2⟩ := h p hp
  show (toS (liN p.1), toS (liN p.2)) = p
  rw [liN_eq hps.len h1, liN_eq hps.len h2, toS_lN hps.len h1, toS_lN hps.len h2]
theorem check_search {k : Nat} {ps : List (Bool × List (List Nat))} (hps : AuOk k ps) {x y : List Int} (hx : VS ps.length x) (hy : VS ps.length y) {e : SR} (hs : SOk (paOf k ps) (toS x) (toS y) e) (hv : vS e = false) :
    checkB k ps x y (vB e) (vR e) (vW e) = true ∧ (∀ p ∈ vR e, p.1.length ≤ maxLen ∧ p.2.length ≤ maxLen) ∧ (vW e).length ≤ maxLen := by
  cases e with
  | space => cases hv
  | same rs =>
    obtain ⟨h1, h2, h3, h4⟩ := hs
    have hmap := vR_map hps h2
    have hmem : ∀ p ∈ vR (.same rs), isSet ps.length p.1 = true ∧ isSet ps.length p.2 = true ∧ p.1.length ≤ maxLen ∧ p.2.length ≤ maxLen := by
      intro p hp
      obtain ⟨c, hc, rfl⟩ := List.mem_map.1 hp
      obtain ⟨q1, q2⟩ := h2 c hc
      simp only
      rw [liN_eq (show ps.length ≤ 100 from hps.len) q1, liN_eq (show ps.length ≤ 100 from hps.len) q2]
      exact ⟨lN_is _ _, lN_is _ _, (lN_vs hps.len _).len, (lN_vs hps.len _).len⟩
    refine ⟨?_, fun p hp => (hmem p hp).2.2, by simp [vW]⟩
    unfold checkB
    have hR : (vR (.same rs)).map toPS = rs := hmap
    have hl : (vR (.same rs)).length = rs.length := by unfold vR; rw [List.length_map]
    have hpo : pairsOk ps.length (vR (.same rs)) = true := by
      unfold pairsOk
      rw [List.all_eq_true]
      intro p hp
      rw [(hmem p hp).1, (hmem p hp).2.1]; rfl
    rw [hR, hpo, hl]
    simp [vB, vW, rightB_iff.2 h3, h4, h1]
  | word w =>
    obtain ⟨h0, h1, h2⟩ := hs
    have hW : vW (.word w) = w.reverse.map fun (a : Nat) => (a : Int) := by unfold vW; rw [List.map_reverse]
    refine ⟨?_, (by intro p hp; cases hp), (by rw [hW, List.length_map, List.length_reverse]; unfold maxLen; omega)⟩
    unfold checkB
    rw [hW, runB_map, runB_map]
    have hwo : wordOk k (w.reverse.map fun (a : Nat) => (a : Int)) = true := by
      unfold wordOk
      rw [List.all_eq_true]
      intro a ha
      obtain ⟨b, hb, rfl⟩ := List.mem_map.1 ha
      have hbk : b < k := h1 b (List.mem_reverse.1 hb)
      simp; omega
    rw [hwo]
    simp only [vB, Bool.false_eq_true, if_false]
    simp [vR, bne_iff_ne, h2]
theorem equal_agrees {k : Nat} {ps : List (Bool × List (List Nat))} (hps : AuOk k ps) {x y : List Int} (hx : VS ps.length x) (hy : VS ps.length y) {e : SR} (hs : SOk (paOf k ps) (toS x) (toS y) e) (hv : vS e = false) (hkn : (equalE ps k 300 301 0 ([(x, y)], [keyP x y])).2 = true) :
    (equalE ps k 300 301 0 ([(x, y)], [keyP x y])).1 = vB e := by
  cases e with
  | space => cases hv
  | same rs =>
    obtain ⟨h1, h2, h3, h4⟩ := hs
    exact equalE_sound (lim := 300) hps h3 301 0 ([(x, y)], [keyP x y]) (by intro c hcm; rw [List.mem_singleton.1 hcm]; exact ⟨⟨hx, hy⟩, h4⟩) hkn
  | word w =>
    obtain ⟨h0, h1, h2⟩ := hs
    show _ = false
    cases hb : (equalE ps k 300 301 0 ([(x, y)], [keyP x y])).1 with
    | false => rfl
    | true =>
      exfalso
      have hwo : wordOk k (w.reverse.map fun (a : Nat) => (a : Int)) = true := by
        unfold wordOk
        rw [List.all_eq_true]
        intro a ha
        obtain ⟨b, hb, rfl⟩ := List.mem_map.1 ha
        have hbk : b < k := h1 b (List.mem_reverse.1 hb)
        simp; omega
      have := equalE_acc hps.len hx hy (Prod.ext hb hkn) hwo
      rw [accL_run hps hx.below, accL_run hps hy.below, runB_map, runB_map] at this
      exact h2 this
end Go.Ab.Tab
