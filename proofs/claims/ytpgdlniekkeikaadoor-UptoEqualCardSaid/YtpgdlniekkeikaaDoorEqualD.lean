/- Encodings of sets and lists; the sets of layer 15. -/
import Derived.Test.YtpgdlniekkeikaaDoorEqualB4
import Derived.Test.YtpgdlniekkeikaaDoorEqualB
namespace Go.Ab.Tab
open Go Go.Ab
set_option maxRecDepth 10000
set_option linter.unusedVariables false
set_option linter.unusedSimpArgs false
theorem mixedP : Pg.follows .mixedOrders = true := by kernel_rfl

abbrev BS := BitVec 64 × BitVec 64
def encS (s : BS) : AV := .agg [.int .u64 s.1.toNat, .int .u64 s.2.toNat]
def BS.or (a b : BS) : BS := (a.1 ||| b.1, a.2 ||| b.2)
def BS.has (s : BS) (x : Nat) : Bool := if x < 64 then s.1.getLsbD x else s.2.getLsbD (x - 64)
def BS.single (x : Nat) : BS := if x < 64 then (BitVec.twoPow 64 x, 0) else (0, BitVec.twoPow 64 (x - 64))
def BS.sub (a b : BS) : Bool := decide (a.or b = b)

theorem wrap_u64_nat {n : Nat} (h : n < 2 ^ 64) : IntKind.u64.wrap (n : Int) = n := by
  simp [IntKind.wrap, IntKind.bits, IntKind.signed]
  omega
theorem wrap_i64_nat {n : Nat} (h : n < 2 ^ 63) : IntKind.i64.wrap (n : Int) = n := by
  simp [IntKind.wrap, IntKind.bits, IntKind.signed]
  omega
theorem bits_or (a b : BitVec 64) : bitsI .u64 (· ||| ·) a.toNat b.toNat = .int .u64 (a ||| b).toNat := by
  simp only [bitsI, IntKind.bits]
  rw [BitVec.ofInt_natCast, BitVec.ofInt_natCast, BitVec.ofNat_toNat, BitVec.ofNat_toNat, BitVec.setWidth_eq, BitVec.setWidth_eq, wrap_u64_nat (BitVec.isLt _)]; rfl
theorem bits_and1 (a : Nat) : bitsI .u64 (· &&& ·) a 1 = .int .u64 ((a % 2 : Nat) : Int) := by
  have h1 : (1 : Int) = ((1 : Nat) : Int) := rfl
  have h2 : (BitVec.ofNat 64 a &&& BitVec.ofNat 64 1).toNat = a % 2 := by
    rw [BitVec.toNat_and, BitVec.toNat_ofNat, BitVec.toNat_ofNat, show (1 : Nat) % 2 ^ 64 = 1 from rfl, Nat.and_one_is_mod]; omega
  simp only [bitsI, IntKind.bits]
  rw [h1, BitVec.ofInt_natCast, BitVec.ofInt_natCast]
  have := wrap_u64_nat (n := a % 2) (by omega)
  rw [← h2] at this ⊢
  exact congrArg (AV.int .u64) this
theorem fdiv_pow (a k : Nat) : Int.fdiv (a : Int) (2 ^ k) = ((a >>> k : Nat) : Int) := by
  rw [Nat.shiftRight_eq_div_pow, Int.fdiv_eq_ediv_of_nonneg _ (by exact_mod_cast Nat.zero_le _)]
  norm_cast
theorem shr_cast (a k : Nat) : ((a : Int) >>> k) = ((a >>> k : Nat) : Int) := rfl
theorem bit_mod (a : BitVec 64) (k : Nat) : decide ((((a.toNat >>> k) % 2 : Nat) : Int) = 1) = a.getLsbD k := by
  rw [BitVec.getLsbD, Nat.testBit, Nat.and_comm, Nat.and_one_is_mod]
  rcases Nat.mod_two_eq_zero_or_one (a.toNat >>> k) with h | h <;> rw [h] <;> rfl

theorem spec98 (D : Nat) (a b : BS) : Go.Ab.Loc Pg Gl D 98 [encS a, encS b] [] (encS (a.or b)) [] := by
  refine loc_rd mixedP tok rfl rfl fun S => ?_
  unfold c98
  simp [encS, bits_or, BS.or, -BitVec.toNat_or]

theorem spec94 (D : Nat) (s : BS) (x : Nat) (hx : x < 128) : Go.Ab.Loc Pg Gl D 94 [encS s, .int .i64 x] [] (.bool (s.has x)) [] := by
  refine loc_rd mixedP tok rfl rfl fun S => ?_
  unfold c94
  have e2 : (x : Int).tmod 64 = ((x % 64 : Nat) : Int) := by rw [Int.tmod_eq_emod_of_nonneg (by omega)]; omega
  have e3 : min (x % 64) 64 = x % 64 := by omega
  by_cases h : x < 64
  · have e1 : IntKind.i64.wrap ((x : Int) / 64) = 0 := by rw [show (x : Int) / 64 = 0 by omega]; rfl
    have e4 : x % 64 = x := by omega
    have e5 : min x IntKind.u64.bits = x := by simp only [IntKind.bits]; omega
    simp [encS, e1, e2, e3, e4, e5, shr_cast, fdiv_pow, bits_and1, BS.has, h, -BitVec.getLsbD_eq_getElem, -Int.natCast_emod, -Int.natCast_shiftRight]
    exact bit_mod _ _
  · have e1 : IntKind.i64.wrap ((x : Int) / 64) = 1 := by rw [show (x : Int) / 64 = 1 by omega]; rfl
    have e4 : x % 64 = x - 64 := by omega
    have e5 : min (x - 64) IntKind.u64.bits = x - 64 := by simp only [IntKind.bits]; omega
    simp [encS, e1, e2, e3, e4, e5, shr_cast, fdiv_pow, bits_and1, BS.has, h, -BitVec.getLsbD_eq_getElem, -Int.natCast_emod, -Int.natCast_shiftRight]
    exact bit_mod _ _

theorem eqCells2 (a b c d : BitVec 64) : eqCells [.int .u64 a.toNat, .int .u64 b.toNat] [.int .u64 c.toNat, .int .u64 d.toNat] = some (decide (((a, b) : BS) = (c, d))) := by
  simp only [eqCells, if_true]
  by_cases h : a = c
  · subst h
    by_cases h2 : b = d
    · subst h2; simp
    · have : ¬ (b.toNat : Int) = d.toNat := fun e => h2 (BitVec.eq_of_toNat_eq (by exact_mod_cast e))
      simp [h2, this]
  · have : ¬ (a.toNat : Int) = c.toNat := fun e => h (BitVec.eq_of_toNat_eq (by exact_mod_cast e))
    simp [h, this]

theorem spec99 (D : Nat) (a b : BS) : Go.Ab.Loc Pg Gl D 99 [encS a, encS b] [] (.bool (a.sub b)) [] := by
  refine loc_rd mixedP tok rfl rfl fun S => ?_
  unfold c99
  simp [encS]
  refine Rd_drCall (spec98 _ a b) (by simp [encS]) ?_
  simp [encS, eqCells2, BS.sub, BS.or, Prod.ext_iff, -BitVec.toNat_or]

def encN (n : Nat) : AV := .int .i64 (n : Int)
def BS.list (s : BS) : List Nat := (List.range 128).filter s.has

theorem l61 (D : Nat) (s : BS) (S) : ∀ (m i : Nat) (acc : List Nat) (τ ω) (r : AV), i + m = 128 → τ 1 = .ptr D 1 1 0 → ω 1 = (1, .cells [.int .u64 s.1.toNat, .int .u64 s.2.toNat]) →
    τ 3 = .sl 1 (acc.map encN) .tip → τ 6 = .int .i64 i → acc.length ≤ i → r = .sl 1 ((acc ++ (List.range' i m).filter s.has).map encN) .no →
    Rd (Loc Pg Gl) .im (RetQ [.tmp 2] r S) [.lp c61_l0, .blk 0, .c c61_k0] (stF 18 D τ ω S) := by
  intro m
  induction m with
  | zero =>
    intro i acc τ ω r hi h1 hw h3 h6 hl hr
    refine Rd_lpE c61_l0.eq_1 ?_
    obtain rfl : i = 128 := by omega
    simp [h3, h6, c61_k0, hr]
  | succ m ih =>
    intro i acc τ ω r hi h1 hw h3 h6 hl hr
    refine Rd_lpE c61_l0.eq_1 ?_
    have hlt : (i : Int) < 128 := by omega
    simp [h1, hw, h3, h6, hlt]
    refine Rd_call (spec94 _ s i (by omega)) (by simp [encS]) ?_
    have hwr : IntKind.i64.wrap ((i : Int) + 1) = ((i + 1 : Nat) : Int) := by rw [← wrap_i64_nat (n := i + 1) (by omega)]; rfl
    rw [List.range'_succ, List.filter_cons] at hr
    cases hs : s.has i with
    | false =>
      rw [hs] at hr
      simp [h1, hw, h3, h6, hlt, hwr]
      refine ih (i + 1) acc _ ω r (by omega) ?_ hw ?_ ?_ (by omega) hr <;> simp [h1, hw, h3, h6]
    | true =>
      rw [hs] at hr
      have hle : (acc.length + 1) * 8 ≤ 1099511627776 := by omega
      simp [h1, hw, h3, h6, hlt, hwr, hle]
      refine ih (i + 1) (acc ++ [i]) _ ω r (by omega) ?_ hw ?_ ?_ (by simp; omega) ?_ <;> simp [h1, hw, h3, h6, hr, encN]

theorem spec61 (D : Nat) (s : BS) : Go.Ab.Loc Pg Gl D 61 [encS s] [] (.sl 1 (s.list.map encN) .no) [] := by
  refine loc_rd mixedP tok rfl rfl fun S => ?_
  unfold c61
  generalize hr : AV.sl 1 (s.list.map encN) .no = r
  simp [encS]
  refine l61 D s S 128 0 [] _ _ r rfl ?_ ?_ ?_ ?_ (by simp) ?_ <;> simp [← hr, BS.list, List.range_eq_range']

theorem wrap_pow (x : Nat) (h : x < 64) : IntKind.u64.wrap (2 ^ x) = ((BitVec.twoPow 64 x).toNat : Int) := by
  have h2 : 2 ^ x < 2 ^ 64 := Nat.pow_lt_pow_right (by omega) h
  rw [BitVec.toNat_twoPow, Nat.mod_eq_of_lt h2, ← wrap_u64_nat h2]; norm_cast
/-- With -/
theorem spec101 (D : Nat) (s : BS) (x : Nat) (hx : x < 128) : Go.Ab.Loc Pg Gl D 101 [encS s, .int .i64 x] [] (encS (s.or (BS.single x))) [] := by
  refine loc_rd mixedP tok rfl rfl fun S => ?_
  unfold c101
  generalize hr : encS (s.or (BS.single x)) = r
  have e2 : (x : Int).tmod 64 = ((x % 64 : Nat) : Int) := by rw [Int.tmod_eq_emod_of_nonneg (by omega)]; omega
  have e3 : min (x % 64) 64 = x % 64 := by omega
  by_cases h : x < 64
  · have e1 : IntKind.i64.wrap ((x : Int) / 64) = 0 := by rw [show (x : Int) / 64 = 0 by omega]; rfl
    have e4 : x % 64 = x := by omega
    have e5 : min x IntKind.u64.bits = x := by simp only [IntKind.bits]; omega
    simp [encS, e1, e2, e3, e4, e5, wrap_pow x h, bits_or, -BitVec.toNat_twoPow, -BitVec.toNat_or]
    simp [← hr, BS.single, BS.or, h, encS]
  · have e1 : IntKind.i64.wrap ((x : Int) / 64) = 1 := by rw [show (x : Int) / 64 = 1 by omega]; rfl
    have e4 : x % 64 = x - 64 := by omega
    have e5 : min (x - 64) IntKind.u64.bits = x - 64 := by simp only [IntKind.bits]; omega
    simp [encS, e1, e2, e3, e4, e5, wrap_pow (x - 64) (by omega), bits_or, -BitVec.toNat_twoPow, -BitVec.toNat_or]
    simp [← hr, BS.single, BS.or, h, encS]
end Go.Ab.Tab
/- Lists of numbers as sets: Of, one, read, asks. -/
namespace Go.Ab.Tab
open Go Go.Ab
set_option maxRecDepth 10000
set_option linter.unusedVariables false
set_option linter.unusedSimpArgs false

def encI (l : List Int) : AV := .sl 1 (l.map (AV.int .i64)) .no
def prevOk : Option Int → Int → Bool
  | none, _ => true
  | some y, x => decide (y < x)
def isSetFrom (n : Int) : Option Int → List Int → Bool
  | _, [] => true
  | p, x :: l => decide (0 ≤ x) && decide (x < n) && prevOk p x && isSetFrom n (some x) l
def isSet (n : Int) (l : List Int) : Bool := isSetFrom n none l
def toS (l : List Int) : BS := l.foldr (fun x s => (BS.single x.toNat).or s) (0#64, 0#64)

theorem or_assoc (a b c : BS) : (a.or b).or c = a.or (b.or c) := by simp [BS.or, BitVec.or_assoc]
theorem or_zero (a : BS) : a.or (0#64, 0#64) = a := by simp [BS.or]

/-- what Of returns -/
def rOf (b : Bool) (s : BS) : AV := if b then .tup [encS s, .bool true] else .tup [encS (0#64, 0#64), .bool false]

theorem l68 (D : Nat) (n : Int) (hn : n ≤ 128) (l : List Int) (hlen : l.length ≤ maxLen) (S) : ∀ (m i : Nat) (acc : BS) (τ ω) (r : AV), i + m = l.length →
    τ 0 = .int .i64 n → τ 1 = encI l → τ 4 = .ptr D 4 1 0 → τ 6 = .ptr D 6 1 0 → τ 9 = encI l → τ 10 = .int .i64 l.length → τ 11 = .int .i64 i →
    ω 4 = (1, .cells [.int .u64 0, .int .u64 0]) → ω 6 = (1, .cells [.int .u64 acc.1.toNat, .int .u64 acc.2.toNat]) →
    r = rOf (isSetFrom n (if i = 0 then none else l[i-1]?) (l.drop i)) (acc.or (toS (l.drop i))) →
    Rd (Loc Pg Gl) .im (RetQ [.cell 4 true 2, .tmp 5] r S) [.lp c68_l0, .blk 0, .c c68_k0] (stF 42 D τ ω S) := by
  intro m
  induction m with
  | zero =>
    intro i acc τ ω r hi h0 h1 h4 h6 h9 h10 h11 w4 w6 hr
    refine Rd_lpE c68_l0.eq_1 ?_
    obtain rfl : i = l.length := by omega
    simp [h0, h1, h4, h6, h9, h10, h11, w4, w6, c68_k0, encI]
    rw [hr, List.drop_length, toS, List.foldr_nil, or_zero]
    simp [isSetFrom, rOf, encS]
  | succ m ih =>
    intro i acc τ ω r hi h0 h1 h4 h6 h9 h10 h11 w4 w6 hr
    refine Rd_lpE c68_l0.eq_1 ?_
    have hlt : i < l.length := by omega
    have hwr : IntKind.i64.wrap ((i : Int) + 1) = ((i + 1 : Nat) : Int) := by
      unfold maxLen at hlen
      rw [← wrap_i64_nat (n := i + 1) (by omega)]; rfl
    obtain ⟨x, hx⟩ : ∃ x, l[i] = x := ⟨_, rfl⟩
    have hd : l.drop i = x :: l.drop (i + 1) := by rw [List.drop_eq_getElem_cons hlt, hx]
    rw [hd, isSetFrom] at hr
    by_cases hx0 : x < 0
    · have hx0' : ¬ 0 ≤ x := by omega
      simp [h0, h1, h4, h6, h9, h10, h11, w4, w6, encI, hlt, hx, hx0]
      simp [hr, hx0', rOf, encS]
    by_cases hxn : n ≤ x
    · have hxn' : ¬ x < n := by omega
      simp [h0, h1, h4, h6, h9, h10, h11, w4, w6, encI, hlt, hx, hx0, hxn]
      simp [hr, hxn', rOf, encS]
    have hx0' : 0 ≤ x := by omega
    have hxn' : x < n := by omega
    obtain ⟨y, rfl⟩ : ∃ y : Nat, x = y := ⟨x.toNat, by omega⟩
    rcases Nat.eq_zero_or_pos i with hi0 | hi0
    · have hpv : prevOk (if i = 0 then none else l[i - 1]?) (y : Int) = true := by rw [if_pos hi0]; rfl
      have hg : ¬ 0 < i := by omega
      simp [h0, h1, h4, h6, h9, h10, h11, w4, w6, encI, hlt, hx, hx0, hxn, hg]
      refine Rd_call (spec101 _ acc y (by omega)) (by simp [encS]) ?_
      simp [h0, h1, h4, h6, h9, h10, h11, w4, w6, hwr, encS]
      refine ih (i + 1) (acc.or (BS.single y)) _ _ r (by omega) ?_ ?_ ?_ ?_ ?_ ?_ ?_ ?_ ?_ (by rw [hr, if_neg (Nat.succ_ne_zero i), or_assoc, hpv, Nat.add_sub_cancel, List.getElem?_eq_getElem hlt, hx]; simp [hxn', toS])
      all_goals simp [h0, h1, h4, h6, h9, h10, h11, w4, w6, encI]
    · obtain ⟨p, hp⟩ : ∃ p, p + 1 = i := ⟨i - 1, by omega⟩
      have hpl : p < l.length := by omega
      have hpi : i - 1 = p := by omega
      obtain ⟨z, hz⟩ : ∃ z, l[p] = z := ⟨_, rfl⟩
      have hwm : IntKind.i64.wrap ((i : Int) - 1) = (p : Int) := by
        unfold maxLen at hlen
        rw [← wrap_i64_nat (n := p) (by omega)]; congr 1; omega
      have hpz : prevOk (if i = 0 then none else l[i - 1]?) (y : Int) = decide (z < y) := by
        rw [if_neg (by omega), hpi, List.getElem?_eq_getElem hpl, hz]; rfl
      by_cases hq : (y : Int) ≤ z
      · have hq' : ¬ z < y := by omega
        rw [hpz] at hr
        simp [h0, h1, h4, h6, h9, h10, h11, w4, w6, encI, hlt, hx, hx0, hxn, hz, hwm, hq, hi0, hpl]
        simp [hr, hq', rOf, encS]
      · have hpv : prevOk (if i = 0 then none else l[i - 1]?) (y : Int) = true := by rw [hpz]; simp; omega
        simp [h0, h1, h4, h6, h9, h10, h11, w4, w6, encI, hlt, hx, hx0, hxn, hz, hwm, hq, hi0, hpl]
        refine Rd_call (spec101 _ acc y (by omega)) (by simp [encS]) ?_
        simp [h0, h1, h4, h6, h9, h10, h11, w4, w6, hwr, encS]
        refine ih (i + 1) (acc.or (BS.single y)) _ _ r (by omega) ?_ ?_ ?_ ?_ ?_ ?_ ?_ ?_ ?_ (by rw [hr, if_neg (Nat.succ_ne_zero i), or_assoc, hpv, Nat.add_sub_cancel, List.getElem?_eq_getElem hlt, hx]; simp [hxn', toS])
        all_goals simp [h0, h1, h4, h6, h9, h10, h11, w4, w6, encI]

theorem spec68 (D : Nat) (n : Int) (hn : n ≤ 128) (l : List Int) (hlen : l.length ≤ maxLen) : Go.Ab.Loc Pg Gl D 68 [.int .i64 n, encI l] [] (rOf (isSet n l) (toS l)) [] := by
  refine loc_rd mixedP tok rfl rfl fun S => ?_
  unfold c68
  generalize hr : rOf (isSet n l) (toS l) = r
  simp [encI]
  refine l68 D n hn l hlen S l.length 0 (0#64, 0#64) _ _ r (by simp) ?_ ?_ ?_ ?_ ?_ ?_ ?_ ?_ ?_ (by rw [← hr]; simp [isSet, BS.or])
  all_goals simp [encI]

def ofS (n : Int) (l : List Int) : BS := if isSet n l then toS l else (0#64, 0#64)
theorem rOf_eq (n : Int) (l : List Int) : rOf (isSet n l) (toS l) = .tup [encS (ofS n l), .bool (isSet n l)] := by
  unfold rOf ofS; cases isSet n l <;> rfl

abbrev PI := List Int × List Int
abbrev PS := BS × BS
def encPI (p : PI) : AV := .agg [encI p.1, encI p.2]
def encPS (p : PS) : AV := .agg [.int .u64 p.1.1.toNat, .int .u64 p.1.2.toNat, .int .u64 p.2.1.toNat, .int .u64 p.2.2.toNat]

/-- one -/
theorem spec97 (D : Nat) (n : Int) (hn : n ≤ 128) (x y : List Int) (hx : x.length ≤ maxLen) (hy : y.length ≤ maxLen) :
    Go.Ab.Loc Pg Gl D 97 [.int .i64 n, encI x, encI y] [] (.tup [encPS (ofS n x, ofS n y), .bool (isSet n x && isSet n y)]) [] := by
  refine loc_rd mixedP tok rfl rfl fun S => ?_
  unfold c97
  generalize hr : AV.tup [encPS (ofS n x, ofS n y), .bool (isSet n x && isSet n y)] = r
  simp [encI]
  refine Rd_call (spec68 _ n hn x hx) (by simp [encI]) ?_
  rw [rOf_eq]
  simp [encS]
  refine Rd_call (spec68 _ n hn y hy) (by simp [encI]) ?_
  rw [rOf_eq]
  simp [encS]
  cases hb : isSet n x <;> simp [← hr, encPS, hb]

def toPS (p : PI) : PS := (toS p.1, toS p.2)
def pairsOk (n : Int) (ps : List PI) : Bool := ps.all fun p => isSet n p.1 && isSet n p.2
def rRead (b : Bool) (l : List PS) : AV := if b then .tup [.sl 4 (l.map encPS) .no, .bool true] else .tup [.sl 4 [] .no, .bool false]

theorem l80 (D : Nat) (n : Int) (hn : n ≤ 128) (ps : List PI) (hlen : ps.length ≤ 1000) (hps : ∀ p ∈ ps, p.1.length ≤ maxLen ∧ p.2.length ≤ maxLen) (S) : ∀ (m i : Nat) (acc : List PS) (τ ω) (r : AV), i + m = ps.length →
    τ 0 = .int .i64 n → τ 6 = .sl 4 (acc.map encPS) .tip → τ 14 = .sl 2 (ps.map encPI) .no → τ 15 = .int .i64 ps.length → τ 16 = .int .i64 i → acc.length ≤ i →
    r = rRead (pairsOk n (ps.drop i)) (acc ++ (ps.drop i).map toPS) →
    Rd (Loc Pg Gl) .im (RetQ [.tmp 4, .tmp 5] r S) [.lp c80_l0, .blk 0, .c c80_k0] (stF 37 D τ ω S) := by
  intro m
  induction m with
  | zero =>
    intro i acc τ ω r hi h0 h6 h14 h15 h16 hl hr
    refine Rd_lpE c80_l0.eq_1 ?_
    obtain rfl : i = ps.length := by omega
    rw [List.drop_length] at hr
    simp [h0, h6, h14, h15, h16, c80_k0]
    simp [hr, rRead, pairsOk]
  | succ m ih =>
    intro i acc τ ω r hi h0 h6 h14 h15 h16 hl hr
    refine Rd_lpE c80_l0.eq_1 ?_
    have hlt : i < ps.length := by omega
    have hwr : IntKind.i64.wrap ((i : Int) + 1) = ((i + 1 : Nat) : Int) := by rw [← wrap_i64_nat (n := i + 1) (by omega)]; rfl
    have hle : (acc.length + 1) * 32 ≤ 1099511627776 := by omega
    have hmem := hps _ (List.getElem_mem hlt)
    obtain ⟨⟨x, y⟩, hx⟩ : ∃ x, ps[i] = x := ⟨_, rfl⟩
    have hd : ps.drop i = (x, y) :: ps.drop (i + 1) := by rw [List.drop_eq_getElem_cons hlt, hx]
    rw [hx] at hmem
    rw [hd] at hr
    simp [h0, h6, h14, h15, h16, hlt, hx, encPI, encI]
    refine Rd_call (spec97 _ n hn x y hmem.1 hmem.2) (by simp [encI]) ?_
    cases hb : isSet n x && isSet n y with
    | false =>
      have hpf : pairsOk n ((x, y) :: ps.drop (i + 1)) = false := by
        unfold pairsOk; rw [List.all_cons, hb]; rfl
      rw [hpf] at hr
      simp [encPS]
      simp [hr, rRead]
    | true =>
      have h2 := hb
      rw [Bool.and_eq_true] at h2
      have hpf : pairsOk n ((x, y) :: ps.drop (i + 1)) = pairsOk n (ps.drop (i + 1)) := by
        unfold pairsOk; rw [List.all_cons, hb]; rfl
      rw [hpf] at hr
      simp [encPS, ofS, h2.1, h2.2, h6, hle, h14, h15, h16, hwr]
      refine ih (i + 1) (acc ++ [toPS (x, y)]) _ _ r (by omega) ?_ ?_ ?_ ?_ ?_ (by simp; omega) (by rw [hr]; simp) <;> simp [h0, h6, h14, h15, h16, encPS, toPS]

/-- read -/
theorem spec80 (D : Nat) (n : Int) (hn : n ≤ 128) (ps : List PI) (hps : ∀ p ∈ ps, p.1.length ≤ maxLen ∧ p.2.length ≤ maxLen) :
    Go.Ab.Loc Pg Gl D 80 [.int .i64 n, .sl 2 (ps.map encPI) .no] [] (rRead (decide (ps.length ≤ 1000) && pairsOk n ps) (ps.map toPS)) [] := by
  refine loc_rd mixedP tok rfl rfl fun S => ?_
  unfold c80
  generalize hr : rRead (decide (ps.length ≤ 1000) && pairsOk n ps) (ps.map toPS) = r
  by_cases hl : ps.length ≤ 1000
  · have hl' : ¬ (1000 : Int) < ps.length := by omega
    simp [hl']
    refine l80 D n hn ps hl hps S ps.length 0 [] _ _ r (by simp) ?_ ?_ ?_ ?_ ?_ (by simp) (by rw [← hr]; simp [hl]) <;> simp
  · have hl' : (1000 : Int) < ps.length := by omega
    simp [hl']
    simp [← hr, hl, rRead]

def askOk (n : Int) (ps : List PI) (x y : List Int) : Bool := decide (0 ≤ n) && decide (n ≤ 100) && (decide (ps.length ≤ 1000) && pairsOk n ps) && (isSet n x && isSet n y)
def rAsk (b : Bool) (l : List PS) (p : PS) : AV := if b then .tup [.sl 4 (l.map encPS) .no, encPS p, .int .i64 0] else .tup [.sl 4 [] .no, encPS ((0#64, 0#64), (0#64, 0#64)), .int .i64 1]

/-- asks -/
theorem spec59 (D : Nat) (n : Int) (ps : List PI) (hps : ∀ p ∈ ps, p.1.length ≤ maxLen ∧ p.2.length ≤ maxLen) (x y : List Int) (hx : x.length ≤ maxLen) (hy : y.length ≤ maxLen) :
    Go.Ab.Loc Pg Gl D 59 [.int .i64 n, .sl 2 (ps.map encPI) .no, encI x, encI y] [] (rAsk (askOk n ps x y) (ps.map toPS) (toS x, toS y)) [] := by
  refine loc_rd mixedP tok rfl rfl fun S => ?_
  unfold c59
  generalize hr : rAsk (askOk n ps x y) (ps.map toPS) (toS x, toS y) = r
  by_cases h0 : n < 0
  · have h0' : ¬ 0 ≤ n := by omega
    simp [h0, encI]
    simp [← hr, askOk, h0', rAsk, encPS]
  by_cases h1 : 100 < n
  · have h1' : ¬ n ≤ 100 := by omega
    simp [h0, h1, encI]
    simp [← hr, askOk, h1', rAsk, encPS]
  have h0' : 0 ≤ n := by omega
  have h1' : n ≤ 100 := by omega
  simp [h0, h1, encI]
  refine Rd_call (spec80 _ n (by omega) ps hps) (by simp [encI]) ?_
  cases hb : decide (ps.length ≤ 1000) && pairsOk n ps <;>
  · simp [rRead]
    refine Rd_call (spec97 _ n (by omega) x y hx hy) (by simp [encI]) ?_
    cases hc : isSet n x && isSet n y with
    | false =>
      simp [encPS]
      simp [← hr, askOk, hb, hc, rAsk, encPS]
    | true =>
      have hc' := hc
      rw [Bool.and_eq_true] at hc'
      simp [encPS]
      simp [← hr, askOk, hb, hc, h0', h1', rAsk, encPS, ofS, hc'.1, hc'.2]
end Go.Ab.Tab
/- Arguments as data. -/
namespace Go.Ab
open Go
section
variable {P : Program} {t : TypeId} {n : Nat} {cs : List AV}
theorem ty_int {k : IntKind} (hu : P.underlying t = some (.int k)) (h : tyOk P n t cs) : ∃ i, cs = [.int k i] ∧ (Lit.int k i).wf = true := by
  cases n with
  | zero => cases h
  | succ n => simpa only [tyOk, hu] using h
theorem ty_slice {e : TypeId} (hu : P.underlying t = some (.slice e)) (h : tyOk P n t cs) : ∃ xs n', cs = [.sl (P.cellsOf e) xs .no] ∧ xs.length ≤ maxLen ∧ ∀ x ∈ xs, ∃ c, x = mkV P e c ∧ tyOk P n' e c := by
  cases n with
  | zero => cases h
  | succ n =>
    simp only [tyOk, hu] at h
    obtain ⟨xs, h1, h2, h3⟩ := h
    exact ⟨xs, n, h1, h2, h3⟩
def fieldsOf (P : Program) (t : TypeId) : List (TypeId × Nat) := match P.underlying t with
  | some (.struct fs) => fs.toList.map fun f => (f.type, f.offset)
  | _ => []
def isStruct (P : Program) (t : TypeId) : Bool := match P.underlying t with
  | some (.struct _) => true
  | _ => false
theorem ty_struct (hs : isStruct P t = true) (h : tyOk P n t cs) : cs.length = P.cellsOf t ∧ ∃ n', ∀ f ∈ fieldsOf P t, tyOk P n' f.1 ((cs.drop f.2).take (P.cellsOf f.1)) := by
  unfold isStruct at hs
  unfold fieldsOf
  cases n with
  | zero => cases h
  | succ n =>
    cases hu : P.underlying t with
    | none => rw [hu] at hs; cases hs
    | some d =>
      rw [hu] at hs
      cases d with
      | struct fs =>
        simp only [tyOk, hu] at h
        refine ⟨h.1, n, fun f hf => ?_⟩
        obtain ⟨g, hg, rfl⟩ := List.mem_map.1 hf
        exact h.2 g hg
      | _ => cases hs
theorem map_exists {α β : Type} (f : α → β) (q : α → Prop) : ∀ (l : List β), (∀ x ∈ l, ∃ a, x = f a ∧ q a) → ∃ bs : List α, l = bs.map f ∧ ∀ a ∈ bs, q a
  | [], _ => ⟨[], rfl, by simp⟩
  | x :: l, h => by
    obtain ⟨a, h1, h2⟩ := h x (by simp)
    obtain ⟨bs, h3, h4⟩ := map_exists f q l fun y hy => h y (by simp [hy])
    exact ⟨a :: bs, by simp [h1, h3], fun b hb => by rcases List.mem_cons.1 hb with rfl | hb; exact h2; exact h4 b hb⟩
theorem mkV_one (h : isAggT P t = false) (c : AV) : mkV P t [c] = c := by unfold mkV; rw [h]; rfl
theorem mkV_agg (h : isAggT P t = true) : mkV P t cs = .agg cs := by unfold mkV; rw [h]; rfl
end
set_option maxRecDepth 10000
namespace Tab
theorem u3 : Pg.underlying 3 = some (.int .i64) := by kernel_rfl
theorem u23 : Pg.underlying 23 = some (.slice 3) := by kernel_rfl
theorem u22 : Pg.underlying 22 = some (.slice 96) := by kernel_rfl
theorem s96 : isStruct Pg 96 = true := by kernel_rfl
theorem f96 : fieldsOf Pg 96 = [(23, 0), (23, 1)] := by kernel_rfl
theorem z3 : Pg.cellsOf 3 = 1 := by kernel_rfl
theorem z23 : Pg.cellsOf 23 = 1 := by kernel_rfl
theorem z96 : Pg.cellsOf 96 = 2 := by kernel_rfl
theorem g3 : isAggT Pg 3 = false := by kernel_rfl
theorem g22 : isAggT Pg 22 = false := by kernel_rfl
theorem g23 : isAggT Pg 23 = false := by kernel_rfl
theorem g96 : isAggT Pg 96 = true := by kernel_rfl

theorem ty23 {n : Nat} {cs : List AV} (h : tyOk Pg n 23 cs) : ∃ l : List Int, cs = [encI l] ∧ l.length ≤ maxLen := by
  obtain ⟨xs, n', rfl, h2, h3⟩ := ty_slice u23 h
  obtain ⟨l, rfl, _⟩ := map_exists (AV.int .i64) (fun _ => True) xs fun x hx => by
    obtain ⟨c, rfl, hc⟩ := h3 x hx
    obtain ⟨i, rfl, _⟩ := ty_int u3 hc
    exact ⟨i, mkV_one g3 _, trivial⟩
  exact ⟨l, by rw [z3]; rfl, by simpa using h2⟩
theorem arg3 {a : AV} (h : Arg Pg 3 a) : ∃ n : Int, a = .int .i64 n := by
  obtain ⟨fuel, cs, h1, h2, rfl⟩ := h
  obtain ⟨i, rfl, _⟩ := ty_int u3 h1
  exact ⟨i, mkV_one g3 _⟩
theorem arg23 {a : AV} (h : Arg Pg 23 a) : ∃ l : List Int, a = encI l ∧ l.length ≤ maxLen := by
  obtain ⟨fuel, cs, h1, h2, rfl⟩ := h
  obtain ⟨l, rfl, hl⟩ := ty23 h1
  exact ⟨l, mkV_one g23 _, hl⟩
theorem arg22 {a : AV} (h : Arg Pg 22 a) : ∃ ps : List PI, a = .sl 2 (ps.map encPI) .no ∧ ps.length ≤ maxLen ∧ ∀ p ∈ ps, p.1.length ≤ maxLen ∧ p.2.length ≤ maxLen := by
  obtain ⟨fuel, cs, h1, h2, rfl⟩ := h
  obtain ⟨xs, n', rfl, h2, h3⟩ := ty_slice u22 h1
  obtain ⟨ps, rfl, hps⟩ := map_exists encPI (fun p => p.1.length ≤ maxLen ∧ p.2.length ≤ maxLen) xs fun x hx => by
    obtain ⟨c, rfl, hc⟩ := h3 x hx
    obtain ⟨hl, m, hf⟩ := ty_struct s96 hc
    rw [f96] at hf
    rw [z96] at hl
    obtain ⟨c0, c1, rfl⟩ : ∃ c0 c1, c = [c0, c1] := by
      match c, hl with
      | [c0, c1], _ => exact ⟨c0, c1, rfl⟩
    have k0 := hf (23, 0) (by simp)
    have k1 := hf (23, 1) (by simp)
    rw [z23] at k0 k1
    obtain ⟨l0, e0, h0⟩ := ty23 k0
    obtain ⟨l1, e1, h1⟩ := ty23 k1
    simp at e0 e1
    subst e0; subst e1
    exact ⟨(l0, l1), mkV_agg g96, h0, h1⟩
  exact ⟨ps, by rw [z96, mkV_one g22], by simpa using h2, hps⟩

end Tab
end Go.Ab
/- closure and congruent of layer 16. -/
namespace Go.Ab.Tab
open Go Go.Ab
set_option maxRecDepth 10000
set_option linter.unusedVariables false
set_option linter.unusedSimpArgs false

/-! Sets as sets of numbers below 128. -/
theorem has_or (a b : BS) (x : Nat) : (a.or b).has x = (a.has x || b.has x) := by
  unfold BS.has BS.or; split <;> simp
theorem BS.ext {a b : BS} (h : ∀ x, x < 128 → a.has x = b.has x) : a = b := by
  refine Prod.ext (BitVec.eq_of_getLsbD_eq fun i hi => ?_) (BitVec.eq_of_getLsbD_eq fun i hi => ?_)
  · have := h i (by omega); simpa [BS.has, hi] using this
  · have := h (i + 64) (by omega); simpa [BS.has, show ¬ i + 64 < 64 by omega] using this
theorem sub_iff {a b : BS} : a.sub b = true ↔ ∀ x, x < 128 → a.has x = true → b.has x = true := by
  unfold BS.sub
  rw [decide_eq_true_eq]
  constructor
  · intro h x hx ha; rw [← h, has_or, ha]; rfl
  · intro h; refine BS.ext fun x hx => ?_
    rw [has_or]
    cases ha : a.has x with
    | false => rfl
    | true => rw [h x hx ha]; rfl
theorem sub_refl (a : BS) : a.sub a = true := sub_iff.2 fun _ _ h => h
theorem sub_trans {a b c : BS} (h : a.sub b = true) (k : b.sub c = true) : a.sub c = true := sub_iff.2 fun x hx ha => sub_iff.1 k x hx (sub_iff.1 h x hx ha)
theorem sub_antisymm {a b : BS} (h : a.sub b = true) (k : b.sub a = true) : a = b := BS.ext fun x hx => by
  have h1 := sub_iff.1 h x hx; have h2 := sub_iff.1 k x hx
  cases ha : a.has x <;> cases hb : b.has x <;> simp_all
theorem sub_or_left (a b : BS) : a.sub (a.or b) = true := sub_iff.2 fun x _ h => by rw [has_or, h]; rfl
theorem sub_or_right (a b : BS) : b.sub (a.or b) = true := sub_iff.2 fun x _ h => by rw [has_or, h]; simp
theorem or_sub {a b c : BS} (h : a.sub c = true) (k : b.sub c = true) : (a.or b).sub c = true := sub_iff.2 fun x hx q => by
  rw [has_or, Bool.or_eq_true] at q
  exact q.elim (sub_iff.1 h x hx) (sub_iff.1 k x hx)

def BS.num (s : BS) : Nat := s.1.toNat + s.2.toNat
theorem num_lt (s : BS) : s.num < 2 ^ 65 := by unfold BS.num; have := s.1.isLt; have := s.2.isLt; omega
theorem num_or (s t : BS) (h : t.sub s = false) : s.num < (s.or t).num := by
  have h1 : s.1.toNat ≤ (s.1 ||| t.1).toNat := by rw [BitVec.toNat_or]; exact Nat.left_le_or
  have h2 : s.2.toNat ≤ (s.2 ||| t.2).toNat := by rw [BitVec.toNat_or]; exact Nat.left_le_or
  have hne : ¬ (s.1.toNat = (s.1 ||| t.1).toNat ∧ s.2.toNat = (s.2 ||| t.2).toNat) := by
    rintro ⟨e1, e2⟩
    have e : s.or t = s := Prod.ext (BitVec.eq_of_toNat_eq e1.symm) (BitVec.eq_of_toNat_eq e2.symm)
    have := sub_or_right s t
    rw [e] at this
    rw [this] at h; cases h
  have e : (s.or t).num = (s.1 ||| t.1).toNat + (s.2 ||| t.2).toNat := rfl
  rw [e]; unfold BS.num; omega

/-- closed under pairs -/
def Shut (ps : List PS) (u : BS) : Prop := ∀ p ∈ ps, (p.1.sub u = true → p.2.sub u = true) ∧ (p.2.sub u = true → p.1.sub u = true)
/-- the least closed set above -/
structure IsCl (ps : List PS) (s t : BS) : Prop where
  up : s.sub t = true
  shut : Shut ps t
  least : ∀ u, s.sub u = true → Shut ps u → t.sub u = true
theorem IsCl.uniq {ps s t t'} (h : IsCl ps s t) (k : IsCl ps s t') : t = t' := sub_antisymm (h.least _ k.up k.shut) (k.least _ h.up h.shut)

def clMore (s : BS) (p : PS) : Bool := (p.1.sub s || p.2.sub s) && !((p.1.or p.2).sub s)
def clStep (s : BS) (p : PS) : BS := if clMore s p then s.or (p.1.or p.2) else s
def rnd : List PS → BS × Bool → BS × Bool
  | [], x => x
  | p :: ps, (s, b) => rnd ps (clStep s p, b || clMore s p)

theorem clStep_least {ps : List PS} {s u : BS} {p : PS} (hp : p ∈ ps) (hu : s.sub u = true) (hs : Shut ps u) : (clStep s p).sub u = true := by
  unfold clStep clMore
  split
  · rename_i h
    rw [Bool.and_eq_true, Bool.or_eq_true] at h
    refine or_sub hu ?_
    rcases h.1 with h1 | h1
    · have := sub_trans h1 hu; exact or_sub this ((hs p hp).1 this)
    · have := sub_trans h1 hu; exact or_sub ((hs p hp).2 this) this
  · exact hu
theorem clStep_up (s : BS) (p : PS) : s.sub (clStep s p) = true := by
  unfold clStep; split
  · exact sub_or_left _ _
  · exact sub_refl _
theorem clStep_num (s : BS) (p : PS) : s.num + (if clMore s p then 1 else 0) ≤ (clStep s p).num := by
  unfold clStep; split
  · rename_i h
    unfold clMore at h
    rw [Bool.and_eq_true, Bool.not_eq_true'] at h
    exact num_or _ _ h.2
  · simp

theorem rnd_spec (ps0 : List PS) : ∀ (ps : List PS) (s : BS) (b : Bool), (∀ p ∈ ps, p ∈ ps0) →
    s.sub (rnd ps (s, b)).1 = true ∧ (∀ u, s.sub u = true → Shut ps0 u → (rnd ps (s, b)).1.sub u = true) ∧ s.num ≤ (rnd ps (s, b)).1.num ∧
    (b = false → (rnd ps (s, b)).2 = true → s.num < (rnd ps (s, b)).1.num) ∧ ((rnd ps (s, b)).2 = false → b = false ∧ (rnd ps (s, b)).1 = s ∧ ∀ p ∈ ps, clMore s p = false)
  | [], s, b, _ => ⟨sub_refl s, fun _ h _ => h, Nat.le_refl _, fun h k => by simp [rnd, h] at k, fun h => ⟨h, rfl, by simp⟩⟩
  | p :: ps, s, b, hp => by
    obtain ⟨h1, h2, h3, h4, h5⟩ := rnd_spec ps0 ps (clStep s p) (b || clMore s p) (fun q hq => hp q (by simp [hq]))
    have hn := clStep_num s p
    refine ⟨sub_trans (clStep_up s p) h1, fun u hu hs => h2 u (clStep_least (hp p (by simp)) hu hs) hs, by simp only [rnd]; omega, fun hb hr => ?_, fun hr => ?_⟩
    · simp only [rnd] at hr ⊢
      cases hm : clMore s p with
      | true => rw [hm] at hn h3; simp at hn; omega
      | false => rw [hm] at hr h4; rw [hm] at hn; simp only [hb, Bool.or_false] at h4 hr; have := h4 trivial hr; simp at hn; rw [hb]; simp only [Bool.or_false]; omega
    · simp only [rnd] at hr ⊢
      obtain ⟨k1, k2, k3⟩ := h5 hr
      rw [Bool.or_eq_false_iff] at k1
      have e : clStep s p = s := by unfold clStep; rw [k1.2]; rfl
      refine ⟨k1.1, k2.trans e, fun q hq => ?_⟩
      rcases List.mem_cons.1 hq with rfl | hq
      · exact k1.2
      · have := k3 q hq; rwa [e] at this

theorem shut_of {ps : List PS} {s : BS} (h : ∀ p ∈ ps, clMore s p = false) : Shut ps s := by
  intro p hp
  have := h p hp
  unfold clMore at this
  rw [Bool.and_eq_false_iff, Bool.not_eq_false'] at this
  constructor
  · intro h1
    rcases this with k | k
    · rw [h1] at k; cases k
    · exact sub_trans (sub_or_right _ _) k
  · intro h1
    rcases this with k | k
    · rw [h1, Bool.or_true] at k; cases k
    · exact sub_trans (sub_or_left _ _) k

/-- a closure exists -/
theorem exists_cl (ps : List PS) (s0 : BS) : ∃ t, IsCl ps s0 t := by
  have : ∀ (n : Nat) (s : BS), 2 ^ 65 ≤ s.num + n → s0.sub s = true → (∀ u, s0.sub u = true → Shut ps u → s.sub u = true) → ∃ t, IsCl ps s0 t := by
    intro n
    induction n with
    | zero => intro s hn; have := num_lt s; omega
    | succ n ih =>
      intro s hn hup hl
      obtain ⟨h1, h2, h3, h4, h5⟩ := rnd_spec ps ps s false (fun _ h => h)
      cases hb : (rnd ps (s, false)).2 with
      | true => exact ih _ (by have := h4 rfl hb; omega) (sub_trans hup h1) fun u hu hs => h2 u (hl u hu hs) hs
      | false =>
        obtain ⟨_, k2, k3⟩ := h5 hb
        exact ⟨s, hup, shut_of k3, hl⟩
  exact this (2 ^ 65) s0 (by omega) (sub_refl _) fun u hu _ => hu
noncomputable def cl (ps : List PS) (s : BS) : BS := (exists_cl ps s).choose
theorem cl_is (ps : List PS) (s : BS) : IsCl ps s (cl ps s) := (exists_cl ps s).choose_spec

/-! The walk. -/
theorem l60_0 (D : Nat) (ps : List PS) (Q : St → Prop) (k : List AI) (hlen : ps.length ≤ 1000) (S) : ∀ (m i : Nat) (s : BS) (b : Bool) (τ ω), i + m = ps.length →
    τ 0 = .sl 4 (ps.map encPS) .no → τ 3 = .ptr D 3 1 0 → τ 4 = .ptr D 4 1 0 → τ 5 = .bool b → τ 10 = .sl 4 (ps.map encPS) .no → τ 11 = .int .i64 ps.length → τ 12 = .int .i64 i → ω 3 = (1, .cells [.int .u64 s.1.toNat, .int .u64 s.2.toNat]) → ω 4 = (1, .cells [.int .u64 0, .int .u64 0]) →
    (∀ (τ' : Nat → AV) (ω' : Nat → Ent) (s' : BS) (b' : Bool), rnd (ps.drop i) (s, b) = (s', b') → τ' 0 = .sl 4 (ps.map encPS) .no → τ' 3 = .ptr D 3 1 0 → τ' 4 = .ptr D 4 1 0 → τ' 5 = .bool b' → ω' 3 = (1, .cells [.int .u64 s'.1.toNat, .int .u64 s'.2.toNat]) → ω' 4 = (1, .cells [.int .u64 0, .int .u64 0]) → Rd (Loc Pg Gl) .im Q k (stF 42 D τ' ω' S)) →
    Rd (Loc Pg Gl) .im Q (.lp c60_l0 :: .blk 2 :: k) (stF 42 D τ ω S) := by
  intro m
  induction m with
  | zero =>
    intro i s b τ ω hi h0 h3 h4 h5 h10 h11 h12 w3 w4 hk
    refine Rd_lpE c60_l0.eq_1 ?_
    obtain rfl : i = ps.length := by omega
    rw [List.drop_length] at hk
    simp [h3, h5, h10, h11, h12, w3]
    refine hk _ _ s b rfl ?_ ?_ ?_ ?_ w3 w4 <;> simp [h0, h3, h4, h5]
  | succ m ih =>
    intro i s b τ ω hi h0 h3 h4 h5 h10 h11 h12 w3 w4 hk
    refine Rd_lpE c60_l0.eq_1 ?_
    have hlt : i < ps.length := by omega
    have hwr : IntKind.i64.wrap ((i : Int) + 1) = ((i + 1 : Nat) : Int) := by rw [← wrap_i64_nat (n := i + 1) (by omega)]; rfl
    obtain ⟨p, hx⟩ : ∃ x, ps[i] = x := ⟨_, rfl⟩
    have hd : ps.drop i = p :: ps.drop (i + 1) := by rw [List.drop_eq_getElem_cons hlt, hx]
    rw [hd] at hk
    simp [h3, h5, h10, h11, h12, w3, hlt, hx, encPS]
    refine Rd_call (spec98 _ p.1 p.2) (by simp [encS]) ?_
    simp [h3, h5, h10, h11, h12, w3, encS]
    refine Rd_call (spec99 _ p.1 s) (by simp [encS]) ?_
    have fin : ∀ (τ' : Nat → AV) (ω' : Nat → Ent), clMore s p = false → τ' 0 = .sl 4 (ps.map encPS) .no → τ' 3 = .ptr D 3 1 0 → τ' 4 = .ptr D 4 1 0 → τ' 5 = .bool b → τ' 10 = .sl 4 (ps.map encPS) .no → τ' 11 = .int .i64 ps.length → τ' 12 = .int .i64 ((i + 1 : Nat) : Int) → ω' 3 = (1, .cells [.int .u64 s.1.toNat, .int .u64 s.2.toNat]) → ω' 4 = (1, .cells [.int .u64 0, .int .u64 0]) →
        Rd (Loc Pg Gl) .im Q (.lp c60_l0 :: .blk 2 :: k) (stF 42 D τ' ω' S) := by
      intro τ' ω' hm g0 g3 g4 g5 g10 g11 g12 v3 v4
      refine ih (i + 1) s b τ' ω' (by omega) g0 g3 g4 g5 g10 g11 g12 v3 v4 ?_
      rw [rnd, hm, Bool.or_false, show clStep s p = s by unfold clStep; rw [hm]; rfl] at hk
      exact hk
    have fin2 : ∀ (τ' : Nat → AV) (ω' : Nat → Ent), clMore s p = true → τ' 0 = .sl 4 (ps.map encPS) .no → τ' 3 = .ptr D 3 1 0 → τ' 4 = .ptr D 4 1 0 → τ' 5 = .bool true → τ' 10 = .sl 4 (ps.map encPS) .no → τ' 11 = .int .i64 ps.length → τ' 12 = .int .i64 ((i + 1 : Nat) : Int) → ω' 3 = (1, .cells [.int .u64 (s.or (p.1.or p.2)).1.toNat, .int .u64 (s.or (p.1.or p.2)).2.toNat]) → ω' 4 = (1, .cells [.int .u64 0, .int .u64 0]) →
        Rd (Loc Pg Gl) .im Q (.lp c60_l0 :: .blk 2 :: k) (stF 42 D τ' ω' S) := by
      intro τ' ω' hm g0 g3 g4 g5 g10 g11 g12 v3 v4
      refine ih (i + 1) (s.or (p.1.or p.2)) true τ' ω' (by omega) g0 g3 g4 g5 g10 g11 g12 v3 v4 ?_
      rw [rnd, hm, Bool.or_true, show clStep s p = s.or (p.1.or p.2) by unfold clStep; rw [hm]; rfl] at hk
      exact hk
    cases h1 : p.1.sub s with
    | true =>
      simp [h3, h5, h10, h11, h12, w3, encS]
      refine Rd_call (spec99 _ (p.1.or p.2) s) (by simp [encS]) ?_
      cases h2 : (p.1.or p.2).sub s with
      | true =>
        simp [h3, h5, h10, h11, h12, w3, encS, hwr]
        refine fin _ _ (by simp [clMore, h1, h2]) ?_ ?_ ?_ ?_ ?_ ?_ ?_ ?_ ?_ <;> simp [h0, h3, h4, h5, h10, h11, h12, w3, w4]
      | false =>
        simp [h3, h5, h10, h11, h12, w3, encS, hwr]
        refine Rd_call (spec98 _ s (p.1.or p.2)) (by simp [encS]) ?_
        simp [h3, h5, h10, h11, h12, w3, encS, hwr]
        refine fin2 _ _ (by simp [clMore, h1, h2]) ?_ ?_ ?_ ?_ ?_ ?_ ?_ ?_ ?_ <;> simp [h0, h3, h4, h5, h10, h11, h12, w3, w4]
    | false =>
      simp [h3, h5, h10, h11, h12, w3, encS]
      refine Rd_call (spec99 _ p.2 s) (by simp [encS]) ?_
      cases h1' : p.2.sub s with
      | true =>
        simp [h3, h5, h10, h11, h12, w3, encS]
        refine Rd_call (spec99 _ (p.1.or p.2) s) (by simp [encS]) ?_
        cases h2 : (p.1.or p.2).sub s with
        | true =>
          simp [h3, h5, h10, h11, h12, w3, encS, hwr]
          refine fin _ _ (by simp [clMore, h1, h2]) ?_ ?_ ?_ ?_ ?_ ?_ ?_ ?_ ?_ <;> simp [h0, h3, h4, h5, h10, h11, h12, w3, w4]
        | false =>
          simp [h3, h5, h10, h11, h12, w3, encS, hwr]
          refine Rd_call (spec98 _ s (p.1.or p.2)) (by simp [encS]) ?_
          simp [h3, h5, h10, h11, h12, w3, encS, hwr]
          refine fin2 _ _ (by simp [clMore, h1, h1', h2]) ?_ ?_ ?_ ?_ ?_ ?_ ?_ ?_ ?_ <;> simp [h0, h3, h4, h5, h10, h11, h12, w3, w4]
      | false =>
        simp [h3, h5, h10, h11, h12, w3, encS, hwr]
        refine fin _ _ (by simp [clMore, h1, h1']) ?_ ?_ ?_ ?_ ?_ ?_ ?_ ?_ ?_ <;> simp [h0, h3, h4, h5, h10, h11, h12, w3, w4]

theorem l60_1 (D : Nat) (ps : List PS) (hlen : ps.length ≤ 1000) (s0 t : BS) (ht : IsCl ps s0 t) (S) (r : AV) (hr : r = encS t) : ∀ (m : Nat) (s : BS) (b : Bool) (τ ω), 2 ^ 65 ≤ s.num + m →
    s0.sub s = true → (∀ u, s0.sub u = true → Shut ps u → s.sub u = true) → (b = false → Shut ps s) →
    τ 0 = .sl 4 (ps.map encPS) .no → τ 3 = .ptr D 3 1 0 → τ 4 = .ptr D 4 1 0 → τ 5 = .bool b → ω 3 = (1, .cells [.int .u64 s.1.toNat, .int .u64 s.2.toNat]) → ω 4 = (1, .cells [.int .u64 0, .int .u64 0]) →
    Rd (Loc Pg Gl) .im (RetQ [.cell 4 true 2] r S) [.lp c60_l1, .blk 0, .c c60_k0] (stF 42 D τ ω S) := by
  intro m
  induction m with
  | zero => intro s b τ ω hn; have := num_lt s; omega
  | succ m ih =>
    intro s b τ ω hn hup hl hsh h0 h3 h4 h5 w3 w4
    have hend : ∀ (τ' : Nat → AV) (ω' : Nat → Ent) (s' : BS), s0.sub s' = true → (∀ u, s0.sub u = true → Shut ps u → s'.sub u = true) → Shut ps s' → τ' 3 = .ptr D 3 1 0 → τ' 4 = .ptr D 4 1 0 → τ' 5 = .bool false → ω' 3 = (1, .cells [.int .u64 s'.1.toNat, .int .u64 s'.2.toNat]) → ω' 4 = (1, .cells [.int .u64 0, .int .u64 0]) →
        Rd (Loc Pg Gl) .im (RetQ [.cell 4 true 2] r S) [.lp c60_l1, .blk 0, .c c60_k0] (stF 42 D τ' ω' S) := by
      intro τ' ω' s' q1 q2 q3 g3 g4 g5 v3 v4
      have e : t = s' := ht.uniq ⟨q1, q3, q2⟩
      refine Rd_lpE c60_l1.eq_1 ?_
      simp [g3, g4, g5, v3, v4, c60_k0]
      simp [hr, e, encS]
    cases b with
    | false => exact hend τ ω s hup hl (hsh rfl) h3 h4 h5 w3 w4
    | true =>
      refine Rd_lpE c60_l1.eq_1 ?_
      simp [h0, h3, h4, h5, w3, w4]
      refine l60_0 D ps _ _ hlen S ps.length 0 s false _ _ (by simp) ?_ ?_ ?_ ?_ ?_ ?_ ?_ w3 w4 ?_
      case refine_8 =>
        intro τ' ω' s' b' hrn g0 g3 g4 g5 v3 v4
        obtain ⟨q1, q2, q3, q4, q5⟩ := rnd_spec ps ps s false (fun _ h => h)
        rw [List.drop_zero] at hrn
        rw [hrn] at q1 q2 q3 q4 q5
        simp only at q1 q2 q3 q4 q5
        have hup' := sub_trans hup q1
        have hl' := fun u hu hs => q2 u (hl u hu hs) hs
        simp
        cases b' with
        | true => exact ih s' true τ' ω' (by have := q4 trivial rfl; omega) hup' hl' (by simp) g0 g3 g4 g5 v3 v4
        | false =>
          obtain ⟨_, k2, k3⟩ := q5 rfl
          exact hend τ' ω' s' hup' hl' (k2 ▸ shut_of k3) g3 g4 g5 v3 v4
      all_goals simp [h0, h3, h4, h5]

/-- closure -/
theorem spec60 (D : Nat) (ps : List PS) (hlen : ps.length ≤ 1000) (s : BS) : Go.Ab.Loc Pg Gl D 60 [.sl 4 (ps.map encPS) .no, encS s] [] (encS (cl ps s)) [] := by
  refine loc_rd mixedP tok rfl rfl fun S => ?_
  unfold c60
  generalize hr : encS (cl ps s) = r
  simp [encS]
  refine l60_1 D ps hlen s (cl ps s) (cl_is ps s) S r hr.symm (2 ^ 65) s true _ _ (by omega) (sub_refl s) (fun u hu _ => hu) (by simp) ?_ ?_ ?_ ?_ ?_ ?_ <;> simp

/-- congruent -/
theorem spec62 (D : Nat) (ps : List PS) (hlen : ps.length ≤ 1000) (p : PS) : Go.Ab.Loc Pg Gl D 62 [.sl 4 (ps.map encPS) .no, encPS p] [] (.bool (decide (cl ps p.1 = cl ps p.2))) [] := by
  refine loc_rd mixedP tok rfl rfl fun S => ?_
  unfold c62
  generalize hr : AV.bool (decide (cl ps p.1 = cl ps p.2)) = r
  simp [encPS]
  refine Rd_drCall (spec60 _ ps hlen p.1) (by simp [encS]) ?_
  simp [encS]
  refine Rd_drCall (spec60 _ ps hlen p.2) (by simp [encS]) ?_
  simp [encS, eqCells2]
  simp [← hr, Prod.ext_iff]

/-- Closure -/
theorem spec15 (D : Nat) (n : Int) (ps : List PI) (hps : ∀ p ∈ ps, p.1.length ≤ maxLen ∧ p.2.length ≤ maxLen) (x : List Int) (hx : x.length ≤ maxLen) :
    Go.Ab.Loc Pg Gl D 15 [.int .i64 n, .sl 2 (ps.map encPI) .no, encI x] [] (if askOk n ps x [] then .tup [.sl 1 ((cl (ps.map toPS) (toS x)).list.map encN) .no, .int .i64 0] else .tup [.sl 1 [] .no, .int .i64 1]) [] := by
  refine loc_rd mixedP tok rfl rfl fun S => ?_
  unfold c15
  generalize hr : (if askOk n ps x [] then AV.tup [.sl 1 ((cl (ps.map toPS) (toS x)).list.map encN) .no, .int .i64 0] else .tup [.sl 1 [] .no, .int .i64 1]) = r
  simp [encI]
  refine Rd_call (spec59 _ n ps hps x [] hx (by simp)) (by simp [encI]) ?_
  cases hb : askOk n ps x [] with
  | false =>
    simp [rAsk, encPS]
    simp [← hr, hb]
  | true =>
    have hlen : ps.length ≤ 1000 := by simp [askOk] at hb; exact hb.1.2.1
    simp [rAsk, encPS]
    refine Rd_call (spec60 _ (ps.map toPS) (by simpa using hlen) (toS x)) (by simp [encS, toPS]) ?_
    simp [encS]
    refine Rd_call (spec61 _ _) (by simp [encS]; exact ⟨rfl, rfl⟩) ?_
    simp
    simp [← hr, hb]

/-- Congruent -/
theorem spec16 (D : Nat) (n : Int) (ps : List PI) (hps : ∀ p ∈ ps, p.1.length ≤ maxLen ∧ p.2.length ≤ maxLen) (x y : List Int) (hx : x.length ≤ maxLen) (hy : y.length ≤ maxLen) :
    Go.Ab.Loc Pg Gl D 16 [.int .i64 n, .sl 2 (ps.map encPI) .no, encI x, encI y] [] (if askOk n ps x y then .tup [.bool (decide (cl (ps.map toPS) (toS x) = cl (ps.map toPS) (toS y))), .int .i64 0] else .tup [.bool false, .int .i64 1]) [] := by
  refine loc_rd mixedP tok rfl rfl fun S => ?_
  unfold c16
  generalize hr : (if askOk n ps x y then AV.tup [.bool (decide (cl (ps.map toPS) (toS x) = cl (ps.map toPS) (toS y))), .int .i64 0] else .tup [.bool false, .int .i64 1]) = r
  simp [encI]
  refine Rd_call (spec59 _ n ps hps x y hx hy) (by simp [encI]) ?_
  cases hb : askOk n ps x y with
  | false =>
    simp [rAsk, encPS]
    simp [← hr, hb]
  | true =>
    have hlen : ps.length ≤ 1000 := by simp [askOk] at hb; exact hb.1.2.1
    simp [rAsk, encPS]
    refine Rd_call (spec62 _ (ps.map toPS) (by simpa using hlen) (toS x, toS y)) (by simp [encPS]) ?_
    simp
    simp [← hr, hb]
end Go.Ab.Tab
/- Set, Sets, Same, few. -/
namespace Go.Ab.Tab
open Go Go.Ab
set_option maxRecDepth 10000
set_option linter.unusedVariables false
set_option linter.unusedSimpArgs false

theorem wrap_next {i n : Nat} (h : i < n) (hn : n ≤ maxLen) : IntKind.i64.wrap ((i : Int) + 1) = ((i + 1 : Nat) : Int) := by
  unfold maxLen at hn
  rw [← wrap_i64_nat (n := i + 1) (by omega)]; rfl

theorem l18 (D : Nat) (n : Int) (l : List Int) (hlen : l.length ≤ maxLen) (S) : ∀ (m i : Nat) (τ ω) (r : AV), i + m = l.length →
    τ 0 = .int .i64 n → τ 1 = encI l → τ 7 = encI l → τ 8 = .int .i64 l.length → τ 9 = .int .i64 i →
    r = .bool (isSetFrom n (if i = 0 then none else l[i-1]?) (l.drop i)) →
    Rd (Loc Pg Gl) .im (RetQ [.tmp 4] r S) [.lp c18_l0, .blk 0, .c c18_k0] (stF 35 D τ ω S) := by
  intro m
  induction m with
  | zero =>
    intro i τ ω r hi h0 h1 h7 h8 h9 hr
    refine Rd_lpE c18_l0.eq_1 ?_
    obtain rfl : i = l.length := by omega
    rw [List.drop_length] at hr
    simp [h0, h1, h7, h8, h9, c18_k0, encI]
    rw [hr, isSetFrom]
  | succ m ih =>
    intro i τ ω r hi h0 h1 h7 h8 h9 hr
    refine Rd_lpE c18_l0.eq_1 ?_
    have hlt : i < l.length := by omega
    have hwr := wrap_next hlt hlen
    obtain ⟨x, hx⟩ : ∃ x, l[i] = x := ⟨_, rfl⟩
    have hd : l.drop i = x :: l.drop (i + 1) := by rw [List.drop_eq_getElem_cons hlt, hx]
    rw [hd, isSetFrom] at hr
    by_cases hx0 : x < 0
    · have hx0' : ¬ 0 ≤ x := by omega
      simp [h0, h1, h7, h8, h9, encI, hlt, hx, hx0]
      simp [hr, hx0']
    by_cases hxn : n ≤ x
    · have hxn' : ¬ x < n := by omega
      simp [h0, h1, h7, h8, h9, encI, hlt, hx, hx0, hxn]
      simp [hr, hxn']
    have hx0' : 0 ≤ x := by omega
    have hxn' : x < n := by omega
    rcases Nat.eq_zero_or_pos i with hi0 | hi0
    · have hpv : prevOk (if i = 0 then none else l[i - 1]?) x = true := by rw [if_pos hi0]; rfl
      have hg : ¬ 0 < i := by omega
      simp [h0, h1, h7, h8, h9, encI, hlt, hx, hx0, hxn, hg, hwr]
      refine ih (i + 1) _ _ r (by omega) ?_ ?_ ?_ ?_ ?_ (by rw [hr, if_neg (Nat.succ_ne_zero i), hpv, Nat.add_sub_cancel, List.getElem?_eq_getElem hlt, hx]; simp [hx0', hxn'])
      all_goals simp [h0, h1, h7, h8, h9, encI]
    · obtain ⟨p, hp⟩ : ∃ p, p + 1 = i := ⟨i - 1, by omega⟩
      have hpl : p < l.length := by omega
      have hpi : i - 1 = p := by omega
      obtain ⟨z, hz⟩ : ∃ z, l[p] = z := ⟨_, rfl⟩
      have hwm : IntKind.i64.wrap ((i : Int) - 1) = (p : Int) := by
        unfold maxLen at hlen
        rw [← wrap_i64_nat (n := p) (by omega)]; congr 1; omega
      have hpz : prevOk (if i = 0 then none else l[i - 1]?) x = decide (z < x) := by
        rw [if_neg (by omega), hpi, List.getElem?_eq_getElem hpl, hz]; rfl
      by_cases hq : x ≤ z
      · have hq' : ¬ z < x := by omega
        rw [hpz] at hr
        simp [h0, h1, h7, h8, h9, encI, hlt, hx, hx0, hxn, hz, hwm, hq, hi0, hpl]
        simp [hr, hq']
      · have hpv : prevOk (if i = 0 then none else l[i - 1]?) x = true := by rw [hpz]; simp; omega
        simp [h0, h1, h7, h8, h9, encI, hlt, hx, hx0, hxn, hz, hwm, hq, hi0, hpl, hwr]
        refine ih (i + 1) _ _ r (by omega) ?_ ?_ ?_ ?_ ?_ (by rw [hr, if_neg (Nat.succ_ne_zero i), hpv, Nat.add_sub_cancel, List.getElem?_eq_getElem hlt, hx]; simp [hx0', hxn'])
        all_goals simp [h0, h1, h7, h8, h9, encI]

/-- Set -/
theorem spec18 (D : Nat) (n : Int) (l : List Int) (hlen : l.length ≤ maxLen) : Go.Ab.Loc Pg Gl D 18 [.int .i64 n, encI l] [] (.bool (isSet n l)) [] := by
  refine loc_rd mixedP tok rfl rfl fun S => ?_
  unfold c18
  generalize hr : AV.bool (isSet n l) = r
  simp [encI]
  refine l18 D n l hlen S l.length 0 _ _ r (by simp) ?_ ?_ ?_ ?_ ?_ (by rw [← hr]; simp [isSet])
  all_goals simp [encI]

theorem l17 (D : Nat) (n : Int) (ps : List PI) (hlen : ps.length ≤ 1000) (hps : ∀ p ∈ ps, p.1.length ≤ maxLen ∧ p.2.length ≤ maxLen) (S) : ∀ (m i : Nat) (τ ω) (r : AV), i + m = ps.length →
    τ 0 = .int .i64 n → τ 10 = .sl 2 (ps.map encPI) .no → τ 11 = .int .i64 ps.length → τ 12 = .int .i64 i → r = .bool (pairsOk n (ps.drop i)) →
    Rd (Loc Pg Gl) .im (RetQ [.tmp 4] r S) [.lp c17_l0, .blk 0, .c c17_k0] (stF 29 D τ ω S) := by
  intro m
  induction m with
  | zero =>
    intro i τ ω r hi h0 h10 h11 h12 hr
    refine Rd_lpE c17_l0.eq_1 ?_
    obtain rfl : i = ps.length := by omega
    rw [List.drop_length] at hr
    simp [h0, h10, h11, h12, c17_k0]
    simp [hr, pairsOk]
  | succ m ih =>
    intro i τ ω r hi h0 h10 h11 h12 hr
    refine Rd_lpE c17_l0.eq_1 ?_
    have hlt : i < ps.length := by omega
    have hwr : IntKind.i64.wrap ((i : Int) + 1) = ((i + 1 : Nat) : Int) := by rw [← wrap_i64_nat (n := i + 1) (by omega)]; rfl
    have hmem := hps _ (List.getElem_mem hlt)
    obtain ⟨⟨x, y⟩, hx⟩ : ∃ x, ps[i] = x := ⟨_, rfl⟩
    have hd : ps.drop i = (x, y) :: ps.drop (i + 1) := by rw [List.drop_eq_getElem_cons hlt, hx]
    rw [hx] at hmem
    rw [hd, pairsOk, List.all_cons] at hr
    simp only at hr
    simp [h0, h10, h11, h12, hlt, hx, encPI, encI]
    refine Rd_call (spec18 _ n x hmem.1) (by simp [encI]) ?_
    cases h1 : isSet n x with
    | false =>
      rw [h1] at hr
      simp
      simp [hr]
    | true =>
      rw [h1] at hr
      simp [h0]
      refine Rd_call (spec18 _ n y hmem.2) (by simp [encI]) ?_
      cases h2 : isSet n y with
      | false =>
        rw [h2] at hr
        simp
        simp [hr]
      | true =>
        rw [h2] at hr
        simp [h12, hwr]
        refine ih (i + 1) _ _ r (by omega) ?_ ?_ ?_ ?_ hr
        all_goals simp [h0, h10, h11, h12]

/-- Sets -/
theorem spec17 (D : Nat) (n : Int) (ps : List PI) (hps : ∀ p ∈ ps, p.1.length ≤ maxLen ∧ p.2.length ≤ maxLen) :
    Go.Ab.Loc Pg Gl D 17 [.int .i64 n, .sl 2 (ps.map encPI) .no] [] (.bool (decide (ps.length ≤ 1000) && pairsOk n ps)) [] := by
  refine loc_rd mixedP tok rfl rfl fun S => ?_
  unfold c17
  generalize hr : AV.bool (decide (ps.length ≤ 1000) && pairsOk n ps) = r
  by_cases hl : ps.length ≤ 1000
  · have hl' : ¬ (1000 : Int) < ps.length := by omega
    simp [hl']
    refine l17 D n ps hl hps S ps.length 0 _ _ r (by simp) ?_ ?_ ?_ ?_ (by rw [← hr]; simp [hl]) <;> simp
  · have hl' : (1000 : Int) < ps.length := by omega
    simp [hl']
    simp [← hr, hl]

theorem l19 (D : Nat) (a b : List Int) (hlen : a.length ≤ maxLen) (hab : a.length = b.length) (S) : ∀ (m i : Nat) (τ ω) (r : AV), i + m = a.length →
    τ 1 = encI b → τ 12 = encI a → τ 13 = .int .i64 a.length → τ 14 = .int .i64 i → r = .bool (decide (a.drop i = b.drop i)) →
    Rd (Loc Pg Gl) .im (RetQ [.tmp 4] r S) [.lp c19_l0, .blk 0, .c c19_k0] (stF 26 D τ ω S) := by
  intro m
  induction m with
  | zero =>
    intro i τ ω r hi h1 h12 h13 h14 hr
    refine Rd_lpE c19_l0.eq_1 ?_
    obtain rfl : i = a.length := by omega
    rw [List.drop_length, List.drop_eq_nil_of_le (by omega)] at hr
    simp [h1, h12, h13, h14, c19_k0]
    simp [hr]
  | succ m ih =>
    intro i τ ω r hi h1 h12 h13 h14 hr
    refine Rd_lpE c19_l0.eq_1 ?_
    have hlt : i < a.length := by omega
    have hlt2 : i < b.length := by omega
    have hwr := wrap_next hlt hlen
    rw [List.drop_eq_getElem_cons hlt, List.drop_eq_getElem_cons hlt2] at hr
    by_cases hx : a[i] = b[i]
    · simp [h1, h12, h13, h14, encI, hlt, hlt2, hx, hwr]
      rw [hx] at hr
      refine ih (i + 1) _ _ r (by omega) ?_ ?_ ?_ ?_ (by rw [hr]; simp only [List.cons.injEq, true_and])
      all_goals simp [h1, h12, h13, h14, encI]
    · simp [h1, h12, h13, h14, encI, hlt, hlt2, hx, hwr]
      simp only [hr, List.cons.injEq, hx, false_and, decide_false]

/-- Same -/
theorem spec19 (D : Nat) (a b : List Int) (hlen : a.length ≤ maxLen) : Go.Ab.Loc Pg Gl D 19 [encI a, encI b] [] (.bool (decide (a = b))) [] := by
  refine loc_rd mixedP tok rfl rfl fun S => ?_
  unfold c19
  generalize hr : AV.bool (decide (a = b)) = r
  by_cases hl : a.length = b.length
  · simp [encI, hl]
    refine l19 D a b hlen hl S a.length 0 _ _ r (by simp) ?_ ?_ ?_ ?_ (by rw [← hr]; simp) <;> simp [encI, hl]
  · have hl' : ¬ (a.length : Int) = b.length := by omega
    simp [encI, hl']
    have : ¬ a = b := fun e => hl (by rw [e])
    simp [← hr, this]

def short (l : List Int) : Bool := decide (l.length ≤ 300)
def fewOk (ps : List PI) (ls : List (List Int)) : Bool := ls.all short && ((ps.all fun p => short p.1 && short p.2) && decide (ps.length ≤ 1100))

theorem l13_1 (D : Nat) (ps : List PI) (hlen : ps.length ≤ maxLen) (S) : ∀ (m i : Nat) (τ ω) (r : AV), i + m = ps.length →
    τ 0 = .sl 2 (ps.map encPI) .no → τ 19 = .sl 2 (ps.map encPI) .no → τ 20 = .int .i64 ps.length → τ 21 = .int .i64 i → r = .bool (((ps.drop i).all fun p => short p.1 && short p.2) && decide (ps.length ≤ 1100)) →
    Rd (Loc Pg Gl) .im (RetQ [.tmp 4] r S) [.lp c13_l1, .blk 2, .c c13_k0] (stF 39 D τ ω S) := by
  intro m
  induction m with
  | zero =>
    intro i τ ω r hi h0 h19 h20 h21 hr
    refine Rd_lpE c13_l1.eq_1 ?_
    obtain rfl : i = ps.length := by omega
    rw [List.drop_length] at hr
    simp [h0, h19, h20, h21, c13_k0]
    simp [hr]
    omega
  | succ m ih =>
    intro i τ ω r hi h0 h19 h20 h21 hr
    refine Rd_lpE c13_l1.eq_1 ?_
    have hlt : i < ps.length := by omega
    have hwr := wrap_next hlt hlen
    obtain ⟨⟨x, y⟩, hx⟩ : ∃ x, ps[i] = x := ⟨_, rfl⟩
    have hd : ps.drop i = (x, y) :: ps.drop (i + 1) := by rw [List.drop_eq_getElem_cons hlt, hx]
    rw [hd, List.all_cons] at hr
    simp only at hr
    by_cases h1 : x.length ≤ 300
    · have h1' : ¬ (300 : Int) < x.length := by omega
      by_cases h2 : y.length ≤ 300
      · have h2' : ¬ (300 : Int) < y.length := by omega
        simp [h0, h19, h20, h21, hlt, hx, encPI, encI, h1', h2', hwr]
        rw [show short x = true by simp [short, h1], show short y = true by simp [short, h2], Bool.true_and, Bool.true_and] at hr
        refine ih (i + 1) _ _ r (by omega) ?_ ?_ ?_ ?_ hr
        all_goals simp [h0, h19, h20, h21]
      · have h2' : (300 : Int) < y.length := by omega
        simp [h0, h19, h20, h21, hlt, hx, encPI, encI, h1', h2', hwr]
        rw [show short y = false by simp [short, h2]] at hr
        simp [hr]
    · have h1' : (300 : Int) < x.length := by omega
      simp [h0, h19, h20, h21, hlt, hx, encPI, encI, h1', hwr]
      rw [show short x = false by simp [short, h1]] at hr
      simp [hr]

theorem l13_0 (D : Nat) (ps : List PI) (hlen : ps.length ≤ maxLen) (ls : List (List Int)) (hls : ls.length ≤ maxLen) (S) : ∀ (m i : Nat) (τ ω) (r : AV), i + m = ls.length →
    τ 0 = .sl 2 (ps.map encPI) .no → τ 9 = .sl 1 (ls.map encI) .no → τ 10 = .int .i64 ls.length → τ 11 = .int .i64 i → r = .bool ((ls.drop i).all short && ((ps.all fun p => short p.1 && short p.2) && decide (ps.length ≤ 1100))) →
    Rd (Loc Pg Gl) .im (RetQ [.tmp 4] r S) [.lp c13_l0, .blk 0, .c c13_k1] (stF 39 D τ ω S) := by
  intro m
  induction m with
  | zero =>
    intro i τ ω r hi h0 h9 h10 h11 hr
    refine Rd_lpE c13_l0.eq_1 ?_
    obtain rfl : i = ls.length := by omega
    rw [List.drop_length, List.all_nil, Bool.true_and] at hr
    simp [h0, h9, h10, h11, c13_k1]
    refine l13_1 D ps hlen S ps.length 0 _ _ r (by simp) ?_ ?_ ?_ ?_ (by rw [hr]; simp) <;> simp [h0]
  | succ m ih =>
    intro i τ ω r hi h0 h9 h10 h11 hr
    refine Rd_lpE c13_l0.eq_1 ?_
    have hlt : i < ls.length := by omega
    have hwr := wrap_next hlt hls
    obtain ⟨x, hx⟩ : ∃ x, ls[i] = x := ⟨_, rfl⟩
    have hd : ls.drop i = x :: ls.drop (i + 1) := by rw [List.drop_eq_getElem_cons hlt, hx]
    rw [hd, List.all_cons] at hr
    by_cases h1 : x.length ≤ 300
    · have h1' : ¬ (300 : Int) < x.length := by omega
      simp [h0, h9, h10, h11, hlt, hx, encI, h1', hwr]
      rw [show short x = true by simp [short, h1], Bool.true_and] at hr
      refine ih (i + 1) _ _ r (by omega) ?_ ?_ ?_ ?_ hr
      all_goals simp [h0, h9, h10, h11]
    · have h1' : (300 : Int) < x.length := by omega
      simp [h0, h9, h10, h11, hlt, hx, encI, h1', hwr]
      rw [show short x = false by simp [short, h1]] at hr
      simp [hr]

/-- few -/
theorem spec13 (D : Nat) (ps : List PI) (hlen : ps.length ≤ maxLen) (ls : List (List Int)) (hls : ls.length ≤ maxLen) : Go.Ab.Loc Pg Gl D 13 [.sl 2 (ps.map encPI) .no, .sl 1 (ls.map encI) .no] [] (.bool (fewOk ps ls)) [] := by
  refine loc_rd mixedP tok rfl rfl fun S => ?_
  unfold c13
  generalize hr : AV.bool (fewOk ps ls) = r
  simp
  refine l13_0 D ps hlen ls hls S ls.length 0 _ _ r (by simp) ?_ ?_ ?_ ?_ (by rw [← hr]; simp [fewOk]) <;> simp
end Go.Ab.Tab
/- The reference's closure (layer 16). -/
namespace Go.Ab.Tab
open Go Go.Ab
set_option maxRecDepth 10000
set_option linter.unusedVariables false
set_option linter.unusedSimpArgs false

/-- a set as a list of n truth values -/
def vec (n : Nat) (u : BS) : List AV := (List.range n).map fun x => AV.bool (u.has x)
def Below (n : Nat) (l : List Int) : Prop := ∀ x ∈ l, 0 ≤ x ∧ x < n

theorem has_single {x y : Nat} (hx : x < 128) (hy : y < 128) : (BS.single x).has y = decide (y = x) := by
  unfold BS.single BS.has
  by_cases h : x < 64
  · by_cases h2 : y < 64
    · simp [h, h2, BitVec.getElem_twoPow, eq_comm]
    · have : ¬ y = x := by omega
      simp [h, h2, this]
  · by_cases h2 : y < 64
    · have : ¬ y = x := by omega
      simp [h, h2, this]
    · have h3 : y - 64 < 64 := by omega
      have h4 : x - 64 < 64 := by omega
      simp only [h, h2, if_false, BitVec.getLsbD_twoPow, h4, decide_true, Bool.true_and]
      exact decide_eq_decide.2 (by omega)
theorem has_nil (x : Nat) : (toS []).has x = false := by simp [toS, BS.has]
theorem has_toS {n : Nat} (hn : n ≤ 128) : ∀ {l : List Int}, Below n l → ∀ {x : Nat}, x < 128 → (toS l).has x = decide ((x : Int) ∈ l)
  | [], _, x, _ => by rw [has_nil]; simp
  | y :: l, h, x, hx => by
    have hy := h y (by simp)
    have e : toS (y :: l) = (BS.single y.toNat).or (toS l) := rfl
    rw [e, has_or, has_single (by omega) hx, has_toS hn (fun z hz => h z (by simp [hz])) hx]
    by_cases q : x = y.toNat
    · have : (x : Int) = y := by omega
      rw [this]; simp [q]
    · have : ¬ (x : Int) = y := by omega
      simp [q, this]
theorem toS_sub {n : Nat} (hn : n ≤ 128) {l : List Int} (h : Below n l) (u : BS) : (toS l).sub u = l.all fun x => u.has x.toNat := by
  rw [Bool.eq_iff_iff, sub_iff, List.all_eq_true]
  constructor
  · intro q x hx
    have hb := h x hx
    refine q x.toNat (by omega) ?_
    rw [has_toS hn h (by omega), decide_eq_true_eq, Int.toNat_of_nonneg hb.1]; exact hx
  · intro q x hx hm
    rw [has_toS hn h hx, decide_eq_true_eq] at hm
    have := q _ hm
    rwa [Int.toNat_natCast] at this

/-- within -/
theorem l64 (D : Nat) (n : Nat) (hn : n ≤ 128) (u : BS) (l : List Int) (hl : Below n l) (hlen : l.length ≤ maxLen) (d' o g : Nat) (hd : d' < D) (S S0) (hS : S d' o = (g, .cells (vec n u))) (hS0 : ∀ d i, d ≠ D → S d i = upds S0 [] d i) : ∀ (m i : Nat) (τ ω) (r : AV), i + m = l.length →
    τ 1 = .own d' o g 0 n 1 false → τ 7 = encI l → τ 8 = .int .i64 l.length → τ 9 = .int .i64 i → r = .bool ((l.drop i).all fun x => u.has x.toNat) →
    Rd (Loc Pg Gl) .im (RetM [.tmp 4] r D S0 []) [.lp c64_l0, .blk 0, .c c64_k0] (stF 19 D τ ω S) := by
  intro m
  have hDd : ¬ d' = D := by omega
  induction m with
  | zero =>
    intro i τ ω r hi h1 h7 h8 h9 hr
    refine Rd_lpE c64_l0.eq_1 ?_
    obtain rfl : i = l.length := by omega
    rw [List.drop_length] at hr
    simp [h1, h7, h8, h9, c64_k0, encI]
    simp [hr, hS0]
    exact hS0
  | succ m ih =>
    intro i τ ω r hi h1 h7 h8 h9 hr
    refine Rd_lpE c64_l0.eq_1 ?_
    have hlt : i < l.length := by omega
    have hwr : IntKind.i64.wrap ((i : Int) + 1) = ((i + 1 : Nat) : Int) := by
      unfold maxLen at hlen
      rw [← wrap_i64_nat (n := i + 1) (by omega)]; rfl
    obtain ⟨x, hx⟩ : ∃ x, l[i] = x := ⟨_, rfl⟩
    have hxb := hl x (by rw [← hx]; exact List.getElem_mem hlt)
    obtain ⟨y, rfl⟩ : ∃ y : Nat, x = y := ⟨x.toNat, by omega⟩
    have hy : y < n := by omega
    have hd : l.drop i = (y : Int) :: l.drop (i + 1) := by rw [List.drop_eq_getElem_cons hlt, hx]
    rw [hd, List.all_cons, Int.toNat_natCast] at hr
    have hg : (vec n u)[y]? = some (.bool (u.has y)) := by simp [vec, hy]
    cases hu : u.has y with
    | false =>
      simp [h1, h7, h8, h9, encI, hlt, hx, hy, hDd, hS, hg, hu]
      rw [hu] at hr
      simp [hr]
      exact hS0
    | true =>
      simp [h1, h7, h8, h9, encI, hlt, hx, hy, hDd, hS, hg, hu, hwr]
      rw [hu, Bool.true_and] at hr
      refine ih (i + 1) _ _ r (by omega) ?_ ?_ ?_ ?_ hr <;> simp [h1, h7, h8, h9, encI]

theorem spec64 (D n : Nat) (hn : n ≤ 128) (u : BS) (l : List Int) (hl : Below n l) (hlen : l.length ≤ maxLen) (d' o g : Nat) :
    Go.Ab.Loc Pg Gl D 64 [encI l, .own d' o g 0 n 1 false] [(d', o, (g, .cells (vec n u)))] (.bool ((toS l).sub u)) [] := by
  refine loc_rdM mixedP tok rfl rfl fun S hS => ?_
  have hS := hS _ (List.mem_singleton.2 rfl)
  unfold c64
  rw [toS_sub hn hl]
  generalize hr : AV.bool (l.all fun x => u.has x.toNat) = r
  simp [encI]
  refine l64 D n hn u l hl hlen d' o g hS.1 S S hS.2 (fun _ _ _ => rfl) l.length 0 _ _ r (by simp) ?_ ?_ ?_ ?_ (by rw [← hr]; simp) <;> simp [encI]

/-! add -/
theorem vec_set {n : Nat} (hn : n ≤ 128) (u : BS) {y : Nat} (hy : y < n) : (vec n u).take y ++ AV.bool true :: (vec n u).drop (y + 1) = vec n (u.or (BS.single y)) := by
  apply List.ext_getElem?
  intro i
  have hl : (vec n u).length = n := by simp [vec]
  rw [List.getElem?_append]
  simp only [List.length_take, hl]
  rw [show min y n = y by omega]
  by_cases h : i < y
  · rw [if_pos h, List.getElem?_take_of_lt h]
    simp only [vec, List.getElem?_map, List.getElem?_range (show i < n by omega), Option.map_some]
    rw [has_or, has_single (by omega) (by omega)]
    simp [show ¬ i = y by omega]
  · rw [if_neg h]
    by_cases e : i = y
    · subst e
      simp only [Nat.sub_self, List.getElem?_cons_zero]
      simp only [vec, List.getElem?_map, List.getElem?_range hy, Option.map_some]
      rw [has_or, has_single (by omega) (by omega)]
      simp
    · obtain ⟨j, hj⟩ : ∃ j, i - y = j + 1 := ⟨i - y - 1, by omega⟩
      rw [hj, List.getElem?_cons_succ, List.getElem?_drop, show y + 1 + j = i by omega]
      by_cases hi : i < n
      · simp only [vec, List.getElem?_map, List.getElem?_range hi, Option.map_some]
        rw [has_or, has_single (by omega) (by omega)]
        simp [e]
      · rw [List.getElem?_eq_none (by rw [hl]; omega), List.getElem?_eq_none (by simp [vec]; omega)]

theorem l63 (D : Nat) (n : Nat) (hn : n ≤ 128) (l : List Int) (hl : Below n l) (hlen : l.length ≤ maxLen) (d' o g : Nat) (hd : d' < D) (S0) (b : Bool) (t : BS) : ∀ (m i : Nat) (u : BS) (τ ω) (r : AV), i + m = l.length →
    τ 0 = .own d' o g 0 n 1 false → τ 5 = .bool b → τ 12 = encI l → τ 13 = .int .i64 l.length → τ 14 = .int .i64 i → r = .bool b → t = u.or (toS (l.drop i)) →
    Rd (Loc Pg Gl) .im (RetM [.tmp 4] r D S0 [(d', o, (g, .cells (vec n t)))]) [.lp c63_l0, .blk 0, .c c63_k0] (stF 23 D τ ω (updS S0 d' o (g, .cells (vec n u)))) := by
  intro m
  have hDd : ¬ d' = D := by omega
  induction m with
  | zero =>
    intro i u τ ω r hi h0 h5 h12 h13 h14 hr ht
    refine Rd_lpE c63_l0.eq_1 ?_
    obtain rfl : i = l.length := by omega
    rw [List.drop_length, toS, List.foldr_nil, or_zero] at ht
    simp [h0, h5, h12, h13, h14, c63_k0, encI]
    simp [hr, ht]
  | succ m ih =>
    intro i u τ ω r hi h0 h5 h12 h13 h14 hr ht
    refine Rd_lpE c63_l0.eq_1 ?_
    have hlt : i < l.length := by omega
    have hwr := wrap_next hlt hlen
    obtain ⟨x, hx⟩ : ∃ x, l[i] = x := ⟨_, rfl⟩
    have hxb := hl x (by rw [← hx]; exact List.getElem_mem hlt)
    obtain ⟨y, rfl⟩ : ∃ y : Nat, x = y := ⟨x.toNat, by omega⟩
    have hy : y < n := by omega
    have hd : l.drop i = (y : Int) :: l.drop (i + 1) := by rw [List.drop_eq_getElem_cons hlt, hx]
    have hvl : (vec n u).length = n := by simp [vec]
    rw [hd] at ht
    have e : toS ((y : Int) :: l.drop (i + 1)) = (BS.single y).or (toS (l.drop (i + 1))) := rfl
    rw [e, ← or_assoc] at ht
    have hy1 : y + 1 ≤ n := hy
    simp [h0, h5, h12, h13, h14, encI, hlt, hx, hy, hy1, hDd, hvl, hwr, vec_set hn]
    refine ih (i + 1) (u.or (BS.single y)) _ _ r (by omega) ?_ ?_ ?_ ?_ ?_ hr ht <;> simp [h0, h5, h12, h13, h14, encI]

theorem spec63 (D n : Nat) (hn : n ≤ 128) (u : BS) (l : List Int) (hl : Below n l) (hlen : l.length ≤ maxLen) (d' o g : Nat) :
    Go.Ab.Loc Pg Gl D 63 [.own d' o g 0 n 1 false, encI l] [(d', o, (g, .cells (vec n u)))] (.bool (!(toS l).sub u)) [(d', o, (g, .cells (vec n (u.or (toS l)))))] := by
  refine loc_rdM mixedP tok rfl rfl fun S hS => ?_
  have hS := hS _ (List.mem_singleton.2 rfl)
  have hDd : ¬ d' = D := by have := hS.1; simp at this; omega
  unfold c63
  generalize hr : AV.bool (!(toS l).sub u) = r
  simp [encI]
  refine Rd_callM (spec64 _ n hn u l hl hlen d' o g) (by simp [encI]) ?_ (by simp) ?_
  · intro m hm
    rw [List.mem_singleton] at hm
    subst hm
    have := hS.1
    simp at this
    refine ⟨by simp; omega, fun e => absurd e hDd, ?_⟩
    rw [stF_look, if_neg hDd]; exact hS.2
  simp
  have : S = updS S d' o (g, .cells (vec n u)) := (updS_self S d' o hS.2).symm
  generalize hS1 : RetM [.tmp 4] r D S [(d', o, (g, .cells (vec n (u.or (toS l)))))] = Q
  rw [this, ← hS1]
  refine l63 D n hn l hl hlen d' o g hS.1 S (!(toS l).sub u) _ l.length 0 u _ _ r (by simp) ?_ ?_ ?_ ?_ ?_ hr.symm (by simp) <;> simp [encI]
end Go.Ab.Tab
/- The reference's Closure and Congruent (layer 16). -/
namespace Go.Ab.Tab
open Go Go.Ab
set_option maxRecDepth 10000
set_option linter.unusedVariables false
set_option linter.unusedSimpArgs false

def hst (u : BS) (p : PS) : BS := if p.1.sub u then u.or p.2 else u
def hmore (u : BS) (p : PS) : Bool := p.1.sub u && !p.2.sub u
def rnd2 : List PS → BS × Bool → BS × Bool
  | [], x => x
  | p :: ps, (u, b) => rnd2 ps (hst (hst u p) (p.2, p.1), (b || hmore u p) || hmore (hst u p) (p.2, p.1))

theorem hst_up (u : BS) (p : PS) : u.sub (hst u p) = true := by
  unfold hst; split
  · exact sub_or_left _ _
  · exact sub_refl _
theorem hst_least {s u : BS} {p : PS} (hu : s.sub u = true) (hs : p.1.sub u = true → p.2.sub u = true) : (hst s p).sub u = true := by
  unfold hst; split
  · rename_i h; exact or_sub hu (hs (sub_trans h hu))
  · exact hu
theorem sub_or_eq {s t : BS} (h : t.sub s = true) : s.or t = s := sub_antisymm (or_sub (sub_refl s) h) (sub_or_left s t)
theorem hst_num (s : BS) (p : PS) : s.num + (if hmore s p then 1 else 0) ≤ (hst s p).num := by
  unfold hst hmore
  cases h1 : p.1.sub s <;> cases h2 : p.2.sub s
  · simp
  · simp
  · have := num_or s p.2 h2; simp; omega
  · simp [sub_or_eq h2]
theorem hst_eq {s : BS} {p : PS} (h : hmore s p = false) : hst s p = s := by
  unfold hst; unfold hmore at h
  rw [Bool.and_eq_false_iff, Bool.not_eq_false'] at h
  split
  · rename_i h1
    rcases h with k | k
    · rw [h1] at k; cases k
    · exact sub_or_eq k
  · rfl

theorem rnd2_spec (ps0 : List PS) : ∀ (ps : List PS) (s : BS) (b : Bool), (∀ p ∈ ps, p ∈ ps0) →
    s.sub (rnd2 ps (s, b)).1 = true ∧ (∀ u, s.sub u = true → Shut ps0 u → (rnd2 ps (s, b)).1.sub u = true) ∧ s.num ≤ (rnd2 ps (s, b)).1.num ∧
    (b = false → (rnd2 ps (s, b)).2 = true → s.num < (rnd2 ps (s, b)).1.num) ∧ ((rnd2 ps (s, b)).2 = false → b = false ∧ (rnd2 ps (s, b)).1 = s ∧ ∀ p ∈ ps, hmore s p = false ∧ hmore s (p.2, p.1) = false)
  | [], s, b, _ => ⟨sub_refl s, fun _ h _ => h, Nat.le_refl _, fun h k => by simp [rnd2, h] at k, fun h => ⟨h, rfl, by simp⟩⟩
  | p :: ps, s, b, hp => by
    obtain ⟨h1, h2, h3, h4, h5⟩ := rnd2_spec ps0 ps (hst (hst s p) (p.2, p.1)) ((b || hmore s p) || hmore (hst s p) (p.2, p.1)) (fun q hq => hp q (by simp [hq]))
    have hn1 := hst_num s p
    have hn2 := hst_num (hst s p) (p.2, p.1)
    refine ⟨sub_trans (sub_trans (hst_up s p) (hst_up _ _)) h1, fun u hu hs => h2 u (hst_least (hst_least hu (hs p (hp p (by simp))).1) (hs p (hp p (by simp))).2) hs, by simp only [rnd2]; omega, fun hb hr => ?_, fun hr => ?_⟩
    · simp only [rnd2] at hr ⊢
      by_cases hm : hmore s p = true
      · rw [if_pos hm] at hn1; omega
      · by_cases hm2 : hmore (hst s p) (p.2, p.1) = true
        · rw [if_pos hm2] at hn2; omega
        · rw [Bool.not_eq_true] at hm hm2
          have := h4 (by rw [hb, hm, hm2]; rfl) hr; omega
    · simp only [rnd2] at hr ⊢
      obtain ⟨k1, k2, k3⟩ := h5 hr
      rw [Bool.or_eq_false_iff, Bool.or_eq_false_iff] at k1
      have e1 := hst_eq k1.1.2
      have e2 := hst_eq k1.2
      have e : hst (hst s p) (p.2, p.1) = s := e2.trans e1
      have k12 := k1.2
      rw [e1] at k12
      refine ⟨k1.1.1, k2.trans e, fun q hq => ?_⟩
      rcases List.mem_cons.1 hq with rfl | hq
      · exact ⟨k1.1.2, k12⟩
      · have := k3 q hq; rwa [e] at this

theorem shut_of2 {ps : List PS} {s : BS} (h : ∀ p ∈ ps, hmore s p = false ∧ hmore s (p.2, p.1) = false) : Shut ps s := by
  intro p hp
  obtain ⟨h1, h2⟩ := h p hp
  unfold hmore at h1 h2
  exact ⟨fun k => by rw [k] at h1; simpa using h1, fun k => by simp only at h2; rw [k] at h2; simpa using h2⟩

/-- two lists that are pairs of sets below n -/
def PBelow (n : Nat) (ps : List PI) : Prop := ∀ p ∈ ps, (Below n p.1 ∧ Below n p.2) ∧ p.1.length ≤ maxLen ∧ p.2.length ≤ maxLen

theorem l20_0 (D : Nat) (n : Nat) (hn : n ≤ 128) (ps : List PI) (Q : St → Prop) (k : List AI) (hlen : ps.length ≤ 1000) (hps : PBelow n ps) (S) : ∀ (m i : Nat) (u : BS) (b : Bool) (τ ω), i + m = ps.length →
    τ 1 = .sl 2 (ps.map encPI) .no → τ 7 = .own D 15 1 0 n 1 false → τ 8 = .bool b → τ 20 = .sl 2 (ps.map encPI) .no → τ 21 = .int .i64 ps.length → τ 22 = .int .i64 i → ω 15 = (1, .cells (vec n u)) →
    (∀ (τ' : Nat → AV) (ω' : Nat → Ent) (u' : BS) (b' : Bool), rnd2 ((ps.drop i).map toPS) (u, b) = (u', b') → τ' 1 = .sl 2 (ps.map encPI) .no → τ' 7 = .own D 15 1 0 n 1 false → τ' 8 = .bool b' → ω' 15 = (1, .cells (vec n u')) → Rd (Loc Pg Gl) .im Q k (stF 61 D τ' ω' S)) →
    Rd (Loc Pg Gl) .im Q (.lp c20_l0 :: .blk 2 :: k) (stF 61 D τ ω S) := by
  intro m
  induction m with
  | zero =>
    intro i u b τ ω hi h1 h7 h8 h20 h21 h22 w15 hk
    refine Rd_lpE c20_l0.eq_1 ?_
    obtain rfl : i = ps.length := by omega
    rw [List.drop_length] at hk
    simp [h1, h7, h8, h20, h21, h22, w15]
    refine hk _ _ u b rfl ?_ ?_ ?_ w15 <;> simp [h1, h7, h8]
  | succ m ih =>
    intro i u b τ ω hi h1 h7 h8 h20 h21 h22 w15 hk
    refine Rd_lpE c20_l0.eq_1 ?_
    have hlt : i < ps.length := by omega
    have hwr : IntKind.i64.wrap ((i : Int) + 1) = ((i + 1 : Nat) : Int) := by rw [← wrap_i64_nat (n := i + 1) (by omega)]; rfl
    have hmem := hps _ (List.getElem_mem hlt)
    obtain ⟨⟨x, y⟩, hx⟩ : ∃ x, ps[i] = x := ⟨_, rfl⟩
    have hd : ps.drop i = (x, y) :: ps.drop (i + 1) := by rw [List.drop_eq_getElem_cons hlt, hx]
    rw [hx] at hmem
    obtain ⟨⟨bx, by_⟩, lx, ly⟩ := hmem
    rw [hd, List.map_cons, show toPS (x, y) = (toS x, toS y) from rfl, rnd2] at hk
    have hM : ∀ (τ' : Nat → AV) (ω' : Nat → Ent) (v : BS), ω' 15 = (1, .cells (vec n v)) → ∀ m ∈ [(D, 15, ((1, Ob.cells (vec n v)) : Ent))], m.1 ≤ D ∧ (m.1 = D → m.2.1 < 61) ∧ (stF 61 D τ' ω' S).look m.1 m.2.1 = m.2.2 := by
      intro τ' ω' v hv m hm
      rw [List.mem_singleton] at hm; subst hm
      refine ⟨Nat.le_refl _, fun _ => (by decide : 15 < 61), ?_⟩
      rw [stF_look, if_pos rfl]; exact (if_pos (by decide : 15 < 61)).trans hv
    -- the second half
    have half : ∀ (τ' : Nat → AV) (ω' : Nat → Ent) (v : BS) (c : Bool), v = hst u (toS x, toS y) → c = (b || hmore u (toS x, toS y)) → τ' 1 = .sl 2 (ps.map encPI) .no → τ' 7 = .own D 15 1 0 n 1 false → τ' 8 = .bool c → τ' 20 = .sl 2 (ps.map encPI) .no → τ' 21 = .int .i64 ps.length → τ' 22 = .int .i64 i →
        τ' 10 = .ptr D 10 ((ω 10).1 + 1) 0 → ω' 10 = ((ω 10).1 + 1, .cells [encI x, encI y]) → ω' 15 = (1, .cells (vec n v)) →
        Rd (Loc Pg Gl) .im Q (.c c20_j0 ::
          .blk 3 :: .c (.region [⟨(.some 46), (.bin .add .other (.t 22) (.c (.int .i64 1))), .none⟩, ⟨(.some 22), (.mov .false (.t 46)), .none⟩] .none) :: .lp c20_l0 :: .blk 2 :: k) (stF 61 D τ' ω' S) := by
      intro τ' ω' v c hv hc g1 g7 g8 g20 g21 g22 g10 v10 v15
      subst hv; subst hc
      unfold c20_j0
      simp [g1, g7, g8, g20, g21, g22, g10, v10, v15, encI]
      refine Rd_callM (spec64 _ n hn _ y by_ ly D 15 1) (by simp [encI, g7]) (hM _ _ _ v15) (by simp) ?_
      cases h2 : (toS y).sub (hst u (toS x, toS y)) with
      | false =>
        simp [g8, g22, hwr]
        refine ih (i + 1) (hst u (toS x, toS y)) (b || hmore u (toS x, toS y)) _ _ (by omega) ?_ ?_ ?_ ?_ ?_ ?_ v15 ?_
        case refine_7 =>
          have e1 : hmore (hst u (toS x, toS y)) (toS y, toS x) = false := by unfold hmore; simp only; rw [h2]; rfl
          rw [e1, hst_eq e1, Bool.or_false] at hk
          exact hk
        all_goals simp [g1, g7, g8, g20, g21, g22]
      | true =>
        simp [g7, g10, v10, encI]
        refine Rd_callM (spec63 _ n hn _ x bx lx D 15 1) (by simp [encI, g7]) (hM _ _ _ v15) (by simp) ?_
        have e3 : hst (hst u (toS x, toS y)) (toS y, toS x) = (hst u (toS x, toS y)).or (toS x) := by rw [hst]; simp only; rw [h2]; rfl
        cases h3 : (toS x).sub (hst u (toS x, toS y)) with
        | false =>
          simp [g8, g22, hwr]
          refine ih (i + 1) ((hst u (toS x, toS y)).or (toS x)) true _ _ (by omega) ?_ ?_ ?_ ?_ ?_ ?_ ?_ ?_
          case refine_8 =>
            have e1 : hmore (hst u (toS x, toS y)) (toS y, toS x) = true := by unfold hmore; simp only; rw [h2, h3]; rfl
            rw [e1, e3, Bool.or_true] at hk
            exact hk
          all_goals simp [g1, g7, g8, g20, g21, g22]
        | true =>
          simp [g8, g22, hwr]
          refine ih (i + 1) ((hst u (toS x, toS y)).or (toS x)) (b || hmore u (toS x, toS y)) _ _ (by omega) ?_ ?_ ?_ ?_ ?_ ?_ ?_ ?_
          case refine_8 =>
            have e1 : hmore (hst u (toS x, toS y)) (toS y, toS x) = false := by unfold hmore; simp only; rw [h2, h3]; rfl
            rw [e1, e3, Bool.or_false] at hk
            exact hk
          all_goals simp [g1, g7, g8, g20, g21, g22]
    simp [h1, h7, h8, h20, h21, h22, w15, hlt, hx, encPI, encI]
    refine Rd_callM (spec64 _ n hn u x bx lx D 15 1) (by simp [encI, h7]) (hM _ _ u (by simp [w15])) (by simp) ?_
    cases h2 : (toS x).sub u with
    | false =>
      have e1 : hmore u (toS x, toS y) = false := by unfold hmore; simp only; rw [h2]; rfl
      simp
      refine half _ _ u b (hst_eq e1).symm (by rw [e1, Bool.or_false]) ?_ ?_ ?_ ?_ ?_ ?_ ?_ ?_ ?_
      all_goals simp [h1, h7, h8, h20, h21, h22, w15, encI]
    | true =>
      simp [h7, encI]
      refine Rd_callM (spec63 _ n hn u y by_ ly D 15 1) (by simp [encI, h7]) (hM _ _ u (by simp [w15])) (by simp) ?_
      have e2 : hst u (toS x, toS y) = u.or (toS y) := by rw [hst]; simp only; rw [h2]; rfl
      cases h3 : (toS y).sub u with
      | false =>
        have e1 : hmore u (toS x, toS y) = true := by unfold hmore; simp only; rw [h2, h3]; rfl
        simp
        refine half _ _ (u.or (toS y)) true e2.symm (by rw [e1, Bool.or_true]) ?_ ?_ ?_ ?_ ?_ ?_ ?_ ?_ ?_
        all_goals simp [h1, h7, h8, h20, h21, h22, w15, encI]
      | true =>
        have e1 : hmore u (toS x, toS y) = false := by unfold hmore; simp only; rw [h2, h3]; rfl
        simp
        refine half _ _ (u.or (toS y)) b e2.symm (by rw [e1, Bool.or_false]) ?_ ?_ ?_ ?_ ?_ ?_ ?_ ?_ ?_
        all_goals simp [h1, h7, h8, h20, h21, h22, w15, encI]

theorem l20_2 (D : Nat) (n : Nat) (hn : n ≤ 128) (u : BS) (S) : ∀ (m i : Nat) (acc : List Nat) (τ ω) (r : AV), i + m = n →
    τ 11 = .sl 1 (acc.map encN) .tip → τ 47 = .own D 15 1 0 n 1 false → τ 48 = .int .i64 n → τ 49 = .int .i64 i → ω 15 = (1, .cells (vec n u)) → acc.length ≤ i →
    r = .sl 1 ((acc ++ (List.range' i m).filter u.has).map encN) .no →
    Rd (Loc Pg Gl) .im (RetQ [.tmp 6] r S) [.lp c20_l2, .blk 4, .c c20_k0] (stF 61 D τ ω S) := by
  intro m
  induction m with
  | zero =>
    intro i acc τ ω r hi h11 h47 h48 h49 w15 hl hr
    refine Rd_lpE c20_l2.eq_1 ?_
    obtain rfl : i = n := by omega
    simp [h11, h47, h48, h49, c20_k0, hr]
  | succ m ih =>
    intro i acc τ ω r hi h11 h47 h48 h49 w15 hl hr
    refine Rd_lpE c20_l2.eq_1 ?_
    have hlt : i < n := by omega
    have hwr : IntKind.i64.wrap ((i : Int) + 1) = ((i + 1 : Nat) : Int) := by rw [← wrap_i64_nat (n := i + 1) (by omega)]; rfl
    have hg : (vec n u)[i]? = some (.bool (u.has i)) := by simp [vec, hlt]
    rw [List.range'_succ, List.filter_cons] at hr
    cases hs : u.has i with
    | false =>
      rw [hs] at hr
      simp [h11, h47, h48, h49, w15, hlt, hg, hs, hwr]
      refine ih (i + 1) acc _ ω r (by omega) ?_ ?_ ?_ ?_ w15 (by omega) hr <;> simp [h11, h47, h48, h49]
    | true =>
      rw [hs] at hr
      have hle : (acc.length + 1) * 8 ≤ 1099511627776 := by omega
      simp [h11, h47, h48, h49, w15, hlt, hg, hs, hwr, hle]
      refine ih (i + 1) (acc ++ [i]) _ ω r (by omega) ?_ ?_ ?_ ?_ w15 (by simp; omega) ?_ <;> simp [h11, h47, h48, h49, hr, encN]

/-- a set as a list of numbers below n -/
def listN (n : Nat) (u : BS) : List Nat := (List.range n).filter u.has

theorem l20_1 (D : Nat) (n : Nat) (hn : n ≤ 128) (ps : List PI) (hlen : ps.length ≤ 1000) (hps : PBelow n ps) (s0 t : BS) (ht : IsCl (ps.map toPS) s0 t) (S) (r : AV) (hr : r = .sl 1 ((listN n t).map encN) .no) : ∀ (m : Nat) (s : BS) (b : Bool) (τ ω), 2 ^ 65 ≤ s.num + m →
    s0.sub s = true → (∀ u, s0.sub u = true → Shut (ps.map toPS) u → s.sub u = true) → (b = false → Shut (ps.map toPS) s) →
    τ 1 = .sl 2 (ps.map encPI) .no → τ 7 = .own D 15 1 0 n 1 false → τ 8 = .bool b → ω 15 = (1, .cells (vec n s)) →
    Rd (Loc Pg Gl) .im (RetQ [.tmp 6] r S) [.lp c20_l1, .blk 0, .c c20_k1] (stF 61 D τ ω S) := by
  intro m
  induction m with
  | zero => intro s b τ ω hn; have := num_lt s; omega
  | succ m ih =>
    intro s b τ ω hnum hup hl hsh h1 h7 h8 w15
    have hend : ∀ (τ' : Nat → AV) (ω' : Nat → Ent) (s' : BS), s0.sub s' = true → (∀ u, s0.sub u = true → Shut (ps.map toPS) u → s'.sub u = true) → Shut (ps.map toPS) s' → τ' 7 = .own D 15 1 0 n 1 false → τ' 8 = .bool false → ω' 15 = (1, .cells (vec n s')) →
        Rd (Loc Pg Gl) .im (RetQ [.tmp 6] r S) [.lp c20_l1, .blk 0, .c c20_k1] (stF 61 D τ' ω' S) := by
      intro τ' ω' s' q1 q2 q3 g7 g8 v15
      have e : t = s' := ht.uniq ⟨q1, q3, q2⟩
      subst e
      refine Rd_lpE c20_l1.eq_1 ?_
      simp [g7, g8, v15, c20_k1]
      refine l20_2 D n hn t S n 0 [] _ _ r (by simp) ?_ ?_ ?_ ?_ v15 (by simp) (by rw [hr, listN, List.range_eq_range', List.nil_append]) <;> simp [g7]
    cases b with
    | false => exact hend τ ω s hup hl (hsh rfl) h7 h8 w15
    | true =>
      refine Rd_lpE c20_l1.eq_1 ?_
      simp [h1, h7, h8, w15]
      refine l20_0 D n hn ps _ _ hlen hps S ps.length 0 s false _ _ (by simp) ?_ ?_ ?_ ?_ ?_ ?_ w15 ?_
      case refine_7 =>
        intro τ' ω' s' b' hrn g1 g7 g8 v15
        obtain ⟨q1, q2, q3, q4, q5⟩ := rnd2_spec (ps.map toPS) (ps.map toPS) s false (fun _ h => h)
        rw [List.drop_zero] at hrn
        rw [hrn] at q1 q2 q3 q4 q5
        simp only at q1 q2 q3 q4 q5
        have hup' := sub_trans hup q1
        have hl' := fun u hu hs => q2 u (hl u hu hs) hs
        simp
        cases b' with
        | true => exact ih s' true τ' ω' (by have := q4 trivial rfl; omega) hup' hl' (by simp) g1 g7 g8 v15
        | false =>
          obtain ⟨_, k2, k3⟩ := q5 rfl
          exact hend τ' ω' s' hup' hl' (k2 ▸ shut_of2 k3) g7 g8 v15
      all_goals simp [h1, h7, h8]

theorem vec_zero (n : Nat) : List.replicate n (AV.bool false) = vec n (0#64, 0#64) := by
  apply List.ext_getElem?
  intro i
  simp only [vec, List.getElem?_replicate, List.getElem?_map]
  by_cases h : i < n
  · rw [if_pos h, List.getElem?_range h]; simp [BS.has]
  · rw [if_neg h, List.getElem?_eq_none (by simpa using Nat.le_of_not_lt h)]; rfl
theorem vec_var1 (n : Nat) (u : BS) : (vec n u).map AV.var1 = vec n u := by simp [vec, Function.comp_def]

/-- the reference's Closure -/
theorem spec20 (D : Nat) (n : Nat) (hn : n ≤ 128) (ps : List PI) (hlen : ps.length ≤ 1000) (hps : PBelow n ps) (l : List Int) (hl : Below n l) (hll : l.length ≤ maxLen) :
    Go.Ab.Loc Pg Gl D 20 [.int .i64 n, .sl 2 (ps.map encPI) .no, encI l] [] (.sl 1 ((listN n (cl (ps.map toPS) (toS l))).map encN) .no) [] := by
  refine loc_rd mixedP tok rfl rfl fun S => ?_
  unfold c20
  generalize hr : AV.sl 1 ((listN n (cl (ps.map toPS) (toS l))).map encN) .no = r
  have hn2 : (n : Int) ≤ 1099511627776 := by omega
  simp [encI, vec_zero, hn2]
  refine Rd_callM (spec63 _ n hn (0#64, 0#64) l hl hll D 15 1) (by simp [encI]) ?_ (by simp) ?_
  · intro m hm
    rw [List.mem_singleton] at hm; subst hm
    simp [vec_var1]
  have e0 : BS.or (0#64, 0#64) (toS l) = toS l := by simp [BS.or]
  simp [e0]
  refine l20_1 D n hn ps hlen hps (toS l) _ (cl_is _ _) S r hr.symm (2 ^ 65) (toS l) true _ _ (by omega) (sub_refl _) (fun u hu _ => hu) (by simp) ?_ ?_ ?_ ?_ <;> simp

theorem listN_len (n : Nat) (u : BS) : (listN n u).length ≤ n := by
  have := List.length_filter_le u.has (List.range n)
  simpa [listN] using this

theorem encN_map (l : List Nat) : l.map encN = (l.map fun (x : Nat) => (x : Int)).map (AV.int .i64) := by simp [encN]

theorem cast_map_inj (a b : List Nat) : decide (a.map (fun (x : Nat) => (x : Int)) = b.map fun (x : Nat) => (x : Int)) = decide (a = b) :=
  decide_eq_decide.2 ⟨fun h => List.map_inj_right (fun x y e => Int.ofNat.inj e) |>.1 h, fun h => by rw [h]⟩

/-- the reference's Congruent -/
theorem spec21 (D : Nat) (n : Nat) (hn : n ≤ 128) (ps : List PI) (hlen : ps.length ≤ 1000) (hps : PBelow n ps) (x y : List Int) (hx : Below n x) (hxl : x.length ≤ maxLen) (hy : Below n y) (hyl : y.length ≤ maxLen) :
    Go.Ab.Loc Pg Gl D 21 [.int .i64 n, .sl 2 (ps.map encPI) .no, encI x, encI y] [] (.bool (decide (listN n (cl (ps.map toPS) (toS x)) = listN n (cl (ps.map toPS) (toS y))))) [] := by
  refine loc_rd mixedP tok rfl rfl fun S => ?_
  unfold c21
  generalize hr : AV.bool (decide (listN n (cl (ps.map toPS) (toS x)) = listN n (cl (ps.map toPS) (toS y)))) = r
  simp [encI]
  refine Rd_call (spec20 _ n hn ps hlen hps x hx hxl) (by simp [encI]) ?_
  simp
  refine Rd_call (spec20 _ n hn ps hlen hps y hy hyl) (by simp [encI]) ?_
  refine Rd_call (spec19 _ ((listN n (cl (ps.map toPS) (toS x))).map fun (x : Nat) => (x : Int)) ((listN n (cl (ps.map toPS) (toS y))).map fun (x : Nat) => (x : Int)) (by have := listN_len n (cl (ps.map toPS) (toS x)); unfold maxLen; rw [List.length_map]; omega)) (by simp [encI, encN]) ?_
  rw [cast_map_inj]
  simp [← hr]

/-! Sets of numbers below n. -/
theorem isSetFrom_below {n : Int} : ∀ {l : List Int} {p : Option Int}, isSetFrom n p l = true → ∀ x ∈ l, 0 ≤ x ∧ x < n
  | [], p, _, x, hx => by simp at hx
  | y :: l, p, h, x, hx => by
    simp only [isSetFrom, Bool.and_eq_true, decide_eq_true_eq] at h
    rcases List.mem_cons.1 hx with rfl | hx
    · exact h.1.1
    · exact isSetFrom_below h.2 x hx
theorem isSet_below {n : Nat} {l : List Int} (h : isSet n l = true) : Below n l := isSetFrom_below h
theorem isSet_nil (n : Int) : isSet n [] = true := rfl

def fullS (n : Nat) : BS := toS ((List.range n).map fun (x : Nat) => (x : Int))
theorem full_below (n : Nat) : Below n ((List.range n).map fun (x : Nat) => (x : Int)) := by
  intro x hx
  obtain ⟨y, hy, rfl⟩ := List.mem_map.1 hx
  have := List.mem_range.1 hy
  exact ⟨Int.natCast_nonneg _, by exact_mod_cast this⟩
theorem has_full {n : Nat} (hn : n ≤ 128) {x : Nat} (hx : x < 128) : (fullS n).has x = decide (x < n) := by
  unfold fullS
  rw [has_toS hn (full_below n) hx]
  refine decide_eq_decide.2 ?_
  constructor
  · intro h
    obtain ⟨y, hy, e⟩ := List.mem_map.1 h
    have := List.mem_range.1 hy
    have : y = x := Int.ofNat.inj e
    omega
  · intro h; exact List.mem_map.2 ⟨x, List.mem_range.2 h, rfl⟩
theorem toS_full {n : Nat} (hn : n ≤ 128) {l : List Int} (h : Below n l) : (toS l).sub (fullS n) = true := by
  rw [sub_iff]; intro x hx hh
  rw [has_toS hn h hx, decide_eq_true_eq] at hh
  rw [has_full hn hx, decide_eq_true_eq]
  have := (h _ hh).2; omega
theorem shut_full {n : Nat} (hn : n ≤ 128) {ps : List PI} (h : ∀ p ∈ ps, Below n p.1 ∧ Below n p.2) : Shut (ps.map toPS) (fullS n) := by
  intro p hp
  obtain ⟨q, hq, rfl⟩ := List.mem_map.1 hp
  exact ⟨fun _ => toS_full hn (h q hq).2, fun _ => toS_full hn (h q hq).1⟩
theorem cl_full {n : Nat} (hn : n ≤ 128) {ps : List PI} (h : ∀ p ∈ ps, Below n p.1 ∧ Below n p.2) {l : List Int} (hl : Below n l) : (cl (ps.map toPS) (toS l)).sub (fullS n) = true :=
  (cl_is _ _).least _ (toS_full hn hl) (shut_full hn h)
theorem list_eq {n : Nat} (hn : n ≤ 128) {u : BS} (h : u.sub (fullS n) = true) : u.list = listN n u := by
  unfold BS.list listN
  have e : List.range 128 = List.range n ++ (List.range (128 - n)).map (n + ·) := by
    rw [← List.range_add]; congr 1; omega
  rw [e, List.filter_append]
  have : ((List.range (128 - n)).map (n + ·)).filter u.has = [] := by
    rw [List.filter_eq_nil_iff]
    intro x hx hh
    obtain ⟨y, hy, rfl⟩ := List.mem_map.1 hx
    have hy := List.mem_range.1 hy
    have := sub_iff.1 h (n + y) (by omega) hh
    rw [has_full hn (by omega), decide_eq_true_eq] at this
    omega
  rw [this, List.append_nil]
theorem listN_inj {n : Nat} (hn : n ≤ 128) {u v : BS} (hu : u.sub (fullS n) = true) (hv : v.sub (fullS n) = true) : listN n u = listN n v ↔ u = v := by
  refine ⟨fun h => BS.ext fun x hx => ?_, fun h => by rw [h]⟩
  have key : ∀ w : BS, w.sub (fullS n) = true → w.has x = decide (x ∈ listN n w) := by
    intro w hw
    unfold listN
    rw [Bool.eq_iff_iff, decide_eq_true_eq, List.mem_filter, List.mem_range]
    constructor
    · intro q
      have := sub_iff.1 hw x hx q
      rw [has_full hn hx, decide_eq_true_eq] at this
      exact ⟨this, q⟩
    · exact fun q => q.2
  rw [key u hu, key v hv, h]
theorem pairsOk_below {n : Nat} {ps : List PI} (h : pairsOk n ps = true) : ∀ p ∈ ps, Below n p.1 ∧ Below n p.2 := by
  intro p hp
  have := List.all_eq_true.1 h p hp
  rw [Bool.and_eq_true] at this
  exact ⟨isSet_below this.1, isSet_below this.2⟩
end Go.Ab.Tab
/- The contracts at valid inputs; join. -/
namespace Go.Ab.Tab
open Go Go.Ab
set_option maxRecDepth 10000
set_option linter.unusedVariables false
set_option linter.unusedSimpArgs false

/-- a set as a list -/
def lN (n : Nat) (u : BS) : List Int := (listN n u).map fun (x : Nat) => (x : Int)
/-- a list that is a set of numbers below n -/
structure VS (n : Nat) (l : List Int) : Prop where
  is : isSet n l = true
  len : l.length ≤ maxLen
  nle : n ≤ 100
theorem VS.below {n l} (h : VS n l) : Below n l := isSet_below h.is
theorem VS.full {n l} (h : VS n l) : (toS l).sub (fullS n) = true := toS_full (by have := h.nle; omega) h.below
structure VP (n : Nat) (ps : List PI) : Prop where
  ok : pairsOk n ps = true
  num : ps.length ≤ 1000
  len : ∀ p ∈ ps, p.1.length ≤ maxLen ∧ p.2.length ≤ maxLen
  nle : n ≤ 100
theorem VP.pb {n ps} (h : VP n ps) : PBelow n ps := fun p hp => ⟨pairsOk_below h.ok p hp, h.len p hp⟩
theorem VP.below {n ps} (h : VP n ps) : ∀ p ∈ ps, Below n p.1 ∧ Below n p.2 := pairsOk_below h.ok
theorem VP.clf {n ps l} (h : VP n ps) (k : VS n l) : (cl (ps.map toPS) (toS l)).sub (fullS n) = true := cl_full (by have := h.nle; omega) h.below k.below
theorem VP.ask {n ps x y} (h : VP n ps) (hx : VS n x) (hy : VS n y) : askOk n ps x y = true := by
  have := h.nle
  simp [askOk, h.ok, h.num, hx.is, hy.is]; omega

theorem isSetFrom_filter (n : Nat) (f : Nat → Bool) : ∀ (m i : Nat) (p : Option Int), i + m = n → (∀ y, p = some y → y < i) → isSetFrom n p (((List.range' i m).filter f).map fun (x : Nat) => (x : Int)) = true := by
  intro m
  induction m with
  | zero => intro i p _ _; rfl
  | succ m ih =>
    intro i p hi hp
    rw [List.range'_succ, List.filter_cons]
    cases hf : f i with
    | false => simpa using ih (i + 1) p (by omega) (fun y hy => by have := hp y hy; omega)
    | true =>
      simp only [if_true, List.map_cons, isSetFrom, Bool.and_eq_true, decide_eq_true_eq]
      refine ⟨⟨⟨by omega, by omega⟩, ?_⟩, ih (i + 1) (some (i : Int)) (by omega) (fun y hy => by injection hy with hy; omega)⟩
      cases p with
      | none => rfl
      | some y => simpa [prevOk] using hp y rfl
theorem lN_is (n : Nat) (u : BS) : isSet n (lN n u) = true := by
  unfold isSet lN listN
  rw [List.range_eq_range']
  exact isSetFrom_filter n u.has n 0 none (by omega) (by simp)
theorem lN_len (n : Nat) (u : BS) : (lN n u).length ≤ n := by rw [lN, List.length_map]; exact listN_len n u
theorem lN_vs {n : Nat} (hn : n ≤ 100) (u : BS) : VS n (lN n u) := ⟨lN_is n u, by have := lN_len n u; unfold maxLen; omega, hn⟩
theorem toS_lN {n : Nat} (hn : n ≤ 100) {u : BS} (h : u.sub (fullS n) = true) : toS (lN n u) = u := by
  refine BS.ext fun x hx => ?_
  rw [has_toS (show n ≤ 128 by omega) (isSet_below (lN_is n u)) hx]
  rw [Bool.eq_iff_iff, decide_eq_true_eq, lN, List.mem_map]
  constructor
  · rintro ⟨y, hy, e⟩
    have e : y = x := Int.ofNat.inj e
    subst e
    exact (List.mem_filter.1 hy).2
  · intro q
    have := sub_iff.1 h x hx q
    rw [has_full (by omega) hx, decide_eq_true_eq] at this
    exact ⟨x, List.mem_filter.2 ⟨List.mem_range.2 this, q⟩, rfl⟩
theorem lN_inj {n : Nat} (hn : n ≤ 100) {u v : BS} (hu : u.sub (fullS n) = true) (hv : v.sub (fullS n) = true) : lN n u = lN n v ↔ u = v :=
  ⟨fun h => by rw [← toS_lN hn hu, h, toS_lN hn hv], fun h => by rw [h]⟩
theorem encN_lN (n : Nat) (u : BS) : AV.sl 1 ((listN n u).map encN) .no = encI (lN n u) := by simp [encI, lN, encN]

section
variable {n : Nat} {ps : List PI} {x y : List Int}
theorem spec15v (D : Nat) (hp : VP n ps) (hx : VS n x) : Go.Ab.Loc Pg Gl D 15 [.int .i64 n, .sl 2 (ps.map encPI) .no, encI x] [] (.tup [encI (lN n (cl (ps.map toPS) (toS x))), .int .i64 0]) [] := by
  have h := spec15 D n ps hp.len x hx.len
  have hn := hp.nle
  rw [hp.ask hx ⟨rfl, by simp, hn⟩, if_pos rfl, list_eq (by omega) (hp.clf hx), encN_lN] at h
  exact h
theorem spec16v (D : Nat) (hp : VP n ps) (hx : VS n x) (hy : VS n y) : Go.Ab.Loc Pg Gl D 16 [.int .i64 n, .sl 2 (ps.map encPI) .no, encI x, encI y] [] (.tup [.bool (decide (cl (ps.map toPS) (toS x) = cl (ps.map toPS) (toS y))), .int .i64 0]) [] := by
  have h := spec16 D n ps hp.len x y hx.len hy.len
  rwa [hp.ask hx hy, if_pos rfl] at h
theorem spec20v (D : Nat) (hp : VP n ps) (hx : VS n x) : Go.Ab.Loc Pg Gl D 20 [.int .i64 n, .sl 2 (ps.map encPI) .no, encI x] [] (encI (lN n (cl (ps.map toPS) (toS x)))) [] := by
  have hn := hp.nle
  have h := spec20 D n (by omega) ps hp.num hp.pb x hx.below hx.len
  rwa [encN_lN] at h

theorem toS_nil : toS [] = (0#64, 0#64) := rfl
theorem zero_sub (u : BS) : BS.sub (0#64, 0#64) u = true := by simp [BS.sub, BS.or]
/-- the union as a closure -/
theorem cl_join (s t : BS) : cl [((0#64, 0#64), s)] t = t.or s := by
  refine (cl_is _ _).uniq ⟨sub_or_left _ _, ?_, ?_⟩
  · intro p hp
    rw [List.mem_singleton] at hp; subst hp
    exact ⟨fun _ => sub_or_right _ _, fun _ => zero_sub _⟩
  · intro u hu hs
    exact or_sub hu ((hs _ (List.mem_singleton.2 rfl)).1 (zero_sub u))
/-- join -/
theorem spec22 (D : Nat) (hx : VS n x) (hy : VS n y) : Go.Ab.Loc Pg Gl D 22 [.int .i64 n, encI x, encI y] [] (encI (lN n ((toS y).or (toS x)))) [] := by
  refine loc_rd mixedP tok rfl rfl fun S => ?_
  unfold c22
  generalize hr : encI (lN n ((toS y).or (toS x))) = r
  have hp : VP n [([], x)] := ⟨by simp [pairsOk, isSet_nil, hx.is], by simp, by intro p hp; rw [List.mem_singleton] at hp; subst hp; exact ⟨by simp, hx.len⟩, hx.nle⟩
  simp [encI]
  refine Rd_call (spec20v _ hp hy) (by simp [encI, encPI]) ?_
  have e : cl ([([], x)].map toPS) (toS y) = (toS y).or (toS x) := by
    rw [List.map_singleton, show toPS ([], x) = ((0#64, 0#64), toS x) from rfl, cl_join]
  rw [e]
  simp [encI]
  simp [← hr, encI]
end
end Go.Ab.Tab
