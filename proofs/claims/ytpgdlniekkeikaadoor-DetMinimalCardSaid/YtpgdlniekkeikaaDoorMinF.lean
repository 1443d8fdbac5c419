/- Automata: the reference's Equal. -/
import Derived.Test.YtpgdlniekkeikaaDoorMinE
import Derived.Test.YtpgdlniekkeikaaDoorMinD
namespace Go.Ab.Tab
open Go Go.Ab
set_option maxRecDepth 10000
set_option linter.unusedVariables false
set_option linter.unusedSimpArgs false
def nx (ps : List (Bool × List (List Nat))) (a : Nat) (p : List Int) : List Int := lN ps.length (nxtL ps a p)
end Go.Ab.Tab
/- Automata: the reference's Equal. -/
namespace Go.Ab.Tab
open Go Go.Ab
set_option maxRecDepth 10000
set_option linter.unusedVariables false
set_option linter.unusedSimpArgs false
theorem fitF_typ (k : Nat) : fitF (typ k) := by
 unfold typ
 simp [fitF,fitFs,maxLen]
end Go.Ab.Tab
/- Automata: the program's Ends,Next. -/
namespace Go.Ab.Tab
open Go Go.Ab
set_option maxRecDepth 10000
set_option linter.unusedVariables false
set_option linter.unusedSimpArgs false
theorem bits_and (a b : BitVec 64) : bitsI .u64 (· &&& ·) a.toNat b.toNat = .int .u64 (a &&& b).toNat := by
 simp only [bitsI,IntKind.bits]
 rw [BitVec.ofInt_natCast,BitVec.ofInt_natCast,BitVec.ofNat_toNat,BitVec.ofNat_toNat,BitVec.setWidth_eq,BitVec.setWidth_eq,wrap_u64_nat (BitVec.isLt _)]; rfl
structure PA where
 n : Nat
 k : Nat
 F : BS
 rows : List (List BS)
def encA (A : PA) : AV := .box [.int .i64 A.n,.int .i64 A.k,.int .u64 A.F.1.toNat,.int .u64 A.F.2.toNat,.sl 1 (A.rows.map fun r => .sl 2 (r.map encS) .no) .no] 0
def endsB (F u : BS) : Bool := decide (((u.1 &&& F.1) ||| (u.2 &&& F.2)) ≠ 0#64)
theorem spec69 (D : Nat) (A : PA) (u : BS) : Go.Ab.Loc Pg Gl D 69 [encA A,encS u] [] (.bool (endsB A.F u)) [] := by
 refine loc_rd mixedP tok rfl rfl fun S => ?_
 unfold c69
 generalize hr : AV.bool (endsB A.F u) = r
 unfold encA encS
 simp [bits_and,bits_or,-BitVec.toNat_or,-BitVec.toNat_and]
 rw [← hr,endsB]
 generalize (u.1 &&& A.F.1 ||| u.2 &&& A.F.2) = X
 by_cases h : X = 0#64
 ·subst h; rfl
 ·have : ¬ X.toNat = 0 := fun e => h (BitVec.eq_of_toNat_eq e)
  simp [h,this]
def nxtB (rows : List (List BS)) (a : Nat) (u : BS) : Nat → Nat → BS → BS
 | 0,_,s => s
 | j + 1,x,s => nxtB rows a u j (x + 1) (if u.has x then s.or ((rows[x]?.getD [])[a]?.getD (0#64,0#64)) else s)
theorem l70 (D : Nat) (A : PA) (hn : A.n ≤ 100) (hrows : A.rows.length = A.n) (a : Nat) (ha : ∀ r ∈ A.rows,a < r.length) (u t : BS) (S) : ∀ (j x : Nat) (s : BS) (τ ω) (r : AV),x + j = A.n →
  τ 0 = encA A → τ 2 = .int .i64 a → τ 4 = .ptr D 4 1 0 → τ 6 = .ptr D 6 1 0 → τ 7 = .ptr D 7 1 0 → τ 12 = .int .i64 A.n → τ 13 = .int .i64 x → ω 4 = (1,.cells [.int .u64 u.1.toNat,.int .u64 u.2.toNat]) → ω 6 = (1,.cells [.int .u64 0,.int .u64 0]) → ω 7 = (1,.cells [.int .u64 s.1.toNat,.int .u64 s.2.toNat]) →
  t = nxtB A.rows a u j x s → r = encS t →
  Rd (Loc Pg Gl) .im (RetQ [.cell 6 true 2] r S) [.lp c70_l0,.blk 0,.c c70_k0] (stF 33 D τ ω S) := by
 intro j
 induction j with
 | zero =>
  intro x s τ ω r hx h0 h2 h4 h6 h7 h12 h13 w4 w6 w7 ht hr
  refine Rd_lpE c70_l0.eq_1 ?_
  obtain rfl : x = A.n := by omega
  rw [nxtB] at ht
  subst ht
  simp [h0,h2,h4,h6,h7,h12,h13,w4,w6,w7,c70_k0]
  simp [hr,encS]
 | succ j ih =>
  intro x s τ ω r hx h0 h2 h4 h6 h7 h12 h13 w4 w6 w7 ht hr
  refine Rd_lpE c70_l0.eq_1 ?_
  have hlt : x < A.n := by omega
  have hwr : IntKind.i64.wrap ((x : Int) + 1) = ((x + 1 : Nat) : Int) := by rw [← wrap_i64_nat (n := x + 1) (by omega)]; rfl
  have hxr : x < A.rows.length := by omega
  obtain ⟨row,hrow⟩ : ∃ row,A.rows[x] = row := ⟨_,rfl⟩
  have har := ha row (by rw [← hrow]; exact List.getElem_mem hxr)
  rw [nxtB,List.getElem?_eq_getElem hxr,Option.getD_some,hrow,List.getElem?_eq_getElem har,Option.getD_some] at ht
  obtain ⟨c,hc⟩ : ∃ c,row[a] = c := ⟨_,rfl⟩
  rw [hc] at ht
  simp [h0,h2,h4,h6,h7,h12,h13,w4,w6,w7,hlt]
  refine Rd_call (spec94 _ u x (by omega)) (by simp [encS]) ?_
  cases hb : u.has x with
  | false =>
   rw [hb] at ht
   simp at ht
   simp [h13,hwr]
   refine ih (x + 1) s _ _ r (by omega) ?_ ?_ ?_ ?_ ?_ ?_ ?_ w4 w6 w7 ht hr
   all_goals simp [h0,h2,h4,h6,h7,h12]
  | true =>
   rw [hb,if_pos rfl] at ht
   simp [h0,h2,h4,h6,h7,h12,h13,w4,w6,w7,encA,hxr,hrow,har,hc,encS]
   refine Rd_drCall (spec98 _ s c) (by simp [encS]) ?_
   simp [encS,h7,w7,h13,hwr,-BitVec.toNat_or]
   refine ih (x + 1) (s.or c) _ _ r (by omega) ?_ ?_ ?_ ?_ ?_ ?_ ?_ ?_ ?_ ?_ ht hr
   all_goals simp [h0,h2,h4,h6,h7,h12,w4,w6,encA]
theorem spec70 (D : Nat) (A : PA) (hn : A.n ≤ 100) (hrows : A.rows.length = A.n) (a : Nat) (ha : ∀ r ∈ A.rows,a < r.length) (u : BS) : Go.Ab.Loc Pg Gl D 70 [encA A,encS u,.int .i64 a] [] (encS (nxtB A.rows a u A.n 0 (0#64,0#64))) [] := by
 refine loc_rd mixedP tok rfl rfl fun S => ?_
 unfold c70
 generalize hr : encS (nxtB A.rows a u A.n 0 (0#64,0#64)) = r
 simp [encA,encS]
 refine l70 D A hn hrows a ha u _ S A.n 0 (0#64,0#64) _ _ r (by omega) ?_ ?_ ?_ ?_ ?_ ?_ ?_ ?_ ?_ ?_ rfl hr.symm
 all_goals simp [encA]
end Go.Ab.Tab
/- Automata: the program's New. -/
namespace Go.Ab.Tab
open Go Go.Ab
set_option maxRecDepth 10000
set_option linter.unusedVariables false
set_option linter.unusedSimpArgs false
def keep66 (x : Nat) : Prop := x = 1 ∨ x = 4 ∨ x = 7 ∨ x = 10 ∨ x = 34 ∨ x = 35 ∨ x = 36 ∨ x = 60 ∨ x = 61 ∨ x = 62
theorem l66_0 (D n : Nat) (hn : n ≤ 100) (row : List Nat) (hrow : ∀ x ∈ row,x < n) (hlen : row.length ≤ maxLen) (t : BS) (g10 : Nat) (Q : St → Prop) (k : List AI) (S) (τ0 : Nat → AV) (ω0 : Nat → Ent) : ∀ (m i : Nat) (s : BS) (τ ω),i + m = row.length →
  τ 10 = .ptr D 10 g10 0 → τ 67 = .sl 3 (row.map fun x => encV (mkSt x)) .no → τ 68 = .int .i64 row.length → τ 69 = .int .i64 i → ω 10 = (g10,.cells [.int .u64 s.1.toNat,.int .u64 s.2.toNat]) →
  (∀ x,keep66 x → τ x = τ0 x) → ω 1 = ω0 1 → ω 32 = ω0 32 → t = s.or (toN (row.drop i)) →
  (∀ τ' ω',(∀ x,keep66 x → τ' x = τ0 x) → ω' 1 = ω0 1 → ω' 32 = ω0 32 → ω' 10 = (g10,.cells [.int .u64 t.1.toNat,.int .u64 t.2.toNat]) → Rd (Loc Pg Gl) .im Q k (stF 95 D τ' ω' S)) →
  Rd (Loc Pg Gl) .im Q (.lp c66_l0 :: .blk 5 :: k) (stF 95 D τ ω S) := by
 intro m
 induction m with
 | zero =>
  intro i s τ ω hi h10 h67 h68 h69 w10 hk w1 w32 ht hend
  refine Rd_lpE c66_l0.eq_1 ?_
  obtain rfl : i = row.length := by omega
  rw [List.drop_length,toN,List.foldr_nil,or_zero] at ht
  subst ht
  simp [h68,h69]
  refine hend _ _ (fun x hx => ?_) w1 w32 w10
  unfold keep66 at hx
  rw [← hk x hx]
  simp [upd,show ¬ x = 70 by omega]
 | succ m ih =>
  intro i s τ ω hi h10 h67 h68 h69 w10 hk w1 w32 ht hend
  refine Rd_lpE c66_l0.eq_1 ?_
  have hlt : i < row.length := by omega
  have hwr := wrap_next hlt hlen
  obtain ⟨y,hx⟩ : ∃ y,row[i] = y := ⟨_,rfl⟩
  have hy : y < n := hrow y (by rw [← hx]; exact List.getElem_mem hlt)
  have hd : row.drop i = y :: row.drop (i + 1) := by rw [List.drop_eq_getElem_cons hlt,hx]
  have e : toN (y :: row.drop (i + 1)) = (BS.single y).or (toN (row.drop (i + 1))) := rfl
  rw [hd,e,← or_assoc] at ht
  simp [h10,h67,h68,h69,w10,hlt,hx,encV_st]
  refine Rd_call (spec101 _ s y (by omega)) (by simp [encS]) ?_
  simp [h10,w10,h69,hwr,encS,-BitVec.toNat_or]
  refine ih (i + 1) (s.or (BS.single y)) _ _ (by omega) ?_ ?_ ?_ ?_ ?_ (fun x hx => ?_) ?_ ?_ ht hend
  case refine_6 =>
   have hx' := hx
   unfold keep66 at hx'
   rw [← hk x hx]
   simp [upd,show ¬ x = 12 by omega,show ¬ x = 69 by omega,show ¬ x = 70 by omega,show ¬ x = 71 by omega,show ¬ x = 72 by omega,show ¬ x = 73 by omega,show ¬ x = 74 by omega,show ¬ x = 75 by omega,show ¬ x = 76 by omega,show ¬ x = 77 by omega]
  all_goals simp [h10,h67,h68,w1,w32,encV_st]
def keep66b (x : Nat) : Prop := x = 1 ∨ x = 4 ∨ x = 34 ∨ x = 35 ∨ x = 36
theorem l66_1 (D n : Nat) (hn : n ≤ 100) (rows : List (List Nat)) (hrl : rows.length ≤ 4) (hrow : ∀ r ∈ rows,(∀ x ∈ r,x < n) ∧ r.length ≤ maxLen) (Q : St → Prop) (k : List AI) (S) (τ0 : Nat → AV) (ω0 : Nat → Ent) : ∀ (m i : Nat) (τ ω),i + m = rows.length →
  τ 7 = .sl 2 ((rows.map fun r => encS (toN r)).take i) .tip → τ 60 = .sl 3 (rows.map fun r => encV (mkRow r)) .no → τ 61 = .int .i64 rows.length → τ 62 = .int .i64 i →
  (∀ x,keep66b x → τ x = τ0 x) → ω 1 = ω0 1 → ω 32 = ω0 32 →
  (∀ τ' ω',(∀ x,keep66b x → τ' x = τ0 x) → ω' 1 = ω0 1 → ω' 32 = ω0 32 → τ' 7 = .sl 2 (rows.map fun r => encS (toN r)) .tip → Rd (Loc Pg Gl) .im Q k (stF 95 D τ' ω' S)) →
  Rd (Loc Pg Gl) .im Q (.lp c66_l1 :: .blk 3 :: k) (stF 95 D τ ω S) := by
 intro m
 induction m with
 | zero =>
  intro i τ ω hi h7 h60 h61 h62 hk w1 w32 hend
  refine Rd_lpE c66_l1.eq_1 ?_
  obtain rfl : i = rows.length := by omega
  rw [List.take_of_length_le (by simp)] at h7
  simp [h61,h62]
  refine hend _ _ (fun x hx => ?_) w1 w32 (by simp [h7])
  unfold keep66b at hx
  rw [← hk x hx]
  simp [upd,show ¬ x = 63 by omega]
 | succ m ih =>
  intro i τ ω hi h7 h60 h61 h62 hk w1 w32 hend
  refine Rd_lpE c66_l1.eq_1 ?_
  have hlt : i < rows.length := by omega
  have hwr : IntKind.i64.wrap ((i : Int) + 1) = ((i + 1 : Nat) : Int) := by rw [← wrap_i64_nat (n := i + 1) (by omega)]; rfl
  obtain ⟨row,hx⟩ : ∃ row,rows[i] = row := ⟨_,rfl⟩
  obtain ⟨r1,r2⟩ := hrow row (by rw [← hx]; exact List.getElem_mem hlt)
  simp [h7,h60,h61,h62,hlt,hx,encV_row]
  refine l66_0 D n hn row r1 r2 (toN row) ((ω 10).1 + 1) _ _ S _ ω row.length 0 (0#64,0#64) _ _ (by omega) ?_ ?_ ?_ ?_ ?_ (fun x _ => rfl) ?_ ?_ (by simp [BS.or]) ?_
  case refine_8 =>
   intro τ' ω' hk2 v1 v32 v10
   have g1 := hk2 1 (by unfold keep66; omega); have g4 := hk2 4 (by unfold keep66; omega); have g7 := hk2 7 (by unfold keep66; omega); have g10 := hk2 10 (by unfold keep66; omega); have g34 := hk2 34 (by unfold keep66; omega)
   have g35 := hk2 35 (by unfold keep66; omega); have g36 := hk2 36 (by unfold keep66; omega); have g60 := hk2 60 (by unfold keep66; omega); have g61 := hk2 61 (by unfold keep66; omega); have g62 := hk2 62 (by unfold keep66; omega)
   clear hk2
   simp at g1 g4 g10 g34 g35 g36
   simp [h7] at g7
   simp [h60] at g60
   simp [h61] at g61
   simp [h62] at g62
   have hl : (List.take i (List.map (fun r => encS (toN r)) rows)).length = i := by simp; omega
   have hle : (i + 1) * 16 ≤ 1099511627776 := by omega
   have htk : (rows.map fun r => encS (toN r)).take (i + 1) = (rows.map fun r => encS (toN r)).take i ++ [encS (toN row)] := by
    rw [List.take_add_one]; simp [hlt,hx]
   generalize hA : List.take i (List.map (fun r => encS (toN r)) rows) = A at *
   simp [c66_k0,g7,g10,v10,hl,hle,c66_k1,g62,hwr]
   refine ih (i + 1) _ _ (by omega) ?_ ?_ ?_ ?_ (fun x hx => ?_) ?_ ?_ hend
   case refine_5 =>
    have hx' := hx
    unfold keep66b at hx'
    rw [← hk x hx]
    rcases hx' with rfl | rfl | rfl | rfl | rfl <;> simp [g1,g4,g34,g35,g36]
   case refine_1 => rw [htk]; simp [encS]
   all_goals simp [g60,g61,v1,v32,w1,w32]
  all_goals simp [encV_row]
end Go.Ab.Tab
/- Automata: the program's New. -/
namespace Go.Ab.Tab
open Go Go.Ab
set_option maxRecDepth 10000
set_option linter.unusedVariables false
set_option linter.unusedSimpArgs false
def finF : Nat → List (Bool × List (List Nat)) → BS → BS
 | _,[],F => F
 | i,p :: l,F => finF (i + 1) l (if p.1 then F.or (BS.single i) else F)
def paOf (k : Nat) (ps : List (Bool × List (List Nat))) : PA := ⟨ps.length,k,finF 0 ps (0#64,0#64),ps.map fun p => p.2.map toN⟩
def rowsV (ps : List (Bool × List (List Nat))) : List AV := ps.map fun p => .sl 2 (p.2.map fun r => encS (toN r)) .no
theorem l66_2 (D k : Nat) (ps : List (Bool × List (List Nat))) (hps : AuOk k ps) (hrl : ∀ p ∈ ps,∀ r ∈ p.2,r.length ≤ maxLen) (S) (T : BS) : ∀ (m i : Nat) (F : BS) (tp : Tip) (τ ω) (r : AV),i + m = ps.length → (tp = .tip ∨ tp = .nil) →
  τ 4 = .ptr D 32 1 0 → τ 34 = .sl 3 (ps.map fun p => encV (mkAu p)) .no → τ 35 = .int .i64 ps.length → τ 36 = .int .i64 i →
  ω 32 = (1,.cells [.int .i64 ps.length,.int .i64 k,.int .u64 F.1.toNat,.int .u64 F.2.toNat,.sl 1 ((rowsV ps).take i) tp]) → T = finF i (ps.drop i) F →
  r = .tup [.box [.int .i64 ps.length,.int .i64 k,.int .u64 T.1.toNat,.int .u64 T.2.toNat,.sl 1 (rowsV ps) .no] 0,.int .i64 0] →
  Rd (Loc Pg Gl) .im (RetQ [.tmp 2,.tmp 3] r S) [.lp c66_l2,.blk 1,.c c66_k4] (stF 95 D τ ω S) := by
 have hn := hps.len
 intro m
 induction m with
 | zero =>
  intro i F tp τ ω r hi htp h4 h34 h35 h36 w32 hT hr
  refine Rd_lpE c66_l2.eq_1 ?_
  obtain rfl : i = ps.length := by omega
  rw [List.drop_length,finF] at hT
  subst hT
  rw [List.take_of_length_le (by simp [rowsV])] at w32
  simp [h4,h34,h35,h36,w32,c66_k4]
  have hfz : ∀ τ',frz (stF 95 D τ' ω S) frzD (.ptr D 32 1 0) = some (.box [.int .i64 ps.length,.int .i64 k,.int .u64 T.1.toNat,.int .u64 T.2.toNat,.sl 1 (rowsV ps) .no] 0,[(D,32)]) := by
   intro τ'
   rw [frzD,frz]
   rcases htp with rfl | rfl
   ·simp [w32,frz_int _ 18,frz_sl _ 18]
   ·simp [w32,frz_int _ 18,frz_sl _ 18]
  rw [hfz]
  simp [hr]
 | succ m ih =>
  intro i F tp τ ω r hi htp h4 h34 h35 h36 w32 hT hr
  refine Rd_lpE c66_l2.eq_1 ?_
  have hlt : i < ps.length := by omega
  have hwr : IntKind.i64.wrap ((i : Int) + 1) = ((i + 1 : Nat) : Int) := by rw [← wrap_i64_nat (n := i + 1) (by omega)]; rfl
  obtain ⟨p,hx⟩ : ∃ p,ps[i] = p := ⟨_,rfl⟩
  have hmem : p ∈ ps := by rw [← hx]; exact List.getElem_mem hlt
  obtain ⟨r1,r2⟩ := hps.row p hmem
  have r3 := hrl p hmem
  have hkl := hps.kle
  rw [List.drop_eq_getElem_cons hlt,hx,finF] at hT
  have rest : ∀ (F' : BS) τ' ω' g6,T = finF (i + 1) (ps.drop (i + 1)) F' → τ' 6 = .ptr D 6 g6 0 → τ' 4 = .ptr D 32 1 0 → τ' 34 = .sl 3 (ps.map fun p => encV (mkAu p)) .no → τ' 35 = .int .i64 ps.length → τ' 36 = .int .i64 i → ω' 6 = (g6,.cells [.int .i64 0,.sl 3 [.agg [.int .i64 (if p.1 then 1 else 0),.sl 3 [] .no,.sl 1 [] .no],.agg [.int .i64 0,.sl 3 (p.2.map fun r => encV (mkRow r)) .no,.sl 1 [] .no]] .no,.sl 1 [] .no]) →
    ω' 32 = (1,.cells [.int .i64 ps.length,.int .i64 k,.int .u64 F'.1.toNat,.int .u64 F'.2.toNat,.sl 1 ((rowsV ps).take i) tp]) →
    Rd (Loc Pg Gl) .im (RetQ [.tmp 2,.tmp 3] r S) [.c c66_j0,.blk 2,.c c66_k3,.lp c66_l2,.blk 1,.c c66_k4] (stF 95 D τ' ω' S) := by
   intro F' τ' ω' g6 hT' g6' g4 g34 g35 g36 v6 v32
   unfold c66_j0
   have hkl' : p.2.length ≤ 4 := by omega
   simp [g6',v6]
   refine l66_1 D ps.length hn p.2 hkl' (fun r hr => ⟨r2 r hr,r3 r hr⟩) _ _ S τ' ω' p.2.length 0 _ _ (by omega) ?_ ?_ ?_ ?_ ?_ ?_ ?_ ?_
   case refine_8 =>
    intro τ2 ω2 hk2 u1 u32 q7
    have q4 := hk2 4 (by unfold keep66b; omega); have q34 := hk2 34 (by unfold keep66b; omega); have q35 := hk2 35 (by unfold keep66b; omega); have q36 := hk2 36 (by unfold keep66b; omega)
    rw [g4] at q4; rw [g34] at q34; rw [g35] at q35; rw [g36] at q36; rw [v32] at u32
    have hl : (List.take i (rowsV ps)).length = i := by simp [rowsV]; omega
    have hle : (i + 1) * 24 ≤ 1099511627776 := by omega
    have htk : (rowsV ps).take (i + 1) = (rowsV ps).take i ++ [.sl 2 (p.2.map fun r => encS (toN r)) .no] := by
     rw [List.take_add_one]; simp [rowsV,hlt,hx]
    generalize hA : List.take i (rowsV ps) = A at *
    simp [c66_k2,q4,q7,u32,hl,hle,htp,c66_k3,q36,hwr]
    refine ih (i + 1) F' .tip _ _ r (by omega) (.inl rfl) ?_ ?_ ?_ ?_ ?_ hT' hr
    case refine_5 => rw [htk]; simp
    all_goals simp [q34,q35,q4]
   case refine_5 => intro x hx; rcases hx with rfl | rfl | rfl | rfl | rfl <;> simp
   all_goals simp
  cases hb : p.1 with
  | false =>
   rw [hb] at hT
   simp at hT
   simp [h4,h34,h35,h36,hlt,hx,encV_au,hb]
   refine rest F _ _ ((ω 6).1 + 1) hT ?_ ?_ ?_ ?_ ?_ ?_ ?_
   all_goals simp [h4,h34,h35,h36,w32,hb,encV_au]
  | true =>
   rw [hb,if_pos rfl] at hT
   simp [h4,h34,h35,h36,hlt,hx,encV_au,hb,w32]
   refine Rd_call (spec101 _ F i (by omega)) (by simp [encS]) ?_
   simp [encS,w32,-BitVec.toNat_or]
   refine rest (F.or (BS.single i)) _ _ ((ω 6).1 + 1) hT ?_ ?_ ?_ ?_ ?_ ?_ ?_
   all_goals simp [h4,h34,h35,h36,w32,hb,encV_au]
theorem isF_typ {k : Nat} (h1 : 1 ≤ k) (h4 : k ≤ 4) : shapedF (typ k) = true := by
 have : k = 1 ∨ k = 2 ∨ k = 3 ∨ k = 4 := by omega
 rcases this with rfl | rfl | rfl | rfl <;> rfl
theorem spec66_ok (D k : Nat) (ps : List (Bool × List (List Nat))) (hps : AuOk k ps) (hrl : ∀ p ∈ ps,∀ r ∈ p.2,r.length ≤ maxLen) (hY : isY (auY k ps) = true) (hv : ∀ v ∈ (auY k ps).m,fitV v) (hb : nodesVs (auY k ps).m ≤ 2 ^ 32) :
  Go.Ab.Loc Pg Gl D 66 [encY (auY k ps)] [] (.tup [encA (paOf k ps),.int .i64 0]) [] := by
 have hn := hps.len
 refine loc_rd mixedP tok rfl rfl fun S => ?_
 unfold c66
 generalize hr : AV.tup [encA (paOf k ps),.int .i64 0] = r
 have h95 := spec95 (auY k ps) (fitF_typ k) (by show (ps.map mkAu).length ≤ maxLen; rw [List.length_map]; unfold maxLen; omega) hv hb (D + 1)
 have h100 := spec100 (typ k) (isF_typ hps.kpos hps.kle) (D + 1)
 have hl : decide (lettersF (typ k) ≠ 0) = true := by rw [letters_typ hps.kpos hps.kle]; have := hps.kpos; simp; omega
 rw [hY] at h95
 rw [hl] at h100
 rw [encY_au] at h95 ⊢
 have htyp : encF (typ k) = .agg [.int .i64 2,.int .i64 0,.sl 3 [encF (.mk 1 2 []),encF (.mk 4 k [.mk 5 0 [.mk 0 0 []]])] .no] := by unfold typ; rw [encF_mk]; rfl
 rw [htyp] at h100
 simp
 refine Rd_call h95 (by simp) ?_
 simp
 refine Rd_call h100 (by simp) ?_
 simp [encF_mk]
 refine l66_2 D k ps hps hrl S (finF 0 ps (0#64,0#64)) ps.length 0 (0#64,0#64) .tip _ _ r (by omega) (.inl rfl) ?_ ?_ ?_ ?_ ?_ (by simp) ?_
 case refine_6 => rw [← hr,encA,paOf,rowsV]; simp [Function.comp_def]
 all_goals simp
theorem spec66_bad (D : Nat) (s : Sy) (hf : fitF s.f) (hl : s.m.length ≤ maxLen) (hv : ∀ v ∈ s.m,fitV v) (hb : nodesVs s.m ≤ 2 ^ 32) (h : isY s = false ∨ lettersF s.f = 0) :
  Go.Ab.Loc Pg Gl D 66 [encY s] [] (.tup [.nilp,.int .i64 (if isY s then 1 else 30)]) [] := by
 refine loc_rd mixedP tok rfl rfl fun S => ?_
 unfold c66
 have h95 := spec95 s hf hl hv hb (D + 1)
 rw [encY] at h95 ⊢
 simp
 refine Rd_call h95 (by simp) ?_
 cases hy : isY s with
 | false => simp
 | true =>
  have hl0 : lettersF s.f = 0 := h.resolve_left (by rw [hy]; simp)
  have hsh : shapedF s.f = true := isF_shaped (by unfold isY at hy; simp only [Bool.and_eq_true] at hy; exact hy.1)
  have h100 := spec100 s.f hsh (D + 1)
  rw [hl0,encF_eta s.f] at h100
  simp
  refine Rd_call h100 (by simp) ?_
  simp
end Go.Ab.Tab
/- Automata: the program's Right. -/
namespace Go.Ab.Tab
open Go Go.Ab
set_option maxRecDepth 10000
set_option linter.unusedVariables false
set_option linter.unusedSimpArgs false
def nextA (A : PA) (u : BS) (a : Nat) : BS := nxtB A.rows a u A.n 0 (0#64,0#64)
end Go.Ab.Tab
/- Automata: the plain law of Right. -/
namespace Go.Ab.Tab
open Go Go.Ab
set_option maxRecDepth 10000
set_option linter.unusedVariables false
set_option linter.unusedSimpArgs false
theorem has_toN {y : Nat} (hy : y < 128) : ∀ {r : List Nat},(∀ x ∈ r,x < 128) → (toN r).has y = decide (y ∈ r)
 | [],_ => by
  show BS.has (0#64,0#64) y = _
  unfold BS.has; simp
 | x :: r,h => by
  have e : toN (x :: r) = (BS.single x).or (toN r) := rfl
  rw [e,has_or,has_single (h x (by simp)) hy,has_toN hy fun z hz => h z (by simp [hz])]
  simp [Bool.decide_or]
def cellA (A : PA) (x a : Nat) : BS := (A.rows[x]?.getD [])[a]?.getD (0#64,0#64)
theorem has_nxtB (rows : List (List BS)) (a : Nat) (u : BS) (y : Nat) : ∀ (j x : Nat) (s : BS),(nxtB rows a u j x s).has y = true ↔ s.has y = true ∨ ∃ z,x ≤ z ∧ z < x + j ∧ u.has z = true ∧ ((rows[z]?.getD [])[a]?.getD (0#64,0#64)).has y = true
 | 0,x,s => by
  rw [nxtB]
  constructor
  ·exact .inl
  ·rintro (h | ⟨z,h1,h2,_⟩)
   ·exact h
   ·omega
 | j + 1,x,s => by
  rw [nxtB,has_nxtB rows a u y j (x + 1)]
  constructor
  ·rintro (h | ⟨z,h1,h2,h3⟩)
   ·by_cases hx : u.has x = true
    ·rw [if_pos hx,has_or,Bool.or_eq_true] at h
     rcases h with h | h
     ·exact .inl h
     ·exact .inr ⟨x,by omega,by omega,hx,h⟩
    ·rw [if_neg hx] at h; exact .inl h
   ·exact .inr ⟨z,by omega,by omega,h3⟩
  ·rintro (h | ⟨z,h1,h2,h3,h4⟩)
   ·refine .inl ?_
    split
    ·rw [has_or,h]; rfl
    ·exact h
   ·by_cases e : z = x
    ·subst e
     refine .inl ?_
     rw [if_pos h3,has_or,h4]; simp
    ·exact .inr ⟨z,by omega,by omega,h3,h4⟩
theorem has_nextA {A : PA} {u : BS} {a y : Nat} : (nextA A u a).has y = true ↔ ∃ z,z < A.n ∧ u.has z = true ∧ (cellA A z a).has y = true := by
 unfold nextA
 rw [has_nxtB]
 constructor
 ·rintro (h | ⟨z,_,h2,h3⟩)
  ·exfalso; unfold BS.has at h; simp at h
  ·exact ⟨z,by omega,h3⟩
 ·rintro ⟨z,h2,h3⟩
  exact .inr ⟨z,by omega,by omega,h3⟩
theorem has_lt {u : BS} {x : Nat} (h : u.has x = true) : x < 128 := by
 apply Classical.byContradiction; intro hx
 unfold BS.has at h
 rw [if_neg (by omega)] at h
 rw [BitVec.getLsbD_of_ge _ _ (by omega)] at h
 cases h
theorem endsB_iff {F u : BS} : endsB F u = true ↔ ∃ x,u.has x = true ∧ F.has x = true := by
 unfold endsB
 rw [decide_eq_true_eq]
 constructor
 ·intro h
  apply Classical.byContradiction; intro hn
  apply h
  apply BitVec.eq_of_getLsbD_eq
  intro i hi
  rw [BitVec.getLsbD_or,BitVec.getLsbD_and,BitVec.getLsbD_and]
  have h1 : (u.1.getLsbD i && F.1.getLsbD i) = false := by
   cases q : (u.1.getLsbD i && F.1.getLsbD i) with
   | false => rfl
   | true =>
    rw [Bool.and_eq_true] at q
    exact absurd ⟨i,by unfold BS.has; rw [if_pos hi]; exact q.1,by unfold BS.has; rw [if_pos hi]; exact q.2⟩ hn
  have h2 : (u.2.getLsbD i && F.2.getLsbD i) = false := by
   cases q : (u.2.getLsbD i && F.2.getLsbD i) with
   | false => rfl
   | true =>
    rw [Bool.and_eq_true] at q
    refine absurd ⟨i + 64,?_,?_⟩ hn
    ·unfold BS.has; rw [if_neg (by omega),Nat.add_sub_cancel]; exact q.1
    ·unfold BS.has; rw [if_neg (by omega),Nat.add_sub_cancel]; exact q.2
  rw [h1,h2]; simp
 ·rintro ⟨x,hu,hF⟩ h
  unfold BS.has at hu hF
  split at hu
  ·rename_i hx
   rw [if_pos hx] at hF
   have := congrArg (fun b => BitVec.getLsbD b x) h
   simp only [BitVec.getLsbD_or,BitVec.getLsbD_and,hu,hF] at this
   simp at this
  ·rename_i hx
   rw [if_neg hx] at hF
   have := congrArg (fun b => BitVec.getLsbD b (x - 64)) h
   simp only [BitVec.getLsbD_or,BitVec.getLsbD_and,hu,hF] at this
   simp at this
end Go.Ab.Tab
/- Automata: Equal never finds a difference where Right holds. -/
namespace Go.Ab.Tab
open Go Go.Ab
set_option maxRecDepth 10000
set_option linter.unusedVariables false
set_option linter.unusedSimpArgs false
theorem has_zero (x : Nat) : BS.has (0#64,0#64) x = false := by unfold BS.has; simp
theorem has_finF {x : Nat} (hx : x < 128) : ∀ (l : List (Bool × List (List Nat))) (i : Nat) (F : BS),i + l.length ≤ 128 → ((finF i l F).has x = true ↔ F.has x = true ∨ (i ≤ x ∧ (l[x - i]?.map (·.1)).getD false = true))
 | [],i,F,_ => by
  rw [finF]; simp
 | p :: l,i,F,h => by
  rw [List.length_cons] at h
  rw [finF,has_finF hx l (i + 1) _ (by omega)]
  by_cases e : x = i
  ·subst e
   have h1 : ¬ (x + 1 ≤ x ∧ (l[x - (x + 1)]?.map (·.1)).getD false = true) := fun q => by omega
   have h2 : (x ≤ x ∧ ((p :: l)[x - x]?.map (·.1)).getD false = true) ↔ p.1 = true := by simp
   rw [h2]
   by_cases hp : p.1 = true
   ·rw [if_pos hp,has_or,has_single hx hx]; simp [hp]
   ·rw [if_neg hp]
    constructor
    ·rintro (q | q)
     ·exact .inl q
     ·exact absurd q h1
    ·rintro (q | q)
     ·exact .inl q
     ·exact absurd q hp
  ·have h1 : ∀ q : i + 1 ≤ x,(p :: l)[x - i]? = l[x - (i + 1)]? := by
    intro q
    obtain ⟨d,rfl⟩ : ∃ d,x = i + 1 + d := ⟨x - (i + 1),by omega⟩
    rw [show i + 1 + d - i = d + 1 by omega,show i + 1 + d - (i + 1) = d by omega]; rfl
   have h3 : (if p.1 = true then F.or (BS.single i) else F).has x = F.has x := by
    split
    ·rw [has_or,has_single (by omega) hx]; simp [e]
    ·rfl
   rw [h3]
   constructor
   ·rintro (q | ⟨q1,q2⟩)
    ·exact .inl q
    ·refine .inr ⟨by omega,?_⟩
     rw [h1 q1]; exact q2
   ·rintro (q | ⟨q1,q2⟩)
    ·exact .inl q
    ·refine .inr ⟨by omega,?_⟩
     rw [← h1 (by omega)]; exact q2
theorem finL_ends {k : Nat} {ps : List (Bool × List (List Nat))} (hn : ps.length ≤ 100) {l : List Int} (hl : Below ps.length l) : finL ps l = endsB (paOf k ps).F (toS l) := by
 have hF : ∀ x,x < 128 → ((paOf k ps).F.has x = true ↔ (ps[x]?.map (·.1)).getD false = true) := by
  intro x hx
  show (finF 0 ps (0#64,0#64)).has x = true ↔ _
  rw [has_finF hx ps 0 _ (by omega),has_zero]
  simp
 rw [Bool.eq_iff_iff,endsB_iff]
 unfold finL
 rw [List.any_eq_true]
 constructor
 ·rintro ⟨x,hx,h⟩
  have hb := hl x hx
  refine ⟨x.toNat,?_,(hF _ (by omega)).2 h⟩
  rw [has_toS (show ps.length ≤ 128 by omega) hl (by omega),decide_eq_true_eq,Int.toNat_of_nonneg hb.1]; exact hx
 ·rintro ⟨x,hu,hf⟩
  have hx := has_lt hu
  rw [has_toS (show ps.length ≤ 128 by omega) hl hx,decide_eq_true_eq] at hu
  refine ⟨x,hu,?_⟩
  rw [Int.toNat_natCast]
  exact (hF x hx).1 hf
theorem cellA_paOf (k : Nat) (ps : List (Bool × List (List Nat))) (x a : Nat) : cellA (paOf k ps) x a = toN (rowN ps x a) := by
 unfold cellA rowN
 show ((ps.map fun p => p.2.map toN)[x]?.getD [])[a]?.getD _ = _
 rw [List.getElem?_map]
 cases ps[x]? with
 | none => rfl
 | some p =>
  simp only [Option.map_some,Option.getD_some,List.getElem?_map]
  cases p.2[a]? with
  | none => rfl
  | some r => rfl
theorem has_nxtL {ps : List (Bool × List (List Nat))} {a y : Nat} : ∀ {l : List Int},(nxtL ps a l).has y = true ↔ ∃ x ∈ l,(toN (rowN ps x.toNat a)).has y = true
 | [] => by rw [nxtL,has_zero]; simp
 | x :: l => by
  rw [nxtL,has_or,Bool.or_eq_true,has_nxtL]
  simp
theorem nxtL_next {k : Nat} {ps : List (Bool × List (List Nat))} (hn : ps.length ≤ 100) {l : List Int} (hl : Below ps.length l) (a : Nat) : nxtL ps a l = nextA (paOf k ps) (toS l) a := by
 refine BS.ext fun y hy => ?_
 rw [Bool.eq_iff_iff,has_nxtL,has_nextA]
 constructor
 ·rintro ⟨x,hx,h⟩
  have hb := hl x hx
  refine ⟨x.toNat,(by show x.toNat < ps.length; omega),?_,by rw [cellA_paOf]; exact h⟩
  rw [has_toS (show ps.length ≤ 128 by omega) hl (by omega),decide_eq_true_eq,Int.toNat_of_nonneg hb.1]; exact hx
 ·rintro ⟨x,hx,hu,h⟩
  have hx' : x < ps.length := hx
  rw [has_toS (show ps.length ≤ 128 by omega) hl (by omega),decide_eq_true_eq] at hu
  refine ⟨x,hu,?_⟩
  rw [Int.toNat_natCast,← cellA_paOf k]; exact h
theorem has_fullN {n x : Nat} (hn : n ≤ 128) (hx : x < n) : (fullS n).has x = true := by
 unfold fullS
 rw [has_toS hn (full_below n) (by omega),decide_eq_true_eq,List.mem_map]
 exact ⟨x,by simpa using hx,rfl⟩
theorem rowN_lt {k : Nat} {ps : List (Bool × List (List Nat))} (hps : AuOk k ps) {x a y : Nat} (h : y ∈ rowN ps x a) : y < ps.length := by
 unfold rowN at h
 cases hx : ps[x]? with
 | none => rw [hx] at h; simp at h
 | some p =>
  rw [hx] at h
  simp only [Option.map_some,Option.getD_some] at h
  cases hr : p.2[a]? with
  | none => rw [hr] at h; simp at h
  | some r =>
   rw [hr,Option.getD_some] at h
   exact (hps.row p (List.mem_of_getElem? hx)).2 r (List.mem_of_getElem? hr) y h
theorem nxtL_full {k : Nat} {ps : List (Bool × List (List Nat))} (hps : AuOk k ps) (a : Nat) (l : List Int) : (nxtL ps a l).sub (fullS ps.length) = true := by
 have hn := hps.len
 rw [sub_iff]
 intro y hy h
 obtain ⟨x,_,h⟩ := has_nxtL.1 h
 have hr : ∀ z ∈ rowN ps x.toNat a,z < 128 := fun z hz => by have := rowN_lt hps hz; omega
 rw [has_toN hy hr,decide_eq_true_eq] at h
 exact has_fullN (show ps.length ≤ 128 by omega) (rowN_lt hps h)
theorem toS_nx {k : Nat} {ps : List (Bool × List (List Nat))} (hps : AuOk k ps) (a : Nat) {l : List Int} (hl : Below ps.length l) : toS (nx ps a l) = nextA (paOf k ps) (toS l) a := by
 rw [← nxtL_next hps.len hl]
 exact toS_lN hps.len (nxtL_full hps a l)
end Go.Ab.Tab
/- Facts of systems that are read. -/
namespace Go.Ab.Tab
open Go Go.Ab
set_option maxRecDepth 10000
set_option linter.unusedVariables false
set_option linter.unusedSimpArgs false
theorem fit_rows {p : Bool × List (List Nat)} (h : fitV (mkAu p)) : ∀ r ∈ p.2,r.length ≤ maxLen := by
 intro r hr
 have h1 := (fitV_gs _).1 h
 have h2 : fitV (.mk 0 (p.2.map mkRow) []) := fitVs_mem h1.2 _ (by simp [mkAu,Va.gs])
 have h3 := (fitV_gs _).1 h2
 have h4 : fitV (mkRow r) := fitVs_mem h3.2 _ (by show mkRow r ∈ p.2.map mkRow; exact List.mem_map.2 ⟨r,hr,rfl⟩)
 have h5 := ((fitV_gs _).1 h4).1.1
 have : (r.map mkSt).length ≤ maxLen := h5
 rwa [List.length_map] at this
end Go.Ab.Tab
/- Systems as arguments. -/
namespace Go.Ab
open Go
set_option maxRecDepth 10000
set_option linter.unusedVariables false
set_option linter.unusedSimpArgs false
namespace Tab
theorem u38 : Pg.underlying 38 = some (.slice 40) := by kernel_rfl
theorem u41 : Pg.underlying 41 = some (.slice 125) := by kernel_rfl
theorem s40 : isStruct Pg 40 = true := by kernel_rfl
theorem s125 : isStruct Pg 125 = true := by kernel_rfl
theorem s43 : isStruct Pg 43 = true := by kernel_rfl
theorem f40 : fieldsOf Pg 40 = [(3,0),(3,1),(38,2)] := by kernel_rfl
theorem f125 : fieldsOf Pg 125 = [(3,0),(41,1),(23,2)] := by kernel_rfl
theorem f43 : fieldsOf Pg 43 = [(40,0),(41,3)] := by kernel_rfl
theorem z40 : Pg.cellsOf 40 = 3 := by kernel_rfl
theorem z125 : Pg.cellsOf 125 = 3 := by kernel_rfl
theorem z43 : Pg.cellsOf 43 = 4 := by kernel_rfl
theorem z38 : Pg.cellsOf 38 = 1 := by kernel_rfl
theorem z41 : Pg.cellsOf 41 = 1 := by kernel_rfl
theorem g40 : isAggT Pg 40 = true := by kernel_rfl
theorem g125 : isAggT Pg 125 = true := by kernel_rfl
theorem g43 : isAggT Pg 43 = true := by kernel_rfl
theorem ty_slice' {P : Program} {t e : TypeId} {n : Nat} {cs : List AV} (hu : P.underlying t = some (.slice e)) (h : tyOk P (n + 1) t cs) : ∃ xs,cs = [.sl (P.cellsOf e) xs .no] ∧ xs.length ≤ maxLen ∧ ∀ x ∈ xs,∃ c,x = mkV P e c ∧ tyOk P n e c := by
 simp only [tyOk,hu] at h
 exact h
theorem ty_struct' {P : Program} {t : TypeId} {n : Nat} {cs : List AV} (hs : isStruct P t = true) (h : tyOk P (n + 1) t cs) : cs.length = P.cellsOf t ∧ ∀ f ∈ fieldsOf P t,tyOk P n f.1 ((cs.drop f.2).take (P.cellsOf f.1)) := by
 unfold isStruct at hs
 unfold fieldsOf
 cases hu : P.underlying t with
 | none => rw [hu] at hs; cases hs
 | some d =>
  rw [hu] at hs
  cases d with
  | struct fs =>
   simp only [tyOk,hu] at h
   refine ⟨h.1,fun f hf => ?_⟩
   obtain ⟨g,hg,rfl⟩ := List.mem_map.1 hf
   exact h.2 g hg
  | _ => cases hs
theorem fitFs_of : ∀ {l : List Fu},(∀ a ∈ l,fitF a) → fitFs l
 | [],_ => by rw [fitFs]; trivial
 | a :: l,h => by rw [fitFs]; exact ⟨h a (by simp),fitFs_of fun b hb => h b (by simp [hb])⟩
theorem three {cs : List AV} (h : cs.length = 3) : ∃ a b c,cs = [a,b,c] := by
 match cs,h with
 | [a,b,c],_ => exact ⟨a,b,c,rfl⟩
theorem ty40 : ∀ (n : Nat) {cs : List AV},tyOk Pg n 40 cs → ∃ f : Fu,cs = [.int .i64 f.k,.int .i64 f.n,.sl 3 (f.gs.map encF) .no] ∧ fitF f := by
 intro n
 induction n using Nat.strongRecOn with
 | ind n ih =>
  intro cs h
  cases n with
  | zero => cases h
  | succ n =>
   obtain ⟨hl,hf⟩ := ty_struct' s40 h
   rw [f40] at hf
   rw [z40] at hl
   obtain ⟨a,b,c,rfl⟩ := three hl
   have k0 := hf (3,0) (by simp)
   have k1 := hf (3,1) (by simp)
   have k2 := hf (38,2) (by simp)
   rw [z3] at k0 k1
   rw [z38] at k2
   obtain ⟨i,e0,_⟩ := ty_int u3 k0
   obtain ⟨j,e1,_⟩ := ty_int u3 k1
   simp at e0 e1
   subst e0; subst e1
   cases n with
   | zero => cases k2
   | succ n =>
    obtain ⟨xs,e2,h2,h3⟩ := ty_slice' u38 k2
    obtain ⟨gs,hgs,hfit⟩ := map_exists encF fitF xs fun x hx => by
     obtain ⟨c',rfl,hc⟩ := h3 x hx
     obtain ⟨f,rfl,hff⟩ := ih n (by omega) hc
     exact ⟨f,by rw [mkV_agg g40,encF_eta],hff⟩
    subst hgs
    rw [z40] at e2
    simp at e2
    subst e2
    refine ⟨.mk i j gs,rfl,?_⟩
    rw [fitF]
    exact ⟨by simpa using h2,fitFs_of hfit⟩
theorem ty125 : ∀ (n : Nat) {cs : List AV},tyOk Pg n 125 cs → ∃ v : Va,cs = [.int .i64 v.n,.sl 3 (v.gs.map encV) .no,.sl 1 (v.ws.map (AV.int .i64)) .no] ∧ fitV v := by
 intro n
 induction n using Nat.strongRecOn with
 | ind n ih =>
  intro cs h
  cases n with
  | zero => cases h
  | succ n =>
   obtain ⟨hl,hf⟩ := ty_struct' s125 h
   rw [f125] at hf
   rw [z125] at hl
   obtain ⟨a,b,c,rfl⟩ := three hl
   have k0 := hf (3,0) (by simp)
   have k1 := hf (41,1) (by simp)
   have k2 := hf (23,2) (by simp)
   rw [z3] at k0
   rw [z41] at k1
   rw [z23] at k2
   obtain ⟨i,e0,_⟩ := ty_int u3 k0
   obtain ⟨ws,e2,hws⟩ := ty23 k2
   simp at e0 e2
   subst e0; subst e2
   cases n with
   | zero => cases k1
   | succ n =>
    obtain ⟨xs,e1,h2,h3⟩ := ty_slice' u41 k1
    obtain ⟨gs,hgs,hfit⟩ := map_exists encV fitV xs fun x hx => by
     obtain ⟨c',rfl,hc⟩ := h3 x hx
     obtain ⟨f,rfl,hff⟩ := ih n (by omega) hc
     exact ⟨f,by rw [mkV_agg g125,encV_eta],hff⟩
    subst hgs
    rw [z125] at e1
    simp at e1
    subst e1
    refine ⟨.mk i gs ws,rfl,?_⟩
    rw [fitV]
    exact ⟨⟨by simpa using h2,hws⟩,fitVs_of hfit⟩
theorem arg43 {a : AV} (h : Arg Pg 43 a) : ∃ s : Sy,a = encY s ∧ fitF s.f ∧ s.m.length ≤ maxLen ∧ ∀ v ∈ s.m,fitV v := by
 obtain ⟨fuel,cs,h1,h2,rfl⟩ := h
 cases fuel with
 | zero => cases h1
 | succ n =>
  obtain ⟨hl,hf⟩ := ty_struct' s43 h1
  rw [f43] at hf
  rw [z43] at hl
  obtain ⟨a,b,c,d,rfl⟩ : ∃ a b c d,cs = [a,b,c,d] := by
   match cs,hl with
   | [a,b,c,d],_ => exact ⟨a,b,c,d,rfl⟩
  have k0 := hf (40,0) (by simp)
  have k1 := hf (41,3) (by simp)
  rw [z40] at k0
  rw [z41] at k1
  obtain ⟨f,e0,hff⟩ := ty40 _ k0
  simp at e0
  obtain ⟨rfl,rfl,rfl⟩ := e0
  cases n with
  | zero => cases k1
  | succ n =>
   obtain ⟨xs,e1,h2',h3⟩ := ty_slice' u41 k1
   obtain ⟨m,hm,hfit⟩ := map_exists encV fitV xs fun x hx => by
    obtain ⟨c',rfl,hc⟩ := h3 x hx
    obtain ⟨v,rfl,hvv⟩ := ty125 _ hc
    exact ⟨v,by rw [mkV_agg g125,encV_eta],hvv⟩
   subst hm
   rw [z125] at e1
   simp at e1
   subst e1
   refine ⟨⟨f,m⟩,by rw [mkV_agg g43]; rfl,hff,by simpa using h2',hfit⟩
end Tab
end Go.Ab
/- Automata: the reference's Right,Letters of words,Accepts; the program's run. -/
namespace Go.Ab.Tab
open Go Go.Ab
set_option maxRecDepth 10000
set_option linter.unusedVariables false
set_option linter.unusedSimpArgs false
def wordOk (k : Nat) (w : List Int) : Bool := w.all fun a => decide (0 ≤ a) && decide (a < k)
theorem l58 (D : Nat) (k : Nat) (w : List Int) (hlen : w.length ≤ maxLen) (S) : ∀ (m i : Nat) (τ ω) (r : AV),i + m = w.length →
  τ 0 = .int .i64 k → τ 7 = encI w → τ 8 = .int .i64 w.length → τ 9 = .int .i64 i → r = .bool (wordOk k (w.drop i)) →
  Rd (Loc Pg Gl) .im (RetQ [.tmp 4] r S) [.lp c58_l0,.blk 0,.c c58_k0] (stF 21 D τ ω S) := by
 intro m
 induction m with
 | zero =>
  intro i τ ω r hi h0 h7 h8 h9 hr
  refine Rd_lpE c58_l0.eq_1 ?_
  obtain rfl : i = w.length := by omega
  rw [List.drop_length,wordOk] at hr
  simp [h0,h7,h8,h9,c58_k0,encI]
  simp [hr]
 | succ m ih =>
  intro i τ ω r hi h0 h7 h8 h9 hr
  refine Rd_lpE c58_l0.eq_1 ?_
  have hlt : i < w.length := by omega
  have hwr := wrap_next hlt hlen
  obtain ⟨a,hx⟩ : ∃ a,w[i] = a := ⟨_,rfl⟩
  rw [List.drop_eq_getElem_cons hlt,hx,wordOk,List.all_cons] at hr
  by_cases h1 : a < 0
  ·rw [decide_eq_false (show ¬ 0 ≤ a by omega),Bool.false_and,Bool.false_and] at hr
   simp [h0,h7,h8,h9,encI,hlt,hx,h1,hr]
  by_cases h2 : (k : Int) ≤ a
  ·rw [decide_eq_false (show ¬ a < k by omega),Bool.and_false,Bool.false_and] at hr
   simp [h0,h7,h8,h9,encI,hlt,hx,h1,h2,hr]
  ·rw [decide_eq_true (show 0 ≤ a by omega),decide_eq_true (show a < k by omega),Bool.true_and,Bool.true_and] at hr
   simp [h0,h7,h8,h9,encI,hlt,hx,h1,h2,hwr]
   refine ih (i + 1) _ _ r (by omega) ?_ ?_ ?_ ?_ hr
   all_goals simp [h0,h7,h8,encI]
theorem spec58 (D k : Nat) (w : List Int) (hlen : w.length ≤ maxLen) : Go.Ab.Loc Pg Gl D 58 [.int .i64 k,encI w] [] (.bool (wordOk k w)) [] := by
 refine loc_rd mixedP tok rfl rfl fun S => ?_
 unfold c58
 generalize hr : AV.bool (wordOk k w) = r
 simp [encI]
 refine l58 D k w hlen S w.length 0 _ _ r (by omega) ?_ ?_ ?_ ?_ (by rw [← hr]; simp)
 all_goals simp [encI]
end Go.Ab.Tab
/- Automata: the program's run of a word. -/
namespace Go.Ab.Tab
open Go Go.Ab
set_option maxRecDepth 10000
set_option linter.unusedVariables false
set_option linter.unusedSimpArgs false
def runB (A : PA) (u : BS) (w : List Int) : BS := w.foldl (fun u a => nextA A u a.toNat) u
def rRun (A : PA) (u : BS) (w : List Int) : AV := if wordOk A.k w then .tup [encS (runB A u w),.bool true] else .tup [encS (0#64,0#64),.bool false]
theorem l85 (D : Nat) (A : PA) (hn : A.n ≤ 100) (hk : A.k ≤ 4) (hrows : A.rows.length = A.n) (hw : ∀ r ∈ A.rows,A.k ≤ r.length) (w : List Int) (hlen : w.length ≤ maxLen) (S) : ∀ (m i : Nat) (u : BS) (τ ω) (r : AV),i + m = w.length →
  τ 0 = encA A → τ 4 = .ptr D 4 1 0 → τ 6 = .ptr D 6 1 0 → τ 10 = encI w → τ 11 = .int .i64 w.length → τ 12 = .int .i64 i → ω 4 = (1,.cells [.int .u64 u.1.toNat,.int .u64 u.2.toNat]) → ω 6 = (1,.cells [.int .u64 0,.int .u64 0]) →
  r = rRun A u (w.drop i) →
  Rd (Loc Pg Gl) .im (RetQ [.cell 6 true 2,.tmp 7] r S) [.lp c85_l0,.blk 0,.c c85_k0] (stF 33 D τ ω S) := by
 intro m
 induction m with
 | zero =>
  intro i u τ ω r hi h0 h4 h6 h10 h11 h12 w4 w6 hr
  refine Rd_lpE c85_l0.eq_1 ?_
  obtain rfl : i = w.length := by omega
  rw [List.drop_length] at hr
  have hr : r = .tup [encS u,.bool true] := hr
  simp [h0,h4,h6,h10,h11,h12,w4,w6,c85_k0,encI]
  simp [hr,encS]
 | succ m ih =>
  intro i u τ ω r hi h0 h4 h6 h10 h11 h12 w4 w6 hr
  refine Rd_lpE c85_l0.eq_1 ?_
  have hlt : i < w.length := by omega
  have hwr := wrap_next hlt hlen
  obtain ⟨a,hx⟩ : ∃ a,w[i] = a := ⟨_,rfl⟩
  rw [List.drop_eq_getElem_cons hlt,hx,rRun,wordOk,List.all_cons] at hr
  by_cases h1 : a < 0
  ·rw [decide_eq_false (show ¬ 0 ≤ a by omega),Bool.false_and,Bool.false_and,if_neg (by simp)] at hr
   simp [h0,h6,h10,h11,h12,w6,encI,hlt,hx,h1,encA]
   simp [hr,encS]
  by_cases h2 : (A.k : Int) ≤ a
  ·rw [decide_eq_false (show ¬ a < A.k by omega),Bool.and_false,Bool.false_and,if_neg (by simp)] at hr
   simp [h0,h6,h10,h11,h12,w6,encI,hlt,hx,h1,h2,encA]
   simp [hr,encS]
  ·rw [decide_eq_true (show 0 ≤ a by omega),decide_eq_true (show a < A.k by omega),Bool.true_and,Bool.true_and] at hr
   obtain ⟨b,rfl⟩ : ∃ b : Nat,a = b := ⟨a.toNat,by omega⟩
   have s1 := spec70 (D + 1) A hn hrows b (fun r hr => by have := hw r hr; omega) u
   have e1 : nxtB A.rows b u A.n 0 (0#64,0#64) = nextA A u b := rfl
   rw [e1] at s1
   simp [h0,h4,h6,h10,h11,h12,w4,w6,encI,hlt,hx,h1,h2,encA]
   refine Rd_call s1 (by simp [encA,encS,h0]) ?_
   simp [encS,h4,w4,h12,hwr]
   refine ih (i + 1) (nextA A u b) _ _ r (by omega) ?_ ?_ ?_ ?_ ?_ ?_ ?_ ?_ hr
   all_goals simp [h0,h4,h6,h10,h11,w6,encI,encA]
theorem spec85 (D : Nat) (A : PA) (hn : A.n ≤ 100) (hk : A.k ≤ 4) (hrows : A.rows.length = A.n) (hw : ∀ r ∈ A.rows,A.k ≤ r.length) (u : BS) (w : List Int) (hlen : w.length ≤ maxLen) : Go.Ab.Loc Pg Gl D 85 [encA A,encS u,encI w] [] (rRun A u w) [] := by
 refine loc_rd mixedP tok rfl rfl fun S => ?_
 unfold c85
 generalize hr : rRun A u w = r
 simp [encA,encS,encI]
 refine l85 D A hn hk hrows hw w hlen S w.length 0 u _ _ r (by omega) ?_ ?_ ?_ ?_ ?_ ?_ ?_ ?_ (by rw [← hr]; simp)
 all_goals simp [encA,encI]
end Go.Ab.Tab
/- Automata: the reference's Verdict (36),and that both agree. -/
namespace Go.Ab.Tab
open Go Go.Ab
set_option maxRecDepth 10000
set_option linter.unusedVariables false
set_option linter.unusedSimpArgs false
end Go.Ab.Tab
