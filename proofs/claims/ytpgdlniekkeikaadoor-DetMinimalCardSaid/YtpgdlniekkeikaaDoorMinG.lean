/- The first word: the iterator is made (111), the distances (112, 113). -/
import Derived.Test.YtpgdlniekkeikaaDoorMinF
import Derived.Test.YtpgdlniekkeikaaDoorMinB
import Derived.Test.YtpgdlniekkeikaaDoorMinB5
namespace Go.Ab.Tab
open Go Go.Ab
set_option maxRecDepth 10000
set_option linter.unusedVariables false
set_option linter.unusedSimpArgs false
theorem spec111 (D : Nat) (A : PA) (s : BS) : Go.Ab.Loc Pg Gl (D + 1) 111 [encA A,encS s,.ptr D 7 1 0] [(D,71,(0,.dead)),(D,72,(0,.dead)),(D,73,(0,.dead))] (.fn 126 [.ptr D 72 1 0,.ptr D 73 1 0,.ptr D 71 1 0])
  [(D,71,(1,.cells [encA A])),(D,72,(1,.cells [.int .u64 s.1.toNat,.int .u64 s.2.toNat])),(D,73,(1,.cells [.ptr D 7 1 0]))] := by
 refine loc_rdN mixedP tok rfl rfl rfl (by simp [AV.upto]) trivial fun S hS => ?_
 have h1 := (hS (D,71,(0,.dead)) (by simp)).2
 have h2 := (hS (D,72,(0,.dead)) (by simp)).2
 have h3 := (hS (D,73,(0,.dead)) (by simp)).2
 simp only at h1 h2 h3
 unfold c111
 simp [encA,encS]
 refine ⟨?s2,[.fn 126 [.ptr D 72 1 0,.ptr D 73 1 0,.ptr D 71 1 0]],?mv,?rv,rfl,?se⟩
 case mv =>
  refine Mv_stF (i := 3) (d' := D) (i' := 71) (by simp; exact ⟨rfl,rfl⟩) h1 (by omega) (by simp) rfl ?_
  refine Mv_stF (i := 4) (d' := D) (i' := 72) (by simp; exact ⟨rfl,rfl⟩) (by simp [updS]; exact h2) (by omega) (by simp) rfl ?_
  refine Mv_stF (i := 5) (d' := D) (i' := 73) (by simp; exact ⟨rfl,rfl⟩) (by simp [updS]; exact h3) (by omega) (by simp) rfl ?_
  exact .nil _
 case rv => simp [rvAll,rvOne,AV.ren,AV.ren1]
 case se =>
  intro d i hd
  simp [upds,encA]
end Go.Ab.Tab
/- The first word: the states that a set reaches (126). -/
namespace Go.Ab.Tab
open Go Go.Ab
set_option maxRecDepth 10000
set_option linter.unusedVariables false
set_option linter.unusedSimpArgs false
abbrev Met := Nat × Int × Nat
def encM (m : Met) : AV := .agg [.int .i64 m.1,.int .i64 m.2.1,.int .i64 m.2.2]
abbrev BP := BS × List Met
def addY (k l : Nat) : List Nat → BP → BP
 | [],p => p
 | y :: ys,p => addY k l ys (if p.1.has y then p else (p.1.or (BS.single y),p.2 ++ [(y,(k : Int),l)]))
def rowA (A : PA) (x l : Nat) : BS := (A.rows[x]?.getD [])[l]?.getD (0#64,0#64)
def stepL (A : PA) (x k : Nat) : Nat → Nat → BP → BP
 | 0,_,p => p
 | j + 1,l,p => stepL A x k j (l + 1) (addY k l (rowA A x l).list p)
def bfs (A : PA) : Nat → Nat → BP → Option (Option Nat × List Met)
 | 0,_,_ => none
 | f + 1,k,p => match p.2[k]? with
  | none => some (none,p.2)
  | some m => if A.F.has m.1 then some (some k,p.2) else bfs A f (k + 1) (stepL A m.1 k A.k 0 p)
theorem addY_len (k l : Nat) : ∀ (ys : List Nat) (p : BP),(addY k l ys p).2.length ≤ p.2.length + ys.length
 | [],p => by simp [addY]
 | y :: ys,p => by
  rw [addY]
  cases p.1.has y with
  | true => have := addY_len k l ys p; simp at this ⊢; omega
  | false => have := addY_len k l ys (p.1.or (BS.single y),p.2 ++ [(y,(k : Int),l)]); simp at this ⊢; omega
theorem addY_pre (k l : Nat) {j : Nat} {q : Met} : ∀ (ys : List Nat) (p : BP),p.2[j]? = some q → (addY k l ys p).2[j]? = some q
 | [],p,h => h
 | y :: ys,p,h => by
  rw [addY]
  cases p.1.has y with
  | true => exact addY_pre k l ys p h
  | false => exact addY_pre k l ys _ (by simp only [Bool.false_eq_true,if_false]; rw [List.getElem?_append_left (List.getElem?_eq_some_iff.1 h).1]; exact h)
def lst (L : List Met) : Ent := (1,.cells [.sl 3 (L.map encM) .tip])
@[simp] theorem encM_one (m : Met) : (encM m).one = false := rfl
@[simp] theorem encM_cells (m : Met) : (encM m).cells = [.int .i64 m.1,.int .i64 m.2.1,.int .i64 m.2.2] := rfl
@[simp] theorem encM_dem (m : Met) : (encM m).dem = encM m := rfl
@[simp] theorem encM_strip (m : Met) : (encM m).strip = encM m := rfl
theorem l126_1 (D k l : Nat) (hk : k ≤ 2 ^ 30) (hl : l ≤ 2 ^ 30) (ys : List Nat) (hys : ∀ y ∈ ys,y < 128) (hlen : ys.length ≤ 128) (S0 : Nat → Nat → Ent) (h73 : S0 D 73 = (1,.cells [.ptr D 7 1 0])) (K : List AI) (Q : St → Prop) (v51 v52 : AV) (aP : AV) (yl : AV) :
  ∀ (m i : Nat) (p : BP) (τ ω),i + m = ys.length → p.2.length + m ≤ 1000000 →
  τ 0 = yl → τ 2 = .ptr D 73 1 0 → τ 3 = aP → τ 5 = .ptr (D + 1) 5 1 0 → τ 8 = .int .i64 k → τ 9 = .int .i64 l → τ 51 = v51 → τ 52 = v52 → τ 71 = .sl 1 (ys.map encN) .no → τ 72 = .int .i64 ys.length → τ 73 = .int .i64 i →
  ω 5 = (1,.cells [.int .u64 p.1.1.toNat,.int .u64 p.1.2.toNat]) →
  (∀ τ' ω',τ' 0 = yl → τ' 2 = .ptr D 73 1 0 → τ' 3 = aP → τ' 5 = .ptr (D + 1) 5 1 0 → τ' 8 = .int .i64 k → τ' 51 = v51 → τ' 52 = v52 → ω' 5 = (1,.cells [.int .u64 (addY k l (ys.drop i) p).1.1.toNat,.int .u64 (addY k l (ys.drop i) p).1.2.toNat]) →
   Rd (Loc Pg Gl) .im Q K (stF 97 (D + 1) τ' ω' (updS S0 D 7 (lst (addY k l (ys.drop i) p).2)))) →
  Rd (Loc Pg Gl) .im Q (.lp c126_l1 :: .blk 6 :: K) (stF 97 (D + 1) τ ω (updS S0 D 7 (lst p.2))) := by
 intro m
 induction m with
 | zero =>
  intro i p τ ω hi hb h0 h2 h3 h5 h8 h9 h51 h52 h71 h72 h73' w5 hend
  refine Rd_lpE c126_l1.eq_1 ?_
  obtain rfl : i = ys.length := by omega
  simp [h72,h73']
  rw [List.drop_length,addY] at hend
  refine hend _ _ ?_ ?_ ?_ ?_ ?_ ?_ ?_ ?_
  all_goals simp [h0,h2,h3,h5,h8,h51,h52,w5]
 | succ m ih =>
  intro i p τ ω hi hb h0 h2 h3 h5 h8 h9 h51 h52 h71 h72 h73' w5 hend
  refine Rd_lpE c126_l1.eq_1 ?_
  have hlt : i < ys.length := by omega
  have hwr : IntKind.i64.wrap ((i : Int) + 1) = ((i + 1 : Nat) : Int) := by rw [← wrap_i64_nat (n := i + 1) (by omega)]; rfl
  obtain ⟨y,hy⟩ : ∃ y,ys[i] = y := ⟨_,rfl⟩
  have hyl : y < 128 := hys y (by rw [← hy]; exact List.getElem_mem hlt)
  rw [List.drop_eq_getElem_cons hlt,hy,addY] at hend
  simp [h5,h71,h72,h73',w5,hlt,hy,encN]
  refine Rd_call (spec94 _ p.1 y hyl) (by simp [encS]) ?_
  cases hb1 : p.1.has y with
  | true =>
   rw [hb1] at hend
   simp [h73',hwr]
   refine ih (i + 1) p _ _ (by omega) (by omega) ?_ ?_ ?_ ?_ ?_ ?_ ?_ ?_ ?_ ?_ ?_ ?_ hend
   all_goals simp [h0,h2,h3,h5,h8,h9,h51,h52,h71,h72,w5,encN]
  | false =>
   rw [hb1] at hend
   simp [h5,w5]
   refine Rd_call (spec101 _ p.1 y hyl) (by simp [encS]) ?_
   have hle : (p.2.length + 1) * 24 ≤ 1099511627776 := by omega
   simp [h2,h5,h8,h9,h73',h73,w5,encS,updS,lst,hle,apartB,hwr,-BitVec.toNat_or]
   have e : ((1,Ob.cells [AV.sl 3 (List.map encM p.2 ++ [AV.agg [.int .i64 y,.int .i64 k,.int .i64 l]]) .tip]) : Ent) = lst (p.2 ++ [(y,(k : Int),l)]) := by simp [lst,encM]
   rw [e]
   refine ih (i + 1) (p.1.or (BS.single y),p.2 ++ [(y,(k : Int),l)]) _ _ (by omega) (by simp; omega) ?_ ?_ ?_ ?_ ?_ ?_ ?_ ?_ ?_ ?_ ?_ ?_ hend
   all_goals simp [h0,h2,h3,h5,h8,h9,h51,h52,h71,h72,w5,encN,hwr]
theorem stepL_len (A : PA) (x k : Nat) : ∀ (j l : Nat) (p : BP),(stepL A x k j l p).2.length ≤ p.2.length + 128 * j
 | 0,l,p => by simp [stepL]
 | j + 1,l,p => by
  rw [stepL]
  have h1 := stepL_len A x k j (l + 1) (addY k l (rowA A x l).list p)
  have h2 := addY_len k l (rowA A x l).list p
  have h3 : (rowA A x l).list.length ≤ 128 := by unfold BS.list; exact Nat.le_trans (List.length_filter_le _ _) (by simp)
  omega
theorem BS.list_lt {s : BS} : ∀ y ∈ s.list,y < 128 := by
 intro y hy
 unfold BS.list at hy
 simpa using (List.mem_filter.1 hy).1
theorem BS.list_len (s : BS) : s.list.length ≤ 128 := by unfold BS.list; exact Nat.le_trans (List.length_filter_le _ _) (by simp)
structure Mem126 (D : Nat) (A : PA) (s : BS) (S0 : Nat → Nat → Ent) : Prop where
 a : S0 D 71 = (1,.cells [encA A])
 s : S0 D 72 = (1,.cells [.int .u64 s.1.toNat,.int .u64 s.2.toNat])
 l : S0 D 73 = (1,.cells [.ptr D 7 1 0])
theorem l126_2 (D : Nat) (A : PA) (s : BS) (hn : A.n ≤ 100) (hk4 : A.k ≤ 4) (hrows : A.rows.length = A.n) (hw : ∀ r ∈ A.rows,A.k ≤ r.length) (k : Nat) (S0 : Nat → Nat → Ent) (hS : Mem126 D A s S0) (x : Nat) (hx : x < A.n) (K : List AI) (Q : St → Prop) (yl : AV) :
  ∀ (m l : Nat) (p : BP) (τ ω),l + m = A.k → k < p.2.length → (∃ q,p.2[k]? = some q ∧ q.1 = x) → p.2.length + 128 * m ≤ 1000000 →
  τ 0 = yl → τ 2 = .ptr D 73 1 0 → τ 3 = .ptr D 71 1 0 → τ 5 = .ptr (D + 1) 5 1 0 → τ 8 = .int .i64 k → τ 51 = .int .i64 A.k → τ 52 = .int .i64 l →
  ω 5 = (1,.cells [.int .u64 p.1.1.toNat,.int .u64 p.1.2.toNat]) →
  (∀ τ' ω',τ' 0 = yl → τ' 2 = .ptr D 73 1 0 → τ' 3 = .ptr D 71 1 0 → τ' 5 = .ptr (D + 1) 5 1 0 → τ' 8 = .int .i64 k → ω' 5 = (1,.cells [.int .u64 (stepL A x k m l p).1.1.toNat,.int .u64 (stepL A x k m l p).1.2.toNat]) →
   Rd (Loc Pg Gl) .im Q K (stF 97 (D + 1) τ' ω' (updS S0 D 7 (lst (stepL A x k m l p).2)))) →
  Rd (Loc Pg Gl) .im Q (.lp c126_l2 :: .blk 4 :: K) (stF 97 (D + 1) τ ω (updS S0 D 7 (lst p.2))) := by
 intro m
 induction m with
 | zero =>
  intro l p τ ω hl hkl hq hb h0 h2 h3 h5 h8 h51 h52 w5 hend
  refine Rd_lpE c126_l2.eq_1 ?_
  obtain rfl : l = A.k := by omega
  simp [h51,h52]
  rw [stepL] at hend
  refine hend _ _ ?_ ?_ ?_ ?_ ?_ ?_
  all_goals simp [h0,h2,h3,h5,h8,w5]
 | succ m ih =>
  intro l p τ ω hl hkl hq hb h0 h2 h3 h5 h8 h51 h52 w5 hend
  refine Rd_lpE c126_l2.eq_1 ?_
  have hlt : l < A.k := by omega
  have hwr : IntKind.i64.wrap ((l : Int) + 1) = ((l + 1 : Nat) : Int) := by rw [← wrap_i64_nat (n := l + 1) (by omega)]; rfl
  obtain ⟨q,hq1,hq2⟩ := hq
  have hql : p.2[k] = q := by rw [List.getElem?_eq_getElem hkl] at hq1; exact Option.some.inj hq1
  have hxr : x < A.rows.length := by omega
  obtain ⟨row,hrow⟩ : ∃ row,A.rows[x] = row := ⟨_,rfl⟩
  have har : l < row.length := by have := hw row (by rw [← hrow]; exact List.getElem_mem hxr); omega
  obtain ⟨c,hc⟩ : ∃ c,row[l] = c := ⟨_,rfl⟩
  have hra : rowA A x l = c := by unfold rowA; rw [List.getElem?_eq_getElem hxr,Option.getD_some,hrow,List.getElem?_eq_getElem har,Option.getD_some,hc]
  rw [stepL,hra] at hend
  simp [h0,h2,h3,h5,h8,h51,h52,w5,hlt,hS.a,hS.l,updS,lst,encA,hkl,hql,hq2,hxr,hrow,har,hc,encS]
  refine Rd_drCall (spec61 _ c) (by simp [encS]) ?_
  simp
  have h3' := BS.list_len c
  have ha := addY_len k l c.list p
  refine l126_1 D k l (by omega) (by omega) c.list BS.list_lt h3' S0 hS.l _ Q (.int .i64 A.k) (.int .i64 l) (.ptr D 71 1 0) yl c.list.length 0 p _ _ (by omega) (by omega) ?_ ?_ ?_ ?_ ?_ ?_ ?_ ?_ ?_ ?_ ?_ ?_ ?_
  case refine_13 =>
   intro τ' ω' g0 g2 g3 g5 g8 g51 g52 v5
   rw [List.drop_zero] at v5 ⊢
   simp [g52,c126_k0,hwr]
   have hp := addY_pre k l c.list p hq1
   refine ih (l + 1) (addY k l c.list p) _ _ (by omega) (List.getElem?_eq_some_iff.1 hp).1 ⟨q,hp,hq2⟩ (by omega) ?_ ?_ ?_ ?_ ?_ ?_ ?_ ?_ hend
   all_goals simp [g0,g2,g3,g5,g8,g51,v5,hwr]
  all_goals simp [h0,h2,h3,h5,h8,h51,h52,w5]
end Go.Ab.Tab
/- The first word: the iterator's contract (126). -/
namespace Go.Ab.Tab
open Go Go.Ab
set_option maxRecDepth 10000
set_option linter.unusedVariables false
set_option linter.unusedSimpArgs false
def MOk (n : Nat) (L : List Met) : Prop := ∀ (j : Nat) q,L[j]? = some q → q.1 < n ∧ -1 ≤ q.2.1 ∧ q.2.1 < (j : Int)
theorem MOk.snoc {n : Nat} {L : List Met} (h : MOk n L) {q : Met} (hq : q.1 < n ∧ -1 ≤ q.2.1 ∧ q.2.1 < (L.length : Int)) : MOk n (L ++ [q]) := by
 intro j q' hj
 rcases Nat.lt_trichotomy j L.length with hl | hl | hl
 ·rw [List.getElem?_append_left hl] at hj; exact h j q' hj
 ·subst hl
  rw [List.getElem?_append_right (Nat.le_refl _)] at hj
  simp at hj; subst hj; exact hq
 ·rw [List.getElem?_append_right (by omega),List.getElem?_eq_none (by simp; omega)] at hj; cases hj
theorem addY_ok {n k l : Nat} : ∀ (ys : List Nat) (p : BP),MOk n p.2 → k < p.2.length → (∀ y ∈ ys,y < n) → MOk n (addY k l ys p).2
 | [],p,h,_,_ => h
 | y :: ys,p,h,hk,hy => by
  rw [addY]
  have hy' : ∀ z ∈ ys,z < n := fun z hz => hy z (by simp [hz])
  cases p.1.has y with
  | true => exact addY_ok ys p h hk hy'
  | false =>
   refine addY_ok ys _ ?_ ?_ hy'
   ·exact h.snoc ⟨hy y (by simp),by simp,by simp; exact hk⟩
   ·simp; omega
theorem addY_ge (k l : Nat) : ∀ (ys : List Nat) (p : BP),p.2.length ≤ (addY k l ys p).2.length
 | [],p => Nat.le_refl _
 | y :: ys,p => by
  rw [addY]
  cases p.1.has y with
  | true => exact addY_ge k l ys p
  | false => have := addY_ge k l ys (p.1.or (BS.single y),p.2 ++ [(y,(k : Int),l)]); simp at this ⊢; omega
theorem stepL_ge (A : PA) (x k : Nat) : ∀ (j l : Nat) (p : BP),p.2.length ≤ (stepL A x k j l p).2.length
 | 0,l,p => Nat.le_refl _
 | j + 1,l,p => Nat.le_trans (addY_ge k l (rowA A x l).list p) (stepL_ge A x k j (l + 1) _)
theorem stepL_ok {A : PA} {n x k : Nat} (hr : ∀ l,∀ y ∈ (rowA A x l).list,y < n) : ∀ (j l : Nat) (p : BP),MOk n p.2 → k < p.2.length → MOk n (stepL A x k j l p).2
 | 0,l,p,h,_ => h
 | j + 1,l,p,h,hk => stepL_ok hr j (l + 1) _ (addY_ok _ p h hk (hr l)) (Nat.lt_of_lt_of_le hk (addY_ge _ _ _ _))
def dlW (D : Nat) (dN : List (Nat × Nat × Ent)) (dF : List Met → Nat → List (Nat × Nat × Ent)) : Option Nat × List Met → List (Nat × Nat × Ent)
 | (none,L) => (D,7,lst L) :: dN
 | (some k,L) => (D,7,lst L) :: dF L k
theorem l126_3 (D : Nat) (A : PA) (s : BS) (hn : A.n ≤ 100) (hk4 : A.k ≤ 4) (hrows : A.rows.length = A.n) (hw : ∀ r ∈ A.rows,A.k ≤ r.length) (hrn : ∀ x l,∀ y ∈ (rowA A x l).list,y < A.n)
  (S0 : Nat → Nat → Ent) (hS : Mem126 D A s S0) (M0 : List (Nat × Nat × Ent)) (hM0 : ∀ m ∈ M0,m.1 = D ∧ m.2.1 ≠ 7 ∧ S0 m.1 m.2.1 = m.2.2) (dF : List Met → Nat → List (Nat × Nat × Ent))
  (hdF : ∀ L k,∀ u ∈ dF L k,(u.1,u.2.1) ∈ M0.map (fun m => (m.1,m.2.1)) ∧ u.2.2.2 ≠ .dead)
  (hyT : ∀ (L : List Met) (k : Nat) q,L[k]? = some q → MOk A.n L → L.length ≤ 1000000 → A.F.has q.1 = false → Go.Ab.Loc Pg Gl (D + 2) yid [.yl D 74 1,encN k,encM q] (M0 ++ [(D,7,lst L)]) (.bool true) [])
  (hyF : ∀ (L : List Met) (k : Nat) q,L[k]? = some q → MOk A.n L → L.length ≤ 1000000 → A.F.has q.1 = true → Go.Ab.Loc Pg Gl (D + 2) yid [.yl D 74 1,encN k,encM q] (M0 ++ [(D,7,lst L)]) (.bool false) (dF L k)) (res : Option Nat × List Met) (dN : List (Nat × Nat × Ent)) (hdN : ∀ e,upds (updS S0 D 7 e) dN = updS S0 D 7 e) :
  ∀ (f k : Nat) (p : BP) (τ ω),bfs A f k p = some res → MOk A.n p.2 → k ≤ p.2.length → p.2.length + 512 * f ≤ 1000000 →
  τ 0 = .yl D 74 1 → τ 2 = .ptr D 73 1 0 → τ 3 = .ptr D 71 1 0 → τ 5 = .ptr (D + 1) 5 1 0 → τ 8 = .int .i64 k →
  ω 5 = (1,.cells [.int .u64 p.1.1.toNat,.int .u64 p.1.2.toNat]) →
  Rd (Loc Pg Gl) .im (RetM [] (.tup []) (D + 1) S0 (dlW D dN dF res)) [.lp c126_l3,.blk 2] (stF 97 (D + 1) τ ω (updS S0 D 7 (lst p.2))) := by
 intro f
 induction f with
 | zero => intro k p τ ω hb; cases hb
 | succ f ih =>
  intro k p τ ω hb hok hk hl h0 h2 h3 h5 h8 w5
  refine Rd_lpE c126_l3.eq_1 ?_
  rw [bfs] at hb
  cases hq : p.2[k]? with
  | none =>
   rw [hq] at hb
   injection hb with hb; subst hb
   have hlen : ¬ k < p.2.length := fun h => by rw [List.getElem?_eq_getElem h] at hq; cases hq
   simp [h2,h8,hS.l,updS,lst,hlen]
   intro d i hd
   have := congrFun (congrFun (hdN (lst p.2)) d) i
   exact this.symm
  | some q =>
   rw [hq] at hb
   simp only at hb
   have hlt := (List.getElem?_eq_some_iff.1 hq).1
   have hqe : p.2[k] = q := (List.getElem?_eq_some_iff.1 hq).2
   obtain ⟨hqn,hqf,hqk⟩ := hok k q hq
   simp [h0,h2,h8,hS.l,updS,lst,hlt,hqe]
   have hMm : ∀ m ∈ M0 ++ [(D,7,lst p.2)],m.1 ≤ D + 1 ∧ (m.1 = D + 1 → m.2.1 < 97) ∧ (if m.1 = D + 1 then if m.2.1 < 97 then ω m.2.1 else (0,.dead) else updS S0 D 7 (lst p.2) m.1 m.2.1) = m.2.2 := by
    intro m hm
    rcases List.mem_append.1 hm with hm | hm
    ·obtain ⟨e1,e2,e3⟩ := hM0 m hm
     refine ⟨by omega,fun e => by omega,?_⟩
     rw [if_neg (by omega),updS,if_neg (fun e => e2 e.2)]; exact e3
    ·rw [List.mem_singleton.1 hm]
     refine ⟨by simp,fun e => by simp at e,?_⟩
     rw [if_neg (by simp),updS,if_pos ⟨rfl,rfl⟩]
   have hp9 : p.2.length ≤ 1000000 := by omega
   cases hf : A.F.has q.1 with
   | true =>
    rw [hf] at hb
    simp only [if_true] at hb
    injection hb with hb; subst hb
    have hd1 : ∀ u ∈ dF p.2 k,u.1 ≠ D + 1 := by
     intro u hu
     obtain ⟨m,hm,he⟩ := List.mem_map.1 (hdF _ _ u hu).1
     injection he with e1 e2
     have := (hM0 m hm).1
     omega
    refine Rd_yldM (hyF p.2 k q hq hok hp9 hf) (by simp) (by simp [encN,encM]) ?_ ?_ ?_
    ·intro m hm
     rw [stF_look]
     exact hMm m hm
    ·intro u hu
     refine ⟨?_,(hdF _ _ u hu).2⟩
     rw [List.map_append]
     exact List.mem_append.2 (.inl (hdF _ _ u hu).1)
    ·rw [stF_ups hd1]
     simp
     intro d i hd; rfl
   | false =>
    rw [hf] at hb
    simp only [Bool.false_eq_true,if_false] at hb
    refine Rd_yldM (hyT p.2 k q hq hok hp9 hf) (by simp) (by simp [encN,encM]) ?_ (by simp) ?_
    ·intro m hm
     rw [stF_look]
     exact hMm m hm
    ·simp [h3,hS.a,encA,updS]
     have hwr : IntKind.i64.wrap ((k : Int) + 1) = ((k + 1 : Nat) : Int) := by rw [← wrap_i64_nat (n := k + 1) (by omega)]; rfl
     have h4 := stepL_len A q.1 k A.k 0 p
     refine l126_2 D A s hn hk4 hrows hw k S0 hS q.1 hqn _ _ (.yl D 74 1) A.k 0 p _ _ (by omega) hlt ⟨q,hq,rfl⟩ (by omega) ?_ ?_ ?_ ?_ ?_ ?_ ?_ ?_ ?_
     case refine_9 =>
      intro τ' ω' g0 g2 g3 g5 g8 v5
      simp [g8,c126_k1,hwr]
      refine ih (k + 1) _ _ _ hb (stepL_ok (hrn q.1) _ _ _ hok hlt) ?_ (by omega) ?_ ?_ ?_ ?_ ?_ ?_
      ·have := stepL_ge A q.1 k A.k 0 p; omega
      all_goals simp [g0,g2,g3,g5,v5,hwr]
     all_goals simp [h0,h2,h3,h5,h8,w5]
def met0 (x : Nat) : Met := (x,-1,0)
theorem l126_0 (D : Nat) (s : BS) (S0 : Nat → Nat → Ent) (h73 : S0 D 73 = (1,.cells [.ptr D 7 1 0])) (K : List AI) (Q : St → Prop) (yl : AV) :
  ∀ (m i : Nat) (L : List Met) (τ ω),i + m = s.list.length → L.length + m ≤ 1000000 →
  τ 0 = yl → τ 2 = .ptr D 73 1 0 → τ 3 = .ptr D 71 1 0 → τ 5 = .ptr (D + 1) 5 1 0 → τ 14 = .sl 1 (s.list.map encN) .no → τ 15 = .int .i64 s.list.length → τ 16 = .int .i64 i →
  ω 5 = (1,.cells [.int .u64 s.1.toNat,.int .u64 s.2.toNat]) →
  (∀ τ' ω',τ' 0 = yl → τ' 2 = .ptr D 73 1 0 → τ' 3 = .ptr D 71 1 0 → τ' 5 = .ptr (D + 1) 5 1 0 → ω' 5 = (1,.cells [.int .u64 s.1.toNat,.int .u64 s.2.toNat]) →
   Rd (Loc Pg Gl) .im Q K (stF 97 (D + 1) τ' ω' (updS S0 D 7 (lst (L ++ (s.list.drop i).map met0))))) →
  Rd (Loc Pg Gl) .im Q (.lp c126_l0 :: .blk 0 :: K) (stF 97 (D + 1) τ ω (updS S0 D 7 (lst L))) := by
 have hl128 := BS.list_len s
 intro m
 induction m with
 | zero =>
  intro i L τ ω hi hb h0 h2 h3 h5 h14 h15 h16 w5 hend
  refine Rd_lpE c126_l0.eq_1 ?_
  obtain rfl : i = s.list.length := by omega
  simp [h15,h16]
  rw [List.drop_length,List.map_nil,List.append_nil] at hend
  refine hend _ _ ?_ ?_ ?_ ?_ ?_
  all_goals simp [h0,h2,h3,h5,w5]
 | succ m ih =>
  intro i L τ ω hi hb h0 h2 h3 h5 h14 h15 h16 w5 hend
  refine Rd_lpE c126_l0.eq_1 ?_
  have hlt : i < s.list.length := by omega
  have hwr : IntKind.i64.wrap ((i : Int) + 1) = ((i + 1 : Nat) : Int) := by rw [← wrap_i64_nat (n := i + 1) (by omega)]; rfl
  obtain ⟨y,hy⟩ : ∃ y,s.list[i] = y := ⟨_,rfl⟩
  rw [List.drop_eq_getElem_cons hlt,hy,List.map_cons] at hend
  have hle : (L.length + 1) * 24 ≤ 1099511627776 := by omega
  simp [h2,h5,h14,h15,h16,h73,hlt,hy,encN,updS,lst,hle,apartB,hwr]
  have e : ((1,Ob.cells [AV.sl 3 (List.map encM L ++ [AV.agg [.int .i64 y,.int .i64 (-1),.int .i64 0]]) .tip]) : Ent) = lst (L ++ [met0 y]) := by simp [lst,encM,met0]
  rw [e]
  refine ih (i + 1) (L ++ [met0 y]) _ _ (by omega) (by simp; omega) ?_ ?_ ?_ ?_ ?_ ?_ ?_ ?_ (by rw [List.append_assoc]; exact hend)
  all_goals simp [h0,h2,h3,h5,h14,h15,w5,encN,hwr]
theorem spec126 (D : Nat) (A : PA) (s : BS) (hn : A.n ≤ 100) (hk4 : A.k ≤ 4) (hrows : A.rows.length = A.n) (hw : ∀ r ∈ A.rows,A.k ≤ r.length) (hrn : ∀ x l,∀ y ∈ (rowA A x l).list,y < A.n) (hsn : ∀ y ∈ s.list,y < A.n)
  (M0 M : List (Nat × Nat × Ent)) (hM0 : ∀ m ∈ M0,m.1 = D ∧ m.2.1 ≠ 7 ∧ m ∈ M) (h71 : (D,71,((1,.cells [encA A]) : Ent)) ∈ M) (h72 : (D,72,((1,.cells [.int .u64 s.1.toNat,.int .u64 s.2.toNat]) : Ent)) ∈ M) (h73 : (D,73,((1,.cells [.ptr D 7 1 0]) : Ent)) ∈ M) (h7 : (D,7,lst []) ∈ M)
  (dF : List Met → Nat → List (Nat × Nat × Ent))
  (hdF : ∀ L k,∀ u ∈ dF L k,(u.1,u.2.1) ∈ M0.map (fun m => (m.1,m.2.1)) ∧ u.2.2.2 ≠ .dead)
  (hyT : ∀ (L : List Met) (k : Nat) q,L[k]? = some q → MOk A.n L → L.length ≤ 1000000 → A.F.has q.1 = false → Go.Ab.Loc Pg Gl (D + 2) yid [.yl D 74 1,encN k,encM q] (M0 ++ [(D,7,lst L)]) (.bool true) [])
  (hyF : ∀ (L : List Met) (k : Nat) q,L[k]? = some q → MOk A.n L → L.length ≤ 1000000 → A.F.has q.1 = true → Go.Ab.Loc Pg Gl (D + 2) yid [.yl D 74 1,encN k,encM q] (M0 ++ [(D,7,lst L)]) (.bool false) (dF L k)) (res : Option Nat × List Met) (dN : List (Nat × Nat × Ent))
  (hdN : ∀ S e,(∀ m ∈ M,S m.1 m.2.1 = m.2.2) → upds (updS S D 7 e) dN = updS S D 7 e) (f : Nat) (hf : f ≤ 1900) (hb : bfs A f 0 (s,s.list.map met0) = some res) :
  Go.Ab.Loc Pg Gl (D + 1) 126 [.yl D 74 1,.ptr D 72 1 0,.ptr D 73 1 0,.ptr D 71 1 0] M (.tup []) (dlW D dN dF res) := by
 refine loc_rdM mixedP tok rfl rfl fun S hS => ?_
 have e71 := (hS _ h71).2
 have e72 := (hS _ h72).2
 have e73 := (hS _ h73).2
 have e7 := (hS _ h7).2
 simp only at e71 e72 e73 e7
 have hSS : S = updS S D 7 (lst []) := (updS_self S D 7 e7).symm
 have hl128 := BS.list_len s
 unfold c126
 simp [e72,encS]
 refine Rd_call (spec61 _ s) (by simp [encS]) ?_
 simp
 rw [hSS]
 refine l126_0 D s S e73 _ _ (.yl D 74 1) s.list.length 0 [] _ _ (by omega) (by simp; omega) ?_ ?_ ?_ ?_ ?_ ?_ ?_ ?_ ?_
 case refine_9 =>
  intro τ' ω' g0 g2 g3 g5 v5
  simp [c126_k2]
  have hok : MOk A.n (s.list.map met0) := by
   intro j q hj
   rw [List.getElem?_map,Option.map_eq_some_iff] at hj
   obtain ⟨x,hx,rfl⟩ := hj
   exact ⟨hsn x (mem_of_get hx),by simp [met0],by simp [met0]; omega⟩
  rw [← hSS]
  refine l126_3 D A s hn hk4 hrows hw hrn S ⟨e71,e72,e73⟩ M0 (fun m hm => ⟨(hM0 m hm).1,(hM0 m hm).2.1,(hS _ (hM0 m hm).2.2).2⟩) dF hdF hyT hyF res dN (fun e => hdN S e fun m hm => (hS m hm).2) f 0 (s,s.list.map met0) _ _ hb hok (by simp) (by simp; omega) ?_ ?_ ?_ ?_ ?_ ?_
  all_goals simp [g0,g2,g3,g5,v5]
 all_goals simp
end Go.Ab.Tab
/- The first word: the distances (112,113). -/
namespace Go.Ab.Tab
open Go Go.Ab
set_option maxRecDepth 10000
set_option linter.unusedVariables false
set_option linter.unusedSimpArgs false
theorem spec113 (D : Nat) (u t : BS) : Go.Ab.Loc Pg Gl D 113 [encS u,encS t] [] (.bool (endsB t u)) [] := by
 refine loc_rd mixedP tok rfl rfl fun S => ?_
 unfold c113
 generalize hr : AV.bool (endsB t u) = r
 unfold encS
 simp [bits_and,bits_or,-BitVec.toNat_or,-BitVec.toNat_and]
 rw [← hr,endsB]
 generalize (u.1 &&& t.1 ||| u.2 &&& t.2) = X
 by_cases h : X = 0#64
 ·subst h; rfl
 ·have : ¬ X.toNat = 0 := fun e => h (BitVec.eq_of_toNat_eq e)
  simp [h,this]
def preR (T : BS) (x : Nat) : List BS → BS → BS
 | [],s => s
 | t :: ts,s => preR T x ts (if endsB T t then s.or (BS.single x) else s)
def preA (A : PA) (T : BS) : Nat → Nat → BS → BS
 | 0,_,s => s
 | j + 1,x,s => preA A T j (x + 1) (preR T x (A.rows[x]?.getD []) s)
def distA (A : PA) : Nat → BS → List BS
 | 0,_ => []
 | i + 1,T => preA A T A.n 0 (0#64,0#64) :: distA A i (preA A T A.n 0 (0#64,0#64))
theorem l112_0 (D : Nat) (L : List BS) (hL : L ≠ []) (hLl : L.length ≤ 1000) (T : BS) (hT : L.getLast hL = T) (x : Nat) (hx : x < 128) (row : List BS) (hrow : row.length ≤ 4) (g4 : Nat) (K : List AI) (Q : St → Prop) (S) (a v16 v17 v22 v23 : AV) : ∀ (m i : Nat) (s : BS) (τ ω),i + m = row.length →
  τ 0 = a → τ 3 = .sl 2 (L.map encS) .tip → τ 4 = .ptr D 4 g4 0 → τ 5 = .int .i64 x → τ 16 = v16 → τ 17 = v17 → τ 22 = v22 → τ 23 = v23 → τ 32 = .sl 2 (row.map encS) .no → τ 33 = .int .i64 row.length → τ 34 = .int .i64 i →
  ω 4 = (g4,.cells [.int .u64 s.1.toNat,.int .u64 s.2.toNat]) →
  (∀ τ' ω',τ' 0 = a → τ' 3 = .sl 2 (L.map encS) .tip → τ' 4 = .ptr D 4 g4 0 → τ' 16 = v16 → τ' 17 = v17 → τ' 22 = v22 → τ' 23 = v23 →
   ω' 4 = (g4,.cells [.int .u64 (preR T x (row.drop i) s).1.toNat,.int .u64 (preR T x (row.drop i) s).2.toNat]) → Rd (Loc Pg Gl) .im Q K (stF 57 D τ' ω' S)) →
  Rd (Loc Pg Gl) .im Q (.lp c112_l0 :: .blk 4 :: K) (stF 57 D τ ω S) := by
 intro m
 induction m with
 | zero =>
  intro i s τ ω hi h0 h3 h4 h5 h16 h17 h22 h23 h32 h33 h34 w4 hend
  refine Rd_lpE c112_l0.eq_1 ?_
  obtain rfl : i = row.length := by omega
  simp [h33,h34]
  rw [List.drop_length,preR] at hend
  refine hend _ _ ?_ ?_ ?_ ?_ ?_ ?_ ?_ ?_
  all_goals simp [h0,h3,h4,h16,h17,h22,h23,w4]
 | succ m ih =>
  intro i s τ ω hi h0 h3 h4 h5 h16 h17 h22 h23 h32 h33 h34 w4 hend
  refine Rd_lpE c112_l0.eq_1 ?_
  have hlt : i < row.length := by omega
  have hwr : IntKind.i64.wrap ((i : Int) + 1) = ((i + 1 : Nat) : Int) := by rw [← wrap_i64_nat (n := i + 1) (by omega)]; rfl
  obtain ⟨y,hy⟩ : ∃ y,row[i] = y := ⟨_,rfl⟩
  rw [List.drop_eq_getElem_cons hlt,hy,preR] at hend
  have hlp : 0 < L.length := by cases L with | nil => exact absurd rfl hL | cons _ _ => simp
  have hwl : IntKind.i64.wrap ((L.length : Int) - 1) = ((L.length - 1 : Nat) : Int) := by rw [← wrap_i64_nat (n := L.length - 1) (by omega)]; congr 1; omega
  have hll : L.length - 1 < L.length := by omega
  have hT' : L[L.length - 1] = T := by rw [← hT,List.getLast_eq_getElem]
  have e1 : ¬ ((L.length : Int) - 1 < 0) := by omega
  simp [h3,h4,h5,h32,h33,h34,w4,hlt,hy,encS,hwl,hll,hT',hlp]
  refine Rd_drCall (spec113 _ y T) (by simp [encS]) ?_
  cases hb : endsB T y with
  | false =>
   rw [hb] at hend
   simp [h34,hwr]
   refine ih (i + 1) s _ _ (by omega) ?_ ?_ ?_ ?_ ?_ ?_ ?_ ?_ ?_ ?_ ?_ ?_ hend
   all_goals simp [h0,h3,h4,h5,h16,h17,h22,h23,h32,h33,w4,encS]
  | true =>
   rw [hb] at hend
   simp [h4,h5,h34,w4]
   refine Rd_call (spec101 _ s x hx) (by simp [encS]) ?_
   simp [h4,h34,w4,encS,hwr,-BitVec.toNat_or]
   refine ih (i + 1) (s.or (BS.single x)) _ _ (by omega) ?_ ?_ ?_ ?_ ?_ ?_ ?_ ?_ ?_ ?_ ?_ ?_ hend
   all_goals simp [h0,h3,h4,h5,h16,h17,h22,h23,h32,h33,w4,encS]
theorem l112_1 (D : Nat) (A : PA) (hn : A.n ≤ 100) (hrows : A.rows.length = A.n) (hr4 : ∀ r ∈ A.rows,r.length ≤ 4) (L : List BS) (hL : L ≠ []) (hLl : L.length ≤ 1000) (T : BS) (hT : L.getLast hL = T) (g4 : Nat) (K : List AI) (Q : St → Prop) (S) (v16 v17 : AV) : ∀ (m x : Nat) (s : BS) (τ ω),x + m = A.n →
  τ 0 = encA A → τ 3 = .sl 2 (L.map encS) .tip → τ 4 = .ptr D 4 g4 0 → τ 16 = v16 → τ 17 = v17 → τ 22 = .int .i64 A.n → τ 23 = .int .i64 x →
  ω 4 = (g4,.cells [.int .u64 s.1.toNat,.int .u64 s.2.toNat]) →
  (∀ τ' ω',τ' 0 = encA A → τ' 3 = .sl 2 (L.map encS) .tip → τ' 4 = .ptr D 4 g4 0 → τ' 16 = v16 → τ' 17 = v17 →
   ω' 4 = (g4,.cells [.int .u64 (preA A T m x s).1.toNat,.int .u64 (preA A T m x s).2.toNat]) → Rd (Loc Pg Gl) .im Q K (stF 57 D τ' ω' S)) →
  Rd (Loc Pg Gl) .im Q (.lp c112_l1 :: .blk 2 :: K) (stF 57 D τ ω S) := by
 intro m
 induction m with
 | zero =>
  intro x s τ ω hi h0 h3 h4 h16 h17 h22 h23 w4 hend
  refine Rd_lpE c112_l1.eq_1 ?_
  obtain rfl : x = A.n := by omega
  simp [h22,h23]
  rw [preA] at hend
  refine hend _ _ ?_ ?_ ?_ ?_ ?_ ?_
  all_goals simp [h0,h3,h4,h16,h17,w4]
 | succ m ih =>
  intro x s τ ω hi h0 h3 h4 h16 h17 h22 h23 w4 hend
  refine Rd_lpE c112_l1.eq_1 ?_
  have hlt : x < A.n := by omega
  have hwr : IntKind.i64.wrap ((x : Int) + 1) = ((x + 1 : Nat) : Int) := by rw [← wrap_i64_nat (n := x + 1) (by omega)]; rfl
  have hxr : x < A.rows.length := by omega
  obtain ⟨row,hrow⟩ : ∃ row,A.rows[x] = row := ⟨_,rfl⟩
  rw [preA,List.getElem?_eq_getElem hxr,Option.getD_some,hrow] at hend
  simp [h0,h22,h23,hlt,hxr,hrow,encA]
  refine l112_0 D L hL hLl T hT x (by omega) row (hr4 row (by rw [← hrow]; exact List.getElem_mem hxr)) g4 _ Q S (encA A) v16 v17 (.int .i64 A.n) (.int .i64 x) row.length 0 s _ _ (by omega) ?_ ?_ ?_ ?_ ?_ ?_ ?_ ?_ ?_ ?_ ?_ ?_ ?_
  case refine_13 =>
   intro τ' ω' g0 g3 g4' g16 g17 g22 g23 v4
   rw [List.drop_zero] at v4
   simp [g23,c112_k0,hwr]
   refine ih (x + 1) _ _ _ (by omega) ?_ ?_ ?_ ?_ ?_ ?_ ?_ v4 hend
   all_goals simp [g0,g3,g4',g16,g17,g22,hwr]
  all_goals simp [h0,h3,h4,h16,h17,h22,h23,w4,encA]
theorem l112_2 (D : Nat) (A : PA) (hn : A.n ≤ 100) (hrows : A.rows.length = A.n) (hr4 : ∀ r ∈ A.rows,r.length ≤ 4) (S) : ∀ (m i : Nat) (L : List BS) (hL : L ≠ []) (τ ω) (r : AV),i + m = A.n → L.length + m ≤ 1000 →
  τ 0 = encA A → τ 3 = .sl 2 (L.map encS) .tip → τ 16 = .int .i64 A.n → τ 17 = .int .i64 i →
  r = .sl 2 ((L ++ distA A m (L.getLast hL)).map encS) .no →
  Rd (Loc Pg Gl) .im (RetQ [.tmp 2] r S) [.lp c112_l2,.blk 0,.c c112_k3] (stF 57 D τ ω S) := by
 intro m
 induction m with
 | zero =>
  intro i L hL τ ω r hi hb h0 h3 h16 h17 hr
  refine Rd_lpE c112_l2.eq_1 ?_
  obtain rfl : i = A.n := by omega
  rw [distA,List.append_nil] at hr
  simp [h3,h16,h17,c112_k3,hr]
 | succ m ih =>
  intro i L hL τ ω r hi hb h0 h3 h16 h17 hr
  refine Rd_lpE c112_l2.eq_1 ?_
  have hlt : i < A.n := by omega
  have hwr : IntKind.i64.wrap ((i : Int) + 1) = ((i + 1 : Nat) : Int) := by rw [← wrap_i64_nat (n := i + 1) (by omega)]; rfl
  rw [distA] at hr
  simp [h0,h16,h17,hlt,encA]
  refine l112_1 D A hn hrows hr4 L hL (by omega) _ rfl ((ω 4).1 + 1) _ _ S (.int .i64 A.n) (.int .i64 i) A.n 0 (0#64,0#64) _ _ (by omega) ?_ ?_ ?_ ?_ ?_ ?_ ?_ ?_ ?_
  case refine_9 =>
   intro τ' ω' g0 g3 g4' g16 g17 v4
   have hle : (L.length + 1) * 16 ≤ 1099511627776 := by omega
   simp [g3,g4',g17,v4,c112_k1,c112_k2,hwr,hle]
   generalize preA A (L.getLast hL) A.n 0 (0#64,0#64) = X at hr v4
   refine ih (i + 1) (L ++ [X]) (by simp) _ _ r (by omega) (by simp; omega) ?_ ?_ ?_ ?_ (by rw [hr]; simp)
   all_goals simp [g0,g16,hwr,encS]
  all_goals simp [h0,h3,h16,h17,encA]
theorem spec112 (D : Nat) (A : PA) (hn : A.n ≤ 100) (hrows : A.rows.length = A.n) (hr4 : ∀ r ∈ A.rows,r.length ≤ 4) : Go.Ab.Loc Pg Gl D 112 [encA A] [] (.sl 2 ((A.F :: distA A A.n A.F).map encS) .no) [] := by
 refine loc_rd mixedP tok rfl rfl fun S => ?_
 unfold c112
 generalize hr : AV.sl 2 ((A.F :: distA A A.n A.F).map encS) .no = r
 simp [encA,encS]
 refine l112_2 D A hn hrows hr4 S A.n 0 [A.F] (by simp) _ _ r (by omega) (by simp; omega) ?_ ?_ ?_ ?_ (by rw [← hr]; rfl)
 all_goals simp [encA,encS]
end Go.Ab.Tab
/- The first word: the rounds of the loop over the iterator (in 92). -/
namespace Go.Ab.Tab
open Go Go.Ab
set_option maxRecDepth 10000
set_option linter.unusedVariables false
set_option linter.unusedSimpArgs false
def lenM (L : List Met) : Nat → Nat → Nat
 | 0,_ => 0
 | f + 1,k => match L[k]? with
  | some q => if q.2.1 < 0 then 0 else lenM L f q.2.1.toNat + 1
  | none => 0
theorem finL_busy {ro : Loop} (h1 : ro.state = .ready) (h2 : ro.pending = none) : Go.Ab.finL none (busyL ro) = ro := by
 cases ro; simp_all [Go.Ab.finL,busyL]
@[simp] theorem stF_out (n D : Nat) (τ ω S) (id : Nat) : (stF n D τ ω S).out id = stF n (D + 1 + id) τ ω S := rfl
theorem l92_0 (D n : Nat) (L : List Met) (hL : MOk n L) (hLl : L.length ≤ 1000000) (Sb : Nat → Nat → Ent) (h7 : Sb D 7 = lst L) (Q : St → Prop) : ∀ (f at_ c : Nat) (τ ω),at_ < f → at_ < L.length → c + f ≤ 2000001 →
  τ 6 = .ptr D 6 1 0 → τ 7 = .ptr D 7 1 0 → τ 10 = .int .i64 at_ →
  (∀ τ' ω',Q (stF 77 (D + 2 + 1) τ' ω' (updS Sb D 6 (1,.cells [.int .i64 ((c + lenM L f at_ : Nat) : Int)])))) →
  Rd (Loc Pg Gl) .rn Q [.lp c92_l0,.blk 2,.c c92_k0,.blk 1] (stF 77 (D + 2) τ ω (updS Sb D 6 (1,.cells [.int .i64 (c : Int)]))) := by
 intro f
 induction f with
 | zero => intro a c τ ω h; omega
 | succ f ih =>
  intro a c τ ω haf hal hc h6 h7' h10 hend
  refine Rd_lpE c92_l0.eq_1 ?_
  obtain ⟨q,hq⟩ : ∃ q,L[a]? = some q := ⟨_,List.getElem?_eq_getElem hal⟩
  have hqe : L[a] = q := (List.getElem?_eq_some_iff.1 hq).2
  obtain ⟨hq1,hq2,hq3⟩ := hL a q hq
  rw [lenM,hq] at hend
  simp only at hend
  by_cases hn : q.2.1 < 0
  ·have e : ¬ 0 ≤ q.2.1 := by omega
   rw [if_pos hn] at hend
   simp [h7',h10,h7,lst,updS,hal,hqe,e,c92_k0]
   exact hend _ _
  ·have e : 0 ≤ q.2.1 := by omega
   rw [if_neg hn] at hend
   obtain ⟨b,hb⟩ : ∃ b : Nat,q.2.1 = b := ⟨q.2.1.toNat,by omega⟩
   have hwr : IntKind.i64.wrap ((c : Int) + 1) = ((c + 1 : Nat) : Int) := by rw [← wrap_i64_nat (n := c + 1) (by omega)]; rfl
   simp [h6,h7',h10,h7,lst,updS,hal,hqe,e,hb,hwr]
   refine ih b (c + 1) _ _ (by omega) (by omega) (by omega) ?_ ?_ ?_ (fun τ' ω' => ?_)
   case refine_4 =>
    have := hend τ' ω'
    rw [hb,Int.toNat_natCast,show c + (lenM L f b + 1) = c + 1 + lenM L f b by omega] at this
    exact this
   all_goals simp [h6,h7']
section
variable (D : Nat) (A : PA) (τ0 : Nat → AV) (h2 : τ0 2 = .ptr D 2 1 0) (h6 : τ0 6 = .ptr D 6 1 0) (h7 : τ0 7 = .ptr D 7 1 0) (ro : Loop) (hst : ro.state = .ready) (hpe : ro.pending = none) (hps : ro.params.toList = [19,20])
 (hpre : comp Pg Gl Lx ro.assign = some c92_p0) (hbody : comp Pg Gl Lx ro.body = some c92_r0)
def ts92 : List AV := (List.range 77).map fun t => (τ0 t).strip
def m92 : List (Nat × Nat × Ent) := [(D,74,(1,.lp ro (ts92 τ0))),(D,2,(1,.cells [encA A])),(D,6,(1,.cells [.int .i64 (-1)]))]
def dF92 (L : List Met) (k : Nat) : List (Nat × Nat × Ent) := [(D,6,(1,.cells [.int .i64 (lenM L (k + 1) k : Nat)])),(D,74,(1,.lp (Go.Ab.finL (some 0) (busyL ro)) (ts92 τ0)))]
include h2 h6 h7 hst hpe hps hpre hbody in
theorem round92 (hn : A.n ≤ 100) (L : List Met) (k : Nat) (q : Met) (hq : L[k]? = some q) (hL : MOk A.n L) (hLl : L.length ≤ 1000000) :
  Go.Ab.Loc Pg Gl (D + 2) yid [.yl D 74 1,encN k,encM q] (m92 D A τ0 ro ++ [(D,7,lst L)]) (.bool (!A.F.has q.1)) (if A.F.has q.1 then dF92 D τ0 ro L k else []) := by
 obtain ⟨jump,hj⟩ : ∃ jump : Option Nat,jump = if A.F.has q.1 then some 0 else none := ⟨_,rfl⟩
 have hjn : (!A.F.has q.1) = jump.isNone := by rw [hj]; cases A.F.has q.1 <;> rfl
 rw [hjn]
 have hal : k < L.length := (List.getElem?_eq_some_iff.1 hq).1
 have hqe : L[k] = q := (List.getElem?_eq_some_iff.1 hq).2
 have hpz : ro.params.size = 2 := by rw [← Array.length_toList,hps]; rfl
 refine round_loc (L := Lx) (D0 := D) (i := 74) (g := 1) (ro := ro) (ts := ts92 τ0) (pre := c92_p0) (body := c92_r0) (n := 77) mixedP (by omega) (by simp [m92]) hst hpre hbody (by rw [hpz]; rfl) ?_ ?_
 ·intro b hb
  rw [hps,ts92,roundT_stF] at hb
  obtain ⟨t,_,rfl⟩ := List.mem_map.1 hb
  simp only [List.zip_cons_cons,List.zip_nil_right,List.foldl_cons,List.foldl_nil,upd]
  split
  ·trivial
  ·split
   ·trivial
   ·exact AV.dull_strip _
 intro S hS
 have s74 := (hS (D,74,(1,.lp ro (ts92 τ0))) (by simp [m92])).2
 have s2 := (hS (D,2,(1,.cells [encA A])) (by simp [m92])).2
 have s6 := (hS (D,6,(1,.cells [.int .i64 (-1)])) (by simp [m92])).2
 have s7 := (hS (D,7,lst L) (by simp)).2
 simp only at s74 s2 s6 s7
 rw [hps,ts92,round_start]
 refine RunW_rn ?_
 rw [stF_D]
 simp [c92_p0,encN,encM]
 refine .inl ⟨rfl,rfl,s74,?_⟩
 generalize hdl : (if A.F.has q.1 = true then dF92 D τ0 ro L k else []) = dl
 generalize hts : List.map (fun t => (τ0 t).strip) (List.range 77) = ts
 have hts' : ts92 τ0 = ts := hts
 rw [hts'] at s74
 show RunW _ _ _ (stF 77 (D + 2) _ _ (updS S D 74 (1,.lp (busyL ro) ts)))
 refine RunW_rn ?_
 rw [stF_D]
 unfold c92_r0
 unfold encA at s2
 simp [h2,h6,h7,updS,s2]
 refine Rd_drCall (spec94 _ A.F q.1 (by have := (hL k q hq).1; omega)) (by simp [encS]) ?_
 cases hf : A.F.has q.1 with
 | false =>
  rw [hf] at hdl hj
  simp only [Bool.false_eq_true,if_false] at hdl hj
  simp
  refine .inl ⟨rfl,?_⟩
  rw [hj,← hdl]
  refine ⟨rfl,by simp [stF_S],fun d j hd => ?_⟩
  rw [stF_S,updS_twice,finL_busy hst hpe,updS_self _ _ _ s74]
  rfl
 | true =>
  rw [hf] at hdl hj
  simp only [if_true] at hdl hj
  simp [h6,updS,s6]
  refine l92_0 D A.n L hL hLl (updS S D 74 (1,.lp (busyL ro) ts)) (by simp [updS,s7]) _ (k + 1) k 0 _ _ (by omega) hal (by omega) ?_ ?_ ?_ (fun τ' ω' => ?_)
  case refine_4 =>
   refine .inr ⟨0,rfl,?_⟩
   rw [hj,← hdl]
   refine ⟨rfl,by show updS _ _ _ _ _ _ = _; simp [updS],fun d j hd => ?_⟩
   show updS (updS (updS S D 74 (1,.lp (busyL ro) ts)) D 6 _) D 74 _ d j = _
   simp only [dF92,upds,List.foldl_cons,List.foldl_nil,hts',Nat.zero_add]
   simp only [updS]
   by_cases e1 : d = D ∧ j = 74
   ·rw [if_pos e1,if_pos e1]
   ·rw [if_neg e1,if_neg e1,if_neg e1]
  all_goals simp [h6,h7]
end
end Go.Ab.Tab
/- The first word: the program's least (92). -/
namespace Go.Ab.Tab
open Go Go.Ab
set_option maxRecDepth 10000
set_option linter.unusedVariables false
set_option linter.unusedSimpArgs false
def findL (A : PA) (N s : BS) : Nat → Nat → Option Nat
 | 0,_ => none
 | j + 1,l => if endsB N (nextA A s l) then some l else findL A N s j (l + 1)
def wordL (A : PA) (near : List BS) : Nat → BS → List Nat
 | 0,_ => []
 | i + 1,s => match findL A (near[i]?.getD (0#64,0#64)) s A.k 0 with
  | some l => l :: wordL A near i (nextA A s l)
  | none => wordL A near i s
def nearA (A : PA) : List BS := A.F :: distA A A.n A.F
def leastR (A : PA) (s : BS) : Option Nat × List Met → Option (List Nat)
 | (none,_) => none
 | (some k,L) => some (wordL A (nearA A) (lenM L (k + 1) k) s)
def rLeast : Option (List Nat) → AV
 | none => .tup [.sl 1 [] .no,.bool false]
 | some w => .tup [.sl 1 (w.map encN) .no,.bool true]
theorem l92_1 (D : Nat) (A : PA) (hn : A.n ≤ 100) (hk4 : A.k ≤ 4) (hrows : A.rows.length = A.n) (hw : ∀ r ∈ A.rows,A.k ≤ r.length) (near : List BS) (i : Nat) (hi : i < near.length) (hil : near.length ≤ 1000) (s : BS) (w : List Nat) (K : List AI) (Q : St → Prop) (S) : ∀ (m l : Nat) (τ ω),l + m = A.k → w.length ≤ 1000 →
  τ 2 = .ptr D 2 1 0 → τ 3 = .ptr D 3 1 0 → τ 11 = .sl 2 (near.map encS) .no → τ 12 = .sl 1 (w.map encN) .tip → τ 13 = .int .i64 ((i + 1 : Nat) : Int) → τ 55 = .int .i64 A.k → τ 56 = .int .i64 l →
  ω 2 = (1,.cells [encA A]) → ω 3 = (1,.cells [.int .u64 s.1.toNat,.int .u64 s.2.toNat]) →
  (∀ τ' ω' s' w',(match findL A (near[i]?.getD (0#64,0#64)) s m l with | some l => s' = nextA A s l ∧ w' = w ++ [l] | none => s' = s ∧ w' = w) → τ' 2 = .ptr D 2 1 0 → τ' 3 = .ptr D 3 1 0 → τ' 11 = .sl 2 (near.map encS) .no → τ' 12 = .sl 1 (w'.map encN) .tip → τ' 13 = .int .i64 ((i + 1 : Nat) : Int) →
   ω' 2 = (1,.cells [encA A]) → ω' 3 = (1,.cells [.int .u64 s'.1.toNat,.int .u64 s'.2.toNat]) → Rd (Loc Pg Gl) .im Q K (stF 77 D τ' ω' S)) →
  Rd (Loc Pg Gl) .im Q (.lp c92_l1 :: .blk 6 :: K) (stF 77 D τ ω S) := by
 intro m
 induction m with
 | zero =>
  intro l τ ω hl hwl h2 h3 h11 h12 h13 h55 h56 w2 w3 hend
  refine Rd_lpE c92_l1.eq_1 ?_
  obtain rfl : l = A.k := by omega
  simp [h55,h56]
  refine hend _ _ s w ⟨rfl,rfl⟩ ?_ ?_ ?_ ?_ ?_ ?_ ?_
  all_goals simp [h2,h3,h11,h12,h13,w2,w3]
 | succ m ih =>
  intro l τ ω hl hwl h2 h3 h11 h12 h13 h55 h56 w2 w3 hend
  refine Rd_lpE c92_l1.eq_1 ?_
  have hlt : l < A.k := by omega
  have hwr : IntKind.i64.wrap ((l : Int) + 1) = ((l + 1 : Nat) : Int) := by rw [← wrap_i64_nat (n := l + 1) (by omega)]; rfl
  have s1 := spec70 (D + 1) A hn hrows l (fun r hr => by have := hw r hr; omega) s
  have e1 : nxtB A.rows l s A.n 0 (0#64,0#64) = nextA A s l := rfl
  rw [e1] at s1
  obtain ⟨N,hN⟩ : ∃ N,near[i] = N := ⟨_,rfl⟩
  rw [findL,List.getElem?_eq_getElem hi,Option.getD_some,hN] at hend
  rw [List.getElem?_eq_getElem hi,Option.getD_some,hN] at ih
  have hwi : IntKind.i64.wrap (i : Int) = (i : Int) := wrap_i64_nat (by omega)
  unfold encA at w2
  simp [h2,h3,h55,h56,w2,w3,hlt]
  refine Rd_call s1 (by simp [encA,encS]) ?_
  obtain ⟨t,ht⟩ : ∃ t,nextA A s l = t := ⟨_,rfl⟩
  rw [ht] at hend ⊢
  simp [h11,h13,encS,hwi,hi,hN]
  refine Rd_drCall (spec113 _ t N) (by simp [encS]) ?_
  cases hb : endsB N t with
  | false =>
   rw [hb] at hend
   simp only [Bool.false_eq_true,if_false] at hend
   simp [h56,hwr]
   refine ih (l + 1) _ _ (by omega) hwl ?_ ?_ ?_ ?_ ?_ ?_ ?_ ?_ ?_ hend
   all_goals simp [h2,h3,h11,h12,h13,h55,w2,w3,encA,encS]
  | true =>
   rw [hb] at hend
   simp only [if_true] at hend
   have hle : (w.length + 1) * 8 ≤ 1099511627776 := by omega
   simp [h3,h12,w3,hle]
   refine hend _ _ t (w ++ [l]) ⟨ht.symm,rfl⟩ ?_ ?_ ?_ ?_ ?_ ?_ ?_
   all_goals simp [h2,h3,h11,h13,w2,w3,encA,encS,encN]
theorem l92_2 (D : Nat) (A : PA) (hn : A.n ≤ 100) (hk4 : A.k ≤ 4) (hrows : A.rows.length = A.n) (hw : ∀ r ∈ A.rows,A.k ≤ r.length) (near : List BS) (hil : near.length ≤ 1000) (S) : ∀ (m : Nat) (s : BS) (w : List Nat) (τ ω) (r : AV),m ≤ near.length → w.length + m ≤ 1000 →
  τ 2 = .ptr D 2 1 0 → τ 3 = .ptr D 3 1 0 → τ 11 = .sl 2 (near.map encS) .no → τ 12 = .sl 1 (w.map encN) .tip → τ 13 = .int .i64 m →
  ω 2 = (1,.cells [encA A]) → ω 3 = (1,.cells [.int .u64 s.1.toNat,.int .u64 s.2.toNat]) → r = .tup [.sl 1 ((w ++ wordL A near m s).map encN) .no,.bool true] →
  Rd (Loc Pg Gl) .im (RetQ [.tmp 4,.tmp 5] r S) [.lp c92_l2,.blk 4,.c c92_k2] (stF 77 D τ ω S) := by
 intro m
 induction m with
 | zero =>
  intro s w τ ω r hm hl h2 h3 h11 h12 h13 w2 w3 hr
  refine Rd_lpE c92_l2.eq_1 ?_
  rw [wordL,List.append_nil] at hr
  simp [h12,h13,c92_k2,hr]
 | succ m ih =>
  intro s w τ ω r hm hl h2 h3 h11 h12 h13 w2 w3 hr
  refine Rd_lpE c92_l2.eq_1 ?_
  rw [wordL] at hr
  have hpos : (0 : Int) < ((m + 1 : Nat) : Int) := by omega
  have hpos' : (0 : Int) < (m : Int) + 1 := by omega
  have hwi : IntKind.i64.wrap (m : Int) = (m : Int) := wrap_i64_nat (by omega)
  have w2' := w2
  unfold encA at w2'
  simp [h2,h13,w2',hpos']
  refine l92_1 D A hn hk4 hrows hw near m (by omega) hil s w _ _ S A.k 0 _ _ (by omega) (by omega) ?_ ?_ ?_ ?_ ?_ ?_ ?_ ?_ ?_ ?_
  case refine_10 =>
   intro τ' ω' s' w' hs g2 g3 g11 g12 g13 v2 v3
   simp [g13,c92_k1,hwi]
   cases hf : findL A (near[m]?.getD (0#64,0#64)) s A.k 0 with
   | none =>
    rw [hf] at hs hr
    obtain ⟨rfl,rfl⟩ := hs
    refine ih s' w' _ _ r (by omega) (by omega) ?_ ?_ ?_ ?_ ?_ v2 v3 hr
    all_goals simp [g2,g3,g11,g12,hwi]
   | some l =>
    rw [hf] at hs hr
    obtain ⟨rfl,rfl⟩ := hs
    refine ih (nextA A s l) (w ++ [l]) _ _ r (by omega) (by simp; omega) ?_ ?_ ?_ ?_ ?_ v2 v3 (by rw [hr]; simp)
    all_goals simp [g2,g3,g11,g12,hwi]
  all_goals simp [h2,h3,h11,h12,h13,w2,w3]
@[simp] theorem encA_dem (A : PA) : (encA A).dem = encA A := rfl
@[simp] theorem encA_dem1 (A : PA) : (encA A).dem1 = encA A := rfl
@[simp] theorem encA_cells (A : PA) : (encA A).cells = [encA A] := rfl
@[simp] theorem encA_one (A : PA) : (encA A).one = true := rfl
@[simp] theorem encA_strip (A : PA) : (encA A).strip = encA A := rfl
@[simp] theorem encA_var1 (A : PA) : (encA A).var1 = encA A := rfl
@[simp] theorem encA_left (A : PA) (τ : Nat → AV) (i : Nat) : left τ i (encA A) = τ := rfl
theorem distA_len (A : PA) : ∀ i T,(distA A i T).length = i
 | 0,_ => rfl
 | i + 1,T => by rw [distA,List.length_cons,distA_len A i]
theorem spec92 (D : Nat) (A : PA) (hn : A.n ≤ 100) (hk4 : A.k ≤ 4) (hrows : A.rows.length = A.n) (hw : ∀ r ∈ A.rows,A.k ≤ r.length) (hr4 : ∀ r ∈ A.rows,r.length ≤ 4) (hrn : ∀ x l,∀ y ∈ (rowA A x l).list,y < A.n) (s : BS) (hsn : ∀ y ∈ s.list,y < A.n)
  (f : Nat) (hf : f ≤ 1900) (res : Option Nat × List Met) (hb : bfs A f 0 (s,s.list.map met0) = some res) (hlen : ∀ k,res.1 = some k → lenM res.2 (k + 1) k ≤ A.n) :
  Go.Ab.Loc Pg Gl D 92 [encA A,encS s] [] (rLeast (leastR A s res)) [] := by
 refine loc_rdR mixedP tok rfl rfl fun S hS => ?_
 unfold c92
 refine .seq (RunW_pre (k1 := [_]) ?_)
 simp [encS]
 refine ⟨rfl,.seq (RunW_pre (k1 := [_]) ?_)⟩
 simp
 refine ⟨rfl,.seq (RunW_pre (k1 := [_]) ?_)⟩
 simp
 refine ⟨rfl,.seq (.seq (RunW_pre (k1 := [_]) ?_))⟩
 simp
 refine Rd_callM (spec111 D A s) (by simp [encS]) (by simp) (by simp) ?_
 simp
 refine ⟨rfl,.block (.stop ?_)⟩
 generalize hτ : upd _ 18 _ = τ0
 generalize hω : upd _ 73 _ = ω0
 have t2 : τ0 2 = .ptr D 2 1 0 := by rw [← hτ]; simp
 have t3 : τ0 3 = .ptr D 3 1 0 := by rw [← hτ]; simp
 have t6 : τ0 6 = .ptr D 6 1 0 := by rw [← hτ]; simp
 have t7 : τ0 7 = .ptr D 7 1 0 := by rw [← hτ]; simp
 have t18 : τ0 18 = .fn 126 [.ptr D 72 1 0,.ptr D 73 1 0,.ptr D 71 1 0] := by rw [← hτ]; simp
 have w2 : ω0 2 = (1,.cells [encA A]) := by rw [← hω]; simp
 have w3 : ω0 3 = (1,.cells [.int .u64 s.1.toNat,.int .u64 s.2.toNat]) := by rw [← hω]; simp
 have w6 : ω0 6 = (1,.cells [.int .i64 (-1)]) := by rw [← hω]; simp
 have w7 : ω0 7 = lst [] := by rw [← hω]; simp [lst]
 have w71 : ω0 71 = (1,.cells [encA A]) := by rw [← hω]; simp
 have w72 : ω0 72 = (1,.cells [.int .u64 s.1.toNat,.int .u64 s.2.toNat]) := by rw [← hω]; simp
 have w73 : ω0 73 = (1,.cells [.ptr D 7 1 0]) := by rw [← hω]; simp
 have w74 : ω0 74 = (0,.dead) := by rw [← hω]; simp
 clear hτ hω
 have hsnap : snap (stF 77 D τ0 ω0 S) = ts92 τ0 := snap_stF
 have hMR : ∀ ro : Loop,ro.state = .ready → ro.pending = none → ro.params.toList = [19,20] → comp Pg Gl Lx ro.assign = some c92_p0 → comp Pg Gl Lx ro.body = some c92_r0 →
   Go.Ab.Loc Pg Gl (D + 1) 126 [.yl D 74 1,.ptr D 72 1 0,.ptr D 73 1 0,.ptr D 71 1 0] ((D,74,(1,.lp ro (ts92 τ0))) :: [(D,71,(1,.cells [encA A])),(D,72,(1,.cells [.int .u64 s.1.toNat,.int .u64 s.2.toNat])),(D,73,(1,.cells [.ptr D 7 1 0])),(D,7,lst []),(D,2,(1,.cells [encA A])),(D,6,(1,.cells [.int .i64 (-1)]))]) (.tup [])
    (dlW D [(D,74,(1,.lp ro (ts92 τ0)))] (dF92 D τ0 ro) res) := by
  intro ro h1 h2 hps hpre hbody
  refine spec126 D A s hn hk4 hrows hw hrn hsn (m92 D A τ0 ro) _ ?_ (by simp) (by simp) (by simp) (by simp) (dF92 D τ0 ro) ?_ ?_ ?_ res _ ?_ f hf hb
  ·intro m hm
   simp only [m92,List.mem_cons,List.mem_nil_iff,or_false] at hm
   rcases hm with rfl | rfl | rfl <;> simp
  ·intro L k u hu
   simp only [dF92,List.mem_cons,List.mem_nil_iff,or_false] at hu
   rcases hu with rfl | rfl <;> simp [m92]
  ·intro L k q hq hok hl hfin
   have := round92 D A τ0 t2 t6 t7 ro h1 h2 hps hpre hbody hn L k q hq hok hl
   rw [hfin] at this
   exact this
  ·intro L k q hq hok hl hfin
   have := round92 D A τ0 t2 t6 t7 ro h1 h2 hps hpre hbody hn L k q hq hok hl
   rw [hfin] at this
   exact this
  ·intro S e hS
   have h74 := hS (D,74,(1,.lp ro (ts92 τ0))) (by simp)
   simp only at h74
   simp only [upds,List.foldl_cons,List.foldl_nil]
   exact updS_self _ _ _ (by simp [updS,h74])
 have hMS : ∀ m ∈ ([(D,71,(1,.cells [encA A])),(D,72,(1,.cells [.int .u64 s.1.toNat,.int .u64 s.2.toNat])),(D,73,(1,.cells [.ptr D 7 1 0])),(D,7,lst []),(D,2,(1,.cells [encA A])),(D,6,(1,.cells [.int .i64 (-1)]))] : List (Nat × Nat × Ent)),
   m.1 ≤ (stF 77 D τ0 ω0 S).D ∧ (m.1 = (stF 77 D τ0 ω0 S).D → m.2.1 < (stF 77 D τ0 ω0 S).os.length ∧ m.2.1 ≠ 74) ∧ (stF 77 D τ0 ω0 S).look m.1 m.2.1 = m.2.2 := by simp [w71,w72,w73,w7,w2,w6]
 rcases res with ⟨_ | k,L⟩
 ·refine ⟨126,[.ptr D 72 1 0,.ptr D 73 1 0,.ptr D 71 1 0],74,(0,.dead),[(D,71,(1,.cells [encA A])),(D,72,(1,.cells [.int .u64 s.1.toNat,.int .u64 s.2.toNat])),(D,73,(1,.cells [.ptr D 7 1 0])),(D,7,lst []),(D,2,(1,.cells [encA A])),(D,6,(1,.cells [.int .i64 (-1)]))],
   [(D,7,lst L)],none,(fun ro => ro),[.blk 0,.c c92_k3],by simp [t18],by decide,by simp [w74],fun ro h1 h2 => ⟨by rw [h1]; simp,by rw [h2]; rfl,rfl⟩,?_,hMS,by simp [lst],rfl,fun r1 r2 r3 => ?_⟩
  ·intro ro h1 h2 h3 h4 h5
   rw [hsnap]
   exact hMR ro h1 h2 h3 h4 h5
  ·have e : rngS (stF 77 D τ0 ω0 S) 74 1 [(D,7,lst L)] r1 r2 r3 = stF 77 D τ0 (upd (upd (upd (upd ω0 74 (1,.lp r1 (ts92 τ0))) 7 (lst L)) 74 (1,.lp r2 (ts92 τ0))) 74 (1,.lp r3 (ts92 τ0))) S := by
    simp only [rngS,hsnap,List.foldl_cons,List.foldl_nil,stF_up,stF_D,if_true]
   show RunW _ _ _ (rngS (stF 77 D τ0 ω0 S) 74 1 [(D,7,lst L)] r1 r2 r3)
   rw [e]
   refine Rd.run (own := .im) ?_
   simp [c92_k3,t6,w6]
   rfl
 ·obtain ⟨n0,hn0⟩ : ∃ n0,lenM L (k + 1) k = n0 := ⟨_,rfl⟩
  have hn1 : n0 ≤ A.n := by rw [← hn0]; exact hlen k rfl
  refine ⟨126,[.ptr D 72 1 0,.ptr D 73 1 0,.ptr D 71 1 0],74,(0,.dead),[(D,71,(1,.cells [encA A])),(D,72,(1,.cells [.int .u64 s.1.toNat,.int .u64 s.2.toNat])),(D,73,(1,.cells [.ptr D 7 1 0])),(D,7,lst []),(D,2,(1,.cells [encA A])),(D,6,(1,.cells [.int .i64 (-1)]))],
   [(D,7,lst L),(D,6,(1,.cells [.int .i64 (lenM L (k + 1) k : Nat)]))],some 0,(fun ro => Go.Ab.finL (some 0) (busyL ro)),[.c c92_k3],by simp [t18],by decide,by simp [w74],fun ro h1 h2 => ⟨by simp [Go.Ab.finL],rfl,rfl⟩,?_,hMS,by simp [lst],rfl,fun r1 r2 r3 => ?_⟩
  ·intro ro h1 h2 h3 h4 h5
   rw [hsnap]
   exact hMR ro h1 h2 h3 h4 h5
  ·have e : rngS (stF 77 D τ0 ω0 S) 74 1 [(D,7,lst L),(D,6,(1,.cells [.int .i64 (lenM L (k + 1) k : Nat)]))] r1 r2 r3 = stF 77 D τ0 (upd (upd (upd (upd (upd ω0 74 (1,.lp r1 (ts92 τ0))) 7 (lst L)) 6 (1,.cells [.int .i64 (lenM L (k + 1) k : Nat)])) 74 (1,.lp r2 (ts92 τ0))) 74 (1,.lp r3 (ts92 τ0))) S := by
    simp only [rngS,hsnap,List.foldl_cons,List.foldl_nil,stF_up,stF_D,if_true]
   show RunW _ _ _ (rngS (stF 77 D τ0 ω0 S) 74 1 [(D,7,lst L),(D,6,(1,.cells [.int .i64 (lenM L (k + 1) k : Nat)]))] r1 r2 r3)
   rw [e,hn0]
   refine RunW.imp (Q := fnQ (RetQ [.tmp 4,.tmp 5] (rLeast (leastR A s (some k,L))) S)) (fun w s' h => by
    have hq : RetQ [.tmp 4,.tmp 5] (rLeast (leastR A s (some k,L))) S s' → RetM [.tmp 4,.tmp 5] (rLeast (leastR A s (some k,L))) D S [] s' := fun h => ⟨h.1,fun d i hd => by rw [h.2]; rfl⟩
    cases w with
    | fall => exact hq h
    | ret => exact hq h
    | exit => exact h
    | stop => exact h) ?_
   refine Rd.run (own := .im) ?_
   have hr : AV.tup [.sl 1 (([] ++ wordL A (nearA A) n0 s).map encN) .no,.bool true] = rLeast (leastR A s (some k,L)) := by simp [leastR,rLeast,hn0]
   simp [c92_k3,t6,t2,w2]
   refine Rd_call (spec112 _ A hn hrows hr4) (by simp) ?_
   simp [t6]
   have hnl : (nearA A).length = A.n + 1 := by simp [nearA,distA_len]
   refine l92_2 D A hn hk4 hrows hw (nearA A) (by omega) S n0 s [] _ _ _ (by omega) (by simp; omega) ?_ ?_ ?_ ?_ ?_ ?_ ?_ hr.symm
   all_goals simp [t2,t3,w2,w3,nearA]
end Go.Ab.Tab
/- Determinizing: the map of the sets (67). -/
namespace Go.Ab.Tab
open Go Go.Ab
set_option maxRecDepth 10000
set_option linter.unusedVariables false
set_option linter.unusedSimpArgs false
def entsM : Nat → List BS → List (AV × AV)
 | _,[] => []
 | k,x :: l => (encS x,encN k) :: entsM (k + 1) l
def findB : Nat → List BS → BS → Option Nat
 | _,[],_ => none
 | k,y :: l,x => if x = y then some k else findB (k + 1) l x
theorem mfind_ents (x : BS) : ∀ (l : List BS) (k : Nat),mfind 2 [.int .u64 x.1.toNat,.int .u64 x.2.toNat] (entsM k l) = some ((findB k l x).map encN)
 | [],k => rfl
 | y :: l,k => by
  rw [entsM,findB,encS,mfind]
  simp only [List.length_cons,List.length_nil,if_true]
  rw [eqCells2]
  by_cases h : x = y
  ·have : ((x.1,x.2) : BS) = (y.1,y.2) := h
   rw [decide_eq_true this,if_pos h]; rfl
  ·have : ¬ ((x.1,x.2) : BS) = (y.1,y.2) := h
   rw [decide_eq_false this,if_neg h]
   exact mfind_ents x l (k + 1)
theorem entsM_snoc (x : BS) : ∀ (l : List BS) (k : Nat),entsM k (l ++ [x]) = entsM k l ++ [(encS x,encN (k + l.length))]
 | [],k => rfl
 | y :: l,k => by
  rw [List.cons_append,entsM,entsM,entsM_snoc x l (k + 1),List.length_cons,List.cons_append]
  rw [show k + 1 + l.length = k + (l.length + 1) by omega]
theorem findB_snoc (x : BS) : ∀ (l : List BS) (k : Nat),findB k l x = none → findB k (l ++ [x]) x = some (k + l.length)
 | [],k,_ => by simp [findB]
 | y :: l,k,h => by
  rw [findB] at h
  rw [List.cons_append,findB]
  by_cases e : x = y
  ·rw [if_pos e] at h; cases h
  ·rw [if_neg e] at h ⊢
   rw [findB_snoc x l (k + 1) h,List.length_cons]
   congr 1; omega
def addB (l : List BS) (x : BS) : Nat × List BS := match findB 0 l x with | some i => (i,l) | none => (l.length,l ++ [x])
def lsB (l : List BS) : Ent := (1,.cells [.sl 2 (l.map encS) .tip])
def mpB (l : List BS) : Ent := (1,.mp (entsM 0 l))
def mem67 (D : Nat) (l : List BS) : List (Nat × Nat × Ent) := [(D,9,(1,.cells [.mp D 32 1])),(D,10,lsB l),(D,32,mpB l)]
def dl67 (D : Nat) (l : List BS) : List (Nat × Nat × Ent) := [(D,32,mpB l),(D,10,lsB l)]
theorem spec67 (D : Nat) (l : List BS) (hl : l.length ≤ 100000) (x : BS) : Go.Ab.Loc Pg Gl (D + 1) 67 [encS x,.ptr D 9 1 0,.ptr D 10 1 0] (mem67 D l) (encN (addB l x).1) (dl67 D (addB l x).2) := by
 refine loc_rdM mixedP tok rfl rfl fun S hS => ?_
 have s9 := (hS (D,9,(1,.cells [.mp D 32 1])) (by simp [mem67])).2
 have s10 := (hS (D,10,lsB l) (by simp [mem67])).2
 have s32 := (hS (D,32,mpB l) (by simp [mem67])).2
 simp only [lsB,mpB] at s9 s10 s32
 have hm := mfind_ents x l 0
 unfold c67
 cases hf : findB 0 l x with
 | some i =>
  rw [hf] at hm
  have e1 : (addB l x).1 = i := by unfold addB; rw [hf]
  have e2 : (addB l x).2 = l := by unfold addB; rw [hf]
  rw [e1,e2,dl67]
  simp [encS,s9,s10,s32,hm,encN,AV.plain1]
  intro d i hd
  simp only [updS]
  by_cases c1 : d = D ∧ i = 10
  ·rw [if_pos c1,c1.1,c1.2,s10]; rfl
  ·rw [if_neg c1]
   by_cases c2 : d = D ∧ i = 32
   ·rw [if_pos c2,c2.1,c2.2,s32]; rfl
   ·rw [if_neg c2]
 | none =>
  rw [hf] at hm
  have e1 : (addB l x).1 = l.length := by unfold addB; rw [hf]
  have e2 : (addB l x).2 = l ++ [x] := by unfold addB; rw [hf]
  have hm2 := mfind_ents x (l ++ [x]) 0
  rw [findB_snoc x l 0 hf] at hm2
  rw [e1,e2,dl67]
  have hle : (l.length + 1) * 16 ≤ 1099511627776 := by omega
  rw [entsM_snoc,Nat.zero_add] at hm2
  simp only [encS,encN] at hm2
  simp [encS,s9,s10,s32,hm,hm2,encN,updS,hle,AV.plain1]
  have f1 : lsB (l ++ [x]) = (1,.cells [.sl 2 (l.map encS ++ [.agg [.int .u64 x.1.toNat,.int .u64 x.2.toNat]]) .tip]) := by simp [lsB,encS]
  have f2 : mpB (l ++ [x]) = (1,.mp (entsM 0 l ++ [(.agg [.int .u64 x.1.toNat,.int .u64 x.2.toNat],.int .i64 l.length)])) := by rw [mpB,entsM_snoc]; simp [encS,encN]
  intro d i hd
  rw [f1,f2]
end Go.Ab.Tab
/- Small functions: lists of lists (29,93),bit (75),systems (27),looked (23),fault (38),all (26). -/
namespace Go.Ab.Tab
open Go Go.Ab
set_option maxRecDepth 10000
set_option linter.unusedVariables false
set_option linter.unusedSimpArgs false
def encLs (ls : List (List Int)) : AV := .sl 1 (ls.map encI) .no
@[simp] theorem encI_dem (l : List Int) : (encI l).dem = encI l := rfl
@[simp] theorem encI_dem1 (l : List Int) : (encI l).dem1 = encI l := rfl
@[simp] theorem encI_cells (l : List Int) : (encI l).cells = [encI l] := rfl
@[simp] theorem encI_one (l : List Int) : (encI l).one = true := rfl
@[simp] theorem encI_strip (l : List Int) : (encI l).strip = encI l := rfl
@[simp] theorem encI_var1 (l : List Int) : (encI l).var1 = encI l := rfl
@[simp] theorem frz_encI (s : St) (l : List Int) : frz s frzD (encI l) = some (encI l,[]) := rfl
@[simp] theorem encI_upto (d n : Nat) (l : List Int) : AV.upto d (n + 1) (encI l) = true := rfl
@[simp] theorem encI_still1 (l : List Int) : (encI l).still1 = true := rfl
theorem encI_left (l : List Int) (τ : Nat → AV) (i : Nat) : left τ i (encI l) = upd τ i (encI l) := rfl
theorem l29 (D : Nat) (ls : List (List Int)) (hlen : ls.length ≤ maxLen) (hl : ∀ l ∈ ls,l.length ≤ maxLen) (S) : ∀ (m i : Nat) (τ ω) (r : AV),i + m = ls.length →
  τ 1 = encLs ls → τ 12 = encLs ls → τ 13 = .int .i64 ls.length → τ 14 = .int .i64 i → r = .bool true →
  Rd (Loc Pg Gl) .im (RetQ [.tmp 4] r S) [.lp c29_l0,.blk 0,.c c29_k0] (stF 27 D τ ω S) := by
 intro m
 induction m with
 | zero =>
  intro i τ ω r hi h1 h12 h13 h14 hr
  refine Rd_lpE c29_l0.eq_1 ?_
  obtain rfl : i = ls.length := by omega
  simp [h12,h13,h14,c29_k0,encLs,hr]
 | succ m ih =>
  intro i τ ω r hi h1 h12 h13 h14 hr
  refine Rd_lpE c29_l0.eq_1 ?_
  have hlt : i < ls.length := by omega
  have hwr := wrap_next hlt hlen
  obtain ⟨x,hx⟩ : ∃ x,ls[i] = x := ⟨_,rfl⟩
  have s1 := spec19 (D + 1) x x (hl x (by rw [← hx]; exact List.getElem_mem hlt))
  simp [h1,h12,h13,h14,encLs,hlt,hx,encI_left]
  refine Rd_call s1 (by simp) ?_
  simp [h14,hwr]
  refine ih (i + 1) _ _ r (by omega) ?_ ?_ ?_ ?_ hr
  all_goals simp [h1,h12,h13,encLs]
theorem spec29 (D : Nat) (ls : List (List Int)) (hlen : ls.length ≤ maxLen) (hl : ∀ l ∈ ls,l.length ≤ maxLen) : Go.Ab.Loc Pg Gl D 29 [encLs ls,encLs ls] [] (.bool true) [] := by
 refine loc_rd mixedP tok rfl rfl fun S => ?_
 unfold c29
 simp [encLs]
 refine l29 D ls hlen hl S ls.length 0 _ _ _ (by omega) ?_ ?_ ?_ ?_ rfl
 all_goals simp [encLs]
def idxL (x : List Int) : Nat → List (List Int) → Option Nat
 | _,[] => none
 | k,y :: l => if x = y then some k else idxL x (k + 1) l
def lookedB (s : Sy) (ls : List (List Int)) : Bool := ls.all (fun l => decide (l.length ≤ 300)) && fewY 8000 s
theorem l23 (D : Nat) (s : Sy) (hf : fitF s.f) (hsl : s.m.length ≤ maxLen) (hv : ∀ v ∈ s.m,fitV v) (ls : List (List Int)) (hlen : ls.length ≤ maxLen) (hl : ∀ l ∈ ls,l.length ≤ maxLen) (S) : ∀ (m i : Nat) (τ ω) (r : AV),i + m = ls.length →
  τ 2 = .ptr D 2 1 0 → τ 7 = encLs ls → τ 8 = .int .i64 ls.length → τ 9 = .int .i64 i → ω 2 = (1,.cells [.int .i64 s.f.k,.int .i64 s.f.n,.sl 3 (s.f.gs.map encF) .no,.sl 3 (s.m.map encV) .no]) → r = .bool (lookedB s (ls.drop i)) →
  Rd (Loc Pg Gl) .im (RetQ [.tmp 4] r S) [.lp c23_l0,.blk 0,.c c23_k0] (stF 19 D τ ω S) := by
 intro m
 induction m with
 | zero =>
  intro i τ ω r hi h2 h7 h8 h9 w2 hr
  refine Rd_lpE c23_l0.eq_1 ?_
  obtain rfl : i = ls.length := by omega
  have s1 := spec30 s hf hsl hv (D + 1) 8000 (by omega)
  rw [List.drop_length,lookedB,List.all_nil,Bool.true_and] at hr
  simp [h2,h7,h8,h9,w2,c23_k0,encLs]
  refine Rd_call s1 (by simp [encY]) ?_
  simp [hr]
 | succ m ih =>
  intro i τ ω r hi h2 h7 h8 h9 w2 hr
  refine Rd_lpE c23_l0.eq_1 ?_
  have hlt : i < ls.length := by omega
  have hwr := wrap_next hlt hlen
  obtain ⟨y,hy⟩ : ∃ y,ls[i] = y := ⟨_,rfl⟩
  rw [List.drop_eq_getElem_cons hlt,hy,lookedB,List.all_cons] at hr
  by_cases e : y.length ≤ 300
  ·have e' : ¬ (300 : Int) < y.length := by omega
   rw [decide_eq_true e,Bool.true_and] at hr
   simp [h2,h7,h8,h9,encLs,hlt,hy,encI_left]
   simp [encI,e',h9,hwr]
   refine ih (i + 1) _ _ r (by omega) ?_ ?_ ?_ ?_ w2 hr
   all_goals simp [h2,h7,h8,encLs]
  ·have e' : (300 : Int) < y.length := by omega
   rw [decide_eq_false e,Bool.false_and,Bool.false_and] at hr
   simp [h2,h7,h8,h9,encLs,hlt,hy,encI_left]
   simp [encI,e',hr]
theorem spec23 (D : Nat) (s : Sy) (hf : fitF s.f) (hsl : s.m.length ≤ maxLen) (hv : ∀ v ∈ s.m,fitV v) (ls : List (List Int)) (hlen : ls.length ≤ maxLen) (hl : ∀ l ∈ ls,l.length ≤ maxLen) : Go.Ab.Loc Pg Gl D 23 [encY s,encLs ls] [] (.bool (lookedB s ls)) [] := by
 refine loc_rd mixedP tok rfl rfl fun S => ?_
 unfold c23
 generalize hr : AV.bool (lookedB s ls) = r
 simp [encLs,encY]
 refine l23 D s hf hsl hv ls hlen hl S ls.length 0 _ _ r (by omega) ?_ ?_ ?_ ?_ ?_ (by rw [← hr]; simp)
 all_goals simp [encLs]
end Go.Ab.Tab
/- The faults of layer 15 (38,26); equal systems (27). -/
namespace Go.Ab.Tab
open Go Go.Ab
set_option maxRecDepth 10000
set_option linter.unusedVariables false
set_option linter.unusedSimpArgs false
def faultW (s : Sy) (l w : List Int) : Int := if isY s then (if lettersF s.f = 0 then 1 else if isSet s.m.length l && wordOk (lettersF s.f) w then 0 else 1) else 30
theorem spec38 (D : Nat) (s : Sy) (hf : fitF s.f) (hsl : s.m.length ≤ maxLen) (hv : ∀ v ∈ s.m,fitV v) (hb : nodesVs s.m ≤ 2 ^ 32) (l w : List Int) (hl : l.length ≤ maxLen) (hw : w.length ≤ maxLen) : Go.Ab.Loc Pg Gl D 38 [encY s,encI l,encI w] [] (.int .i64 (faultW s l w)) [] := by
 refine loc_rd mixedP tok rfl rfl fun S => ?_
 unfold c38
 generalize hr : AV.int .i64 (faultW s l w) = r
 have h39 := spec39 s hf hsl hv hb (D + 1)
 have h48 := spec48 (D + 1) s hf
 have h18 := spec18 (D + 1) s.m.length l hl
 have h58 := spec58 (D + 1) (lettersF s.f) w hw
 unfold faultW at hr
 rw [encY] at h39 h48 ⊢
 simp
 refine Rd_call h39 (by simp) ?_
 cases hy : isY s with
 | false =>
  rw [hy,if_neg (by simp)] at hr
  simp [← hr]
 | true =>
  rw [hy,if_pos rfl] at hr
  simp
  refine Rd_call h48 (by simp) ?_
  by_cases h0 : lettersF s.f = 0
  ·rw [if_pos h0] at hr
   simp [h0,← hr]
  ·rw [if_neg h0] at hr
   simp [h0]
   refine Rd_call h18 (by simp) ?_
   cases h1 : isSet s.m.length l with
   | false =>
    rw [h1,Bool.false_and,if_neg (by simp)] at hr
    simp [← hr]
   | true =>
    rw [h1,Bool.true_and] at hr
    simp
    refine Rd_call h58 (by simp) ?_
    cases h2 : wordOk (lettersF s.f) w with
    | false =>
     rw [h2,if_neg (by simp)] at hr
     simp [← hr]
    | true =>
     rw [h2,if_pos rfl] at hr
     simp [← hr]
end Go.Ab.Tab
/- Determinizing: the loop over the letters (in 25). -/
namespace Go.Ab.Tab
open Go Go.Ab
set_option maxRecDepth 10000
set_option linter.unusedVariables false
set_option linter.unusedSimpArgs false
def stepD (A : PA) (x : BS) : Nat → Nat → List BS × List Nat → List BS × List Nat
 | 0,_,p => p
 | j + 1,l,p => stepD A x j (l + 1) ((addB p.1 (nextA A x l)).2,p.2 ++ [(addB p.1 (nextA A x l)).1])
def cellsD (r : List Nat) : List AV := r.flatMap fun (n : Nat) => [.int .i64 (n : Int),.sl 3 [] .no,.sl 1 [] .no]
theorem cellsD_len (r : List Nat) : (cellsD r).length = r.length * 3 := by
 unfold cellsD
 induction r with
 | nil => rfl
 | cons a r ih => simp only [List.flatMap_cons,List.length_append,ih,List.length_cons,List.length_nil]; omega
theorem cellsD_snoc (r : List Nat) (a : Nat) : cellsD (r ++ [a]) = cellsD r ++ [.int .i64 a,.sl 3 [] .no,.sl 1 [] .no] := by simp [cellsD]
def argsA (D g : Nat) : List Nat → AV
 | [] => .sl 3 [] .nil
 | a :: r => .own D 114 g 0 (r.length + 1) 3 true
theorem putC_last (l : List AV) (x y z a b c : AV) : putC (l ++ [x,y,z]) l.length [a,b,c] = l ++ [a,b,c] := by
 unfold putC
 rw [List.take_left,List.append_assoc,List.drop_eq_nil_of_le (by simp),List.append_nil]
structure F25 (D : Nat) (A : PA) (k : Nat) (τ : Nat → AV) (ω : Nat → Ent) (L : List BS) (e16 : Ent) : Prop where
 t4 : τ 4 = .ptr D 4 1 0
 t7 : τ 7 = encA A
 t10 : τ 10 = .ptr D 10 1 0
 t11 : τ 11 = .fn 67 [.ptr D 9 1 0,.ptr D 10 1 0]
 t16 : τ 16 = .ptr D 16 1 0
 t17 : τ 17 = .int .i64 k
 w4 : ω 4 = (1,.cells [.int .i64 0,.int .i64 0,.sl 3 [] .tip,.sl 3 [] .tip])
 w9 : ω 9 = (1,.cells [.mp D 32 1])
 w10 : ω 10 = lsB L
 w32 : ω 32 = mpB L
 w16 : ω 16 = e16
structure V25 (D g18 g76 : Nat) (o : Int) (τ : Nat → AV) (ω : Nat → Ent) (r : List Nat) : Prop where
 t18 : τ 18 = .ptr D 18 g18 0
 w18 : ω 18 = (g18,.cells [.int .i64 0,.own D 76 g76 0 2 3 true,.sl 1 [] .tip])
 w76 : ∃ g,ω 76 = (g76,.cells [.int .i64 o,.sl 3 [] .nil,.sl 1 [] .nil,.int .i64 0,argsA D g r,.sl 1 [] .nil]) ∧ (r ≠ [] → ∃ cs,ω 114 = (g,.cells cs) ∧ cs.map AV.strip1 = cellsD r)
theorem l25_1 (D : Nat) (A : PA) (hn : A.n ≤ 100) (hk4 : A.k ≤ 4) (hrows : A.rows.length = A.n) (hw : ∀ r ∈ A.rows,A.k ≤ r.length) (k : Nat) (x : BS) (e16 : Ent) (g18 g76 : Nat) (o : Int) (K : List AI) (W : Way → St → Prop) (S) : ∀ (m l : Nat) (L : List BS) (r : List Nat) (τ ω),l + m = A.k → L[k]? = some x → L.length + m ≤ 10000 → r.length + m ≤ 10000 →
  F25 D A k τ ω L e16 → V25 D g18 g76 o τ ω r → τ 91 = .int .i64 A.k → τ 92 = .int .i64 l →
  (∀ τ' ω',F25 D A k τ' ω' (stepD A x m l (L,r)).1 e16 → V25 D g18 g76 o τ' ω' (stepD A x m l (L,r)).2 → RunW (Loc Pg Gl) W K (stF 160 D τ' ω' S)) →
  RunW (Loc Pg Gl) W (.lp c25_l1 :: .blk 4 :: K) (stF 160 D τ ω S) := by
 intro m
 induction m with
 | zero =>
  intro l L r τ ω hl hx hb hbr hF hV h91 h92 hend
  refine RunW_lpE c25_l1.eq_1 ?_
  obtain rfl : l = A.k := by omega
  refine .seq (RunW_pre (k1 := [_]) ?_)
  simp [h91,h92]
  refine ⟨rfl,.seq (.cond (t := false) (by simp) ?_)⟩
  refine .exit (k' := K) (by simp) ?_
  rw [stepD] at hend
  refine hend _ _ ?_ ?_
  ·obtain ⟨t4,t7,t10,t11,t16,t17,w4,w9,w10,w32,w16⟩ := hF
   constructor <;> simp [*]
  ·obtain ⟨t18,w18,w76⟩ := hV
   constructor <;> simp [*]
 | succ m ih =>
  intro l L r τ ω hl hx hb hbr hF hV h91 h92 hend
  refine RunW_lpE c25_l1.eq_1 ?_
  have hlt : l < A.k := by omega
  have hwr : IntKind.i64.wrap ((l : Int) + 1) = ((l + 1 : Nat) : Int) := by rw [← wrap_i64_nat (n := l + 1) (by omega)]; rfl
  have s1 := spec70 (D + 1) A hn hrows l (fun r hr => by have := hw r hr; omega) x
  have e1 : nxtB A.rows l x A.n 0 (0#64,0#64) = nextA A x l := rfl
  rw [e1] at s1
  rw [stepD] at hend
  obtain ⟨t,ht⟩ : ∃ t,nextA A x l = t := ⟨_,rfl⟩
  rw [ht] at s1 hend
  have s2 := spec67 D L (by omega) t
  obtain ⟨i,hi⟩ : ∃ i,(addB L t).1 = i := ⟨_,rfl⟩
  obtain ⟨L',hL'⟩ : ∃ L',(addB L t).2 = L' := ⟨_,rfl⟩
  have hxL : L'[k]? = some x := by
   rw [← hL']; unfold addB
   split
   ·exact hx
   ·simp only []; rw [List.getElem?_append_left (List.getElem?_eq_some_iff.1 hx).1]; exact hx
  have hll : L'.length ≤ L.length + 1 := by
   rw [← hL']; unfold addB
   split <;> simp
  rw [hi,hL'] at s2 hend
  have hkl : k < L.length := (List.getElem?_eq_some_iff.1 hx).1
  have hxe : L[k] = x := (List.getElem?_eq_some_iff.1 hx).2
  refine .seq (RunW_pre (k1 := [_]) ?_)
  simp [h91,h92]
  refine ⟨rfl,.seq (.cond (t := true) (by simp; omega) (.skip (.seq (.block (.seq (RunW_pre (k1 := [_]) ?_))))))⟩
  simp [h92]
  refine ⟨rfl,.seq (RunW_pre (k1 := [_]) ?_)⟩
  simp
  obtain ⟨t4,t7,t10,t11,t16,t17,w4,w9,w10,w32,w16⟩ := hF
  obtain ⟨t18,w18,g,w76,w114⟩ := hV
  unfold lsB at w10
  refine ⟨⟨rfl,.cond (t := false) (by simp) (RunW_str .fr (k1 := [_,_,_]) (by rfl) ?_)⟩,⟨rfl,.cond (t := true) (by simp) (RunW_str .fr (k1 := [_,_,_]) (by rfl) ?_)⟩⟩
  ·cases r with
   | nil =>
    unfold argsA at w76
    simp [t18,w18,w76,t11,t7,t10,w10,t17,hkl,hxe,encS]
    refine Rd_drCall s1 (by simp [encS]) ?_
    simp
    refine Rd_drCallvM (cap := [.ptr D 9 1 0,.ptr D 10 1 0]) s2 (by simp) (by simp [encS]) (by simp [mem67,w9,w10,w32,lsB]) (by simp [dl67,mem67,lsB,mpB]) ?_
    simp [dl67,encN,encS]
    refine Rd_dr_appN (z' := 3) (y0 := .agg [.int .i64 i,.sl 3 [] .no,.sl 1 [] .no]) (ys := []) (r := []) 114 (by omega) (by simp) (by simp) (by simp [okEl]) (by simp) ?_
    simp [t18,w18,w76,newC,apartB,mem67,h92,hwr]
    refine ⟨rfl,ih (l + 1) L' [i] _ _ (by omega) hxL (by omega) (by simp at hbr ⊢; omega) ?_ ?_ ?_ ?_ hend⟩
    ·constructor <;> simp [*]
    ·constructor <;> simp [*,argsA,cellsD]
     done
    all_goals simp [*]
   | cons a r =>
    unfold argsA at w76
    obtain ⟨cs,hcs,hcm⟩ := w114 (by simp)
    have hcl : cs.length = (r.length + 1) * 3 := by
     have := congrArg List.length hcm
     rw [List.length_map,cellsD_len,List.length_cons] at this
     exact this
    have hct : (cs.take ((r.length + 1) * 3)).map AV.strip1 = cellsD (a :: r) := by rw [List.take_of_length_le (by omega),hcm]
    simp [t18,w18,w76,t11,t7,t10,w10,t17,hkl,hxe,encS]
    refine Rd_drCall s1 (by simp [encS]) ?_
    simp
    refine Rd_drCallvM (cap := [.ptr D 9 1 0,.ptr D 10 1 0]) s2 (by simp) (by simp [encS]) (by simp [mem67,w9,w10,w32,lsB]) (by simp [dl67,mem67,lsB,mpB]) ?_
    simp [dl67,encN,encS]
    refine Rd_dr_appO (i := 114) (g := g) (len := r.length + 1) (ea := true) (cs := cs) (ys := [.agg [.int .i64 i,.sl 3 [] .no,.sl 1 [] .no]]) (r := []) (by omega) (by simp) (by simp) (by simp) (by simp [hcs]) (by omega) (by simp [okEl]) (by simp at hbr ⊢; omega) ?_
    rw [hct]
    simp [t18,w18,w76,newC,apartB,mem67,h92,hwr]
    refine ⟨rfl,ih (l + 1) L' (a :: r ++ [i]) _ _ (by omega) hxL (by omega) (by simp at hbr ⊢; omega) ?_ ?_ ?_ ?_ hend⟩
    ·constructor <;> simp [*]
    ·refine ⟨by simp [*],by simp [*],g + 1,by simp [*,argsA],fun _ => ⟨cellsD (a :: r) ++ [.int .i64 i,.sl 3 [] .no,.sl 1 [] .no],by simp,?_⟩⟩
     rw [cellsD_snoc,List.map_append]
     congr 1
     rw [← hcm,List.map_map]
     refine List.map_congr_left fun c _ => ?_
     cases c <;> rfl
    all_goals simp [*]
  ·cases r with
   | nil =>
    unfold argsA at w76
    simp [t18,w18,w76,t11,t7,t10,w10,t17,hkl,hxe,encS]
    refine Rd_drCall s1 (by simp [encS]) ?_
    simp
    refine Rd_drCallvM (cap := [.ptr D 9 1 0,.ptr D 10 1 0]) s2 (by simp) (by simp [encS]) (by simp [mem67,w9,w10,w32,lsB]) (by simp [dl67,mem67,lsB,mpB]) ?_
    simp [dl67,encN,encS]
    refine Rd_dr_appN (z' := 3) (y0 := .agg [.int .i64 0,.sl 3 [] .no,.sl 1 [] .no]) (ys := []) (r := []) 114 (by omega) (by simp) (by simp) (by simp [okEl]) (by simp) ?_
    simp [t18,w18,w76,newC,apartB,mem67,h92,hwr]
    refine ⟨rfl,ih (l + 1) L' [i] _ _ (by omega) hxL (by omega) (by simp at hbr ⊢; omega) ?_ ?_ ?_ ?_ hend⟩
    ·constructor <;> simp [*]
    ·constructor <;> simp [*,argsA,cellsD]
    all_goals simp [*]
   | cons a r =>
    unfold argsA at w76
    obtain ⟨cs,hcs,hcm⟩ := w114 (by simp)
    have hcl : cs.length = (r.length + 1) * 3 := by
     have := congrArg List.length hcm
     rw [List.length_map,cellsD_len,List.length_cons] at this
     exact this
    have hct : (cs.take ((r.length + 1) * 3)).map AV.strip1 = cellsD (a :: r) := by rw [List.take_of_length_le (by omega),hcm]
    simp [t18,w18,w76,t11,t7,t10,w10,t17,hkl,hxe,encS]
    refine Rd_drCall s1 (by simp [encS]) ?_
    simp
    refine Rd_drCallvM (cap := [.ptr D 9 1 0,.ptr D 10 1 0]) s2 (by simp) (by simp [encS]) (by simp [mem67,w9,w10,w32,lsB]) (by simp [dl67,mem67,lsB,mpB]) ?_
    simp [dl67,encN,encS]
    refine Rd_dr_appO (i := 114) (g := g) (len := r.length + 1) (ea := true) (cs := cs) (ys := [.agg [.int .i64 0,.sl 3 [] .no,.sl 1 [] .no]]) (r := []) (by omega) (by simp) (by simp) (by simp) (by simp [hcs]) (by omega) (by simp [okEl]) (by simp at hbr ⊢; omega) ?_
    rw [hct]
    have hln : (cellsD (a :: r)).length = (r.length + 1) * 3 := by rw [cellsD_len]; rfl
    have hc1 : (0 ≤ (r.length : Int) + 1 ∧ (r.length : Int) < (r.length : Int) + 1) := by omega
    have hput := putC_last (cellsD (a :: r)) (.int .i64 0) (.sl 3 [] .no) (.sl 1 [] .no) (.int .i64 i) (.sl 3 [] .tip) (.sl 1 [] .tip)
    rw [hln] at hput
    simp [t18,w18,w76,newC,apartB,mem67,h92,hwr,hc1,hln,hput,-putC_def]
    refine ⟨rfl,ih (l + 1) L' (a :: r ++ [i]) _ _ (by omega) hxL (by omega) (by simp at hbr ⊢; omega) ?_ ?_ ?_ ?_ hend⟩
    ·constructor <;> simp [*]
    ·refine ⟨by simp [*],by simp [*],g + 1,by simp [*,argsA],fun _ => ⟨cellsD (a :: r) ++ [.int .i64 i,.sl 3 [] .tip,.sl 1 [] .tip],by simp,?_⟩⟩
     rw [cellsD_snoc,List.map_append]
     congr 1
     rw [← hcm,List.map_map]
     refine List.map_congr_left fun c _ => ?_
     cases c <;> rfl
    all_goals simp [*]
end Go.Ab.Tab
