/- The program's Reverse (53): the inner loops. -/
import Derived.Test.YtpgdlniekkeikaaDoorReversesH
namespace Go.Ab.Tab
open Go Go.Ab
set_option maxRecDepth 10000
set_option linter.unusedVariables false
set_option linter.unusedSimpArgs false
def cellsR (rs : List (List Nat)) : List AV := rs.flatMap fun r => [.int .i64 0,.sl 3 (r.map fun x => encV (mkSt x)) .no,.sl 1 [] .no]
theorem cellsR_len (r : List (List Nat)) : (cellsR r).length = r.length * 3 := by
 unfold cellsR
 induction r with
 | nil => rfl
 | cons a r ih => simp only [List.flatMap_cons,List.length_append,ih,List.length_cons,List.length_nil]; omega
theorem cellsR_snoc (r : List (List Nat)) (a : List Nat) : cellsR (r ++ [a]) = cellsR r ++ [.int .i64 0,.sl 3 (a.map fun x => encV (mkSt x)) .no,.sl 1 [] .no] := by simp [cellsR]
def argsR (D g : Nat) : List (List Nat) → AV
 | [] => .sl 3 [] .nil
 | a :: r => .own D 100 g 0 (r.length + 1) 3 true
def preL (A : PA) (y l z m : Nat) : List Nat := (List.range' z m).filter fun z => (rowA A z l).has y
theorem preL_succ (A : PA) (y l z m : Nat) : preL A y l z (m + 1) = if (rowA A z l).has y then z :: preL A y l (z + 1) m else preL A y l (z + 1) m := by
 unfold preL
 rw [List.range'_succ,List.filter_cons]
theorem l53_0 (D : Nat) (A : PA) (hn : A.n ≤ 100) (hrows : A.rows.length = A.n) (l : Nat) (hl : ∀ r ∈ A.rows,l < r.length) (y : Nat) (hy : y < 128) (g14 : Nat) (W : Way → St → Prop) (K : List AI) (S) (τ0 : Nat → AV) (ω0 : Nat → Ent) (h7 : τ0 7 = encA A) (h11 : τ0 11 = .int .i64 y) (h13 : τ0 13 = .int .i64 l) (h14 : τ0 14 = .ptr D 14 g14 0) :
  ∀ (m z : Nat) (acc : List Nat) (tp tp2) (τ ω),z + m = A.n → acc.length ≤ z → (tp = .tip ∨ tp = .nil) →
  τ 66 = .int .i64 A.n → τ 67 = .int .i64 z → (∀ x,x < 66 → x ≠ 15 → τ x = τ0 x) →
  ω 14 = (g14,.cells [.int .i64 0,.sl 3 (acc.map fun x => encV (mkSt x)) tp,.sl 1 [] tp2]) → (∀ i,i ≠ 14 → ω i = ω0 i) →
  (∀ τ' ω' tp tp2,(∀ x,x < 66 → x ≠ 15 → τ' x = τ0 x) → ω' 14 = (g14,.cells [.int .i64 0,.sl 3 ((acc ++ preL A y l z m).map fun x => encV (mkSt x)) tp,.sl 1 [] tp2]) → (∀ i,i ≠ 14 → ω' i = ω0 i) → RunW (Loc Pg Gl) W K (stF 134 D τ' ω' S)) →
  RunW (Loc Pg Gl) W (.lp c53_l0 :: .blk 4 :: K) (stF 134 D τ ω S) := by
 intro m
 induction m with
 | zero =>
  intro z acc tp tp2 τ ω hz ha htp h66 h67 hτ w14 hω hend
  refine RunW_lpE c53_l0.eq_1 ?_
  obtain rfl : z = A.n := by omega
  refine .seq (RunW_pre (k1 := [_]) ?_)
  simp [h66,h67]
  refine ⟨rfl,.seq (.cond (t := false) (by simp) (.exit (k' := K) (by simp) ?_))⟩
  rw [preL,List.range'_zero,List.filter_nil,List.append_nil] at hend
  refine hend _ _ tp tp2 (fun x h1 h2 => ?_) w14 hω
  rw [← hτ x h1 h2]; simp only [upd]; repeat rw [if_neg (by omega)]
 | succ m ih =>
  intro z acc tp tp2 τ ω hz ha htp h66 h67 hτ w14 hω hend
  refine RunW_lpE c53_l0.eq_1 ?_
  have hlt : z < A.n := by omega
  have hwr : IntKind.i64.wrap ((z : Int) + 1) = ((z + 1 : Nat) : Int) := by rw [← wrap_i64_nat (n := z + 1) (by omega)]; rfl
  have hxr : z < A.rows.length := by omega
  obtain ⟨row,hrow⟩ : ∃ row,A.rows[z] = row := ⟨_,rfl⟩
  have har := hl row (by rw [← hrow]; exact List.getElem_mem hxr)
  obtain ⟨c,hc⟩ : ∃ c,row[l] = c := ⟨_,rfl⟩
  have hrc : rowA A z l = c := by rw [rowA,List.getElem?_eq_getElem hxr,Option.getD_some,hrow,List.getElem?_eq_getElem har,Option.getD_some,hc]
  rw [preL_succ,hrc] at hend
  have a7 := (hτ 7 (by decide) (by decide)).trans h7
  have a11 := (hτ 11 (by decide) (by decide)).trans h11
  have a13 := (hτ 13 (by decide) (by decide)).trans h13
  have a14 := (hτ 14 (by decide) (by decide)).trans h14
  refine .seq (RunW_pre (k1 := [_]) ?_)
  simp [h66,h67]
  refine ⟨rfl,.seq (.cond (t := true) (by simp; omega) (.skip (.seq (.block (.seq (RunW_pre (k1 := [_]) ?_))))))⟩
  simp [h67]
  refine ⟨rfl,.seq (RunW_pre (k1 := [_]) ?_)⟩
  simp [a7,a11,a13,encA,hxr,hrow,har,hc,encS]
  refine Rd_call (spec94 _ c y hy) (by simp [encS]) ?_
  simp
  refine ⟨rfl,.cond (t := c.has y) (by simp) ?_⟩
  cases hb : c.has y with
  | false =>
   rw [hb] at hend
   refine .skip (RunW_pre (k1 := [_,_]) ?_)
   simp [h67,hwr]
   refine ⟨rfl,ih (z + 1) acc tp tp2 _ _ (by omega) (by omega) htp ?_ ?_ (fun x h1 h2 => ?_) w14 hω hend⟩
   ·simp [h66]
   ·simp
   ·rw [← hτ x h1 h2]; simp only [upd]; repeat rw [if_neg (by omega)]
  | true =>
   rw [hb] at hend
   have hle : (acc.length + 1) * 56 ≤ 1099511627776 := by omega
   refine RunW_pre (k1 := [_,_,_]) ?_
   simp [a14,w14,hle,h67,hwr,htp]
   refine ⟨rfl,ih (z + 1) (acc ++ [z]) .tip tp2 _ _ (by omega) (by simp; omega) (.inl rfl) ?_ ?_ (fun x h1 h2 => ?_) ?_ (fun i h => ?_) ?_⟩
   ·simp [h66]
   ·simp
   ·rw [← hτ x h1 h2]; simp only [upd]; repeat rw [if_neg (by omega)]
   ·simp [encV_st]
   ·rw [← hω i h]; simp [upd,h]
   ·rw [List.append_assoc]; exact hend
structure V53 (D g12 g47 : Nat) (o : Int) (τ : Nat → AV) (ω : Nat → Ent) (r : List (List Nat)) : Prop where
 t12 : τ 12 = .ptr D 12 g12 0
 w12 : ω 12 = (g12,.cells [.int .i64 0,.own D 47 g47 0 2 3 true,.sl 1 [] .tip])
 w47 : ∃ g,ω 47 = (g47,.cells [.int .i64 o,.sl 3 [] .nil,.sl 1 [] .nil,.int .i64 0,argsR D g r,.sl 1 [] .nil]) ∧ (r ≠ [] → ∃ cs,ω 100 = (g,.cells cs) ∧ cs.map AV.strip1 = cellsR r)
def preLs (A : PA) (y : Nat) : Nat → Nat → List (List Nat)
 | 0,_ => []
 | j + 1,l => preL A y l 0 A.n :: preLs A y j (l + 1)
theorem l53_1 (D : Nat) (A : PA) (hn : A.n ≤ 100) (hk4 : A.k ≤ 4) (hrows : A.rows.length = A.n) (hw : ∀ r ∈ A.rows,A.k ≤ r.length) (y : Nat) (hy : y < 128) (g12 g47 : Nat) (o : Int) (K : List AI) (W : Way → St → Prop) (S) (τ0 : Nat → AV) (ω0 : Nat → Ent) (h7 : τ0 7 = encA A) (h11 : τ0 11 = .int .i64 y) (h59 : τ0 59 = .int .i64 A.k) :
  ∀ (m l : Nat) (r : List (List Nat)) (τ ω),l + m = A.k → r.length = l → (∀ x,x < 60 → x ≠ 13 → x ≠ 14 → x ≠ 15 → τ x = τ0 x) → τ 60 = .int .i64 l → V53 D g12 g47 o τ ω r → (∀ i,i ≠ 14 → i ≠ 47 → i ≠ 90 → i ≠ 100 → ω i = ω0 i) →
  (∀ τ' ω',(∀ x,x < 60 → x ≠ 13 → x ≠ 14 → x ≠ 15 → τ' x = τ0 x) → V53 D g12 g47 o τ' ω' (r ++ preLs A y m l) → (∀ i,i ≠ 14 → i ≠ 47 → i ≠ 90 → i ≠ 100 → ω' i = ω0 i) → RunW (Loc Pg Gl) W K (stF 134 D τ' ω' S)) →
  RunW (Loc Pg Gl) W (.lp c53_l1 :: .blk 2 :: K) (stF 134 D τ ω S) := by
 intro m
 induction m with
 | zero =>
  intro l r τ ω hl hr hτ h60 hV hω hend
  refine RunW_lpE c53_l1.eq_1 ?_
  obtain rfl : l = A.k := by omega
  have a59 := (hτ 59 (by decide) (by decide) (by decide) (by decide)).trans h59
  refine .seq (RunW_pre (k1 := [_]) ?_)
  simp [a59,h60]
  refine ⟨rfl,.seq (.cond (t := false) (by simp) (.exit (k' := K) (by simp) ?_))⟩
  rw [preLs,List.append_nil] at hend
  refine hend _ _ (fun x h1 h2 h3 h4 => ?_) ?_ hω
  ·rw [← hτ x h1 h2 h3 h4]; simp only [upd]; repeat rw [if_neg (by omega)]
  ·obtain ⟨t12,w12,w47⟩ := hV
   exact ⟨by simp [t12],w12,w47⟩
 | succ m ih =>
  intro l r τ ω hl hr hτ h60 hV hω hend
  refine RunW_lpE c53_l1.eq_1 ?_
  have hlt : l < A.k := by omega
  have hwr : IntKind.i64.wrap ((l : Int) + 1) = ((l + 1 : Nat) : Int) := by rw [← wrap_i64_nat (n := l + 1) (by omega)]; rfl
  have a59 := (hτ 59 (by decide) (by decide) (by decide) (by decide)).trans h59
  have a7 := (hτ 7 (by decide) (by decide) (by decide) (by decide)).trans h7
  have a11 := (hτ 11 (by decide) (by decide) (by decide) (by decide)).trans h11
  rw [preLs] at hend
  obtain ⟨to,hto⟩ : ∃ to,preL A y l 0 A.n = to := ⟨_,rfl⟩
  rw [hto] at hend
  have hap : r ++ to :: preLs A y m (l + 1) = (r ++ [to]) ++ preLs A y m (l + 1) := by simp
  rw [hap] at hend
  refine .seq (RunW_pre (k1 := [_]) ?_)
  simp [a59,h60]
  refine ⟨rfl,.seq (.cond (t := true) (by simp; omega) (.skip (.seq (.block (.seq (RunW_pre (k1 := [_]) ?_))))))⟩
  simp [h60]
  refine ⟨rfl,.seq (RunW_pre (k1 := [_]) ?_)⟩
  simp
  refine ⟨rfl,.seq (.seq (RunW_pre (k1 := [_]) ?_))⟩
  simp [a7,encA]
  refine ⟨rfl,.block (RunW_loop ?_)⟩
  obtain ⟨t12,w12,g,w47,w100⟩ := hV
  refine l53_0 D A hn hrows l (fun r hr => by have := hw r hr; omega) y hy ((ω 14).1 + 1) W _ S _ _ ?_ ?_ ?_ ?_ A.n 0 [] .tip .tip _ _ (by omega) (by simp) (.inl rfl) ?_ ?_ (fun x _ _ => rfl) ?_ (fun i _ => rfl) ?_
  case refine_8 =>
   intro τ1 ω1 tp tp2 hτ1 w14 hω1
   rw [hto,List.nil_append] at w14
   unfold c53_k0
   have b12 : τ1 12 = .ptr D 12 g12 0 := by rw [hτ1 12 (by decide) (by decide)]; simp [t12]
   have b14 : τ1 14 = .ptr D 14 ((ω 14).1 + 1) 0 := by rw [hτ1 14 (by decide) (by decide)]; simp
   have b60 : τ1 60 = .int .i64 l := by rw [hτ1 60 (by decide) (by decide)]; simp [h60]
   have v12 : ω1 12 = (g12,.cells [.int .i64 0,.own D 47 g47 0 2 3 true,.sl 1 [] .tip]) := by rw [hω1 12 (by decide)]; simp [w12]
   have v47 : ω1 47 = (g47,.cells [.int .i64 o,.sl 3 [] .nil,.sl 1 [] .nil,.int .i64 0,argsR D g r,.sl 1 [] .nil]) := by rw [hω1 47 (by decide)]; simp [w47]
   have v100 : ω1 100 = ω 100 := by rw [hω1 100 (by decide)]; simp
   have fin : ∀ τ2 ω2,(∀ x,x < 60 → τ2 x = τ1 x) → τ2 60 = .int .i64 l → V53 D g12 g47 o τ2 ω2 (r ++ [to]) → (∀ i,i ≠ 14 → i ≠ 47 → i ≠ 90 → i ≠ 100 → ω2 i = ω1 i) →
     RunW (Loc Pg Gl) W (.blk 3 :: .c c53_k1 :: .lp c53_l1 :: .blk 2 :: K) (stF 134 D τ2 ω2 S) := by
    intro τ2 ω2 hτ2 h260 hV2 hω2
    refine .blk (RunW_pre (k1 := [_]) ?_)
    unfold c53_k1
    simp [h260,hwr]
    refine ⟨rfl,ih (l + 1) (r ++ [to]) _ _ (by omega) (by simp; omega) (fun x q1 q2 q3 q4 => ?_) ?_ ?_ (fun i q1 q2 q3 q4 => ?_) hend⟩
    ·rw [← hτ x q1 q2 q3 q4]
     have e1 := hτ1 x (by omega) q4
     have e2 := hτ2 x q1
     simp only [upd] at e1 ⊢
     repeat rw [if_neg (by omega)] at e1
     repeat rw [if_neg (by omega)]
     rw [e2,e1]
    ·simp
    ·obtain ⟨c1,c2,c3⟩ := hV2
     exact ⟨by simp [c1],c2,c3⟩
    ·rw [hω2 i q1 q2 q3 q4,hω1 i q1,← hω i q1 q2 q3 q4]
     simp [upd,q1]
   refine .seq (RunW_pre (k1 := [_]) ?_)
   simp
   refine ⟨⟨rfl,.cond (t := false) (by simp) (RunW_str .fr (k1 := [_]) (by rfl) ?_)⟩,⟨rfl,.cond (t := true) (by simp) (RunW_str .fr (k1 := [_]) (by rfl) ?_)⟩⟩
   ·cases r with
    | nil =>
     unfold argsR at v47
     simp [b12,v12,v47,b14,w14]
     refine Rd_dr_appN (z' := 3) (y0 := .agg [.int .i64 0,.sl 3 (to.map fun x => encV (mkSt x)) .no,.sl 1 [] .no]) (ys := []) (r := []) 100 (by omega) (by simp) (by simp) (by simp [okEl]) (by simp) ?_
     simp [b12,v12,v47,w14,newC,apartB]
     refine ⟨rfl,fin _ _ (fun x q => ?_) ?_ ?_ (fun i q1 q2 q3 q4 => ?_)⟩
     ·simp only [upd]; repeat rw [if_neg (by omega)]
     ·simp [b60]
     ·refine ⟨by simp [b12],by simp [v12],_,by simp [argsR]; rfl,fun _ => ⟨_,by simp; rfl,by simp [cellsR]⟩⟩
     ·simp [upd,q1,q2,q3,q4]
    | cons a r =>
     unfold argsR at v47
     obtain ⟨cs,hcs,hcm⟩ := w100 (by simp)
     rw [← v100] at hcs
     have hcl : cs.length = (r.length + 1) * 3 := by
      have := congrArg List.length hcm
      rw [List.length_map,cellsR_len,List.length_cons] at this
      exact this
     have hct : (cs.take ((r.length + 1) * 3)).map AV.strip1 = cellsR (a :: r) := by rw [List.take_of_length_le (by omega),hcm]
     simp [b12,v12,v47,b14,w14]
     refine Rd_dr_appO (i := 100) (g := g) (len := r.length + 1) (ea := true) (cs := cs) (ys := [.agg [.int .i64 0,.sl 3 (to.map fun x => encV (mkSt x)) .no,.sl 1 [] .no]]) (r := []) (by omega) (by simp) (by simp) (by simp) (by simp [hcs]) (by omega) (by simp [okEl]) (by simp at hr ⊢; omega) ?_
     rw [hct]
     have hln : (cellsR (a :: r)).length = (r.length + 1) * 3 := by rw [cellsR_len]; rfl
     have hc1 : (0 ≤ (r.length : Int) + 1 ∧ (r.length : Int) < (r.length : Int) + 1) := by omega
     simp [b12,v12,v47,b14,w14,newC,apartB]
     refine ⟨rfl,fin _ _ (fun x q => ?_) ?_ ?_ (fun i q1 q2 q3 q4 => ?_)⟩
     ·simp only [upd]; repeat rw [if_neg (by omega)]
     ·simp [b60]
     ·refine ⟨by simp [b12],by simp [v12],_,by simp [argsR]; rfl,fun _ => ⟨_,by simp; rfl,?_⟩⟩
      rw [cellsR_snoc,List.map_append]
      congr 1
      rw [← hcm,List.map_map]
      refine List.map_congr_left fun c _ => ?_
      cases c <;> rfl
     ·simp [upd,q1,q2,q3,q4]
   ·cases r with
    | nil =>
     unfold argsR at v47
     simp [b12,v12,v47,b14,w14]
     refine Rd_dr_appN (z' := 3) (y0 := .agg [.int .i64 0,.sl 3 [] .no,.sl 1 [] .no]) (ys := []) (r := []) 100 (by omega) (by simp) (by simp) (by simp [okEl]) (by simp) ?_
     simp [b12,v12,v47,w14,newC,apartB]
     refine ⟨rfl,fin _ _ (fun x q => ?_) ?_ ?_ (fun i q1 q2 q3 q4 => ?_)⟩
     ·simp only [upd]; repeat rw [if_neg (by omega)]
     ·simp [b60]
     ·refine ⟨by simp [b12],by simp [v12],_,by simp [argsR]; rfl,fun _ => ⟨_,by simp; rfl,by simp [cellsR]; cases tp <;> cases tp2 <;> exact ⟨rfl,rfl⟩⟩⟩
     ·simp [upd,q1,q2,q3,q4]
    | cons a r =>
     unfold argsR at v47
     obtain ⟨cs,hcs,hcm⟩ := w100 (by simp)
     rw [← v100] at hcs
     have hcl : cs.length = (r.length + 1) * 3 := by
      have := congrArg List.length hcm
      rw [List.length_map,cellsR_len,List.length_cons] at this
      exact this
     have hct : (cs.take ((r.length + 1) * 3)).map AV.strip1 = cellsR (a :: r) := by rw [List.take_of_length_le (by omega),hcm]
     simp [b12,v12,v47,b14,w14]
     refine Rd_dr_appO (i := 100) (g := g) (len := r.length + 1) (ea := true) (cs := cs) (ys := [.agg [.int .i64 0,.sl 3 [] .no,.sl 1 [] .no]]) (r := []) (by omega) (by simp) (by simp) (by simp) (by simp [hcs]) (by omega) (by simp [okEl]) (by simp at hr ⊢; omega) ?_
     rw [hct]
     have hln : (cellsR (a :: r)).length = (r.length + 1) * 3 := by rw [cellsR_len]; rfl
     have hc1 : (0 ≤ (r.length : Int) + 1 ∧ (r.length : Int) < (r.length : Int) + 1) := by omega
     have hput := putC_last (cellsR (a :: r)) (.int .i64 0) (.sl 3 [] .no) (.sl 1 [] .no)
     rw [hln] at hput
     simp [b12,v12,v47,b14,w14,newC,apartB,hc1,hln,hput,-putC_def]
     refine ⟨rfl,fin _ _ (fun x q => ?_) ?_ ?_ (fun i q1 q2 q3 q4 => ?_)⟩
     ·simp only [upd]; repeat rw [if_neg (by omega)]
     ·simp [b60]
     ·refine ⟨by simp [b12],by simp [v12],_,by simp [argsR]; rfl,fun _ => ⟨_,by simp; rfl,?_⟩⟩
      rw [cellsR_snoc,List.map_append]
      congr 1
      ·rw [← hcm,List.map_map]
       refine List.map_congr_left fun c _ => ?_
       cases c <;> rfl
      ·cases tp <;> cases tp2 <;> rfl
     ·simp [upd,q1,q2,q3,q4]
  all_goals simp [*,encA]
end Go.Ab.Tab
/- The program's Reverse (53). -/
namespace Go.Ab.Tab
open Go Go.Ab
set_option maxRecDepth 10000
set_option linter.unusedVariables false
set_option linter.unusedSimpArgs false
@[simp] theorem encAu_one (p) : (encV (mkAu p)).one = false := by rw [encV_au]; rfl
@[simp] theorem encAu_cells (p) : (encV (mkAu p)).cells = [.int .i64 0,.sl 3 [.agg [.int .i64 (if p.1 then 1 else 0),.sl 3 [] .no,.sl 1 [] .no],.agg [.int .i64 0,.sl 3 (p.2.map fun r => encV (mkRow r)) .no,.sl 1 [] .no]] .no,.sl 1 [] .no] := by rw [encV_au]; rfl
@[simp] theorem encAu_strip (p) : (encV (mkAu p)).strip = encV (mkAu p) := by rw [encV_au]; rfl
theorem groups_R : ∀ (r : List (List Nat)),groups 3 true r.length (cellsR r) = r.map fun x => encV (mkRow x)
 | [] => rfl
 | a :: r => by
  have e : cellsR (a :: r) = [.int .i64 0,.sl 3 (a.map fun x => encV (mkSt x)) .no,.sl 1 [] .no] ++ cellsR r := by simp [cellsR]
  rw [e,List.length_cons,groups,List.map_cons,encV_row]
  have e1 : (([.int .i64 0,.sl 3 (a.map fun x => encV (mkSt x)) .no,.sl 1 [] .no] : List AV) ++ cellsR r).take 3 = [.int .i64 0,.sl 3 (a.map fun x => encV (mkSt x)) .no,.sl 1 [] .no] := by simp
  have e2 : (([.int .i64 0,.sl 3 (a.map fun x => encV (mkSt x)) .no,.sl 1 [] .no] : List AV) ++ cellsR r).drop 3 = cellsR r := by simp
  rw [e1,e2,groups_R r]; rfl
def killsR (D : Nat) : List (List Nat) → List (Nat × Nat)
 | [] => [(D,47)]
 | _ :: _ => [(D,47),(D,100)]
theorem frz_R {D : Nat} {τ : Nat → AV} {ω : Nat → Ent} {S : Nat → Nat → Ent} {g12 g47 : Nat} {b : Bool} {r : List (List Nat)} (hV : V53 D g12 g47 (if b then 1 else 0) τ ω r) (τ' : Nat → AV) :
  frz (stF 134 D τ' ω S) frzD (.agg [.int .i64 0,.own D 47 g47 0 2 3 true,.sl 1 [] .no]) = some (encV (mkAu (b,r)),killsR D r) := by
 obtain ⟨_,_,g,w47,w100⟩ := hV
 have h47 : ∀ n : Nat,frz (stF 134 D τ' ω S) (n + 3) (.own D 47 g47 0 2 3 true) = some (.sl 3 [.agg [.int .i64 (if b then 1 else 0),.sl 3 [] .no,.sl 1 [] .no],.agg [.int .i64 0,.sl 3 (r.map fun x => encV (mkRow x)) .no,.sl 1 [] .no]] .no,killsR D r) := by
  intro n
  have hA : frz (stF 134 D τ' ω S) (n + 2) (argsR D g r) = some (.sl 3 (r.map fun x => encV (mkRow x)) (match r with | [] => .nil | _ => .no),(killsR D r).drop 1) := by
   cases r with
   | nil => rfl
   | cons a r =>
    obtain ⟨cs,hcs,hcm⟩ := w100 (by simp)
    have hcl : cs.length = (r.length + 1) * 3 := by
     have := congrArg List.length hcm
     rw [List.length_map,cellsR_len,List.length_cons] at this
     exact this
    have hst : ∀ c ∈ cs,c.still1 = true := by
     intro c hc
     have : c.strip1 ∈ cellsR (a :: r) := by rw [← hcm]; exact List.mem_map.2 ⟨c,hc,rfl⟩
     unfold cellsR at this
     obtain ⟨x,_,hx⟩ := List.mem_flatMap.1 this
     refine still1_of_strip1 rfl ?_
     simp only [List.mem_cons,List.mem_nil_iff,or_false] at hx
     rcases hx with e | e | e <;> rw [e] <;> rfl
    have hone : cs.all AV.one = true := by
     rw [List.all_eq_true]
     intro c hc
     have := hst c hc
     cases c <;> first | rfl | cases this
    rw [argsR,frz]
    simp only [stF_look,if_true,show (100 < 134) = True by simp,hcs,stF_D]
    rw [if_pos ⟨trivial,trivial,by omega,.inl trivial,hone⟩]
    rw [List.drop_zero,List.take_of_length_le (by omega),mapM_still _ n hst]
    have e1 : (cs.map fun c => (c,([] : List (Nat × Nat)))).map (fun x => x.1.strip1) = cellsR (a :: r) := by rw [List.map_map]; exact hcm
    have e2 : ((cs.map fun c => (c,([] : List (Nat × Nat)))).map (·.2)).flatten = [] := by
     rw [List.map_map]
     simp
    simp only [e1,e2]
    have := groups_R (a :: r)
    rw [List.length_cons] at this
    rw [this]
    simp [killsR]
  rw [frz]
  simp only [stF_look,if_true,show (47 < 134) = True by simp,w47,stF_D]
  have hone : ([.int .i64 (if b then 1 else 0),.sl 3 [] .nil,.sl 1 [] .nil,.int .i64 0,argsR D g r,.sl 1 [] .nil] : List AV).all AV.one = true := by cases r <;> rfl
  rw [if_pos ⟨trivial,trivial,by simp,.inl trivial,hone⟩]
  simp only [List.drop_zero,List.take,List.mapM_cons,List.mapM_nil,hA,frz_int,frz_sl,Option.pure_def,Option.bind_eq_bind,Option.bind_some]
  cases r <;> rfl
 rw [frzD,frz]
 simp only [List.mapM_cons,List.mapM_nil,frz_int,frz_sl,h47 16,Option.pure_def,Option.bind_eq_bind,Option.bind_some]
 rw [encV_au]
 simp
def revP (A : PA) (u : BS) : Nat → Nat → List (Bool × List (List Nat))
 | 0,_ => []
 | m + 1,y => (u.has y,preLs A y A.k 0) :: revP A u m (y + 1)
theorem revP_len (A : PA) (u : BS) : ∀ (m y : Nat),(revP A u m y).length = m
 | 0,_ => rfl
 | m + 1,y => by rw [revP,List.length_cons,revP_len A u m]
def e10 (k : Nat) (rs : List (Bool × List (List Nat))) : Ent := (1,.cells [.int .i64 2,.int .i64 0,.sl 3 ([.mk 1 2 [],.mk 4 k [.mk 5 0 [.mk 0 0 []]]].map encF) .no,.sl 3 (rs.map fun p => encV (mkAu p)) .tip])
theorem l53_2 (D : Nat) (A : PA) (hn : A.n ≤ 100) (hk4 : A.k ≤ 4) (hrows : A.rows.length = A.n) (hw : ∀ r ∈ A.rows,A.k ≤ r.length) (u : BS) (K : List AI) (W : Way → St → Prop) (S) (τ0 : Nat → AV) (ω0 : Nat → Ent) (h7 : τ0 7 = encA A) (h8 : τ0 8 = .ptr D 8 1 0) (h10 : τ0 10 = .ptr D 10 1 0) (h43 : τ0 43 = .int .i64 A.n) (w8 : ω0 8 = (1,.cells [.int .u64 u.1.toNat,.int .u64 u.2.toNat])) :
  ∀ (m y : Nat) (rs : List (Bool × List (List Nat))) (τ ω),y + m = A.n → rs.length = y → (∀ x,x < 11 → τ x = τ0 x) → τ 43 = τ0 43 → τ 44 = .int .i64 y → (∀ i,i < 10 → ω i = ω0 i) → ω 10 = e10 A.k rs →
  (∀ τ' ω',(∀ x,x < 11 → τ' x = τ0 x) → (∀ i,i < 10 → ω' i = ω0 i) → ω' 10 = e10 A.k (rs ++ revP A u m y) → RunW (Loc Pg Gl) W K (stF 134 D τ' ω' S)) →
  RunW (Loc Pg Gl) W (.lp c53_l2 :: .blk 0 :: K) (stF 134 D τ ω S) := by
 intro m
 induction m with
 | zero =>
  intro y rs τ ω hy hr hτ h43' h44 hω w10 hend
  refine RunW_lpE c53_l2.eq_1 ?_
  obtain rfl : y = A.n := by omega
  rw [h43] at h43'
  refine .seq (RunW_pre (k1 := [_]) ?_)
  simp [h43',h44]
  refine ⟨rfl,.seq (.cond (t := false) (by simp) (.exit (k' := K) (by simp) ?_))⟩
  rw [revP,List.append_nil] at hend
  refine hend _ _ (fun x h1 => ?_) hω w10
  rw [← hτ x h1]; simp only [upd]; repeat rw [if_neg (by omega)]
 | succ m ih =>
  intro y rs τ ω hy hr hτ h43' h44 hω w10 hend
  refine RunW_lpE c53_l2.eq_1 ?_
  have hlt : y < A.n := by omega
  have hwr : IntKind.i64.wrap ((y : Int) + 1) = ((y + 1 : Nat) : Int) := by rw [← wrap_i64_nat (n := y + 1) (by omega)]; rfl
  have a43 := h43'.trans h43
  have a7 := (hτ 7 (by decide)).trans h7
  have a8 := (hτ 8 (by decide)).trans h8
  have a10 := (hτ 10 (by decide)).trans h10
  have v8 := (hω 8 (by decide)).trans w8
  rw [revP] at hend
  have hap : rs ++ (u.has y,preLs A y A.k 0) :: revP A u m (y + 1) = (rs ++ [(u.has y,preLs A y A.k 0)]) ++ revP A u m (y + 1) := by simp
  rw [hap] at hend
  refine .seq (RunW_pre (k1 := [_]) ?_)
  simp [a43,h44]
  refine ⟨rfl,.seq (.cond (t := true) (by simp; omega) (.skip (.seq (.block (.seq (RunW_pre (k1 := [_]) ?_))))))⟩
  simp [h44]
  refine ⟨rfl,.seq (RunW_pre (k1 := [_]) ?_)⟩
  simp
  have rest : ∀ (g12 g47 : Nat) (τ1 : Nat → AV) (ω1 : Nat → Ent),(∀ x,x < 11 → τ1 x = τ0 x) → τ1 11 = .int .i64 y → τ1 43 = .int .i64 A.n → τ1 44 = .int .i64 y → (∀ i,i < 10 → ω1 i = ω0 i) → ω1 10 = e10 A.k rs → V53 D g12 g47 (if u.has y then 1 else 0) τ1 ω1 [] →
    RunW (Loc Pg Gl) W (.c c53_j0 :: .blk 1 :: .c c53_k3 :: .lp c53_l2 :: .blk 0 :: K) (stF 134 D τ1 ω1 S) := by
   intro g12 g47 τ1 ω1 hτ1 b11 b43 b44 hω1 v10 hV1
   unfold c53_j0
   have b7 : τ1 7 = encA A := (hτ1 7 (by decide)).trans h7
   have b10 : τ1 10 = .ptr D 10 1 0 := (hτ1 10 (by decide)).trans h10
   refine .seq (.seq (RunW_pre (k1 := [_]) ?_))
   simp [b7,encA]
   refine ⟨rfl,.block (RunW_loop ?_)⟩
   refine l53_1 D A hn hk4 hrows hw y (by omega) g12 g47 (if u.has y then 1 else 0) _ W S _ ω1 ?_ ?_ ?_ A.k 0 [] _ _ (by omega) rfl (fun x _ _ _ _ => rfl) ?_ ?_ (fun i _ _ _ _ => rfl) ?_
   case refine_6 =>
    intro τ2 ω2 hτ2 hV2 hω2
    rw [List.nil_append] at hV2
    have q47 := hV2
    obtain ⟨c12,u12,_⟩ := hV2
    have c10 : τ2 10 = .ptr D 10 1 0 := by rw [hτ2 10 (by decide) (by decide) (by decide) (by decide)]; simp [b10]
    have c44 : τ2 44 = .int .i64 y := by rw [hτ2 44 (by decide) (by decide) (by decide) (by decide)]; simp [b44]
    have c43 : τ2 43 = .int .i64 A.n := by rw [hτ2 43 (by decide) (by decide) (by decide) (by decide)]; simp [b43]
    have cτ : ∀ x,x < 11 → τ2 x = τ0 x := fun x q => by
     rw [hτ2 x (by omega) (by omega) (by omega) (by omega),← hτ1 x q]; simp only [upd]; repeat rw [if_neg (by omega)]
    have u10 : ω2 10 = e10 A.k rs := by rw [hω2 10 (by decide) (by decide) (by decide) (by decide),v10]
    have cω : ∀ i,i < 10 → ω2 i = ω0 i := fun i q => by rw [hω2 i (by omega) (by omega) (by omega) (by omega),hω1 i q]
    generalize preLs A y A.k 0 = r at q47 hend
    have hfz : ∀ τ' e,frz (stF 134 D τ' (upd ω2 10 e) S) frzD (.agg [.int .i64 0,.own D 47 g47 0 2 3 true,.sl 1 [] .no]) = some (encV (mkAu (u.has y,r)),killsR D r) := by
     intro τ' e
     refine frz_R (τ := τ2) (g12 := g12) ⟨c12,by simp [u12],?_⟩ τ'
     obtain ⟨g,q1,q2⟩ := q47.w47
     exact ⟨g,by simp [q1],fun h => by obtain ⟨cs,q3,q4⟩ := q2 h; exact ⟨cs,by simp [q3],q4⟩⟩
    have fin : ∀ (τ3 : Nat → AV) (ω3 : Nat → Ent),(∀ x,x < 11 → τ3 x = τ2 x) → τ3 43 = τ2 43 → τ3 44 = τ2 44 → (∀ i,i < 10 → ω3 i = ω2 i) → ω3 10 = e10 A.k (rs ++ [(u.has y,r)]) →
      RunW (Loc Pg Gl) W (.blk 1 :: .c c53_k3 :: .lp c53_l2 :: .blk 0 :: K) (stF 134 D τ3 ω3 S) := by
     intro τ3 ω3 d1 d43 d44 d2 d3
     refine .blk (RunW_pre (k1 := [_]) ?_)
     unfold c53_k3
     simp [d44,c44,hwr]
     refine ⟨rfl,ih (y + 1) (rs ++ [(u.has y,r)]) _ _ (by omega) (by simp; omega) (fun x q => ?_) ?_ ?_ (fun i q => (d2 i q).trans (cω i q)) d3 hend⟩
     ·rw [← cτ x q,← d1 x q]; simp only [upd]; repeat rw [if_neg (by omega)]
     ·simp [d43,c43,h43]
     ·simp
    refine RunW_pre (k1 := [_]) ?_
    unfold c53_k2
    unfold e10 at u10
    have hle : (rs.length + 1) * 56 ≤ 1099511627776 := by omega
    cases r with
    | nil =>
     simp [c10,u10,c12,u12,hfz,hle,killsR,-frzD_agg]
     refine ⟨rfl,fin _ _ (fun x q => ?_) ?_ ?_ (fun i q => ?_) ?_⟩
     ·simp only [upd]; repeat rw [if_neg (by omega)]
     ·simp
     ·simp
     ·simp only [upd]; repeat rw [if_neg (by omega)]
     ·simp [e10]
    | cons a r =>
     simp [c10,u10,c12,u12,hfz,hle,killsR,-frzD_agg]
     refine ⟨rfl,fin _ _ (fun x q => ?_) ?_ ?_ (fun i q => ?_) ?_⟩
     ·simp only [upd]; repeat rw [if_neg (by omega)]
     ·simp
     ·simp
     ·simp only [upd]; repeat rw [if_neg (by omega)]
     ·simp [e10]
   case refine_5 =>
    obtain ⟨q1,q2,q3⟩ := hV1
    exact ⟨by simp [q1],q2,q3⟩
   all_goals simp [b7,b11,encA]
  refine ⟨rfl,.seq (.seq (RunW_pre (k1 := [_]) ?_))⟩
  simp [a8,v8]
  refine Rd_call (spec94 _ u y (by omega)) (by simp [encS]) ?_
  simp
  refine ⟨rfl,.cond (t := u.has y) (by simp) ?_⟩
  cases hb : u.has y with
  | false =>
   rw [hb] at rest
   refine .skip (rest ((ω 12).1 + 1) ((ω 47).1 + 1) _ _ (fun x q => ?_) ?_ ?_ ?_ (fun i q => ?_) ?_ ?_)
   ·rw [← hτ x q]; simp only [upd]; repeat rw [if_neg (by omega)]
   ·simp
   ·simp [a43]
   ·simp [h44]
   ·rw [← hω i q]; simp only [upd]; repeat rw [if_neg (by omega)]
   ·simp [w10]
   ·exact ⟨by simp,by simp,0,by simp [argsR],by simp⟩
  | true =>
   rw [hb] at rest
   refine RunW_pre (k1 := [_]) ?_
   simp
   refine ⟨rfl,rest ((ω 12).1 + 1) ((ω 47).1 + 1) _ _ (fun x q => ?_) ?_ ?_ ?_ (fun i q => ?_) ?_ ?_⟩
   ·rw [← hτ x q]; simp only [upd]; repeat rw [if_neg (by omega)]
   ·simp
   ·simp [a43]
   ·simp [h44]
   ·rw [← hω i q]; simp only [upd]; repeat rw [if_neg (by omega)]
   ·simp [w10]
   ·exact ⟨by simp,by simp,0,by simp [argsR],by simp⟩
theorem spec53_bad (D : Nat) (s : Sy) (hf : fitF s.f) (hl : s.m.length ≤ maxLen) (hv : ∀ v ∈ s.m,fitV v) (hb : nodesVs s.m ≤ 2 ^ 32) (h : isY s = false ∨ lettersF s.f = 0) (x : List Int) :
  Go.Ab.Loc Pg Gl D 53 [encY s,encI x] [] (errDet (if isY s then 1 else 30)) [] := by
 have h88 := spec88_bad (D + 1) s hf hl hv hb h (encI x)
 have hne : (if isY s then (1 : Int) else 30) ≠ 0 := by split <;> decide
 refine loc_rd mixedP tok rfl rfl fun S => ?_
 unfold c53
 generalize (if isY s then (1 : Int) else 30) = c at *
 generalize hr : errDet c = r
 have hE := encY.eq_1 s
 rw [hE] at h88 ⊢
 simp
 refine Rd_call h88 (by simp [encI]) ?_
 simp [zS,encS,hne]
 rw [← hr,errDet,zeroY]
def rRev (k : Nat) (A : PA) (rs : List (Bool × List (List Nat))) : AV :=
 if isY (auY k rs) then .tup [encY (auY k rs),.sl 1 (A.F.list.map encN) .no,.int .i64 0] else errDet 2
theorem spec53_ok (D k : Nat) (ps : List (Bool × List (List Nat))) (hps : AuOk k ps) (hrl : ∀ p ∈ ps,∀ r ∈ p.2,r.length ≤ maxLen) (hY : isY (auY k ps) = true) (hv : ∀ v ∈ (auY k ps).m,fitV v) (hb : nodesVs (auY k ps).m ≤ 2 ^ 32)
  (hrows : (paOf k ps).rows.length = (paOf k ps).n) (hw : ∀ r ∈ (paOf k ps).rows,(paOf k ps).k ≤ r.length) (l : List Int) (hl : l.length ≤ maxLen)
  (rs : List (Bool × List (List Nat))) (hrs : rs = revP (paOf k ps) (toS l) (paOf k ps).n 0) (hfR : fitF (auY k rs).f) (hlR : rs.length ≤ maxLen) (hvR : ∀ v ∈ (auY k rs).m,fitV v) (hbR : nodesVs (auY k rs).m ≤ 2 ^ 32) :
  Go.Ab.Loc Pg Gl D 53 [encY (auY k ps),encI l] [] (if isSet ps.length l then rRev k (paOf k ps) rs else errDet 1) [] := by
 have hn := hps.len
 have hk4 := hps.kle
 have h88 := spec88_ok (D + 1) k ps hps hrl hY hv hb l hl
 have h95 := spec95 (auY k rs) hfR (by simpa [auY] using hlR) hvR hbR (D + 1)
 have hAn : (paOf k ps).n ≤ 100 := hn
 have hAk : (paOf k ps).k ≤ 4 := hk4
 have hkk : (paOf k ps).k = k := rfl
 generalize hA : paOf k ps = A at *
 subst hkk
 rw [encY_au] at h88 h95 ⊢
 obtain ⟨fn,code,t1,t2,t3,t4,t5,t6⟩ := tok 53 _ rfl
 generalize hr : (if isSet ps.length l then rRev A.k A rs else errDet 1) = r
 refine loc_of_run (L := Lx) mixedP t1 t2 t3 t4 t5 fun S hS => ?_
 rw [t6,start_stF _ _ _ _ (by simp)]
 refine RunW.imp (Q := fnQ (RetQ [.cell 4 true 4,.tmp 5,.tmp 6] r S)) (fun w s' h => by
  have hq : RetQ [.cell 4 true 4,.tmp 5,.tmp 6] r S s' → resV s' [.cell 4 true 4,.tmp 5,.tmp 6] = some r ∧ ∀ d i,d ≠ D → s'.S d i = upds S [] d i := fun h => ⟨h.1,fun d i hd => by rw [h.2]; rfl⟩
  cases w with
  | fall => exact hq h
  | ret => exact hq h
  | exit => exact h
  | stop => exact h) ?_
 unfold c53
 refine .seq (RunW_pre (k1 := [_]) ?_)
 simp
 refine ⟨rfl,.seq (RunW_pre (k1 := [_]) ?_)⟩
 simp
 refine Rd_call h88 (by simp [encI]) ?_
 cases hs : isSet ps.length l with
 | false =>
  rw [hs] at hr
  simp [zS,encS]
  refine ⟨rfl,.seq (.seq (RunW_pre (k1 := [_]) ?_))⟩
  simp
  refine ⟨rfl,.cond (t := true) (by simp) (Rd.run (own := .im) ?_)⟩
  simp [← hr,errDet,zeroY]
 | true =>
 rw [hs,if_pos rfl] at hr
 simp [encS]
 refine ⟨rfl,.seq (.seq (RunW_pre (k1 := [_]) ?_))⟩
 simp
 refine ⟨rfl,.cond (t := false) (by simp) (.skip (.seq (RunW_pre (k1 := [_]) ?_)))⟩
 simp [encA]
 refine ⟨rfl,.seq (.seq (RunW_pre (k1 := [_]) ?_))⟩
 simp [encA]
 refine ⟨rfl,.block (RunW_loop ?_)⟩
 refine l53_2 D A hAn hAk hrows hw (toS l) _ _ S _ _ ?_ ?_ ?_ ?_ ?_ A.n 0 [] _ _ (by omega) rfl (fun x _ => rfl) rfl ?_ (fun i _ => rfl) ?_ ?_
 case refine_8 =>
  intro τ1 ω1 hτ1 hω1 w10
  have a4 : τ1 4 = .ptr D 4 1 0 := by rw [hτ1 4 (by decide)]; simp
  have a7 : τ1 7 = encA A := by rw [hτ1 7 (by decide)]; simp [encA]
  have a10 : τ1 10 = .ptr D 10 1 0 := by rw [hτ1 10 (by decide)]; simp
  have v4 : ω1 4 = (1,.cells [.int .i64 0,.int .i64 0,.sl 3 [] .tip,.sl 3 [] .tip]) := by rw [hω1 4 (by decide)]; simp
  rw [List.nil_append,← hrs] at w10
  unfold c53_k4
  unfold e10 at w10
  refine Rd.run (own := .im) ?_
  simp [a10,w10]
  refine Rd_call h95 (by simp [List.map_map,Function.comp_def]) ?_
  cases hyr : isY (auY A.k rs) with
  | false =>
   simp [a4,v4,← hr,rRev,hyr,errDet,zeroY]
  | true =>
   simp [a10,w10,a7,encA]
   refine Rd_drCall (spec61 _ A.F) (by simp [encS]) ?_
   simp [a4,v4,← hr,rRev,hyr,encY_au]
 all_goals simp [encA,e10,encF_mk]
end Go.Ab.Tab
/- The reference's Index (96) and Reverse (54): the inner loops. -/
namespace Go.Ab.Tab
open Go Go.Ab
set_option maxRecDepth 10000
set_option linter.unusedVariables false
set_option linter.unusedSimpArgs false
def idxI (x : Int) : Nat → List Int → Option Nat
 | _,[] => none
 | k,y :: l => if y = x then some k else idxI x (k + 1) l
theorem idxI_mem {x : Int} : ∀ {l : List Int} {k : Nat},0 ≤ optN (idxI x k l) ↔ x ∈ l
 | [],k => by simp [idxI,optN]
 | y :: l,k => by
  rw [idxI]
  by_cases h : y = x
  ·rw [if_pos h]; simp [optN,h]
  ·rw [if_neg h,idxI_mem,List.mem_cons]
   exact ⟨.inr,fun q => q.resolve_left fun e => h e.symm⟩
theorem l96 (D : Nat) (l : List Int) (x : Int) (hlen : l.length ≤ maxLen) (S) : ∀ (m i : Nat) (τ ω) (r : AV),i + m = l.length →
  τ 1 = .int .i64 x → τ 7 = encI l → τ 8 = .int .i64 l.length → τ 9 = .int .i64 i → r = .int .i64 (optN (idxI x i (l.drop i))) →
  Rd (Loc Pg Gl) .im (RetQ [.tmp 4] r S) [.lp c96_l0,.blk 0,.c c96_k0] (stF 19 D τ ω S) := by
 intro m
 induction m with
 | zero =>
  intro i τ ω r hi h1 h7 h8 h9 hr
  refine Rd_lpE c96_l0.eq_1 ?_
  obtain rfl : i = l.length := by omega
  rw [List.drop_length,idxI,optN] at hr
  simp [h7,h8,h9,c96_k0,encI,hr]
 | succ m ih =>
  intro i τ ω r hi h1 h7 h8 h9 hr
  refine Rd_lpE c96_l0.eq_1 ?_
  have hlt : i < l.length := by omega
  have hwr := wrap_next hlt hlen
  obtain ⟨y,hy⟩ : ∃ y,l[i] = y := ⟨_,rfl⟩
  rw [List.drop_eq_getElem_cons hlt,hy,idxI] at hr
  by_cases e : y = x
  ·rw [if_pos e,optN] at hr
   simp [h1,h7,h8,h9,encI,hlt,hy,e,hr]
  ·rw [if_neg e] at hr
   simp [h1,h7,h8,h9,encI,hlt,hy,e,hwr]
   refine ih (i + 1) _ _ r (by omega) ?_ ?_ ?_ ?_ hr
   all_goals simp [h1,h7,h8,encI]
theorem spec96 (D : Nat) (l : List Int) (x : Int) (hlen : l.length ≤ maxLen) : Go.Ab.Loc Pg Gl D 96 [encI l,.int .i64 x] [] (.int .i64 (optN (idxI x 0 l))) [] := by
 refine loc_rd mixedP tok rfl rfl fun S => ?_
 unfold c96
 generalize hr : AV.int .i64 (optN (idxI x 0 l)) = r
 simp [encI]
 refine l96 D l x hlen S l.length 0 _ _ r (by omega) ?_ ?_ ?_ ?_ (by rw [← hr]; simp)
 all_goals simp [encI]
theorem mem_lN {n : Nat} {u : BS} {y : Nat} (hy : y < n) : (y : Int) ∈ lN n u ↔ u.has y = true := by
 rw [lN,List.mem_map]
 constructor
 ·rintro ⟨x,hx,e⟩
  obtain rfl : x = y := by omega
  exact (List.mem_filter.1 hx).2
 ·intro h
  exact ⟨y,List.mem_filter.2 ⟨List.mem_range.2 hy,h⟩,rfl⟩
theorem nxt_row (k : Nat) (ps : Aut) (x a : Nat) : nxtL ps a [(x : Int)] = rowA (paOf k ps) x a := by
 rw [nxtL,nxtL,or_zero,Int.toNat_natCast,rowA_cell,cellA_paOf]
theorem l54_1 (D k a : Nat) (ps : Aut) (hps : AuOk k ps) (ha : a < k) (hrl : ∀ p ∈ ps,∀ r ∈ p.2,r.length ≤ maxLen) (y : Nat) (hy : y < ps.length) (g15 : Nat) (Q : St → Prop) (K : List AI) (S) (τ0 : Nat → AV) (ω0 : Nat → Ent)
  (h2 : τ0 2 = .ptr D 2 1 0) (h12 : τ0 12 = .int .i64 y) (h14 : τ0 14 = .int .i64 a) (h15 : τ0 15 = .ptr D 15 g15 0) (FL : List AV) (hY : encY (auY k ps) = .agg [.int .i64 2,.int .i64 0,.sl 3 FL .no,.sl 3 (ps.map fun p => encV (mkAu p)) .no])
  (w2 : ω0 2 = (1,.cells [.int .i64 2,.int .i64 0,.sl 3 FL .no,.sl 3 (ps.map fun p => encV (mkAu p)) .no])) :
  ∀ (m x : Nat) (acc : List Nat) (tp tp2) (τ ω),x + m = ps.length → acc.length ≤ x → (tp = .tip ∨ tp = .nil) →
  τ 60 = .int .i64 ps.length → τ 61 = .int .i64 x → (∀ z,z < 60 → z ≠ 16 → τ z = τ0 z) →
  ω 15 = (g15,.cells [.int .i64 0,.sl 3 (acc.map fun x => encV (mkSt x)) tp,.sl 1 [] tp2]) → (∀ i,i ≠ 15 → ω i = ω0 i) →
  (∀ τ' ω' tp tp2,(tp = .tip ∨ tp = .nil) → (∀ z,z < 60 → z ≠ 16 → τ' z = τ0 z) → ω' 15 = (g15,.cells [.int .i64 0,.sl 3 ((acc ++ preL (paOf k ps) y a x m).map fun x => encV (mkSt x)) tp,.sl 1 [] tp2]) → (∀ i,i ≠ 15 → ω' i = ω0 i) → Rd (Loc Pg Gl) .im Q K (stF 107 D τ' ω' S)) →
  Rd (Loc Pg Gl) .im Q (.lp c54_l1 :: .blk 6 :: K) (stF 107 D τ ω S) := by
 have hn := hps.len
 intro m
 induction m with
 | zero =>
  intro x acc tp tp2 τ ω hx hacc htp h60 h61 hτ w15 hω hend
  refine Rd_lpE c54_l1.eq_1 ?_
  obtain rfl : x = ps.length := by omega
  rw [preL,List.range'_zero,List.filter_nil,List.append_nil] at hend
  simp [h60,h61]
  refine hend _ _ tp tp2 htp (fun z q1 q2 => ?_) w15 hω
  rw [← hτ z q1 q2]; simp only [upd]; repeat rw [if_neg (by omega)]
 | succ m ih =>
  intro x acc tp tp2 τ ω hx hacc htp h60 h61 hτ w15 hω hend
  refine Rd_lpE c54_l1.eq_1 ?_
  have hlt : x < ps.length := by omega
  have hwr : IntKind.i64.wrap ((x : Int) + 1) = ((x + 1 : Nat) : Int) := by rw [← wrap_i64_nat (n := x + 1) (by omega)]; rfl
  have a2 := (hτ 2 (by decide) (by decide)).trans h2
  have a12 := (hτ 12 (by decide) (by decide)).trans h12
  have a14 := (hτ 14 (by decide) (by decide)).trans h14
  have a15 := (hτ 15 (by decide) (by decide)).trans h15
  have v2 := (hω 2 (by decide)).trans w2
  have hb1 : Below ps.length [(x : Int)] := by intro z hz; rw [List.mem_singleton] at hz; subst hz; omega
  have s49 := spec49 (D + 1) k a ps hps ha hrl [(x : Int)] hb1 (by simp [maxLen])
  rw [nxt_row k] at s49
  have s96 := spec96 (D + 1) (lN ps.length (rowA (paOf k ps) x a)) y (by have := lN_len ps.length (rowA (paOf k ps) x a); unfold maxLen; omega)
  have hge : (0 ≤ optN (idxI (y : Int) 0 (lN ps.length (rowA (paOf k ps) x a)))) ↔ (rowA (paOf k ps) x a).has y = true := idxI_mem.trans (mem_lN hy)
  rw [hY] at s49
  rw [preL_succ] at hend
  have hle : (acc.length + 1) * 56 ≤ 1099511627776 := by omega
  simp [h60,h61,hlt,a2,v2,a14]
  refine Rd_call s49 (by simp [encI]) ?_
  simp [a12]
  refine Rd_call s96 (by simp) ?_
  cases hb : (rowA (paOf k ps) x a).has y with
  | false =>
   rw [hb] at hend hge
   have hge2 : ¬ 0 ≤ optN (idxI (y : Int) 0 (lN ps.length (rowA (paOf k ps) x a))) := fun h => by simpa using hge.1 h
   simp [hge2,h61,hwr]
   refine ih (x + 1) acc tp tp2 _ _ (by omega) (by omega) htp ?_ ?_ (fun z q1 q2 => ?_) w15 hω hend
   ·simp [h60]
   ·simp
   ·rw [← hτ z q1 q2]; simp only [upd]; repeat rw [if_neg (by omega)]
  | true =>
   rw [hb] at hend hge
   have hge2 := hge.2 rfl
   simp [hge2,h61,hwr,a15,w15,htp,hle]
   refine ih (x + 1) (acc ++ [x]) .tip tp2 _ _ (by omega) (by simp; omega) (.inl rfl) ?_ ?_ (fun z q1 q2 => ?_) ?_ (fun i q => ?_) ?_
   ·simp [h60]
   ·simp
   ·rw [← hτ z q1 q2]; simp only [upd]; repeat rw [if_neg (by omega)]
   ·simp [encV_st]
   ·rw [← hω i q]; simp [upd,q]
   ·rw [List.append_assoc]; exact hend
theorem l54_2 (D k : Nat) (ps : Aut) (hps : AuOk k ps) (hrl : ∀ p ∈ ps,∀ r ∈ p.2,r.length ≤ maxLen) (y : Nat) (hy : y < ps.length) (g13 : Nat) (Q : St → Prop) (K : List AI) (S) (τ0 : Nat → AV) (ω0 : Nat → Ent)
  (h2 : τ0 2 = .ptr D 2 1 0) (h12 : τ0 12 = .int .i64 y) (h13 : τ0 13 = .ptr D 13 g13 0) (FL : List AV) (hY : encY (auY k ps) = .agg [.int .i64 2,.int .i64 0,.sl 3 FL .no,.sl 3 (ps.map fun p => encV (mkAu p)) .no])
  (w2 : ω0 2 = (1,.cells [.int .i64 2,.int .i64 0,.sl 3 FL .no,.sl 3 (ps.map fun p => encV (mkAu p)) .no])) :
  ∀ (m a : Nat) (acc : List (List Nat)) (tp tp2) (τ ω),a + m = k → acc.length = a → (tp = .tip ∨ tp = .nil) →
  τ 53 = .int .i64 k → τ 54 = .int .i64 a → (∀ z,z < 53 → z ≠ 14 → z ≠ 15 → z ≠ 16 → τ z = τ0 z) →
  ω 13 = (g13,.cells [.int .i64 0,.sl 3 (acc.map fun x => encV (mkRow x)) tp,.sl 1 [] tp2]) → (∀ i,i ≠ 13 → i ≠ 15 → ω i = ω0 i) →
  (∀ τ' ω' tp tp2,(tp = .tip ∨ tp = .nil) → (∀ z,z < 53 → z ≠ 14 → z ≠ 15 → z ≠ 16 → τ' z = τ0 z) → ω' 13 = (g13,.cells [.int .i64 0,.sl 3 ((acc ++ preLs (paOf k ps) y m a).map fun x => encV (mkRow x)) tp,.sl 1 [] tp2]) → (∀ i,i ≠ 13 → i ≠ 15 → ω' i = ω0 i) → Rd (Loc Pg Gl) .im Q K (stF 107 D τ' ω' S)) →
  Rd (Loc Pg Gl) .im Q (.lp c54_l2 :: .blk 4 :: K) (stF 107 D τ ω S) := by
 have hn := hps.len
 have hk4 := hps.kle
 intro m
 induction m with
 | zero =>
  intro a acc tp tp2 τ ω hx hacc htp h53 h54 hτ w13 hω hend
  refine Rd_lpE c54_l2.eq_1 ?_
  obtain rfl : a = k := by omega
  rw [preLs,List.append_nil] at hend
  simp [h53,h54]
  refine hend _ _ tp tp2 htp (fun z q1 q2 q3 q4 => ?_) w13 hω
  rw [← hτ z q1 q2 q3 q4]; simp only [upd]; repeat rw [if_neg (by omega)]
 | succ m ih =>
  intro a acc tp tp2 τ ω hx hacc htp h53 h54 hτ w13 hω hend
  refine Rd_lpE c54_l2.eq_1 ?_
  have hlt : a < k := by omega
  have hwr : IntKind.i64.wrap ((a : Int) + 1) = ((a + 1 : Nat) : Int) := by rw [← wrap_i64_nat (n := a + 1) (by omega)]; rfl
  have a2 := (hτ 2 (by decide) (by decide) (by decide) (by decide)).trans h2
  have a12 := (hτ 12 (by decide) (by decide) (by decide) (by decide)).trans h12
  have a13 := (hτ 13 (by decide) (by decide) (by decide) (by decide)).trans h13
  have v2 := (hω 2 (by decide) (by decide)).trans w2
  rw [preLs] at hend
  have hpn : (paOf k ps).n = ps.length := rfl
  have hle : (acc.length + 1) * 56 ≤ 1099511627776 := by omega
  simp [h53,h54,hlt,a2,v2]
  refine l54_1 D k a ps hps hlt hrl y hy ((ω 15).1 + 1) Q _ S _ _ ?_ ?_ ?_ ?_ FL hY ?_ ps.length 0 [] .tip .tip _ _ (by omega) (by simp) (.inl rfl) ?_ ?_ (fun z _ _ => rfl) ?_ (fun i _ => rfl) ?_
  case refine_9 =>
   intro τ1 ω1 tp1 tp3 htp1 hτ1 w15 hω1
   rw [List.nil_append,← hpn] at w15
   generalize preL (paOf k ps) y a 0 (paOf k ps).n = to at w15 hend
   have hap : acc ++ to :: preLs (paOf k ps) y m (a + 1) = (acc ++ [to]) ++ preLs (paOf k ps) y m (a + 1) := by simp
   rw [hap] at hend
   have b13 : τ1 13 = .ptr D 13 g13 0 := by rw [hτ1 13 (by decide) (by decide)]; simp [a13]
   have b15 : τ1 15 = .ptr D 15 ((ω 15).1 + 1) 0 := by rw [hτ1 15 (by decide) (by decide)]; simp
   have b54 : τ1 54 = .int .i64 a := by rw [hτ1 54 (by decide) (by decide)]; simp [h54]
   have b53 : τ1 53 = .int .i64 k := by rw [hτ1 53 (by decide) (by decide)]; simp [h53]
   have v13 : ω1 13 = (g13,.cells [.int .i64 0,.sl 3 (acc.map fun x => encV (mkRow x)) tp,.sl 1 [] tp2]) := by rw [hω1 13 (by decide)]; simp [w13]
   simp [c54_k0,c54_k1,b13,b15,b54,w15,v13,htp,hle,hwr]
   refine ih (a + 1) (acc ++ [to]) .tip tp2 _ _ (by omega) (by simp; omega) (.inl rfl) ?_ ?_ (fun z q1 q2 q3 q4 => ?_) ?_ (fun i q1 q2 => ?_) hend
   ·simp [b53]
   ·simp
   ·have e := hτ1 z (by omega) q4
    rw [← hτ z q1 q2 q3 q4]
    simp only [upd] at e ⊢
    repeat rw [if_neg (by omega)] at e
    repeat rw [if_neg (by omega)]
    exact e
   ·simp [encV_row]
   ·have e := hω1 i q2
    rw [← hω i q1 q2]
    simp [upd,q1,q2] at e ⊢
    exact e
  all_goals simp [*]
end Go.Ab.Tab
/- The reference's Reverse (54). -/
namespace Go.Ab.Tab
open Go Go.Ab
set_option maxRecDepth 10000
set_option linter.unusedVariables false
set_option linter.unusedSimpArgs false
def vecY (n : Nat) (u : BS) (y : Nat) : List AV := (List.range n).map fun z => AV.bool (decide (z < y) && u.has z)
theorem vecY_full (n : Nat) (u : BS) : vecY n u n = vec n u := by
 unfold vecY vec
 refine List.map_congr_left fun z hz => ?_
 rw [decide_eq_true (List.mem_range.1 hz),Bool.true_and]
theorem vecY_zero (n : Nat) (u : BS) : vecY n u 0 = vec n (0#64,0#64) := by
 unfold vecY vec
 refine List.map_congr_left fun z hz => ?_
 simp [BS.has]
theorem vecY_len (n : Nat) (u : BS) (y : Nat) : (vecY n u y).length = n := by simp [vecY]
theorem vecY_set {n y : Nat} (u : BS) (hy : y < n) : (vecY n u y).take y ++ AV.bool (u.has y) :: (vecY n u y).drop (y + 1) = vecY n u (y + 1) := by
 apply List.ext_getElem?
 intro i
 by_cases h1 : i < y
 ·rw [List.getElem?_append_left (by simp [vecY]; omega),List.getElem?_take,if_pos h1]
  simp [vecY,show i < n by omega,h1,show i < y + 1 by omega]
 ·by_cases h2 : i = y
  ·subst h2
   rw [List.getElem?_append_right (by simp [vecY]; omega)]
   simp [vecY,hy,show min i n = i by omega]
  ·rw [List.getElem?_append_right (by simp [vecY]; omega)]
   have e : i - ((vecY n u y).take y).length = (i - y - 1) + 1 := by simp [vecY]; omega
   rw [e,List.getElem?_cons_succ,List.getElem?_drop]
   have e2 : y + 1 + (i - y - 1) = i := by omega
   rw [e2]
   by_cases h3 : i < n
   ·simp [vecY,h3,show ¬ i < y by omega,show ¬ i < y + 1 by omega]
   ·simp [vecY,h3]
theorem F_has {k : Nat} {ps : Aut} (hn : ps.length ≤ 100) {x : Nat} (hx : x < 128) : (paOf k ps).F.has x = ((ps[x]?).map (·.1)).getD false := by
 rw [Bool.eq_iff_iff]
 show (finF 0 ps (0#64,0#64)).has x = true ↔ _
 rw [has_finF hx ps 0 _ (by omega),has_zero]
 simp
theorem fin_one {k : Nat} {ps : Aut} (hn : ps.length ≤ 100) {y : Nat} (hy : y < ps.length) : finL ps [(y : Int)] = (paOf k ps).F.has y := by
 rw [F_has hn (by omega)]
 simp [finL]
theorem l54_0 (D k : Nat) (ps : Aut) (hn : ps.length ≤ 100) (l : List Int) (hl : Below ps.length l) (hlen : l.length ≤ maxLen) (Q : St → Prop) (K : List AI) (S) (τ0 : Nat → AV) (ω0 : Nat → Ent) (h9 : τ0 9 = .own D 27 1 0 ps.length 1 false) :
  ∀ (m i : Nat) (u : BS) (τ ω),i + m = l.length → (∀ z,z < 11 → τ z = τ0 z) → τ 28 = encI l → τ 29 = .int .i64 l.length → τ 30 = .int .i64 i → ω 27 = (1,.cells (vec ps.length u)) → (∀ i,i ≠ 27 → ω i = ω0 i) →
  (∀ τ' ω',(∀ z,z < 11 → τ' z = τ0 z) → ω' 27 = (1,.cells (vec ps.length (u.or (toS (l.drop i))))) → (∀ i,i ≠ 27 → ω' i = ω0 i) → Rd (Loc Pg Gl) .im Q K (stF 107 D τ' ω' S)) →
  Rd (Loc Pg Gl) .im Q (.lp c54_l0 :: .blk 0 :: K) (stF 107 D τ ω S) := by
 intro m
 induction m with
 | zero =>
  intro i u τ ω hi hτ h28 h29 h30 w27 hω hend
  refine Rd_lpE c54_l0.eq_1 ?_
  obtain rfl : i = l.length := by omega
  rw [List.drop_length] at hend
  have e0 : u.or (toS []) = u := or_zero u
  rw [e0] at hend
  simp [h28,h29,h30]
  refine hend _ _ (fun z q => ?_) w27 hω
  rw [← hτ z q]; simp only [upd]; repeat rw [if_neg (by omega)]
 | succ m ih =>
  intro i u τ ω hi hτ h28 h29 h30 w27 hω hend
  refine Rd_lpE c54_l0.eq_1 ?_
  have hlt : i < l.length := by omega
  have hwr := wrap_next hlt hlen
  obtain ⟨x,hx⟩ : ∃ x,l[i] = x := ⟨_,rfl⟩
  have hxb := hl x (by rw [← hx]; exact List.getElem_mem hlt)
  obtain ⟨y,rfl⟩ : ∃ y : Nat,x = y := ⟨x.toNat,by omega⟩
  have hy : y < ps.length := by omega
  have hy1 : y + 1 ≤ ps.length := hy
  have hd : l.drop i = (y : Int) :: l.drop (i + 1) := by rw [List.drop_eq_getElem_cons hlt,hx]
  have e : toS ((y : Int) :: l.drop (i + 1)) = (BS.single y).or (toS (l.drop (i + 1))) := rfl
  rw [hd,e,← or_assoc] at hend
  have hvl : (vec ps.length u).length = ps.length := by simp [vec]
  have a9 := (hτ 9 (by decide)).trans h9
  simp [h28,h29,h30,a9,w27,encI,hlt,hx,hy,hy1,hvl,hwr,vec_set (show ps.length ≤ 128 by omega)]
  refine ih (i + 1) (u.or (BS.single y)) _ _ (by omega) (fun z q => ?_) ?_ ?_ ?_ ?_ (fun i q => ?_) hend
  ·rw [← hτ z q]; simp only [upd]; repeat rw [if_neg (by omega)]
  ·simp [h28,encI]
  ·simp [h29]
  ·simp
  ·simp
  ·rw [← hω i q]; simp [upd,q]
theorem l54_3 (D k : Nat) (ps : Aut) (hps : AuOk k ps) (hrl : ∀ p ∈ ps,∀ r ∈ p.2,r.length ≤ maxLen) (hfT : fitF (auY k ps).f) (u : BS) (Q : St → Prop) (K : List AI) (S) (τ0 : Nat → AV) (ω0 : Nat → Ent)
  (h2 : τ0 2 = .ptr D 2 1 0) (h7 : τ0 7 = .ptr D 7 1 0) (h8 : τ0 8 = .own D 23 1 0 ps.length 1 false) (h9 : τ0 9 = .own D 27 1 0 ps.length 1 false) (h40 : τ0 40 = .int .i64 ps.length) (w27 : ω0 27 = (1,.cells (vec ps.length u)))
  (FL : List AV) (hY : encY (auY k ps) = .agg [.int .i64 2,.int .i64 0,.sl 3 FL .no,.sl 3 (ps.map fun p => encV (mkAu p)) .no])
  (w2 : ω0 2 = (1,.cells [.int .i64 2,.int .i64 0,.sl 3 FL .no,.sl 3 (ps.map fun p => encV (mkAu p)) .no])) :
  ∀ (m y : Nat) (rs : List (Bool × List (List Nat))) (tp) (τ ω),y + m = ps.length → rs.length = y → (tp = .tip ∨ tp = .nil) → (∀ z,z < 11 → τ z = τ0 z) → τ 40 = τ0 40 → τ 41 = .int .i64 y →
  (∀ i,i < 7 → ω i = ω0 i) → ω 27 = ω0 27 → ω 23 = (1,.cells (vecY ps.length (paOf k ps).F y)) → ω 7 = (1,.cells [.int .i64 2,.int .i64 0,.sl 3 FL .no,.sl 3 (rs.map fun p => encV (mkAu p)) tp]) →
  (∀ τ' ω' tp,(∀ z,z < 11 → τ' z = τ0 z) → (∀ i,i < 7 → ω' i = ω0 i) → ω' 23 = (1,.cells (vec ps.length (paOf k ps).F)) → ω' 7 = (1,.cells [.int .i64 2,.int .i64 0,.sl 3 FL .no,.sl 3 ((rs ++ revP (paOf k ps) u m y).map fun p => encV (mkAu p)) tp]) → Rd (Loc Pg Gl) .im Q K (stF 107 D τ' ω' S)) →
  Rd (Loc Pg Gl) .im Q (.lp c54_l3 :: .blk 2 :: K) (stF 107 D τ ω S) := by
 have hn := hps.len
 have hk : (paOf k ps).k = k := rfl
 intro m
 induction m with
 | zero =>
  intro y rs tp τ ω hy hr htp hτ h40' h41 hω w27' w23 w7 hend
  refine Rd_lpE c54_l3.eq_1 ?_
  obtain rfl : y = ps.length := by omega
  rw [h40] at h40'
  rw [vecY_full] at w23
  rw [revP,List.append_nil] at hend
  simp [h40',h41]
  refine hend _ _ tp (fun z q => ?_) hω w23 w7
  rw [← hτ z q]; simp only [upd]; repeat rw [if_neg (by omega)]
 | succ m ih =>
  intro y rs tp τ ω hy hr htp hτ h40' h41 hω w27' w23 w7 hend
  refine Rd_lpE c54_l3.eq_1 ?_
  have hlt : y < ps.length := by omega
  have hy1 : y + 1 ≤ ps.length := hlt
  have hwr : IntKind.i64.wrap ((y : Int) + 1) = ((y + 1 : Nat) : Int) := by rw [← wrap_i64_nat (n := y + 1) (by omega)]; rfl
  have a40 := h40'.trans h40
  have a2 := (hτ 2 (by decide)).trans h2
  have a7 := (hτ 7 (by decide)).trans h7
  have a8 := (hτ 8 (by decide)).trans h8
  have a9 := (hτ 9 (by decide)).trans h9
  have v2 := (hω 2 (by decide)).trans w2
  have v27 := w27'.trans w27
  have hvl := vecY_len ps.length (paOf k ps).F y
  have hvu : (vec ps.length u).length = ps.length := by simp [vec]
  have hvg : ∀ h,(vec ps.length u)[y]'h = .bool (u.has y) := by intro h; simp [vec]
  have hb1 : Below ps.length [(y : Int)] := by intro z hz; rw [List.mem_singleton] at hz; subst hz; omega
  have s76 := spec76 (D + 1) k ps [(y : Int)] hb1 (by simp [maxLen])
  rw [fin_one (k := k) hn hlt,hY] at s76
  have s48 := spec48 (D + 1) (auY k ps) hfT
  rw [show (auY k ps).f = typ k from rfl,letters_typ hps.kpos hps.kle,hY] at s48
  have hle : (rs.length + 1) * 56 ≤ 1099511627776 := by omega
  rw [revP,hk] at hend
  have hap : rs ++ (u.has y,preLs (paOf k ps) y k 0) :: revP (paOf k ps) u m (y + 1) = (rs ++ [(u.has y,preLs (paOf k ps) y k 0)]) ++ revP (paOf k ps) u m (y + 1) := by simp
  rw [hap] at hend
  simp [a40,h41,hlt,a2,v2,a8]
  refine Rd_call s76 (by simp [encI]) ?_
  simp [w23,hy1,hvl,hlt,vecY_set,a2,v2]
  refine Rd_call s48 (by simp) ?_
  simp
  refine l54_2 D k ps hps hrl y hlt ((ω 13).1 + 1) Q _ S _ _ ?_ ?_ ?_ FL hY ?_ k 0 [] .tip .tip _ _ (by omega) rfl (.inl rfl) ?_ ?_ (fun z _ _ _ _ => rfl) ?_ (fun i _ _ => rfl) ?_
  case refine_8 =>
   intro τ1 ω1 tp1 tp2 htp1 hτ1 w13 hω1
   rw [List.nil_append] at w13
   generalize preLs (paOf k ps) y k 0 = to at w13 hend
   have b7 : τ1 7 = .ptr D 7 1 0 := by rw [hτ1 7 (by decide) (by decide) (by decide) (by decide)]; simp [a7]
   have b9 : τ1 9 = .own D 27 1 0 ps.length 1 false := by rw [hτ1 9 (by decide) (by decide) (by decide) (by decide)]; simp [a9]
   have b12 : τ1 12 = .int .i64 y := by rw [hτ1 12 (by decide) (by decide) (by decide) (by decide)]; simp
   have b13 : τ1 13 = .ptr D 13 ((ω 13).1 + 1) 0 := by rw [hτ1 13 (by decide) (by decide) (by decide) (by decide)]; simp
   have b40 : τ1 40 = .int .i64 ps.length := by rw [hτ1 40 (by decide) (by decide) (by decide) (by decide)]; simp [a40]
   have b41 : τ1 41 = .int .i64 y := by rw [hτ1 41 (by decide) (by decide) (by decide) (by decide)]; simp [h41]
   have u7 : ω1 7 = (1,.cells [.int .i64 2,.int .i64 0,.sl 3 FL .no,.sl 3 (rs.map fun p => encV (mkAu p)) tp]) := by rw [hω1 7 (by decide) (by decide)]; simp [w7]
   have u27 : ω1 27 = (1,.cells (vec ps.length u)) := by rw [hω1 27 (by decide) (by decide)]; simp [v27]
   have u23 : ω1 23 = (1,.cells (vecY ps.length (paOf k ps).F (y + 1))) := by rw [hω1 23 (by decide) (by decide)]; simp
   simp [c54_k2,c54_k3,b7,u7,b9,b12,u27,hlt,hvg,hy1,hvu]
   refine Rd_drCall (spec75 _ (u.has y)) (by simp) ?_
   simp [b7,u7,b13,w13,htp,hle,b41,hwr]
   refine ih (y + 1) (rs ++ [(u.has y,to)]) .tip _ _ (by omega) (by simp; omega) (.inl rfl) (fun z q => ?_) ?_ ?_ (fun i q => ?_) ?_ ?_ ?_ hend
   ·have e := hτ1 z (by omega) (by omega) (by omega) (by omega)
    rw [← hτ z q]
    simp only [upd] at e ⊢
    repeat rw [if_neg (by omega)] at e
    repeat rw [if_neg (by omega)]
    exact e
   ·simp [b40,h40]
   ·simp
   ·have e := hω1 i (by omega) (by omega)
    rw [← hω i q]
    simp only [upd] at e ⊢
    repeat rw [if_neg (by omega)] at e
    repeat rw [if_neg (by omega)]
    exact e
   ·simp [u27,w27]
   ·simp [u23]
   ·simp [encV_au]
  all_goals simp [*]
theorem spec54 (D k : Nat) (ps : Aut) (hps : AuOk k ps) (hrl : ∀ p ∈ ps,∀ r ∈ p.2,r.length ≤ maxLen) (hfT : fitF (auY k ps).f) (l : List Int) (hl : VS ps.length l)
  (rs : List (Bool × List (List Nat))) (hrs : rs = revP (paOf k ps) (toS l) ps.length 0) (hlR : rs.length ≤ maxLen) (hvR : ∀ v ∈ (auY k rs).m,fitV v) (hbR : nodesVs (auY k rs).m ≤ 2 ^ 32) :
  Go.Ab.Loc Pg Gl D 54 [encY (auY k ps),encI l] [] (.tup [encY (auY k rs),encI (lN ps.length (paOf k ps).F),.bool (isY (auY k rs))]) [] := by
 have hn := hps.len
 have h39 := spec39 (auY k rs) hfT (by simpa [auY] using hlR) hvR hbR (D + 1)
 have h91 := spec91 (D + 1) ps.length (by omega) (paOf k ps).F D 23 1 (by omega)
 refine loc_rd mixedP tok rfl rfl fun S => ?_
 unfold c54
 generalize hr : AV.tup [encY (auY k rs),encI (lN ps.length (paOf k ps).F),.bool (isY (auY k rs))] = r
 have hY := encY_au k ps
 have hYR := encY_au k rs
 generalize ([.mk 1 2 [],.mk 4 k [.mk 5 0 [.mk 0 0 []]]] : List Fu).map encF = FL at hY hYR
 rw [hYR] at h39 hr
 rw [hY]
 have hn2 : (ps.length : Int) ≤ 1099511627776 := by omega
 simp [encI,vec_zero,hn2]
 refine l54_0 D k ps hn l hl.below hl.len _ _ S _ _ ?_ l.length 0 (0#64,0#64) _ _ (by omega) (fun z _ => rfl) ?_ ?_ ?_ ?_ (fun i _ => rfl) ?_
 case refine_6 =>
  intro τ1 ω1 hτ1 w27 hω1
  rw [List.drop_zero,show BS.or (0#64,0#64) (toS l) = toS l by simp [BS.or]] at w27
  have a2 : τ1 2 = .ptr D 2 1 0 := by rw [hτ1 2 (by decide)]; simp
  have a7 : τ1 7 = .ptr D 7 1 0 := by rw [hτ1 7 (by decide)]; simp
  have a8 : τ1 8 = .own D 23 1 0 ps.length 1 false := by rw [hτ1 8 (by decide)]; simp
  have a9 : τ1 9 = .own D 27 1 0 ps.length 1 false := by rw [hτ1 9 (by decide)]; simp
  have v2 : ω1 2 = (1,.cells [.int .i64 2,.int .i64 0,.sl 3 FL .no,.sl 3 (ps.map fun p => encV (mkAu p)) .no]) := by rw [hω1 2 (by decide)]; simp
  have v4 : ω1 4 = (1,.cells [.int .i64 0,.int .i64 0,.sl 3 [] .tip,.sl 3 [] .tip]) := by rw [hω1 4 (by decide)]; simp
  have v7 : ω1 7 = (1,.cells [.int .i64 2,.int .i64 0,.sl 3 FL .no,.sl 3 [] .tip]) := by rw [hω1 7 (by decide)]; simp
  have v23 : ω1 23 = (1,.cells (vec ps.length (0#64,0#64))) := by rw [hω1 23 (by decide)]; simp [vec_var1]
  simp [c54_k5,a2,v2]
  refine l54_3 D k ps hps hrl hfT (toS l) _ _ S _ _ ?_ ?_ ?_ ?_ ?_ ?_ FL hY ?_ ps.length 0 [] .tip _ _ (by omega) rfl (.inl rfl) (fun z _ => rfl) rfl ?_ (fun i _ => rfl) rfl ?_ ?_ ?_
  case refine_11 =>
   intro τ2 ω2 tp hτ2 hω2 w23 w7
   rw [List.nil_append,← hrs] at w7
   have b4 : τ2 4 = .ptr D 4 1 0 := by rw [hτ2 4 (by decide)]; simp; rw [hτ1 4 (by decide)]; simp
   have b7 : τ2 7 = .ptr D 7 1 0 := by rw [hτ2 7 (by decide)]; simp [a7]
   have b8 : τ2 8 = .own D 23 1 0 ps.length 1 false := by rw [hτ2 8 (by decide)]; simp [a8]
   have u4 : ω2 4 = (1,.cells [.int .i64 0,.int .i64 0,.sl 3 [] .tip,.sl 3 [] .tip]) := by rw [hω2 4 (by decide),v4]
   simp [c54_k4,b7,w7,b8]
   refine Rd_drCallM h91 (by simp [b8]) ?_ (by simp) ?_
   ·intro m hm
    rw [List.mem_singleton] at hm; subst hm
    simp [w23]
   simp [b7,w7]
   refine Rd_drCall h39 (by simp) ?_
   cases tp <;> simp [b4,u4,← hr]
  all_goals simp [*,vecY_zero]
 all_goals simp [encI,vec_var1]
end Go.Ab.Tab
/- The plain law of reversal. -/
namespace Go.Ab.Tab
open Go Go.Ab
set_option maxRecDepth 10000
set_option linter.unusedVariables false
set_option linter.unusedSimpArgs false
def Pth (A : PA) : Nat → List Nat → Nat → Prop
 | x,[],y => x = y
 | x,a :: w,y => ∃ z,(rowA A x a).has z = true ∧ Pth A z w y
theorem Pth_snoc {A : PA} {a y : Nat} : ∀ {w : List Nat} {x : Nat},Pth A x (w ++ [a]) y ↔ ∃ z,Pth A x w z ∧ (rowA A z a).has y = true
 | [],x => by
  simp only [List.nil_append,Pth]
  constructor
  ·rintro ⟨z,h,rfl⟩; exact ⟨x,rfl,h⟩
  ·rintro ⟨z,rfl,h⟩; exact ⟨y,h,rfl⟩
 | b :: w,x => by
  simp only [List.cons_append,Pth]
  constructor
  ·rintro ⟨z,h,q⟩
   obtain ⟨v,q1,q2⟩ := Pth_snoc.1 q
   exact ⟨v,⟨z,h,q1⟩,q2⟩
  ·rintro ⟨v,⟨z,h,q1⟩,q2⟩
   exact ⟨z,h,Pth_snoc.2 ⟨v,q1,q2⟩⟩
theorem AccS_pth {A : PA} : ∀ {w : List Nat} {x : Nat},AccS A x w ↔ ∃ y,Pth A x w y ∧ A.F.has y = true
 | [],x => by
  constructor
  ·intro h; exact ⟨x,rfl,h⟩
  ·rintro ⟨y,rfl,h⟩; exact h
 | a :: w,x => by
  constructor
  ·rintro ⟨z,h,q⟩
   obtain ⟨y,q1,q2⟩ := AccS_pth.1 q
   exact ⟨y,⟨z,h,q1⟩,q2⟩
  ·rintro ⟨y,⟨z,h,q1⟩,q2⟩
   exact ⟨z,h,AccS_pth.2 ⟨y,q1,q2⟩⟩
theorem Acc_pth {A : PA} {u : BS} {w : List Nat} : Acc A u w ↔ ∃ x y,u.has x = true ∧ Pth A x w y ∧ A.F.has y = true := by
 unfold Acc
 constructor
 ·rintro ⟨x,h,q⟩; obtain ⟨y,q1,q2⟩ := AccS_pth.1 q; exact ⟨x,y,h,q1,q2⟩
 ·rintro ⟨x,y,h,q1,q2⟩; exact ⟨x,h,AccS_pth.2 ⟨y,q1,q2⟩⟩
def RevOf (A B : PA) : Prop := ∀ x y a,(rowA A x a).has y = true ↔ (rowA B y a).has x = true
theorem Pth_rev {A B : PA} (h : RevOf A B) : ∀ {w : List Nat} {x y : Nat},Pth A x w y ↔ Pth B y w.reverse x
 | [],x,y => by simp only [List.reverse_nil,Pth]; exact eq_comm
 | a :: w,x,y => by
  rw [List.reverse_cons,Pth_snoc,Pth]
  constructor
  ·rintro ⟨z,q1,q2⟩; exact ⟨z,(Pth_rev h).1 q2,(h _ _ _).1 q1⟩
  ·rintro ⟨z,q1,q2⟩; exact ⟨z,(h _ _ _).2 q2,(Pth_rev h).2 q1⟩
theorem Acc_rev {A B : PA} (h : RevOf A B) (w : List Nat) : Acc A B.F w ↔ Acc B A.F w.reverse := by
 rw [Acc_pth,Acc_pth]
 constructor
 ·rintro ⟨x,y,h1,h2,h3⟩; exact ⟨y,x,h3,(Pth_rev h).1 h2,h1⟩
 ·rintro ⟨x,y,h1,h2,h3⟩; exact ⟨y,x,h3,(Pth_rev h).2 h2,h1⟩
theorem preLs_get (A : PA) (y : Nat) : ∀ (m l a : Nat),(preLs A y m l)[a]? = if a < m then some (preL A y (l + a) 0 A.n) else none
 | 0,l,a => by simp [preLs]
 | m + 1,l,0 => by simp [preLs]
 | m + 1,l,a + 1 => by
  rw [preLs,List.getElem?_cons_succ,preLs_get A y m (l + 1) a]
  have e : l + 1 + a = l + (a + 1) := by omega
  rw [e]
  by_cases h : a < m
  ·rw [if_pos h,if_pos (by omega)]
  ·rw [if_neg h,if_neg (by omega)]
theorem preLs_len (A : PA) (y : Nat) : ∀ (m l : Nat),(preLs A y m l).length = m
 | 0,l => rfl
 | m + 1,l => by rw [preLs,List.length_cons,preLs_len A y m]
theorem revP_get (A : PA) (u : BS) : ∀ (m y z : Nat),(revP A u m y)[z]? = if z < m then some (u.has (y + z),preLs A (y + z) A.k 0) else none
 | 0,y,z => by simp [revP]
 | m + 1,y,0 => by simp [revP]
 | m + 1,y,z + 1 => by
  rw [revP,List.getElem?_cons_succ,revP_get A u m (y + 1) z]
  have e : y + 1 + z = y + (z + 1) := by omega
  rw [e]
  by_cases h : z < m
  ·rw [if_pos h,if_pos (by omega)]
  ·rw [if_neg h,if_neg (by omega)]
theorem mem_preL {A : PA} {y l x : Nat} : x ∈ preL A y l 0 A.n ↔ x < A.n ∧ (rowA A x l).has y = true := by
 rw [preL,List.mem_filter,List.mem_range']
 constructor
 ·rintro ⟨⟨i,hi,rfl⟩,h⟩; exact ⟨by omega,by simpa using h⟩
 ·rintro ⟨h1,h2⟩; exact ⟨⟨x,h1,by omega⟩,h2⟩
theorem preL_len (A : PA) (y l : Nat) : (preL A y l 0 A.n).length ≤ A.n := by
 unfold preL
 refine Nat.le_trans (List.length_filter_le _ _) (by simp)
def revA (k : Nat) (ps : Aut) (l : List Int) : Aut := revP (paOf k ps) (toS l) ps.length 0
theorem revA_len (k : Nat) (ps : Aut) (l : List Int) : (revA k ps l).length = ps.length := revP_len _ _ _ _
theorem revA_mem {k : Nat} {ps : Aut} {l : List Int} {p : Bool × List (List Nat)} (h : p ∈ revA k ps l) : ∃ y,y < ps.length ∧ p = ((toS l).has y,preLs (paOf k ps) y k 0) := by
 obtain ⟨i,hi⟩ := List.getElem?_of_mem h
 rw [revA,revP_get] at hi
 split at hi
 ·rename_i hlt
  injection hi with hi
  exact ⟨i,hlt,by rw [← hi,Nat.zero_add]; rfl⟩
 ·cases hi
theorem preLs_mem {A : PA} {y m : Nat} {r : List Nat} (h : r ∈ preLs A y m 0) : ∃ a,a < m ∧ r = preL A y a 0 A.n := by
 obtain ⟨i,hi⟩ := List.getElem?_of_mem h
 rw [preLs_get] at hi
 split at hi
 ·rename_i hlt
  injection hi with hi
  exact ⟨i,hlt,by rw [← hi,Nat.zero_add]⟩
 ·cases hi
theorem revA_ok {k : Nat} {ps : Aut} (h : AuOk k ps) (l : List Int) : AuOk k (revA k ps l) := by
 refine ⟨h.kpos,h.kle,by rw [revA_len]; exact h.len,fun p hp => ?_⟩
 obtain ⟨y,hy,rfl⟩ := revA_mem hp
 refine ⟨preLs_len _ _ _ _,fun r hr x hx => ?_⟩
 obtain ⟨a,ha,rfl⟩ := preLs_mem hr
 rw [revA_len]
 exact (mem_preL.1 hx).1
theorem revA_rl {k : Nat} {ps : Aut} (h : AuOk k ps) (l : List Int) : ∀ p ∈ revA k ps l,∀ r ∈ p.2,r.length ≤ 100 := by
 intro p hp r hr
 obtain ⟨y,hy,rfl⟩ := revA_mem hp
 obtain ⟨a,ha,rfl⟩ := preLs_mem hr
 exact Nat.le_trans (preL_len _ _ _) h.len
theorem au_fit {k : Nat} {ps : Aut} (h : AuOk k ps) (hr : ∀ p ∈ ps,∀ r ∈ p.2,r.length ≤ 100) : ∀ v ∈ (auY k ps).m,fitV v := by
 intro v hv
 obtain ⟨p,hp,rfl⟩ := List.mem_map.1 hv
 have h1 : fitVs (p.2.map mkRow) := fitVs_of fun a ha => by
  obtain ⟨r,hr2,rfl⟩ := List.mem_map.1 ha
  have hl := hr p hp r hr2
  have h2 : fitVs (r.map mkSt) := fitVs_of fun a ha => by
   obtain ⟨x,_,rfl⟩ := List.mem_map.1 ha
   simp [mkSt,fitV,fitVs,maxLen]
  simp [mkRow,fitV,maxLen,h2]
  unfold maxLen at *
  omega
 have hk := (h.row p hp).1
 have hk4 := h.kle
 simp [mkAu,mkOut,fitV,fitVs,maxLen,h1]
 unfold maxLen at *
 omega
theorem nodesVs_map {α : Type} (g : α → Va) (c : Nat) : ∀ (l : List α),(∀ a ∈ l,nodesV (g a) ≤ c) → nodesVs (l.map g) ≤ l.length * c
 | [],_ => by simp [nodesVs]
 | a :: l,h => by
  have h1 := nodesVs_map g c l fun b hb => h b (by simp [hb])
  have h2 := h a (by simp)
  rw [List.map_cons,nodesVs,List.length_cons,Nat.add_mul]
  omega
theorem au_nodes {k : Nat} {ps : Aut} (h : AuOk k ps) (hr : ∀ p ∈ ps,∀ r ∈ p.2,r.length ≤ 100) : nodesVs (auY k ps).m ≤ 2 ^ 32 := by
 have hn := h.len
 have hk4 := h.kle
 have h1 := nodesVs_map mkAu 1000 ps fun p hp => by
  have hk := (h.row p hp).1
  have h2 := nodesVs_map mkRow 101 p.2 fun r hr2 => by
   have hl := hr p hp r hr2
   have h3 := nodesVs_map mkSt 1 r fun x hx => by simp [mkSt,nodesV,nodesVs]
   simp [mkRow,nodesV]
   omega
  simp [mkAu,mkOut,nodesV,nodesVs]
  rw [hk] at h2
  have : k * 101 ≤ 4 * 101 := Nat.mul_le_mul_right _ hk4
  omega
 show nodesVs (ps.map mkAu) ≤ _
 have : ps.length * 1000 ≤ 100 * 1000 := Nat.mul_le_mul_right _ hn
 omega
theorem revA_g {k : Nat} {ps : Aut} (h : AuOk k ps) (l : List Int) (hy : isY (auY k (revA k ps l)) = true) : AuG k (revA k ps l) := by
 have h1 := revA_ok h l
 have h2 := revA_rl h l
 exact ⟨h1,fun p hp r hr => by have := h2 p hp r hr; unfold maxLen; omega,hy,au_fit h1 h2,au_nodes h1 h2⟩
theorem revA_row {k : Nat} {ps : Aut} (h : AuOk k ps) (l : List Int) : RevOf (paOf k ps) (paOf k (revA k ps l)) := by
 intro x y a
 have hn := h.len
 have hok := revA_ok h l
 rw [rowA_cell (paOf k (revA k ps l)),cellA_paOf]
 constructor
 ·intro hh
  obtain ⟨q1,q2,q3⟩ := has_row_k h.a hh
  have q1 : x < ps.length := q1
  have q2 : a < k := q2
  have q3 : y < ps.length := q3
  have e : rowN (revA k ps l) y a = preL (paOf k ps) y a 0 ps.length := by
   unfold rowN
   rw [revA,revP_get,if_pos q3,Option.map_some,Option.getD_some]
   simp only []
   rw [preLs_get,if_pos (show a < (paOf k ps).k from q2),Option.getD_some,Nat.zero_add,Nat.zero_add]; rfl
  rw [e,has_toN (by omega) (fun z hz => by have := (mem_preL.1 hz).1; have : z < ps.length := this; omega),decide_eq_true_eq]
  exact mem_preL.2 ⟨q1,hh⟩
 ·intro hh
  have hx := has_lt hh
  have hr : ∀ z ∈ rowN (revA k ps l) y a,z < 128 := fun z hz => by have := rowN_lt hok hz; rw [revA_len] at this; omega
  rw [has_toN hx hr,decide_eq_true_eq] at hh
  unfold rowN at hh
  rw [revA,revP_get] at hh
  split at hh
  ·rw [Option.map_some,Option.getD_some] at hh
   simp only [] at hh
   rw [preLs_get] at hh
   split at hh
   ·rw [Option.getD_some,Nat.zero_add,Nat.zero_add] at hh
    exact (mem_preL.1 hh).2
   ·simp at hh
  ·simp at hh
theorem F_full {k : Nat} {ps : Aut} (h : AuOk k ps) : (paOf k ps).F.sub (fullS ps.length) = true := by
 have hn := h.len
 rw [sub_iff]
 intro x hx hf
 rw [F_has hn hx] at hf
 refine has_fullN (by omega) ?_
 apply Classical.byContradiction; intro hc
 rw [List.getElem?_eq_none (by omega)] at hf
 simp at hf
theorem revA_F {k : Nat} {ps : Aut} (h : AuOk k ps) {l : List Int} (hl : VS ps.length l) : (paOf k (revA k ps l)).F = toS l := by
 have hn := h.len
 refine BS.ext fun x hx => ?_
 rw [F_has (by rw [revA_len]; exact hn) hx,revA,revP_get]
 by_cases hlt : x < ps.length
 ·rw [if_pos hlt]; simp
 ·rw [if_neg hlt]
  rw [has_toS (show ps.length ≤ 128 by omega) hl.below hx]
  simp
  intro hm
  have := hl.below _ hm
  omega
theorem runB_wd (A : PA) : ∀ (w : List Int) (u : BS),runB A u w = runWd A u (w.map Int.toNat)
 | [],u => rfl
 | a :: w,u => by
  show runB A (nextA A u a.toNat) w = runWd A (nextA A u a.toNat) (w.map Int.toNat)
  exact runB_wd A w _
theorem rev_acc {k : Nat} {ps : Aut} (h : AuOk k ps) {l : List Int} (hl : VS ps.length l) (w : List Int) :
  endsB (paOf k (revA k ps l)).F (runB (paOf k (revA k ps l)) (toS (lN ps.length (paOf k ps).F)) w.reverse) = endsB (paOf k ps).F (runB (paOf k ps) (toS l) w) := by
 rw [Bool.eq_iff_iff,runB_wd,runB_wd,← Acc_run (revA_ok h l).a,← Acc_run h.a,toS_lN h.len (F_full h),List.map_reverse,← Acc_rev (revA_row h l),revA_F h hl]
end Go.Ab.Tab
