/- The program's Reverse (53): the inner loops. -/
import Derived.Test.YtpgdlniekkeikaaDoorMinH
import Derived.Test.YtpgdlniekkeikaaDoorMinE
import Derived.Test.YtpgdlniekkeikaaDoorMinG
namespace Go.Ab.Tab
open Go Go.Ab
set_option maxRecDepth 10000
set_option linter.unusedVariables false
set_option linter.unusedSimpArgs false
def cellsR (rs : List (List Nat)) : List AV := rs.flatMap fun r => [.int .i64 0,.sl 3 (r.map fun x => encV (mkSt x)) .no,.sl 1 [] .no]
theorem cellsR_len (r : List (List Nat)) : (cellsR r).length = r.length * 3 := by
 unfold cellsR
 induction r with
 | nil => rfl
 | cons a r ih => simp only [List.flatMap_cons,List.length_append,ih,List.length_cons,List.length_nil]; omega
theorem cellsR_snoc (r : List (List Nat)) (a : List Nat) : cellsR (r ++ [a]) = cellsR r ++ [.int .i64 0,.sl 3 (a.map fun x => encV (mkSt x)) .no,.sl 1 [] .no] := by simp [cellsR]
def argsR (D g : Nat) : List (List Nat) → AV
 | [] => .sl 3 [] .nil
 | a :: r => .own D 100 g 0 (r.length + 1) 3 true
def preL (A : PA) (y l z m : Nat) : List Nat := (List.range' z m).filter fun z => (rowA A z l).has y
theorem preL_succ (A : PA) (y l z m : Nat) : preL A y l z (m + 1) = if (rowA A z l).has y then z :: preL A y l (z + 1) m else preL A y l (z + 1) m := by
 unfold preL
 rw [List.range'_succ,List.filter_cons]
theorem l53_0 (D : Nat) (A : PA) (hn : A.n ≤ 100) (hrows : A.rows.length = A.n) (l : Nat) (hl : ∀ r ∈ A.rows,l < r.length) (y : Nat) (hy : y < 128) (g14 : Nat) (W : Way → St → Prop) (K : List AI) (S) (τ0 : Nat → AV) (ω0 : Nat → Ent) (h7 : τ0 7 = encA A) (h11 : τ0 11 = .int .i64 y) (h13 : τ0 13 = .int .i64 l) (h14 : τ0 14 = .ptr D 14 g14 0) :
  ∀ (m z : Nat) (acc : List Nat) (tp tp2) (τ ω),z + m = A.n → acc.length ≤ z → (tp = .tip ∨ tp = .nil) →
  τ 66 = .int .i64 A.n → τ 67 = .int .i64 z → (∀ x,x < 66 → x ≠ 15 → τ x = τ0 x) →
  ω 14 = (g14,.cells [.int .i64 0,.sl 3 (acc.map fun x => encV (mkSt x)) tp,.sl 1 [] tp2]) → (∀ i,i ≠ 14 → ω i = ω0 i) →
  (∀ τ' ω' tp tp2,(∀ x,x < 66 → x ≠ 15 → τ' x = τ0 x) → ω' 14 = (g14,.cells [.int .i64 0,.sl 3 ((acc ++ preL A y l z m).map fun x => encV (mkSt x)) tp,.sl 1 [] tp2]) → (∀ i,i ≠ 14 → ω' i = ω0 i) → RunW (Loc Pg Gl) W K (stF 134 D τ' ω' S)) →
  RunW (Loc Pg Gl) W (.lp c53_l0 :: .blk 4 :: K) (stF 134 D τ ω S) := by
 intro m
 induction m with
 | zero =>
  intro z acc tp tp2 τ ω hz ha htp h66 h67 hτ w14 hω hend
  refine RunW_lpE c53_l0.eq_1 ?_
  obtain rfl : z = A.n := by omega
  refine .seq (RunW_pre (k1 := [_]) ?_)
  simp [h66,h67]
  refine ⟨rfl,.seq (.cond (t := false) (by simp) (.exit (k' := K) (by simp) ?_))⟩
  rw [preL,List.range'_zero,List.filter_nil,List.append_nil] at hend
  refine hend _ _ tp tp2 (fun x h1 h2 => ?_) w14 hω
  rw [← hτ x h1 h2]; simp only [upd]; repeat rw [if_neg (by omega)]
 | succ m ih =>
  intro z acc tp tp2 τ ω hz ha htp h66 h67 hτ w14 hω hend
  refine RunW_lpE c53_l0.eq_1 ?_
  have hlt : z < A.n := by omega
  have hwr : IntKind.i64.wrap ((z : Int) + 1) = ((z + 1 : Nat) : Int) := by rw [← wrap_i64_nat (n := z + 1) (by omega)]; rfl
  have hxr : z < A.rows.length := by omega
  obtain ⟨row,hrow⟩ : ∃ row,A.rows[z] = row := ⟨_,rfl⟩
  have har := hl row (by rw [← hrow]; exact List.getElem_mem hxr)
  obtain ⟨c,hc⟩ : ∃ c,row[l] = c := ⟨_,rfl⟩
  have hrc : rowA A z l = c := by rw [rowA,List.getElem?_eq_getElem hxr,Option.getD_some,hrow,List.getElem?_eq_getElem har,Option.getD_some,hc]
  rw [preL_succ,hrc] at hend
  have a7 := (hτ 7 (by decide) (by decide)).trans h7
  have a11 := (hτ 11 (by decide) (by decide)).trans h11
  have a13 := (hτ 13 (by decide) (by decide)).trans h13
  have a14 := (hτ 14 (by decide) (by decide)).trans h14
  refine .seq (RunW_pre (k1 := [_]) ?_)
  simp [h66,h67]
  refine ⟨rfl,.seq (.cond (t := true) (by simp; omega) (.skip (.seq (.block (.seq (RunW_pre (k1 := [_]) ?_))))))⟩
  simp [h67]
  refine ⟨rfl,.seq (RunW_pre (k1 := [_]) ?_)⟩
  simp [a7,a11,a13,encA,hxr,hrow,har,hc,encS]
  refine Rd_call (spec94 _ c y hy) (by simp [encS]) ?_
  simp
  refine ⟨rfl,.cond (t := c.has y) (by simp) ?_⟩
  cases hb : c.has y with
  | false =>
   rw [hb] at hend
   refine .skip (RunW_pre (k1 := [_,_]) ?_)
   simp [h67,hwr]
   refine ⟨rfl,ih (z + 1) acc tp tp2 _ _ (by omega) (by omega) htp ?_ ?_ (fun x h1 h2 => ?_) w14 hω hend⟩
   ·simp [h66]
   ·simp
   ·rw [← hτ x h1 h2]; simp only [upd]; repeat rw [if_neg (by omega)]
  | true =>
   rw [hb] at hend
   have hle : (acc.length + 1) * 56 ≤ 1099511627776 := by omega
   refine RunW_pre (k1 := [_,_,_]) ?_
   simp [a14,w14,hle,h67,hwr,htp]
   refine ⟨rfl,ih (z + 1) (acc ++ [z]) .tip tp2 _ _ (by omega) (by simp; omega) (.inl rfl) ?_ ?_ (fun x h1 h2 => ?_) ?_ (fun i h => ?_) ?_⟩
   ·simp [h66]
   ·simp
   ·rw [← hτ x h1 h2]; simp only [upd]; repeat rw [if_neg (by omega)]
   ·simp [encV_st]
   ·rw [← hω i h]; simp [upd,h]
   ·rw [List.append_assoc]; exact hend
structure V53 (D g12 g47 : Nat) (o : Int) (τ : Nat → AV) (ω : Nat → Ent) (r : List (List Nat)) : Prop where
 t12 : τ 12 = .ptr D 12 g12 0
 w12 : ω 12 = (g12,.cells [.int .i64 0,.own D 47 g47 0 2 3 true,.sl 1 [] .tip])
 w47 : ∃ g,ω 47 = (g47,.cells [.int .i64 o,.sl 3 [] .nil,.sl 1 [] .nil,.int .i64 0,argsR D g r,.sl 1 [] .nil]) ∧ (r ≠ [] → ∃ cs,ω 100 = (g,.cells cs) ∧ cs.map AV.strip1 = cellsR r)
def preLs (A : PA) (y : Nat) : Nat → Nat → List (List Nat)
 | 0,_ => []
 | j + 1,l => preL A y l 0 A.n :: preLs A y j (l + 1)
theorem l53_1 (D : Nat) (A : PA) (hn : A.n ≤ 100) (hk4 : A.k ≤ 4) (hrows : A.rows.length = A.n) (hw : ∀ r ∈ A.rows,A.k ≤ r.length) (y : Nat) (hy : y < 128) (g12 g47 : Nat) (o : Int) (K : List AI) (W : Way → St → Prop) (S) (τ0 : Nat → AV) (ω0 : Nat → Ent) (h7 : τ0 7 = encA A) (h11 : τ0 11 = .int .i64 y) (h59 : τ0 59 = .int .i64 A.k) :
  ∀ (m l : Nat) (r : List (List Nat)) (τ ω),l + m = A.k → r.length = l → (∀ x,x < 60 → x ≠ 13 → x ≠ 14 → x ≠ 15 → τ x = τ0 x) → τ 60 = .int .i64 l → V53 D g12 g47 o τ ω r → (∀ i,i ≠ 14 → i ≠ 47 → i ≠ 90 → i ≠ 100 → ω i = ω0 i) →
  (∀ τ' ω',(∀ x,x < 60 → x ≠ 13 → x ≠ 14 → x ≠ 15 → τ' x = τ0 x) → V53 D g12 g47 o τ' ω' (r ++ preLs A y m l) → (∀ i,i ≠ 14 → i ≠ 47 → i ≠ 90 → i ≠ 100 → ω' i = ω0 i) → RunW (Loc Pg Gl) W K (stF 134 D τ' ω' S)) →
  RunW (Loc Pg Gl) W (.lp c53_l1 :: .blk 2 :: K) (stF 134 D τ ω S) := by
 intro m
 induction m with
 | zero =>
  intro l r τ ω hl hr hτ h60 hV hω hend
  refine RunW_lpE c53_l1.eq_1 ?_
  obtain rfl : l = A.k := by omega
  have a59 := (hτ 59 (by decide) (by decide) (by decide) (by decide)).trans h59
  refine .seq (RunW_pre (k1 := [_]) ?_)
  simp [a59,h60]
  refine ⟨rfl,.seq (.cond (t := false) (by simp) (.exit (k' := K) (by simp) ?_))⟩
  rw [preLs,List.append_nil] at hend
  refine hend _ _ (fun x h1 h2 h3 h4 => ?_) ?_ hω
  ·rw [← hτ x h1 h2 h3 h4]; simp only [upd]; repeat rw [if_neg (by omega)]
  ·obtain ⟨t12,w12,w47⟩ := hV
   exact ⟨by simp [t12],w12,w47⟩
 | succ m ih =>
  intro l r τ ω hl hr hτ h60 hV hω hend
  refine RunW_lpE c53_l1.eq_1 ?_
  have hlt : l < A.k := by omega
  have hwr : IntKind.i64.wrap ((l : Int) + 1) = ((l + 1 : Nat) : Int) := by rw [← wrap_i64_nat (n := l + 1) (by omega)]; rfl
  have a59 := (hτ 59 (by decide) (by decide) (by decide) (by decide)).trans h59
  have a7 := (hτ 7 (by decide) (by decide) (by decide) (by decide)).trans h7
  have a11 := (hτ 11 (by decide) (by decide) (by decide) (by decide)).trans h11
  rw [preLs] at hend
  obtain ⟨to,hto⟩ : ∃ to,preL A y l 0 A.n = to := ⟨_,rfl⟩
  rw [hto] at hend
  have hap : r ++ to :: preLs A y m (l + 1) = (r ++ [to]) ++ preLs A y m (l + 1) := by simp
  rw [hap] at hend
  refine .seq (RunW_pre (k1 := [_]) ?_)
  simp [a59,h60]
  refine ⟨rfl,.seq (.cond (t := true) (by simp; omega) (.skip (.seq (.block (.seq (RunW_pre (k1 := [_]) ?_))))))⟩
  simp [h60]
  refine ⟨rfl,.seq (RunW_pre (k1 := [_]) ?_)⟩
  simp
  refine ⟨rfl,.seq (.seq (RunW_pre (k1 := [_]) ?_))⟩
  simp [a7,encA]
  refine ⟨rfl,.block (RunW_loop ?_)⟩
  obtain ⟨t12,w12,g,w47,w100⟩ := hV
  refine l53_0 D A hn hrows l (fun r hr => by have := hw r hr; omega) y hy ((ω 14).1 + 1) W _ S _ _ ?_ ?_ ?_ ?_ A.n 0 [] .tip .tip _ _ (by omega) (by simp) (.inl rfl) ?_ ?_ (fun x _ _ => rfl) ?_ (fun i _ => rfl) ?_
  case refine_8 =>
   intro τ1 ω1 tp tp2 hτ1 w14 hω1
   rw [hto,List.nil_append] at w14
   unfold c53_k0
   have b12 : τ1 12 = .ptr D 12 g12 0 := by rw [hτ1 12 (by decide) (by decide)]; simp [t12]
   have b14 : τ1 14 = .ptr D 14 ((ω 14).1 + 1) 0 := by rw [hτ1 14 (by decide) (by decide)]; simp
   have b60 : τ1 60 = .int .i64 l := by rw [hτ1 60 (by decide) (by decide)]; simp [h60]
   have v12 : ω1 12 = (g12,.cells [.int .i64 0,.own D 47 g47 0 2 3 true,.sl 1 [] .tip]) := by rw [hω1 12 (by decide)]; simp [w12]
   have v47 : ω1 47 = (g47,.cells [.int .i64 o,.sl 3 [] .nil,.sl 1 [] .nil,.int .i64 0,argsR D g r,.sl 1 [] .nil]) := by rw [hω1 47 (by decide)]; simp [w47]
   have v100 : ω1 100 = ω 100 := by rw [hω1 100 (by decide)]; simp
   have fin : ∀ τ2 ω2,(∀ x,x < 60 → τ2 x = τ1 x) → τ2 60 = .int .i64 l → V53 D g12 g47 o τ2 ω2 (r ++ [to]) → (∀ i,i ≠ 14 → i ≠ 47 → i ≠ 90 → i ≠ 100 → ω2 i = ω1 i) →
     RunW (Loc Pg Gl) W (.blk 3 :: .c c53_k1 :: .lp c53_l1 :: .blk 2 :: K) (stF 134 D τ2 ω2 S) := by
    intro τ2 ω2 hτ2 h260 hV2 hω2
    refine .blk (RunW_pre (k1 := [_]) ?_)
    unfold c53_k1
    simp [h260,hwr]
    refine ⟨rfl,ih (l + 1) (r ++ [to]) _ _ (by omega) (by simp; omega) (fun x q1 q2 q3 q4 => ?_) ?_ ?_ (fun i q1 q2 q3 q4 => ?_) hend⟩
    ·rw [← hτ x q1 q2 q3 q4]
     have e1 := hτ1 x (by omega) q4
     have e2 := hτ2 x q1
     simp only [upd] at e1 ⊢
     repeat rw [if_neg (by omega)] at e1
     repeat rw [if_neg (by omega)]
     rw [e2,e1]
    ·simp
    ·obtain ⟨c1,c2,c3⟩ := hV2
     exact ⟨by simp [c1],c2,c3⟩
    ·rw [hω2 i q1 q2 q3 q4,hω1 i q1,← hω i q1 q2 q3 q4]
     simp [upd,q1]
   refine .seq (RunW_pre (k1 := [_]) ?_)
   simp
   refine ⟨⟨rfl,.cond (t := false) (by simp) (RunW_str .fr (k1 := [_]) (by rfl) ?_)⟩,⟨rfl,.cond (t := true) (by simp) (RunW_str .fr (k1 := [_]) (by rfl) ?_)⟩⟩
   ·cases r with
    | nil =>
     unfold argsR at v47
     simp [b12,v12,v47,b14,w14]
     refine Rd_dr_appN (z' := 3) (y0 := .agg [.int .i64 0,.sl 3 (to.map fun x => encV (mkSt x)) .no,.sl 1 [] .no]) (ys := []) (r := []) 100 (by omega) (by simp) (by simp) (by simp [okEl]) (by simp) ?_
     simp [b12,v12,v47,w14,newC,apartB]
     refine ⟨rfl,fin _ _ (fun x q => ?_) ?_ ?_ (fun i q1 q2 q3 q4 => ?_)⟩
     ·simp only [upd]; repeat rw [if_neg (by omega)]
     ·simp [b60]
     ·refine ⟨by simp [b12],by simp [v12],_,by simp [argsR]; rfl,fun _ => ⟨_,by simp; rfl,by simp [cellsR]⟩⟩
     ·simp [upd,q1,q2,q3,q4]
    | cons a r =>
     unfold argsR at v47
     obtain ⟨cs,hcs,hcm⟩ := w100 (by simp)
     rw [← v100] at hcs
     have hcl : cs.length = (r.length + 1) * 3 := by
      have := congrArg List.length hcm
      rw [List.length_map,cellsR_len,List.length_cons] at this
      exact this
     have hct : (cs.take ((r.length + 1) * 3)).map AV.strip1 = cellsR (a :: r) := by rw [List.take_of_length_le (by omega),hcm]
     simp [b12,v12,v47,b14,w14]
     refine Rd_dr_appO (i := 100) (g := g) (len := r.length + 1) (ea := true) (cs := cs) (ys := [.agg [.int .i64 0,.sl 3 (to.map fun x => encV (mkSt x)) .no,.sl 1 [] .no]]) (r := []) (by omega) (by simp) (by simp) (by simp) (by simp [hcs]) (by omega) (by simp [okEl]) (by simp at hr ⊢; omega) ?_
     rw [hct]
     have hln : (cellsR (a :: r)).length = (r.length + 1) * 3 := by rw [cellsR_len]; rfl
     have hc1 : (0 ≤ (r.length : Int) + 1 ∧ (r.length : Int) < (r.length : Int) + 1) := by omega
     simp [b12,v12,v47,b14,w14,newC,apartB]
     refine ⟨rfl,fin _ _ (fun x q => ?_) ?_ ?_ (fun i q1 q2 q3 q4 => ?_)⟩
     ·simp only [upd]; repeat rw [if_neg (by omega)]
     ·simp [b60]
     ·refine ⟨by simp [b12],by simp [v12],_,by simp [argsR]; rfl,fun _ => ⟨_,by simp; rfl,?_⟩⟩
      rw [cellsR_snoc,List.map_append]
      congr 1
      rw [← hcm,List.map_map]
      refine List.map_congr_left fun c _ => ?_
      cases c <;> rfl
     ·simp [upd,q1,q2,q3,q4]
   ·cases r with
    | nil =>
     unfold argsR at v47
     simp [b12,v12,v47,b14,w14]
     refine Rd_dr_appN (z' := 3) (y0 := .agg [.int .i64 0,.sl 3 [] .no,.sl 1 [] .no]) (ys := []) (r := []) 100 (by omega) (by simp) (by simp) (by simp [okEl]) (by simp) ?_
     simp [b12,v12,v47,w14,newC,apartB]
     refine ⟨rfl,fin _ _ (fun x q => ?_) ?_ ?_ (fun i q1 q2 q3 q4 => ?_)⟩
     ·simp only [upd]; repeat rw [if_neg (by omega)]
     ·simp [b60]
     ·refine ⟨by simp [b12],by simp [v12],_,by simp [argsR]; rfl,fun _ => ⟨_,by simp; rfl,by simp [cellsR]; cases tp <;> cases tp2 <;> exact ⟨rfl,rfl⟩⟩⟩
     ·simp [upd,q1,q2,q3,q4]
    | cons a r =>
     unfold argsR at v47
     obtain ⟨cs,hcs,hcm⟩ := w100 (by simp)
     rw [← v100] at hcs
     have hcl : cs.length = (r.length + 1) * 3 := by
      have := congrArg List.length hcm
      rw [List.length_map,cellsR_len,List.length_cons] at this
      exact this
     have hct : (cs.take ((r.length + 1) * 3)).map AV.strip1 = cellsR (a :: r) := by rw [List.take_of_length_le (by omega),hcm]
     simp [b12,v12,v47,b14,w14]
     refine Rd_dr_appO (i := 100) (g := g) (len := r.length + 1) (ea := true) (cs := cs) (ys := [.agg [.int .i64 0,.sl 3 [] .no,.sl 1 [] .no]]) (r := []) (by omega) (by simp) (by simp) (by simp) (by simp [hcs]) (by omega) (by simp [okEl]) (by simp at hr ⊢; omega) ?_
     rw [hct]
     have hln : (cellsR (a :: r)).length = (r.length + 1) * 3 := by rw [cellsR_len]; rfl
     have hc1 : (0 ≤ (r.length : Int) + 1 ∧ (r.length : Int) < (r.length : Int) + 1) := by omega
     have hput := putC_last (cellsR (a :: r)) (.int .i64 0) (.sl 3 [] .no) (.sl 1 [] .no)
     rw [hln] at hput
     simp [b12,v12,v47,b14,w14,newC,apartB,hc1,hln,hput,-putC_def]
     refine ⟨rfl,fin _ _ (fun x q => ?_) ?_ ?_ (fun i q1 q2 q3 q4 => ?_)⟩
     ·simp only [upd]; repeat rw [if_neg (by omega)]
     ·simp [b60]
     ·refine ⟨by simp [b12],by simp [v12],_,by simp [argsR]; rfl,fun _ => ⟨_,by simp; rfl,?_⟩⟩
      rw [cellsR_snoc,List.map_append]
      congr 1
      ·rw [← hcm,List.map_map]
       refine List.map_congr_left fun c _ => ?_
       cases c <;> rfl
      ·cases tp <;> cases tp2 <;> rfl
     ·simp [upd,q1,q2,q3,q4]
  all_goals simp [*,encA]
end Go.Ab.Tab
/- The program's Reverse (53). -/
namespace Go.Ab.Tab
open Go Go.Ab
set_option maxRecDepth 10000
set_option linter.unusedVariables false
set_option linter.unusedSimpArgs false
@[simp] theorem encAu_one (p) : (encV (mkAu p)).one = false := by rw [encV_au]; rfl
@[simp] theorem encAu_cells (p) : (encV (mkAu p)).cells = [.int .i64 0,.sl 3 [.agg [.int .i64 (if p.1 then 1 else 0),.sl 3 [] .no,.sl 1 [] .no],.agg [.int .i64 0,.sl 3 (p.2.map fun r => encV (mkRow r)) .no,.sl 1 [] .no]] .no,.sl 1 [] .no] := by rw [encV_au]; rfl
@[simp] theorem encAu_strip (p) : (encV (mkAu p)).strip = encV (mkAu p) := by rw [encV_au]; rfl
theorem groups_R : ∀ (r : List (List Nat)),groups 3 true r.length (cellsR r) = r.map fun x => encV (mkRow x)
 | [] => rfl
 | a :: r => by
  have e : cellsR (a :: r) = [.int .i64 0,.sl 3 (a.map fun x => encV (mkSt x)) .no,.sl 1 [] .no] ++ cellsR r := by simp [cellsR]
  rw [e,List.length_cons,groups,List.map_cons,encV_row]
  have e1 : (([.int .i64 0,.sl 3 (a.map fun x => encV (mkSt x)) .no,.sl 1 [] .no] : List AV) ++ cellsR r).take 3 = [.int .i64 0,.sl 3 (a.map fun x => encV (mkSt x)) .no,.sl 1 [] .no] := by simp
  have e2 : (([.int .i64 0,.sl 3 (a.map fun x => encV (mkSt x)) .no,.sl 1 [] .no] : List AV) ++ cellsR r).drop 3 = cellsR r := by simp
  rw [e1,e2,groups_R r]; rfl
def killsR (D : Nat) : List (List Nat) → List (Nat × Nat)
 | [] => [(D,47)]
 | _ :: _ => [(D,47),(D,100)]
theorem frz_R {D : Nat} {τ : Nat → AV} {ω : Nat → Ent} {S : Nat → Nat → Ent} {g12 g47 : Nat} {b : Bool} {r : List (List Nat)} (hV : V53 D g12 g47 (if b then 1 else 0) τ ω r) (τ' : Nat → AV) :
  frz (stF 134 D τ' ω S) frzD (.agg [.int .i64 0,.own D 47 g47 0 2 3 true,.sl 1 [] .no]) = some (encV (mkAu (b,r)),killsR D r) := by
 obtain ⟨_,_,g,w47,w100⟩ := hV
 have h47 : ∀ n : Nat,frz (stF 134 D τ' ω S) (n + 3) (.own D 47 g47 0 2 3 true) = some (.sl 3 [.agg [.int .i64 (if b then 1 else 0),.sl 3 [] .no,.sl 1 [] .no],.agg [.int .i64 0,.sl 3 (r.map fun x => encV (mkRow x)) .no,.sl 1 [] .no]] .no,killsR D r) := by
  intro n
  have hA : frz (stF 134 D τ' ω S) (n + 2) (argsR D g r) = some (.sl 3 (r.map fun x => encV (mkRow x)) (match r with | [] => .nil | _ => .no),(killsR D r).drop 1) := by
   cases r with
   | nil => rfl
   | cons a r =>
    obtain ⟨cs,hcs,hcm⟩ := w100 (by simp)
    have hcl : cs.length = (r.length + 1) * 3 := by
     have := congrArg List.length hcm
     rw [List.length_map,cellsR_len,List.length_cons] at this
     exact this
    have hst : ∀ c ∈ cs,c.still1 = true := by
     intro c hc
     have : c.strip1 ∈ cellsR (a :: r) := by rw [← hcm]; exact List.mem_map.2 ⟨c,hc,rfl⟩
     unfold cellsR at this
     obtain ⟨x,_,hx⟩ := List.mem_flatMap.1 this
     refine still1_of_strip1 rfl ?_
     simp only [List.mem_cons,List.mem_nil_iff,or_false] at hx
     rcases hx with e | e | e <;> rw [e] <;> rfl
    have hone : cs.all AV.one = true := by
     rw [List.all_eq_true]
     intro c hc
     have := hst c hc
     cases c <;> first | rfl | cases this
    rw [argsR,frz]
    simp only [stF_look,if_true,show (100 < 134) = True by simp,hcs,stF_D]
    rw [if_pos ⟨trivial,trivial,by omega,.inl trivial,hone⟩]
    rw [List.drop_zero,List.take_of_length_le (by omega),mapM_still _ n hst]
    have e1 : (cs.map fun c => (c,([] : List (Nat × Nat)))).map (fun x => x.1.strip1) = cellsR (a :: r) := by rw [List.map_map]; exact hcm
    have e2 : ((cs.map fun c => (c,([] : List (Nat × Nat)))).map (·.2)).flatten = [] := by
     rw [List.map_map]
     simp
    simp only [e1,e2]
    have := groups_R (a :: r)
    rw [List.length_cons] at this
    rw [this]
    simp [killsR]
  rw [frz]
  simp only [stF_look,if_true,show (47 < 134) = True by simp,w47,stF_D]
  have hone : ([.int .i64 (if b then 1 else 0),.sl 3 [] .nil,.sl 1 [] .nil,.int .i64 0,argsR D g r,.sl 1 [] .nil] : List AV).all AV.one = true := by cases r <;> rfl
  rw [if_pos ⟨trivial,trivial,by simp,.inl trivial,hone⟩]
  simp only [List.drop_zero,List.take,List.mapM_cons,List.mapM_nil,hA,frz_int,frz_sl,Option.pure_def,Option.bind_eq_bind,Option.bind_some]
  cases r <;> rfl
 rw [frzD,frz]
 simp only [List.mapM_cons,List.mapM_nil,frz_int,frz_sl,h47 16,Option.pure_def,Option.bind_eq_bind,Option.bind_some]
 rw [encV_au]
 simp
def revP (A : PA) (u : BS) : Nat → Nat → List (Bool × List (List Nat))
 | 0,_ => []
 | m + 1,y => (u.has y,preLs A y A.k 0) :: revP A u m (y + 1)
theorem revP_len (A : PA) (u : BS) : ∀ (m y : Nat),(revP A u m y).length = m
 | 0,_ => rfl
 | m + 1,y => by rw [revP,List.length_cons,revP_len A u m]
def e10 (k : Nat) (rs : List (Bool × List (List Nat))) : Ent := (1,.cells [.int .i64 2,.int .i64 0,.sl 3 ([.mk 1 2 [],.mk 4 k [.mk 5 0 [.mk 0 0 []]]].map encF) .no,.sl 3 (rs.map fun p => encV (mkAu p)) .tip])
theorem l53_2 (D : Nat) (A : PA) (hn : A.n ≤ 100) (hk4 : A.k ≤ 4) (hrows : A.rows.length = A.n) (hw : ∀ r ∈ A.rows,A.k ≤ r.length) (u : BS) (K : List AI) (W : Way → St → Prop) (S) (τ0 : Nat → AV) (ω0 : Nat → Ent) (h7 : τ0 7 = encA A) (h8 : τ0 8 = .ptr D 8 1 0) (h10 : τ0 10 = .ptr D 10 1 0) (h43 : τ0 43 = .int .i64 A.n) (w8 : ω0 8 = (1,.cells [.int .u64 u.1.toNat,.int .u64 u.2.toNat])) :
  ∀ (m y : Nat) (rs : List (Bool × List (List Nat))) (τ ω),y + m = A.n → rs.length = y → (∀ x,x < 11 → τ x = τ0 x) → τ 43 = τ0 43 → τ 44 = .int .i64 y → (∀ i,i < 10 → ω i = ω0 i) → ω 10 = e10 A.k rs →
  (∀ τ' ω',(∀ x,x < 11 → τ' x = τ0 x) → (∀ i,i < 10 → ω' i = ω0 i) → ω' 10 = e10 A.k (rs ++ revP A u m y) → RunW (Loc Pg Gl) W K (stF 134 D τ' ω' S)) →
  RunW (Loc Pg Gl) W (.lp c53_l2 :: .blk 0 :: K) (stF 134 D τ ω S) := by
 intro m
 induction m with
 | zero =>
  intro y rs τ ω hy hr hτ h43' h44 hω w10 hend
  refine RunW_lpE c53_l2.eq_1 ?_
  obtain rfl : y = A.n := by omega
  rw [h43] at h43'
  refine .seq (RunW_pre (k1 := [_]) ?_)
  simp [h43',h44]
  refine ⟨rfl,.seq (.cond (t := false) (by simp) (.exit (k' := K) (by simp) ?_))⟩
  rw [revP,List.append_nil] at hend
  refine hend _ _ (fun x h1 => ?_) hω w10
  rw [← hτ x h1]; simp only [upd]; repeat rw [if_neg (by omega)]
 | succ m ih =>
  intro y rs τ ω hy hr hτ h43' h44 hω w10 hend
  refine RunW_lpE c53_l2.eq_1 ?_
  have hlt : y < A.n := by omega
  have hwr : IntKind.i64.wrap ((y : Int) + 1) = ((y + 1 : Nat) : Int) := by rw [← wrap_i64_nat (n := y + 1) (by omega)]; rfl
  have a43 := h43'.trans h43
  have a7 := (hτ 7 (by decide)).trans h7
  have a8 := (hτ 8 (by decide)).trans h8
  have a10 := (hτ 10 (by decide)).trans h10
  have v8 := (hω 8 (by decide)).trans w8
  rw [revP] at hend
  have hap : rs ++ (u.has y,preLs A y A.k 0) :: revP A u m (y + 1) = (rs ++ [(u.has y,preLs A y A.k 0)]) ++ revP A u m (y + 1) := by simp
  rw [hap] at hend
  refine .seq (RunW_pre (k1 := [_]) ?_)
  simp [a43,h44]
  refine ⟨rfl,.seq (.cond (t := true) (by simp; omega) (.skip (.seq (.block (.seq (RunW_pre (k1 := [_]) ?_))))))⟩
  simp [h44]
  refine ⟨rfl,.seq (RunW_pre (k1 := [_]) ?_)⟩
  simp
  have rest : ∀ (g12 g47 : Nat) (τ1 : Nat → AV) (ω1 : Nat → Ent),(∀ x,x < 11 → τ1 x = τ0 x) → τ1 11 = .int .i64 y → τ1 43 = .int .i64 A.n → τ1 44 = .int .i64 y → (∀ i,i < 10 → ω1 i = ω0 i) → ω1 10 = e10 A.k rs → V53 D g12 g47 (if u.has y then 1 else 0) τ1 ω1 [] →
    RunW (Loc Pg Gl) W (.c c53_j0 :: .blk 1 :: .c c53_k3 :: .lp c53_l2 :: .blk 0 :: K) (stF 134 D τ1 ω1 S) := by
   intro g12 g47 τ1 ω1 hτ1 b11 b43 b44 hω1 v10 hV1
   unfold c53_j0
   have b7 : τ1 7 = encA A := (hτ1 7 (by decide)).trans h7
   have b10 : τ1 10 = .ptr D 10 1 0 := (hτ1 10 (by decide)).trans h10
   refine .seq (.seq (RunW_pre (k1 := [_]) ?_))
   simp [b7,encA]
   refine ⟨rfl,.block (RunW_loop ?_)⟩
   refine l53_1 D A hn hk4 hrows hw y (by omega) g12 g47 (if u.has y then 1 else 0) _ W S _ ω1 ?_ ?_ ?_ A.k 0 [] _ _ (by omega) rfl (fun x _ _ _ _ => rfl) ?_ ?_ (fun i _ _ _ _ => rfl) ?_
   case refine_6 =>
    intro τ2 ω2 hτ2 hV2 hω2
    rw [List.nil_append] at hV2
    have q47 := hV2
    obtain ⟨c12,u12,_⟩ := hV2
    have c10 : τ2 10 = .ptr D 10 1 0 := by rw [hτ2 10 (by decide) (by decide) (by decide) (by decide)]; simp [b10]
    have c44 : τ2 44 = .int .i64 y := by rw [hτ2 44 (by decide) (by decide) (by decide) (by decide)]; simp [b44]
    have c43 : τ2 43 = .int .i64 A.n := by rw [hτ2 43 (by decide) (by decide) (by decide) (by decide)]; simp [b43]
    have cτ : ∀ x,x < 11 → τ2 x = τ0 x := fun x q => by
     rw [hτ2 x (by omega) (by omega) (by omega) (by omega),← hτ1 x q]; simp only [upd]; repeat rw [if_neg (by omega)]
    have u10 : ω2 10 = e10 A.k rs := by rw [hω2 10 (by decide) (by decide) (by decide) (by decide),v10]
    have cω : ∀ i,i < 10 → ω2 i = ω0 i := fun i q => by rw [hω2 i (by omega) (by omega) (by omega) (by omega),hω1 i q]
    generalize preLs A y A.k 0 = r at q47 hend
    have hfz : ∀ τ' e,frz (stF 134 D τ' (upd ω2 10 e) S) frzD (.agg [.int .i64 0,.own D 47 g47 0 2 3 true,.sl 1 [] .no]) = some (encV (mkAu (u.has y,r)),killsR D r) := by
     intro τ' e
     refine frz_R (τ := τ2) (g12 := g12) ⟨c12,by simp [u12],?_⟩ τ'
     obtain ⟨g,q1,q2⟩ := q47.w47
     exact ⟨g,by simp [q1],fun h => by obtain ⟨cs,q3,q4⟩ := q2 h; exact ⟨cs,by simp [q3],q4⟩⟩
    have fin : ∀ (τ3 : Nat → AV) (ω3 : Nat → Ent),(∀ x,x < 11 → τ3 x = τ2 x) → τ3 43 = τ2 43 → τ3 44 = τ2 44 → (∀ i,i < 10 → ω3 i = ω2 i) → ω3 10 = e10 A.k (rs ++ [(u.has y,r)]) →
      RunW (Loc Pg Gl) W (.blk 1 :: .c c53_k3 :: .lp c53_l2 :: .blk 0 :: K) (stF 134 D τ3 ω3 S) := by
     intro τ3 ω3 d1 d43 d44 d2 d3
     refine .blk (RunW_pre (k1 := [_]) ?_)
     unfold c53_k3
     simp [d44,c44,hwr]
     refine ⟨rfl,ih (y + 1) (rs ++ [(u.has y,r)]) _ _ (by omega) (by simp; omega) (fun x q => ?_) ?_ ?_ (fun i q => (d2 i q).trans (cω i q)) d3 hend⟩
     ·rw [← cτ x q,← d1 x q]; simp only [upd]; repeat rw [if_neg (by omega)]
     ·simp [d43,c43,h43]
     ·simp
    refine RunW_pre (k1 := [_]) ?_
    unfold c53_k2
    unfold e10 at u10
    have hle : (rs.length + 1) * 56 ≤ 1099511627776 := by omega
    cases r with
    | nil =>
     simp [c10,u10,c12,u12,hfz,hle,killsR,-frzD_agg]
     refine ⟨rfl,fin _ _ (fun x q => ?_) ?_ ?_ (fun i q => ?_) ?_⟩
     ·simp only [upd]; repeat rw [if_neg (by omega)]
     ·simp
     ·simp
     ·simp only [upd]; repeat rw [if_neg (by omega)]
     ·simp [e10]
    | cons a r =>
     simp [c10,u10,c12,u12,hfz,hle,killsR,-frzD_agg]
     refine ⟨rfl,fin _ _ (fun x q => ?_) ?_ ?_ (fun i q => ?_) ?_⟩
     ·simp only [upd]; repeat rw [if_neg (by omega)]
     ·simp
     ·simp
     ·simp only [upd]; repeat rw [if_neg (by omega)]
     ·simp [e10]
   case refine_5 =>
    obtain ⟨q1,q2,q3⟩ := hV1
    exact ⟨by simp [q1],q2,q3⟩
   all_goals simp [b7,b11,encA]
  refine ⟨rfl,.seq (.seq (RunW_pre (k1 := [_]) ?_))⟩
  simp [a8,v8]
  refine Rd_call (spec94 _ u y (by omega)) (by simp [encS]) ?_
  simp
  refine ⟨rfl,.cond (t := u.has y) (by simp) ?_⟩
  cases hb : u.has y with
  | false =>
   rw [hb] at rest
   refine .skip (rest ((ω 12).1 + 1) ((ω 47).1 + 1) _ _ (fun x q => ?_) ?_ ?_ ?_ (fun i q => ?_) ?_ ?_)
   ·rw [← hτ x q]; simp only [upd]; repeat rw [if_neg (by omega)]
   ·simp
   ·simp [a43]
   ·simp [h44]
   ·rw [← hω i q]; simp only [upd]; repeat rw [if_neg (by omega)]
   ·simp [w10]
   ·exact ⟨by simp,by simp,0,by simp [argsR],by simp⟩
  | true =>
   rw [hb] at rest
   refine RunW_pre (k1 := [_]) ?_
   simp
   refine ⟨rfl,rest ((ω 12).1 + 1) ((ω 47).1 + 1) _ _ (fun x q => ?_) ?_ ?_ ?_ (fun i q => ?_) ?_ ?_⟩
   ·rw [← hτ x q]; simp only [upd]; repeat rw [if_neg (by omega)]
   ·simp
   ·simp [a43]
   ·simp [h44]
   ·rw [← hω i q]; simp only [upd]; repeat rw [if_neg (by omega)]
   ·simp [w10]
   ·exact ⟨by simp,by simp,0,by simp [argsR],by simp⟩
def rRev (k : Nat) (A : PA) (rs : List (Bool × List (List Nat))) : AV :=
 if isY (auY k rs) then .tup [encY (auY k rs),.sl 1 (A.F.list.map encN) .no,.int .i64 0] else errDet 2
theorem spec53_ok (D k : Nat) (ps : List (Bool × List (List Nat))) (hps : AuOk k ps) (hrl : ∀ p ∈ ps,∀ r ∈ p.2,r.length ≤ maxLen) (hY : isY (auY k ps) = true) (hv : ∀ v ∈ (auY k ps).m,fitV v) (hb : nodesVs (auY k ps).m ≤ 2 ^ 32)
  (hrows : (paOf k ps).rows.length = (paOf k ps).n) (hw : ∀ r ∈ (paOf k ps).rows,(paOf k ps).k ≤ r.length) (l : List Int) (hl : l.length ≤ maxLen)
  (rs : List (Bool × List (List Nat))) (hrs : rs = revP (paOf k ps) (toS l) (paOf k ps).n 0) (hfR : fitF (auY k rs).f) (hlR : rs.length ≤ maxLen) (hvR : ∀ v ∈ (auY k rs).m,fitV v) (hbR : nodesVs (auY k rs).m ≤ 2 ^ 32) :
  Go.Ab.Loc Pg Gl D 53 [encY (auY k ps),encI l] [] (if isSet ps.length l then rRev k (paOf k ps) rs else errDet 1) [] := by
 have hn := hps.len
 have hk4 := hps.kle
 have h88 := spec88_ok (D + 1) k ps hps hrl hY hv hb l hl
 have h95 := spec95 (auY k rs) hfR (by simpa [auY] using hlR) hvR hbR (D + 1)
 have hAn : (paOf k ps).n ≤ 100 := hn
 have hAk : (paOf k ps).k ≤ 4 := hk4
 have hkk : (paOf k ps).k = k := rfl
 generalize hA : paOf k ps = A at *
 subst hkk
 rw [encY_au] at h88 h95 ⊢
 obtain ⟨fn,code,t1,t2,t3,t4,t5,t6⟩ := tok 53 _ rfl
 generalize hr : (if isSet ps.length l then rRev A.k A rs else errDet 1) = r
 refine loc_of_run (L := Lx) mixedP t1 t2 t3 t4 t5 fun S hS => ?_
 rw [t6,start_stF _ _ _ _ (by simp)]
 refine RunW.imp (Q := fnQ (RetQ [.cell 4 true 4,.tmp 5,.tmp 6] r S)) (fun w s' h => by
  have hq : RetQ [.cell 4 true 4,.tmp 5,.tmp 6] r S s' → resV s' [.cell 4 true 4,.tmp 5,.tmp 6] = some r ∧ ∀ d i,d ≠ D → s'.S d i = upds S [] d i := fun h => ⟨h.1,fun d i hd => by rw [h.2]; rfl⟩
  cases w with
  | fall => exact hq h
  | ret => exact hq h
  | exit => exact h
  | stop => exact h) ?_
 unfold c53
 refine .seq (RunW_pre (k1 := [_]) ?_)
 simp
 refine ⟨rfl,.seq (RunW_pre (k1 := [_]) ?_)⟩
 simp
 refine Rd_call h88 (by simp [encI]) ?_
 cases hs : isSet ps.length l with
 | false =>
  rw [hs] at hr
  simp [zS,encS]
  refine ⟨rfl,.seq (.seq (RunW_pre (k1 := [_]) ?_))⟩
  simp
  refine ⟨rfl,.cond (t := true) (by simp) (Rd.run (own := .im) ?_)⟩
  simp [← hr,errDet,zeroY]
 | true =>
 rw [hs,if_pos rfl] at hr
 simp [encS]
 refine ⟨rfl,.seq (.seq (RunW_pre (k1 := [_]) ?_))⟩
 simp
 refine ⟨rfl,.cond (t := false) (by simp) (.skip (.seq (RunW_pre (k1 := [_]) ?_)))⟩
 simp [encA]
 refine ⟨rfl,.seq (.seq (RunW_pre (k1 := [_]) ?_))⟩
 simp [encA]
 refine ⟨rfl,.block (RunW_loop ?_)⟩
 refine l53_2 D A hAn hAk hrows hw (toS l) _ _ S _ _ ?_ ?_ ?_ ?_ ?_ A.n 0 [] _ _ (by omega) rfl (fun x _ => rfl) rfl ?_ (fun i _ => rfl) ?_ ?_
 case refine_8 =>
  intro τ1 ω1 hτ1 hω1 w10
  have a4 : τ1 4 = .ptr D 4 1 0 := by rw [hτ1 4 (by decide)]; simp
  have a7 : τ1 7 = encA A := by rw [hτ1 7 (by decide)]; simp [encA]
  have a10 : τ1 10 = .ptr D 10 1 0 := by rw [hτ1 10 (by decide)]; simp
  have v4 : ω1 4 = (1,.cells [.int .i64 0,.int .i64 0,.sl 3 [] .tip,.sl 3 [] .tip]) := by rw [hω1 4 (by decide)]; simp
  rw [List.nil_append,← hrs] at w10
  unfold c53_k4
  unfold e10 at w10
  refine Rd.run (own := .im) ?_
  simp [a10,w10]
  refine Rd_call h95 (by simp [List.map_map,Function.comp_def]) ?_
  cases hyr : isY (auY A.k rs) with
  | false =>
   simp [a4,v4,← hr,rRev,hyr,errDet,zeroY]
  | true =>
   simp [a10,w10,a7,encA]
   refine Rd_drCall (spec61 _ A.F) (by simp [encS]) ?_
   simp [a4,v4,← hr,rRev,hyr,encY_au]
 all_goals simp [encA,e10,encF_mk]
end Go.Ab.Tab
/- The reference's Index (96) and Reverse (54): the inner loops. -/
namespace Go.Ab.Tab
open Go Go.Ab
set_option maxRecDepth 10000
set_option linter.unusedVariables false
set_option linter.unusedSimpArgs false
end Go.Ab.Tab
/- The reference's Reverse (54). -/
namespace Go.Ab.Tab
open Go Go.Ab
set_option maxRecDepth 10000
set_option linter.unusedVariables false
set_option linter.unusedSimpArgs false
theorem F_has {k : Nat} {ps : Aut} (hn : ps.length ≤ 100) {x : Nat} (hx : x < 128) : (paOf k ps).F.has x = ((ps[x]?).map (·.1)).getD false := by
 rw [Bool.eq_iff_iff]
 show (finF 0 ps (0#64,0#64)).has x = true ↔ _
 rw [has_finF hx ps 0 _ (by omega),has_zero]
 simp
end Go.Ab.Tab
/- The plain law of reversal. -/
namespace Go.Ab.Tab
open Go Go.Ab
set_option maxRecDepth 10000
set_option linter.unusedVariables false
set_option linter.unusedSimpArgs false
def Pth (A : PA) : Nat → List Nat → Nat → Prop
 | x,[],y => x = y
 | x,a :: w,y => ∃ z,(rowA A x a).has z = true ∧ Pth A z w y
theorem Pth_snoc {A : PA} {a y : Nat} : ∀ {w : List Nat} {x : Nat},Pth A x (w ++ [a]) y ↔ ∃ z,Pth A x w z ∧ (rowA A z a).has y = true
 | [],x => by
  simp only [List.nil_append,Pth]
  constructor
  ·rintro ⟨z,h,rfl⟩; exact ⟨x,rfl,h⟩
  ·rintro ⟨z,rfl,h⟩; exact ⟨y,h,rfl⟩
 | b :: w,x => by
  simp only [List.cons_append,Pth]
  constructor
  ·rintro ⟨z,h,q⟩
   obtain ⟨v,q1,q2⟩ := Pth_snoc.1 q
   exact ⟨v,⟨z,h,q1⟩,q2⟩
  ·rintro ⟨v,⟨z,h,q1⟩,q2⟩
   exact ⟨z,h,Pth_snoc.2 ⟨v,q1,q2⟩⟩
theorem AccS_pth {A : PA} : ∀ {w : List Nat} {x : Nat},AccS A x w ↔ ∃ y,Pth A x w y ∧ A.F.has y = true
 | [],x => by
  constructor
  ·intro h; exact ⟨x,rfl,h⟩
  ·rintro ⟨y,rfl,h⟩; exact h
 | a :: w,x => by
  constructor
  ·rintro ⟨z,h,q⟩
   obtain ⟨y,q1,q2⟩ := AccS_pth.1 q
   exact ⟨y,⟨z,h,q1⟩,q2⟩
  ·rintro ⟨y,⟨z,h,q1⟩,q2⟩
   exact ⟨z,h,AccS_pth.2 ⟨y,q1,q2⟩⟩
theorem Acc_pth {A : PA} {u : BS} {w : List Nat} : Acc A u w ↔ ∃ x y,u.has x = true ∧ Pth A x w y ∧ A.F.has y = true := by
 unfold Acc
 constructor
 ·rintro ⟨x,h,q⟩; obtain ⟨y,q1,q2⟩ := AccS_pth.1 q; exact ⟨x,y,h,q1,q2⟩
 ·rintro ⟨x,y,h,q1,q2⟩; exact ⟨x,h,AccS_pth.2 ⟨y,q1,q2⟩⟩
def RevOf (A B : PA) : Prop := ∀ x y a,(rowA A x a).has y = true ↔ (rowA B y a).has x = true
theorem Pth_rev {A B : PA} (h : RevOf A B) : ∀ {w : List Nat} {x y : Nat},Pth A x w y ↔ Pth B y w.reverse x
 | [],x,y => by simp only [List.reverse_nil,Pth]; exact eq_comm
 | a :: w,x,y => by
  rw [List.reverse_cons,Pth_snoc,Pth]
  constructor
  ·rintro ⟨z,q1,q2⟩; exact ⟨z,(Pth_rev h).1 q2,(h _ _ _).1 q1⟩
  ·rintro ⟨z,q1,q2⟩; exact ⟨z,(h _ _ _).2 q2,(Pth_rev h).2 q1⟩
theorem Acc_rev {A B : PA} (h : RevOf A B) (w : List Nat) : Acc A B.F w ↔ Acc B A.F w.reverse := by
 rw [Acc_pth,Acc_pth]
 constructor
 ·rintro ⟨x,y,h1,h2,h3⟩; exact ⟨y,x,h3,(Pth_rev h).1 h2,h1⟩
 ·rintro ⟨x,y,h1,h2,h3⟩; exact ⟨y,x,h3,(Pth_rev h).2 h2,h1⟩
theorem preLs_get (A : PA) (y : Nat) : ∀ (m l a : Nat),(preLs A y m l)[a]? = if a < m then some (preL A y (l + a) 0 A.n) else none
 | 0,l,a => by simp [preLs]
 | m + 1,l,0 => by simp [preLs]
 | m + 1,l,a + 1 => by
  rw [preLs,List.getElem?_cons_succ,preLs_get A y m (l + 1) a]
  have e : l + 1 + a = l + (a + 1) := by omega
  rw [e]
  by_cases h : a < m
  ·rw [if_pos h,if_pos (by omega)]
  ·rw [if_neg h,if_neg (by omega)]
theorem preLs_len (A : PA) (y : Nat) : ∀ (m l : Nat),(preLs A y m l).length = m
 | 0,l => rfl
 | m + 1,l => by rw [preLs,List.length_cons,preLs_len A y m]
theorem revP_get (A : PA) (u : BS) : ∀ (m y z : Nat),(revP A u m y)[z]? = if z < m then some (u.has (y + z),preLs A (y + z) A.k 0) else none
 | 0,y,z => by simp [revP]
 | m + 1,y,0 => by simp [revP]
 | m + 1,y,z + 1 => by
  rw [revP,List.getElem?_cons_succ,revP_get A u m (y + 1) z]
  have e : y + 1 + z = y + (z + 1) := by omega
  rw [e]
  by_cases h : z < m
  ·rw [if_pos h,if_pos (by omega)]
  ·rw [if_neg h,if_neg (by omega)]
theorem mem_preL {A : PA} {y l x : Nat} : x ∈ preL A y l 0 A.n ↔ x < A.n ∧ (rowA A x l).has y = true := by
 rw [preL,List.mem_filter,List.mem_range']
 constructor
 ·rintro ⟨⟨i,hi,rfl⟩,h⟩; exact ⟨by omega,by simpa using h⟩
 ·rintro ⟨h1,h2⟩; exact ⟨⟨x,h1,by omega⟩,h2⟩
theorem preL_len (A : PA) (y l : Nat) : (preL A y l 0 A.n).length ≤ A.n := by
 unfold preL
 refine Nat.le_trans (List.length_filter_le _ _) (by simp)
def revA (k : Nat) (ps : Aut) (l : List Int) : Aut := revP (paOf k ps) (toS l) ps.length 0
theorem revA_len (k : Nat) (ps : Aut) (l : List Int) : (revA k ps l).length = ps.length := revP_len _ _ _ _
theorem revA_mem {k : Nat} {ps : Aut} {l : List Int} {p : Bool × List (List Nat)} (h : p ∈ revA k ps l) : ∃ y,y < ps.length ∧ p = ((toS l).has y,preLs (paOf k ps) y k 0) := by
 obtain ⟨i,hi⟩ := List.getElem?_of_mem h
 rw [revA,revP_get] at hi
 split at hi
 ·rename_i hlt
  injection hi with hi
  exact ⟨i,hlt,by rw [← hi,Nat.zero_add]; rfl⟩
 ·cases hi
theorem preLs_mem {A : PA} {y m : Nat} {r : List Nat} (h : r ∈ preLs A y m 0) : ∃ a,a < m ∧ r = preL A y a 0 A.n := by
 obtain ⟨i,hi⟩ := List.getElem?_of_mem h
 rw [preLs_get] at hi
 split at hi
 ·rename_i hlt
  injection hi with hi
  exact ⟨i,hlt,by rw [← hi,Nat.zero_add]⟩
 ·cases hi
theorem revA_ok {k : Nat} {ps : Aut} (h : AuOk k ps) (l : List Int) : AuOk k (revA k ps l) := by
 refine ⟨h.kpos,h.kle,by rw [revA_len]; exact h.len,fun p hp => ?_⟩
 obtain ⟨y,hy,rfl⟩ := revA_mem hp
 refine ⟨preLs_len _ _ _ _,fun r hr x hx => ?_⟩
 obtain ⟨a,ha,rfl⟩ := preLs_mem hr
 rw [revA_len]
 exact (mem_preL.1 hx).1
theorem revA_rl {k : Nat} {ps : Aut} (h : AuOk k ps) (l : List Int) : ∀ p ∈ revA k ps l,∀ r ∈ p.2,r.length ≤ 100 := by
 intro p hp r hr
 obtain ⟨y,hy,rfl⟩ := revA_mem hp
 obtain ⟨a,ha,rfl⟩ := preLs_mem hr
 exact Nat.le_trans (preL_len _ _ _) h.len
theorem au_fit {k : Nat} {ps : Aut} (h : AuOk k ps) (hr : ∀ p ∈ ps,∀ r ∈ p.2,r.length ≤ 100) : ∀ v ∈ (auY k ps).m,fitV v := by
 intro v hv
 obtain ⟨p,hp,rfl⟩ := List.mem_map.1 hv
 have h1 : fitVs (p.2.map mkRow) := fitVs_of fun a ha => by
  obtain ⟨r,hr2,rfl⟩ := List.mem_map.1 ha
  have hl := hr p hp r hr2
  have h2 : fitVs (r.map mkSt) := fitVs_of fun a ha => by
   obtain ⟨x,_,rfl⟩ := List.mem_map.1 ha
   simp [mkSt,fitV,fitVs,maxLen]
  simp [mkRow,fitV,maxLen,h2]
  unfold maxLen at *
  omega
 have hk := (h.row p hp).1
 have hk4 := h.kle
 simp [mkAu,mkOut,fitV,fitVs,maxLen,h1]
 unfold maxLen at *
 omega
theorem nodesVs_map {α : Type} (g : α → Va) (c : Nat) : ∀ (l : List α),(∀ a ∈ l,nodesV (g a) ≤ c) → nodesVs (l.map g) ≤ l.length * c
 | [],_ => by simp [nodesVs]
 | a :: l,h => by
  have h1 := nodesVs_map g c l fun b hb => h b (by simp [hb])
  have h2 := h a (by simp)
  rw [List.map_cons,nodesVs,List.length_cons,Nat.add_mul]
  omega
theorem au_nodes {k : Nat} {ps : Aut} (h : AuOk k ps) (hr : ∀ p ∈ ps,∀ r ∈ p.2,r.length ≤ 100) : nodesVs (auY k ps).m ≤ 2 ^ 32 := by
 have hn := h.len
 have hk4 := h.kle
 have h1 := nodesVs_map mkAu 1000 ps fun p hp => by
  have hk := (h.row p hp).1
  have h2 := nodesVs_map mkRow 101 p.2 fun r hr2 => by
   have hl := hr p hp r hr2
   have h3 := nodesVs_map mkSt 1 r fun x hx => by simp [mkSt,nodesV,nodesVs]
   simp [mkRow,nodesV]
   omega
  simp [mkAu,mkOut,nodesV,nodesVs]
  rw [hk] at h2
  have : k * 101 ≤ 4 * 101 := Nat.mul_le_mul_right _ hk4
  omega
 show nodesVs (ps.map mkAu) ≤ _
 have : ps.length * 1000 ≤ 100 * 1000 := Nat.mul_le_mul_right _ hn
 omega
theorem revA_g {k : Nat} {ps : Aut} (h : AuOk k ps) (l : List Int) (hy : isY (auY k (revA k ps l)) = true) : AuG k (revA k ps l) := by
 have h1 := revA_ok h l
 have h2 := revA_rl h l
 exact ⟨h1,fun p hp r hr => by have := h2 p hp r hr; unfold maxLen; omega,hy,au_fit h1 h2,au_nodes h1 h2⟩
theorem revA_row {k : Nat} {ps : Aut} (h : AuOk k ps) (l : List Int) : RevOf (paOf k ps) (paOf k (revA k ps l)) := by
 intro x y a
 have hn := h.len
 have hok := revA_ok h l
 rw [rowA_cell (paOf k (revA k ps l)),cellA_paOf]
 constructor
 ·intro hh
  obtain ⟨q1,q2,q3⟩ := has_row_k h.a hh
  have q1 : x < ps.length := q1
  have q2 : a < k := q2
  have q3 : y < ps.length := q3
  have e : rowN (revA k ps l) y a = preL (paOf k ps) y a 0 ps.length := by
   unfold rowN
   rw [revA,revP_get,if_pos q3,Option.map_some,Option.getD_some]
   simp only []
   rw [preLs_get,if_pos (show a < (paOf k ps).k from q2),Option.getD_some,Nat.zero_add,Nat.zero_add]; rfl
  rw [e,has_toN (by omega) (fun z hz => by have := (mem_preL.1 hz).1; have : z < ps.length := this; omega),decide_eq_true_eq]
  exact mem_preL.2 ⟨q1,hh⟩
 ·intro hh
  have hx := has_lt hh
  have hr : ∀ z ∈ rowN (revA k ps l) y a,z < 128 := fun z hz => by have := rowN_lt hok hz; rw [revA_len] at this; omega
  rw [has_toN hx hr,decide_eq_true_eq] at hh
  unfold rowN at hh
  rw [revA,revP_get] at hh
  split at hh
  ·rw [Option.map_some,Option.getD_some] at hh
   simp only [] at hh
   rw [preLs_get] at hh
   split at hh
   ·rw [Option.getD_some,Nat.zero_add,Nat.zero_add] at hh
    exact (mem_preL.1 hh).2
   ·simp at hh
  ·simp at hh
theorem F_full {k : Nat} {ps : Aut} (h : AuOk k ps) : (paOf k ps).F.sub (fullS ps.length) = true := by
 have hn := h.len
 rw [sub_iff]
 intro x hx hf
 rw [F_has hn hx] at hf
 refine has_fullN (by omega) ?_
 apply Classical.byContradiction; intro hc
 rw [List.getElem?_eq_none (by omega)] at hf
 simp at hf
theorem revA_F {k : Nat} {ps : Aut} (h : AuOk k ps) {l : List Int} (hl : VS ps.length l) : (paOf k (revA k ps l)).F = toS l := by
 have hn := h.len
 refine BS.ext fun x hx => ?_
 rw [F_has (by rw [revA_len]; exact hn) hx,revA,revP_get]
 by_cases hlt : x < ps.length
 ·rw [if_pos hlt]; simp
 ·rw [if_neg hlt]
  rw [has_toS (show ps.length ≤ 128 by omega) hl.below hx]
  simp
  intro hm
  have := hl.below _ hm
  omega
theorem runB_wd (A : PA) : ∀ (w : List Int) (u : BS),runB A u w = runWd A u (w.map Int.toNat)
 | [],u => rfl
 | a :: w,u => by
  show runB A (nextA A u a.toNat) w = runWd A (nextA A u a.toNat) (w.map Int.toNat)
  exact runB_wd A w _
theorem rev_acc {k : Nat} {ps : Aut} (h : AuOk k ps) {l : List Int} (hl : VS ps.length l) (w : List Int) :
  endsB (paOf k (revA k ps l)).F (runB (paOf k (revA k ps l)) (toS (lN ps.length (paOf k ps).F)) w.reverse) = endsB (paOf k ps).F (runB (paOf k ps) (toS l) w) := by
 rw [Bool.eq_iff_iff,runB_wd,runB_wd,← Acc_run (revA_ok h l).a,← Acc_run h.a,toS_lN h.len (F_full h),List.map_reverse,← Acc_rev (revA_row h l),revA_F h hl]
end Go.Ab.Tab
/- Law 11 (DetReverses). -/
namespace Go.Ab.Tab
open Go Go.Ab
set_option maxRecDepth 10000
set_option linter.unusedVariables false
set_option linter.unusedSimpArgs false
theorem F_list {k : Nat} {ps : Aut} (h : AuOk k ps) : AV.sl 1 ((paOf k ps).F.list.map encN) .no = encI (lN ps.length (paOf k ps).F) := by
 have e := toS_lN h.len (F_full h)
 have e2 := list_toS (lN_vs h.len (paOf k ps).F)
 rw [e] at e2
 rw [← e2,encI,List.map_map]
 rfl
theorem faultW_one {k : Nat} {ps : Aut} (hG : AuG k ps) (l w : List Int) : faultW (auY k ps) l w = if isSet ps.length l && wordOk k w then 0 else 1 := faultW_ok hG l w
end Go.Ab.Tab
/- Values: the reference's Map (110). -/
namespace Go.Ab.Tab
open Go Go.Ab
set_option maxRecDepth 10000
set_option linter.unusedVariables false
set_option linter.unusedSimpArgs false
mutual
def mapV (to : List Int) : Va → Fu → Va
 | .mk a gs ws,f => if f.k = 0 then .mk (to[a.toNat]?.getD 0) [] [] else putV f (.mk a gs ws) (mapVs to gs (partsF f (.mk a gs ws)))
def mapVs (to : List Int) : List Va → List Fu → List Va
 | [],_ => []
 | _ :: _,[] => []
 | v :: l,f :: fs => mapV to v f :: mapVs to l fs
end
theorem mapVs_fit (to : List Int) : ∀ (l : List Va) (fs : List Fu),(∀ v ∈ l,∀ f,fitV (mapV to v f)) → ∀ a ∈ mapVs to l fs,fitV a
 | [],fs,h,a,ha => by rw [mapVs] at ha; cases ha
 | v :: l,[],h,a,ha => by rw [mapVs] at ha; cases ha
 | v :: l,f :: fs,h,a,ha => by
  rw [mapVs] at ha
  rcases List.mem_cons.1 ha with rfl | ha
  ·exact h v (by simp) f
  ·exact mapVs_fit to l fs (fun w hw => h w (by simp [hw])) a ha
theorem mapVs_le (to : List Int) : ∀ (l : List Va) (fs : List Fu),(mapVs to l fs).length ≤ l.length
 | [],fs => by rw [mapVs]; exact Nat.le_refl _
 | v :: l,[] => by rw [mapVs]; simp
 | v :: l,f :: fs => by rw [mapVs,List.length_cons,List.length_cons]; have := mapVs_le to l fs; omega
theorem mapV_fit (to : List Int) : ∀ (v : Va),fitV v → ∀ f,fitV (mapV to v f) := by
 refine Va.ind' fun a gs ws hrec => ?_
 intro hv f
 rw [mapV]
 split
 ·simp [fitV,fitVs,maxLen]
 ·have hf := (fitV_gs _).1 hv
  have h1 := putV_gs f (.mk a gs ws) (mapVs to gs (partsF f (.mk a gs ws)))
  have h2 := putV_ws f (.mk a gs ws) (mapVs to gs (partsF f (.mk a gs ws)))
  have h3 := mapVs_le to gs (partsF f (.mk a gs ws))
  rw [fitV_gs]
  have q1 : gs.length ≤ maxLen := hf.1.1
  refine ⟨⟨by omega,?_⟩,fitVs_of fun b hb => mapVs_fit to gs _ (fun v hv' f => hrec v hv' (fitVs_mem hf.2 v hv') f) b (putV_mem _ _ _ b hb)⟩
  have := Nat.max_le.2 ⟨(by omega : (mapVs to gs (partsF f (.mk a gs ws))).length ≤ maxLen),hf.1.2⟩
  omega
theorem normVs_get {n : Nat} : ∀ {l : List Va} {fs : List Fu},(normVs n l fs).isSome = true → ∀ (i : Nat) (h : i < l.length) (h2 : i < fs.length),(normV n l[i] fs[i]).isSome = true
 | [],fs,_,i,h,_ => by simp at h
 | v :: l,[],_,i,_,h2 => by simp at h2
 | v :: l,f :: fs,hs,i,h,h2 => by
  rw [normVs] at hs
  cases hu : normV n v f with
  | none => rw [hu] at hs; simp at hs
  | some u =>
   rw [hu] at hs
   cases i with
   | zero => simpa using by rw [hu]; rfl
   | succ i => simpa using normVs_get (by simpa using hs) i (by simpa using h) (by simpa using h2)
theorem l110 (D : Nat) (f : Fu) (hf : shapedF f = true) (to : List Int) (v : Va) (hv : fitV v) (hvl : v.gs.length ≤ 2 ^ 30) (hok : okV to.length f v = true) (hns : (normVs to.length v.gs (partsF f v)).isSome = true)
  (hrec : ∀ a ∈ v.gs,∀ (f : Fu),shapedF f = true → (normV to.length a f).isSome = true → ∀ (D : Nat),Go.Ab.Loc Pg Gl D 110 [encF f,encV a,encI to] [] (encV (mapV to a f)) []) (S) :
  ∀ (j i : Nat) (acc : List Va) (tp : Tip) (τ ω) (r : AV),i + j = v.gs.length → (tp = .tip ∨ tp = .nil) → acc.length = i → (∀ a ∈ acc,fitV a) →
  τ 2 = encI to → τ 3 = .ptr D 3 1 0 → τ 6 = .ptr D 6 1 0 → τ 7 = .sl 3 ((partsF f v).map encF) .no → τ 9 = .ptr D 9 1 0 → τ 34 = .sl 3 (v.gs.map encV) .no → τ 35 = .int .i64 v.gs.length → τ 36 = .int .i64 i →
  ω 3 = (1,.cells [.int .i64 f.k,.int .i64 f.n,.sl 3 (f.gs.map encF) .no]) → ω 6 = (1,.cells [.int .i64 0,.sl 3 [] .tip,.sl 1 [] .tip]) →
  ω 9 = (1,.cells [.int .i64 v.n,.sl 3 (acc.map encV) tp,.sl 1 (v.ws.map (AV.int .i64)) .no]) →
  r = encV (putV f v (acc ++ mapVs to (v.gs.drop i) ((partsF f v).drop i))) →
  Rd (Loc Pg Gl) .im (RetQ [.cell 6 true 3] r S) [.lp c110_l0,.blk 0,.c c110_k0] (stF 62 D τ ω S) := by
 have hpl : (partsF f v).length = v.gs.length := by
  have hok' := hok
  unfold okV partsOk at hok'
  simp only [Bool.and_eq_true,decide_eq_true_eq] at hok'
  exact hok'.1.2
 intro j
 induction j with
 | zero =>
  intro i acc tp τ ω r hi htp hal haf h2 h3 h6 h7 h9 h34 h35 h36 w3 w6 w9 hr
  refine Rd_lpE c110_l0.eq_1 ?_
  obtain rfl : i = v.gs.length := by omega
  rw [List.drop_length,mapVs,List.append_nil] at hr
  simp [h2,h3,h6,h7,h9,h34,h35,h36,w3,w6,w9,c110_k0]
  refine Rd_call (spec124 _ f.k) (by simp) ?_
  have hok' := hok
  unfold okV at hok'
  simp only [Bool.and_eq_true] at hok'
  obtain ⟨hw1,hw2,hw3⟩ := weighed_ok hok'.2.2
  rw [putV] at hr
  cases hs : sets f.k with
  | false =>
   rw [hs] at hr
   simp [encV_mk] at hr
   simp [h3,h6,h9,w3,w6,w9]
   rcases htp with rfl | rfl <;> simp [hr]
  | true =>
   rw [hs,if_pos rfl] at hr
   simp [h3,h6,h9,w3,w6,w9]
   refine Rd_call (spec125 _ f.k (.mk v.n acc v.ws) (by show acc.length ≤ _; omega) haf (fun h => by have := hw1 h; exact ⟨by show v.ws.length = acc.length; omega,this.2⟩) (fun h e => by have := hw2 h; have e : acc = [] := e; rw [e] at hal; exact this (List.length_eq_zero_iff.1 hal.symm))) (by rcases htp with rfl | rfl <;> simp [encV_mk]) ?_
   rw [encV_eta] at hr
   rw [encV_eta]
   simp [h3,h6,h9,w3,w6,w9]
   simp [hr]
 | succ j ih =>
  intro i acc tp τ ω r hi htp hal haf h2 h3 h6 h7 h9 h34 h35 h36 w3 w6 w9 hr
  refine Rd_lpE c110_l0.eq_1 ?_
  have hlt : i < v.gs.length := by omega
  have hwr := wrap_next hlt (by unfold maxLen; omega)
  have hlp : i < (partsF f v).length := by omega
  have hle : (i + 1) * 56 ≤ 1099511627776 := by omega
  rw [List.drop_eq_getElem_cons hlt,List.drop_eq_getElem_cons hlp,mapVs] at hr
  have hu := mapV_fit to v.gs[i] (fitVs_mem ((fitV_gs _).1 hv).2 _ (List.getElem_mem hlt)) (partsF f v)[i]
  have hc := hrec v.gs[i] (List.getElem_mem hlt) (partsF f v)[i] (partsF_shaped hf v _ (List.getElem_mem hlp)) (normVs_get hns i hlt hlp)
  have htp' : (tp = .nil ∨ tp = .tip) = True := by simp; exact htp.symm
  simp [h2,h3,h6,h7,h9,h34,h35,h36,w3,w6,w9,hlt,hlp,hwr,encV_eta v.gs[i],encF_eta (partsF f v)[i]]
  refine Rd_drCall (hc _) (by simp [encI,encV_eta v.gs[i],encF_eta (partsF f v)[i]]) ?_
  generalize mapV to v.gs[i] (partsF f v)[i] = u at hr hu
  simp [htp,htp',encV_eta u,h9,w9,hal,hle,h36,hwr]
  refine ih (i + 1) (acc ++ [u]) .tip _ _ r (by omega) (.inl rfl) (by simp [hal]) ?_ ?_ ?_ ?_ ?_ ?_ ?_ ?_ ?_ ?_ ?_ ?_ ?_
  case refine_1 =>
   intro b hb
   rcases List.mem_append.1 hb with hb | hb
   ·exact haf b hb
   ·rw [List.mem_singleton.1 hb]; exact hu
  case refine_13 => rw [hr,List.append_assoc]; rfl
  all_goals simp [h2,h3,h6,h7,h9,h34,h35,h36,w3,w6,encV_eta u]
theorem spec110 (to : List Int) (hto : to.length ≤ 100) : ∀ (v : Va),fitV v → nodesV v ≤ 2 ^ 30 → ∀ (f : Fu),shapedF f = true → (normV to.length v f).isSome = true → ∀ (D : Nat),Go.Ab.Loc Pg Gl D 110 [encF f,encV v,encI to] [] (encV (mapV to v f)) [] := by
 refine Va.ind' fun a gs ws hrec => ?_
 intro hv hnod f hf hns D
 have hfv := (fitV_gs _).1 hv
 rw [nodesV] at hnod
 have hgl : gs.length ≤ 2 ^ 30 := by have := nodesVs_len gs; omega
 refine loc_rd mixedP tok rfl rfl fun S => ?_
 unfold c110
 generalize hr : encV (mapV to (.mk a gs ws) f) = r
 rw [mapV] at hr
 rw [normV] at hns
 generalize hv' : Va.mk a gs ws = v at *
 have ev : v.gs = gs := by rw [← hv']; rfl
 have ew : v.ws = ws := by rw [← hv']; rfl
 have en : v.n = a := by rw [← hv']; rfl
 cases hok : okV to.length f v with
 | false => rw [hok] at hns; simp at hns
 | true =>
 rw [hok,if_pos rfl] at hns
 have hns : (normVs to.length v.gs (partsF f v)).isSome = true := by rw [ev]; simpa using hns
 have hok' := hok
 unfold okV at hok'
 simp only [Bool.and_eq_true] at hok'
 obtain ⟨hw1,_,hw2⟩ := weighed_ok hok'.2.2
 have hwl : v.ws.length * 8 ≤ 1099511627776 := by
  cases h : wtd f.k with
  | true => have := (hw1 h).1; rw [ev] at this; omega
  | false => rw [hw2 h]; simp
 have hnum := hok'.2.1
 rw [encF_eta f,encV_eta v]
 by_cases h0 : f.k = 0
 ·rw [if_pos h0] at hr
  have hrange : 0 ≤ v.n ∧ v.n < to.length := by
   have := hnum
   unfold numOk at this
   simp [h0] at this
   omega
  obtain ⟨x,hx⟩ : ∃ x : Nat,v.n = x := ⟨v.n.toNat,by omega⟩
  have hxl : x < to.length := by omega
  rw [← en,hx,Int.toNat_natCast,List.getElem?_eq_getElem hxl,Option.getD_some] at hr
  simp [h0,hx,encI,hxl]
  simp [← hr,encV_mk]
 ·rw [if_neg h0] at hr
  simp [h0]
  refine Rd_call (spec123 _ f hf v (by rw [ev]; omega)) (by simp [encF_eta f,encV_eta v]) ?_
  simp [rParts,hok'.1,hwl]
  refine l110 D f hf to v hv (by rw [ev]; exact hgl) hok hns (fun b hb f hf hs D => hrec b (by rw [ev] at hb; exact hb) (fitVs_mem hfv.2 b (by rw [ev] at hb ⊢; exact hb)) (by have := nodesVs_le hb; rw [ev] at this; omega) f hf hs D) S v.gs.length 0 [] .tip _ _ r (by omega) (.inl rfl) rfl (by simp) ?_ ?_ ?_ ?_ ?_ ?_ ?_ ?_ ?_ ?_ ?_ ?_
  case refine_12 => rw [← hr,ev]; simp
  all_goals simp [encI]
end Go.Ab.Tab
/- The reference's finer (89) and Rounds (43). -/
namespace Go.Ab.Tab
open Go Go.Ab
set_option maxRecDepth 10000
set_option linter.unusedVariables false
set_option linter.unusedSimpArgs false
def idxV (u : Va) : Nat → List Va → Option Nat
 | _,[] => none
 | k,y :: l => if cmpV y u = 0 then some k else idxV u (k + 1) l
def addV (keys : List Va) (u : Va) : List Va × Nat := match idxV u 0 keys with | some i => (keys,i) | none => (keys ++ [u],keys.length)
def fineF (f : Fu) (to : List Int) : List Va → List Va × List Nat → List Va × List Nat
 | [],p => p
 | v :: l,p => fineF f to l ((addV p.1 (mapV to v f)).1,p.2 ++ [(addV p.1 (mapV to v f)).2])
theorem addV_len (keys : List Va) (u : Va) : (addV keys u).1.length ≤ keys.length + 1 := by unfold addV; split <;> simp
theorem idxV_none {u : Va} : ∀ {l : List Va} {k : Nat},idxV u k l = none → ∀ (i : Nat) (h : i < l.length),cmpV l[i] u ≠ 0
 | [],k,_,i,h => by simp at h
 | y :: l,k,hn,i,h => by
  rw [idxV] at hn
  split at hn
  ·cases hn
  ·rename_i hc
   cases i with
   | zero => exact hc
   | succ i => exact idxV_none hn i (by simpa using h)
theorem idxV_some {u : Va} : ∀ {l : List Va} {k j : Nat},idxV u k l = some j → k ≤ j ∧ ∃ h : j - k < l.length,cmpV l[j - k] u = 0 ∧ ∀ (i : Nat) (h2 : i < j - k),cmpV l[i] u ≠ 0
 | [],k,j,h => by cases h
 | y :: l,k,j,h => by
  rw [idxV] at h
  split at h
  ·rename_i hc
   injection h with h; subst h
   exact ⟨Nat.le_refl _,by simp,by simpa using hc,fun i h2 => by omega⟩
  ·rename_i hc
   obtain ⟨h1,h2,h3,h4⟩ := idxV_some h
   have e : j - k = (j - (k + 1)) + 1 := by omega
   refine ⟨by omega,by simp; omega,by simp only [e]; simpa using h3,fun i hi => ?_⟩
   cases i with
   | zero => exact hc
   | succ i => simpa using h4 i (by omega)
theorem l89_0 (D : Nat) (keys : List Va) (u : Va) (hu : fitV u) (hkf : ∀ a ∈ keys,fitV a) (hkl : keys.length ≤ 2 ^ 30) (Q : St → Prop) (K : List AI) (S) (τ0 : Nat → AV) (ω0 : Nat → Ent) (h5 : τ0 5 = .sl 3 (keys.map encV) .tip) (g9 : Nat) (h9 : τ0 9 = .ptr D 9 g9 0) (w9 : ω0 9 = (g9,.cells [.int .i64 u.n,.sl 3 (u.gs.map encV) .no,.sl 1 (u.ws.map (AV.int .i64)) .no])) :
  ∀ (m i : Nat) (τ ω),i + m = keys.length → (∀ (j : Nat) (h : j < i) (h2 : j < keys.length),cmpV keys[j] u ≠ 0) → (∀ x,x < 15 → x ≠ 10 → τ x = τ0 x) → τ 10 = .int .i64 i → (∀ j,ω j = ω0 j) →
  (∀ τ' ω',(∀ x,x < 15 → x ≠ 10 → τ' x = τ0 x) → τ' 10 = .int .i64 (addV keys u).2 → (∀ j,ω' j = ω0 j) → Rd (Loc Pg Gl) .im Q K (stF 52 D τ' ω' S)) →
  Rd (Loc Pg Gl) .im Q (.lp c89_l0 :: .blk 2 :: K) (stF 52 D τ ω S) := by
 intro m
 induction m with
 | zero =>
  intro i τ ω hi hno hτ h10 hω hend
  refine Rd_lpE c89_l0.eq_1 ?_
  obtain rfl : i = keys.length := by omega
  have a5 := (hτ 5 (by decide) (by decide)).trans h5
  have a9 := (hτ 9 (by decide) (by decide)).trans h9
  have hnone : idxV u 0 keys = none := by
   cases h : idxV u 0 keys with
   | none => rfl
   | some j =>
    obtain ⟨_,h2,h3,_⟩ := idxV_some h
    simp only [Nat.sub_zero] at h2 h3
    exact absurd h3 (hno _ h2 h2)
  simp [a5,h10]
  refine hend _ _ (fun x q1 q2 => ?_) ?_ hω
  ·rw [← hτ x q1 q2]; simp only [upd]; repeat rw [if_neg (by omega)]
  ·simp [h10,addV,hnone]
 | succ m ih =>
  intro i τ ω hi hno hτ h10 hω hend
  refine Rd_lpE c89_l0.eq_1 ?_
  have hlt : i < keys.length := by omega
  have hwr : IntKind.i64.wrap ((i : Int) + 1) = ((i + 1 : Nat) : Int) := by rw [← wrap_i64_nat (n := i + 1) (by omega)]; rfl
  have a5 := (hτ 5 (by decide) (by decide)).trans h5
  have a9 := (hτ 9 (by decide) (by decide)).trans h9
  have v9 := (hω 9).trans w9
  obtain ⟨y,hy⟩ : ∃ y,keys[i] = y := ⟨_,rfl⟩
  have hyf := hkf y (by rw [← hy]; exact List.getElem_mem hlt)
  have s72 := spec72 y u hyf (D + 1)
  rw [encV_eta u,encV_eta y] at s72
  simp [a5,h10,hlt,hy,a9,v9,encV_eta y]
  refine Rd_drCall s72 (by simp) ?_
  by_cases hc : cmpV y u = 0
  ·simp [hc]
   have hsome : idxV u 0 keys = some i := by
    cases h : idxV u 0 keys with
    | none => exact absurd (by rw [hy]; exact hc) (idxV_none h i hlt)
    | some j =>
     obtain ⟨_,h2,h3,h4⟩ := idxV_some h
     simp only [Nat.sub_zero] at h2 h3 h4
     rcases Nat.lt_trichotomy j i with q | q | q
     ·exact absurd h3 (hno _ q h2)
     ·rw [q]
     ·exact absurd (by rw [hy]; exact hc) (h4 i q)
   refine hend _ _ (fun x q1 q2 => ?_) ?_ hω
   ·rw [← hτ x q1 q2]; simp only [upd]; repeat rw [if_neg (by omega)]
   ·simp [h10,addV,hsome]
  ·simp [hc,h10,hwr]
   refine ih (i + 1) _ _ (by omega) (fun j h h2 => ?_) (fun x q1 q2 => ?_) ?_ hω hend
   ·by_cases e : j = i
    ·subst e; rw [hy]; exact hc
    ·exact hno j (by omega) h2
   ·rw [← hτ x q1 q2]; simp only [upd]; repeat rw [if_neg (by omega)]
   ·simp
theorem fineF_len (f : Fu) (to : List Int) : ∀ (l : List Va) (p : List Va × List Nat),(fineF f to l p).2.length = p.2.length + l.length ∧ (fineF f to l p).1.length ≤ p.1.length + l.length
 | [],p => by simp [fineF]
 | v :: l,p => by
  rw [fineF]
  have h := fineF_len f to l ((addV p.1 (mapV to v f)).1,p.2 ++ [(addV p.1 (mapV to v f)).2])
  have h2 := addV_len p.1 (mapV to v f)
  simp only [List.length_append,List.length_cons,List.length_nil] at h ⊢
  omega
theorem l89_1 (D : Nat) (f : Fu) (hf : shapedF f = true) (to : List Int) (hto : to.length ≤ 100) (m0 : List Va) (hm : m0.length ≤ 2 ^ 20) (hfit : ∀ v ∈ m0,fitV v) (hnod : ∀ v ∈ m0,nodesV v ≤ 2 ^ 30) (hns : ∀ v ∈ m0,(normV to.length v f).isSome = true) (ws : List AV) (hws : ws = [.int .i64 f.k,.int .i64 f.n,.sl 3 (f.gs.map encF) .no]) (S) (r : AV) :
  ∀ (j i : Nat) (keys : List Va) (out : List Nat) (τ ω),i + j = m0.length → keys.length ≤ i → out.length = i → (∀ a ∈ keys,fitV a) →
  τ 1 = encI to → τ 2 = .ptr D 2 1 0 → τ 5 = .sl 3 (keys.map encV) .tip → τ 6 = .sl 1 (out.map encN) .tip → τ 12 = .sl 3 (m0.map encV) .no → τ 13 = .int .i64 m0.length → τ 14 = .int .i64 i → ω 2 = (1,.cells (ws ++ [.sl 3 (m0.map encV) .no])) →
  r = .sl 1 ((fineF f to (m0.drop i) (keys,out)).2.map encN) .no →
  Rd (Loc Pg Gl) .im (RetQ [.tmp 4] r S) [.lp c89_l1,.blk 0,.c c89_k2] (stF 52 D τ ω S) := by
 subst hws
 intro j
 induction j with
 | zero =>
  intro i keys out τ ω hi hk ho hkf h1 h2 h5 h6 h12 h13 h14 w2 hr
  refine Rd_lpE c89_l1.eq_1 ?_
  obtain rfl : i = m0.length := by omega
  rw [List.drop_length,fineF] at hr
  simp [h13,h14,c89_k2,h6,hr]
 | succ j ih =>
  intro i keys out τ ω hi hk ho hkf h1 h2 h5 h6 h12 h13 h14 w2 hr
  refine Rd_lpE c89_l1.eq_1 ?_
  have hlt : i < m0.length := by omega
  have hwr : IntKind.i64.wrap ((i : Int) + 1) = ((i + 1 : Nat) : Int) := by rw [← wrap_i64_nat (n := i + 1) (by omega)]; rfl
  obtain ⟨v,hv⟩ : ∃ v,m0[i] = v := ⟨_,rfl⟩
  have hvm : v ∈ m0 := by rw [← hv]; exact List.getElem_mem hlt
  have s110 := spec110 to hto v (hfit v hvm) (hnod v hvm) f hf (hns v hvm) (D + 1)
  rw [List.drop_eq_getElem_cons hlt,hv,fineF] at hr
  have hu := mapV_fit to v (hfit v hvm) f
  generalize mapV to v f = u at s110 hr hu
  rw [encF_eta,encV_eta v,encV_eta u] at s110
  simp [h13,h14,hlt,h12,hv,h2,w2,encV_eta v,h1]
  refine Rd_call s110 (by simp [encI]) ?_
  simp
  refine l89_0 D keys u hu hkf (by omega) _ _ S _ _ ?_ ((ω 9).1 + 1) ?_ ?_ keys.length 0 _ _ (by omega) (fun j h => by omega) (fun x _ _ => rfl) ?_ (fun j => rfl) ?_
  case refine_5 =>
   intro τ1 ω1 hτ1 h10 hω1
   have a1 : τ1 1 = encI to := by rw [hτ1 1 (by decide) (by decide)]; simp [h1]
   have a2 : τ1 2 = .ptr D 2 1 0 := by rw [hτ1 2 (by decide) (by decide)]; simp [h2]
   have a5 : τ1 5 = .sl 3 (keys.map encV) .tip := by rw [hτ1 5 (by decide) (by decide)]; simp [h5]
   have a6 : τ1 6 = .sl 1 (out.map encN) .tip := by rw [hτ1 6 (by decide) (by decide)]; simp [h6]
   have a9 : τ1 9 = .ptr D 9 ((ω 9).1 + 1) 0 := by rw [hτ1 9 (by decide) (by decide)]; simp
   have a12 : τ1 12 = .sl 3 (m0.map encV) .no := by rw [hτ1 12 (by decide) (by decide)]; simp [h12]
   have a13 : τ1 13 = .int .i64 m0.length := by rw [hτ1 13 (by decide) (by decide)]; simp [h13]
   have a14 : τ1 14 = .int .i64 i := by rw [hτ1 14 (by decide) (by decide)]; simp [h14]
   have v2 := hω1 2
   have v9 := hω1 9
   simp [w2] at v2
   simp at v9
   have hle1 : (keys.length + 1) * 56 ≤ 1099511627776 := by omega
   have hle2 : (out.length + 1) * 8 ≤ 1099511627776 := by omega
   unfold c89_k0
   cases hidx : idxV u 0 keys with
   | some q =>
    have e : addV keys u = (keys,q) := by unfold addV; rw [hidx]
    obtain ⟨_,q1,_,_⟩ := idxV_some hidx
    rw [e] at hr h10
    have hne : ¬ (q : Int) = keys.length := by omega
    have hne2 : ¬ q = keys.length := by omega
    simp [a5,a6,h10,hne,hne2,hle2,c89_k1,a14,hwr]
    refine ih (i + 1) keys (out ++ [q]) _ _ (by omega) (by omega) (by simp; omega) hkf ?_ ?_ ?_ ?_ ?_ ?_ ?_ ?_ hr
    all_goals simp [a1,a2,a5,a12,a13,v2,encN]
   | none =>
    have e : addV keys u = (keys ++ [u],keys.length) := by unfold addV; rw [hidx]
    rw [e] at hr h10
    simp [a5,a6,a9,v9,h10,hle1,hle2,c89_k1,a14,hwr]
    refine ih (i + 1) (keys ++ [u]) (out ++ [keys.length]) _ _ (by omega) (by simp; omega) (by simp; omega) ?_ ?_ ?_ ?_ ?_ ?_ ?_ ?_ ?_ hr
    case refine_1 =>
     intro b hb
     rcases List.mem_append.1 hb with hb | hb
     ·exact hkf b hb
     ·rw [List.mem_singleton.1 hb]; exact hu
    all_goals simp [a1,a2,a12,a13,v2,encN,encV_eta u]
  all_goals simp [h5]
def finer (s : Sy) (to : List Int) : List Nat := (fineF s.f to s.m ([],[])).2
theorem spec89 (D : Nat) (s : Sy) (hf : shapedF s.f = true) (to : List Int) (hto : to.length ≤ 100) (hm : s.m.length ≤ 2 ^ 20) (hfit : ∀ v ∈ s.m,fitV v) (hnod : ∀ v ∈ s.m,nodesV v ≤ 2 ^ 30) (hns : ∀ v ∈ s.m,(normV to.length v s.f).isSome = true) :
  Go.Ab.Loc Pg Gl D 89 [encY s,encI to] [] (.sl 1 ((finer s to).map encN) .no) [] := by
 refine loc_rd mixedP tok rfl rfl fun S => ?_
 unfold c89
 generalize hr : AV.sl 1 ((finer s to).map encN) .no = r
 rw [encY]
 simp
 refine l89_1 D s.f hf to hto s.m hm hfit hnod hns _ rfl S r s.m.length 0 [] [] _ _ (by omega) (by simp) rfl (by simp) ?_ ?_ ?_ ?_ ?_ ?_ ?_ ?_ ?_
 case refine_9 => rw [← hr]; rfl
 all_goals simp [encI]
end Go.Ab.Tab
/- The reference's Rounds (43). -/
namespace Go.Ab.Tab
open Go Go.Ab
set_option maxRecDepth 10000
set_option linter.unusedVariables false
set_option linter.unusedSimpArgs false
def toZ (l : List Nat) : List Int := l.map fun (x : Nat) => (x : Int)
theorem toZ_enc (l : List Nat) : AV.sl 1 (l.map encN) .no = encI (toZ l) := by simp [toZ,encI,encN]
theorem toZ_len (l : List Nat) : (toZ l).length = l.length := by simp [toZ]
def roundsF (s : Sy) : Nat → List Nat → List (List Nat)
 | 0,_ => []
 | k + 1,l => finer s (toZ l) :: roundsF s k (finer s (toZ l))
theorem finer_len (s : Sy) (to : List Int) : (finer s to).length = s.m.length := by
 have := (fineF_len s.f to s.m ([],[])).1
 simpa [finer] using this
abbrev encNs (l : List Nat) : AV := encI (toZ l)
theorem frz_zero {n D : Nat} {τ : Nat → AV} {ω : Nat → Ent} {S : Nat → Nat → Ent} {A g m : Nat} (hA : A < n) (hw : ω A = (g,.cells (List.replicate m (AV.int .i64 0)))) :
  frz (stF n D τ ω S) frzD (.own D A g 0 m 1 false) = some (encNs (List.replicate m 0),[(D,A)]) := by
 have := frz_own_ints (D := D) (τ := τ) (S := S) (len := m) (l := List.replicate m 0) 18 hA (by simpa using hw) (by simp)
 rw [show frzD = 18 + 2 from rfl,this]
 simp [toZ,encI]
theorem l43 (D : Nat) (s : Sy) (hf : shapedF s.f = true) (hm : s.m.length ≤ 100) (hfit : ∀ v ∈ s.m,fitV v) (hnod : ∀ v ∈ s.m,nodesV v ≤ 2 ^ 30) (hns : ∀ v ∈ s.m,(normV s.m.length v s.f).isSome = true) (k : Nat) (hk : k ≤ 2 ^ 20) (S) (r : AV) :
  ∀ (j i : Nat) (acc : List (List Nat)) (l : List Nat) (τ ω),i + j = k → acc.length = i → l.length = s.m.length →
  τ 2 = .ptr D 2 1 0 → τ 5 = .sl 1 ((acc ++ [l]).map encNs) .tip → τ 11 = .int .i64 k → τ 12 = .int .i64 i → ω 2 = (1,.cells [.int .i64 s.f.k,.int .i64 s.f.n,.sl 3 (s.f.gs.map encF) .no,.sl 3 (s.m.map encV) .no]) →
  r = .sl 1 ((acc ++ [l] ++ roundsF s j l).map encNs) .no →
  Rd (Loc Pg Gl) .im (RetQ [.tmp 4] r S) [.lp c43_l0,.blk 0,.c c43_k0] (stF 27 D τ ω S) := by
 intro j
 induction j with
 | zero =>
  intro i acc l τ ω hi ha hl h2 h5 h11 h12 w2 hr
  refine Rd_lpE c43_l0.eq_1 ?_
  obtain rfl : i = k := by omega
  rw [roundsF,List.append_nil] at hr
  simp [h11,h12,c43_k0,h5,hr]
 | succ j ih =>
  intro i acc l τ ω hi ha hl h2 h5 h11 h12 w2 hr
  refine Rd_lpE c43_l0.eq_1 ?_
  have hlt : i < k := by omega
  have hwr : IntKind.i64.wrap ((i : Int) + 1) = ((i + 1 : Nat) : Int) := by rw [← wrap_i64_nat (n := i + 1) (by omega)]; rfl
  have hw1 : IntKind.i64.wrap (acc.length : Int) = (acc.length : Int) := wrap_i64_nat (by omega)
  have s89 := spec89 (D + 1) s hf (toZ l) (by rw [toZ_len]; omega) (by omega) hfit hnod (by rw [toZ_len,hl]; exact hns)
  have hll := finer_len s (toZ l)
  rw [roundsF] at hr
  generalize finer s (toZ l) = l2 at s89 hr hll
  have hE := encY.eq_1 s
  rw [hE] at s89
  have hle : (acc.length + 1 + 1) * 24 ≤ 1099511627776 := by omega
  have hgl : (List.map encNs acc ++ [encNs l])[acc.length]? = some (encNs l) := by
   rw [List.getElem?_append_right (by simp)]; simp
  simp [h11,h12,hlt,h5,h2,w2,hw1,hgl,show (acc.length : Int) < (acc.length : Int) + 1 by omega]
  refine Rd_drCall s89 (by simp [encNs]) ?_
  rw [toZ_enc]
  simp [h5,hle,h12,hwr]
  refine ih (i + 1) (acc ++ [l]) l2 _ _ (by omega) (by simp; omega) hll ?_ ?_ ?_ ?_ ?_ ?_
  case refine_6 => rw [hr]; simp
  all_goals simp [h2,h11,w2,encNs]
theorem spec43 (D : Nat) (s : Sy) (hf : shapedF s.f = true) (hm : s.m.length ≤ 100) (hfit : ∀ v ∈ s.m,fitV v) (hnod : ∀ v ∈ s.m,nodesV v ≤ 2 ^ 30) (hns : ∀ v ∈ s.m,(normV s.m.length v s.f).isSome = true) (k : Nat) (hk : k ≤ 2 ^ 20) :
  Go.Ab.Loc Pg Gl D 43 [encY s,.int .i64 k] [] (.sl 1 ((List.replicate s.m.length 0 :: roundsF s k (List.replicate s.m.length 0)).map encNs) .no) [] := by
 refine loc_rd mixedP tok rfl rfl fun S => ?_
 unfold c43
 generalize hr : AV.sl 1 ((List.replicate s.m.length 0 :: roundsF s k (List.replicate s.m.length 0)).map encNs) .no = r
 rw [encY]
 have hn2 : (s.m.length : Int) ≤ 1099511627776 := by omega
 have hn3 : (s.m.length : Int) * 8 ≤ 1099511627776 := by omega
 simp [hn2,hn3]
 have hfz : ∀ τ ω,frz (stF 27 D τ (upd ω 9 (1,.cells (List.replicate s.m.length (AV.int .i64 0)))) S) frzD (.own D 9 1 0 s.m.length 1 false) = some (encNs (List.replicate s.m.length 0),[(D,9)]) := fun τ ω => frz_zero (by omega) (by simp)
 simp [hfz]
 refine l43 D s hf hm hfit hnod hns k hk S r k 0 [] (List.replicate s.m.length 0) _ _ (by omega) rfl (by simp) ?_ ?_ ?_ ?_ ?_ ?_
 all_goals simp [encNs,← hr]
end Go.Ab.Tab
/- The law's follow (42) and known (40). -/
namespace Go.Ab.Tab
open Go Go.Ab
set_option maxRecDepth 10000
set_option linter.unusedVariables false
set_option linter.unusedSimpArgs false
abbrev Dfa := List (Bool × List Nat)
def rowD (rs : Dfa) (x : Nat) : List Nat := ((rs[x]?).map (·.2)).getD []
def outD (rs : Dfa) (x : Nat) : Bool := ((rs[x]?).map (·.1)).getD false
def folD (rs : Dfa) : Nat → List Int → Nat
 | x,[] => x
 | x,a :: w => folD rs ((rowD rs x)[a.toNat]?.getD 0) w
structure DOk (k : Nat) (rs : Dfa) : Prop where
 len : rs.length ≤ 100
 row : ∀ p ∈ rs,p.2.length = k ∧ ∀ y ∈ p.2,y < rs.length
theorem DOk.rowD {k : Nat} {rs : Dfa} (h : DOk k rs) {x : Nat} (hx : x < rs.length) : (rowD rs x).length = k ∧ ∀ y ∈ rowD rs x,y < rs.length := by
 unfold Tab.rowD
 rw [List.getElem?_eq_getElem hx]
 exact h.row _ (List.getElem_mem hx)
theorem DOk.next {k : Nat} {rs : Dfa} (h : DOk k rs) {x a : Nat} (hx : x < rs.length) (ha : a < k) : (Tab.rowD rs x)[a]?.getD 0 < rs.length := by
 obtain ⟨h1,h2⟩ := h.rowD hx
 rw [List.getElem?_eq_getElem (by omega),Option.getD_some]
 exact h2 _ (List.getElem_mem _)
theorem l42 (D k : Nat) (rs : Dfa) (hD : DOk k rs) (FL : List AV) (w : List Int) (hw : wordOk k w = true) (hlen : w.length ≤ maxLen) (S) : ∀ (m i : Nat) (x : Nat) (τ ω) (r : AV),i + m = w.length → x < rs.length →
  τ 1 = .int .i64 x → τ 3 = .ptr D 3 1 0 → τ 9 = encI w → τ 10 = .int .i64 w.length → τ 11 = .int .i64 i → ω 3 = (1,.cells [.int .i64 2,.int .i64 0,.sl 3 FL .no,.sl 3 (rs.map fun p => encV (mkDet p)) .no]) →
  r = .int .i64 (if outD rs (folD rs x (w.drop i)) then 1 else 0) →
  Rd (Loc Pg Gl) .im (RetQ [.tmp 6] r S) [.lp c42_l0,.blk 0,.c c42_k0] (stF 38 D τ ω S) := by
 intro m
 induction m with
 | zero =>
  intro i x τ ω r hi hx h1 h3 h9 h10 h11 w3 hr
  refine Rd_lpE c42_l0.eq_1 ?_
  obtain rfl : i = w.length := by omega
  rw [List.drop_length,folD,outD,List.getElem?_eq_getElem hx] at hr
  simp [h1,h3,h9,h10,h11,w3,c42_k0,hx,encV_det]
  simpa using hr.symm
 | succ m ih =>
  intro i x τ ω r hi hx h1 h3 h9 h10 h11 w3 hr
  refine Rd_lpE c42_l0.eq_1 ?_
  have hlt : i < w.length := by omega
  have hwr := wrap_next hlt hlen
  obtain ⟨a,ha⟩ : ∃ a,w[i] = a := ⟨_,rfl⟩
  have hab : 0 ≤ a ∧ a < k := by
   unfold wordOk at hw
   have := List.all_eq_true.1 hw a (by rw [← ha]; exact List.getElem_mem hlt)
   simpa using this
  obtain ⟨b,rfl⟩ : ∃ b : Nat,a = b := ⟨a.toNat,by omega⟩
  have hbk : b < k := by omega
  have hn := hD.next hx hbk
  obtain ⟨h1',h2'⟩ := hD.rowD hx
  have hrl : b < (rowD rs x).length := by omega
  rw [List.drop_eq_getElem_cons hlt,ha,folD,Int.toNat_natCast] at hr
  have hrd : rowD rs x = (rs[x]).2 := by unfold rowD; rw [List.getElem?_eq_getElem hx]; rfl
  rw [List.getElem?_eq_getElem hrl,Option.getD_some] at hr hn
  simp only [hrd] at hr hn hrl
  simp [h1,h3,h9,h10,h11,w3,encI,hlt,ha,hx,encV_det,hrl,encV_st,hwr]
  refine ih (i + 1) _ _ _ r (by omega) hn ?_ ?_ ?_ ?_ ?_ ?_ hr
  all_goals simp [h3,h9,h10,w3,encI,encV_det]
theorem spec42 (D k : Nat) (rs : Dfa) (hD : DOk k rs) (x : Nat) (hx : x < rs.length) (w : List Int) (hw : wordOk k w = true) (hlen : w.length ≤ maxLen) :
  Go.Ab.Loc Pg Gl D 42 [encY (sysD k rs),.int .i64 x,encI w] [] (.int .i64 (if outD rs (folD rs x w) then 1 else 0)) [] := by
 refine loc_rd mixedP tok rfl rfl fun S => ?_
 unfold c42
 generalize hr : AV.int .i64 (if outD rs (folD rs x w) then 1 else 0) = r
 rw [encY]
 simp [encI]
 refine l42 D k rs hD ((gsD k).map encF) w hw hlen S w.length 0 x _ _ r (by omega) hx ?_ ?_ ?_ ?_ ?_ ?_ hr.symm
 all_goals simp [encI,sysD,Fu.k,Fu.n,Fu.gs,Function.comp_def]
end Go.Ab.Tab
/- The law's same (44). -/
namespace Go.Ab.Tab
open Go Go.Ab
set_option maxRecDepth 10000
set_option linter.unusedVariables false
set_option linter.unusedSimpArgs false
def encP2 (p : List Int × List Int) : AV := .agg [encI p.1,encI p.2]
@[simp] theorem encI_strip1 (l : List Int) : (encI l).strip1 = encI l := rfl
@[simp] theorem encP2_dem (p : List Int × List Int) : (encP2 p).dem = encP2 p := rfl
@[simp] theorem encP2_cells (p : List Int × List Int) : (encP2 p).cells = [encI p.1,encI p.2] := rfl
@[simp] theorem encP2_one (p : List Int × List Int) : (encP2 p).one = false := rfl
@[simp] theorem encP2_strip (p : List Int × List Int) : (encP2 p).strip = encP2 p := rfl
@[simp] theorem frz_encP2 (s : St) (p : List Int × List Int) : frz s frzD (encP2 p) = some (encP2 p,[]) := frz_agg s 18 (by simp)
end Go.Ab.Tab
/- The plain law of same: both sets accept the same words. -/
namespace Go.Ab.Tab
open Go Go.Ab
set_option maxRecDepth 10000
set_option linter.unusedVariables false
set_option linter.unusedSimpArgs false
end Go.Ab.Tab
/- Rounds of refinement: after as many rounds as there are states nothing changes; the classes of finer. -/
namespace Go.Ab.Tab
open Go Go.Ab
set_option maxRecDepth 10000
set_option linter.unusedVariables false
set_option linter.unusedSimpArgs false
theorem countP_lt {α : Type} {p q : α → Bool} {x0 : α} : ∀ {l : List α},(∀ x ∈ l,p x = true → q x = true) → x0 ∈ l → q x0 = true → p x0 = false → l.countP p < l.countP q
 | [],_,h,_,_ => by cases h
 | a :: l,h,hx,hq,hp => by
  rw [List.countP_cons,List.countP_cons]
  have hm : l.countP p ≤ l.countP q := List.countP_mono_left fun x hx => h x (by simp [hx])
  rcases List.mem_cons.1 hx with rfl | hx
  ·rw [hq,hp]; simp; omega
  ·have := countP_lt (fun x hx => h x (by simp [hx])) hx hq hp
   have ha := h a (by simp)
   cases hpa : p a with
   | false => simp; omega
   | true => rw [ha hpa]; simp; omega
theorem least_of {P : Nat → Prop} : ∀ {n : Nat},P n → ∃ m,m ≤ n ∧ P m ∧ ∀ j,j < m → ¬ P j := by
 intro n
 induction n using Nat.strongRecOn with
 | ind n ih =>
  intro h
  by_cases hc : ∃ j,j < n ∧ P j
  ·obtain ⟨j,hj,hp⟩ := hc
   obtain ⟨m,h1,h2,h3⟩ := ih j hj hp
   exact ⟨m,by omega,h2,h3⟩
  ·exact ⟨n,Nat.le_refl _,h,fun j hj hp => hc ⟨j,hj,hp⟩⟩
theorem stab (n : Nat) (E : Nat → Nat → Nat → Prop) (hr : ∀ r i,i < n → E r i i) (hs : ∀ r i j,E r i j → E r j i) (ht : ∀ r i j k,E r i j → E r j k → E r i k)
  (hm : ∀ r i j,i < n → j < n → E (r + 1) i j → E r i j) (hstep : ∀ r,(∀ i j,i < n → j < n → E r i j → E (r + 1) i j) → ∀ i j,i < n → j < n → E (r + 1) i j → E (r + 2) i j) :
  ∀ r i j,i < n → j < n → E n i j → E r i j := by
 classical
 let head : Nat → Nat → Bool := fun r i => decide (∀ j,j < i → ¬ E r j i)
 let cnt : Nat → Nat := fun r => (List.range n).countP (head r)
 have hhead : ∀ r i,head r i = true ↔ ∀ j,j < i → ¬ E r j i := fun r i => decide_eq_true_iff
 have hlt : ∀ r,¬ (∀ i j,i < n → j < n → E r i j → E (r + 1) i j) → cnt r < cnt (r + 1) := by
  intro r hno
  have hsub : ∀ x ∈ List.range n,head r x = true → head (r + 1) x = true := by
   intro x hx h
   rw [hhead] at h ⊢
   have hxn := List.mem_range.1 hx
   intro j hj he
   exact h j hj (hm r j x (by omega) hxn he)
  obtain ⟨i,j,hi,hj,he,hne⟩ : ∃ i j,i < n ∧ j < n ∧ E r i j ∧ ¬ E (r + 1) i j := by
   apply Classical.byContradiction; intro hc
   exact hno fun i j hi hj he => Classical.byContradiction fun hne => hc ⟨i,j,hi,hj,he,hne⟩
  obtain ⟨a,ha1,ha2,ha3⟩ := least_of (P := fun x => E (r + 1) x i) (hr (r + 1) i hi)
  obtain ⟨b,hb1,hb2,hb3⟩ := least_of (P := fun x => E (r + 1) x j) (hr (r + 1) j hj)
  have hha : head (r + 1) a = true := (hhead _ _).2 fun x hx he => ha3 x hx (ht _ _ _ _ he ha2)
  have hhb : head (r + 1) b = true := (hhead _ _).2 fun x hx he => hb3 x hx (ht _ _ _ _ he hb2)
  have hab : E r a b := ht _ _ _ _ (hm r a i (by omega) hi ha2) (ht _ _ _ _ he (hs _ _ _ (hm r b j (by omega) hj hb2)))
  rcases Nat.lt_trichotomy a b with q | q | q
  ·refine countP_lt hsub (List.mem_range.2 (by omega : b < n)) hhb ?_
   cases hc : head r b with
   | false => rfl
   | true => exact absurd hab ((hhead _ _).1 hc a q)
  ·subst q
   exact absurd (ht _ _ _ _ (hs _ _ _ ha2) hb2) hne
  ·refine countP_lt hsub (List.mem_range.2 (by omega : a < n)) hha ?_
   cases hc : head r a with
   | false => rfl
   | true => exact absurd (hs _ _ _ hab) ((hhead _ _).1 hc b q)
 have hle : ∀ r,cnt r ≤ n := fun r => by have := List.countP_le_length (p := head r) (l := List.range n); simpa using this
 intro r i j hi hj he
 have hst : ∃ r0,r0 ≤ n ∧ ∀ i j,i < n → j < n → E r0 i j → E (r0 + 1) i j := by
  apply Classical.byContradiction; intro hc
  have hgrow : ∀ m,m ≤ n + 1 → m ≤ cnt m := by
   intro m
   induction m with
   | zero => intro _; omega
   | succ m ih =>
    intro hm'
    have h1 := ih (by omega)
    have h2 := hlt m fun h => hc ⟨m,by omega,h⟩
    omega
  have h1 := hgrow (n + 1) (by omega)
  have h2 := hle (n + 1)
  omega
 obtain ⟨r0,h0,hst⟩ := hst
 have hall : ∀ d,∀ i j,i < n → j < n → E (r0 + d) i j → E (r0 + d + 1) i j := by
  intro d
  induction d with
  | zero => exact hst
  | succ d ih => exact hstep (r0 + d) ih
 have hup : ∀ d,E (n + d) i j := by
  intro d
  induction d with
  | zero => exact he
  | succ d ih =>
   have := hall (n + d - r0) i j hi hj (by rw [show r0 + (n + d - r0) = n + d by omega]; exact ih)
   rw [show r0 + (n + d - r0) = n + d by omega] at this
   exact this
 have hdown : ∀ d r,E (r + d) i j → E r i j := by
  intro d
  induction d with
  | zero => intro r h; exact h
  | succ d ih => intro r h; exact ih r (hm _ i j hi hj h)
 rcases Nat.le_total n r with q | q
 ·have := hup (r - n)
  rw [show n + (r - n) = r by omega] at this
  exact this
 ·refine hdown (n - r) r ?_
  rw [show r + (n - r) = n by omega]; exact he
theorem addV_spec {keys : List Va} {u : Va} (h : keys.Nodup) : (addV keys u).1.Nodup ∧ (addV keys u).1[(addV keys u).2]? = some u ∧ ∀ (i : Nat) v,keys[i]? = some v → (addV keys u).1[i]? = some v := by
 unfold addV
 cases hi : idxV u 0 keys with
 | some j =>
  obtain ⟨_,h2,h3,_⟩ := idxV_some hi
  simp only [Nat.sub_zero] at h2 h3
  refine ⟨h,?_,fun i v hv => hv⟩
  simp only []
  rw [List.getElem?_eq_getElem h2,(cmpV_zero _ _).1 h3]
 | none =>
  have hn := idxV_none hi
  refine ⟨?_,by simp,fun i v hv => ?_⟩
  ·rw [List.nodup_append]
   refine ⟨h,by simp,fun a ha b hb e => ?_⟩
   rw [List.mem_singleton.1 hb] at e
   obtain ⟨i,hi2,rfl⟩ := List.getElem_of_mem ha
   exact hn i hi2 ((cmpV_zero _ _).2 e)
  ·simp only []
   rw [List.getElem?_append_left (List.getElem?_eq_some_iff.1 hv).1]; exact hv
theorem fineF_spec (f : Fu) (to : List Int) : ∀ (l vs : List Va) (p : List Va × List Nat),p.1.Nodup → p.2.length = vs.length → (∀ (i : Nat) v,vs[i]? = some v → ∃ c,p.2[i]? = some c ∧ p.1[c]? = some (mapV to v f)) →
  (fineF f to l p).1.Nodup ∧ ∀ (i : Nat) v,(vs ++ l)[i]? = some v → ∃ c,(fineF f to l p).2[i]? = some c ∧ (fineF f to l p).1[c]? = some (mapV to v f)
 | [],vs,p,h1,h2,h3 => by rw [List.append_nil]; exact ⟨h1,h3⟩
 | v :: l,vs,p,h1,h2,h3 => by
  rw [fineF]
  obtain ⟨g1,g2,g3⟩ := addV_spec (u := mapV to v f) h1
  have := fineF_spec f to l (vs ++ [v]) ((addV p.1 (mapV to v f)).1,p.2 ++ [(addV p.1 (mapV to v f)).2]) g1 (by simp [h2]) (by
   intro i w hw
   rcases Nat.lt_trichotomy i vs.length with q | q | q
   ·rw [List.getElem?_append_left q] at hw
    obtain ⟨c,c1,c2⟩ := h3 i w hw
    exact ⟨c,by simp only []; rw [List.getElem?_append_left (by omega)]; exact c1,g3 c _ c2⟩
   ·subst q
    rw [List.getElem?_append_right (Nat.le_refl _)] at hw
    simp at hw; subst hw
    exact ⟨_,by simp only []; rw [List.getElem?_append_right (by omega),h2]; simp,g2⟩
   ·rw [List.getElem?_eq_none (by simp; omega)] at hw; cases hw)
  rw [List.append_assoc] at this
  exact this
theorem finer_cls (s : Sy) (to : List Int) {i j : Nat} {u v : Va} (hi : s.m[i]? = some u) (hj : s.m[j]? = some v) : (finer s to)[i]? = (finer s to)[j]? ↔ mapV to u s.f = mapV to v s.f := by
 obtain ⟨h1,h2⟩ := fineF_spec s.f to s.m [] ([],[]) (by simp) rfl (by intro i v h; simp at h)
 rw [List.nil_append] at h2
 obtain ⟨c,c1,c2⟩ := h2 i u hi
 obtain ⟨d,d1,d2⟩ := h2 j v hj
 unfold finer
 rw [c1,d1]
 constructor
 ·intro e
  injection e with e
  rw [e,d2] at c2
  injection c2 with c2
  exact c2.symm
 ·intro e
  rw [e] at c2
  have hcl := (List.getElem?_eq_some_iff.1 c2).1
  have := (List.getElem?_inj hcl h1).1 (c2.trans d2.symm)
  rw [this]
def clsR (s : Sy) : Nat → List Nat
 | 0 => List.replicate s.m.length 0
 | r + 1 => finer s (toZ (clsR s r))
theorem clsR_len (s : Sy) : ∀ r,(clsR s r).length = s.m.length
 | 0 => by simp [clsR]
 | r + 1 => finer_len _ _
theorem roundsF_cls (s : Sy) : ∀ (k r : Nat),roundsF s k (clsR s r) = (List.range' (r + 1) k).map (clsR s)
 | 0,r => rfl
 | k + 1,r => by
  rw [roundsF,List.range'_succ,List.map_cons]
  have e : finer s (toZ (clsR s r)) = clsR s (r + 1) := rfl
  rw [e,roundsF_cls s k (r + 1)]
theorem rounds_cls (s : Sy) (k : Nat) : List.replicate s.m.length 0 :: roundsF s k (List.replicate s.m.length 0) = (List.range' 0 (k + 1)).map (clsR s) := by
 have : List.replicate s.m.length 0 = clsR s 0 := rfl
 rw [this,roundsF_cls,List.range'_succ,List.map_cons]
end Go.Ab.Tab
/- Deterministic automata: they are valid systems; what their rounds say. -/
namespace Go.Ab.Tab
open Go Go.Ab
set_option maxRecDepth 10000
set_option linter.unusedVariables false
set_option linter.unusedSimpArgs false
def typD (k : Nat) : Fu := .mk 2 0 (gsD k)
theorem valP_st' {n y : Nat} (hy : y < n) : valP n (mkSt y) (.mk 0 0 []) = true := by
 unfold mkSt
 simp [valP_mk,locP_k,partsOk_k,numOk_k,weighedR_k,setOk_k,partsF_k,sets,wtd,valPs]
 omega
theorem valP_det {n k : Nat} {p : Bool × List Nat} (hl : p.2.length = k) (hp : ∀ y ∈ p.2,y < n) : valP n (mkDet p) (typD k) = true := by
 unfold mkDet typD gsD mkOut
 have h1 : valPs n (p.2.map mkSt) (List.replicate k (.mk 0 0 [])) = true := by
  rw [← hl,show p.2.length = (p.2.map mkSt).length by simp,valPs_rep,List.all_eq_true]
  intro v hv
  obtain ⟨y,hy,rfl⟩ := List.mem_map.1 hv
  exact valP_st' (hp y hy)
 simp [valP_mk,locP_k,partsOk_k,numOk_k,weighedR_k,setOk_k,partsF_k,sets,wtd,valPs,h1,hl]
 cases p.1 <;> simp
theorem isF_typD {k : Nat} (h1 : 1 ≤ k) (h4 : k ≤ 4) : isF (typD k) = true := by
 have : k = 1 ∨ k = 2 ∨ k = 3 ∨ k = 4 := by omega
 rcases this with rfl | rfl | rfl | rfl <;> rfl
theorem valV_det {n k : Nat} {p : Bool × List Nat} (hk : k ≤ 4) (hl : p.2.length = k) (hp : ∀ y ∈ p.2,y < n) : valV (typD k) n (mkDet p) = true := by
 have h := valP_det hl hp
 rw [valP_eq] at h
 unfold valV
 rw [h,Bool.and_true,decide_eq_true_eq]
 have h3 := nodesVs_map mkSt 1 p.2 fun x hx => by simp [mkSt,nodesV,nodesVs]
 simp [mkDet,mkOut,nodesV,nodesVs]
 omega
theorem det_nodes {k : Nat} (hk : k ≤ 4) {rs : Dfa} (h : DOk k rs) : nodesVs (rs.map mkDet) ≤ 800 := by
 have h1 := nodesVs_map mkDet 8 rs fun p hp => by
  have h2 := (h.row p hp).1
  have h3 := nodesVs_map mkSt 1 p.2 fun x hx => by simp [mkSt,nodesV,nodesVs]
  simp [mkDet,mkOut,nodesV,nodesVs]
  omega
 have := h.len
 omega
theorem isY_det {k : Nat} (h1 : 1 ≤ k) (h4 : k ≤ 4) {rs : Dfa} (h : DOk k rs) : isY (sysD k rs) = true := by
 unfold isY
 have e : (sysD k rs).f = typD k := rfl
 have e2 : (sysD k rs).m = rs.map mkDet := rfl
 have hn := det_nodes h4 h
 rw [e,e2,isF_typD h1 h4,Bool.true_and,List.length_map,decide_eq_true h.len,Bool.true_and,Bool.and_eq_true,decide_eq_true_eq,List.all_eq_true]
 refine ⟨fun v hv => ?_,by omega⟩
 obtain ⟨p,hp,rfl⟩ := List.mem_map.1 hv
 exact valV_det h4 (h.row p hp).1 (h.row p hp).2
theorem norm_det {n k : Nat} {p : Bool × List Nat} (hl : p.2.length = k) (hp : ∀ y ∈ p.2,y < n) : (normV n (mkDet p) (typD k)).isSome = true := by
 have h := valP_det hl hp
 rw [valP_eq,Bool.and_eq_true] at h
 rw [normV_self _ _ h.1]; rfl
theorem mapV_st (to : List Int) (y : Nat) : mapV to (mkSt y) (.mk 0 0 []) = .mk (to[y]?.getD 0) [] [] := by
 unfold mkSt
 rw [mapV]
 simp [Fu.k]
theorem mapVs_st (to : List Int) : ∀ (l : List Nat),mapVs to (l.map mkSt) (List.replicate l.length (.mk 0 0 [])) = l.map fun y => .mk (to[y]?.getD 0) [] []
 | [] => by simp [mapVs]
 | y :: l => by rw [List.map_cons,List.length_cons,List.replicate_succ,mapVs,mapV_st,mapVs_st to l,List.map_cons]
theorem mapV_det (to : List Int) {k : Nat} {p : Bool × List Nat} (hl : p.2.length = k) : mapV to (mkDet p) (typD k) = .mk 0 [mkOut p.1,.mk 0 (p.2.map fun y => .mk (to[y]?.getD 0) [] []) []] [] := by
 unfold mkDet typD gsD mkOut
 have h1 := mapVs_st to p.2
 rw [hl] at h1
 simp [mapV,mapVs,partsF_k,putV,sets,wtd,Fu.k,Va.n,Va.ws,h1]
theorem cls_det {k : Nat} {rs : Dfa} (h : DOk k rs) (to : List Int) (hto : to.length = rs.length) {i j : Nat} (hi : i < rs.length) (hj : j < rs.length) :
  (finer (sysD k rs) to)[i]? = (finer (sysD k rs) to)[j]? ↔ outD rs i = outD rs j ∧ ∀ a,a < k → to[(rowD rs i)[a]?.getD 0]? = to[(rowD rs j)[a]?.getD 0]? := by
 have e2 : (sysD k rs).m = rs.map mkDet := rfl
 have gi : (sysD k rs).m[i]? = some (mkDet rs[i]) := by rw [e2,List.getElem?_map,List.getElem?_eq_getElem hi]; rfl
 have gj : (sysD k rs).m[j]? = some (mkDet rs[j]) := by rw [e2,List.getElem?_map,List.getElem?_eq_getElem hj]; rfl
 rw [finer_cls _ _ gi gj]
 have ri := h.row _ (List.getElem_mem hi)
 have rj := h.row _ (List.getElem_mem hj)
 have e : (sysD k rs).f = typD k := rfl
 rw [e,mapV_det to ri.1,mapV_det to rj.1]
 have o1 : outD rs i = (rs[i]).1 := by unfold outD; rw [List.getElem?_eq_getElem hi]; rfl
 have o2 : outD rs j = (rs[j]).1 := by unfold outD; rw [List.getElem?_eq_getElem hj]; rfl
 have d1 : rowD rs i = (rs[i]).2 := by unfold rowD; rw [List.getElem?_eq_getElem hi]; rfl
 have d2 : rowD rs j = (rs[j]).2 := by unfold rowD; rw [List.getElem?_eq_getElem hj]; rfl
 rw [o1,o2,d1,d2]
 generalize rs[i] = p at *
 generalize rs[j] = q at *
 have hout : mkOut p.1 = mkOut q.1 ↔ p.1 = q.1 := by
  unfold mkOut
  cases p.1 <;> cases q.1 <;> simp
 rw [Va.mk.injEq,List.cons.injEq,List.cons.injEq,Va.mk.injEq,hout]
 simp only [true_and,and_true]
 refine and_congr_right fun _ => ?_
 constructor
 ·intro hm a ha
  have hap : a < p.2.length := by omega
  have haq : a < q.2.length := by omega
  rw [List.getElem?_eq_getElem hap,List.getElem?_eq_getElem haq,Option.getD_some,Option.getD_some]
  have hx := ri.2 _ (List.getElem_mem hap)
  have hy := rj.2 _ (List.getElem_mem haq)
  have := congrArg (fun l => l[a]?) hm
  simp only [List.getElem?_map,List.getElem?_eq_getElem hap,List.getElem?_eq_getElem haq,Option.map_some] at this
  injection this with this
  injection this with this
  rw [List.getElem?_eq_getElem (by omega),List.getElem?_eq_getElem (by omega)] at this ⊢
  simpa using this
 ·intro hm
  apply List.ext_getElem?
  intro a
  by_cases ha : a < k
  ·have hap : a < p.2.length := by omega
   have haq : a < q.2.length := by omega
   have := hm a ha
   rw [List.getElem?_eq_getElem hap,List.getElem?_eq_getElem haq,Option.getD_some,Option.getD_some] at this
   simp only [List.getElem?_map,List.getElem?_eq_getElem hap,List.getElem?_eq_getElem haq,Option.map_some,this]
  ·rw [List.getElem?_eq_none (by simp; omega),List.getElem?_eq_none (by simp; omega)]
def SameR (k : Nat) (rs : Dfa) (r i j : Nat) : Prop := ∀ w : List Int,w.length < r → wordOk k w = true → outD rs (folD rs i w) = outD rs (folD rs j w)
theorem cls_same {k : Nat} {rs : Dfa} (h : DOk k rs) : ∀ (r : Nat) {i j : Nat},i < rs.length → j < rs.length → ((clsR (sysD k rs) r)[i]? = (clsR (sysD k rs) r)[j]? ↔ SameR k rs r i j)
 | 0,i,j,hi,hj => by
  have e2 : (sysD k rs).m.length = rs.length := by show (rs.map mkDet).length = _; simp
  rw [clsR,e2,List.getElem?_replicate,List.getElem?_replicate,if_pos hi,if_pos hj]
  exact ⟨fun _ w hw => by omega,fun _ => rfl⟩
 | r + 1,i,j,hi,hj => by
  have e2 : (sysD k rs).m.length = rs.length := by show (rs.map mkDet).length = _; simp
  have hl : (toZ (clsR (sysD k rs) r)).length = rs.length := by rw [toZ_len,clsR_len,e2]
  rw [clsR,cls_det h _ hl hi hj]
  have key : ∀ a,a < k → ((toZ (clsR (sysD k rs) r))[(rowD rs i)[a]?.getD 0]? = (toZ (clsR (sysD k rs) r))[(rowD rs j)[a]?.getD 0]? ↔ SameR k rs r ((rowD rs i)[a]?.getD 0) ((rowD rs j)[a]?.getD 0)) := by
   intro a ha
   rw [← cls_same h r (h.next hi ha) (h.next hj ha)]
   unfold toZ
   rw [List.getElem?_map,List.getElem?_map]
   constructor
   ·intro e
    cases h1 : (clsR (sysD k rs) r)[(rowD rs i)[a]?.getD 0]? <;> cases h2 : (clsR (sysD k rs) r)[(rowD rs j)[a]?.getD 0]? <;> rw [h1,h2] at e <;> simp at e ⊢
    omega
   ·intro e; rw [e]
  constructor
  ·rintro ⟨h1,h2⟩ w hw hok
   cases w with
   | nil => exact h1
   | cons a w =>
    unfold wordOk at hok
    rw [List.all_cons,Bool.and_eq_true] at hok
    have ha : 0 ≤ a ∧ a < k := by simpa using hok.1
    have hak : a.toNat < k := by omega
    rw [folD,folD]
    exact (key _ hak).1 (h2 _ hak) w (by simpa using hw) hok.2
  ·intro hS
   refine ⟨hS [] (by simp) rfl,fun a ha => (key a ha).2 fun w hw hok => ?_⟩
   have := hS ((a : Int) :: w) (by simpa using hw) (by unfold wordOk at hok ⊢; rw [List.all_cons,hok]; simp; omega)
   rw [folD,folD,Int.toNat_natCast] at this
   exact this
theorem cls_all {k : Nat} {rs : Dfa} (h : DOk k rs) {i j : Nat} (hi : i < rs.length) (hj : j < rs.length) :
  (clsR (sysD k rs) rs.length)[i]? = (clsR (sysD k rs) rs.length)[j]? ↔ ∀ w : List Int,wordOk k w = true → outD rs (folD rs i w) = outD rs (folD rs j w) := by
 rw [cls_same h _ hi hj]
 constructor
 ·intro hS w hok
  have := stab rs.length (SameR k rs) (fun r i _ w _ _ => rfl) (fun r i j he w h1 h2 => (he w h1 h2).symm) (fun r i j l h1 h2 w q1 q2 => (h1 w q1 q2).trans (h2 w q1 q2))
   (fun r i j _ _ he w q1 q2 => he w (by omega) q2) (fun r hall i j hi hj he w q1 q2 => by
    cases w with
    | nil => exact he [] (by simp) rfl
    | cons a w =>
     have hok := q2
     unfold wordOk at hok
     rw [List.all_cons,Bool.and_eq_true] at hok
     have ha : 0 ≤ a ∧ a < k := by simpa using hok.1
     have hak : a.toNat < k := by omega
     rw [folD,folD]
     refine hall _ _ (h.next hi hak) (h.next hj hak) (fun v v1 v2 => ?_) w (by simpa using q1) hok.2
     have := he (a :: v) (by simpa using v1) (by unfold wordOk at v2 ⊢; rw [List.all_cons,v2,hok.1]; rfl)
     rw [folD,folD] at this
     exact this) (w.length + 1) i j hi hj hS
  exact this w (by omega) hok
 ·intro hS w _ hok
  exact hS w hok
end Go.Ab.Tab
/- What the states of the deterministic automaton accept. -/
namespace Go.Ab.Tab
open Go Go.Ab
set_option maxRecDepth 10000
set_option linter.unusedVariables false
set_option linter.unusedSimpArgs false
theorem addL_get (all : List (List Int)) (y : List Int) : (addL all y).2[(addL all y).1]? = some y := by
 unfold addL
 cases h : idxL y 0 all with
 | some j => obtain ⟨_,q⟩ := idxL_some h; simpa using q
 | none => simp
def RowOk (k : Nat) (ps : Aut) (all : List (List Int)) (x : List Int) (r : List Nat) : Prop := r.length = k ∧ ∀ a,a < k → ∃ m,r[a]? = some m ∧ all[m]? = some (nx ps a x)
theorem stepR_rowOk {k : Nat} {ps : Aut} {x : List Int} : ∀ (j a : Nat) (p : List (List Int) × List Nat),a + j = k → p.2.length = a → (∀ b,b < a → ∃ m,p.2[b]? = some m ∧ p.1[m]? = some (nx ps b x)) → RowOk k ps (stepR ps x j a p).1 x (stepR ps x j a p).2
 | 0,a,p,h1,h2,h3 => by
  obtain rfl : a = k := by omega
  exact ⟨h2,h3⟩
 | j + 1,a,p,h1,h2,h3 => by
  rw [stepR]
  refine stepR_rowOk j (a + 1) _ (by omega) (by simp [h2]) fun b hb => ?_
  by_cases e : b = a
  ·subst e
   exact ⟨_,by simp only []; rw [List.getElem?_append_right (by omega),h2]; simp,addL_get _ _⟩
  ·obtain ⟨m,m1,m2⟩ := h3 b (by omega)
   exact ⟨m,by simp only []; rw [List.getElem?_append_left (by omega)]; exact m1,addL_pre m2⟩
theorem reachR_rows {k : Nat} {ps : Aut} {res : List (List Int) × List (List Nat)} : ∀ (f i : Nat) (all : List (List Int)) (to : List (List Nat)),reachR k ps f i all to = some res → to.length = i → i ≤ all.length →
  (∀ (j : Nat) r x,to[j]? = some r → all[j]? = some x → RowOk k ps all x r) → (∀ (j : Nat) r x,res.2[j]? = some r → res.1[j]? = some x → RowOk k ps res.1 x r) ∧ (res.1.length ≤ 100 → res.2.length = res.1.length) ∧ ∀ (j : Nat) x,all[j]? = some x → res.1[j]? = some x
 | 0,i,all,to,h,_,_,_ => by cases h
 | f + 1,i,all,to,h,ht,hi,hro => by
  rw [reachR] at h
  split at h
  ·rename_i hn
   injection h with h; subst h
   refine ⟨hro,fun _ => ?_,fun _ _ q => q⟩
   have := List.getElem?_eq_none_iff.1 hn
   simp only
   omega
  ·rename_i x hx
   have hil := (List.getElem?_eq_some_iff.1 hx).1
   split at h
   ·have hpre := fun (j : Nat) (z : List Int) => stepR_pre ps x (i := j) (z := z) k 0 (all,[])
    obtain ⟨g1,g2,g3⟩ := reachR_rows f (i + 1) _ _ h (by simp [ht]) (by have := stepR_ge ps x k 0 (all,[]); simp only at this; omega) (by
     intro j r z hj hz
     rcases Nat.lt_or_ge j i with q | q
     ·rw [List.getElem?_append_left (by omega)] at hj
      have hjl : j < all.length := by omega
      have e := hpre j _ (List.getElem?_eq_getElem hjl)
      rw [e] at hz; injection hz with hz; subst hz
      obtain ⟨r1,r2⟩ := hro j r _ hj (List.getElem?_eq_getElem hjl)
      refine ⟨r1,fun a ha => ?_⟩
      obtain ⟨m,m1,m2⟩ := r2 a ha
      exact ⟨m,m1,hpre m _ m2⟩
     ·have hji : j = i := by
       have := (List.getElem?_eq_some_iff.1 hj).1
       simp at this; omega
      subst hji
      rw [List.getElem?_append_right (by omega),ht] at hj
      simp at hj; subst hj
      have e := hpre j _ hx
      rw [e] at hz; injection hz with hz; subst hz
      exact stepR_rowOk k 0 (all,[]) (by omega) rfl fun b hb => by omega)
    exact ⟨g1,g2,fun j z hz => g3 j z (hpre j z hz)⟩
   ·rename_i hbig
    injection h with h; subst h
    exact ⟨hro,fun hle => absurd hle hbig,fun _ _ q => q⟩
theorem det_dok {k : Nat} {ps : Aut} {res : List (List Int) × List (List Nat)} {all : List (List Int)} {f : Nat} (h : reachR k ps f 0 all [] = some res) (h100 : res.1.length ≤ 100) : DOk k (rowsR ps res.1 res.2) ∧ (rowsR ps res.1 res.2).length = res.1.length ∧
  ∀ (i : Nat) x,res.1[i]? = some x → outD (rowsR ps res.1 res.2) i = finL ps x ∧ ∀ a,a < k → res.1[(rowD (rowsR ps res.1 res.2) i)[a]?.getD 0]? = some (nx ps a x) := by
 obtain ⟨g1,g2,_⟩ := reachR_rows f 0 all [] h rfl (by omega) (fun j r x hj => by simp at hj)
 have hlen := g2 h100
 have hl : (rowsR ps res.1 res.2).length = res.1.length := by unfold rowsR; rw [List.length_zipWith]; omega
 have hget : ∀ (i : Nat) (hi : i < res.1.length),(rowsR ps res.1 res.2)[i]? = some (finL ps res.1[i],res.2[i]) := by
  intro i hi
  unfold rowsR
  rw [List.getElem?_zipWith,List.getElem?_eq_getElem hi,List.getElem?_eq_getElem (by omega)]
 refine ⟨⟨by omega,fun p hp => ?_⟩,hl,fun i x hx => ?_⟩
 ·obtain ⟨i,hi,rfl⟩ := List.getElem_of_mem hp
  have hi2 : i < res.1.length := by omega
  have e := hget i hi2
  rw [List.getElem?_eq_getElem hi] at e
  injection e with e
  rw [e]
  obtain ⟨r1,r2⟩ := g1 i res.2[i] res.1[i] (List.getElem?_eq_getElem (by omega)) (List.getElem?_eq_getElem hi2)
  refine ⟨r1,fun y hy => ?_⟩
  obtain ⟨a,ha,rfl⟩ := List.getElem_of_mem hy
  have ha2 : a < res.2[i].length := ha
  obtain ⟨m,m1,m2⟩ := r2 a (by omega)
  rw [List.getElem?_eq_getElem ha] at m1
  injection m1 with m1
  rw [hl,m1]
  exact (List.getElem?_eq_some_iff.1 m2).1
 ·obtain ⟨hi,rfl⟩ := List.getElem?_eq_some_iff.1 hx
  have e := hget i hi
  refine ⟨by unfold outD; rw [e]; rfl,fun a ha => ?_⟩
  obtain ⟨r1,r2⟩ := g1 i res.2[i] res.1[i] (List.getElem?_eq_getElem (by omega)) hx
  obtain ⟨m,m1,m2⟩ := r2 a ha
  have e2 : rowD (rowsR ps res.1 res.2) i = res.2[i] := by unfold rowD; rw [e]; rfl
  rw [e2,m1,Option.getD_some,m2]
theorem det_acc {k : Nat} {ps : Aut} (hps : AuOk k ps) {res : List (List Int) × List (List Nat)} {rs : Dfa} (hvs : VSs ps.length res.1) (hd : ∀ (i : Nat) x,res.1[i]? = some x → outD rs i = finL ps x ∧ ∀ a,a < k → res.1[(rowD rs i)[a]?.getD 0]? = some (nx ps a x)) :
  ∀ (w : List Int) (i : Nat) (x : List Int),wordOk k w = true → res.1[i]? = some x → outD rs (folD rs i w) = endsB (paOf k ps).F (runB (paOf k ps) (toS x) w)
 | [],i,x,_,hx => by
  rw [folD,(hd i x hx).1]
  exact finL_ends hps.len (hvs x (mem_of_get hx)).below
 | a :: w,i,x,hok,hx => by
  unfold wordOk at hok
  rw [List.all_cons,Bool.and_eq_true] at hok
  have ha : 0 ≤ a ∧ a < k := by simpa using hok.1
  rw [folD]
  have := det_acc hps hvs hd w _ (nx ps a.toNat x) hok.2 ((hd i x hx).2 a.toNat (by omega))
  rw [this,toS_nx hps _ (hvs x (mem_of_get hx)).below]
  rfl
end Go.Ab.Tab
/- Law 8 (DetLanguages): the loops. -/
namespace Go.Ab.Tab
open Go Go.Ab
set_option maxRecDepth 10000
set_option linter.unusedVariables false
set_option linter.unusedSimpArgs false
theorem sysD_m (k : Nat) (rs : Dfa) : (sysD k rs).m.length = rs.length := by show (rs.map mkDet).length = _; simp
end Go.Ab.Tab
/- Law 8 (DetLanguages). -/
namespace Go.Ab.Tab
open Go Go.Ab
set_option maxRecDepth 10000
set_option linter.unusedVariables false
set_option linter.unusedSimpArgs false
end Go.Ab.Tab
/- The law's plain (56) and turn (55). -/
namespace Go.Ab.Tab
open Go Go.Ab
set_option maxRecDepth 10000
set_option linter.unusedVariables false
set_option linter.unusedSimpArgs false
def plainP (rs : Dfa) : Aut := rs.map fun p => (p.1,p.2.map fun y => [y])
theorem l56_0 (D : Nat) (row : List Nat) (hrow : row.length ≤ 1000) (g8 : Nat) (Q : St → Prop) (K : List AI) (S) (τ0 : Nat → AV) (ω0 : Nat → Ent) (h8 : τ0 8 = .ptr D 8 g8 0) (h26 : τ0 26 = .sl 3 (row.map fun y => encV (mkSt y)) .no) (h27 : τ0 27 = .int .i64 row.length) :
  ∀ (m i : Nat) (tp tp2) (τ ω),i + m = row.length → (tp = .tip ∨ tp = .nil) → (∀ x,x < 28 → x ≠ 10 → τ x = τ0 x) → τ 28 = .int .i64 i → ω 8 = (g8,.cells [.int .i64 0,.sl 3 ((row.take i).map fun y => encV (mkRow [y])) tp,.sl 1 [] tp2]) → (∀ j,j ≠ 8 → j ≠ 10 → ω j = ω0 j) →
  (∀ τ' ω' tp tp2,(tp = .tip ∨ tp = .nil) → (∀ x,x < 28 → x ≠ 10 → τ' x = τ0 x) → ω' 8 = (g8,.cells [.int .i64 0,.sl 3 (row.map fun y => encV (mkRow [y])) tp,.sl 1 [] tp2]) → (∀ j,j ≠ 8 → j ≠ 10 → ω' j = ω0 j) → Rd (Loc Pg Gl) .im Q K (stF 59 D τ' ω' S)) →
  Rd (Loc Pg Gl) .im Q (.lp c56_l0 :: .blk 2 :: K) (stF 59 D τ ω S) := by
 intro m
 induction m with
 | zero =>
  intro i tp tp2 τ ω hi htp hτ h28 w8 hω hend
  refine Rd_lpE c56_l0.eq_1 ?_
  obtain rfl : i = row.length := by omega
  rw [List.take_length] at w8
  have a27 := (hτ 27 (by decide) (by decide)).trans h27
  simp [a27,h28]
  refine hend _ _ tp tp2 htp (fun x q1 q2 => ?_) w8 hω
  rw [← hτ x q1 q2]; simp only [upd]; repeat rw [if_neg (by omega)]
 | succ m ih =>
  intro i tp tp2 τ ω hi htp hτ h28 w8 hω hend
  refine Rd_lpE c56_l0.eq_1 ?_
  have hlt : i < row.length := by omega
  have hwr : IntKind.i64.wrap ((i : Int) + 1) = ((i + 1 : Nat) : Int) := by rw [← wrap_i64_nat (n := i + 1) (by omega)]; rfl
  have a27 := (hτ 27 (by decide) (by decide)).trans h27
  have a26 := (hτ 26 (by decide) (by decide)).trans h26
  have a8 := (hτ 8 (by decide) (by decide)).trans h8
  obtain ⟨y,hy⟩ : ∃ y,row[i] = y := ⟨_,rfl⟩
  have htk : row.take (i + 1) = row.take i ++ [y] := by rw [List.take_succ_eq_append_getElem hlt,hy]
  have hle : (min i row.length + 1) * 56 ≤ 1099511627776 := by omega
  simp [a27,h28,hlt,a26,hy,encV_st,a8,w8,htp,hle,hwr]
  refine ih (i + 1) .tip tp2 _ _ (by omega) (.inl rfl) (fun x q1 q2 => ?_) ?_ ?_ (fun j q1 q2 => ?_) hend
  ·rw [← hτ x q1 q2]; simp only [upd]; repeat rw [if_neg (by omega)]
  ·simp
  ·simp [htk,encV_row,encV_st]
  ·rw [← hω j q1 q2]; simp [upd,q1,q2]
theorem l56_1 (D k : Nat) (hk : k ≤ 4) (rs : Dfa) (hD : DOk k rs) (S) (r : AV) (FL FL2 : List AV) (hr : r = .agg [.int .i64 2,.int .i64 0,.sl 3 FL2 .no,.sl 3 (rs.map fun p => encV (mkAu (p.1,p.2.map fun y => [y]))) .no]) :
  ∀ (m i : Nat) (tp) (τ ω),i + m = rs.length → (tp = .tip ∨ tp = .nil) → τ 2 = .ptr D 2 1 0 → τ 4 = .ptr D 4 1 0 → τ 5 = .ptr D 5 1 0 → τ 15 = .sl 3 (rs.map fun p => encV (mkDet p)) .no → τ 16 = .int .i64 rs.length → τ 17 = .int .i64 i →
  ω 4 = (1,.cells [.int .i64 0,.int .i64 0,.sl 3 [] .tip,.sl 3 [] .tip]) → ω 5 = (1,.cells [.int .i64 2,.int .i64 0,.sl 3 FL2 .no,.sl 3 ((rs.take i).map fun p => encV (mkAu (p.1,p.2.map fun y => [y]))) tp]) →
  Rd (Loc Pg Gl) .im (RetQ [.cell 4 true 4] r S) [.lp c56_l1,.blk 0,.c c56_k2] (stF 59 D τ ω S) := by
 intro m
 induction m with
 | zero =>
  intro i tp τ ω hi htp h2 h4 h5 h15 h16 h17 w4 w5
  refine Rd_lpE c56_l1.eq_1 ?_
  obtain rfl : i = rs.length := by omega
  rw [List.take_length] at w5
  simp [h16,h17,c56_k2,h5,w5,h4,w4]
  rcases htp with rfl | rfl <;> simp [hr]
 | succ m ih =>
  intro i tp τ ω hi htp h2 h4 h5 h15 h16 h17 w4 w5
  refine Rd_lpE c56_l1.eq_1 ?_
  have hlt : i < rs.length := by omega
  have hn := hD.len
  have hwr : IntKind.i64.wrap ((i : Int) + 1) = ((i + 1 : Nat) : Int) := by rw [← wrap_i64_nat (n := i + 1) (by omega)]; rfl
  obtain ⟨p,hp⟩ : ∃ p,rs[i] = p := ⟨_,rfl⟩
  have hpl := (hD.row p (by rw [← hp]; exact List.getElem_mem hlt)).1
  have htk : rs.take (i + 1) = rs.take i ++ [p] := by rw [List.take_succ_eq_append_getElem hlt,hp]
  have hle : (min i rs.length + 1) * 56 ≤ 1099511627776 := by omega
  simp [h16,h17,hlt,h15,hp,encV_det]
  refine l56_0 D p.2 (by omega) ((ω 8).1 + 1) _ _ S _ _ ?_ ?_ ?_ p.2.length 0 .tip .tip _ _ (by omega) (.inl rfl) (fun x _ _ => rfl) ?_ ?_ (fun j _ _ => rfl) ?_
  case refine_6 =>
   intro τ1 ω1 tp1 tp2 htp1 hτ1 w8 hω1
   have b2 : τ1 2 = .ptr D 2 1 0 := by rw [hτ1 2 (by decide) (by decide)]; simp [h2]
   have b4 : τ1 4 = .ptr D 4 1 0 := by rw [hτ1 4 (by decide) (by decide)]; simp [h4]
   have b5 : τ1 5 = .ptr D 5 1 0 := by rw [hτ1 5 (by decide) (by decide)]; simp [h5]
   have b7 : τ1 7 = .ptr D 7 ((ω 7).1 + 1) 0 := by rw [hτ1 7 (by decide) (by decide)]; simp
   have b8 : τ1 8 = .ptr D 8 ((ω 8).1 + 1) 0 := by rw [hτ1 8 (by decide) (by decide)]; simp
   have b15 : τ1 15 = .sl 3 (rs.map fun p => encV (mkDet p)) .no := by rw [hτ1 15 (by decide) (by decide)]; simp [h15,encV_det]
   have b16 : τ1 16 = .int .i64 rs.length := by rw [hτ1 16 (by decide) (by decide)]; simp [h16]
   have b17 : τ1 17 = .int .i64 i := by rw [hτ1 17 (by decide) (by decide)]; simp [h17]
   have v4 : ω1 4 = (1,.cells [.int .i64 0,.int .i64 0,.sl 3 [] .tip,.sl 3 [] .tip]) := by rw [hω1 4 (by decide) (by decide)]; simp [w4]
   have v5 : ω1 5 = (1,.cells [.int .i64 2,.int .i64 0,.sl 3 FL2 .no,.sl 3 ((rs.take i).map fun p => encV (mkAu (p.1,p.2.map fun y => [y]))) tp]) := by rw [hω1 5 (by decide) (by decide)]; simp [w5]
   have v7 := hω1 7 (by decide) (by decide)
   simp at v7
   simp [c56_k0,c56_k1,b5,v5,b7,v7,b8,w8,htp,hle,b17,hwr]
   refine ih (i + 1) .tip _ _ (by omega) (.inl rfl) ?_ ?_ ?_ ?_ ?_ ?_ ?_ ?_
   case refine_8 =>
    rcases htp1 with rfl | rfl <;> simp [htk,encV_au,Function.comp_def]
   all_goals simp [b2,b4,b5,b15,b16,v4]
  all_goals simp
theorem spec56 (D k : Nat) (hk : k ≤ 4) (rs : Dfa) (hD : DOk k rs) : Go.Ab.Loc Pg Gl D 56 [encY (sysD k rs),.int .i64 k] [] (encY (auY k (plainP rs))) [] := by
 refine loc_rd mixedP tok rfl rfl fun S => ?_
 unfold c56
 generalize hr : encY (auY k (plainP rs)) = r
 rw [encY_au] at hr
 have h90 := spec90 (D + 1) k
 unfold typ at h90
 rw [encF_mk] at h90
 generalize (([.mk 1 2 [],.mk 4 k [.mk 5 0 [.mk 0 0 []]]] : List Fu).map encF) = FL2 at hr h90
 rw [encY]
 have hm : (sysD k rs).m.map encV = rs.map fun p => encV (mkDet p) := by show (rs.map mkDet).map encV = _; rw [List.map_map]; rfl
 rw [hm]
 simp
 refine Rd_call h90 (by simp) ?_
 simp
 refine l56_1 D k hk rs hD S r [] FL2 ?_ rs.length 0 .tip _ _ (by omega) (.inl rfl) ?_ ?_ ?_ ?_ ?_ ?_ ?_ ?_
 case refine_1 => rw [← hr]; simp [plainP,Function.comp_def]
 all_goals simp
end Go.Ab.Tab
/- The law's turn (55); the plain automaton. -/
namespace Go.Ab.Tab
open Go Go.Ab
set_option maxRecDepth 10000
set_option linter.unusedVariables false
set_option linter.unusedSimpArgs false
theorem plainP_len (rs : Dfa) : (plainP rs).length = rs.length := by simp [plainP]
theorem plainP_ok {k : Nat} (h1 : 1 ≤ k) (h4 : k ≤ 4) {rs : Dfa} (h : DOk k rs) : AuOk k (plainP rs) := by
 refine ⟨h1,h4,by rw [plainP_len]; exact h.len,fun p hp => ?_⟩
 obtain ⟨q,hq,rfl⟩ := List.mem_map.1 hp
 obtain ⟨r1,r2⟩ := h.row q hq
 refine ⟨by simpa using r1,fun r hr x hx => ?_⟩
 obtain ⟨y,hy,rfl⟩ := List.mem_map.1 hr
 rw [List.mem_singleton.1 hx,plainP_len]
 exact r2 y hy
theorem plainP_rl {rs : Dfa} : ∀ p ∈ plainP rs,∀ r ∈ p.2,r.length ≤ 100 := by
 intro p hp r hr
 obtain ⟨q,hq,rfl⟩ := List.mem_map.1 hp
 obtain ⟨y,hy,rfl⟩ := List.mem_map.1 hr
 simp
theorem valP_one {n y : Nat} (hy : y < n) : valP n (mkRow [y]) (.mk 5 0 [.mk 0 0 []]) = true := by
 have := valP_st' hy
 unfold mkRow
 simp [valP_mk,locP_k,partsOk_k,numOk_k,weighedR_k,setOk_k,partsF_k,sets,wtd,valPs,this,incr]
theorem valP_plain {n k : Nat} {p : Bool × List Nat} (hl : p.2.length = k) (hp : ∀ y ∈ p.2,y < n) : valP n (mkAu (p.1,p.2.map fun y => [y])) (typ k) = true := by
 unfold mkAu typ mkOut
 have h1 : valPs n ((p.2.map fun y => [y]).map mkRow) (List.replicate k (.mk 5 0 [.mk 0 0 []])) = true := by
  rw [← hl,show p.2.length = ((p.2.map fun y => [y]).map mkRow).length by simp,valPs_rep,List.all_eq_true]
  intro v hv
  obtain ⟨r,hr,rfl⟩ := List.mem_map.1 hv
  obtain ⟨y,hy,rfl⟩ := List.mem_map.1 hr
  exact valP_one (hp y hy)
 simp only [List.map_map] at h1
 simp [valP_mk,locP_k,partsOk_k,numOk_k,weighedR_k,setOk_k,partsF_k,sets,wtd,valPs,h1,hl]
 cases p.1 <;> simp
theorem plainP_g {k : Nat} (h1 : 1 ≤ k) (h4 : k ≤ 4) {rs : Dfa} (h : DOk k rs) : AuG k (plainP rs) := by
 have hok := plainP_ok h1 h4 h
 have hrl := plainP_rl (rs := rs)
 refine ⟨hok,fun p hp r hr => by have := hrl p hp r hr; unfold maxLen; omega,?_,au_fit hok hrl,au_nodes hok hrl⟩
 unfold isY
 have e : (auY k (plainP rs)).f = typ k := rfl
 have e2 : (auY k (plainP rs)).m = (plainP rs).map mkAu := rfl
 have hF : isF (typ k) = true := by
  have : k = 1 ∨ k = 2 ∨ k = 3 ∨ k = 4 := by omega
  rcases this with rfl | rfl | rfl | rfl <;> rfl
 have hnodes : ∀ p ∈ rs,nodesV (mkAu (p.1,p.2.map fun y => [y])) ≤ 20 := by
  intro p hp
  have hk := (h.row p hp).1
  have h2 := nodesVs_map mkRow 2 (p.2.map fun y => [y]) fun r hr => by
   obtain ⟨y,hy,rfl⟩ := List.mem_map.1 hr
   simp [mkRow,mkSt,nodesV,nodesVs]
  simp only [List.length_map] at h2
  simp [mkAu,mkOut,nodesV,nodesVs]
  simp only [List.map_map] at h2
  omega
 have hall : nodesVs ((plainP rs).map mkAu) ≤ 20000 := by
  have := nodesVs_map (fun p : Bool × List Nat => mkAu (p.1,p.2.map fun y => [y])) 20 rs hnodes
  have hl := h.len
  unfold plainP
  rw [List.map_map]
  have e : nodesVs (rs.map (mkAu ∘ fun p => (p.1,p.2.map fun y => [y]))) ≤ rs.length * 20 := this
  omega
 rw [e,e2,hF,Bool.true_and,List.length_map,plainP_len,decide_eq_true h.len,Bool.true_and,Bool.and_eq_true,decide_eq_true_eq,List.all_eq_true]
 refine ⟨fun v hv => ?_,hall⟩
 obtain ⟨q,hq,rfl⟩ := List.mem_map.1 hv
 obtain ⟨p,hp,rfl⟩ := List.mem_map.1 hq
 have hv := valP_plain (h.row p hp).1 (h.row p hp).2
 rw [valP_eq] at hv
 unfold valV
 rw [hv,Bool.and_true,decide_eq_true_eq]
 have := hnodes p hp
 omega
def turnR (k : Nat) (o : Option Dfa) : AV := .tup [match o with | some rs => encY (sysD k rs) | none => zeroY,.bool o.isSome]
theorem spec55 (D k : Nat) (ps : Aut) (hG : AuG k ps) (l : List Int) (vl : VS ps.length l) (hf : fitF (auY k ps).f) :
  ∃ o : Option Dfa,Go.Ab.Loc Pg Gl D 55 [encY (auY k ps),encI l] [] (turnR k o) [] ∧
   ∀ rs,o = some rs → isY (auY k (revA k ps l)) = true ∧ ∃ res,reachR k (revA k ps l) 102 0 [lN ps.length (paOf k ps).F] [] = some res ∧ res.1.length ≤ 100 ∧ rs = rowsR (revA k ps l) res.1 res.2 ∧ ROk k (revA k ps l) res := by
 have hfit := au_fit (revA_ok hG.ok l) (revA_rl hG.ok l)
 have hnod := au_nodes (revA_ok hG.ok l) (revA_rl hG.ok l)
 have hrlen : (revA k ps l).length ≤ maxLen := by rw [revA_len]; have := hG.ok.len; unfold maxLen; omega
 have h53 := spec53_ok (D + 1) k ps hG.ok hG.rl hG.is hG.fit hG.nodes (paOf_rl k ps) hG.w l vl.len (revA k ps l) rfl hf hrlen hfit hnod
 rw [vl.is,if_pos rfl] at h53
 have hE := encY.eq_1 (auY k ps)
 have hEr := encY.eq_1 (auY k (revA k ps l))
 cases hyr : isY (auY k (revA k ps l)) with
 | false =>
  refine ⟨none,?_,fun rs h => by cases h⟩
  rw [rRev,hyr,if_neg (by simp)] at h53
  refine loc_rd mixedP tok rfl rfl fun S => ?_
  unfold c55
  unfold errDet zeroY at h53
  rw [hE] at h53 ⊢
  simp
  refine Rd_call h53 (by simp [encI]) ?_
  simp
  simp [turnR,zeroY]
 | true =>
  rw [rRev,hyr,if_pos rfl,F_list hG.ok] at h53
  have hGR := revA_g hG.ok l hyr
  have h39 := spec39 (auY k (revA k ps l)) hf (by simpa [auY] using hrlen) hfit hnod (D + 1)
  rw [hyr] at h39
  have hfl : VS (revA k ps l).length (lN ps.length (paOf k ps).F) := by rw [revA_len]; exact lN_vs hG.ok.len _
  generalize lN ps.length (paOf k ps).F = fl at *
  obtain ⟨res,hres,hrok,h25⟩ := det_valid hGR [fl] (by simp) (by intro x hx; rw [List.mem_singleton.1 hx]; exact hfl)
  have hadd : addLs [fl] [] = [fl] := rfl
  rw [hadd] at hres
  have h25 := h25 (D + 1)
  rw [detOut] at h25
  by_cases h100 : res.1.length ≤ 100
  ·obtain ⟨hD,hlen,hd⟩ := det_dok hres h100
   refine ⟨some (rowsR (revA k ps l) res.1 res.2),?_,fun rs h => by injection h with h; subst h; exact ⟨rfl,res,hres,h100,rfl,hrok⟩⟩
   rw [if_pos h100,rDet,names_eq hrok.vs] at h25
   generalize rowsR (revA k ps l) res.1 res.2 = rs at *
   have hYd := isY_det hG.ok.kpos hG.ok.kle hD
   have hfitd := sysD_fit k rs (by intro p hp; rw [(hD.row p hp).1]; have := hG.ok.kle; omega)
   have hnodd := det_nodes hG.ok.kle hD
   have hml : (sysD k rs).m.length ≤ maxLen := by rw [sysD_m]; have := hD.len; unfold maxLen; omega
   have h39d := spec39 (sysD k rs) hfitd.1 hml hfitd.2 (show nodesVs (rs.map mkDet) ≤ 2 ^ 32 by omega) (D + 1)
   rw [hYd] at h39d
   have hEd := encY.eq_1 (sysD k rs)
   refine loc_rd mixedP tok rfl rfl fun S => ?_
   unfold c55
   rw [hE,hEr] at h53
   rw [hEr] at h39 h25
   rw [hEd] at h25 h39d
   rw [hE]
   simp
   refine Rd_call h53 (by simp [encI]) ?_
   simp [encI_left]
   refine Rd_call h39 (by simp) ?_
   simp [encI_left]
   refine Rd_call h25 (by simp [encLs]) ?_
   simp [encLs]
   refine Rd_drCall h39d (by simp) ?_
   simp [turnR,hEd]
  ·refine ⟨none,?_,fun rs h => by cases h⟩
   rw [if_neg h100,rDet] at h25
   unfold zeroY at h25
   refine loc_rd mixedP tok rfl rfl fun S => ?_
   unfold c55
   rw [hE,hEr] at h53
   rw [hEr] at h39 h25
   rw [hE]
   simp
   refine Rd_call h53 (by simp [encI]) ?_
   simp [encI_left]
   refine Rd_call h39 (by simp) ?_
   simp [encI_left]
   refine Rd_call h25 (by simp [encLs]) ?_
   simp
   simp [turnR,zeroY]
end Go.Ab.Tab
/- The plain law of minimizing by two reversals. -/
namespace Go.Ab.Tab
open Go Go.Ab
set_option maxRecDepth 10000
set_option linter.unusedVariables false
set_option linter.unusedSimpArgs false
theorem addL_nodup {all : List (List Int)} {y : List Int} (h : all.Nodup) : (addL all y).2.Nodup := by
 unfold addL
 cases hi : idxL y 0 all with
 | some j => exact h
 | none =>
  have hn := idxL_none hi
  simp only []
  rw [List.nodup_append]
  refine ⟨h,by simp,fun a ha b hb e => ?_⟩
  rw [List.mem_singleton.1 hb] at e
  exact hn (e ▸ ha)
theorem addL_all {P : List Int → Prop} {all : List (List Int)} {y : List Int} (h : ∀ x ∈ all,P x) (hy : P y) : ∀ x ∈ (addL all y).2,P x := by
 unfold addL
 split
 ·exact h
 ·intro x hx
  rcases List.mem_append.1 hx with hx | hx
  ·exact h x hx
  ·rw [List.mem_singleton.1 hx]; exact hy
theorem stepR_inv {k : Nat} {ps : Aut} {P : List Int → Prop} (hP : ∀ x a,P x → a < k → P (nx ps a x)) {x : List Int} (hx : P x) : ∀ (j a : Nat) (p : List (List Int) × List Nat),a + j = k → p.1.Nodup → (∀ y ∈ p.1,P y) → (stepR ps x j a p).1.Nodup ∧ ∀ y ∈ (stepR ps x j a p).1,P y
 | 0,a,p,_,h1,h2 => ⟨h1,h2⟩
 | j + 1,a,p,ha,h1,h2 => by
  rw [stepR]
  exact stepR_inv hP hx j (a + 1) _ (by omega) (addL_nodup h1) (addL_all h2 (hP x a hx (by omega)))
theorem reachR_inv {k : Nat} {ps : Aut} {P : List Int → Prop} (hP : ∀ x a,P x → a < k → P (nx ps a x)) {res : List (List Int) × List (List Nat)} : ∀ (f i : Nat) (all : List (List Int)) (to : List (List Nat)),reachR k ps f i all to = some res → all.Nodup → (∀ y ∈ all,P y) → res.1.Nodup ∧ ∀ y ∈ res.1,P y
 | 0,i,all,to,h,_,_ => by cases h
 | f + 1,i,all,to,h,h1,h2 => by
  rw [reachR] at h
  split at h
  ·injection h with h; subst h; exact ⟨h1,h2⟩
  ·rename_i x hx
   split at h
   ·obtain ⟨g1,g2⟩ := stepR_inv hP (h2 x (mem_of_get hx)) k 0 (all,[]) (by omega) h1 h2
    exact reachR_inv hP f (i + 1) _ _ h g1 g2
   ·injection h with h; subst h; exact ⟨h1,h2⟩
theorem det_run {k : Nat} {ps : Aut} (hps : AuOk k ps) {res : List (List Int) × List (List Nat)} {rs : Dfa} (hvs : VSs ps.length res.1) (hd : ∀ (i : Nat) x,res.1[i]? = some x → outD rs i = finL ps x ∧ ∀ a,a < k → res.1[(rowD rs i)[a]?.getD 0]? = some (nx ps a x)) :
  ∀ (w : List Int) (i : Nat) (x : List Int),wordOk k w = true → res.1[i]? = some x → ∃ y,res.1[folD rs i w]? = some y ∧ toS y = runB (paOf k ps) (toS x) w
 | [],i,x,_,hx => ⟨x,hx,rfl⟩
 | a :: w,i,x,hok,hx => by
  unfold wordOk at hok
  rw [List.all_cons,Bool.and_eq_true] at hok
  have ha : 0 ≤ a ∧ a < k := by simpa using hok.1
  rw [folD]
  obtain ⟨y,h1,h2⟩ := det_run hps hvs hd w _ (nx ps a.toNat x) hok.2 ((hd i x hx).2 a.toNat (by omega))
  refine ⟨y,h1,?_⟩
  rw [h2,toS_nx hps _ (hvs x (mem_of_get hx)).below]
  rfl
theorem runB_snoc (A : PA) (u : BS) (w : List Int) (a : Int) : runB A u (w ++ [a]) = nextA A (runB A u w) a.toNat := by
 unfold runB
 rw [List.foldl_append,List.foldl_cons,List.foldl_nil]
theorem det_reached {k : Nat} {ps : Aut} (hps : AuOk k ps) {x0 : List Int} (hx0 : VS ps.length x0) {res : List (List Int) × List (List Nat)} (hres : reachR k ps 102 0 [x0] [] = some res) (h100 : res.1.length ≤ 100) (hvs : VSs ps.length res.1) :
  res.1[0]? = some x0 ∧ res.1.Nodup ∧ ∀ q,q < res.1.length → ∃ w,wordOk k w = true ∧ folD (rowsR ps res.1 res.2) 0 w = q := by
 obtain ⟨_,_,g3⟩ := reachR_rows 102 0 [x0] [] hres rfl (by omega) (fun j r x hj => by simp at hj)
 have h0 := g3 0 x0 rfl
 obtain ⟨n1,n2⟩ := reachR_inv (P := fun x => VS ps.length x ∧ ∃ w,wordOk k w = true ∧ toS x = runB (paOf k ps) (toS x0) w) (fun x a hx ha => by
  obtain ⟨hv,w,w1,w2⟩ := hx
  refine ⟨nx_vs hps a x,w ++ [(a : Int)],?_,?_⟩
  ·unfold wordOk at w1 ⊢
   rw [List.all_append,w1]
   simp; omega
  ·rw [runB_snoc,Int.toNat_natCast,← w2,toS_nx hps a hv.below]) 102 0 [x0] [] hres (by simp) (fun y hy => by rw [List.mem_singleton.1 hy]; exact ⟨hx0,[],rfl,rfl⟩)
 refine ⟨h0,n1,fun q hq => ?_⟩
 obtain ⟨hv,w,w1,w2⟩ := n2 _ (List.getElem_mem hq)
 obtain ⟨_,_,hd⟩ := det_dok hres h100
 obtain ⟨y,y1,y2⟩ := det_run hps hvs hd w 0 x0 w1 h0
 have e : y = res.1[q] := toS_inj (hvs y (mem_of_get y1)) hv (y2.trans w2.symm)
 rw [e,← List.getElem?_eq_getElem hq] at y1
 have hl : folD (rowsR ps res.1 res.2) 0 w < res.1.length := by
  apply Classical.byContradiction; intro hc
  rw [List.getElem?_eq_none (by omega),List.getElem?_eq_getElem hq] at y1
  cases y1
 exact ⟨w,w1,(List.getElem?_inj hl n1).1 y1⟩
theorem plain_row {k : Nat} {rs : Dfa} (h : DOk k rs) {i a q : Nat} (hi : i < rs.length) (ha : a < k) : (rowA (paOf k (plainP rs)) i a).has q = true ↔ (rowD rs i)[a]?.getD 0 = q := by
 have hn := h.len
 obtain ⟨r1,r2⟩ := h.rowD hi
 have hal : a < (rowD rs i).length := by omega
 rw [rowA_cell,cellA_paOf]
 have e : rowN (plainP rs) i a = [(rowD rs i)[a]] := by
  unfold rowN plainP
  rw [List.getElem?_map,List.getElem?_eq_getElem hi,Option.map_some,Option.map_some,Option.getD_some]
  have e2 : rowD rs i = (rs[i]).2 := by unfold rowD; rw [List.getElem?_eq_getElem hi]; rfl
  simp only [e2] at hal ⊢
  rw [List.getElem?_map,List.getElem?_eq_getElem hal]; rfl
 rw [e,List.getElem?_eq_getElem hal,Option.getD_some]
 have hlt := r2 _ (List.getElem_mem hal)
 constructor
 ·intro hh
  have hq := has_lt hh
  rw [has_toN hq (by intro x hx; rw [List.mem_singleton.1 hx]; omega),decide_eq_true_eq] at hh
  exact (List.mem_singleton.1 hh).symm
 ·intro e
  subst e
  rw [has_toN (by omega) (by intro x hx; rw [List.mem_singleton.1 hx]; omega),decide_eq_true_eq]
  simp
theorem plain_pth {k : Nat} {rs : Dfa} (h : DOk k rs) {q : Nat} : ∀ {w : List Nat} {i : Nat},i < rs.length → (∀ a ∈ w,a < k) → (Pth (paOf k (plainP rs)) i w q ↔ folD rs i (toZ w) = q)
 | [],i,hi,_ => Iff.rfl
 | a :: w,i,hi,hw => by
  have ha := hw a (by simp)
  have hz : toZ (a :: w) = (a : Int) :: toZ w := rfl
  rw [Pth,hz,folD,Int.toNat_natCast]
  constructor
  ·rintro ⟨z,h1,h2⟩
   have e := (plain_row h hi ha).1 h1
   rw [e]
   exact (plain_pth h (by rw [← e]; exact h.next hi ha) (fun b hb => hw b (by simp [hb]))).1 h2
  ·intro e
   exact ⟨_,(plain_row h hi ha).2 rfl,(plain_pth h (h.next hi ha) (fun b hb => hw b (by simp [hb]))).2 e⟩
theorem plain_F {k : Nat} {rs : Dfa} (h : DOk k rs) {i : Nat} (hi : i < rs.length) : (paOf k (plainP rs)).F.has i = outD rs i := by
 have hn := h.len
 rw [F_has (by rw [plainP_len]; exact hn) (by omega)]
 unfold plainP outD
 rw [List.getElem?_map,List.getElem?_eq_getElem hi]; rfl
theorem plain_rev {k : Nat} (h1 : 1 ≤ k) (h4 : k ≤ 4) {rs : Dfa} (h : DOk k rs) (h0 : 0 < rs.length) (u : BS) {w : List Int} (hw : wordOk k w = true) :
  endsB (paOf k (revA k (plainP rs) [0])).F (runB (paOf k (revA k (plainP rs) [0])) u w) = u.has (folD rs 0 w.reverse) := by
 have hok := plainP_ok h1 h4 h
 have hn := h.len
 have v0 : VS (plainP rs).length [0] := by
  rw [plainP_len]
  refine ⟨?_,by simp [maxLen],hn⟩
  simp [isSet,isSetFrom,prevOk]; exact h0
 have hrok := revA_ok hok [0]
 have hk : ∀ a ∈ w.map Int.toNat,a < k := by
  intro a ha
  obtain ⟨b,hb,rfl⟩ := List.mem_map.1 ha
  unfold wordOk at hw
  have := List.all_eq_true.1 hw b hb
  simp at this; omega
 have hz : toZ (w.map Int.toNat) = w := by
  unfold toZ
  rw [List.map_map]
  conv => rhs; rw [← List.map_id w]
  refine List.map_congr_left fun a ha => ?_
  unfold wordOk at hw
  have := List.all_eq_true.1 hw a ha
  simp at this ⊢
  omega
 have hzr : toZ (w.map Int.toNat).reverse = w.reverse := by
  have : toZ (w.map Int.toNat).reverse = (toZ (w.map Int.toNat)).reverse := by unfold toZ; rw [List.map_reverse]
  rw [this,hz]
 rw [Bool.eq_iff_iff,runB_wd,← Acc_run hrok.a,Acc_pth,revA_F hok v0]
 have hone : ∀ y,(toS [0]).has y = true ↔ y = 0 := by
  intro y
  constructor
  ·intro hh
   have hy := has_lt hh
   rw [has_toS (n := 1) (by omega) (by intro x hx; rw [List.mem_singleton.1 hx]; omega) hy,decide_eq_true_eq,List.mem_singleton] at hh
   omega
  ·rintro rfl; rfl
 constructor
 ·rintro ⟨x,y,q1,q2,q3⟩
  rw [hone] at q3
  subst q3
  have := (Pth_rev (A := paOf k (revA k (plainP rs) [0])) (B := paOf k (plainP rs)) (fun x y a => (revA_row hok [0] y x a).symm)).1 q2
  have e := (plain_pth h h0 (by intro a ha; exact hk a (List.mem_reverse.1 ha))).1 this
  rw [hzr] at e
  rw [e]; exact q1
 ·intro hu
  refine ⟨_,0,hu,?_,(hone 0).2 rfl⟩
  refine (Pth_rev (A := paOf k (revA k (plainP rs) [0])) (B := paOf k (plainP rs)) (fun x y a => (revA_row hok [0] y x a).symm)).2 ?_
  refine (plain_pth h h0 (by intro a ha; exact hk a (List.mem_reverse.1 ha))).2 ?_
  rw [hzr]
theorem fineF_id (f : Fu) (to : List Int) : ∀ (l : List Va) (p : List Va × List Nat),p.1.length = p.2.length → p.2 = List.range p.2.length → (fineF f to l p).2.Nodup → (fineF f to l p).2 = List.range (p.2.length + l.length)
 | [],p,h1,h2,_ => h2
 | v :: l,p,h1,h2,hn => by
  rw [fineF] at hn ⊢
  have hpre : ∀ (l : List Va) (q : List Va × List Nat),∃ t,(fineF f to l q).2 = q.2 ++ t := by
   intro l
   induction l with
   | nil => intro q; exact ⟨[],by simp [fineF]⟩
   | cons v l ih =>
    intro q
    rw [fineF]
    obtain ⟨t,ht⟩ := ih ((addV q.1 (mapV to v f)).1,q.2 ++ [(addV q.1 (mapV to v f)).2])
    exact ⟨_,by rw [ht]; simp; rfl⟩
  unfold addV at hn ⊢
  cases hi : idxV (mapV to v f) 0 p.1 with
  | some j =>
   exfalso
   rw [hi] at hn
   simp only at hn
   obtain ⟨_,hj,_,_⟩ := idxV_some hi
   rw [Nat.sub_zero] at hj
   obtain ⟨t,ht⟩ := hpre l (p.1,p.2 ++ [j])
   rw [ht] at hn
   have hn2 := (List.nodup_append.1 hn).1
   have hn3 := (List.nodup_append.1 hn2).2.2 j (by rw [h2]; exact List.mem_range.2 (by omega)) j (by simp)
   exact hn3 rfl
  | none =>
   rw [hi] at hn
   simp only at hn ⊢
   have := fineF_id f to l (p.1 ++ [mapV to v f],p.2 ++ [p.1.length]) (by simp [h1]) (by
    rw [List.length_append,List.length_singleton,List.range_succ,← h2,h1]) hn
   rw [this]
   simp only [List.length_append,List.length_cons,List.length_nil]
   congr 1; omega
theorem finer_id (s : Sy) (to : List Int) (h : (finer s to).Nodup) : finer s to = List.range s.m.length := by
 unfold finer at h ⊢
 have := fineF_id s.f to s.m ([],[]) rfl rfl h
 simpa using this
theorem cls_id {k : Nat} {rs : Dfa} (h : DOk k rs) (h0 : 0 < rs.length) (hd : ∀ i j,i < rs.length → j < rs.length → (∀ w : List Int,wordOk k w = true → outD rs (folD rs i w) = outD rs (folD rs j w)) → i = j) : clsR (sysD k rs) rs.length = List.range rs.length := by
 obtain ⟨n,hn⟩ : ∃ n,rs.length = n + 1 := ⟨rs.length - 1,by omega⟩
 have hl : (clsR (sysD k rs) rs.length).length = rs.length := by rw [clsR_len,sysD_m]
 have hnd : (clsR (sysD k rs) rs.length).Nodup := by
  rw [List.Nodup,List.pairwise_iff_getElem]
  intro i j hi hj hij e
  have := hd i j (by omega) (by omega) ((cls_all h (by omega) (by omega)).1 (by rw [List.getElem?_eq_getElem hi,List.getElem?_eq_getElem hj,e]))
  omega
 have e : clsR (sysD k rs) rs.length = finer (sysD k rs) (toZ (clsR (sysD k rs) n)) := by rw [hn,clsR]
 rw [e] at hnd ⊢
 rw [finer_id _ _ hnd,sysD_m]
theorem brz {k : Nat} {ps : Aut} (hps : AuOk k ps) {l : List Int} (vl : VS ps.length l) {rs1 rs2 : Dfa} {res1 res2 : List (List Int) × List (List Nat)}
  (hr1 : reachR k (revA k ps l) 102 0 [lN ps.length (paOf k ps).F] [] = some res1) (h1 : res1.1.length ≤ 100) (e1 : rs1 = rowsR (revA k ps l) res1.1 res1.2) (ok1 : ROk k (revA k ps l) res1)
  (hr2 : reachR k (revA k (plainP rs1) [0]) 102 0 [lN (plainP rs1).length (paOf k (plainP rs1)).F] [] = some res2) (h2 : res2.1.length ≤ 100) (e2 : rs2 = rowsR (revA k (plainP rs1) [0]) res2.1 res2.2) (ok2 : ROk k (revA k (plainP rs1) [0]) res2) :
  DOk k rs1 ∧ DOk k rs2 ∧ 0 < rs1.length ∧ 0 < rs2.length ∧ clsR (sysD k rs2) rs2.length = List.range rs2.length ∧ ∀ w,wordOk k w = true → outD rs2 (folD rs2 0 w) = endsB (paOf k ps).F (runB (paOf k ps) (toS l) w) := by
 have hR1 := revA_ok hps l
 have v1 : VS (revA k ps l).length (lN ps.length (paOf k ps).F) := by rw [revA_len]; exact lN_vs hps.len _
 obtain ⟨d1,l1,n1⟩ := det_dok hr1 h1
 obtain ⟨z1,u1,a1⟩ := det_reached hR1 v1 hr1 h1 ok1.vs
 rw [← e1] at d1 l1 n1 a1
 have p1 : 0 < rs1.length := by rw [l1]; exact (List.getElem?_eq_some_iff.1 z1).1
 have hP := plainP_ok hps.kpos hps.kle d1
 have hR2 := revA_ok hP [0]
 have v2 : VS (revA k (plainP rs1) [0]).length (lN (plainP rs1).length (paOf k (plainP rs1)).F) := by rw [revA_len]; exact lN_vs hP.len _
 obtain ⟨d2,l2,n2⟩ := det_dok hr2 h2
 obtain ⟨z2,u2,a2⟩ := det_reached hR2 v2 hr2 h2 ok2.vs
 rw [← e2] at d2 l2 n2 a2
 have p2 : 0 < rs2.length := by rw [l2]; exact (List.getElem?_eq_some_iff.1 z2).1
 have out2 : ∀ (w : List Int) (i : Nat) (x : List Int),wordOk k w = true → res2.1[i]? = some x → outD rs2 (folD rs2 i w) = (toS x).has (folD rs1 0 w.reverse) := by
  intro w i x hw hx
  rw [det_acc hR2 ok2.vs n2 w i x hw hx,plain_rev hps.kpos hps.kle d1 p1 (toS x) hw]
 refine ⟨d1,d2,p1,p2,cls_id d2 p2 fun i j hi hj hall => ?_,fun w hw => ?_⟩
 ·have hi2 : i < res2.1.length := by omega
  have hj2 : j < res2.1.length := by omega
  have vi := ok2.vs _ (List.getElem_mem hi2)
  have vj := ok2.vs _ (List.getElem_mem hj2)
  have hset : ∀ q,q < rs1.length → (toS res2.1[i]).has q = (toS res2.1[j]).has q := by
   intro q hq
   obtain ⟨w,w1,w2⟩ := a1 q (by omega)
   have hwr : wordOk k w.reverse = true := by unfold wordOk at w1 ⊢; rw [List.all_reverse]; exact w1
   have := hall w.reverse hwr
   rw [out2 _ i _ hwr (List.getElem?_eq_getElem hi2),out2 _ j _ hwr (List.getElem?_eq_getElem hj2),List.reverse_reverse,w2] at this
   exact this
  have hlen : (revA k (plainP rs1) [0]).length = rs1.length := by rw [revA_len,plainP_len]
  have hn := d1.len
  have heq : toS res2.1[i] = toS res2.1[j] := by
   refine BS.ext fun q hq => ?_
   by_cases hl : q < rs1.length
   ·exact hset q hl
   ·have f1 : (toS res2.1[i]).has q = false := by
     cases hc : (toS res2.1[i]).has q with
     | false => rfl
     | true => have := toS_lt (n := rs1.length) (by omega) (hlen ▸ vi.below) q (mem_list.2 hc); omega
    have f2 : (toS res2.1[j]).has q = false := by
     cases hc : (toS res2.1[j]).has q with
     | false => rfl
     | true => have := toS_lt (n := rs1.length) (by omega) (hlen ▸ vj.below) q (mem_list.2 hc); omega
    rw [f1,f2]
  have heq2 := toS_inj vi vj heq
  exact (List.getElem?_inj hi2 u2).1 (by rw [List.getElem?_eq_getElem hi2,List.getElem?_eq_getElem hj2,heq2])
 ·have hwr : wordOk k w.reverse = true := by unfold wordOk at hw ⊢; rw [List.all_reverse]; exact hw
  have hlt : folD rs1 0 w.reverse < rs1.length := by
   have : ∀ (w : List Int) (i : Nat),wordOk k w = true → i < rs1.length → folD rs1 i w < rs1.length := by
    intro w
    induction w with
    | nil => intro i _ hi; exact hi
    | cons a w ih =>
     intro i hok hi
     unfold wordOk at hok
     rw [List.all_cons,Bool.and_eq_true] at hok
     have ha : 0 ≤ a ∧ a < k := by simpa using hok.1
     exact ih _ hok.2 (d1.next hi (by omega))
   exact this _ 0 hwr p1
  rw [out2 w 0 _ hw z2,toS_lN hP.len (F_full hP),plain_F d1 hlt,det_acc hR1 ok1.vs n1 w.reverse 0 _ hwr z1,rev_acc hps vl]
end Go.Ab.Tab
