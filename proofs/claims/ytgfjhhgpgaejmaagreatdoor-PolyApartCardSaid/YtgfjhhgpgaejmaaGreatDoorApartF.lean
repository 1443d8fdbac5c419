/- Functors: polynomial ones (reference and program), equality of the program. -/
import Derived.Test.YtgfjhhgpgaejmaaGreatDoorApartE
namespace Go.Ab.Tab
open Go Go.Ab
set_option maxRecDepth 10000
set_option linter.unusedVariables false
set_option linter.unusedSimpArgs false
mutual
def hasF (p : Int → Bool) : Fu → Bool
 | .mk k _ gs => p k || hasFs p gs
def hasFs (p : Int → Bool) : List Fu → Bool
 | [] => false
 | f :: l => hasF p f || hasFs p l
end
def polyF (f : Fu) : Bool := !hasF sets f
theorem l78_0 (D : Nat) (k n : Int) (gs : List Fu) (hs : sets k = false) (Q : St → Prop) (K : List AI) (S) (τ ω) (h2 : τ 2 = .ptr D 2 1 0) (h9 : τ 9 = .sl 1 [.int .i64 5,.int .i64 6,.int .i64 7] .no) (h10 : τ 10 = .int .i64 3) (h11 : τ 11 = .int .i64 0)
  (w2 : ω 2 = (1,.cells [.int .i64 k,.int .i64 n,.sl 3 (gs.map encF) .no]))
  (hk : ∀ τ',(∀ t,t ≤ 5 → τ' t = τ t) → Rd (Loc Pg Gl) .im Q K (stF 31 D τ' ω S)) :
  Rd (Loc Pg Gl) .im Q (.lp c78_l0 :: .blk 0 :: K) (stF 31 D τ ω S) := by
 have h5 : k ≠ 5 ∧ k ≠ 6 ∧ k ≠ 7 := by
  unfold sets wtd at hs
  simp at hs
  omega
 refine Rd_lpE c78_l0.eq_1 ?_
 simp [h2,h9,h10,h11,w2,h5]
 refine Rd_lpE c78_l0.eq_1 ?_
 simp [h2,h9,h10,w2,h5,show IntKind.i64.wrap 1 = 1 from rfl]
 refine Rd_lpE c78_l0.eq_1 ?_
 simp [h2,h9,h10,w2,h5,show IntKind.i64.wrap 1 = 1 from rfl,show IntKind.i64.wrap 2 = 2 from rfl]
 refine Rd_lpE c78_l0.eq_1 ?_
 simp [h2,h9,h10,w2,h5,show IntKind.i64.wrap 2 = 2 from rfl,show IntKind.i64.wrap 3 = 3 from rfl]
 refine hk _ fun t ht => ?_
 simp [show t ≠ 19 by omega,show t ≠ 18 by omega,show t ≠ 17 by omega,show t ≠ 16 by omega,show t ≠ 15 by omega,show t ≠ 14 by omega,show t ≠ 13 by omega,show t ≠ 12 by omega,show t ≠ 11 by omega,show t ≠ 6 by omega]
def kinds3 : AV := .sl 1 [.int .i64 5,.int .i64 6,.int .i64 7] .no
theorem l78_1 (D : Nat) (gs : List Fu) (hlen : gs.length ≤ maxLen) (hrec : ∀ a ∈ gs,∀ (D : Nat),Go.Ab.Loc Pg Gl D 78 [encF a,kinds3] [] (.bool (hasF sets a)) []) (S) : ∀ (j i : Nat) (τ ω) (r : AV),i + j = gs.length →
  τ 1 = kinds3 → τ 21 = .sl 3 (gs.map encF) .no → τ 22 = .int .i64 gs.length → τ 23 = .int .i64 i → r = .bool (hasFs sets (gs.drop i)) →
  Rd (Loc Pg Gl) .im (RetQ [.tmp 4] r S) [.lp c78_l1,.blk 2,.c c78_k0] (stF 31 D τ ω S) := by
 intro j
 induction j with
 | zero =>
  intro i τ ω r hi h1 h21 h22 h23 hr
  refine Rd_lpE c78_l1.eq_1 ?_
  obtain rfl : i = gs.length := by omega
  rw [List.drop_length,hasFs] at hr
  simp [h21,h22,h23,c78_k0,hr]
 | succ j ih =>
  intro i τ ω r hi h1 h21 h22 h23 hr
  refine Rd_lpE c78_l1.eq_1 ?_
  have hlt : i < gs.length := by omega
  have hwr := wrap_next hlt hlen
  have e : gs.drop i = gs[i] :: gs.drop (i + 1) := List.drop_eq_getElem_cons hlt
  rw [e,hasFs] at hr
  simp [h1,h21,h22,h23,hlt,encF_eta gs[i]]
  refine Rd_call (hrec gs[i] (List.getElem_mem hlt) _) (by simp [h1,kinds3,encF_eta gs[i]]) ?_
  cases hb : hasF sets gs[i] with
  | true =>
   rw [hb,Bool.true_or] at hr
   simp [hr]
  | false =>
   rw [hb,Bool.false_or] at hr
   simp [h21,h22,h23,hwr]
   refine ih (i + 1) _ _ r (by omega) ?_ ?_ ?_ ?_ hr
   all_goals simp [h1,h21,h22]
theorem spec78 : ∀ (f : Fu),fitF f → ∀ (D : Nat),Go.Ab.Loc Pg Gl D 78 [encF f,kinds3] [] (.bool (hasF sets f)) [] := by
 refine Fu.ind' fun k n gs hrec => ?_
 intro hfit D
 rw [fitF] at hfit
 refine loc_rd mixedP tok rfl rfl fun S => ?_
 unfold c78
 generalize hr : AV.bool (hasF sets (.mk k n gs)) = r
 rw [hasF] at hr
 rw [encF_mk]
 simp [kinds3]
 cases hs : sets k with
 | false =>
  rw [hs,Bool.false_or] at hr
  refine l78_0 D k n gs hs _ _ S _ _ (by simp) (by simp) (by simp) (by simp) (by simp) fun τ' ht => ?_
  simp [c78_k1,ht]
  refine l78_1 D gs hfit.1 (fun a ha D => hrec a ha (fitFs_mem hfit.2 a ha) D) S gs.length 0 _ _ r (by simp) ?_ ?_ ?_ ?_ (by rw [← hr]; simp)
  all_goals simp [ht,kinds3]
 | true =>
  rw [hs,Bool.true_or] at hr
  rcases sets_k hs with rfl | rfl | rfl
  ·refine Rd_lpE c78_l0.eq_1 ?_
   simp [← hr]
  ·refine Rd_lpE c78_l0.eq_1 ?_
   simp
   refine Rd_lpE c78_l0.eq_1 ?_
   simp [show IntKind.i64.wrap 1 = 1 from rfl,← hr]
  ·refine Rd_lpE c78_l0.eq_1 ?_
   simp
   refine Rd_lpE c78_l0.eq_1 ?_
   simp [show IntKind.i64.wrap 1 = 1 from rfl]
   refine Rd_lpE c78_l0.eq_1 ?_
   simp [show IntKind.i64.wrap 1 = 1 from rfl,show IntKind.i64.wrap 2 = 2 from rfl,← hr]
theorem spec44 (f : Fu) (hf : fitF f) (D : Nat) : Go.Ab.Loc Pg Gl D 44 [encF f] [] (.bool (polyF f)) [] := by
 refine loc_rd mixedP tok rfl rfl fun S => ?_
 unfold c44
 rw [encF_eta f]
 simp
 refine Rd_call (spec78 f hf _) (by simp [encF_eta f,kinds3]) ?_
 simp [polyF]
def ge5 (k : Int) : Bool := decide (5 ≤ k)
theorem spec101 (k : Int) (D : Nat) : Go.Ab.Loc Pg Gl D 101 [.int .i64 k] [] (.bool (ge5 k)) [] := by
 refine loc_rd mixedP tok rfl rfl fun S => ?_
 unfold c101
 simp [ge5]
def ixF (p : Int → Bool) : Nat → List Fu → Int
 | _,[] => -1
 | i,f :: l => if hasF p f then (i : Int) else ixF p (i + 1) l
theorem ixF_has (p : Int → Bool) : ∀ (l : List Fu) (i : Nat),decide (0 ≤ ixF p i l) = hasFs p l
 | [],i => by rw [ixF,hasFs]; rfl
 | f :: l,i => by
  rw [ixF,hasFs]
  cases hasF p f with
  | true => simp
  | false => simpa using ixF_has p l (i + 1)
theorem l132b (D : Nat) (gs : List Fu) (hlen : gs.length ≤ maxLen) (d' o g : Nat) (hd : d' < D) (hrec : ∀ a ∈ gs,∀ (D : Nat),d' < D → Go.Ab.Loc Pg Gl D 123 [encF a,.ptr d' o g 0] [(d',o,(g,.cells [.fn 101 []]))] (.bool (hasF ge5 a)) []) (S) (hS : S d' o = (g,.cells [.fn 101 []])) :
  ∀ (j i : Nat) (τ ω) (r : AV),i + j = gs.length →
  τ 0 = .sl 3 (gs.map encF) .no → τ 1 = .fn 123 [.ptr d' o g 0] → τ 7 = .int .i64 gs.length → τ 8 = .int .i64 i → r = .int .i64 (ixF ge5 i (gs.drop i)) →
  Rd (Loc Pg Gl) .im (RetM [.tmp 4] r D S []) [.lp c132_l0,.blk 0,.c c132_k0] (stF 19 D τ ω S) := by
 intro j
 induction j with
 | zero =>
  intro i τ ω r hi h0 h1 h7 h8 hr
  refine Rd_lpE c132_l0.eq_1 ?_
  obtain rfl : i = gs.length := by omega
  rw [List.drop_length,ixF] at hr
  simp [h7,h8,c132_k0,hr]
 | succ j ih =>
  intro i τ ω r hi h0 h1 h7 h8 hr
  refine Rd_lpE c132_l0.eq_1 ?_
  have hlt : i < gs.length := by omega
  have hwr := wrap_next hlt hlen
  have e : gs.drop i = gs[i] :: gs.drop (i + 1) := List.drop_eq_getElem_cons hlt
  rw [e,ixF] at hr
  simp [h0,h1,h7,h8,hlt,encF_eta gs[i]]
  refine Rd_callvM (cap := [.ptr d' o g 0]) (hrec gs[i] (List.getElem_mem hlt) _ (by omega)) (by simp [h1]) (by simp [h1,encF_eta gs[i]]) ?_ (by simp) ?_
  ·intro m hm
   rw [List.mem_singleton] at hm; subst hm
   refine ⟨by simp; omega,fun e => by simp at e; omega,?_⟩
   rw [stF_look,if_neg (by simp; omega)]; exact hS
  cases hb : hasF ge5 gs[i] with
  | true =>
   rw [hb,if_pos rfl] at hr
   simp [h8,hr]
  | false =>
   rw [hb] at hr
   simp [h8,hwr]
   refine ih (i + 1) _ _ r (by omega) ?_ ?_ ?_ ?_ (by simpa using hr)
   all_goals simp [h0,h1,h7]
def Spec100 (a : Fu) : Prop := ∀ (D : Nat),Go.Ab.Loc Pg Gl D 100 [encF a,.fn 101 []] [] (.bool (hasF ge5 a)) []
theorem spec123 (a : Fu) (h : Spec100 a) (D d' o g : Nat) (hd : d' < D) : Go.Ab.Loc Pg Gl D 123 [encF a,.ptr d' o g 0] [(d',o,(g,.cells [.fn 101 []]))] (.bool (hasF ge5 a)) [] := by
 refine loc_rdM mixedP tok rfl rfl fun S hS => ?_
 have hS := (hS _ (List.mem_singleton.2 rfl)).2
 simp only at hS
 have hne : ¬ d' = D := by omega
 unfold c123
 rw [encF_eta a]
 simp [hne,hS]
 refine Rd_call (h _) (by simp [encF_eta a]) ?_
 simp
theorem spec132 (D : Nat) (gs : List Fu) (hlen : gs.length ≤ maxLen) (d' o g : Nat) (hd : d' < D) (hrec : ∀ a ∈ gs,Spec100 a) :
  Go.Ab.Loc Pg Gl D 132 [.sl 3 (gs.map encF) .no,.fn 123 [.ptr d' o g 0]] [(d',o,(g,.cells [.fn 101 []]))] (.int .i64 (ixF ge5 0 gs)) [] := by
 refine loc_rdM mixedP tok rfl rfl fun S hS => ?_
 have hS := (hS _ (List.mem_singleton.2 rfl)).2
 simp only at hS
 unfold c132
 simp
 refine l132b D gs hlen d' o g hd (fun a ha D hd => spec123 a (hrec a ha) D d' o g hd) S hS gs.length 0 _ _ _ (by simp) ?_ ?_ ?_ ?_ (by simp)
 all_goals simp
theorem spec122 (D : Nat) (gs : List Fu) (hlen : gs.length ≤ maxLen) (d' o g : Nat) (hd : d' < D) (hrec : ∀ a ∈ gs,Spec100 a) :
  Go.Ab.Loc Pg Gl D 122 [.sl 3 (gs.map encF) .no,.fn 123 [.ptr d' o g 0]] [(d',o,(g,.cells [.fn 101 []]))] (.bool (hasFs ge5 gs)) [] := by
 refine loc_rdM mixedP tok rfl rfl fun S hS => ?_
 have hS := (hS _ (List.mem_singleton.2 rfl)).2
 simp only at hS
 unfold c122
 simp
 refine Rd_callM (spec132 (D + 1) gs hlen d' o g (by omega) hrec) (by simp) ?_ (by simp) ?_
 ·intro m hm
  rw [List.mem_singleton] at hm; subst hm
  refine ⟨by simp; omega,fun e => by simp at e; omega,?_⟩
  rw [stF_look,if_neg (by simp; omega)]; exact hS
 have := ixF_has ge5 gs 0
 simp [← this]
theorem spec100 : ∀ (f : Fu),fitF f → Spec100 f := by
 refine Fu.ind' fun k n gs hrec => ?_
 intro hfit D
 rw [fitF] at hfit
 refine loc_rd mixedP tok rfl rfl fun S => ?_
 unfold c100
 rw [encF_mk,hasF]
 simp
 refine Rd_callV (by simp) (spec101 k _) (by simp) ?_
 cases hk : ge5 k with
 | true => simp
 | false =>
  simp
  refine Rd_callM (spec122 (D + 1) gs hfit.1 D 3 1 (by omega) fun a ha => hrec a ha (fitFs_mem hfit.2 a ha)) (by simp) ?_ (by simp) ?_
  ·intro m hm
   rw [List.mem_singleton] at hm; subst hm
   simp
  simp
theorem ge5_sets {k : Int} (h0 : k ≤ 7) : ge5 k = sets k := by
 unfold ge5 sets wtd
 by_cases h : 5 ≤ k
 ·have : k = 5 ∨ k = 6 ∨ k = 7 := by omega
  rcases this with rfl | rfl | rfl <;> rfl
 ·simp [show ¬ 5 ≤ k from h,show ¬ k = 5 by omega,show ¬ k = 6 by omega,show ¬ k = 7 by omega]
theorem has_ge5 : ∀ (f : Fu),shapedF f = true → hasF ge5 f = hasF sets f := by
 refine Fu.ind' fun k n gs hrec => ?_
 intro hs
 obtain ⟨h1,_,_,h4⟩ := shaped_mk hs
 rw [hasF,hasF]
 have hk : k ≤ 7 := by
  unfold arK at h1
  by_cases h : k ≤ 7
  ·exact h
  ·rw [if_neg (by omega),if_neg (by omega),if_neg (by omega)] at h1; omega
 rw [ge5_sets hk]
 congr 1
 have hq : ∀ a ∈ gs,hasF ge5 a = hasF sets a := fun a ha => hrec a ha (h4 a ha)
 clear h1 h4 hs hrec
 induction gs with
 | nil => rfl
 | cons a l ih => rw [hasFs,hasFs,hq a (by simp),ih fun b hb => hq b (by simp [hb])]
theorem spec74 (f : Fu) (hf : fitF f) (D : Nat) : Go.Ab.Loc Pg Gl D 74 [encF f] [] (if isF f then .tup [.bool (polyF f),.int .i64 0] else .tup [.bool false,.int .i64 10]) [] := by
 refine loc_rd mixedP tok rfl rfl fun S => ?_
 unfold c74
 generalize hr : (if isF f then AV.tup [.bool (polyF f),.int .i64 0] else .tup [.bool false,.int .i64 10]) = r
 rw [encF_eta f]
 simp
 refine Rd_call (spec99 f hf _) (by simp [encF_eta f]) ?_
 cases hi : isF f with
 | false => simp [← hr,hi]
 | true =>
  simp
  refine Rd_call (spec100 f hf _) (by simp [encF_eta f]) ?_
  simp [← hr,hi,polyF,has_ge5 f (isF_shaped hi)]
def askF (f : Fu) : Int := if isF f then (if polyF f then 0 else 1) else 10
theorem spec41 (f : Fu) (hf : fitF f) (D : Nat) : Go.Ab.Loc Pg Gl D 41 [encF f] [] (.int .i64 (askF f)) [] := by
 refine loc_rd mixedP tok rfl rfl fun S => ?_
 unfold c41
 rw [encF_eta f]
 simp
 refine Rd_call (spec74 f hf _) (by simp [encF_eta f]) ?_
 unfold askF
 cases hi : isF f with
 | false => simp
 | true => cases hp : polyF f <;> simp
end Go.Ab.Tab
/- The program's functor.Same,value.Check,value.Same,slices.Clone,value.Copied,system.Both. -/
namespace Go.Ab.Tab
open Go Go.Ab
set_option maxRecDepth 10000
set_option linter.unusedVariables false
set_option linter.unusedSimpArgs false
theorem l90 (D : Nat) (gs hs : List Fu) (hlen : gs.length ≤ maxLen) (hl : hs.length = gs.length) (hrec : ∀ a ∈ gs,∀ (b : Fu) (D : Nat),Go.Ab.Loc Pg Gl D 57 [encF a,encF b] [] (.bool (eqF a b)) []) (S) : ∀ (j i : Nat) (τ ω) (r : AV),i + j = gs.length →
  τ 1 = .sl 3 (hs.map encF) .no → τ 2 = .fn 57 [] → τ 15 = .sl 3 (gs.map encF) .no → τ 16 = .int .i64 gs.length → τ 17 = .int .i64 i → r = .bool (eqFs (gs.drop i) (hs.drop i)) →
  Rd (Loc Pg Gl) .im (RetQ [.tmp 6] r S) [.lp c90_l0,.blk 0,.c c90_k0] (stF 32 D τ ω S) := by
 intro j
 induction j with
 | zero =>
  intro i τ ω r hi h1 h2 h15 h16 h17 hr
  refine Rd_lpE c90_l0.eq_1 ?_
  obtain rfl : i = gs.length := by omega
  rw [List.drop_length,← hl,List.drop_length,eqFs] at hr
  simp [h15,h16,h17,c90_k0,hr]
 | succ j ih =>
  intro i τ ω r hi h1 h2 h15 h16 h17 hr
  refine Rd_lpE c90_l0.eq_1 ?_
  have hlt : i < gs.length := by omega
  have hlh : i < hs.length := by omega
  have hwr := wrap_next hlt hlen
  rw [List.drop_eq_getElem_cons hlt,List.drop_eq_getElem_cons hlh,eqFs] at hr
  simp [h1,h2,h15,h16,h17,hlt,hlh,encF_eta gs[i],encF_eta hs[i]]
  refine Rd_callV (by simp [h2]) (hrec gs[i] (List.getElem_mem hlt) hs[i] _) (by simp [encF_eta gs[i],encF_eta hs[i]]) ?_
  cases hb : eqF gs[i] hs[i] with
  | false =>
   rw [hb,Bool.false_and] at hr
   simp [hr]
  | true =>
   rw [hb,Bool.true_and] at hr
   simp [h17,hwr]
   refine ih (i + 1) _ _ r (by omega) ?_ ?_ ?_ ?_ ?_ hr
   all_goals simp [h1,h2,h15,h16]
theorem spec57 : ∀ (f : Fu),fitF f → ∀ (g : Fu) (D : Nat),Go.Ab.Loc Pg Gl D 57 [encF f,encF g] [] (.bool (eqF f g)) [] := by
 refine Fu.ind' fun k n gs hrec => ?_
 intro hfit g D
 rw [fitF] at hfit
 have h90 : ∀ (D : Nat) (hs : List Fu),Go.Ab.Loc Pg Gl D 90 [.sl 3 (gs.map encF) .no,.sl 3 (hs.map encF) .no,.fn 57 []] [] (.bool (decide (gs.length = hs.length) && eqFs gs hs)) [] := by
  intro D hs
  refine loc_rd mixedP tok rfl rfl fun S => ?_
  unfold c90
  generalize hr : AV.bool (decide (gs.length = hs.length) && eqFs gs hs) = r
  simp
  by_cases hl : gs.length = hs.length
  ·rw [decide_eq_true hl,Bool.true_and] at hr
   simp [hl]
   refine l90 D gs hs hfit.1 hl.symm (fun a ha b D => hrec a ha (fitFs_mem hfit.2 a ha) b D) S gs.length 0 _ _ r (by simp) ?_ ?_ ?_ ?_ ?_ (by rw [← hr]; simp)
   all_goals simp [hl]
  ·rw [decide_eq_false hl,Bool.false_and] at hr
   simp [show ¬ ((gs.length : Int) = (hs.length : Int)) by omega,← hr]
 cases g with
 | mk k' n' hs =>
 refine loc_rd mixedP tok rfl rfl fun S => ?_
 unfold c57
 rw [encF_mk,encF_mk,eqF]
 by_cases h1 : k = k'
 ·by_cases h2 : n = n'
  ·simp [h1,h2]
   refine Rd_call (h90 _ hs) (by simp) ?_
   simp
  ·simp [h1,h2]
 ·simp [h1]
def fineN (f : Fu) (n : Int) : Int := if isF f then (if n < 0 ∨ 100 < n then 1 else 0) else 10
theorem spec109 (f : Fu) (hf : fitF f) (n : Int) (D : Nat) : Go.Ab.Loc Pg Gl D 109 [encF f,.int .i64 n] [] (.int .i64 (fineN f n)) [] := by
 refine loc_rd mixedP tok rfl rfl fun S => ?_
 unfold c109 fineN
 rw [encF_eta f]
 simp
 refine Rd_call (spec99 f hf _) (by simp [encF_eta f]) ?_
 cases hi : isF f with
 | false => simp
 | true =>
  by_cases h1 : n < 0
  ·simp [h1]
  ·by_cases h2 : 100 < n
   ·simp [h1,h2]
   ·simp [h1,h2]
def wholeN (f : Fu) (n : Int) (v : Va) : Int := if fineN f n = 0 then (if valV f n.toNat v then 0 else 20) else fineN f n
theorem spec83 (f : Fu) (hf : fitF f) (n : Int) (v : Va) (hv : fitV v) (D : Nat) : Go.Ab.Loc Pg Gl D 83 [encF f,.int .i64 n,encV v] [] (.int .i64 (wholeN f n v)) [] := by
 refine loc_rd mixedP tok rfl rfl fun S => ?_
 unfold c83 wholeN
 rw [encF_eta f,encV_eta v]
 simp
 refine Rd_call (spec109 f hf n _) (by simp [encF_eta f]) ?_
 by_cases h0 : fineN f n = 0
 ·rw [if_pos h0]
  have hh : isF f = true ∧ ∃ m : Nat,n = m ∧ m ≤ 100 := by
   unfold fineN at h0
   cases hi : isF f with
   | false => rw [hi] at h0; simp at h0
   | true =>
    rw [hi,if_pos rfl] at h0
    by_cases h : n < 0 ∨ 100 < n
    ·rw [if_pos h] at h0; cases h0
    ·exact ⟨rfl,n.toNat,by omega,by omega⟩
  obtain ⟨hi,m,rfl,hm⟩ := hh
  simp [h0]
  refine Rd_call (spec95 f (isF_shaped hi) m (by omega) v hv _) (by simp [encF_eta f,encV_eta v]) ?_
  by_cases hv' : valV f m v = true
  ·simp [hv']
  ·simp [hv',Bool.eq_false_iff.2 hv']
 ·rw [if_neg h0]
  simp [h0]
theorem spec49 (f : Fu) (hf : fitF f) (n : Int) (v : Va) (hv : fitV v) (D : Nat) : Go.Ab.Loc Pg Gl D 49 [encF f,.int .i64 n,encV v] [] (.int .i64 (wholeN f n v)) [] := by
 refine loc_rd mixedP tok rfl rfl fun S => ?_
 unfold c49
 rw [encF_eta f,encV_eta v]
 simp
 refine Rd_call (spec83 f hf n v hv _) (by simp [encF_eta f,encV_eta v]) ?_
 simp
theorem spec58 (u v : Va) (hu : fitV u) (D : Nat) : Go.Ab.Loc Pg Gl D 58 [encV u,encV v] [] (.bool (decide (cmpV u v = 0))) [] := by
 refine loc_rd mixedP tok rfl rfl fun S => ?_
 unfold c58
 rw [encV_eta u,encV_eta v]
 simp
 refine Rd_call (spec91 u hu v _) (by simp [encV_eta u,encV_eta v]) ?_
 simp
theorem spec125 (ws : List Int) (hl : ws.length ≤ 2 ^ 32) (D : Nat) : Go.Ab.Loc Pg Gl D 125 [.sl 1 (ws.map (AV.int .i64)) .no] [] (.sl 1 (ws.map (AV.int .i64)) .tip) [] := by
 refine loc_rdM mixedP tok rfl rfl fun S hS => ?_
 unfold c125
 cases ws with
 | nil => simp
 | cons v gs =>
  have : (gs.length + 1) * 8 ≤ 1099511627776 := by simp at hl; omega
  simp [this]
theorem spec103 (gs : List Va) (hl : gs.length ≤ 2 ^ 32) (D : Nat) : Go.Ab.Loc Pg Gl D 103 [.sl 3 (gs.map encV) .no] [] (.sl 3 (gs.map encV) .tip) [] := by
 refine loc_rdM mixedP tok rfl rfl fun S hS => ?_
 unfold c103
 cases gs with
 | nil => simp
 | cons v gs =>
  have : (gs.length + 1) * 56 ≤ 1099511627776 := by simp at hl; omega
  simp [this,encV_eta v]
theorem lightVs_mem {m : Nat} : ∀ {l : List Va},lightVs m l = true → ∀ a ∈ l,lightV m a = true
 | [],_,a,ha => by cases ha
 | b :: l,h,a,ha => by
  rw [lightVs,Bool.and_eq_true] at h
  rcases List.mem_cons.1 ha with rfl | ha
  ·exact h.1
  ·exact lightVs_mem h.2 a ha
theorem l104b (D : Nat) (n : Int) (gs : List Va) (hvl : gs.length ≤ 2 ^ 30) (hrec : ∀ a ∈ gs,∀ (D : Nat),Go.Ab.Loc Pg Gl D 104 [encV a] [] (encV a) []) (S) : ∀ (j i : Nat) (acc : List Va) (tp : Tip) (τ ω) (r : AV),i + j = gs.length → acc.length = i → (tp = .tip ∨ tp = .nil) →
  τ 2 = .ptr D 2 1 0 → τ 3 = .ptr D 3 1 0 → τ 13 = .sl 3 (gs.map encV) .no → τ 14 = .int .i64 gs.length → τ 15 = .int .i64 i →
  ω 2 = (1,.cells [.int .i64 0,.sl 3 [] .tip,.sl 1 [] .tip]) → (∃ tw,ω 3 = (1,.cells [.int .i64 n,.sl 3 (acc.map encV) tp,.sl 1 [] tw])) → r = encV (.mk n (acc ++ gs.drop i) []) →
  Rd (Loc Pg Gl) .im (RetQ [.cell 2 true 3] r S) [.lp c104_l0,.blk 0,.c c104_k0] (stF 28 D τ ω S) := by
 intro j
 induction j with
 | zero =>
  intro i acc tp τ ω r hi hal htp h2 h3 h13 h14 h15 w2 w3 hr
  obtain ⟨tw,w3⟩ := w3
  refine Rd_lpE c104_l0.eq_1 ?_
  obtain rfl : i = gs.length := by omega
  rw [List.drop_length,List.append_nil,encV_mk] at hr
  rcases htp with rfl | rfl <;> cases tw <;> simp [h2,h3,h13,h14,h15,w2,w3,c104_k0,hr]
 | succ j ih =>
  intro i acc tp τ ω r hi hal htp h2 h3 h13 h14 h15 w2 w3 hr
  obtain ⟨tw,w3⟩ := w3
  refine Rd_lpE c104_l0.eq_1 ?_
  have hlt : i < gs.length := by omega
  have hwr := wrap_next hlt (by unfold maxLen; omega)
  have hle : (i + 1) * 56 ≤ 1099511627776 := by omega
  have htp' : (tp = .nil ∨ tp = .tip) = True := by simp; exact htp.symm
  rw [List.drop_eq_getElem_cons hlt] at hr
  simp [h2,h3,h13,h14,h15,w2,w3,hlt,encV_eta gs[i]]
  refine Rd_drCall (hrec gs[i] (List.getElem_mem hlt) _) (by simp [encV_eta gs[i]]) ?_
  simp [h3,w3,htp,htp',hal,hle,h15,hwr,encV_eta gs[i]]
  refine ih (i + 1) (acc ++ [gs[i]]) .tip _ _ r (by omega) (by simp [hal]) (.inl rfl) ?_ ?_ ?_ ?_ ?_ ?_ ⟨tw,?_⟩ (by rw [hr,List.append_assoc]; rfl)
  all_goals simp [h2,h3,h13,h14,w2,encV_eta gs[i]]
theorem spec104 : ∀ (v : Va),nodesV v ≤ 2 ^ 30 → lightV 0 v = true → ∀ (D : Nat),Go.Ab.Loc Pg Gl D 104 [encV v] [] (encV v) [] := by
 refine Va.ind' fun a gs ws hrec => ?_
 intro hnod hl D
 rw [nodesV] at hnod
 rw [lightV,Bool.and_eq_true,decide_eq_true_eq] at hl
 obtain rfl : ws = [] := List.eq_nil_of_length_eq_zero (by omega)
 have hgl := nodesVs_len gs
 refine loc_rd mixedP tok rfl rfl fun S => ?_
 unfold c104
 rw [encV_mk]
 have h125 := spec125 [] (by simp) (D + 1)
 simp at h125
 simp
 refine Rd_drCall h125 (by simp) ?_
 simp
 refine l104b D a gs (by omega) (fun b hb D => hrec b hb (by have := nodesVs_le hb; omega) (lightVs_mem hl.1 b hb) D) S gs.length 0 [] .tip _ _ _ (by omega) rfl (.inl rfl) ?_ ?_ ?_ ?_ ?_ ?_ ⟨.no,?_⟩ (by rw [encV_mk]; simp)
 all_goals simp
end Go.Ab.Tab
/- Values of polynomial functors: their states,and values with other states,in plain Lean. -/
namespace Go.Ab.Tab
open Go Go.Ab
set_option maxRecDepth 10000
set_option linter.unusedVariables false
set_option linter.unusedSimpArgs false
mutual
def leavesV : Va → Fu → List Int
 | .mk a gs ws,f => if f.k = 0 then [a] else leavesVs gs (partsF f (.mk a gs ws))
def leavesVs : List Va → List Fu → List Int
 | [],_ => []
 | _ :: _,[] => []
 | v :: l,f :: fs => leavesV v f ++ leavesVs l fs
end
mutual
def fillV (h : Nat → Int) : Nat → Va → Fu → Va
 | c,.mk a gs ws,f => if f.k = 0 then .mk (h c) [] [] else .mk a (fillVs h c gs (partsF f (.mk a gs ws))) []
def fillVs (h : Nat → Int) : Nat → List Va → List Fu → List Va
 | _,[],_ => []
 | _,_ :: _,[] => []
 | c,v :: l,f :: fs => fillV h c v f :: fillVs h (c + (leavesV v f).length) l fs
end
theorem leavesV_eta (v : Va) (f : Fu) : leavesV v f = if f.k = 0 then [v.n] else leavesVs v.gs (partsF f v) := by cases v; rw [leavesV]; rfl
theorem fillV_eta (h : Nat → Int) (c : Nat) (v : Va) (f : Fu) : fillV h c v f = if f.k = 0 then .mk (h c) [] [] else .mk v.n (fillVs h c v.gs (partsF f v)) [] := by cases v; rw [fillV]; rfl
mutual
theorem leavesV_le : ∀ (v : Va) (f : Fu),(leavesV v f).length ≤ nodesV v
 | .mk a gs ws,f => by
  rw [leavesV,nodesV]
  split
  ·simp
  ·have := leavesVs_le gs (partsF f (.mk a gs ws)); omega
theorem leavesVs_le : ∀ (l : List Va) (fs : List Fu),(leavesVs l fs).length ≤ nodesVs l
 | [],_ => by rw [leavesVs]; simp
 | v :: l,[] => by rw [leavesVs]; simp
 | v :: l,f :: fs => by
  rw [leavesVs,nodesVs,List.length_append]
  have := leavesV_le v f
  have := leavesVs_le l fs
  omega
end
theorem fillVs_len (h : Nat → Int) : ∀ (c : Nat) (l : List Va) (fs : List Fu),l.length ≤ fs.length → (fillVs h c l fs).length = l.length
 | _,[],_,_ => by rw [fillVs]
 | _,v :: l,[],hl => by simp at hl
 | c,v :: l,f :: fs,hl => by rw [fillVs,List.length_cons,List.length_cons,fillVs_len h _ l fs (by simpa using hl)]
theorem poly_sets {f : Fu} (h : polyF f = true) : sets f.k = false := by
 cases f with
 | mk k n gs =>
  unfold polyF at h
  rw [hasF] at h
  simp only [Fu.k]
  cases hs : sets k with
  | false => rfl
  | true => rw [hs] at h; simp at h
theorem hasFs_mem {p : Int → Bool} : ∀ {l : List Fu},hasFs p l = false → ∀ a ∈ l,hasF p a = false
 | [],_,a,ha => by cases ha
 | b :: l,h,a,ha => by
  rw [hasFs,Bool.or_eq_false_iff] at h
  rcases List.mem_cons.1 ha with rfl | ha
  ·exact h.1
  ·exact hasFs_mem h.2 a ha
theorem poly_gs {f : Fu} (h : polyF f = true) : ∀ a ∈ f.gs,polyF a = true := by
 cases f with
 | mk k n gs =>
  unfold polyF at h
  rw [hasF] at h
  intro a ha
  have : hasFs sets gs = false := by
   cases hs : hasFs sets gs with
   | false => rfl
   | true => rw [hs] at h; simp at h
  unfold polyF
  rw [hasFs_mem this a ha]; rfl
theorem partsF_mem {f : Fu} (hf : shapedF f = true) (v : Va) : ∀ a ∈ partsF f v,a ∈ f.gs := by
 intro a ha
 cases f with
 | mk k n gs =>
  obtain ⟨h1,_,_,_⟩ := shaped_mk hf
  rw [partsF_mk] at ha
  have rep : ∀ m,(gs.length : Int) = 1 → a ∈ List.replicate m (gs.headD (.mk 0 0 [])) → a ∈ gs := by
   intro m hg ha
   obtain ⟨_,rfl⟩ := List.mem_replicate.1 ha
   cases gs with
   | nil => simp at hg
   | cons b l => simp
  unfold arK at h1
  split at ha
  ·cases ha
  ·split at ha
   ·exact ha
   ·split at ha
    ·split at ha
     ·cases ha
     ·exact List.mem_of_mem_drop (List.mem_of_mem_take ha)
    ·rename_i q0 q2 q3
     have hg : (gs.length : Int) = 1 := by
      rw [if_neg q0] at h1
      by_cases h : k = 4 ∨ k = 5 ∨ k = 6 ∨ k = 7
      ·rw [if_pos h] at h1; exact h1
      ·rw [if_neg h,if_neg (by omega)] at h1; omega
     split at ha
     ·exact rep _ hg ha
     ·exact rep _ hg ha
theorem poly_parts {f : Fu} (hf : shapedF f = true) (h : polyF f = true) (v : Va) : ∀ a ∈ partsF f v,polyF a = true := fun a ha => poly_gs h a (partsF_mem hf v a ha)
theorem valN_poly {n : Nat} {v : Va} {f : Fu} (hf : shapedF f = true) (hp : polyF f = true) (h : valN n v f = true) :
  v.ws = [] ∧ (partsF f v).length = v.gs.length ∧ valNs n v.gs (partsF f v) = true ∧
  ((
   f.k = 0 ∧ 0 ≤ v.n ∧ v.n < n ∧ v.gs = []) ∨ (f.k = 1 ∧ 0 ≤ v.n ∧ v.n < f.n ∧ v.gs = []) ∨ (f.k = 2 ∧ v.n = 0 ∧ ∃ a b g1 g2,v.gs = [a,b] ∧ f.gs = [g1,g2]) ∨
   (f.k = 3 ∧ ∃ a g1 g2,v.gs = [a] ∧ f.gs = [g1,g2] ∧ (v.n = 0 ∨ v.n = 1)) ∨ (f.k = 4 ∧ v.n = 0 ∧ 1 ≤ f.n ∧ f.n ≤ 4 ∧ v.gs.length = f.n.toNat ∧ ∃ g,f.gs = [g])) := by
 rw [valN_eta] at h
 simp only [Bool.and_eq_true] at h
 obtain ⟨hok,hset,hvs⟩ := h
 have hsets := poly_sets hp
 unfold okV at hok
 simp only [Bool.and_eq_true] at hok
 obtain ⟨hpo,hnum,hw⟩ := hok
 have hws : v.ws = [] := by
  unfold weighedR at hw
  have : wtd f.k = false := by
   unfold sets at hsets
   rw [Bool.or_eq_false_iff] at hsets; exact hsets.2
  rw [this] at hw
  simp at hw
  exact hw
 have hpo' := hpo
 unfold partsOk at hpo'
 simp only [Bool.and_eq_true,Bool.not_eq_true',decide_eq_true_eq] at hpo'
 obtain ⟨hp1,hpl⟩ := hpo'
 refine ⟨hws,hpl,hvs,?_⟩
 have hk : f.k = 0 ∨ f.k = 1 ∨ f.k = 2 ∨ f.k = 3 ∨ f.k = 4 := by
  cases f with
  | mk k n gs =>
   obtain ⟨h1,_,_,_⟩ := shaped_mk hf
   simp only [Fu.k]
   unfold sets wtd at hsets
   simp only [Fu.k,Bool.or_eq_false_iff,decide_eq_false_iff_not] at hsets
   obtain ⟨hs5,hs6,hs7⟩ := hsets
   have hs5 := of_decide_eq_false hs5
   have hs6 := of_decide_eq_false hs6
   have hs7 := of_decide_eq_false hs7
   unfold arK at h1
   by_cases q0 : k = 0 ∨ k = 1
   ·omega
   ·rw [if_neg q0] at h1
    by_cases q1 : k = 4 ∨ k = 5 ∨ k = 6 ∨ k = 7
    ·omega
    ·rw [if_neg q1] at h1
     by_cases q2 : k = 2 ∨ k = 3
     ·omega
     ·rw [if_neg q2] at h1; omega
 cases f with
 | mk k m gs =>
 obtain ⟨h1,h2,h3,_⟩ := shaped_mk hf
 simp only [Fu.k,Fu.n,Fu.gs] at hk hpl ⊢
 rw [partsF_mk] at hpl
 unfold numOk at hnum
 simp only [Fu.k,Fu.n,Bool.and_eq_true,decide_eq_true_eq] at hnum
 rcases hk with rfl | rfl | rfl | rfl | rfl
 ·left
  simp at hnum hpl
  exact ⟨rfl,hnum.1,by omega,List.eq_nil_of_length_eq_zero hpl.symm⟩
 ·right; left
  simp at hnum hpl
  exact ⟨rfl,hnum.1,by omega,List.eq_nil_of_length_eq_zero hpl.symm⟩
 ·right; right; left
  simp [arK] at h1 hpl hnum
  refine ⟨rfl,by omega,?_⟩
  obtain ⟨g1,g2,rfl⟩ : ∃ g1 g2,gs = [g1,g2] := by
   match gs,h1 with
   | [g1,g2],_ => exact ⟨g1,g2,rfl⟩
  have : v.gs.length = 2 := by simpa using hpl.symm
  match hv : v.gs,this with
  | [a,b],_ => exact ⟨a,b,g1,g2,rfl,rfl⟩
 ·right; right; right; left
  simp [arK] at h1 hnum
  refine ⟨rfl,?_⟩
  obtain ⟨g1,g2,rfl⟩ : ∃ g1 g2,gs = [g1,g2] := by
   match gs,h1 with
   | [g1,g2],_ => exact ⟨g1,g2,rfl⟩
  have hn : v.n = 0 ∨ v.n = 1 := by omega
  have : v.gs.length = 1 := by
   rcases hn with e | e <;> simp [e] at hpl <;> exact hpl.symm
  match hv : v.gs,this with
  | [a],_ => exact ⟨a,g1,g2,rfl,rfl,hn⟩
 ·right; right; right; right
  simp [arK,mostK] at h1 h2 h3 hpl hnum
  refine ⟨rfl,by omega,by omega,by omega,hpl.symm,?_⟩
  match gs,h1 with
  | [g],_ => exact ⟨g,rfl⟩
end Go.Ab.Tab
/- The program's value.Mapped with a function that counts. -/
namespace Go.Ab.Tab
open Go Go.Ab
set_option maxRecDepth 10000
set_option linter.unusedVariables false
set_option linter.unusedSimpArgs false
theorem hM_of {M : List (Nat × Nat × Ent)} {n D : Nat} {τ : Nat → AV} {ω : Nat → Ent} {S : Nat → Nat → Ent} (h : ∀ m ∈ M,m.1 < D ∧ S m.1 m.2.1 = m.2.2) :
  ∀ m ∈ M,m.1 ≤ D ∧ (m.1 = D → m.2.1 < n) ∧ (stF n D τ ω S).look m.1 m.2.1 = m.2.2 := by
 intro m hm
 obtain ⟨h1,h2⟩ := h m hm
 refine ⟨by omega,fun e => by omega,?_⟩
 rw [stF_look,if_neg (by omega)]; exact h2
abbrev cE (x : Int) : Ent := (1,.cells [.int .i64 x])
structure Clo (F : FuncId) (cap : List AV) (d0 k : Nat) (M0 : List (Nat × Nat × Ent)) (cnt val : Nat → Int) (N : Nat) : Prop where
 fy : F ≠ yid
 call : ∀ D c,d0 < D → c < N → Go.Ab.Loc Pg Gl D F cap ((d0,k,cE (cnt c)) :: M0) (.int .i64 (val c)) [(d0,k,cE (cnt (c + 1)))]
 m0 : ∀ m ∈ M0,m.1 = d0 ∧ m.2.1 ≠ k
 strip : cap.map AV.strip = cap
 clean : ∀ a ∈ cap,a.dem = a ∧ a.upto (d0 + 1) 19 = true
section
variable {F : FuncId} {cap : List AV} {d0 k : Nat} {M0 : List (Nat × Nat × Ent)} {cnt val : Nat → Int} {N : Nat}
def Mc (F : FuncId) (cap : List AV) (d0 k : Nat) (M0 : List (Nat × Nat × Ent)) (x : Int) : List (Nat × Nat × Ent) := (d0,k,cE x) :: (d0 + 1,5,((1,.cells [.fn F cap]) : Ent)) :: M0
theorem Mc_upd (h : Clo F cap d0 k M0 cnt val N) {x y : Int} {D : Nat} {S : Nat → Nat → Ent} (hS : ∀ m ∈ Mc F cap d0 k M0 x,m.1 < D ∧ S m.1 m.2.1 = m.2.2) :
  ∀ m ∈ Mc F cap d0 k M0 y,m.1 < D ∧ updS S d0 k (cE y) m.1 m.2.1 = m.2.2 := by
 intro m hm
 unfold Mc at hm hS
 rcases List.mem_cons.1 hm with rfl | hm
 ·exact ⟨(hS _ (List.mem_cons_self ..)).1,by simp [updS]⟩
 ·obtain ⟨h1,h2⟩ := hS m (List.mem_cons_of_mem _ hm)
  refine ⟨h1,?_⟩
  have : ¬ (m.1 = d0 ∧ m.2.1 = k) := by
   rintro ⟨e1,e2⟩
   rcases List.mem_cons.1 hm with rfl | hm
   ·simp at e1
   ·exact (h.m0 m hm).2 e2
  simp only [updS,if_neg this]; exact h2
theorem spec98 (h : Clo F cap d0 k M0 cnt val N) (D c : Nat) (x : Int) (hD : d0 + 1 < D) (hc : c < N) :
  Go.Ab.Loc Pg Gl D 98 [.int .i64 x,.ptr (d0 + 1) 5 1 0] (Mc F cap d0 k M0 (cnt c)) (encV (.mk (val c) [] [])) [(d0,k,cE (cnt (c + 1)))] := by
 refine loc_rdM mixedP tok rfl rfl fun S hS => ?_
 have h5 := (hS _ (List.mem_cons_of_mem _ (List.mem_cons_self ..))).2
 simp only at h5
 have hne : ¬ d0 + 1 = D := by omega
 have hne0 : ¬ d0 = D := by omega
 unfold c98
 rw [encV_mk]
 simp [hne,h5]
 refine Rd_callvM (cap := cap) (h.call (D + 1) c (by omega) hc) (by simp) (by simp [h.strip]) (hM_of ?_) (by simp) ?_ h.fy
 ·intro m hm
  refine hS m ?_
  unfold Mc
  rcases List.mem_cons.1 hm with rfl | hm
  ·exact List.mem_cons_self ..
  ·exact List.mem_cons_of_mem _ (List.mem_cons_of_mem _ hm)
 simp [hne0]
theorem l97 (h : Clo F cap d0 k M0 cnt val N) (D : Nat) (hD : d0 + 1 < D) (f g : Fu) (hk : f.k = 4) (hfg : f.gs = [g]) (v : Va) (hvl : v.gs.length ≤ 2 ^ 30) (n : Nat)
  (hrec : ∀ (i : Nat) (hi : i < v.gs.length),∀ (D c : Nat),d0 + 1 < D → c + (leavesV v.gs[i] g).length ≤ N →
   Go.Ab.Loc Pg Gl D 97 [encF g,encV v.gs[i],.fn 98 [.ptr (d0 + 1) 5 1 0]] (Mc F cap d0 k M0 (cnt c)) (encV (fillV val c v.gs[i] g)) [(d0,k,cE (cnt (c + (leavesV v.gs[i] g).length)))]) (cT : Nat) (S0 S1 : Nat → Nat → Ent) (hT : S1 = updS S0 d0 k (cE (cnt cT))) :
  ∀ (j i c : Nat) (acc : List Va) (tp : Tip) (S : Nat → Nat → Ent) (τ ω) (r : AV),i + j = v.gs.length → (tp = .tip ∨ tp = .nil) → acc.length = i → c + (leavesVs (v.gs.drop i) (List.replicate j g)).length = cT → cT ≤ N →
  (S = updS S0 d0 k (cE (cnt c))) → (∀ m ∈ Mc F cap d0 k M0 (cnt c),m.1 < D ∧ S m.1 m.2.1 = m.2.2) →
  τ 2 = .fn 98 [.ptr (d0 + 1) 5 1 0] → τ 3 = .ptr D 3 1 0 → τ 4 = .ptr D 4 1 0 → τ 6 = .ptr D 6 1 0 → τ 7 = .ptr D 7 1 0 → τ 66 = .sl 3 (v.gs.map encV) .no → τ 67 = .int .i64 v.gs.length → τ 68 = .int .i64 i →
  ω 3 = (1,.cells [.int .i64 f.k,.int .i64 f.n,.sl 3 (f.gs.map encF) .no]) → ω 6 = (1,.cells [.int .i64 0,.sl 3 [] .tip,.sl 1 [] .tip]) →
  ω 7 = (1,.cells [.int .i64 0,.sl 3 (acc.map encV) tp,.sl 1 [] .tip]) →
  r = encV (.mk 0 (acc ++ fillVs val c (v.gs.drop i) (List.replicate j g)) []) →
  Rd (Loc Pg Gl) .im (RetM [.cell 6 true 3] r D S0 [(d0,k,cE (cnt cT))]) [.lp c97_l0,.blk 1,.c c97_k0] (stF 95 D τ ω S) := by
 have hne : ¬ d0 + 1 = D := by omega
 have hne0 : ¬ d0 = D := by omega
 have hne0' : ¬ D = d0 := by omega
 intro j
 induction j with
 | zero =>
  intro i c acc tp S τ ω r hi htp hal hcT hN hS hM h2 h3 h4 h6 h7 h66 h67 h68 w3 w6 w7 hr
  refine Rd_lpE c97_l0.eq_1 ?_
  obtain rfl : i = v.gs.length := by omega
  rw [List.drop_length,leavesVs] at hcT
  rw [List.drop_length,fillVs,List.append_nil,encV_mk] at hr
  simp at hcT
  subst hcT
  simp [h3,h6,h7,h67,h68,w3,w6,w7,c97_k0,hk]
  rcases htp with rfl | rfl <;> simp [hr,hS]
 | succ j ih =>
  intro i c acc tp S τ ω r hi htp hal hcT hN hS hM h2 h3 h4 h6 h7 h66 h67 h68 w3 w6 w7 hr
  refine Rd_lpE c97_l0.eq_1 ?_
  have hlt : i < v.gs.length := by omega
  have hwr := wrap_next hlt (by unfold maxLen; omega)
  have hle : (i + 1) * 56 ≤ 1099511627776 := by omega
  rw [List.drop_eq_getElem_cons hlt,List.replicate_succ,leavesVs,List.length_append] at hcT
  rw [List.drop_eq_getElem_cons hlt,List.replicate_succ,fillVs] at hr
  have hc := hrec i hlt (D + 1) c (by omega) (by omega)
  have htp' : (tp = .nil ∨ tp = .tip) = True := by simp; exact htp.symm
  simp [h2,h3,h4,h6,h7,h66,h67,h68,w3,w6,w7,hlt,hwr,hfg,encV_eta v.gs[i],encF_eta g]
  refine Rd_drCallM hc (by simp [encV_eta v.gs[i],encF_eta g,h2]) (hM_of fun m hm => ⟨by have := (hM m hm).1; omega,(hM m hm).2⟩) (by simp [Mc]) ?_
  generalize fillV val c v.gs[i] g = u at hr
  simp [htp,htp',encV_eta u,h7,w7,hal,hle,h68,hwr,hne0,hne0']
  refine ⟨fun a _ _ _ hm => .inl (by have := (hM _ hm).1; simp only at this; omega),?_⟩
  refine ih (i + 1) (c + (leavesV v.gs[i] g).length) (acc ++ [u]) .tip _ _ _ r (by omega) (.inl rfl) (by simp [hal]) (by omega) hN ?_ (Mc_upd h hM) ?_ ?_ ?_ ?_ ?_ ?_ ?_ ?_ ?_ ?_ ?_ ?_
  case refine_13 => rw [hr,List.append_assoc]; rfl
  all_goals simp [h2,h3,h4,h6,h7,h66,h67,w3,w6,encV_eta u,hS,updS_twice]
theorem spec97 (h : Clo F cap d0 k M0 cnt val N) (n : Nat) : ∀ (v : Va),fitV v → nodesV v ≤ 2 ^ 30 → ∀ (f : Fu),shapedF f = true → polyF f = true → valN n v f = true → ∀ (D c : Nat),d0 + 1 < D → c + (leavesV v f).length ≤ N →
  Go.Ab.Loc Pg Gl D 97 [encF f,encV v,.fn 98 [.ptr (d0 + 1) 5 1 0]] (Mc F cap d0 k M0 (cnt c)) (encV (fillV val c v f)) [(d0,k,cE (cnt (c + (leavesV v f).length)))] := by
 refine Va.ind' fun a gs ws hrec => ?_
 intro hfit hnod f hf hp hv D c hD hN
 obtain ⟨hws,hpl,hvs,hcase⟩ := valN_poly hf hp hv
 have hne : ¬ d0 + 1 = D := by omega
 have hne0 : ¬ d0 = D := by omega
 have hne0' : ¬ D = d0 := by omega
 have hfit' := (fitV_gs _).1 hfit
 rw [nodesV] at hnod
 refine loc_rdM mixedP tok rfl rfl fun S hS => ?_
 have h0 := (hS _ (List.mem_cons_self ..)).2
 simp only at h0
 generalize hv' : Va.mk a gs ws = v at *
 have ev : v.gs = gs := by rw [← hv']; rfl
 have en : v.n = a := by rw [← hv']; rfl
 rw [leavesV_eta] at hN ⊢
 rw [fillV_eta]
 unfold c97
 rw [encF_eta f,encV_eta v,hws]
 rcases hcase with ⟨k0,hn1,hn2,hg⟩ | ⟨k0,hn1,hn2,hg⟩ | ⟨k0,hn,x,y,g1,g2,hg,hfg⟩ | ⟨k0,x,g1,g2,hg,hfg,hn⟩ | ⟨k0,hn,hm1,hm2,hgl,g,hfg⟩
 ·rw [if_pos k0] at hN ⊢
  rw [if_pos k0]
  simp [k0]
  refine Rd_callvM (cap := [.ptr (d0 + 1) 5 1 0]) (spec98 h (D + 1) c v.n (by omega) (by have := hN; simp at this; omega)) (by simp) (by simp) (hM_of fun m hm => ⟨by have := (hS m hm).1; omega,(hS m hm).2⟩) (by simp [Mc]) ?_
  simp [hne0,encV_mk]
 ·have hk0 : ¬ f.k = 0 := by omega
  rw [if_neg hk0,if_neg hk0,hg,leavesVs,fillVs]
  simp [k0,encV_mk]
  intro d i _
  rw [updS_self S d0 k h0]
 ·have hk0 : ¬ f.k = 0 := by omega
  have hpf : partsF f v = [g1,g2] := by
   cases f with
   | mk kk m fgs =>
    simp only [Fu.k,Fu.gs] at k0 hfg
    rw [partsF_mk,k0,hfg]
    simp
  rw [if_neg hk0,hg,hpf,leavesVs,leavesVs,leavesVs,List.append_nil,List.length_append] at hN
  rw [if_neg hk0,if_neg hk0,hg,hpf,leavesVs,leavesVs,leavesVs,fillVs,fillVs,fillVs,List.append_nil,encV_mk,List.length_append]
  rw [hg,hpf,valNs,valNs,Bool.and_eq_true,Bool.and_eq_true] at hvs
  have hx : x ∈ gs := by rw [← ev,hg]; simp
  have hy : y ∈ gs := by rw [← ev,hg]; simp
  have hg1 : g1 ∈ partsF f v := by rw [hpf]; simp
  have hg2 : g2 ∈ partsF f v := by rw [hpf]; simp
  have hc1 := hrec x hx (fitVs_mem hfit'.2 x (by rw [ev]; exact hx)) (by have := nodesVs_le hx; omega) _ (partsF_shaped hf v _ hg1) (poly_parts hf hp v _ hg1) hvs.1 (D + 1) c (by omega) (by omega)
  have hc2 := hrec y hy (fitVs_mem hfit'.2 y (by rw [ev]; exact hy)) (by have := nodesVs_le hy; omega) _ (partsF_shaped hf v _ hg2) (poly_parts hf hp v _ hg2) hvs.2.1 (D + 1) (c + (leavesV x g1).length) (by omega) (by omega)
  simp [k0,hfg,encF_eta g1,encV_eta x,hg]
  refine Rd_drCallM hc1 (by simp [encF_eta g1,encV_eta x]) (hM_of fun m hm => ⟨by have := (hS m hm).1; omega,(hS m hm).2⟩) (by simp [Mc]) ?_
  simp [hne0,hne0',encF_eta g2,encV_eta y]
  refine Rd_drCallM hc2 (by simp [encF_eta g2,encV_eta y]) (hM_of fun m hm => ⟨by have := (Mc_upd h hS m hm).1; omega,(Mc_upd h hS m hm).2⟩) (by simp [Mc]) ?_
  simp [hne0,hne0',hn,encV_eta (fillV val c x g1),encV_eta (fillV val (c + (leavesV x g1).length) y g2)]
  intro d i _
  rw [Nat.add_assoc]
 ·have hk0 : ¬ f.k = 0 := by omega
  have hpf : partsF f v = [if v.n = 0 then g1 else g2] := by
   cases f with
   | mk kk m fgs =>
    simp only [Fu.k,Fu.gs] at k0 hfg
    rw [partsF_mk,k0,hfg]
    rcases hn with e | e <;> simp [e]
  rw [if_neg hk0,hg,hpf,leavesVs,leavesVs,List.append_nil] at hN
  rw [if_neg hk0,if_neg hk0,hg,hpf,leavesVs,leavesVs,fillVs,fillVs,List.append_nil,encV_mk]
  rw [hg,hpf,valNs,Bool.and_eq_true] at hvs
  have hx : x ∈ gs := by rw [← ev,hg]; simp
  have hgm : (if v.n = 0 then g1 else g2) ∈ partsF f v := by rw [hpf]; simp
  have hsg := partsF_shaped hf v _ hgm
  have hpg := poly_parts hf hp v _ hgm
  have hc1 := hrec x hx (fitVs_mem hfit'.2 x (by rw [ev]; exact hx)) (by have := nodesVs_le hx; omega) _ hsg hpg hvs.1 (D + 1) c (by omega) hN
  have hfx : (f.gs)[v.n.toNat]? = some (if v.n = 0 then g1 else g2) := by rw [hfg]; rcases hn with e | e <;> simp [e]
  generalize (if v.n = 0 then g1 else g2) = g at *
  have hfl : v.n.toNat < f.gs.length := (List.getElem?_eq_some_iff.1 hfx).1
  have hfx : f.gs[v.n.toNat] = g := (List.getElem?_eq_some_iff.1 hfx).2
  have hn0 : 0 ≤ v.n ∧ v.n < (f.gs.length : Int) := by rw [hfg]; rcases hn with e | e <;> simp [e]
  simp [k0,hn0,hfx,encF_eta g,encV_eta x,hg]
  refine Rd_drCallM hc1 (by simp [encF_eta g,encV_eta x]) (hM_of fun m hm => ⟨by have := (hS m hm).1; omega,(hS m hm).2⟩) (by simp [Mc]) ?_
  simp [hne0,hne0',encV_eta (fillV val c x g)]
 ·have hk0 : ¬ f.k = 0 := by omega
  have hpf : partsF f v = List.replicate v.gs.length g := by
   cases f with
   | mk kk m fgs =>
    simp only [Fu.k,Fu.gs,Fu.n] at k0 hfg hgl
    rw [partsF_mk,k0,hfg,hgl]
    simp
  rw [if_neg hk0,hpf] at hN
  rw [if_neg hk0,if_neg hk0,hpf]
  rw [hpf] at hvs
  have hsg : shapedF g = true ∧ polyF g = true := by
   have : g ∈ f.gs := by rw [hfg]; simp
   refine ⟨?_,poly_gs hp g this⟩
   have hgm : g ∈ partsF f v := by rw [hpf,hgl]; exact List.mem_replicate.2 ⟨by omega,rfl⟩
   exact partsF_shaped hf v _ hgm
  simp [k0,hfg,encF_eta g]
  refine l97 h D hD f g k0 hfg v (by have := nodesVs_len gs; rw [ev]; omega) n (fun i hi D c hD hN => ?_) _ S _ rfl v.gs.length 0 c [] .tip S _ _ _ (by omega) (.inl rfl) rfl rfl hN (updS_self S d0 k h0).symm hS ?_ ?_ ?_ ?_ ?_ ?_ ?_ ?_ ?_ ?_ ?_ ?_
  ·have hm : v.gs[i] ∈ gs := by rw [← ev]; exact List.getElem_mem hi
   have hv1 := valNs_get hvs i hi (by simpa using hi)
   rw [List.getElem_replicate] at hv1
   exact hrec _ hm (fitVs_mem hfit'.2 _ (List.getElem_mem hi)) (by have := nodesVs_le hm; omega) g hsg.1 hsg.2 hv1 D c hD hN
  all_goals simp [k0,hfg,hn,encF_eta g]
end
end Go.Ab.Tab
/- The program's Filled,ShapeOf. -/
namespace Go.Ab.Tab
open Go Go.Ab
set_option maxRecDepth 10000
set_option linter.unusedVariables false
set_option linter.unusedSimpArgs false
section
variable {F : FuncId} {cap : List AV} {d0 k : Nat} {M0 : List (Nat × Nat × Ent)} {cnt val : Nat → Int} {N : Nat}
theorem spec67 (h : Clo F cap d0 k M0 cnt val N) {n : Nat} (v : Va) (hfit : fitV v) (hnod : nodesV v ≤ 2 ^ 30) (f : Fu) (hf : shapedF f = true) (hp : polyF f = true) (hv : valN n v f = true) (c : Nat) (hN : c + (leavesV v f).length ≤ N) :
  Go.Ab.Loc Pg Gl (d0 + 1) 67 [encF f,encV v,.fn F cap] ((d0,k,cE (cnt c)) :: M0) (encV (fillV val c v f)) [(d0,k,cE (cnt (c + (leavesV v f).length)))] := by
 refine loc_rdM mixedP tok rfl rfl fun S hS => ?_
 have hne0 : ¬ d0 = d0 + 1 := by omega
 have hc := spec97 h n v hfit hnod f hf hp hv (d0 + 1 + 1) c (by omega) hN
 unfold c67
 rw [encF_eta f,encV_eta v]
 simp
 refine Rd_callM hc (by simp [encF_eta f,encV_eta v]) ?_ (by simp [Mc]) ?_
 ·intro m hm
  unfold Mc at hm
  have key : ∀ m,m ∈ (d0,k,cE (cnt c)) :: M0 → m.1 ≤ d0 + 1 ∧ (m.1 = d0 + 1 → m.2.1 < 11) ∧ (∀ τ ω,(stF 11 (d0 + 1) τ ω S).look m.1 m.2.1 = m.2.2) := by
   intro m hm
   obtain ⟨h1,h2⟩ := hS m hm
   refine ⟨by omega,fun e => by omega,fun τ ω => ?_⟩
   rw [stF_look,if_neg (by omega)]; exact h2
  rcases List.mem_cons.1 hm with rfl | hm
  ·have := key _ (List.mem_cons_self ..); exact ⟨this.1,this.2.1,this.2.2 _ _⟩
  ·rcases List.mem_cons.1 hm with rfl | hm
   ·simp
   ·have := key m (List.mem_cons_of_mem _ hm); exact ⟨this.1,this.2.1,this.2.2 _ _⟩
 simp [hne0,encV_eta (fillV val c v f)]
end
def shapeV (v : Va) (f : Fu) : Va := fillV (fun c => (c : Int)) 0 v f
theorem spec84 (D d0 c : Nat) (hD : d0 < D) (hc : c < 2 ^ 32) : Go.Ab.Loc Pg Gl D 84 [.ptr d0 5 1 0] [(d0,5,cE c)] (.int .i64 c) [(d0,5,cE ((c + 1 : Nat) : Int))] := by
 refine loc_rdM mixedP tok rfl rfl fun S hS => ?_
 have h5 := (hS _ (List.mem_cons_self ..)).2
 simp only at h5
 have hne : ¬ d0 = D := by omega
 have hw : IntKind.i64.wrap ((c : Int) + 1) = ((c + 1 : Nat) : Int) := by rw [← wrap_i64_nat (n := c + 1) (by omega)]; rfl
 have hw2 : IntKind.i64.wrap ((c : Int) + 1 - 1) = (c : Int) := by rw [show (c : Int) + 1 - 1 = c by omega]; exact wrap_i64_nat (by omega)
 have hw3 : IntKind.i64.wrap (c : Int) = (c : Int) := wrap_i64_nat (by omega)
 unfold c84
 simp [hne,h5,hw,hw2,hw3]
theorem clo84 (d0 : Nat) : Clo 84 [.ptr d0 5 1 0] d0 5 [] (fun c => (c : Int)) (fun c => (c : Int)) (2 ^ 32) where
 fy := by decide
 call := fun D c hD hc => spec84 D d0 c hD hc
 m0 := by simp
 strip := by simp
 clean := by simp
theorem spec50 {n : Nat} (v : Va) (hfit : fitV v) (hnod : nodesV v ≤ 2 ^ 30) (f : Fu) (hf : shapedF f = true) (hp : polyF f = true) (hv : valN n v f = true) (D : Nat) :
  Go.Ab.Loc Pg Gl D 50 [encF f,encV v] [] (encV (shapeV v f)) [] := by
 refine loc_rd mixedP tok rfl rfl fun S => ?_
 have hl := leavesV_le v f
 have hc := spec67 (clo84 D) v hfit hnod f hf hp hv 0 (by omega)
 unfold c50
 rw [encF_eta f,encV_eta v]
 simp
 refine Rd_callM hc (by simp [encF_eta f,encV_eta v]) ?_ (by simp) ?_
 ·intro m hm
  rw [List.mem_singleton] at hm; subst hm
  simp
 unfold shapeV
 simp [encV_eta (fillV _ 0 v f)]
end Go.Ab.Tab
/- The program's each: a value's states are yielded. -/
namespace Go.Ab.Tab
open Go Go.Ab
set_option maxRecDepth 10000
set_option linter.unusedVariables false
set_option linter.unusedSimpArgs false
abbrev Ents := List (Nat × Nat × Ent)
def site (m : Nat × Nat × Ent) : Nat × Nat := (m.1,m.2.1)
theorem upds_get : ∀ (l : Ents) (S : Nat → Nat → Ent),(l.map site).Nodup → ∀ m ∈ l,upds S l m.1 m.2.1 = m.2.2
 | [],S,_,m,hm => by cases hm
 | u :: l,S,hn,m,hm => by
  rw [List.map_cons,List.nodup_cons] at hn
  rw [show upds S (u :: l) = upds (updS S u.1 u.2.1 u.2.2) l from rfl]
  rcases List.mem_cons.1 hm with rfl | hm
  ·rw [upds_apply _ _ _ _ fun v hv e => hn.1 (by
    have : site v = site m := by unfold site; rw [e]
    rw [← this]; exact List.mem_map.2 ⟨v,hv,rfl⟩)]
   simp [updS]
  ·exact upds_get l _ hn.2 m hm
theorem upds_self {l : Ents} {S : Nat → Nat → Ent} (h : ∀ m ∈ l,S m.1 m.2.1 = m.2.2) : upds S l = S := by
 induction l generalizing S with
 | nil => rfl
 | cons u l ih =>
  rw [show upds S (u :: l) = upds (updS S u.1 u.2.1 u.2.2) l from rfl,updS_self _ _ _ (h u (by simp))]
  exact ih fun m hm => h m (by simp [hm])
theorem upds_out {l : Ents} {S : Nat → Nat → Ent} {d i : Nat} (h : (d,i) ∉ l.map site) : upds S l d i = S d i :=
 upds_apply _ _ _ _ fun v hv e => h (by
  have : site v = (d,i) := by unfold site; rw [e]
  rw [← this]; exact List.mem_map.2 ⟨v,hv,rfl⟩)
theorem upds_twice {l m : Ents} (hs : l.map site = m.map site) (hn : (l.map site).Nodup) (S : Nat → Nat → Ent) : upds (upds S l) m = upds S m := by
 funext d i
 by_cases h : (d,i) ∈ m.map site
 ·obtain ⟨u,hu,e⟩ := List.mem_map.1 h
  have e1 : u.1 = d := congrArg Prod.fst e
  have e2 : u.2.1 = i := congrArg Prod.snd e
  rw [← e1,← e2,upds_get m _ (hs ▸ hn) u hu,upds_get m _ (hs ▸ hn) u hu]
 ·rw [upds_out h,upds_out h,upds_out (by rw [hs]; exact h)]
def ofI (f : Fu) (v : Va) (i : Nat) : Nat := if (f.k = 2 ∧ i = 1) ∨ (f.k = 3 ∧ v.n = 1) then 1 else 0
theorem of_get {n : Nat} {v : Va} {f : Fu} (hf : shapedF f = true) (hp : polyF f = true) (h : valN n v f = true) (h0 : f.k ≠ 0) (i : Nat) (hi : i < v.gs.length) (hi2 : i < (partsF f v).length) : f.gs[ofI f v i]? = some (partsF f v)[i] := by
 obtain ⟨hws,hpl,hvs,hcase⟩ := valN_poly hf hp h
 rw [← List.getElem?_eq_getElem hi2]
 cases f with
 | mk k m gs =>
 simp only [Fu.k,Fu.n,Fu.gs] at *
 rw [partsF_mk]
 unfold ofI
 simp only [Fu.k]
 rcases hcase with ⟨rfl,_,_,hg⟩ | ⟨rfl,_,_,hg⟩ | ⟨rfl,hn,x,y,g1,g2,hg,rfl⟩ | ⟨rfl,x,g1,g2,hg,rfl,hn⟩ | ⟨rfl,hn,_,hm2,hgl,g,rfl⟩
 ·exact absurd rfl h0
 ·rw [hg] at hi; simp at hi
 ·rw [hg] at hi
  simp at hi
  have : i = 0 ∨ i = 1 := by omega
  rcases this with rfl | rfl <;> simp
 ·rw [hg] at hi
  simp at hi
  subst hi
  rcases hn with e | e <;> simp [e]
 ·simp
  rw [List.getElem?_replicate,if_pos (by omega)]
section
variable {σ : Type} (E : σ → Ents) (go : σ → Int → σ × Bool)
def goL : σ → List Int → σ × Bool
 | s,[] => (s,true)
 | s,x :: l => if (go s x).2 then goL (go s x).1 l else ((go s x).1,false)
theorem goL_append : ∀ (l m : List Int) (s : σ),goL go s (l ++ m) = if (goL go s l).2 then goL go (goL go s l).1 m else goL go s l
 | [],m,s => by simp [goL]
 | x :: l,m,s => by
  rw [List.cons_append,goL,goL]
  cases h : (go s x).2 with
  | false => simp
  | true => simp only [if_true]; exact goL_append l m _
structure Yld (D0 slot : Nat) (B : σ → Nat) (N : Nat) : Prop where
 call : ∀ D s x,D0 < D → B s < N → Go.Ab.Loc Pg Gl D yid [.yl D0 slot 1,.int .i64 x] (E s) (.bool (go s x).2) (E (go s x).1)
 sites : ∀ s s',(E s).map site = (E s').map site
 nodup : ∀ s,((E s).map site).Nodup
 depth : ∀ s,∀ m ∈ E s,m.1 = D0
 live : ∀ s,∀ m ∈ E s,m.2.2.2 ≠ .dead
 grow : ∀ s x,(go s x).2 = true → B (go s x).1 ≤ B s + 1
variable {E go} {D0 slot : Nat} {B : σ → Nat} {N : Nat}
theorem Yld.hdl (h : Yld E go D0 slot B N) (s s' : σ) : ∀ u ∈ E s',(u.1,u.2.1) ∈ (E s).map (fun m => (m.1,m.2.1)) ∧ u.2.2.2 ≠ .dead := by
 intro u hu
 refine ⟨?_,h.live s' u hu⟩
 have : site u ∈ (E s).map site := by rw [h.sites s s']; exact List.mem_map.2 ⟨u,hu,rfl⟩
 exact this
theorem Yld.hM (h : Yld E go D0 slot B N) {D n : Nat} (hD : D0 < D) (s : σ) {τ ω} {S : Nat → Nat → Ent} : ∀ m ∈ E s,m.1 ≤ D ∧ (m.1 = D → m.2.1 < n) ∧ (stF n D τ ω (upds S (E s))).look m.1 m.2.1 = m.2.2 := by
 intro m hm
 have hd := h.depth s m hm
 refine ⟨by omega,fun e => by omega,?_⟩
 rw [stF_look,if_neg (by omega)]
 exact upds_get _ _ (h.nodup s) m hm
theorem Yld.up (h : Yld E go D0 slot B N) {D n : Nat} (hD : D0 < D) (s s' : σ) {τ ω} {S : Nat → Nat → Ent} : (E s').foldl St.up (stF n D τ ω (upds S (E s))) = stF n D τ ω (upds S (E s')) := by
 rw [stF_ups fun u hu => by rw [h.depth s' u hu]; omega]
 rw [upds_twice (h.sites s s') (h.nodup s)]
theorem Yld.growL (h : Yld E go D0 slot B N) : ∀ (l : List Int) (s : σ),(goL go s l).2 = true → B (goL go s l).1 ≤ B s + l.length
 | [],s,_ => by simp [goL]
 | x :: l,s,hb => by
  rw [goL] at hb ⊢
  rw [List.length_cons]
  cases hx : (go s x).2 with
  | false => rw [hx] at hb; simp at hb
  | true =>
   rw [hx,if_pos rfl] at hb
   simp only [if_true]
   have h1 := h.grow s x hx
   have := Yld.growL h l (go s x).1 hb
   omega
theorem l112 (h : Yld E go D0 slot B N) (D : Nat) (hD : D0 < D) (f : Fu) (v : Va) (hvl : v.gs.length ≤ 2 ^ 30) (hpl : (partsF f v).length = v.gs.length)
  (hof : ∀ (i : Nat) (hi : i < v.gs.length) (hi2 : i < (partsF f v).length),f.gs[ofI f v i]? = some (partsF f v)[i])
  (hrec : ∀ (i : Nat) (hi : i < v.gs.length) (hi2 : i < (partsF f v).length),∀ (D : Nat) (s : σ),D0 < D → B s + (leavesV v.gs[i] (partsF f v)[i]).length ≤ N →
   Go.Ab.Loc Pg Gl D 112 [encF (partsF f v)[i],encV v.gs[i],.yl D0 slot 1] (E s) (.bool (goL go s (leavesV v.gs[i] (partsF f v)[i])).2) (E (goL go s (leavesV v.gs[i] (partsF f v)[i])).1)) (S0 : Nat → Nat → Ent) (res : σ × Bool) :
  ∀ (j i : Nat) (s : σ) (Ss : Nat → Nat → Ent) (τ ω),i + j = v.gs.length → Ss = upds S0 (E s) → B s + (leavesVs (v.gs.drop i) ((partsF f v).drop i)).length ≤ N → res = goL go s (leavesVs (v.gs.drop i) ((partsF f v).drop i)) →
  τ 2 = .yl D0 slot 1 → τ 3 = .ptr D 3 1 0 → τ 4 = .ptr D 4 1 0 → τ 18 = .sl 3 (v.gs.map encV) .no → τ 19 = .int .i64 v.gs.length → τ 20 = .int .i64 i →
  ω 3 = (1,.cells [.int .i64 f.k,.int .i64 f.n,.sl 3 (f.gs.map encF) .no]) → ω 4 = (1,.cells [.int .i64 v.n,.sl 3 (v.gs.map encV) .no,.sl 1 (v.ws.map (AV.int .i64)) .no]) →
  Rd (Loc Pg Gl) .im (RetM [.tmp 6] (.bool res.2) D S0 (E res.1)) [.lp c112_l0,.blk 0,.c c112_k0] (stF 52 D τ ω Ss) := by
 intro j
 induction j with
 | zero =>
  intro i s Ss τ ω hi hSs hB hres h2 h3 h4 h18 h19 h20 w3 w4
  subst hSs
  refine Rd_lpE c112_l0.eq_1 ?_
  obtain rfl : i = v.gs.length := by omega
  rw [List.drop_length,leavesVs,goL] at hres
  subst hres
  simp [-upds,h18,h19,h20,c112_k0]
 | succ j ih =>
  intro i s Ss τ ω hi hSs hB hres h2 h3 h4 h18 h19 h20 w3 w4
  subst hSs
  refine Rd_lpE c112_l0.eq_1 ?_
  have hlt : i < v.gs.length := by omega
  have hlp : i < (partsF f v).length := by omega
  have hwr := wrap_next hlt (by unfold maxLen; omega)
  rw [List.drop_eq_getElem_cons hlt,List.drop_eq_getElem_cons hlp,leavesVs] at hres hB
  rw [List.length_append] at hB
  have hgo := hof i hlt hlp
  have hgl : ofI f v i < f.gs.length := (List.getElem?_eq_some_iff.1 hgo).1
  have hgg : f.gs[ofI f v i] = (partsF f v)[i] := (List.getElem?_eq_some_iff.1 hgo).2
  have hc := hrec i hlt hlp (D + 1) s (by omega) (by omega)
  have hgr := h.growL (leavesV v.gs[i] (partsF f v)[i]) s
  have key : ∀ τ' (ω' : Nat → Ent),τ' 2 = .yl D0 slot 1 → τ' 3 = .ptr D 3 1 0 → τ' 4 = .ptr D 4 1 0 → (∃ g,τ' 8 = .ptr D 8 g 0 ∧ ω' 8 = (g,.cells [.int .i64 v.gs[i].n,.sl 3 (v.gs[i].gs.map encV) .no,.sl 1 (v.gs[i].ws.map (AV.int .i64)) .no])) → τ' 9 = .int .i64 (ofI f v i : Nat) → τ' 18 = .sl 3 (v.gs.map encV) .no → τ' 19 = .int .i64 v.gs.length → τ' 20 = .int .i64 i →
    ω' 3 = ω 3 → ω' 4 = ω 4 →
    Rd (Loc Pg Gl) .im (RetM [.tmp 6] (.bool res.2) D S0 (E res.1)) [.c c112_j0,.blk 1,.c (.region [⟨(.some 51),(.bin .add .other (.t 20) (.c (.int .i64 1))),.none⟩,⟨(.some 20),(.mov .false (.t 51)),.none⟩] .none),.lp c112_l0,.blk 0,.c c112_k0] (stF 52 D τ' ω' (upds S0 (E s))) := by
   intro τ' ω' g2 g3 g4 ⟨gg,g8,v8⟩ g9 g18 g19 g20 v3 v4
   rw [w3] at v3
   rw [w4] at v4
   simp [-upds,c112_j0,g2,g3,g4,g8,g9,v3,v8,hgl,hgg,encF_eta (partsF f v)[i]]
   refine Rd_drCallM hc (by simp [-upds,encF_eta (partsF f v)[i],encV_eta v.gs[i],g2]) (h.hM hD s) (h.hdl _ _) ?_
   rw [h.up hD]
   cases hb : (goL go s (leavesV v.gs[i] (partsF f v)[i])).2 with
   | false =>
    rw [goL_append,hb] at hres
    subst hres
    simp [-upds,hb]
   | true =>
    rw [goL_append,hb,if_pos rfl] at hres
    have hgr := hgr hb
    simp [-upds,g20,hwr]
    refine ih (i + 1) _ _ _ _ (by omega) rfl (by omega) hres ?_ ?_ ?_ ?_ ?_ ?_ ?_ ?_
    all_goals simp [-upds,g2,g3,g4,g18,g19,v3,v4,w4]
  simp [-upds,h2,h3,h4,h18,h19,h20,w3,w4,hlt,encV_eta v.gs[i]]
  by_cases k2 : f.k = 2
  ·have k3 : ¬ f.k = 3 := by omega
   by_cases hi1 : i = 1
   ·subst hi1
    simp [-upds,k2,k3,h3,h4,w3,w4,hlt]
    refine key _ _ ?_ ?_ ?_ ⟨(ω 8).1 + 1,?_,?_⟩ ?_ ?_ ?_ ?_ ?_ ?_
    all_goals simp [ofI,k2,k3,h2,h3,h4,h18,h19,h20]
   ·have hi1' : ¬ (i : Int) = 1 := by omega
    simp [-upds,k2,k3,hi1,hi1',h3,h4,w3,w4,hlt,encV_eta v.gs[i]]
    refine key _ _ ?_ ?_ ?_ ⟨(ω 8).1 + 1,?_,?_⟩ ?_ ?_ ?_ ?_ ?_ ?_
    all_goals simp [ofI,k2,k3,hi1,hi1',h2,h3,h4,h18,h19,h20]
  ·by_cases k3 : f.k = 3
   ·by_cases hn : v.n = 1
    ·simp [-upds,k2,k3,hn,h3,h4,w3,w4,hlt,encV_eta v.gs[i]]
     refine key _ _ ?_ ?_ ?_ ⟨(ω 8).1 + 1,?_,?_⟩ ?_ ?_ ?_ ?_ ?_ ?_
     all_goals simp [ofI,k2,k3,hn,h2,h3,h4,h18,h19,h20]
    ·simp [-upds,k2,k3,hn,h3,h4,w3,w4,hlt,encV_eta v.gs[i]]
     refine key _ _ ?_ ?_ ?_ ⟨(ω 8).1 + 1,?_,?_⟩ ?_ ?_ ?_ ?_ ?_ ?_
     all_goals simp [ofI,k2,k3,hn,h2,h3,h4,h18,h19,h20]
   ·simp [-upds,k2,k3,h3,h4,w3,w4,hlt,encV_eta v.gs[i]]
    refine key _ _ ?_ ?_ ?_ ⟨(ω 8).1 + 1,?_,?_⟩ ?_ ?_ ?_ ?_ ?_ ?_
    all_goals simp [ofI,k2,k3,h2,h3,h4,h18,h19,h20]
theorem spec112 (h : Yld E go D0 slot B N) (n : Nat) : ∀ (v : Va),fitV v → nodesV v ≤ 2 ^ 30 → ∀ (f : Fu),shapedF f = true → polyF f = true → valN n v f = true → ∀ (D : Nat) (s : σ),D0 < D → B s + (leavesV v f).length ≤ N →
  Go.Ab.Loc Pg Gl D 112 [encF f,encV v,.yl D0 slot 1] (E s) (.bool (goL go s (leavesV v f)).2) (E (goL go s (leavesV v f)).1) := by
 refine Va.ind' fun a gs ws hrec => ?_
 intro hfit hnod f hf hp hv D s hD hN
 obtain ⟨hws,hpl,hvs,hcase⟩ := valN_poly hf hp hv
 have hfit' := (fitV_gs _).1 hfit
 rw [nodesV] at hnod
 have hofg := fun h0 => of_get hf hp hv h0
 refine loc_rdM mixedP tok rfl rfl fun S hS => ?_
 have hSe : S = upds S (E s) := (upds_self fun m hm => (hS m hm).2).symm
 generalize hv' : Va.mk a gs ws = v at *
 have ev : v.gs = gs := by rw [← hv']; rfl
 rw [leavesV_eta] at hN ⊢
 unfold c112
 rw [encF_eta f,encV_eta v]
 by_cases k0 : f.k = 0
 ·rw [if_pos k0] at hN
  rw [if_pos k0]
  simp [-upds,k0]
  refine Rd_yldM (h.call (D + 1) s v.n (by omega) (by simp at hN; omega)) (by simp) (by simp) (hM_of hS) (h.hdl _ _) ?_
  rw [stF_ups fun u hu => by rw [h.depth _ u hu]; omega]
  have hg : goL go s [v.n] = go s v.n := by
   rw [goL]
   cases hb : (go s v.n).2 with
   | false => simp [Prod.ext_iff,hb]
   | true => simp [goL,Prod.ext_iff,hb]
  simp [-upds,hg]
 ·rw [if_neg k0] at hN
  rw [if_neg k0]
  simp [-upds,k0]
  refine l112 h D hD f v (by have := nodesVs_len gs; rw [ev]; omega) hpl (hofg k0) (fun i hi hi2 D s hD hB => ?_) S (goL go s (leavesVs v.gs (partsF f v))) v.gs.length 0 s S _ _ (by omega) hSe (by simpa using hN) (by simp) ?_ ?_ ?_ ?_ ?_ ?_ ?_ ?_
  ·have hm : v.gs[i] ∈ gs := by rw [← ev]; exact List.getElem_mem hi
   have hgm := List.getElem_mem hi2
   exact hrec _ hm (fitVs_mem hfit'.2 _ (List.getElem_mem hi)) (by have := nodesVs_le hm; omega) _ (partsF_shaped hf v _ hgm) (poly_parts hf hp v _ hgm) (valNs_get hvs i hi hi2) D s hD hB
  all_goals simp
end
end Go.Ab.Tab
/- slices.Collect of a value's states; States. -/
namespace Go.Ab.Tab
open Go Go.Ab
set_option maxRecDepth 10000
set_option linter.unusedVariables false
set_option linter.unusedSimpArgs false
theorem finL_busy {ro : Loop} (h1 : ro.state = .ready) (h2 : ro.pending = none) : Go.Ab.finL none (busyL ro) = ro := by
 cases ro; simp_all [Go.Ab.finL,busyL]
theorem Loc.sub {D : Nat} {f : FuncId} {args : List AV} {M M' dl : List (Nat × Nat × Ent)} {r : AV} (h : Go.Ab.Loc Pg Gl D f args M r dl) (hs : ∀ m ∈ M,m ∈ M') : Go.Ab.Loc Pg Gl D f args M' r dl := by
 rcases h with ⟨h1,h2,h3⟩ | ⟨h1,h2⟩
 ·exact .inl ⟨h1,h2,fun prot w0 E0 E w S vs hok hM => h3 prot w0 E0 E w S vs hok fun m hm => hM m (hs m hm)⟩
 ·exact .inr ⟨h1,fun prot w0 E0 E w S B us hok hM => h2 prot w0 E0 E w S B us hok fun m hm => hM m (hs m hm)⟩
section
variable (D : Nat) (τ0 : Nat → AV) (h2 : τ0 2 = .ptr D 2 1 0) (ro : Loop) (hst : ro.state = .ready) (hpe : ro.pending = none) (hps : ro.params.toList = [7])
 (hpre : comp Pg Gl Lx ro.assign = some c110_p0) (hbody : comp Pg Gl Lx ro.body = some c110_r0)
def ts110 : List AV := (List.range 13).map fun t => (τ0 t).strip
def E110 (acc : List Int) : Ents := [(D,2,(1,.cells [.sl 1 (acc.map (AV.int .i64)) .tip])),(D,12,(1,.lp ro (ts110 τ0)))]
def go110 (acc : List Int) (x : Int) : List Int × Bool := (acc ++ [x],true)
include h2 hst hpe hps hpre hbody in
theorem round110 (D1 : Nat) (hD : D < D1) (acc : List Int) (hl : acc.length < 2 ^ 32) (x : Int) :
  Go.Ab.Loc Pg Gl D1 yid [.yl D 12 1,.int .i64 x] (E110 D τ0 ro acc) (.bool true) (E110 D τ0 ro (acc ++ [x])) := by
 have hpz : ro.params.size = 1 := by rw [← Array.length_toList,hps]; rfl
 refine round_loc (L := Lx) (jump := none) (D0 := D) (i := 12) (g := 1) (ro := ro) (ts := ts110 τ0) (pre := c110_p0) (body := c110_r0) (n := 13) mixedP (by omega) (by simp [E110]) hst hpre hbody (by rw [hpz]; rfl) ?_ ?_
 ·intro b hb
  rw [hps,ts110,roundT_stF] at hb
  obtain ⟨t,_,rfl⟩ := List.mem_map.1 hb
  simp only [List.zip_cons_cons,List.zip_nil_right,List.foldl_cons,List.foldl_nil,upd]
  split
  ·trivial
  ·exact AV.dull_strip _
 intro S hS
 have s12 := (hS (D,12,(1,.lp ro (ts110 τ0))) (by simp [E110])).2
 have s2 := (hS (D,2,(1,.cells [.sl 1 (acc.map (AV.int .i64)) .tip])) (by simp [E110])).2
 simp only at s12 s2
 rw [hps,ts110,round_start]
 refine RunW_rn ?_
 rw [stF_D]
 simp [c110_p0]
 refine .inl ⟨rfl,rfl,s12,?_⟩
 generalize hts : List.map (fun t => (τ0 t).strip) (List.range 13) = ts
 have hts' : ts110 τ0 = ts := hts
 rw [hts'] at s12
 show RunW _ _ _ (stF 13 D1 (upd (upd (fun t => (τ0 t).strip) 7 (.int .i64 x)) 5 (.int .i64 x)) (fun _ => (0,.dead)) (updS S D 12 (1,.lp (busyL ro) ts)))
 refine RunW_rn ?_
 rw [stF_D]
 unfold c110_r0
 have hle : (acc.length + 1) * 8 ≤ 1099511627776 := by omega
 have hne : ¬ D = D1 := by omega
 simp [h2,updS,s2,hne,hle]
 refine .inl ⟨rfl,rfl,by simp [stF_S,updS],fun d j hd => ?_⟩
 rw [stF_S,finL_busy hst hpe]
 simp only [E110,upds,List.foldl_cons,List.foldl_nil,hts',List.map_append,List.map_cons,List.map_nil]
 simp only [updS]
 by_cases e1 : d = D ∧ j = 12
 ·rw [if_pos e1,if_pos e1]
 ·rw [if_neg e1,if_neg e1,if_neg e1]
include h2 hst hpe hps hpre hbody in
theorem yld110 : Yld (E110 D τ0 ro) go110 D 12 List.length (2 ^ 32) where
 call := fun D1 s x hD hs => round110 D τ0 h2 ro hst hpe hps hpre hbody D1 hD s hs x
 sites := fun s s' => rfl
 nodup := fun s => by simp [E110,site]
 depth := fun s m hm => by
  simp only [E110,List.mem_cons,List.mem_nil_iff,or_false] at hm
  rcases hm with rfl | rfl <;> rfl
 live := fun s m hm => by
  simp only [E110,List.mem_cons,List.mem_nil_iff,or_false] at hm
  rcases hm with rfl | rfl <;> simp
 grow := fun s x _ => by simp [go110]
end
theorem goL110 : ∀ (l acc : List Int),goL go110 acc l = (acc ++ l,true)
 | [],acc => by simp [goL]
 | x :: l,acc => by rw [goL]; simp only [go110,if_true]; rw [goL110 l]; simp
theorem spec111 {σ : Type} {E : σ → Ents} {go : σ → Int → σ × Bool} {D0 slot N : Nat} {B : σ → Nat} (h : Yld E go D0 slot B N) {n : Nat} (v : Va) (hfit : fitV v) (hnod : nodesV v ≤ 2 ^ 30) (f : Fu) (hf : shapedF f = true) (hp : polyF f = true) (hv : valN n v f = true)
  (D d1 i1 j1 : Nat) (s : σ) (hD : D0 < D) (hd1 : d1 < D) (hN : B s + (leavesV v f).length ≤ N) :
  Go.Ab.Loc Pg Gl D 111 [.yl D0 slot 1,.ptr d1 i1 1 0,.ptr d1 j1 1 0] (E s ++ [(d1,i1,(1,.cells [.int .i64 f.k,.int .i64 f.n,.sl 3 (f.gs.map encF) .no])),(d1,j1,(1,.cells [.int .i64 v.n,.sl 3 (v.gs.map encV) .no,.sl 1 (v.ws.map (AV.int .i64)) .no]))])
   (.tup []) (E (goL go s (leavesV v f)).1) := by
 refine loc_rdM mixedP tok rfl rfl fun S hS => ?_
 have hi := (hS (d1,i1,_) (List.mem_append_right _ (List.mem_cons_self ..))).2
 have hj := (hS (d1,j1,_) (List.mem_append_right _ (List.mem_cons_of_mem _ (List.mem_cons_self ..)))).2
 simp only at hi hj
 have hne : ¬ d1 = D := by omega
 unfold c111
 simp [-upds,hne,hi,hj]
 refine Rd_callM (spec112 h n v hfit hnod f hf hp hv (D + 1) s (by omega) hN) (by simp [encF_eta f,encV_eta v]) (hM_of fun m hm => hS m (List.mem_append_left _ hm)) (h.hdl _ _) ?_
 rw [stF_ups fun u hu => by rw [h.depth _ u hu]; omega]
 simp [-upds]
def entF (f : Fu) : Ent := (1,.cells [.int .i64 f.k,.int .i64 f.n,.sl 3 (f.gs.map encF) .no])
def entV (v : Va) : Ent := (1,.cells [.int .i64 v.n,.sl 3 (v.gs.map encV) .no,.sl 1 (v.ws.map (AV.int .i64)) .no])
theorem spec86 (f : Fu) (v : Va) (D i1 j1 : Nat) (hij : i1 ≠ j1) : Go.Ab.Loc Pg Gl (D + 1) 86 [encF f,encV v] [(D,i1,(0,.dead)),(D,j1,(0,.dead))] (.fn 111 [.ptr D i1 1 0,.ptr D j1 1 0]) [(D,i1,entF f),(D,j1,entV v)] := by
 refine loc_rdN mixedP tok rfl rfl rfl (by simp [AV.upto]) trivial fun S hS => ?_
 have h1 := (hS (D,i1,(0,.dead)) (by simp)).2
 have h2 := (hS (D,j1,(0,.dead)) (by simp)).2
 simp only at h1 h2
 have hji : ¬ j1 = i1 := fun e => hij e.symm
 unfold c86
 rw [encF_eta,encV_eta]
 simp
 refine ⟨?s2,[.fn 111 [.ptr D i1 1 0,.ptr D j1 1 0]],?mv,?rv,rfl,?se⟩
 case mv =>
  refine Mv_stF (i := 2) (d' := D) (i' := i1) (by simp; exact ⟨rfl,rfl⟩) h1 (by omega) (by simp) rfl ?_
  refine Mv_stF (i := 3) (d' := D) (i' := j1) (by simp; exact ⟨rfl,rfl⟩) (by simp [updS,hji]; exact h2) (by omega) (by simp) rfl ?_
  exact .nil _
 case rv => simp [rvAll,rvOne,AV.ren,AV.ren1]
 case se =>
  intro d i hd
  simp [upds,entF,entV]
theorem spec110 {n : Nat} (v : Va) (hfit : fitV v) (hnod : nodesV v ≤ 2 ^ 30) (f : Fu) (hf : shapedF f = true) (hp : polyF f = true) (hv : valN n v f = true) (D d1 i1 j1 : Nat) (hd1 : d1 < D) :
  Go.Ab.Loc Pg Gl D 110 [.sl 1 [] .nil,.fn 111 [.ptr d1 i1 1 0,.ptr d1 j1 1 0]] [(d1,i1,entF f),(d1,j1,entV v)] (.sl 1 ((leavesV v f).map (AV.int .i64)) .no) [] := by
 have hl := leavesV_le v f
 refine loc_rdR mixedP tok rfl rfl fun S hS => ?_
 have hi := hS (d1,i1,entF f) (by simp)
 have hj := hS (d1,j1,entV v) (by simp)
 simp only at hi hj
 unfold c110
 refine .seq (RunW_pre (k1 := [_]) ?_)
 simp
 refine ⟨rfl,.seq (.seq (RunW_pre (k1 := [_]) ?_))⟩
 simp
 refine ⟨rfl,.block (.stop ?_)⟩
 generalize hτ : upd _ 6 _ = τ0
 generalize hω : upd _ 2 _ = ω0
 have t2 : τ0 2 = .ptr D 2 1 0 := by rw [← hτ]; simp
 have t6 : τ0 6 = .fn 111 [.ptr d1 i1 1 0,.ptr d1 j1 1 0] := by rw [← hτ]; simp
 have w2 : ω0 2 = (1,.cells [.sl 1 [] .tip]) := by rw [← hω]; simp
 have w12 : ω0 12 = (0,.dead) := by rw [← hω]; simp
 clear hτ hω
 have hsnap : snap (stF 13 D τ0 ω0 S) = ts110 τ0 := snap_stF
 refine ⟨111,[.ptr d1 i1 1 0,.ptr d1 j1 1 0],12,(0,.dead),[(d1,i1,entF f),(d1,j1,entV v),(D,2,(1,.cells [.sl 1 [] .tip]))],
   [(D,2,(1,.cells [.sl 1 ((leavesV v f).map (AV.int .i64)) .tip]))],none,(fun ro => ro),[.blk 0,.c c110_k0],by simp [t6],by decide,by simp [w12],fun ro h1 h2 => ⟨by rw [h1]; simp,by rw [h2]; rfl,rfl⟩,?_,?_,by simp,rfl,fun r1 r2 r3 => ?_⟩
 ·intro ro h1 h2 h3 h4 h5
  rw [hsnap]
  have := spec111 (yld110 D τ0 t2 ro h1 h2 h3 h4 h5) v hfit hnod f hf hp hv (D + 1) d1 i1 j1 [] (by omega) (by omega) (by simp; omega)
  rw [goL110] at this
  refine Loc.sub this fun m hm => ?_
  simp only [E110,List.mem_append,List.mem_cons,List.mem_nil_iff,or_false,List.map_nil] at hm ⊢
  rcases hm with (rfl | rfl) | rfl | rfl
  ·exact .inr (.inr (.inr rfl))
  ·exact .inl rfl
  ·exact .inr (.inl rfl)
  ·exact .inr (.inr (.inl rfl))
 ·intro m hm
  simp only [List.mem_cons,List.mem_nil_iff,or_false] at hm
  rcases hm with rfl | rfl | rfl
  ·refine ⟨by simp; omega,fun e => by simp at e; omega,?_⟩
   rw [stF_look,if_neg (by simp; omega)]; exact hi.2
  ·refine ⟨by simp; omega,fun e => by simp at e; omega,?_⟩
   rw [stF_look,if_neg (by simp; omega)]; exact hj.2
  ·simp [w2]
 ·have e : rngS (stF 13 D τ0 ω0 S) 12 1 [(D,2,(1,.cells [.sl 1 ((leavesV v f).map (AV.int .i64)) .tip]))] r1 r2 r3 = stF 13 D τ0 (upd (upd (upd (upd ω0 12 (1,.lp r1 (ts110 τ0))) 2 (1,.cells [.sl 1 ((leavesV v f).map (AV.int .i64)) .tip])) 12 (1,.lp r2 (ts110 τ0))) 12 (1,.lp r3 (ts110 τ0))) S := by
   simp only [rngS,hsnap,List.foldl_cons,List.foldl_nil,stF_up,stF_D,if_true]
  show RunW _ _ _ (rngS (stF 13 D τ0 ω0 S) 12 1 [(D,2,(1,.cells [.sl 1 ((leavesV v f).map (AV.int .i64)) .tip]))] r1 r2 r3)
  rw [e]
  refine RunW.imp (Q := fnQ (RetM [.tmp 4] (.sl 1 ((leavesV v f).map (AV.int .i64)) .no) D S [])) (fun w s' h => by cases w <;> exact h) ?_
  refine Rd.run (own := .im) ?_
  simp [c110_k0,t2]
theorem spec85 {n : Nat} (v : Va) (hfit : fitV v) (hnod : nodesV v ≤ 2 ^ 30) (f : Fu) (hf : shapedF f = true) (hp : polyF f = true) (hv : valN n v f = true) (D d1 i1 j1 : Nat) (hd1 : d1 < D) :
  Go.Ab.Loc Pg Gl D 85 [.fn 111 [.ptr d1 i1 1 0,.ptr d1 j1 1 0]] [(d1,i1,entF f),(d1,j1,entV v)] (.sl 1 ((leavesV v f).map (AV.int .i64)) .no) [] := by
 refine loc_rdM mixedP tok rfl rfl fun S hS => ?_
 unfold c85
 simp
 refine Rd_callL (spec110 v hfit hnod f hf hp hv (D + 1) d1 i1 j1 (by omega)) (by simp) (hM_of hS) (by simp) ?_
 simp
theorem spec51 {n : Nat} (v : Va) (hfit : fitV v) (hnod : nodesV v ≤ 2 ^ 30) (f : Fu) (hf : shapedF f = true) (hp : polyF f = true) (hv : valN n v f = true) (D : Nat) :
  Go.Ab.Loc Pg Gl D 51 [encF f,encV v] [] (encI (leavesV v f)) [] := by
 refine loc_rd mixedP tok rfl rfl fun S => ?_
 unfold c51 encI
 rw [encF_eta,encV_eta]
 simp
 refine Rd_callM (spec86 f v D 7 8 (by decide)) (by simp [encF_eta f,encV_eta v]) (by simp) (by simp [entF,entV]) ?_
 simp
 refine Rd_callM (spec85 v hfit hnod f hf hp hv (D + 1) D 7 8 (by omega)) (by simp) (by simp) (by simp) ?_
 simp
end Go.Ab.Tab
/- The program's poly.Shape. -/
namespace Go.Ab.Tab
open Go Go.Ab
set_option maxRecDepth 10000
set_option linter.unusedVariables false
set_option linter.unusedSimpArgs false
def ordL : Int → List Int → Bool
 | _,[] => true
 | n,x :: l => decide (x = n) && ordL (n + 1) l
def shapeB (f : Fu) (v : Va) : Bool := valV f 2000 v && ordL 0 (leavesV v f)
section
variable (D : Nat) (τ0 : Nat → AV) (h4 : τ0 4 = .ptr D 4 1 0) (h5 : τ0 5 = .ptr D 5 1 0) (ro : Loop) (hst : ro.state = .ready) (hpe : ro.pending = none) (hps : ro.params.toList = [14])
 (hpre : comp Pg Gl Lx ro.assign = some c64_p0) (hbody : comp Pg Gl Lx ro.body = some c64_r0)
def ts64 : List AV := (List.range 20).map fun t => (τ0 t).strip
def E64 (s : Nat × Bool) : Ents := [(D,4,(1,.cells [.bool false])),(D,5,cE s.1),(D,19,(1,.lp (if s.2 then Go.Ab.finL (some .ret) (busyL ro) else ro) (ts64 τ0)))]
def go64 (s : Nat × Bool) (x : Int) : (Nat × Bool) × Bool := if x = s.1 then ((s.1 + 1,s.2),true) else ((s.1,true),false)
include h4 h5 hst hpe hps hpre hbody in
theorem round64 (D1 : Nat) (hD : D < D1) (m : Nat) (hl : m < 2 ^ 32) (x : Int) :
  Go.Ab.Loc Pg Gl D1 yid [.yl D 19 1,.int .i64 x] (E64 D τ0 ro (m,false)) (.bool (go64 (m,false) x).2) (E64 D τ0 ro (go64 (m,false) x).1) := by
 have hpz : ro.params.size = 1 := by rw [← Array.length_toList,hps]; rfl
 obtain ⟨jump,hj⟩ : ∃ jump : Option Jmp,jump = if x = m then none else some .ret := ⟨_,rfl⟩
 have hjn : (go64 (m,false) x).2 = jump.isNone := by rw [hj]; unfold go64; by_cases h : x = m <;> simp [h]
 rw [hjn]
 refine round_loc (L := Lx) (D0 := D) (i := 19) (g := 1) (ro := ro) (ts := ts64 τ0) (pre := c64_p0) (body := c64_r0) (n := 20) mixedP (by omega) (by simp [E64]) hst hpre hbody (by rw [hpz]; rfl) ?_ ?_
 ·intro b hb
  rw [hps,ts64,roundT_stF] at hb
  obtain ⟨t,_,rfl⟩ := List.mem_map.1 hb
  simp only [List.zip_cons_cons,List.zip_nil_right,List.foldl_cons,List.foldl_nil,upd]
  split
  ·trivial
  ·exact AV.dull_strip _
 intro S hS
 have s19 := (hS (D,19,(1,.lp ro (ts64 τ0))) (by simp [E64])).2
 have s4 := (hS (D,4,(1,.cells [.bool false])) (by simp [E64])).2
 have s5 := (hS (D,5,cE m) (by simp [E64])).2
 simp only at s19 s4 s5
 rw [hps,ts64,round_start]
 refine RunW_rn ?_
 rw [stF_D]
 simp [c64_p0]
 refine .inl ⟨rfl,rfl,s19,?_⟩
 generalize hts : List.map (fun t => (τ0 t).strip) (List.range 20) = ts
 have hts' : ts64 τ0 = ts := hts
 rw [hts'] at s19
 show RunW _ _ _ (stF 20 D1 (upd (upd (fun t => (τ0 t).strip) 14 (.int .i64 x)) 6 (.int .i64 x)) (fun _ => (0,.dead)) (updS S D 19 (1,.lp (busyL ro) ts)))
 refine RunW_rn ?_
 rw [stF_D]
 unfold c64_r0
 have hne : ¬ D = D1 := by omega
 have hwr : IntKind.i64.wrap ((m : Int) + 1) = ((m + 1 : Nat) : Int) := by rw [← wrap_i64_nat (n := m + 1) (by omega)]; rfl
 by_cases hx : x = m
 ·rw [if_pos hx] at hj
  rw [hj]
  unfold go64
  simp [h4,h5,updS,s4,s5,hne,hx,hwr]
  refine .inl ⟨rfl,rfl,by simp [stF_S,updS],fun d j hd => ?_⟩
  rw [stF_S,finL_busy hst hpe]
  simp only [E64,upds,List.foldl_cons,List.foldl_nil,hts',Bool.false_eq_true,if_false]
  simp only [updS]
  by_cases e1 : d = D ∧ j = 19
  ·rw [if_pos e1,if_pos e1]
  ·rw [if_neg e1,if_neg e1,if_neg e1]
   by_cases e2 : d = D ∧ j = 5
   ·rw [if_pos e2,if_pos e2]; rfl
   ·rw [if_neg e2,if_neg e2]
    by_cases e3 : d = D ∧ j = 4
    ·rw [if_pos e3,e3.1,e3.2,s4]
    ·rw [if_neg e3]
 ·rw [if_neg hx] at hj
  rw [hj]
  unfold go64
  simp [h4,h5,updS,s4,s5,hne,hx]
  refine .inr (.inl ⟨rfl,rfl,by simp [stF,updS],fun d j hd => ?_⟩)
  simp only [E64,upds,List.foldl_cons,List.foldl_nil,hts',if_true,stF]
  simp only [updS]
  by_cases e1 : d = D ∧ j = 19
  ·rw [if_pos e1,if_pos e1]
  ·rw [if_neg e1,if_neg e1]
   by_cases e3 : d = D ∧ j = 4
   ·rw [if_pos e3,if_neg (by omega : ¬ (d = D ∧ j = 5)),if_neg e1]
   ·rw [if_neg e3,if_neg e1]
    by_cases e2 : d = D ∧ j = 5
    ·rw [if_pos e2,e2.1,e2.2,s5]
    ·rw [if_neg e2]
def B64 (s : Nat × Bool) : Nat := if s.2 then 2 ^ 33 else s.1
include h4 h5 hst hpe hps hpre hbody in
theorem yld64 : Yld (E64 D τ0 ro) go64 D 19 B64 (2 ^ 32) where
 call := fun D1 s x hD hs => by
  obtain ⟨m,b⟩ := s
  cases b with
  | true => simp [B64] at hs
  | false => exact round64 D τ0 h4 h5 ro hst hpe hps hpre hbody D1 hD m (by simpa [B64] using hs) x
 sites := fun s s' => rfl
 nodup := fun s => by simp [E64,site]
 depth := fun s m hm => by
  simp only [E64,List.mem_cons,List.mem_nil_iff,or_false] at hm
  rcases hm with rfl | rfl | rfl <;> rfl
 live := fun s m hm => by
  simp only [E64,List.mem_cons,List.mem_nil_iff,or_false] at hm
  rcases hm with rfl | rfl | rfl <;> simp
 grow := fun s x h => by
  obtain ⟨m,b⟩ := s
  unfold go64 at h ⊢
  by_cases hx : x = m
  ·cases b <;> simp [hx,B64]
  ·simp [hx] at h
end
theorem goL64 : ∀ (l : List Int) (m : Nat),((goL go64 (m,false) l).2 = ordL m l) ∧ (goL go64 (m,false) l).1.2 = !ordL m l
 | [],m => by simp [goL,ordL]
 | x :: l,m => by
  rw [goL,ordL]
  unfold go64
  by_cases hx : x = m
  ·have := goL64 l (m + 1)
   unfold go64 at this
   simp [hx]
   simpa using this
  ·simp [hx]
theorem spec64 (f : Fu) (hf : shapedF f = true) (hp : polyF f = true) (v : Va) (hfit : fitV v) (D : Nat) : Go.Ab.Loc Pg Gl D 64 [encF f,encV v] [] (.bool (shapeB f v)) [] := by
 refine loc_rdR mixedP tok rfl rfl fun S hS => ?_
 unfold c64
 rw [encF_eta,encV_eta]
 refine .seq (RunW_pre (k1 := [_]) ?_)
 simp
 refine ⟨rfl,.seq (.seq (RunW_pre (k1 := [_]) ?_))⟩
 simp
 refine Rd_call (spec95 f hf 2000 (by omega) v hfit _) (by simp [encF_eta f,encV_eta v]) ?_
 cases hv : valV f 2000 v with
 | false =>
  unfold shapeB
  rw [hv]
  simp
  refine ⟨rfl,RunW.imp (Q := fnQ (RetM [.cell 4 false 1] (.bool false) D S [])) (fun w s' h => by cases w <;> first | exact h | exact h.elim) ?_⟩
  refine Rd.run (own := .im) ?_
  simp
 | true =>
  obtain ⟨hn,hN⟩ : nodesV v ≤ 2000 ∧ valN 2000 v f = true := by
   unfold valV at hv
   simp only [Bool.and_eq_true,decide_eq_true_eq] at hv
   exact ⟨hv.1,hv.2.1⟩
  have hl := leavesV_le v f
  simp
  refine ⟨rfl,.cond (t := false) (by simp) (.skip (.seq (RunW_pre (k1 := [_]) ?_)))⟩
  simp
  refine ⟨rfl,.seq (.seq (RunW_pre (k1 := [_]) ?_))⟩
  simp
  refine Rd_callM (spec86 f v D 17 18 (by decide)) (by simp [encF_eta f,encV_eta v]) (by simp) (by simp [entF,entV]) ?_
  simp
  refine ⟨rfl,.block (.stop ?_)⟩
  generalize hτ : upd _ 13 _ = τ0
  generalize hω : upd _ 18 _ = ω0
  have t4 : τ0 4 = .ptr D 4 1 0 := by rw [← hτ]; simp
  have t5 : τ0 5 = .ptr D 5 1 0 := by rw [← hτ]; simp
  have t13 : τ0 13 = .fn 111 [.ptr D 17 1 0,.ptr D 18 1 0] := by rw [← hτ]; simp
  have w4 : ω0 4 = (1,.cells [.bool false]) := by rw [← hω]; simp
  have w5 : ω0 5 = cE 0 := by rw [← hω]; simp
  have w17 : ω0 17 = entF f := by rw [← hω]; simp
  have w18 : ω0 18 = entV v := by rw [← hω]; simp
  have w19 : ω0 19 = (0,.dead) := by rw [← hω]; simp
  clear hτ hω
  have hsnap : snap (stF 20 D τ0 ω0 S) = ts64 τ0 := snap_stF
  obtain ⟨hg1,hg2⟩ := goL64 (leavesV v f) 0
  obtain ⟨m',hm'⟩ : ∃ m',(goL go64 (0,false) (leavesV v f)).1.1 = m' := ⟨_,rfl⟩
  have hge : (goL go64 (0,false) (leavesV v f)).1 = (m',!ordL ((0 : Nat) : Int) (leavesV v f)) := Prod.ext hm' hg2
  have hcast : ordL ((0 : Nat) : Int) (leavesV v f) = ordL 0 (leavesV v f) := rfl
  rw [hcast] at hge
  unfold shapeB
  rw [hv,Bool.true_and]
  have hloc : ∀ ro : Loop,ro.state = .ready → ro.pending = none → ro.params.toList = [14] → comp Pg Gl Lx ro.assign = some c64_p0 → comp Pg Gl Lx ro.body = some c64_r0 →
    Go.Ab.Loc Pg Gl (D + 1) 111 [.yl D 19 1,.ptr D 17 1 0,.ptr D 18 1 0] ((D,19,(1,.lp ro (ts64 τ0))) :: [(D,17,entF f),(D,18,entV v),(D,4,(1,.cells [.bool false])),(D,5,cE 0)]) (.tup [])
     ([(D,4,(1,.cells [.bool false])),(D,5,cE m')] ++ [(D,19,(1,.lp (if !ordL 0 (leavesV v f) then Go.Ab.finL (some .ret) (busyL ro) else ro) (ts64 τ0)))]) := by
   intro ro h1 h2 h3 hp1 hp2
   have := spec111 (yld64 D τ0 t4 t5 ro h1 h2 h3 hp1 hp2) v hfit (by omega) f hf hp hN (D + 1) D 17 18 (0,false) (by omega) (by omega) (by simp [B64]; omega)
   rw [hge] at this
   refine Loc.sub this fun m hm => ?_
   simp only [E64,List.mem_append,List.mem_cons,List.mem_nil_iff,or_false,Bool.false_eq_true,if_false] at hm ⊢
   rcases hm with (rfl | rfl | rfl) | rfl | rfl
   ·exact .inr (.inr (.inr (.inl rfl)))
   ·exact .inr (.inr (.inr (.inr rfl)))
   ·exact .inl rfl
   ·exact .inr (.inl rfl)
   ·exact .inr (.inr (.inl rfl))
  have hMS : ∀ m ∈ ([(D,17,entF f),(D,18,entV v),(D,4,(1,.cells [.bool false])),(D,5,cE 0)] : Ents),m.1 ≤ (stF 20 D τ0 ω0 S).D ∧ (m.1 = (stF 20 D τ0 ω0 S).D → m.2.1 < (stF 20 D τ0 ω0 S).os.length ∧ m.2.1 ≠ 19) ∧ (stF 20 D τ0 ω0 S).look m.1 m.2.1 = m.2.2 := by
   simp [w17,w18,w4,w5]
  have e : ∀ r1 r2 r3,rngS (stF 20 D τ0 ω0 S) 19 1 [(D,4,(1,.cells [.bool false])),(D,5,cE m')] r1 r2 r3 = stF 20 D τ0 (upd (upd (upd (upd (upd ω0 19 (1,.lp r1 (ts64 τ0))) 4 (1,.cells [.bool false])) 5 (cE m')) 19 (1,.lp r2 (ts64 τ0))) 19 (1,.lp r3 (ts64 τ0))) S := by
   intro r1 r2 r3
   simp only [rngS,hsnap,List.foldl_cons,List.foldl_nil,stF_up,stF_D,if_true]
  cases ho : ordL 0 (leavesV v f) with
  | true =>
   simp only [ho,Bool.not_true,Bool.false_eq_true,if_false] at hloc
   refine ⟨111,[.ptr D 17 1 0,.ptr D 18 1 0],19,(0,.dead),_,[(D,4,(1,.cells [.bool false])),(D,5,cE m')],none,(fun ro => ro),[.blk 0,.c c64_k0],by simp [t13],by decide,by simp [w19],fun ro h1 h2 => ⟨by rw [h1]; simp,by rw [h2]; rfl,rfl⟩,?_,hMS,by simp,rfl,fun r1 r2 r3 => ?_⟩
   ·intro ro h1 h2 h3 h4 h5
    rw [hsnap]
    exact hloc ro h1 h2 h3 h4 h5
   ·show RunW _ _ _ (rngS (stF 20 D τ0 ω0 S) 19 1 [(D,4,(1,.cells [.bool false])),(D,5,cE m')] r1 r2 r3)
    rw [e]
    refine Rd.run (own := .im) ?_
    simp [c64_k0,t4]
  | false =>
   simp only [ho,Bool.not_false,if_true] at hloc
   refine ⟨111,[.ptr D 17 1 0,.ptr D 18 1 0],19,(0,.dead),_,[(D,4,(1,.cells [.bool false])),(D,5,cE m')],some .ret,(fun ro => Go.Ab.finL (some .ret) (busyL ro)),[.c .ret,.blk 0,.c c64_k0],by simp [t13],by decide,by simp [w19],fun ro h1 h2 => ⟨by simp [Go.Ab.finL],rfl,rfl⟩,?_,hMS,by simp,rfl,fun r1 r2 r3 => ?_⟩
   ·intro ro h1 h2 h3 h4 h5
    rw [hsnap]
    exact hloc ro h1 h2 h3 h4 h5
   ·show RunW _ _ _ (rngS (stF 20 D τ0 ω0 S) 19 1 [(D,4,(1,.cells [.bool false])),(D,5,cE m')] r1 r2 r3)
    rw [e]
    refine Rd.run (own := .im) ?_
    simp [t4]
end Go.Ab.Tab
/- The program's poly.Split,Positions,Join. -/
namespace Go.Ab.Tab
open Go Go.Ab
set_option maxRecDepth 10000
set_option linter.unusedVariables false
set_option linter.unusedSimpArgs false
def splitR (f : Fu) (n : Int) (v : Va) : Va × List Int × Int := if askF f ≠ 0 then (v0,[],askF f) else if wholeN f n v ≠ 0 then (v0,[],wholeN f n v) else (shapeV v f,leavesV v f,0)
def rSplit (p : Va × List Int × Int) : AV := .tup [encV p.1,encI p.2.1,.int .i64 p.2.2]
theorem ask_ok {f : Fu} (h : askF f = 0) : isF f = true ∧ polyF f = true := by
 unfold askF at h
 cases hi : isF f with
 | false => rw [hi] at h; simp at h
 | true =>
  cases hp : polyF f with
  | false => rw [hi,hp] at h; simp at h
  | true => exact ⟨rfl,rfl⟩
theorem whole_ok {f : Fu} {n : Int} {v : Va} (h : wholeN f n v = 0) : 0 ≤ n ∧ n ≤ 100 ∧ valV f n.toNat v = true := by
 unfold wholeN at h
 by_cases h0 : fineN f n = 0
 ·rw [if_pos h0] at h
  unfold fineN at h0
  cases hi : isF f with
  | false => rw [hi] at h0; simp at h0
  | true =>
   rw [hi,if_pos rfl] at h0
   by_cases hr : n < 0 ∨ 100 < n
   ·rw [if_pos hr] at h0; cases h0
   ·refine ⟨by omega,by omega,?_⟩
    cases hv : valV f n.toNat v with
    | true => rfl
    | false => rw [hv] at h; simp at h
 ·rw [if_neg h0] at h; exact absurd h h0
theorem valV_ok {f : Fu} {n : Nat} {v : Va} (h : valV f n v = true) : nodesV v ≤ 2000 ∧ valN n v f = true := by
 unfold valV at h
 simp only [Bool.and_eq_true,decide_eq_true_eq] at h
 exact ⟨h.1,h.2.1⟩
theorem encV_v0 : encV v0 = .agg [.int .i64 0,.sl 3 [] .no,.sl 1 [] .no] := by unfold v0; rw [encV_mk]; rfl
theorem spec16 (f : Fu) (hf : fitF f) (n : Int) (v : Va) (hv : fitV v) (D : Nat) : Go.Ab.Loc Pg Gl D 16 [encF f,.int .i64 n,encV v] [] (rSplit (splitR f n v)) [] := by
 refine loc_rd mixedP tok rfl rfl fun S => ?_
 unfold c16 splitR
 rw [encF_eta,encV_eta]
 simp
 refine Rd_call (spec41 f hf _) (by simp [encF_eta f]) ?_
 by_cases ha : askF f = 0
 ·obtain ⟨hi,hp⟩ := ask_ok ha
  simp [ha]
  refine Rd_call (spec49 f hf n v hv _) (by simp [encF_eta f,encV_eta v]) ?_
  by_cases hw : wholeN f n v = 0
  ·obtain ⟨_,_,hv'⟩ := whole_ok hw
   obtain ⟨hn,hN⟩ := valV_ok hv'
   simp [hw]
   refine Rd_drCall (spec50 v hv (by omega) f (isF_shaped hi) hp hN _) (by simp [encF_eta f,encV_eta v]) ?_
   simp
   refine Rd_drCall (spec51 v hv (by omega) f (isF_shaped hi) hp hN _) (by simp [encF_eta f,encV_eta v]) ?_
   simp [rSplit,encV_eta (shapeV v f),encI]
  ·simp [hw,rSplit,encV_v0,encI]
 ·simp [ha,rSplit,encV_v0,encI]
def posR (f : Fu) (v : Va) : Int × Int := if askF f ≠ 0 then (0,askF f) else if shapeB f v then ((leavesV v f).length,0) else (0,20)
theorem spec25 (f : Fu) (hf : fitF f) (v : Va) (hv : fitV v) (D : Nat) : Go.Ab.Loc Pg Gl D 25 [encF f,encV v] [] (.tup [.int .i64 (posR f v).1,.int .i64 (posR f v).2]) [] := by
 refine loc_rd mixedP tok rfl rfl fun S => ?_
 unfold c25 posR
 rw [encF_eta,encV_eta]
 simp
 refine Rd_call (spec41 f hf _) (by simp [encF_eta f]) ?_
 by_cases ha : askF f = 0
 ·obtain ⟨hi,hp⟩ := ask_ok ha
  simp [ha]
  refine Rd_call (spec64 f (isF_shaped hi) hp v hv _) (by simp [encF_eta f,encV_eta v]) ?_
  cases hs : shapeB f v with
  | false => simp
  | true =>
   unfold shapeB at hs
   rw [Bool.and_eq_true] at hs
   obtain ⟨hn,hN⟩ := valV_ok hs.1
   simp
   refine Rd_call (spec51 v hv (by omega) f (isF_shaped hi) hp hN _) (by simp [encF_eta f,encV_eta v]) ?_
   simp [encI]
 ·simp [ha]
def joinV (states : List Int) (v : Va) (f : Fu) : Va := fillV (fun c => states[c]?.getD 0) 0 v f
end Go.Ab.Tab
/- The program's poly.given,walk,Follow,After. -/
namespace Go.Ab.Tab
open Go Go.Ab
set_option maxRecDepth 10000
set_option linter.unusedVariables false
set_option linter.unusedSimpArgs false
mutual
theorem leavesV_range {n : Nat} : ∀ (v : Va) (f : Fu),valN n v f = true → ∀ x ∈ leavesV v f,0 ≤ x ∧ x < n
 | .mk a gs ws,f,h,x,hx => by
  rw [leavesV] at hx
  rw [valN] at h
  simp only [Bool.and_eq_true] at h
  split at hx
  ·rename_i h0
   rw [List.mem_singleton] at hx
   subst hx
   have := h.1
   unfold okV numOk at this
   simp only [Bool.and_eq_true,decide_eq_true_eq] at this
   have h2 := this.2.1
   rw [if_pos h0] at h2
   simp only [Va.n] at h2
   omega
  ·exact leavesVs_range gs _ h.2.2 x hx
theorem leavesVs_range {n : Nat} : ∀ (l : List Va) (fs : List Fu),valNs n l fs = true → ∀ x ∈ leavesVs l fs,0 ≤ x ∧ x < n
 | [],_,_,x,hx => by rw [leavesVs] at hx; cases hx
 | v :: l,[],_,x,hx => by rw [leavesVs] at hx; cases hx
 | v :: l,f :: fs,h,x,hx => by
  rw [valNs,Bool.and_eq_true] at h
  rw [leavesVs,List.mem_append] at hx
  rcases hx with hx | hx
  ·exact leavesV_range v f h.1 x hx
  ·exact leavesVs_range l fs h.2 x hx
end
structure PolyY (s : Sy) : Prop where
 f : fitF s.f
 m : ∀ v ∈ s.m,fitV v
 sh : shapedF s.f = true
 po : polyF s.f = true
 len : s.m.length ≤ 100
 va : ∀ v ∈ s.m,valV s.f s.m.length v = true
theorem poly_of {s : Sy} (hf : fitF s.f) (hv : ∀ v ∈ s.m,fitV v) (hi : isY s = true) (ha : askF s.f = 0) : PolyY s := by
 obtain ⟨h1,h2⟩ := ask_ok ha
 unfold isY at hi
 simp only [Bool.and_eq_true,decide_eq_true_eq,List.all_eq_true] at hi
 exact ⟨hf,hv,isF_shaped h1,h2,hi.2.1,hi.2.2.1⟩
end Go.Ab.Tab
