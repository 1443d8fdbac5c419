/- The program's Reverse (53): the inner loops. -/
import Derived.Test.YtpgdlniekkeikaaDoorLangH
import Derived.Test.YtpgdlniekkeikaaDoorLangE
import Derived.Test.YtpgdlniekkeikaaDoorLangG
namespace Go.Ab.Tab
open Go Go.Ab
set_option maxRecDepth 10000
set_option linter.unusedVariables false
set_option linter.unusedSimpArgs false
end Go.Ab.Tab
/- The program's Reverse (53). -/
namespace Go.Ab.Tab
open Go Go.Ab
set_option maxRecDepth 10000
set_option linter.unusedVariables false
set_option linter.unusedSimpArgs false
@[simp] theorem encAu_one (p) : (encV (mkAu p)).one = false := by rw [encV_au]; rfl
@[simp] theorem encAu_cells (p) : (encV (mkAu p)).cells = [.int .i64 0,.sl 3 [.agg [.int .i64 (if p.1 then 1 else 0),.sl 3 [] .no,.sl 1 [] .no],.agg [.int .i64 0,.sl 3 (p.2.map fun r => encV (mkRow r)) .no,.sl 1 [] .no]] .no,.sl 1 [] .no] := by rw [encV_au]; rfl
@[simp] theorem encAu_strip (p) : (encV (mkAu p)).strip = encV (mkAu p) := by rw [encV_au]; rfl
end Go.Ab.Tab
/- The reference's Index (96) and Reverse (54): the inner loops. -/
namespace Go.Ab.Tab
open Go Go.Ab
set_option maxRecDepth 10000
set_option linter.unusedVariables false
set_option linter.unusedSimpArgs false
end Go.Ab.Tab
/- The reference's Reverse (54). -/
namespace Go.Ab.Tab
open Go Go.Ab
set_option maxRecDepth 10000
set_option linter.unusedVariables false
set_option linter.unusedSimpArgs false
end Go.Ab.Tab
/- The plain law of reversal. -/
namespace Go.Ab.Tab
open Go Go.Ab
set_option maxRecDepth 10000
set_option linter.unusedVariables false
set_option linter.unusedSimpArgs false
theorem nodesVs_map {α : Type} (g : α → Va) (c : Nat) : ∀ (l : List α),(∀ a ∈ l,nodesV (g a) ≤ c) → nodesVs (l.map g) ≤ l.length * c
 | [],_ => by simp [nodesVs]
 | a :: l,h => by
  have h1 := nodesVs_map g c l fun b hb => h b (by simp [hb])
  have h2 := h a (by simp)
  rw [List.map_cons,nodesVs,List.length_cons,Nat.add_mul]
  omega
theorem runB_wd (A : PA) : ∀ (w : List Int) (u : BS),runB A u w = runWd A u (w.map Int.toNat)
 | [],u => rfl
 | a :: w,u => by
  show runB A (nextA A u a.toNat) w = runWd A (nextA A u a.toNat) (w.map Int.toNat)
  exact runB_wd A w _
end Go.Ab.Tab
/- Law 11 (DetReverses). -/
namespace Go.Ab.Tab
open Go Go.Ab
set_option maxRecDepth 10000
set_option linter.unusedVariables false
set_option linter.unusedSimpArgs false
theorem faultW_one {k : Nat} {ps : Aut} (hG : AuG k ps) (l w : List Int) : faultW (auY k ps) l w = if isSet ps.length l && wordOk k w then 0 else 1 := faultW_ok hG l w
end Go.Ab.Tab
/- Values: the reference's Map (110). -/
namespace Go.Ab.Tab
open Go Go.Ab
set_option maxRecDepth 10000
set_option linter.unusedVariables false
set_option linter.unusedSimpArgs false
mutual
def mapV (to : List Int) : Va → Fu → Va
 | .mk a gs ws,f => if f.k = 0 then .mk (to[a.toNat]?.getD 0) [] [] else putV f (.mk a gs ws) (mapVs to gs (partsF f (.mk a gs ws)))
def mapVs (to : List Int) : List Va → List Fu → List Va
 | [],_ => []
 | _ :: _,[] => []
 | v :: l,f :: fs => mapV to v f :: mapVs to l fs
end
theorem mapVs_fit (to : List Int) : ∀ (l : List Va) (fs : List Fu),(∀ v ∈ l,∀ f,fitV (mapV to v f)) → ∀ a ∈ mapVs to l fs,fitV a
 | [],fs,h,a,ha => by rw [mapVs] at ha; cases ha
 | v :: l,[],h,a,ha => by rw [mapVs] at ha; cases ha
 | v :: l,f :: fs,h,a,ha => by
  rw [mapVs] at ha
  rcases List.mem_cons.1 ha with rfl | ha
  ·exact h v (by simp) f
  ·exact mapVs_fit to l fs (fun w hw => h w (by simp [hw])) a ha
theorem mapVs_le (to : List Int) : ∀ (l : List Va) (fs : List Fu),(mapVs to l fs).length ≤ l.length
 | [],fs => by rw [mapVs]; exact Nat.le_refl _
 | v :: l,[] => by rw [mapVs]; simp
 | v :: l,f :: fs => by rw [mapVs,List.length_cons,List.length_cons]; have := mapVs_le to l fs; omega
theorem mapV_fit (to : List Int) : ∀ (v : Va),fitV v → ∀ f,fitV (mapV to v f) := by
 refine Va.ind' fun a gs ws hrec => ?_
 intro hv f
 rw [mapV]
 split
 ·simp [fitV,fitVs,maxLen]
 ·have hf := (fitV_gs _).1 hv
  have h1 := putV_gs f (.mk a gs ws) (mapVs to gs (partsF f (.mk a gs ws)))
  have h2 := putV_ws f (.mk a gs ws) (mapVs to gs (partsF f (.mk a gs ws)))
  have h3 := mapVs_le to gs (partsF f (.mk a gs ws))
  rw [fitV_gs]
  have q1 : gs.length ≤ maxLen := hf.1.1
  refine ⟨⟨by omega,?_⟩,fitVs_of fun b hb => mapVs_fit to gs _ (fun v hv' f => hrec v hv' (fitVs_mem hf.2 v hv') f) b (putV_mem _ _ _ b hb)⟩
  have := Nat.max_le.2 ⟨(by omega : (mapVs to gs (partsF f (.mk a gs ws))).length ≤ maxLen),hf.1.2⟩
  omega
theorem normVs_get {n : Nat} : ∀ {l : List Va} {fs : List Fu},(normVs n l fs).isSome = true → ∀ (i : Nat) (h : i < l.length) (h2 : i < fs.length),(normV n l[i] fs[i]).isSome = true
 | [],fs,_,i,h,_ => by simp at h
 | v :: l,[],_,i,_,h2 => by simp at h2
 | v :: l,f :: fs,hs,i,h,h2 => by
  rw [normVs] at hs
  cases hu : normV n v f with
  | none => rw [hu] at hs; simp at hs
  | some u =>
   rw [hu] at hs
   cases i with
   | zero => simpa using by rw [hu]; rfl
   | succ i => simpa using normVs_get (by simpa using hs) i (by simpa using h) (by simpa using h2)
theorem l110 (D : Nat) (f : Fu) (hf : shapedF f = true) (to : List Int) (v : Va) (hv : fitV v) (hvl : v.gs.length ≤ 2 ^ 30) (hok : okV to.length f v = true) (hns : (normVs to.length v.gs (partsF f v)).isSome = true)
  (hrec : ∀ a ∈ v.gs,∀ (f : Fu),shapedF f = true → (normV to.length a f).isSome = true → ∀ (D : Nat),Go.Ab.Loc Pg Gl D 110 [encF f,encV a,encI to] [] (encV (mapV to a f)) []) (S) :
  ∀ (j i : Nat) (acc : List Va) (tp : Tip) (τ ω) (r : AV),i + j = v.gs.length → (tp = .tip ∨ tp = .nil) → acc.length = i → (∀ a ∈ acc,fitV a) →
  τ 2 = encI to → τ 3 = .ptr D 3 1 0 → τ 6 = .ptr D 6 1 0 → τ 7 = .sl 3 ((partsF f v).map encF) .no → τ 9 = .ptr D 9 1 0 → τ 34 = .sl 3 (v.gs.map encV) .no → τ 35 = .int .i64 v.gs.length → τ 36 = .int .i64 i →
  ω 3 = (1,.cells [.int .i64 f.k,.int .i64 f.n,.sl 3 (f.gs.map encF) .no]) → ω 6 = (1,.cells [.int .i64 0,.sl 3 [] .tip,.sl 1 [] .tip]) →
  ω 9 = (1,.cells [.int .i64 v.n,.sl 3 (acc.map encV) tp,.sl 1 (v.ws.map (AV.int .i64)) .no]) →
  r = encV (putV f v (acc ++ mapVs to (v.gs.drop i) ((partsF f v).drop i))) →
  Rd (Loc Pg Gl) .im (RetQ [.cell 6 true 3] r S) [.lp c110_l0,.blk 0,.c c110_k0] (stF 62 D τ ω S) := by
 have hpl : (partsF f v).length = v.gs.length := by
  have hok' := hok
  unfold okV partsOk at hok'
  simp only [Bool.and_eq_true,decide_eq_true_eq] at hok'
  exact hok'.1.2
 intro j
 induction j with
 | zero =>
  intro i acc tp τ ω r hi htp hal haf h2 h3 h6 h7 h9 h34 h35 h36 w3 w6 w9 hr
  refine Rd_lpE c110_l0.eq_1 ?_
  obtain rfl : i = v.gs.length := by omega
  rw [List.drop_length,mapVs,List.append_nil] at hr
  simp [h2,h3,h6,h7,h9,h34,h35,h36,w3,w6,w9,c110_k0]
  refine Rd_call (spec124 _ f.k) (by simp) ?_
  have hok' := hok
  unfold okV at hok'
  simp only [Bool.and_eq_true] at hok'
  obtain ⟨hw1,hw2,hw3⟩ := weighed_ok hok'.2.2
  rw [putV] at hr
  cases hs : sets f.k with
  | false =>
   rw [hs] at hr
   simp [encV_mk] at hr
   simp [h3,h6,h9,w3,w6,w9]
   rcases htp with rfl | rfl <;> simp [hr]
  | true =>
   rw [hs,if_pos rfl] at hr
   simp [h3,h6,h9,w3,w6,w9]
   refine Rd_call (spec125 _ f.k (.mk v.n acc v.ws) (by show acc.length ≤ _; omega) haf (fun h => by have := hw1 h; exact ⟨by show v.ws.length = acc.length; omega,this.2⟩) (fun h e => by have := hw2 h; have e : acc = [] := e; rw [e] at hal; exact this (List.length_eq_zero_iff.1 hal.symm))) (by rcases htp with rfl | rfl <;> simp [encV_mk]) ?_
   rw [encV_eta] at hr
   rw [encV_eta]
   simp [h3,h6,h9,w3,w6,w9]
   simp [hr]
 | succ j ih =>
  intro i acc tp τ ω r hi htp hal haf h2 h3 h6 h7 h9 h34 h35 h36 w3 w6 w9 hr
  refine Rd_lpE c110_l0.eq_1 ?_
  have hlt : i < v.gs.length := by omega
  have hwr := wrap_next hlt (by unfold maxLen; omega)
  have hlp : i < (partsF f v).length := by omega
  have hle : (i + 1) * 56 ≤ 1099511627776 := by omega
  rw [List.drop_eq_getElem_cons hlt,List.drop_eq_getElem_cons hlp,mapVs] at hr
  have hu := mapV_fit to v.gs[i] (fitVs_mem ((fitV_gs _).1 hv).2 _ (List.getElem_mem hlt)) (partsF f v)[i]
  have hc := hrec v.gs[i] (List.getElem_mem hlt) (partsF f v)[i] (partsF_shaped hf v _ (List.getElem_mem hlp)) (normVs_get hns i hlt hlp)
  have htp' : (tp = .nil ∨ tp = .tip) = True := by simp; exact htp.symm
  simp [h2,h3,h6,h7,h9,h34,h35,h36,w3,w6,w9,hlt,hlp,hwr,encV_eta v.gs[i],encF_eta (partsF f v)[i]]
  refine Rd_drCall (hc _) (by simp [encI,encV_eta v.gs[i],encF_eta (partsF f v)[i]]) ?_
  generalize mapV to v.gs[i] (partsF f v)[i] = u at hr hu
  simp [htp,htp',encV_eta u,h9,w9,hal,hle,h36,hwr]
  refine ih (i + 1) (acc ++ [u]) .tip _ _ r (by omega) (.inl rfl) (by simp [hal]) ?_ ?_ ?_ ?_ ?_ ?_ ?_ ?_ ?_ ?_ ?_ ?_ ?_
  case refine_1 =>
   intro b hb
   rcases List.mem_append.1 hb with hb | hb
   ·exact haf b hb
   ·rw [List.mem_singleton.1 hb]; exact hu
  case refine_13 => rw [hr,List.append_assoc]; rfl
  all_goals simp [h2,h3,h6,h7,h9,h34,h35,h36,w3,w6,encV_eta u]
theorem spec110 (to : List Int) (hto : to.length ≤ 100) : ∀ (v : Va),fitV v → nodesV v ≤ 2 ^ 30 → ∀ (f : Fu),shapedF f = true → (normV to.length v f).isSome = true → ∀ (D : Nat),Go.Ab.Loc Pg Gl D 110 [encF f,encV v,encI to] [] (encV (mapV to v f)) [] := by
 refine Va.ind' fun a gs ws hrec => ?_
 intro hv hnod f hf hns D
 have hfv := (fitV_gs _).1 hv
 rw [nodesV] at hnod
 have hgl : gs.length ≤ 2 ^ 30 := by have := nodesVs_len gs; omega
 refine loc_rd mixedP tok rfl rfl fun S => ?_
 unfold c110
 generalize hr : encV (mapV to (.mk a gs ws) f) = r
 rw [mapV] at hr
 rw [normV] at hns
 generalize hv' : Va.mk a gs ws = v at *
 have ev : v.gs = gs := by rw [← hv']; rfl
 have ew : v.ws = ws := by rw [← hv']; rfl
 have en : v.n = a := by rw [← hv']; rfl
 cases hok : okV to.length f v with
 | false => rw [hok] at hns; simp at hns
 | true =>
 rw [hok,if_pos rfl] at hns
 have hns : (normVs to.length v.gs (partsF f v)).isSome = true := by rw [ev]; simpa using hns
 have hok' := hok
 unfold okV at hok'
 simp only [Bool.and_eq_true] at hok'
 obtain ⟨hw1,_,hw2⟩ := weighed_ok hok'.2.2
 have hwl : v.ws.length * 8 ≤ 1099511627776 := by
  cases h : wtd f.k with
  | true => have := (hw1 h).1; rw [ev] at this; omega
  | false => rw [hw2 h]; simp
 have hnum := hok'.2.1
 rw [encF_eta f,encV_eta v]
 by_cases h0 : f.k = 0
 ·rw [if_pos h0] at hr
  have hrange : 0 ≤ v.n ∧ v.n < to.length := by
   have := hnum
   unfold numOk at this
   simp [h0] at this
   omega
  obtain ⟨x,hx⟩ : ∃ x : Nat,v.n = x := ⟨v.n.toNat,by omega⟩
  have hxl : x < to.length := by omega
  rw [← en,hx,Int.toNat_natCast,List.getElem?_eq_getElem hxl,Option.getD_some] at hr
  simp [h0,hx,encI,hxl]
  simp [← hr,encV_mk]
 ·rw [if_neg h0] at hr
  simp [h0]
  refine Rd_call (spec123 _ f hf v (by rw [ev]; omega)) (by simp [encF_eta f,encV_eta v]) ?_
  simp [rParts,hok'.1,hwl]
  refine l110 D f hf to v hv (by rw [ev]; exact hgl) hok hns (fun b hb f hf hs D => hrec b (by rw [ev] at hb; exact hb) (fitVs_mem hfv.2 b (by rw [ev] at hb ⊢; exact hb)) (by have := nodesVs_le hb; rw [ev] at this; omega) f hf hs D) S v.gs.length 0 [] .tip _ _ r (by omega) (.inl rfl) rfl (by simp) ?_ ?_ ?_ ?_ ?_ ?_ ?_ ?_ ?_ ?_ ?_ ?_
  case refine_12 => rw [← hr,ev]; simp
  all_goals simp [encI]
end Go.Ab.Tab
/- The reference's finer (89) and Rounds (43). -/
namespace Go.Ab.Tab
open Go Go.Ab
set_option maxRecDepth 10000
set_option linter.unusedVariables false
set_option linter.unusedSimpArgs false
def idxV (u : Va) : Nat → List Va → Option Nat
 | _,[] => none
 | k,y :: l => if cmpV y u = 0 then some k else idxV u (k + 1) l
def addV (keys : List Va) (u : Va) : List Va × Nat := match idxV u 0 keys with | some i => (keys,i) | none => (keys ++ [u],keys.length)
def fineF (f : Fu) (to : List Int) : List Va → List Va × List Nat → List Va × List Nat
 | [],p => p
 | v :: l,p => fineF f to l ((addV p.1 (mapV to v f)).1,p.2 ++ [(addV p.1 (mapV to v f)).2])
theorem addV_len (keys : List Va) (u : Va) : (addV keys u).1.length ≤ keys.length + 1 := by unfold addV; split <;> simp
theorem idxV_none {u : Va} : ∀ {l : List Va} {k : Nat},idxV u k l = none → ∀ (i : Nat) (h : i < l.length),cmpV l[i] u ≠ 0
 | [],k,_,i,h => by simp at h
 | y :: l,k,hn,i,h => by
  rw [idxV] at hn
  split at hn
  ·cases hn
  ·rename_i hc
   cases i with
   | zero => exact hc
   | succ i => exact idxV_none hn i (by simpa using h)
theorem idxV_some {u : Va} : ∀ {l : List Va} {k j : Nat},idxV u k l = some j → k ≤ j ∧ ∃ h : j - k < l.length,cmpV l[j - k] u = 0 ∧ ∀ (i : Nat) (h2 : i < j - k),cmpV l[i] u ≠ 0
 | [],k,j,h => by cases h
 | y :: l,k,j,h => by
  rw [idxV] at h
  split at h
  ·rename_i hc
   injection h with h; subst h
   exact ⟨Nat.le_refl _,by simp,by simpa using hc,fun i h2 => by omega⟩
  ·rename_i hc
   obtain ⟨h1,h2,h3,h4⟩ := idxV_some h
   have e : j - k = (j - (k + 1)) + 1 := by omega
   refine ⟨by omega,by simp; omega,by simp only [e]; simpa using h3,fun i hi => ?_⟩
   cases i with
   | zero => exact hc
   | succ i => simpa using h4 i (by omega)
theorem l89_0 (D : Nat) (keys : List Va) (u : Va) (hu : fitV u) (hkf : ∀ a ∈ keys,fitV a) (hkl : keys.length ≤ 2 ^ 30) (Q : St → Prop) (K : List AI) (S) (τ0 : Nat → AV) (ω0 : Nat → Ent) (h5 : τ0 5 = .sl 3 (keys.map encV) .tip) (g9 : Nat) (h9 : τ0 9 = .ptr D 9 g9 0) (w9 : ω0 9 = (g9,.cells [.int .i64 u.n,.sl 3 (u.gs.map encV) .no,.sl 1 (u.ws.map (AV.int .i64)) .no])) :
  ∀ (m i : Nat) (τ ω),i + m = keys.length → (∀ (j : Nat) (h : j < i) (h2 : j < keys.length),cmpV keys[j] u ≠ 0) → (∀ x,x < 15 → x ≠ 10 → τ x = τ0 x) → τ 10 = .int .i64 i → (∀ j,ω j = ω0 j) →
  (∀ τ' ω',(∀ x,x < 15 → x ≠ 10 → τ' x = τ0 x) → τ' 10 = .int .i64 (addV keys u).2 → (∀ j,ω' j = ω0 j) → Rd (Loc Pg Gl) .im Q K (stF 52 D τ' ω' S)) →
  Rd (Loc Pg Gl) .im Q (.lp c89_l0 :: .blk 2 :: K) (stF 52 D τ ω S) := by
 intro m
 induction m with
 | zero =>
  intro i τ ω hi hno hτ h10 hω hend
  refine Rd_lpE c89_l0.eq_1 ?_
  obtain rfl : i = keys.length := by omega
  have a5 := (hτ 5 (by decide) (by decide)).trans h5
  have a9 := (hτ 9 (by decide) (by decide)).trans h9
  have hnone : idxV u 0 keys = none := by
   cases h : idxV u 0 keys with
   | none => rfl
   | some j =>
    obtain ⟨_,h2,h3,_⟩ := idxV_some h
    simp only [Nat.sub_zero] at h2 h3
    exact absurd h3 (hno _ h2 h2)
  simp [a5,h10]
  refine hend _ _ (fun x q1 q2 => ?_) ?_ hω
  ·rw [← hτ x q1 q2]; simp only [upd]; repeat rw [if_neg (by omega)]
  ·simp [h10,addV,hnone]
 | succ m ih =>
  intro i τ ω hi hno hτ h10 hω hend
  refine Rd_lpE c89_l0.eq_1 ?_
  have hlt : i < keys.length := by omega
  have hwr : IntKind.i64.wrap ((i : Int) + 1) = ((i + 1 : Nat) : Int) := by rw [← wrap_i64_nat (n := i + 1) (by omega)]; rfl
  have a5 := (hτ 5 (by decide) (by decide)).trans h5
  have a9 := (hτ 9 (by decide) (by decide)).trans h9
  have v9 := (hω 9).trans w9
  obtain ⟨y,hy⟩ : ∃ y,keys[i] = y := ⟨_,rfl⟩
  have hyf := hkf y (by rw [← hy]; exact List.getElem_mem hlt)
  have s72 := spec72 y u hyf (D + 1)
  rw [encV_eta u,encV_eta y] at s72
  simp [a5,h10,hlt,hy,a9,v9,encV_eta y]
  refine Rd_drCall s72 (by simp) ?_
  by_cases hc : cmpV y u = 0
  ·simp [hc]
   have hsome : idxV u 0 keys = some i := by
    cases h : idxV u 0 keys with
    | none => exact absurd (by rw [hy]; exact hc) (idxV_none h i hlt)
    | some j =>
     obtain ⟨_,h2,h3,h4⟩ := idxV_some h
     simp only [Nat.sub_zero] at h2 h3 h4
     rcases Nat.lt_trichotomy j i with q | q | q
     ·exact absurd h3 (hno _ q h2)
     ·rw [q]
     ·exact absurd (by rw [hy]; exact hc) (h4 i q)
   refine hend _ _ (fun x q1 q2 => ?_) ?_ hω
   ·rw [← hτ x q1 q2]; simp only [upd]; repeat rw [if_neg (by omega)]
   ·simp [h10,addV,hsome]
  ·simp [hc,h10,hwr]
   refine ih (i + 1) _ _ (by omega) (fun j h h2 => ?_) (fun x q1 q2 => ?_) ?_ hω hend
   ·by_cases e : j = i
    ·subst e; rw [hy]; exact hc
    ·exact hno j (by omega) h2
   ·rw [← hτ x q1 q2]; simp only [upd]; repeat rw [if_neg (by omega)]
   ·simp
theorem fineF_len (f : Fu) (to : List Int) : ∀ (l : List Va) (p : List Va × List Nat),(fineF f to l p).2.length = p.2.length + l.length ∧ (fineF f to l p).1.length ≤ p.1.length + l.length
 | [],p => by simp [fineF]
 | v :: l,p => by
  rw [fineF]
  have h := fineF_len f to l ((addV p.1 (mapV to v f)).1,p.2 ++ [(addV p.1 (mapV to v f)).2])
  have h2 := addV_len p.1 (mapV to v f)
  simp only [List.length_append,List.length_cons,List.length_nil] at h ⊢
  omega
theorem l89_1 (D : Nat) (f : Fu) (hf : shapedF f = true) (to : List Int) (hto : to.length ≤ 100) (m0 : List Va) (hm : m0.length ≤ 2 ^ 20) (hfit : ∀ v ∈ m0,fitV v) (hnod : ∀ v ∈ m0,nodesV v ≤ 2 ^ 30) (hns : ∀ v ∈ m0,(normV to.length v f).isSome = true) (ws : List AV) (hws : ws = [.int .i64 f.k,.int .i64 f.n,.sl 3 (f.gs.map encF) .no]) (S) (r : AV) :
  ∀ (j i : Nat) (keys : List Va) (out : List Nat) (τ ω),i + j = m0.length → keys.length ≤ i → out.length = i → (∀ a ∈ keys,fitV a) →
  τ 1 = encI to → τ 2 = .ptr D 2 1 0 → τ 5 = .sl 3 (keys.map encV) .tip → τ 6 = .sl 1 (out.map encN) .tip → τ 12 = .sl 3 (m0.map encV) .no → τ 13 = .int .i64 m0.length → τ 14 = .int .i64 i → ω 2 = (1,.cells (ws ++ [.sl 3 (m0.map encV) .no])) →
  r = .sl 1 ((fineF f to (m0.drop i) (keys,out)).2.map encN) .no →
  Rd (Loc Pg Gl) .im (RetQ [.tmp 4] r S) [.lp c89_l1,.blk 0,.c c89_k2] (stF 52 D τ ω S) := by
 subst hws
 intro j
 induction j with
 | zero =>
  intro i keys out τ ω hi hk ho hkf h1 h2 h5 h6 h12 h13 h14 w2 hr
  refine Rd_lpE c89_l1.eq_1 ?_
  obtain rfl : i = m0.length := by omega
  rw [List.drop_length,fineF] at hr
  simp [h13,h14,c89_k2,h6,hr]
 | succ j ih =>
  intro i keys out τ ω hi hk ho hkf h1 h2 h5 h6 h12 h13 h14 w2 hr
  refine Rd_lpE c89_l1.eq_1 ?_
  have hlt : i < m0.length := by omega
  have hwr : IntKind.i64.wrap ((i : Int) + 1) = ((i + 1 : Nat) : Int) := by rw [← wrap_i64_nat (n := i + 1) (by omega)]; rfl
  obtain ⟨v,hv⟩ : ∃ v,m0[i] = v := ⟨_,rfl⟩
  have hvm : v ∈ m0 := by rw [← hv]; exact List.getElem_mem hlt
  have s110 := spec110 to hto v (hfit v hvm) (hnod v hvm) f hf (hns v hvm) (D + 1)
  rw [List.drop_eq_getElem_cons hlt,hv,fineF] at hr
  have hu := mapV_fit to v (hfit v hvm) f
  generalize mapV to v f = u at s110 hr hu
  rw [encF_eta,encV_eta v,encV_eta u] at s110
  simp [h13,h14,hlt,h12,hv,h2,w2,encV_eta v,h1]
  refine Rd_call s110 (by simp [encI]) ?_
  simp
  refine l89_0 D keys u hu hkf (by omega) _ _ S _ _ ?_ ((ω 9).1 + 1) ?_ ?_ keys.length 0 _ _ (by omega) (fun j h => by omega) (fun x _ _ => rfl) ?_ (fun j => rfl) ?_
  case refine_5 =>
   intro τ1 ω1 hτ1 h10 hω1
   have a1 : τ1 1 = encI to := by rw [hτ1 1 (by decide) (by decide)]; simp [h1]
   have a2 : τ1 2 = .ptr D 2 1 0 := by rw [hτ1 2 (by decide) (by decide)]; simp [h2]
   have a5 : τ1 5 = .sl 3 (keys.map encV) .tip := by rw [hτ1 5 (by decide) (by decide)]; simp [h5]
   have a6 : τ1 6 = .sl 1 (out.map encN) .tip := by rw [hτ1 6 (by decide) (by decide)]; simp [h6]
   have a9 : τ1 9 = .ptr D 9 ((ω 9).1 + 1) 0 := by rw [hτ1 9 (by decide) (by decide)]; simp
   have a12 : τ1 12 = .sl 3 (m0.map encV) .no := by rw [hτ1 12 (by decide) (by decide)]; simp [h12]
   have a13 : τ1 13 = .int .i64 m0.length := by rw [hτ1 13 (by decide) (by decide)]; simp [h13]
   have a14 : τ1 14 = .int .i64 i := by rw [hτ1 14 (by decide) (by decide)]; simp [h14]
   have v2 := hω1 2
   have v9 := hω1 9
   simp [w2] at v2
   simp at v9
   have hle1 : (keys.length + 1) * 56 ≤ 1099511627776 := by omega
   have hle2 : (out.length + 1) * 8 ≤ 1099511627776 := by omega
   unfold c89_k0
   cases hidx : idxV u 0 keys with
   | some q =>
    have e : addV keys u = (keys,q) := by unfold addV; rw [hidx]
    obtain ⟨_,q1,_,_⟩ := idxV_some hidx
    rw [e] at hr h10
    have hne : ¬ (q : Int) = keys.length := by omega
    have hne2 : ¬ q = keys.length := by omega
    simp [a5,a6,h10,hne,hne2,hle2,c89_k1,a14,hwr]
    refine ih (i + 1) keys (out ++ [q]) _ _ (by omega) (by omega) (by simp; omega) hkf ?_ ?_ ?_ ?_ ?_ ?_ ?_ ?_ hr
    all_goals simp [a1,a2,a5,a12,a13,v2,encN]
   | none =>
    have e : addV keys u = (keys ++ [u],keys.length) := by unfold addV; rw [hidx]
    rw [e] at hr h10
    simp [a5,a6,a9,v9,h10,hle1,hle2,c89_k1,a14,hwr]
    refine ih (i + 1) (keys ++ [u]) (out ++ [keys.length]) _ _ (by omega) (by simp; omega) (by simp; omega) ?_ ?_ ?_ ?_ ?_ ?_ ?_ ?_ ?_ hr
    case refine_1 =>
     intro b hb
     rcases List.mem_append.1 hb with hb | hb
     ·exact hkf b hb
     ·rw [List.mem_singleton.1 hb]; exact hu
    all_goals simp [a1,a2,a12,a13,v2,encN,encV_eta u]
  all_goals simp [h5]
def finer (s : Sy) (to : List Int) : List Nat := (fineF s.f to s.m ([],[])).2
theorem spec89 (D : Nat) (s : Sy) (hf : shapedF s.f = true) (to : List Int) (hto : to.length ≤ 100) (hm : s.m.length ≤ 2 ^ 20) (hfit : ∀ v ∈ s.m,fitV v) (hnod : ∀ v ∈ s.m,nodesV v ≤ 2 ^ 30) (hns : ∀ v ∈ s.m,(normV to.length v s.f).isSome = true) :
  Go.Ab.Loc Pg Gl D 89 [encY s,encI to] [] (.sl 1 ((finer s to).map encN) .no) [] := by
 refine loc_rd mixedP tok rfl rfl fun S => ?_
 unfold c89
 generalize hr : AV.sl 1 ((finer s to).map encN) .no = r
 rw [encY]
 simp
 refine l89_1 D s.f hf to hto s.m hm hfit hnod hns _ rfl S r s.m.length 0 [] [] _ _ (by omega) (by simp) rfl (by simp) ?_ ?_ ?_ ?_ ?_ ?_ ?_ ?_ ?_
 case refine_9 => rw [← hr]; rfl
 all_goals simp [encI]
end Go.Ab.Tab
/- The reference's Rounds (43). -/
namespace Go.Ab.Tab
open Go Go.Ab
set_option maxRecDepth 10000
set_option linter.unusedVariables false
set_option linter.unusedSimpArgs false
def toZ (l : List Nat) : List Int := l.map fun (x : Nat) => (x : Int)
theorem toZ_enc (l : List Nat) : AV.sl 1 (l.map encN) .no = encI (toZ l) := by simp [toZ,encI,encN]
theorem toZ_len (l : List Nat) : (toZ l).length = l.length := by simp [toZ]
def roundsF (s : Sy) : Nat → List Nat → List (List Nat)
 | 0,_ => []
 | k + 1,l => finer s (toZ l) :: roundsF s k (finer s (toZ l))
theorem finer_len (s : Sy) (to : List Int) : (finer s to).length = s.m.length := by
 have := (fineF_len s.f to s.m ([],[])).1
 simpa [finer] using this
abbrev encNs (l : List Nat) : AV := encI (toZ l)
theorem frz_zero {n D : Nat} {τ : Nat → AV} {ω : Nat → Ent} {S : Nat → Nat → Ent} {A g m : Nat} (hA : A < n) (hw : ω A = (g,.cells (List.replicate m (AV.int .i64 0)))) :
  frz (stF n D τ ω S) frzD (.own D A g 0 m 1 false) = some (encNs (List.replicate m 0),[(D,A)]) := by
 have := frz_own_ints (D := D) (τ := τ) (S := S) (len := m) (l := List.replicate m 0) 18 hA (by simpa using hw) (by simp)
 rw [show frzD = 18 + 2 from rfl,this]
 simp [toZ,encI]
theorem l43 (D : Nat) (s : Sy) (hf : shapedF s.f = true) (hm : s.m.length ≤ 100) (hfit : ∀ v ∈ s.m,fitV v) (hnod : ∀ v ∈ s.m,nodesV v ≤ 2 ^ 30) (hns : ∀ v ∈ s.m,(normV s.m.length v s.f).isSome = true) (k : Nat) (hk : k ≤ 2 ^ 20) (S) (r : AV) :
  ∀ (j i : Nat) (acc : List (List Nat)) (l : List Nat) (τ ω),i + j = k → acc.length = i → l.length = s.m.length →
  τ 2 = .ptr D 2 1 0 → τ 5 = .sl 1 ((acc ++ [l]).map encNs) .tip → τ 11 = .int .i64 k → τ 12 = .int .i64 i → ω 2 = (1,.cells [.int .i64 s.f.k,.int .i64 s.f.n,.sl 3 (s.f.gs.map encF) .no,.sl 3 (s.m.map encV) .no]) →
  r = .sl 1 ((acc ++ [l] ++ roundsF s j l).map encNs) .no →
  Rd (Loc Pg Gl) .im (RetQ [.tmp 4] r S) [.lp c43_l0,.blk 0,.c c43_k0] (stF 27 D τ ω S) := by
 intro j
 induction j with
 | zero =>
  intro i acc l τ ω hi ha hl h2 h5 h11 h12 w2 hr
  refine Rd_lpE c43_l0.eq_1 ?_
  obtain rfl : i = k := by omega
  rw [roundsF,List.append_nil] at hr
  simp [h11,h12,c43_k0,h5,hr]
 | succ j ih =>
  intro i acc l τ ω hi ha hl h2 h5 h11 h12 w2 hr
  refine Rd_lpE c43_l0.eq_1 ?_
  have hlt : i < k := by omega
  have hwr : IntKind.i64.wrap ((i : Int) + 1) = ((i + 1 : Nat) : Int) := by rw [← wrap_i64_nat (n := i + 1) (by omega)]; rfl
  have hw1 : IntKind.i64.wrap (acc.length : Int) = (acc.length : Int) := wrap_i64_nat (by omega)
  have s89 := spec89 (D + 1) s hf (toZ l) (by rw [toZ_len]; omega) (by omega) hfit hnod (by rw [toZ_len,hl]; exact hns)
  have hll := finer_len s (toZ l)
  rw [roundsF] at hr
  generalize finer s (toZ l) = l2 at s89 hr hll
  have hE := encY.eq_1 s
  rw [hE] at s89
  have hle : (acc.length + 1 + 1) * 24 ≤ 1099511627776 := by omega
  have hgl : (List.map encNs acc ++ [encNs l])[acc.length]? = some (encNs l) := by
   rw [List.getElem?_append_right (by simp)]; simp
  simp [h11,h12,hlt,h5,h2,w2,hw1,hgl,show (acc.length : Int) < (acc.length : Int) + 1 by omega]
  refine Rd_drCall s89 (by simp [encNs]) ?_
  rw [toZ_enc]
  simp [h5,hle,h12,hwr]
  refine ih (i + 1) (acc ++ [l]) l2 _ _ (by omega) (by simp; omega) hll ?_ ?_ ?_ ?_ ?_ ?_
  case refine_6 => rw [hr]; simp
  all_goals simp [h2,h11,w2,encNs]
theorem spec43 (D : Nat) (s : Sy) (hf : shapedF s.f = true) (hm : s.m.length ≤ 100) (hfit : ∀ v ∈ s.m,fitV v) (hnod : ∀ v ∈ s.m,nodesV v ≤ 2 ^ 30) (hns : ∀ v ∈ s.m,(normV s.m.length v s.f).isSome = true) (k : Nat) (hk : k ≤ 2 ^ 20) :
  Go.Ab.Loc Pg Gl D 43 [encY s,.int .i64 k] [] (.sl 1 ((List.replicate s.m.length 0 :: roundsF s k (List.replicate s.m.length 0)).map encNs) .no) [] := by
 refine loc_rd mixedP tok rfl rfl fun S => ?_
 unfold c43
 generalize hr : AV.sl 1 ((List.replicate s.m.length 0 :: roundsF s k (List.replicate s.m.length 0)).map encNs) .no = r
 rw [encY]
 have hn2 : (s.m.length : Int) ≤ 1099511627776 := by omega
 have hn3 : (s.m.length : Int) * 8 ≤ 1099511627776 := by omega
 simp [hn2,hn3]
 have hfz : ∀ τ ω,frz (stF 27 D τ (upd ω 9 (1,.cells (List.replicate s.m.length (AV.int .i64 0)))) S) frzD (.own D 9 1 0 s.m.length 1 false) = some (encNs (List.replicate s.m.length 0),[(D,9)]) := fun τ ω => frz_zero (by omega) (by simp)
 simp [hfz]
 refine l43 D s hf hm hfit hnod hns k hk S r k 0 [] (List.replicate s.m.length 0) _ _ (by omega) rfl (by simp) ?_ ?_ ?_ ?_ ?_ ?_
 all_goals simp [encNs,← hr]
end Go.Ab.Tab
/- The law's follow (42) and known (40). -/
namespace Go.Ab.Tab
open Go Go.Ab
set_option maxRecDepth 10000
set_option linter.unusedVariables false
set_option linter.unusedSimpArgs false
abbrev Dfa := List (Bool × List Nat)
def rowD (rs : Dfa) (x : Nat) : List Nat := ((rs[x]?).map (·.2)).getD []
def outD (rs : Dfa) (x : Nat) : Bool := ((rs[x]?).map (·.1)).getD false
def folD (rs : Dfa) : Nat → List Int → Nat
 | x,[] => x
 | x,a :: w => folD rs ((rowD rs x)[a.toNat]?.getD 0) w
structure DOk (k : Nat) (rs : Dfa) : Prop where
 len : rs.length ≤ 100
 row : ∀ p ∈ rs,p.2.length = k ∧ ∀ y ∈ p.2,y < rs.length
theorem DOk.rowD {k : Nat} {rs : Dfa} (h : DOk k rs) {x : Nat} (hx : x < rs.length) : (rowD rs x).length = k ∧ ∀ y ∈ rowD rs x,y < rs.length := by
 unfold Tab.rowD
 rw [List.getElem?_eq_getElem hx]
 exact h.row _ (List.getElem_mem hx)
theorem DOk.next {k : Nat} {rs : Dfa} (h : DOk k rs) {x a : Nat} (hx : x < rs.length) (ha : a < k) : (Tab.rowD rs x)[a]?.getD 0 < rs.length := by
 obtain ⟨h1,h2⟩ := h.rowD hx
 rw [List.getElem?_eq_getElem (by omega),Option.getD_some]
 exact h2 _ (List.getElem_mem _)
theorem l42 (D k : Nat) (rs : Dfa) (hD : DOk k rs) (FL : List AV) (w : List Int) (hw : wordOk k w = true) (hlen : w.length ≤ maxLen) (S) : ∀ (m i : Nat) (x : Nat) (τ ω) (r : AV),i + m = w.length → x < rs.length →
  τ 1 = .int .i64 x → τ 3 = .ptr D 3 1 0 → τ 9 = encI w → τ 10 = .int .i64 w.length → τ 11 = .int .i64 i → ω 3 = (1,.cells [.int .i64 2,.int .i64 0,.sl 3 FL .no,.sl 3 (rs.map fun p => encV (mkDet p)) .no]) →
  r = .int .i64 (if outD rs (folD rs x (w.drop i)) then 1 else 0) →
  Rd (Loc Pg Gl) .im (RetQ [.tmp 6] r S) [.lp c42_l0,.blk 0,.c c42_k0] (stF 38 D τ ω S) := by
 intro m
 induction m with
 | zero =>
  intro i x τ ω r hi hx h1 h3 h9 h10 h11 w3 hr
  refine Rd_lpE c42_l0.eq_1 ?_
  obtain rfl : i = w.length := by omega
  rw [List.drop_length,folD,outD,List.getElem?_eq_getElem hx] at hr
  simp [h1,h3,h9,h10,h11,w3,c42_k0,hx,encV_det]
  simpa using hr.symm
 | succ m ih =>
  intro i x τ ω r hi hx h1 h3 h9 h10 h11 w3 hr
  refine Rd_lpE c42_l0.eq_1 ?_
  have hlt : i < w.length := by omega
  have hwr := wrap_next hlt hlen
  obtain ⟨a,ha⟩ : ∃ a,w[i] = a := ⟨_,rfl⟩
  have hab : 0 ≤ a ∧ a < k := by
   unfold wordOk at hw
   have := List.all_eq_true.1 hw a (by rw [← ha]; exact List.getElem_mem hlt)
   simpa using this
  obtain ⟨b,rfl⟩ : ∃ b : Nat,a = b := ⟨a.toNat,by omega⟩
  have hbk : b < k := by omega
  have hn := hD.next hx hbk
  obtain ⟨h1',h2'⟩ := hD.rowD hx
  have hrl : b < (rowD rs x).length := by omega
  rw [List.drop_eq_getElem_cons hlt,ha,folD,Int.toNat_natCast] at hr
  have hrd : rowD rs x = (rs[x]).2 := by unfold rowD; rw [List.getElem?_eq_getElem hx]; rfl
  rw [List.getElem?_eq_getElem hrl,Option.getD_some] at hr hn
  simp only [hrd] at hr hn hrl
  simp [h1,h3,h9,h10,h11,w3,encI,hlt,ha,hx,encV_det,hrl,encV_st,hwr]
  refine ih (i + 1) _ _ _ r (by omega) hn ?_ ?_ ?_ ?_ ?_ ?_ hr
  all_goals simp [h3,h9,h10,w3,encI,encV_det]
theorem spec42 (D k : Nat) (rs : Dfa) (hD : DOk k rs) (x : Nat) (hx : x < rs.length) (w : List Int) (hw : wordOk k w = true) (hlen : w.length ≤ maxLen) :
  Go.Ab.Loc Pg Gl D 42 [encY (sysD k rs),.int .i64 x,encI w] [] (.int .i64 (if outD rs (folD rs x w) then 1 else 0)) [] := by
 refine loc_rd mixedP tok rfl rfl fun S => ?_
 unfold c42
 generalize hr : AV.int .i64 (if outD rs (folD rs x w) then 1 else 0) = r
 rw [encY]
 simp [encI]
 refine l42 D k rs hD ((gsD k).map encF) w hw hlen S w.length 0 x _ _ r (by omega) hx ?_ ?_ ?_ ?_ ?_ ?_ hr.symm
 all_goals simp [encI,sysD,Fu.k,Fu.n,Fu.gs,Function.comp_def]
theorem spec40 (D k : Nat) (ps : Aut) (hps : AuOk k ps) (hrl : ∀ p ∈ ps,∀ r ∈ p.2,r.length ≤ maxLen) (sets : List (List Int)) (rs : Dfa) (all : List (List Int))
  (h28 : Go.Ab.Loc Pg Gl (D + 1) 28 [encY (auY k ps),encLs sets] [] (.tup [encY (sysD k rs),encLs all,.bool true]) []) :
  Go.Ab.Loc Pg Gl D 40 [encY (auY k ps),encLs sets] [] (encY (sysD k rs)) [] := by
 refine loc_rd mixedP tok rfl rfl fun S => ?_
 unfold c40
 rw [encY_au] at h28 ⊢
 rw [encY.eq_1 (sysD k rs)] at h28 ⊢
 simp
 refine Rd_call h28 (by simp [encLs]) ?_
 simp [encLs]
end Go.Ab.Tab
/- The law's same (44). -/
namespace Go.Ab.Tab
open Go Go.Ab
set_option maxRecDepth 10000
set_option linter.unusedVariables false
set_option linter.unusedSimpArgs false
abbrev PW := List (List Int × List Int)
def encP2 (p : List Int × List Int) : AV := .agg [encI p.1,encI p.2]
def frP (u v : List Int) (l : PW) : Bool := l.all fun w => !(decide (w.1 = u) && decide (w.2 = v))
def addW (l : PW) (u v : List Int) : PW := if frP u v l then l ++ [(u,v)] else l
def stepS (ps : Aut) (x y : List Int) : Nat → Nat → PW → PW
 | 0,_,l => l
 | j + 1,a,l => stepS ps x y j (a + 1) (addW l (nx ps a x) (nx ps a y))
def sameR (k : Nat) (ps : Aut) : Nat → Nat → PW → Option Bool
 | 0,_,_ => none
 | f + 1,i,l => match l[i]? with
  | none => some true
  | some p => if finL ps p.1 = finL ps p.2 then sameR k ps f (i + 1) (stepS ps p.1 p.2 k 0 l) else some false
@[simp] theorem encI_strip1 (l : List Int) : (encI l).strip1 = encI l := rfl
@[simp] theorem encP2_dem (p : List Int × List Int) : (encP2 p).dem = encP2 p := rfl
@[simp] theorem encP2_cells (p : List Int × List Int) : (encP2 p).cells = [encI p.1,encI p.2] := rfl
@[simp] theorem encP2_one (p : List Int × List Int) : (encP2 p).one = false := rfl
@[simp] theorem encP2_strip (p : List Int × List Int) : (encP2 p).strip = encP2 p := rfl
@[simp] theorem frz_encP2 (s : St) (p : List Int × List Int) : frz s frzD (encP2 p) = some (encP2 p,[]) := frz_agg s 18 (by simp)
theorem l44_0 (D : Nat) (l : PW) (u v : List Int) (hu : u.length ≤ maxLen) (hl : ∀ p ∈ l,p.1.length ≤ maxLen ∧ p.2.length ≤ maxLen) (hll : l.length ≤ 2 ^ 30) (Q : St → Prop) (K : List AI) (S) (τ0 : Nat → AV) (ω0 : Nat → Ent) (h10 : τ0 10 = encI u) (h11 : τ0 11 = encI v) (h61 : τ0 61 = .sl 2 (l.map encP2) .no) (h62 : τ0 62 = .int .i64 l.length) :
  ∀ (m i : Nat) (b : Bool) (τ ω),i + m = l.length → (∀ x,x < 63 → x ≠ 12 → x ≠ 14 → τ x = τ0 x) → τ 63 = .int .i64 i → τ 12 = .bool b → (∀ j,j ≠ 14 → ω j = ω0 j) →
  (∀ τ' ω',(∀ x,x < 63 → x ≠ 12 → x ≠ 14 → τ' x = τ0 x) → τ' 12 = .bool (b && frP u v (l.drop i)) → (∀ j,j ≠ 14 → ω' j = ω0 j) → Rd (Loc Pg Gl) .im Q K (stF 91 D τ' ω' S)) →
  Rd (Loc Pg Gl) .im Q (.lp c44_l0 :: .blk 4 :: K) (stF 91 D τ ω S) := by
 intro m
 induction m with
 | zero =>
  intro i b τ ω hi hτ h63 h12 hω hend
  refine Rd_lpE c44_l0.eq_1 ?_
  obtain rfl : i = l.length := by omega
  have a62 := (hτ 62 (by decide) (by decide) (by decide)).trans h62
  rw [List.drop_length,frP,List.all_nil,Bool.and_true] at hend
  simp [a62,h63]
  refine hend _ _ (fun x q1 q2 q3 => ?_) ?_ hω
  ·rw [← hτ x q1 q2 q3]; simp only [upd]; repeat rw [if_neg (by omega)]
  ·simp [h12]
 | succ m ih =>
  intro i b τ ω hi hτ h63 h12 hω hend
  refine Rd_lpE c44_l0.eq_1 ?_
  have hlt : i < l.length := by omega
  have hwr : IntKind.i64.wrap ((i : Int) + 1) = ((i + 1 : Nat) : Int) := by rw [← wrap_i64_nat (n := i + 1) (by omega)]; rfl
  have a62 := (hτ 62 (by decide) (by decide) (by decide)).trans h62
  have a61 := (hτ 61 (by decide) (by decide) (by decide)).trans h61
  have a10 := (hτ 10 (by decide) (by decide) (by decide)).trans h10
  have a11 := (hτ 11 (by decide) (by decide) (by decide)).trans h11
  obtain ⟨p,hp⟩ : ∃ p,l[i] = p := ⟨_,rfl⟩
  obtain ⟨p1,p2⟩ := hl p (by rw [← hp]; exact List.getElem_mem hlt)
  rw [List.drop_eq_getElem_cons hlt,hp,frP,List.all_cons] at hend
  have hfr : (l.drop (i + 1)).all (fun w => !(decide (w.1 = u) && decide (w.2 = v))) = frP u v (l.drop (i + 1)) := rfl
  rw [hfr,← Bool.and_assoc] at hend
  have s1 := spec19 (D + 1) p.1 u p1
  have s2 := spec19 (D + 1) p.2 v p2
  simp [a62,h63,hlt,a61,hp,h12]
  cases b with
  | false =>
   simp [h63,hwr]
   refine ih (i + 1) false _ _ (by omega) (fun x q1 q2 q3 => ?_) ?_ ?_ (fun j q => ?_) ?_
   ·rw [← hτ x q1 q2 q3]; simp only [upd]; repeat rw [if_neg (by omega)]
   ·simp
   ·simp
   ·rw [← hω j q]; simp [upd,q]
   ·simpa using hend
  | true =>
   simp [a10]
   refine Rd_call s1 (by simp) ?_
   have fin : ∀ (b2 : Bool) (τ' : Nat → AV) (ω' : Nat → Ent),b2 = !(decide (p.1 = u) && decide (p.2 = v)) → (∀ x,x < 63 → x ≠ 12 → x ≠ 14 → τ' x = τ x) → τ' 12 = .bool b2 → τ' 63 = .int .i64 ((i + 1 : Nat) : Int) → (∀ j,j ≠ 14 → ω' j = ω j) → Rd (Loc Pg Gl) .im Q (.lp c44_l0 :: .blk 4 :: K) (stF 91 D τ' ω' S) := by
    intro b2 τ' ω' hb2 g1 g2 g3 g4
    refine ih (i + 1) b2 _ _ (by omega) (fun x q1 q2 q3 => (g1 x q1 q2 q3).trans (hτ x q1 q2 q3)) g3 g2 (fun j q => (g4 j q).trans (hω j q)) ?_
    rw [hb2]
    rw [Bool.true_and] at hend
    exact hend
   by_cases e1 : p.1 = u
   ·simp [e1,a11]
    refine Rd_call s2 (by simp) ?_
    by_cases e2 : p.2 = v
    ·simp [e2,h63,hwr]
     refine fin false _ _ (by simp [e1,e2]) (fun x q1 q2 q3 => ?_) ?_ ?_ (fun j q => ?_)
     ·simp only [upd]; repeat rw [if_neg (by omega)]
     ·simp
     ·simp
     ·simp [upd,q]
    ·simp [e2,h63,hwr]
     refine fin true _ _ (by simp [e1,e2]) (fun x q1 q2 q3 => ?_) ?_ ?_ (fun j q => ?_)
     ·simp only [upd]; repeat rw [if_neg (by omega)]
     ·simp
     ·simp
     ·simp [upd,q]
   ·simp [e1,h63,hwr]
    refine fin true _ _ (by simp [e1]) (fun x q1 q2 q3 => ?_) ?_ ?_ (fun j q => ?_)
    ·simp only [upd]; repeat rw [if_neg (by omega)]
    ·simp
    ·simp
    ·simp [upd,q]
theorem addW_len (l : PW) (u v : List Int) : (addW l u v).length ≤ l.length + 1 := by unfold addW; split <;> simp
theorem stepS_len (ps : Aut) (x y : List Int) : ∀ (j a : Nat) (l : PW),(stepS ps x y j a l).length ≤ l.length + j
 | 0,_,l => Nat.le_refl _
 | j + 1,a,l => by
  rw [stepS]
  have h1 := stepS_len ps x y j (a + 1) (addW l (nx ps a x) (nx ps a y))
  have h2 := addW_len l (nx ps a x) (nx ps a y)
  omega
def PVs (n : Nat) (l : PW) : Prop := ∀ p ∈ l,VS n p.1 ∧ VS n p.2
theorem addW_vs {n : Nat} {l : PW} (h : PVs n l) {u v : List Int} (hu : VS n u) (hv : VS n v) : PVs n (addW l u v) := by
 unfold addW
 split
 ·intro p hp
  rcases List.mem_append.1 hp with hp | hp
  ·exact h p hp
  ·rw [List.mem_singleton.1 hp]; exact ⟨hu,hv⟩
 ·exact h
theorem l44_1 (D k : Nat) (ps : Aut) (hps : AuOk k ps) (hrl : ∀ p ∈ ps,∀ r ∈ p.2,r.length ≤ maxLen) (FL : List AV) (hY : encY (auY k ps) = .agg [.int .i64 2,.int .i64 0,.sl 3 FL .no,.sl 3 (ps.map fun p => encV (mkAu p)) .no]) (i : Nat) (x y : List Int) (hx : VS ps.length x) (hy : VS ps.length y) (Q : St → Prop) (K : List AI) (S) (τ0 : Nat → AV) (ω0 : Nat → Ent) (h3 : τ0 3 = .ptr D 3 1 0) (h8 : τ0 8 = .int .i64 i) (h41 : τ0 41 = .int .i64 k) (w3 : ω0 3 = (1,.cells [.int .i64 2,.int .i64 0,.sl 3 FL .no,.sl 3 (ps.map fun p => encV (mkAu p)) .no])) :
  ∀ (m a : Nat) (l : PW) (τ ω),a + m = k → l.length + m ≤ 2 ^ 30 → PVs ps.length l → l[i]? = some (x,y) → (∀ z,z < 42 → z ≠ 7 → z ≠ 9 → z ≠ 10 → z ≠ 11 → z ≠ 12 → z ≠ 14 → τ z = τ0 z) → τ 7 = .sl 2 (l.map encP2) .tip → τ 42 = .int .i64 a → (∀ j,j ≠ 14 → ω j = ω0 j) →
  (∀ τ' ω',(∀ z,z < 42 → z ≠ 7 → z ≠ 9 → z ≠ 10 → z ≠ 11 → z ≠ 12 → z ≠ 14 → τ' z = τ0 z) → τ' 7 = .sl 2 ((stepS ps x y m a l).map encP2) .tip → (∀ j,j ≠ 14 → ω' j = ω0 j) → Rd (Loc Pg Gl) .im Q K (stF 91 D τ' ω' S)) →
  Rd (Loc Pg Gl) .im Q (.lp c44_l1 :: .blk 2 :: K) (stF 91 D τ ω S) := by
 have hn := hps.len
 have hk4 := hps.kle
 intro m
 induction m with
 | zero =>
  intro a l τ ω ha hll hvs hxy hτ h7 h42 hω hend
  refine Rd_lpE c44_l1.eq_1 ?_
  obtain rfl : a = k := by omega
  have a41 := (hτ 41 (by decide) (by decide) (by decide) (by decide) (by decide) (by decide) (by decide)).trans h41
  rw [stepS] at hend
  simp [a41,h42]
  refine hend _ _ (fun z q1 q2 q3 q4 q5 q6 q7 => ?_) ?_ hω
  ·rw [← hτ z q1 q2 q3 q4 q5 q6 q7]; simp only [upd]; repeat rw [if_neg (by omega)]
  ·simp [h7]
 | succ m ih =>
  intro a l τ ω ha hll hvs hxy hτ h7 h42 hω hend
  refine Rd_lpE c44_l1.eq_1 ?_
  have hlt : a < k := by omega
  have hwr : IntKind.i64.wrap ((a : Int) + 1) = ((a + 1 : Nat) : Int) := by rw [← wrap_i64_nat (n := a + 1) (by omega)]; rfl
  have a41 := (hτ 41 (by decide) (by decide) (by decide) (by decide) (by decide) (by decide) (by decide)).trans h41
  have a3 := (hτ 3 (by decide) (by decide) (by decide) (by decide) (by decide) (by decide) (by decide)).trans h3
  have a8 := (hτ 8 (by decide) (by decide) (by decide) (by decide) (by decide) (by decide) (by decide)).trans h8
  have v3 := (hω 3 (by decide)).trans w3
  have hil := (List.getElem?_eq_some_iff.1 hxy).1
  have hie := (List.getElem?_eq_some_iff.1 hxy).2
  rw [stepS] at hend
  have s1 := spec49 (D + 1) k a ps hps hlt hrl x hx.below hx.len
  have s2 := spec49 (D + 1) k a ps hps hlt hrl y hy.below hy.len
  have n1 : encI (lN ps.length (nxtL ps a x)) = encI (nx ps a x) := rfl
  have n2 : encI (lN ps.length (nxtL ps a y)) = encI (nx ps a y) := rfl
  rw [n1,hY] at s1
  rw [n2,hY] at s2
  have hu := nx_vs hps a x
  have hv := nx_vs hps a y
  generalize nx ps a x = u at *
  generalize nx ps a y = v at *
  simp [a41,h42,hlt,a3,v3,h7,a8,hil,hie]
  refine Rd_drCall s1 (by simp) ?_
  simp [a3,v3,h7,a8,hil,hie,h42]
  refine Rd_drCall s2 (by simp) ?_
  simp [encI_left,h7]
  refine l44_0 D l u v hu.len (fun p hp => ⟨(hvs p hp).1.len,(hvs p hp).2.len⟩) (by omega) _ _ S _ _ ?_ ?_ ?_ ?_ l.length 0 true _ _ (by omega) (fun x _ _ _ => rfl) ?_ ?_ (fun j _ => rfl) ?_
  case refine_7 =>
   intro τ1 ω1 hτ1 h12 hω1
   rw [List.drop_zero,Bool.true_and] at h12
   have b7 : τ1 7 = .sl 2 (l.map encP2) .tip := by rw [hτ1 7 (by decide) (by decide) (by decide)]; simp [h7]
   have b10 : τ1 10 = encI u := by rw [hτ1 10 (by decide) (by decide) (by decide)]; simp
   have b11 : τ1 11 = encI v := by rw [hτ1 11 (by decide) (by decide) (by decide)]; simp
   have b42 : τ1 42 = .int .i64 a := by rw [hτ1 42 (by decide) (by decide) (by decide)]; simp [h42]
   have c : ∀ z,z < 42 → z ≠ 7 → z ≠ 9 → z ≠ 10 → z ≠ 11 → z ≠ 12 → z ≠ 14 → τ1 z = τ0 z := by
    intro z q1 q2 q3 q4 q5 q6 q7
    have e := hτ1 z (by omega) q6 q7
    rw [← hτ z q1 q2 q3 q4 q5 q6 q7]
    simp only [upd] at e
    repeat rw [if_neg (by omega)] at e
    exact e
   have hle : (l.length + 1) * 48 ≤ 1099511627776 := by omega
   unfold c44_k0
   cases hf : frP u v l with
   | false =>
    have e : addW l u v = l := by unfold addW; rw [hf]; rfl
    rw [e] at hend
    simp [h12,hf,c44_k1,b42,hwr]
    refine ih (a + 1) l _ _ (by omega) (by omega) hvs hxy (fun z q1 q2 q3 q4 q5 q6 q7 => ?_) ?_ ?_ (fun j q => ?_) hend
    ·rw [← c z q1 q2 q3 q4 q5 q6 q7]; simp only [upd]; repeat rw [if_neg (by omega)]
    ·simp [b7]
    ·simp
    ·rw [hω1 j q,← hω j q]
   | true =>
    have e : addW l u v = l ++ [(u,v)] := by unfold addW; rw [hf]; rfl
    have hvs2 := addW_vs hvs hu hv
    rw [e] at hend hvs2
    simp [h12,hf,c44_k1,b42,hwr,b7,b10,b11,hle]
    refine ih (a + 1) (l ++ [(u,v)]) _ _ (by omega) (by simp; omega) hvs2 (by rw [List.getElem?_append_left hil]; exact hxy) (fun z q1 q2 q3 q4 q5 q6 q7 => ?_) ?_ ?_ (fun j q => ?_) hend
    ·rw [← c z q1 q2 q3 q4 q5 q6 q7]; simp only [upd]; repeat rw [if_neg (by omega)]
    ·simp [encP2]
    ·simp
    ·rw [hω1 j q,← hω j q]
  all_goals simp [h7]
theorem stepS_vs {k : Nat} {ps : Aut} (hps : AuOk k ps) (x y : List Int) : ∀ (j a : Nat) (l : PW),PVs ps.length l → PVs ps.length (stepS ps x y j a l)
 | 0,_,l,h => h
 | j + 1,a,l,h => stepS_vs hps x y j (a + 1) _ (addW_vs h (nx_vs hps a x) (nx_vs hps a y))
theorem l44_2 (D k : Nat) (ps : Aut) (hps : AuOk k ps) (hrl : ∀ p ∈ ps,∀ r ∈ p.2,r.length ≤ maxLen) (hfT : fitF (auY k ps).f) (FL : List AV) (hY : encY (auY k ps) = .agg [.int .i64 2,.int .i64 0,.sl 3 FL .no,.sl 3 (ps.map fun p => encV (mkAu p)) .no]) (S) (r : AV) (res : Bool) (hr : r = .bool res) :
  ∀ (f i : Nat) (l : PW) (τ ω),sameR k ps f i l = some res → l.length + 4 * f ≤ 2 ^ 30 → i + f ≤ 2 ^ 30 → PVs ps.length l → τ 3 = .ptr D 3 1 0 → τ 7 = .sl 2 (l.map encP2) .tip → τ 8 = .int .i64 i → ω 3 = (1,.cells [.int .i64 2,.int .i64 0,.sl 3 FL .no,.sl 3 (ps.map fun p => encV (mkAu p)) .no]) →
  Rd (Loc Pg Gl) .im (RetQ [.tmp 6] r S) [.lp c44_l2,.blk 0,.c c44_k3] (stF 91 D τ ω S) := by
 have hn := hps.len
 have hk4 := hps.kle
 intro f
 induction f with
 | zero => intro i l τ ω h; cases h
 | succ f ih =>
  intro i l τ ω hs hlen hif hvs h3 h7 h8 w3
  refine Rd_lpE c44_l2.eq_1 ?_
  rw [sameR] at hs
  cases hp : l[i]? with
  | none =>
   rw [hp] at hs
   injection hs with hs; subst hs
   have hil : ¬ i < l.length := fun h => by rw [List.getElem?_eq_getElem h] at hp; cases hp
   simp [h7,h8,hil,c44_k3,hr]
  | some p =>
   rw [hp] at hs
   simp only at hs
   obtain ⟨hil,hie⟩ := List.getElem?_eq_some_iff.1 hp
   have hpv := hvs p (by rw [← hie]; exact List.getElem_mem hil)
   have s1 := spec76 (D + 1) k ps p.1 hpv.1.below hpv.1.len
   have s2 := spec76 (D + 1) k ps p.2 hpv.2.below hpv.2.len
   have s48 := spec48 (D + 1) (auY k ps) hfT
   rw [show (auY k ps).f = typ k from rfl,letters_typ hps.kpos hps.kle,hY] at s48
   rw [hY] at s1 s2
   have hwr : IntKind.i64.wrap ((i : Int) + 1) = ((i + 1 : Nat) : Int) := by rw [← wrap_i64_nat (n := i + 1) (by omega)]; rfl
   simp [h7,h8,hil,h3,w3,hie]
   refine Rd_drCall s1 (by simp) ?_
   simp [h7,h8,hil,h3,w3,hie]
   refine Rd_drCall s2 (by simp) ?_
   by_cases he : finL ps p.1 = finL ps p.2
   ·rw [if_pos he] at hs
    simp [he,h3,w3]
    refine Rd_call s48 (by simp) ?_
    simp
    refine l44_1 D k ps hps hrl FL hY i p.1 p.2 hpv.1 hpv.2 _ _ S _ _ ?_ ?_ ?_ ?_ k 0 l _ _ (by omega) (by omega) hvs hp (fun z _ _ _ _ _ _ _ => rfl) ?_ ?_ (fun j _ => rfl) ?_
    case refine_7 =>
     intro τ1 ω1 hτ1 g7 hω1
     have b3 : τ1 3 = .ptr D 3 1 0 := by rw [hτ1 3 (by decide) (by decide) (by decide) (by decide) (by decide) (by decide) (by decide)]; simp [h3]
     have b8 : τ1 8 = .int .i64 i := by rw [hτ1 8 (by decide) (by decide) (by decide) (by decide) (by decide) (by decide) (by decide)]; simp [h8]
     have v3 := (hω1 3 (by decide)).trans w3
     have hl2 := stepS_len ps p.1 p.2 k 0 l
     have hvs2 := stepS_vs hps p.1 p.2 k 0 l hvs
     simp [c44_k2,b8,hwr]
     refine ih (i + 1) _ _ _ hs (by omega) (by omega) hvs2 ?_ ?_ ?_ v3
     all_goals simp [b3,g7]
    all_goals simp [h3,h7,h8,w3]
   ·rw [if_neg he] at hs
    injection hs with hs; subst hs
    have hb : (finL ps p.1 == finL ps p.2) = false := by simpa using he
    simp [hb,hr]
theorem spec44 (D k : Nat) (ps : Aut) (hps : AuOk k ps) (hrl : ∀ p ∈ ps,∀ r ∈ p.2,r.length ≤ maxLen) (hfT : fitF (auY k ps).f) (x y : List Int) (hx : VS ps.length x) (hy : VS ps.length y) (f : Nat) (hf : f ≤ 2 ^ 27) (res : Bool) (hs : sameR k ps f 0 [(x,y)] = some res) :
  Go.Ab.Loc Pg Gl D 44 [encY (auY k ps),encI x,encI y] [] (.bool res) [] := by
 refine loc_rd mixedP tok rfl rfl fun S => ?_
 unfold c44
 generalize hr : AV.bool res = r
 have hY := encY_au k ps
 generalize ([.mk 1 2 [],.mk 4 k [.mk 5 0 [.mk 0 0 []]]] : List Fu).map encF = FL at hY
 rw [hY]
 simp
 refine l44_2 D k ps hps hrl hfT FL hY S r res hr.symm f 0 [(x,y)] _ _ hs (by simp; omega) (by omega) (fun p hp => by rw [List.mem_singleton.1 hp]; exact ⟨hx,hy⟩) ?_ ?_ ?_ ?_
 all_goals simp [encP2]
end Go.Ab.Tab
/- The plain law of same: both sets accept the same words. -/
namespace Go.Ab.Tab
open Go Go.Ab
set_option maxRecDepth 10000
set_option linter.unusedVariables false
set_option linter.unusedSimpArgs false
theorem frP_iff {u v : List Int} {l : PW} : frP u v l = true ↔ (u,v) ∉ l := by
 unfold frP
 rw [List.all_eq_true]
 constructor
 ·intro h hm
  have := h _ hm
  simp at this
 ·intro h p hp
  obtain ⟨a,b⟩ := p
  simp only [Bool.not_eq_true',Bool.and_eq_false_iff,decide_eq_false_iff_not]
  by_cases e : a = u
  ·exact .inr fun e2 => h (by rw [← e,← e2]; exact hp)
  ·exact .inl e
theorem addW_mem (l : PW) (u v : List Int) : (u,v) ∈ addW l u v := by
 unfold addW
 split
 ·simp
 ·rename_i h
  rw [frP_iff] at h
  exact Classical.byContradiction h
theorem addW_sub {l : PW} {u v : List Int} {p : List Int × List Int} : p ∈ addW l u v → p ∈ l ∨ p = (u,v) := by
 unfold addW
 split
 ·intro h; rcases List.mem_append.1 h with h | h
  ·exact .inl h
  ·exact .inr (List.mem_singleton.1 h)
 ·exact .inl
theorem addW_get {l : PW} {u v : List Int} {j : Nat} {p : List Int × List Int} (h : l[j]? = some p) : (addW l u v)[j]? = some p := by
 unfold addW
 split
 ·exact get_snoc h
 ·exact h
theorem addW_nodup {l : PW} {u v : List Int} (h : l.Nodup) : (addW l u v).Nodup := by
 unfold addW
 split
 ·rename_i hf
  rw [frP_iff] at hf
  rw [List.nodup_append]
  refine ⟨h,by simp,fun a ha b hb e => ?_⟩
  rw [List.mem_singleton.1 hb] at e
  exact hf (e ▸ ha)
 ·exact h
theorem addW_ge (l : PW) (u v : List Int) : l.length ≤ (addW l u v).length := by unfold addW; split <;> simp
structure WInv (k : Nat) (ps : Aut) (x y : List Int) (i : Nat) (l : PW) : Prop where
 vs : PVs ps.length l
 h0 : l[0]? = some (x,y)
 run : ∀ p ∈ l,∃ w : List Nat,toS p.1 = runWd (paOf k ps) (toS x) w ∧ toS p.2 = runWd (paOf k ps) (toS y) w
 fin : ∀ (j : Nat) p,j < i → l[j]? = some p → finL ps p.1 = finL ps p.2
 closed : ∀ (j : Nat) p,j < i → l[j]? = some p → ∀ a,a < k → (nx ps a p.1,nx ps a p.2) ∈ l
 nodup : l.Nodup
theorem runWd_snoc (A : PA) (u : BS) (w : List Nat) (a : Nat) : runWd A u (w ++ [a]) = nextA A (runWd A u w) a := by
 unfold runWd
 rw [List.foldl_append,List.foldl_cons,List.foldl_nil]
theorem winv_add {k : Nat} {ps : Aut} (hps : AuOk k ps) {x y : List Int} {i : Nat} {l : PW} (h : WInv k ps x y i l) (hil : i ≤ l.length) {p : List Int × List Int} (hp : p ∈ l) (a : Nat) : WInv k ps x y i (addW l (nx ps a p.1) (nx ps a p.2)) := by
 have hpv := h.vs p hp
 obtain ⟨w,w1,w2⟩ := h.run p hp
 have back : ∀ {j : Nat} {q},j < i → (addW l (nx ps a p.1) (nx ps a p.2))[j]? = some q → l[j]? = some q := by
  intro j q hj hq
  have hjl : j < l.length := by omega
  have := addW_get (u := nx ps a p.1) (v := nx ps a p.2) (List.getElem?_eq_getElem hjl)
  rw [this] at hq
  rw [List.getElem?_eq_getElem hjl]; exact hq
 refine ⟨addW_vs h.vs (nx_vs hps a p.1) (nx_vs hps a p.2),addW_get h.h0,fun q hq => ?_,fun j q hj hq => h.fin j q hj (back hj hq),fun j q hj hq b hb => ?_,addW_nodup h.nodup⟩
 ·rcases addW_sub hq with hq | rfl
  ·exact h.run q hq
  ·refine ⟨w ++ [a],?_,?_⟩
   ·show toS (nx ps a p.1) = _
    rw [toS_nx hps a hpv.1.below,runWd_snoc,w1]
   ·show toS (nx ps a p.2) = _
    rw [toS_nx hps a hpv.2.below,runWd_snoc,w2]
 ·obtain ⟨j',hj'⟩ := List.getElem?_of_mem (h.closed j q hj (back hj hq) b hb)
  exact mem_of_get (addW_get hj')
theorem winv_steps {k : Nat} {ps : Aut} (hps : AuOk k ps) {x y : List Int} {i : Nat} {p : List Int × List Int} : ∀ (m a : Nat) (l : PW),WInv k ps x y i l → i ≤ l.length → p ∈ l →
  WInv k ps x y i (stepS ps p.1 p.2 m a l) ∧ (∀ (j : Nat) q,l[j]? = some q → (stepS ps p.1 p.2 m a l)[j]? = some q) ∧ (∀ b,a ≤ b → b < a + m → (nx ps b p.1,nx ps b p.2) ∈ stepS ps p.1 p.2 m a l) ∧ l.length ≤ (stepS ps p.1 p.2 m a l).length
 | 0,a,l,h,_,_ => ⟨h,fun _ _ q => q,fun b h1 h2 => by omega,Nat.le_refl _⟩
 | m + 1,a,l,h,hil,hp => by
  rw [stepS]
  obtain ⟨j0,hj0⟩ := List.getElem?_of_mem hp
  have hge := addW_ge l (nx ps a p.1) (nx ps a p.2)
  obtain ⟨g1,g2,g3,g4⟩ := winv_steps hps m (a + 1) _ (winv_add hps h hil hp a) (by omega) (mem_of_get (addW_get hj0))
  refine ⟨g1,fun j q hq => g2 j q (addW_get hq),fun b h1 h2 => ?_,by omega⟩
  by_cases e : b = a
  ·subst e
   obtain ⟨j,hj⟩ := List.getElem?_of_mem (addW_mem l (nx ps b p.1) (nx ps b p.2))
   exact mem_of_get (g2 j _ hj)
  ·exact g3 b (by omega) (by omega)
theorem WInv.few {k : Nat} {ps : Aut} {x y : List Int} {i : Nat} {l : PW} (h : WInv k ps x y i l) (hn : ps.length ≤ 10) : l.length ≤ 2 ^ 20 := by
 have hlt : ∀ l,VS ps.length l → ∀ x,(toS l).has x = true → x < ps.length := fun l hl x hx => toS_lt (by omega) hl.below x (mem_list.2 hx)
 have h2 : 2 ^ ps.length ≤ 2 ^ 10 := Nat.pow_le_pow_right (by omega) hn
 have := nodup_le (2 ^ 20) (l.map fun p => (toS p.1).1.toNat * 2 ^ 10 + (toS p.2).1.toNat) (by
  rw [List.Nodup,List.pairwise_map]
  refine h.nodup.imp_of_mem fun {p q} hp hq hne e => hne ?_
  have v1 := h.vs p hp
  have v2 := h.vs q hq
  have s1 := small_set hn (hlt _ v1.1)
  have s2 := small_set hn (hlt _ v1.2)
  have s3 := small_set hn (hlt _ v2.1)
  have s4 := small_set hn (hlt _ v2.2)
  have e1 : (toS p.1).1.toNat = (toS q.1).1.toNat := by omega
  have e2 : (toS p.2).1.toNat = (toS q.2).1.toNat := by omega
  exact Prod.ext (toS_inj v1.1 v2.1 (Prod.ext (BitVec.eq_of_toNat_eq e1) (s1.1.trans s3.1.symm))) (toS_inj v1.2 v2.2 (Prod.ext (BitVec.eq_of_toNat_eq e2) (s2.1.trans s4.1.symm)))) (by
  intro n hn'
  obtain ⟨p,hp,rfl⟩ := List.mem_map.1 hn'
  have s1 := small_set hn (hlt _ (h.vs p hp).1)
  have s2 := small_set hn (hlt _ (h.vs p hp).2)
  omega)
 rwa [List.length_map] at this
theorem same_run {k : Nat} {ps : Aut} (hps : AuOk k ps) (hn : ps.length ≤ 10) {x y : List Int} : ∀ (f i : Nat) (l : PW),WInv k ps x y i l → i ≤ l.length → 2 ^ 20 + 1 ≤ f + i →
  ∃ b,sameR k ps f i l = some b ∧ (b = true ↔ ∀ w : List Nat,Acc (paOf k ps) (toS x) w ↔ Acc (paOf k ps) (toS y) w)
 | 0,i,l,h,hil,hf => by have := h.few hn; omega
 | f + 1,i,l,h,hil,hf => by
  have hA := hps.a
  rw [sameR]
  have hfin : ∀ {p : List Int × List Int} {w : List Nat},p ∈ l → toS p.1 = runWd (paOf k ps) (toS x) w → toS p.2 = runWd (paOf k ps) (toS y) w → (finL ps p.1 = finL ps p.2 ↔ (Acc (paOf k ps) (toS x) w ↔ Acc (paOf k ps) (toS y) w)) := by
   intro p w hp e1 e2
   have hv := h.vs p hp
   rw [Acc_run hA,Acc_run hA,← e1,← e2,← finL_ends hps.len hv.1.below,← finL_ends hps.len hv.2.below,Bool.eq_iff_iff]
  cases hp : l[i]? with
  | none =>
   have hl : i = l.length := by
    rcases Nat.lt_or_ge i l.length with q | q
    ·rw [List.getElem?_eq_getElem q] at hp; cases hp
    ·omega
   refine ⟨true,rfl,fun _ => ?_,fun _ => rfl⟩
   have hrep : ∀ w : List Nat,(∀ a ∈ w,a < k) → ∃ p ∈ l,toS p.1 = runWd (paOf k ps) (toS x) w ∧ toS p.2 = runWd (paOf k ps) (toS y) w := by
    refine snoc_ind ?_ ?_
    ·intro _; exact ⟨(x,y),mem_of_get h.h0,rfl,rfl⟩
    ·intro w a ihw hw
     obtain ⟨p,q1,q2,q3⟩ := ihw fun b hb => hw b (by simp [hb])
     obtain ⟨j,hj⟩ := List.getElem?_of_mem q1
     have hv := h.vs p q1
     refine ⟨_,h.closed j p (by have := (List.getElem?_eq_some_iff.1 hj).1; omega) hj a (hw a (by simp)),?_,?_⟩
     ·show toS (nx ps a p.1) = _
      rw [toS_nx hps a hv.1.below,runWd_snoc,q2]
     ·show toS (nx ps a p.2) = _
      rw [toS_nx hps a hv.2.below,runWd_snoc,q3]
   have hstep : ∀ w : List Nat,(∀ a ∈ w,a < k) → (Acc (paOf k ps) (toS x) w ↔ Acc (paOf k ps) (toS y) w) := by
    intro w hw
    obtain ⟨p,q1,q2,q3⟩ := hrep w hw
    obtain ⟨j,hj⟩ := List.getElem?_of_mem q1
    exact (hfin q1 q2 q3).1 (h.fin j p (by have := (List.getElem?_eq_some_iff.1 hj).1; omega) hj)
   intro w
   constructor
   ·intro ha
    have hl : ∀ a ∈ w,a < k := by obtain ⟨z,_,hz⟩ := ha; exact AccS_letters hA hz
    exact (hstep w hl).1 ha
   ·intro ha
    have hl : ∀ a ∈ w,a < k := by obtain ⟨z,_,hz⟩ := ha; exact AccS_letters hA hz
    exact (hstep w hl).2 ha
  | some p =>
   have hpl := mem_of_get hp
   have hil2 := (List.getElem?_eq_some_iff.1 hp).1
   simp only []
   by_cases he : finL ps p.1 = finL ps p.2
   ·rw [if_pos he]
    obtain ⟨g1,g2,g3,g4⟩ := winv_steps hps k 0 l h hil hpl
    refine same_run hps hn f (i + 1) _ ⟨g1.vs,g1.h0,g1.run,fun j q hj hq => ?_,fun j q hj hq a ha => ?_,g1.nodup⟩ (by omega) (by omega)
    ·rcases Nat.lt_or_ge j i with q1 | q1
     ·exact g1.fin j q q1 hq
     ·obtain rfl : j = i := by omega
      rw [g2 j p hp] at hq; injection hq with hq; subst hq; exact he
    ·rcases Nat.lt_or_ge j i with q1 | q1
     ·exact g1.closed j q q1 hq a ha
     ·obtain rfl : j = i := by omega
      rw [g2 j p hp] at hq; injection hq with hq; subst hq
      exact g3 a (by omega) (by omega)
   ·rw [if_neg he]
    refine ⟨false,rfl,fun h => (Bool.false_ne_true h).elim,fun hall => ?_⟩
    obtain ⟨w,w1,w2⟩ := h.run p hpl
    exact absurd ((hfin hpl w1 w2).2 (hall w)) he
theorem same_ok {k : Nat} {ps : Aut} (hps : AuOk k ps) (hn : ps.length ≤ 10) {x y : List Int} (hx : VS ps.length x) (hy : VS ps.length y) :
  ∃ b,sameR k ps (2 ^ 20 + 1) 0 [(x,y)] = some b ∧ (b = true ↔ ∀ w : List Nat,Acc (paOf k ps) (toS x) w ↔ Acc (paOf k ps) (toS y) w) :=
 same_run hps hn (2 ^ 20 + 1) 0 [(x,y)] ⟨fun p hp => by rw [List.mem_singleton.1 hp]; exact ⟨hx,hy⟩,rfl,fun p hp => by rw [List.mem_singleton.1 hp]; exact ⟨[],rfl,rfl⟩,fun j p hj => by omega,fun j p hj => by omega,by simp⟩ (by simp) (by omega)
end Go.Ab.Tab
/- Rounds of refinement: after as many rounds as there are states nothing changes; the classes of finer. -/
namespace Go.Ab.Tab
open Go Go.Ab
set_option maxRecDepth 10000
set_option linter.unusedVariables false
set_option linter.unusedSimpArgs false
theorem countP_lt {α : Type} {p q : α → Bool} {x0 : α} : ∀ {l : List α},(∀ x ∈ l,p x = true → q x = true) → x0 ∈ l → q x0 = true → p x0 = false → l.countP p < l.countP q
 | [],_,h,_,_ => by cases h
 | a :: l,h,hx,hq,hp => by
  rw [List.countP_cons,List.countP_cons]
  have hm : l.countP p ≤ l.countP q := List.countP_mono_left fun x hx => h x (by simp [hx])
  rcases List.mem_cons.1 hx with rfl | hx
  ·rw [hq,hp]; simp; omega
  ·have := countP_lt (fun x hx => h x (by simp [hx])) hx hq hp
   have ha := h a (by simp)
   cases hpa : p a with
   | false => simp; omega
   | true => rw [ha hpa]; simp; omega
theorem least_of {P : Nat → Prop} : ∀ {n : Nat},P n → ∃ m,m ≤ n ∧ P m ∧ ∀ j,j < m → ¬ P j := by
 intro n
 induction n using Nat.strongRecOn with
 | ind n ih =>
  intro h
  by_cases hc : ∃ j,j < n ∧ P j
  ·obtain ⟨j,hj,hp⟩ := hc
   obtain ⟨m,h1,h2,h3⟩ := ih j hj hp
   exact ⟨m,by omega,h2,h3⟩
  ·exact ⟨n,Nat.le_refl _,h,fun j hj hp => hc ⟨j,hj,hp⟩⟩
theorem stab (n : Nat) (E : Nat → Nat → Nat → Prop) (hr : ∀ r i,i < n → E r i i) (hs : ∀ r i j,E r i j → E r j i) (ht : ∀ r i j k,E r i j → E r j k → E r i k)
  (hm : ∀ r i j,i < n → j < n → E (r + 1) i j → E r i j) (hstep : ∀ r,(∀ i j,i < n → j < n → E r i j → E (r + 1) i j) → ∀ i j,i < n → j < n → E (r + 1) i j → E (r + 2) i j) :
  ∀ r i j,i < n → j < n → E n i j → E r i j := by
 classical
 let head : Nat → Nat → Bool := fun r i => decide (∀ j,j < i → ¬ E r j i)
 let cnt : Nat → Nat := fun r => (List.range n).countP (head r)
 have hhead : ∀ r i,head r i = true ↔ ∀ j,j < i → ¬ E r j i := fun r i => decide_eq_true_iff
 have hlt : ∀ r,¬ (∀ i j,i < n → j < n → E r i j → E (r + 1) i j) → cnt r < cnt (r + 1) := by
  intro r hno
  have hsub : ∀ x ∈ List.range n,head r x = true → head (r + 1) x = true := by
   intro x hx h
   rw [hhead] at h ⊢
   have hxn := List.mem_range.1 hx
   intro j hj he
   exact h j hj (hm r j x (by omega) hxn he)
  obtain ⟨i,j,hi,hj,he,hne⟩ : ∃ i j,i < n ∧ j < n ∧ E r i j ∧ ¬ E (r + 1) i j := by
   apply Classical.byContradiction; intro hc
   exact hno fun i j hi hj he => Classical.byContradiction fun hne => hc ⟨i,j,hi,hj,he,hne⟩
  obtain ⟨a,ha1,ha2,ha3⟩ := least_of (P := fun x => E (r + 1) x i) (hr (r + 1) i hi)
  obtain ⟨b,hb1,hb2,hb3⟩ := least_of (P := fun x => E (r + 1) x j) (hr (r + 1) j hj)
  have hha : head (r + 1) a = true := (hhead _ _).2 fun x hx he => ha3 x hx (ht _ _ _ _ he ha2)
  have hhb : head (r + 1) b = true := (hhead _ _).2 fun x hx he => hb3 x hx (ht _ _ _ _ he hb2)
  have hab : E r a b := ht _ _ _ _ (hm r a i (by omega) hi ha2) (ht _ _ _ _ he (hs _ _ _ (hm r b j (by omega) hj hb2)))
  rcases Nat.lt_trichotomy a b with q | q | q
  ·refine countP_lt hsub (List.mem_range.2 (by omega : b < n)) hhb ?_
   cases hc : head r b with
   | false => rfl
   | true => exact absurd hab ((hhead _ _).1 hc a q)
  ·subst q
   exact absurd (ht _ _ _ _ (hs _ _ _ ha2) hb2) hne
  ·refine countP_lt hsub (List.mem_range.2 (by omega : a < n)) hha ?_
   cases hc : head r a with
   | false => rfl
   | true => exact absurd (hs _ _ _ hab) ((hhead _ _).1 hc b q)
 have hle : ∀ r,cnt r ≤ n := fun r => by have := List.countP_le_length (p := head r) (l := List.range n); simpa using this
 intro r i j hi hj he
 have hst : ∃ r0,r0 ≤ n ∧ ∀ i j,i < n → j < n → E r0 i j → E (r0 + 1) i j := by
  apply Classical.byContradiction; intro hc
  have hgrow : ∀ m,m ≤ n + 1 → m ≤ cnt m := by
   intro m
   induction m with
   | zero => intro _; omega
   | succ m ih =>
    intro hm'
    have h1 := ih (by omega)
    have h2 := hlt m fun h => hc ⟨m,by omega,h⟩
    omega
  have h1 := hgrow (n + 1) (by omega)
  have h2 := hle (n + 1)
  omega
 obtain ⟨r0,h0,hst⟩ := hst
 have hall : ∀ d,∀ i j,i < n → j < n → E (r0 + d) i j → E (r0 + d + 1) i j := by
  intro d
  induction d with
  | zero => exact hst
  | succ d ih => exact hstep (r0 + d) ih
 have hup : ∀ d,E (n + d) i j := by
  intro d
  induction d with
  | zero => exact he
  | succ d ih =>
   have := hall (n + d - r0) i j hi hj (by rw [show r0 + (n + d - r0) = n + d by omega]; exact ih)
   rw [show r0 + (n + d - r0) = n + d by omega] at this
   exact this
 have hdown : ∀ d r,E (r + d) i j → E r i j := by
  intro d
  induction d with
  | zero => intro r h; exact h
  | succ d ih => intro r h; exact ih r (hm _ i j hi hj h)
 rcases Nat.le_total n r with q | q
 ·have := hup (r - n)
  rw [show n + (r - n) = r by omega] at this
  exact this
 ·refine hdown (n - r) r ?_
  rw [show r + (n - r) = n by omega]; exact he
theorem addV_spec {keys : List Va} {u : Va} (h : keys.Nodup) : (addV keys u).1.Nodup ∧ (addV keys u).1[(addV keys u).2]? = some u ∧ ∀ (i : Nat) v,keys[i]? = some v → (addV keys u).1[i]? = some v := by
 unfold addV
 cases hi : idxV u 0 keys with
 | some j =>
  obtain ⟨_,h2,h3,_⟩ := idxV_some hi
  simp only [Nat.sub_zero] at h2 h3
  refine ⟨h,?_,fun i v hv => hv⟩
  simp only []
  rw [List.getElem?_eq_getElem h2,(cmpV_zero _ _).1 h3]
 | none =>
  have hn := idxV_none hi
  refine ⟨?_,by simp,fun i v hv => ?_⟩
  ·rw [List.nodup_append]
   refine ⟨h,by simp,fun a ha b hb e => ?_⟩
   rw [List.mem_singleton.1 hb] at e
   obtain ⟨i,hi2,rfl⟩ := List.getElem_of_mem ha
   exact hn i hi2 ((cmpV_zero _ _).2 e)
  ·simp only []
   rw [List.getElem?_append_left (List.getElem?_eq_some_iff.1 hv).1]; exact hv
theorem fineF_spec (f : Fu) (to : List Int) : ∀ (l vs : List Va) (p : List Va × List Nat),p.1.Nodup → p.2.length = vs.length → (∀ (i : Nat) v,vs[i]? = some v → ∃ c,p.2[i]? = some c ∧ p.1[c]? = some (mapV to v f)) →
  (fineF f to l p).1.Nodup ∧ ∀ (i : Nat) v,(vs ++ l)[i]? = some v → ∃ c,(fineF f to l p).2[i]? = some c ∧ (fineF f to l p).1[c]? = some (mapV to v f)
 | [],vs,p,h1,h2,h3 => by rw [List.append_nil]; exact ⟨h1,h3⟩
 | v :: l,vs,p,h1,h2,h3 => by
  rw [fineF]
  obtain ⟨g1,g2,g3⟩ := addV_spec (u := mapV to v f) h1
  have := fineF_spec f to l (vs ++ [v]) ((addV p.1 (mapV to v f)).1,p.2 ++ [(addV p.1 (mapV to v f)).2]) g1 (by simp [h2]) (by
   intro i w hw
   rcases Nat.lt_trichotomy i vs.length with q | q | q
   ·rw [List.getElem?_append_left q] at hw
    obtain ⟨c,c1,c2⟩ := h3 i w hw
    exact ⟨c,by simp only []; rw [List.getElem?_append_left (by omega)]; exact c1,g3 c _ c2⟩
   ·subst q
    rw [List.getElem?_append_right (Nat.le_refl _)] at hw
    simp at hw; subst hw
    exact ⟨_,by simp only []; rw [List.getElem?_append_right (by omega),h2]; simp,g2⟩
   ·rw [List.getElem?_eq_none (by simp; omega)] at hw; cases hw)
  rw [List.append_assoc] at this
  exact this
theorem finer_cls (s : Sy) (to : List Int) {i j : Nat} {u v : Va} (hi : s.m[i]? = some u) (hj : s.m[j]? = some v) : (finer s to)[i]? = (finer s to)[j]? ↔ mapV to u s.f = mapV to v s.f := by
 obtain ⟨h1,h2⟩ := fineF_spec s.f to s.m [] ([],[]) (by simp) rfl (by intro i v h; simp at h)
 rw [List.nil_append] at h2
 obtain ⟨c,c1,c2⟩ := h2 i u hi
 obtain ⟨d,d1,d2⟩ := h2 j v hj
 unfold finer
 rw [c1,d1]
 constructor
 ·intro e
  injection e with e
  rw [e,d2] at c2
  injection c2 with c2
  exact c2.symm
 ·intro e
  rw [e] at c2
  have hcl := (List.getElem?_eq_some_iff.1 c2).1
  have := (List.getElem?_inj hcl h1).1 (c2.trans d2.symm)
  rw [this]
def clsR (s : Sy) : Nat → List Nat
 | 0 => List.replicate s.m.length 0
 | r + 1 => finer s (toZ (clsR s r))
theorem clsR_len (s : Sy) : ∀ r,(clsR s r).length = s.m.length
 | 0 => by simp [clsR]
 | r + 1 => finer_len _ _
theorem roundsF_cls (s : Sy) : ∀ (k r : Nat),roundsF s k (clsR s r) = (List.range' (r + 1) k).map (clsR s)
 | 0,r => rfl
 | k + 1,r => by
  rw [roundsF,List.range'_succ,List.map_cons]
  have e : finer s (toZ (clsR s r)) = clsR s (r + 1) := rfl
  rw [e,roundsF_cls s k (r + 1)]
theorem rounds_cls (s : Sy) (k : Nat) : List.replicate s.m.length 0 :: roundsF s k (List.replicate s.m.length 0) = (List.range' 0 (k + 1)).map (clsR s) := by
 have : List.replicate s.m.length 0 = clsR s 0 := rfl
 rw [this,roundsF_cls,List.range'_succ,List.map_cons]
end Go.Ab.Tab
/- Deterministic automata: they are valid systems; what their rounds say. -/
namespace Go.Ab.Tab
open Go Go.Ab
set_option maxRecDepth 10000
set_option linter.unusedVariables false
set_option linter.unusedSimpArgs false
def typD (k : Nat) : Fu := .mk 2 0 (gsD k)
theorem valP_st' {n y : Nat} (hy : y < n) : valP n (mkSt y) (.mk 0 0 []) = true := by
 unfold mkSt
 simp [valP_mk,locP_k,partsOk_k,numOk_k,weighedR_k,setOk_k,partsF_k,sets,wtd,valPs]
 omega
theorem valP_det {n k : Nat} {p : Bool × List Nat} (hl : p.2.length = k) (hp : ∀ y ∈ p.2,y < n) : valP n (mkDet p) (typD k) = true := by
 unfold mkDet typD gsD mkOut
 have h1 : valPs n (p.2.map mkSt) (List.replicate k (.mk 0 0 [])) = true := by
  rw [← hl,show p.2.length = (p.2.map mkSt).length by simp,valPs_rep,List.all_eq_true]
  intro v hv
  obtain ⟨y,hy,rfl⟩ := List.mem_map.1 hv
  exact valP_st' (hp y hy)
 simp [valP_mk,locP_k,partsOk_k,numOk_k,weighedR_k,setOk_k,partsF_k,sets,wtd,valPs,h1,hl]
 cases p.1 <;> simp
theorem isF_typD {k : Nat} (h1 : 1 ≤ k) (h4 : k ≤ 4) : isF (typD k) = true := by
 have : k = 1 ∨ k = 2 ∨ k = 3 ∨ k = 4 := by omega
 rcases this with rfl | rfl | rfl | rfl <;> rfl
theorem valV_det {n k : Nat} {p : Bool × List Nat} (hk : k ≤ 4) (hl : p.2.length = k) (hp : ∀ y ∈ p.2,y < n) : valV (typD k) n (mkDet p) = true := by
 have h := valP_det hl hp
 rw [valP_eq] at h
 unfold valV
 rw [h,Bool.and_true,decide_eq_true_eq]
 have h3 := nodesVs_map mkSt 1 p.2 fun x hx => by simp [mkSt,nodesV,nodesVs]
 simp [mkDet,mkOut,nodesV,nodesVs]
 omega
theorem det_nodes {k : Nat} (hk : k ≤ 4) {rs : Dfa} (h : DOk k rs) : nodesVs (rs.map mkDet) ≤ 800 := by
 have h1 := nodesVs_map mkDet 8 rs fun p hp => by
  have h2 := (h.row p hp).1
  have h3 := nodesVs_map mkSt 1 p.2 fun x hx => by simp [mkSt,nodesV,nodesVs]
  simp [mkDet,mkOut,nodesV,nodesVs]
  omega
 have := h.len
 omega
theorem isY_det {k : Nat} (h1 : 1 ≤ k) (h4 : k ≤ 4) {rs : Dfa} (h : DOk k rs) : isY (sysD k rs) = true := by
 unfold isY
 have e : (sysD k rs).f = typD k := rfl
 have e2 : (sysD k rs).m = rs.map mkDet := rfl
 have hn := det_nodes h4 h
 rw [e,e2,isF_typD h1 h4,Bool.true_and,List.length_map,decide_eq_true h.len,Bool.true_and,Bool.and_eq_true,decide_eq_true_eq,List.all_eq_true]
 refine ⟨fun v hv => ?_,by omega⟩
 obtain ⟨p,hp,rfl⟩ := List.mem_map.1 hv
 exact valV_det h4 (h.row p hp).1 (h.row p hp).2
theorem norm_det {n k : Nat} {p : Bool × List Nat} (hl : p.2.length = k) (hp : ∀ y ∈ p.2,y < n) : (normV n (mkDet p) (typD k)).isSome = true := by
 have h := valP_det hl hp
 rw [valP_eq,Bool.and_eq_true] at h
 rw [normV_self _ _ h.1]; rfl
theorem mapV_st (to : List Int) (y : Nat) : mapV to (mkSt y) (.mk 0 0 []) = .mk (to[y]?.getD 0) [] [] := by
 unfold mkSt
 rw [mapV]
 simp [Fu.k]
theorem mapVs_st (to : List Int) : ∀ (l : List Nat),mapVs to (l.map mkSt) (List.replicate l.length (.mk 0 0 [])) = l.map fun y => .mk (to[y]?.getD 0) [] []
 | [] => by simp [mapVs]
 | y :: l => by rw [List.map_cons,List.length_cons,List.replicate_succ,mapVs,mapV_st,mapVs_st to l,List.map_cons]
theorem mapV_det (to : List Int) {k : Nat} {p : Bool × List Nat} (hl : p.2.length = k) : mapV to (mkDet p) (typD k) = .mk 0 [mkOut p.1,.mk 0 (p.2.map fun y => .mk (to[y]?.getD 0) [] []) []] [] := by
 unfold mkDet typD gsD mkOut
 have h1 := mapVs_st to p.2
 rw [hl] at h1
 simp [mapV,mapVs,partsF_k,putV,sets,wtd,Fu.k,Va.n,Va.ws,h1]
theorem cls_det {k : Nat} {rs : Dfa} (h : DOk k rs) (to : List Int) (hto : to.length = rs.length) {i j : Nat} (hi : i < rs.length) (hj : j < rs.length) :
  (finer (sysD k rs) to)[i]? = (finer (sysD k rs) to)[j]? ↔ outD rs i = outD rs j ∧ ∀ a,a < k → to[(rowD rs i)[a]?.getD 0]? = to[(rowD rs j)[a]?.getD 0]? := by
 have e2 : (sysD k rs).m = rs.map mkDet := rfl
 have gi : (sysD k rs).m[i]? = some (mkDet rs[i]) := by rw [e2,List.getElem?_map,List.getElem?_eq_getElem hi]; rfl
 have gj : (sysD k rs).m[j]? = some (mkDet rs[j]) := by rw [e2,List.getElem?_map,List.getElem?_eq_getElem hj]; rfl
 rw [finer_cls _ _ gi gj]
 have ri := h.row _ (List.getElem_mem hi)
 have rj := h.row _ (List.getElem_mem hj)
 have e : (sysD k rs).f = typD k := rfl
 rw [e,mapV_det to ri.1,mapV_det to rj.1]
 have o1 : outD rs i = (rs[i]).1 := by unfold outD; rw [List.getElem?_eq_getElem hi]; rfl
 have o2 : outD rs j = (rs[j]).1 := by unfold outD; rw [List.getElem?_eq_getElem hj]; rfl
 have d1 : rowD rs i = (rs[i]).2 := by unfold rowD; rw [List.getElem?_eq_getElem hi]; rfl
 have d2 : rowD rs j = (rs[j]).2 := by unfold rowD; rw [List.getElem?_eq_getElem hj]; rfl
 rw [o1,o2,d1,d2]
 generalize rs[i] = p at *
 generalize rs[j] = q at *
 have hout : mkOut p.1 = mkOut q.1 ↔ p.1 = q.1 := by
  unfold mkOut
  cases p.1 <;> cases q.1 <;> simp
 rw [Va.mk.injEq,List.cons.injEq,List.cons.injEq,Va.mk.injEq,hout]
 simp only [true_and,and_true]
 refine and_congr_right fun _ => ?_
 constructor
 ·intro hm a ha
  have hap : a < p.2.length := by omega
  have haq : a < q.2.length := by omega
  rw [List.getElem?_eq_getElem hap,List.getElem?_eq_getElem haq,Option.getD_some,Option.getD_some]
  have hx := ri.2 _ (List.getElem_mem hap)
  have hy := rj.2 _ (List.getElem_mem haq)
  have := congrArg (fun l => l[a]?) hm
  simp only [List.getElem?_map,List.getElem?_eq_getElem hap,List.getElem?_eq_getElem haq,Option.map_some] at this
  injection this with this
  injection this with this
  rw [List.getElem?_eq_getElem (by omega),List.getElem?_eq_getElem (by omega)] at this ⊢
  simpa using this
 ·intro hm
  apply List.ext_getElem?
  intro a
  by_cases ha : a < k
  ·have hap : a < p.2.length := by omega
   have haq : a < q.2.length := by omega
   have := hm a ha
   rw [List.getElem?_eq_getElem hap,List.getElem?_eq_getElem haq,Option.getD_some,Option.getD_some] at this
   simp only [List.getElem?_map,List.getElem?_eq_getElem hap,List.getElem?_eq_getElem haq,Option.map_some,this]
  ·rw [List.getElem?_eq_none (by simp; omega),List.getElem?_eq_none (by simp; omega)]
def SameR (k : Nat) (rs : Dfa) (r i j : Nat) : Prop := ∀ w : List Int,w.length < r → wordOk k w = true → outD rs (folD rs i w) = outD rs (folD rs j w)
theorem cls_same {k : Nat} {rs : Dfa} (h : DOk k rs) : ∀ (r : Nat) {i j : Nat},i < rs.length → j < rs.length → ((clsR (sysD k rs) r)[i]? = (clsR (sysD k rs) r)[j]? ↔ SameR k rs r i j)
 | 0,i,j,hi,hj => by
  have e2 : (sysD k rs).m.length = rs.length := by show (rs.map mkDet).length = _; simp
  rw [clsR,e2,List.getElem?_replicate,List.getElem?_replicate,if_pos hi,if_pos hj]
  exact ⟨fun _ w hw => by omega,fun _ => rfl⟩
 | r + 1,i,j,hi,hj => by
  have e2 : (sysD k rs).m.length = rs.length := by show (rs.map mkDet).length = _; simp
  have hl : (toZ (clsR (sysD k rs) r)).length = rs.length := by rw [toZ_len,clsR_len,e2]
  rw [clsR,cls_det h _ hl hi hj]
  have key : ∀ a,a < k → ((toZ (clsR (sysD k rs) r))[(rowD rs i)[a]?.getD 0]? = (toZ (clsR (sysD k rs) r))[(rowD rs j)[a]?.getD 0]? ↔ SameR k rs r ((rowD rs i)[a]?.getD 0) ((rowD rs j)[a]?.getD 0)) := by
   intro a ha
   rw [← cls_same h r (h.next hi ha) (h.next hj ha)]
   unfold toZ
   rw [List.getElem?_map,List.getElem?_map]
   constructor
   ·intro e
    cases h1 : (clsR (sysD k rs) r)[(rowD rs i)[a]?.getD 0]? <;> cases h2 : (clsR (sysD k rs) r)[(rowD rs j)[a]?.getD 0]? <;> rw [h1,h2] at e <;> simp at e ⊢
    omega
   ·intro e; rw [e]
  constructor
  ·rintro ⟨h1,h2⟩ w hw hok
   cases w with
   | nil => exact h1
   | cons a w =>
    unfold wordOk at hok
    rw [List.all_cons,Bool.and_eq_true] at hok
    have ha : 0 ≤ a ∧ a < k := by simpa using hok.1
    have hak : a.toNat < k := by omega
    rw [folD,folD]
    exact (key _ hak).1 (h2 _ hak) w (by simpa using hw) hok.2
  ·intro hS
   refine ⟨hS [] (by simp) rfl,fun a ha => (key a ha).2 fun w hw hok => ?_⟩
   have := hS ((a : Int) :: w) (by simpa using hw) (by unfold wordOk at hok ⊢; rw [List.all_cons,hok]; simp; omega)
   rw [folD,folD,Int.toNat_natCast] at this
   exact this
theorem cls_all {k : Nat} {rs : Dfa} (h : DOk k rs) {i j : Nat} (hi : i < rs.length) (hj : j < rs.length) :
  (clsR (sysD k rs) rs.length)[i]? = (clsR (sysD k rs) rs.length)[j]? ↔ ∀ w : List Int,wordOk k w = true → outD rs (folD rs i w) = outD rs (folD rs j w) := by
 rw [cls_same h _ hi hj]
 constructor
 ·intro hS w hok
  have := stab rs.length (SameR k rs) (fun r i _ w _ _ => rfl) (fun r i j he w h1 h2 => (he w h1 h2).symm) (fun r i j l h1 h2 w q1 q2 => (h1 w q1 q2).trans (h2 w q1 q2))
   (fun r i j _ _ he w q1 q2 => he w (by omega) q2) (fun r hall i j hi hj he w q1 q2 => by
    cases w with
    | nil => exact he [] (by simp) rfl
    | cons a w =>
     have hok := q2
     unfold wordOk at hok
     rw [List.all_cons,Bool.and_eq_true] at hok
     have ha : 0 ≤ a ∧ a < k := by simpa using hok.1
     have hak : a.toNat < k := by omega
     rw [folD,folD]
     refine hall _ _ (h.next hi hak) (h.next hj hak) (fun v v1 v2 => ?_) w (by simpa using q1) hok.2
     have := he (a :: v) (by simpa using v1) (by unfold wordOk at v2 ⊢; rw [List.all_cons,v2,hok.1]; rfl)
     rw [folD,folD] at this
     exact this) (w.length + 1) i j hi hj hS
  exact this w (by omega) hok
 ·intro hS w _ hok
  exact hS w hok
end Go.Ab.Tab
/- What the states of the deterministic automaton accept. -/
namespace Go.Ab.Tab
open Go Go.Ab
set_option maxRecDepth 10000
set_option linter.unusedVariables false
set_option linter.unusedSimpArgs false
theorem addL_get (all : List (List Int)) (y : List Int) : (addL all y).2[(addL all y).1]? = some y := by
 unfold addL
 cases h : idxL y 0 all with
 | some j => obtain ⟨_,q⟩ := idxL_some h; simpa using q
 | none => simp
def RowOk (k : Nat) (ps : Aut) (all : List (List Int)) (x : List Int) (r : List Nat) : Prop := r.length = k ∧ ∀ a,a < k → ∃ m,r[a]? = some m ∧ all[m]? = some (nx ps a x)
theorem stepR_rowOk {k : Nat} {ps : Aut} {x : List Int} : ∀ (j a : Nat) (p : List (List Int) × List Nat),a + j = k → p.2.length = a → (∀ b,b < a → ∃ m,p.2[b]? = some m ∧ p.1[m]? = some (nx ps b x)) → RowOk k ps (stepR ps x j a p).1 x (stepR ps x j a p).2
 | 0,a,p,h1,h2,h3 => by
  obtain rfl : a = k := by omega
  exact ⟨h2,h3⟩
 | j + 1,a,p,h1,h2,h3 => by
  rw [stepR]
  refine stepR_rowOk j (a + 1) _ (by omega) (by simp [h2]) fun b hb => ?_
  by_cases e : b = a
  ·subst e
   exact ⟨_,by simp only []; rw [List.getElem?_append_right (by omega),h2]; simp,addL_get _ _⟩
  ·obtain ⟨m,m1,m2⟩ := h3 b (by omega)
   exact ⟨m,by simp only []; rw [List.getElem?_append_left (by omega)]; exact m1,addL_pre m2⟩
theorem reachR_rows {k : Nat} {ps : Aut} {res : List (List Int) × List (List Nat)} : ∀ (f i : Nat) (all : List (List Int)) (to : List (List Nat)),reachR k ps f i all to = some res → to.length = i → i ≤ all.length →
  (∀ (j : Nat) r x,to[j]? = some r → all[j]? = some x → RowOk k ps all x r) → (∀ (j : Nat) r x,res.2[j]? = some r → res.1[j]? = some x → RowOk k ps res.1 x r) ∧ (res.1.length ≤ 100 → res.2.length = res.1.length) ∧ ∀ (j : Nat) x,all[j]? = some x → res.1[j]? = some x
 | 0,i,all,to,h,_,_,_ => by cases h
 | f + 1,i,all,to,h,ht,hi,hro => by
  rw [reachR] at h
  split at h
  ·rename_i hn
   injection h with h; subst h
   refine ⟨hro,fun _ => ?_,fun _ _ q => q⟩
   have := List.getElem?_eq_none_iff.1 hn
   simp only
   omega
  ·rename_i x hx
   have hil := (List.getElem?_eq_some_iff.1 hx).1
   split at h
   ·have hpre := fun (j : Nat) (z : List Int) => stepR_pre ps x (i := j) (z := z) k 0 (all,[])
    obtain ⟨g1,g2,g3⟩ := reachR_rows f (i + 1) _ _ h (by simp [ht]) (by have := stepR_ge ps x k 0 (all,[]); simp only at this; omega) (by
     intro j r z hj hz
     rcases Nat.lt_or_ge j i with q | q
     ·rw [List.getElem?_append_left (by omega)] at hj
      have hjl : j < all.length := by omega
      have e := hpre j _ (List.getElem?_eq_getElem hjl)
      rw [e] at hz; injection hz with hz; subst hz
      obtain ⟨r1,r2⟩ := hro j r _ hj (List.getElem?_eq_getElem hjl)
      refine ⟨r1,fun a ha => ?_⟩
      obtain ⟨m,m1,m2⟩ := r2 a ha
      exact ⟨m,m1,hpre m _ m2⟩
     ·have hji : j = i := by
       have := (List.getElem?_eq_some_iff.1 hj).1
       simp at this; omega
      subst hji
      rw [List.getElem?_append_right (by omega),ht] at hj
      simp at hj; subst hj
      have e := hpre j _ hx
      rw [e] at hz; injection hz with hz; subst hz
      exact stepR_rowOk k 0 (all,[]) (by omega) rfl fun b hb => by omega)
    exact ⟨g1,g2,fun j z hz => g3 j z (hpre j z hz)⟩
   ·rename_i hbig
    injection h with h; subst h
    exact ⟨hro,fun hle => absurd hle hbig,fun _ _ q => q⟩
theorem det_dok {k : Nat} {ps : Aut} {res : List (List Int) × List (List Nat)} {all : List (List Int)} {f : Nat} (h : reachR k ps f 0 all [] = some res) (h100 : res.1.length ≤ 100) : DOk k (rowsR ps res.1 res.2) ∧ (rowsR ps res.1 res.2).length = res.1.length ∧
  ∀ (i : Nat) x,res.1[i]? = some x → outD (rowsR ps res.1 res.2) i = finL ps x ∧ ∀ a,a < k → res.1[(rowD (rowsR ps res.1 res.2) i)[a]?.getD 0]? = some (nx ps a x) := by
 obtain ⟨g1,g2,_⟩ := reachR_rows f 0 all [] h rfl (by omega) (fun j r x hj => by simp at hj)
 have hlen := g2 h100
 have hl : (rowsR ps res.1 res.2).length = res.1.length := by unfold rowsR; rw [List.length_zipWith]; omega
 have hget : ∀ (i : Nat) (hi : i < res.1.length),(rowsR ps res.1 res.2)[i]? = some (finL ps res.1[i],res.2[i]) := by
  intro i hi
  unfold rowsR
  rw [List.getElem?_zipWith,List.getElem?_eq_getElem hi,List.getElem?_eq_getElem (by omega)]
 refine ⟨⟨by omega,fun p hp => ?_⟩,hl,fun i x hx => ?_⟩
 ·obtain ⟨i,hi,rfl⟩ := List.getElem_of_mem hp
  have hi2 : i < res.1.length := by omega
  have e := hget i hi2
  rw [List.getElem?_eq_getElem hi] at e
  injection e with e
  rw [e]
  obtain ⟨r1,r2⟩ := g1 i res.2[i] res.1[i] (List.getElem?_eq_getElem (by omega)) (List.getElem?_eq_getElem hi2)
  refine ⟨r1,fun y hy => ?_⟩
  obtain ⟨a,ha,rfl⟩ := List.getElem_of_mem hy
  have ha2 : a < res.2[i].length := ha
  obtain ⟨m,m1,m2⟩ := r2 a (by omega)
  rw [List.getElem?_eq_getElem ha] at m1
  injection m1 with m1
  rw [hl,m1]
  exact (List.getElem?_eq_some_iff.1 m2).1
 ·obtain ⟨hi,rfl⟩ := List.getElem?_eq_some_iff.1 hx
  have e := hget i hi
  refine ⟨by unfold outD; rw [e]; rfl,fun a ha => ?_⟩
  obtain ⟨r1,r2⟩ := g1 i res.2[i] res.1[i] (List.getElem?_eq_getElem (by omega)) hx
  obtain ⟨m,m1,m2⟩ := r2 a ha
  have e2 : rowD (rowsR ps res.1 res.2) i = res.2[i] := by unfold rowD; rw [e]; rfl
  rw [e2,m1,Option.getD_some,m2]
theorem det_acc {k : Nat} {ps : Aut} (hps : AuOk k ps) {res : List (List Int) × List (List Nat)} {rs : Dfa} (hvs : VSs ps.length res.1) (hd : ∀ (i : Nat) x,res.1[i]? = some x → outD rs i = finL ps x ∧ ∀ a,a < k → res.1[(rowD rs i)[a]?.getD 0]? = some (nx ps a x)) :
  ∀ (w : List Int) (i : Nat) (x : List Int),wordOk k w = true → res.1[i]? = some x → outD rs (folD rs i w) = endsB (paOf k ps).F (runB (paOf k ps) (toS x) w)
 | [],i,x,_,hx => by
  rw [folD,(hd i x hx).1]
  exact finL_ends hps.len (hvs x (mem_of_get hx)).below
 | a :: w,i,x,hok,hx => by
  unfold wordOk at hok
  rw [List.all_cons,Bool.and_eq_true] at hok
  have ha : 0 ≤ a ∧ a < k := by simpa using hok.1
  rw [folD]
  have := det_acc hps hvs hd w _ (nx ps a.toNat x) hok.2 ((hd i x hx).2 a.toNat (by omega))
  rw [this,toS_nx hps _ (hvs x (mem_of_get hx)).below]
  rfl
end Go.Ab.Tab
/- Law 8 (DetLanguages): the loops. -/
namespace Go.Ab.Tab
open Go Go.Ab
set_option maxRecDepth 10000
set_option linter.unusedVariables false
set_option linter.unusedSimpArgs false
theorem sysD_m (k : Nat) (rs : Dfa) : (sysD k rs).m.length = rs.length := by show (rs.map mkDet).length = _; simp
theorem l8_1 (k : Nat) (ps : Aut) (hG : AuG k ps) (hn : ps.length ≤ 10) (all : List (List Int)) (hvs : VSs ps.length all) (hall : all.length ≤ 100) (cls : List Int) (hcl : cls.length = all.length) (hT : ∀ i,i < all.length → (cls[i]? = cls[0]? ↔ ∀ w : List Nat,Acc (paOf k ps) (toS (all[i]?.getD [])) w ↔ Acc (paOf k ps) (toS (all[0]?.getD [])) w))
  (FL : List AV) (hY : encY (auY k ps) = .agg [.int .i64 2,.int .i64 0,.sl 3 FL .no,.sl 3 (ps.map fun p => encV (mkAu p)) .no]) (h24 : Go.Ab.Loc Pg Gl 1 24 [] [] (.bool true) []) (S) :
  ∀ (m i : Nat) (τ ω),i + m = 4 → 1 ≤ i → τ 3 = .ptr 0 3 1 0 → τ 8 = encLs all → τ 15 = encI cls → τ 16 = .int .i64 i → ω 3 = (1,.cells [.int .i64 2,.int .i64 0,.sl 3 FL .no,.sl 3 (ps.map fun p => encV (mkAu p)) .no]) →
  Rd (Loc Pg Gl) .im (RetQ [.tmp 6] (.bool true) S) [.lp c8_l1,.blk 2,.c c8_k0] (stF 151 0 τ ω S) := by
 have fin : ∀ τ ω,Rd (Loc Pg Gl) .im (RetQ [.tmp 6] (.bool true) S) [.c c8_k0] (stF 151 0 τ ω S) := by
  intro τ ω
  simp [c8_k0]
  refine Rd_call h24 (by simp) ?_
  simp
 intro m
 induction m with
 | zero =>
  intro i τ ω hi h1 h3 h8 h15 h16 w3
  refine Rd_lpE c8_l1.eq_1 ?_
  obtain rfl : i = 4 := by omega
  by_cases hc : (4 : Int) < all.length
  ·simp [h8,h16,encLs,hc]
   exact fin _ _
  ·simp [h8,h16,encLs,hc]
   exact fin _ _
 | succ m ih =>
  intro i τ ω hi h1 h3 h8 h15 h16 w3
  refine Rd_lpE c8_l1.eq_1 ?_
  by_cases hc : i < all.length
  ·have hi4 : (i : Int) < 4 := by omega
   have h0 : 0 < all.length := by omega
   have hic : i < cls.length := by omega
   have h0c : 0 < cls.length := by omega
   have hwr : IntKind.i64.wrap ((i : Int) + 1) = ((i + 1 : Nat) : Int) := by rw [← wrap_i64_nat (n := i + 1) (by omega)]; rfl
   have v1 := hvs all[i] (List.getElem_mem hc)
   have v0 := hvs all[0] (List.getElem_mem h0)
   obtain ⟨b,hb,hbT⟩ := same_ok hG.ok hn v1 v0
   have s44 := spec44 1 k ps hG.ok hG.rl (by show fitF (typ k); simp [typ,fitF,fitFs,maxLen]) all[i] all[0] v1 v0 (2 ^ 20 + 1) (by omega) b hb
   have hTi := hT i hc
   rw [List.getElem?_eq_getElem hic,List.getElem?_eq_getElem h0c,List.getElem?_eq_getElem hc,List.getElem?_eq_getElem h0,Option.getD_some,Option.getD_some,← hbT] at hTi
   have hcb : (decide (cls[i] = cls[0])) = b := by
    rw [Bool.eq_iff_iff,decide_eq_true_eq,← hTi]
    simp
   rw [hY] at s44
   simp [h3,h8,h15,h16,w3,encLs,hc,hi4,encI,hic,h0c,h0]
   refine Rd_drCall s44 (by simp [encI]) ?_
   simp [hcb,h16,hwr]
   refine ih (i + 1) _ _ (by omega) (by omega) ?_ ?_ ?_ ?_ w3
   all_goals simp [h3,h8,h15,encI,encLs]
  ·have hc2 : ¬ (i : Int) < all.length := by omega
   simp [h8,h16,encLs,hc]
   exact fin _ _
theorem l8_0 (k : Nat) (ps : Aut) (hG : AuG k ps) (all : List (List Int)) (hvs : VSs ps.length all) (hall : all.length ≤ 100) (word : List Int) (hword : word.length ≤ maxLen) (hok : wordOk k word = true) (rs : Dfa) (hD : DOk k rs) (hrl : rs.length = all.length)
  (hacc : ∀ i,i < all.length → outD rs (folD rs i word) = endsB (paOf k ps).F (runB (paOf k ps) (toS (all[i]?.getD [])) word))
  (FL FL2 : List AV) (hY : encY (auY k ps) = .agg [.int .i64 2,.int .i64 0,.sl 3 FL .no,.sl 3 (ps.map fun p => encV (mkAu p)) .no]) (hYd : encY (sysD k rs) = .agg [.int .i64 2,.int .i64 0,.sl 3 FL2 .no,.sl 3 (rs.map fun p => encV (mkDet p)) .no]) (S)
  (Q : St → Prop) (K : List AI) (hend : ∀ τ' ω',τ' 3 = .ptr 0 3 1 0 → τ' 7 = .ptr 0 7 1 0 → τ' 8 = encLs all → ω' 3 = (1,.cells [.int .i64 2,.int .i64 0,.sl 3 FL .no,.sl 3 (ps.map fun p => encV (mkAu p)) .no]) → ω' 7 = (1,.cells [.int .i64 2,.int .i64 0,.sl 3 FL2 .no,.sl 3 (rs.map fun p => encV (mkDet p)) .no]) → Rd (Loc Pg Gl) .im Q K (stF 151 0 τ' ω' S)) :
  ∀ (m i : Nat) (τ ω),i + m = all.length → τ 2 = encI word → τ 3 = .ptr 0 3 1 0 → τ 7 = .ptr 0 7 1 0 → τ 8 = encLs all → τ 85 = encLs all → τ 86 = .int .i64 all.length → τ 87 = .int .i64 i →
  ω 3 = (1,.cells [.int .i64 2,.int .i64 0,.sl 3 FL .no,.sl 3 (ps.map fun p => encV (mkAu p)) .no]) → ω 7 = (1,.cells [.int .i64 2,.int .i64 0,.sl 3 FL2 .no,.sl 3 (rs.map fun p => encV (mkDet p)) .no]) →
  Rd (Loc Pg Gl) .im Q (.lp c8_l0 :: .blk 0 :: K) (stF 151 0 τ ω S) := by
 intro m
 induction m with
 | zero =>
  intro i τ ω hi h2 h3 h7 h8 h85 h86 h87 w3 w7
  refine Rd_lpE c8_l0.eq_1 ?_
  obtain rfl : i = all.length := by omega
  simp [h86,h87]
  refine hend _ _ ?_ ?_ ?_ w3 w7 <;> simp [h3,h7,h8]
 | succ m ih =>
  intro i τ ω hi h2 h3 h7 h8 h85 h86 h87 w3 w7
  refine Rd_lpE c8_l0.eq_1 ?_
  have hlt : i < all.length := by omega
  have hwr : IntKind.i64.wrap ((i : Int) + 1) = ((i + 1 : Nat) : Int) := by rw [← wrap_i64_nat (n := i + 1) (by omega)]; rfl
  obtain ⟨l,hl⟩ : ∃ l,all[i] = l := ⟨_,rfl⟩
  have hv := hvs l (by rw [← hl]; exact List.getElem_mem hlt)
  have s41 := spec41_ok 1 k ps hG.ok hG.rl hG.is hG.fit hG.nodes (paOf_rl k ps) hG.w l word hv.len hword
  have s42 := spec42 1 k rs hD i (by omega) word hok hword
  have hac := hacc i hlt
  rw [List.getElem?_eq_getElem hlt,Option.getD_some,hl] at hac
  rw [hv.is,hok,Bool.and_self,if_pos rfl,← hac,hY] at s41
  rw [hYd] at s42
  generalize outD rs (folD rs i word) = b at s41 s42
  simp [h86,h87,hlt,h85,encLs,hl,h3,w3,h2,encI_left]
  refine Rd_call s41 (by simp) ?_
  simp [h7,w7,h87,h2]
  refine Rd_call s42 (by simp) ?_
  have hb : ((if b then (1 : Int) else 0) = 1) = (b = true) := by cases b <;> simp
  simp [hb,h87,hwr]
  refine ih (i + 1) _ _ (by omega) ?_ ?_ ?_ ?_ ?_ ?_ ?_ w3 w7
  all_goals simp [h2,h3,h7,h8,h85,h86,encLs]
end Go.Ab.Tab
