/- The reference's Copy of a system (92), Shift (93), Sum (62). -/
import Derived.Test.YtgfjhhgpgaejmaaGreatDoorApartH
namespace Go.Ab.Tab
open Go Go.Ab
set_option maxRecDepth 10000
set_option linter.unusedVariables false
set_option linter.unusedSimpArgs false
def encYt (s : Sy) : AV := .agg [.int .i64 s.f.k,.int .i64 s.f.n,.sl 3 (s.f.gs.map encF) .no,.sl 3 (s.m.map encV) .tip]
theorem l92 (D : Nat) (s : Sy) (hml : s.m.length ≤ 2 ^ 20) (hm : ∀ v ∈ s.m,fitV v ∧ nodesV v ≤ 2 ^ 30 ∧ lightV 0 v = true) (S) (r : AV) :
  ∀ (j i : Nat) (acc : List Va) (τ ω),i + j = s.m.length → acc.length = i →
  τ 2 = .ptr D 2 1 0 → τ 3 = .ptr D 3 1 0 → τ 11 = .sl 3 (s.m.map encV) .no → τ 12 = .int .i64 s.m.length → τ 13 = .int .i64 i →
  ω 2 = (1,.cells [.int .i64 0,.int .i64 0,.sl 3 [] .tip,.sl 3 [] .tip]) → ω 3 = (1,.cells [.int .i64 s.f.k,.int .i64 s.f.n,.sl 3 (s.f.gs.map encF) .no,.sl 3 (acc.map encV) .tip]) → r = encYt ⟨s.f,acc ++ s.m.drop i⟩ →
  Rd (Loc Pg Gl) .im (RetA [.cell 2 true 4] r D S []) [.lp c92_l0,.blk 0,.c c92_k0] (stF 26 D τ ω S) := by
 intro j
 induction j with
 | zero =>
  intro i acc τ ω hi hal h2 h3 h11 h12 h13 w2 w3 hr
  refine Rd_lpE c92_l0.eq_1 ?_
  obtain rfl : i = s.m.length := by omega
  rw [List.drop_length,List.append_nil,encYt] at hr
  simp [h2,h3,h12,h13,w2,w3,c92_k0,hr,putC]
 | succ j ih =>
  intro i acc τ ω hi hal h2 h3 h11 h12 h13 w2 w3 hr
  refine Rd_lpE c92_l0.eq_1 ?_
  have hlt : i < s.m.length := by omega
  have hwr := wrap_next hlt (by unfold maxLen; omega)
  have hle : (i + 1) * 56 ≤ 1099511627776 := by omega
  obtain ⟨q1,q2,q3⟩ := hm _ (List.getElem_mem hlt)
  rw [List.drop_eq_getElem_cons hlt] at hr
  generalize hu : s.m[i] = u at hr q1 q2 q3
  have hc := spec118 u q1 q2 q3 (D + 1)
  simp [h3,h11,h12,h13,w3,hlt,hu,encV_eta u]
  refine Rd_drCall hc (by simp [encV_eta u]) ?_
  simp [encV_eta u,h3,w3,hal,hle,h13,hwr]
  refine ih (i + 1) (acc ++ [u]) _ _ (by omega) (by simp [hal]) ?_ ?_ ?_ ?_ ?_ ?_ ?_ (by rw [hr]; simp)
  all_goals simp [h2,h3,h11,h12,w2,encV_eta u]
theorem spec92 (s : Sy) (hf : fitF s.f) (hno : nodesF s.f ≤ 2 ^ 30) (hml : s.m.length ≤ 2 ^ 20) (hm : ∀ v ∈ s.m,fitV v ∧ nodesV v ≤ 2 ^ 30 ∧ lightV 0 v = true) (D : Nat) : Go.Ab.Loc Pg Gl D 92 [encY s] [] (encYt s) [] := by
 refine loc_rdA mixedP tok rfl rfl fun S hS => ?_
 have h117 := spec117 s.f hf hno (D + 1)
 unfold c92 encY
 simp
 refine Rd_call h117 (by simp [encF_eta s.f]) ?_
 simp [encF_eta s.f]
 refine l92 D s hml hm S _ s.m.length 0 [] _ _ (by omega) rfl ?_ ?_ ?_ ?_ ?_ ?_ ?_ ?_
 all_goals simp
end Go.Ab.Tab
/- The reference's Shift (93),Sum (62),Equal (24). -/
namespace Go.Ab.Tab
open Go Go.Ab
set_option maxRecDepth 10000
set_option linter.unusedVariables false
set_option linter.unusedSimpArgs false
def shiftL (n b : Nat) : List Int := (List.range n).map fun (i : Nat) => ((i + b : Nat) : Int)
theorem l93 (D : Nat) (n b : Nat) (hn : n ≤ 2 ^ 20) (hb : b ≤ 2 ^ 20) (S) (r : AV) : ∀ (j i : Nat) (τ ω),i + j = n →
  τ 1 = .int .i64 b → τ 5 = .sl 1 ((shiftL i b).map (AV.int .i64)) .tip → τ 7 = .int .i64 n → τ 8 = .int .i64 i → r = encI (shiftL n b) →
  Rd (Loc Pg Gl) .im (RetQ [.tmp 4] r S) [.lp c93_l0,.blk 0,.c c93_k0] (stF 19 D τ ω S) := by
 intro j
 induction j with
 | zero =>
  intro i τ ω hi h1 h5 h7 h8 hr
  refine Rd_lpE c93_l0.eq_1 ?_
  obtain rfl : i = n := by omega
  rw [encI] at hr
  simp [h5,h7,h8,c93_k0,hr]
 | succ j ih =>
  intro i τ ω hi h1 h5 h7 h8 hr
  refine Rd_lpE c93_l0.eq_1 ?_
  have hlt : i < n := by omega
  have hwr : IntKind.i64.wrap ((i : Int) + 1) = ((i + 1 : Nat) : Int) := by rw [← wrap_i64_nat (n := i + 1) (by omega)]; rfl
  have hwb : IntKind.i64.wrap ((i : Int) + (b : Int)) = ((i + b : Nat) : Int) := by rw [← wrap_i64_nat (n := i + b) (by omega)]; congr 1
  have hll : (shiftL i b).length = i := by simp [shiftL]
  have hle : (i + 1) * 8 ≤ 1099511627776 := by omega
  have hs : (shiftL (i + 1) b).map (AV.int .i64) = (shiftL i b).map (AV.int .i64) ++ [.int .i64 ((i + b : Nat) : Int)] := by simp [shiftL,List.range_succ]
  simp [h1,h5,h7,h8,hlt,hwr,hwb,hll,hle]
  refine ih (i + 1) _ _ (by omega) ?_ ?_ ?_ ?_ hr
  case refine_2 =>
   rw [hs]
   simp
  all_goals simp [h1,h7]
theorem spec93 (n b : Nat) (hn : n ≤ 2 ^ 20) (hb : b ≤ 2 ^ 20) (D : Nat) : Go.Ab.Loc Pg Gl D 93 [.int .i64 n,.int .i64 b] [] (encI (shiftL n b)) [] := by
 refine loc_rd mixedP tok rfl rfl fun S => ?_
 unfold c93
 simp
 refine l93 D n b hn hb S _ n 0 _ _ (by omega) ?_ ?_ ?_ ?_ rfl
 all_goals simp [shiftL]
def sumY (s t : Sy) : Sy := ⟨s.f,s.m ++ t.m.map fun v => mapV (shiftL t.m.length s.m.length) v t.f⟩
theorem l62 (D : Nat) (s t : Sy) (hs : PolyY s) (ht : PolyY t) (S) (r : AV) : ∀ (j i : Nat) (acc : List Va) (τ ω),i + j = t.m.length → acc.length = i →
  τ 2 = .ptr D 2 1 0 → τ 3 = .ptr D 3 1 0 → τ 4 = .ptr D 4 1 0 → τ 5 = .ptr D 5 1 0 → τ 11 = .sl 3 (t.m.map encV) .no → τ 12 = .int .i64 t.m.length → τ 13 = .int .i64 i →
  ω 2 = ycells s → ω 3 = ycells t → ω 4 = (1,.cells [.int .i64 0,.int .i64 0,.sl 3 [] .tip,.sl 3 [] .tip]) → ω 5 = (1,.cells [.int .i64 s.f.k,.int .i64 s.f.n,.sl 3 (s.f.gs.map encF) .no,.sl 3 ((s.m ++ acc).map encV) .tip]) →
  r = encY ⟨s.f,s.m ++ acc ++ (t.m.drop i).map fun v => mapV (shiftL t.m.length s.m.length) v t.f⟩ →
  Rd (Loc Pg Gl) .im (RetQ [.cell 4 true 4] r S) [.lp c62_l0,.blk 0,.c c62_k0] (stF 35 D τ ω S) := by
 have hsl := hs.len
 have htl := ht.len
 intro j
 induction j with
 | zero =>
  intro i acc τ ω hi hal h2 h3 h4 h5 h11 h12 h13 w2 w3 w4 w5 hr
  refine Rd_lpE c62_l0.eq_1 ?_
  obtain rfl : i = t.m.length := by omega
  rw [List.drop_length,List.map_nil,List.append_nil,encY] at hr
  rw [List.map_append] at w5
  simp [h4,h5,h12,h13,w4,w5,c62_k0,hr]
 | succ j ih =>
  intro i acc τ ω hi hal h2 h3 h4 h5 h11 h12 h13 w2 w3 w4 w5 hr
  refine Rd_lpE c62_l0.eq_1 ?_
  have hlt : i < t.m.length := by omega
  have hwr := wrap_next hlt (by unfold maxLen; omega)
  have hm := List.getElem_mem hlt
  obtain ⟨vn,vN⟩ := valV_ok (ht.va _ hm)
  have hfit := ht.m _ hm
  rw [List.drop_eq_getElem_cons hlt,List.map_cons] at hr
  have h93 := spec93 t.m.length s.m.length (by omega) (by omega) (D + 1)
  have hsh : (shiftL t.m.length s.m.length).length = t.m.length := by simp [shiftL]
  have h17 := spec17 (shiftL t.m.length s.m.length) (by omega) t.m[i] hfit (by omega) t.f ht.sh (by rw [hsh,normV_self _ _ vN]; rfl) (D + 1)
  generalize hv : t.m[i] = v at h17 hr
  generalize mapV (shiftL t.m.length s.m.length) v t.f = u at h17 hr
  have hle : (s.m.length + i + 1) * 56 ≤ 1099511627776 := by omega
  rw [List.map_append] at w5
  simp [h2,h3,h5,h11,h12,h13,w2,w3,w5,ycells,hlt,hv,encV_eta v]
  refine Rd_drCall h93 (by simp) ?_
  simp [encI]
  refine Rd_drCall h17 (by simp [encF_eta t.f,encV_eta v,encI]) ?_
  simp [encV_eta u,h5,w5,hal,hle,h13,hwr]
  refine ih (i + 1) (acc ++ [u]) _ _ (by omega) (by simp [hal]) ?_ ?_ ?_ ?_ ?_ ?_ ?_ ?_ ?_ ?_ ?_ (by rw [hr]; simp)
  all_goals simp [h2,h3,h4,h5,h11,h12,w2,w3,w4,ycells,encV_eta u]
theorem light0 {s : Sy} (hs : PolyY s) : ∀ v ∈ s.m,fitV v ∧ nodesV v ≤ 2 ^ 30 ∧ lightV 0 v = true := fun v hv => by
 obtain ⟨vn,vN⟩ := valV_ok (hs.va v hv)
 exact ⟨hs.m v hv,by omega,val_light 0 v s.f hs.sh hs.po vN⟩
theorem spec62 (s t : Sy) (hs : PolyY s) (ht : PolyY t) (hno : nodesF s.f ≤ 2 ^ 30) (D : Nat) : Go.Ab.Loc Pg Gl D 62 [encY s,encY t] [] (encY (sumY s t)) [] := by
 refine loc_rd mixedP tok rfl rfl fun S => ?_
 have h92 := spec92 s hs.f hno (by have := hs.len; omega) (light0 hs) (D + 1)
 unfold c62 sumY
 have hE := encY.eq_1 s
 have hE' := encY.eq_1 t
 rw [hE] at h92
 rw [hE,hE']
 simp
 refine Rd_call h92 (by simp) ?_
 simp [encYt]
 refine l62 D s t hs ht S _ t.m.length 0 [] _ _ (by omega) rfl ?_ ?_ ?_ ?_ ?_ ?_ ?_ ?_ ?_ ?_ ?_ ?_
 all_goals simp [ycells]
end Go.Ab.Tab
/- The reference's Equal (24) of the sum of two systems. -/
namespace Go.Ab.Tab
open Go Go.Ab
set_option maxRecDepth 10000
set_option linter.unusedVariables false
set_option linter.unusedSimpArgs false
theorem val_mono {n m : Nat} (h : n ≤ m) {v : Va} {f : Fu} (hf : shapedF f = true) (hp : polyF f = true) (hv : valN n v f = true) : valN m v f = true := by
 obtain ⟨h1,h2⟩ := (flat_val n v f hf hp).1 hv
 exact (flat_val m v f hf hp).2 ⟨h1,fun x hx => by have := h2 x hx; omega⟩
theorem map_shift {f : Fu} (hf : shapedF f = true) (hp : polyF f = true) {n b : Nat} {v : Va} (hv : valN n v f = true) : mapL (shiftL n b) (leavesV v f) = (leavesV v f).map fun x => x + (b : Int) := by
 unfold mapL
 refine List.map_congr_left fun x hx => ?_
 have hr := leavesV_range v f hv x hx
 have hlt : x.toNat < (shiftL n b).length := by simp [shiftL]; omega
 rw [List.getElem?_eq_getElem hlt,Option.getD_some]
 simp [shiftL]
 omega
theorem sum_val {s t : Sy} (hs : PolyY s) (ht : PolyY t) (hft : s.f = t.f) : ∀ v ∈ (sumY s t).m,fitV v ∧ nodesV v ≤ 2000 ∧ valN (s.m.length + t.m.length) v s.f = true := by
 intro v hv
 rcases List.mem_append.1 hv with hv | hv
 ·obtain ⟨vn,vN⟩ := valV_ok (hs.va v hv)
  exact ⟨hs.m v hv,vn,val_mono (by omega) hs.sh hs.po vN⟩
 ·obtain ⟨w,hw,rfl⟩ := List.mem_map.1 hv
  obtain ⟨wn,wN⟩ := valV_ok (ht.va w hw)
  obtain ⟨m1,m2,m3,m4⟩ := map_props ht.sh ht.po wN (shiftL t.m.length s.m.length)
  refine ⟨mapV_fit _ w (ht.m w hw) t.f,by rw [m4]; exact wn,?_⟩
  rw [hft]
  refine m3 _ fun x hx => ?_
  rw [map_shift ht.sh ht.po wN] at hx
  obtain ⟨y,hy,rfl⟩ := List.mem_map.1 hx
  have := leavesV_range w t.f wN y hy
  omega
theorem sum_len (s t : Sy) : (sumY s t).m.length = s.m.length + t.m.length := by simp [sumY]
theorem spec24 (s t : Sy) (hs : PolyY s) (ht : PolyY t) (hft : s.f = t.f) (hno : nodesF s.f ≤ 2 ^ 30) (x y : Nat) (hx : x < s.m.length) (hy : y < t.m.length) (D : Nat) :
  Go.Ab.Loc Pg Gl D 24 [encY s,encY t,.int .i64 x,.int .i64 y,.int .i64 ((s.m.length + t.m.length : Nat) : Int)] [] (.bool (decide ((clsR (sumY s t) (s.m.length + t.m.length))[x]? = (clsR (sumY s t) (s.m.length + t.m.length))[s.m.length + y]?))) [] := by
 have hsl := hs.len
 have htl := ht.len
 have h62 := spec62 s t hs ht hno (D + 1)
 have hsv := sum_val hs ht hft
 have hl := sum_len s t
 have h63 := spec63 (D + 1) (sumY s t) hs.sh (by omega) (fun v hv => (hsv v hv).1) (fun v hv => by have := (hsv v hv).2.1; omega) (fun v hv => by rw [hl,show (sumY s t).f = s.f from rfl,normV_self _ _ (hsv v hv).2.2]; rfl) (s.m.length + t.m.length) (by omega)
 rw [rounds_cls] at h63
 have hcl : ∀ r,(clsR (sumY s t) r).length = s.m.length + t.m.length := fun r => by rw [clsR_len,hl]
 have hlast : ((List.range' 0 (s.m.length + t.m.length + 1)).map (clsR (sumY s t)))[s.m.length + t.m.length]? = some (clsR (sumY s t) (s.m.length + t.m.length)) := by
  rw [List.getElem?_map,List.getElem?_range' (by omega)]
  simp
 have hrl : ((List.range' 0 (s.m.length + t.m.length + 1)).map (clsR (sumY s t))).length = s.m.length + t.m.length + 1 := by simp
 have hcN := hcl (s.m.length + t.m.length)
 generalize clsR (sumY s t) (s.m.length + t.m.length) = c at hlast hcN
 generalize (List.range' 0 (s.m.length + t.m.length + 1)).map (clsR (sumY s t)) = L at h63 hlast hrl
 generalize hY : sumY s t = Y at h62 h63 hl
 have hE := encY.eq_1 s
 have hE' := encY.eq_1 t
 have hEY := encY.eq_1 Y
 rw [hE,hE',hEY] at h62
 rw [hEY] at h63
 refine loc_rd mixedP tok rfl rfl fun S => ?_
 unfold c24
 rw [hE,hE']
 simp
 refine Rd_call h62 (by simp) ?_
 simp
 refine Rd_call h63 (by simp [hl]) ?_
 have hx' : x < c.length := by omega
 have hy' : s.m.length + y < c.length := by omega
 have w2 : IntKind.i64.wrap ((s.m.length : Int) + (y : Int)) = ((s.m.length + y : Nat) : Int) := by rw [← wrap_i64_nat (n := s.m.length + y) (by omega)]; congr 1
 obtain ⟨N,hN⟩ : ∃ N,N = s.m.length + t.m.length := ⟨_,rfl⟩
 obtain ⟨p,hp⟩ : ∃ p,p = s.m.length + y := ⟨_,rfl⟩
 rw [← hN] at hlast hrl
 rw [← hp] at hy' w2 ⊢
 have hc1 : (s.m.length : Int) + (t.m.length : Int) = (N : Int) := by omega
 have w1 : IntKind.i64.wrap (N : Int) = (N : Int) := wrap_i64_nat (by omega)
 have hLl : N < L.length := by omega
 have hLc : L[N] = c := (List.getElem?_eq_some_iff.1 hlast).2
 have hlt : (N : Int) < (N : Int) + 1 := by omega
 simp [hrl,hc1,w1,hlt,hLl,hLc,encI,toZ,hx',w2,hy']
 omega
end Go.Ab.Tab
/- The reference's Apart (22): the same search,with paths. -/
namespace Go.Ab.Tab
open Go Go.Ab
set_option maxRecDepth 10000
set_option linter.unusedVariables false
set_option linter.unusedSimpArgs false
abbrev Vi := Nat × Nat × List Int
def encVi (v : Vi) : AV := .agg [.int .i64 v.1,.int .i64 v.2.1,.sl 1 (v.2.2.map (AV.int .i64)) .no]
def pathOf (ws : List Wy) (i : Nat) : List Int := (pathW ws (i + 1) i).reverse
def VR (ws : List Wy) (vs : List Vi) : Prop := vs.length = ws.length ∧ ∀ (i : Nat) w,ws[i]? = some w → vs[i]? = some (w.a,w.b,pathOf ws i)
theorem pathW_len (ws : List Wy) : ∀ f i,(pathW ws f i).length ≤ f
 | 0,i => by simp [pathW]
 | f + 1,i => by
  rw [pathW]
  split
  ·split
   ·simp
   ·rw [List.length_cons]; have := pathW_len ws f (‹Wy›).fr.toNat; omega
  ·simp
theorem pathW_app {n m : Nat} {ws : List Wy} (h : WOk n m ws) (r : List Wy) : ∀ (i f g : Nat),i < ws.length → i < f → i < g → pathW (ws ++ r) f i = pathW ws g i := by
 intro i
 induction i using Nat.strongRecOn with
 | ind i ih =>
  intro f g hi hf hg
  obtain ⟨f',rfl⟩ : ∃ f',f = f' + 1 := ⟨f - 1,by omega⟩
  obtain ⟨g',rfl⟩ : ∃ g',g = g' + 1 := ⟨g - 1,by omega⟩
  obtain ⟨w,hw⟩ : ∃ w,ws[i]? = some w := ⟨_,List.getElem?_eq_getElem hi⟩
  obtain ⟨_,_,h3,h4,_⟩ := h.get i w hw
  rw [pathW,pathW,List.getElem?_append_left hi,hw]
  simp only
  by_cases c : w.fr < 0
  ·rw [if_pos c,if_pos c]
  ·rw [if_neg c,if_neg c,ih w.fr.toNat (by omega) f' g' (by omega) (by omega) (by omega)]
theorem VR.add {n m : Nat} {ws : List Wy} {vs : List Vi} (h : WOk n m ws) (hv : VR ws vs) {k p a b : Nat} (hk : k < ws.length) (hh : hasW ws a b = false) : VR (addWy ws k p a b) (vs ++ [(a,b,pathOf ws k ++ [(p : Int)])]) := by
 have e : addWy ws k p a b = ws ++ [⟨a,b,k,p⟩] := by unfold addWy; rw [hh]; rfl
 rw [e]
 refine ⟨by simp [hv.1],fun i w hi => ?_⟩
 rw [List.getElem?_append] at hi
 split at hi
 ·rename_i hlt
  rw [List.getElem?_append_left (by rw [hv.1]; exact hlt),hv.2 i w hi]
  unfold pathOf
  rw [pathW_app h _ i (i + 1) (i + 1) hlt (by omega) (by omega)]
 ·rename_i hlt
  have hi0 : i - ws.length = 0 := by
   have := (List.getElem?_eq_some_iff.1 hi).1
   simpa using this
  rw [hi0] at hi
  simp at hi
  subst hi
  have hil : i = ws.length := by omega
  subst hil
  rw [List.getElem?_append_right (by rw [hv.1]; exact Nat.le_refl _),hv.1,Nat.sub_self]
  simp only [List.getElem?_cons_zero]
  congr 2
  unfold pathOf
  have e2 : pathW (ws ++ [⟨a,b,k,p⟩]) (ws.length + 1) ws.length = (p : Int) :: pathW (ws ++ [⟨a,b,k,p⟩]) ws.length k := by
   rw [pathW,List.getElem?_append_right (Nat.le_refl _),Nat.sub_self]
   simp only [List.getElem?_cons_zero]
   rw [if_neg (by omega),Int.toNat_natCast]
  rw [e2,pathW_app h _ k ws.length (k + 1) hk hk (by omega),List.reverse_cons]
theorem l22_0 (D : Nat) (n m k : Nat) (hk : k ≤ 10000) (S) (xs ys : List Int) (hl : xs.length = ys.length) (hxs : ∀ x ∈ xs,0 ≤ x ∧ x < n) (hys : ∀ x ∈ ys,0 ≤ x ∧ x < m) (hlen : xs.length ≤ 2 ^ 31) (hnm : n * m ≤ 10000) (pk : List Int) (hpk : pk.length ≤ 10001) (wa wb : Nat) (g13 : Nat) (e4 e5 : Ent) (K : List AI) (Q : St → Prop) :
  ∀ (j i : Nat) (ws : List Wy) (vs : List Vi) (τ ω),i + j = xs.length → WOk n m ws → VR ws vs → k < ws.length → pathOf ws k = pk →
  τ 4 = .ptr D 4 1 0 → τ 5 = .ptr D 5 1 0 → τ 10 = .mp D 20 1 → τ 11 = .sl 3 (vs.map encVi) .tip → τ 12 = .int .i64 k → τ 13 = .ptr D 13 g13 0 → τ 15 = .sl 1 (xs.map (AV.int .i64)) .no → τ 17 = .sl 1 (ys.map (AV.int .i64)) .no → τ 70 = .int .i64 xs.length → τ 71 = .int .i64 i →
  ω 4 = e4 → ω 5 = e5 → ω 13 = (g13,.cells [.int .i64 wa,.int .i64 wb,.sl 1 (pk.map (AV.int .i64)) .no]) → ω 20 = (1,.mp (entsW ws)) →
  (∀ ws' vs' τ' ω',ws' = addWys ws k i (xs.drop i) (ys.drop i) → VR ws' vs' → τ' 4 = .ptr D 4 1 0 → τ' 5 = .ptr D 5 1 0 → τ' 10 = .mp D 20 1 → τ' 11 = .sl 3 (vs'.map encVi) .tip → τ' 12 = .int .i64 k → ω' 4 = e4 → ω' 5 = e5 → ω' 20 = (1,.mp (entsW ws')) → Rd (Loc Pg Gl) .im Q K (stF 105 D τ' ω' S)) →
  Rd (Loc Pg Gl) .im Q (.lp c22_l0 :: .blk 2 :: K) (stF 105 D τ ω S) := by
 intro j
 induction j with
 | zero =>
  intro i ws vs τ ω hi hW hV hkl hpe h4 h5 h10 h11 h12 h13 h15 h17 h70 h71 w4 w5 w13 w20 hend
  refine Rd_lpE c22_l0.eq_1 ?_
  obtain rfl : i = xs.length := by omega
  simp [h70,h71]
  refine hend ws vs _ _ (by rw [List.drop_length,addWys]) hV ?_ ?_ ?_ ?_ ?_ w4 w5 w20
  all_goals simp [h4,h5,h10,h11,h12]
 | succ j ih =>
  intro i ws vs τ ω hi hW hV hkl hpe h4 h5 h10 h11 h12 h13 h15 h17 h70 h71 w4 w5 w13 w20 hend
  refine Rd_lpE c22_l0.eq_1 ?_
  have hlt : i < xs.length := by omega
  have hlt' : i < ys.length := by omega
  have hwr := wrap_next hlt (show xs.length ≤ maxLen by unfold maxLen; omega)
  have hx := hxs _ (List.getElem_mem hlt)
  have hy := hys _ (List.getElem_mem hlt')
  obtain ⟨a,ha⟩ : ∃ a : Nat,xs[i] = a := ⟨xs[i].toNat,by omega⟩
  obtain ⟨b,hb⟩ : ∃ b : Nat,ys[i] = b := ⟨ys[i].toNat,by omega⟩
  rw [List.drop_eq_getElem_cons hlt,List.drop_eq_getElem_cons hlt',addWys,ha,hb,Int.toNat_natCast,Int.toNat_natCast] at hend
  rw [ha] at hx
  rw [hb] at hy
  have hW' := hW.add (p := i) hkl (a := a) (b := b) (by omega) (by omega) (by omega)
  have hwl := hW.len
  have hmf := mfind_W a b ws
  cases hh : hasW ws a b with
  | true =>
   rw [hh] at hmf
   have e : addWy ws k i a b = ws := by unfold addWy; rw [hh]; rfl
   rw [e] at hend
   simp [h10,h15,h17,h70,h71,hlt,hlt',ha,hb,w20,hmf,AV.plain1,hwr]
   refine ih (i + 1) ws vs _ _ (by omega) hW hV hkl hpe ?_ ?_ ?_ ?_ ?_ ?_ ?_ ?_ ?_ ?_ ?_ ?_ ?_ ?_ hend
   all_goals simp [h4,h5,h10,h11,h12,h13,h15,h17,h70,w4,w5,w13,w20]
  | false =>
   rw [hh] at hmf
   have hV' := hV.add hW (p := i) hkl hh
   have e : addWy ws k i a b = ws ++ [⟨a,b,k,i⟩] := by unfold addWy; rw [hh]; rfl
   rw [e] at hend hW' hV'
   rw [hpe] at hV'
   have hvl := hV.1
   have b1 : pk.length * 8 ≤ 1099511627776 := by omega
   have b2 : (pk.length + 1) * 8 ≤ 1099511627776 := by omega
   have b3 : (vs.length + 1) * 40 ≤ 1099511627776 := by omega
   have hpe' : pathOf (ws ++ [⟨a,b,k,i⟩]) k = pk := by
    rw [← hpe]
    unfold pathOf
    rw [pathW_app hW _ k (k + 1) (k + 1) hkl (by omega) (by omega)]
   simp [h10,h11,h13,h15,h17,h70,h71,hlt,hlt',ha,hb,w13,w20,hmf,AV.plain1,b1,b2,b3,hwr]
   refine ih (i + 1) (ws ++ [⟨a,b,k,i⟩]) _ _ _ (by omega) hW' hV' (by simp; omega) hpe' ?_ ?_ ?_ ?_ ?_ ?_ ?_ ?_ ?_ ?_ ?_ ?_ ?_ ?_ hend
   all_goals simp [h4,h5,h10,h11,h12,h13,h15,h17,h70,w4,w5,w13,w20,entsW_snoc,encVi]
end Go.Ab.Tab
/- The reference's Apart (22). -/
namespace Go.Ab.Tab
open Go Go.Ab
set_option maxRecDepth 10000
set_option linter.unusedVariables false
set_option linter.unusedSimpArgs false
def rApR (o : Option (List Int)) : AV := .tup [encI (o.getD []),.bool o.isSome]
theorem l22_1 (D : Nat) (s t : Sy) (hs : PolyY s) (ht : PolyY t) (hft : s.f = t.f) (S) : ∀ (f k : Nat) (ws : List Wy) (vs : List Vi) (τ ω) (r : AV),f + k = 10001 → k ≤ ws.length → WOk s.m.length t.m.length ws → VR ws vs →
  τ 4 = .ptr D 4 1 0 → τ 5 = .ptr D 5 1 0 → τ 10 = .mp D 20 1 → τ 11 = .sl 3 (vs.map encVi) .tip → τ 12 = .int .i64 k → ω 4 = ycells s → ω 5 = ycells t → ω 20 = (1,.mp (entsW ws)) →
  r = rApR (bfsW s t f k ws) →
  Rd (Loc Pg Gl) .im (RetQ [.tmp 8,.tmp 9] r S) [.lp c22_l1,.blk 0,.c c22_k1] (stF 105 D τ ω S) := by
 have hnm : s.m.length * t.m.length ≤ 10000 := Nat.mul_le_mul hs.len ht.len
 intro f
 induction f with
 | zero =>
  intro k ws vs τ ω r hf hk hW
  have := hW.len
  omega
 | succ f ih =>
  intro k ws vs τ ω r hf hk hW hV h4 h5 h10 h11 h12 w4 w5 w20 hr
  have hwl := hW.len
  have hvl := hV.1
  refine Rd_lpE c22_l1.eq_1 ?_
  by_cases hkl : k < ws.length
  case neg =>
   obtain rfl : k = ws.length := by omega
   rw [bfsW,List.getElem?_eq_none (Nat.le_refl _)] at hr
   simp [h11,h12,hvl,c22_k1,hr,rApR,encI]
  case pos =>
  obtain ⟨w,hw⟩ : ∃ w,ws[k]? = some w := ⟨_,List.getElem?_eq_getElem hkl⟩
  have hve := hV.2 k w hw
  have hkv : k < vs.length := by omega
  have hvk : vs[k] = (w.a,w.b,pathOf ws k) := (List.getElem?_eq_some_iff.1 hve).2
  obtain ⟨ha,hb,_⟩ := hW.get k w hw
  obtain ⟨u,hu⟩ : ∃ u,s.m[w.a] = u := ⟨_,rfl⟩
  obtain ⟨v,hv⟩ : ∃ v,t.m[w.b] = v := ⟨_,rfl⟩
  have hum : u ∈ s.m := hu ▸ List.getElem_mem ha
  have hvm : v ∈ t.m := hv ▸ List.getElem_mem hb
  obtain ⟨un,uN⟩ := valV_ok (hs.va u hum)
  obtain ⟨vn,vN⟩ := valV_ok (ht.va v hvm)
  have hpl : (pathOf ws k).length ≤ 10001 := by
   unfold pathOf
   rw [List.length_reverse]
   have := pathW_len ws (k + 1) k
   omega
  rw [bfsW,hw] at hr
  simp only at hr
  rw [diffS,List.getElem?_eq_getElem ha,Option.getD_some,List.getElem?_eq_getElem hb,Option.getD_some,hu,hv] at hr
  rw [show (pathW ws (k + 1) k).reverse = pathOf ws k from rfl] at hr
  simp [h4,h5,h11,h12,w4,w5,ycells,hkv,hvl,hkl,hvk,encVi,ha,hu,encV_eta u]
  refine Rd_drCall (spec28 u (hs.m u hum) (by omega) s.f hs.sh hs.po uN _) (by simp [encF_eta s.f,encV_eta u]) ?_
  simp [encI,encV_eta (shapeV u s.f),h5,w5,ycells,hb,hv,encV_eta v]
  refine Rd_drCall (spec28 v (ht.m v hvm) (by omega) t.f ht.sh ht.po vN _) (by simp [encF_eta t.f,encV_eta v]) ?_
  simp [encI,encV_eta (shapeV v t.f)]
  have hfu := (shape_fit u (hs.m u hum) (by omega) s.f)
  refine Rd_call (spec13 (shapeV u s.f) (shapeV v t.f) hfu _) (by simp [encV_eta (shapeV u s.f),encV_eta (shapeV v t.f)]) ?_
  by_cases hc : cmpV (shapeV u s.f) (shapeV v t.f) = 0
  ·rw [decide_eq_true hc] at hr
   simp only [Bool.not_true,Bool.false_eq_true,if_false] at hr
   simp [hc]
   have hse : shapeV u s.f = shapeV v t.f := (cmpV_zero _ _).1 hc
   rw [← hft] at hse vN hr
   have hl : (leavesV u s.f).length = (leavesV v s.f).length := fill_len _ u v s.f 0 hs.sh hs.po uN vN hse
   rw [← hft]
   have hul := leavesV_le u s.f
   refine l22_0 D s.m.length t.m.length k (by omega) S (leavesV u s.f) (leavesV v s.f) hl (leavesV_range u s.f uN) (leavesV_range v s.f vN) (by omega) hnm (pathOf ws k) hpl w.a w.b ((ω 13).1 + 1) (ycells s) (ycells t) _ _ (leavesV u s.f).length 0 ws vs _ _ (by omega) hW hV hkl rfl ?_ ?_ ?_ ?_ ?_ ?_ ?_ ?_ ?_ ?_ ?_ ?_ ?_ ?_ ?_
   case refine_15 =>
    intro ws' vs' τ' ω' hws' hV' g4 g5 g10 g11 g12 v4 v5 v20
    rw [List.drop_zero,List.drop_zero] at hws'
    have hW' : WOk s.m.length t.m.length ws' := hws' ▸ WOk.adds _ _ 0 hW hkl (leavesV_range u s.f uN) (leavesV_range v s.f vN) (by omega)
    have hwl' : ws.length ≤ ws'.length := hws' ▸ addWys_len _ _ 0 ws
    have hwr := wrap_next hkl (show ws.length ≤ maxLen by unfold maxLen; omega)
    simp [c22_k0,g12,hwr]
    refine ih (k + 1) ws' vs' _ _ r (by omega) (by omega) hW' hV' ?_ ?_ ?_ ?_ ?_ v4 v5 v20 ?_
    case refine_6 => rw [hr,hws']
    all_goals simp [g4,g5,g10,g11]
   all_goals simp [h4,h5,h10,h11,h12,w4,w5,w20,ycells]
  ·rw [decide_eq_false hc] at hr
   simp only [Bool.not_false,if_true] at hr
   simp [hc,hr,rApR,encI]
theorem spec22 (s t : Sy) (hs : PolyY s) (ht : PolyY t) (hft : s.f = t.f) (x y : Nat) (hx : x < s.m.length) (hy : y < t.m.length) (D : Nat) : Go.Ab.Loc Pg Gl D 22 [encY s,encY t,.int .i64 x,.int .i64 y] [] (rApR (bfsW s t 10001 0 [⟨x,y,-1,0⟩])) [] := by
 refine loc_rd mixedP tok rfl rfl fun S => ?_
 unfold c22
 have hE : ∀ s : Sy,encY s = .agg [.int .i64 s.f.k,.int .i64 s.f.n,.sl 3 (s.f.gs.map encF) .no,.sl 3 (s.m.map encV) .no] := fun s => rfl
 rw [hE,hE]
 simp [AV.plain1,mfind]
 refine l22_1 D s t hs ht hft S 10001 0 [⟨x,y,-1,0⟩] [(x,y,[])] _ _ _ rfl (by simp) ?_ ?_ ?_ ?_ ?_ ?_ ?_ ?_ ?_ ?_ rfl
 case refine_1 =>
  refine ⟨fun i w hw => ?_,by simp⟩
  cases i with
  | zero => simp at hw; subst hw; simp; omega
  | succ i => simp at hw
 case refine_2 =>
  refine ⟨rfl,fun i w hw => ?_⟩
  cases i with
  | zero => simp at hw; subst hw; simp [pathOf,pathW]
  | succ i => simp at hw
 all_goals simp [ycells,encVi,entsW]
end Go.Ab.Tab
/- Plain law: the search ends without a path exactly if the states are in one class. -/
namespace Go.Ab.Tab
open Go Go.Ab
set_option maxRecDepth 10000
set_option linter.unusedVariables false
set_option linter.unusedSimpArgs false
theorem map_eq {f : Fu} (hf : shapedF f = true) (hp : polyF f = true) {n : Nat} {u v : Va} (hu : valN n u f = true) (hv : valN n v f = true) (c : List Nat) :
  mapV (toZ c) u f = mapV (toZ c) v f ↔ shapeV u f = shapeV v f ∧ mapL (toZ c) (leavesV u f) = mapL (toZ c) (leavesV v f) := by
 obtain ⟨u1,u2,u3,_⟩ := map_props hf hp hu (toZ c)
 obtain ⟨v1,v2,v3,_⟩ := map_props hf hp hv (toZ c)
 have hb : ∀ l : List Int,∃ m : Nat,∀ x ∈ mapL (toZ c) l,0 ≤ x ∧ x < m := by
  intro l
  have hpos : ∀ z : Int,∃ q : Nat,((toZ c)[z.toNat]?.getD 0) = q := by
   intro z
   unfold toZ
   rw [List.getElem?_map]
   cases c[z.toNat]? with
   | none => exact ⟨0,rfl⟩
   | some q => exact ⟨q,rfl⟩
  induction l with
  | nil => exact ⟨0,by simp [mapL]⟩
  | cons a l ih =>
   obtain ⟨m,hm⟩ := ih
   obtain ⟨q,hq⟩ := hpos a
   refine ⟨m + q + 1,fun x hx => ?_⟩
   unfold mapL at hx
   rw [List.map_cons] at hx
   rcases List.mem_cons.1 hx with rfl | hx
   ·rw [hq]; omega
   ·have := hm x hx
    omega
 obtain ⟨m1,hm1⟩ := hb (leavesV u f)
 obtain ⟨m2,hm2⟩ := hb (leavesV v f)
 have ju := join_split hf hp (u3 m1 hm1)
 have jv := join_split hf hp (v3 m2 hm2)
 constructor
 ·intro h
  refine ⟨?_,?_⟩
  ·rw [← u1,← v1,h]
  ·rw [← u2,← v2,h]
 ·rintro ⟨h1,h2⟩
  rw [← ju,← jv,u1,v1,u2,v2,h1,h2]
theorem mapL_eq {c : List Nat} : ∀ {l k : List Int},(∀ x ∈ l,0 ≤ x ∧ x < c.length) → (∀ x ∈ k,0 ≤ x ∧ x < c.length) → l.length = k.length →
  (mapL (toZ c) l = mapL (toZ c) k ↔ ∀ (p : Nat) x y,l[p]? = some x → k[p]? = some y → c[x.toNat]? = c[y.toNat]?)
 | [],[],_,_,_ => by simp [mapL]
 | [],_ :: _,_,_,h => by simp at h
 | _ :: _,[],_,_,h => by simp at h
 | a :: l,b :: k,hl,hk,h => by
  have ih := mapL_eq (l := l) (k := k) (fun x hx => hl x (List.mem_cons_of_mem _ hx)) (fun x hx => hk x (List.mem_cons_of_mem _ hx)) (by simpa using h)
  have ha := hl a (List.mem_cons_self ..)
  have hb := hk b (List.mem_cons_self ..)
  have e1 : (toZ c)[a.toNat]?.getD 0 = ((c[a.toNat]?.getD 0 : Nat) : Int) := by
   unfold toZ; rw [List.getElem?_map]; cases c[a.toNat]? <;> rfl
  have e2 : (toZ c)[b.toNat]?.getD 0 = ((c[b.toNat]?.getD 0 : Nat) : Int) := by
   unfold toZ; rw [List.getElem?_map]; cases c[b.toNat]? <;> rfl
  have h1 : a.toNat < c.length := by omega
  have h2 : b.toNat < c.length := by omega
  have e : (toZ c)[a.toNat]?.getD 0 = (toZ c)[b.toNat]?.getD 0 ↔ c[a.toNat]? = c[b.toNat]? := by
   rw [e1,e2,List.getElem?_eq_getElem h1,List.getElem?_eq_getElem h2,Option.getD_some,Option.getD_some,Option.some.injEq]
   omega
  unfold mapL at ih ⊢
  rw [List.map_cons,List.map_cons,List.cons.injEq,ih,e]
  constructor
  ·rintro ⟨q1,q2⟩ p x y hx hy
   cases p with
   | zero => simp at hx hy; subst hx; subst hy; exact q1
   | succ p => exact q2 p x y (by simpa using hx) (by simpa using hy)
  ·intro q
   exact ⟨q 0 a b rfl rfl,fun p x y hx hy => q (p + 1) x y (by simpa using hx) (by simpa using hy)⟩
def EqC (Y : Sy) (r i j : Nat) : Prop := (clsR Y r)[i]? = (clsR Y r)[j]?
structure PolyS (Y : Sy) : Prop where
 sh : shapedF Y.f = true
 po : polyF Y.f = true
 va : ∀ v ∈ Y.m,valN Y.m.length v Y.f = true
theorem eqc_step {Y : Sy} (h : PolyS Y) {r i j : Nat} (hi : i < Y.m.length) (hj : j < Y.m.length) :
  EqC Y (r + 1) i j ↔ shapeV Y.m[i] Y.f = shapeV Y.m[j] Y.f ∧ ∀ (p : Nat) x y,(leavesV Y.m[i] Y.f)[p]? = some x → (leavesV Y.m[j] Y.f)[p]? = some y → EqC Y r x.toNat y.toNat := by
 have vi := h.va _ (List.getElem_mem hi)
 have vj := h.va _ (List.getElem_mem hj)
 have hcl : (clsR Y r).length = Y.m.length := clsR_len Y r
 have e0 : EqC Y (r + 1) i j ↔ mapV (toZ (clsR Y r)) Y.m[i] Y.f = mapV (toZ (clsR Y r)) Y.m[j] Y.f := finer_cls Y (toZ (clsR Y r)) (List.getElem?_eq_getElem hi) (List.getElem?_eq_getElem hj)
 rw [e0,map_eq h.sh h.po vi vj]
 constructor
 ·rintro ⟨h1,h2⟩
  have hl := fill_len _ _ _ _ 0 h.sh h.po vi vj h1
  exact ⟨h1,(mapL_eq (by rw [hcl]; exact leavesV_range _ _ vi) (by rw [hcl]; exact leavesV_range _ _ vj) hl).1 h2⟩
 ·rintro ⟨h1,h2⟩
  have hl := fill_len _ _ _ _ 0 h.sh h.po vi vj h1
  exact ⟨h1,(mapL_eq (by rw [hcl]; exact leavesV_range _ _ vi) (by rw [hcl]; exact leavesV_range _ _ vj) hl).2 h2⟩
theorem eqc_zero {Y : Sy} {i j : Nat} (hi : i < Y.m.length) (hj : j < Y.m.length) : EqC Y 0 i j := by
 unfold EqC clsR
 rw [List.getElem?_replicate,List.getElem?_replicate,if_pos hi,if_pos hj]
theorem leaf_lt {Y : Sy} (h : PolyS Y) {i p : Nat} {x : Int} (hi : i < Y.m.length) (hx : (leavesV Y.m[i] Y.f)[p]? = some x) : x.toNat < Y.m.length ∧ 0 ≤ x := by
 have := leavesV_range _ _ (h.va _ (List.getElem_mem hi)) x (mem_of_get hx)
 omega
theorem eqc_all {Y : Sy} (h : PolyS Y) : ∀ r i j,i < Y.m.length → j < Y.m.length → EqC Y Y.m.length i j → EqC Y r i j := by
 have hmono : ∀ r i j,i < Y.m.length → j < Y.m.length → EqC Y (r + 1) i j → EqC Y r i j := by
  intro r
  induction r with
  | zero => intro i j hi hj _; exact eqc_zero hi hj
  | succ r ih =>
   intro i j hi hj he
   rw [eqc_step h hi hj] at he ⊢
   exact ⟨he.1,fun p x y hx hy => ih _ _ (leaf_lt h hi hx).1 (leaf_lt h hj hy).1 (he.2 p x y hx hy)⟩
 refine stab Y.m.length (EqC Y) (fun _ _ _ => rfl) (fun _ _ _ e => Eq.symm e) (fun _ _ _ _ e1 e2 => Eq.trans e1 e2) hmono fun r hr i j hi hj he => ?_
 rw [eqc_step h hi hj] at he ⊢
 exact ⟨he.1,fun p x y hx hy => hr _ _ (leaf_lt h hi hx).1 (leaf_lt h hj hy).1 (he.2 p x y hx hy)⟩
theorem hasW_mem {ws : List Wy} {a b : Nat} : hasW ws a b = true ↔ ∃ w ∈ ws,w.a = a ∧ w.b = b := by
 unfold hasW
 rw [List.any_eq_true]
 constructor
 ·rintro ⟨w,hw,h⟩; exact ⟨w,hw,of_decide_eq_true h⟩
 ·rintro ⟨w,hw,h⟩; exact ⟨w,hw,decide_eq_true h⟩
theorem addWys_spec {k : Nat} : ∀ (xs ys : List Int) (p : Nat) (ws : List Wy),(∃ r,addWys ws k p xs ys = ws ++ r) ∧
  (∀ (q : Nat) x y,xs[q]? = some x → ys[q]? = some y → hasW (addWys ws k p xs ys) x.toNat y.toNat = true) ∧
  (∀ w ∈ addWys ws k p xs ys,w ∈ ws ∨ ∃ (q : Nat) (x y : Int),xs[q]? = some x ∧ ys[q]? = some y ∧ w.a = x.toNat ∧ w.b = y.toNat)
 | [],ys,p,ws => by rw [addWys]; exact ⟨⟨[],by simp⟩,by simp,fun w hw => .inl hw⟩
 | a :: xs,[],p,ws => by rw [addWys]; exact ⟨⟨[],by simp⟩,by simp,fun w hw => .inl hw⟩
 | a :: xs,b :: ys,p,ws => by
  obtain ⟨⟨r,h1⟩,h2,h3⟩ := addWys_spec (k := k) xs ys (p + 1) (addWy ws k p a.toNat b.toNat)
  have hadd : (∃ r,addWy ws k p a.toNat b.toNat = ws ++ r) ∧ hasW (addWy ws k p a.toNat b.toNat) a.toNat b.toNat = true ∧ (∀ w ∈ addWy ws k p a.toNat b.toNat,w ∈ ws ∨ (w.a = a.toNat ∧ w.b = b.toNat)) := by
   unfold addWy
   cases hh : hasW ws a.toNat b.toNat with
   | true => exact ⟨⟨[],by simp⟩,by simpa using hh,fun w hw => .inl hw⟩
   | false =>
    refine ⟨⟨_,rfl⟩,?_,fun w hw => ?_⟩
    ·rw [if_neg (by simp),hasW_mem]
     exact ⟨_,List.mem_append_right _ (List.mem_singleton.2 rfl),rfl,rfl⟩
    ·rw [if_neg (by simp)] at hw
     rcases List.mem_append.1 hw with hw | hw
     ·exact .inl hw
     ·rw [List.mem_singleton.1 hw]; exact .inr ⟨rfl,rfl⟩
  obtain ⟨⟨r0,g1⟩,g2,g3⟩ := hadd
  rw [addWys]
  refine ⟨⟨r0 ++ r,by rw [h1,g1,List.append_assoc]⟩,fun q x y hx hy => ?_,fun w hw => ?_⟩
  ·cases q with
   | zero =>
    simp at hx hy
    subst hx; subst hy
    rw [hasW_mem] at g2 ⊢
    obtain ⟨w,hw,e⟩ := g2
    exact ⟨w,by rw [h1]; exact List.mem_append_left _ hw,e⟩
   | succ q => exact h2 q x y (by simpa using hx) (by simpa using hy)
  ·rcases h3 w hw with hw | ⟨q,x,y,q1,q2,q3⟩
   ·rcases g3 w hw with hw | hw
    ·exact .inl hw
    ·exact .inr ⟨0,a,b,rfl,rfl,hw⟩
   ·exact .inr ⟨q + 1,x,y,by simpa using q1,by simpa using q2,q3⟩
theorem bfs_sound {s t : Sy} {P : Nat → Nat → Prop} (hP : ∀ a b,P a b → diffS s t a b = false ∧ ∀ (p : Nat) x y,(leavesV (s.m[a]?.getD v0) s.f)[p]? = some x → (leavesV (t.m[b]?.getD v0) t.f)[p]? = some y → P x.toNat y.toNat) :
  ∀ (f k : Nat) (ws : List Wy),(∀ w ∈ ws,P w.a w.b) → bfsW s t f k ws = none
 | 0,k,ws,_ => rfl
 | f + 1,k,ws,h => by
  rw [bfsW]
  cases hw : ws[k]? with
  | none => rfl
  | some w =>
   obtain ⟨h1,h2⟩ := hP _ _ (h w (mem_of_get hw))
   simp only
   rw [h1,if_neg (by simp)]
   refine bfs_sound hP f (k + 1) _ fun w' hw' => ?_
   rcases (addWys_spec _ _ 0 ws).2.2 w' hw' with hw' | ⟨q,x,y,q1,q2,q3,q4⟩
   ·exact h w' hw'
   ·rw [q3,q4]; exact h2 q x y q1 q2
def Closed (s t : Sy) (ws all : List Wy) : Prop := ∀ w ∈ ws,diffS s t w.a w.b = false ∧ ∀ (p : Nat) x y,(leavesV (s.m[w.a]?.getD v0) s.f)[p]? = some x → (leavesV (t.m[w.b]?.getD v0) t.f)[p]? = some y → hasW all x.toNat y.toNat = true
theorem bfs_closed {s t : Sy} (hs : PolyY s) (ht : PolyY t) (hft : s.f = t.f) : ∀ (f k : Nat) (ws : List Wy),f + k = 10001 → k ≤ ws.length → WOk s.m.length t.m.length ws → Closed s t (ws.take k) ws → bfsW s t f k ws = none →
  ∃ all,(∀ w ∈ ws,w ∈ all) ∧ WOk s.m.length t.m.length all ∧ Closed s t all all
 | 0,k,ws,hf,hk,hW,hC,hn => by
  have h1 := hW.len
  have h2 : s.m.length * t.m.length ≤ 10000 := Nat.mul_le_mul hs.len ht.len
  omega
 | f + 1,k,ws,hf,hk,hW,hC,hn => by
  rw [bfsW] at hn
  cases hw : ws[k]? with
  | none =>
   have hl := List.getElem?_eq_none_iff.1 hw
   refine ⟨ws,fun w h => h,hW,?_⟩
   rw [List.take_of_length_le hl] at hC
   exact hC
  | some w =>
   rw [hw] at hn
   simp only at hn
   have hkl : k < ws.length := (List.getElem?_eq_some_iff.1 hw).1
   obtain ⟨ha,hb,_⟩ := hW.get k w hw
   cases hd : diffS s t w.a w.b with
   | true => rw [hd,if_pos rfl] at hn; cases hn
   | false =>
    rw [hd,if_neg (by simp)] at hn
    obtain ⟨⟨r,h1⟩,h2,h3⟩ := addWys_spec (k := k) (leavesV (s.m[w.a]?.getD v0) s.f) (leavesV (t.m[w.b]?.getD v0) t.f) 0 ws
    have hu : s.m[w.a] ∈ s.m := List.getElem_mem ha
    have hv : t.m[w.b] ∈ t.m := List.getElem_mem hb
    obtain ⟨un,uN⟩ := valV_ok (hs.va _ hu)
    obtain ⟨vn,vN⟩ := valV_ok (ht.va _ hv)
    have hul := leavesV_le s.m[w.a] s.f
    have hW' : WOk s.m.length t.m.length (addWys ws k 0 (leavesV (s.m[w.a]?.getD v0) s.f) (leavesV (t.m[w.b]?.getD v0) t.f)) := by
     rw [List.getElem?_eq_getElem ha,List.getElem?_eq_getElem hb,Option.getD_some,Option.getD_some]
     exact WOk.adds _ _ 0 hW hkl (leavesV_range _ _ uN) (leavesV_range _ _ vN) (by omega)
    generalize addWys ws k 0 (leavesV (s.m[w.a]?.getD v0) s.f) (leavesV (t.m[w.b]?.getD v0) t.f) = ws2 at h1 h2 h3 hn hW'
    subst h1
    obtain ⟨all,a1,a2,a3⟩ := bfs_closed hs ht hft f (k + 1) (ws ++ r) (by omega) (by rw [List.length_append]; omega) hW' (by
     intro w' hw'
     rw [List.take_append_of_le_length (by omega),List.take_add_one,hw] at hw'
     rcases List.mem_append.1 hw' with hw' | hw'
     ·obtain ⟨c1,c2⟩ := hC w' hw'
      refine ⟨c1,fun p x y hx hy => ?_⟩
      have := c2 p x y hx hy
      rw [hasW_mem] at this ⊢
      obtain ⟨z,hz,e⟩ := this
      exact ⟨z,List.mem_append_left _ hz,e⟩
     ·simp at hw'
      subst hw'
      exact ⟨hd,fun p x y hx hy => h2 p x y hx hy⟩) hn
    exact ⟨all,fun z hz => a1 z (List.mem_append_left _ hz),a2,a3⟩
end Go.Ab.Tab
