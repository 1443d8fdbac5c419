/- Proved: for every input, ectypelaw12.PolyApart returns true and its arguments read afterwards as before. Conditions: those of the given card (the package variable ectype/functor.forms starts as the program's text lays it); nothing more. -/
import Derived.Test.YtgfjhhgpgaejmaaGreatDoorApartI
import Derived.Test.YtgfjhhgpgaejmaaGreatDoorApartH
import Derived.Test.YtgfjhhgpgaejmaaGreatDoorApartG
import Derived.Test.YtgfjhhgpgaejmaaGreatDoorApartB4
import Derived.Test.YtgfjhhgpgaejmaaGreatDoorCards
import Derived.Test.YtgfjhhgpgaejmaaGreatDoorTie
import Derived.LaidLaws
import Derived.Handed
import Derived.SevenTiedAt
namespace Go.Ab.Tab
open Go Go.Ab
set_option maxRecDepth 10000
set_option linter.unusedVariables false
set_option linter.unusedSimpArgs false
theorem sum_left {s t : Sy} {a : Nat} (ha : a < s.m.length) : ∃ h : a < (sumY s t).m.length,(sumY s t).m[a] = s.m[a] := by
 have h : a < (sumY s t).m.length := by rw [sum_len]; omega
 refine ⟨h,?_⟩
 unfold sumY
 exact List.getElem_append_left ha
theorem sum_right {s t : Sy} {b : Nat} (hb : b < t.m.length) : ∃ h : s.m.length + b < (sumY s t).m.length,(sumY s t).m[s.m.length + b] = mapV (shiftL t.m.length s.m.length) t.m[b] t.f := by
 have h : s.m.length + b < (sumY s t).m.length := by rw [sum_len]; omega
 have e : (sumY s t).m[s.m.length + b]? = some (mapV (shiftL t.m.length s.m.length) t.m[b] t.f) := by
  unfold sumY
  rw [List.getElem?_append_right (by omega),Nat.add_sub_cancel_left,List.getElem?_map,List.getElem?_eq_getElem hb]
  rfl
 exact ⟨h,(List.getElem?_eq_some_iff.1 e).2⟩
theorem polyS_sum {s t : Sy} (hs : PolyY s) (ht : PolyY t) (hft : s.f = t.f) : PolyS (sumY s t) :=
 ⟨hs.sh,hs.po,fun v hv => by rw [sum_len]; exact (sum_val hs ht hft v hv).2.2⟩
theorem pair_step {s t : Sy} (hs : PolyY s) (ht : PolyY t) (hft : s.f = t.f) {a b : Nat} (ha : a < s.m.length) (hb : b < t.m.length) (r : Nat) :
  EqC (sumY s t) (r + 1) a (s.m.length + b) ↔ diffS s t a b = false ∧ ∀ (p : Nat) x y,(leavesV (s.m[a]?.getD v0) s.f)[p]? = some x → (leavesV (t.m[b]?.getD v0) t.f)[p]? = some y → EqC (sumY s t) r x.toNat (s.m.length + y.toNat) := by
 obtain ⟨h1,e1⟩ := sum_left (t := t) ha
 obtain ⟨h2,e2⟩ := sum_right (s := s) hb
 have hN := (valV_ok (ht.va _ (List.getElem_mem hb))).2
 obtain ⟨m1,m2,_,_⟩ := map_props ht.sh ht.po hN (shiftL t.m.length s.m.length)
 rw [map_shift ht.sh ht.po hN] at m2
 rw [eqc_step (polyS_sum hs ht hft) h1 h2,e1,e2]
 have hf : (sumY s t).f = s.f := rfl
 rw [hf]
 have es : shapeV (mapV (shiftL t.m.length s.m.length) t.m[b] t.f) s.f = shapeV t.m[b] t.f := by rw [hft]; exact m1
 have el : leavesV (mapV (shiftL t.m.length s.m.length) t.m[b] t.f) s.f = (leavesV t.m[b] t.f).map fun x => x + (s.m.length : Int) := by rw [hft]; exact m2
 rw [es,el]
 unfold diffS
 rw [List.getElem?_eq_getElem ha,List.getElem?_eq_getElem hb,Option.getD_some,Option.getD_some,Bool.not_eq_false',decide_eq_true_eq,cmpV_zero]
 have hr := leavesV_range _ _ hN
 constructor
 ·rintro ⟨q1,q2⟩
  refine ⟨q1,fun p x y hx hy => ?_⟩
  have hy0 := hr y (mem_of_get hy)
  have := q2 p x (y + (s.m.length : Int)) hx (by rw [List.getElem?_map,hy]; rfl)
  rwa [show (y + (s.m.length : Int)).toNat = s.m.length + y.toNat by omega] at this
 ·rintro ⟨q1,q2⟩
  refine ⟨q1,fun p x y hx hy => ?_⟩
  rw [List.getElem?_map,Option.map_eq_some_iff] at hy
  obtain ⟨z,hz,rfl⟩ := hy
  have hz0 := hr z (mem_of_get hz)
  rw [show (z + (s.m.length : Int)).toNat = s.m.length + z.toNat by omega]
  exact q2 p x z hx hz
theorem apart_iff {s t : Sy} (hs : PolyY s) (ht : PolyY t) (hft : s.f = t.f) {x y : Nat} (hx : x < s.m.length) (hy : y < t.m.length) :
  (bfsW s t 10001 0 [⟨x,y,-1,0⟩]).isSome = !decide ((clsR (sumY s t) (s.m.length + t.m.length))[x]? = (clsR (sumY s t) (s.m.length + t.m.length))[s.m.length + y]?) := by
 have hleaf : ∀ a,a < s.m.length → ∀ (p : Nat) z,(leavesV (s.m[a]?.getD v0) s.f)[p]? = some z → z.toNat < s.m.length := by
  intro a ha p z hz
  rw [List.getElem?_eq_getElem ha,Option.getD_some] at hz
  have := leavesV_range _ _ (valV_ok (hs.va _ (List.getElem_mem ha))).2 z (mem_of_get hz)
  omega
 have hleaf' : ∀ b,b < t.m.length → ∀ (p : Nat) z,(leavesV (t.m[b]?.getD v0) t.f)[p]? = some z → z.toNat < t.m.length := by
  intro a ha p z hz
  rw [List.getElem?_eq_getElem ha,Option.getD_some] at hz
  have := leavesV_range _ _ (valV_ok (ht.va _ (List.getElem_mem ha))).2 z (mem_of_get hz)
  omega
 have hl := sum_len s t
 by_cases he : (clsR (sumY s t) (s.m.length + t.m.length))[x]? = (clsR (sumY s t) (s.m.length + t.m.length))[s.m.length + y]?
 ·rw [decide_eq_true he]
  have hall : ∀ r,EqC (sumY s t) r x (s.m.length + y) := fun r => eqc_all (polyS_sum hs ht hft) r x (s.m.length + y) (by omega) (by omega) (by rw [hl]; exact he)
  rw [bfs_sound (P := fun a b => a < s.m.length ∧ b < t.m.length ∧ ∀ r,EqC (sumY s t) r a (s.m.length + b)) (fun a b ⟨ha,hb,h⟩ => by
   refine ⟨((pair_step hs ht hft ha hb 0).1 (h 1)).1,fun p z w hz hw => ⟨hleaf a ha p z hz,hleaf' b hb p w hw,fun r => ?_⟩⟩
   exact ((pair_step hs ht hft ha hb r).1 (h (r + 1))).2 p z w hz hw) 10001 0 _ (fun w hw => by rw [List.mem_singleton.1 hw]; exact ⟨hx,hy,hall⟩)]
  rfl
 ·rw [decide_eq_false he]
  cases hb : bfsW s t 10001 0 [⟨x,y,-1,0⟩] with
  | some p => rfl
  | none =>
   exfalso
   have hW : WOk s.m.length t.m.length [⟨x,y,-1,0⟩] := by
    refine ⟨fun i w hw => ?_,by simp⟩
    cases i with
    | zero => simp at hw; subst hw; simp; omega
    | succ i => simp at hw
   obtain ⟨all,a1,a2,a3⟩ := bfs_closed hs ht hft 10001 0 [⟨x,y,-1,0⟩] rfl (by simp) hW (by intro w hw; simp at hw) hb
   have key : ∀ r,∀ w ∈ all,EqC (sumY s t) r w.a (s.m.length + w.b) := by
    intro r
    induction r with
    | zero =>
     intro w hw
     obtain ⟨i,hi⟩ := List.getElem?_of_mem hw
     obtain ⟨q1,q2,_⟩ := a2.get i w hi
     exact eqc_zero (by omega) (by omega)
    | succ r ih =>
     intro w hw
     obtain ⟨i,hi⟩ := List.getElem?_of_mem hw
     obtain ⟨q1,q2,_⟩ := a2.get i w hi
     obtain ⟨c1,c2⟩ := a3 w hw
     rw [pair_step hs ht hft q1 q2]
     refine ⟨c1,fun p z u hz hu => ?_⟩
     obtain ⟨w',hw',e1,e2⟩ := hasW_mem.1 (c2 p z u hz hu)
     have := ih w' hw'
     rwa [e1,e2] at this
   exact he (key _ ⟨x,y,-1,0⟩ (a1 _ (List.mem_singleton.2 rfl)))
def fault2 (s t : Sy) : Int := if isY s && isY t then (if polyF s.f && (eqF t.f s.f && polyF t.f) then 0 else 1) else 30
theorem spec21_2 (s t : Sy) (hfs : fitF s.f) (hls : s.m.length ≤ maxLen) (hvs : ∀ v ∈ s.m,fitV v) (hbs : nodesVs s.m ≤ 2 ^ 32) (hft : fitF t.f) (hlt : t.m.length ≤ maxLen) (hvt : ∀ v ∈ t.m,fitV v) (hbt : nodesVs t.m ≤ 2 ^ 32) (D : Nat) :
  Go.Ab.Loc Pg Gl D 21 [.sl 4 [encY s,encY t] .no] [] (.int .i64 (fault2 s t)) [] := by
 refine loc_rd mixedP tok rfl rfl fun S => ?_
 have h60 := spec60 s hfs hls hvs hbs (D + 1)
 have h60' := spec60 t hft hlt hvt hbt (D + 1)
 have hE : ∀ s : Sy,encY s = .agg [.int .i64 s.f.k,.int .i64 s.f.n,.sl 3 (s.f.gs.map encF) .no,.sl 3 (s.m.map encV) .no] := fun s => rfl
 unfold c21 fault2
 rw [hE] at h60 h60'
 rw [hE,hE]
 simp
 refine Rd_lpE c21_l0.eq_1 ?_
 simp
 refine Rd_call h60 (by simp) ?_
 cases hi : isY s with
 | false => simp
 | true =>
  simp [show IntKind.i64.wrap 1 = 1 from rfl]
  refine Rd_lpE c21_l0.eq_1 ?_
  simp
  refine Rd_call h60' (by simp) ?_
  cases hj : isY t with
  | false => simp
  | true =>
   simp [show IntKind.i64.wrap 2 = 2 from rfl]
   refine Rd_lpE c21_l0.eq_1 ?_
   simp [c21_k1]
   refine Rd_lpE c21_l1.eq_1 ?_
   simp
   refine Rd_drCall (spec61 s.f hfs s.f _) (by simp [encF_eta s.f]) ?_
   have he : eqF s.f s.f = true := (eqF_iff _ _).2 rfl
   simp [he]
   refine Rd_drCall (spec44 s.f hfs _) (by simp [encF_eta s.f]) ?_
   cases hp : polyF s.f with
   | false => simp
   | true =>
    simp [show IntKind.i64.wrap 1 = 1 from rfl]
    refine Rd_lpE c21_l1.eq_1 ?_
    simp
    refine Rd_drCall (spec61 t.f hft s.f _) (by simp [encF_eta s.f,encF_eta t.f]) ?_
    cases hq : eqF t.f s.f with
    | false => simp
    | true =>
     simp
     refine Rd_drCall (spec44 t.f hft _) (by simp [encF_eta t.f]) ?_
     cases hp' : polyF t.f with
     | false => simp
     | true =>
      simp [show IntKind.i64.wrap 2 = 2 from rfl]
      refine Rd_lpE c21_l1.eq_1 ?_
      simp [c21_k0]
theorem ap_want (s t : Sy) (x y : Int) : apErr s t x y = if fault2 s t = 0 ∧ ¬ (inY s x = true ∧ inY t y = true) then 1 else fault2 s t := by
 unfold apErr fault2 inY
 cases hi : isY s with
 | false => simp
 | true =>
  cases hj : isY t with
  | false => simp
  | true =>
   have hF : isF s.f = true := by unfold isY at hi; simp only [Bool.and_eq_true] at hi; exact hi.1
   unfold askF
   rw [hF]
   have hsym : eqF s.f t.f = eqF t.f s.f := by
    rw [Bool.eq_iff_iff,eqF_iff,eqF_iff]
    exact eq_comm
   rw [hsym]
   cases hp : polyF s.f with
   | false => simp
   | true =>
    cases hq : eqF t.f s.f with
    | false => simp
    | true =>
     have e := (eqF_iff _ _).1 hq
     rw [e,hp]
     by_cases c1 : 0 ≤ x ∧ x < s.m.length
     ·by_cases c2 : 0 ≤ y ∧ y < t.m.length
      ·have h1 : ¬ x < 0 := by omega
       have h2 : ¬ (s.m.length : Int) ≤ x := by omega
       have h3 : ¬ y < 0 := by omega
       have h4 : ¬ (t.m.length : Int) ≤ y := by omega
       simp [c1,c2,h1,h2,h3,h4]
      ·have h : y < 0 ∨ (t.m.length : Int) ≤ y := by omega
       simp [c2,h]
     ·have h : x < 0 ∨ (s.m.length : Int) ≤ x := by omega
      have h' : x < 0 ∨ (s.m.length : Int) ≤ x ∨ y < 0 ∨ (t.m.length : Int) ≤ y := by omega
      simp [c1,h']
theorem isF_nodes {f : Fu} (h : isF f = true) : nodesF f ≤ 2 ^ 30 := by
 unfold isF at h
 simp only [Bool.and_eq_true,decide_eq_true_eq] at h
 omega
theorem isY_isF {s : Sy} (h : isY s = true) : isF s.f = true := by unfold isY at h; simp only [Bool.and_eq_true] at h; exact h.1
theorem law4 (s t : Sy) (hfs : fitF s.f) (hls : s.m.length ≤ maxLen) (hvs : ∀ v ∈ s.m,fitV v) (hft : fitF t.f) (hlt : t.m.length ≤ maxLen) (hvt : ∀ v ∈ t.m,fitV v) (x y : Int) :
  Go.Ab.Loc Pg Gl 0 4 [encY s,encY t,.int .i64 x,.int .i64 y] [] (.bool true) [] := by
 refine loc_rd mixedP tok rfl rfl fun S => ?_
 have h9 := spec9 1
 have h19 := spec19 s hfs hls hvs 1 1000 (by omega)
 have h19' := spec19 t hft hlt hvt 1 1000 (by omega)
 have hE : ∀ s : Sy,encY s = .agg [.int .i64 s.f.k,.int .i64 s.f.n,.sl 3 (s.f.gs.map encF) .no,.sl 3 (s.m.map encV) .no] := fun s => rfl
 unfold c4
 rw [hE] at h19 h19'
 rw [hE,hE]
 simp
 refine Rd_call h19 (by simp) ?_
 cases hfew : fewY 1000 s with
 | false =>
  simp
  refine Rd_call h9 (by simp) ?_
  simp
 | true =>
 simp
 refine Rd_call h19' (by simp) ?_
 cases hfew' : fewY 1000 t with
 | false =>
  simp
  refine Rd_call h9 (by simp) ?_
  simp
 | true =>
 unfold fewY at hfew hfew'
 simp only [Bool.and_eq_true,decide_eq_true_eq] at hfew hfew'
 have hbs : nodesVs s.m ≤ 2 ^ 32 := by have := fewL_sum (by omega) hfew.2.2; omega
 have hbt : nodesVs t.m ≤ 2 ^ 32 := by have := fewL_sum (by omega) hfew'.2.2; omega
 have h20 := spec20 s t hfs hls hvs hbs hft hlt hvt hbt x y 1
 have h21 := spec21_2 s t hfs hls hvs hbs hft hlt hvt hbt 1
 have h18 := spec18 s x 1
 have h18' := spec18 t y 1
 have hw := ap_want s t x y
 rw [hE,hE] at h20 h21
 rw [hE] at h18 h18'
 have hin : decide (0 ≤ x ∧ x < (s.m.length : Int)) = inY s x := rfl
 have hin' : decide (0 ≤ y ∧ y < (t.m.length : Int)) = inY t y := rfl
 rw [hin] at h18
 rw [hin'] at h18'
 unfold rAp at h20
 simp
 refine Rd_call h20 (by simp) ?_
 simp [encI]
 refine Rd_call h21 (by simp) ?_
 by_cases he : apErr s t x y = 0
 case neg =>
  have ea : aparR s t x y = (none,apErr s t x y) := by unfold aparR; rw [if_pos he]
  rw [ea]
  by_cases hz : fault2 s t = 0
  ·have hnot : ¬ (inY s x = true ∧ inY t y = true) := by
    intro h
    rw [if_neg (fun q => q.2 h)] at hw
    exact he (hw.trans hz)
   rw [if_pos ⟨hz,hnot⟩] at hw
   simp [hz]
   refine Rd_call h18 (by simp) ?_
   cases hx : inY s x with
   | false =>
    simp [c4_j0,hw]
    refine Rd_call h9 (by simp) ?_
    simp
   | true =>
    simp
    refine Rd_call h18' (by simp) ?_
    cases hy : inY t y with
    | true => exact absurd ⟨hx,hy⟩ hnot
    | false =>
     simp [c4_j0,hw]
     refine Rd_call h9 (by simp) ?_
     simp
  ·rw [if_neg (fun q => hz q.1)] at hw
   simp [hz,c4_j0,hw]
   refine Rd_call h9 (by simp) ?_
   simp
 case pos =>
  have ea : aparR s t x y = (bfsW s t 10001 0 [⟨x.toNat,y.toNat,-1,0⟩],0) := by unfold aparR; rw [if_neg (by simp [he])]
  have hz : fault2 s t = 0 := by
   rw [he] at hw
   split at hw
   ·cases hw
   ·exact hw.symm
  have hxy : inY s x = true ∧ inY t y = true := by
   rw [he] at hw
   by_cases h : inY s x = true ∧ inY t y = true
   ·exact h
   ·rw [if_pos ⟨hz,h⟩] at hw; cases hw
  have hpoly : isY s = true ∧ isY t = true ∧ polyF s.f = true ∧ eqF t.f s.f = true ∧ polyF t.f = true := by
   unfold fault2 at hz
   cases hi : isY s with
   | false => rw [hi] at hz; simp at hz
   | true =>
    cases hj : isY t with
    | false => rw [hi,hj] at hz; simp at hz
    | true =>
     rw [hi,hj] at hz
     cases hp : polyF s.f with
     | false => rw [hp] at hz; simp at hz
     | true =>
      cases hq : eqF t.f s.f with
      | false => rw [hp,hq] at hz; simp at hz
      | true =>
       cases hr : polyF t.f with
       | false => rw [hp,hq,hr] at hz; simp at hz
       | true => exact ⟨rfl,rfl,rfl,rfl,rfl⟩
  obtain ⟨hi,hj,hps,hq,hpt⟩ := hpoly
  have hfe : s.f = t.f := ((eqF_iff _ _).1 hq).symm
  have hPs := poly_of hfs hvs hi (by unfold askF; rw [isY_isF hi,hps]; rfl)
  have hPt := poly_of hft hvt hj (by unfold askF; rw [isY_isF hj,hpt]; rfl)
  have hx := of_decide_eq_true hxy.1
  have hy := of_decide_eq_true hxy.2
  obtain ⟨a,rfl⟩ : ∃ a : Nat,x = a := ⟨x.toNat,by omega⟩
  obtain ⟨b,rfl⟩ : ∃ b : Nat,y = b := ⟨y.toNat,by omega⟩
  have hal : a < s.m.length := by omega
  have hbl : b < t.m.length := by omega
  have h22 := spec22 s t hPs hPt hfe a b hal hbl 1
  have h24 := spec24 s t hPs hPt hfe (isF_nodes (isY_isF hi)) a b hal hbl 1
  have hiff := apart_iff hPs hPt hfe hal hbl
  have hsl := hPs.len
  have htl := hPt.len
  rw [Int.toNat_natCast,Int.toNat_natCast] at ea
  have hpl : ∀ p,bfsW s t 10001 0 [⟨a,b,-1,0⟩] = some p → p.length ≤ maxLen := by
   intro p hp
   have hgen : ∀ (f k : Nat) (ws : List Wy) p,bfsW s t f k ws = some p → p.length ≤ k + f := by
    intro f
    induction f with
    | zero => intro k ws p h; cases h
    | succ f ih =>
     intro k ws p h
     rw [bfsW] at h
     cases hw : ws[k]? with
     | none => rw [hw] at h; cases h
     | some w =>
      rw [hw] at h
      simp only at h
      split at h
      ·injection h with h
       rw [← h,List.length_reverse]
       have := pathW_len ws (k + 1) k
       omega
      ·have := ih (k + 1) _ p h
       omega
   have := hgen 10001 0 _ p hp
   unfold maxLen
   omega
  rw [ea]
  generalize bfsW s t 10001 0 [⟨a,b,-1,0⟩] = o at h22 hiff hpl
  have h23 : Go.Ab.Loc Pg Gl 1 23 [encI (o.getD []),encI (o.getD [])] [] (.bool true) [] := by
   refine same23 _ ?_ 1
   cases o with
   | none => simp
   | some p => exact hpl p rfl
  generalize decide ((clsR (sumY s t) (s.m.length + t.m.length))[a]? = (clsR (sumY s t) (s.m.length + t.m.length))[s.m.length + b]?) = d at h24 hiff
  rw [hE,hE] at h22 h24
  rw [rApR] at h22
  rw [encI] at h22 h23
  have hne : (o.isSome = d) ↔ False := by rw [hiff]; cases d <;> simp
  have w1 : IntKind.i64.wrap ((s.m.length : Int) + (t.m.length : Int)) = ((s.m.length + t.m.length : Nat) : Int) := by rw [← wrap_i64_nat (n := s.m.length + t.m.length) (by omega)]; congr 1
  simp [hz]
  refine Rd_call h18 (by simp) ?_
  rw [hxy.1]
  simp
  refine Rd_call h18' (by simp) ?_
  rw [hxy.2]
  simp [c4_j0]
  refine Rd_call h22 (by simp) ?_
  simp
  refine Rd_call h23 (by simp) ?_
  simp [w1]
  refine Rd_call h24 (by simp) ?_
  simp [hiff]
  refine Rd_call h9 (by simp) ?_
  simp
theorem law4_arg : ∀ a0 a1 a2 a3,Arg Pg 46 a0 → Arg Pg 46 a1 → Arg Pg 3 a2 → Arg Pg 3 a3 → Go.Ab.Loc Pg Gl 0 4 [a0,a1,a2,a3] [] (.bool true) [] := by
 intro a0 a1 a2 a3 h0 h1 h2 h3
 obtain ⟨s,rfl,hf,hl,hv⟩ := arg46 h0
 obtain ⟨t,rfl,hf',hl',hv'⟩ := arg46 h1
 obtain ⟨x,rfl⟩ := arg3 h2
 obtain ⟨y,rfl⟩ := arg3 h3
 exact law4 s t hf hl hv hf' hl' hv' x y
end Go.Ab.Tab
namespace Go.Proofs.YtgfjhhgpgaejmaaGreatDoor
open Go.ChangeShapes Go.WideShapes Go.ChangeAt Go.RowKit Go.Ab Go.Ab.Tab
theorem Tryz.own : ownKnob Tryz.prog.godebug = none := by kernel_rfl
theorem Tryz.laidOut : laidOutB Tryz.prog = true := by kernel_rfl
theorem formsN : Tryz.prog.globalNamed "ectype/functor.forms" = some 0 := by kernel_rfl
theorem formsType : (Tryz.prog.globals[0]?).map (·.type) = some 163 := by kernel_rfl
def ints : List Int := [0,0,16,0,0,2,0,2,4,1,0,1,0,1,0,1]
theorem flatOk : flatTys Tryz.prog [163,162,3] = true := by kernel_rfl
theorem glob_ok {W : World} (h : laidMet Tryz.prog Rows.polyApartRow.laid W) : ∀ g cs,Gl g = some cs → ∀ (j : Nat) (c : AV),cs[j]? = some c → ∃ v,allImm W g j = some v ∧ RelI (allImm W) c v := by
 intro g cs hg j c hc
 unfold Gl at hg
 split at hg
 ·rename_i hg0; subst hg0
  injection hg with hg; subst hg
  obtain ⟨ps,⟨g,t,cs,fuel,p,q,hg,ht,hvar,hd,_,_⟩,_⟩ := h
  obtain rfl := Option.some.inj (formsN.symm.trans hg)
  obtain rfl := Option.some.inj (formsType.symm.trans ht)
  have hf := trod_flat flatOk fuel 5 163 cs.toList (ints.map (Value.int .i64)) _ (by simp) hd rfl
  unfold forms at hc
  rw [List.getElem?_map,Option.map_eq_some_iff] at hc
  obtain ⟨n,hn,rfl⟩ := hc
  have hcell := World.var?_cell hg hvar j
  have hcs : cs[j]? = some (.int .i64 n) := by
   rw [← Array.getElem?_toList,hf,List.getElem?_map]
   have : ints[j]? = some n := hn
   rw [this]; rfl
  rw [hcs] at hcell
  refine ⟨.int .i64 n,?_,.int _ _⟩
  simp only [allImm]
  have e : W.cell? ⟨0,j,none⟩ = some (.int .i64 n) := by simpa using hcell
  simp [e,Value.oneCell']
 ·cases hg
noncomputable def laidWorld (os : Os) : World :=
 let w0 := World.holding Tryz.prog os ⟨#[],#[],[]⟩
 { w0 with heap := w0.heap.modify 0 fun
   | .cells _ t frozen => .cells (ints.map (Value.int .i64)).toArray t frozen
   | o => o }
theorem laid_met (os : Os) (args : Array Value) : laidMet Tryz.prog Rows.polyApartRow.laid ((laidWorld os).forCall (fun _ _ => 0) ⟨#[],args,[]⟩).memory :=
 laidMet_of_run' 8 (by kernel_rfl) (by kernel_rfl)
theorem closedOk : closedTys Tryz.prog [46,24,25,28,22,3,26] = true := by kernel_rfl
theorem below_of {W W' : World} (h : Stands W W') : Below W.heap.size W W' := ⟨h.os,h.tape,h.output,h.size,h.heap⟩
section
variable {H : Type} {enc : TypeId × Value → H} {P : Program} {w : World} {base : Nat} {spare : Nat → Bool} {held : Bool}
theorem trodAll_n {t0 t1 t2 t3 : TypeId} {args : Array Value} {ds : List (DataW H)} {ps : List MemPlace} (h : DataW.TrodAll enc P w base spare held [t0,t1,t2,t3] args.toList ds ps) :
  ∃ v0 v1 v2 v3 d0 d1 d2 d3 p0 p1 p2 p3,args = #[v0,v1,v2,v3] ∧ ds = [d0,d1,d2,d3] ∧ ps = p0 ++ p1 ++ p2 ++ p3 ∧ DataW.Trod enc P w base spare held t0 v0 d0 p0 ∧ DataW.Trod enc P w base spare held t1 v1 d1 p1 ∧ DataW.Trod enc P w base spare held t2 v2 d2 p2 ∧ DataW.Trod enc P w base spare held t3 v3 d3 p3 := by
 obtain ⟨v0,vs0,d0,ds0,p0,q0,hargs,rfl,rfl,h0,r0⟩ := trodAll_cons h
 obtain ⟨v1,vs1,d1,ds1,p1,q1,rfl,rfl,rfl,h1,r1⟩ := trodAll_cons r0
 obtain ⟨v2,vs2,d2,ds2,p2,q2,rfl,rfl,rfl,h2,r2⟩ := trodAll_cons r1
 obtain ⟨v3,vs3,d3,ds3,p3,q3,rfl,rfl,rfl,h3,r3⟩ := trodAll_cons r2
 obtain ⟨rfl,rfl,rfl⟩ := trodAll_nil r3
 exact ⟨v0,v1,v2,v3,d0,d1,d2,d3,p0,p1,p2,p3,by cases args; simp_all,rfl,by simp,h0,h1,h2,h3⟩
theorem trodAll_mkn {t0 t1 t2 t3 : TypeId} {v0 v1 v2 v3 : Value} {d0 d1 d2 d3 : DataW H} {p0 p1 p2 p3 : List MemPlace} (h0 : DataW.Trod enc P w base spare held t0 v0 d0 p0) (h1 : DataW.Trod enc P w base spare held t1 v1 d1 p1) (h2 : DataW.Trod enc P w base spare held t2 v2 d2 p2) (h3 : DataW.Trod enc P w base spare held t3 v3 d3 p3) : DataW.TrodAll enc P w base spare held [t0,t1,t2,t3] [v0,v1,v2,v3] [d0,d1,d2,d3] (p0 ++ (p1 ++ (p2 ++ p3))) :=
 ⟨p0,_,h0,⟨p1,_,h1,⟨p2,_,h2,trodAll_mk1 h3,rfl⟩,rfl⟩,rfl⟩
end
set_option maxRecDepth 100000 in
theorem law_lifted (hlaw : ∀ a0 a1 a2 a3,Arg Tryz.prog 46 a0 → Arg Tryz.prog 46 a1 → Arg Tryz.prog 3 a2 → Arg Tryz.prog 3 a3 → Go.Ab.Loc Tryz.prog Gl 0 4 [a0,a1,a2,a3] [] (.bool true) [])
  (os : Os) (started : os.Started) (H : Type) (enc : TypeId × Value → H) :
  ReturnsInHanded {} Tryz.checked os 4 .any (fun w args => (Rows.polyApartSpec.pre enc Tryz.prog Tryz.f4 Rows.polyApartRow.domain false w args ∧ laidMet Tryz.prog Rows.polyApartRow.laid w) ∧ sizedMet enc Tryz.prog Tryz.f4 (OpenSpec.ofChange Rows.polyApartSpec) false w args)
   (Rows.polyApartSpec.post enc Tryz.prog Tryz.f4 false true false false) := by
 refine returnsInHanded_of_change_and (C := Tryz.checked) (X := fun w _ => laidMet Tryz.prog Rows.polyApartRow.laid w) (fun _ _ _ hh h => h.of_heap hh) Tryz.own started (by kernel_rfl) Tryz.func4
  (ChangeSpec.witness_at (enc := enc) (C := Tryz.checked) (os := os) (X := fun w _ => laidMet Tryz.prog Rows.polyApartRow.laid w) false (laidWorld os) #[.agg #[.int .i64 0,.int .i64 0,.slice none 0 0,.slice none 0 0],.agg #[.int .i64 0,.int .i64 0,.slice none 0 0,.slice none 0 0],.int .i64 0,.int .i64 0] 8 rfl (by kernel_rfl) (by kernel_rfl) (by kernel_rfl) (by kernel_rfl) (by kernel_rfl) (laid_met os _)) ?_
 intro W base args ds gs before hval0 hW hcnd0 _ hL _
 have hval : ∀ (j : Nat) t v,Tryz.f4.params[j]? = some t → args[j]? = some v → Value.okWide Tryz.prog W .any base t v := hval0
 have hW' := hW
 obtain ⟨p,q,hA0,hV,rfl,hfz,hnd⟩ := hW
 have hA : DataW.TrodAll enc Tryz.prog W 0 (fun _ => true) true Tryz.f4.params.toList args.toList ds p := hA0
 rw [Tryz.params4] at hA hval
 obtain ⟨v0,v1,v2,v3,d0,d1,d2,d3,p0,p1,p2,p3,rfl,rfl,rfl,h0,h1,h2,h3⟩ := trodAll_n hA
 obtain ⟨rfl,rfl⟩ := trodVars_none hV
 obtain ⟨a0,t0,r0,n0⟩ := arg_rel closedOk (by simp) (hval 0 46 v0 rfl rfl) h0
 obtain ⟨a1,t1,r1,n1⟩ := arg_rel closedOk (by simp) (hval 1 46 v1 rfl rfl) h1
 obtain ⟨a2,t2,r2,n2⟩ := arg_rel closedOk (by simp) (hval 2 3 v2 rfl rfl) h2
 obtain ⟨a3,t3,r3,n3⟩ := arg_rel closedOk (by simp) (hval 3 3 v3 rfl rfl) h3
 refine (law_calls (hlaw a0 a1 a2 a3 t0 t1 t2 t3) (W := W) (vs := #[v0,v1,v2,v3]) rfl (fun i b v hb hv => ?_) (fun b hb => ?_) (glob_ok hL)).mono fun e W' ⟨he,hs⟩ => ?_
 ·match i,hb,hv with
  | 0,hb,hv => simp at hb hv; subst hb; subst hv; exact r0
  | 1,hb,hv => simp at hb hv; subst hb; subst hv; exact r1
  | 2,hb,hv => simp at hb hv; subst hb; subst hv; exact r2
  | 3,hb,hv => simp at hb hv; subst hb; subst hv; exact r3
  | n + 4,hb,hv => simp at hb
 ·simp at hb
  rcases hb with rfl | rfl | rfl | rfl <;> assumption
 subst he
 have hB := below_of hs
 simp only [List.append_nil] at hW'
 have hlt : ∀ x ∈ p0 ++ p1 ++ p2 ++ p3,x.block < W.heap.size := fun x hx => by
  have := hW'.lt x (by simpa using hx)
  simpa using this
 refine ⟨_,rfl,_,_,_,[],(p0 ++ (p1 ++ (p2 ++ p3))),[],hW',?_,?_,rfl,hB.frame _,fun h => by cases h⟩
 ·exact trodAll_mk1 (shut_bool (by kernel_rfl) true)
 ·refine trodAll_mkn (Below.trod Tryz.laidOut (by kernel_rfl) (of_decide_eq_true (by kernel_rfl)) h0 hB fun x hx => hlt x (by simp [hx])) (Below.trod Tryz.laidOut (by kernel_rfl) (of_decide_eq_true (by kernel_rfl)) h1 hB fun x hx => hlt x (by simp [hx])) (Below.trod Tryz.laidOut (by kernel_rfl) (of_decide_eq_true (by kernel_rfl)) h2 hB fun x hx => hlt x (by simp [hx])) (Below.trod Tryz.laidOut (by kernel_rfl) (of_decide_eq_true (by kernel_rfl)) h3 hB fun x hx => hlt x (by simp [hx]))
theorem row_holds (hlaw : ∀ a0 a1 a2 a3,Arg Tryz.prog 46 a0 → Arg Tryz.prog 46 a1 → Arg Tryz.prog 3 a2 → Arg Tryz.prog 3 a3 → Go.Ab.Loc Tryz.prog Gl 0 4 [a0,a1,a2,a3] [] (.bool true) []) : Rows.PolyApartSaid :=
 OpenClaim.holds_of_wide 4 Tryz.f4 rfl rfl rfl rfl rfl rfl rfl ⟨rfl,rfl,rfl,rfl,rfl⟩ rfl rfl rfl rfl rfl (by kernel_rfl) Tryz.func4 (by kernel_rfl)
  (of_decide_eq_true (by kernel_rfl)) (by unfold Func.isWrapper; first | (rw [if_pos (by decide +kernel)]; kernel_rfl) | (rw [if_neg (by decide +kernel)]; exact ⟨rfl,rfl⟩))
  (fun os started H enc _ => law_lifted hlaw os started H enc)
theorem card_holds (hlaw : ∀ a0 a1 a2 a3,Arg Tryz.prog 46 a0 → Arg Tryz.prog 46 a1 → Arg Tryz.prog 3 a2 → Arg Tryz.prog 3 a3 → Go.Ab.Loc Tryz.prog Gl 0 4 [a0,a1,a2,a3] [] (.bool true) []) : Rows.PolyApartCardSaid :=
 Claim7.holds_tied_plain_at .later [] [.data] true (true,"16a4129b232127bfdea412713b8fa3b46107cc82ead47a7fe3b19e40eeea7f38") false
  (row_holds hlaw) (fun _ h => by cases h) (by kernel_rfl) (fun _ h => by cases h) polyApart_row_tie rfl ⟨rfl,rfl⟩ (by kernel_rfl) rfl
  (fun f fn hf hfn => by
   obtain rfl : f = 4 := Option.some.inj ((show Tryz.prog.funcNamed "ectype/ectypelaw12.PolyApart" = some 4 by kernel_rfl).symm.trans hf) |>.symm
   obtain rfl : fn = Tryz.f4 := (Option.some.inj (Tryz.func4.symm.trans hfn)).symm
   exact ⟨by kernel_rfl,fun j t ht => by
    rw [Tryz.params4] at ht
    have h3 : t ∈ [3,46] := by
     match j,ht with
     | 0,ht => simp at ht; simp [← ht]
     | 1,ht => simp at ht; simp [← ht]
     | 2,ht => simp at ht; simp [← ht]
     | 3,ht => simp at ht; simp [← ht]
     | n + 4,ht => simp at ht
    have : ([3,46].all fun t => Tryz.prog.wantsStandIn t == false) = true := by kernel_rfl
    have := List.all_eq_true.1 this t h3
    have e : Tryz.prog.wantsStandIn t = false := by simpa using this
    exact e⟩)
  (by kernel_rfl)
theorem apart : Rows.PolyApartCardSaid := card_holds law4_arg
end Go.Proofs.YtgfjhhgpgaejmaaGreatDoor
