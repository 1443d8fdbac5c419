/- Proved: for every input, ectypelaw12.PolySplits returns true and its arguments read afterwards as before. Conditions: those of the given card (the package variable ectype/functor.forms starts as the program's text lays it); nothing more. -/
import Derived.Test.YtgfjhhgpgaejmaaGreatDoorSplitsH
import Derived.Test.YtgfjhhgpgaejmaaGreatDoorSplitsB4
import Derived.Test.YtgfjhhgpgaejmaaGreatDoorCards
import Derived.Test.YtgfjhhgpgaejmaaGreatDoorTie
import Derived.LaidLaws
import Derived.Handed
import Derived.SevenTiedAt
namespace Go.Ab.Tab
open Go Go.Ab
set_option maxRecDepth 10000
set_option linter.unusedVariables false
set_option linter.unusedSimpArgs false
theorem l5_0 (ws : List Int) (hws : ws.length ≤ 2500) (S) (K : List AI) (Q : St → Prop) (r4 r5 r8 r14 r15 r16 r17 : AV) (e5 e8 e16 : Ent) : ∀ (j i : Nat) (b : Bool) (τ ω),i + j = ws.length →
  τ 4 = r4 → τ 5 = r5 → τ 8 = r8 → τ 14 = r14 → τ 15 = r15 → τ 16 = r16 → τ 17 = r17 → τ 23 = .bool b → τ 212 = .sl 1 (ws.map (AV.int .i64)) .no → τ 213 = .int .i64 ws.length → τ 214 = .int .i64 i → ω 5 = e5 → ω 8 = e8 → ω 16 = e16 →
  (∀ τ' ω',τ' 4 = r4 → τ' 5 = r5 → τ' 8 = r8 → τ' 14 = r14 → τ' 15 = r15 → τ' 16 = r16 → τ' 17 = r17 → τ' 23 = .bool (b && !((ws.drop i).any badI)) → ω' 5 = e5 → ω' 8 = e8 → ω' 16 = e16 → Rd (Loc Pg Gl) .im Q K (stF 272 0 τ' ω' S)) →
  Rd (Loc Pg Gl) .im Q (.lp c5_l0 :: .blk 1 :: K) (stF 272 0 τ ω S) := by
 intro j
 induction j with
 | zero =>
  intro i b τ ω hi h4 h5 h8 h14 h15 h16 h17 h23 h212 h213 h214 w5 w8 w16 hend
  refine Rd_lpE c5_l0.eq_1 ?_
  obtain rfl : i = ws.length := by omega
  simp [h213,h214]
  rw [List.drop_length] at hend
  refine hend _ _ ?_ ?_ ?_ ?_ ?_ ?_ ?_ ?_ w5 w8 w16
  all_goals simp [h4,h5,h8,h14,h15,h16,h17,h23]
 | succ j ih =>
  intro i b τ ω hi h4 h5 h8 h14 h15 h16 h17 h23 h212 h213 h214 w5 w8 w16 hend
  refine Rd_lpE c5_l0.eq_1 ?_
  have hlt : i < ws.length := by omega
  have hwr := wrap_next hlt (show ws.length ≤ maxLen by unfold maxLen; omega)
  rw [List.drop_eq_getElem_cons hlt,List.any_cons] at hend
  generalize hz : ws[i] = z at hend
  have hb : badI z = (decide (z < 0) || decide (100 ≤ z)) := rfl
  have step : ∀ (b' : Bool) (τ' : Nat → AV) (ω' : Nat → Ent),b' = (b && !badI z) → τ' 4 = r4 → τ' 5 = r5 → τ' 8 = r8 → τ' 14 = r14 → τ' 15 = r15 → τ' 16 = r16 → τ' 17 = r17 → τ' 23 = .bool b' → τ' 212 = .sl 1 (ws.map (AV.int .i64)) .no → τ' 213 = .int .i64 ws.length → τ' 214 = .int .i64 (i + 1 : Nat) → ω' 5 = e5 → ω' 8 = e8 → ω' 16 = e16 →
    Rd (Loc Pg Gl) .im Q (.lp c5_l0 :: .blk 1 :: K) (stF 272 0 τ' ω' S) := by
   intro b' τ' ω' hb' g4 g5 g8 g14 g15 g16 g17 g23 g212 g213 g214 v5 v8 v16
   refine ih (i + 1) b' τ' ω' (by omega) g4 g5 g8 g14 g15 g16 g17 g23 g212 g213 g214 v5 v8 v16 ?_
   rw [hb']
   have e : (b && !badI z && !(ws.drop (i + 1)).any badI) = (b && !(badI z || (ws.drop (i + 1)).any badI)) := by rw [Bool.not_or,Bool.and_assoc]
   rw [e]
   exact hend
  cases b with
  | false =>
   simp [h23,h212,h213,h214,hlt,hz,hwr]
   refine step false _ _ (by simp) ?_ ?_ ?_ ?_ ?_ ?_ ?_ ?_ ?_ ?_ ?_ w5 w8 w16
   all_goals simp [h4,h5,h8,h14,h15,h16,h17,h212,h213]
  | true =>
   by_cases c0 : 0 ≤ z
   ·by_cases c1 : z < 100
    ·have : badI z = false := by rw [hb,decide_eq_false (by omega),decide_eq_false (by omega)]; rfl
     simp [h23,h212,h213,h214,hlt,hz,hwr,c0,c1]
     refine step true _ _ (by simp [this]) ?_ ?_ ?_ ?_ ?_ ?_ ?_ ?_ ?_ ?_ ?_ w5 w8 w16
     all_goals simp [h4,h5,h8,h14,h15,h16,h17,h212,h213]
    ·have : badI z = true := by rw [hb,decide_eq_true (show 100 ≤ z by omega)]; simp
     simp [h23,h212,h213,h214,hlt,hz,hwr,c0,c1]
     refine step false _ _ (by simp [this]) ?_ ?_ ?_ ?_ ?_ ?_ ?_ ?_ ?_ ?_ ?_ w5 w8 w16
     all_goals simp [h4,h5,h8,h14,h15,h16,h17,h212,h213]
   ·have : badI z = true := by rw [hb,decide_eq_true (show z < 0 by omega)]; simp
    simp [h23,h212,h213,h214,hlt,hz,hwr,c0]
    refine step false _ _ (by simp [this]) ?_ ?_ ?_ ?_ ?_ ?_ ?_ ?_ ?_ ?_ ?_ w5 w8 w16
    all_goals simp [h4,h5,h8,h14,h15,h16,h17,h212,h213]
def fcells (f : Fu) : Ent := (1,.cells [.int .i64 f.k,.int .i64 f.n,.sl 3 (f.gs.map encF) .no])
def vcells (v : Va) : Ent := (1,.cells [.int .i64 v.n,.sl 3 (v.gs.map encV) .no,.sl 1 (v.ws.map (AV.int .i64)) .no])
theorem zero27 (D : Nat) : Go.Ab.Loc Pg Gl D 27 [encV v0] [] (.bool true) [] := by
 have h := spec27 v0 (by simp [v0,fitV,fitVs,maxLen]) D
 rwa [decide_eq_true (cmpV_refl v0)] at h
theorem same13 (v : Va) (hv : fitV v) (D : Nat) : Go.Ab.Loc Pg Gl D 13 [encV v,encV v] [] (.bool true) [] := by
 have h := spec13 v v hv D
 rwa [decide_eq_true (cmpV_refl v)] at h
theorem same23 (l : List Int) (hl : l.length ≤ maxLen) (D : Nat) : Go.Ab.Loc Pg Gl D 23 [encI l,encI l] [] (.bool true) [] := by
 have h := spec23 l l hl D
 rwa [decide_eq_true rfl] at h
theorem l5_j0 (f : Fu) (hf : fitF f) (hF : isF f = true) (hp : polyF f = true) (sh : Va) (hsf : fitV sh) (hsn : nodesV sh ≤ 2500) (ws : List Int) (hws : ws.length ≤ 2500) (S) (τ ω) (h4 : τ 4 = .sl 1 (ws.map (AV.int .i64)) .no) (h5 : τ 5 = .ptr 0 5 1 0) (h8 : τ 8 = .ptr 0 8 1 0)
  (h14 : τ 14 = .int .i64 (posR f sh).1) (h15 : τ 15 = .int .i64 (posR f sh).2) (h16 : τ 16 = .ptr 0 16 1 0) (h17 : τ 17 = .int .i64 (joinR f sh ws).2) (w5 : ω 5 = fcells f) (w8 : ω 8 = vcells sh) (w16 : ω 16 = vcells (joinR f sh ws).1) :
  Rd (Loc Pg Gl) .im (RetQ [.tmp 10] (.bool true) S) [.c c5_j0] (stF 272 0 τ ω S) := by
 have hs := isF_shaped hF
 have h9 := spec9 1
 have ha : askF f = 0 := by unfold askF; rw [hF,hp]; rfl
 unfold c5_j0
 simp [h5,h8,w5,w8,fcells,vcells]
 refine Rd_call (spec29 f hs hp sh hsf (by omega) _) (by simp [encF_eta f,encV_eta sh]) ?_
 cases hb : shapeB f sh with
 | false =>
  have e1 : posR f sh = (0,20) := by unfold posR; rw [ha,hb]; simp
  have e2 : joinR f sh ws = (v0,20) := by unfold joinR; rw [e1]; simp
  rw [e1] at h14 h15
  rw [e2] at h17 w16
  simp [h14,h15,h16,h17,w16,vcells]
  refine Rd_call (zero27 _) (by simp [encV_eta v0]) ?_
  simp
  refine Rd_call h9 (by simp) ?_
  simp
 | true =>
  have hb' := hb
  unfold shapeB at hb'
  rw [Bool.and_eq_true] at hb'
  obtain ⟨hn2,hv⟩ := valV_ok hb'.1
  have hlv := leavesV_le sh f
  have e1 : posR f sh = (((leavesV sh f).length : Int),0) := by unfold posR; rw [ha,hb]; simp
  rw [e1] at h14 h15
  simp [h14,h15,h5,h8,w5,w8,fcells,vcells]
  refine Rd_call (spec30 sh hsf (by omega) f hs hp hv _) (by simp [encF_eta f,encV_eta sh]) ?_
  simp [h4,h14]
  refine l5_0 ws hws S _ _ _ _ _ _ _ _ _ _ _ _ ws.length 0 (decide (ws.length = (leavesV sh f).length)) _ _ (by omega) rfl rfl rfl rfl rfl rfl rfl ?_ ?_ ?_ ?_ rfl rfl rfl ?_
  case refine_5 =>
   intro τ' ω' g4 g5 g8 g14 g15 g16 g17 g23 v5 v8 v16
   rw [List.drop_zero] at g23
   simp [h4,h5,h8,h14,h15,h16,h17,w5,w8,w16] at g4 g5 g8 g14 g15 g16 g17 v5 v8 v16
   unfold c5_k0
   by_cases hl : ws.length = (leavesV sh f).length
   ·cases hany : ws.any badI with
    | true =>
     have e2 : joinR f sh ws = (v0,1) := by unfold joinR; rw [e1,hany]; simp
     rw [decide_eq_true hl,hany] at g23
     rw [e2] at g17 v16
     simp [g16,g17,g23,v16,vcells]
     refine Rd_call (zero27 _) (by simp [encV_eta v0]) ?_
     simp
     refine Rd_call h9 (by simp) ?_
     simp
    | false =>
     have e2 : joinR f sh ws = (joinV ws sh f,0) := by unfold joinR; rw [e1,hany]; simp [hl]
     rw [decide_eq_true hl,hany] at g23
     rw [e2] at g17 v16
     obtain ⟨q1,q2⟩ := split_join hs hp hb hl
     have hbad : ∀ x ∈ ws,0 ≤ x ∧ x < 100 := by
      intro x hx
      have := List.any_eq_false.1 hany x hx
      unfold badI at this
      simp at this
      omega
     obtain ⟨q3,q4⟩ := fill_val (fun c => ws[c]?.getD 0) (m := 100) hs hp hv (fun i hi => by
      have hi' : i < ws.length := by omega
      rw [List.getElem?_eq_getElem hi',Option.getD_some]
      exact hbad _ (List.getElem_mem hi'))
     have hfit : fitV (joinV ws sh f) := fillV_fit _ sh hsf 0 f
     have e3 : splitR f 100 (joinV ws sh f) = (sh,ws,0) := by
      have hw : wholeN f 100 (joinV ws sh f) = 0 := by
       unfold wholeN fineN
       rw [hF,valV_poly hs hp]
       unfold joinV
       rw [show (100 : Int).toNat = 100 from rfl,q3,q4,decide_eq_true hn2]
       rfl
      unfold splitR
      rw [if_neg (by simp [ha]),if_neg (by simp [hw]),q1,q2]
     have h16' := spec16 f hf 100 (joinV ws sh f) hfit 1
     rw [e3,rSplit] at h16'
     simp [g4,g5,g8,g16,g17,g23,v5,v8,v16,fcells,vcells]
     refine Rd_drCall (spec31 ws sh hsf (by omega) f hs hp hb hl _) (by simp [encF_eta f,encV_eta sh,encI]) ?_
     simp [encV_eta (joinV ws sh f)]
     refine Rd_drCall (same13 (joinV ws sh f) hfit _) (by simp [encV_eta (joinV ws sh f)]) ?_
     simp [g5,g16,v5,v16,fcells,vcells]
     refine Rd_call h16' (by simp [encF_eta f,encV_eta (joinV ws sh f)]) ?_
     simp [encV_eta sh,encI,g8,v8,vcells]
     refine Rd_call (same13 sh hsf _) (by simp [encV_eta sh]) ?_
     simp [g4]
     refine Rd_call (same23 ws (by unfold maxLen; omega) _) (by simp [encI]) ?_
     simp
     refine Rd_call h9 (by simp) ?_
     simp
   ·have e2 : joinR f sh ws = (v0,1) := by
     unfold joinR; rw [e1]
     have : ¬ (ws.length : Int) = ((leavesV sh f).length : Int) := by omega
     simp [this]
    rw [decide_eq_false hl] at g23
    rw [e2] at g17 v16
    simp [g16,g17,g23,v16,vcells]
    refine Rd_call (zero27 _) (by simp [encV_eta v0]) ?_
    simp
    refine Rd_call h9 (by simp) ?_
    simp
  all_goals simp [h4]
  all_goals omega
theorem law5 (f : Fu) (hf : fitF f) (n : Int) (v : Va) (hv : fitV v) (sh : Va) (hsf : fitV sh) (ws : List Int) (hws : ws.length ≤ maxLen) :
  Go.Ab.Loc Pg Gl 0 5 [encF f,.int .i64 n,encV v,encV sh,encI ws] [] (.bool true) [] := by
 refine loc_rd mixedP tok rfl rfl fun S => ?_
 have h9 := spec9 1
 have h7 := spec7 f hf 1 400 (by omega)
 have h8 := spec8 v hv 1 2500 (by omega)
 have h8' := spec8 sh hsf 1 2500 (by omega)
 unfold c5
 rw [encF_eta f,encV_eta v,encV_eta sh,encI]
 simp
 refine Rd_call h7 (by simp [encF_eta f]) ?_
 by_cases b1 : nodesF f ≤ 400
 case neg =>
  rw [decide_eq_false b1]
  simp
  refine Rd_call h9 (by simp) ?_
  simp
 rw [decide_eq_true b1]
 simp
 refine Rd_call h8 (by simp [encV_eta v]) ?_
 cases b2 : (decide (nodesV v ≤ 2500) && lightV 2500 v) with
 | false =>
  simp
  refine Rd_call h9 (by simp) ?_
  simp
 | true =>
 simp
 refine Rd_call h8' (by simp [encV_eta sh]) ?_
 cases b3 : (decide (nodesV sh ≤ 2500) && lightV 2500 sh) with
 | false =>
  simp
  refine Rd_call h9 (by simp) ?_
  simp
 | true =>
 by_cases b4 : (2500 : Int) < ws.length
 ·simp [b4]
  refine Rd_call h9 (by simp) ?_
  simp
 simp only [Bool.and_eq_true,decide_eq_true_eq] at b2 b3
 have hwl : ws.length ≤ 2500 := by omega
 have h16 := spec16 f hf n v hv 1
 have h25 := spec25 f hf sh hsf 1
 have h26 := spec26 f hf sh hsf ws (by omega) 1
 rw [rSplit] at h16
 rw [rJoin] at h26
 simp [b4]
 refine Rd_call h16 (by simp [encF_eta f,encV_eta v]) ?_
 simp [encV_eta (splitR f n v).1,encI]
 refine Rd_call h25 (by simp [encF_eta f,encV_eta sh]) ?_
 simp
 refine Rd_call h26 (by simp [encF_eta f,encV_eta sh,encI]) ?_
 simp [encV_eta (joinR f sh ws).1]
 refine Rd_call (spec11 f hf _) (by simp [encF_eta f]) ?_
 by_cases ha : askF f = 0
 case neg =>
  have e1 : splitR f n v = (v0,[],askF f) := by unfold splitR; rw [if_pos ha]
  have e2 : posR f sh = (0,askF f) := by unfold posR; rw [if_pos ha]
  have e3 : joinR f sh ws = (v0,askF f) := by unfold joinR; rw [e2,if_pos ha]
  simp [ha,e1,e2,e3]
  refine Rd_call (zero27 _) (by simp [encV_eta v0]) ?_
  simp
  refine Rd_call (zero27 _) (by simp [encV_eta v0]) ?_
  simp
  refine Rd_call h9 (by simp) ?_
  simp
 obtain ⟨hF,hp⟩ := ask_ok ha
 have hs := isF_shaped hF
 simp [ha]
 by_cases hr : n < 0 ∨ 100 < n
 ·have e1 : splitR f n v = (v0,[],1) := by
   have hw : wholeN f n v = 1 := by unfold wholeN fineN; rw [hF,if_pos rfl,if_pos hr]; rfl
   unfold splitR
   rw [if_neg (by simp [ha]),hw]; rfl
  have fin : ∀ (τ ω),τ 4 = .sl 1 (ws.map (AV.int .i64)) .no → τ 5 = .ptr 0 5 1 0 → τ 8 = .ptr 0 8 1 0 → τ 14 = .int .i64 (posR f sh).1 → τ 15 = .int .i64 (posR f sh).2 → τ 16 = .ptr 0 16 1 0 → τ 17 = .int .i64 (joinR f sh ws).2 → ω 5 = fcells f → ω 8 = vcells sh → ω 16 = vcells (joinR f sh ws).1 →
    Rd (Loc Pg Gl) .im (RetQ [.tmp 10] (.bool true) S) [.c c5_j0] (stF 272 0 τ ω S) := l5_j0 f hf hF hp sh hsf (by omega) ws hwl S
  by_cases h0 : n < 0
  ·simp [h0,e1]
   refine Rd_call (zero27 _) (by simp [encV_eta v0]) ?_
   simp
   refine fin _ _ ?_ ?_ ?_ ?_ ?_ ?_ ?_ ?_ ?_ ?_
   all_goals simp [fcells,vcells]
  ·have h1 : 100 < n := by omega
   simp [h0,h1,e1]
   refine Rd_call (zero27 _) (by simp [encV_eta v0]) ?_
   simp
   refine fin _ _ ?_ ?_ ?_ ?_ ?_ ?_ ?_ ?_ ?_ ?_
   all_goals simp [fcells,vcells]
 have r0 : ¬ n < 0 := by omega
 have r1 : ¬ 100 < n := by omega
 obtain ⟨m,rfl⟩ : ∃ m : Nat,n = m := ⟨n.toNat,by omega⟩
 simp [r1]
 refine Rd_call (spec15v f hs m (by omega) v hv (by omega) _) (by simp [encF_eta f,encV_eta v]) ?_
 have fin : ∀ (τ ω),τ 4 = .sl 1 (ws.map (AV.int .i64)) .no → τ 5 = .ptr 0 5 1 0 → τ 8 = .ptr 0 8 1 0 → τ 14 = .int .i64 (posR f sh).1 → τ 15 = .int .i64 (posR f sh).2 → τ 16 = .ptr 0 16 1 0 → τ 17 = .int .i64 (joinR f sh ws).2 → ω 5 = fcells f → ω 8 = vcells sh → ω 16 = vcells (joinR f sh ws).1 →
   Rd (Loc Pg Gl) .im (RetQ [.tmp 10] (.bool true) S) [.c c5_j0] (stF 272 0 τ ω S) := l5_j0 f hf hF hp sh hsf (by omega) ws hwl S
 cases hval : valV f m v with
 | false =>
  have e1 : splitR f m v = (v0,[],20) := by
   have hw : wholeN f m v = 20 := by unfold wholeN fineN; rw [hF,if_pos rfl,if_neg hr,if_pos rfl,Int.toNat_natCast,hval]; rfl
   unfold splitR
   rw [if_neg (by simp [ha]),hw]; rfl
  simp [e1]
  refine Rd_call (zero27 _) (by simp [encV_eta v0]) ?_
  simp
  refine fin _ _ ?_ ?_ ?_ ?_ ?_ ?_ ?_ ?_ ?_ ?_
  all_goals simp [fcells,vcells]
 | true =>
  obtain ⟨hn2,hN⟩ := valV_ok hval
  have e1 : splitR f m v = (shapeV v f,leavesV v f,0) := by
   have hw : wholeN f m v = 0 := by unfold wholeN fineN; rw [hF,if_pos rfl,if_neg hr,if_pos rfl,Int.toNat_natCast,hval]; rfl
   unfold splitR
   rw [if_neg (by simp [ha]),if_neg (by simp [hw])]
  have hlv := leavesV_le v f
  have hsh := shape_fit v hv (by omega) f
  have hu : joinR f (shapeV v f) (leavesV v f) = (v,0) := by
   have ep : posR f (shapeV v f) = (((leavesV v f).length : Int),0) := by
    unfold posR
    rw [if_neg (by simp [ha]),shape_is hs hp hN hn2,if_pos rfl,shape_pos hN]
   have hany : (leavesV v f).any badI = false := by
    rw [List.any_eq_false]
    intro x hx
    have := leavesV_range v f hN x hx
    unfold badI
    simp
    omega
   unfold joinR
   rw [ep,hany,join_split hs hp hN]
   simp
  have h26' := spec26 f hf (shapeV v f) hsh (leavesV v f) (by omega) 1
  rw [hu,rJoin] at h26'
  simp [e1]
  refine Rd_call (spec28 v hv (by omega) f hs hp hN _) (by simp [encF_eta f,encV_eta v]) ?_
  simp [encV_eta (shapeV v f),encI]
  refine Rd_call (same13 (shapeV v f) hsh _) (by simp [encV_eta (shapeV v f)]) ?_
  simp
  refine Rd_call (same23 (leavesV v f) (by unfold maxLen; omega) _) (by simp [encI]) ?_
  simp
  refine Rd_call h26' (by simp [encF_eta f,encV_eta (shapeV v f),encI]) ?_
  simp [encV_eta v]
  refine Rd_call (same13 v hv _) (by simp [encV_eta v]) ?_
  simp
  refine fin _ _ ?_ ?_ ?_ ?_ ?_ ?_ ?_ ?_ ?_ ?_
  all_goals simp [fcells,vcells]
theorem law5_arg : ∀ a0 a1 a2 a3 a4,Arg Pg 24 a0 → Arg Pg 3 a1 → Arg Pg 28 a2 → Arg Pg 28 a3 → Arg Pg 26 a4 → Go.Ab.Loc Pg Gl 0 5 [a0,a1,a2,a3,a4] [] (.bool true) [] := by
 intro a0 a1 a2 a3 a4 h0 h1 h2 h3 h4
 obtain ⟨f,rfl,hf⟩ := arg24 h0
 obtain ⟨n,rfl⟩ := arg3 h1
 obtain ⟨v,rfl,hv⟩ := arg28 h2
 obtain ⟨w,rfl,hw⟩ := arg28 h3
 obtain ⟨l,rfl,hl⟩ := arg26 h4
 exact law5 f hf n v hv w hw l hl
end Go.Ab.Tab
namespace Go.Proofs.YtgfjhhgpgaejmaaGreatDoor
open Go.ChangeShapes Go.WideShapes Go.ChangeAt Go.RowKit Go.Ab Go.Ab.Tab
theorem Tryz.own : ownKnob Tryz.prog.godebug = none := by kernel_rfl
theorem Tryz.laidOut : laidOutB Tryz.prog = true := by kernel_rfl
theorem formsN : Tryz.prog.globalNamed "ectype/functor.forms" = some 0 := by kernel_rfl
theorem formsType : (Tryz.prog.globals[0]?).map (·.type) = some 163 := by kernel_rfl
def ints : List Int := [0,0,16,0,0,2,0,2,4,1,0,1,0,1,0,1]
theorem flatOk : flatTys Tryz.prog [163,162,3] = true := by kernel_rfl
theorem glob_ok {W : World} (h : laidMet Tryz.prog Rows.polySplitsRow.laid W) : ∀ g cs,Gl g = some cs → ∀ (j : Nat) (c : AV),cs[j]? = some c → ∃ v,allImm W g j = some v ∧ RelI (allImm W) c v := by
 intro g cs hg j c hc
 unfold Gl at hg
 split at hg
 ·rename_i hg0; subst hg0
  injection hg with hg; subst hg
  obtain ⟨ps,⟨g,t,cs,fuel,p,q,hg,ht,hvar,hd,_,_⟩,_⟩ := h
  obtain rfl := Option.some.inj (formsN.symm.trans hg)
  obtain rfl := Option.some.inj (formsType.symm.trans ht)
  have hf := trod_flat flatOk fuel 5 163 cs.toList (ints.map (Value.int .i64)) _ (by simp) hd rfl
  unfold forms at hc
  rw [List.getElem?_map,Option.map_eq_some_iff] at hc
  obtain ⟨n,hn,rfl⟩ := hc
  have hcell := World.var?_cell hg hvar j
  have hcs : cs[j]? = some (.int .i64 n) := by
   rw [← Array.getElem?_toList,hf,List.getElem?_map]
   have : ints[j]? = some n := hn
   rw [this]; rfl
  rw [hcs] at hcell
  refine ⟨.int .i64 n,?_,.int _ _⟩
  simp only [allImm]
  have e : W.cell? ⟨0,j,none⟩ = some (.int .i64 n) := by simpa using hcell
  simp [e,Value.oneCell']
 ·cases hg
noncomputable def laidWorld (os : Os) : World :=
 let w0 := World.holding Tryz.prog os ⟨#[],#[],[]⟩
 { w0 with heap := w0.heap.modify 0 fun
   | .cells _ t frozen => .cells (ints.map (Value.int .i64)).toArray t frozen
   | o => o }
theorem laid_met (os : Os) (args : Array Value) : laidMet Tryz.prog Rows.polySplitsRow.laid ((laidWorld os).forCall (fun _ _ => 0) ⟨#[],args,[]⟩).memory :=
 laidMet_of_run' 8 (by kernel_rfl) (by kernel_rfl)
theorem closedOk : closedTys Tryz.prog [46,24,25,28,22,3,26] = true := by kernel_rfl
theorem below_of {W W' : World} (h : Stands W W') : Below W.heap.size W W' := ⟨h.os,h.tape,h.output,h.size,h.heap⟩
section
variable {H : Type} {enc : TypeId × Value → H} {P : Program} {w : World} {base : Nat} {spare : Nat → Bool} {held : Bool}
theorem trodAll_n {t0 t1 t2 t3 t4 : TypeId} {args : Array Value} {ds : List (DataW H)} {ps : List MemPlace} (h : DataW.TrodAll enc P w base spare held [t0,t1,t2,t3,t4] args.toList ds ps) :
  ∃ v0 v1 v2 v3 v4 d0 d1 d2 d3 d4 p0 p1 p2 p3 p4,args = #[v0,v1,v2,v3,v4] ∧ ds = [d0,d1,d2,d3,d4] ∧ ps = p0 ++ p1 ++ p2 ++ p3 ++ p4 ∧ DataW.Trod enc P w base spare held t0 v0 d0 p0 ∧ DataW.Trod enc P w base spare held t1 v1 d1 p1 ∧ DataW.Trod enc P w base spare held t2 v2 d2 p2 ∧ DataW.Trod enc P w base spare held t3 v3 d3 p3 ∧ DataW.Trod enc P w base spare held t4 v4 d4 p4 := by
 obtain ⟨v0,vs0,d0,ds0,p0,q0,hargs,rfl,rfl,h0,r0⟩ := trodAll_cons h
 obtain ⟨v1,vs1,d1,ds1,p1,q1,rfl,rfl,rfl,h1,r1⟩ := trodAll_cons r0
 obtain ⟨v2,vs2,d2,ds2,p2,q2,rfl,rfl,rfl,h2,r2⟩ := trodAll_cons r1
 obtain ⟨v3,vs3,d3,ds3,p3,q3,rfl,rfl,rfl,h3,r3⟩ := trodAll_cons r2
 obtain ⟨v4,vs4,d4,ds4,p4,q4,rfl,rfl,rfl,h4,r4⟩ := trodAll_cons r3
 obtain ⟨rfl,rfl,rfl⟩ := trodAll_nil r4
 exact ⟨v0,v1,v2,v3,v4,d0,d1,d2,d3,d4,p0,p1,p2,p3,p4,by cases args; simp_all,rfl,by simp,h0,h1,h2,h3,h4⟩
theorem trodAll_mkn {t0 t1 t2 t3 t4 : TypeId} {v0 v1 v2 v3 v4 : Value} {d0 d1 d2 d3 d4 : DataW H} {p0 p1 p2 p3 p4 : List MemPlace} (h0 : DataW.Trod enc P w base spare held t0 v0 d0 p0) (h1 : DataW.Trod enc P w base spare held t1 v1 d1 p1) (h2 : DataW.Trod enc P w base spare held t2 v2 d2 p2) (h3 : DataW.Trod enc P w base spare held t3 v3 d3 p3) (h4 : DataW.Trod enc P w base spare held t4 v4 d4 p4) : DataW.TrodAll enc P w base spare held [t0,t1,t2,t3,t4] [v0,v1,v2,v3,v4] [d0,d1,d2,d3,d4] (p0 ++ (p1 ++ (p2 ++ (p3 ++ p4)))) :=
 ⟨p0,_,h0,⟨p1,_,h1,⟨p2,_,h2,⟨p3,_,h3,trodAll_mk1 h4,rfl⟩,rfl⟩,rfl⟩,rfl⟩
end
set_option maxRecDepth 100000 in
theorem law_lifted (hlaw : ∀ a0 a1 a2 a3 a4,Arg Tryz.prog 24 a0 → Arg Tryz.prog 3 a1 → Arg Tryz.prog 28 a2 → Arg Tryz.prog 28 a3 → Arg Tryz.prog 26 a4 → Go.Ab.Loc Tryz.prog Gl 0 5 [a0,a1,a2,a3,a4] [] (.bool true) [])
  (os : Os) (started : os.Started) (H : Type) (enc : TypeId × Value → H) :
  ReturnsInHanded {} Tryz.checked os 5 .any (fun w args => (Rows.polySplitsSpec.pre enc Tryz.prog Tryz.f5 Rows.polySplitsRow.domain false w args ∧ laidMet Tryz.prog Rows.polySplitsRow.laid w) ∧ sizedMet enc Tryz.prog Tryz.f5 (OpenSpec.ofChange Rows.polySplitsSpec) false w args)
   (Rows.polySplitsSpec.post enc Tryz.prog Tryz.f5 false true false false) := by
 refine returnsInHanded_of_change_and (C := Tryz.checked) (X := fun w _ => laidMet Tryz.prog Rows.polySplitsRow.laid w) (fun _ _ _ hh h => h.of_heap hh) Tryz.own started (by kernel_rfl) Tryz.func5
  (ChangeSpec.witness_at (enc := enc) (C := Tryz.checked) (os := os) (X := fun w _ => laidMet Tryz.prog Rows.polySplitsRow.laid w) false (laidWorld os) #[.agg #[.int .i64 0,.int .i64 0,.slice none 0 0],.int .i64 0,.agg #[.int .i64 0,.slice none 0 0,.slice none 0 0],.agg #[.int .i64 0,.slice none 0 0,.slice none 0 0],.slice none 0 0] 8 rfl (by kernel_rfl) (by kernel_rfl) (by kernel_rfl) (by kernel_rfl) (by kernel_rfl) (laid_met os _)) ?_
 intro W base args ds gs before hval0 hW hcnd0 _ hL _
 have hval : ∀ (j : Nat) t v,Tryz.f5.params[j]? = some t → args[j]? = some v → Value.okWide Tryz.prog W .any base t v := hval0
 have hW' := hW
 obtain ⟨p,q,hA0,hV,rfl,hfz,hnd⟩ := hW
 have hA : DataW.TrodAll enc Tryz.prog W 0 (fun _ => true) true Tryz.f5.params.toList args.toList ds p := hA0
 rw [Tryz.params5] at hA hval
 obtain ⟨v0,v1,v2,v3,v4,d0,d1,d2,d3,d4,p0,p1,p2,p3,p4,rfl,rfl,rfl,h0,h1,h2,h3,h4⟩ := trodAll_n hA
 obtain ⟨rfl,rfl⟩ := trodVars_none hV
 obtain ⟨a0,t0,r0,n0⟩ := arg_rel closedOk (by simp) (hval 0 24 v0 rfl rfl) h0
 obtain ⟨a1,t1,r1,n1⟩ := arg_rel closedOk (by simp) (hval 1 3 v1 rfl rfl) h1
 obtain ⟨a2,t2,r2,n2⟩ := arg_rel closedOk (by simp) (hval 2 28 v2 rfl rfl) h2
 obtain ⟨a3,t3,r3,n3⟩ := arg_rel closedOk (by simp) (hval 3 28 v3 rfl rfl) h3
 obtain ⟨a4,t4,r4,n4⟩ := arg_rel closedOk (by simp) (hval 4 26 v4 rfl rfl) h4
 refine (law_calls (hlaw a0 a1 a2 a3 a4 t0 t1 t2 t3 t4) (W := W) (vs := #[v0,v1,v2,v3,v4]) rfl (fun i b v hb hv => ?_) (fun b hb => ?_) (glob_ok hL)).mono fun e W' ⟨he,hs⟩ => ?_
 ·match i,hb,hv with
  | 0,hb,hv => simp at hb hv; subst hb; subst hv; exact r0
  | 1,hb,hv => simp at hb hv; subst hb; subst hv; exact r1
  | 2,hb,hv => simp at hb hv; subst hb; subst hv; exact r2
  | 3,hb,hv => simp at hb hv; subst hb; subst hv; exact r3
  | 4,hb,hv => simp at hb hv; subst hb; subst hv; exact r4
  | n + 5,hb,hv => simp at hb
 ·simp at hb
  rcases hb with rfl | rfl | rfl | rfl | rfl <;> assumption
 subst he
 have hB := below_of hs
 simp only [List.append_nil] at hW'
 have hlt : ∀ x ∈ p0 ++ p1 ++ p2 ++ p3 ++ p4,x.block < W.heap.size := fun x hx => by
  have := hW'.lt x (by simpa using hx)
  simpa using this
 refine ⟨_,rfl,_,_,_,[],(p0 ++ (p1 ++ (p2 ++ (p3 ++ p4)))),[],hW',?_,?_,rfl,hB.frame _,fun h => by cases h⟩
 ·exact trodAll_mk1 (shut_bool (by kernel_rfl) true)
 ·refine trodAll_mkn (Below.trod Tryz.laidOut (by kernel_rfl) (of_decide_eq_true (by kernel_rfl)) h0 hB fun x hx => hlt x (by simp [hx])) (Below.trod Tryz.laidOut (by kernel_rfl) (of_decide_eq_true (by kernel_rfl)) h1 hB fun x hx => hlt x (by simp [hx])) (Below.trod Tryz.laidOut (by kernel_rfl) (of_decide_eq_true (by kernel_rfl)) h2 hB fun x hx => hlt x (by simp [hx])) (Below.trod Tryz.laidOut (by kernel_rfl) (of_decide_eq_true (by kernel_rfl)) h3 hB fun x hx => hlt x (by simp [hx])) (Below.trod Tryz.laidOut (by kernel_rfl) (of_decide_eq_true (by kernel_rfl)) h4 hB fun x hx => hlt x (by simp [hx]))
theorem row_holds (hlaw : ∀ a0 a1 a2 a3 a4,Arg Tryz.prog 24 a0 → Arg Tryz.prog 3 a1 → Arg Tryz.prog 28 a2 → Arg Tryz.prog 28 a3 → Arg Tryz.prog 26 a4 → Go.Ab.Loc Tryz.prog Gl 0 5 [a0,a1,a2,a3,a4] [] (.bool true) []) : Rows.PolySplitsSaid :=
 OpenClaim.holds_of_wide 5 Tryz.f5 rfl rfl rfl rfl rfl rfl rfl ⟨rfl,rfl,rfl,rfl,rfl⟩ rfl rfl rfl rfl rfl (by kernel_rfl) Tryz.func5 (by kernel_rfl)
  (of_decide_eq_true (by kernel_rfl)) (by unfold Func.isWrapper; first | (rw [if_pos (by decide +kernel)]; kernel_rfl) | (rw [if_neg (by decide +kernel)]; exact ⟨rfl,rfl⟩))
  (fun os started H enc _ => law_lifted hlaw os started H enc)
theorem card_holds (hlaw : ∀ a0 a1 a2 a3 a4,Arg Tryz.prog 24 a0 → Arg Tryz.prog 3 a1 → Arg Tryz.prog 28 a2 → Arg Tryz.prog 28 a3 → Arg Tryz.prog 26 a4 → Go.Ab.Loc Tryz.prog Gl 0 5 [a0,a1,a2,a3,a4] [] (.bool true) []) : Rows.PolySplitsCardSaid :=
 Claim7.holds_tied_plain_at .later [] [.data] true (true,"16a4129b232127bfdea412713b8fa3b46107cc82ead47a7fe3b19e40eeea7f38") false
  (row_holds hlaw) (fun _ h => by cases h) (by kernel_rfl) (fun _ h => by cases h) polySplits_row_tie rfl ⟨rfl,rfl⟩ (by kernel_rfl) rfl
  (fun f fn hf hfn => by
   obtain rfl : f = 5 := Option.some.inj ((show Tryz.prog.funcNamed "ectype/ectypelaw12.PolySplits" = some 5 by kernel_rfl).symm.trans hf) |>.symm
   obtain rfl : fn = Tryz.f5 := (Option.some.inj (Tryz.func5.symm.trans hfn)).symm
   exact ⟨by kernel_rfl,fun j t ht => by
    rw [Tryz.params5] at ht
    have h3 : t ∈ [3,24,26,28] := by
     match j,ht with
     | 0,ht => simp at ht; simp [← ht]
     | 1,ht => simp at ht; simp [← ht]
     | 2,ht => simp at ht; simp [← ht]
     | 3,ht => simp at ht; simp [← ht]
     | 4,ht => simp at ht; simp [← ht]
     | n + 5,ht => simp at ht
    have : ([3,24,26,28].all fun t => Tryz.prog.wantsStandIn t == false) = true := by kernel_rfl
    have := List.all_eq_true.1 this t h3
    have e : Tryz.prog.wantsStandIn t = false := by simpa using this
    exact e⟩)
  (by kernel_rfl)
theorem splits : Rows.PolySplitsCardSaid := card_holds law5_arg
end Go.Proofs.YtgfjhhgpgaejmaaGreatDoor
