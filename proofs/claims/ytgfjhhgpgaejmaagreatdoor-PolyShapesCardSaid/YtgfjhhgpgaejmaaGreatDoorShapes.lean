/- Proved: for every input, ectypelaw12.PolyShapes returns true and its arguments read afterwards as before. Conditions: those of the given card (the package variable ectype/functor.forms starts as the program's text lays it); nothing more. -/
import Derived.Test.YtgfjhhgpgaejmaaGreatDoorShapesI
import Derived.Test.YtgfjhhgpgaejmaaGreatDoorShapesB4
import Derived.Test.YtgfjhhgpgaejmaaGreatDoorCards
import Derived.Test.YtgfjhhgpgaejmaaGreatDoorTie
import Derived.LaidLaws
import Derived.Handed
import Derived.SevenTiedAt
namespace Go.Ab.Tab
open Go Go.Ab
set_option maxRecDepth 10000
set_option linter.unusedVariables false
set_option linter.unusedSimpArgs false
theorem l3_1 (to : List Int) (hto : to.length ≤ 100) (S) (K : List AI) (h9 : ∀ D,Go.Ab.Loc Pg Gl D 9 [] [] (.bool true) []) (r2 r3 r4 : AV) (e3 e4 : Ent) : ∀ (j i : Nat) (τ ω),i + j = to.length →
  τ 2 = r2 → τ 3 = r3 → τ 4 = r4 → τ 110 = .sl 1 (to.map (AV.int .i64)) .no → τ 111 = .int .i64 to.length → τ 112 = .int .i64 i → ω 3 = e3 → ω 4 = e4 →
  (∀ τ' ω',(to.drop i).any badI = false → τ' 2 = r2 → τ' 3 = r3 → τ' 4 = r4 → ω' 3 = e3 → ω' 4 = e4 → Rd (Loc Pg Gl) .im (RetQ [.tmp 6] (.bool true) S) K (stF 197 0 τ' ω' S)) →
  Rd (Loc Pg Gl) .im (RetQ [.tmp 6] (.bool true) S) (.lp c3_l1 :: .blk 2 :: K) (stF 197 0 τ ω S) := by
 intro j
 induction j with
 | zero =>
  intro i τ ω hi h2 h3 h4 h110 h111 h112 w3 w4 hend
  refine Rd_lpE c3_l1.eq_1 ?_
  obtain rfl : i = to.length := by omega
  rw [List.drop_length] at hend
  simp [h111,h112]
  refine hend _ _ rfl ?_ ?_ ?_ w3 w4
  all_goals simp [h2,h3,h4]
 | succ j ih =>
  intro i τ ω hi h2 h3 h4 h110 h111 h112 w3 w4 hend
  refine Rd_lpE c3_l1.eq_1 ?_
  have hlt : i < to.length := by omega
  have hwr := wrap_next hlt (show to.length ≤ maxLen by unfold maxLen; omega)
  rw [List.drop_eq_getElem_cons hlt,List.any_cons] at hend
  generalize hz : to[i] = z at hend
  have hb : badI z = (decide (z < 0) || decide (100 ≤ z)) := rfl
  by_cases c0 : z < 0
  ·simp [h110,h111,h112,hlt,hz,c0]
   refine Rd_call (h9 _) (by simp) ?_
   simp
  ·by_cases c1 : 100 ≤ z
   ·simp [h110,h111,h112,hlt,hz,c0,c1]
    refine Rd_call (h9 _) (by simp) ?_
    simp
   ·rw [hb,decide_eq_false c0,decide_eq_false c1] at hend
    simp [h110,h111,h112,hlt,hz,c0,c1,hwr]
    refine ih (i + 1) _ _ (by omega) ?_ ?_ ?_ ?_ ?_ ?_ ?_ ?_ hend
    all_goals simp [h2,h3,h4,h110,h111,w3,w4]
theorem l3_2 (to : List Int) (hto : to.length ≤ 100) (a : List Int) (hal : a.length ≤ 2 ^ 30) (ha : ∀ x ∈ a,0 ≤ x ∧ x < to.length) (h9 : ∀ D,Go.Ab.Loc Pg Gl D 9 [] [] (.bool true) []) (S) : ∀ (j i : Nat) (τ ω),i + j = a.length →
  τ 2 = .sl 1 (to.map (AV.int .i64)) .no → τ 20 = .sl 1 ((mapL to a).map (AV.int .i64)) .no → τ 169 = .sl 1 (a.map (AV.int .i64)) .no → τ 170 = .int .i64 a.length → τ 171 = .int .i64 i →
  Rd (Loc Pg Gl) .im (RetQ [.tmp 6] (.bool true) S) [.lp c3_l2,.blk 4,.c c3_k0] (stF 197 0 τ ω S) := by
 intro j
 induction j with
 | zero =>
  intro i τ ω hi h2 h20 h169 h170 h171
  refine Rd_lpE c3_l2.eq_1 ?_
  obtain rfl : i = a.length := by omega
  simp [h170,h171,c3_k0]
  refine Rd_call (h9 _) (by simp) ?_
  simp
 | succ j ih =>
  intro i τ ω hi h2 h20 h169 h170 h171
  refine Rd_lpE c3_l2.eq_1 ?_
  have hlt : i < a.length := by omega
  have hwr := wrap_next hlt (show a.length ≤ maxLen by unfold maxLen; omega)
  have hx := ha _ (List.getElem_mem hlt)
  obtain ⟨z,hz⟩ : ∃ z : Nat,a[i] = z := ⟨a[i].toNat,by omega⟩
  rw [hz] at hx
  have hzl : z < to.length := by omega
  have hml : i < (mapL to a).length := by simp [mapL]; omega
  have hm : (mapL to a)[i] = to[z] := by simp [mapL,hz,hzl]
  have h18 := spec18o 0 178 ((ω 178).1 + 1) to.length z 1 (by omega)
  rw [decide_eq_true (by omega)] at h18
  have hn1 : (to.length : Int) ≤ 1099511627776 := by omega
  have hn2 : (to.length : Int) * 56 ≤ 1099511627776 := by omega
  generalize hM : mapL to a = M at hml hm h20
  simp [h2,h20,h169,h170,h171,hlt,hz,hn1,hn2]
  refine Rd_drCall h18 (by simp) ?_
  simp [h2,h20,hzl,hml,hm,h171,hwr]
  subst hM
  refine ih (i + 1) _ _ (by omega) ?_ ?_ ?_ ?_ ?_
  all_goals simp [h2,h20,h169,h170]
theorem l3_k2 (f : Fu) (hf : fitF f) (hF : isF f = true) (hp : polyF f = true) (v : Va) (hv : fitV v) (hn : nodesV v ≤ 2500) (to : List Int) (hto : to.length ≤ 100) (S) (τ ω) (h2 : τ 2 = .sl 1 (to.map (AV.int .i64)) .no) (h3 : τ 3 = .ptr 0 3 1 0) (h4 : τ 4 = .ptr 0 4 1 0) (w3 : ω 3 = fcells f) (w4 : ω 4 = vcells v) :
  Rd (Loc Pg Gl) .im (RetQ [.tmp 6] (.bool true) S) [.c c3_k2] (stF 197 0 τ ω S) := by
 have hs := isF_shaped hF
 have h9 := spec9
 have ha : askF f = 0 := by unfold askF; rw [hF,hp]; rfl
 unfold c3_k2
 simp [h2]
 refine l3_1 to hto S _ h9 (.sl 1 (to.map (AV.int .i64)) .no) (.ptr 0 3 1 0) (.ptr 0 4 1 0) (fcells f) (vcells v) to.length 0 _ _ (by omega) ?_ ?_ ?_ ?_ ?_ ?_ ?_ ?_ ?_
 case refine_9 =>
  intro τ' ω' hany g2 g3 g4 v3 v4
  rw [List.drop_zero] at hany
  unfold c3_k1
  simp [g2,g3,g4,v3,v4,fcells,vcells]
  refine Rd_call (spec15v f hs to.length hto v hv (by omega) _) (by simp [encF_eta f,encV_eta v]) ?_
  cases hval : valV f to.length v with
  | false =>
   simp
   refine Rd_call (h9 _) (by simp) ?_
   simp
  | true =>
   obtain ⟨hn2,hN⟩ := valV_ok hval
   have hlv := leavesV_le v f
   have hlr := leavesV_range v f hN
   obtain ⟨m1,m2,m3,m4⟩ := map_props hs hp hN to
   have hmr : ∀ x ∈ mapL to (leavesV v f),0 ≤ x ∧ x < (100 : Nat) := by
    intro x hx
    obtain ⟨z,hz,rfl⟩ := List.mem_map.1 hx
    have hzr := hlr z hz
    have hzl : z.toNat < to.length := by omega
    rw [List.getElem?_eq_getElem hzl,Option.getD_some]
    have := List.any_eq_false.1 hany _ (List.getElem_mem hzl)
    unfold badI at this
    simp at this
    omega
   have hMv := m3 100 hmr
   have hMf := mapV_fit to v hv f
   have e1 : splitR f to.length v = (shapeV v f,leavesV v f,0) := by
    have hr : ¬ ((to.length : Int) < 0 ∨ 100 < (to.length : Int)) := by omega
    have hw : wholeN f to.length v = 0 := by unfold wholeN fineN; rw [hF,if_pos rfl,if_neg hr,if_pos rfl,Int.toNat_natCast,hval]; rfl
    unfold splitR
    rw [if_neg (by simp [ha]),if_neg (by simp [hw])]
   have e2 : splitR f 100 (mapV to v f) = (shapeV v f,mapL to (leavesV v f),0) := by
    have hw : wholeN f 100 (mapV to v f) = 0 := by
     unfold wholeN fineN
     rw [hF,valV_poly hs hp,show (100 : Int).toNat = 100 from rfl,hMv,m4,decide_eq_true hn2]
     rfl
    unfold splitR
    rw [if_neg (by simp [ha]),if_neg (by simp [hw]),m1,m2]
   have h16 := spec16 f hf to.length v hv 1
   have h16' := spec16 f hf 100 (mapV to v f) hMf 1
   have h17 := spec17 to (by omega) v hv (by omega) f hs (by rw [normV_self v f hN]; rfl) 1
   rw [e1,rSplit] at h16
   rw [e2,rSplit] at h16'
   have hml : (mapL to (leavesV v f)).length = (leavesV v f).length := by simp [mapL]
   have hsf := shape_fit v hv (by omega) f
   generalize hM : mapV to v f = M at h16' h17
   simp [g2,g3,g4,v3,v4,fcells,vcells]
   refine Rd_call h16 (by simp [encF_eta f,encV_eta v]) ?_
   generalize leavesV v f = a at h16' hml hlr hlv
   generalize shapeV v f = u at h16' hsf
   simp [encV_eta u,encI,g2,g3,g4,v3,v4,fcells,vcells]
   refine Rd_drCall h17 (by simp [encF_eta f,encV_eta v,encI]) ?_
   simp [encV_eta M]
   refine Rd_drCall h16' (by simp [encF_eta f,encV_eta M]) ?_
   have hl3 := l3_2 to hto a (by omega) hlr h9 S
   generalize mapL to a = b at hml hl3
   simp [encV_eta u,encI]
   refine Rd_call (same13 u hsf _) (by simp [encV_eta u]) ?_
   simp [hml]
   refine hl3 a.length 0 _ _ (by omega) ?_ ?_ ?_ ?_ ?_
   all_goals simp [g2]
 all_goals simp [h2,h3,h4,w3,w4]
theorem law3 (f : Fu) (hf : fitF f) (v : Va) (hv : fitV v) (to : List Int) (hto : to.length ≤ maxLen) : Go.Ab.Loc Pg Gl 0 3 [encF f,encV v,encI to] [] (.bool true) [] := by
 refine loc_rd mixedP tok rfl rfl fun S => ?_
 have h9 := spec9 1
 have h7 := spec7 f hf 1 400 (by omega)
 have h8 := spec8 v hv 1 2500 (by omega)
 have h10 := spec10 f hf 1
 unfold c3
 rw [encF_eta f,encV_eta v,encI]
 simp
 refine Rd_call h7 (by simp [encF_eta f]) ?_
 by_cases b1 : nodesF f ≤ 400
 case neg =>
  rw [decide_eq_false b1]
  simp
  refine Rd_call h9 (by simp) ?_
  simp
 rw [decide_eq_true b1]
 simp
 refine Rd_call h8 (by simp [encV_eta v]) ?_
 cases b2 : (decide (nodesV v ≤ 2500) && lightV 2500 v) with
 | false =>
  simp
  refine Rd_call h9 (by simp) ?_
  simp
 | true =>
 by_cases b4 : (100 : Int) < to.length
 ·simp [b4]
  refine Rd_call h9 (by simp) ?_
  simp
 simp only [Bool.and_eq_true,decide_eq_true_eq] at b2
 have htl : to.length ≤ 100 := by omega
 simp [b4]
 refine Rd_call h10 (by simp [encF_eta f]) ?_
 simp
 refine Rd_call (spec11 f hf _) (by simp [encF_eta f]) ?_
 by_cases ha : askF f = 0
 case neg =>
  have e1 : shapesR f = ([],askF f) := by unfold shapesR; rw [if_pos ha]
  simp [ha,e1]
  refine Rd_call h9 (by simp) ?_
  simp
 obtain ⟨hF,hp⟩ := ask_ok ha
 have hs := isF_shaped hF
 have h12 := spec12 f hF hp 1
 have fin := l3_k2 f hf hF hp v hv b2.1 to htl S
 simp [ha]
 by_cases hc : (allV f).length ≤ 64
 ·have e1 : shapesR f = (shList f,0) := by unfold shapesR; rw [if_neg (by simp [ha]),listR_eq hs hp,if_pos hc]
  have hsort := shList_sorted hs hp hc
  have hlen : (shList f).length ≤ 64 := by unfold shList; rw [List.length_map]; exact Nat.le_trans (List.length_filter_le _ _) hc
  have hfit : ∀ u ∈ shList f,fitV u := by
   intro u hu
   obtain ⟨w,hw,rfl⟩ := List.mem_map.1 hu
   obtain ⟨q1,q2,q3⟩ := (vals_all f hs hp (isF_depth hF) (all_vals hs hp hc)).2 w (List.mem_filter.1 hw).1
   exact shape_fit w q1 q2 f
  unfold shapes12 at h12
  rw [if_pos hc] at h12
  rw [e1]
  generalize shList f = l at h12 hsort hlen hfit
  refine Rd_call h12 (by simp [encF_eta f]) ?_
  simp [rVals]
  refine l3_0 l hlen hfit hsort S _ _ (.sl 1 (to.map (AV.int .i64)) .no) (.ptr 0 3 1 0) (.ptr 0 4 1 0) (fcells f) (vcells v) l.length 0 _ _ (by omega) ?_ ?_ ?_ ?_ ?_ ?_ ?_ ?_ ?_ ?_ ?_
  case refine_11 =>
   intro τ' ω' g2 g3 g4 v3 v4
   exact fin τ' ω' g2 g3 g4 v3 v4
  all_goals simp [fcells,vcells]
 ·have e1 : shapesR f = ([],2) := by unfold shapesR; rw [if_neg (by simp [ha]),listR_eq hs hp,if_neg hc]
  unfold shapes12 at h12
  rw [if_neg hc] at h12
  rw [e1]
  refine Rd_call h12 (by simp [encF_eta f]) ?_
  simp [rVals]
  refine fin _ _ ?_ ?_ ?_ ?_ ?_
  all_goals simp [fcells,vcells]
theorem law3_arg : ∀ a0 a1 a2,Arg Pg 24 a0 → Arg Pg 28 a1 → Arg Pg 26 a2 → Go.Ab.Loc Pg Gl 0 3 [a0,a1,a2] [] (.bool true) [] := by
 intro a0 a1 a2 h0 h1 h2
 obtain ⟨f,rfl,hf⟩ := arg24 h0
 obtain ⟨v,rfl,hv⟩ := arg28 h1
 obtain ⟨l,rfl,hl⟩ := arg26 h2
 exact law3 f hf v hv l hl
end Go.Ab.Tab
namespace Go.Proofs.YtgfjhhgpgaejmaaGreatDoor
open Go.ChangeShapes Go.WideShapes Go.ChangeAt Go.RowKit Go.Ab Go.Ab.Tab
theorem Tryz.own : ownKnob Tryz.prog.godebug = none := by kernel_rfl
theorem Tryz.laidOut : laidOutB Tryz.prog = true := by kernel_rfl
theorem formsN : Tryz.prog.globalNamed "ectype/functor.forms" = some 0 := by kernel_rfl
theorem formsType : (Tryz.prog.globals[0]?).map (·.type) = some 163 := by kernel_rfl
def ints : List Int := [0,0,16,0,0,2,0,2,4,1,0,1,0,1,0,1]
theorem flatOk : flatTys Tryz.prog [163,162,3] = true := by kernel_rfl
theorem glob_ok {W : World} (h : laidMet Tryz.prog Rows.polyShapesRow.laid W) : ∀ g cs,Gl g = some cs → ∀ (j : Nat) (c : AV),cs[j]? = some c → ∃ v,allImm W g j = some v ∧ RelI (allImm W) c v := by
 intro g cs hg j c hc
 unfold Gl at hg
 split at hg
 ·rename_i hg0; subst hg0
  injection hg with hg; subst hg
  obtain ⟨ps,⟨g,t,cs,fuel,p,q,hg,ht,hvar,hd,_,_⟩,_⟩ := h
  obtain rfl := Option.some.inj (formsN.symm.trans hg)
  obtain rfl := Option.some.inj (formsType.symm.trans ht)
  have hf := trod_flat flatOk fuel 5 163 cs.toList (ints.map (Value.int .i64)) _ (by simp) hd rfl
  unfold forms at hc
  rw [List.getElem?_map,Option.map_eq_some_iff] at hc
  obtain ⟨n,hn,rfl⟩ := hc
  have hcell := World.var?_cell hg hvar j
  have hcs : cs[j]? = some (.int .i64 n) := by
   rw [← Array.getElem?_toList,hf,List.getElem?_map]
   have : ints[j]? = some n := hn
   rw [this]; rfl
  rw [hcs] at hcell
  refine ⟨.int .i64 n,?_,.int _ _⟩
  simp only [allImm]
  have e : W.cell? ⟨0,j,none⟩ = some (.int .i64 n) := by simpa using hcell
  simp [e,Value.oneCell']
 ·cases hg
noncomputable def laidWorld (os : Os) : World :=
 let w0 := World.holding Tryz.prog os ⟨#[],#[],[]⟩
 { w0 with heap := w0.heap.modify 0 fun
   | .cells _ t frozen => .cells (ints.map (Value.int .i64)).toArray t frozen
   | o => o }
theorem laid_met (os : Os) (args : Array Value) : laidMet Tryz.prog Rows.polyShapesRow.laid ((laidWorld os).forCall (fun _ _ => 0) ⟨#[],args,[]⟩).memory :=
 laidMet_of_run' 8 (by kernel_rfl) (by kernel_rfl)
theorem closedOk : closedTys Tryz.prog [46,24,25,28,22,3,26] = true := by kernel_rfl
theorem below_of {W W' : World} (h : Stands W W') : Below W.heap.size W W' := ⟨h.os,h.tape,h.output,h.size,h.heap⟩
section
variable {H : Type} {enc : TypeId × Value → H} {P : Program} {w : World} {base : Nat} {spare : Nat → Bool} {held : Bool}
theorem trodAll_n {t0 t1 t2 : TypeId} {args : Array Value} {ds : List (DataW H)} {ps : List MemPlace} (h : DataW.TrodAll enc P w base spare held [t0,t1,t2] args.toList ds ps) :
  ∃ v0 v1 v2 d0 d1 d2 p0 p1 p2,args = #[v0,v1,v2] ∧ ds = [d0,d1,d2] ∧ ps = p0 ++ p1 ++ p2 ∧ DataW.Trod enc P w base spare held t0 v0 d0 p0 ∧ DataW.Trod enc P w base spare held t1 v1 d1 p1 ∧ DataW.Trod enc P w base spare held t2 v2 d2 p2 := by
 obtain ⟨v0,vs0,d0,ds0,p0,q0,hargs,rfl,rfl,h0,r0⟩ := trodAll_cons h
 obtain ⟨v1,vs1,d1,ds1,p1,q1,rfl,rfl,rfl,h1,r1⟩ := trodAll_cons r0
 obtain ⟨v2,vs2,d2,ds2,p2,q2,rfl,rfl,rfl,h2,r2⟩ := trodAll_cons r1
 obtain ⟨rfl,rfl,rfl⟩ := trodAll_nil r2
 exact ⟨v0,v1,v2,d0,d1,d2,p0,p1,p2,by cases args; simp_all,rfl,by simp,h0,h1,h2⟩
theorem trodAll_mkn {t0 t1 t2 : TypeId} {v0 v1 v2 : Value} {d0 d1 d2 : DataW H} {p0 p1 p2 : List MemPlace} (h0 : DataW.Trod enc P w base spare held t0 v0 d0 p0) (h1 : DataW.Trod enc P w base spare held t1 v1 d1 p1) (h2 : DataW.Trod enc P w base spare held t2 v2 d2 p2) : DataW.TrodAll enc P w base spare held [t0,t1,t2] [v0,v1,v2] [d0,d1,d2] (p0 ++ (p1 ++ p2)) :=
 ⟨p0,_,h0,⟨p1,_,h1,trodAll_mk1 h2,rfl⟩,rfl⟩
end
set_option maxRecDepth 100000 in
theorem law_lifted (hlaw : ∀ a0 a1 a2,Arg Tryz.prog 24 a0 → Arg Tryz.prog 28 a1 → Arg Tryz.prog 26 a2 → Go.Ab.Loc Tryz.prog Gl 0 3 [a0,a1,a2] [] (.bool true) [])
  (os : Os) (started : os.Started) (H : Type) (enc : TypeId × Value → H) :
  ReturnsInHanded {} Tryz.checked os 3 .any (fun w args => (Rows.polyShapesSpec.pre enc Tryz.prog Tryz.f3 Rows.polyShapesRow.domain false w args ∧ laidMet Tryz.prog Rows.polyShapesRow.laid w) ∧ sizedMet enc Tryz.prog Tryz.f3 (OpenSpec.ofChange Rows.polyShapesSpec) false w args)
   (Rows.polyShapesSpec.post enc Tryz.prog Tryz.f3 false true false false) := by
 refine returnsInHanded_of_change_and (C := Tryz.checked) (X := fun w _ => laidMet Tryz.prog Rows.polyShapesRow.laid w) (fun _ _ _ hh h => h.of_heap hh) Tryz.own started (by kernel_rfl) Tryz.func3
  (ChangeSpec.witness_at (enc := enc) (C := Tryz.checked) (os := os) (X := fun w _ => laidMet Tryz.prog Rows.polyShapesRow.laid w) false (laidWorld os) #[.agg #[.int .i64 0,.int .i64 0,.slice none 0 0],.agg #[.int .i64 0,.slice none 0 0,.slice none 0 0],.slice none 0 0] 8 rfl (by kernel_rfl) (by kernel_rfl) (by kernel_rfl) (by kernel_rfl) (by kernel_rfl) (laid_met os _)) ?_
 intro W base args ds gs before hval0 hW hcnd0 _ hL _
 have hval : ∀ (j : Nat) t v,Tryz.f3.params[j]? = some t → args[j]? = some v → Value.okWide Tryz.prog W .any base t v := hval0
 have hW' := hW
 obtain ⟨p,q,hA0,hV,rfl,hfz,hnd⟩ := hW
 have hA : DataW.TrodAll enc Tryz.prog W 0 (fun _ => true) true Tryz.f3.params.toList args.toList ds p := hA0
 rw [Tryz.params3] at hA hval
 obtain ⟨v0,v1,v2,d0,d1,d2,p0,p1,p2,rfl,rfl,rfl,h0,h1,h2⟩ := trodAll_n hA
 obtain ⟨rfl,rfl⟩ := trodVars_none hV
 obtain ⟨a0,t0,r0,n0⟩ := arg_rel closedOk (by simp) (hval 0 24 v0 rfl rfl) h0
 obtain ⟨a1,t1,r1,n1⟩ := arg_rel closedOk (by simp) (hval 1 28 v1 rfl rfl) h1
 obtain ⟨a2,t2,r2,n2⟩ := arg_rel closedOk (by simp) (hval 2 26 v2 rfl rfl) h2
 refine (law_calls (hlaw a0 a1 a2 t0 t1 t2) (W := W) (vs := #[v0,v1,v2]) rfl (fun i b v hb hv => ?_) (fun b hb => ?_) (glob_ok hL)).mono fun e W' ⟨he,hs⟩ => ?_
 ·match i,hb,hv with
  | 0,hb,hv => simp at hb hv; subst hb; subst hv; exact r0
  | 1,hb,hv => simp at hb hv; subst hb; subst hv; exact r1
  | 2,hb,hv => simp at hb hv; subst hb; subst hv; exact r2
  | n + 3,hb,hv => simp at hb
 ·simp at hb
  rcases hb with rfl | rfl | rfl <;> assumption
 subst he
 have hB := below_of hs
 simp only [List.append_nil] at hW'
 have hlt : ∀ x ∈ p0 ++ p1 ++ p2,x.block < W.heap.size := fun x hx => by
  have := hW'.lt x (by simpa using hx)
  simpa using this
 refine ⟨_,rfl,_,_,_,[],(p0 ++ (p1 ++ p2)),[],hW',?_,?_,rfl,hB.frame _,fun h => by cases h⟩
 ·exact trodAll_mk1 (shut_bool (by kernel_rfl) true)
 ·refine trodAll_mkn (Below.trod Tryz.laidOut (by kernel_rfl) (of_decide_eq_true (by kernel_rfl)) h0 hB fun x hx => hlt x (by simp [hx])) (Below.trod Tryz.laidOut (by kernel_rfl) (of_decide_eq_true (by kernel_rfl)) h1 hB fun x hx => hlt x (by simp [hx])) (Below.trod Tryz.laidOut (by kernel_rfl) (of_decide_eq_true (by kernel_rfl)) h2 hB fun x hx => hlt x (by simp [hx]))
theorem row_holds (hlaw : ∀ a0 a1 a2,Arg Tryz.prog 24 a0 → Arg Tryz.prog 28 a1 → Arg Tryz.prog 26 a2 → Go.Ab.Loc Tryz.prog Gl 0 3 [a0,a1,a2] [] (.bool true) []) : Rows.PolyShapesSaid :=
 OpenClaim.holds_of_wide 3 Tryz.f3 rfl rfl rfl rfl rfl rfl rfl ⟨rfl,rfl,rfl,rfl,rfl⟩ rfl rfl rfl rfl rfl (by kernel_rfl) Tryz.func3 (by kernel_rfl)
  (of_decide_eq_true (by kernel_rfl)) (by unfold Func.isWrapper; first | (rw [if_pos (by decide +kernel)]; kernel_rfl) | (rw [if_neg (by decide +kernel)]; exact ⟨rfl,rfl⟩))
  (fun os started H enc _ => law_lifted hlaw os started H enc)
theorem card_holds (hlaw : ∀ a0 a1 a2,Arg Tryz.prog 24 a0 → Arg Tryz.prog 28 a1 → Arg Tryz.prog 26 a2 → Go.Ab.Loc Tryz.prog Gl 0 3 [a0,a1,a2] [] (.bool true) []) : Rows.PolyShapesCardSaid :=
 Claim7.holds_tied_plain_at .later [] [.data] true (true,"16a4129b232127bfdea412713b8fa3b46107cc82ead47a7fe3b19e40eeea7f38") false
  (row_holds hlaw) (fun _ h => by cases h) (by kernel_rfl) (fun _ h => by cases h) polyShapes_row_tie rfl ⟨rfl,rfl⟩ (by kernel_rfl) rfl
  (fun f fn hf hfn => by
   obtain rfl : f = 3 := Option.some.inj ((show Tryz.prog.funcNamed "ectype/ectypelaw12.PolyShapes" = some 3 by kernel_rfl).symm.trans hf) |>.symm
   obtain rfl : fn = Tryz.f3 := (Option.some.inj (Tryz.func3.symm.trans hfn)).symm
   exact ⟨by kernel_rfl,fun j t ht => by
    rw [Tryz.params3] at ht
    have h3 : t ∈ [24,26,28] := by
     match j,ht with
     | 0,ht => simp at ht; simp [← ht]
     | 1,ht => simp at ht; simp [← ht]
     | 2,ht => simp at ht; simp [← ht]
     | n + 3,ht => simp at ht
    have : ([24,26,28].all fun t => Tryz.prog.wantsStandIn t == false) = true := by kernel_rfl
    have := List.all_eq_true.1 this t h3
    have e : Tryz.prog.wantsStandIn t = false := by simpa using this
    exact e⟩)
  (by kernel_rfl)
theorem shapes : Rows.PolyShapesCardSaid := card_holds law3_arg
end Go.Proofs.YtgfjhhgpgaejmaaGreatDoor
