/- Law 12 (DetMinimal). -/
import Derived.Test.YtpgdlniekkeikaaDoorMinI
import Derived.Test.YtpgdlniekkeikaaDoorMinB4
import Derived.Test.YtpgdlniekkeikaaDoorCards
import Derived.Test.YtpgdlniekkeikaaDoorTie
import Derived.LaidLaws
import Derived.Handed
import Derived.SevenTiedAt
namespace Go.Ab.Tab
open Go Go.Ab
set_option maxRecDepth 10000
set_option linter.unusedVariables false
set_option linter.unusedSimpArgs false
theorem l12_0 (n : Nat) (hn : n ≤ 100) (Q : St → Prop) (K : List AI) (S) (τ0 : Nat → AV) (ω0 : Nat → Ent) (h66 : τ0 66 = encI (toZ (List.range n))) (h67 : τ0 67 = .int .i64 n) (hend : ∀ τ' ω',(∀ x,x < 11 → τ' x = τ0 x) → (∀ j,ω' j = ω0 j) → Rd (Loc Pg Gl) .im Q K (stF 103 0 τ' ω' S)) :
  ∀ (m i : Nat) (τ ω),i + m = n → (∀ x,x < 68 → x ≠ 11 → x ≠ 12 → τ x = τ0 x) → τ 68 = .int .i64 i → (∀ j,ω j = ω0 j) →
  Rd (Loc Pg Gl) .im Q (.lp c12_l0 :: .blk 0 :: K) (stF 103 0 τ ω S) := by
 intro m
 induction m with
 | zero =>
  intro i τ ω hi hτ h68 hω
  refine Rd_lpE c12_l0.eq_1 ?_
  obtain rfl : i = n := by omega
  have a67 := (hτ 67 (by decide) (by decide) (by decide)).trans h67
  simp [a67,h68]
  refine hend _ _ (fun x q => ?_) hω
  rw [← hτ x (by omega) (by omega) (by omega)]; simp only [upd]; repeat rw [if_neg (by omega)]
 | succ m ih =>
  intro i τ ω hi hτ h68 hω
  refine Rd_lpE c12_l0.eq_1 ?_
  have hlt : i < n := by omega
  have hwr : IntKind.i64.wrap ((i : Int) + 1) = ((i + 1 : Nat) : Int) := by rw [← wrap_i64_nat (n := i + 1) (by omega)]; rfl
  have a67 := (hτ 67 (by decide) (by decide) (by decide)).trans h67
  have a66 := (hτ 66 (by decide) (by decide) (by decide)).trans h66
  simp [a67,h68,hlt,a66,encI,toZ,hwr]
  refine ih (i + 1) _ _ (by omega) (fun x q1 q2 q3 => ?_) ?_ hω
  ·rw [← hτ x q1 q2 q3]; simp only [upd]; repeat rw [if_neg (by omega)]
  ·simp
theorem law12 (s : Sy) (hf : fitF s.f) (hl : s.m.length ≤ maxLen) (hv : ∀ v ∈ s.m,fitV v) (set word : List Int) (hset : set.length ≤ maxLen) (hword : word.length ≤ maxLen) :
  Go.Ab.Loc Pg Gl 0 12 [encY s,encI set,encI word] [] (.bool true) [] := by
 refine loc_rd mixedP tok rfl rfl fun S => ?_
 unfold c12
 have h23 := spec23 1 s hf hl hv [set,word] (by simp [maxLen]) (by intro l hl; simp at hl; rcases hl with rfl | rfl <;> assumption)
 have h24 := spec24 1
 have hE := encY.eq_1 s
 rw [hE] at h23 ⊢
 simp
 refine Rd_call h23 (by simp [encLs]) ?_
 cases hlook : lookedB s [set,word] with
 | false =>
  simp
  refine Rd_call h24 (by simp) ?_
  simp
 | true =>
 simp
 by_cases h10 : (10 : Int) < s.m.length
 ·simp [h10]
  refine Rd_call h24 (by simp) ?_
  simp
 simp [h10]
 have hfew : fewY 8000 s = true := by unfold lookedB at hlook; rw [Bool.and_eq_true] at hlook; exact hlook.2
 unfold fewY at hfew
 simp only [Bool.and_eq_true,decide_eq_true_eq] at hfew
 have hbn : nodesVs s.m ≤ 2 ^ 32 := by have := fewL_sum (by omega) hfew.2.2; omega
 have h38 := spec38 1 s hf hl hv hbn set word hset hword
 rcases au_cases s hv hbn with hbad | ⟨k,ps,rfl,hG⟩
 ·have hne : (if isY s then (1 : Int) else 30) ≠ 0 := by split <;> decide
  rw [faultW_bad hbad,hE] at h38
  generalize (if isY s then (1 : Int) else 30) = c at h38 hne
  refine Rd_call h38 (by simp) ?_
  simp [hne]
  refine Rd_call h24 (by simp) ?_
  simp
 rw [faultW_one hG,hE] at h38
 refine Rd_call h38 (by simp) ?_
 cases hi : isSet ps.length set with
 | false =>
  simp
  refine Rd_call h24 (by simp) ?_
  simp
 | true =>
 cases hwo : wordOk k word with
 | false =>
  simp
  refine Rd_call h24 (by simp) ?_
  simp
 | true =>
 have vl : VS ps.length set := ⟨hi,hset,hG.ok.len⟩
 obtain ⟨o1,h55,ho1⟩ := spec55 1 k ps hG set vl hf
 rw [hE] at h55
 simp
 cases o1 with
 | none =>
  unfold turnR zeroY at h55
  refine Rd_call h55 (by simp) ?_
  simp
  refine Rd_call h24 (by simp) ?_
  simp
 | some rs1 =>
  obtain ⟨_,res1,r1,r2,r3,r4⟩ := ho1 rs1 rfl
  obtain ⟨d1,l1,n1⟩ := det_dok r1 r2
  rw [← r3] at d1 l1 n1
  have hp1 : 0 < rs1.length := by
   rw [l1]
   obtain ⟨_,_,g3⟩ := reachR_rows 102 0 _ [] r1 rfl (by omega) (fun j r x hj => by simp at hj)
   exact (List.getElem?_eq_some_iff.1 (g3 0 _ rfl)).1
  have h48 := spec48 1 (auY k ps) hf
  rw [hG.letters,hE] at h48
  have h56 := spec56 1 k hG.ok.kle rs1 d1
  have hGp := plainP_g hG.ok.kpos hG.ok.kle d1
  have v0 : VS (plainP rs1).length [0] := ⟨by rw [plainP_len]; simp [isSet,isSetFrom,prevOk]; exact hp1,by simp [maxLen],hGp.ok.len⟩
  obtain ⟨o2,h55b,ho2⟩ := spec55 1 k (plainP rs1) hGp [0] v0 hf
  have hEd1 := encY.eq_1 (sysD k rs1)
  have hEp := encY.eq_1 (auY k (plainP rs1))
  unfold turnR at h55
  simp only [Option.isSome_some] at h55
  rw [hEd1] at h55 h56
  rw [hEp] at h56 h55b
  refine Rd_call h55 (by simp) ?_
  simp
  refine Rd_drCall h48 (by simp) ?_
  simp
  refine Rd_drCall h56 (by simp) ?_
  simp
  cases o2 with
  | none =>
   unfold turnR zeroY at h55b
   refine Rd_drCall h55b (by simp [encI]) ?_
   simp
   refine Rd_call h24 (by simp) ?_
   simp
  | some rs2 =>
   obtain ⟨_,res2,q1,q2,q3,q4⟩ := ho2 rs2 rfl
   obtain ⟨_,d2,_,hp2,hcls,hacc⟩ := brz hG.ok vl r1 r2 r3 r4 q1 q2 q3 q4
   have hfit := sysD_fit k rs2 (by intro p hp; rw [(d2.row p hp).1]; have := hG.ok.kle; omega)
   have hnod := det_nodes hG.ok.kle d2
   have hnodv : ∀ v ∈ (sysD k rs2).m,nodesV v ≤ 2 ^ 30 := fun v hv => by have := nodesVs_le hv; have e : (sysD k rs2).m = rs2.map mkDet := rfl; rw [e] at this; omega
   have hn100 : (sysD k rs2).m.length ≤ 100 := by rw [sysD_m]; exact d2.len
   have h43 := spec43 1 (sysD k rs2) (by have := isF_typD hG.ok.kpos hG.ok.kle; unfold isF at this; simp only [Bool.and_eq_true] at this; exact this.2.2) hn100 hfit.2 hnodv (fun v hv => by
    obtain ⟨p,hp,rfl⟩ := List.mem_map.1 hv
    rw [sysD_m]
    exact norm_det (d2.row p hp).1 (d2.row p hp).2) rs2.length (by have := d2.len; omega)
   have hrc := rounds_cls (sysD k rs2) rs2.length
   rw [hrc] at h43
   have h41 := spec41_ok 1 k ps hG.ok hG.rl hG.is hG.fit hG.nodes (paOf_rl k ps) hG.w set word hset hword
   rw [hi,hwo,Bool.and_self,if_pos rfl,← hacc word hwo,hE] at h41
   have h42 := spec42 1 k rs2 d2 0 hp2 word hwo hword
   generalize outD rs2 (folD rs2 0 word) = b at h41 h42
   have hEd2 := encY.eq_1 (sysD k rs2)
   unfold turnR at h55b
   simp only [Option.isSome_some] at h55b
   rw [hEd2] at h55b h43 h42
   refine Rd_drCall h55b (by simp [encI]) ?_
   simp [sysD_m]
   refine Rd_call h43 (by simp) ?_
   have hrl : rs2.length ≤ 100 := d2.len
   have hw1 : IntKind.i64.wrap (rs2.length : Int) = (rs2.length : Int) := wrap_i64_nat (by omega)
   have hlast : ((List.range' 0 (rs2.length + 1)).map fun x => encI (toZ (clsR (sysD k rs2) x)))[rs2.length]? = some (encI (toZ (List.range rs2.length))) := by
    rw [List.getElem?_map,List.getElem?_range' (by omega)]
    simp [hcls]
   simp [hw1,hlast,show (rs2.length : Int) < (rs2.length : Int) + 1 by omega,encI]
   refine l12_0 rs2.length hrl _ _ S _ _ ?_ ?_ ?_ rs2.length 0 _ _ (by omega) (fun x _ _ _ => rfl) ?_ (fun j => rfl)
   case refine_3 =>
    intro τ1 ω1 hτ1 hω1
    have a1 : τ1 1 = encI set := by rw [hτ1 1 (by decide)]; simp [encI]
    have a2 : τ1 2 = encI word := by rw [hτ1 2 (by decide)]; simp [encI]
    have a3 : τ1 3 = .ptr 0 3 1 0 := by rw [hτ1 3 (by decide)]; simp
    have a9 : τ1 9 = .ptr 0 9 1 0 := by rw [hτ1 9 (by decide)]; simp
    have v3 := hω1 3
    have v9 := hω1 9
    simp at v3 v9
    have hb : ((if b then (1 : Int) else 0) = 1) = (b = true) := by cases b <;> simp
    unfold c12_k0
    simp [a3,v3,a1,a2]
    refine Rd_call h41 (by simp) ?_
    simp [a9,v9,a2,sysD_m,hp2]
    refine Rd_call h42 (by simp) ?_
    simp [hb]
    refine Rd_call h24 (by simp) ?_
    simp
   all_goals simp [toZ,encI,hcls]
theorem law12_arg : ∀ a0 a1 a2,Arg Pg 43 a0 → Arg Pg 23 a1 → Arg Pg 23 a2 → Go.Ab.Loc Pg Gl 0 12 [a0,a1,a2] [] (.bool true) [] := by
 intro a0 a1 a2 h0 h1 h2
 obtain ⟨s,rfl,hf,hl,hv⟩ := arg43 h0
 obtain ⟨x,rfl,hx⟩ := arg23 h1
 obtain ⟨w,rfl,hw⟩ := arg23 h2
 exact law12 s hf hl hv x w hx hw
end Go.Ab.Tab
namespace Go.Proofs.YtpgdlniekkeikaaDoor
open Go.ChangeShapes Go.WideShapes Go.ChangeAt Go.RowKit Go.Ab Go.Ab.Tab
theorem Tryd.own : ownKnob Tryd.prog.godebug = none := by kernel_rfl
theorem Tryd.laidOut : laidOutB Tryd.prog = true := by kernel_rfl
theorem formsN : Tryd.prog.globalNamed "ectype/functor.forms" = some 0 := by kernel_rfl
theorem formsType : (Tryd.prog.globals[0]?).map (·.type) = some 205 := by kernel_rfl
def ints : List Int := [0,0,16,0,0,2,0,2,4,1,0,1,0,1,0,1]
theorem flatOk : flatTys Tryd.prog [205,204,3] = true := by kernel_rfl
theorem glob_ok {W : World} (h : laidMet Tryd.prog Rows.detMinimalRow.laid W) : ∀ g cs,Gl g = some cs → ∀ (j : Nat) (c : AV),cs[j]? = some c → ∃ v,allImm W g j = some v ∧ RelI (allImm W) c v := by
 intro g cs hg j c hc
 unfold Gl at hg
 split at hg
 ·rename_i hg0; subst hg0
  injection hg with hg; subst hg
  obtain ⟨ps,⟨g,t,cs,fuel,p,q,hg,ht,hvar,hd,_,_⟩,_⟩ := h
  obtain rfl := Option.some.inj (formsN.symm.trans hg)
  obtain rfl := Option.some.inj (formsType.symm.trans ht)
  have hf := trod_flat flatOk fuel 5 205 cs.toList (ints.map (Value.int .i64)) _ (by simp) hd rfl
  unfold forms at hc
  rw [List.getElem?_map,Option.map_eq_some_iff] at hc
  obtain ⟨n,hn,rfl⟩ := hc
  have hcell := World.var?_cell hg hvar j
  have hcs : cs[j]? = some (.int .i64 n) := by
   rw [← Array.getElem?_toList,hf,List.getElem?_map]
   have : ints[j]? = some n := hn
   rw [this]; rfl
  rw [hcs] at hcell
  refine ⟨.int .i64 n,?_,.int _ _⟩
  simp only [allImm]
  have e : W.cell? ⟨0,j,none⟩ = some (.int .i64 n) := by simpa using hcell
  simp [e,Value.oneCell']
 ·cases hg
noncomputable def laidWorld (os : Os) : World :=
 let w0 := World.holding Tryd.prog os ⟨#[],#[],[]⟩
 { w0 with heap := w0.heap.modify 0 fun
   | .cells _ t frozen => .cells (ints.map (Value.int .i64)).toArray t frozen
   | o => o }
theorem laid_met (os : Os) (args : Array Value) : laidMet Tryd.prog Rows.detMinimalRow.laid ((laidWorld os).forCall (fun _ _ => 0) ⟨#[],args,[]⟩).memory :=
 laidMet_of_run' 8 (by kernel_rfl) (by kernel_rfl)
theorem closedOk : closedTys Tryd.prog [43,40,41,125,38,3,23] = true := by kernel_rfl
theorem below_of {W W' : World} (h : Stands W W') : Below W.heap.size W W' := ⟨h.os,h.tape,h.output,h.size,h.heap⟩
section
variable {H : Type} {enc : TypeId × Value → H} {P : Program} {w : World} {base : Nat} {spare : Nat → Bool} {held : Bool}
theorem trodAll_n {t0 t1 t2 : TypeId} {args : Array Value} {ds : List (DataW H)} {ps : List MemPlace} (h : DataW.TrodAll enc P w base spare held [t0,t1,t2] args.toList ds ps) :
  ∃ v0 v1 v2 d0 d1 d2 p0 p1 p2,args = #[v0,v1,v2] ∧ ds = [d0,d1,d2] ∧ ps = p0 ++ p1 ++ p2 ∧ DataW.Trod enc P w base spare held t0 v0 d0 p0 ∧ DataW.Trod enc P w base spare held t1 v1 d1 p1 ∧ DataW.Trod enc P w base spare held t2 v2 d2 p2 := by
 obtain ⟨v0,vs0,d0,ds0,p0,q0,hargs,rfl,rfl,h0,r0⟩ := trodAll_cons h
 obtain ⟨v1,vs1,d1,ds1,p1,q1,rfl,rfl,rfl,h1,r1⟩ := trodAll_cons r0
 obtain ⟨v2,vs2,d2,ds2,p2,q2,rfl,rfl,rfl,h2,r2⟩ := trodAll_cons r1
 obtain ⟨rfl,rfl,rfl⟩ := trodAll_nil r2
 exact ⟨v0,v1,v2,d0,d1,d2,p0,p1,p2,by cases args; simp_all,rfl,by simp,h0,h1,h2⟩
theorem trodAll_mkn {t0 t1 t2 : TypeId} {v0 v1 v2 : Value} {d0 d1 d2 : DataW H} {p0 p1 p2 : List MemPlace} (h0 : DataW.Trod enc P w base spare held t0 v0 d0 p0) (h1 : DataW.Trod enc P w base spare held t1 v1 d1 p1) (h2 : DataW.Trod enc P w base spare held t2 v2 d2 p2) : DataW.TrodAll enc P w base spare held [t0,t1,t2] [v0,v1,v2] [d0,d1,d2] (p0 ++ (p1 ++ p2)) :=
 ⟨p0,_,h0,⟨p1,_,h1,trodAll_mk1 h2,rfl⟩,rfl⟩
end
set_option maxRecDepth 100000 in
theorem law_lifted (hlaw : ∀ a0 a1 a2,Arg Tryd.prog 43 a0 → Arg Tryd.prog 23 a1 → Arg Tryd.prog 23 a2 → Go.Ab.Loc Tryd.prog Gl 0 12 [a0,a1,a2] [] (.bool true) [])
  (os : Os) (started : os.Started) (H : Type) (enc : TypeId × Value → H) :
  ReturnsInHanded {} Tryd.checked os 12 .any (fun w args => (Rows.detMinimalSpec.pre enc Tryd.prog Tryd.f12 Rows.detMinimalRow.domain false w args ∧ laidMet Tryd.prog Rows.detMinimalRow.laid w) ∧ sizedMet enc Tryd.prog Tryd.f12 (OpenSpec.ofChange Rows.detMinimalSpec) false w args)
   (Rows.detMinimalSpec.post enc Tryd.prog Tryd.f12 false true false false) := by
 refine returnsInHanded_of_change_and (C := Tryd.checked) (X := fun w _ => laidMet Tryd.prog Rows.detMinimalRow.laid w) (fun _ _ _ hh h => h.of_heap hh) Tryd.own started (by kernel_rfl) Tryd.func12
  (ChangeSpec.witness_at (enc := enc) (C := Tryd.checked) (os := os) (X := fun w _ => laidMet Tryd.prog Rows.detMinimalRow.laid w) false (laidWorld os) #[.agg #[.int .i64 0,.int .i64 0,.slice none 0 0,.slice none 0 0],.slice none 0 0,.slice none 0 0] 8 rfl (by kernel_rfl) (by kernel_rfl) (by kernel_rfl) (by kernel_rfl) (by kernel_rfl) (laid_met os _)) ?_
 intro W base args ds gs before hval0 hW hcnd0 _ hL _
 have hval : ∀ (j : Nat) t v,Tryd.f12.params[j]? = some t → args[j]? = some v → Value.okWide Tryd.prog W .any base t v := hval0
 have hW' := hW
 obtain ⟨p,q,hA0,hV,rfl,hfz,hnd⟩ := hW
 have hA : DataW.TrodAll enc Tryd.prog W 0 (fun _ => true) true Tryd.f12.params.toList args.toList ds p := hA0
 rw [Tryd.params12] at hA hval
 obtain ⟨v0,v1,v2,d0,d1,d2,p0,p1,p2,rfl,rfl,rfl,h0,h1,h2⟩ := trodAll_n hA
 obtain ⟨rfl,rfl⟩ := trodVars_none hV
 obtain ⟨a0,t0,r0,n0⟩ := arg_rel closedOk (by simp) (hval 0 43 v0 rfl rfl) h0
 obtain ⟨a1,t1,r1,n1⟩ := arg_rel closedOk (by simp) (hval 1 23 v1 rfl rfl) h1
 obtain ⟨a2,t2,r2,n2⟩ := arg_rel closedOk (by simp) (hval 2 23 v2 rfl rfl) h2
 refine (law_calls (hlaw a0 a1 a2 t0 t1 t2) (W := W) (vs := #[v0,v1,v2]) rfl (fun i b v hb hv => ?_) (fun b hb => ?_) (glob_ok hL)).mono fun e W' ⟨he,hs⟩ => ?_
 ·match i,hb,hv with
  | 0,hb,hv => simp at hb hv; subst hb; subst hv; exact r0
  | 1,hb,hv => simp at hb hv; subst hb; subst hv; exact r1
  | 2,hb,hv => simp at hb hv; subst hb; subst hv; exact r2
  | n + 3,hb,hv => simp at hb
 ·simp at hb
  rcases hb with rfl | rfl | rfl <;> assumption
 subst he
 have hB := below_of hs
 simp only [List.append_nil] at hW'
 have hlt : ∀ x ∈ p0 ++ p1 ++ p2,x.block < W.heap.size := fun x hx => by
  have := hW'.lt x (by simpa using hx)
  simpa using this
 refine ⟨_,rfl,_,_,_,[],(p0 ++ (p1 ++ p2)),[],hW',?_,?_,rfl,hB.frame _,fun h => by cases h⟩
 ·exact trodAll_mk1 (shut_bool (by kernel_rfl) true)
 ·refine trodAll_mkn (Below.trod Tryd.laidOut (by kernel_rfl) (of_decide_eq_true (by kernel_rfl)) h0 hB fun x hx => hlt x (by simp [hx])) (Below.trod Tryd.laidOut (by kernel_rfl) (of_decide_eq_true (by kernel_rfl)) h1 hB fun x hx => hlt x (by simp [hx])) (Below.trod Tryd.laidOut (by kernel_rfl) (of_decide_eq_true (by kernel_rfl)) h2 hB fun x hx => hlt x (by simp [hx]))
theorem row_holds (hlaw : ∀ a0 a1 a2,Arg Tryd.prog 43 a0 → Arg Tryd.prog 23 a1 → Arg Tryd.prog 23 a2 → Go.Ab.Loc Tryd.prog Gl 0 12 [a0,a1,a2] [] (.bool true) []) : Rows.DetMinimalSaid :=
 OpenClaim.holds_of_wide 12 Tryd.f12 rfl rfl rfl rfl rfl rfl rfl ⟨rfl,rfl,rfl,rfl,rfl⟩ rfl rfl rfl rfl rfl (by kernel_rfl) Tryd.func12 (by kernel_rfl)
  (of_decide_eq_true (by kernel_rfl)) (by unfold Func.isWrapper; first | (rw [if_pos (by decide +kernel)]; kernel_rfl) | (rw [if_neg (by decide +kernel)]; exact ⟨rfl,rfl⟩))
  (fun os started H enc _ => law_lifted hlaw os started H enc)
theorem card_holds (hlaw : ∀ a0 a1 a2,Arg Tryd.prog 43 a0 → Arg Tryd.prog 23 a1 → Arg Tryd.prog 23 a2 → Go.Ab.Loc Tryd.prog Gl 0 12 [a0,a1,a2] [] (.bool true) []) : Rows.DetMinimalCardSaid :=
 Claim7.holds_tied_plain_at .later [] [.data] true (true,"083f600fa324912a3f64b4a9d9348dcca761660d41196ed62dae77b3effad808") false
  (row_holds hlaw) (fun _ h => by cases h) (by kernel_rfl) (fun _ h => by cases h) detMinimal_row_tie rfl ⟨rfl,rfl⟩ (by kernel_rfl) rfl
  (fun f fn hf hfn => by
   obtain rfl : f = 12 := Option.some.inj ((show Tryd.prog.funcNamed "ectype/ectypelaw15.DetMinimal" = some 12 by kernel_rfl).symm.trans hf) |>.symm
   obtain rfl : fn = Tryd.f12 := (Option.some.inj (Tryd.func12.symm.trans hfn)).symm
   exact ⟨by kernel_rfl,fun j t ht => by
    rw [Tryd.params12] at ht
    have h3 : t ∈ [23,43] := by
     match j,ht with
     | 0,ht => simp at ht; simp [← ht]
     | 1,ht => simp at ht; simp [← ht]
     | 2,ht => simp at ht; simp [← ht]
     | n + 3,ht => simp at ht
    have : ([23,43].all fun t => Tryd.prog.wantsStandIn t == false) = true := by kernel_rfl
    have := List.all_eq_true.1 this t h3
    have e : Tryd.prog.wantsStandIn t = false := by simpa using this
    exact e⟩)
  (by kernel_rfl)
theorem minimal : Rows.DetMinimalCardSaid := card_holds law12_arg
end Go.Proofs.YtpgdlniekkeikaaDoor
