/- Law 8 (DetLanguages). -/
import Derived.Test.YtpgdlniekkeikaaDoorLangI
import Derived.Test.YtpgdlniekkeikaaDoorLangB4
import Derived.Test.YtpgdlniekkeikaaDoorCards
import Derived.Test.YtpgdlniekkeikaaDoorTie
import Derived.LaidLaws
import Derived.Handed
import Derived.SevenTiedAt
namespace Go.Ab.Tab
open Go Go.Ab
set_option maxRecDepth 10000
set_option linter.unusedVariables false
set_option linter.unusedSimpArgs false
theorem acc_words {k : Nat} {ps : Aut} (hps : AuOk k ps) (u v : BS) : (∀ w : List Int,wordOk k w = true → endsB (paOf k ps).F (runB (paOf k ps) u w) = endsB (paOf k ps).F (runB (paOf k ps) v w)) ↔ ∀ w : List Nat,Acc (paOf k ps) u w ↔ Acc (paOf k ps) v w := by
 have hA := hps.a
 have key : ∀ (w : List Nat) (u : BS),endsB (paOf k ps).F (runB (paOf k ps) u (toZ w)) = true ↔ Acc (paOf k ps) u w := by
  intro w u
  rw [runB_wd,Acc_run hA]
  have : (toZ w).map Int.toNat = w := by unfold toZ; rw [List.map_map]; simp [Function.comp_def]
  rw [this]
 constructor
 ·intro h w
  by_cases hk : ∀ a ∈ w,a < k
  ·have := h (toZ w) (by unfold wordOk toZ; rw [List.all_map,List.all_eq_true]; intro a ha; have := hk a ha; simp; omega)
   rw [Bool.eq_iff_iff,key,key] at this
   exact this
  ·constructor
   ·rintro ⟨x,_,hx⟩; exact absurd (AccS_letters hA hx) hk
   ·rintro ⟨x,_,hx⟩; exact absurd (AccS_letters hA hx) hk
 ·intro h w hw
  have hz : w = toZ (w.map Int.toNat) := by
   unfold toZ
   rw [List.map_map]
   conv => lhs; rw [← List.map_id w]
   refine List.map_congr_left fun a ha => ?_
   unfold wordOk at hw
   have := List.all_eq_true.1 hw a ha
   simp at this ⊢
   omega
  rw [hz,Bool.eq_iff_iff,key,key]
  exact h _
theorem law8 (s : Sy) (hf : fitF s.f) (hl : s.m.length ≤ maxLen) (hv : ∀ v ∈ s.m,fitV v) (sets : List (List Int)) (hs : sets.length ≤ maxLen) (hsl : ∀ l ∈ sets,l.length ≤ maxLen) (word : List Int) (hword : word.length ≤ maxLen) :
  Go.Ab.Loc Pg Gl 0 8 [encY s,encLs sets,encI word] [] (.bool true) [] := by
 refine loc_rd mixedP tok rfl rfl fun S => ?_
 unfold c8
 have h23 := spec23 1 s hf hl hv [word] (by simp [maxLen]) (by intro l hl; simp at hl; rw [hl]; exact hword)
 have h23b := spec23 1 s hf hl hv sets hs hsl
 have h24 := spec24 1
 have hE := encY.eq_1 s
 rw [hE] at h23 h23b ⊢
 simp [encLs,encI_left]
 refine Rd_call h23 (by simp [encLs]) ?_
 cases hlook : lookedB s [word] with
 | false =>
  simp
  refine Rd_call h24 (by simp) ?_
  simp
 | true =>
 simp
 refine Rd_call h23b (by simp [encLs]) ?_
 cases hlook2 : lookedB s sets with
 | false =>
  simp
  refine Rd_call h24 (by simp) ?_
  simp
 | true =>
 simp
 by_cases h150 : (150 : Int) < sets.length
 ·simp [h150]
  refine Rd_call h24 (by simp) ?_
  simp
 simp [h150]
 by_cases h10 : (10 : Int) < s.m.length
 ·simp [h10]
  refine Rd_call h24 (by simp) ?_
  simp
 simp [h10]
 have hs1 : sets.length ≤ 1000 := by omega
 have hfew : fewY 8000 s = true := by unfold lookedB at hlook; rw [Bool.and_eq_true] at hlook; exact hlook.2
 unfold fewY at hfew
 simp only [Bool.and_eq_true,decide_eq_true_eq] at hfew
 have hbn : nodesVs s.m ≤ 2 ^ 32 := by have := fewL_sum (by omega) hfew.2.2; omega
 have h26 := spec26 1 s hf hl hv hbn sets hs hsl
 have h38 := spec38 1 s hf hl hv hbn [] word (by simp) hword
 rcases au_cases s hv hbn with hbad | ⟨k,ps,rfl,hG⟩
 ·have hne : (if isY s then (1 : Int) else 30) ≠ 0 := by split <;> decide
  rw [faultW_nil_bad hbad,allF_ne s sets _ hne,hE] at h26
  generalize (if isY s then (1 : Int) else 30) = c at h26 hne
  refine Rd_call h26 (by simp [encLs]) ?_
  simp [hne]
  refine Rd_call h24 (by simp) ?_
  simp
 rw [faultW_nil_ok hG.is (by rw [hG.letters]; have := hG.ok.kpos; omega),allF_valid _ hG.is (by rw [hG.letters]; have := hG.ok.kpos; omega),AuG.mlen,hE] at h26
 have hs0 : isSet ps.length [] = true := rfl
 rw [faultW_one hG,hs0,Bool.true_and,hE] at h38
 refine Rd_call h26 (by simp [encLs]) ?_
 cases hall : sets.all (isSet ps.length) with
 | false =>
  simp
  refine Rd_call h24 (by simp) ?_
  simp
 | true =>
 simp
 refine Rd_call h38 (by simp [encI]) ?_
 cases hwo : wordOk k word with
 | false =>
  simp
  refine Rd_call h24 (by simp) ?_
  simp
 | true =>
 simp
 have hsv := vss_of hG hsl hall
 obtain ⟨res,hres,hrok,h25⟩ := det_valid hG sets hs1 hsv
 have h28 := spec28 2 k ps hG.ok hG.rl sets hs1 hsv res hres hrok
 have h25 := h25 1
 rw [detOut] at h25
 unfold rDetR at h28
 by_cases h100 : res.1.length ≤ 100
 ·rw [if_pos h100,rDet,names_eq hrok.vs] at h25
  rw [if_pos h100] at h28
  obtain ⟨hD,hlen,hd⟩ := det_dok hres h100
  have hacc : ∀ (w : List Int) (i : Nat) (x : List Int),wordOk k w = true → res.1[i]? = some x → outD (rowsR ps res.1 res.2) (folD (rowsR ps res.1 res.2) i w) = endsB (paOf k ps).F (runB (paOf k ps) (toS x) w) := fun w i x => det_acc hG.ok hrok.vs hd w i x
  generalize rowsR ps res.1 res.2 = rs at *
  have h40 := spec40 1 k ps hG.ok hG.rl sets rs res.1 h28
  have hYd := isY_det hG.ok.kpos hG.ok.kle hD
  have hfit := sysD_fit k rs (by intro p hp; rw [(hD.row p hp).1]; have := hG.ok.kle; omega)
  have hnod := det_nodes hG.ok.kle hD
  have hml : (sysD k rs).m.length ≤ maxLen := by rw [sysD_m]; have := hD.len; unfold maxLen; omega
  have h39 := spec39 (sysD k rs) hfit.1 hml hfit.2 (show nodesVs (rs.map mkDet) ≤ 2 ^ 32 by omega) 1
  rw [hYd] at h39
  have h27 := spec27 1 _ hfit.1 hml hfit.2
  have hnodv : ∀ v ∈ (sysD k rs).m,nodesV v ≤ 2 ^ 30 := fun v hv => by have := nodesVs_le hv; have e : (sysD k rs).m = rs.map mkDet := rfl; rw [e] at this; omega
  have hn100 : (sysD k rs).m.length ≤ 100 := by rw [sysD_m]; exact hD.len
  have h43 := spec43 1 (sysD k rs) (by have := isF_typD hG.ok.kpos hG.ok.kle; unfold isF at this; simp only [Bool.and_eq_true] at this; exact this.2.2) hn100 hfit.2 hnodv (fun v hv => by
   obtain ⟨p,hp,rfl⟩ := List.mem_map.1 hv
   rw [sysD_m]
   exact norm_det (hD.row p hp).1 (hD.row p hp).2) rs.length (by have := hD.len; omega)
  have hrc := rounds_cls (sysD k rs) rs.length
  rw [hrc] at h43
  have hEd := encY.eq_1 (sysD k rs)
  have hmD : (sysD k rs).m.map encV = rs.map fun p => encV (mkDet p) := by show (rs.map mkDet).map encV = _; rw [List.map_map]; rfl
  have hk2 : (sysD k rs).f.k = 2 := rfl
  have hn2 : (sysD k rs).f.n = 0 := rfl
  rw [hmD,hk2,hn2] at hEd
  generalize (sysD k rs).f.gs.map encF = FL2 at hEd
  have hmA : (auY k ps).m.map encV = ps.map fun p => encV (mkAu p) := by show (ps.map mkAu).map encV = _; rw [List.map_map]; rfl
  have k1 : (auY k ps).f.k = 2 := rfl
  have k2 : (auY k ps).f.n = 0 := rfl
  rw [hmA,k1,k2] at hE
  rw [hmA,k1,k2]
  generalize (auY k ps).f.gs.map encF = FL at *
  rw [hE] at h25 h40
  rw [hEd] at h25 h39 h27 h40 h43
  refine Rd_call h25 (by simp [encLs]) ?_
  simp [encLs]
  refine Rd_drCall h39 (by simp) ?_
  simp [hlen]
  refine Rd_drCall h40 (by simp [encLs]) ?_
  simp
  refine Rd_drCall h27 (by simp) ?_
  simp
  have hac0 : ∀ i,i < res.1.length → outD rs (folD rs i word) = endsB (paOf k ps).F (runB (paOf k ps) (toS (res.1[i]?.getD [])) word) := by
   intro i hi
   rw [List.getElem?_eq_getElem hi,Option.getD_some]
   exact hacc word i _ hwo (List.getElem?_eq_getElem hi)
  refine l8_0 k ps hG res.1 hrok.vs h100 word hword hwo rs hD hlen hac0 FL FL2 hE hEd S _ _ ?_ res.1.length 0 _ _ (by omega) ?_ ?_ ?_ ?_ ?_ ?_ ?_ ?_ ?_
  case refine_1 =>
   intro τ1 ω1 a3 a7 a8 v3 v7
   simp [c8_k1,a7,v7]
   refine Rd_call h43 (by simp) ?_
   have hrl : rs.length ≤ 100 := hD.len
   have hw1 : IntKind.i64.wrap (rs.length : Int) = (rs.length : Int) := wrap_i64_nat (by omega)
   have hlast : ((List.range' 0 (rs.length + 1)).map fun x => encI (toZ (clsR (sysD k rs) x)))[rs.length]? = some (encI (toZ (clsR (sysD k rs) rs.length))) := by
    rw [List.getElem?_map,List.getElem?_range' (by omega)]
    simp
   simp [hw1,hlast,show (rs.length : Int) < (rs.length : Int) + 1 by omega,encI_left]
   have hcl : (toZ (clsR (sysD k rs) rs.length)).length = res.1.length := by rw [toZ_len,clsR_len,sysD_m,hlen]
   refine l8_1 k ps hG (by have : (auY k ps).m.length = ps.length := AuG.mlen; omega) res.1 hrok.vs h100 (toZ (clsR (sysD k rs) rs.length)) hcl ?_ FL hE h24 S 3 1 _ _ (by omega) (by omega) ?_ ?_ ?_ ?_ ?_
   case refine_1 =>
    intro i hi
    have h0 : 0 < res.1.length := by omega
    rw [List.getElem?_eq_getElem hi,List.getElem?_eq_getElem h0,Option.getD_some,Option.getD_some,← acc_words hG.ok]
    have hca := cls_all hD (i := i) (j := 0) (by omega) (by omega)
    have hz : (toZ (clsR (sysD k rs) rs.length))[i]? = (toZ (clsR (sysD k rs) rs.length))[0]? ↔ (clsR (sysD k rs) rs.length)[i]? = (clsR (sysD k rs) rs.length)[0]? := by
     unfold toZ
     rw [List.getElem?_map,List.getElem?_map]
     constructor
     ·intro e
      cases h1 : (clsR (sysD k rs) rs.length)[i]? <;> cases h2 : (clsR (sysD k rs) rs.length)[0]? <;> rw [h1,h2] at e <;> simp at e ⊢
      omega
     ·intro e; rw [e]
    rw [hz,hca]
    refine forall_congr' fun w => forall_congr' fun hw => ?_
    rw [hacc w i _ hw (List.getElem?_eq_getElem hi),hacc w 0 _ hw (List.getElem?_eq_getElem h0)]
   all_goals simp [a3,a8,v3]
  all_goals simp [encLs]
 ·rw [if_neg h100,rDet] at h25
  unfold zeroY at h25
  rw [hE] at h25
  refine Rd_call h25 (by simp [encLs]) ?_
  simp
  refine Rd_call h24 (by simp) ?_
  simp
theorem law8_arg : ∀ a0 a1 a2,Arg Pg 43 a0 → Arg Pg 44 a1 → Arg Pg 23 a2 → Go.Ab.Loc Pg Gl 0 8 [a0,a1,a2] [] (.bool true) [] := by
 intro a0 a1 a2 h0 h1 h2
 obtain ⟨s,rfl,hf,hl,hv⟩ := arg43 h0
 obtain ⟨ls,rfl,hll,hls⟩ := arg44 h1
 obtain ⟨w,rfl,hw⟩ := arg23 h2
 exact law8 s hf hl hv ls hll hls w hw
end Go.Ab.Tab
namespace Go.Proofs.YtpgdlniekkeikaaDoor
open Go.ChangeShapes Go.WideShapes Go.ChangeAt Go.RowKit Go.Ab Go.Ab.Tab
theorem Tryd.own : ownKnob Tryd.prog.godebug = none := by kernel_rfl
theorem Tryd.laidOut : laidOutB Tryd.prog = true := by kernel_rfl
theorem formsN : Tryd.prog.globalNamed "ectype/functor.forms" = some 0 := by kernel_rfl
theorem formsType : (Tryd.prog.globals[0]?).map (·.type) = some 205 := by kernel_rfl
def ints : List Int := [0,0,16,0,0,2,0,2,4,1,0,1,0,1,0,1]
theorem flatOk : flatTys Tryd.prog [205,204,3] = true := by kernel_rfl
theorem glob_ok {W : World} (h : laidMet Tryd.prog Rows.detLanguagesRow.laid W) : ∀ g cs,Gl g = some cs → ∀ (j : Nat) (c : AV),cs[j]? = some c → ∃ v,allImm W g j = some v ∧ RelI (allImm W) c v := by
 intro g cs hg j c hc
 unfold Gl at hg
 split at hg
 ·rename_i hg0; subst hg0
  injection hg with hg; subst hg
  obtain ⟨ps,⟨g,t,cs,fuel,p,q,hg,ht,hvar,hd,_,_⟩,_⟩ := h
  obtain rfl := Option.some.inj (formsN.symm.trans hg)
  obtain rfl := Option.some.inj (formsType.symm.trans ht)
  have hf := trod_flat flatOk fuel 5 205 cs.toList (ints.map (Value.int .i64)) _ (by simp) hd rfl
  unfold forms at hc
  rw [List.getElem?_map,Option.map_eq_some_iff] at hc
  obtain ⟨n,hn,rfl⟩ := hc
  have hcell := World.var?_cell hg hvar j
  have hcs : cs[j]? = some (.int .i64 n) := by
   rw [← Array.getElem?_toList,hf,List.getElem?_map]
   have : ints[j]? = some n := hn
   rw [this]; rfl
  rw [hcs] at hcell
  refine ⟨.int .i64 n,?_,.int _ _⟩
  simp only [allImm]
  have e : W.cell? ⟨0,j,none⟩ = some (.int .i64 n) := by simpa using hcell
  simp [e,Value.oneCell']
 ·cases hg
noncomputable def laidWorld (os : Os) : World :=
 let w0 := World.holding Tryd.prog os ⟨#[],#[],[]⟩
 { w0 with heap := w0.heap.modify 0 fun
   | .cells _ t frozen => .cells (ints.map (Value.int .i64)).toArray t frozen
   | o => o }
theorem laid_met (os : Os) (args : Array Value) : laidMet Tryd.prog Rows.detLanguagesRow.laid ((laidWorld os).forCall (fun _ _ => 0) ⟨#[],args,[]⟩).memory :=
 laidMet_of_run' 8 (by kernel_rfl) (by kernel_rfl)
theorem closedOk : closedTys Tryd.prog [43,40,41,125,38,3,23,44] = true := by kernel_rfl
theorem below_of {W W' : World} (h : Stands W W') : Below W.heap.size W W' := ⟨h.os,h.tape,h.output,h.size,h.heap⟩
section
variable {H : Type} {enc : TypeId × Value → H} {P : Program} {w : World} {base : Nat} {spare : Nat → Bool} {held : Bool}
theorem trodAll_n {t0 t1 t2 : TypeId} {args : Array Value} {ds : List (DataW H)} {ps : List MemPlace} (h : DataW.TrodAll enc P w base spare held [t0,t1,t2] args.toList ds ps) :
  ∃ v0 v1 v2 d0 d1 d2 p0 p1 p2,args = #[v0,v1,v2] ∧ ds = [d0,d1,d2] ∧ ps = p0 ++ p1 ++ p2 ∧ DataW.Trod enc P w base spare held t0 v0 d0 p0 ∧ DataW.Trod enc P w base spare held t1 v1 d1 p1 ∧ DataW.Trod enc P w base spare held t2 v2 d2 p2 := by
 obtain ⟨v0,vs0,d0,ds0,p0,q0,hargs,rfl,rfl,h0,r0⟩ := trodAll_cons h
 obtain ⟨v1,vs1,d1,ds1,p1,q1,rfl,rfl,rfl,h1,r1⟩ := trodAll_cons r0
 obtain ⟨v2,vs2,d2,ds2,p2,q2,rfl,rfl,rfl,h2,r2⟩ := trodAll_cons r1
 obtain ⟨rfl,rfl,rfl⟩ := trodAll_nil r2
 exact ⟨v0,v1,v2,d0,d1,d2,p0,p1,p2,by cases args; simp_all,rfl,by simp,h0,h1,h2⟩
theorem trodAll_mkn {t0 t1 t2 : TypeId} {v0 v1 v2 : Value} {d0 d1 d2 : DataW H} {p0 p1 p2 : List MemPlace} (h0 : DataW.Trod enc P w base spare held t0 v0 d0 p0) (h1 : DataW.Trod enc P w base spare held t1 v1 d1 p1) (h2 : DataW.Trod enc P w base spare held t2 v2 d2 p2) : DataW.TrodAll enc P w base spare held [t0,t1,t2] [v0,v1,v2] [d0,d1,d2] (p0 ++ (p1 ++ p2)) :=
 ⟨p0,_,h0,⟨p1,_,h1,trodAll_mk1 h2,rfl⟩,rfl⟩
end
set_option maxRecDepth 100000 in
theorem law_lifted (hlaw : ∀ a0 a1 a2,Arg Tryd.prog 43 a0 → Arg Tryd.prog 44 a1 → Arg Tryd.prog 23 a2 → Go.Ab.Loc Tryd.prog Gl 0 8 [a0,a1,a2] [] (.bool true) [])
  (os : Os) (started : os.Started) (H : Type) (enc : TypeId × Value → H) :
  ReturnsInHanded {} Tryd.checked os 8 .any (fun w args => (Rows.detLanguagesSpec.pre enc Tryd.prog Tryd.f8 Rows.detLanguagesRow.domain false w args ∧ laidMet Tryd.prog Rows.detLanguagesRow.laid w) ∧ sizedMet enc Tryd.prog Tryd.f8 (OpenSpec.ofChange Rows.detLanguagesSpec) false w args)
   (Rows.detLanguagesSpec.post enc Tryd.prog Tryd.f8 false true false false) := by
 refine returnsInHanded_of_change_and (C := Tryd.checked) (X := fun w _ => laidMet Tryd.prog Rows.detLanguagesRow.laid w) (fun _ _ _ hh h => h.of_heap hh) Tryd.own started (by kernel_rfl) Tryd.func8
  (ChangeSpec.witness_at (enc := enc) (C := Tryd.checked) (os := os) (X := fun w _ => laidMet Tryd.prog Rows.detLanguagesRow.laid w) false (laidWorld os) #[.agg #[.int .i64 0,.int .i64 0,.slice none 0 0,.slice none 0 0],.slice none 0 0,.slice none 0 0] 8 rfl (by kernel_rfl) (by kernel_rfl) (by kernel_rfl) (by kernel_rfl) (by kernel_rfl) (laid_met os _)) ?_
 intro W base args ds gs before hval0 hW hcnd0 _ hL _
 have hval : ∀ (j : Nat) t v,Tryd.f8.params[j]? = some t → args[j]? = some v → Value.okWide Tryd.prog W .any base t v := hval0
 have hW' := hW
 obtain ⟨p,q,hA0,hV,rfl,hfz,hnd⟩ := hW
 have hA : DataW.TrodAll enc Tryd.prog W 0 (fun _ => true) true Tryd.f8.params.toList args.toList ds p := hA0
 rw [Tryd.params8] at hA hval
 obtain ⟨v0,v1,v2,d0,d1,d2,p0,p1,p2,rfl,rfl,rfl,h0,h1,h2⟩ := trodAll_n hA
 obtain ⟨rfl,rfl⟩ := trodVars_none hV
 obtain ⟨a0,t0,r0,n0⟩ := arg_rel closedOk (by simp) (hval 0 43 v0 rfl rfl) h0
 obtain ⟨a1,t1,r1,n1⟩ := arg_rel closedOk (by simp) (hval 1 44 v1 rfl rfl) h1
 obtain ⟨a2,t2,r2,n2⟩ := arg_rel closedOk (by simp) (hval 2 23 v2 rfl rfl) h2
 refine (law_calls (hlaw a0 a1 a2 t0 t1 t2) (W := W) (vs := #[v0,v1,v2]) rfl (fun i b v hb hv => ?_) (fun b hb => ?_) (glob_ok hL)).mono fun e W' ⟨he,hs⟩ => ?_
 ·match i,hb,hv with
  | 0,hb,hv => simp at hb hv; subst hb; subst hv; exact r0
  | 1,hb,hv => simp at hb hv; subst hb; subst hv; exact r1
  | 2,hb,hv => simp at hb hv; subst hb; subst hv; exact r2
  | n + 3,hb,hv => simp at hb
 ·simp at hb
  rcases hb with rfl | rfl | rfl <;> assumption
 subst he
 have hB := below_of hs
 simp only [List.append_nil] at hW'
 have hlt : ∀ x ∈ p0 ++ p1 ++ p2,x.block < W.heap.size := fun x hx => by
  have := hW'.lt x (by simpa using hx)
  simpa using this
 refine ⟨_,rfl,_,_,_,[],(p0 ++ (p1 ++ p2)),[],hW',?_,?_,rfl,hB.frame _,fun h => by cases h⟩
 ·exact trodAll_mk1 (shut_bool (by kernel_rfl) true)
 ·refine trodAll_mkn (Below.trod Tryd.laidOut (by kernel_rfl) (of_decide_eq_true (by kernel_rfl)) h0 hB fun x hx => hlt x (by simp [hx])) (Below.trod Tryd.laidOut (by kernel_rfl) (of_decide_eq_true (by kernel_rfl)) h1 hB fun x hx => hlt x (by simp [hx])) (Below.trod Tryd.laidOut (by kernel_rfl) (of_decide_eq_true (by kernel_rfl)) h2 hB fun x hx => hlt x (by simp [hx]))
theorem row_holds (hlaw : ∀ a0 a1 a2,Arg Tryd.prog 43 a0 → Arg Tryd.prog 44 a1 → Arg Tryd.prog 23 a2 → Go.Ab.Loc Tryd.prog Gl 0 8 [a0,a1,a2] [] (.bool true) []) : Rows.DetLanguagesSaid :=
 OpenClaim.holds_of_wide 8 Tryd.f8 rfl rfl rfl rfl rfl rfl rfl ⟨rfl,rfl,rfl,rfl,rfl⟩ rfl rfl rfl rfl rfl (by kernel_rfl) Tryd.func8 (by kernel_rfl)
  (of_decide_eq_true (by kernel_rfl)) (by unfold Func.isWrapper; first | (rw [if_pos (by decide +kernel)]; kernel_rfl) | (rw [if_neg (by decide +kernel)]; exact ⟨rfl,rfl⟩))
  (fun os started H enc _ => law_lifted hlaw os started H enc)
theorem card_holds (hlaw : ∀ a0 a1 a2,Arg Tryd.prog 43 a0 → Arg Tryd.prog 44 a1 → Arg Tryd.prog 23 a2 → Go.Ab.Loc Tryd.prog Gl 0 8 [a0,a1,a2] [] (.bool true) []) : Rows.DetLanguagesCardSaid :=
 Claim7.holds_tied_plain_at .later [] [.data] true (true,"083f600fa324912a3f64b4a9d9348dcca761660d41196ed62dae77b3effad808") false
  (row_holds hlaw) (fun _ h => by cases h) (by kernel_rfl) (fun _ h => by cases h) detLanguages_row_tie rfl ⟨rfl,rfl⟩ (by kernel_rfl) rfl
  (fun f fn hf hfn => by
   obtain rfl : f = 8 := Option.some.inj ((show Tryd.prog.funcNamed "ectype/ectypelaw15.DetLanguages" = some 8 by kernel_rfl).symm.trans hf) |>.symm
   obtain rfl : fn = Tryd.f8 := (Option.some.inj (Tryd.func8.symm.trans hfn)).symm
   exact ⟨by kernel_rfl,fun j t ht => by
    rw [Tryd.params8] at ht
    have h3 : t ∈ [23,43,44] := by
     match j,ht with
     | 0,ht => simp at ht; simp [← ht]
     | 1,ht => simp at ht; simp [← ht]
     | 2,ht => simp at ht; simp [← ht]
     | n + 3,ht => simp at ht
    have : ([23,43,44].all fun t => Tryd.prog.wantsStandIn t == false) = true := by kernel_rfl
    have := List.all_eq_true.1 this t h3
    have e : Tryd.prog.wantsStandIn t = false := by simpa using this
    exact e⟩)
  (by kernel_rfl)
theorem languages : Rows.DetLanguagesCardSaid := card_holds law8_arg
end Go.Proofs.YtpgdlniekkeikaaDoor
