/- Law 11 (DetReverses). -/
import Derived.Test.YtpgdlniekkeikaaDoorReversesI
import Derived.Test.YtpgdlniekkeikaaDoorReversesH
import Derived.Test.YtpgdlniekkeikaaDoorReversesB4
import Derived.Test.YtpgdlniekkeikaaDoorCards
import Derived.Test.YtpgdlniekkeikaaDoorTie
import Derived.LaidLaws
import Derived.Handed
import Derived.SevenTiedAt
namespace Go.Ab.Tab
open Go Go.Ab
set_option maxRecDepth 10000
set_option linter.unusedVariables false
set_option linter.unusedSimpArgs false
theorem F_list {k : Nat} {ps : Aut} (h : AuOk k ps) : AV.sl 1 ((paOf k ps).F.list.map encN) .no = encI (lN ps.length (paOf k ps).F) := by
 have e := toS_lN h.len (F_full h)
 have e2 := list_toS (lN_vs h.len (paOf k ps).F)
 rw [e] at e2
 rw [← e2,encI,List.map_map]
 rfl
theorem l11 (word : List Int) (hlen : word.length ≤ 300) (Q : St → Prop) (K : List AI) (S) (τ0 : Nat → AV) (ω0 : Nat → Ent) (h3 : τ0 3 = encI word) (h102 : τ0 102 = .int .i64 word.length) : ∀ (m i : Nat) (τ ω),i + m = word.length → (∀ x,x < 103 → x ≠ 16 → x ≠ 17 → τ x = τ0 x) → τ 103 = .int .i64 i → (∃ tp,(tp = .tip ∨ tp = .nil) ∧ τ 16 = .sl 1 ((word.reverse.take i).map (AV.int .i64)) tp) → (∀ j,ω j = ω0 j) →
  (∀ τ' ω',(∀ x,x < 103 → x ≠ 16 → x ≠ 17 → τ' x = τ0 x) → (∃ tp,τ' 16 = .sl 1 (word.reverse.map (AV.int .i64)) tp) → (∀ j,ω' j = ω0 j) → Rd (Loc Pg Gl) .im Q K (stF 146 0 τ' ω' S)) →
  Rd (Loc Pg Gl) .im Q (.lp c11_l0 :: .blk 0 :: K) (stF 146 0 τ ω S) := by
 intro m
 induction m with
 | zero =>
  intro i τ ω hi hτ h103 h16 hω hend
  refine Rd_lpE c11_l0.eq_1 ?_
  obtain rfl : i = word.length := by omega
  have a102 := (hτ 102 (by decide) (by decide) (by decide)).trans h102
  obtain ⟨tp,_,h16⟩ := h16
  rw [show word.reverse.take word.length = word.reverse by rw [List.take_of_length_le (by simp)]] at h16
  simp [a102,h103]
  refine hend _ _ (fun x q1 q2 q3 => ?_) ⟨tp,by simp [h16]⟩ hω
  rw [← hτ x q1 q2 q3]; simp only [upd]; repeat rw [if_neg (by omega)]
 | succ m ih =>
  intro i τ ω hi hτ h103 h16 hω hend
  refine Rd_lpE c11_l0.eq_1 ?_
  have hlt : i < word.length := by omega
  have hwr : IntKind.i64.wrap ((i : Int) + 1) = ((i + 1 : Nat) : Int) := by rw [← wrap_i64_nat (n := i + 1) (by omega)]; rfl
  have hw1 : IntKind.i64.wrap ((word.length : Int) - 1) = ((word.length - 1 : Nat) : Int) := by
   rw [show (word.length : Int) - 1 = ((word.length - 1 : Nat) : Int) by omega]; exact wrap_i64_nat (by omega)
  have hw2 : IntKind.i64.wrap (((word.length - 1 : Nat) : Int) - i) = ((word.length - 1 - i : Nat) : Int) := by
   rw [show (((word.length - 1 : Nat) : Int) - i) = ((word.length - 1 - i : Nat) : Int) by omega]; exact wrap_i64_nat (by omega)
  have a102 := (hτ 102 (by decide) (by decide) (by decide)).trans h102
  have a3 := (hτ 3 (by decide) (by decide) (by decide)).trans h3
  obtain ⟨tp,htp,h16⟩ := h16
  have hl2 : word.length - 1 - i < word.length := by omega
  obtain ⟨x,hx⟩ : ∃ x,word[word.length - 1 - i] = x := ⟨_,rfl⟩
  have htk : word.reverse.take (i + 1) = word.reverse.take i ++ [x] := by
   rw [List.take_succ_eq_append_getElem (by simpa using hlt),List.getElem_reverse,hx]
  have hle : (min i word.length + 1) * 8 ≤ 1099511627776 := by omega
  rcases htp with rfl | rfl
  all_goals
   simp [a102,h103,a3,h16,encI,hlt,hw1,hw2,hl2,hx,hle,hwr]
   refine ih (i + 1) _ _ (by omega) (fun x q1 q2 q3 => ?_) ?_ ⟨.tip,.inl rfl,?_⟩ hω hend
   ·rw [← hτ x q1 q2 q3]; simp only [upd]; repeat rw [if_neg (by omega)]
   ·simp
   ·simp [htk]
theorem faultW_one {k : Nat} {ps : Aut} (hG : AuG k ps) (l w : List Int) : faultW (auY k ps) l w = if isSet ps.length l && wordOk k w then 0 else 1 := faultW_ok hG l w
theorem law11 (s : Sy) (hf : fitF s.f) (hl : s.m.length ≤ maxLen) (hv : ∀ v ∈ s.m,fitV v) (set from_ word : List Int) (hset : set.length ≤ maxLen) (hfrom : from_.length ≤ maxLen) (hword : word.length ≤ maxLen) :
  Go.Ab.Loc Pg Gl 0 11 [encY s,encI set,encI from_,encI word] [] (.bool true) [] := by
 refine loc_rd mixedP tok rfl rfl fun S => ?_
 unfold c11
 have h23 := spec23 1 s hf hl hv [set,from_,word] (by simp [maxLen]) (by intro l hl; simp at hl; rcases hl with rfl | rfl | rfl <;> assumption)
 have h24 := spec24 1
 have hE := encY.eq_1 s
 have h27z := spec27z 1
 unfold zeroY at h27z
 cases hlook : lookedB s [set,from_,word] with
 | false =>
  rw [hE,hlook] at h23
  rw [hE]
  simp
  refine Rd_call h23 (by simp [encLs]) ?_
  simp
  refine Rd_call h24 (by simp) ?_
  simp
 | true =>
 have hfew : fewY 8000 s = true := by unfold lookedB at hlook; rw [Bool.and_eq_true] at hlook; exact hlook.2
 have h300 : word.length ≤ 300 := by unfold lookedB at hlook; simp at hlook; exact hlook.1.2.2
 unfold fewY at hfew
 simp only [Bool.and_eq_true,decide_eq_true_eq] at hfew
 have hbn : nodesVs s.m ≤ 2 ^ 32 := by have := fewL_sum (by omega) hfew.2.2; omega
 have h38 := spec38 1 s hf hl hv hbn from_ [] hfrom (by simp)
 have h38b := spec38 1 s hf hl hv hbn [] word (by simp) hword
 rw [hlook] at h23
 rcases au_cases s hv hbn with hbad | ⟨k,ps,rfl,hG⟩
 ·have h53 := spec53_bad 1 s hf hl hv hbn hbad from_
  have hne : (if isY s then (1 : Int) else 30) ≠ 0 := by split <;> decide
  rw [faultW_bad hbad] at h38
  generalize (if isY s then (1 : Int) else 30) = c at h53 h38 hne
  unfold errDet zeroY at h53
  rw [hE] at h23 h53 h38 ⊢
  simp
  refine Rd_call h23 (by simp [encLs]) ?_
  simp
  refine Rd_call h53 (by simp) ?_
  simp
  refine Rd_call h38 (by simp [encI]) ?_
  simp [hne]
  refine Rd_call h27z (by simp) ?_
  simp
  refine Rd_call h24 (by simp) ?_
  simp
 ·have hw0 : wordOk k [] = true := rfl
  rw [faultW_one hG,hw0,Bool.and_true] at h38
  have hs0 : isSet ps.length [] = true := rfl
  rw [faultW_one hG,hs0,Bool.true_and] at h38b
  have hfit := au_fit (revA_ok hG.ok from_) (revA_rl hG.ok from_)
  have hnod := au_nodes (revA_ok hG.ok from_) (revA_rl hG.ok from_)
  have hrlen : (revA k ps from_).length ≤ maxLen := by rw [revA_len]; have := hG.ok.len; unfold maxLen; omega
  have h53 := spec53_ok 1 k ps hG.ok hG.rl hG.is hG.fit hG.nodes (paOf_rl k ps) hG.w from_ hfrom (revA k ps from_) rfl hf hrlen hfit hnod
  cases hi : isSet ps.length from_ with
  | false =>
   rw [hi] at h53 h38
   simp only [Bool.false_eq_true,if_false] at h53 h38
   unfold errDet zeroY at h53
   rw [hE] at h23 h53 h38 ⊢
   simp
   refine Rd_call h23 (by simp [encLs]) ?_
   simp
   refine Rd_call h53 (by simp) ?_
   simp
   refine Rd_call h38 (by simp [encI]) ?_
   simp
   refine Rd_call h27z (by simp) ?_
   simp
   refine Rd_call h24 (by simp) ?_
   simp
  | true =>
   rw [hi,if_pos rfl] at h53 h38
   have vl : VS ps.length from_ := ⟨hi,hfrom,hG.ok.len⟩
   have h54 := spec54 1 k ps hG.ok hG.rl hf from_ vl (revA k ps from_) rfl hrlen hfit hnod
   cases hyr : isY (auY k (revA k ps from_)) with
   | false =>
    rw [hyr] at h54
    rw [rRev,hyr,if_neg (by simp)] at h53
    unfold errDet zeroY at h53
    rw [hE] at h23 h53 h38 h54 ⊢
    rw [encY.eq_1 (auY k (revA k ps from_))] at h54
    simp
    refine Rd_call h23 (by simp [encLs]) ?_
    simp
    refine Rd_call h53 (by simp) ?_
    simp
    refine Rd_call h38 (by simp [encI]) ?_
    simp
    refine Rd_call h54 (by simp) ?_
    simp [encI_left]
    refine Rd_call h27z (by simp) ?_
    simp
    refine Rd_call h24 (by simp) ?_
    simp
   | true =>
    rw [hyr] at h54
    rw [rRev,hyr,if_pos rfl,F_list hG.ok] at h53
    have hGR := revA_g hG.ok from_ hyr
    have h27 := spec27 1 (auY k (revA k ps from_)) hf (by simpa [auY] using hrlen) hfit
    have hll := lN_len ps.length (paOf k ps).F
    have hl100 := hG.ok.len
    have h19 := spec19 1 (lN ps.length (paOf k ps).F) (lN ps.length (paOf k ps).F) (by unfold maxLen; omega)
    have h41 := spec41_ok 1 k ps hG.ok hG.rl hG.is hG.fit hG.nodes (paOf_rl k ps) hG.w from_ word hfrom hword
    have h41r := spec41_ok 1 k (revA k ps from_) hGR.ok hGR.rl hGR.is hGR.fit hGR.nodes (paOf_rl k _) hGR.w (lN ps.length (paOf k ps).F) word.reverse (by unfold maxLen; omega) (by rw [List.length_reverse]; exact hword)
    rw [hi,Bool.true_and] at h41
    rw [revA_len,lN_is,Bool.true_and,rev_acc hG.ok vl] at h41r
    generalize endsB (paOf k ps).F (runB (paOf k ps) (toS from_) word) = b at h41 h41r
    generalize lN ps.length (paOf k ps).F = fl at *
    rw [hE] at h23 h53 h38 h38b h54 h41 ⊢
    rw [encY.eq_1 (auY k (revA k ps from_))] at h53 h54 h27 h41r
    simp
    refine Rd_call h23 (by simp [encLs]) ?_
    simp
    refine Rd_call h53 (by simp) ?_
    simp [encI_left]
    refine Rd_call h38 (by simp [encI]) ?_
    simp
    refine Rd_call h54 (by simp) ?_
    simp [encI_left]
    refine Rd_call h27 (by simp) ?_
    simp
    refine Rd_call h19 (by rfl) ?_
    simp
    refine Rd_call h38b (by simp [encI_left,encI]) ?_
    cases hwo : wordOk k word with
    | false =>
     simp
     refine Rd_call h24 (by simp) ?_
     simp
    | true =>
     rw [hwo,if_pos rfl] at h41
     have hwr : wordOk k word.reverse = true := by
      unfold wordOk at hwo ⊢
      rw [List.all_reverse]; exact hwo
     rw [hwr,if_pos rfl] at h41r
     simp [encI]
     refine l11 word h300 _ _ S _ _ ?_ ?_ word.length 0 _ _ (by omega) (fun x _ _ _ => rfl) ?_ ⟨.tip,.inl rfl,?_⟩ (fun j => rfl) ?_
     case refine_5 =>
      intro τ1 ω1 hτ1 h16 hω1
      obtain ⟨tp,h16⟩ := h16
      have a2 : τ1 2 = encI from_ := by rw [hτ1 2 (by decide) (by decide) (by decide)]; simp [encI]
      have a3 : τ1 3 = encI word := by rw [hτ1 3 (by decide) (by decide) (by decide)]; simp [encI]
      have a4 : τ1 4 = .ptr 0 4 1 0 := by rw [hτ1 4 (by decide) (by decide) (by decide)]; simp
      have a9 : τ1 9 = .ptr 0 9 1 0 := by rw [hτ1 9 (by decide) (by decide) (by decide)]; simp
      have a10 : τ1 10 = encI fl := by rw [hτ1 10 (by decide) (by decide) (by decide)]; simp [encI]
      have v4 := hω1 4
      have v9 := hω1 9
      simp at v4 v9
      unfold c11_k0
      simp [a4,v4,a2,a3]
      refine Rd_call h41 (by simp) ?_
      simp [a9,v9,a10,h16]
      refine Rd_call h41r (by cases tp <;> simp [encI]) ?_
      simp
      refine Rd_call h24 (by simp) ?_
      simp
     all_goals simp [encI]
theorem law11_arg : ∀ a0 a1 a2 a3,Arg Pg 43 a0 → Arg Pg 23 a1 → Arg Pg 23 a2 → Arg Pg 23 a3 → Go.Ab.Loc Pg Gl 0 11 [a0,a1,a2,a3] [] (.bool true) [] := by
 intro a0 a1 a2 a3 h0 h1 h2 h3
 obtain ⟨s,rfl,hf,hl,hv⟩ := arg43 h0
 obtain ⟨x,rfl,hx⟩ := arg23 h1
 obtain ⟨y,rfl,hy⟩ := arg23 h2
 obtain ⟨z,rfl,hz⟩ := arg23 h3
 exact law11 s hf hl hv x y z hx hy hz
end Go.Ab.Tab
namespace Go.Proofs.YtpgdlniekkeikaaDoor
open Go.ChangeShapes Go.WideShapes Go.ChangeAt Go.RowKit Go.Ab Go.Ab.Tab
theorem Tryd.own : ownKnob Tryd.prog.godebug = none := by kernel_rfl
theorem Tryd.laidOut : laidOutB Tryd.prog = true := by kernel_rfl
theorem formsN : Tryd.prog.globalNamed "ectype/functor.forms" = some 0 := by kernel_rfl
theorem formsType : (Tryd.prog.globals[0]?).map (·.type) = some 205 := by kernel_rfl
def ints : List Int := [0,0,16,0,0,2,0,2,4,1,0,1,0,1,0,1]
theorem flatOk : flatTys Tryd.prog [205,204,3] = true := by kernel_rfl
theorem glob_ok {W : World} (h : laidMet Tryd.prog Rows.detReversesRow.laid W) : ∀ g cs,Gl g = some cs → ∀ (j : Nat) (c : AV),cs[j]? = some c → ∃ v,allImm W g j = some v ∧ RelI (allImm W) c v := by
 intro g cs hg j c hc
 unfold Gl at hg
 split at hg
 ·rename_i hg0; subst hg0
  injection hg with hg; subst hg
  obtain ⟨ps,⟨g,t,cs,fuel,p,q,hg,ht,hvar,hd,_,_⟩,_⟩ := h
  obtain rfl := Option.some.inj (formsN.symm.trans hg)
  obtain rfl := Option.some.inj (formsType.symm.trans ht)
  have hf := trod_flat flatOk fuel 5 205 cs.toList (ints.map (Value.int .i64)) _ (by simp) hd rfl
  unfold forms at hc
  rw [List.getElem?_map,Option.map_eq_some_iff] at hc
  obtain ⟨n,hn,rfl⟩ := hc
  have hcell := World.var?_cell hg hvar j
  have hcs : cs[j]? = some (.int .i64 n) := by
   rw [← Array.getElem?_toList,hf,List.getElem?_map]
   have : ints[j]? = some n := hn
   rw [this]; rfl
  rw [hcs] at hcell
  refine ⟨.int .i64 n,?_,.int _ _⟩
  simp only [allImm]
  have e : W.cell? ⟨0,j,none⟩ = some (.int .i64 n) := by simpa using hcell
  simp [e,Value.oneCell']
 ·cases hg
noncomputable def laidWorld (os : Os) : World :=
 let w0 := World.holding Tryd.prog os ⟨#[],#[],[]⟩
 { w0 with heap := w0.heap.modify 0 fun
   | .cells _ t frozen => .cells (ints.map (Value.int .i64)).toArray t frozen
   | o => o }
theorem laid_met (os : Os) (args : Array Value) : laidMet Tryd.prog Rows.detReversesRow.laid ((laidWorld os).forCall (fun _ _ => 0) ⟨#[],args,[]⟩).memory :=
 laidMet_of_run' 8 (by kernel_rfl) (by kernel_rfl)
theorem closedOk : closedTys Tryd.prog [43,40,41,125,38,3,23] = true := by kernel_rfl
theorem below_of {W W' : World} (h : Stands W W') : Below W.heap.size W W' := ⟨h.os,h.tape,h.output,h.size,h.heap⟩
section
variable {H : Type} {enc : TypeId × Value → H} {P : Program} {w : World} {base : Nat} {spare : Nat → Bool} {held : Bool}
theorem trodAll_n {t0 t1 t2 t3 : TypeId} {args : Array Value} {ds : List (DataW H)} {ps : List MemPlace} (h : DataW.TrodAll enc P w base spare held [t0,t1,t2,t3] args.toList ds ps) :
  ∃ v0 v1 v2 v3 d0 d1 d2 d3 p0 p1 p2 p3,args = #[v0,v1,v2,v3] ∧ ds = [d0,d1,d2,d3] ∧ ps = p0 ++ p1 ++ p2 ++ p3 ∧ DataW.Trod enc P w base spare held t0 v0 d0 p0 ∧ DataW.Trod enc P w base spare held t1 v1 d1 p1 ∧ DataW.Trod enc P w base spare held t2 v2 d2 p2 ∧ DataW.Trod enc P w base spare held t3 v3 d3 p3 := by
 obtain ⟨v0,vs0,d0,ds0,p0,q0,hargs,rfl,rfl,h0,r0⟩ := trodAll_cons h
 obtain ⟨v1,vs1,d1,ds1,p1,q1,rfl,rfl,rfl,h1,r1⟩ := trodAll_cons r0
 obtain ⟨v2,vs2,d2,ds2,p2,q2,rfl,rfl,rfl,h2,r2⟩ := trodAll_cons r1
 obtain ⟨v3,vs3,d3,ds3,p3,q3,rfl,rfl,rfl,h3,r3⟩ := trodAll_cons r2
 obtain ⟨rfl,rfl,rfl⟩ := trodAll_nil r3
 exact ⟨v0,v1,v2,v3,d0,d1,d2,d3,p0,p1,p2,p3,by cases args; simp_all,rfl,by simp,h0,h1,h2,h3⟩
theorem trodAll_mkn {t0 t1 t2 t3 : TypeId} {v0 v1 v2 v3 : Value} {d0 d1 d2 d3 : DataW H} {p0 p1 p2 p3 : List MemPlace} (h0 : DataW.Trod enc P w base spare held t0 v0 d0 p0) (h1 : DataW.Trod enc P w base spare held t1 v1 d1 p1) (h2 : DataW.Trod enc P w base spare held t2 v2 d2 p2) (h3 : DataW.Trod enc P w base spare held t3 v3 d3 p3) : DataW.TrodAll enc P w base spare held [t0,t1,t2,t3] [v0,v1,v2,v3] [d0,d1,d2,d3] (p0 ++ (p1 ++ (p2 ++ p3))) :=
 ⟨p0,_,h0,⟨p1,_,h1,⟨p2,_,h2,trodAll_mk1 h3,rfl⟩,rfl⟩,rfl⟩
end
set_option maxRecDepth 100000 in
theorem law_lifted (hlaw : ∀ a0 a1 a2 a3,Arg Tryd.prog 43 a0 → Arg Tryd.prog 23 a1 → Arg Tryd.prog 23 a2 → Arg Tryd.prog 23 a3 → Go.Ab.Loc Tryd.prog Gl 0 11 [a0,a1,a2,a3] [] (.bool true) [])
  (os : Os) (started : os.Started) (H : Type) (enc : TypeId × Value → H) :
  ReturnsInHanded {} Tryd.checked os 11 .any (fun w args => (Rows.detReversesSpec.pre enc Tryd.prog Tryd.f11 Rows.detReversesRow.domain false w args ∧ laidMet Tryd.prog Rows.detReversesRow.laid w) ∧ sizedMet enc Tryd.prog Tryd.f11 (OpenSpec.ofChange Rows.detReversesSpec) false w args)
   (Rows.detReversesSpec.post enc Tryd.prog Tryd.f11 false true false false) := by
 refine returnsInHanded_of_change_and (C := Tryd.checked) (X := fun w _ => laidMet Tryd.prog Rows.detReversesRow.laid w) (fun _ _ _ hh h => h.of_heap hh) Tryd.own started (by kernel_rfl) Tryd.func11
  (ChangeSpec.witness_at (enc := enc) (C := Tryd.checked) (os := os) (X := fun w _ => laidMet Tryd.prog Rows.detReversesRow.laid w) false (laidWorld os) #[.agg #[.int .i64 0,.int .i64 0,.slice none 0 0,.slice none 0 0],.slice none 0 0,.slice none 0 0,.slice none 0 0] 8 rfl (by kernel_rfl) (by kernel_rfl) (by kernel_rfl) (by kernel_rfl) (by kernel_rfl) (laid_met os _)) ?_
 intro W base args ds gs before hval0 hW hcnd0 _ hL _
 have hval : ∀ (j : Nat) t v,Tryd.f11.params[j]? = some t → args[j]? = some v → Value.okWide Tryd.prog W .any base t v := hval0
 have hW' := hW
 obtain ⟨p,q,hA0,hV,rfl,hfz,hnd⟩ := hW
 have hA : DataW.TrodAll enc Tryd.prog W 0 (fun _ => true) true Tryd.f11.params.toList args.toList ds p := hA0
 rw [Tryd.params11] at hA hval
 obtain ⟨v0,v1,v2,v3,d0,d1,d2,d3,p0,p1,p2,p3,rfl,rfl,rfl,h0,h1,h2,h3⟩ := trodAll_n hA
 obtain ⟨rfl,rfl⟩ := trodVars_none hV
 obtain ⟨a0,t0,r0,n0⟩ := arg_rel closedOk (by simp) (hval 0 43 v0 rfl rfl) h0
 obtain ⟨a1,t1,r1,n1⟩ := arg_rel closedOk (by simp) (hval 1 23 v1 rfl rfl) h1
 obtain ⟨a2,t2,r2,n2⟩ := arg_rel closedOk (by simp) (hval 2 23 v2 rfl rfl) h2
 obtain ⟨a3,t3,r3,n3⟩ := arg_rel closedOk (by simp) (hval 3 23 v3 rfl rfl) h3
 refine (law_calls (hlaw a0 a1 a2 a3 t0 t1 t2 t3) (W := W) (vs := #[v0,v1,v2,v3]) rfl (fun i b v hb hv => ?_) (fun b hb => ?_) (glob_ok hL)).mono fun e W' ⟨he,hs⟩ => ?_
 ·match i,hb,hv with
  | 0,hb,hv => simp at hb hv; subst hb; subst hv; exact r0
  | 1,hb,hv => simp at hb hv; subst hb; subst hv; exact r1
  | 2,hb,hv => simp at hb hv; subst hb; subst hv; exact r2
  | 3,hb,hv => simp at hb hv; subst hb; subst hv; exact r3
  | n + 4,hb,hv => simp at hb
 ·simp at hb
  rcases hb with rfl | rfl | rfl | rfl <;> assumption
 subst he
 have hB := below_of hs
 simp only [List.append_nil] at hW'
 have hlt : ∀ x ∈ p0 ++ p1 ++ p2 ++ p3,x.block < W.heap.size := fun x hx => by
  have := hW'.lt x (by simpa using hx)
  simpa using this
 refine ⟨_,rfl,_,_,_,[],(p0 ++ (p1 ++ (p2 ++ p3))),[],hW',?_,?_,rfl,hB.frame _,fun h => by cases h⟩
 ·exact trodAll_mk1 (shut_bool (by kernel_rfl) true)
 ·refine trodAll_mkn (Below.trod Tryd.laidOut (by kernel_rfl) (of_decide_eq_true (by kernel_rfl)) h0 hB fun x hx => hlt x (by simp [hx])) (Below.trod Tryd.laidOut (by kernel_rfl) (of_decide_eq_true (by kernel_rfl)) h1 hB fun x hx => hlt x (by simp [hx])) (Below.trod Tryd.laidOut (by kernel_rfl) (of_decide_eq_true (by kernel_rfl)) h2 hB fun x hx => hlt x (by simp [hx])) (Below.trod Tryd.laidOut (by kernel_rfl) (of_decide_eq_true (by kernel_rfl)) h3 hB fun x hx => hlt x (by simp [hx]))
theorem row_holds (hlaw : ∀ a0 a1 a2 a3,Arg Tryd.prog 43 a0 → Arg Tryd.prog 23 a1 → Arg Tryd.prog 23 a2 → Arg Tryd.prog 23 a3 → Go.Ab.Loc Tryd.prog Gl 0 11 [a0,a1,a2,a3] [] (.bool true) []) : Rows.DetReversesSaid :=
 OpenClaim.holds_of_wide 11 Tryd.f11 rfl rfl rfl rfl rfl rfl rfl ⟨rfl,rfl,rfl,rfl,rfl⟩ rfl rfl rfl rfl rfl (by kernel_rfl) Tryd.func11 (by kernel_rfl)
  (of_decide_eq_true (by kernel_rfl)) (by unfold Func.isWrapper; first | (rw [if_pos (by decide +kernel)]; kernel_rfl) | (rw [if_neg (by decide +kernel)]; exact ⟨rfl,rfl⟩))
  (fun os started H enc _ => law_lifted hlaw os started H enc)
theorem card_holds (hlaw : ∀ a0 a1 a2 a3,Arg Tryd.prog 43 a0 → Arg Tryd.prog 23 a1 → Arg Tryd.prog 23 a2 → Arg Tryd.prog 23 a3 → Go.Ab.Loc Tryd.prog Gl 0 11 [a0,a1,a2,a3] [] (.bool true) []) : Rows.DetReversesCardSaid :=
 Claim7.holds_tied_plain_at .later [] [.data] true (true,"083f600fa324912a3f64b4a9d9348dcca761660d41196ed62dae77b3effad808") false
  (row_holds hlaw) (fun _ h => by cases h) (by kernel_rfl) (fun _ h => by cases h) detReverses_row_tie rfl ⟨rfl,rfl⟩ (by kernel_rfl) rfl
  (fun f fn hf hfn => by
   obtain rfl : f = 11 := Option.some.inj ((show Tryd.prog.funcNamed "ectype/ectypelaw15.DetReverses" = some 11 by kernel_rfl).symm.trans hf) |>.symm
   obtain rfl : fn = Tryd.f11 := (Option.some.inj (Tryd.func11.symm.trans hfn)).symm
   exact ⟨by kernel_rfl,fun j t ht => by
    rw [Tryd.params11] at ht
    have h3 : t ∈ [23,43] := by
     match j,ht with
     | 0,ht => simp at ht; simp [← ht]
     | 1,ht => simp at ht; simp [← ht]
     | 2,ht => simp at ht; simp [← ht]
     | 3,ht => simp at ht; simp [← ht]
     | n + 4,ht => simp at ht
    have : ([23,43].all fun t => Tryd.prog.wantsStandIn t == false) = true := by kernel_rfl
    have := List.all_eq_true.1 this t h3
    have e : Tryd.prog.wantsStandIn t = false := by simpa using this
    exact e⟩)
  (by kernel_rfl)
theorem reverses : Rows.DetReversesCardSaid := card_holds law11_arg
end Go.Proofs.YtpgdlniekkeikaaDoor
