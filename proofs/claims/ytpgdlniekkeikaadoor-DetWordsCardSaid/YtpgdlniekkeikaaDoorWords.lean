/- Law 10 (DetWords), joined. -/
import Derived.Test.YtpgdlniekkeikaaDoorWordsH
import Derived.Test.YtpgdlniekkeikaaDoorWordsF
import Derived.Test.YtpgdlniekkeikaaDoorWordsB4
import Derived.Test.YtpgdlniekkeikaaDoorCards
import Derived.Test.YtpgdlniekkeikaaDoorTie
import Derived.LaidLaws
import Derived.Handed
import Derived.SevenTiedAt
namespace Go.Ab.Tab
open Go Go.Ab
set_option maxRecDepth 10000
set_option linter.unusedVariables false
set_option linter.unusedSimpArgs false
theorem wordOk_one {k : Nat} {a : Int} (h : wordOk k [a] = true) : 0 ≤ a ∧ a < k := by simpa [wordOk] using h
theorem law10 (s : Sy) (hf : fitF s.f) (hl : s.m.length ≤ maxLen) (hv : ∀ v ∈ s.m,fitV v) (set word : List Int) (letter : Int) (hset : set.length ≤ maxLen) (hword : word.length ≤ maxLen) :
  Go.Ab.Loc Pg Gl 0 10 [encY s,encI set,encI word,.int .i64 letter] [] (.bool true) [] := by
 refine loc_rd mixedP tok rfl rfl fun S => ?_
 unfold c10
 have h23 := spec23 1 s hf hl hv [set,word] (by simp [maxLen]) (by intro l hl; simp at hl; rcases hl with rfl | rfl <;> assumption)
 have h24 := spec24 1
 have hE := encY.eq_1 s
 cases hlook : lookedB s [set,word] with
 | false =>
  rw [hE,hlook] at h23
  rw [hE]
  simp
  refine Rd_call h23 (by simp [encLs]) ?_
  simp
  refine Rd_call h24 (by simp) ?_
  simp
 | true =>
 have hfew : fewY 8000 s = true := by unfold lookedB at hlook; rw [Bool.and_eq_true] at hlook; exact hlook.2
 unfold fewY at hfew
 simp only [Bool.and_eq_true,decide_eq_true_eq] at hfew
 have hbn : nodesVs s.m ≤ 2 ^ 32 := by have := fewL_sum (by omega) hfew.2.2; omega
 have h38 := spec38 1 s hf hl hv hbn [] [] (by simp) (by simp)
 rcases au_cases s hv hbn with hbad | ⟨k,ps,rfl,hG⟩
 ·have hne : (if isY s then (1 : Int) else 30) ≠ 0 := by split <;> decide
  have h46 := spec46_bad 1 s hf hl hv hbn hbad
  have h47 := spec47_bad 1 s hf hl hv hbn hbad set letter
  have h41 := spec41_bad 1 s hf hl hv hbn hbad set word
  have fin := fun S => law10_2 s hf hl hv hbn set word letter hset hword false (if isY s then 1 else 30) (.inl ⟨by rw [faultW_bad hbad]; exact hne,(faultW_bad hbad _ _).symm,rfl⟩)
   [] (if isY s then 1 else 30) (by simp) (.inl ⟨by rw [faultW_bad hbad]; exact hne,(faultW_bad hbad _ _).symm,rfl⟩) S
  rw [faultW_bad hbad] at h38
  generalize (if isY s then (1 : Int) else 30) = c at *
  rw [hlook] at h23
  rw [hE] at h23 h46 h47 h41 h38 ⊢
  simp
  refine Rd_call h23 (by simp [encLs]) ?_
  simp
  refine Rd_call h46 (by simp) ?_
  simp
  refine Rd_call h47 (by simp) ?_
  simp
  refine Rd_call h41 (by simp) ?_
  simp
  refine Rd_call h38 (by simp [encI]) ?_
  simp [hne]
  refine fin S _ _ ?_ ?_ ?_ ?_ ?_ ?_ ?_ ?_ ?_
  all_goals simp [encI]
 ·have h46 := spec46_ok 1 k ps hG.ok hG.rl hG.is hG.fit hG.nodes
  have h47 := spec47_ok 1 k ps hG.ok hG.rl hG.is hG.fit hG.nodes (paOf_rl k ps) hG.w set letter hset
  have h41 := spec41_ok 1 k ps hG.ok hG.rl hG.is hG.fit hG.nodes (paOf_rl k ps) hG.w set word hset hword
  have h48 := spec48 1 (auY k ps) hf
  rw [hG.letters] at h48
  rw [faultW_nil_ok hG.is (by rw [hG.letters]; have := hG.ok.kpos; omega)] at h38
  obtain ⟨b,e,hb,hbe⟩ : ∃ (b : Bool) (e : Int),(if isSet ps.length set && wordOk k word then AV.tup [.bool (endsB (paOf k ps).F (runB (paOf k ps) (toS set) word)),.int .i64 0] else AV.tup [.bool false,.int .i64 1]) = .tup [.bool b,.int .i64 e] ∧
    ((faultW (auY k ps) set word ≠ 0 ∧ e = faultW (auY k ps) set word ∧ b = false) ∨ (faultW (auY k ps) set word = 0 ∧ e = 0 ∧ Go.Ab.Loc Pg Gl 1 50 [encY (auY k ps),encI set,encI word] [] (.bool b) [])) := by
   rw [faultW_ok hG]
   cases hc : (isSet ps.length set && wordOk k word) with
   | false => exact ⟨false,1,rfl,.inl ⟨by simp,by simp,rfl⟩⟩
   | true =>
    rw [Bool.and_eq_true] at hc
    have vl : VS ps.length set := ⟨hc.1,hset,hG.ok.len⟩
    refine ⟨_,0,rfl,.inr ⟨by simp,rfl,?_⟩⟩
    rw [← accL_run hG.ok vl.below]
    exact spec50 1 k ps hG.ok hG.rl set vl word hc.2 hword
  obtain ⟨y,ey,hy,hyl,hbn2⟩ : ∃ (y : List Int) (ey : Int),(if isSet ps.length set && wordOk k [letter] then AV.tup [.sl 1 ((runB (paOf k ps) (toS set) [letter]).list.map encN) .no,.int .i64 0] else AV.tup [.sl 1 [] .no,.int .i64 1]) = .tup [encI y,.int .i64 ey] ∧ y.length ≤ maxLen ∧
    ((faultW (auY k ps) set [letter] ≠ 0 ∧ ey = faultW (auY k ps) set [letter] ∧ y = []) ∨ (faultW (auY k ps) set [letter] = 0 ∧ ey = 0 ∧ Go.Ab.Loc Pg Gl 1 49 [encY (auY k ps),encI set,.int .i64 letter] [] (encI y) [])) := by
   rw [faultW_ok hG]
   cases hc : (isSet ps.length set && wordOk k [letter]) with
   | false => exact ⟨[],1,rfl,by simp,.inl ⟨by simp,by simp,rfl⟩⟩
   | true =>
    rw [Bool.and_eq_true] at hc
    have vl : VS ps.length set := ⟨hc.1,hset,hG.ok.len⟩
    obtain ⟨w0,w1⟩ := wordOk_one hc.2
    refine ⟨nx ps letter.toNat set,0,?_,(nx_vs hG.ok _ _).len,.inr ⟨by simp,rfl,?_⟩⟩
    ·rw [if_pos rfl,next_enc hG vl]
    ·have := spec49 1 k letter.toNat ps hG.ok (by omega) hG.rl set vl.below hset
     rw [show ((letter.toNat : Nat) : Int) = letter by omega] at this
     exact this
  rw [hb] at h41
  rw [hy] at h47
  have fin := law10_2 (auY k ps) hf hl hv hbn set word letter hset hword b e hbe y ey hyl hbn2 S
  rw [hlook] at h23
  rw [hE] at h23 h46 h47 h41 h38 h48 ⊢
  simp
  refine Rd_call h23 (by simp [encLs]) ?_
  simp
  refine Rd_call h46 (by simp) ?_
  simp
  refine Rd_call h47 (by simp) ?_
  simp [encI_left]
  refine Rd_call h41 (by simp) ?_
  simp
  refine Rd_call h38 (by simp [encI]) ?_
  simp
  refine Rd_call h48 (by simp) ?_
  simp
  refine fin _ _ ?_ ?_ ?_ ?_ ?_ ?_ ?_ ?_ ?_
  all_goals simp
theorem law10_arg : ∀ a0 a1 a2 a3,Arg Pg 43 a0 → Arg Pg 23 a1 → Arg Pg 23 a2 → Arg Pg 3 a3 → Go.Ab.Loc Pg Gl 0 10 [a0,a1,a2,a3] [] (.bool true) [] := by
 intro a0 a1 a2 a3 h0 h1 h2 h3
 obtain ⟨s,rfl,hf,hl,hv⟩ := arg43 h0
 obtain ⟨x,rfl,hx⟩ := arg23 h1
 obtain ⟨w,rfl,hw⟩ := arg23 h2
 obtain ⟨z,rfl⟩ := arg3 h3
 exact law10 s hf hl hv x w z hx hw
end Go.Ab.Tab
namespace Go.Proofs.YtpgdlniekkeikaaDoor
open Go.ChangeShapes Go.WideShapes Go.ChangeAt Go.RowKit Go.Ab Go.Ab.Tab
theorem Tryd.own : ownKnob Tryd.prog.godebug = none := by kernel_rfl
theorem Tryd.laidOut : laidOutB Tryd.prog = true := by kernel_rfl
theorem formsN : Tryd.prog.globalNamed "ectype/functor.forms" = some 0 := by kernel_rfl
theorem formsType : (Tryd.prog.globals[0]?).map (·.type) = some 205 := by kernel_rfl
def ints : List Int := [0,0,16,0,0,2,0,2,4,1,0,1,0,1,0,1]
theorem flatOk : flatTys Tryd.prog [205,204,3] = true := by kernel_rfl
theorem glob_ok {W : World} (h : laidMet Tryd.prog Rows.detWordsRow.laid W) : ∀ g cs,Gl g = some cs → ∀ (j : Nat) (c : AV),cs[j]? = some c → ∃ v,allImm W g j = some v ∧ RelI (allImm W) c v := by
 intro g cs hg j c hc
 unfold Gl at hg
 split at hg
 ·rename_i hg0; subst hg0
  injection hg with hg; subst hg
  obtain ⟨ps,⟨g,t,cs,fuel,p,q,hg,ht,hvar,hd,_,_⟩,_⟩ := h
  obtain rfl := Option.some.inj (formsN.symm.trans hg)
  obtain rfl := Option.some.inj (formsType.symm.trans ht)
  have hf := trod_flat flatOk fuel 5 205 cs.toList (ints.map (Value.int .i64)) _ (by simp) hd rfl
  unfold forms at hc
  rw [List.getElem?_map,Option.map_eq_some_iff] at hc
  obtain ⟨n,hn,rfl⟩ := hc
  have hcell := World.var?_cell hg hvar j
  have hcs : cs[j]? = some (.int .i64 n) := by
   rw [← Array.getElem?_toList,hf,List.getElem?_map]
   have : ints[j]? = some n := hn
   rw [this]; rfl
  rw [hcs] at hcell
  refine ⟨.int .i64 n,?_,.int _ _⟩
  simp only [allImm]
  have e : W.cell? ⟨0,j,none⟩ = some (.int .i64 n) := by simpa using hcell
  simp [e,Value.oneCell']
 ·cases hg
noncomputable def laidWorld (os : Os) : World :=
 let w0 := World.holding Tryd.prog os ⟨#[],#[],[]⟩
 { w0 with heap := w0.heap.modify 0 fun
   | .cells _ t frozen => .cells (ints.map (Value.int .i64)).toArray t frozen
   | o => o }
theorem laid_met (os : Os) (args : Array Value) : laidMet Tryd.prog Rows.detWordsRow.laid ((laidWorld os).forCall (fun _ _ => 0) ⟨#[],args,[]⟩).memory :=
 laidMet_of_run' 8 (by kernel_rfl) (by kernel_rfl)
theorem closedOk : closedTys Tryd.prog [43,40,41,125,38,3,23] = true := by kernel_rfl
theorem below_of {W W' : World} (h : Stands W W') : Below W.heap.size W W' := ⟨h.os,h.tape,h.output,h.size,h.heap⟩
section
variable {H : Type} {enc : TypeId × Value → H} {P : Program} {w : World} {base : Nat} {spare : Nat → Bool} {held : Bool}
theorem trodAll_n {t0 t1 t2 t3 : TypeId} {args : Array Value} {ds : List (DataW H)} {ps : List MemPlace} (h : DataW.TrodAll enc P w base spare held [t0,t1,t2,t3] args.toList ds ps) :
  ∃ v0 v1 v2 v3 d0 d1 d2 d3 p0 p1 p2 p3,args = #[v0,v1,v2,v3] ∧ ds = [d0,d1,d2,d3] ∧ ps = p0 ++ p1 ++ p2 ++ p3 ∧ DataW.Trod enc P w base spare held t0 v0 d0 p0 ∧ DataW.Trod enc P w base spare held t1 v1 d1 p1 ∧ DataW.Trod enc P w base spare held t2 v2 d2 p2 ∧ DataW.Trod enc P w base spare held t3 v3 d3 p3 := by
 obtain ⟨v0,vs0,d0,ds0,p0,q0,hargs,rfl,rfl,h0,r0⟩ := trodAll_cons h
 obtain ⟨v1,vs1,d1,ds1,p1,q1,rfl,rfl,rfl,h1,r1⟩ := trodAll_cons r0
 obtain ⟨v2,vs2,d2,ds2,p2,q2,rfl,rfl,rfl,h2,r2⟩ := trodAll_cons r1
 obtain ⟨v3,vs3,d3,ds3,p3,q3,rfl,rfl,rfl,h3,r3⟩ := trodAll_cons r2
 obtain ⟨rfl,rfl,rfl⟩ := trodAll_nil r3
 exact ⟨v0,v1,v2,v3,d0,d1,d2,d3,p0,p1,p2,p3,by cases args; simp_all,rfl,by simp,h0,h1,h2,h3⟩
theorem trodAll_mkn {t0 t1 t2 t3 : TypeId} {v0 v1 v2 v3 : Value} {d0 d1 d2 d3 : DataW H} {p0 p1 p2 p3 : List MemPlace} (h0 : DataW.Trod enc P w base spare held t0 v0 d0 p0) (h1 : DataW.Trod enc P w base spare held t1 v1 d1 p1) (h2 : DataW.Trod enc P w base spare held t2 v2 d2 p2) (h3 : DataW.Trod enc P w base spare held t3 v3 d3 p3) : DataW.TrodAll enc P w base spare held [t0,t1,t2,t3] [v0,v1,v2,v3] [d0,d1,d2,d3] (p0 ++ (p1 ++ (p2 ++ p3))) :=
 ⟨p0,_,h0,⟨p1,_,h1,⟨p2,_,h2,trodAll_mk1 h3,rfl⟩,rfl⟩,rfl⟩
end
set_option maxRecDepth 100000 in
theorem law_lifted (hlaw : ∀ a0 a1 a2 a3,Arg Tryd.prog 43 a0 → Arg Tryd.prog 23 a1 → Arg Tryd.prog 23 a2 → Arg Tryd.prog 3 a3 → Go.Ab.Loc Tryd.prog Gl 0 10 [a0,a1,a2,a3] [] (.bool true) [])
  (os : Os) (started : os.Started) (H : Type) (enc : TypeId × Value → H) :
  ReturnsInHanded {} Tryd.checked os 10 .any (fun w args => (Rows.detWordsSpec.pre enc Tryd.prog Tryd.f10 Rows.detWordsRow.domain false w args ∧ laidMet Tryd.prog Rows.detWordsRow.laid w) ∧ sizedMet enc Tryd.prog Tryd.f10 (OpenSpec.ofChange Rows.detWordsSpec) false w args)
   (Rows.detWordsSpec.post enc Tryd.prog Tryd.f10 false true false false) := by
 refine returnsInHanded_of_change_and (C := Tryd.checked) (X := fun w _ => laidMet Tryd.prog Rows.detWordsRow.laid w) (fun _ _ _ hh h => h.of_heap hh) Tryd.own started (by kernel_rfl) Tryd.func10
  (ChangeSpec.witness_at (enc := enc) (C := Tryd.checked) (os := os) (X := fun w _ => laidMet Tryd.prog Rows.detWordsRow.laid w) false (laidWorld os) #[.agg #[.int .i64 0,.int .i64 0,.slice none 0 0,.slice none 0 0],.slice none 0 0,.slice none 0 0,.int .i64 0] 8 rfl (by kernel_rfl) (by kernel_rfl) (by kernel_rfl) (by kernel_rfl) (by kernel_rfl) (laid_met os _)) ?_
 intro W base args ds gs before hval0 hW hcnd0 _ hL _
 have hval : ∀ (j : Nat) t v,Tryd.f10.params[j]? = some t → args[j]? = some v → Value.okWide Tryd.prog W .any base t v := hval0
 have hW' := hW
 obtain ⟨p,q,hA0,hV,rfl,hfz,hnd⟩ := hW
 have hA : DataW.TrodAll enc Tryd.prog W 0 (fun _ => true) true Tryd.f10.params.toList args.toList ds p := hA0
 rw [Tryd.params10] at hA hval
 obtain ⟨v0,v1,v2,v3,d0,d1,d2,d3,p0,p1,p2,p3,rfl,rfl,rfl,h0,h1,h2,h3⟩ := trodAll_n hA
 obtain ⟨rfl,rfl⟩ := trodVars_none hV
 obtain ⟨a0,t0,r0,n0⟩ := arg_rel closedOk (by simp) (hval 0 43 v0 rfl rfl) h0
 obtain ⟨a1,t1,r1,n1⟩ := arg_rel closedOk (by simp) (hval 1 23 v1 rfl rfl) h1
 obtain ⟨a2,t2,r2,n2⟩ := arg_rel closedOk (by simp) (hval 2 23 v2 rfl rfl) h2
 obtain ⟨a3,t3,r3,n3⟩ := arg_rel closedOk (by simp) (hval 3 3 v3 rfl rfl) h3
 refine (law_calls (hlaw a0 a1 a2 a3 t0 t1 t2 t3) (W := W) (vs := #[v0,v1,v2,v3]) rfl (fun i b v hb hv => ?_) (fun b hb => ?_) (glob_ok hL)).mono fun e W' ⟨he,hs⟩ => ?_
 ·match i,hb,hv with
  | 0,hb,hv => simp at hb hv; subst hb; subst hv; exact r0
  | 1,hb,hv => simp at hb hv; subst hb; subst hv; exact r1
  | 2,hb,hv => simp at hb hv; subst hb; subst hv; exact r2
  | 3,hb,hv => simp at hb hv; subst hb; subst hv; exact r3
  | n + 4,hb,hv => simp at hb
 ·simp at hb
  rcases hb with rfl | rfl | rfl | rfl <;> assumption
 subst he
 have hB := below_of hs
 simp only [List.append_nil] at hW'
 have hlt : ∀ x ∈ p0 ++ p1 ++ p2 ++ p3,x.block < W.heap.size := fun x hx => by
  have := hW'.lt x (by simpa using hx)
  simpa using this
 refine ⟨_,rfl,_,_,_,[],(p0 ++ (p1 ++ (p2 ++ p3))),[],hW',?_,?_,rfl,hB.frame _,fun h => by cases h⟩
 ·exact trodAll_mk1 (shut_bool (by kernel_rfl) true)
 ·refine trodAll_mkn (Below.trod Tryd.laidOut (by kernel_rfl) (of_decide_eq_true (by kernel_rfl)) h0 hB fun x hx => hlt x (by simp [hx])) (Below.trod Tryd.laidOut (by kernel_rfl) (of_decide_eq_true (by kernel_rfl)) h1 hB fun x hx => hlt x (by simp [hx])) (Below.trod Tryd.laidOut (by kernel_rfl) (of_decide_eq_true (by kernel_rfl)) h2 hB fun x hx => hlt x (by simp [hx])) (Below.trod Tryd.laidOut (by kernel_rfl) (of_decide_eq_true (by kernel_rfl)) h3 hB fun x hx => hlt x (by simp [hx]))
theorem row_holds (hlaw : ∀ a0 a1 a2 a3,Arg Tryd.prog 43 a0 → Arg Tryd.prog 23 a1 → Arg Tryd.prog 23 a2 → Arg Tryd.prog 3 a3 → Go.Ab.Loc Tryd.prog Gl 0 10 [a0,a1,a2,a3] [] (.bool true) []) : Rows.DetWordsSaid :=
 OpenClaim.holds_of_wide 10 Tryd.f10 rfl rfl rfl rfl rfl rfl rfl ⟨rfl,rfl,rfl,rfl,rfl⟩ rfl rfl rfl rfl rfl (by kernel_rfl) Tryd.func10 (by kernel_rfl)
  (of_decide_eq_true (by kernel_rfl)) (by unfold Func.isWrapper; first | (rw [if_pos (by decide +kernel)]; kernel_rfl) | (rw [if_neg (by decide +kernel)]; exact ⟨rfl,rfl⟩))
  (fun os started H enc _ => law_lifted hlaw os started H enc)
theorem card_holds (hlaw : ∀ a0 a1 a2 a3,Arg Tryd.prog 43 a0 → Arg Tryd.prog 23 a1 → Arg Tryd.prog 23 a2 → Arg Tryd.prog 3 a3 → Go.Ab.Loc Tryd.prog Gl 0 10 [a0,a1,a2,a3] [] (.bool true) []) : Rows.DetWordsCardSaid :=
 Claim7.holds_tied_plain_at .later [] [.data] true (true,"083f600fa324912a3f64b4a9d9348dcca761660d41196ed62dae77b3effad808") false
  (row_holds hlaw) (fun _ h => by cases h) (by kernel_rfl) (fun _ h => by cases h) detWords_row_tie rfl ⟨rfl,rfl⟩ (by kernel_rfl) rfl
  (fun f fn hf hfn => by
   obtain rfl : f = 10 := Option.some.inj ((show Tryd.prog.funcNamed "ectype/ectypelaw15.DetWords" = some 10 by kernel_rfl).symm.trans hf) |>.symm
   obtain rfl : fn = Tryd.f10 := (Option.some.inj (Tryd.func10.symm.trans hfn)).symm
   exact ⟨by kernel_rfl,fun j t ht => by
    rw [Tryd.params10] at ht
    have h3 : t ∈ [3,23,43] := by
     match j,ht with
     | 0,ht => simp at ht; simp [← ht]
     | 1,ht => simp at ht; simp [← ht]
     | 2,ht => simp at ht; simp [← ht]
     | 3,ht => simp at ht; simp [← ht]
     | n + 4,ht => simp at ht
    have : ([3,23,43].all fun t => Tryd.prog.wantsStandIn t == false) = true := by kernel_rfl
    have := List.all_eq_true.1 this t h3
    have e : Tryd.prog.wantsStandIn t = false := by simpa using this
    exact e⟩)
  (by kernel_rfl)
theorem words : Rows.DetWordsCardSaid := card_holds law10_arg
end Go.Proofs.YtpgdlniekkeikaaDoor
