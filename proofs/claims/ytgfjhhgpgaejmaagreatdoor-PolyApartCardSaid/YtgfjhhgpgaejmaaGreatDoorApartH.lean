/- Arguments as data. -/
import Derived.Test.YtgfjhhgpgaejmaaGreatDoorApartG
import Derived.Test.YtgfjhhgpgaejmaaGreatDoorApartB4
import Derived.Test.YtgfjhhgpgaejmaaGreatDoorApartE
namespace Go.Ab
open Go
section
variable {P : Program} {t : TypeId} {n : Nat} {cs : List AV}
theorem ty_int {k : IntKind} (hu : P.underlying t = some (.int k)) (h : tyOk P n t cs) : ∃ i,cs = [.int k i] ∧ (Lit.int k i).wf = true := by
 cases n with
 | zero => cases h
 | succ n => simpa only [tyOk,hu] using h
theorem ty_slice {e : TypeId} (hu : P.underlying t = some (.slice e)) (h : tyOk P n t cs) : ∃ xs n',cs = [.sl (P.cellsOf e) xs .no] ∧ xs.length ≤ maxLen ∧ ∀ x ∈ xs,∃ c,x = mkV P e c ∧ tyOk P n' e c := by
 cases n with
 | zero => cases h
 | succ n =>
  simp only [tyOk,hu] at h
  obtain ⟨xs,h1,h2,h3⟩ := h
  exact ⟨xs,n,h1,h2,h3⟩
def fieldsOf (P : Program) (t : TypeId) : List (TypeId × Nat) := match P.underlying t with
 | some (.struct fs) => fs.toList.map fun f => (f.type,f.offset)
 | _ => []
def isStruct (P : Program) (t : TypeId) : Bool := match P.underlying t with
 | some (.struct _) => true
 | _ => false
theorem map_exists {α β : Type} (f : α → β) (q : α → Prop) : ∀ (l : List β),(∀ x ∈ l,∃ a,x = f a ∧ q a) → ∃ bs : List α,l = bs.map f ∧ ∀ a ∈ bs,q a
 | [],_ => ⟨[],rfl,by simp⟩
 | x :: l,h => by
  obtain ⟨a,h1,h2⟩ := h x (by simp)
  obtain ⟨bs,h3,h4⟩ := map_exists f q l fun y hy => h y (by simp [hy])
  exact ⟨a :: bs,by simp [h1,h3],fun b hb => by rcases List.mem_cons.1 hb with rfl | hb; exact h2; exact h4 b hb⟩
theorem mkV_one (h : isAggT P t = false) (c : AV) : mkV P t [c] = c := by unfold mkV; rw [h]; rfl
theorem mkV_agg (h : isAggT P t = true) : mkV P t cs = .agg cs := by unfold mkV; rw [h]; rfl
end
set_option maxRecDepth 10000
set_option linter.unusedVariables false
set_option linter.unusedSimpArgs false
namespace Tab
theorem u3 : Pg.underlying 3 = some (.int .i64) := by kernel_rfl
theorem u26 : Pg.underlying 26 = some (.slice 3) := by kernel_rfl
theorem z3 : Pg.cellsOf 3 = 1 := by kernel_rfl
theorem z26 : Pg.cellsOf 26 = 1 := by kernel_rfl
theorem g3 : isAggT Pg 3 = false := by kernel_rfl
theorem ty26 {n : Nat} {cs : List AV} (h : tyOk Pg n 26 cs) : ∃ l : List Int,cs = [encI l] ∧ l.length ≤ maxLen := by
 obtain ⟨xs,n',rfl,h2,h3⟩ := ty_slice u26 h
 obtain ⟨l,rfl,_⟩ := map_exists (AV.int .i64) (fun _ => True) xs fun x hx => by
  obtain ⟨c,rfl,hc⟩ := h3 x hx
  obtain ⟨i,rfl,_⟩ := ty_int u3 hc
  exact ⟨i,mkV_one g3 _,trivial⟩
 exact ⟨l,by rw [z3]; rfl,by simpa using h2⟩
theorem arg3 {a : AV} (h : Arg Pg 3 a) : ∃ n : Int,a = .int .i64 n := by
 obtain ⟨fuel,cs,h1,h2,rfl⟩ := h
 obtain ⟨i,rfl,_⟩ := ty_int u3 h1
 exact ⟨i,mkV_one g3 _⟩
theorem u22 : Pg.underlying 22 = some (.slice 24) := by kernel_rfl
theorem u25 : Pg.underlying 25 = some (.slice 28) := by kernel_rfl
theorem s24 : isStruct Pg 24 = true := by kernel_rfl
theorem s28 : isStruct Pg 28 = true := by kernel_rfl
theorem s46 : isStruct Pg 46 = true := by kernel_rfl
theorem f24 : fieldsOf Pg 24 = [(3,0),(3,1),(22,2)] := by kernel_rfl
theorem f28 : fieldsOf Pg 28 = [(3,0),(25,1),(26,2)] := by kernel_rfl
theorem f46 : fieldsOf Pg 46 = [(24,0),(25,3)] := by kernel_rfl
theorem z24 : Pg.cellsOf 24 = 3 := by kernel_rfl
theorem z28 : Pg.cellsOf 28 = 3 := by kernel_rfl
theorem z46 : Pg.cellsOf 46 = 4 := by kernel_rfl
theorem z22 : Pg.cellsOf 22 = 1 := by kernel_rfl
theorem z25 : Pg.cellsOf 25 = 1 := by kernel_rfl
theorem g24 : isAggT Pg 24 = true := by kernel_rfl
theorem g28 : isAggT Pg 28 = true := by kernel_rfl
theorem g46 : isAggT Pg 46 = true := by kernel_rfl
theorem ty_slice' {P : Program} {t e : TypeId} {n : Nat} {cs : List AV} (hu : P.underlying t = some (.slice e)) (h : tyOk P (n + 1) t cs) : ∃ xs,cs = [.sl (P.cellsOf e) xs .no] ∧ xs.length ≤ maxLen ∧ ∀ x ∈ xs,∃ c,x = mkV P e c ∧ tyOk P n e c := by
 simp only [tyOk,hu] at h
 exact h
theorem ty_struct' {P : Program} {t : TypeId} {n : Nat} {cs : List AV} (hs : isStruct P t = true) (h : tyOk P (n + 1) t cs) : cs.length = P.cellsOf t ∧ ∀ f ∈ fieldsOf P t,tyOk P n f.1 ((cs.drop f.2).take (P.cellsOf f.1)) := by
 unfold isStruct at hs
 unfold fieldsOf
 cases hu : P.underlying t with
 | none => rw [hu] at hs; cases hs
 | some d =>
  rw [hu] at hs
  cases d with
  | struct fs =>
   simp only [tyOk,hu] at h
   refine ⟨h.1,fun f hf => ?_⟩
   obtain ⟨g,hg,rfl⟩ := List.mem_map.1 hf
   exact h.2 g hg
  | _ => cases hs
theorem fitFs_of : ∀ {l : List Fu},(∀ a ∈ l,fitF a) → fitFs l
 | [],_ => by rw [fitFs]; trivial
 | a :: l,h => by rw [fitFs]; exact ⟨h a (by simp),fitFs_of fun b hb => h b (by simp [hb])⟩
theorem three {cs : List AV} (h : cs.length = 3) : ∃ a b c,cs = [a,b,c] := by
 match cs,h with
 | [a,b,c],_ => exact ⟨a,b,c,rfl⟩
theorem ty24 : ∀ (n : Nat) {cs : List AV},tyOk Pg n 24 cs → ∃ f : Fu,cs = [.int .i64 f.k,.int .i64 f.n,.sl 3 (f.gs.map encF) .no] ∧ fitF f := by
 intro n
 induction n using Nat.strongRecOn with
 | ind n ih =>
  intro cs h
  cases n with
  | zero => cases h
  | succ n =>
   obtain ⟨hl,hf⟩ := ty_struct' s24 h
   rw [f24] at hf
   rw [z24] at hl
   obtain ⟨a,b,c,rfl⟩ := three hl
   have k0 := hf (3,0) (by simp)
   have k1 := hf (3,1) (by simp)
   have k2 := hf (22,2) (by simp)
   rw [z3] at k0 k1
   rw [z22] at k2
   obtain ⟨i,e0,_⟩ := ty_int u3 k0
   obtain ⟨j,e1,_⟩ := ty_int u3 k1
   simp at e0 e1
   subst e0; subst e1
   cases n with
   | zero => cases k2
   | succ n =>
    obtain ⟨xs,e2,h2,h3⟩ := ty_slice' u22 k2
    obtain ⟨gs,hgs,hfit⟩ := map_exists encF fitF xs fun x hx => by
     obtain ⟨c',rfl,hc⟩ := h3 x hx
     obtain ⟨f,rfl,hff⟩ := ih n (by omega) hc
     exact ⟨f,by rw [mkV_agg g24,encF_eta],hff⟩
    subst hgs
    rw [z24] at e2
    simp at e2
    subst e2
    refine ⟨.mk i j gs,rfl,?_⟩
    rw [fitF]
    exact ⟨by simpa using h2,fitFs_of hfit⟩
theorem ty28 : ∀ (n : Nat) {cs : List AV},tyOk Pg n 28 cs → ∃ v : Va,cs = [.int .i64 v.n,.sl 3 (v.gs.map encV) .no,.sl 1 (v.ws.map (AV.int .i64)) .no] ∧ fitV v := by
 intro n
 induction n using Nat.strongRecOn with
 | ind n ih =>
  intro cs h
  cases n with
  | zero => cases h
  | succ n =>
   obtain ⟨hl,hf⟩ := ty_struct' s28 h
   rw [f28] at hf
   rw [z28] at hl
   obtain ⟨a,b,c,rfl⟩ := three hl
   have k0 := hf (3,0) (by simp)
   have k1 := hf (25,1) (by simp)
   have k2 := hf (26,2) (by simp)
   rw [z3] at k0
   rw [z25] at k1
   rw [z26] at k2
   obtain ⟨i,e0,_⟩ := ty_int u3 k0
   obtain ⟨ws,e2,hws⟩ := ty26 k2
   simp at e0 e2
   subst e0; subst e2
   cases n with
   | zero => cases k1
   | succ n =>
    obtain ⟨xs,e1,h2,h3⟩ := ty_slice' u25 k1
    obtain ⟨gs,hgs,hfit⟩ := map_exists encV fitV xs fun x hx => by
     obtain ⟨c',rfl,hc⟩ := h3 x hx
     obtain ⟨f,rfl,hff⟩ := ih n (by omega) hc
     exact ⟨f,by rw [mkV_agg g28,encV_eta],hff⟩
    subst hgs
    rw [z28] at e1
    simp at e1
    subst e1
    refine ⟨.mk i gs ws,rfl,?_⟩
    rw [fitV]
    exact ⟨⟨by simpa using h2,hws⟩,fitVs_of hfit⟩
theorem arg46 {a : AV} (h : Arg Pg 46 a) : ∃ s : Sy,a = encY s ∧ fitF s.f ∧ s.m.length ≤ maxLen ∧ ∀ v ∈ s.m,fitV v := by
 obtain ⟨fuel,cs,h1,h2,rfl⟩ := h
 cases fuel with
 | zero => cases h1
 | succ n =>
  obtain ⟨hl,hf⟩ := ty_struct' s46 h1
  rw [f46] at hf
  rw [z46] at hl
  obtain ⟨a,b,c,d,rfl⟩ : ∃ a b c d,cs = [a,b,c,d] := by
   match cs,hl with
   | [a,b,c,d],_ => exact ⟨a,b,c,d,rfl⟩
  have k0 := hf (24,0) (by simp)
  have k1 := hf (25,3) (by simp)
  rw [z24] at k0
  rw [z25] at k1
  obtain ⟨f,e0,hff⟩ := ty24 _ k0
  simp at e0
  obtain ⟨rfl,rfl,rfl⟩ := e0
  cases n with
  | zero => cases k1
  | succ n =>
   obtain ⟨xs,e1,h2',h3⟩ := ty_slice' u25 k1
   obtain ⟨m,hm,hfit⟩ := map_exists encV fitV xs fun x hx => by
    obtain ⟨c',rfl,hc⟩ := h3 x hx
    obtain ⟨v,rfl,hvv⟩ := ty28 _ hc
    exact ⟨v,by rw [mkV_agg g28,encV_eta],hvv⟩
   subst hm
   rw [z28] at e1
   simp at e1
   subst e1
   refine ⟨⟨f,m⟩,by rw [mkV_agg g46]; rfl,hff,by simpa using h2',hfit⟩
end Tab
end Go.Ab
/- The reference's flat (70),Shape (29). -/
namespace Go.Ab.Tab
open Go Go.Ab
set_option maxRecDepth 10000
set_option linter.unusedVariables false
set_option linter.unusedSimpArgs false
mutual
def flatV : Va → Fu → Va
 | .mk a gs ws,f => if f.k = 0 then .mk 0 gs ws else if partsOk f (.mk a gs ws) then .mk a (flatVs gs (partsF f (.mk a gs ws))) ws else .mk a gs ws
def flatVs : List Va → List Fu → List Va
 | [],_ => []
 | _ :: _,[] => []
 | v :: l,f :: fs => flatV v f :: flatVs l fs
end
theorem flatV_eta (v : Va) (f : Fu) : flatV v f = if f.k = 0 then .mk 0 v.gs v.ws else if partsOk f v then .mk v.n (flatVs v.gs (partsF f v)) v.ws else v := by cases v; rw [flatV]; rfl
theorem flatVs_len : ∀ (l : List Va) (fs : List Fu),fs.length = l.length → (flatVs l fs).length = l.length
 | [],_,_ => by rw [flatVs]
 | v :: l,[],h => by simp at h
 | v :: l,f :: fs,h => by rw [flatVs,List.length_cons,List.length_cons,flatVs_len l fs (by simpa using h)]
mutual
theorem flatV_nodes : ∀ (v : Va) (f : Fu),nodesV (flatV v f) = nodesV v
 | .mk a gs ws,f => by
  rw [flatV]
  by_cases k0 : f.k = 0
  ·rw [if_pos k0,nodesV,nodesV]
  ·rw [if_neg k0]
   cases hp : partsOk f (.mk a gs ws) with
   | false => rfl
   | true =>
    have hpl : (partsF f (.mk a gs ws)).length = gs.length := by
     unfold partsOk at hp
     simp only [Bool.and_eq_true,decide_eq_true_eq] at hp
     exact hp.2
    rw [if_pos rfl,nodesV,nodesV,flatVs_nodes gs _ hpl]
theorem flatVs_nodes : ∀ (l : List Va) (fs : List Fu),fs.length = l.length → nodesVs (flatVs l fs) = nodesVs l
 | [],_,_ => by rw [flatVs]
 | v :: l,[],h => by simp at h
 | v :: l,f :: fs,h => by rw [flatVs,nodesVs,nodesVs,flatV_nodes v f,flatVs_nodes l fs (by simpa using h)]
end
theorem partsF_gs {f : Fu} {a : Int} {gs hs ws zs} (h : gs.length = hs.length) : partsF f (.mk a gs ws) = partsF f (.mk a hs zs) := by
 unfold partsF
 simp only [Va.n,Va.gs,h]
 rfl
mutual
theorem flat_val (n : Nat) : ∀ (v : Va) (f : Fu),shapedF f = true → polyF f = true → (valN n v f = true ↔ valN 1 (flatV v f) f = true ∧ ∀ x ∈ leavesV v f,0 ≤ x ∧ x < n)
 | .mk a gs ws,f,hf,hp => by
  have hs := poly_sets hp
  have hw : wtd f.k = false := by unfold sets at hs; simp only [Bool.or_eq_false_iff] at hs; exact hs.2
  rw [flatV,leavesV]
  by_cases k0 : f.k = 0
  ·rw [if_pos k0,if_pos k0,valN,valN]
   have e : partsF f (.mk 0 gs ws) = partsF f (.mk a gs ws) := by unfold partsF; simp [k0]
   have e0 : partsF f (.mk a gs ws) = [] := by unfold partsF; simp [k0]
   unfold okV partsOk setOk weighedR numOk
   rw [e,e0,hs,hw]
   simp only [Va.n,Va.gs,Va.ws,k0,List.mem_singleton,forall_eq]
   cases gs with
   | cons b l => simp
   | nil =>
    simp only [valNs]
    simp
    constructor
    ·rintro ⟨⟨h1,h2⟩,h3⟩
     exact ⟨h3,of_decide_eq_true h1,by omega⟩
    ·rintro ⟨h3,h1,h2⟩
     exact ⟨⟨decide_eq_true h1,by omega⟩,h3⟩
  ·rw [if_neg k0,if_neg k0]
   cases hpo : partsOk f (.mk a gs ws) with
   | false =>
    have : okV n f (.mk a gs ws) = false := by unfold okV; rw [hpo]; rfl
    have h' : okV 1 f (.mk a gs ws) = false := by unfold okV; rw [hpo]; rfl
    rw [if_neg (by simp),valN,valN,this,h']
    simp
   | true =>
    have hpl : (partsF f (.mk a gs ws)).length = gs.length := by
     unfold partsOk at hpo
     simp only [Bool.and_eq_true,decide_eq_true_eq] at hpo
     exact hpo.2
    have hfl := flatVs_len gs _ hpl
    have e : partsF f (.mk a (flatVs gs (partsF f (.mk a gs ws))) ws) = partsF f (.mk a gs ws) := partsF_gs hfl
    rw [if_pos rfl,valN,valN,e]
    have ih := flats_val n gs (partsF f (.mk a gs ws)) hpl (fun g hg => ⟨partsF_shaped hf _ g hg,poly_parts hf hp _ g hg⟩)
    have eo : okV 1 f (.mk a (flatVs gs (partsF f (.mk a gs ws))) ws) = okV n f (.mk a gs ws) := by
     unfold okV partsOk numOk weighedR
     rw [e,hw]
     simp only [Va.n,Va.gs,Va.ws,hfl,if_neg k0]
     rfl
    rw [eo]
    have es : ∀ w : Va,setOk f.k w = true := by intro w; unfold setOk; rw [hs]; rfl
    rw [es,es]
    simp only [Bool.and_eq_true,Bool.true_and]
    rw [ih]
    constructor
    ·rintro ⟨h1,h2,h3⟩; exact ⟨⟨h1,h2⟩,h3⟩
    ·rintro ⟨⟨h1,h2⟩,h3⟩; exact ⟨h1,h2,h3⟩
theorem flats_val (n : Nat) : ∀ (l : List Va) (fs : List Fu),fs.length = l.length → (∀ g ∈ fs,shapedF g = true ∧ polyF g = true) → (valNs n l fs = true ↔ valNs 1 (flatVs l fs) fs = true ∧ ∀ x ∈ leavesVs l fs,0 ≤ x ∧ x < n)
 | [],fs,_,_ => by rw [flatVs,leavesVs,valNs,valNs]; simp
 | v :: l,[],h,_ => by simp at h
 | v :: l,f :: fs,h,hf => by
  obtain ⟨h1,h2⟩ := hf f (List.mem_cons_self ..)
  rw [flatVs,leavesVs,valNs,valNs,Bool.and_eq_true,Bool.and_eq_true,flat_val n v f h1 h2,flats_val n l fs (by simpa using h) fun g hg => hf g (List.mem_cons_of_mem _ hg)]
  constructor
  ·rintro ⟨⟨a1,a2⟩,b1,b2⟩
   refine ⟨⟨a1,b1⟩,fun x hx => ?_⟩
   rcases List.mem_append.1 hx with hx | hx
   ·exact a2 x hx
   ·exact b2 x hx
  ·rintro ⟨⟨a1,b1⟩,c⟩
   exact ⟨⟨a1,fun x hx => c x (List.mem_append_left _ hx)⟩,b1,fun x hx => c x (List.mem_append_right _ hx)⟩
end
end Go.Ab.Tab
/- The reference's Shape (29); it is the program's. -/
namespace Go.Ab.Tab
open Go Go.Ab
set_option maxRecDepth 10000
set_option linter.unusedVariables false
set_option linter.unusedSimpArgs false
theorem flat_poly {v : Va} {f : Fu} (hf : shapedF f = true) (hp : polyF f = true) (h : valN 1 (flatV v f) f = true) :
  v.ws = [] ∧ (f.k = 0 → v.gs = []) ∧ (f.k ≠ 0 → partsOk f v = true) ∧ (partsF f v).length = v.gs.length ∧ (f.k ≠ 0 → valNs 1 (flatVs v.gs (partsF f v)) (partsF f v) = true) := by
 obtain ⟨h1,h2,h3,h4⟩ := valN_poly hf hp h
 by_cases k0 : f.k = 0
 ·have e : flatV v f = .mk 0 v.gs v.ws := by rw [flatV_eta,if_pos k0]
  rw [e] at h1 h2 h4
  have e0 : ∀ w,partsF f w = [] := by intro w; unfold partsF; simp [k0]
  rw [e0] at h2
  have hg : v.gs = [] := List.eq_nil_of_length_eq_zero (show v.gs.length = 0 from h2.symm)
  exact ⟨h1,fun _ => hg,fun h => absurd k0 h,by rw [e0,hg]; rfl,fun h => absurd k0 h⟩
 ·cases hpo : partsOk f v with
  | false =>
   have e : flatV v f = v := by rw [flatV_eta,if_neg k0,hpo]; rfl
   rw [e,valN_eta] at h
   unfold okV at h
   rw [hpo] at h
   simp at h
  | true =>
   have e : flatV v f = .mk v.n (flatVs v.gs (partsF f v)) v.ws := by rw [flatV_eta,if_neg k0,hpo]; rfl
   have hpl : (partsF f v).length = v.gs.length := by
    have := hpo
    unfold partsOk at this
    simp only [Bool.and_eq_true,decide_eq_true_eq] at this
    exact this.2
   have ep : partsF f (flatV v f) = partsF f v := by
    rw [e]
    cases v with
    | mk a gs ws => exact partsF_gs (flatVs_len gs _ hpl)
   rw [ep,e] at h3
   rw [e] at h1
   exact ⟨h1,fun h => absurd h k0,fun _ => rfl,hpl,fun _ => h3⟩
mutual
theorem flat_pt : ∀ (v : Va) (f : Fu),shapedF f = true → polyF f = true → valN 1 (flatV v f) f = true → ptV v f
 | .mk a gs ws,f,hf,hp,h => by
  obtain ⟨h1,h2,h3,h4,h5⟩ := flat_poly hf hp h
  rw [ptV]
  refine ⟨h4,?_⟩
  by_cases k0 : f.k = 0
  ·have := h2 k0
   simp only [Va.gs] at this
   subst this
   rw [ptVs]; trivial
  ·exact flats_pt gs _ h4 (fun g hg => ⟨partsF_shaped hf _ g hg,poly_parts hf hp _ g hg⟩) (h5 k0)
theorem flats_pt : ∀ (l : List Va) (fs : List Fu),fs.length = l.length → (∀ g ∈ fs,shapedF g = true ∧ polyF g = true) → valNs 1 (flatVs l fs) fs = true → ptVs l fs
 | [],_,_,_,_ => by rw [ptVs]; trivial
 | v :: l,[],h,_,_ => by simp at h
 | v :: l,f :: fs,hl,hf,h => by
  rw [flatVs,valNs,Bool.and_eq_true] at h
  obtain ⟨h1,h2⟩ := hf f (List.mem_cons_self ..)
  rw [ptVs]
  exact ⟨flat_pt v f h1 h2 h.1,flats_pt l fs (by simpa using hl) (fun g hg => hf g (List.mem_cons_of_mem _ hg)) h.2⟩
theorem val_light {n : Nat} (m : Nat) : ∀ (v : Va) (f : Fu),shapedF f = true → polyF f = true → valN n v f = true → lightV m v = true
 | .mk a gs ws,f,hf,hp,h => by
  obtain ⟨h1,h2,h3,_⟩ := valN_poly hf hp h
  simp only [Va.ws,Va.gs] at h1 h2 h3
  subst h1
  rw [lightV,vals_light m gs _ h2 (fun g hg => ⟨partsF_shaped hf _ g hg,poly_parts hf hp _ g hg⟩) h3]
  simp
theorem vals_light {n : Nat} (m : Nat) : ∀ (l : List Va) (fs : List Fu),fs.length = l.length → (∀ g ∈ fs,shapedF g = true ∧ polyF g = true) → valNs n l fs = true → lightVs m l = true
 | [],_,_,_,_ => by rw [lightVs]
 | v :: l,[],h,_,_ => by simp at h
 | v :: l,f :: fs,hl,hf,h => by
  rw [valNs,Bool.and_eq_true] at h
  obtain ⟨h1,h2⟩ := hf f (List.mem_cons_self ..)
  rw [lightVs,val_light m v f h1 h2 h.1,vals_light m l fs (by simpa using hl) (fun g hg => hf g (List.mem_cons_of_mem _ hg)) h.2]; rfl
end
end Go.Ab.Tab
/- Filling; the reference's join (71),Join (31). -/
namespace Go.Ab.Tab
open Go Go.Ab
set_option maxRecDepth 10000
set_option linter.unusedVariables false
set_option linter.unusedSimpArgs false
mutual
theorem fill_leaves (h : Nat → Int) : ∀ (v : Va) (f : Fu) (c : Nat),ptV v f → leavesV (fillV h c v f) f = (List.range' c (leavesV v f).length).map h
 | .mk a gs ws,f,c,hp => by
  rw [ptV] at hp
  rw [fillV,leavesV]
  by_cases k0 : f.k = 0
  ·rw [if_pos k0,if_pos k0,leavesV,if_pos k0]; rfl
  ·rw [if_neg k0,if_neg k0,leavesV,if_neg k0]
   have e : partsF f (.mk a (fillVs h c gs (partsF f (.mk a gs ws))) []) = partsF f (.mk a gs ws) := partsF_gs (fillVs_len h c gs _ (by omega))
   rw [e]
   exact fills_leaves h gs _ c hp.1 hp.2
theorem fills_leaves (h : Nat → Int) : ∀ (l : List Va) (fs : List Fu) (c : Nat),fs.length = l.length → ptVs l fs → leavesVs (fillVs h c l fs) fs = (List.range' c (leavesVs l fs).length).map h
 | [],fs,c,_,_ => by rw [fillVs,leavesVs]; rfl
 | v :: l,[],c,hl,_ => by simp at hl
 | v :: l,f :: fs,c,hl,hp => by
  rw [ptVs] at hp
  rw [fillVs,leavesVs,leavesVs,fill_leaves h v f c hp.1,fills_leaves h l fs _ (by simpa using hl) hp.2,List.length_append,← List.map_append]
  congr 1
  rw [List.range'_append_1]
end
theorem fill_llen (h : Nat → Int) {v : Va} {f : Fu} (c : Nat) (hp : ptV v f) : (leavesV (fillV h c v f) f).length = (leavesV v f).length := by rw [fill_leaves h v f c hp]; simp
mutual
theorem fill_fill (g h : Nat → Int) : ∀ (v : Va) (f : Fu) (c d : Nat),ptV v f → fillV g d (fillV h c v f) f = fillV g d v f
 | .mk a gs ws,f,c,d,hp => by
  rw [ptV] at hp
  rw [fillV,fillV]
  by_cases k0 : f.k = 0
  ·rw [if_pos k0,if_pos k0,fillV,if_pos k0]
  ·rw [if_neg k0,if_neg k0,fillV,if_neg k0]
   have e : partsF f (.mk a (fillVs h c gs (partsF f (.mk a gs ws))) []) = partsF f (.mk a gs ws) := partsF_gs (fillVs_len h c gs _ (by omega))
   rw [e,fills_fill g h gs _ c d hp.1 hp.2]
theorem fills_fill (g h : Nat → Int) : ∀ (l : List Va) (fs : List Fu) (c d : Nat),fs.length = l.length → ptVs l fs → fillVs g d (fillVs h c l fs) fs = fillVs g d l fs
 | [],fs,c,d,_,_ => by rw [fillVs,fillVs]
 | v :: l,[],c,d,hl,_ => by simp at hl
 | v :: l,f :: fs,c,d,hl,hp => by
  rw [ptVs] at hp
  rw [fillVs,fillVs,fillVs,fill_fill g h v f c d hp.1,fill_llen h c hp.1,fills_fill g h l fs _ _ (by simpa using hl) hp.2]
end
mutual
theorem fill_self (h : Nat → Int) {n : Nat} : ∀ (v : Va) (f : Fu) (c : Nat),shapedF f = true → polyF f = true → valN n v f = true → (∀ i x,(leavesV v f)[i]? = some x → h (c + i) = x) → fillV h c v f = v
 | .mk a gs ws,f,c,hf,hp,hv,hh => by
  obtain ⟨h1,h2,h3,h4⟩ := valN_poly hf hp hv
  simp only [Va.ws,Va.gs] at h1 h2 h3 h4
  subst h1
  rw [fillV]
  rw [leavesV] at hh
  by_cases k0 : f.k = 0
  ·have hg : gs = [] := by
    rcases h4 with h | h | h | h | h
    ·exact h.2.2.2
    all_goals exact absurd h.1 (by omega)
   subst hg
   rw [if_pos k0] at hh ⊢
   rw [show h c = a from hh 0 a rfl]
  ·rw [if_neg k0] at hh ⊢
   rw [fills_self h gs _ c h2 (fun g hg => ⟨partsF_shaped hf _ g hg,poly_parts hf hp _ g hg⟩) h3 hh]
theorem fills_self (h : Nat → Int) {n : Nat} : ∀ (l : List Va) (fs : List Fu) (c : Nat),fs.length = l.length → (∀ g ∈ fs,shapedF g = true ∧ polyF g = true) → valNs n l fs = true → (∀ i x,(leavesVs l fs)[i]? = some x → h (c + i) = x) → fillVs h c l fs = l
 | [],fs,c,_,_,_,_ => by rw [fillVs]
 | v :: l,[],c,hl,_,_,_ => by simp at hl
 | v :: l,f :: fs,c,hl,hf,hv,hh => by
  rw [valNs,Bool.and_eq_true] at hv
  obtain ⟨h1,h2⟩ := hf f (List.mem_cons_self ..)
  rw [leavesVs] at hh
  rw [fillVs,fill_self h v f c h1 h2 hv.1 (fun i x hx => hh i x (by
   have hlt := (List.getElem?_eq_some_iff.1 hx).1
   rw [List.getElem?_append_left hlt]; exact hx)),
   fills_self h l fs _ (by simpa using hl) (fun g hg => hf g (List.mem_cons_of_mem _ hg)) hv.2 fun i x hx => by
    have := hh ((leavesV v f).length + i) x (by rw [List.getElem?_append_right (by omega),Nat.add_sub_cancel_left]; exact hx)
    rw [← this]; congr 1; omega]
end
mutual
theorem fill_flat (h : Nat → Int) {n : Nat} : ∀ (v : Va) (f : Fu) (c : Nat),shapedF f = true → polyF f = true → valN n v f = true → flatV (fillV h c v f) f = flatV v f
 | .mk a gs ws,f,c,hf,hp,hv => by
  obtain ⟨h1,h2,h3,h4⟩ := valN_poly hf hp hv
  simp only [Va.ws,Va.gs] at h1 h2 h3 h4
  subst h1
  rw [fillV,flatV]
  by_cases k0 : f.k = 0
  ·have hg : gs = [] := by
    rcases h4 with h | h | h | h | h
    ·exact h.2.2.2
    all_goals exact absurd h.1 (by omega)
   subst hg
   rw [if_pos k0,if_pos k0,flatV,if_pos k0]
  ·have hl := fillVs_len h c gs (partsF f (.mk a gs [])) (by omega)
   have e : partsF f (.mk a (fillVs h c gs (partsF f (.mk a gs []))) []) = partsF f (.mk a gs []) := partsF_gs hl
   have hpo : partsOk f (.mk a gs []) = true := by
    rw [valN] at hv
    unfold okV at hv
    simp only [Bool.and_eq_true] at hv
    exact hv.1.1
   have hpo' : partsOk f (.mk a (fillVs h c gs (partsF f (.mk a gs []))) []) = true := by
    unfold partsOk at hpo ⊢
    rw [e]
    simp only [Va.n,Va.gs,hl] at hpo ⊢
    exact hpo
   rw [if_neg k0,if_neg k0,flatV,if_neg k0,hpo,hpo',if_pos rfl,if_pos rfl,e,fills_flat h gs _ c h2 (fun g hg => ⟨partsF_shaped hf _ g hg,poly_parts hf hp _ g hg⟩) h3]
theorem fills_flat (h : Nat → Int) {n : Nat} : ∀ (l : List Va) (fs : List Fu) (c : Nat),fs.length = l.length → (∀ g ∈ fs,shapedF g = true ∧ polyF g = true) → valNs n l fs = true → flatVs (fillVs h c l fs) fs = flatVs l fs
 | [],fs,c,_,_,_ => by rw [fillVs]
 | v :: l,[],c,hl,_,_ => by simp at hl
 | v :: l,f :: fs,c,hl,hf,hv => by
  rw [valNs,Bool.and_eq_true] at hv
  obtain ⟨h1,h2⟩ := hf f (List.mem_cons_self ..)
  rw [fillVs,flatVs,flatVs,fill_flat h v f c h1 h2 hv.1,fills_flat h l fs _ (by simpa using hl) (fun g hg => hf g (List.mem_cons_of_mem _ hg)) hv.2]
end
theorem fill_val (h : Nat → Int) {n m : Nat} {v : Va} {f : Fu} (hf : shapedF f = true) (hp : polyF f = true) (hv : valN n v f = true) (hh : ∀ i,i < (leavesV v f).length → 0 ≤ h i ∧ h i < m) : valN m (fillV h 0 v f) f = true ∧ nodesV (fillV h 0 v f) = nodesV v := by
 have e := fill_flat h v f 0 hf hp hv
 refine ⟨(flat_val m _ f hf hp).2 ⟨?_,fun x hx => ?_⟩,?_⟩
 ·rw [e]; exact ((flat_val n v f hf hp).1 hv).1
 ·rw [fill_leaves h v f 0 (val_pt v f hv)] at hx
  obtain ⟨i,hi,rfl⟩ := List.mem_map.1 hx
  rw [List.mem_range'_1] at hi
  exact hh i (by omega)
 ·rw [← flatV_nodes (fillV h 0 v f) f,e,flatV_nodes]
theorem join_split {f : Fu} (hf : shapedF f = true) (hp : polyF f = true) {n : Nat} {v : Va} (hv : valN n v f = true) : joinV (leavesV v f) (shapeV v f) f = v := by
 unfold joinV shapeV
 rw [fill_fill _ _ v f 0 0 (val_pt v f hv)]
 refine fill_self _ v f 0 hf hp hv fun i x hx => ?_
 rw [Nat.zero_add,hx]; rfl
end Go.Ab.Tab
/- Proved: for every input,ectypelaw12.PolySplits returns true and its arguments read afterwards as before. Conditions: those of the given card (the package variable ectype/functor.forms starts as the program's text lays it); nothing more. -/
namespace Go.Ab.Tab
open Go Go.Ab
set_option maxRecDepth 10000
set_option linter.unusedVariables false
set_option linter.unusedSimpArgs false
theorem same23 (l : List Int) (hl : l.length ≤ maxLen) (D : Nat) : Go.Ab.Loc Pg Gl D 23 [encI l,encI l] [] (.bool true) [] := by
 have h := spec23 l l hl D
 rwa [decide_eq_true rfl] at h
end Go.Ab.Tab
/- The reference's copies (118,117,92),Shift (93),Sum (62),Equal (24). -/
namespace Go.Ab.Tab
open Go Go.Ab
set_option maxRecDepth 10000
set_option linter.unusedVariables false
set_option linter.unusedSimpArgs false
theorem l118v (D : Nat) (v : Va) (hvl : v.gs.length ≤ 2 ^ 30) (hrec : ∀ (i : Nat) (h1 : i < v.gs.length),∀ (D : Nat),Go.Ab.Loc Pg Gl D 118 [encV v.gs[i]] [] (encV v.gs[i]) []) (S) (r : AV) :
  ∀ (j i : Nat) (acc : List Va) (τ ω),i + j = v.gs.length → acc.length = i →
  τ 2 = .ptr D 2 1 0 → τ 3 = .ptr D 3 1 0 → τ 13 = .sl 3 (v.gs.map encV) .no → τ 14 = .int .i64 v.gs.length → τ 15 = .int .i64 i →
  ω 2 = (1,.cells [.int .i64 0,.sl 3 [] .tip,.sl 1 [] .tip]) → (∃ tw,ω 3 = (1,.cells [.int .i64 v.n,.sl 3 (acc.map encV) .tip,.sl 1 (v.ws.map (AV.int .i64)) tw])) → r = encV (.mk v.n (acc ++ v.gs.drop i) v.ws) →
  Rd (Loc Pg Gl) .im (RetQ [.cell 2 true 3] r S) [.lp c118_l0,.blk 0,.c c118_k0] (stF 28 D τ ω S) := by
 intro j
 induction j with
 | zero =>
  intro i acc τ ω hi hal h2 h3 h13 h14 h15 w2 w3 hr
  obtain ⟨tw,w3⟩ := w3
  refine Rd_lpE c118_l0.eq_1 ?_
  obtain rfl : i = v.gs.length := by omega
  rw [List.drop_length,List.append_nil,encV_mk] at hr
  cases tw <;> simp [h2,h3,h14,h15,w2,w3,c118_k0,hr]
 | succ j ih =>
  intro i acc τ ω hi hal h2 h3 h13 h14 h15 w2 w3 hr
  obtain ⟨tw,w3⟩ := w3
  refine Rd_lpE c118_l0.eq_1 ?_
  have hlt : i < v.gs.length := by omega
  have hwr := wrap_next hlt (by unfold maxLen; omega)
  have hle : (i + 1) * 56 ≤ 1099511627776 := by omega
  rw [List.drop_eq_getElem_cons hlt] at hr
  have hc := hrec i hlt (D + 1)
  simp [h3,h13,h14,h15,w3,hlt,encV_eta v.gs[i]]
  refine Rd_drCall hc (by simp [encV_eta v.gs[i]]) ?_
  generalize v.gs[i] = u at hr
  simp [encV_eta u,h3,w3,hal,hle,h15,hwr]
  refine ih (i + 1) (acc ++ [u]) _ _ (by omega) (by simp [hal]) ?_ ?_ ?_ ?_ ?_ ?_ ⟨tw,?_⟩ (by rw [hr]; simp)
  all_goals simp [h2,h3,h13,h14,w2,encV_eta u]
theorem spec118 : ∀ (v : Va),fitV v → nodesV v ≤ 2 ^ 30 → lightV 0 v = true → ∀ (D : Nat),Go.Ab.Loc Pg Gl D 118 [encV v] [] (encV v) [] := by
 refine Va.ind' fun a gs ws hrec => ?_
 intro hfit hnod hlt D
 have hfit' := (fitV_gs _).1 hfit
 rw [nodesV] at hnod
 rw [lightV,Bool.and_eq_true,decide_eq_true_eq] at hlt
 refine loc_rd mixedP tok rfl rfl fun S => ?_
 generalize hv' : Va.mk a gs ws = v at *
 have ev : v.gs = gs := by rw [← hv']; rfl
 generalize hr : encV v = r
 unfold c118
 rw [← hr,encV_eta v]
 have ew : v.ws = ws := by rw [← hv']; rfl
 have hwl : v.ws = [] := by rw [ew]; exact List.eq_nil_of_length_eq_zero (Nat.le_zero.1 hlt.2)
 simp [hwl]
 refine l118v D v (by have := nodesVs_len gs; rw [ev]; omega) (fun i h1 D => ?_) S _ v.gs.length 0 [] _ _ (by omega) rfl ?_ ?_ ?_ ?_ ?_ ?_ ⟨.no,?_⟩ ?_
 case refine_1 =>
  have hm : v.gs[i] ∈ gs := by rw [← ev]; exact List.getElem_mem h1
  exact hrec _ hm (fitVs_mem hfit'.2 _ (List.getElem_mem h1)) (by have := nodesVs_le hm; omega) (lightVs_mem hlt.1 _ hm) D
 case refine_9 => simp [encV_mk,hwl]
 all_goals simp [hwl]
theorem l117 (D : Nat) (f : Fu) (hvl : f.gs.length ≤ 2 ^ 30) (hrec : ∀ (i : Nat) (h1 : i < f.gs.length),∀ (D : Nat),Go.Ab.Loc Pg Gl D 117 [encF f.gs[i]] [] (encF f.gs[i]) []) (S) (r : AV) :
  ∀ (j i : Nat) (acc : List Fu) (τ ω),i + j = f.gs.length → acc.length = i →
  τ 2 = .ptr D 2 1 0 → τ 3 = .ptr D 3 1 0 → τ 12 = .sl 3 (f.gs.map encF) .no → τ 13 = .int .i64 f.gs.length → τ 14 = .int .i64 i →
  ω 2 = (1,.cells [.int .i64 0,.int .i64 0,.sl 3 [] .tip]) → ω 3 = (1,.cells [.int .i64 f.k,.int .i64 f.n,.sl 3 (acc.map encF) .tip]) → r = encF (.mk f.k f.n (acc ++ f.gs.drop i)) →
  Rd (Loc Pg Gl) .im (RetQ [.cell 2 true 3] r S) [.lp c117_l0,.blk 0,.c c117_k0] (stF 27 D τ ω S) := by
 intro j
 induction j with
 | zero =>
  intro i acc τ ω hi hal h2 h3 h12 h13 h14 w2 w3 hr
  refine Rd_lpE c117_l0.eq_1 ?_
  obtain rfl : i = f.gs.length := by omega
  rw [List.drop_length,List.append_nil,encF_mk] at hr
  simp [h2,h3,h13,h14,w2,w3,c117_k0,hr]
 | succ j ih =>
  intro i acc τ ω hi hal h2 h3 h12 h13 h14 w2 w3 hr
  refine Rd_lpE c117_l0.eq_1 ?_
  have hlt : i < f.gs.length := by omega
  have hwr := wrap_next hlt (by unfold maxLen; omega)
  have hle : (i + 1) * 40 ≤ 1099511627776 := by omega
  rw [List.drop_eq_getElem_cons hlt] at hr
  have hc := hrec i hlt (D + 1)
  simp [h3,h12,h13,h14,w3,hlt,encF_eta f.gs[i]]
  refine Rd_drCall hc (by simp [encF_eta f.gs[i]]) ?_
  generalize f.gs[i] = u at hr
  simp [encF_eta u,h3,w3,hal,hle,h14,hwr]
  refine ih (i + 1) (acc ++ [u]) _ _ (by omega) (by simp [hal]) ?_ ?_ ?_ ?_ ?_ ?_ ?_ (by rw [hr]; simp)
  all_goals simp [h2,h3,h12,h13,w2,encF_eta u]
theorem spec117 : ∀ (f : Fu),fitF f → nodesF f ≤ 2 ^ 30 → ∀ (D : Nat),Go.Ab.Loc Pg Gl D 117 [encF f] [] (encF f) [] := by
 refine Fu.ind' fun k n gs hrec => ?_
 intro hfit hnod D
 rw [fitF] at hfit
 rw [nodesF] at hnod
 refine loc_rd mixedP tok rfl rfl fun S => ?_
 generalize hv' : Fu.mk k n gs = f at *
 have ev : f.gs = gs := by rw [← hv']; rfl
 generalize hr : encF f = r
 unfold c117
 rw [← hr,encF_eta f]
 simp
 refine l117 D f (by have := nodesFs_len gs; rw [ev]; omega) (fun i h1 D => ?_) S _ f.gs.length 0 [] _ _ (by omega) rfl ?_ ?_ ?_ ?_ ?_ ?_ ?_ ?_
 case refine_1 =>
  have hm : f.gs[i] ∈ gs := by rw [← ev]; exact List.getElem_mem h1
  exact hrec _ hm (fitFs_mem hfit.2 _ hm) (by have := nodesFs_le hm; omega) D
 case refine_9 => simp [encF_mk]
 all_goals simp
end Go.Ab.Tab
/- All values over one state,in order,however many; what the program's and the reference's lists have to do with them. -/
namespace Go.Ab.Tab
open Go Go.Ab
set_option maxRecDepth 10000
set_option linter.unusedVariables false
set_option linter.unusedSimpArgs false
end Go.Ab.Tab
/- The reference's count (45),least (79). -/
namespace Go.Ab.Tab
open Go Go.Ab
set_option maxRecDepth 10000
set_option linter.unusedVariables false
set_option linter.unusedSimpArgs false
end Go.Ab.Tab
/- The reference's lists (80). -/
namespace Go.Ab.Tab
open Go Go.Ab
set_option maxRecDepth 10000
set_option linter.unusedVariables false
set_option linter.unusedSimpArgs false
end Go.Ab.Tab
/- The reference's some (46). -/
namespace Go.Ab.Tab
open Go Go.Ab
set_option maxRecDepth 10000
set_option linter.unusedVariables false
set_option linter.unusedSimpArgs false
end Go.Ab.Tab
/- The shapes of a functor: the two lists are one; it is in order; the reference's Shapes (12). -/
namespace Go.Ab.Tab
open Go Go.Ab
set_option maxRecDepth 10000
set_option linter.unusedVariables false
set_option linter.unusedSimpArgs false
end Go.Ab.Tab
/- PolyShapes: pieces. -/
namespace Go.Ab.Tab
open Go Go.Ab
set_option maxRecDepth 10000
set_option linter.unusedVariables false
set_option linter.unusedSimpArgs false
mutual
theorem map_fill (to : List Int) {n : Nat} (h : Nat → Int) : ∀ (v : Va) (f : Fu) (c : Nat),shapedF f = true → polyF f = true → valN n v f = true → (∀ i x,(leavesV v f)[i]? = some x → h (c + i) = to[x.toNat]?.getD 0) → mapV to v f = fillV h c v f
 | .mk a gs ws,f,c,hf,hp,hv,hh => by
  obtain ⟨h1,h2,h3,h4⟩ := valN_poly hf hp hv
  simp only [Va.ws,Va.gs] at h1 h2 h3 h4
  subst h1
  rw [leavesV] at hh
  rw [mapV,fillV]
  by_cases k0 : f.k = 0
  ·rw [if_pos k0] at hh
   rw [if_pos k0,if_pos k0,show h c = to[a.toNat]?.getD 0 from hh 0 a rfl]
  ·rw [if_neg k0] at hh
   rw [if_neg k0,if_neg k0]
   unfold putV
   rw [poly_sets hp,if_neg (by decide),maps_fill to h gs _ c h2 (fun g hg => ⟨partsF_shaped hf _ g hg,poly_parts hf hp _ g hg⟩) h3 hh]
   rfl
theorem maps_fill (to : List Int) {n : Nat} (h : Nat → Int) : ∀ (l : List Va) (fs : List Fu) (c : Nat),fs.length = l.length → (∀ g ∈ fs,shapedF g = true ∧ polyF g = true) → valNs n l fs = true → (∀ i x,(leavesVs l fs)[i]? = some x → h (c + i) = to[x.toNat]?.getD 0) → mapVs to l fs = fillVs h c l fs
 | [],fs,c,_,_,_,_ => by rw [mapVs,fillVs]
 | v :: l,[],c,hl,_,_,_ => by simp at hl
 | v :: l,f :: fs,c,hl,hf,hv,hh => by
  rw [valNs,Bool.and_eq_true] at hv
  obtain ⟨h1,h2⟩ := hf f (List.mem_cons_self ..)
  rw [leavesVs] at hh
  rw [mapVs,fillVs,map_fill to h v f c h1 h2 hv.1 (fun i x hx => hh i x (by
   have hlt := (List.getElem?_eq_some_iff.1 hx).1
   rw [List.getElem?_append_left hlt]; exact hx)),
   maps_fill to h l fs (c + (leavesV v f).length) (by simpa using hl) (fun g hg => hf g (List.mem_cons_of_mem _ hg)) hv.2 fun i x hx => by
    have := hh ((leavesV v f).length + i) x (by rw [List.getElem?_append_right (by omega),Nat.add_sub_cancel_left]; exact hx)
    rw [← this]; congr 1; omega]
end
theorem fill_flat_nodes {h : Nat → Int} {n : Nat} {v : Va} {f : Fu} (hf : shapedF f = true) (hp : polyF f = true) (hv : valN n v f = true) : nodesV (fillV h 0 v f) = nodesV v := by
 rw [← flatV_nodes (fillV h 0 v f) f,fill_flat h v f 0 hf hp hv,flatV_nodes]
def mapL (to : List Int) (l : List Int) : List Int := l.map fun x => to[x.toNat]?.getD 0
theorem map_props {f : Fu} (hf : shapedF f = true) (hp : polyF f = true) {n : Nat} {v : Va} (hv : valN n v f = true) (to : List Int) :
  shapeV (mapV to v f) f = shapeV v f ∧ leavesV (mapV to v f) f = mapL to (leavesV v f) ∧ (∀ m : Nat,(∀ x ∈ mapL to (leavesV v f),0 ≤ x ∧ x < m) → valN m (mapV to v f) f = true) ∧ nodesV (mapV to v f) = nodesV v := by
 have hpt := val_pt v f hv
 have e := map_fill to (fun c => to[((leavesV v f)[c]?.getD 0).toNat]?.getD 0) v f 0 hf hp hv (fun i x hx => by rw [Nat.zero_add,hx]; rfl)
 have el : leavesV (mapV to v f) f = mapL to (leavesV v f) := by
  rw [e,fill_leaves _ v f 0 hpt]
  apply List.ext_getElem (by simp [mapL])
  intro i h1 h2
  simp [mapL] at h2
  simp [mapL,h2]
 refine ⟨?_,el,fun m hm => ?_,?_⟩
 ·rw [e]; unfold shapeV; rw [fill_fill _ _ v f 0 0 hpt]
 ·rw [e]
  refine (fill_val _ (m := m) hf hp hv fun i hi => ?_).1
  refine hm _ ?_
  unfold mapL
  refine List.mem_map.2 ⟨(leavesV v f)[i],List.getElem_mem hi,?_⟩
  rw [List.getElem?_eq_getElem hi,Option.getD_some]
 ·rw [e,fill_flat_nodes hf hp hv]
end Go.Ab.Tab
