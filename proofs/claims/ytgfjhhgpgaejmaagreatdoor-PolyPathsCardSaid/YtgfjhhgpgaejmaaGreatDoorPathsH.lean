/- Proved: for every input, ectypelaw12.PolyPaths returns true and its arguments read afterwards as before. Conditions: those of the given card (the package variable ectype/functor.forms starts as the program's text lays it); nothing more. -/
import Derived.Test.YtgfjhhgpgaejmaaGreatDoorPathsG
import Derived.Test.YtgfjhhgpgaejmaaGreatDoorPathsB4
namespace Go.Ab.Tab
open Go Go.Ab
set_option maxRecDepth 10000
set_option linter.unusedVariables false
set_option linter.unusedSimpArgs false
def inY (s : Sy) (x : Int) : Bool := decide (0 ≤ x ∧ x < s.m.length)
theorem given_want (s : Sy) (x : Int) : givenR s x = if fault1 s = 0 ∧ inY s x = false then 1 else fault1 s := by
 unfold givenR fault1 inY
 cases hi : isY s with
 | false => simp
 | true =>
  have hF : isF s.f = true := by unfold isY at hi; simp only [Bool.and_eq_true] at hi; exact hi.1
  unfold askF
  rw [hF]
  cases hp : polyF s.f with
  | false => simp
  | true =>
   by_cases h : x < 0 ∨ (s.m.length : Int) ≤ x
   ·have : ¬ (0 ≤ x ∧ x < s.m.length) := by omega
    simp [h,this]
   ·have : 0 ≤ x ∧ x < s.m.length := by omega
    simp [h,this]
theorem law6 (s : Sy) (hf : fitF s.f) (hl : s.m.length ≤ maxLen) (hv : ∀ v ∈ s.m,fitV v) (x : Int) (ps : List Int) (hps : ps.length ≤ maxLen) :
  Go.Ab.Loc Pg Gl 0 6 [encY s,.int .i64 x,encI ps] [] (.bool true) [] := by
 refine loc_rd mixedP tok rfl rfl fun S => ?_
 have h9 := spec9 1
 have h19 := spec19 s hf hl hv 1 3000 (by omega)
 unfold c6
 have hE := encY.eq_1 s
 rw [hE] at h19 ⊢
 simp [encI]
 refine Rd_call h19 (by simp) ?_
 cases hfew : fewY 3000 s with
 | false =>
  simp
  refine Rd_call h9 (by simp) ?_
  simp
 | true =>
 unfold fewY at hfew
 simp only [Bool.and_eq_true,decide_eq_true_eq] at hfew
 have hbn : nodesVs s.m ≤ 2 ^ 32 := by have := fewL_sum (by omega) hfew.2.2; omega
 by_cases h300 : (300 : Int) < ps.length
 ·simp [h300]
  refine Rd_call h9 (by simp) ?_
  simp
 have h32 := spec32 s hf hl hv hbn x ps hps 1
 have h33 := spec33 s hf hl hv hbn x ps hps 1
 have h21 := spec21_1 s hf hl hv hbn 1
 have h18 := spec18 s x 1
 have hw := given_want s x
 simp [h300]
 rw [hE,encI] at h32 h33
 rw [hE] at h21 h18
 refine Rd_call h32 (by simp) ?_
 simp
 refine Rd_call h33 (by simp) ?_
 simp [encV_eta ((afterR s x ps).1.getD v0)]
 refine Rd_call h21 (by simp) ?_
 have h27 := spec27 v0 (by simp [v0,fitV,fitVs,maxLen]) 1
 rw [encV_v0,decide_eq_true (cmpV_refl v0)] at h27
 by_cases hg : givenR s x = 0
 case neg =>
  have ef : followR s x ps = (none,givenR s x) := by unfold followR; rw [if_pos hg]
  have ea : afterR s x ps = (none,givenR s x) := by unfold afterR; rw [ef]; rfl
  by_cases hz : fault1 s = 0
  ·cases hin : inY s x with
   | true => rw [hz,hin] at hw; simp at hw; exact absurd hw hg
   | false =>
    rw [hz,hin] at hw
    simp at hw
    have hd : decide (0 ≤ x ∧ x < (s.m.length : Int)) = false := hin
    rw [hd] at h18
    simp [hz]
    refine Rd_call h18 (by simp) ?_
    simp [c6_j0,ef,ea,hw,v0]
    refine Rd_call h27 (by simp [Va.n,Va.gs,Va.ws]) ?_
    simp
    refine Rd_call h9 (by simp) ?_
    simp
  ·rw [if_neg (fun h => hz h.1)] at hw
   simp [hz,c6_j0,ef,ea,hw,v0]
   refine Rd_call h27 (by simp [Va.n,Va.gs,Va.ws]) ?_
   simp
   refine Rd_call h9 (by simp) ?_
   simp
 case pos =>
  obtain ⟨hP,m,rfl,hm⟩ := given_ok hf hv hg
  have hz : fault1 s = 0 := by
   rw [hg] at hw
   split at hw
   ·cases hw
   ·exact hw.symm
  have hd : decide (0 ≤ (m : Int) ∧ (m : Int) < (s.m.length : Int)) = true := by simp; omega
  rw [hd] at h18
  have ef : followR s m ps = (walkF s m ps,0) := by unfold followR; rw [if_neg (by simp [hg])]; rfl
  have ea : afterR s m ps = ((walkF s m ps).map fun y => shapeV (s.m[y]?.getD v0) s.f,0) := by unfold afterR; rw [ef]
  have h34 := spec34 s hP m hm ps hps 1
  have h35 := spec35 s hP m hm ps hps 1
  rw [hE,encI] at h34 h35
  simp [hz]
  refine Rd_call h18 (by simp) ?_
  simp [c6_j0,ef,ea]
  have hfit : fitV (((walkF s m ps).map fun y => shapeV (s.m[y]?.getD v0) s.f).getD v0) := by
   cases hw : walkF s m ps with
   | none => simp [v0,fitV,fitVs,maxLen]
   | some y =>
    have hy := walkF_lt hP ps m y hm hw
    simp [hy]
    have hmem := List.getElem_mem hy
    exact shape_fit _ (hv _ hmem) (by have := (valV_ok (hP.va _ hmem)).1; omega) _
  generalize ((walkF s m ps).map fun y => shapeV (s.m[y]?.getD v0) s.f).getD v0 = w at h35 hfit
  refine Rd_call h34 (by simp) ?_
  simp [rWalk]
  refine Rd_call h35 (by simp) ?_
  have h13 := spec13 w w hfit 1
  rw [decide_eq_true (cmpV_refl w),encV_eta w] at h13
  simp [encV_eta w]
  refine Rd_call h13 (by simp) ?_
  simp
  refine Rd_call h9 (by simp) ?_
  simp
end Go.Ab.Tab
/- Arguments as data. -/
namespace Go.Ab
open Go
section
variable {P : Program} {t : TypeId} {n : Nat} {cs : List AV}
theorem ty_int {k : IntKind} (hu : P.underlying t = some (.int k)) (h : tyOk P n t cs) : ∃ i,cs = [.int k i] ∧ (Lit.int k i).wf = true := by
 cases n with
 | zero => cases h
 | succ n => simpa only [tyOk,hu] using h
theorem ty_slice {e : TypeId} (hu : P.underlying t = some (.slice e)) (h : tyOk P n t cs) : ∃ xs n',cs = [.sl (P.cellsOf e) xs .no] ∧ xs.length ≤ maxLen ∧ ∀ x ∈ xs,∃ c,x = mkV P e c ∧ tyOk P n' e c := by
 cases n with
 | zero => cases h
 | succ n =>
  simp only [tyOk,hu] at h
  obtain ⟨xs,h1,h2,h3⟩ := h
  exact ⟨xs,n,h1,h2,h3⟩
def fieldsOf (P : Program) (t : TypeId) : List (TypeId × Nat) := match P.underlying t with
 | some (.struct fs) => fs.toList.map fun f => (f.type,f.offset)
 | _ => []
def isStruct (P : Program) (t : TypeId) : Bool := match P.underlying t with
 | some (.struct _) => true
 | _ => false
theorem map_exists {α β : Type} (f : α → β) (q : α → Prop) : ∀ (l : List β),(∀ x ∈ l,∃ a,x = f a ∧ q a) → ∃ bs : List α,l = bs.map f ∧ ∀ a ∈ bs,q a
 | [],_ => ⟨[],rfl,by simp⟩
 | x :: l,h => by
  obtain ⟨a,h1,h2⟩ := h x (by simp)
  obtain ⟨bs,h3,h4⟩ := map_exists f q l fun y hy => h y (by simp [hy])
  exact ⟨a :: bs,by simp [h1,h3],fun b hb => by rcases List.mem_cons.1 hb with rfl | hb; exact h2; exact h4 b hb⟩
theorem mkV_one (h : isAggT P t = false) (c : AV) : mkV P t [c] = c := by unfold mkV; rw [h]; rfl
theorem mkV_agg (h : isAggT P t = true) : mkV P t cs = .agg cs := by unfold mkV; rw [h]; rfl
end
set_option maxRecDepth 10000
set_option linter.unusedVariables false
set_option linter.unusedSimpArgs false
namespace Tab
theorem u3 : Pg.underlying 3 = some (.int .i64) := by kernel_rfl
theorem u26 : Pg.underlying 26 = some (.slice 3) := by kernel_rfl
theorem z3 : Pg.cellsOf 3 = 1 := by kernel_rfl
theorem z26 : Pg.cellsOf 26 = 1 := by kernel_rfl
theorem g3 : isAggT Pg 3 = false := by kernel_rfl
theorem g26 : isAggT Pg 26 = false := by kernel_rfl
theorem ty26 {n : Nat} {cs : List AV} (h : tyOk Pg n 26 cs) : ∃ l : List Int,cs = [encI l] ∧ l.length ≤ maxLen := by
 obtain ⟨xs,n',rfl,h2,h3⟩ := ty_slice u26 h
 obtain ⟨l,rfl,_⟩ := map_exists (AV.int .i64) (fun _ => True) xs fun x hx => by
  obtain ⟨c,rfl,hc⟩ := h3 x hx
  obtain ⟨i,rfl,_⟩ := ty_int u3 hc
  exact ⟨i,mkV_one g3 _,trivial⟩
 exact ⟨l,by rw [z3]; rfl,by simpa using h2⟩
theorem arg3 {a : AV} (h : Arg Pg 3 a) : ∃ n : Int,a = .int .i64 n := by
 obtain ⟨fuel,cs,h1,h2,rfl⟩ := h
 obtain ⟨i,rfl,_⟩ := ty_int u3 h1
 exact ⟨i,mkV_one g3 _⟩
theorem arg26 {a : AV} (h : Arg Pg 26 a) : ∃ l : List Int,a = encI l ∧ l.length ≤ maxLen := by
 obtain ⟨fuel,cs,h1,h2,rfl⟩ := h
 obtain ⟨l,rfl,hl⟩ := ty26 h1
 exact ⟨l,mkV_one g26 _,hl⟩
theorem u22 : Pg.underlying 22 = some (.slice 24) := by kernel_rfl
theorem u25 : Pg.underlying 25 = some (.slice 28) := by kernel_rfl
theorem s24 : isStruct Pg 24 = true := by kernel_rfl
theorem s28 : isStruct Pg 28 = true := by kernel_rfl
theorem s46 : isStruct Pg 46 = true := by kernel_rfl
theorem f24 : fieldsOf Pg 24 = [(3,0),(3,1),(22,2)] := by kernel_rfl
theorem f28 : fieldsOf Pg 28 = [(3,0),(25,1),(26,2)] := by kernel_rfl
theorem f46 : fieldsOf Pg 46 = [(24,0),(25,3)] := by kernel_rfl
theorem z24 : Pg.cellsOf 24 = 3 := by kernel_rfl
theorem z28 : Pg.cellsOf 28 = 3 := by kernel_rfl
theorem z46 : Pg.cellsOf 46 = 4 := by kernel_rfl
theorem z22 : Pg.cellsOf 22 = 1 := by kernel_rfl
theorem z25 : Pg.cellsOf 25 = 1 := by kernel_rfl
theorem g24 : isAggT Pg 24 = true := by kernel_rfl
theorem g28 : isAggT Pg 28 = true := by kernel_rfl
theorem g46 : isAggT Pg 46 = true := by kernel_rfl
theorem ty_slice' {P : Program} {t e : TypeId} {n : Nat} {cs : List AV} (hu : P.underlying t = some (.slice e)) (h : tyOk P (n + 1) t cs) : ∃ xs,cs = [.sl (P.cellsOf e) xs .no] ∧ xs.length ≤ maxLen ∧ ∀ x ∈ xs,∃ c,x = mkV P e c ∧ tyOk P n e c := by
 simp only [tyOk,hu] at h
 exact h
theorem ty_struct' {P : Program} {t : TypeId} {n : Nat} {cs : List AV} (hs : isStruct P t = true) (h : tyOk P (n + 1) t cs) : cs.length = P.cellsOf t ∧ ∀ f ∈ fieldsOf P t,tyOk P n f.1 ((cs.drop f.2).take (P.cellsOf f.1)) := by
 unfold isStruct at hs
 unfold fieldsOf
 cases hu : P.underlying t with
 | none => rw [hu] at hs; cases hs
 | some d =>
  rw [hu] at hs
  cases d with
  | struct fs =>
   simp only [tyOk,hu] at h
   refine ⟨h.1,fun f hf => ?_⟩
   obtain ⟨g,hg,rfl⟩ := List.mem_map.1 hf
   exact h.2 g hg
  | _ => cases hs
theorem fitFs_of : ∀ {l : List Fu},(∀ a ∈ l,fitF a) → fitFs l
 | [],_ => by rw [fitFs]; trivial
 | a :: l,h => by rw [fitFs]; exact ⟨h a (by simp),fitFs_of fun b hb => h b (by simp [hb])⟩
theorem three {cs : List AV} (h : cs.length = 3) : ∃ a b c,cs = [a,b,c] := by
 match cs,h with
 | [a,b,c],_ => exact ⟨a,b,c,rfl⟩
theorem ty24 : ∀ (n : Nat) {cs : List AV},tyOk Pg n 24 cs → ∃ f : Fu,cs = [.int .i64 f.k,.int .i64 f.n,.sl 3 (f.gs.map encF) .no] ∧ fitF f := by
 intro n
 induction n using Nat.strongRecOn with
 | ind n ih =>
  intro cs h
  cases n with
  | zero => cases h
  | succ n =>
   obtain ⟨hl,hf⟩ := ty_struct' s24 h
   rw [f24] at hf
   rw [z24] at hl
   obtain ⟨a,b,c,rfl⟩ := three hl
   have k0 := hf (3,0) (by simp)
   have k1 := hf (3,1) (by simp)
   have k2 := hf (22,2) (by simp)
   rw [z3] at k0 k1
   rw [z22] at k2
   obtain ⟨i,e0,_⟩ := ty_int u3 k0
   obtain ⟨j,e1,_⟩ := ty_int u3 k1
   simp at e0 e1
   subst e0; subst e1
   cases n with
   | zero => cases k2
   | succ n =>
    obtain ⟨xs,e2,h2,h3⟩ := ty_slice' u22 k2
    obtain ⟨gs,hgs,hfit⟩ := map_exists encF fitF xs fun x hx => by
     obtain ⟨c',rfl,hc⟩ := h3 x hx
     obtain ⟨f,rfl,hff⟩ := ih n (by omega) hc
     exact ⟨f,by rw [mkV_agg g24,encF_eta],hff⟩
    subst hgs
    rw [z24] at e2
    simp at e2
    subst e2
    refine ⟨.mk i j gs,rfl,?_⟩
    rw [fitF]
    exact ⟨by simpa using h2,fitFs_of hfit⟩
theorem ty28 : ∀ (n : Nat) {cs : List AV},tyOk Pg n 28 cs → ∃ v : Va,cs = [.int .i64 v.n,.sl 3 (v.gs.map encV) .no,.sl 1 (v.ws.map (AV.int .i64)) .no] ∧ fitV v := by
 intro n
 induction n using Nat.strongRecOn with
 | ind n ih =>
  intro cs h
  cases n with
  | zero => cases h
  | succ n =>
   obtain ⟨hl,hf⟩ := ty_struct' s28 h
   rw [f28] at hf
   rw [z28] at hl
   obtain ⟨a,b,c,rfl⟩ := three hl
   have k0 := hf (3,0) (by simp)
   have k1 := hf (25,1) (by simp)
   have k2 := hf (26,2) (by simp)
   rw [z3] at k0
   rw [z25] at k1
   rw [z26] at k2
   obtain ⟨i,e0,_⟩ := ty_int u3 k0
   obtain ⟨ws,e2,hws⟩ := ty26 k2
   simp at e0 e2
   subst e0; subst e2
   cases n with
   | zero => cases k1
   | succ n =>
    obtain ⟨xs,e1,h2,h3⟩ := ty_slice' u25 k1
    obtain ⟨gs,hgs,hfit⟩ := map_exists encV fitV xs fun x hx => by
     obtain ⟨c',rfl,hc⟩ := h3 x hx
     obtain ⟨f,rfl,hff⟩ := ih n (by omega) hc
     exact ⟨f,by rw [mkV_agg g28,encV_eta],hff⟩
    subst hgs
    rw [z28] at e1
    simp at e1
    subst e1
    refine ⟨.mk i gs ws,rfl,?_⟩
    rw [fitV]
    exact ⟨⟨by simpa using h2,hws⟩,fitVs_of hfit⟩
theorem arg46 {a : AV} (h : Arg Pg 46 a) : ∃ s : Sy,a = encY s ∧ fitF s.f ∧ s.m.length ≤ maxLen ∧ ∀ v ∈ s.m,fitV v := by
 obtain ⟨fuel,cs,h1,h2,rfl⟩ := h
 cases fuel with
 | zero => cases h1
 | succ n =>
  obtain ⟨hl,hf⟩ := ty_struct' s46 h1
  rw [f46] at hf
  rw [z46] at hl
  obtain ⟨a,b,c,d,rfl⟩ : ∃ a b c d,cs = [a,b,c,d] := by
   match cs,hl with
   | [a,b,c,d],_ => exact ⟨a,b,c,d,rfl⟩
  have k0 := hf (24,0) (by simp)
  have k1 := hf (25,3) (by simp)
  rw [z24] at k0
  rw [z25] at k1
  obtain ⟨f,e0,hff⟩ := ty24 _ k0
  simp at e0
  obtain ⟨rfl,rfl,rfl⟩ := e0
  cases n with
  | zero => cases k1
  | succ n =>
   obtain ⟨xs,e1,h2',h3⟩ := ty_slice' u25 k1
   obtain ⟨m,hm,hfit⟩ := map_exists encV fitV xs fun x hx => by
    obtain ⟨c',rfl,hc⟩ := h3 x hx
    obtain ⟨v,rfl,hvv⟩ := ty28 _ hc
    exact ⟨v,by rw [mkV_agg g28,encV_eta],hvv⟩
   subst hm
   rw [z28] at e1
   simp at e1
   subst e1
   refine ⟨⟨f,m⟩,by rw [mkV_agg g46]; rfl,hff,by simpa using h2',hfit⟩
end Tab
end Go.Ab
