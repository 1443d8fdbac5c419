/- All values over one state, in order, however many; what the program's and the reference's lists have to do with them. -/
import Derived.Test.YtgfjhhgpgaejmaaGreatDoorShapesH
import Derived.Test.YtgfjhhgpgaejmaaGreatDoorShapesE
namespace Go.Ab.Tab
open Go Go.Ab
set_option maxRecDepth 10000
set_option linter.unusedVariables false
set_option linter.unusedSimpArgs false
def sumI : Nat → List (List Va) → List Va
 | _,[] => []
 | n,l :: r => (l.map fun v => .mk n [v] []) ++ sumI (n + 1) r
def lexL : List (List Va) → List (List Va)
 | [] => [[]]
 | l :: r => l.flatMap fun u => (lexL r).map (u :: ·)
mutual
def allV : Fu → List Va
 | .mk k n gs => if k = 0 then [v0] else if k = 1 then (List.range n.toNat).map fun (i : Nat) => .mk i [] [] else if k = 3 then sumI 0 (allVs gs)
  else (lexL (if k = 4 then List.replicate n.toNat ((allVs gs).headD []) else allVs gs)).map fun l => .mk 0 l []
def allVs : List Fu → List (List Va)
 | [] => []
 | f :: l => allV f :: allVs l
end
theorem allVs_map : ∀ l,allVs l = l.map allV
 | [] => rfl
 | f :: l => by rw [allVs,allVs_map l]; rfl
theorem flat_len {α β : Type} (f : α → List β) (n : Nat) : ∀ (l : List α),(∀ a ∈ l,(f a).length = n) → (l.flatMap f).length = l.length * n
 | [],_ => by simp
 | a :: l,h => by
  rw [List.flatMap_cons,List.length_append,flat_len f n l (fun b hb => h b (List.mem_cons_of_mem _ hb)),h a (List.mem_cons_self ..),List.length_cons,Nat.succ_mul,Nat.add_comm]
theorem lexL_len (l : List Va) (r : List (List Va)) : (lexL (l :: r)).length = l.length * (lexL r).length := by
 rw [lexL,flat_len _ (lexL r).length _ (fun u _ => List.length_map _)]
theorem lexL_pos : ∀ (ls : List (List Va)),(∀ l ∈ ls,1 ≤ l.length) → 1 ≤ (lexL ls).length
 | [],_ => by simp [lexL]
 | l :: r,h => by
  rw [lexL_len]
  exact Nat.mul_le_mul (h l (List.mem_cons_self ..)) (lexL_pos r fun m hm => h m (List.mem_cons_of_mem _ hm))
def LimL (o : Option (List Va)) (l : List Va) : Prop := (o = some l ∧ l.length ≤ 64) ∨ (o = none ∧ 64 < l.length)
inductive LimLs : List (Option (List Va)) → List (List Va) → Prop where
 | nil : LimLs [] []
 | cons {o l os ls} : LimL o l → LimLs os ls → LimLs (o :: os) (l :: ls)
theorem sumL_lim : ∀ {os : List (Option (List Va))} {ls : List (List Va)} (n : Nat) (acc : List Va),LimLs os ls → acc.length ≤ 64 → LimL (sumL n acc os) (acc ++ sumI n ls)
 | _,_,n,acc,.nil,h => by rw [sumL,sumI,List.append_nil]; exact .inl ⟨rfl,h⟩
 | _,_,n,acc,@LimLs.cons o l os ls h1 h2,h => by
  rw [sumI]
  rcases h1 with ⟨rfl,h1⟩ | ⟨rfl,h1⟩
  ·rw [sumL]
   by_cases c : 64 < acc.length + l.length
   ·rw [if_pos c]
    refine .inr ⟨rfl,?_⟩
    rw [List.length_append,List.length_append,List.length_map]
    omega
   ·rw [if_neg c]
    have := sumL_lim (n + 1) (acc ++ l.map fun v => .mk n [v] []) h2 (by rw [List.length_append,List.length_map]; omega)
    rwa [List.append_assoc] at this
  ·rw [sumL]
   refine .inr ⟨rfl,?_⟩
   rw [List.length_append,List.length_append,List.length_map]
   omega
def appL (acc : List Va) (r : List (List Va)) : List Va := acc.flatMap fun u => r.map fun l => .mk 0 (u.gs ++ l) []
theorem appL_len (acc : List Va) (r : List (List Va)) : (appL acc r).length = acc.length * r.length := flat_len _ _ _ fun u _ => List.length_map _
theorem appL_prodS (acc l : List Va) (r : List (List Va)) : appL (prodS acc l) r = appL acc (l.flatMap fun u => r.map (u :: ·)) := by
 unfold appL prodS
 rw [List.flatMap_assoc]
 congr 1
 funext u
 rw [List.flatMap_map,List.map_flatMap]
 congr 1
 funext v
 simp [Va.gs,Function.comp_def]
theorem appL_one (acc : List Va) (h : ∀ u ∈ acc,u = .mk 0 u.gs []) : appL acc [[]] = acc := by
 unfold appL
 induction acc with
 | nil => rfl
 | cons u acc ih =>
  rw [List.flatMap_cons,ih fun w hw => h w (List.mem_cons_of_mem _ hw)]
  simp [← h u (List.mem_cons_self ..)]
theorem prodL_lim : ∀ {os : List (Option (List Va))} {ls : List (List Va)} (acc : List Va),LimLs os ls → (∀ l ∈ ls,1 ≤ l.length) → 1 ≤ acc.length → acc.length ≤ 64 → (∀ u ∈ acc,u = .mk 0 u.gs []) → LimL (prodL acc os) (appL acc (lexL ls))
 | _,_,acc,.nil,_,_,h,hu => by rw [prodL,lexL,appL_one acc hu]; exact .inl ⟨rfl,h⟩
 | _,_,acc,@LimLs.cons o l os ls h1 h2,hp,ha,h,hu => by
  have hl := hp l (List.mem_cons_self ..)
  have hls := lexL_pos ls fun m hm => hp m (List.mem_cons_of_mem _ hm)
  have hlen : (appL acc (lexL (l :: ls))).length = acc.length * (l.length * (lexL ls).length) := by rw [appL_len,lexL_len]
  rcases h1 with ⟨rfl,h1⟩ | ⟨rfl,h1⟩
  ·rw [prodL]
   by_cases c : 64 < acc.length * l.length
   ·rw [if_pos c]
    refine .inr ⟨rfl,?_⟩
    rw [hlen,← Nat.mul_assoc]
    have := Nat.mul_le_mul (Nat.le_refl (acc.length * l.length)) hls
    omega
   ·rw [if_neg c]
    have e : lexL (l :: ls) = l.flatMap fun u => (lexL ls).map (u :: ·) := by rw [lexL]
    rw [e,← appL_prodS]
    have hlp : (prodS acc l).length = acc.length * l.length := by unfold prodS; exact flat_len _ _ _ fun u _ => List.length_map _
    refine prodL_lim (prodS acc l) h2 (fun m hm => hp m (List.mem_cons_of_mem _ hm)) (by rw [hlp]; exact Nat.mul_le_mul ha hl) (by omega) fun u hu' => ?_
    obtain ⟨w,hw,v,hv,rfl⟩ := prodS_mem hu'
    rfl
  ·rw [prodL]
   refine .inr ⟨rfl,?_⟩
   rw [hlen]
   have h1 := Nat.mul_le_mul ha (Nat.mul_le_mul (Nat.le_refl l.length) hls)
   omega
theorem lims_of : ∀ (gs : List Fu),(∀ g ∈ gs,LimL (valsF g) (allV g)) → LimLs (gs.map valsF) (gs.map allV)
 | [],_ => .nil
 | g :: gs,h => .cons (h g (List.mem_cons_self ..)) (lims_of gs fun a ha => h a (List.mem_cons_of_mem _ ha))
theorem lims_rep (o : Option (List Va)) (l : List Va) (h : LimL o l) : ∀ n,LimLs (List.replicate n o) (List.replicate n l)
 | 0 => .nil
 | n + 1 => .cons h (lims_rep o l h n)
theorem sumI_len : ∀ (ls : List (List Va)) (n : Nat),(sumI n ls).length = (ls.map List.length).sum
 | [],n => rfl
 | l :: r,n => by rw [sumI,List.length_append,List.length_map,sumI_len r,List.map_cons,List.sum_cons]
theorem poly_kinds {k n : Int} {gs : List Fu} (hf : shapedF (.mk k n gs) = true) (hp : polyF (.mk k n gs) = true) :
  (k = 0 ∧ gs = []) ∨ (k = 1 ∧ gs = [] ∧ 1 ≤ n ∧ n ≤ 16) ∨ (k = 2 ∧ ∃ a b,gs = [a,b]) ∨ (k = 3 ∧ ∃ a b,gs = [a,b]) ∨ (k = 4 ∧ 1 ≤ n ∧ n ≤ 4 ∧ ∃ a,gs = [a]) := by
 obtain ⟨h1,h2,h3,_⟩ := shaped_mk hf
 have hsets := poly_sets hp
 simp only [Fu.k] at hsets
 unfold sets wtd at hsets
 rw [Bool.or_eq_false_iff] at hsets
 have h5 := of_decide_eq_false hsets.1
 rw [Bool.or_eq_false_iff] at hsets
 have h6 := of_decide_eq_false hsets.2.1
 have h7 := of_decide_eq_false hsets.2.2
 unfold arK at h1
 unfold mostK at h2 h3
 by_cases k0 : k = 0
 ·rw [if_pos (.inl k0)] at h1
  exact .inl ⟨k0,List.eq_nil_of_length_eq_zero (by omega)⟩
 by_cases k1 : k = 1
 ·rw [if_pos (.inr k1)] at h1
  rw [if_pos k1] at h2 h3
  exact .inr (.inl ⟨k1,List.eq_nil_of_length_eq_zero (by omega),by omega,by omega⟩)
 rw [if_neg (by omega)] at h1
 by_cases k4 : k = 4
 ·rw [if_pos (by omega)] at h1
  rw [if_neg k1,if_pos k4] at h2 h3
  have hl : gs.length = 1 := by omega
  match gs,hl with
  | [a],_ => exact .inr (.inr (.inr (.inr ⟨k4,by omega,by omega,a,rfl⟩)))
 rw [if_neg (by omega)] at h1
 by_cases k23 : k = 2 ∨ k = 3
 ·rw [if_pos k23] at h1
  have hl : gs.length = 2 := by omega
  match gs,hl with
  | [a,b],_ =>
   rcases k23 with h | h
   ·exact .inr (.inr (.inl ⟨h,a,b,rfl⟩))
   ·exact .inr (.inr (.inr (.inl ⟨h,a,b,rfl⟩)))
 ·rw [if_neg k23] at h1
  omega
theorem allV_pos : ∀ (f : Fu),shapedF f = true → polyF f = true → 1 ≤ (allV f).length := by
 refine Fu.ind' fun k n gs hrec => ?_
 intro hf hp
 have hg : ∀ g ∈ gs,1 ≤ (allV g).length := fun g hg => hrec g hg ((shaped_mk hf).2.2.2 g hg) (poly_gs hp g hg)
 rw [allV,allVs_map]
 rcases poly_kinds hf hp with ⟨rfl,rfl⟩ | ⟨rfl,rfl,h1,h2⟩ | ⟨rfl,a,b,rfl⟩ | ⟨rfl,a,b,rfl⟩ | ⟨rfl,h1,h2,a,rfl⟩
 ·simp
 ·simp; omega
 ·rw [if_neg (by decide),if_neg (by decide),if_neg (by decide),if_neg (by decide),List.length_map]
  exact lexL_pos _ fun l hl => by
   obtain ⟨g,hg',rfl⟩ := List.mem_map.1 hl
   exact hg g hg'
 ·rw [if_neg (by decide),if_neg (by decide),if_pos rfl,sumI_len]
  have := hg a (by simp)
  simp
  omega
 ·rw [if_neg (by decide),if_neg (by decide),if_neg (by decide),if_pos rfl,List.length_map]
  exact lexL_pos _ fun l hl => by
   obtain ⟨_,rfl⟩ := List.mem_replicate.1 hl
   exact hg a (by simp)
theorem vals_lim : ∀ (f : Fu),shapedF f = true → polyF f = true → LimL (valsF f) (allV f) := by
 refine Fu.ind' fun k n gs hrec => ?_
 intro hf hp
 have hg : ∀ g ∈ gs,LimL (valsF g) (allV g) := fun g hg => hrec g hg ((shaped_mk hf).2.2.2 g hg) (poly_gs hp g hg)
 have hpos : ∀ g ∈ gs,1 ≤ (allV g).length := fun g hg => allV_pos g ((shaped_mk hf).2.2.2 g hg) (poly_gs hp g hg)
 rw [valsF,allV,allVs_map,valsFs_map]
 have hv0 : appL [v0] = fun r => r.map fun l => .mk 0 l [] := by funext r; simp [appL,v0,Va.gs]
 have hv0' : ∀ u ∈ [v0],u = .mk 0 u.gs [] := by intro u hu; rw [List.mem_singleton.1 hu]; rfl
 rcases poly_kinds hf hp with ⟨rfl,rfl⟩ | ⟨rfl,rfl,h1,h2⟩ | ⟨rfl,a,b,rfl⟩ | ⟨rfl,a,b,rfl⟩ | ⟨rfl,h1,h2,a,rfl⟩
 ·exact .inl ⟨rfl,by simp⟩
 ·refine Or.inl ⟨rfl,?_⟩
  show ((List.range n.toNat).map fun (i : Nat) => Va.mk i [] []).length ≤ 64
  simp
  omega
 ·have := prodL_lim [v0] (lims_of _ hg) (fun l hl => by
   obtain ⟨g,hg',rfl⟩ := List.mem_map.1 hl
   exact hpos g hg') (by simp) (by simp) hv0'
  rw [hv0] at this; exact this
 ·exact sumL_lim 0 [] (lims_of _ hg) (by simp)
 ·have := prodL_lim [v0] (lims_rep _ _ (hg a (by simp)) n.toNat) (fun l hl => by
   obtain ⟨_,rfl⟩ := List.mem_replicate.1 hl
   exact hpos a (by simp)) (by simp) (by simp) hv0'
  rw [hv0] at this; exact this
end Go.Ab.Tab
/- The reference's count (45),least (79). -/
namespace Go.Ab.Tab
open Go Go.Ab
set_option maxRecDepth 10000
set_option linter.unusedVariables false
set_option linter.unusedSimpArgs false
mutual
def leastF : Fu → Nat
 | .mk k n gs => if k = 2 then min (1 + (leastFs gs).headD 0 + ((leastFs gs).drop 1).headD 0) 100000 else if k = 3 then 1 + min ((leastFs gs).headD 0) (((leastFs gs).drop 1).headD 0)
  else if k = 4 then min (1 + n.toNat * (leastFs gs).headD 0) 100000 else 1
def leastFs : List Fu → List Nat
 | [] => []
 | f :: l => leastF f :: leastFs l
end
theorem leastFs_map : ∀ l,leastFs l = l.map leastF
 | [] => rfl
 | f :: l => by rw [leastFs,leastFs_map l]; rfl
theorem leastF_bd : ∀ (f : Fu),shapedF f = true → polyF f = true → 1 ≤ leastF f ∧ leastF f ≤ 100000 + nodesF f := by
 refine Fu.ind' fun k n gs hrec => ?_
 intro hf hp
 rw [leastF,leastFs_map,nodesF]
 split
 ·omega
 ·split
  ·rename_i h2 h3
   rcases poly_kinds hf hp with ⟨h,_⟩ | ⟨h,_⟩ | ⟨h,_⟩ | ⟨h,a,b,rfl⟩ | ⟨h,_⟩
   ·omega
   ·omega
   ·omega
   ·have h1 := hrec a (by simp) ((shaped_mk hf).2.2.2 a (by simp)) (poly_gs hp a (by simp [Fu.gs]))
    have := nodesFs_le (l := [a,b]) (a := a) (by simp)
    simp
    omega
   ·omega
  ·split
   ·omega
   ·omega
theorem min_mul {a b : Nat} (ha : 1 ≤ a) (hb : 1 ≤ b) : min (min a 1000 * min b 1000) 1000 = min (a * b) 1000 := by
 by_cases h1 : a ≤ 1000
 ·by_cases h2 : b ≤ 1000
  ·rw [Nat.min_eq_left h1,Nat.min_eq_left h2]
  ·rw [Nat.min_eq_right (by omega : 1000 ≤ b)]
   have p1 : 1 * 1000 ≤ min a 1000 * 1000 := Nat.mul_le_mul (by omega) (Nat.le_refl _)
   have p2 : 1 * b ≤ a * b := Nat.mul_le_mul ha (Nat.le_refl _)
   omega
 ·rw [Nat.min_eq_right (by omega : 1000 ≤ a)]
  have p1 : 1000 * 1 ≤ 1000 * min b 1000 := Nat.mul_le_mul (Nat.le_refl _) (by omega)
  have p2 : a * 1 ≤ a * b := Nat.mul_le_mul (Nat.le_refl _) hb
  omega
theorem spec79 : ∀ (f : Fu),shapedF f = true → polyF f = true → nodesF f ≤ 2 ^ 30 → ∀ (D : Nat),Go.Ab.Loc Pg Gl D 79 [encF f] [] (.int .i64 (leastF f)) [] := by
 refine Fu.ind' fun k n gs hrec => ?_
 intro hf hp hn D
 rw [nodesF] at hn
 have hg : ∀ g ∈ gs,(∀ D,Go.Ab.Loc Pg Gl D 79 [encF g] [] (.int .i64 (leastF g)) []) ∧ 1 ≤ leastF g ∧ leastF g ≤ 2 ^ 31 := fun g hg => by
  have hl := nodesFs_le hg
  have h1 := (shaped_mk hf).2.2.2 g hg
  have h2 := poly_gs hp g hg
  exact ⟨hrec g hg h1 h2 (by omega),(leastF_bd g h1 h2).1,by have := (leastF_bd g h1 h2).2; omega⟩
 refine loc_rd mixedP tok rfl rfl fun S => ?_
 rw [leastF,leastFs_map,encF_mk]
 unfold c79
 rcases poly_kinds hf hp with ⟨rfl,rfl⟩ | ⟨rfl,rfl,h1,h2⟩ | ⟨rfl,a,b,rfl⟩ | ⟨rfl,a,b,rfl⟩ | ⟨rfl,h1,h2,a,rfl⟩
 ·simp
 ·simp
 ·obtain ⟨a1,a2,a3⟩ := hg a (by simp)
  obtain ⟨b1,b2,b3⟩ := hg b (by simp)
  simp [encF_eta a]
  refine Rd_drCall (a1 _) (by simp [encF_eta a]) ?_
  simp [encF_eta b]
  refine Rd_drCall (b1 _) (by simp [encF_eta b]) ?_
  simp
  have w1 : IntKind.i64.wrap (1 + (leastF a : Int)) = ((1 + leastF a : Nat) : Int) := by rw [← wrap_i64_nat (n := 1 + leastF a) (by omega)]; congr 1
  have w2 : IntKind.i64.wrap (((1 + leastF a : Nat) : Int) + (leastF b : Int)) = ((1 + leastF a + leastF b : Nat) : Int) := by rw [← wrap_i64_nat (n := 1 + leastF a + leastF b) (by omega)]; congr 1
  rw [w1,w2]
  split <;> omega
 ·obtain ⟨a1,a2,a3⟩ := hg a (by simp)
  obtain ⟨b1,b2,b3⟩ := hg b (by simp)
  simp [encF_eta a]
  refine Rd_drCall (a1 _) (by simp [encF_eta a]) ?_
  simp [encF_eta b]
  refine Rd_drCall (b1 _) (by simp [encF_eta b]) ?_
  simp
  have w1 : IntKind.i64.wrap (1 + if leastF b < leastF a then (leastF b : Int) else (leastF a : Int)) = ((1 + min (leastF a) (leastF b) : Nat) : Int) := by
   rw [← wrap_i64_nat (n := 1 + min (leastF a) (leastF b)) (by omega)]
   congr 1
   split <;> omega
  rw [w1]
  omega
 ·obtain ⟨a1,a2,a3⟩ := hg a (by simp)
  simp [encF_eta a]
  refine Rd_drCall (a1 _) (by simp [encF_eta a]) ?_
  simp
  obtain ⟨m,rfl⟩ : ∃ m : Nat,n = m := ⟨n.toNat,by omega⟩
  have hml : m * leastF a ≤ 4 * leastF a := Nat.mul_le_mul (by omega) (Nat.le_refl _)
  have w0 : IntKind.i64.wrap ((m : Int) * (leastF a : Int)) = ((m * leastF a : Nat) : Int) := by rw [← wrap_i64_nat (n := m * leastF a) (by omega)]; congr 1
  have w1 : IntKind.i64.wrap (1 + ((m * leastF a : Nat) : Int)) = ((1 + m * leastF a : Nat) : Int) := by rw [← wrap_i64_nat (n := 1 + m * leastF a) (by omega)]; congr 1
  rw [w0,w1,Int.toNat_natCast]
  split <;> omega
def cntF (f : Fu) : Nat := min (allV f).length 1000
theorem l45 (D : Nat) (a : Fu) (N : Nat) (hN : N ≤ 4) (ha : ∀ D,Go.Ab.Loc Pg Gl D 45 [encF a] [] (.int .i64 (cntF a)) []) (hpos : 1 ≤ (allV a).length) (kk : Int) (S) (r : AV) :
  ∀ (j i : Nat) (τ ω),i + j = N → τ 1 = .ptr D 1 1 0 → τ 3 = .int .i64 (min (lexL (List.replicate i (allV a))).length 1000 : Nat) → τ 39 = .int .i64 N → τ 40 = .int .i64 i → ω 1 = (1,.cells [.int .i64 kk,.int .i64 N,.sl 3 [encF a] .no]) →
  r = .int .i64 (min (lexL (List.replicate N (allV a))).length 1000 : Nat) →
  Rd (Loc Pg Gl) .im (RetQ [.tmp 2] r S) [.lp c45_l0,.blk 1,.blk 0,.c c45_k0] (stF 53 D τ ω S) := by
 intro j
 induction j with
 | zero =>
  intro i τ ω hi h1 h3 h39 h40 w1 hr
  refine Rd_lpE c45_l0.eq_1 ?_
  obtain rfl : i = N := by omega
  simp [h3,h39,h40,c45_k0,hr]
  omega
 | succ j ih =>
  intro i τ ω hi h1 h3 h39 h40 w1 hr
  refine Rd_lpE c45_l0.eq_1 ?_
  have hlt : i < N := by omega
  have hwr : IntKind.i64.wrap ((i : Int) + 1) = ((i + 1 : Nat) : Int) := by rw [← wrap_i64_nat (n := i + 1) (by omega)]; rfl
  simp [h1,w1,h39,h40,hlt,h3,encF_eta a]
  refine Rd_call (ha _) (by simp [encF_eta a]) ?_
  have hp := lexL_pos (List.replicate i (allV a)) (fun l hl => by obtain ⟨_,rfl⟩ := List.mem_replicate.1 hl; exact hpos)
  have hl : (lexL (List.replicate (i + 1) (allV a))).length = (allV a).length * (lexL (List.replicate i (allV a))).length := by rw [List.replicate_succ,lexL_len]
  have hmm := min_mul hp hpos
  rw [Nat.mul_comm (lexL _).length,← hl] at hmm
  have hc : cntF a = min (allV a).length 1000 := rfl
  rw [← hc] at hmm
  generalize cntF a = c at hmm hc
  generalize hx : min (lexL (List.replicate i (allV a))).length 1000 = x at hmm h3
  have hb : x * c ≤ 1000 * 1000 := Nat.mul_le_mul (by omega) (by omega)
  have w2 : IntKind.i64.wrap ((x : Int) * (c : Int)) = ((x * c : Nat) : Int) := by rw [← wrap_i64_nat (n := x * c) (by omega)]; congr 1
  simp [h40,hwr,h3,w2]
  refine ih (i + 1) _ _ (by omega) ?_ ?_ ?_ ?_ ?_ hr
  case refine_2 =>
   rw [← hmm]
   simp
   split <;> omega
  all_goals simp [h1,h39,w1]
theorem spec45 : ∀ (f : Fu),shapedF f = true → polyF f = true → ∀ (D : Nat),Go.Ab.Loc Pg Gl D 45 [encF f] [] (.int .i64 (cntF f)) [] := by
 refine Fu.ind' fun k n gs hrec => ?_
 intro hf hp D
 have hg : ∀ g ∈ gs,(∀ D,Go.Ab.Loc Pg Gl D 45 [encF g] [] (.int .i64 (cntF g)) []) ∧ 1 ≤ (allV g).length := fun g hg => by
  have h1 := (shaped_mk hf).2.2.2 g hg
  have h2 := poly_gs hp g hg
  exact ⟨hrec g hg h1 h2,allV_pos g h1 h2⟩
 refine loc_rd mixedP tok rfl rfl fun S => ?_
 generalize hr : AV.int .i64 (cntF (.mk k n gs)) = r
 unfold cntF at hr
 rw [allV,allVs_map] at hr
 rw [encF_mk]
 unfold c45
 rcases poly_kinds hf hp with ⟨rfl,rfl⟩ | ⟨rfl,rfl,h1,h2⟩ | ⟨rfl,a,b,rfl⟩ | ⟨rfl,a,b,rfl⟩ | ⟨rfl,h1,h2,a,rfl⟩
 ·simp at hr
  simp [c45_k0,← hr]
 ·have hr' : AV.int .i64 ((min ((List.range n.toNat).map fun (i : Nat) => Va.mk i [] []).length 1000 : Nat) : Int) = r := hr
  simp at hr'
  simp [c45_k0,← hr']
  omega
 ·obtain ⟨a1,a2⟩ := hg a (by simp)
  obtain ⟨b1,b2⟩ := hg b (by simp)
  have hr' : AV.int .i64 ((min ((lexL [allV a,allV b]).map fun l => Va.mk 0 l []).length 1000 : Nat) : Int) = r := hr
  rw [List.length_map,lexL_len,lexL_len,lexL,List.length_singleton,Nat.mul_one,← min_mul a2 b2] at hr'
  simp [encF_eta a]
  refine Rd_drCall (a1 _) (by simp [encF_eta a]) ?_
  simp [encF_eta b]
  refine Rd_drCall (b1 _) (by simp [encF_eta b]) ?_
  have hc : cntF a = min (allV a).length 1000 := rfl
  have hd : cntF b = min (allV b).length 1000 := rfl
  rw [← hc,← hd] at hr'
  generalize cntF a = x at hc hr'
  generalize cntF b = y at hd hr'
  have hb : x * y ≤ 1000 * 1000 := Nat.mul_le_mul (by omega) (by omega)
  have w2 : IntKind.i64.wrap ((x : Int) * (y : Int)) = ((x * y : Nat) : Int) := by rw [← wrap_i64_nat (n := x * y) (by omega)]; congr 1
  simp [c45_k0,w2,← hr']
  split <;> omega
 ·obtain ⟨a1,a2⟩ := hg a (by simp)
  obtain ⟨b1,b2⟩ := hg b (by simp)
  have hr' : AV.int .i64 ((min (sumI 0 [allV a,allV b]).length 1000 : Nat) : Int) = r := hr
  rw [sumI_len] at hr'
  simp at hr'
  simp [encF_eta a]
  refine Rd_drCall (a1 _) (by simp [encF_eta a]) ?_
  simp [encF_eta b]
  refine Rd_drCall (b1 _) (by simp [encF_eta b]) ?_
  have hc : cntF a = min (allV a).length 1000 := rfl
  have hd : cntF b = min (allV b).length 1000 := rfl
  generalize (allV a).length = p at hc hr'
  generalize (allV b).length = q at hd hr'
  generalize cntF a = x at hc
  generalize cntF b = y at hd
  have w2 : IntKind.i64.wrap ((x : Int) + (y : Int)) = ((x + y : Nat) : Int) := by rw [← wrap_i64_nat (n := x + y) (by omega)]; congr 1
  simp [c45_k0,w2,← hr']
  split <;> omega
 ·obtain ⟨a1,a2⟩ := hg a (by simp)
  obtain ⟨m,rfl⟩ : ∃ m : Nat,n = m := ⟨n.toNat,by omega⟩
  have hr' : AV.int .i64 ((min ((lexL (List.replicate (m : Int).toNat (allV a))).map fun l => Va.mk 0 l []).length 1000 : Nat) : Int) = r := hr
  rw [List.length_map,Int.toNat_natCast] at hr'
  simp
  refine l45 D a m (by omega) a1 a2 4 S r m 0 _ _ (by omega) ?_ ?_ ?_ ?_ ?_ hr'.symm
  case refine_2 => simp [lexL]
  all_goals simp
end Go.Ab.Tab
/- The reference's lists (80). -/
namespace Go.Ab.Tab
open Go Go.Ab
set_option maxRecDepth 10000
set_option linter.unusedVariables false
set_option linter.unusedSimpArgs false
def filtV (n : Int) (l : List Va) : List Va := l.filter fun v => decide ((nodesV v : Int) ≤ n)
def filtN (n : Int) (ls : List (List Va)) : List (List Va) := ls.filter fun l => decide ((nodesVs l : Int) ≤ n)
abbrev encl (l : List Va) : AV := .sl 3 (l.map encV) .no
def restF (a : Nat) : List Fu → Nat
 | [] => a
 | g :: r => restF (min (a + leastF g) 100000) r
theorem restF_le : ∀ (r : List Fu) (a : Nat),a ≤ 100000 → restF a r ≤ 100000
 | [],a,h => h
 | g :: r,a,h => by rw [restF]; exact restF_le r _ (by omega)
theorem mem_flat2 {α : Type} {l : List α} {ls : List (List α)} {x : List α} (h : x ∈ l.flatMap fun u => ls.map (u :: ·)) : ∃ u ∈ l,∃ y ∈ ls,x = u :: y := by
 obtain ⟨u,hu,hx⟩ := List.mem_flatMap.1 h
 obtain ⟨y,hy,rfl⟩ := List.mem_map.1 hx
 exact ⟨u,hu,y,hy,rfl⟩
theorem restF_nodes : ∀ (r : List Fu) (a : Nat) (l : List Va),(∀ g ∈ r,∀ v ∈ allV g,leastF g ≤ nodesV v) → l ∈ lexL (r.map allV) → restF a r ≤ a + nodesVs l
 | [],a,l,_,h => by rw [restF]; omega
 | g :: r,a,l,hg,h => by
  rw [List.map_cons,lexL] at h
  obtain ⟨u,hu,y,hy,rfl⟩ := mem_flat2 h
  rw [restF,nodesVs]
  have h1 := hg g (List.mem_cons_self ..) u hu
  have h2 := restF_nodes r (min (a + leastF g) 100000) y (fun b hb => hg b (List.mem_cons_of_mem _ hb)) hy
  omega
theorem lexL_lens : ∀ (ls : List (List Va)) (l : List Va),l ∈ lexL ls → l.length = ls.length
 | [],l,h => by rw [lexL] at h; rw [List.mem_singleton.1 h]; rfl
 | m :: ls,l,h => by
  rw [lexL] at h
  obtain ⟨u,hu,y,hy,rfl⟩ := mem_flat2 h
  rw [List.length_cons,List.length_cons,lexL_lens ls y hy]
theorem filtN_cons (n : Int) (l : List Va) (R : List (List Va)) (rest : Nat) (hR : ∀ x ∈ R,rest ≤ nodesVs x) : filtN n (l.flatMap fun u => R.map (u :: ·)) = (filtV (n - rest) l).flatMap fun u => (filtN (n - nodesV u) R).map (u :: ·) := by
 induction l with
 | nil => rfl
 | cons u l ih =>
  have e : filtN n (R.map (u :: ·)) = (filtN (n - nodesV u) R).map (u :: ·) := by
   unfold filtN
   rw [List.filter_map]
   congr 1
   refine List.filter_congr fun x hx => ?_
   have hx' : nodesVs (u :: x) = nodesV u + nodesVs x := by rw [nodesVs]
   show decide ((nodesVs (u :: x) : Int) ≤ n) = decide ((nodesVs x : Int) ≤ n - nodesV u)
   rw [decide_eq_decide,hx']
   omega
  have e1 : filtN n ((u :: l).flatMap fun u => R.map (u :: ·)) = filtN n (R.map (u :: ·)) ++ filtN n (l.flatMap fun u => R.map (u :: ·)) := by
   rw [List.flatMap_cons]
   unfold filtN
   rw [List.filter_append]
  rw [e1,ih,e]
  unfold filtV
  rw [List.filter_cons]
  by_cases c : (nodesV u : Int) ≤ n - rest
  ·rw [decide_eq_true c,if_pos rfl,List.flatMap_cons]
  ·rw [decide_eq_false c]
   have : filtN (n - nodesV u) R = [] := by
    unfold filtN
    rw [List.filter_eq_nil_iff]
    intro x hx
    have := hR x hx
    simp
    omega
   rw [this]
   simp
theorem l80_0 (D : Nat) (r : List Fu) (hrl : r.length ≤ 2 ^ 20) (hls : ∀ g ∈ r,(∀ D,Go.Ab.Loc Pg Gl D 79 [encF g] [] (.int .i64 (leastF g)) []) ∧ leastF g ≤ 2 ^ 31) (S) (K : List AI) (Q : St → Prop) (r0 r1 r2 : AV) : ∀ (j i : Nat) (a : Nat) (τ ω),i + j = r.length → a ≤ 100000 →
  τ 0 = r0 → τ 1 = r1 → τ 2 = r2 → τ 7 = .int .i64 a → τ 20 = .sl 3 (r.map encF) .no → τ 21 = .int .i64 r.length → τ 22 = .int .i64 i →
  (∀ τ' ω',τ' 0 = r0 → τ' 1 = r1 → τ' 2 = r2 → τ' 7 = .int .i64 (restF a (r.drop i)) → Rd (Loc Pg Gl) .im Q K (stF 75 D τ' ω' S)) →
  Rd (Loc Pg Gl) .im Q (.lp c80_l0 :: .blk 0 :: K) (stF 75 D τ ω S) := by
 intro j
 induction j with
 | zero =>
  intro i a τ ω hi ha h0 h1 h2 h7 h20 h21 h22 hend
  refine Rd_lpE c80_l0.eq_1 ?_
  obtain rfl : i = r.length := by omega
  rw [List.drop_length,restF] at hend
  simp [h21,h22]
  refine hend _ _ ?_ ?_ ?_ ?_
  all_goals simp [h0,h1,h2,h7]
 | succ j ih =>
  intro i a τ ω hi ha h0 h1 h2 h7 h20 h21 h22 hend
  refine Rd_lpE c80_l0.eq_1 ?_
  have hlt : i < r.length := by omega
  have hwr := wrap_next hlt (show r.length ≤ maxLen by unfold maxLen; omega)
  obtain ⟨s1,s2⟩ := hls _ (List.getElem_mem hlt)
  rw [List.drop_eq_getElem_cons hlt,restF] at hend
  have w1 : IntKind.i64.wrap ((a : Int) + (leastF r[i] : Int)) = ((a + leastF r[i] : Nat) : Int) := by rw [← wrap_i64_nat (n := a + leastF r[i]) (by omega)]; congr 1
  simp [h7,h20,h21,h22,hlt,encF_eta r[i]]
  refine Rd_call (s1 _) (by simp [encF_eta r[i]]) ?_
  simp [h22,hwr,w1]
  refine ih (i + 1) (min (a + leastF r[i]) 100000) _ _ (by omega) (by omega) ?_ ?_ ?_ ?_ ?_ ?_ ?_ hend
  case refine_4 =>
   simp
   split <;> omega
  all_goals simp [h0,h1,h2,h20,h21]
theorem l80_1 (D : Nat) (u : Va) (ls : List (List Va)) (hll : ls.length ≤ 2 ^ 20) (hl4 : ∀ l ∈ ls,l.length ≤ 2 ^ 20) (g12 : Nat) (S) (K : List AI) (Q : St → Prop) (r0 r1 r2 r39 r40 r41 : AV) : ∀ (j i : Nat) (out : List (List Va)) (τ ω),i + j = ls.length → out.length + j ≤ 2 ^ 21 →
  τ 0 = r0 → τ 1 = r1 → τ 2 = r2 → τ 39 = r39 → τ 40 = r40 → τ 41 = r41 → τ 10 = .sl 1 (out.map encl) .tip → τ 12 = .ptr D 12 g12 0 → τ 55 = .sl 1 (ls.map encl) .no → τ 56 = .int .i64 ls.length → τ 57 = .int .i64 i → ω 12 = (g12,.cells [.int .i64 u.n,.sl 3 (u.gs.map encV) .no,.sl 1 (u.ws.map (AV.int .i64)) .no]) →
  (∀ τ' ω',τ' 0 = r0 → τ' 1 = r1 → τ' 2 = r2 → τ' 39 = r39 → τ' 40 = r40 → τ' 41 = r41 → τ' 10 = .sl 1 ((out ++ (ls.drop i).map (u :: ·)).map encl) .tip → Rd (Loc Pg Gl) .im Q K (stF 75 D τ' ω' S)) →
  Rd (Loc Pg Gl) .im Q (.lp c80_l1 :: .blk 4 :: K) (stF 75 D τ ω S) := by
 intro j
 induction j with
 | zero =>
  intro i out τ ω hi ho h0 h1 h2 h39 h40 h41 h10 h12 h55 h56 h57 w12 hend
  refine Rd_lpE c80_l1.eq_1 ?_
  obtain rfl : i = ls.length := by omega
  rw [List.drop_length,List.map_nil,List.append_nil] at hend
  simp [h56,h57]
  refine hend _ _ ?_ ?_ ?_ ?_ ?_ ?_ ?_
  all_goals simp [h0,h1,h2,h39,h40,h41,h10]
 | succ j ih =>
  intro i out τ ω hi ho h0 h1 h2 h39 h40 h41 h10 h12 h55 h56 h57 w12 hend
  refine Rd_lpE c80_l1.eq_1 ?_
  have hlt : i < ls.length := by omega
  have hwr := wrap_next hlt (show ls.length ≤ maxLen by unfold maxLen; omega)
  have hl := hl4 _ (List.getElem_mem hlt)
  rw [List.drop_eq_getElem_cons hlt,List.map_cons] at hend
  generalize hle : ls[i] = l at hl hend
  have b1 : (1 + l.length) * 56 ≤ 1099511627776 := by omega
  have b2 : (out.length + 1) * 24 ≤ 1099511627776 := by omega
  simp [h10,h12,h55,h56,h57,hlt,hle,w12,b1,b2,hwr]
  refine ih (i + 1) (out ++ [u :: l]) _ _ (by omega) (by simp; omega) ?_ ?_ ?_ ?_ ?_ ?_ ?_ ?_ ?_ ?_ ?_ ?_ ?_
  case refine_13 =>
   intro τ' ω' g0 g1 g2 g39 g40 g41 g10
   refine hend τ' ω' g0 g1 g2 g39 g40 g41 ?_
   rw [g10]; simp
  all_goals simp [h0,h1,h2,h39,h40,h41,h12,h55,h56,w12,encV_eta u]
theorem l80_2 (D : Nat) (g : Fu) (r : List Fu) (hr : r.length ≤ 2 ^ 20) (N : Int) (hN : N ≤ 2 ^ 40) (most : Nat) (hmost : most ≤ 2 ^ 20) (us : List Va) (huf : ∀ u ∈ us,(nodesV u : Int) ≤ N) (hul : us.length ≤ 2 ^ 20) (R : List (List Va)) (hR1 : 1 ≤ R.length) (hRl : ∀ l ∈ R,l.length ≤ 2 ^ 20)
  (hrec : ∀ (D : Nat) (n : Int) (m : Nat),0 ≤ n → n ≤ 2 ^ 40 → R.length ≤ m → m ≤ 2 ^ 20 → Go.Ab.Loc Pg Gl D 80 [.sl 3 (r.map encF) .no,.int .i64 n,.int .i64 m] [] (.sl 1 ((filtN n R).map encl) .no) []) (S) (res : AV) : ∀ (j i : Nat) (out : List (List Va)) (τ ω),i + j = us.length → out.length + j * R.length ≤ most →
  τ 0 = .sl 3 ((g :: r).map encF) .no → τ 1 = .int .i64 N → τ 2 = .int .i64 most → τ 10 = .sl 1 (out.map encl) .tip → τ 39 = .sl 3 (us.map encV) .no → τ 40 = .int .i64 us.length → τ 41 = .int .i64 i →
  res = .sl 1 ((out ++ (us.drop i).flatMap fun u => (filtN (N - nodesV u) R).map (u :: ·)).map encl) .no →
  Rd (Loc Pg Gl) .im (RetQ [.tmp 6] res S) [.lp c80_l2,.blk 2,.c c80_k2] (stF 75 D τ ω S) := by
 intro j
 induction j with
 | zero =>
  intro i out τ ω hi ho h0 h1 h2 h10 h39 h40 h41 hres
  refine Rd_lpE c80_l2.eq_1 ?_
  obtain rfl : i = us.length := by omega
  rw [List.drop_length,List.flatMap_nil,List.append_nil] at hres
  simp [h10,h40,h41,c80_k2,hres]
 | succ j ih =>
  intro i out τ ω hi ho h0 h1 h2 h10 h39 h40 h41 hres
  refine Rd_lpE c80_l2.eq_1 ?_
  have hlt : i < us.length := by omega
  have hwr := wrap_next hlt (show us.length ≤ maxLen by unfold maxLen; omega)
  have hu := huf _ (List.getElem_mem hlt)
  rw [List.drop_eq_getElem_cons hlt,List.flatMap_cons] at hres
  generalize hue : us[i] = u at hu hres
  rw [Nat.succ_mul] at ho
  have hfl : (filtN (N - nodesV u) R).length ≤ R.length := List.length_filter_le _ _
  have hfm : ∀ l ∈ filtN (N - nodesV u) R,l.length ≤ 2 ^ 20 := fun l hl => hRl l (List.mem_filter.1 hl).1
  obtain ⟨n,hn⟩ : ∃ n : Nat,N - nodesV u = n := ⟨(N - nodesV u).toNat,by omega⟩
  obtain ⟨m,hm⟩ : ∃ m : Nat,(most : Int) - out.length = m := ⟨most - out.length,by omega⟩
  have hc := hrec (D + 1) n m (by omega) (by omega) (by omega) (by omega)
  rw [hn] at hres hfl hfm
  have w1 : IntKind.i64.wrap (N - (nodesV u : Int)) = (n : Int) := by rw [hn]; exact wrap_i64_nat (by omega)
  have w2 : IntKind.i64.wrap ((most : Int) - (out.length : Int)) = (m : Int) := by rw [hm]; exact wrap_i64_nat (by omega)
  generalize hls : filtN (n : Int) R = ls at hc hres hfl hfm
  have b0 : (1 : Int) ≤ (r.length : Int) + 1 := by omega
  simp [h0,h1,h2,h10,h39,h40,h41,hlt,hue,b0,encV_eta u]
  refine Rd_drCall (spec55 u (by omega) _) (by simp [encV_eta u]) ?_
  simp [h1,h2,h10,w1,w2]
  refine Rd_drCall hc (by simp) ?_
  simp
  refine l80_1 D u ls (by omega) hfm ((ω 12).1 + 1) S _ _ (.sl 3 ((g :: r).map encF) .no) (.int .i64 N) (.int .i64 most) (.sl 3 (us.map encV) .no) (.int .i64 us.length) (.int .i64 i) ls.length 0 out _ _ (by omega) (by omega) ?_ ?_ ?_ ?_ ?_ ?_ ?_ ?_ ?_ ?_ ?_ ?_ ?_
  case refine_13 =>
   intro τ' ω' g0 g1 g2 g39 g40 g41 g10
   rw [List.drop_zero] at g10
   unfold c80_k0
   have hol : (out ++ ls.map (u :: ·)).length = out.length + ls.length := by simp
   by_cases hb : (most : Int) ≤ (out.length : Int) + (ls.length : Int)
   ·have hj : j = 0 := by
     rcases Nat.eq_zero_or_pos j with h | h
     ·exact h
     ·have := Nat.mul_le_mul h hR1
      have : j * R.length ≥ 1 := by omega
      omega
    subst hj
    have hd : us.drop (i + 1) = [] := List.drop_eq_nil_of_le (by omega)
    rw [hd,List.flatMap_nil,List.append_nil] at hres
    simp [g2,g10,hb,c80_k2,hres]
   ·simp [g2,g10,hb,c80_k1,g41,hwr]
    refine ih (i + 1) (out ++ ls.map (u :: ·)) _ _ (by omega) (by rw [hol]; omega) ?_ ?_ ?_ ?_ ?_ ?_ ?_ ?_
    case refine_8 => rw [hres,List.append_assoc]
    all_goals simp [g0,g1,g2,g10,g39,g40]
  all_goals simp [h0,h1,h2,h10,h39,h40,h41]
theorem spec80 : ∀ (ps : List Fu),ps.length ≤ 16 → (∀ g ∈ ps,shapedF g = true ∧ polyF g = true ∧ nodesF g ≤ 2 ^ 20) → (∀ g ∈ ps,∀ v ∈ allV g,leastF g ≤ nodesV v) →
  (∀ g ∈ ps,∀ (D : Nat) (n : Int) (m : Nat),-2 ^ 41 ≤ n → n ≤ 2 ^ 40 → (allV g).length ≤ m → m ≤ 2 ^ 20 → Go.Ab.Loc Pg Gl D 46 [encF g,.int .i64 n,.int .i64 m] [] (.sl 3 ((filtV n (allV g)).map encV) .no) []) →
  ∀ (D : Nat) (n : Int) (m : Nat),0 ≤ n → n ≤ 2 ^ 40 → (lexL (ps.map allV)).length ≤ m → m ≤ 2 ^ 20 → Go.Ab.Loc Pg Gl D 80 [.sl 3 (ps.map encF) .no,.int .i64 n,.int .i64 m] [] (.sl 1 ((filtN n (lexL (ps.map allV))).map encl) .no) [] := by
 intro ps
 induction ps with
 | nil =>
  intro _ _ _ _ D n m h0 _ _ _
  refine loc_rdS mixedP tok rfl rfl fun S hS => ?_
  unfold c80
  have e : filtN n (lexL (([] : List Fu).map allV)) = [[]] := by
   unfold filtN
   simp [lexL,nodesVs,h0]
  rw [e]
  simp
 | cons g r ih =>
  intro hl hg hle hs D n m h0 hn hlen hm
  have hg' : ∀ a ∈ r,shapedF a = true ∧ polyF a = true ∧ nodesF a ≤ 2 ^ 20 := fun a ha => hg a (List.mem_cons_of_mem _ ha)
  have hle' : ∀ a ∈ r,∀ v ∈ allV a,leastF a ≤ nodesV v := fun a ha => hle a (List.mem_cons_of_mem _ ha)
  rw [List.length_cons] at hl
  obtain ⟨g1,g2,g3⟩ := hg g (List.mem_cons_self ..)
  have hR1 : 1 ≤ (lexL (r.map allV)).length := lexL_pos _ fun l hl => by
   obtain ⟨a,ha,rfl⟩ := List.mem_map.1 hl
   exact allV_pos a (hg' a ha).1 (hg' a ha).2.1
  have hA1 := allV_pos g g1 g2
  rw [List.map_cons,lexL_len] at hlen
  have p1 : (allV g).length * 1 ≤ (allV g).length * (lexL (r.map allV)).length := Nat.mul_le_mul (Nat.le_refl _) hR1
  have p2 : 1 * (lexL (r.map allV)).length ≤ (allV g).length * (lexL (r.map allV)).length := Nat.mul_le_mul hA1 (Nat.le_refl _)
  have hrest := restF_le r 0 (by omega)
  have hrec : ∀ (D : Nat) (n : Int) (m : Nat),0 ≤ n → n ≤ 2 ^ 40 → (lexL (r.map allV)).length ≤ m → m ≤ 2 ^ 20 → Go.Ab.Loc Pg Gl D 80 [.sl 3 (r.map encF) .no,.int .i64 n,.int .i64 m] [] (.sl 1 ((filtN n (lexL (r.map allV))).map encl) .no) [] :=
   ih (by omega) hg' hle' (fun a ha => hs a (List.mem_cons_of_mem _ ha))
  have h46 := hs g (List.mem_cons_self ..) (D + 1) (n - restF 0 r) m (by omega) (by omega) (by omega) hm
  have hcons := filtN_cons n (allV g) (lexL (r.map allV)) (restF 0 r) (fun x hx => by have := restF_nodes r 0 x hle' hx; omega)
  have hus : (filtV (n - restF 0 r) (allV g)).length ≤ (allV g).length := List.length_filter_le _ _
  have huf : ∀ u ∈ filtV (n - restF 0 r) (allV g),(nodesV u : Int) ≤ n := fun u hu => by
   have := of_decide_eq_true (List.mem_filter.1 hu).2
   omega
  have w1 : IntKind.i64.wrap (n - (restF 0 r : Int)) = n - (restF 0 r : Int) := by
   simp [IntKind.wrap,IntKind.bits,IntKind.signed]
   omega
  have hprod : (filtV (n - restF 0 r) (allV g)).length * (lexL (r.map allV)).length ≤ (allV g).length * (lexL (r.map allV)).length := Nat.mul_le_mul hus (Nat.le_refl _)
  have hRl : ∀ l ∈ lexL (r.map allV),l.length ≤ 2 ^ 20 := fun l hl => by rw [lexL_lens _ l hl,List.length_map]; omega
  rw [show (g :: r).map allV = allV g :: r.map allV from rfl,lexL,hcons]
  generalize lexL (r.map allV) = R at hR1 hlen p1 p2 hrec hprod hRl
  generalize filtV (n - restF 0 r) (allV g) = us at h46 hus huf hprod
  refine loc_rd mixedP tok rfl rfl fun S => ?_
  have b0 : (1 : Int) ≤ (r.length : Int) + 1 := by omega
  have b1 : ¬ ((r.length : Int) + 1 = 0) := by omega
  unfold c80
  simp [b0,b1]
  refine l80_0 D r (by omega) (fun a ha => ⟨spec79 a (hg' a ha).1 (hg' a ha).2.1 (by have := (hg' a ha).2.2; omega),by have := (leastF_bd a (hg' a ha).1 (hg' a ha).2.1).2; have := (hg' a ha).2.2; omega⟩) S _ _ (.sl 3 ((g :: r).map encF) .no) (.int .i64 n) (.int .i64 m) r.length 0 0 _ _ (by omega) (by omega) ?_ ?_ ?_ ?_ ?_ ?_ ?_ ?_
  case refine_8 =>
   intro τ' ω' g0 g1 g2 g7
   rw [List.drop_zero] at g7
   simp [c80_k3,g0,g1,g2,g7,w1,encF_eta g]
   refine Rd_call h46 (by simp [encF_eta g]) ?_
   simp
   refine l80_2 D g r (by omega) n hn m hm us huf (by omega) R hR1 hRl hrec S _ us.length 0 [] _ _ (by omega) (by simp; omega) ?_ ?_ ?_ ?_ ?_ ?_ ?_ ?_
   case refine_8 => simp
   all_goals simp [g0,g1,g2]
  all_goals simp
end Go.Ab.Tab
/- The reference's some (46). -/
namespace Go.Ab.Tab
open Go Go.Ab
set_option maxRecDepth 10000
set_option linter.unusedVariables false
set_option linter.unusedSimpArgs false
theorem sumI_mem : ∀ (ls : List (List Va)) (n : Nat) (x : Va),x ∈ sumI n ls → ∃ (i : Nat) (l : List Va) (v : Va),ls[i]? = some l ∧ v ∈ l ∧ x = .mk (n + i : Nat) [v] []
 | [],n,x,h => by rw [sumI] at h; cases h
 | l :: r,n,x,h => by
  rw [sumI] at h
  rcases List.mem_append.1 h with h | h
  ·obtain ⟨v,hv,rfl⟩ := List.mem_map.1 h
   exact ⟨0,l,v,rfl,hv,rfl⟩
  ·obtain ⟨i,l',v,h1,h2,h3⟩ := sumI_mem r (n + 1) x h
   exact ⟨i + 1,l',v,by simpa using h1,h2,by rw [h3,show n + 1 + i = n + (i + 1) by omega]⟩
theorem rep_nodes (A : List Va) (c : Nat) (hA : ∀ v ∈ A,c ≤ nodesV v) : ∀ (m : Nat) (l : List Va),l ∈ lexL (List.replicate m A) → m * c ≤ nodesVs l
 | 0,l,h => by omega
 | m + 1,l,h => by
  rw [List.replicate_succ,lexL] at h
  obtain ⟨u,hu,y,hy,rfl⟩ := mem_flat2 h
  rw [nodesVs,Nat.succ_mul]
  have := hA u hu
  have := rep_nodes A c hA m y hy
  omega
theorem least_le : ∀ (f : Fu),shapedF f = true → polyF f = true → ∀ v ∈ allV f,leastF f ≤ nodesV v := by
 refine Fu.ind' fun k n gs hrec => ?_
 intro hf hp v hv
 have hg : ∀ g ∈ gs,∀ v ∈ allV g,leastF g ≤ nodesV v := fun g hg => hrec g hg ((shaped_mk hf).2.2.2 g hg) (poly_gs hp g hg)
 rw [leastF,leastFs_map]
 rw [allV,allVs_map] at hv
 rcases poly_kinds hf hp with ⟨rfl,rfl⟩ | ⟨rfl,rfl,h1,h2⟩ | ⟨rfl,a,b,rfl⟩ | ⟨rfl,a,b,rfl⟩ | ⟨rfl,h1,h2,a,rfl⟩
 ·cases v with
  | mk x gs ws => rw [nodesV]; simp
 ·cases v with
  | mk x gs ws => rw [nodesV]; simp
 ·have hv' : v ∈ (lexL [allV a,allV b]).map fun l => Va.mk 0 l [] := hv
  obtain ⟨l,hl,rfl⟩ := List.mem_map.1 hv'
  rw [lexL] at hl
  obtain ⟨x,hx,y,hy,rfl⟩ := mem_flat2 hl
  rw [lexL] at hy
  obtain ⟨z,hz,w,hw,rfl⟩ := mem_flat2 hy
  have q1 := hg a (by simp) x hx
  have q2 := hg b (by simp) z hz
  rw [nodesV,nodesVs,nodesVs]
  simp
  omega
 ·have hv' : v ∈ sumI 0 [allV a,allV b] := hv
  obtain ⟨i,l,x,h1,h2,rfl⟩ := sumI_mem _ _ _ hv'
  rw [nodesV,nodesVs,nodesVs]
  simp
  cases i with
  | zero =>
   simp at h1
   subst h1
   have := hg a (by simp) x h2
   omega
  | succ i =>
   cases i with
   | zero =>
    simp at h1
    subst h1
    have := hg b (by simp) x h2
    omega
   | succ i => simp at h1
 ·have hv' : v ∈ (lexL (List.replicate n.toNat (allV a))).map fun l => Va.mk 0 l [] := hv
  obtain ⟨l,hl,rfl⟩ := List.mem_map.1 hv'
  have := rep_nodes (allV a) (leastF a) (hg a (by simp)) n.toNat l hl
  rw [nodesV]
  simp
  omega
theorem filtV_mk0 (n : Int) (ls : List (List Va)) : filtV n (ls.map fun l => Va.mk 0 l []) = (filtN (n - 1) ls).map fun l => Va.mk 0 l [] := by
 unfold filtV filtN
 rw [List.filter_map]
 congr 1
 refine List.filter_congr fun x hx => ?_
 have hx' : nodesV (.mk 0 x []) = 1 + nodesVs x := by rw [nodesV]
 show decide ((nodesV (.mk 0 x []) : Int) ≤ n) = decide ((nodesVs x : Int) ≤ n - 1)
 rw [decide_eq_decide,hx']
 omega
theorem filtV_sum (n : Int) (i : Nat) (l : List Va) (r : List (List Va)) : filtV n (sumI i (l :: r)) = (filtV (n - 1) l).map (fun v => Va.mk i [v] []) ++ filtV n (sumI (i + 1) r) := by
 rw [sumI]
 unfold filtV
 rw [List.filter_append,List.filter_map]
 congr 2
 refine List.filter_congr fun x hx => ?_
 have hx' : nodesV (.mk i [x] []) = 1 + nodesV x := by rw [nodesV,nodesVs,nodesVs]; omega
 show decide ((nodesV (.mk i [x] []) : Int) ≤ n) = decide ((nodesV x : Int) ≤ n - 1)
 rw [decide_eq_decide,hx']
 omega
theorem l46_0 (D : Nat) (N : Nat) (hN : N ≤ 2 ^ 20) (S) (res : AV) : ∀ (j i : Nat) (τ ω),i + j = N →
  τ 7 = .sl 3 (((List.range i).map fun (i : Nat) => Va.mk i [] []).map encV) .tip → τ 31 = .int .i64 N → τ 32 = .int .i64 i → res = .sl 3 (((List.range N).map fun (i : Nat) => Va.mk i [] []).map encV) .no →
  Rd (Loc Pg Gl) .im (RetQ [.tmp 6] res S) [.lp c46_l0,.blk 1,.c c46_k0,.blk 0,.c c46_k5] (stF 109 D τ ω S) := by
 intro j
 induction j with
 | zero =>
  intro i τ ω hi h7 h31 h32 hr
  refine Rd_lpE c46_l0.eq_1 ?_
  obtain rfl : i = N := by omega
  simp [h31,h32,c46_k0,h7,hr]
 | succ j ih =>
  intro i τ ω hi h7 h31 h32 hr
  refine Rd_lpE c46_l0.eq_1 ?_
  have hlt : i < N := by omega
  have hwr : IntKind.i64.wrap ((i : Int) + 1) = ((i + 1 : Nat) : Int) := by rw [← wrap_i64_nat (n := i + 1) (by omega)]; rfl
  have hle : (i + 1) * 56 ≤ 1099511627776 := by omega
  simp [h31,h32,hlt,h7,hle,hwr]
  refine ih (i + 1) _ _ (by omega) ?_ ?_ ?_ hr
  all_goals simp [h31,List.range_succ,encV_mk]
theorem l46_1 (D : Nat) (k : Nat) (us : List Va) (hul : us.length ≤ 2 ^ 20) (S) (K : List AI) (Q : St → Prop) (r1 r2 r45 r46 r47 : AV) : ∀ (j i : Nat) (out : List Va) (τ ω),i + j = us.length → out.length + j ≤ 2 ^ 21 →
  τ 1 = r1 → τ 2 = r2 → τ 45 = r45 → τ 46 = r46 → τ 47 = r47 → τ 7 = .sl 3 (out.map encV) .tip → τ 9 = .int .i64 k → τ 59 = .sl 3 (us.map encV) .no → τ 60 = .int .i64 us.length → τ 61 = .int .i64 i →
  (∀ τ' ω',τ' 1 = r1 → τ' 2 = r2 → τ' 45 = r45 → τ' 46 = r46 → τ' 47 = r47 → τ' 7 = .sl 3 ((out ++ (us.drop i).map fun v => Va.mk k [v] []).map encV) .tip → Rd (Loc Pg Gl) .im Q K (stF 109 D τ' ω' S)) →
  Rd (Loc Pg Gl) .im Q (.lp c46_l1 :: .blk 5 :: K) (stF 109 D τ ω S) := by
 intro j
 induction j with
 | zero =>
  intro i out τ ω hi ho h1 h2 h45 h46 h47 h7 h9 h59 h60 h61 hend
  refine Rd_lpE c46_l1.eq_1 ?_
  obtain rfl : i = us.length := by omega
  rw [List.drop_length,List.map_nil,List.append_nil] at hend
  simp [h60,h61]
  refine hend _ _ ?_ ?_ ?_ ?_ ?_ ?_
  all_goals simp [h1,h2,h45,h46,h47,h7]
 | succ j ih =>
  intro i out τ ω hi ho h1 h2 h45 h46 h47 h7 h9 h59 h60 h61 hend
  refine Rd_lpE c46_l1.eq_1 ?_
  have hlt : i < us.length := by omega
  have hwr := wrap_next hlt (show us.length ≤ maxLen by unfold maxLen; omega)
  have hle : (out.length + 1) * 56 ≤ 1099511627776 := by omega
  rw [List.drop_eq_getElem_cons hlt,List.map_cons] at hend
  generalize hu : us[i] = u at hend
  simp [h7,h9,h59,h60,h61,hlt,hu,hle,hwr,encV_eta u]
  refine ih (i + 1) (out ++ [Va.mk k [u] []]) _ _ (by omega) (by simp; omega) ?_ ?_ ?_ ?_ ?_ ?_ ?_ ?_ ?_ ?_ ?_
  case refine_11 =>
   intro τ' ω' g1 g2 g45 g46 g47 g7
   refine hend τ' ω' g1 g2 g45 g46 g47 ?_
   rw [g7]; simp
  all_goals simp [h1,h2,h45,h46,h47,h9,h59,h60,encV_mk,encV_eta u]
theorem l46_2 (D : Nat) (gs : List Fu) (hgl : gs.length ≤ 16) (n : Int) (h0n : 1 ≤ n) (hn : n ≤ 2 ^ 40) (m : Nat) (hm : m ≤ 2 ^ 20)
  (hs : ∀ g ∈ gs,∀ (D : Nat) (n : Int) (m : Nat),-2 ^ 41 ≤ n → n ≤ 2 ^ 40 → (allV g).length ≤ m → m ≤ 2 ^ 20 → Go.Ab.Loc Pg Gl D 46 [encF g,.int .i64 n,.int .i64 m] [] (.sl 3 ((filtV n (allV g)).map encV) .no) []) (S) (res : AV) :
  ∀ (j i : Nat) (out : List Va) (τ ω),i + j = gs.length → out.length + (sumI i ((gs.drop i).map allV)).length ≤ m →
  τ 1 = .int .i64 n → τ 2 = .int .i64 m → τ 7 = .sl 3 (out.map encV) .tip → τ 45 = .sl 3 (gs.map encF) .no → τ 46 = .int .i64 gs.length → τ 47 = .int .i64 i →
  res = .sl 3 ((out ++ filtV n (sumI i ((gs.drop i).map allV))).map encV) .no →
  Rd (Loc Pg Gl) .im (RetQ [.tmp 6] res S) [.lp c46_l2,.blk 3,.c c46_k2,.blk 0,.c c46_k5] (stF 109 D τ ω S) := by
 intro j
 induction j with
 | zero =>
  intro i out τ ω hi ho h1 h2 h7 h45 h46 h47 hr
  refine Rd_lpE c46_l2.eq_1 ?_
  obtain rfl : i = gs.length := by omega
  rw [List.drop_length,List.map_nil,sumI,show filtV n [] = [] from rfl,List.append_nil] at hr
  simp [h46,h47,c46_k2,h7,hr]
 | succ j ih =>
  intro i out τ ω hi ho h1 h2 h7 h45 h46 h47 hr
  refine Rd_lpE c46_l2.eq_1 ?_
  have hlt : i < gs.length := by omega
  have hwr := wrap_next hlt (show gs.length ≤ maxLen by unfold maxLen; omega)
  have hg := hs _ (List.getElem_mem hlt)
  rw [List.drop_eq_getElem_cons hlt,List.map_cons] at ho hr
  rw [filtV_sum] at hr
  rw [sumI,List.length_append,List.length_map] at ho
  generalize hge : gs[i] = g at hg ho hr
  obtain ⟨q,hq⟩ : ∃ q : Nat,(m : Int) - out.length = q := ⟨m - out.length,by omega⟩
  have hc := hg (D + 1) (n - 1) q (by omega) (by omega) (by omega) (by omega)
  have w1 : IntKind.i64.wrap (n - 1) = n - 1 := by
   obtain ⟨p,hp⟩ : ∃ p : Nat,n - 1 = p := ⟨(n - 1).toNat,by omega⟩
   rw [hp]; exact wrap_i64_nat (by omega)
  have w2 : IntKind.i64.wrap ((m : Int) - (out.length : Int)) = (q : Int) := by rw [hq]; exact wrap_i64_nat (by omega)
  have hfl : (filtV (n - 1) (allV g)).length ≤ (allV g).length := List.length_filter_le _ _
  generalize filtV (n - 1) (allV g) = us at hc hfl hr
  simp [h1,h2,h7,h45,h46,h47,hlt,hge,encF_eta g,w1,w2]
  refine Rd_call hc (by simp [encF_eta g]) ?_
  simp
  refine l46_1 D i us (by omega) S _ _ (.int .i64 n) (.int .i64 m) (.sl 3 (gs.map encF) .no) (.int .i64 gs.length) (.int .i64 i) us.length 0 out _ _ (by omega) (by omega) ?_ ?_ ?_ ?_ ?_ ?_ ?_ ?_ ?_ ?_ ?_
  case refine_11 =>
   intro τ' ω' g1 g2 g45 g46 g47 g7
   rw [List.drop_zero] at g7
   simp [c46_k1,g47,hwr]
   refine ih (i + 1) (out ++ us.map fun v => Va.mk i [v] []) _ _ (by omega) (by rw [List.length_append,List.length_map]; omega) ?_ ?_ ?_ ?_ ?_ ?_ ?_
   case refine_7 => rw [hr,List.append_assoc]
   all_goals simp [g1,g2,g45,g46,g7]
  all_goals simp [h1,h2,h7,h45,h46,h47]
theorem l46_4 (D : Nat) (ls : List (List Va)) (hll : ls.length ≤ 2 ^ 20) (S) (res : AV) : ∀ (j i : Nat) (out : List Va) (τ ω),i + j = ls.length → out.length = i →
  τ 7 = .sl 3 (out.map encV) .tip → τ 96 = .sl 1 (ls.map encl) .no → τ 97 = .int .i64 ls.length → τ 98 = .int .i64 i → res = .sl 3 ((out ++ (ls.drop i).map fun l => Va.mk 0 l []).map encV) .no →
  Rd (Loc Pg Gl) .im (RetQ [.tmp 6] res S) [.lp c46_l4,.blk 9,.c c46_k3] (stF 109 D τ ω S) := by
 intro j
 induction j with
 | zero =>
  intro i out τ ω hi ho h7 h96 h97 h98 hr
  refine Rd_lpE c46_l4.eq_1 ?_
  obtain rfl : i = ls.length := by omega
  rw [List.drop_length,List.map_nil,List.append_nil] at hr
  simp [h97,h98,c46_k3,h7,hr]
 | succ j ih =>
  intro i out τ ω hi ho h7 h96 h97 h98 hr
  refine Rd_lpE c46_l4.eq_1 ?_
  have hlt : i < ls.length := by omega
  have hwr := wrap_next hlt (show ls.length ≤ maxLen by unfold maxLen; omega)
  have hle : (i + 1) * 56 ≤ 1099511627776 := by omega
  rw [List.drop_eq_getElem_cons hlt,List.map_cons] at hr
  generalize hl : ls[i] = l at hr
  simp [h7,h96,h97,h98,hlt,hl,ho,hle,hwr]
  refine ih (i + 1) (out ++ [Va.mk 0 l []]) _ _ (by omega) (by simp [ho]) ?_ ?_ ?_ ?_ (by rw [hr]; simp)
  all_goals simp [h96,h97,encV_mk]
theorem l46_3 (D : Nat) (a : Fu) (N : Nat) (hN : N ≤ 4) (k : Int) (S) (K : List AI) (Q : St → Prop) (r1 r2 : AV) : ∀ (j i : Nat) (τ ω),i + j = N →
  τ 1 = r1 → τ 2 = r2 → τ 3 = .ptr D 3 1 0 → τ 7 = .sl 3 [] .tip → τ 13 = .sl 3 ((List.replicate i a).map encF) .tip → τ 81 = .int .i64 N → τ 82 = .int .i64 i → ω 3 = (1,.cells [.int .i64 k,.int .i64 N,.sl 3 [encF a] .no]) →
  (∀ τ' ω',τ' 1 = r1 → τ' 2 = r2 → τ' 7 = .sl 3 [] .tip → τ' 13 = .sl 3 ((List.replicate N a).map encF) .tip → Rd (Loc Pg Gl) .im Q K (stF 109 D τ' ω' S)) →
  Rd (Loc Pg Gl) .im Q (.lp c46_l3 :: .blk 7 :: K) (stF 109 D τ ω S) := by
 intro j
 induction j with
 | zero =>
  intro i τ ω hi h1 h2 h3 h7 h13 h81 h82 w3 hend
  refine Rd_lpE c46_l3.eq_1 ?_
  obtain rfl : i = N := by omega
  simp [h81,h82]
  refine hend _ _ ?_ ?_ ?_ ?_
  all_goals simp [h1,h2,h7,h13]
 | succ j ih =>
  intro i τ ω hi h1 h2 h3 h7 h13 h81 h82 w3 hend
  refine Rd_lpE c46_l3.eq_1 ?_
  have hlt : i < N := by omega
  have hwr : IntKind.i64.wrap ((i : Int) + 1) = ((i + 1 : Nat) : Int) := by rw [← wrap_i64_nat (n := i + 1) (by omega)]; rfl
  have hle : (i + 1) * 40 ≤ 1099511627776 := by omega
  simp [h3,w3,h13,h81,h82,hlt,hle,hwr,encF_eta a]
  refine ih (i + 1) _ _ (by omega) ?_ ?_ ?_ ?_ ?_ ?_ ?_ ?_ hend
  all_goals simp [h1,h2,h3,h7,h81,w3,List.replicate_succ',encF_eta a]
theorem l46_k4 (D : Nat) (ps : List Fu) (hpl : ps.length ≤ 16) (hg : ∀ g ∈ ps,shapedF g = true ∧ polyF g = true ∧ nodesF g ≤ 2 ^ 20)
  (hs : ∀ g ∈ ps,∀ (D : Nat) (n : Int) (m : Nat),-2 ^ 41 ≤ n → n ≤ 2 ^ 40 → (allV g).length ≤ m → m ≤ 2 ^ 20 → Go.Ab.Loc Pg Gl D 46 [encF g,.int .i64 n,.int .i64 m] [] (.sl 3 ((filtV n (allV g)).map encV) .no) [])
  (n : Int) (h0n : 1 ≤ n) (hn : n ≤ 2 ^ 40) (m : Nat) (hm : m ≤ 2 ^ 20) (hlen : (lexL (ps.map allV)).length ≤ m) (S) (res : AV) (hres : res = .sl 3 ((filtV n ((lexL (ps.map allV)).map fun l => Va.mk 0 l [])).map encV) .no) (tp : Tip) (τ ω)
  (h1 : τ 1 = .int .i64 n) (h2 : τ 2 = .int .i64 m) (h7 : τ 7 = .sl 3 [] .tip) (h13 : τ 13 = .sl 3 (ps.map encF) tp) :
  Rd (Loc Pg Gl) .im (RetQ [.tmp 6] res S) [.c c46_k4] (stF 109 D τ ω S) := by
 have hc := spec80 ps hpl hg (fun g h => least_le g (hg g h).1 (hg g h).2.1) hs (D + 1) (n - 1) m (by omega) (by omega) hlen hm
 rw [filtV_mk0] at hres
 have hfl : (filtN (n - 1) (lexL (ps.map allV))).length ≤ (lexL (ps.map allV)).length := List.length_filter_le _ _
 have w1 : IntKind.i64.wrap (n - 1) = n - 1 := by
  obtain ⟨p,hp⟩ : ∃ p : Nat,n - 1 = p := ⟨(n - 1).toNat,by omega⟩
  rw [hp]; exact wrap_i64_nat (by omega)
 generalize filtN (n - 1) (lexL (ps.map allV)) = ls at hc hres hfl
 unfold c46_k4
 cases tp <;> simp [h1,h2,h13,w1]
 all_goals
  refine Rd_call hc (by simp) ?_
  simp
  refine l46_4 D ls (by omega) S res ls.length 0 [] _ _ (by omega) rfl ?_ ?_ ?_ ?_ ?_
  case refine_5 => simpa using hres
  all_goals simp [h7]
theorem spec46 : ∀ (f : Fu),shapedF f = true → polyF f = true → nodesF f ≤ 2 ^ 20 → ∀ (D : Nat) (n : Int) (m : Nat),-2 ^ 41 ≤ n → n ≤ 2 ^ 40 → (allV f).length ≤ m → m ≤ 2 ^ 20 →
  Go.Ab.Loc Pg Gl D 46 [encF f,.int .i64 n,.int .i64 m] [] (.sl 3 ((filtV n (allV f)).map encV) .no) [] := by
 refine Fu.ind' fun k kn gs hrec => ?_
 intro hf hp hno D n m h1n hn hlen hm
 have hl79 := spec79 (.mk k kn gs) hf hp (by omega) (D + 1)
 have hll := least_le (.mk k kn gs) hf hp
 have hlb := (leastF_bd (.mk k kn gs) hf hp).1
 have hno' := hno
 rw [nodesF] at hno'
 have hg : ∀ g ∈ gs,shapedF g = true ∧ polyF g = true ∧ nodesF g ≤ 2 ^ 20 := fun g hg => ⟨(shaped_mk hf).2.2.2 g hg,poly_gs hp g hg,by have := nodesFs_le hg; omega⟩
 have hs : ∀ g ∈ gs,∀ (D : Nat) (n : Int) (m : Nat),-2 ^ 41 ≤ n → n ≤ 2 ^ 40 → (allV g).length ≤ m → m ≤ 2 ^ 20 → Go.Ab.Loc Pg Gl D 46 [encF g,.int .i64 n,.int .i64 m] [] (.sl 3 ((filtV n (allV g)).map encV) .no) [] :=
  fun g h => hrec g h (hg g h).1 (hg g h).2.1 (hg g h).2.2
 by_cases hlt : n < leastF (.mk k kn gs)
 ·have e : filtV n (allV (.mk k kn gs)) = [] := by
   unfold filtV
   rw [List.filter_eq_nil_iff]
   intro x hx
   have := hll x hx
   simp
   omega
  rw [e]
  refine loc_rdS mixedP tok rfl rfl fun S hS => ?_
  unfold c46
  rw [encF_mk] at hl79 ⊢
  simp
  refine Rd_call hl79 (by simp) ?_
  simp [hlt]
 ·have hge : (1 : Int) ≤ n := by omega
  by_cases k0 : k = 0
  ·subst k0
   rcases poly_kinds hf hp with ⟨_,rfl⟩ | ⟨h,_⟩ | ⟨h,_⟩ | ⟨h,_⟩ | ⟨h,_⟩
   ·have e : filtV n (allV (.mk 0 kn [])) = [v0] := by
     have : allV (.mk 0 kn []) = [v0] := by rw [allV]; rfl
     rw [this]
     unfold filtV
     rw [List.filter_cons,decide_eq_true (by show (nodesV v0 : Int) ≤ n; simp [v0,nodesV,nodesVs]; omega)]
     rfl
    rw [e]
    refine loc_rdS mixedP tok rfl rfl fun S hS => ?_
    unfold c46
    rw [encF_mk] at hl79 ⊢
    simp
    refine Rd_call hl79 (by simp) ?_
    simp [hlt,encV_v0]
   all_goals exact absurd h (by decide)
  refine loc_rd mixedP tok rfl rfl fun S => ?_
  generalize hr : AV.sl 3 ((filtV n (allV (.mk k kn gs))).map encV) .no = res
  have hlen' := hlen
  rw [allV,allVs_map] at hr hlen'
  unfold c46
  rw [encF_mk] at hl79 ⊢
  simp
  refine Rd_call hl79 (by simp) ?_
  rcases poly_kinds hf hp with ⟨rfl,rfl⟩ | ⟨rfl,rfl,h1,h2⟩ | ⟨rfl,a,b,rfl⟩ | ⟨rfl,a,b,rfl⟩ | ⟨rfl,h1,h2,a,rfl⟩
  ·exact absurd rfl k0
  ·obtain ⟨c,rfl⟩ : ∃ c : Nat,kn = c := ⟨kn.toNat,by omega⟩
   have hr' : AV.sl 3 ((filtV n ((List.range (c : Int).toNat).map fun (i : Nat) => Va.mk i [] [])).map encV) .no = res := hr
   have hl' : ((List.range (c : Int).toNat).map fun (i : Nat) => Va.mk i [] []).length ≤ m := hlen'
   rw [Int.toNat_natCast,List.length_map,List.length_range] at hl'
   have e : filtV n ((List.range c).map fun (i : Nat) => Va.mk i [] []) = (List.range c).map fun (i : Nat) => Va.mk i [] [] := by
    unfold filtV
    rw [List.filter_eq_self]
    intro x hx
    obtain ⟨i,_,rfl⟩ := List.mem_map.1 hx
    have hx' : nodesV (Va.mk (i : Int) [] []) = 1 := by rw [nodesV,nodesVs]
    show decide ((nodesV (Va.mk (i : Int) [] []) : Int) ≤ n) = true
    rw [hx']
    exact decide_eq_true (by omega)
   rw [Int.toNat_natCast,e] at hr'
   have hmc : ¬ ((m : Int) < c) := by omega
   simp [hlt,hmc]
   refine l46_0 D c (by omega) S res c 0 _ _ (by omega) ?_ ?_ ?_ hr'.symm
   all_goals simp
  ·have hr' : AV.sl 3 ((filtV n ((lexL ([a,b].map allV)).map fun l => Va.mk 0 l [])).map encV) .no = res := hr
   have hl' : ((lexL ([a,b].map allV)).map fun l => Va.mk 0 l []).length ≤ m := hlen'
   rw [List.length_map] at hl'
   simp [hlt,c46_k5]
   refine l46_k4 D [a,b] (by simp) hg hs n hge hn m hm hl' S res hr'.symm .no _ _ ?_ ?_ ?_ ?_
   all_goals simp
  ·have hr' : AV.sl 3 ((filtV n (sumI 0 ([a,b].map allV))).map encV) .no = res := hr
   have hl' : (sumI 0 ([a,b].map allV)).length ≤ m := hlen'
   simp [hlt]
   refine l46_2 D [a,b] (by simp) n hge hn m hm hs S res 2 0 [] _ _ rfl (by simpa using hl') ?_ ?_ ?_ ?_ ?_ ?_ (by simpa using hr'.symm)
   all_goals simp
  ·obtain ⟨c,rfl⟩ : ∃ c : Nat,kn = c := ⟨kn.toNat,by omega⟩
   have hr' : AV.sl 3 ((filtV n ((lexL (List.replicate (c : Int).toNat (allV a))).map fun l => Va.mk 0 l [])).map encV) .no = res := hr
   have hl' : ((lexL (List.replicate (c : Int).toNat (allV a))).map fun l => Va.mk 0 l []).length ≤ m := hlen'
   rw [List.length_map] at hl'
   rw [Int.toNat_natCast] at hr' hl'
   have em : List.replicate c (allV a) = (List.replicate c a).map allV := by simp
   rw [em] at hr' hl'
   have hga : ∀ g ∈ List.replicate c a,g = a := fun g hg => (List.mem_replicate.1 hg).2
   simp [hlt,c46_k5]
   refine l46_3 D a c (by omega) 4 S _ _ (.int .i64 n) (.int .i64 m) c 0 _ _ (by omega) ?_ ?_ ?_ ?_ ?_ ?_ ?_ ?_ ?_
   case refine_9 =>
    intro τ' ω' g1 g2 g7 g13
    refine l46_k4 D (List.replicate c a) (by simp; omega) (fun g h => by rw [hga g h]; exact hg a (by simp)) (fun g h => by rw [hga g h]; exact hs a (by simp)) n hge hn m hm hl' S res hr'.symm .tip _ _ g1 g2 g7 g13
   all_goals simp
end Go.Ab.Tab
/- The shapes of a functor: the two lists are one; it is in order; the reference's Shapes (12). -/
namespace Go.Ab.Tab
open Go Go.Ab
set_option maxRecDepth 10000
set_option linter.unusedVariables false
set_option linter.unusedSimpArgs false
def shList (f : Fu) : List Va := (filtV 2000 (allV f)).map fun v => shapeV v f
theorem all_vals {f : Fu} (hf : shapedF f = true) (hp : polyF f = true) (h : (allV f).length ≤ 64) : valsF f = some (allV f) := by
 rcases vals_lim f hf hp with ⟨h1,_⟩ | ⟨_,h2⟩
 ·exact h1
 ·omega
theorem listR_eq {f : Fu} (hf : shapedF f = true) (hp : polyF f = true) : listR f = if (allV f).length ≤ 64 then some (shList f) else none := by
 unfold listR
 rcases vals_lim f hf hp with ⟨h1,h2⟩ | ⟨h1,h2⟩
 ·rw [h1,if_pos h2,Option.map_some]
  congr 1
  unfold listL shList filtV
  rw [List.filter_map]
  congr 1
  refine List.filter_congr fun v hv => ?_
  have hval := vals_valid f hf hp _ h1 v hv
  have hl := leavesV_le v f
  show shapeB f (shapeV v f) = decide ((nodesV v : Int) ≤ 2000)
  by_cases hn : nodesV v ≤ 2000
  ·rw [shape_is hf hp hval hn,decide_eq_true (by omega)]
  ·rw [decide_eq_false (by omega)]
   unfold shapeB
   rw [valV_poly hf hp]
   have := (fill_val (fun c => (c : Int)) (m := (leavesV v f).length) hf hp hval (fun i hi => by omega)).2
   unfold shapeV
   rw [this,decide_eq_false hn]
   rfl
 ·rw [h1,if_neg (by omega)]; rfl
theorem lex_sorted : ∀ (ls : List (List Va)),(∀ l ∈ ls,l.Pairwise fun u v => cmpV u v < 0) → (lexL ls).Pairwise fun x y => cmpVs x y < 0
 | [],_ => by rw [lexL]; simp
 | l :: r,h => by
  have hr := lex_sorted r fun m hm => h m (List.mem_cons_of_mem _ hm)
  have hl := h l (List.mem_cons_self ..)
  rw [lexL]
  clear h
  induction l with
  | nil => simp
  | cons u l ih =>
   rw [List.pairwise_cons] at hl
   rw [List.flatMap_cons,List.pairwise_append]
   refine ⟨?_,ih hl.2,?_⟩
   ·rw [List.pairwise_map]
    exact hr.imp fun {x y} hxy => by rw [cmpVs,if_pos (cmpV_refl u)]; exact hxy
   ·intro x hx y hy
    obtain ⟨x',_,rfl⟩ := List.mem_map.1 hx
    obtain ⟨v,hv,y',_,rfl⟩ := mem_flat2 hy
    have := hl.1 v hv
    rw [cmpVs,if_neg (by omega)]
    exact this
theorem sum_sorted : ∀ (ls : List (List Va)) (n : Nat),(∀ l ∈ ls,l.Pairwise fun u v => cmpV u v < 0) → (sumI n ls).Pairwise fun u v => cmpV u v < 0
 | [],n,_ => by rw [sumI]; exact List.Pairwise.nil
 | l :: r,n,h => by
  rw [sumI,List.pairwise_append]
  refine ⟨?_,sum_sorted r (n + 1) fun m hm => h m (List.mem_cons_of_mem _ hm),?_⟩
  ·rw [List.pairwise_map]
   refine (h l (List.mem_cons_self ..)).imp fun {u v} huv => ?_
   have e : cmpVs [u] [v] = cmpV u v := by rw [cmpVs,if_neg (by omega)]
   rw [cmpV,if_pos rfl,e,if_neg (by omega)]
   exact huv
  ·intro x hx y hy
   obtain ⟨u,_,rfl⟩ := List.mem_map.1 hx
   obtain ⟨i,l',v,_,_,rfl⟩ := sumI_mem _ _ _ hy
   rw [cmpV,if_neg (by omega)]
   unfold ordI
   rw [if_pos (by omega)]
   decide
theorem all_sorted : ∀ (f : Fu),shapedF f = true → polyF f = true → (allV f).Pairwise fun u v => cmpV u v < 0 := by
 refine Fu.ind' fun k n gs hrec => ?_
 intro hf hp
 have hg : ∀ l ∈ gs.map allV,l.Pairwise fun u v => cmpV u v < 0 := fun l hl => by
  obtain ⟨g,hg,rfl⟩ := List.mem_map.1 hl
  exact hrec g hg ((shaped_mk hf).2.2.2 g hg) (poly_gs hp g hg)
 have mk0 : ∀ ls : List (List Va),(ls.Pairwise fun x y => cmpVs x y < 0) → (ls.map fun l => Va.mk 0 l []).Pairwise fun u v => cmpV u v < 0 := by
  intro ls h
  rw [List.pairwise_map]
  refine h.imp fun {x y} hxy => ?_
  rw [cmpV,if_pos rfl,if_neg (by omega)]
  exact hxy
 rw [allV,allVs_map]
 rcases poly_kinds hf hp with ⟨rfl,rfl⟩ | ⟨rfl,rfl,h1,h2⟩ | ⟨rfl,a,b,rfl⟩ | ⟨rfl,a,b,rfl⟩ | ⟨rfl,h1,h2,a,rfl⟩
 ·simp
 ·show ((List.range n.toNat).map fun (i : Nat) => Va.mk i [] []).Pairwise fun u v => cmpV u v < 0
  rw [List.pairwise_map]
  refine List.pairwise_lt_range.imp fun {i j} hij => ?_
  rw [cmpV,if_neg (by omega)]
  unfold ordI
  rw [if_pos (by omega)]
  decide
 ·exact mk0 _ (lex_sorted _ hg)
 ·exact sum_sorted _ 0 hg
 ·refine mk0 _ (lex_sorted _ fun l hl => ?_)
  obtain ⟨_,rfl⟩ := List.mem_replicate.1 hl
  exact hg _ (by simp)
mutual
theorem fill_lt : ∀ (u v : Va) (f : Fu) (c : Nat),shapedF f = true → polyF f = true → valN 1 u f = true → valN 1 v f = true → cmpV u v < 0 → cmpV (fillV (fun c => (c : Int)) c u f) (fillV (fun c => (c : Int)) c v f) < 0
 | .mk a gs ws,.mk b hs zs,f,c,hf,hp,hu,hv,h => by
  obtain ⟨u1,u2,u3,u4⟩ := valN_poly hf hp hu
  obtain ⟨v1,v2,v3,v4⟩ := valN_poly hf hp hv
  simp only [Va.ws,Va.gs,Va.n] at u1 u2 u3 u4 v1 v2 v3 v4
  subst u1; subst v1
  by_cases k0 : f.k = 0
  ·have e1 : a = 0 ∧ gs = [] := by
    rcases u4 with h | h | h | h | h
    ·exact ⟨by omega,h.2.2.2⟩
    all_goals exact absurd h.1 (by omega)
   have e2 : b = 0 ∧ hs = [] := by
    rcases v4 with h | h | h | h | h
    ·exact ⟨by omega,h.2.2.2⟩
    all_goals exact absurd h.1 (by omega)
   obtain ⟨rfl,rfl⟩ := e1
   obtain ⟨rfl,rfl⟩ := e2
   rw [cmpV_refl] at h
   exact absurd h (by decide)
  ·rw [fillV,fillV,if_neg k0,if_neg k0]
   rw [cmpV] at h ⊢
   by_cases e : a = b
   ·subst e
    have ep : partsF f (.mk a hs []) = partsF f (.mk a gs []) := by
     have := partsF_same (v := .mk a gs []) hf hp hv rfl
     exact this
    rw [if_pos rfl] at h ⊢
    rw [ep] at v2 v3 ⊢
    by_cases hz : cmpVs gs hs = 0
    ·rw [if_pos hz] at h
     exact absurd h (by decide)
    ·rw [if_neg hz] at h
     have := fills_lt gs hs (partsF f (.mk a gs [])) c u2 v2 (fun g hg => ⟨partsF_shaped hf _ g hg,poly_parts hf hp _ g hg⟩) u3 v3 h
     rw [if_neg (by omega)]
     exact this
   ·rw [if_neg e] at h ⊢
    exact h
theorem fills_lt : ∀ (l m : List Va) (fs : List Fu) (c : Nat),fs.length = l.length → fs.length = m.length → (∀ g ∈ fs,shapedF g = true ∧ polyF g = true) → valNs 1 l fs = true → valNs 1 m fs = true → cmpVs l m < 0 → cmpVs (fillVs (fun c => (c : Int)) c l fs) (fillVs (fun c => (c : Int)) c m fs) < 0
 | [],[],fs,c,_,_,_,_,_,h => by rw [cmpVs] at h; exact absurd h (by decide)
 | [],y :: m,fs,c,h1,h2,_,_,_,_ => by rw [List.length_cons] at h2; rw [List.length_nil] at h1; omega
 | x :: l,[],fs,c,h1,h2,_,_,_,_ => by rw [List.length_cons] at h1; rw [List.length_nil] at h2; omega
 | x :: l,y :: m,[],c,h1,_,_,_,_,_ => by simp at h1
 | x :: l,y :: m,f :: fs,c,h1,h2,hg,hl,hm,h => by
  rw [valNs,Bool.and_eq_true] at hl hm
  obtain ⟨g1,g2⟩ := hg f (List.mem_cons_self ..)
  rw [fillVs,fillVs]
  rw [cmpVs] at h ⊢
  by_cases hz : cmpV x y = 0
  ·have e := (cmpV_zero _ _).1 hz
   subst e
   rw [if_pos hz] at h
   rw [if_pos (cmpV_refl _)]
   exact fills_lt l m fs _ (by simpa using h1) (by simpa using h2) (fun g h => hg g (List.mem_cons_of_mem _ h)) hl.2 hm.2 h
  ·rw [if_neg hz] at h
   have := fill_lt x y f c g1 g2 hl.1 hm.1 h
   rw [if_neg (by omega)]
   exact this
end
theorem shList_sorted {f : Fu} (hf : shapedF f = true) (hp : polyF f = true) (h : (allV f).length ≤ 64) : (shList f).Pairwise fun u v => cmpV u v < 0 := by
 unfold shList
 rw [List.pairwise_map]
 have hs : (filtV 2000 (allV f)).Pairwise fun u v => cmpV u v < 0 := (all_sorted f hf hp).sublist List.filter_sublist
 refine hs.imp_of_mem fun {u v} hu hv huv => ?_
 have hval := vals_valid f hf hp _ (all_vals hf hp h)
 exact fill_lt u v f 0 hf hp (hval u (List.mem_filter.1 hu).1) (hval v (List.mem_filter.1 hv).1) huv
theorem l12 (D : Nat) (f : Fu) (hf : shapedF f = true) (l : List Va) (hll : l.length ≤ 64) (hl : ∀ v ∈ l,fitV v ∧ nodesV v ≤ 2 ^ 30 ∧ ptV v f) (S) (r : AV) : ∀ (j i : Nat) (acc : List Va) (τ ω),i + j = l.length → acc.length = i →
  τ 1 = .ptr D 1 1 0 → τ 4 = .sl 3 (acc.map encV) .tip → τ 13 = .sl 3 (l.map encV) .no → τ 14 = .int .i64 l.length → τ 15 = .int .i64 i →
  ω 1 = (1,.cells [.int .i64 f.k,.int .i64 f.n,.sl 3 (f.gs.map encF) .no]) → r = rVals (some (acc ++ (l.drop i).map fun v => shapeV v f)) →
  Rd (Loc Pg Gl) .im (RetQ [.tmp 2,.tmp 3] r S) [.lp c12_l0,.blk 0,.c c12_k0] (stF 31 D τ ω S) := by
 intro j
 induction j with
 | zero =>
  intro i acc τ ω hi hal h1 h4 h13 h14 h15 w1 hr
  refine Rd_lpE c12_l0.eq_1 ?_
  obtain rfl : i = l.length := by omega
  rw [List.drop_length,List.map_nil,List.append_nil] at hr
  simp [h14,h15,c12_k0,h4,hr,rVals]
 | succ j ih =>
  intro i acc τ ω hi hal h1 h4 h13 h14 h15 w1 hr
  refine Rd_lpE c12_l0.eq_1 ?_
  have hlt : i < l.length := by omega
  have hwr := wrap_next hlt (show l.length ≤ maxLen by unfold maxLen; omega)
  have hle : (i + 1) * 56 ≤ 1099511627776 := by omega
  obtain ⟨q1,q2,q3⟩ := hl _ (List.getElem_mem hlt)
  rw [List.drop_eq_getElem_cons hlt,List.map_cons] at hr
  generalize hv : l[i] = v at q1 q2 q3 hr
  simp [h1,h13,h14,h15,hlt,hv,w1,encV_eta v]
  refine Rd_call (spec28p v q1 q2 f hf q3 _) (by simp [encF_eta f,encV_eta v]) ?_
  generalize shapeV v f = u at hr
  simp [encI,encV_eta u,h4,hal,hle,h15,hwr]
  refine ih (i + 1) (acc ++ [u]) _ _ (by omega) (by simp [hal]) ?_ ?_ ?_ ?_ ?_ ?_ (by rw [hr]; simp)
  all_goals simp [h1,h13,h14,w1,encV_eta u]
def shapes12 (f : Fu) : Option (List Va) := if (allV f).length ≤ 64 then some (shList f) else none
theorem spec12 (f : Fu) (hF : isF f = true) (hp : polyF f = true) (D : Nat) : Go.Ab.Loc Pg Gl D 12 [encF f] [] (rVals (shapes12 f)) [] := by
 have hf := isF_shaped hF
 have hno : nodesF f ≤ 2 ^ 20 := by
  unfold isF at hF
  simp only [Bool.and_eq_true,decide_eq_true_eq] at hF
  omega
 refine loc_rd mixedP tok rfl rfl fun S => ?_
 have h45 := spec45 f hf hp (D + 1)
 unfold c12 shapes12
 rw [encF_eta f]
 simp
 refine Rd_call h45 (by simp [encF_eta f]) ?_
 have hc : cntF f = min (allV f).length 1000 := rfl
 by_cases h : (allV f).length ≤ 64
 ·have h1 : ¬ (64 : Int) < cntF f := by omega
  have h46 := spec46 f hf hp hno (D + 1) 2000 64 (by omega) (by omega) h (by omega)
  have hall := (vals_all f hf hp (isF_depth hF) (all_vals hf hp h)).2
  have hfl : (filtV 2000 (allV f)).length ≤ (allV f).length := List.length_filter_le _ _
  have hm : ∀ v ∈ filtV 2000 (allV f),fitV v ∧ nodesV v ≤ 2 ^ 30 ∧ ptV v f := fun v hv => by
   obtain ⟨q1,q2,q3⟩ := hall v (List.mem_filter.1 hv).1
   exact ⟨q1,q2,val_pt v f q3⟩
  rw [if_pos h]
  unfold shList
  generalize filtV 2000 (allV f) = l at h46 hfl hm
  simp [h1]
  refine Rd_call h46 (by simp [encF_eta f]) ?_
  simp
  refine l12 D f hf l (by omega) hm S _ l.length 0 [] _ _ (by omega) rfl ?_ ?_ ?_ ?_ ?_ ?_ (by simp)
  all_goals simp
 ·have h1 : (64 : Int) < cntF f := by omega
  rw [if_neg h]
  simp [h1,rVals]
end Go.Ab.Tab
/- PolyShapes: pieces. -/
namespace Go.Ab.Tab
open Go Go.Ab
set_option maxRecDepth 10000
set_option linter.unusedVariables false
set_option linter.unusedSimpArgs false
theorem spec18o (d i g n : Nat) (x : Int) (D : Nat) (hd : d < D) : Go.Ab.Loc Pg Gl D 18 [.agg [.int .i64 0,.int .i64 0,.sl 3 [] .no,.own d i g 0 n 3 true],.sl 1 [.int .i64 x] .no] [] (.bool (decide (0 ≤ x ∧ x < n))) [] := by
 refine loc_rd mixedP tok rfl rfl fun S => ?_
 unfold c18
 have hd1 : d ≤ D := by omega
 simp [hd1,AV.upto]
 refine Rd_lpE c18_l0.eq_1 ?_
 by_cases h0 : x < 0
 ·have h0' : ¬ (0 : Int) ≤ x := by omega
  simp [h0,h0']
 ·have h0' : (0 : Int) ≤ x := by omega
  by_cases h1 : (n : Int) ≤ x
  ·have h1' : ¬ x < (n : Int) := by omega
   simp [h0,h1,h1']
  ·have h1' : x < (n : Int) := by omega
   simp [h0,h1,h0',h1',show IntKind.i64.wrap 1 = 1 from rfl]
   refine Rd_lpE c18_l0.eq_1 ?_
   simp [c18_k0]
mutual
theorem map_fill (to : List Int) {n : Nat} (h : Nat → Int) : ∀ (v : Va) (f : Fu) (c : Nat),shapedF f = true → polyF f = true → valN n v f = true → (∀ i x,(leavesV v f)[i]? = some x → h (c + i) = to[x.toNat]?.getD 0) → mapV to v f = fillV h c v f
 | .mk a gs ws,f,c,hf,hp,hv,hh => by
  obtain ⟨h1,h2,h3,h4⟩ := valN_poly hf hp hv
  simp only [Va.ws,Va.gs] at h1 h2 h3 h4
  subst h1
  rw [leavesV] at hh
  rw [mapV,fillV]
  by_cases k0 : f.k = 0
  ·rw [if_pos k0] at hh
   rw [if_pos k0,if_pos k0,show h c = to[a.toNat]?.getD 0 from hh 0 a rfl]
  ·rw [if_neg k0] at hh
   rw [if_neg k0,if_neg k0]
   unfold putV
   rw [poly_sets hp,if_neg (by decide),maps_fill to h gs _ c h2 (fun g hg => ⟨partsF_shaped hf _ g hg,poly_parts hf hp _ g hg⟩) h3 hh]
   rfl
theorem maps_fill (to : List Int) {n : Nat} (h : Nat → Int) : ∀ (l : List Va) (fs : List Fu) (c : Nat),fs.length = l.length → (∀ g ∈ fs,shapedF g = true ∧ polyF g = true) → valNs n l fs = true → (∀ i x,(leavesVs l fs)[i]? = some x → h (c + i) = to[x.toNat]?.getD 0) → mapVs to l fs = fillVs h c l fs
 | [],fs,c,_,_,_,_ => by rw [mapVs,fillVs]
 | v :: l,[],c,hl,_,_,_ => by simp at hl
 | v :: l,f :: fs,c,hl,hf,hv,hh => by
  rw [valNs,Bool.and_eq_true] at hv
  obtain ⟨h1,h2⟩ := hf f (List.mem_cons_self ..)
  rw [leavesVs] at hh
  rw [mapVs,fillVs,map_fill to h v f c h1 h2 hv.1 (fun i x hx => hh i x (by
   have hlt := (List.getElem?_eq_some_iff.1 hx).1
   rw [List.getElem?_append_left hlt]; exact hx)),
   maps_fill to h l fs (c + (leavesV v f).length) (by simpa using hl) (fun g hg => hf g (List.mem_cons_of_mem _ hg)) hv.2 fun i x hx => by
    have := hh ((leavesV v f).length + i) x (by rw [List.getElem?_append_right (by omega),Nat.add_sub_cancel_left]; exact hx)
    rw [← this]; congr 1; omega]
end
theorem fill_flat_nodes {h : Nat → Int} {n : Nat} {v : Va} {f : Fu} (hf : shapedF f = true) (hp : polyF f = true) (hv : valN n v f = true) : nodesV (fillV h 0 v f) = nodesV v := by
 rw [← flatV_nodes (fillV h 0 v f) f,fill_flat h v f 0 hf hp hv,flatV_nodes]
def mapL (to : List Int) (l : List Int) : List Int := l.map fun x => to[x.toNat]?.getD 0
theorem map_props {f : Fu} (hf : shapedF f = true) (hp : polyF f = true) {n : Nat} {v : Va} (hv : valN n v f = true) (to : List Int) :
  shapeV (mapV to v f) f = shapeV v f ∧ leavesV (mapV to v f) f = mapL to (leavesV v f) ∧ (∀ m : Nat,(∀ x ∈ mapL to (leavesV v f),0 ≤ x ∧ x < m) → valN m (mapV to v f) f = true) ∧ nodesV (mapV to v f) = nodesV v := by
 have hpt := val_pt v f hv
 have e := map_fill to (fun c => to[((leavesV v f)[c]?.getD 0).toNat]?.getD 0) v f 0 hf hp hv (fun i x hx => by rw [Nat.zero_add,hx]; rfl)
 have el : leavesV (mapV to v f) f = mapL to (leavesV v f) := by
  rw [e,fill_leaves _ v f 0 hpt]
  apply List.ext_getElem (by simp [mapL])
  intro i h1 h2
  simp [mapL] at h2
  simp [mapL,h2]
 refine ⟨?_,el,fun m hm => ?_,?_⟩
 ·rw [e]; unfold shapeV; rw [fill_fill _ _ v f 0 0 hpt]
 ·rw [e]
  refine (fill_val _ (m := m) hf hp hv fun i hi => ?_).1
  refine hm _ ?_
  unfold mapL
  refine List.mem_map.2 ⟨(leavesV v f)[i],List.getElem_mem hi,?_⟩
  rw [List.getElem?_eq_getElem hi,Option.getD_some]
 ·rw [e,fill_flat_nodes hf hp hv]
theorem l3_0 (l : List Va) (hl : l.length ≤ 64) (hfit : ∀ v ∈ l,fitV v) (hs : l.Pairwise fun u v => cmpV u v < 0) (S) (K : List AI) (Q : St → Prop) (r2 r3 r4 : AV) (e3 e4 : Ent) : ∀ (j i : Nat) (τ ω),i + j = l.length →
  τ 2 = r2 → τ 3 = r3 → τ 4 = r4 → τ 7 = .sl 3 (l.map encV) .no → τ 10 = .sl 3 (l.map encV) .no → τ 81 = .sl 3 (l.map encV) .no → τ 82 = .int .i64 l.length → τ 83 = .int .i64 i → ω 3 = e3 → ω 4 = e4 →
  (∀ τ' ω',τ' 2 = r2 → τ' 3 = r3 → τ' 4 = r4 → ω' 3 = e3 → ω' 4 = e4 → Rd (Loc Pg Gl) .im Q K (stF 197 0 τ' ω' S)) →
  Rd (Loc Pg Gl) .im Q (.lp c3_l0 :: .blk 0 :: K) (stF 197 0 τ ω S) := by
 intro j
 induction j with
 | zero =>
  intro i τ ω hi h2 h3 h4 h7 h10 h81 h82 h83 w3 w4 hend
  refine Rd_lpE c3_l0.eq_1 ?_
  obtain rfl : i = l.length := by omega
  simp [h82,h83]
  refine hend _ _ ?_ ?_ ?_ w3 w4
  all_goals simp [h2,h3,h4]
 | succ j ih =>
  intro i τ ω hi h2 h3 h4 h7 h10 h81 h82 h83 w3 w4 hend
  refine Rd_lpE c3_l0.eq_1 ?_
  have hlt : i < l.length := by omega
  have hwr := wrap_next hlt (show l.length ≤ maxLen by unfold maxLen; omega)
  have hf := hfit _ (List.getElem_mem hlt)
  have next : ∀ (τ' : Nat → AV) (ω' : Nat → Ent),τ' 2 = r2 → τ' 3 = r3 → τ' 4 = r4 → τ' 7 = .sl 3 (l.map encV) .no → τ' 10 = .sl 3 (l.map encV) .no → τ' 81 = .sl 3 (l.map encV) .no → τ' 82 = .int .i64 l.length → τ' 83 = .int .i64 (i + 1 : Nat) → ω' 3 = e3 → ω' 4 = e4 →
    Rd (Loc Pg Gl) .im Q (.lp c3_l0 :: .blk 0 :: K) (stF 197 0 τ' ω' S) := fun τ' ω' g2 g3 g4 g7 g10 g81 g82 g83 v3 v4 => ih (i + 1) τ' ω' (by omega) g2 g3 g4 g7 g10 g81 g82 g83 v3 v4 hend
  by_cases hi0 : i = 0
  ·subst hi0
   simp [h10,h81,h82,h83,hlt,encV_eta l[0]]
   refine Rd_drCall (same13 l[0] hf _) (by simp [encV_eta l[0]]) ?_
   simp [h83]
   refine next _ _ ?_ ?_ ?_ ?_ ?_ ?_ ?_ ?_ ?_ ?_
   all_goals simp [h2,h3,h4,h7,h10,h81,h82,w3,w4,show IntKind.i64.wrap 1 = 1 from rfl]
  ·obtain ⟨p,hp⟩ : ∃ p,i = p + 1 := ⟨i - 1,by omega⟩
   have hlp : p < l.length := by omega
   have hc := List.pairwise_iff_getElem.1 hs p i hlp hlt (by omega)
   have hfp := hfit _ (List.getElem_mem hlp)
   have h14 := spec14 l[p] hfp l[i] 1
   have hw1 : IntKind.i64.wrap ((i : Int) - 1) = (p : Int) := by rw [show (i : Int) - 1 = p by omega]; exact wrap_i64_nat (by omega)
   have hpos : (0 : Int) < (i : Int) := by omega
   have hpos' : 0 < i := by omega
   have hnc : ¬ 0 ≤ cmpV l[p] l[i] := by omega
   simp [h10,h81,h82,h83,hlt,encV_eta l[i]]
   refine Rd_drCall (same13 l[i] hf _) (by simp [encV_eta l[i]]) ?_
   simp [h7,h83,hlp,hw1,hpos,hpos',encV_eta l[p]]
   refine Rd_drCall h14 (by simp [encV_eta l[p],encV_eta l[i]]) ?_
   simp [hnc,h83,hwr]
   refine next _ _ ?_ ?_ ?_ ?_ ?_ ?_ ?_ ?_ ?_ ?_
   all_goals simp [h2,h3,h4,h7,h10,h81,h82,w3,w4]
end Go.Ab.Tab
