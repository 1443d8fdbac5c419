/- Rounds of a loop over a function: yield's contract, from a run of the loop's body. -/
import Derived.Test.YtgfjhhgpgaejmaaGreatDoorApartB4
import Derived.RangeFuncRecord
import Derived.RangeFuncLeaves
namespace Go.Ab
open Go
set_option linter.unusedVariables false
set_option linter.unusedSimpArgs false
section
variable {P : Program} {G : Nat → Option (List AV)} {L : Lends} {prot : Nat → Prop} {w0 : World} {E0 E : GE} {w : World} {s : St} {vs : Array Value}
def roundT (ts : List AV) (ps : List Nat) (as : List AV) : List AV := (ps.zip as).foldl (fun ts p => ts.set p.1 p.2) ts
theorem Ok.round {args : List AV} {D : Nat} {S : Nat → Nat → Ent} (h : Ok G prot w0 E0 E w ⟨args,[],D,S⟩ vs) {ts : List AV} {tm : Array Value} (n : Nat) (hsz : tm.size = ts.length)
  (hrel : ∀ (i : Nat) b v,ts[i]? = some b → tm[i]? = some v → Rel E b v) (hdull : ∀ b ∈ ts,b.dull) : Ok G prot w0 E0 E w ⟨ts,List.replicate n (0,.dead),D,S⟩ tm := by
 have hl : ∀ d i,(⟨ts,List.replicate n (0,.dead),D,S⟩ : St).look d i = (⟨args,[],D,S⟩ : St).look d i := by
  intro d i
  unfold St.look
  simp only []
  split
  ·rw [List.getD_eq_getElem?_getD,List.getElem?_replicate]; split <;> simp
  ·rfl
 have hh : ∀ l ad z k cap,Hold E w ⟨ts,List.replicate n (0,.dead),D,S⟩ tm l ad z k cap → Hold E w ⟨args,[],D,S⟩ vs l ad z k cap := by
  intro l ad z k cap hh
  cases hh with
  | t i a0 v0 ad z n cap h1 h2 h3 => exact (h3.dull (hdull _ (mem_of_get h1))).elim
  | o d i j g cs z xs B arr el ad cap h1 h2 h3 h4 h5 h6 => exact .o d i j g cs z xs B arr el ad cap (by rw [← hl]; exact h1) h2 h3 h4 h5 h6
 exact h.tmps hl rfl hsz hrel (fun l ad z k cap q => h.tips _ _ _ _ _ (hh _ _ _ _ _ q))
  (fun l l' ad ad' z z' k k' cap cap' q q' hb => h.tinj _ _ _ _ _ _ _ _ _ _ (hh _ _ _ _ _ q) (hh _ _ _ _ _ q') hb)
theorem roundT_rel {E : GE} : ∀ {ps : List Nat} {as : List AV} {us : List Value} {ts : List AV} {tm : Array Value},as.length = us.length → (∀ (i : Nat) b u,as[i]? = some b → us[i]? = some u → Rel E b u) →
  tm.size = ts.length → (∀ (i : Nat) b v,ts[i]? = some b → tm[i]? = some v → Rel E b v) →
  ((ps.zip us).foldl (fun tm p => tm.setIfInBounds p.1 p.2) tm).size = (roundT ts ps as).length ∧ ∀ (i : Nat) b v,(roundT ts ps as)[i]? = some b → ((ps.zip us).foldl (fun (tm : Array Value) p => tm.setIfInBounds p.1 p.2) tm)[i]? = some v → Rel E b v
 | [],as,us,ts,tm,h1,h2,h3,h4 => by simpa [roundT] using ⟨h3,h4⟩
 | p :: ps,[],us,ts,tm,h1,h2,h3,h4 => by
  obtain rfl : us = [] := List.length_eq_zero_iff.1 h1.symm
  simpa [roundT] using ⟨h3,h4⟩
 | p :: ps,a :: as,[],ts,tm,h1,h2,h3,h4 => by simp at h1
 | p :: ps,a :: as,u :: us,ts,tm,h1,h2,h3,h4 => by
  have := roundT_rel (ps := ps) (as := as) (us := us) (ts := ts.set p a) (tm := tm.setIfInBounds p u) (by simpa using h1) (fun i b v hb hv => h2 (i + 1) b v (by simpa using hb) (by simpa using hv)) (by simpa using h3) (fun i b v hb hv => by
   rw [List.getElem?_set] at hb
   rw [Array.getElem?_setIfInBounds] at hv
   by_cases e : p = i
   ·subst e
    rw [if_pos rfl] at hb hv
    split at hb
    ·split at hv
     ·injection hb with hb; injection hv with hv; subst hb; subst hv
      exact h2 0 _ _ rfl rfl
     ·cases hv
    ·cases hb
   ·rw [if_neg e] at hb hv
    exact h4 i b v hb hv)
  simpa [roundT] using this
def busyL (r : Loop) : Loop := { r with state := .busy }
inductive Jmp where
 | exit (id : Nat)
 | ret
def Jmp.code : Jmp → Code
 | .exit id => .exit id
 | .ret => .ret
def finL (jump : Option Jmp) (r : Loop) : Loop := { r with state := if jump.isNone then .ready else .done,pending := jump.map Jmp.code }
def Jmp.way : Option Jmp → Way
 | none => .fall
 | some (.exit id) => .exit id
 | some .ret => .ret
def roundQ2 (D D0 i g : Nat) (ro : Loop) (ts : List AV) (jump : Option Jmp) (S : Nat → Nat → Ent) (dl : List (Nat × Nat × Ent)) (w : Way) (s2 : St) : Prop :=
 w = Jmp.way jump ∧ s2.S D0 i = (g,.lp (busyL ro) ts) ∧ ∀ d j,d ≠ D → (updS s2.S D0 i (g,.lp (finL jump (busyL ro)) ts)) d j = upds S dl d j
def roundQ1 (C : CallRel) (body : AC) (D D0 i g : Nat) (ro : Loop) (ts : List AV) (jump : Option Jmp) (S : Nat → Nat → Ent) (dl : List (Nat × Nat × Ent)) (w : Way) (s1 : St) : Prop :=
 w = .fall ∧ s1.S D0 i = (g,.lp ro ts) ∧ RunW C (roundQ2 D D0 i g ro ts jump S dl) [.c body] { s1 with S := updS s1.S D0 i (g,.lp (busyL ro) ts) }
theorem Ok.loop (h : Ok G prot w0 E0 E w s vs) {d i g B : Nat} {r r' : Loop} {ts : List AV} (hd : d ≠ s.D) (hlk : s.look d i = (g,.lp r ts)) (hB : E.loc d i g = some B) (ht : r'.tmps = r.tmps) :
  w.heap[B]? = some (.loop r) ∧ Ok G prot w0 E0 E (w.putObj B (.loop r')) { s with S := updS s.S d i (g,.lp r' ts) } vs := by
 have hl : Live E s d i B := ⟨by rw [hlk]; simp,by rw [hlk]; exact hB⟩
 obtain ⟨B',h1,h2,_,_⟩ := h.objs d i hl.1
 have : B' = B := by have := hl.2; rw [h1] at this; exact Option.some.inj this
 subst this
 rw [hlk] at h2
 obtain ⟨q1,q2,q3⟩ := h2
 have hT := turned_putObj (o' := .loop r') q1
 have := h.setobj hl hT (o := .lp r' ts) (by simp) ⟨hT.here,by rw [ht]; exact q2,by rw [ht]; exact q3⟩ (fun cs e => by cases e) (fun arr el fz e => by cases e)
 refine ⟨q1,?_⟩
 unfold St.up at this
 rw [if_neg hd,hlk] at this
 exact this
theorem round_loc (hm : PGood P) {D D0 i g : Nat} {ro : Loop} {ts as : List AV} {pre body : AC} {M dl : List (Nat × Nat × Ent)} {n : Nat} {jump : Option Jmp}
  (hD0 : D0 < D) (hmem : (D0,i,((g,.lp ro ts) : Ent)) ∈ M) (hst : ro.state = .ready) (hpre : comp P G L ro.assign = some pre) (hbody : comp P G L ro.body = some body)
  (hps : as.length = ro.params.size) (hdull : ∀ b ∈ roundT ts ro.params.toList as,b.dull)
  (hrun : ∀ S,(∀ m ∈ M,m.1 < D ∧ S m.1 m.2.1 = m.2.2) → RunW (Loc P G) (roundQ1 (Loc P G) body D D0 i g ro ts jump S dl) [.c pre] ⟨roundT ts ro.params.toList as,List.replicate n (0,.dead),D,S⟩) :
  Loc P G D yid (.yl D0 i g :: as) M (.bool jump.isNone) dl := by
 refine .inr ⟨rfl,fun prot w0 E0 E w S B us hok hM => ?_⟩
 have hDne : D0 ≠ D := by omega
 have hlk0 : (⟨.yl D0 i g :: as,[],D,S⟩ : St).look D0 i = (g,.lp ro ts) := by
  unfold St.look; rw [if_neg hDne]; exact (hM _ hmem).2
 have hB : E.loc D0 i g = some B := by
  have := hok.rel 0 (.yl D0 i g) (.func (.yield B) #[] #[]) rfl rfl
  obtain ⟨B',h1,h2⟩ := this.yl_inv
  injection h2 with h2; injection h2 with h2; subst h2; exact h1
 obtain ⟨hheap,_⟩ := hok.loop (r' := ro) hDne hlk0 hB rfl
 have hobj : ro.tmps.size = ts.length ∧ ∀ (j : Nat) c v,ts[j]? = some c → ro.tmps[j]? = some v → Rel E c v := by
  obtain ⟨B',h1,h2,_,_⟩ := hok.objs D0 i (by rw [hlk0]; simp)
  rw [hlk0] at h2
  exact ⟨h2.2.1,fun j c v hc hv => (h2.2.2 j c v hc hv).mono (GE.to_le _ _)⟩
 have husz : us.length = as.length := by
  have := hok.size; simp at this; omega
 have hyield := run_yield (P := P) (args := us.toArray) hheap (by simp; omega)
 refine ⟨ro.fn,_,ro.assign,ro.body,hyield,fun c cs => ?_⟩
 have hrr := roundT_rel (E := E) (ps := ro.params.toList) (as := as) (us := us) (ts := ts) (tm := ro.tmps) husz.symm (fun j b u hb hu => hok.rel (j + 1) b u (by simpa using hb) (by simpa using hu)) hobj.1 hobj.2
 have htm : (ro.params.zip us.toArray).foldl (fun tmps (x : Tmp × Value) => tmps.setIfInBounds x.1 x.2) ro.tmps = (ro.params.toList.zip us).foldl (fun (tm : Array Value) p => tm.setIfInBounds p.1 p.2) ro.tmps := by
  rw [← Array.foldl_toList]
  simp
 rw [htm]
 generalize hTM : (ro.params.toList.zip us).foldl (fun (tm : Array Value) p => tm.setIfInBounds p.1 p.2) ro.tmps = TM at hrr
 have hok1 := hok.round n hrr.1 hrr.2 hdull
 let b : Frame := { (default : Frame) with fn := ro.fn,kind := .normal,roundOf := some B }
 have hb0 : Frame.round B ro.fn TM ro.assign ro.body .normal = b.atR { tmps := TM,defers := [] } [.code ro.assign,.beginRound,.code ro.body] := by
  simp [Frame.round,Frame.atR,b]
 rw [hb0]
 obtain ⟨wy,todo,a1,w1,E1,s1,⟨hq1,hend1⟩,st1,le1,ok1,df1,hs1⟩ := (run_sound (L := L) (kc0 := [.beginRound,.code ro.body]) hm (hrun S hM)).1 _ (.c hpre .nil) b (by simp [b]) (c :: cs) { tmps := TM,defers := [] } w E hok1
 obtain ⟨rfl,hl1,hrun2⟩ := hq1
 cases hend1
 have hs1D : s1.D = D := hs1
 have hB1 : E1.loc D0 i g = some B := le1.1.2 _ _ _ _ hB
 have hlk1 : s1.look D0 i = (g,.lp ro ts) := by unfold St.look; rw [if_neg (by rw [hs1D]; exact hDne)]; exact hl1
 obtain ⟨hh1,ok1'⟩ := ok1.loop (r' := busyL ro) (by rw [hs1D]; exact hDne) hlk1 hB1 rfl
 have sb : Steps P (lone (b.atR a1 [.beginRound,.code ro.body]) (c :: cs) w1) (lone (b.atR a1 [.code ro.body]) (c :: cs) (w1.putObj B (.loop (busyL ro)))) :=
  .one (stepR_beginRound (l := B) rfl (run_beginRound hh1 hst))
 obtain ⟨wy2,todo2,a2,w2,E2,s2,⟨hq2,hend2⟩,st2,le2,ok2,df2,hs2⟩ := (run_sound (L := L) (kc0 := []) hm hrun2).1 _ (.c hbody .nil) b (by simp [b]) (c :: cs) a1 _ E1 ok1'
 obtain ⟨rfl,hl2,hS2⟩ := hq2
 have hs2D : s2.D = D := hs2.trans hs1D
 have hB2 : E2.loc D0 i g = some B := le2.1.2 _ _ _ _ hB1
 have hlk2 : s2.look D0 i = (g,.lp (busyL ro) ts) := by unfold St.look; rw [if_neg (by rw [hs2D]; exact hDne)]; exact hl2
 obtain ⟨hh2,ok2'⟩ := ok2.loop (r' := finL jump (busyL ro)) (by rw [hs2D]; exact hDne) hlk2 hB2 rfl
 have hendr := run_endRound (P := P) (jump.map Jmp.code) hh2
 have hjn : (jump.map Jmp.code).isNone = jump.isNone := by cases jump <;> rfl
 have sfin : Steps P (lone (b.atR a2 todo2) (c :: cs) w2) (lone (c.finish (.bool jump.isNone)) cs (w2.putObj B (.loop (finL jump (busyL ro))))) := by
  cases jump with
  | none =>
   cases hend2
   exact .one (stepR_round_end (l := B) rfl rfl hendr)
  | some j =>
   cases j with
   | exit id =>
    cases hend2 with
    | exit hx => exact .one (stepR_round_exit (l := B) rfl rfl hx hendr)
   | ret =>
    cases hend2 with
    | ret k => exact .one (stepR_round_ret (l := B) rfl rfl hendr)
 refine ⟨.bool jump.isNone,_,st1.trans (sb.trans (st2.trans sfin)),?_⟩
 have hle : E.leD D E2 := by
  have := GE.leD_trans le1 (by rw [hs1D] at le2; exact le2)
  exact this
 refine ⟨⟨E2.imm,E.loc,E2.room⟩,fun _ _ _ hx => hle.1.1 _ _ _ hx,GE.leC_same rfl,fun d j g' B' hb => hle.1.3 _ _ _ _ hb,?_⟩
 refine end_ok hok hle ok2' hs2D (fun d j hd => ?_) (.bool _) (fun z n ad cap ht => (ht.dull trivial).elim)
 unfold St.look
 rw [if_neg (by show ¬ d = s2.D; rw [hs2D]; exact hd)]
 exact hS2 d j hd
end
end Go.Ab
/- A loop over a function: the iterator's call,from its contract. -/
namespace Go.Ab
open Go
set_option linter.unusedVariables false
set_option linter.unusedSimpArgs false
section
variable {P : Program} {G : Nat → Option (List AV)} {L : Lends} {prot : Nat → Prop} {w0 : World} {E0 E : GE} {w : World} {s : St} {vs : Array Value}
theorem Ok.rebase (h : Ok G prot w0 E0 E w s vs) {B : Nat} (hf : Fresh prot E w s vs B) (hB : B < w.heap.size) : Ok G (fun b => prot b ∨ b = B) w E E w s vs where
 size := h.size
 rel := h.rel
 imm := h.imm
 locs := h.locs
 rooms := h.rooms
 objs := fun d i hd => by
  obtain ⟨B',h1,h2,h3,h4⟩ := h.objs d i hd
  refine ⟨B',h1,h2,h3,?_⟩
  rintro (q | q)
  ·exact h4 q
  ·subst q; exact hf.loc _ _ _ h1
 inj := h.inj
 tips := fun l ad z n cap hh => by
  have k := h.tips l ad z n cap hh
  refine ⟨k.spot,k.room,k.free,?_,k.noob⟩
  rintro (q | q)
  ·exact k.notp q
  ·exact hf.hold _ _ _ _ _ hh q
 tinj := h.tinj
 glob := h.glob
 frame := fun b hb => ⟨by
  rcases hb with q | q
  ·exact Nat.lt_of_lt_of_le (h.frame b q).1 h.grow
  ·subst q; exact hB,rfl⟩
 grow := Nat.le_refl _
 same := ⟨rfl,rfl,rfl⟩
 ifr := fun _ _ _ => rfl
theorem Ok.unbase (h : Ok G prot w0 E0 E w s vs) {prot' : Nat → Prop} (hp : ∀ b,prot b → prot' b) {E' : GE} {w' : World} {s' : St} {vs' : Array Value} (h' : Ok G prot' w E E' w' s' vs') : Ok G prot w0 E0 E' w' s' vs' where
 size := h'.size
 rel := h'.rel
 imm := h'.imm
 locs := h'.locs
 rooms := h'.rooms
 objs := fun d i hd => by
  obtain ⟨B',h1,h2,h3,h4⟩ := h'.objs d i hd
  exact ⟨B',h1,h2,h3,fun q => h4 (hp _ q)⟩
 inj := h'.inj
 tips := fun l ad z n cap hh => by
  have k := h'.tips l ad z n cap hh
  exact ⟨k.spot,k.room,k.free,fun q => k.notp (hp _ q),k.noob⟩
 tinj := h'.tinj
 glob := h'.glob
 frame := fun b hb => ⟨(h.frame b hb).1,(h'.frame b (hp b hb)).2.trans (h.frame b hb).2⟩
 grow := Nat.le_trans h.grow h'.grow
 same := ⟨h'.same.1.trans h.same.1,h'.same.2.1.trans h.same.2.1,h'.same.2.2.trans h.same.2.2⟩
 ifr := fun b hb o => (h'.ifr b (hp b hb) o).trans (h.ifr b hb o)
theorem obAt_not_deferred {E : GE} {w : World} {d B : Nat} {o : Ob} (h : obAt E w d B o) {x} : w.heap[B]? ≠ some (.deferred x) := by
 intro e
 cases o with
 | dead => exact h
 | cells cs => obtain ⟨arr,el,h1,_⟩ := h; rw [h1] at e; cases e
 | mp es => obtain ⟨arr,el,h1,_⟩ := h; rw [h1] at e; cases e
 | ch c b => obtain ⟨arr,a,q,h1,_⟩ := h; rw [h1] at e; cases e
 | lp r ts => rw [h.1] at e; cases e
theorem Ok.shut (h : Ok G prot w0 E0 E w s vs) {B : Nat} {x y} (hb : w.heap[B]? = some (.deferred x)) (hge : w0.heap.size ≤ B) : Ok G prot w0 E0 E (w.putObj B (.deferred y)) s vs := by
 have hB := lt_of_heap hb
 have hT := turned_putObj (o' := .deferred y) hb
 have hcell : ∀ {b : Nat} {arr el fz},(w.putObj B (.deferred y)).heap[b]? = some (Obj.cells arr el fz) → w.heap[b]? = some (Obj.cells arr el fz) := by
  intro b arr el fz hc
  by_cases e : b = B
  ·subst e; rw [hT.here] at hc; cases hc
  ·rw [hT.other b e] at hc; exact hc
 have hcell' : ∀ {b : Nat} {arr el fz},w.heap[b]? = some (Obj.cells arr el fz) → (w.putObj B (.deferred y)).heap[b]? = some (Obj.cells arr el fz) := by
  intro b arr el fz hc
  by_cases e : b = B
  ·subst e; rw [hb] at hc; cases hc
  ·rw [hT.other b e]; exact hc
 have hhold : ∀ l ad z n cap,Hold E (w.putObj B (.deferred y)) s vs l ad z n cap → Hold E w s vs l ad z n cap := by
  intro l ad z n cap hh
  cases hh with
  | t i a0 v0 ad z n cap h1 h2 h3 => exact .t i a0 v0 ad z n cap h1 h2 h3
  | o d i j g cs z xs B' arr el ad cap h1 h2 h3 h4 h5 h6 => exact .o d i j g cs z xs B' arr el ad cap h1 h2 h3 (hcell h4) h5 h6
 constructor
 case size => exact h.size
 case rel => exact h.rel
 case imm =>
  intro b o v hv
  obtain ⟨arr,el,fz,h1,h2⟩ := h.imm b o v hv
  exact ⟨arr,el,fz,hcell' h1,h2⟩
 case locs => intro d i g B' hb'; have := h.locs d i g B' hb'; exact ⟨this.1,this.2.1,by rw [World.putObj_size]; exact this.2.2⟩
 case rooms => intro d i g B' hb' arr el fz ha; exact h.rooms d i g B' hb' arr el fz (hcell ha)
 case objs =>
  intro d i hd
  obtain ⟨B',h1,h2,h3,h4⟩ := h.objs d i hd
  refine ⟨B',h1,h2.world (hT.other B' fun e => ?_),h3,h4⟩
  subst e; exact obAt_not_deferred h2 hb
 case inj => exact h.inj
 case tips =>
  intro l ad z n cap hh
  have k := h.tips l ad z n cap (hhold _ _ _ _ _ hh)
  obtain ⟨arr,el,h1,h2⟩ := k.room
  exact ⟨k.spot,⟨arr,el,hcell' h1,h2⟩,k.free,k.notp,k.noob⟩
 case tinj => intro l l' ad ad' z z' n n' cap cap' hh hh' hb; exact h.tinj _ _ _ _ _ _ _ _ _ _ (hhold _ _ _ _ _ hh) (hhold _ _ _ _ _ hh') hb
 case glob => exact h.glob
 case frame =>
  intro b hb'
  have := h.frame b hb'
  exact ⟨this.1,by rw [hT.other b (by omega)]; exact this.2⟩
 case grow => rw [World.putObj_size]; exact h.grow
 case same => exact h.same
 case ifr => exact h.ifr
theorem Ok.loopU (h : Ok G prot w0 E0 E w s vs) {d i g B : Nat} {r r' : Loop} {ts : List AV} (hlk : s.look d i = (g,.lp r ts)) (hB : E.loc d i g = some B) (ht : r'.tmps = r.tmps) :
  w.heap[B]? = some (.loop r) ∧ Ok G prot w0 E0 E (w.putObj B (.loop r')) (s.up (d,i,(g,.lp r' ts))) vs := by
 have hl : Live E s d i B := ⟨by rw [hlk]; simp,by rw [hlk]; exact hB⟩
 obtain ⟨B',h1,h2,_,_⟩ := h.objs d i hl.1
 have : B' = B := by have := hl.2; rw [h1] at this; exact Option.some.inj this
 subst this
 rw [hlk] at h2
 obtain ⟨q1,q2,q3⟩ := h2
 have hT := turned_putObj (o' := .loop r') q1
 have := h.setobj hl hT (o := .lp r' ts) (by simp) ⟨hT.here,by rw [ht]; exact q2,by rw [ht]; exact q3⟩ (fun cs e => by cases e) (fun arr el fz e => by cases e)
 rw [hlk] at this
 exact ⟨q1,this⟩
theorem Ok.renew (h : Ok G prot w0 E0 E w s vs) : Ok G prot w E E w s vs where
 size := h.size
 rel := h.rel
 imm := h.imm
 locs := h.locs
 rooms := h.rooms
 objs := h.objs
 inj := h.inj
 tips := h.tips
 tinj := h.tinj
 glob := h.glob
 frame := fun b hb => ⟨Nat.lt_of_lt_of_le (h.frame b hb).1 h.grow,rfl⟩
 grow := Nat.le_refl _
 same := ⟨rfl,rfl,rfl⟩
 ifr := fun _ _ _ => rfl
def snap (s : St) : List AV := s.ts.map AV.strip
def rngS (s : St) (slot g : Nat) (dl : List (Nat × Nat × Ent)) (r1 r2 r3 : Loop) : St :=
 ((dl.foldl St.up (s.up (s.D,slot,(g,.lp r1 (snap s))))).up (s.D,slot,(g,.lp r2 (snap s)))).up (s.D,slot,(g,.lp r3 (snap s)))
theorem range_steps {a : Act} (h : Ok G prot w0 E0 E w s a.tmps) {b : Frame} (hb : b.roundOf = none) {gx : Operand} {pp : Array Tmp} {ca cb : Code} {x : Opd} {ps : List Nat} {pre body : AC}
  (hx : opd P G 0 gx = some x) (hps : pp.toList = ps) (hpre : comp P G L ca = some pre) (hbody : comp P G L cb = some body)
  {fi : FuncId} {caps : List AV} {slot : Nat} {e0 : Ent} {M dl : List (Nat × Nat × Ent)} {jump : Option Jmp} (hev : s.ev x = .fn fi caps) (hfi : fi ≠ yid) (hslot : s.os[slot]? = some e0)
  (ro' : Loop → Loop) (hro : ∀ ro : Loop,ro.state = .ready → ro.pending = none → (ro' ro).state ≠ .busy ∧ (ro' ro).pending = jump.map Jmp.code ∧ (ro' ro).tmps = ro.tmps)
  (hC : ∀ ro : Loop,ro.state = .ready → ro.pending = none → ro.params.toList = ps → comp P G L ro.assign = some pre → comp P G L ro.body = some body →
   Loc P G (s.D + 1) fi (.yl s.D slot (e0.1 + 1) :: caps.map AV.strip) ((s.D,slot,(e0.1 + 1,.lp ro (snap s))) :: M) (.tup []) (dl ++ [(s.D,slot,(e0.1 + 1,.lp (ro' ro) (snap s)))]))
  (hM : ∀ m ∈ M,m.1 ≤ s.D ∧ (m.1 = s.D → m.2.1 < s.os.length ∧ m.2.1 ≠ slot) ∧ s.look m.1 m.2.1 = m.2.2) (hdl : ∀ u ∈ dl,(u.1,u.2.1) ∈ M.map (fun m => (m.1,m.2.1)) ∧ u.2.2.2 ≠ .dead) (k : List Item) (cs : List Frame) :
  ∃ (Bd : Nat) (w3 : World) (E3 : GE) (r1 r2 r3 : Loop),
   Steps P (lone (b.atR a (.code (.rangeFunc gx pp ca cb) :: k)) cs w) (lone (b.atR { a with defers := { target := .collected Bd,args := #[] } :: a.defers } ((jump.map fun j => Item.code j.code).toList ++ k)) cs w3) ∧
   w.heap.size ≤ Bd ∧ GE.leD s.D E E3 ∧
   ∃ prot' : Nat → Prop,Ok G prot' w3 E3 E3 w3 (rngS s slot (e0.1 + 1) dl r1 r2 r3) a.tmps ∧
    ∀ E4 w4 s4 vs4,Ok G prot' w3 E3 E4 w4 s4 vs4 → Ok G prot w0 E0 E4 w4 s4 vs4 ∧ w4.heap[Bd]? = some (.deferred (some [])) := by
 obtain ⟨h1,hf1,hb1⟩ := h.push (.deferred (some [])) (w' := w.alloc (.deferred (some []))) rfl
 have hs1 : (w.alloc (.deferred (some []))).heap.size = w.heap.size + 1 := World.size_alloc ..
 have h2 := h1.rebase hf1 (by rw [hs1]; omega)
 obtain ⟨us,hgv,hul,hur⟩ := (by have := h.ev (s := s) hx; rw [hev] at this; exact this.fn_inv)
 generalize hr1 : ({ state := .ready,pending := none,fn := b.fn,tmps := a.tmps,params := pp,assign := ca,body := cb,defers := w.heap.size } : Loop) = r1
 obtain ⟨h3,hf3,hb3⟩ := h2.push (.loop r1) (w' := (w.alloc (.deferred (some []))).alloc (.loop r1)) rfl
 have hs3 : ((w.alloc (.deferred (some []))).alloc (.loop r1)).heap.size = w.heap.size + 1 + 1 := by rw [World.size_alloc,hs1]
 rw [hs1] at hf3 hb3
 have hat : obAt E ((w.alloc (.deferred (some []))).alloc (.loop r1)) s.D (w.heap.size + 1) (.lp r1 (snap s)) := by
  refine ⟨hb3,by rw [← hr1]; simp [snap,h.size],fun j c v hc hv => ?_⟩
  rw [← hr1] at hv
  unfold snap at hc
  rw [List.getElem?_map,Option.map_eq_some_iff] at hc
  obtain ⟨c0,hc0,rfl⟩ := hc
  exact ((h.rel j c0 v hc0 hv).strip).mono h.to_self
 obtain ⟨h4,hle4⟩ := h3.newobj hf3 (by rw [hs3]; omega) hslot (o := .lp r1 (snap s)) (by simp) hat (fun cs e => by cases e) 0 (fun arr el fz hb' => by rw [hb3] at hb'; cases hb')
 obtain ⟨g,hg⟩ : ∃ g,g = e0.1 + 1 := ⟨_,rfl⟩
 rw [← hg] at h4 hle4
 obtain ⟨l,hl⟩ : ∃ l,l = w.heap.size + 1 := ⟨_,rfl⟩
 rw [← hl] at h4 hle4 hb3
 generalize hw2 : (w.alloc (.deferred (some []))).alloc (.loop r1) = w2 at h4 hb3 hs3
 generalize hE4 : E.addLoc s.D slot g l 0 = E4 at h4 hle4
 have hE4l : E4.loc s.D slot g = some l := by rw [← hE4]; simp [GE.addLoc]
 have hleD4 : GE.leD s.D E E4 := by rw [← hE4]; exact GE.leD_addLoc (by rw [hE4]; exact hle4)
 obtain ⟨s2,hs2⟩ : ∃ s2,s2 = s.up (s.D,slot,(g,.lp r1 (snap s))) := ⟨_,rfl⟩
 rw [← hs2] at h4
 have hslt : slot < s.os.length := (List.getElem?_eq_some_iff.1 hslot).1
 have hs2D : s2.D = s.D := by rw [hs2]; simp
 have hs2o : s2.os.length = s.os.length := by rw [hs2]; exact St.up_oslen ..
 have hlk2 : ∀ d i,s2.look d i = if d = s.D ∧ i = slot then (g,.lp r1 (snap s)) else s.look d i := by
  intro d i; rw [hs2]; exact St.look_up s _ (fun _ => hslt) d i
 -- the call
 have hst1 : r1.state = .ready := by rw [← hr1]
 have hpd1 : r1.pending = none := by rw [← hr1]
 have hL := (hC r1 hst1 hpd1 (by rw [← hr1]; exact hps) (by rw [← hr1]; exact hpre) (by rw [← hr1]; exact hbody)).fn hfi
 rw [← hg,← hs2D] at hL
 have hcall := call_post_d (a := a) (dst := none) (rd := ((s2.D,slot,((g,.lp r1 (snap s)) : Ent)) :: M).map fun m => (m.1,m.2.1)) h4 hL (vs := (.func (.yield l) #[] #[] :: us).toArray) (by simp; omega) (fun j b v hb hv => by
   simp only [List.getElem?_toArray] at hv
   cases j with
   | zero =>
    simp only [List.getElem?_cons_zero,Option.some.injEq] at hb hv
    subst hb; subst hv
    exact .yl _ _ _ _ (by rw [hs2D]; exact hE4l)
   | succ j =>
    simp only [List.getElem?_cons_succ,List.getElem?_map,Option.map_eq_some_iff] at hb hv
    obtain ⟨y,hy,rfl⟩ := hb
    exact ((hur j y v hy hv).strip).mono hle4) (fun b hb => by
     rcases List.mem_cons.1 hb with rfl | hb
     ·trivial
     ·obtain ⟨y,_,rfl⟩ := List.mem_map.1 hb; exact AV.dull_strip _) (fun m hm => by
     rcases List.mem_cons.1 hm with rfl | hm
     ·exact ⟨Nat.le_refl _,fun _ => by rw [hs2o]; exact hslt,by rw [hlk2,if_pos ⟨hs2D,rfl⟩]⟩
     ·obtain ⟨q1,q2,q3⟩ := hM m hm
      refine ⟨by rw [hs2D]; exact q1,fun e => by rw [hs2o]; exact (q2 (by rw [← hs2D]; exact e)).1,?_⟩
      rw [hlk2,if_neg (fun e => (q2 e.1).2 e.2)]; exact q3) (fun u hu => by
     rcases List.mem_append.1 hu with hu | hu
     ·exact ⟨List.mem_cons_of_mem _ (hdl u hu).1,(hdl u hu).2⟩
     ·rw [List.mem_singleton.1 hu]; simp)
 -- the steps
 have he : (Instr.enterLoop b.fn a.tmps pp ca cb b.roundOf).run P w = .ok (l,[{ target := .collected w.heap.size,args := #[] }]) w2 := by
  rw [hb,run_enterLoop_outer,← hw2,← hr1,hl]
 have hres : (resolve a.eval (rangeCall gx l) 0).run P w2 = .ok { target := .fn (.func fi) us.toArray,args := #[] ++ #[.func (.yield l) #[] #[]] } w2 := by
  have hcst : a.eval (.const (.func (.yield l) #[] #[])) = .func (.yield l) #[] #[] := rfl
  simp [resolve,rangeCall,hgv,hcst,Deferred.ofValue,Sem.run]
 have hinv : (invoke (.fn (.func fi) us.toArray) (#[] ++ #[.func (.yield l) #[] #[]])).run P w2 = .ok (.enter fi (.func (.yield l) #[] #[] :: us).toArray) w2 := by
  simp only [invoke]
  rw [callFunc_run hL.1]
  simp
 have st1 := stepR_rangeFunc (P := P) (b := b) (a := a) (k := k) (cs := cs) (w := w) he hres hinv
 obtain ⟨e,w3,fr,⟨v,rfl,E5,hle5,h5,hd5⟩,hcomes,hfn,hleave⟩ := hcall (b.atR { a with defers := [{ target := .collected w.heap.size,args := #[] }] ++ a.defers } (.inRangeFunc l :: k) :: cs)
 have st2 := step_leave_returned (c := b.atR { a with defers := [{ target := .collected w.heap.size,args := #[] }] ++ a.defers } (.inRangeFunc l :: k)) (cs := cs) hleave
 rw [finish_atR_inRangeFunc] at st2
 rw [put_tmps] at h5
 have h5 : Ok G (fun b => prot b ∨ b = w.heap.size) (w.alloc (.deferred (some []))) E E5 w3 ((dl ++ [(s2.D,slot,((g,Ob.lp (ro' r1) (snap s)) : Ent))]).foldl St.up s2) a.tmps := by
  exact h5
 rw [List.foldl_append,List.foldl_cons,List.foldl_nil] at h5
 have hsite : ∀ u ∈ dl,u.1 = s2.D → u.2.1 < s2.os.length := by
  intro u hu e
  obtain ⟨m,hm,he⟩ := List.mem_map.1 (hdl u hu).1
  injection he with e1 e2
  rw [hs2o,← e2]
  exact ((hM m hm).2.1 (by rw [e1,← hs2D]; exact e)).1
 obtain ⟨_,hD6,_,hos6⟩ := look_ups dl s2 hsite
 have hlk5 : ((dl.foldl St.up s2).up (s2.D,slot,(g,.lp (ro' r1) (snap s)))).look s2.D slot = (g,.lp (ro' r1) (snap s)) := by
  rw [St.look_up _ _ (fun _ => by rw [hos6,hs2o]; exact hslt)]
  simp
 have hE5l : E5.loc s2.D slot g = some l := hle5.1.2 _ _ _ _ (by rw [hs2D]; exact hE4l)
 obtain ⟨q1,q2,q3⟩ := hro r1 hst1 hpd1
 obtain ⟨hh5,h6⟩ := h5.loopU (r' := { ro' r1 with state := .exhausted }) hlk5 hE5l rfl
 have hh5' : w3.heap[l]? = some (.loop (ro' r1)) := hh5
 have hend := run_endLoop (P := P) hh5' q1
 have st3 := stepR_endRangeFunc (P := P) (b := b) (a := { a with defers := [{ target := .collected w.heap.size,args := #[] }] ++ a.defers }) (k := k) (cs := cs) hend
 have hj : ((ro' r1).pending.map Item.code).toList = (jump.map fun j => Item.code j.code).toList := by rw [q2]; cases jump <;> rfl
 rw [hj] at st3
 have hpp : ∀ b,prot b → (prot b ∨ b = w.heap.size) := fun b hb => .inl hb
 have h7 := h1.unbase (prot' := fun b => prot b ∨ b = w.heap.size) hpp h6
 refine ⟨w.heap.size,_,E5,r1,ro' r1,{ ro' r1 with state := .exhausted },.head st1 (Steps.trans hcomes (.head st2 (.one st3))),Nat.le_refl _,GE.leD_trans hleD4 (by rw [hs2D] at hle5; exact hle5),fun b => prot b ∨ b = w.heap.size,?_,fun E4 w4 s4 vs4 hok => ⟨h7.unbase hpp hok,?_⟩⟩
 ·have := h6.renew
  unfold rngS
  rw [hs2D] at this
  rw [hs2] at this
  rw [hg] at this
  exact this
 ·rw [(hok.frame w.heap.size (.inr rfl)).2,(h6.frame w.heap.size (.inr rfl)).2]
  exact hb1
end
end Go.Ab
/- A function's contract,where its body holds a loop over a function. -/
namespace Go.Ab
open Go
set_option linter.unusedVariables false
set_option linter.unusedSimpArgs false
section
variable {P : Program} {G : Nat → Option (List AV)} {L : Lends}
def rngQ (P : Program) (G : Nat → Option (List AV)) (L : Lends) (Qf : St → Prop) : Way → St → Prop
 | .fall,s => Qf s
 | .ret,s => Qf s
 | .exit _,_ => False
 | .stop x ps pre body k,s => ∃ (fi : FuncId) (caps : List AV) (slot : Nat) (e0 : Ent) (M dl : List (Nat × Nat × Ent)) (jump : Option Jmp) (ro' : Loop → Loop) (k' : List AI),
   s.ev x = .fn fi caps ∧ fi ≠ yid ∧ s.os[slot]? = some e0 ∧
   (∀ ro : Loop,ro.state = .ready → ro.pending = none → (ro' ro).state ≠ .busy ∧ (ro' ro).pending = jump.map Jmp.code ∧ (ro' ro).tmps = ro.tmps) ∧
   (∀ ro : Loop,ro.state = .ready → ro.pending = none → ro.params.toList = ps → comp P G L ro.assign = some pre → comp P G L ro.body = some body →
    Loc P G (s.D + 1) fi (.yl s.D slot (e0.1 + 1) :: caps.map AV.strip) ((s.D,slot,(e0.1 + 1,.lp ro (snap s))) :: M) (.tup []) (dl ++ [(s.D,slot,(e0.1 + 1,.lp (ro' ro) (snap s)))])) ∧
   (∀ m ∈ M,m.1 ≤ s.D ∧ (m.1 = s.D → m.2.1 < s.os.length ∧ m.2.1 ≠ slot) ∧ s.look m.1 m.2.1 = m.2.2) ∧ (∀ u ∈ dl,(u.1,u.2.1) ∈ M.map (fun m => (m.1,m.2.1)) ∧ u.2.2.2 ≠ .dead) ∧
   (match jump with | none => k' = k | some (.exit id) => exitTo id k = some k' | some .ret => k' = .c .ret :: k) ∧ ∀ r1 r2 r3,RunW (Loc P G) (fnQ Qf) k' (rngS s slot (e0.1 + 1) dl r1 r2 r3)
theorem rngS_D (s : St) (slot g : Nat) (dl : List (Nat × Nat × Ent)) (r1 r2 r3 : Loop) : (rngS s slot g dl r1 r2 r3).D = s.D := by
 unfold rngS
 simp only [St.up_D]
 have : ∀ (l : List (Nat × Nat × Ent)) (s : St),(l.foldl St.up s).D = s.D := by
  intro l
  induction l with
  | nil => intro s; rfl
  | cons u l ih => intro s; rw [List.foldl_cons,ih,St.up_D]
 rw [this,St.up_D]
theorem loc_of_range (hm : PGood P) {f : FuncId} {fn : Func} {code : Code} {ac : AC} {rs : List RV} {args : List AV} {M dl : List (Nat × Nat × Ent)} {r : AV}
  (hf : P.funcs[f]? = some fn) (hb : fn.body = some code) (hn : (fn.name == "runtime.NumGoroutine") = false) (hc : comp P G L code = some ac) (hrs : compR P fn.results.toList = some rs)
  {D : Nat} (h : ∀ S,(∀ m ∈ M,m.1 < D ∧ S m.1 m.2.1 = m.2.2) → RunW (Loc P G) (rngQ P G L fun s' => resV s' rs = some r ∧ ∀ d i,d ≠ D → s'.S d i = upds S dl d i) [.c ac] (St.start fn.ntmps args D S)) :
  Loc P G D f args M r dl := by
 refine .inl ⟨hm.ne hf,?_⟩
 refine ⟨⟨fn,hf,by rw [hb]; rfl,hn⟩,fun prot w0 E0 E w S vs hok hM => ?_⟩
 intro cs
 let b : Frame := { (default : Frame) with fn := f,kind := .normal }
 let a : Act := { tmps := vs ++ Array.replicate (fn.ntmps - vs.size) undef,defers := [] }
 have henter : Frame.enter P f vs .normal = b.atR a [.code code] := by
  simp [Frame.enter,Frame.atR,hf,hb,b,a]
  try rfl
 have hbn : b.roundOf = none := rfl
 -- the end
 have fin : ∀ (a' : Act) (w' : World) (E1 : GE) (s' : St) (todo : List Item),(resV s' rs = some r ∧ ∀ d i,d ≠ D → s'.S d i = upds S dl d i) → Steps P (lone (b.atR a [.code code]) cs w) (lone { b.atR a' todo with mode := .returning } cs w') →
   GE.leD D E E1 → Ok G prot w0 E0 E1 w' s' a'.tmps → a'.defers = [] → s'.D = D →
   ∃ e w' fr,(∃ v E',e = .returned v ∧ (∀ b o x,E.imm b o = some x → E'.imm b o = some x) ∧ GE.leC D E E' ∧ (∀ d i g B,E.loc d i g = some B → E'.room B = E.room B) ∧ Ok G prot w0 E0 E' w' ⟨[r],[],D,upds S dl⟩ #[v]) ∧
    Comes P (lone (Frame.enter P f vs .normal) cs w) (lone fr cs w') e ∧ fr.fn = f ∧ fr.leaving P w' e := by
  rintro a' w' E1 s' todo ⟨q1,q2⟩ q3 q4 q5 q6 hsD
  obtain ⟨v,E2,p1,p2,p3,p4,s1,p5,p6,p7,p8,p9⟩ := resV_run q5 hrs (.inl q1)
  rw [← henter] at q3
  refine ⟨.returned v,w',_,⟨v,⟨E2.imm,E.loc,E2.room⟩,rfl,fun _ _ _ hx => p2.1 _ _ _ (q4.1.1 _ _ _ hx),GE.leC_same rfl,fun d i g B hb => (GE.le_trans q4.1 p2).3 d i g B hb,?_⟩,q3,rfl,rfl,?_,rfl,fn,hf,p1⟩
  ·refine end_ok hok ⟨GE.le_trans q4.1 p2,fun d i g B hb => ?_⟩ p5 (by rw [p7,hsD]) (fun d i hd => ?_) p4 (fun z n ad cap ht => by obtain ⟨t,k⟩ := p9 z n ad cap ht; exact ⟨.t t,k,fun d i j e => (by cases e)⟩)
   ·rw [p3] at hb; exact q4.2 _ _ _ _ hb
   ·rw [p8 d i (by rw [hsD]; exact hd),St.look,if_neg (by rw [hsD]; exact hd)]
    exact q2 d i hd
  ·exact q6
 obtain ⟨wy,todo,a',w',E1,s',⟨q0,qe⟩,q3',q4,q5,q6,q7⟩ := (run_sound (L := L) (kc0 := []) hm (h S hM)).1 _ (.c hc .nil) b (by simp [b]) cs a w E (start_ok fn.ntmps hok)
 have hsD : s'.D = D := q7
 cases qe with
 | fall => exact fin a' w' E1 s' _ q0 (q3'.trans (.one (stepR_end hbn))) q4 q5 q6 q7
 | ret k => exact fin a' w' E1 s' _ q0 (q3'.trans (.one (stepR_ret hbn))) q4 q5 q6 q7
 | exit _ => exact q0.elim
 | @stop xx pss pre body kk cd kc hcode hk =>
  obtain ⟨gx,pp,ca,cb,rfl,hps,hx,hpre,hbody⟩ := comp_range hcode
  obtain ⟨fi,caps,slot,e0,Mi,dli,jump,ro',k',t1,t2,t3,t4,t5,t6,t7,t8,t9⟩ := q0
  obtain ⟨Bd,w3,E3,r1,r2,r3,st2,hBd,le2,prot',ok3,back⟩ := range_steps (P := P) (L := L) q5 hbn hx hps hpre hbody t1 t2 t3 ro' t4 t5 t6 t7 kc cs
  have hk' : ∃ kc',KRel P G L [] k' kc' ∧ Steps P (lone (b.atR { a' with defers := { target := .collected Bd,args := #[] } :: a'.defers } ((jump.map fun j => Item.code j.code).toList ++ kc)) cs w3) (lone (b.atR { a' with defers := { target := .collected Bd,args := #[] } :: a'.defers } kc') cs w3) := by
   cases jump with
   | none => simp only at t8; subst t8; exact ⟨_,hk,Steps.refl _ _⟩
   | some j =>
    cases j with
    | exit id =>
     simp only at t8
     obtain ⟨kc',u1,u2⟩ := exitTo_rel hk t8
     exact ⟨kc',u2,.one (stepR_exit u1)⟩
    | ret =>
     simp only at t8; subst t8
     exact ⟨_,.c (by rfl) hk,Steps.refl _ _⟩
  obtain ⟨kc',hk',st3⟩ := hk'
  obtain ⟨wy4,todo4,a4,w4,E4,s4,⟨z0,ze⟩,st4,le4,ok4,df4,sD4⟩ := (run_sound (L := L) (kc0 := []) hm (t9 r1 r2 r3)).1 _ hk' b (by simp [b]) cs { a' with defers := { target := .collected Bd,args := #[] } :: a'.defers } w3 E3 ok3
  obtain ⟨okb,hdef⟩ := back _ _ _ _ ok4
  have hD4 : s4.D = D := by rw [sD4,rngS_D,hsD]
  have hle : GE.leD D E E4 := by
   rw [rngS_D,hsD] at le4
   rw [hsD] at le2
   exact GE.leD_trans q4 (GE.leD_trans le2 le4)
  have hdf : a4.defers = [{ target := .collected Bd,args := #[] }] := by rw [df4]; show _ :: a'.defers = _; rw [q6]
  have hge : w0.heap.size ≤ Bd := Nat.le_trans q5.grow hBd
  have ok5 := okb.shut (y := none) hdef hge
  have hst : ∀ todo,Steps P (lone { b.atR a4 todo with mode := .returning } cs w4) (lone { b.atR { a4 with defers := [] } todo with mode := .returning } cs (w4.putObj Bd (.deferred none))) := by
   intro todo
   have := step_collected (P := P) (fr := { b.atR a4 todo with mode := .returning }) (cs := cs) (w := w4) (d := { target := .collected Bd,args := #[] }) (ds := []) (by simp) (by show a4.defers = _; exact hdf) rfl (run_takeDeferred hdef)
   exact .one this
  have hall := q3'.trans (st2.trans (st3.trans st4))
  cases ze with
  | fall => exact fin { a4 with defers := [] } _ E4 s4 _ z0 ((hall.trans (.one (stepR_end hbn))).trans (hst _)) hle ok5 rfl hD4
  | ret k => exact fin { a4 with defers := [] } _ E4 s4 _ z0 ((hall.trans (.one (stepR_ret hbn))).trans (hst _)) hle ok5 rfl hD4
  | exit _ => exact z0.elim
  | stop _ _ => exact z0.elim
end
end Go.Ab
/- New objects that a call hands to its caller. -/
namespace Go.Ab
open Go
set_option linter.unusedVariables false
set_option linter.unusedSimpArgs false
def AV.ren1 (d i g d' i' g' : Nat) : AV → AV
 | .ptr e j k off => if e = d ∧ j = i ∧ k = g then .ptr d' i' g' off else .ptr e j k off
 | v => v
def AV.ren (d i g d' i' g' : Nat) : AV → AV
 | .fn f cs => .fn f (cs.map (AV.ren1 d i g d' i' g'))
 | .tup cs => .tup (cs.map (AV.ren1 d i g d' i' g'))
 | .agg cs => .agg (cs.map (AV.ren1 d i g d' i' g'))
 | v => v.ren1 d i g d' i' g'
theorem Rel.ren1 {E : GE} {a : AV} {v : Value} {d i g d' i' g' B : Nat} (h : Rel E a v) (h1 : E.loc d i g = some B) (h2 : E.loc d' i' g' = some B) : Rel E (a.ren1 d i g d' i' g') v := by
 cases a with
 | ptr e j k off =>
  unfold AV.ren1
  simp only []
  split
  ·rename_i hc
   obtain ⟨rfl,rfl,rfl⟩ := hc
   obtain ⟨B',q1,q2⟩ := h.ptr_inv
   rw [h1] at q1; injection q1 with q1; subst q1
   subst q2
   exact .ptr _ _ _ _ _ h2
  ·exact h
 | _ => exact h
theorem Rel.renL {E : GE} {d i g d' i' g' B : Nat} (h1 : E.loc d i g = some B) (h2 : E.loc d' i' g' = some B) {cs : List AV} {vs : List Value}
  (h : ∀ (i : Nat) (c : AV) (v : Value),cs[i]? = some c → vs[i]? = some v → Rel E c v) : ∀ (j : Nat) (c : AV) (v : Value),(cs.map (AV.ren1 d i g d' i' g'))[j]? = some c → vs[j]? = some v → Rel E c v := by
 intro j c v hc hv
 rw [List.getElem?_map,Option.map_eq_some_iff] at hc
 obtain ⟨c0,h0,rfl⟩ := hc
 exact (h j c0 v h0 hv).ren1 h1 h2
theorem Rel.ren {E : GE} {a : AV} {v : Value} {d i g d' i' g' B : Nat} (h : Rel E a v) (h1 : E.loc d i g = some B) (h2 : E.loc d' i' g' = some B) : Rel E (a.ren d i g d' i' g') v := by
 cases a with
 | fn f cs => obtain ⟨vs,rfl,hl,hr⟩ := h.fn_inv; exact .fn f _ vs (by simpa using hl) (Rel.renL h1 h2 hr)
 | tup cs => obtain ⟨vs,rfl,hl,hr⟩ := h.tup_inv; exact .tup _ vs (by simpa using hl) (Rel.renL h1 h2 hr)
 | agg cs => obtain ⟨vs,rfl,hl,hr⟩ := h.agg_inv; exact .agg _ vs (by simpa using hl) (Rel.renL h1 h2 hr)
 | ptr e j k off => exact h.ren1 h1 h2
 | _ => exact h
theorem AV.ren_sl {d i g d' i' g' : Nat} {a : AV} {z xs t} (h : a.ren d i g d' i' g' = .sl z xs t) : a = .sl z xs t := by
 cases a with
 | ptr e j k off => simp only [AV.ren,AV.ren1] at h; split at h <;> cases h
 | _ => first | exact h | cases h
theorem AV.ren1_sl {d i g d' i' g' : Nat} {a : AV} {z xs t} (h : a.ren1 d i g d' i' g' = .sl z xs t) : a = .sl z xs t := by
 cases a with
 | ptr e j k off => simp only [AV.ren1] at h; split at h <;> cases h
 | _ => first | exact h | cases h
theorem Tipped.of_ren {d i g d' i' g' : Nat} {a : AV} {v : Value} {z n ad cap} (h : Tipped (a.ren d i g d' i' g') v z n ad cap) : Tipped a v z n ad cap := by
 generalize hb : a.ren d i g d' i' g' = b at h
 cases h with
 | sl z xs ad cap hc => rw [AV.ren_sl hb]; exact .sl z xs ad cap hc
 | tup as us j z xs ad cap h1 h2 h3 =>
  cases a with
  | tup cs =>
   injection hb with hb; subst hb
   rw [List.getElem?_map,Option.map_eq_some_iff] at h1
   obtain ⟨c,q1,q2⟩ := h1
   rw [AV.ren1_sl q2] at q1
   exact .tup cs us j z xs ad cap q1 h2 h3
  | ptr e j k off => simp only [AV.ren,AV.ren1] at hb; split at hb <;> cases hb
  | _ => cases hb
 | agg as us j z xs ad cap h1 h2 h3 =>
  cases a with
  | agg cs =>
   injection hb with hb; subst hb
   rw [List.getElem?_map,Option.map_eq_some_iff] at h1
   obtain ⟨c,q1,q2⟩ := h1
   rw [AV.ren1_sl q2] at q1
   exact .agg cs us j z xs ad cap q1 h2 h3
  | ptr e j k off => simp only [AV.ren,AV.ren1] at hb; split at hb <;> cases hb
  | _ => cases hb
def St.move (s : St) (i g d' i' g' : Nat) (o : Ob) : St :=
 { ts := s.ts.map (AV.ren s.D i g d' i' g'),os := s.os.set i (g,.dead),D := s.D,S := updS s.S d' i' (g',o) }
section
variable {P : Program} {G : Nat → Option (List AV)} {L : Lends} {prot : Nat → Prop} {w0 : World} {E0 E : GE} {w : World} {s : St} {vs : Array Value}
theorem Ok.move (h : Ok G prot w0 E0 E w s vs) {i g d' i' g2 : Nat} {cs : List AV} (hlk : s.look s.D i = (g,.cells cs)) (hup : ∀ c ∈ cs,c.upto d' 20 = true) (hd' : d' < s.D) (hlk2 : s.S d' i' = (g2,.dead)) :
  ∃ B,E.loc s.D i g = some B ∧ Ok G prot w0 E0 (E.addLoc d' i' (g2 + 1) B (E.room B)) w (s.move i g d' i' (g2 + 1) (.cells cs)) vs ∧ E.le (E.addLoc d' i' (g2 + 1) B (E.room B)) := by
 have hi : i < s.os.length := s.look_lt (d := s.D) (i := i) (by rw [hlk]; simp) rfl
 obtain ⟨B,hB,hat,himm,hnp⟩ := h.objs s.D i (by rw [hlk]; simp)
 rw [hlk] at hB hat
 simp only at hB hat
 have hl : Live E s s.D i B := ⟨by rw [hlk]; simp,by rw [hlk]; exact hB⟩
 have hlk2' : s.look d' i' = (g2,.dead) := by unfold St.look; rw [if_neg (by omega)]; exact hlk2
 have hnone : E.loc d' i' (g2 + 1) = none := by
  cases hl : E.loc d' i' (g2 + 1) with
  | none => rfl
  | some B' => have := (h.locs _ _ _ _ hl).2.1; rw [hlk2'] at this; simp only at this; omega
 have hle : E.le (E.addLoc d' i' (g2 + 1) B (E.room B)) := GE.le_addLoc hnone (fun _ _ _ _ => rfl)
 refine ⟨B,hB,?_,hle⟩
 have hroom : ∀ b,(E.addLoc d' i' (g2 + 1) B (E.room B)).room b = E.room b := by
  intro b; simp only [GE.addLoc]; split
  ·rename_i e; rw [e]
  ·rfl
 have hlook : ∀ d j,(s.move i g d' i' (g2 + 1) (.cells cs)).look d j = if d = d' ∧ j = i' then (g2 + 1,.cells cs) else if d = s.D ∧ j = i then (g,.dead) else s.look d j := by
  intro d j
  unfold St.move St.look updS
  simp only []
  by_cases hd : d = s.D
  ·rw [if_pos hd,if_neg (by omega),if_pos hd]
   by_cases hj : j = i
   ·subst hj; rw [if_pos ⟨hd,rfl⟩,List.getD_eq_getElem?_getD,List.getElem?_set_self hi]; rfl
   ·rw [if_neg (fun e => hj e.2),List.getD_eq_getElem?_getD,List.getElem?_set_ne (fun e => hj e.symm),List.getD_eq_getElem?_getD]
  ·rw [if_neg hd,if_neg (c := d = s.D ∧ j = i) (fun e => hd e.1),if_neg hd]
 have hloc : ∀ d j g' B',(E.addLoc d' i' (g2 + 1) B (E.room B)).loc d j g' = some B' → (d = d' ∧ j = i' ∧ g' = g2 + 1 ∧ B' = B) ∨ E.loc d j g' = some B' := by
  intro d j g' B' hb
  simp only [GE.addLoc] at hb
  split at hb
  ·rename_i hc; exact .inl ⟨hc.1,hc.2.1,hc.2.2,(Option.some.inj hb).symm⟩
  ·exact .inr hb
 have hlive : ∀ d j B',Live (E.addLoc d' i' (g2 + 1) B (E.room B)) (s.move i g d' i' (g2 + 1) (.cells cs)) d j B' → (d = d' ∧ j = i' ∧ B' = B) ∨ (¬ (d = s.D ∧ j = i) ∧ Live E s d j B') := by
  intro d j B' ⟨h1,h2⟩
  rw [hlook] at h1 h2
  by_cases hc : d = d' ∧ j = i'
  ·rw [if_pos hc] at h2
   obtain ⟨rfl,rfl⟩ := hc
   rcases hloc _ _ _ _ h2 with hx | hx
   ·exact .inl ⟨rfl,rfl,hx.2.2.2⟩
   ·rw [hnone] at hx; simp at hx
  ·rw [if_neg hc] at h1 h2
   by_cases hc2 : d = s.D ∧ j = i
   ·rw [if_pos hc2] at h1; exact absurd rfl h1
   ·rw [if_neg hc2] at h1 h2
    rcases hloc _ _ _ _ h2 with hx | hx
    ·exact absurd ⟨hx.1,hx.2.1⟩ hc
    ·exact .inr ⟨hc2,h1,hx⟩
 have hhold : ∀ l ad z n cap,Hold (E.addLoc d' i' (g2 + 1) B (E.room B)) w (s.move i g d' i' (g2 + 1) (.cells cs)) vs l ad z n cap →
   (Hold E w s vs l ad z n cap ∧ ∀ k,l ≠ .o s.D i k) ∨ ∃ k,l = .o d' i' k ∧ Hold E w s vs (.o s.D i k) ad z n cap := by
  intro l ad z n cap hh
  cases hh with
  | t i a0 v0 ad z n cap h1 h2 h3 =>
   unfold St.move at h1
   simp only [List.getElem?_map,Option.map_eq_some_iff] at h1
   obtain ⟨a,q1,q2⟩ := h1
   rw [← q2] at h3
   exact .inl ⟨.t i a v0 ad z n cap q1 h2 h3.of_ren,fun k e => by cases e⟩
  | o d j k g' cs' z xs B' arr el ad cap h1 h2 h3 h4 h5 h6 =>
   rw [hlook] at h1
   by_cases hc : d = d' ∧ j = i'
   ·rw [if_pos hc] at h1
    injection h1 with hg ho'
    injection ho' with ho'
    subst ho'; subst hg
    obtain ⟨rfl,rfl⟩ := hc
    have : B' = B := by
     rcases hloc _ _ _ _ h3 with hx | hx
     ·exact hx.2.2.2
     ·rw [hnone] at hx; simp at hx
    subst this
    exact .inr ⟨k,rfl,.o s.D i k g cs z xs B' arr el ad cap hlk h2 hB h4 h5 h6⟩
   ·rw [if_neg hc] at h1
    by_cases hc2 : d = s.D ∧ j = i
    ·rw [if_pos hc2] at h1; injection h1 with _ e; cases e
    ·rw [if_neg hc2] at h1
     rcases hloc _ _ _ _ h3 with hx | hx
     ·exact absurd ⟨hx.1,hx.2.1⟩ hc
     ·exact .inl ⟨.o d j k g' cs' z xs B' arr el ad cap h1 h2 hx h4 h5 h6,fun k' e => by injection e with e1 e2 _; exact hc2 ⟨e1,e2⟩⟩
 have hE1 : (E.addLoc d' i' (g2 + 1) B (E.room B)).loc s.D i g = some B := hle.2 _ _ _ _ hB
 have hE2 : (E.addLoc d' i' (g2 + 1) B (E.room B)).loc d' i' (g2 + 1) = some B := by simp [GE.addLoc]
 refine ⟨by unfold St.move; simpa using h.size,fun j a v ha hv => ?_,h.imm,?_,?_,?_,?_,?_,?_,h.glob,h.frame,h.grow,h.same,h.ifr⟩
 ·unfold St.move at ha
  simp only [List.getElem?_map,Option.map_eq_some_iff] at ha
  obtain ⟨a0,q1,rfl⟩ := ha
  exact ((h.rel j a0 v q1 hv).mono hle).ren hE1 hE2
 ·intro d j g' B' hb
  rw [hlook]
  rcases hloc _ _ _ _ hb with ⟨rfl,rfl,rfl,rfl⟩ | hx
  ·refine ⟨Nat.le_of_lt hd',by simp,(h.locs _ _ _ _ hB).2.2⟩
  ·have := h.locs _ _ _ _ hx
   refine ⟨this.1,?_,this.2.2⟩
   by_cases hc : d = d' ∧ j = i'
   ·rw [if_pos hc]; obtain ⟨rfl,rfl⟩ := hc; rw [hlk2'] at this; simp only at this ⊢; omega
   ·rw [if_neg hc]
    by_cases hc2 : d = s.D ∧ j = i
    ·rw [if_pos hc2]; obtain ⟨rfl,rfl⟩ := hc2; rw [hlk] at this; exact this.2.1
    ·rw [if_neg hc2]; exact this.2.1
 ·intro d j g' B' hb arr el fz ha
  rw [hroom]
  rcases hloc _ _ _ _ hb with hx | hx
  ·rw [hx.2.2.2] at ha ⊢; exact h.rooms _ _ _ _ hB arr el fz ha
  ·exact h.rooms _ _ _ _ hx arr el fz ha
 ·intro d j hdead
  rw [hlook] at hdead ⊢
  by_cases hc : d = d' ∧ j = i'
  ·rw [if_pos hc]
   obtain ⟨rfl,rfl⟩ := hc
   refine ⟨B,hE2,?_,himm,hnp⟩
   obtain ⟨arr,el,k1,k2,k3,k4⟩ := hat
   refine ⟨arr,el,k1,k2,k3,fun k c v hc hv => ?_⟩
   have hr := (k4 k c v hc hv).upto (d := d) 20 (hup c (mem_of_get hc))
   have hle2 : ((E.to s.D).to d).le ((E.addLoc d j (g2 + 1) B (E.room B)).to d) := ⟨fun _ _ _ q => q,fun d1 i1 g1 B1 hb => (by
    simp only [GE.to] at hb ⊢
    split at hb
    ·rename_i hdd
     rw [if_pos hdd]
     split at hb
     ·exact hle.2 _ _ _ _ hb
     ·cases hb
    ·cases hb),fun d1 i1 g1 B1 hb => hroom _⟩
   exact hr.mono hle2
  ·rw [if_neg hc] at hdead ⊢
   by_cases hc2 : d = s.D ∧ j = i
   ·rw [if_pos hc2] at hdead; exact absurd rfl hdead
   ·rw [if_neg hc2] at hdead ⊢
    obtain ⟨B',h1,h2,h3,h4⟩ := h.objs d j hdead
    exact ⟨B',hle.2 _ _ _ _ h1,h2.mono hle,h3,h4⟩
 ·intro d j d1 j1 B' h1 h2
  rcases hlive _ _ _ h1 with ⟨a1,a2,a3⟩ | ⟨n1,k1⟩
  ·rcases hlive _ _ _ h2 with ⟨b1,b2,_⟩ | ⟨n2,k2⟩
   ·exact ⟨a1.trans b1.symm,a2.trans b2.symm⟩
   ·subst a3; exact absurd (h.inj _ _ _ _ _ k2 hl) n2
  ·rcases hlive _ _ _ h2 with ⟨_,_,b3⟩ | ⟨n2,k2⟩
   ·subst b3; exact absurd (h.inj _ _ _ _ _ k1 hl) n1
   ·exact h.inj _ _ _ _ _ k1 k2
 ·intro l ad z n cap hh
  obtain ⟨l0,hh0⟩ : ∃ l0,Hold E w s vs l0 ad z n cap := by
   rcases hhold _ _ _ _ _ hh with ⟨hh,_⟩ | ⟨k,_,hh⟩
   ·exact ⟨_,hh⟩
   ·exact ⟨_,hh⟩
  have k := h.tips _ _ _ _ _ hh0
  refine ⟨k.spot,k.room,k.free,k.notp,fun d j hl' => ?_⟩
  rcases hlive _ _ _ hl' with ⟨_,_,e⟩ | ⟨_,q⟩
  ·exact k.noob _ _ (e ▸ hl)
  ·exact k.noob _ _ q
 ·intro l l' ad ad' z z' n n' cap cap' hh hh' hb
  rcases hhold _ _ _ _ _ hh with ⟨k1,n1⟩ | ⟨k,rfl,k1⟩
  ·rcases hhold _ _ _ _ _ hh' with ⟨k2,n2⟩ | ⟨k',rfl,k2⟩
   ·exact h.tinj _ _ _ _ _ _ _ _ _ _ k1 k2 hb
   ·exact absurd (h.tinj _ _ _ _ _ _ _ _ _ _ k1 k2 hb) (n1 k')
  ·rcases hhold _ _ _ _ _ hh' with ⟨k2,n2⟩ | ⟨k',rfl,k2⟩
   ·exact absurd (h.tinj _ _ _ _ _ _ _ _ _ _ k1 k2 hb).symm (n2 k)
   ·have := h.tinj _ _ _ _ _ _ _ _ _ _ k1 k2 hb
    injection this with _ _ e
    rw [e]
inductive Mv : St → St → Prop where
 | nil (s : St) : Mv s s
 | move {s s2 : St} {i g d' i' g2 : Nat} {cs : List AV} : s.look s.D i = (g,.cells cs) → (∀ c ∈ cs,c.upto d' 20 = true) → d' + 1 = s.D → s.S d' i' = (g2,.dead) → Mv (s.move i g d' i' (g2 + 1) (.cells cs)) s2 → Mv s s2
theorem Mv.ok {s s2 : St} (hm : Mv s s2) : ∀ {E : GE},Ok G prot w0 E0 E w s vs → ∃ E2,E.le E2 ∧ (∀ d i g B,E2.loc d i g = some B → d + 1 = s.D ∨ E.loc d i g = some B) ∧ Ok G prot w0 E0 E2 w s2 vs ∧ s2.D = s.D := by
 induction hm with
 | nil s => intro E h; exact ⟨E,E.le_refl,fun _ _ _ _ hb => .inr hb,h,rfl⟩
 | @move s s2 i g d' i' g2 cs h1 h2 h3 h4 _ ih =>
  intro E h
  obtain ⟨B,hB,ok1,le1⟩ := h.move h1 h2 (by omega) h4
  obtain ⟨E2,q1,q2,q3,q4⟩ := ih ok1
  refine ⟨E2,GE.le_trans le1 q1,fun d j k B' hb => ?_,q3,q4⟩
  rcases q2 d j k B' hb with e | e
  ·exact .inl e
  ·simp only [GE.addLoc] at e
   split at e
   ·rename_i hc; exact .inl (by omega)
   ·exact .inr e
theorem end_new {E E1 : GE} {w w1 : World} {args : List AV} {D d1 : Nat} {S} {vs : Array Value} {s1 : St} {tmps : Array Value} {r : AV} {v : Value} {S' : Nat → Nat → Ent}
  (h : Ok G prot w0 E0 E w ⟨args,[],D,S⟩ vs) (hle : E.le E1) (hlo : ∀ d i g B,E1.loc d i g = some B → d = D ∨ d + 1 = D ∨ E.loc d i g = some B) (h1 : Ok G prot w0 E0 E1 w1 s1 tmps) (hD : s1.D = D) (hS : ∀ d i,d ≠ D → s1.look d i = S' d i)
  (hd1 : d1 + 1 = D) (hr : Rel E1 r v) (hu : r.upto d1 20 = true) (ht : r.dull) :
  ∃ E2 : GE,(∀ b o x,E1.imm b o = some x → E2.imm b o = some x) ∧ GE.leC D E E2 ∧ E2.room = E1.room ∧ Ok G prot w0 E0 E2 w1 ⟨[r],[],D,S'⟩ #[v] := by
 let E2 : GE := ⟨E1.imm,fun d i g => match E.loc d i g with | some B => some B | none => if d < D then E1.loc d i g else none,E1.room⟩
 have hlt : ∀ d i g,d < D → E2.loc d i g = E1.loc d i g := by
  intro d i g hd
  show (match E.loc d i g with | some B => some B | none => if d < D then E1.loc d i g else none) = _
  split
  ·rename_i B hb; exact (hle.2 _ _ _ _ hb).symm
  ·rw [if_pos hd]
 have hge : ∀ d i g,¬ d < D → E2.loc d i g = E.loc d i g := by
  intro d i g hd
  show (match E.loc d i g with | some B => some B | none => if d < D then E1.loc d i g else none) = _
  split
  ·rename_i B hb; exact hb.symm
  ·rename_i hb; rw [if_neg hd,hb]
 have hup : ∀ d i g B,E2.loc d i g = some B → E1.loc d i g = some B := by
  intro d i g B hb
  by_cases hd : d < D
  ·rw [← hlt d i g hd]; exact hb
  ·rw [hge d i g hd] at hb; exact hle.2 _ _ _ _ hb
 have hEE2 : ∀ d i g B,E.loc d i g = some B → E2.loc d i g = some B := by
  intro d i g B hb
  by_cases hd : d < D
  ·rw [hlt d i g hd]; exact hle.2 _ _ _ _ hb
  ·rw [hge d i g hd]; exact hb
 refine ⟨E2,fun _ _ _ q => q,⟨hEE2,fun d i g B hb => ?_⟩,rfl,?_⟩
 ·by_cases hd : d < D
  ·rw [hlt d i g hd] at hb
   rcases hlo _ _ _ _ hb with e | e
   ·omega
   ·exact e
  ·rw [hge d i g hd] at hb; exact .inr hb
 let s2 : St := ⟨[r],[],D,S'⟩
 have hlkD : ∀ i,s2.look D i = (0,.dead) := fun i => by simp [s2,St.look]
 have hlk : ∀ d i,d ≠ D → s2.look d i = s1.look d i := fun d i hd => by rw [hS d i hd]; simp [s2,St.look,hd]
 have hne : ∀ d i,(s2.look d i).2 ≠ .dead → d ≠ D := fun d i hn e => by subst e; rw [hlkD] at hn; exact hn rfl
 have hlive : ∀ d i B,Live E2 s2 d i B → Live E1 s1 d i B := by
  rintro d i B ⟨q1,q2⟩
  have hd := hne d i q1
  exact ⟨by rw [← hlk d i hd]; exact q1,by rw [← hlk d i hd]; exact hup _ _ _ _ q2⟩
 have hto : ∀ d,d < D → (E1.to d).le E2 := by
  intro d hd
  refine ⟨fun _ _ _ q => q,fun d' i' g' B' hb => ?_,fun _ _ _ _ _ => rfl⟩
  simp only [GE.to] at hb
  split at hb
  ·rw [hlt _ _ _ (by omega)]; exact hb
  ·cases hb
 have hh : ∀ l ad z n cap,Hold E2 w1 s2 #[v] l ad z n cap → Hold E1 w1 s1 tmps l ad z n cap ∧ ∃ d i j,l = .o d i j := by
  intro l ad z n cap hh
  cases hh with
  | t i a0 v0 ad z n cap q1 q2 q3 =>
   cases i with
   | zero => simp [s2] at q1; subst q1; exact (q3.dull ht).elim
   | succ i => simp [s2] at q1
  | o d i j g cs z xs B arr el ad cap q1 q2 q3 q4 q5 q6 =>
   have hd := hne d i (by rw [q1]; simp)
   exact ⟨.o d i j g cs z xs B arr el ad cap (by rw [← hlk d i hd]; exact q1) q2 (hup _ _ _ _ q3) q4 q5 q6,d,i,j,rfl⟩
 refine ⟨by simp,fun i b u hb hu => ?_,h1.imm,fun d i g B hb => ?_,fun d i g B hb => h1.rooms d i g B (hup _ _ _ _ hb),fun d i hn => ?_,fun d i d' i' B q1 q2 => h1.inj d i d' i' B (hlive _ _ _ q1) (hlive _ _ _ q2),
  fun l ad z n cap q => ?_,fun l l' ad ad' z z' n n' cap cap' q q' hb => ?_,h1.glob,h1.frame,h1.grow,h1.same,h1.ifr⟩
 ·cases i with
  | zero => simp at hb hu; subst hb; subst hu; exact (hr.upto (d := d1) 20 hu).mono (hto d1 (by omega))
  | succ i => simp at hb
 ·have k1 := h1.locs d i g B (hup _ _ _ _ hb)
  refine ⟨by rw [← hD]; exact k1.1,?_,k1.2.2⟩
  by_cases hd : d = D
  ·subst hd
   rw [hge _ _ _ (by omega)] at hb
   have := (h.locs _ _ _ _ hb).2.1
   show g ≤ (s2.look d i).1
   rw [hlkD]
   simpa [St.look] using this
  ·show g ≤ (s2.look d i).1
   rw [hlk d i hd]
   exact k1.2.1
 ·have hd := hne d i hn
  have hn' : (s1.look d i).2 ≠ .dead := by rw [← hlk d i hd]; exact hn
  obtain ⟨B,k1,k2,k3,k4⟩ := h1.objs d i hn'
  have hdl := (h1.locs _ _ _ _ k1).1
  rw [hD] at hdl
  have hdlt : d < D := by omega
  refine ⟨B,?_,?_,k3,k4⟩
  ·show E2.loc d i (s2.look d i).1 = some B
   rw [hlk d i hd,hlt _ _ _ hdlt]; exact k1
  ·show obAt E2 w1 d B (s2.look d i).2
   rw [hlk d i hd]
   have : obAt (E1.to d) w1 d B (s1.look d i).2 := by
    have e : ((E1.to d).to d) = E1.to d := by
     unfold GE.to
     congr 1
     funext d' i' g'
     simp only []
     split <;> rfl
    revert k2
    cases (s1.look d i).2 <;> simp only [obAt,e] <;> exact id
   exact this.mono (hto d hdlt)
 ·obtain ⟨k1,_⟩ := hh _ _ _ _ _ q
  have k := h1.tips _ _ _ _ _ k1
  exact ⟨k.spot,k.room,k.free,k.notp,fun d i hl => k.noob d i (hlive _ _ _ hl)⟩
 ·exact h1.tinj _ _ _ _ _ _ _ _ _ _ (hh _ _ _ _ _ q).1 (hh _ _ _ _ _ q').1 hb
def retV : List Value → Value
 | [v] => v
 | us => .tuple us.toArray
def NewQ (rs : List RV) (r : AV) (D : Nat) (S : Nat → Nat → Ent) (dl : List (Nat × Nat × Ent)) : St → Prop := fun s' =>
 ∃ (s2 : St) (bs : List AV),Mv s' s2 ∧ rvAll s2 rs = some bs ∧ pack bs = r ∧ ∀ d i,d ≠ D → s2.S d i = upds S dl d i
theorem loc_of_new (hm : PGood P) {f : FuncId} {fn : Func} {code : Code} {ac : AC} {rs : List RV} {args : List AV} {M dl : List (Nat × Nat × Ent)} {r : AV}
  (hf : P.funcs[f]? = some fn) (hb : fn.body = some code) (hn : (fn.name == "runtime.NumGoroutine") = false) (hc : comp P G L code = some ac) (hrs : compR P fn.results.toList = some rs)
  {D d1 : Nat} (hd1 : d1 + 1 = D) (hu : r.upto d1 20 = true) (ht : r.dull) (h : ∀ S,(∀ m ∈ M,m.1 < D ∧ S m.1 m.2.1 = m.2.2) → Run (Loc P G) (NewQ rs r D S dl) [.c ac] (St.start fn.ntmps args D S)) :
  Loc P G D f args M r dl := by
 refine .inl ⟨hm.ne hf,?_⟩
 refine ⟨⟨fn,hf,by rw [hb]; rfl,hn⟩,fun prot w0 E0 E w S vs hok hM => ?_⟩
 intro cs
 let b : Frame := { (default : Frame) with fn := f,kind := .normal }
 let a : Act := { tmps := vs ++ Array.replicate (fn.ntmps - vs.size) undef,defers := [] }
 have henter : Frame.enter P f vs .normal = b.atR a [.code code] := by
  simp [Frame.enter,Frame.atR,hf,hb,b,a]
  try rfl
 obtain ⟨wy,todo,a',w',E1,s',⟨q0,qe⟩,q3',q4,q5,q6,q7⟩ := (run_sound (L := L) (kc0 := []) hm (h S hM)).1 _ (.c hc .nil) b (by simp [b]) cs a w E (start_ok fn.ntmps hok)
 have hbn : b.roundOf = none := rfl
 obtain ⟨⟨s2,bs,m1,m2,m3,m4⟩,q3⟩ : (NewQ rs r D S dl s') ∧ Steps P (lone (b.atR a [.code code]) cs w) (lone { b.atR a' todo with mode := .returning } cs w') := by
  cases qe with
  | fall => exact ⟨q0,q3'.trans (.one (stepR_end hbn))⟩
  | ret k => exact ⟨q0,q3'.trans (.one (stepR_ret hbn))⟩
  | exit _ => exact q0.elim
  | stop _ _ => exact q0.elim
 have hsD : s'.D = D := q7
 obtain ⟨E2,l1,l2,ok2,hD2⟩ := m1.ok q5
 obtain ⟨us,r1,r2,r3⟩ := rvs_run ok2 hrs m2
 have hres : (results fn a'.tmps).run P w' = .ok (retV us) w' := by
  have := results_run (P := P) (w := w') r1
  rcases us with _ | ⟨u,_ | ⟨u',us⟩⟩ <;> exact this
 have hrel : Rel E2 r (retV us) := by
  rcases bs with _ | ⟨c,_ | ⟨c',bs⟩⟩
  ·rcases us with _ | ⟨u,us⟩
   ·simp [pack] at m3; subst m3
    exact .tup [] [] rfl (by simp)
   ·simp at r2
  ·rcases us with _ | ⟨u,_ | ⟨u',us⟩⟩ <;> simp at r2
   have := (r3 0 c u rfl rfl).1
   subst m3
   unfold pack
   split
   ·rename_i e; injection e with e; subst e; exact this
   ·rename_i e; injection e with e; subst e; exact this.strip
   ·rename_i hne; exact (hne _ rfl).elim
  ·rcases us with _ | ⟨u,_ | ⟨u',us⟩⟩ <;> simp at r2
   subst m3
   have : pack (c :: c' :: bs) = .tup ((c :: c' :: bs).map AV.strip) := by cases c <;> rfl
   rw [this]
   refine .tup _ _ (by simp; omega) fun i b u hb hu => ?_
   rw [List.getElem?_map,Option.map_eq_some_iff] at hb
   obtain ⟨b0,h0,rfl⟩ := hb
   exact (r3 i b0 u h0 hu).1.strip
 obtain ⟨E3,e1,e2,e3,e4⟩ := end_new (S' := upds S dl) hok (GE.le_trans q4.1 l1) (fun d i g B hb => by
   rcases l2 d i g B hb with e | e
   ·rw [hsD] at e; exact .inr (.inl e)
   ·rcases q4.2 d i g B e with e | e
    ·exact .inl e
    ·exact .inr (.inr e)) ok2 (hD2.trans hsD) (fun d i hd => by rw [St.look,if_neg (by rw [hD2,hsD]; exact hd)]; exact m4 d i hd) hd1 hrel hu ht
 rw [← henter] at q3
 refine ⟨.returned _,w',_,⟨_,E3,rfl,fun b o x hx => e1 _ _ _ (l1.1 _ _ _ (q4.1.1 _ _ _ hx)),e2,fun d i g B hb => ?_,e4⟩,q3,rfl,rfl,q6,rfl,fn,hf,hres⟩
 rw [e3]; exact (GE.le_trans q4.1 l1).3 d i g B hb
end
end Go.Ab
/- Pieces of runs; yields; loops over a function,on states given by functions. -/
namespace Go.Ab
open Go
set_option linter.unusedVariables false
set_option linter.unusedSimpArgs false
section
variable {C : CallRel}
theorem put_D (s : St) (d v) : (s.put d v).D = s.D := by cases d <;> rfl
theorem RunW.keepD {Q : Way → St → Prop} {k : List AI} {s : St} (h : RunW C Q k s) : RunW C (fun w s' => s'.D = s.D ∧ Q w s') k s := by
 induction h with
 | done h => exact .done ⟨rfl,h⟩
 | ret h => exact .ret ⟨rfl,h⟩
 | out h1 h => exact .out h1 ⟨rfl,h⟩
 | stop h => exact .stop ⟨rfl,h⟩
 | skip _ ih => exact .skip ih
 | seq _ ih => exact .seq ih
 | cond h _ ih => exact .cond h ih
 | condU h _ _ ih1 ih2 => exact .condU h ih1 ih2
 | block _ ih => exact .block ih
 | blk _ ih => exact .blk ih
 | loop _ ih => exact .loop ih
 | lp _ ih => exact .lp ih
 | exit h _ ih => exact .exit h ih
 | region _ ih => exact .region ih
 | opsNil _ ih => exact .opsNil ih
 | opsOn h1 h2 _ ih => exact .opsOn h1 h2 (ih.imp fun w s' h => ⟨h.1.trans (app_D _ _ _),h.2⟩)
 | opsOff h _ ih => exact .opsOff h (ih.imp fun w s' h => ⟨h.1.trans (put_D _ _ _),h.2⟩)
 | either h1 h2 _ _ ih1 ih2 => exact .either h1 h2 (ih1.imp fun w s' h => ⟨h.1.trans (app_D _ _ _),h.2⟩) (ih2.imp fun w s' h => ⟨h.1.trans (app_D _ _ _),h.2⟩)
 | draw _ ih => exact .draw ih
 | drOn h1 h2 _ ih => exact .drOn h1 h2 (ih.imp fun w s' h => ⟨h.1.trans (app_D _ _ _),h.2⟩)
 | drOff h _ ih => exact .drOff h (ih.imp fun w s' h => ⟨h.1.trans (put_D _ _ _),h.2⟩)
 | drNil h _ ih => exact .drNil h ih
theorem exitTo_append {id : Nat} : ∀ {k1 k1' k2 : List AI},exitTo id k1 = some k1' → exitTo id (k1 ++ k2) = some (k1' ++ k2)
 | [],k1',k2,h => by cases h
 | .blk j :: k,k1',k2,h => by
  simp only [exitTo,List.cons_append] at h ⊢
  split at h
  ·rename_i e; injection h with h; subst h; rw [if_pos e]
  ·rename_i e; rw [if_neg e]; exact exitTo_append h
 | .c x :: k,k1',k2,h => by simp only [exitTo,List.cons_append] at h ⊢; exact exitTo_append h
 | .lp x :: k,k1',k2,h => by simp only [exitTo,List.cons_append] at h ⊢; exact exitTo_append h
 | .ops x :: k,k1',k2,h => by simp only [exitTo,List.cons_append] at h ⊢; exact exitTo_append h
 | .dr x y z :: k,k1',k2,h => by simp only [exitTo,List.cons_append] at h ⊢; exact exitTo_append h
theorem RunW.append {Q1 Q2 : Way → St → Prop} {k1 k2 : List AI} {s : St} (h : RunW C Q1 k1 s) (hf : ∀ s',Q1 .fall s' → RunW C Q2 k2 s') (ho : ∀ w s',Q1 w s' → w = .fall) : RunW C Q2 (k1 ++ k2) s := by
 induction h with
 | done h => exact hf _ h
 | ret h => exact nomatch ho _ _ h
 | out h1 h => exact nomatch ho _ _ h
 | stop h => exact nomatch ho _ _ h
 | skip _ ih => exact .skip ih
 | seq _ ih => exact .seq ih
 | cond h _ ih => exact .cond h ih
 | condU h _ _ ih1 ih2 => exact .condU h ih1 ih2
 | block _ ih => exact .block ih
 | blk _ ih => exact .blk ih
 | loop _ ih => exact .loop ih
 | lp _ ih => exact .lp ih
 | exit h _ ih => exact .exit (exitTo_append h) ih
 | region _ ih => exact .region ih
 | opsNil _ ih => exact .opsNil ih
 | opsOn h1 h2 _ ih => exact .opsOn h1 h2 ih
 | opsOff h _ ih => exact .opsOff h ih
 | either h1 h2 _ _ ih1 ih2 => exact .either h1 h2 ih1 ih2
 | draw _ ih => exact .draw ih
 | drOn h1 h2 _ ih => exact .drOn h1 h2 ih
 | drOff h _ ih => exact .drOff h ih
 | drNil h _ ih => exact .drNil h ih
def OutQ (D : Nat) (Q : Way → St → Prop) (s' : St) : Prop := (s'.D = D ∧ Q .fall s') ∨ (s'.D = D + 2 ∧ Q .ret { s' with D := D }) ∨ ∃ id,s'.D = D + 1 + 2 * id ∧ Q (.exit id) { s' with D := D }
theorem RunW_rn {Q : Way → St → Prop} {k : List AI} {s : St} (h : Rd C .rn (OutQ s.D Q) k s) : RunW C Q k s := by
 refine h.runW.keepD.imp fun w s' hs => ?_
 obtain ⟨hD,hq⟩ := hs
 cases w with
 | fall =>
  rcases hq with ⟨_,q⟩ | ⟨e,_⟩ | ⟨id,e,_⟩
  ·exact q
  ·omega
  ·omega
 | ret =>
  rcases hq with hq | ⟨_,hq⟩
  ·exact absurd rfl hq.1
  rcases hq with ⟨e,_⟩ | ⟨e,q⟩ | ⟨id',e,q⟩
  ·simp only [St.outRet] at e; omega
  ·simp only [St.outRet] at q
   rw [← hD] at q
   exact q
  ·simp only [St.outRet] at e; omega
 | exit id =>
  obtain ⟨_,hq⟩ := hq
  rcases hq with ⟨e,_⟩ | ⟨e,_⟩ | ⟨id',e,q⟩
  ·simp only [St.out] at e; omega
  ·simp only [St.out] at e; omega
  ·simp only [St.out] at e q
   obtain rfl : id' = id := by omega
   rw [← hD] at q
   exact q
 | stop => exact hq.elim
def PreQ (C : CallRel) (W : Way → St → Prop) (k2 : List AI) (D : Nat) (s' : St) : Prop := s'.D = D ∧ RunW C W k2 s'
theorem RunW_pre {W : Way → St → Prop} {k1 k2 : List AI} {s : St} (h : Rd C .rn (PreQ C W k2 s.D) k1 s) : RunW C W (k1 ++ k2) s := by
 refine (h.runW.keepD).append (Q1 := fun w s' => s'.D = s.D ∧ WQ .rn (PreQ C W k2 s.D) w s') (fun s' hs => hs.2.2) fun w s' hs => ?_
 obtain ⟨hD,hq⟩ := hs
 cases w with
 | fall => rfl
 | ret =>
  rcases hq with hq | hq
  ·exact absurd rfl hq.1
  ·have := hq.2.1; simp only [St.outRet] at this; omega
 | exit id => have := hq.2.1; simp only [St.out] at this; omega
 | stop => exact hq.elim
@[simp] theorem stF_out {n D : Nat} {τ : Nat → AV} {ω : Nat → Ent} {S : Nat → Nat → Ent} (id : Nat) : (stF n D τ ω S).out id = stF n (D + 1 + 2 * id) τ ω S := rfl
@[simp] theorem stF_outRet {n D : Nat} {τ : Nat → AV} {ω : Nat → Ent} {S : Nat → Nat → Ent} : (stF n D τ ω S).outRet = stF n (D + 2) τ ω S := rfl
end
section
variable {C : CallRel} {own : Md} {Q : St → Prop} {k : List AI} {n D : Nat} {τ : Nat → AV} {ω : Nat → Ent} {S : Nat → Nat → Ent} {l : List AOper} {d : Nat}
theorem Rd_yldM {x : Opd} {args r args'} {M dl : List (Nat × Nat × Ent)} {d' i g : Nat} (h : C (D + 1) yid (.yl d' i g :: args') M r dl) (hx : (stF n D τ ω S).ev x = .yl d' i g) (ha : args.map (fun x => ((stF n D τ ω S).ev x).strip) = args')
  (hM : ∀ m ∈ M,m.1 ≤ D ∧ (m.1 = D → m.2.1 < n) ∧ (stF n D τ ω S).look m.1 m.2.1 = m.2.2) (hdl : ∀ u ∈ dl,(u.1,u.2.1) ∈ M.map (fun m => (m.1,m.2.1)) ∧ u.2.2.2 ≠ .dead)
  (hk : Rd C own Q (.ops l :: k) ((dl.foldl St.up (stF n D τ ω S)).put (some d) r)) : Rd C own Q (.ops (⟨some d,.callv x args,none⟩ :: l) :: k) (stF n D τ ω S) := by
 refine .opsCall rfl (.yld (M := M) (dl := dl) (r := r) hx (by rw [ha]; exact h) (fun m hm => ?_) hdl) ?_
 ·have := hM m hm
  refine ⟨this.1,fun e => ?_,this.2.2⟩
  rw [stF_osl]; exact this.2.1 e
 ·simpa [app_stF] using hk
theorem Rd_callvM {f : FuncId} {cap : List AV} {x : Opd} {args r args'} {M dl : List (Nat × Nat × Ent)} (h : C (D + 1) f args' M r dl) (hx : (stF n D τ ω S).ev x = .fn f cap) (ha : (args.map fun x => ((stF n D τ ω S).ev x).strip) ++ cap.map AV.strip = args')
  (hM : ∀ m ∈ M,m.1 ≤ D ∧ (m.1 = D → m.2.1 < n) ∧ (stF n D τ ω S).look m.1 m.2.1 = m.2.2) (hdl : ∀ u ∈ dl,(u.1,u.2.1) ∈ M.map (fun m => (m.1,m.2.1)) ∧ u.2.2.2 ≠ .dead)
  (hk : Rd C own Q (.ops l :: k) ((dl.foldl St.up (stF n D τ ω S)).put (some d) r)) (hf : f ≠ yid := by decide) : Rd C own Q (.ops (⟨some d,.callv x args,none⟩ :: l) :: k) (stF n D τ ω S) := by
 refine .opsCall rfl (.callv (M := M) (dl := dl) (r := r) hf hx (by rw [ha]; exact h) (fun m hm => ?_) hdl) ?_
 ·have := hM m hm
  refine ⟨this.1,fun e => ?_,this.2.2⟩
  rw [stF_osl]; exact this.2.1 e
 ·simpa [app_stF] using hk
theorem stF_ups : ∀ {dl : List (Nat × Nat × Ent)} {S : Nat → Nat → Ent},(∀ u ∈ dl,u.1 ≠ D) → dl.foldl St.up (stF n D τ ω S) = stF n D τ ω (upds S dl)
 | [],S,h => rfl
 | u :: dl,S,h => by
  rw [List.foldl_cons,stF_up,if_neg (h u (by simp)),stF_ups fun v hv => h v (by simp [hv])]
  rfl
theorem stF_move (i g d' i' g' : Nat) (o : Ob) : (stF n D τ ω S).move i g d' i' g' o = stF n D (fun t => (τ t).ren D i g d' i' g') (upd ω i (g,.dead)) (updS S d' i' (g',o)) := by
 unfold St.move stF
 simp only [List.map_map,map_set_upd]
 rfl
theorem Mv_stF {i g d' i' g2 : Nat} {cs : List AV} {s2 : St} (hw : ω i = (g,.cells cs)) (hS : S d' i' = (g2,.dead)) (hi : i < n) (hup : ∀ c ∈ cs,c.upto d' 20 = true) (hd : d' + 1 = D)
  (hk : Mv (stF n D (fun t => (τ t).ren D i g d' i' (g2 + 1)) (upd ω i (g,.dead)) (updS S d' i' (g2 + 1,.cells cs))) s2) : Mv (stF n D τ ω S) s2 :=
 .move (i := i) (d' := d') (i' := i') (by rw [stF_D,stF_look,if_pos rfl,if_pos hi]; exact hw) hup hd hS (by rw [stF_move]; exact hk)
theorem snap_stF : snap (stF n D τ ω S) = (List.range n).map fun t => (τ t).strip := by
 unfold snap stF
 simp only [List.map_map]
 rfl
theorem roundT_stF (f : Nat → AV) : ∀ (ps : List Nat) (as : List AV),roundT ((List.range n).map f) ps as = (List.range n).map ((ps.zip as).foldl (fun f p => upd f p.1 p.2) f)
 | [],as => rfl
 | p :: ps,[] => rfl
 | p :: ps,a :: as => by
  have := roundT_stF (upd f p a) ps as
  unfold roundT at this ⊢
  rw [List.zip_cons_cons,List.foldl_cons,List.foldl_cons,map_set_upd]
  exact this
theorem round_start (f : Nat → AV) (ps : List Nat) (as : List AV) : (⟨roundT ((List.range n).map f) ps as,List.replicate n (0,.dead),D,S⟩ : St) = stF n D ((ps.zip as).foldl (fun f p => upd f p.1 p.2) f) (fun _ => (0,.dead)) S := by
 unfold stF
 rw [roundT_stF]
 congr 1
 apply List.ext_getElem?
 intro i
 rw [List.getElem?_map,List.getElem?_replicate]
 by_cases hi : i < n
 ·rw [List.getElem?_range hi]; simp [hi]
 ·rw [List.getElem?_eq_none (by simp; omega)]; simp [hi]
end
section
variable {P : Program} {G : Nat → Option (List AV)} {L : Lends} {T : FuncId → Option FnC}
theorem loc_rdN (hm : PGood P) (hT : TOk P G L T) {f n : Nat} {ac : AC} {rs : List RV} {own : Bool} (hc : T f = some ⟨n,ac,rs,own⟩) {args : List AV} {M dl : List (Nat × Nat × Ent)} {r : AV} {D d1 : Nat} (hl : Nat.ble args.length n = true)
  (hd1 : d1 + 1 = D) (hu : r.upto d1 20 = true) (ht : r.dull)
  (h : ∀ S,(∀ m ∈ M,m.1 < D ∧ S m.1 m.2.1 = m.2.2) → Rd (Loc P G) .im (NewQ rs r D S dl) [.c ac] (stF n D (argsT 0 args) (fun _ => (0,.dead)) S)) : Loc P G D f args M r dl := by
 obtain ⟨fn,code,t1,t2,t3,t4,t5,t6⟩ := hT f _ hc
 refine loc_of_new (L := L) hm t1 t2 t3 t4 t5 hd1 hu ht fun S hS => ?_
 rw [t6,start_stF _ _ _ _ (Nat.le_of_ble_eq_true hl)]
 exact (h S hS).run
theorem loc_rdR (hm : PGood P) (hT : TOk P G L T) {f n : Nat} {ac : AC} {rs : List RV} {own : Bool} (hc : T f = some ⟨n,ac,rs,own⟩) {args : List AV} {M dl : List (Nat × Nat × Ent)} {r : AV} {D : Nat} (hl : Nat.ble args.length n = true)
  (h : ∀ S,(∀ m ∈ M,m.1 < D ∧ S m.1 m.2.1 = m.2.2) → RunW (Loc P G) (rngQ P G L (RetM rs r D S dl)) [.c ac] (stF n D (argsT 0 args) (fun _ => (0,.dead)) S)) : Loc P G D f args M r dl := by
 obtain ⟨fn,code,t1,t2,t3,t4,t5,t6⟩ := hT f _ hc
 refine loc_of_range (L := L) hm t1 t2 t3 t4 t5 fun S hS => ?_
 rw [t6,start_stF _ _ _ _ (Nat.le_of_ble_eq_true hl)]
 exact h S hS
end
end Go.Ab
