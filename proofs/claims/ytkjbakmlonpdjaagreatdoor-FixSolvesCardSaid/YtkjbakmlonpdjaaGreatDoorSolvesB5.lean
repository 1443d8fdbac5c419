/- Rounds of a loop over a function: yield's contract, from a run of the loop's body. -/
import Derived.Test.YtkjbakmlonpdjaaGreatDoorSolvesB4
import Derived.RangeFuncRecord
import Derived.RangeFuncLeaves
import Derived.Recover
set_option linter.unusedVariables false
set_option linter.unusedSimpArgs false
namespace Go.Ab
open Go
section
variable {P:Program} {G:Nat->Option (List AV)} {L:Lends} {prot:Nat->Prop} {w0:World} {E0 E:GE} {w:World} {s:St} {vs:Array Value}
theorem Ok.round {args:List AV} {D:Nat} {S:Nat->Nat->Ent} (h:Ok G prot w0 E0 E w ⟨args,[],D,S⟩ vs) {ts:List AV} {tm:Array Value} (n:Nat) (hsz:tm.size=ts.length)
  (hrel:∀(i:Nat) b v,ts[i]?=some b->tm[i]?=some v->Rel E b v) (hdull:∀b∈ts,b.dull):Ok G prot w0 E0 E w ⟨ts,List.replicate n (0,.dead),D,S⟩ tm:=by
 have hl:∀d i,(⟨ts,List.replicate n (0,.dead),D,S⟩:St).look d i=(⟨args,[],D,S⟩:St).look d i:=by
  intro d i
  unfold St.look
  simp only[]
  split
  ·rw[List.getD_eq_getElem?_getD,List.getElem?_replicate];split<;>simp
  ·rfl
 have hh:∀l ad z k cap,Hold E w ⟨ts,List.replicate n (0,.dead),D,S⟩ tm l ad z k cap->Hold E w ⟨args,[],D,S⟩ vs l ad z k cap:=by
  intro l ad z k cap hh
  cases hh with
  | t i a0 v0 ad z n cap h1 h2 h3=>exact (h3.dull (hdull _ (zQ h1))).elim
  | o d i j g cs z xs B arr el ad cap h1 h2 h3 h4 h5 h6=>exact .o d i j g cs z xs B arr el ad cap (by rw[<-hl];exact h1) h2 h3 h4 h5 h6
 exact h.tmps hl rfl hsz hrel (fun l ad z k cap q=>h.tips _ _ _ _ _ (hh _ _ _ _ _ q))
  (fun l l' ad ad' z z' k k' cap cap' q q' hb=>h.tinj _ _ _ _ _ _ _ _ _ _ (hh _ _ _ _ _ q) (hh _ _ _ _ _ q') hb)
inductive Jmp where
 | exit (id:Nat)
 | ret
def Jmp.code:Jmp->Code
 | .exit id=> .exit id
 | .ret=> .ret
def Jmp.way:Option Jmp->Way
 | none=> .fall
 | some (.exit id)=> .exit id
 | some .ret=> .ret
theorem Ok.loop (h:Ok G prot w0 E0 E w s vs) {d i g B:Nat} {r r':Loop} {ts:List AV} (hd:d≠s.D) (hlk:s.look d i=(g,.lp r ts)) (hB:E.loc d i g=some B) (ht:r'.tmps=r.tmps):
  w.heap[B]?=some (.loop r)/\Ok G prot w0 E0 E (w.putObj B (.loop r')) {s with S:=updS s.S d i (g,.lp r' ts)} vs:=by
 have hl:Live E s d i B:=⟨by rw[hlk];simp,by rw[hlk];exact hB⟩
 obtain ⟨B',h1,h2,_,_⟩:=h.objs d i hl.1
 have:B'=B:=by have:=hl.2;rw[h1] at this;exact Option.some.inj this
 subst this
 rw[hlk] at h2
 obtain ⟨q1,q2,q3⟩:=h2
 have hT:=turned_putObj (o':= .loop r') q1
 have:=h.setobj hl hT (o:= .lp r' ts) (by simp) ⟨hT.here,by rw[ht];exact q2,by rw[ht];exact q3⟩ (fun cs e=>by cases e) (fun arr el fz e=>by cases e)
 refine ⟨q1,?_⟩
 unfold St.up at this
 rw[if_neg hd,hlk] at this
 exact this
end
end Go.Ab
/- A loop over a function: the iterator's call,from its contract. -/
namespace Go.Ab
open Go
section
variable {P:Program} {G:Nat->Option (List AV)} {L:Lends} {prot:Nat->Prop} {w0:World} {E0 E:GE} {w:World} {s:St} {vs:Array Value}
end
end Go.Ab
/- A function's contract,where its body holds a loop over a function. -/
namespace Go.Ab
open Go
section
variable {P:Program} {G:Nat->Option (List AV)} {L:Lends}
end
end Go.Ab
/- New objects that a call hands to its caller. -/
namespace Go.Ab
open Go
def AV.ren1 (d i g d' i' g':Nat):AV->AV
 | .ptr e j k off=>if e=d/\j=i/\k=g then .ptr d' i' g' off else .ptr e j k off
 | v=>v
def AV.ren (d i g d' i' g':Nat):AV->AV
 | .fn f cs=> .fn f (cs.map (AV.ren1 d i g d' i' g'))
 | .tup cs=> .tup (cs.map (AV.ren1 d i g d' i' g'))
 | .agg cs=> .agg (cs.map (AV.ren1 d i g d' i' g'))
 | v=>v.ren1 d i g d' i' g'
theorem Rel.ren1 {E:GE} {a:AV} {v:Value} {d i g d' i' g' B:Nat} (h:Rel E a v) (h1:E.loc d i g=some B) (h2:E.loc d' i' g'=some B):Rel E (a.ren1 d i g d' i' g') v:=by
 cases a with
 | ptr e j k off=>
  unfold AV.ren1
  simp only[]
  split
  ·rename_i hc
   obtain ⟨rfl,rfl,rfl⟩:=hc
   obtain ⟨B',q1,q2⟩:=h.ptr_inv
   rw[h1] at q1;injection q1 with q1;subst q1
   subst q2
   exact .ptr _ _ _ _ _ h2
  ·exact h
 | _=>exact h
theorem Rel.renL {E:GE} {d i g d' i' g' B:Nat} (h1:E.loc d i g=some B) (h2:E.loc d' i' g'=some B) {cs:List AV} {vs:List Value}
  (h:∀(i:Nat) (c:AV) (v:Value),cs[i]?=some c->vs[i]?=some v->Rel E c v):∀(j:Nat) (c:AV) (v:Value),(cs.map (AV.ren1 d i g d' i' g'))[j]?=some c->vs[j]?=some v->Rel E c v:=by
 intro j c v hc hv
 rw[List.getElem?_map,Option.map_eq_some_iff] at hc
 obtain ⟨c0,h0,rfl⟩:=hc
 exact (h j c0 v h0 hv).ren1 h1 h2
theorem Rel.ren {E:GE} {a:AV} {v:Value} {d i g d' i' g' B:Nat} (h:Rel E a v) (h1:E.loc d i g=some B) (h2:E.loc d' i' g'=some B):Rel E (a.ren d i g d' i' g') v:=by
 cases a with
 | fn f cs=>obtain ⟨vs,rfl,hl,hr⟩:=h.fn_inv;exact .fn f _ vs (by simpa using hl) (Rel.renL h1 h2 hr)
 | tup cs=>obtain ⟨vs,rfl,hl,hr⟩:=h.tup_inv;exact .tup _ vs (by simpa using hl) (Rel.renL h1 h2 hr)
 | agg cs=>obtain ⟨vs,rfl,hl,hr⟩:=h.agg_inv;exact .agg _ vs (by simpa using hl) (Rel.renL h1 h2 hr)
 | ptr e j k off=>exact h.ren1 h1 h2
 | _=>exact h
theorem AV.ren_sl {d i g d' i' g':Nat} {a:AV} {z xs t} (h:a.ren d i g d' i' g'= .sl z xs t):a= .sl z xs t:=by
 cases a with
 | ptr e j k off=>simp only[AV.ren,AV.ren1] at h;split at h<;>cases h
 | _=>first | exact h | cases h
theorem AV.ren1_sl {d i g d' i' g':Nat} {a:AV} {z xs t} (h:a.ren1 d i g d' i' g'= .sl z xs t):a= .sl z xs t:=by
 cases a with
 | ptr e j k off=>simp only[AV.ren1] at h;split at h<;>cases h
 | _=>first | exact h | cases h
theorem Tipped.of_ren {d i g d' i' g':Nat} {a:AV} {v:Value} {z n ad cap} (h:Tipped (a.ren d i g d' i' g') v z n ad cap):Tipped a v z n ad cap:=by
 generalize hb:a.ren d i g d' i' g'=b at h
 cases h with
 | sl z xs ad cap hc=>rw[AV.ren_sl hb];exact .sl z xs ad cap hc
 | tup as us j z xs ad cap h1 h2 h3=>
  cases a with
  | tup cs=>
   injection hb with hb;subst hb
   rw[List.getElem?_map,Option.map_eq_some_iff] at h1
   obtain ⟨c,q1,q2⟩:=h1
   rw[AV.ren1_sl q2] at q1
   exact .tup cs us j z xs ad cap q1 h2 h3
  | ptr e j k off=>simp only[AV.ren,AV.ren1] at hb;split at hb<;>cases hb
  | _=>cases hb
 | agg as us j z xs ad cap h1 h2 h3=>
  cases a with
  | agg cs=>
   injection hb with hb;subst hb
   rw[List.getElem?_map,Option.map_eq_some_iff] at h1
   obtain ⟨c,q1,q2⟩:=h1
   rw[AV.ren1_sl q2] at q1
   exact .agg cs us j z xs ad cap q1 h2 h3
  | ptr e j k off=>simp only[AV.ren,AV.ren1] at hb;split at hb<;>cases hb
  | _=>cases hb
def St.move (s:St) (i g d' i' g':Nat) (o:Ob):St:=
 {ts:=s.ts.map (AV.ren s.D i g d' i' g'),os:=s.os.set i (g,.dead),D:=s.D,S:=updS s.S d' i' (g',o)}
section
variable {P:Program} {G:Nat->Option (List AV)} {L:Lends} {prot:Nat->Prop} {w0:World} {E0 E:GE} {w:World} {s:St} {vs:Array Value}
theorem Ok.move (h:Ok G prot w0 E0 E w s vs) {i g d' i' g2:Nat} {cs:List AV} (hlk:s.look s.D i=(g,.cells cs)) (hup:∀c∈cs,c.upto d' 20=true) (hd':d' < s.D) (hlk2:s.S d' i'=(g2,.dead)):
  ∃B,E.loc s.D i g=some B/\Ok G prot w0 E0 (E.addLoc d' i' (g2+1) B (E.room B)) w (s.move i g d' i' (g2+1) (.cells cs)) vs/\E.le (E.addLoc d' i' (g2+1) B (E.room B)):=by
 have hi:i < s.os.length:=s.look_lt (d:=s.D) (i:=i) (by rw[hlk];simp) rfl
 obtain ⟨B,hB,hat,himm,hnp⟩:=h.objs s.D i (by rw[hlk];simp)
 rw[hlk] at hB hat
 simp only at hB hat
 have hl:Live E s s.D i B:=⟨by rw[hlk];simp,by rw[hlk];exact hB⟩
 have hlk2':s.look d' i'=(g2,.dead):=by unfold St.look;rw[if_neg (by omega)];exact hlk2
 have hnone:E.loc d' i' (g2+1)=none:=by
  cases hl:E.loc d' i' (g2+1) with
  | none=>rfl
  | some B'=>have:=(h.locs _ _ _ _ hl).2.1;rw[hlk2'] at this;simp only at this;omega
 have hle:E.le (E.addLoc d' i' (g2+1) B (E.room B)):=GE.le_addLoc hnone (fun _ _ _ _=>rfl)
 refine ⟨B,hB,?_,hle⟩
 have hroom:∀b,(E.addLoc d' i' (g2+1) B (E.room B)).room b=E.room b:=by
  intro b;simp only[GE.addLoc];split
  ·rename_i e;rw[e]
  ·rfl
 have hlook:∀d j,(s.move i g d' i' (g2+1) (.cells cs)).look d j=if d=d'/\j=i' then (g2+1,.cells cs) else if d=s.D/\j=i then (g,.dead) else s.look d j:=by
  intro d j
  unfold St.move St.look updS
  simp only[]
  by_cases hd:d=s.D
  ·rw[if_pos hd,if_neg (by omega),if_pos hd]
   by_cases hj:j=i
   ·subst hj;rw[if_pos ⟨hd,rfl⟩,List.getD_eq_getElem?_getD,List.getElem?_set_self hi];rfl
   ·rw[if_neg (fun e=>hj e.2),List.getD_eq_getElem?_getD,List.getElem?_set_ne (fun e=>hj e.symm),List.getD_eq_getElem?_getD]
  ·rw[if_neg hd,if_neg (c:=d=s.D/\j=i) (fun e=>hd e.1),if_neg hd]
 have hloc:∀d j g' B',(E.addLoc d' i' (g2+1) B (E.room B)).loc d j g'=some B'->(d=d'/\j=i'/\g'=g2+1/\B'=B)\/E.loc d j g'=some B':=by
  intro d j g' B' hb
  simp only[GE.addLoc] at hb
  split at hb
  ·rename_i hc;exact .inl ⟨hc.1,hc.2.1,hc.2.2,(Option.some.inj hb).symm⟩
  ·exact .inr hb
 have hlive:∀d j B',Live (E.addLoc d' i' (g2+1) B (E.room B)) (s.move i g d' i' (g2+1) (.cells cs)) d j B'->(d=d'/\j=i'/\B'=B)\/(¬(d=s.D/\j=i)/\Live E s d j B'):=by
  intro d j B' ⟨h1,h2⟩
  rw[hlook] at h1 h2
  by_cases hc:d=d'/\j=i'
  ·rw[if_pos hc] at h2
   obtain ⟨rfl,rfl⟩:=hc
   rcases hloc _ _ _ _ h2 with hx | hx
   ·exact .inl ⟨rfl,rfl,hx.2.2.2⟩
   ·rw[hnone] at hx;simp at hx
  ·rw[if_neg hc] at h1 h2
   by_cases hc2:d=s.D/\j=i
   ·rw[if_pos hc2] at h1;exact absurd rfl h1
   ·rw[if_neg hc2] at h1 h2
    rcases hloc _ _ _ _ h2 with hx | hx
    ·exact absurd ⟨hx.1,hx.2.1⟩ hc
    ·exact .inr ⟨hc2,h1,hx⟩
 have hhold:∀l ad z n cap,Hold (E.addLoc d' i' (g2+1) B (E.room B)) w (s.move i g d' i' (g2+1) (.cells cs)) vs l ad z n cap->
   (Hold E w s vs l ad z n cap/\∀k,l≠ .o s.D i k)\/∃k,l= .o d' i' k/\Hold E w s vs (.o s.D i k) ad z n cap:=by
  intro l ad z n cap hh
  cases hh with
  | t i a0 v0 ad z n cap h1 h2 h3=>
   unfold St.move at h1
   simp only[List.getElem?_map,Option.map_eq_some_iff] at h1
   obtain ⟨a,q1,q2⟩:=h1
   rw[<-q2] at h3
   exact .inl ⟨.t i a v0 ad z n cap q1 h2 h3.of_ren,fun k e=>by cases e⟩
  | o d j k g' cs' z xs B' arr el ad cap h1 h2 h3 h4 h5 h6=>
   rw[hlook] at h1
   by_cases hc:d=d'/\j=i'
   ·rw[if_pos hc] at h1
    injection h1 with hg ho'
    injection ho' with ho'
    subst ho';subst hg
    obtain ⟨rfl,rfl⟩:=hc
    have:B'=B:=by
     rcases hloc _ _ _ _ h3 with hx | hx
     ·exact hx.2.2.2
     ·rw[hnone] at hx;simp at hx
    subst this
    exact .inr ⟨k,rfl,.o s.D i k g cs z xs B' arr el ad cap hlk h2 hB h4 h5 h6⟩
   ·rw[if_neg hc] at h1
    by_cases hc2:d=s.D/\j=i
    ·rw[if_pos hc2] at h1;injection h1 with _ e;cases e
    ·rw[if_neg hc2] at h1
     rcases hloc _ _ _ _ h3 with hx | hx
     ·exact absurd ⟨hx.1,hx.2.1⟩ hc
     ·exact .inl ⟨.o d j k g' cs' z xs B' arr el ad cap h1 h2 hx h4 h5 h6,fun k' e=>by injection e with e1 e2 _;exact hc2 ⟨e1,e2⟩⟩
 have hE1:(E.addLoc d' i' (g2+1) B (E.room B)).loc s.D i g=some B:=hle.2 _ _ _ _ hB
 have hE2:(E.addLoc d' i' (g2+1) B (E.room B)).loc d' i' (g2+1)=some B:=by simp[GE.addLoc]
 refine ⟨by unfold St.move;simpa using h.size,fun j a v ha hv=> ?_,h.imm,?_,?_,?_,?_,?_,?_,h.glob,h.frame,h.grow,h.same,h.ifr⟩
 ·unfold St.move at ha
  simp only[List.getElem?_map,Option.map_eq_some_iff] at ha
  obtain ⟨a0,q1,rfl⟩:=ha
  exact ((h.rel j a0 v q1 hv).mono hle).ren hE1 hE2
 ·intro d j g' B' hb
  rw[hlook]
  rcases hloc _ _ _ _ hb with ⟨rfl,rfl,rfl,rfl⟩ | hx
  ·refine ⟨Nat.le_of_lt hd',by simp,(h.locs _ _ _ _ hB).2.2⟩
  ·have:=h.locs _ _ _ _ hx
   refine ⟨this.1,?_,this.2.2⟩
   by_cases hc:d=d'/\j=i'
   ·rw[if_pos hc];obtain ⟨rfl,rfl⟩:=hc;rw[hlk2'] at this;simp only at this|-;omega
   ·rw[if_neg hc]
    by_cases hc2:d=s.D/\j=i
    ·rw[if_pos hc2];obtain ⟨rfl,rfl⟩:=hc2;rw[hlk] at this;exact this.2.1
    ·rw[if_neg hc2];exact this.2.1
 ·intro d j g' B' hb arr el fz ha
  rw[hroom]
  rcases hloc _ _ _ _ hb with hx | hx
  ·rw[hx.2.2.2] at ha|-;exact h.rooms _ _ _ _ hB arr el fz ha
  ·exact h.rooms _ _ _ _ hx arr el fz ha
 ·intro d j hdead
  rw[hlook] at hdead|-
  by_cases hc:d=d'/\j=i'
  ·rw[if_pos hc]
   obtain ⟨rfl,rfl⟩:=hc
   refine ⟨B,hE2,?_,himm,hnp⟩
   obtain ⟨arr,el,k1,k2,k3,k4⟩:=hat
   refine ⟨arr,el,k1,k2,k3,fun k c v hc hv=> ?_⟩
   have hr:=(k4 k c v hc hv).upto (d:=d) 20 (hup c (zQ hc))
   have hle2:((E.to s.D).to d).le ((E.addLoc d j (g2+1) B (E.room B)).to d):=⟨fun _ _ _ q=>q,fun d1 i1 g1 B1 hb=>(by
    simp only[GE.to] at hb|-
    split at hb
    ·rename_i hdd
     rw[if_pos hdd]
     split at hb
     ·exact hle.2 _ _ _ _ hb
     ·cases hb
    ·cases hb),fun d1 i1 g1 B1 hb=>hroom _⟩
   exact hr.mono hle2
  ·rw[if_neg hc] at hdead|-
   by_cases hc2:d=s.D/\j=i
   ·rw[if_pos hc2] at hdead;exact absurd rfl hdead
   ·rw[if_neg hc2] at hdead|-
    obtain ⟨B',h1,h2,h3,h4⟩:=h.objs d j hdead
    exact ⟨B',hle.2 _ _ _ _ h1,h2.mono hle,h3,h4⟩
 ·intro d j d1 j1 B' h1 h2
  rcases hlive _ _ _ h1 with ⟨a1,a2,a3⟩ | ⟨n1,k1⟩
  ·rcases hlive _ _ _ h2 with ⟨b1,b2,_⟩ | ⟨n2,k2⟩
   ·exact ⟨a1.trans b1.symm,a2.trans b2.symm⟩
   ·subst a3;exact absurd (h.inj _ _ _ _ _ k2 hl) n2
  ·rcases hlive _ _ _ h2 with ⟨_,_,b3⟩ | ⟨n2,k2⟩
   ·subst b3;exact absurd (h.inj _ _ _ _ _ k1 hl) n1
   ·exact h.inj _ _ _ _ _ k1 k2
 ·intro l ad z n cap hh
  obtain ⟨l0,hh0⟩:∃l0,Hold E w s vs l0 ad z n cap:=by
   rcases hhold _ _ _ _ _ hh with ⟨hh,_⟩ | ⟨k,_,hh⟩
   ·exact ⟨_,hh⟩
   ·exact ⟨_,hh⟩
  have k:=h.tips _ _ _ _ _ hh0
  refine ⟨k.spot,k.room,k.free,k.notp,fun d j hl'=> ?_⟩
  rcases hlive _ _ _ hl' with ⟨_,_,e⟩ | ⟨_,q⟩
  ·exact k.noob _ _ (e▸hl)
  ·exact k.noob _ _ q
 ·intro l l' ad ad' z z' n n' cap cap' hh hh' hb
  rcases hhold _ _ _ _ _ hh with ⟨k1,n1⟩ | ⟨k,rfl,k1⟩
  ·rcases hhold _ _ _ _ _ hh' with ⟨k2,n2⟩ | ⟨k',rfl,k2⟩
   ·exact h.tinj _ _ _ _ _ _ _ _ _ _ k1 k2 hb
   ·exact absurd (h.tinj _ _ _ _ _ _ _ _ _ _ k1 k2 hb) (n1 k')
  ·rcases hhold _ _ _ _ _ hh' with ⟨k2,n2⟩ | ⟨k',rfl,k2⟩
   ·exact absurd (h.tinj _ _ _ _ _ _ _ _ _ _ k1 k2 hb).symm (n2 k)
   ·have:=h.tinj _ _ _ _ _ _ _ _ _ _ k1 k2 hb
    injection this with _ _ e
    rw[e]
inductive Mv:St->St->Prop where
 | nil (s:St):Mv s s
 | move {s s2:St} {i g d' i' g2:Nat} {cs:List AV}:s.look s.D i=(g,.cells cs)->(∀c∈cs,c.upto d' 20=true)->d'+1=s.D->s.S d' i'=(g2,.dead)->Mv (s.move i g d' i' (g2+1) (.cells cs)) s2->Mv s s2
theorem Mv.ok {s s2:St} (hm:Mv s s2):∀{E:GE},Ok G prot w0 E0 E w s vs->∃E2,E.le E2/\(∀d i g B,E2.loc d i g=some B->d+1=s.D\/E.loc d i g=some B)/\Ok G prot w0 E0 E2 w s2 vs/\s2.D=s.D:=by
 induction hm with
 | nil s=>intro E h;exact ⟨E,E.le_refl,fun _ _ _ _ hb=> .inr hb,h,rfl⟩
 | @move s s2 i g d' i' g2 cs h1 h2 h3 h4 _ ih=>
  intro E h
  obtain ⟨B,hB,ok1,le1⟩:=h.move h1 h2 (by omega) h4
  obtain ⟨E2,q1,q2,q3,q4⟩:=ih ok1
  refine ⟨E2,GE.le_trans le1 q1,fun d j k B' hb=> ?_,q3,q4⟩
  rcases q2 d j k B' hb with e | e
  ·exact .inl e
  ·simp only[GE.addLoc] at e
   split at e
   ·rename_i hc;exact .inl (by omega)
   ·exact .inr e
end
end Go.Ab
/- Pieces of runs; yields; loops over a function,on states given by functions. -/
namespace Go.Ab
open Go
section
variable {C:zP}
theorem put_D (s:St) (d v):(s.put d v).D=s.D:=by cases d<;>rfl
theorem exitTo_append {id:Nat}:∀{k1 k1' k2:List AI},exitTo id k1=some k1'->exitTo id (k1++k2)=some (k1'++k2)
 | [],k1',k2,h=>by cases h
 | .blk j::k,k1',k2,h=>by
  simp only[exitTo,List.cons_append] at h|-
  split at h
  ·rename_i e;injection h with h;subst h;rw[if_pos e]
  ·rename_i e;rw[if_neg e];exact exitTo_append h
 | .c x::k,k1',k2,h=>by simp only[exitTo,List.cons_append] at h|-;exact exitTo_append h
 | .lp x::k,k1',k2,h=>by simp only[exitTo,List.cons_append] at h|-;exact exitTo_append h
 | .ops x::k,k1',k2,h=>by simp only[exitTo,List.cons_append] at h|-;exact exitTo_append h
 | .dr x y z::k,k1',k2,h=>by simp only[exitTo,List.cons_append] at h|-;exact exitTo_append h
theorem RunW.append {Q1 Q2:Way->St->Prop} {k1 k2:List AI} {s:St} (h:RunW C Q1 k1 s) (hf:∀s',Q1 .fall s'->RunW C Q2 k2 s') (ho:∀w s',Q1 w s'->w= .fall):RunW C Q2 (k1++k2) s:=by
 induction h with
 | done h=>exact hf _ h
 | ret h=>exact nomatch ho _ _ h
 | out h1 h=>exact nomatch ho _ _ h
 | stop h=>exact nomatch ho _ _ h
 | skip _ ih=>exact .skip ih
 | seq _ ih=>exact .seq ih
 | cond h _ ih=>exact .cond h ih
 | condU h _ _ ih1 ih2=>exact .condU h ih1 ih2
 | block _ ih=>exact .block ih
 | blk _ ih=>exact .blk ih
 | loop _ ih=>exact .loop ih
 | lp _ ih=>exact .lp ih
 | exit h _ ih=>exact .exit (exitTo_append h) ih
 | region _ ih=>exact .region ih
 | opsNil _ ih=>exact .opsNil ih
 | opsOn h1 h2 _ ih=>exact .opsOn h1 h2 ih
 | opsOff h _ ih=>exact .opsOff h ih
 | either h1 h2 _ _ ih1 ih2=>exact .either h1 h2 ih1 ih2
 | draw _ ih=>exact .draw ih
 | drOn h1 h2 _ ih=>exact .drOn h1 h2 ih
 | drOff h _ ih=>exact .drOff h ih
 | drNil h _ ih=>exact .drNil h ih
@[simp] theorem stF_out {n D:Nat} {τ:Nat->AV} {ω:Nat->Ent} {S:Nat->Nat->Ent} (id:Nat):(stF n D τ ω S).out id=stF n (D+1+2*id) τ ω S:=rfl
@[simp] theorem stF_outRet {n D:Nat} {τ:Nat->AV} {ω:Nat->Ent} {S:Nat->Nat->Ent}:(stF n D τ ω S).outRet=stF n (D+2) τ ω S:=rfl
end
section
variable {C:zP} {own:Md} {Q:St->Prop} {k:List AI} {n D:Nat} {τ:Nat->AV} {ω:Nat->Ent} {S:Nat->Nat->Ent} {l:List AOper} {d:Nat}
theorem yC {f:FuncId} {cap:List AV} {x:Opd} {args r args'} {M dl:List (Nat×Nat×Ent)} (h:C (D+1) f args' M r dl) (hx:(stF n D τ ω S).ev x= .fn f cap) (ha:(args.map fun x=>((stF n D τ ω S).ev x).strip)++cap.map AV.strip=args')
  (hM:∀m∈M,m.1<=D/\(m.1=D->m.2.1 < n)/\(stF n D τ ω S).look m.1 m.2.1=m.2.2) (hdl:∀u∈dl,(u.1,u.2.1)∈M.map (fun m=>(m.1,m.2.1))/\u.2.2.2≠ .dead)
  (hk:Rd C own Q (.ops l::k) ((dl.foldl St.up (stF n D τ ω S)).put (some d) r)) (hf:f≠yid:=by decide):Rd C own Q (.ops (⟨some d,.callv x args,none⟩::l)::k) (stF n D τ ω S):=by
 refine .opsCall rfl (.callv (M:=M) (dl:=dl) (r:=r) hf hx (by rw[ha];exact h) (fun m hm=> ?_) hdl) ?_
 ·have:=hM m hm
  refine ⟨this.1,fun e=> ?_,this.2.2⟩
  rw[stF_osl];exact this.2.1 e
 ·simpa[z7] using hk
theorem yD {f:FuncId} {cap:List AV} {x:Opd} {args r args'} {M dl:List (Nat×Nat×Ent)} {ps es} (h:C (D+1) f args' M r dl) (hx:(stF n D τ ω S).ev x= .fn f cap) (ha:(args.map fun x=>((stF n D τ ω S).ev x).strip)++cap.map AV.strip=args')
  (hM:∀m∈M,m.1<=D/\(m.1=D->m.2.1 < n)/\(stF n D τ ω S).look m.1 m.2.1=m.2.2) (hdl:∀u∈dl,(u.1,u.2.1)∈M.map (fun m=>(m.1,m.2.1))/\u.2.2.2≠ .dead)
  (hk:Rd C own Q (.dr ps l (es++[{val:=r,ups:=dl,rd:=M.map fun m=>(m.1,m.2.1)}])::k) ((dl.foldl St.up (stF n D τ ω S)).put (some d) r)) (hf:f≠yid:=by decide):Rd C own Q (.dr ps (⟨some d,.callv x args,none⟩::l) es::k) (stF n D τ ω S):=by
 refine .drCall rfl (.callv (M:=M) (dl:=dl) (r:=r) hf hx (by rw[ha];exact h) (fun m hm=> ?_) hdl) ?_
 ·have:=hM m hm
  refine ⟨this.1,fun e=> ?_,this.2.2⟩
  rw[stF_osl];exact this.2.1 e
 ·simpa[z7] using hk
end
section
variable {P:Program} {G:Nat->Option (List AV)} {L:Lends} {T:FuncId->Option FnC}
end
end Go.Ab
/- Functions as results: what they caught is frozen,pointers to objects of the frames below stay. -/
namespace Go.Ab
open Go
def frzC (s:St) (h:Nat):Nat->AV->Option (AV×List (Nat×Nat))
 | 0,_=>none
 | n+1,v=>match v with
  | .ptr d i g off=>if d<=h then some (.ptr d i g off,[]) else match s.look d i with
   | (g',.cells cs)=>
    if g'=g/\d=s.D/\cs.all AV.one=true then
     match cs.mapM (frzC s h n) with
     | some l=>if (l.map fun x=>x.1.strip1).all (AV.upto h 20)=true then some (.bx h (l.map (fun x=>x.1.strip1)) off,(d,i)::(l.map (·.2)).flatten) else none
     | none=>none
    else none
   | _=>none
  | .fn f cs=>if cs.all (AV.upto h 19)=true then some (.fn f cs,[]) else match cs.mapM (frzC s h n) with
   | some l=>some (.fn f (l.map (·.1)),(l.map (·.2)).flatten)
   | none=>none
  | .meth f cs=>match cs.mapM (frzC s h n) with
   | some l=>some (.meth f (l.map (·.1)),(l.map (·.2)).flatten)
   | none=>none
  | .own .. | .mp .. | .ch .. | .yl .. | .agg .. | .tup .. | .ifc .. =>none
  | v=>some (v,[])
section
variable {P:Program} {G:Nat->Option (List AV)} {L:Lends} {prot:Nat->Prop} {w0:World} {E0 E:GE} {w:World} {s:St} {a:Act}
theorem frzC_places {hh:Nat}:∀n {b b' l},frzC s hh n b=some (b',l)->∀p∈l,p.1=s.D/\∃g cs,s.look p.1 p.2=(g,.cells cs)
 | 0,b,b',l,h=>by simp[frzC] at h
 | n+1,b,b',l,h=>by
  have many:∀{cs:List AV} {m:List (AV×List (Nat×Nat))},cs.mapM (frzC s hh n)=some m->∀p∈(m.map (·.2)).flatten,p.1=s.D/\∃g cs,s.look p.1 p.2=(g,.cells cs):=by
   intro cs m hm p hp
   obtain ⟨k1,k2⟩:=mapM_some hm
   obtain ⟨l1,hl1,hpl⟩:=List.mem_flatten.1 hp
   obtain ⟨y,hy,rfl⟩:=List.mem_map.1 hl1
   obtain ⟨j,hj⟩:=List.getElem?_of_mem hy
   have hlt:j < cs.length:=by have:=(List.getElem?_eq_some_iff.1 hj).1;omega
   obtain ⟨y',hy',hfy⟩:=k2 j _ (List.getElem?_eq_getElem hlt)
   have:y'=y:=by rw[hy'] at hj;exact Option.some.inj hj
   subst this
   exact frzC_places n (b:=cs[j]) (b':=y'.1) (l:=y'.2) hfy p hpl
  cases b with
  | ptr d i g off=>
   simp only[frzC] at h
   split at h
   ·injection h with h;injection h with _ h;subst h;simp
   ·split at h
    ·rename_i g' cs hlk
     split at h
     ·rename_i hc
      split at h
      ·rename_i m hm
       split at h
       ·injection h with h;injection h with _ h;subst h
        intro p hp
        rcases List.mem_cons.1 hp with rfl | hp
        ·exact ⟨hc.2.1,g',cs,hlk⟩
        ·exact many hm p hp
       ·cases h
      ·cases h
     ·cases h
    ·cases h
  | fn f cs=>
   simp only[frzC] at h
   split at h
   ·injection h with h;injection h with _ h;subst h;simp
   ·split at h;(rename_i m hm;injection h with h;injection h with _ h;subst h;exact many hm);cases h
  | meth f cs=>simp only[frzC] at h;split at h;(rename_i m hm;injection h with h;injection h with _ h;subst h;exact many hm);cases h
  | own=>simp[frzC] at h
  | mp=>simp[frzC] at h
  | ch=>simp[frzC] at h
  | yl=>simp[frzC] at h
  | agg=>simp[frzC] at h
  | tup=>simp[frzC] at h
  | ifc=>simp[frzC] at h
  | _=>simp only[frzC] at h;injection h with h;injection h with _ h;subst h;simp
theorem frzC_rel (h:Ok G prot w0 E0 E w s a.tmps) {E':GE} (hle:E.le E') {hh:Nat}:∀n {b b' l v},frzC s hh n b=some (b',l)->Rel E b v->(∀p∈l,Full E E' w s p)->Rel E' b' v
 | 0,b,b',l,v,hf,_,_=>by simp[frzC] at hf
 | n+1,b,b',l,v,hf,hr,hfull=>by
  have many:∀{cs:List AV} {m:List (AV×List (Nat×Nat))} {us:List Value},cs.mapM (frzC s hh n)=some m->cs.length=us.length->(∀(i:Nat) (c:AV) (u:Value),cs[i]?=some c->us[i]?=some u->Rel E c u)->
    (∀p∈(m.map (·.2)).flatten,Full E E' w s p)->m.length=us.length/\∀(i:Nat) x (u:Value),m[i]?=some x->us[i]?=some u->Rel E' x.1 u:=by
   intro cs m us hm hl hc hp
   obtain ⟨k1,k2⟩:=mapM_some hm
   refine ⟨by omega,fun i x u hx hu=> ?_⟩
   have hlt:i < cs.length:=by have:=(List.getElem?_eq_some_iff.1 hx).1;omega
   obtain ⟨y,hy,hfy⟩:=k2 i _ (List.getElem?_eq_getElem hlt)
   have:y=x:=by rw[hy] at hx;exact Option.some.inj hx
   subst this
   refine frzC_rel h hle n (b:=cs[i]) (b':=y.1) (l:=y.2) hfy (hc i _ u (List.getElem?_eq_getElem hlt) hu) (fun p hpp=>hp p ?_)
   exact List.mem_flatten.2 ⟨y.2,List.mem_map.2 ⟨y,zQ hy,rfl⟩,hpp⟩
  have manym:∀{f:AV->AV} {cs:List AV} {m:List (AV×List (Nat×Nat))} {us:List Value},(∀c u,Rel E' c u->Rel E' (f c) u)->cs.mapM (frzC s hh n)=some m->cs.length=us.length->(∀(i:Nat) (c:AV) (u:Value),cs[i]?=some c->us[i]?=some u->Rel E c u)->
    (∀p∈(m.map (·.2)).flatten,Full E E' w s p)->(m.map fun x=>f x.1).length=us.length/\∀(i:Nat) (c:AV) (u:Value),(m.map fun x=>f x.1)[i]?=some c->us[i]?=some u->Rel E' c u:=by
   intro f cs m us hff hm hl hc hp
   obtain ⟨k1,k2⟩:=many hm hl hc hp
   refine ⟨by simpa using k1,fun i c u hci hu=> ?_⟩
   simp only[List.getElem?_map,Option.map_eq_some_iff] at hci
   obtain ⟨x,hx,rfl⟩:=hci
   exact hff _ _ (k2 i x u hx hu)
  cases b with
  | ptr d i g off=>
   simp only[frzC] at hf
   split at hf
   ·injection hf with hf;injection hf with hf _;subst hf;exact hr.mono hle
   ·split at hf
    ·rename_i g' cs hlk
     split at hf
     ·rename_i hc
      obtain ⟨hg,hD,hone⟩:=hc
      subst hg
      split at hf
      ·rename_i m hm
       split at hf
       ·rename_i hup
        injection hf with hf;injection hf with hf hf2;subst hf;subst hf2
        obtain ⟨B,hb,rfl⟩:=hr.ptr_inv
        obtain ⟨hlive,⟨arr,el,hB,hsz,hone2,hcr⟩,himm,hnp⟩:=live_of h hlk (by simp) hb
        have hfull0:=hfull (d,i) (by simp) g' cs B arr el hlk hb hB
        have htk:∀(i:Nat) (u:Value),(arr.toList.take cs.length)[i]?=some u->arr[i]?=some u:=by
         intro i u hu
         have hi:i < cs.length:=by have:=(List.getElem?_eq_some_iff.1 hu).1;simp at this;omega
         rw[List.getElem?_take_of_lt hi] at hu;simpa using hu
        obtain ⟨k1,k2⟩:=manym (f:=AV.strip1) (us:=arr.toList.take cs.length) (fun c u=>Rel.strip1) hm (by simp;omega) (fun i c u hc hu=>(hcr _ c u hc (htk i u hu)).mono (GE.to_le E d))
         (fun p hp=>hfull p (by simp only[List.mem_cons];exact .inr hp))
        have:=Rel.bx (E:=E') hh (m.map fun x=>x.1.strip1) off B 0 (fun i=>arr.getD i undef) (fun i c hc=>by
          have hi':i < cs.length:=by have:=(List.getElem?_eq_some_iff.1 hc).1;simp at k1;simp at this;omega
          have hi:i < arr.size:=by omega
          exact k2 i c _ hc (by rw[List.getElem?_take_of_lt hi'];simp[Array.getD_eq_getD_getElem?,Array.getElem?_eq_getElem hi]))
         (fun c hc=>⟨20,List.all_eq_true.1 hup c hc⟩)
         (fun i hi=>by
          rw[k1] at hi
          have hi:i < arr.size:=by simp at hi;omega
          rw[Nat.zero_add]
          exact hfull0 i _ (by simp[Array.getD_eq_getD_getElem?,Array.getElem?_eq_getElem hi]))
        simpa using this
       ·cases hf
      ·cases hf
     ·cases hf
    ·cases hf
  | fn f cs=>
   simp only[frzC] at hf
   split at hf
   ·injection hf with hf;injection hf with hf _;subst hf;exact hr.mono hle
   ·split at hf
    ·rename_i m hm
     injection hf with hf;injection hf with hf hf2;subst hf;subst hf2
     obtain ⟨us,rfl,hl,hc⟩:=hr.fn_inv
     obtain ⟨k1,k2⟩:=manym (f:=id) (us:=us) (fun _ _ h=>h) hm hl hc hfull
     exact .fn _ _ us k1 k2
    ·cases hf
  | meth f cs=>
   simp only[frzC] at hf
   split at hf
   ·rename_i m hm
    injection hf with hf;injection hf with hf hf2;subst hf;subst hf2
    obtain ⟨us,rfl,hl,hc⟩:=hr.meth_inv
    obtain ⟨k1,k2⟩:=manym (f:=id) (us:=us) (fun _ _ h=>h) hm hl hc hfull
    exact .meth _ _ us k1 k2
   ·cases hf
  | own=>simp[frzC] at hf
  | mp=>simp[frzC] at hf
  | ch=>simp[frzC] at hf
  | yl=>simp[frzC] at hf
  | agg=>simp[frzC] at hf
  | tup=>simp[frzC] at hf
  | ifc=>simp[frzC] at hf
  | _=>simp only[frzC] at hf;injection hf with hf;injection hf with hf hf2;subst hf;exact hr.mono hle
def resC (s:St) (h:Nat) (rs:List RV):Option AV:=
 match rvAll s rs with
 | some [v]=>(frzC s h 20 v).map fun x=>x.1.strip
 | _=>none
def CloQ (h:Nat) (rs:List RV) (r:AV) (D:Nat) (S:Nat->Nat->Ent) (dl:List (Nat×Nat×Ent)):St->Prop:=fun s'=>
 resC s' h rs=some r/\∀d i,d≠D->s'.S d i=upds S dl d i
@[simp] theorem CloQ_at (h:Nat) (rs:List RV) (r:AV) (D:Nat) (S:Nat->Nat->Ent) (dl:List (Nat×Nat×Ent)) (s':St):CloQ h rs r D S dl s'↔resC s' h rs=some r/\∀d i,d≠D->s'.S d i=upds S dl d i:=Iff.rfl
theorem loc_of_clo (hm:PGood P) {f:FuncId} {fn:Func} {code:Code} {ac:AC} {rs:List RV} {args:List AV} {M dl:List (Nat×Nat×Ent)} {r:AV}
  (hf : P.funcs[f]? = some fn) (hb : fn.body = some code) (hn : (fn.name == "runtime.NumGoroutine") = false) (hc : comp P G L code = some ac) (hrs : compR P fn.results.toList = some rs)
  {D d1:Nat} (hd1:d1 < D) (hu:r.upto d1 20=true) (ht:r.dull) (h:∀S,(∀m∈M,m.1 < D/\S m.1 m.2.1=m.2.2)->Run (Loc P G) (CloQ d1 rs r D S dl) [.c ac] (St.start fn.ntmps args D S)):
  Loc P G D f args M r dl:=by
 refine .inl ⟨hm.ne hf,?_⟩
 refine ⟨⟨fn,hf,by rw[hb];rfl,hn⟩,fun prot w0 E0 E w S vs hok hM=> ?_⟩
 intro cs
 let b:Frame:={(default:Frame) with fn:=f,kind:= .normal}
 let a:Act:={tmps:=vs++Array.replicate (fn.ntmps - vs.size) undef,defers:=[]}
 have henter:Frame.enter P f vs .normal=b.atR a [.code code]:=by
  simp[Frame.enter,Frame.atR,hf,hb,b,a]
  try rfl
 obtain ⟨wy,todo,a',w',E1,s',⟨q0,qe⟩,q3',q4,q5,q6,q7⟩:=(run_sound (L:=L) (kc0:=[]) hm (h S hM)).1 _ (.c hc .nil) b (by simp[b]) cs a w E (start_ok fn.ntmps hok)
 have hbn:b.roundOf=none:=rfl
 obtain ⟨⟨m2,m4⟩,q3⟩:(CloQ d1 rs r D S dl s')/\Steps P (lone (b.atR a [.code code]) cs w) (lone {b.atR a' todo with mode:= .returning} cs w'):=by
  cases qe with
  | fall=>exact ⟨q0,q3'.trans (.one (stepR_end hbn))⟩
  | ret k=>exact ⟨q0,q3'.trans (.one (stepR_ret hbn))⟩
  | exit _=>exact q0.elim
  | stop _ _=>exact q0.elim
 have hsD:s'.D=D:=q7
 unfold resC at m2
 split at m2
 case h_2=>cases m2
 rename_i b0 hbs
 rw[Option.map_eq_some_iff] at m2
 obtain ⟨⟨b1,l⟩,hfz,hre⟩:=m2
 simp only at hre
 obtain ⟨us,r1,r2,r3⟩:=rvs_run q5 hrs hbs
 rcases us with _ | ⟨u,_ | ⟨u',us⟩⟩<;>simp at r2
 have hres:(results fn a'.tmps).run P w'= .ok u w':=results_run (P:=P) (w:=w') r1
 have hpl:=frzC_places _ hfz
 obtain ⟨E2,ok2,le2,loc2,full2,ts2,D2⟩:=q5.killAll l fun p hp=>(hpl p hp).2
 have hrel0:Rel E2 b1 u:=frzC_rel q5 le2 _ hfz (r3 0 b0 u rfl rfl).1 full2
 have hrel:Rel E2 r u:=by rw[<-hre];exact hrel0.strip
 have hlook:∀d i,d≠s'.D->((kill s' l).foldl St.up s').look d i=s'.look d i:=fun d i hd=>kill_look l s' s' (fun p hp=>(hpl p hp).1) d i hd
 have hle2:E.le E2:=GE.le_trans q4.1 le2
 have e4:=end_ok (S':=upds S dl) hok hle2 ok2 (D2.trans hsD) (fun d i hd=>by rw[hlook d i (by rw[hsD];exact hd),St.look,if_neg (by rw[hsD];exact hd)];exact m4 d i hd) ((hrel.upto 20 hu).mono (GE.to_cut hle2 hd1)) (fun z n ad cap h=>(h.dull ht).elim)
 rw[<-henter] at q3
 exact ⟨.returned _,w',_,⟨_,E.cut E2 D,rfl,fun b o x hx=>le2.1 _ _ _ (q4.1.1 _ _ _ hx),GE.leC_cut hle2,fun d i g B hb=>hle2.3 _ _ _ _ hb,e4⟩,q3,rfl,rfl,q6,rfl,fn,hf,hres⟩
variable {T:FuncId->Option FnC}
theorem loc_rdC (hm:PGood P) (hT:TOk P G L T) {f n:Nat} {ac:AC} {rs:List RV} {own:Bool} (hc:T f=some ⟨n,ac,rs,own⟩) {args:List AV} {M dl:List (Nat×Nat×Ent)} {r:AV} {D d1:Nat} (md:Md) (hmd:md≠ .rn) (hl:Nat.ble args.length n=true)
  (hd1:d1 < D) (hu:r.upto d1 20=true) (ht:r.dull)
  (h:∀S,(∀m∈M,m.1 < D/\S m.1 m.2.1=m.2.2)->Rd (Loc P G) md (CloQ d1 rs r D S dl) [.c ac] (stF n D (argsT 0 args) (fun _=>(0,.dead)) S)):Loc P G D f args M r dl:=by
 obtain ⟨fn,code,t1,t2,t3,t4,t5,t6⟩:=hT f _ hc
 refine loc_of_clo (L:=L) hm t1 t2 t3 t4 t5 hd1 hu ht fun S hS=> ?_
 rw[t6,start_stF _ _ _ _ (Nat.le_of_ble_eq_true hl)]
 exact (h S hS).run hmd
end
section
variable {C:zP} {own:Md} {Q:St->Prop} {k:List AI} {n D:Nat} {τ:Nat->AV} {ω:Nat->Ent} {S:Nat->Nat->Ent} {l:List AOper} {d:Nat}
theorem Rd_callm {f:FuncId} {bs:List AV} {x:Opd} {args r args'} {M dl:List (Nat×Nat×Ent)} (h:C (D+1) f args' M r dl) (hx:(stF n D τ ω S).ev x= .meth f bs) (ha:bs.map AV.strip++(args.map fun x=>((stF n D τ ω S).ev x).strip)=args')
  (hM:∀m∈M,m.1<=D/\(m.1=D->m.2.1 < n)/\(stF n D τ ω S).look m.1 m.2.1=m.2.2) (hdl:∀u∈dl,(u.1,u.2.1)∈M.map (fun m=>(m.1,m.2.1))/\u.2.2.2≠ .dead)
  (hk:Rd C own Q (.ops l::k) ((dl.foldl St.up (stF n D τ ω S)).put (some d) r)) (hf:f≠yid:=by decide):Rd C own Q (.ops (⟨some d,.callv x args,none⟩::l)::k) (stF n D τ ω S):=by
 refine .opsCall rfl (.callm (M:=M) (dl:=dl) (r:=r) hf hx (by rw[ha];exact h) (fun m hm=> ?_) hdl) ?_
 ·have:=hM m hm
  refine ⟨this.1,fun e=> ?_,this.2.2⟩
  rw[stF_osl];exact this.2.1 e
 ·simpa[z7] using hk
theorem Rd_drCallm {f:FuncId} {bs:List AV} {x:Opd} {args r args'} {M dl:List (Nat×Nat×Ent)} {ps es} (h:C (D+1) f args' M r dl) (hx:(stF n D τ ω S).ev x= .meth f bs) (ha:bs.map AV.strip++(args.map fun x=>((stF n D τ ω S).ev x).strip)=args')
  (hM:∀m∈M,m.1<=D/\(m.1=D->m.2.1 < n)/\(stF n D τ ω S).look m.1 m.2.1=m.2.2) (hdl:∀u∈dl,(u.1,u.2.1)∈M.map (fun m=>(m.1,m.2.1))/\u.2.2.2≠ .dead)
  (hk:Rd C own Q (.dr ps l (es++[{val:=r,ups:=dl,rd:=M.map fun m=>(m.1,m.2.1)}])::k) ((dl.foldl St.up (stF n D τ ω S)).put (some d) r)) (hf:f≠yid:=by decide):Rd C own Q (.dr ps (⟨some d,.callv x args,none⟩::l) es::k) (stF n D τ ω S):=by
 refine .drCall rfl (.callm (M:=M) (dl:=dl) (r:=r) hf hx (by rw[ha];exact h) (fun m hm=> ?_) hdl) ?_
 ·have:=hM m hm
  refine ⟨this.1,fun e=> ?_,this.2.2⟩
  rw[stF_osl];exact this.2.1 e
 ·simpa[z7] using hk
end
end Go.Ab
/- New objects at a place that is said: the rules. -/
namespace Go.Ab
open Go
section
variable {C:zP} {Q:St->Prop} {k:List AI} {n D:Nat} {τ:Nat->AV} {ω:Nat->Ent} {S:Nat->Nat->Ent} {l:List AOper} {d:Nat} {ps:List (Nat×Nat)} {es:List Eff}
theorem slotAt_stF_lt {dd i:Nat} (h:dd < D):slotAt (stF n D τ ω S) dd i=some (S dd i):=by
 unfold slotAt
 rw[stF_D,if_neg (by omega),if_pos h];rfl
theorem slotAt_stF_D {i:Nat} (h:i < n):slotAt (stF n D τ ω S) D i=some (ω i):=by
 unfold slotAt
 rw[stF_D,if_pos rfl,stF_os,if_pos h]
theorem Rd_boxH {m x} (hd:d < n) (h:((stF n D τ ω S).ev x).cells.length=m/\((stF n D τ ω S).ev x).cells.all AV.one=true)
  (hk:Rd C .pl Q (.ops l::k) (stF n D (upd τ d (.ptr D d ((ω d).1+1) 0)) (upd ω d ((ω d).1+1,.cells (((stF n D τ ω S).ev x).cells.map AV.var1))) S)):
  Rd C .pl Q (.ops (⟨some d,.box m x,none⟩::l)::k) (stF n D τ ω S):=by
 refine Rd_here (e:={val:= .ptr D d ((ω d).1+1) 0,ups:=[(D,d,((ω d).1+1,.cells (((stF n D τ ω S).ev x).cells.map AV.var1)))]}) rfl ?_ ?_
 ·simp only[opf,stF_os,if_pos hd,if_pos h,stF_D]
 ·simpa[z7,stF_up,yI] using hk
theorem Rd_allocH {z} (hd:d < n)
  (hk:Rd C .pl Q (.ops l::k) (stF n D (upd τ d (.ptr D d ((ω d).1+1) 0)) (upd ω d ((ω d).1+1,.cells (z.map AV.var1))) S)):
  Rd C .pl Q (.ops (⟨some d,.alloc z,none⟩::l)::k) (stF n D τ ω S):=by
 refine Rd_here (e:={val:= .ptr D d ((ω d).1+1) 0,ups:=[(D,d,((ω d).1+1,.cells (z.map AV.var1)))]}) rfl ?_ ?_
 ·simp only[opf,stF_os,if_pos hd,stF_D]
 ·simpa[z7,stF_up,yI] using hk
theorem Rd_boxP {m x} (dd i:Nat) (hdd:dd < D) (h:((stF n D τ ω S).ev x).cells.length=m/\((stF n D τ ω S).ev x).cells.all AV.one=true/\((stF n D τ ω S).ev x).upto dd 20=true)
  (hk:Rd C .pl Q (.ops l::k) (stF n D (upd τ d (.ptr dd i ((S dd i).1+1) 0)) ω (updS S dd i ((S dd i).1+1,.cells (((stF n D τ ω S).ev x).cells))))):
  Rd C .pl Q (.ops (⟨some d,.box m x,none⟩::l)::k) (stF n D τ ω S):=by
 refine Rd_plc (e:={val:= .ptr dd i ((S dd i).1+1) 0,ups:=[(dd,i,((S dd i).1+1,.cells (((stF n D τ ω S).ev x).cells)))]}) dd i rfl ?_ ?_
 ·simp only[opfP,slotAt_stF_lt hdd,if_pos h]
 ·have hne:¬dd=D:=by omega
  simpa[z7,stF_up,yI,hne] using hk
theorem Rd_dr_bsliceO {z ea qs} (hd:d < n) (h:okEl z ea (qs.map (stF n D τ ω S).ev)=true/\(qs.map (stF n D τ ω S).ev).all (AV.upto D 20)=true)
  (hk:Rd C .pl Q (.dr ps l (es++[{val:= .own D d ((ω d).1+1) 0 qs.length z ea,ups:=[(D,d,((ω d).1+1,.cells (newC (qs.map (stF n D τ ω S).ev))))]}])::k)
   (stF n D (upd τ d (.own D d ((ω d).1+1) 0 qs.length z ea)) (upd ω d ((ω d).1+1,.cells (newC (qs.map (stF n D τ ω S).ev)))) S)):
  Rd C .pl Q (.dr ps (⟨some d,.bslice z ea qs,none⟩::l) es::k) (stF n D τ ω S):=by
 refine Rd_dr_plc (e:={val:= .own D d ((ω d).1+1) 0 qs.length z ea,ups:=[(D,d,((ω d).1+1,.cells (newC (qs.map (stF n D τ ω S).ev))))]}) D d rfl ?_ ?_
 ·simp only[opfP,slotAt_stF_D hd,if_pos h]
 ·simpa[z7,stF_up,yI] using hk
theorem Rd_dr_appP0 {z bytes x y z' y0 ys r} (dd i:Nat) (hdd:dd < D) (hx:(stF n D τ ω S).evr x= .sl z' [] .nil) (hy:elemsP (stF n D τ ω S) dd z ((stF n D τ ω S).ev y)=some (y0::ys,r))
  (h:okEl z (!y0.one) (y0::ys)=true/\(ys.length+1)*bytes<=z0)
  (hk:Rd C .pl Q (.dr ps l (es++[{val:= .own dd i ((S dd i).1+1) 0 (ys.length+1) z (!y0.one),ups:=[(dd,i,((S dd i).1+1,.cells (newC (y0::ys))))],rd:=r}])::k)
   (stF n D (upd τ d (.own dd i ((S dd i).1+1) 0 (ys.length+1) z (!y0.one))) ω (updS S dd i ((S dd i).1+1,.cells (newC (y0::ys)))))):
  Rd C .pl Q (.dr ps (⟨some d,.append z bytes x y,none⟩::l) es::k) (stF n D τ ω S):=by
 refine Rd_dr_plc (e:={val:= .own dd i ((S dd i).1+1) 0 (ys.length+1) z (!y0.one),ups:=[(dd,i,((S dd i).1+1,.cells (newC (y0::ys))))],rd:=r}) dd i rfl ?_ ?_
 ·simp only[opfP,hx,hy,slotAt_stF_lt hdd,if_pos h]
 ·have hne:¬dd=D:=by omega
  simpa[z7,stF_up,yI,hne] using hk
theorem Rd_dr_appP {z bytes x y ys r g len ea cs} (dd i:Nat) (hdd:dd < D) (hx:(stF n D τ ω S).evr x= .own dd i g 0 len z ea) (hy:elemsP (stF n D τ ω S) dd z ((stF n D τ ω S).ev y)=some (ys,r))
  (hS:S dd i=(g,.cells cs)) (h:len*z<=cs.length/\ys≠[]/\okEl z ea ys=true/\(len+ys.length)*bytes<=z0)
  (hk:Rd C .pl Q (.dr ps l (es++[{val:= .own dd i (g+1) 0 (len+ys.length) z ea,ups:=[(dd,i,(g+1,.cells ((cs.take (len*z)).map AV.strip1++newC ys)))],rd:=r}])::k)
   (stF n D (upd τ d (.own dd i (g+1) 0 (len+ys.length) z ea)) ω (updS S dd i (g+1,.cells ((cs.take (len*z)).map AV.strip1++newC ys))))):
  Rd C .pl Q (.dr ps (⟨some d,.append z bytes x y,none⟩::l) es::k) (stF n D τ ω S):=by
 have hne:¬dd=D:=by omega
 refine Rd_dr_plc (e:={val:= .own dd i (g+1) 0 (len+ys.length) z ea,ups:=[(dd,i,(g+1,.cells ((cs.take (len*z)).map AV.strip1++newC ys)))],rd:=r}) dd i rfl ?_ ?_
 ·simp only[opfP,hx,hy,yB,if_neg hne,hS]
  rw[if_pos ⟨trivial,trivial,trivial,trivial,trivial,h.1,h.2.1,h.2.2.1,h.2.2.2⟩]
 ·simpa[z7,stF_up,yI,hne] using hk
end
end Go.Ab
/- A function whose first act is to defer a call of a closure that recovers. -/
namespace Go.Ab
open Go
theorem ops_inv {C:zP} {Q:Way->St->Prop} {k0:List AI} {s:St} (h:RunW C Q k0 s):∀l k,k0= .ops l::k->∃es s1,OpsE C l s es s1/\RunW C Q k s1:=by
 induction h with
 | opsNil hk _=>intro l k e;injection e with e1 e2;injection e1 with e1;subst e1;subst e2;exact ⟨[],_,.nil,hk⟩
 | opsOn h1 h2 _ ih=>
  intro l k e;injection e with e1 e2;injection e1 with e1;subst e1;subst e2
  obtain ⟨es,s1,q1,q2⟩:=ih _ _ rfl
  exact ⟨_,s1,.on h1 h2 q1,q2⟩
 | opsOff h1 _ ih=>
  intro l k e;injection e with e1 e2;injection e1 with e1;subst e1;subst e2
  obtain ⟨es,s1,q1,q2⟩:=ih _ _ rfl
  exact ⟨_,s1,.off h1 q1,q2⟩
 | _=>intro l k e;first | cases e | (injection e with e1 e2;cases e1)
theorem region_inv {C:zP} {Q:Way->St->Prop} {l:List AOper} {k:List AI} {s:St} (h:RunW C Q (.c (.region l none)::k) s):∃es s1,OpsE C l s es s1/\RunW C Q k s1:=by
 cases h with
 | region h=>exact ops_inv h _ _ rfl
theorem seq_inv {C:zP} {Q:Way->St->Prop} {a b:AC} {k:List AI} {s:St} (h:RunW C Q (.c (.seq a b)::k) s):RunW C Q (.c a:: .c b::k) s:=by
 cases h with
 | seq h=>exact h
theorem ops_tl {C:zP} {l s es s'} (h:OpsE C l s es s'):s'.ts.length=s.ts.length:=by
 induction h with
 | nil=>rfl
 | on _ _ _ ih=>rw[ih,app_tl]
 | off _ _ ih=>rw[ih,app_tl]
def DefN (P:Program) (g:FuncId):Prop:=Entered P g/\∀(vs:Array Value) (w:World),CallsD P g vs .returning w fun e u' w'=>(∃v,e= .returned v)/\u'= .returning/\w'=w
def compD (P:Program) (G:Nat->Option (List AV)) (L:Lends):Code->Option (List AOper×Nat×FuncId×List Opd×AC)
 | .seq c0 (.seq (.region _ ops false) c2)=>match comp P G L c0,ops.toList,comp P G L c2 with
  | some (.region l0 none),[om,od],some ac=>match compOper P G L ops om,od.op,od.guard,od.dst with
   | some ⟨some t,.mkfn g caps,none⟩,.defer ⟨.value (.tmp t'),args,_⟩,none,none=>if t'=t/\args.size=0 then some (l0,t,g,caps,ac) else none
   | _,_,_,_=>none
  | _,_,_=>none
 | _=>none
section
variable {P:Program} {G:Nat->Option (List AV)} {L:Lends}
theorem compD_some {code:Code} {l0 t g caps ac} (h:compD P G L code=some (l0,t,g,caps,ac)):∃c0 id om od c2,code= .seq c0 (.seq (.region id #[om,od] false) c2)/\comp P G L c0=some (.region l0 none)/\
  compOper P G L #[om,od] om=some ⟨some t,.mkfn g caps,none⟩/\(∃tys,od.op= .defer ⟨.value (.tmp t),#[],tys⟩)/\od.guard=none/\od.dst=none/\comp P G L c2=some ac:=by
 unfold compD at h
 split at h
 ·rename_i c0 id ops c2
  split at h
  ·rename_i l0' om od ac' h1 h2 h3
   split at h
   ·rename_i t1 g1 caps1 t' args tys h4 h5 h6 h7
    split at h
    ·rename_i hc
     obtain ⟨rfl,hs⟩:=hc
     injection h with h
     simp only[Prod.mk.injEq] at h
     obtain ⟨rfl,rfl,rfl,rfl,rfl⟩:=h
     have ho:ops= #[om,od]:=by rw[<-h2]
     subst ho
     have ha:args= #[]:=Array.eq_empty_of_size_eq_zero hs
     subst ha
     exact ⟨c0,id,om,od,c2,rfl,h1,h4,⟨tys,h5⟩,h6,h7,h3⟩
    ·cases h
   ·cases h
  ·cases h
 ·cases h
theorem loc_of_defer (hm:PGood P) {f:FuncId} {fn:Func} {code:Code} {ac:AC} {rs:List RV} {args:List AV} {M dl:List (Nat×Nat×Ent)} {r:AV} {l0 t g caps}
  (hf : P.funcs[f]? = some fn) (hb : fn.body = some code) (hn : (fn.name == "runtime.NumGoroutine") = false) (hc : compD P G L code = some (l0,t,g,caps,ac)) (hrs : compR P fn.results.toList = some rs) (hg : DefN P g) (htn : t < fn.ntmps)
  {D:Nat} (h:∀S,(∀m∈M,m.1 < D/\S m.1 m.2.1=m.2.2)->Run (Loc P G) (fun s'=>resV s' rs=some r/\∀d i,d≠D->s'.S d i=upds S dl d i) [.c (.seq (.region l0 none) (.seq (.region [⟨some t,.mkfn g caps,none⟩] none) ac))] (St.start fn.ntmps args D S)):
  Loc P G D f args M r dl:=by
 refine .inl ⟨hm.ne hf,?_⟩
 refine ⟨⟨fn,hf,by rw[hb];rfl,hn⟩,fun prot w0 E0 E w S vs hok hM=> ?_⟩
 intro cs
 obtain ⟨c0,id,om,od,c2,rfl,hc0,hom,⟨tys,hod⟩,hgd,hdst,hc2⟩:=compD_some hc
 let b:Frame:={(default:Frame) with fn:=f,kind:= .normal}
 let a:Act:={tmps:=vs++Array.replicate (fn.ntmps - vs.size) undef,defers:=[]}
 have henter:Frame.enter P f vs .normal=b.atR a [.code (.seq c0 (.seq (.region id #[om,od] false) c2))]:=by
  simp[Frame.enter,Frame.atR,hf,hb,b,a]
  try rfl
 have hbk:b.kind≠ .early:=by simp[b]
 have hbn:b.roundOf=none:=rfl
 -- the part before
 obtain ⟨es0,s1,ho0,hr1⟩:=region_inv (seq_inv (h S hM))
 obtain ⟨es1,s2,ho1,hr2⟩:=region_inv (seq_inv hr1)
 obtain ⟨id0,ops0,hco0,⟨rfl,_⟩ | ⟨_,_,hx,_⟩⟩:=comp_region hc0
 case inr=>cases hx
 have hst:=start_ok fn.ntmps hok
 obtain ⟨a1,w1,⟨E1,hle1,hok1,hd1⟩,har1⟩:=region_wp (id:=id0) hco0 hst ho0 (Q:=fun a' w'=>Post G prot w0 E0 E (St.start fn.ntmps args D S).D s1 a.defers a' w') (fun a' w' hp=>hp) b hbk [.code (.seq (.region id #[om,od] false) c2)] cs
 -- the closure
 cases ho1 with
 | off hgt _=>simp[gate] at hgt
 | on hgt hop hrest=>
 cases hrest with
 | nil=>
 rename_i e1
 obtain ⟨a2,w2,⟨E2,hle2,hok2,hd2⟩,har2⟩:=good_wpOp hok1 (gops:= #[om,od]) (i:=0) rfl hom (.inl ⟨hgt,hop⟩) (K:=fun a' w'=>Post G prot w0 E0 E1 s1.D (s1.app (some t) e1) a1.defers a' w') (fun a' w' hp=>hp) b hbk [.code c2] cs [1]
 have hD0:(St.start fn.ntmps args D S).D=D:=rfl
 have hD1:s1.D=D:=(ops_D ho0).trans hD0
 have hev:e1.val= .fn g (caps.map fun x=>(s1.ev x).strip)/\e1.ups= []/\e1.dem= []:=by
  cases hop with
  | op he=>simp only[opf] at he;injection he with he;subst he;exact ⟨rfl,rfl,rfl⟩
  | own he=>simp[opfO] at he
  | plc he=>simp[opfP] at he
  | comm he=>simp[opfC] at he
 have hlt:t < s1.ts.length:=by
  rw[ops_tl ho0]
  show t < (St.start fn.ntmps args D S).ts.length
  simp only[St.start,List.length_append,List.length_replicate]
  omega
 obtain ⟨us,hval⟩:∃us:List Value,a2.tmps.getD t undef= .func (.func g) #[] us.toArray:=by
  have hrel:=hok2.rd t
  have e:(s1.app (some t) e1).rd t=e1.val:=by
   rw[app_rd];simp[hlt]
  rw[e,hev.1] at hrel
  obtain ⟨us,hu,_⟩:=hrel.fn_inv
  exact ⟨us,hu⟩
 -- the deferred call
 let d:Deferred:={target:= .fn (.func g) us.toArray,args:= #[]}
 let a3:Act:=({a2 with defers:=d::a2.defers}:Act).put none undef
 have hdef:step P (lone (b.atR a2 (.inRegion #[om,od] [1]::[.code c2])) cs w2)= .next (lone (b.atR a3 (.inRegion #[om,od] []::[.code c2])) cs w2):=by
  have ho:(#[om,od]:Array Oper)[1]?=some od:=rfl
  have hw:Region.wanted od (yielded #[om,od] a2.tmps)=true:=by simp[Region.wanted,hgd]
  have hgo:=stepGR_op (P:=P) (b:=b) (a:=a2) (k:=[.code c2]) (cs:=cs) (w:=w2) (rest:=[]) ho hw
  have hsem:od.semAt b.roundOf a2.eval=execOp a2.eval od:=by rw[hbn];rfl
  rw[hsem] at hgo
  have hev2:a2.eval (.tmp t)= .func (.func g) #[] us.toArray:=hval
  have hr:(execOp a2.eval od).run P w2= .ok (.defer d) w2:=by
   unfold execOp
   rw[hod]
   simp[resolve,hev2,Deferred.ofValue,d]
  refine step_lone_go ?_
  have hfin:({b.atR a2 (.inRegion #[om,od] [1]::[.code c2]) with defers:=d::a2.defers}:Frame).finish undef=b.atR a3 (.inRegion #[om,od] []::[.code c2]):=by
   have:=Frame.finish_atR b {a2 with defers:=d::a2.defers} #[om,od] 1 [] [.code c2] undef
   rw[ho] at this
   simp only[Option.bind_some,hdst] at this
   exact this
  rw[hgo];simp only[stepG.apply,Sem.runT_eq,hr,GStep.bare_after]
  exact congrArg (fun fr=>GStep.go {frame:=fr,callers:=cs,status:= .running,dying:=none} w2) hfin
 -- the part after
 have hok3:Ok G prot w0 E0 E2 w2 (s1.app (some t) e1) a3.tmps:=hok2
 obtain ⟨wy,todo,a',w',E3,s',⟨q0,qe⟩,q3',q4,q5,q6,q7⟩:=(run_sound (L:=L) (kc0:=[]) hm hr2).1 _ (.c hc2 .nil) b hbk cs a3 w2 E2 hok3
 obtain ⟨⟨q1,q2⟩,q3⟩:((resV s' rs=some r)/\∀d i,d≠D->s'.S d i=upds S dl d i)/\Steps P (lone (b.atR a3 [.code c2]) cs w2) (lone {b.atR a' todo with mode:= .returning} cs w'):=by
  cases qe with
  | fall=>exact ⟨q0,q3'.trans (.one (stepR_end hbn))⟩
  | ret k=>exact ⟨q0,q3'.trans (.one (stepR_ret hbn))⟩
  | exit _=>exact q0.elim
  | stop _ _=>exact q0.elim
 obtain ⟨v,E4,p1,p2,p3,p4,s4,p5,p6,p7,p8,p9⟩:=resV_run q5 hrs (.inl q1)
 have hsD:s'.D=D:=by rw[q7,app_D,hD1]
 have hleE:E.le E4:=GE.le_trans (GE.le_trans (GE.le_trans hle1.1 hle2.1) q4.1) p2
 have hds:a'.defers= [d]:=by
  rw[q6]
  show d::a2.defers= [d]
  rw[hd2,hd1]
 have hlv:Leaves P fn a'.tmps (fun e w''=>e= .returned v/\w''=w') [d] .returning w':=by
  refine ⟨by simp,.func g,us.toArray,g,us.toArray,rfl,?_,?_⟩
  ·show (invoke (.fn (.func g) us.toArray) #[]).run P w'=_
   simp only[invoke]
   rw[callFunc_run hg.1];simp
  ·intro c cs' hcm
   obtain ⟨e,u',w'',fr,⟨⟨v',rfl⟩,rfl,rfl⟩,k2,k3,k4⟩:=hg.2 us.toArray w' c cs' hcm
   exact ⟨.returned v',.returning,_,fr,(show Leaves P fn a'.tmps _ [] (settle .returning) _ from ⟨v,p1,rfl,rfl⟩),k2,k3,k4⟩
 obtain ⟨e,w'',fr',⟨he,hw''⟩,k2,k3,k4⟩:=leaves_steps [d] .returning w' {b.atR a' todo with mode:= .returning} cs rfl hds rfl hf rfl hlv
 subst he;subst hw''
 have hsteps:Steps P (lone (Frame.enter P f vs .normal) cs w) (lone {b.atR a' todo with mode:= .returning} cs w''):=by
  rw[henter]
  refine .head stepR_seq (har1.trans (.head stepR_seq (.head stepR_region ?_)))
  exact har2.trans (.head hdef (.head stepR_region_end q3))
 refine ⟨.returned v,w'',fr',⟨v,E.cut E4 D,rfl,fun _ _ _ hx=>hleE.1 _ _ _ hx,GE.leC_cut hleE,fun d i g B hb=>hleE.3 d i g B hb,?_⟩,Comes.of_steps hsteps k2,k3,k4⟩
 refine end_ok hok hleE p5 (by rw[p7,hsD]) (fun d i hd=> ?_) (.imm _ _ p4) (fun z n ad cap ht=>(by obtain ⟨t,k⟩:=p9 z n ad cap ht;exact ⟨.t t,k,fun d i j e=>(by cases e)⟩))
 rw[p8 d i (by rw[hsD];exact hd),St.look,if_neg (by rw[hsD];exact hd)]
 exact q2 d i hd
end
end Go.Ab
/- Several results that stay where they lie; new slices at a place that is said. -/
namespace Go.Ab
open Go
def resU (s:St) (rs:List RV):Option AV:=
 match rvAll s rs with
 | some (a::b::l)=>some (.tup ((a::b::l).map AV.strip))
 | _=>none
def RetU (rs:List RV) (r:AV) (D:Nat) (S:Nat->Nat->Ent) (dl:List (Nat×Nat×Ent)):St->Prop:=fun s'=>resU s' rs=some r/\∀d i,d≠D->s'.S d i=upds S dl d i
@[simp] theorem RetU_at (rs:List RV) (r:AV) (D:Nat) (S:Nat->Nat->Ent) (dl:List (Nat×Nat×Ent)) (s':St):RetU rs r D S dl s'↔resU s' rs=some r/\∀d i,d≠D->s'.S d i=upds S dl d i:=Iff.rfl
section
variable {P:Program} {G:Nat->Option (List AV)} {L:Lends} {prot:Nat->Prop} {w0:World} {E0 E:GE} {w:World} {s:St} {a:Act}
variable {T:FuncId->Option FnC}
end
section
variable {C:zP} {Q:St->Prop} {k:List AI} {n D:Nat} {τ:Nat->AV} {ω:Nat->Ent} {S:Nat->Nat->Ent} {l:List AOper} {d:Nat}
theorem Rd_mksliceP {z bytes:Nat} {ea zero x y kx ky} {m:Int} (dd i:Nat) (hdd:dd < D) (hx:(stF n D τ ω S).ev x= .int kx m) (hy:(stF n D τ ω S).ev y= .int ky m)
  (h:0<=m/\m<=z0/\m*bytes<=z0/\zero.length=z/\0 < z)
  (hk:Rd C .pl Q (.ops l::k) (stF n D (upd τ d (.own dd i ((S dd i).1+1) 0 m.toNat z ea)) ω (updS S dd i ((S dd i).1+1,.cells (List.replicate m.toNat zero).flatten)))):
  Rd C .pl Q (.ops (⟨some d,.mkslice z bytes ea zero x y,none⟩::l)::k) (stF n D τ ω S):=by
 have hne:¬dd=D:=by omega
 refine Rd_plc (e:={val:= .own dd i ((S dd i).1+1) 0 m.toNat z ea,ups:=[(dd,i,((S dd i).1+1,.cells (List.replicate m.toNat zero).flatten))]}) dd i rfl ?_ ?_
 ·simp only[opfP,slotAt_stF_lt hdd,hx,hy]
  rw[if_pos ⟨h.1,trivial,h.2.1,h.2.2.1,h.2.2.2.1,h.2.2.2.2⟩]
 ·simpa[z7,stF_up,yI,hne] using hk
end
end Go.Ab
