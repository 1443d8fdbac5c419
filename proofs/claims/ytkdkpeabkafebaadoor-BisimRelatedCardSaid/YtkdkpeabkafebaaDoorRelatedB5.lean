/- Rounds of a loop over a function: yield's contract, from a run of the loop's body. -/
import Derived.Test.YtkdkpeabkafebaaDoorRelatedB4
import Derived.RangeFuncRecord
import Derived.RangeFuncLeaves
import Derived.Recover
open List renaming replicate->yGT, getElem?_map->yGU, cons_append->yGW, getD_eq_getElem?_getD->yGX
open Nat renaming ne_of_lt->yGY
open Option renaming map_eq_some_iff->yGV
set_option linter.unusedVariables false
set_option linter.unusedSimpArgs false
namespace Go.Ab
open Go
section
variable {P:Program} {G:Nat->Option (List AV)} {L:xA} {prot:Nat->Prop} {w0:World} {E0 E:GE} {w:World} {s:St} {vs:Array Value}
theorem Ok.round {args:List AV} {D:Nat} {S:Nat->Nat->Ent} (h:Ok G prot w0 E0 E w ⟨args,[],D,S⟩ vs) {ts:List AV} {tm:Array Value} (n:Nat) (hsz:tm.size=ts.length)
  (hrel:∀(i:Nat) b v,ts[i]?=some b->tm[i]?=some v->Rel E b v) (hdull:∀b∈ts,b.dull):Ok G prot w0 E0 E w ⟨ts,yGT n (0,.dead),D,S⟩ tm:=by
 have hl:∀d i,(⟨ts,yGT n (0,.dead),D,S⟩:St).look d i=(⟨args,[],D,S⟩:St).look d i:=by
  intro d i;unfold St.look;simp only[];split
  ·rw[yGX,List.getElem?_replicate];split<;>simp
  ·rfl
 have hh:∀l ad z k cap,Hold E w ⟨ts,yGT n (0,.dead),D,S⟩ tm l ad z k cap->Hold E w ⟨args,[],D,S⟩ vs l ad z k cap:=by
  intro l ad z k cap hh;cases hh with
  | t i a0 v0 ad z n cap h1 h2 h3=>exact (h3.dull (hdull _ (zP h1))).elim
  | o d i j g cs z xs B arr el ad cap h1 h2 h3 h4 h5 h6=>exact .o d i j g cs z xs B arr el ad cap (by rw[<-hl];exact h1) h2 h3 h4 h5 h6
 exact h.tmps hl rfl hsz hrel (fun l ad z k cap q=>h.tips _ _ _ _ _ (hh _ _ _ _ _ q))
  (fun l l' ad ad' z z' k k' cap cap' q q' hb=>h.tinj _ _ _ _ _ _ _ _ _ _ (hh _ _ _ _ _ q) (hh _ _ _ _ _ q') hb)
inductive Jmp where
 | exit (id:Nat)
 | ret
def Jmp.code:Jmp->Code
 | .exit id=> .exit id
 | .ret=> .ret
def Jmp.way:Option Jmp->Way
 | none=> .fall
 | some (.exit id)=> .exit id
 | some .ret=> .ret
theorem Ok.loop (h:Ok G prot w0 E0 E w s vs) {d i g B:Nat} {r r':Loop} {ts:List AV} (hd:d≠s.D) (hlk:s.look d i=(g,.lp r ts)) (hB:E.loc d i g=some B) (ht:r'.tmps=r.tmps):
  w.heap[B]?=some (.loop r)/\Ok G prot w0 E0 E (w.putObj B (.loop r')) {s with S:=updS s.S d i (g,.lp r' ts)} vs:=by
 have hl:Live E s d i B:=⟨by rw[hlk];simp,by rw[hlk];exact hB⟩;obtain ⟨B',h1,h2,_,_⟩:=h.objs d i hl.1;have:B'=B:=by have:=hl.2;rw[h1] at this;exact Option.some.inj this
 subst this;rw[hlk] at h2;obtain ⟨q1,q2,q3⟩:=h2;have hT:=sW (o':= .loop r') q1;have:=h.setobj hl hT (o:= .lp r' ts) (by simp) ⟨hT.here,by rw[ht];exact q2,by rw[ht];exact q3⟩ (fun cs e=>by cases e) (fun arr el fz e=>by cases e);refine ⟨q1,?_⟩;unfold St.up at this;rw[if_neg hd,hlk] at this;exact this
end
end Go.Ab
/- A loop over a function: the iterator's call,from its contract. -/
namespace Go.Ab
open Go
section
variable {P:Program} {G:Nat->Option (List AV)} {L:xA} {prot:Nat->Prop} {w0:World} {E0 E:GE} {w:World} {s:St} {vs:Array Value}
end
end Go.Ab
/- A function's contract,where its body holds a loop over a function. -/
namespace Go.Ab
open Go
section
variable {P:Program} {G:Nat->Option (List AV)} {L:xA}
end
end Go.Ab
/- New objects that a call hands to its caller. -/
namespace Go.Ab
open Go
def AV.ren1 (d i g d' i' g':Nat):AV->AV
 | .ptr e j k off=>if e=d/\j=i/\k=g then .ptr d' i' g' off else .ptr e j k off
 | v=>v
def AV.ren (d i g d' i' g':Nat):AV->AV
 | .fn f cs=> .fn f (cs.map (AV.ren1 d i g d' i' g'))
 | .tup cs=> .tup (cs.map (AV.ren1 d i g d' i' g'))
 | .agg cs=> .agg (cs.map (AV.ren1 d i g d' i' g'))
 | v=>v.ren1 d i g d' i' g'
theorem Rel.ren1 {E:GE} {a:AV} {v:Value} {d i g d' i' g' B:Nat} (h:Rel E a v) (h1:E.loc d i g=some B) (h2:E.loc d' i' g'=some B):Rel E (a.ren1 d i g d' i' g') v:=by
 cases a with
 | ptr e j k off=>
  unfold AV.ren1;simp only[];split
  ·rename_i hc;obtain ⟨rfl,rfl,rfl⟩:=hc;obtain ⟨B',q1,q2⟩:=h.ptr_inv;rw[h1] at q1;injection q1 with q1;subst q1;subst q2;exact .ptr _ _ _ _ _ h2
  ·exact h
 | _=>exact h
theorem Rel.renL {E:GE} {d i g d' i' g' B:Nat} (h1:E.loc d i g=some B) (h2:E.loc d' i' g'=some B) {cs:List AV} {vs:List Value}
  (h:∀(i:Nat) (c:AV) (v:Value),cs[i]?=some c->vs[i]?=some v->Rel E c v):∀(j:Nat) (c:AV) (v:Value),(cs.map (AV.ren1 d i g d' i' g'))[j]?=some c->vs[j]?=some v->Rel E c v:=by
 intro j c v hc hv;rw[yGU,yGV] at hc;obtain ⟨c0,h0,rfl⟩:=hc;exact (h j c0 v h0 hv).ren1 h1 h2
theorem Rel.ren {E:GE} {a:AV} {v:Value} {d i g d' i' g' B:Nat} (h:Rel E a v) (h1:E.loc d i g=some B) (h2:E.loc d' i' g'=some B):Rel E (a.ren d i g d' i' g') v:=by
 cases a with
 | fn f cs=>obtain ⟨vs,rfl,hl,hr⟩:=h.fn_inv;exact .fn f _ vs (by simpa using hl) (Rel.renL h1 h2 hr)
 | tup cs=>obtain ⟨vs,rfl,hl,hr⟩:=h.tup_inv;exact .tup _ vs (by simpa using hl) (Rel.renL h1 h2 hr)
 | agg cs=>obtain ⟨vs,rfl,hl,hr⟩:=h.agg_inv;exact .agg _ vs (by simpa using hl) (Rel.renL h1 h2 hr)
 | ptr e j k off=>exact h.ren1 h1 h2
 | _=>exact h
theorem AV.ren_sl {d i g d' i' g':Nat} {a:AV} {z xs t} (h:a.ren d i g d' i' g'= .sl z xs t):a= .sl z xs t:=by
 cases a with
 | ptr e j k off=>simp only[AV.ren,AV.ren1] at h;split at h<;>cases h
 | _=>first | exact h | cases h
theorem AV.ren1_sl {d i g d' i' g':Nat} {a:AV} {z xs t} (h:a.ren1 d i g d' i' g'= .sl z xs t):a= .sl z xs t:=by
 cases a with
 | ptr e j k off=>simp only[AV.ren1] at h;split at h<;>cases h
 | _=>first | exact h | cases h
theorem Tipped.of_ren {d i g d' i' g':Nat} {a:AV} {v:Value} {z n ad cap} (h:Tipped (a.ren d i g d' i' g') v z n ad cap):Tipped a v z n ad cap:=by
 generalize hb:a.ren d i g d' i' g'=b at h;cases h with
 | sl z xs ad cap hc=>rw[AV.ren_sl hb];exact .sl z xs ad cap hc
 | tup as us j z xs ad cap h1 h2 h3=>
  cases a with
  | tup cs=>
   injection hb with hb;subst hb;rw[yGU,yGV] at h1;obtain ⟨c,q1,q2⟩:=h1;rw[AV.ren1_sl q2] at q1;exact .tup cs us j z xs ad cap q1 h2 h3
  | ptr e j k off=>simp only[AV.ren,AV.ren1] at hb;split at hb<;>cases hb
  | _=>cases hb
 | agg as us j z xs ad cap h1 h2 h3=>
  cases a with
  | agg cs=>
   injection hb with hb;subst hb;rw[yGU,yGV] at h1;obtain ⟨c,q1,q2⟩:=h1;rw[AV.ren1_sl q2] at q1;exact .agg cs us j z xs ad cap q1 h2 h3
  | ptr e j k off=>simp only[AV.ren,AV.ren1] at hb;split at hb<;>cases hb
  | _=>cases hb
def St.move (s:St) (i g d' i' g':Nat) (o:Ob):St:=
 {ts:=s.ts.map (AV.ren s.D i g d' i' g'),os:=s.os.set i (g,.dead),D:=s.D,S:=updS s.S d' i' (g',o)}
section
variable {P:Program} {G:Nat->Option (List AV)} {L:xA} {prot:Nat->Prop} {w0:World} {E0 E:GE} {w:World} {s:St} {vs:Array Value}
theorem Ok.move (h:Ok G prot w0 E0 E w s vs) {i g d' i' g2:Nat} {cs:List AV} (hlk:s.look s.D i=(g,.cells cs)) (hup:∀c∈cs,c.upto d' 20=true) (hd':d' < s.D) (hlk2:s.S d' i'=(g2,.dead)):
  ∃B,E.loc s.D i g=some B/\Ok G prot w0 E0 (E.addLoc d' i' (g2+1) B (E.room B)) w (s.move i g d' i' (g2+1) (.cells cs)) vs/\E.le (E.addLoc d' i' (g2+1) B (E.room B)):=by
 have hi:i < s.os.length:=s.look_lt (d:=s.D) (i:=i) (by rw[hlk];simp) rfl;obtain ⟨B,hB,hat,himm,hnp⟩:=h.objs s.D i (by rw[hlk];simp);rw[hlk] at hB hat;simp only at hB hat;have hl:Live E s s.D i B:=⟨by rw[hlk];simp,by rw[hlk];exact hB⟩;have hlk2':s.look d' i'=(g2,.dead):=by unfold St.look;rw[if_neg (by omega)];exact hlk2
 have hnone:E.loc d' i' (g2+1)=none:=by
  cases hl:E.loc d' i' (g2+1) with
  | none=>rfl
  | some B'=>have:=(h.locs _ _ _ _ hl).2.1;rw[hlk2'] at this;simp only at this;omega
 have hle:E.le (E.addLoc d' i' (g2+1) B (E.room B)):=GE.le_addLoc hnone (fun _ _ _ _=>rfl);refine ⟨B,hB,?_,hle⟩;have hroom:∀b,(E.addLoc d' i' (g2+1) B (E.room B)).room b=E.room b:=by
  intro b;simp only[GE.addLoc];split
  ·rename_i e;rw[e]
  ·rfl
 have hlook:∀d j,(s.move i g d' i' (g2+1) (.cells cs)).look d j=if d=d'/\j=i' then (g2+1,.cells cs) else if d=s.D/\j=i then (g,.dead) else s.look d j:=by
  intro d j;unfold St.move St.look updS;simp only[];by_cases hd:d=s.D
  ·rw[if_pos hd,if_neg (by omega),if_pos hd];by_cases hj:j=i
   ·subst hj;rw[if_pos ⟨hd,rfl⟩,yGX,List.getElem?_set_self hi];rfl
   ·rw[if_neg (fun e=>hj e.2),yGX,List.getElem?_set_ne (fun e=>hj e.symm),yGX]
  ·rw[if_neg hd,if_neg (c:=d=s.D/\j=i) (fun e=>hd e.1),if_neg hd]
 have hloc:∀d j g' B',(E.addLoc d' i' (g2+1) B (E.room B)).loc d j g'=some B'->(d=d'/\j=i'/\g'=g2+1/\B'=B)\/E.loc d j g'=some B':=by
  intro d j g' B' hb;simp only[GE.addLoc] at hb;split at hb
  ·rename_i hc;exact .inl ⟨hc.1,hc.2.1,hc.2.2,(Option.some.inj hb).symm⟩
  ·exact .inr hb
 have hlive:∀d j B',Live (E.addLoc d' i' (g2+1) B (E.room B)) (s.move i g d' i' (g2+1) (.cells cs)) d j B'->(d=d'/\j=i'/\B'=B)\/(¬(d=s.D/\j=i)/\Live E s d j B'):=by
  intro d j B' ⟨h1,h2⟩;rw[hlook] at h1 h2;by_cases hc:d=d'/\j=i'
  ·rw[if_pos hc] at h2;obtain ⟨rfl,rfl⟩:=hc;rcases hloc _ _ _ _ h2 with hx | hx
   ·exact .inl ⟨rfl,rfl,hx.2.2.2⟩
   ·rw[hnone] at hx;simp at hx
  ·rw[if_neg hc] at h1 h2;by_cases hc2:d=s.D/\j=i
   ·rw[if_pos hc2] at h1;exact absurd rfl h1
   ·rw[if_neg hc2] at h1 h2;rcases hloc _ _ _ _ h2 with hx | hx
    ·exact absurd ⟨hx.1,hx.2.1⟩ hc
    ·exact .inr ⟨hc2,h1,hx⟩
 have hhold:∀l ad z n cap,Hold (E.addLoc d' i' (g2+1) B (E.room B)) w (s.move i g d' i' (g2+1) (.cells cs)) vs l ad z n cap->
   (Hold E w s vs l ad z n cap/\∀k,l≠ .o s.D i k)\/∃k,l= .o d' i' k/\Hold E w s vs (.o s.D i k) ad z n cap:=by
  intro l ad z n cap hh;cases hh with
  | t i a0 v0 ad z n cap h1 h2 h3=>
   unfold St.move at h1;simp only[yGU,yGV] at h1;obtain ⟨a,q1,q2⟩:=h1;rw[<-q2] at h3;exact .inl ⟨.t i a v0 ad z n cap q1 h2 h3.of_ren,fun k e=>by cases e⟩
  | o d j k g' cs' z xs B' arr el ad cap h1 h2 h3 h4 h5 h6=>
   rw[hlook] at h1;by_cases hc:d=d'/\j=i'
   ·rw[if_pos hc] at h1;injection h1 with hg ho';injection ho' with ho';subst ho';subst hg;obtain ⟨rfl,rfl⟩:=hc;have:B'=B:=by
     rcases hloc _ _ _ _ h3 with hx | hx
     ·exact hx.2.2.2
     ·rw[hnone] at hx;simp at hx
    subst this;exact .inr ⟨k,rfl,.o s.D i k g cs z xs B' arr el ad cap hlk h2 hB h4 h5 h6⟩
   ·rw[if_neg hc] at h1;by_cases hc2:d=s.D/\j=i
    ·rw[if_pos hc2] at h1;injection h1 with _ e;cases e
    ·rw[if_neg hc2] at h1;rcases hloc _ _ _ _ h3 with hx | hx
     ·exact absurd ⟨hx.1,hx.2.1⟩ hc
     ·exact .inl ⟨.o d j k g' cs' z xs B' arr el ad cap h1 h2 hx h4 h5 h6,fun k' e=>by injection e with e1 e2 _;exact hc2 ⟨e1,e2⟩⟩
 have hE1:(E.addLoc d' i' (g2+1) B (E.room B)).loc s.D i g=some B:=hle.2 _ _ _ _ hB;have hE2:(E.addLoc d' i' (g2+1) B (E.room B)).loc d' i' (g2+1)=some B:=by simp[GE.addLoc]
 refine ⟨by unfold St.move;simpa using h.size,fun j a v ha hv=> ?_,h.imm,?_,?_,?_,?_,?_,?_,h.glob,h.frame,h.grow,h.same,h.ifr⟩
 ·unfold St.move at ha;simp only[yGU,yGV] at ha;obtain ⟨a0,q1,rfl⟩:=ha;exact ((h.rel j a0 v q1 hv).mono hle).ren hE1 hE2
 ·intro d j g' B' hb;rw[hlook];rcases hloc _ _ _ _ hb with ⟨rfl,rfl,rfl,rfl⟩ | hx
  ·refine ⟨Nat.le_of_lt hd',by simp,(h.locs _ _ _ _ hB).2.2⟩
  ·have:=h.locs _ _ _ _ hx;refine ⟨this.1,?_,this.2.2⟩;by_cases hc:d=d'/\j=i'
   ·rw[if_pos hc];obtain ⟨rfl,rfl⟩:=hc;rw[hlk2'] at this;simp only at this|-;omega
   ·rw[if_neg hc];by_cases hc2:d=s.D/\j=i
    ·rw[if_pos hc2];obtain ⟨rfl,rfl⟩:=hc2;rw[hlk] at this;exact this.2.1
    ·rw[if_neg hc2];exact this.2.1
 ·intro d j g' B' hb arr el fz ha;rw[hroom];rcases hloc _ _ _ _ hb with hx | hx
  ·rw[hx.2.2.2] at ha|-;exact h.rooms _ _ _ _ hB arr el fz ha
  ·exact h.rooms _ _ _ _ hx arr el fz ha
 ·intro d j hdead;rw[hlook] at hdead|-;by_cases hc:d=d'/\j=i'
  ·rw[if_pos hc];obtain ⟨rfl,rfl⟩:=hc;refine ⟨B,hE2,?_,himm,hnp⟩;obtain ⟨arr,el,k1,k2,k3,k4⟩:=hat;refine ⟨arr,el,k1,k2,k3,fun k c v hc hv=> ?_⟩;have hr:=(k4 k c v hc hv).upto (d:=d) 20 (hup c (zP hc));have hle2:((E.to s.D).to d).le ((E.addLoc d j (g2+1) B (E.room B)).to d):=⟨fun _ _ _ q=>q,fun d1 i1 g1 B1 hb=>(by
    simp only[GE.to] at hb|-;split at hb
    ·rename_i hdd;rw[if_pos hdd];split at hb
     ·exact hle.2 _ _ _ _ hb
     ·cases hb
    ·cases hb),fun d1 i1 g1 B1 hb=>hroom _⟩
   exact hr.mono hle2
  ·rw[if_neg hc] at hdead|-;by_cases hc2:d=s.D/\j=i
   ·rw[if_pos hc2] at hdead;exact absurd rfl hdead
   ·rw[if_neg hc2] at hdead|-;obtain ⟨B',h1,h2,h3,h4⟩:=h.objs d j hdead;exact ⟨B',hle.2 _ _ _ _ h1,h2.mono hle,h3,h4⟩
 ·intro d j d1 j1 B' h1 h2;rcases hlive _ _ _ h1 with ⟨a1,a2,a3⟩ | ⟨n1,k1⟩
  ·rcases hlive _ _ _ h2 with ⟨b1,b2,_⟩ | ⟨n2,k2⟩
   ·exact ⟨a1.trans b1.symm,a2.trans b2.symm⟩
   ·subst a3;exact absurd (h.inj _ _ _ _ _ k2 hl) n2
  ·rcases hlive _ _ _ h2 with ⟨_,_,b3⟩ | ⟨n2,k2⟩
   ·subst b3;exact absurd (h.inj _ _ _ _ _ k1 hl) n1
   ·exact h.inj _ _ _ _ _ k1 k2
 ·intro l ad z n cap hh;obtain ⟨l0,hh0⟩:∃l0,Hold E w s vs l0 ad z n cap:=by
   rcases hhold _ _ _ _ _ hh with ⟨hh,_⟩ | ⟨k,_,hh⟩
   ·exact ⟨_,hh⟩
   ·exact ⟨_,hh⟩
  have k:=h.tips _ _ _ _ _ hh0;refine ⟨k.spot,k.room,k.free,k.notp,fun d j hl'=> ?_⟩;rcases hlive _ _ _ hl' with ⟨_,_,e⟩ | ⟨_,q⟩
  ·exact k.noob _ _ (e▸hl)
  ·exact k.noob _ _ q
 ·intro l l' ad ad' z z' n n' cap cap' hh hh' hb;rcases hhold _ _ _ _ _ hh with ⟨k1,n1⟩ | ⟨k,rfl,k1⟩
  ·rcases hhold _ _ _ _ _ hh' with ⟨k2,n2⟩ | ⟨k',rfl,k2⟩
   ·exact h.tinj _ _ _ _ _ _ _ _ _ _ k1 k2 hb
   ·exact absurd (h.tinj _ _ _ _ _ _ _ _ _ _ k1 k2 hb) (n1 k')
  ·rcases hhold _ _ _ _ _ hh' with ⟨k2,n2⟩ | ⟨k',rfl,k2⟩
   ·exact absurd (h.tinj _ _ _ _ _ _ _ _ _ _ k1 k2 hb).symm (n2 k)
   ·have:=h.tinj _ _ _ _ _ _ _ _ _ _ k1 k2 hb;injection this with _ _ e;rw[e]
inductive Mv:St->St->Prop where
 | nil (s:St):Mv s s
 | move {s s2:St} {i g d' i' g2:Nat} {cs:List AV}:s.look s.D i=(g,.cells cs)->(∀c∈cs,c.upto d' 20=true)->d'+1=s.D->s.S d' i'=(g2,.dead)->Mv (s.move i g d' i' (g2+1) (.cells cs)) s2->Mv s s2
theorem Mv.ok {s s2:St} (hm:Mv s s2):∀{E:GE},Ok G prot w0 E0 E w s vs->∃E2,E.le E2/\(∀d i g B,E2.loc d i g=some B->d+1=s.D\/E.loc d i g=some B)/\Ok G prot w0 E0 E2 w s2 vs/\s2.D=s.D:=by
 induction hm with
 | nil s=>intro E h;exact ⟨E,E.le_refl,fun _ _ _ _ hb=> .inr hb,h,rfl⟩
 | @move s s2 i g d' i' g2 cs h1 h2 h3 h4 _ ih=>
  intro E h;obtain ⟨B,hB,ok1,le1⟩:=h.move h1 h2 (by omega) h4;obtain ⟨E2,q1,q2,q3,q4⟩:=ih ok1;refine ⟨E2,GE.le_trans le1 q1,fun d j k B' hb=> ?_,q3,q4⟩;rcases q2 d j k B' hb with e | e
  ·exact .inl e
  ·simp only[GE.addLoc] at e;split at e
   ·rename_i hc;exact .inl (by omega)
   ·exact .inr e
end
end Go.Ab
/- Pieces of runs; yields; loops over a function,on states given by functions. -/
namespace Go.Ab
open Go
section
variable {C:zL}
theorem put_D (s:St) (d v):(s.put d v).D=s.D:=by cases d<;>rfl
theorem y3 {id:Nat}:∀{k1 k1' k2:List AI},exitTo id k1=some k1'->exitTo id (k1++k2)=some (k1'++k2)
 | [],k1',k2,h=>by cases h
 | .blk j::k,k1',k2,h=>by
  simp only[exitTo,yGW] at h|-;split at h
  ·rename_i e;injection h with h;subst h;rw[if_pos e]
  ·rename_i e;rw[if_neg e];exact y3 h
 | .c x::k,k1',k2,h=>by simp only[exitTo,yGW] at h|-;exact y3 h
 | .lp x::k,k1',k2,h=>by simp only[exitTo,yGW] at h|-;exact y3 h
 | .ops x::k,k1',k2,h=>by simp only[exitTo,yGW] at h|-;exact y3 h
 | .dr x y z::k,k1',k2,h=>by simp only[exitTo,yGW] at h|-;exact y3 h
theorem RunW.append {Q1 Q2:Way->St->Prop} {k1 k2:List AI} {s:St} (h:RunW C Q1 k1 s) (hf:∀s',Q1 .fall s'->RunW C Q2 k2 s') (ho:∀w s',Q1 w s'->w= .fall):RunW C Q2 (k1++k2) s:=by
 induction h with
 | done h=>exact hf _ h
 | ret h=>exact nomatch ho _ _ h
 | out h1 h=>exact nomatch ho _ _ h
 | stop h=>exact nomatch ho _ _ h
 | skip _ ih=>exact .skip ih
 | seq _ ih=>exact .seq ih
 | cond h _ ih=>exact .cond h ih
 | condU h _ _ ih1 ih2=>exact .condU h ih1 ih2
 | block _ ih=>exact .block ih
 | blk _ ih=>exact .blk ih
 | loop _ ih=>exact .loop ih
 | lp _ ih=>exact .lp ih
 | exit h _ ih=>exact .exit (y3 h) ih
 | region _ ih=>exact .region ih
 | opsNil _ ih=>exact .opsNil ih
 | opsOn h1 h2 _ ih=>exact .opsOn h1 h2 ih
 | opsOff h _ ih=>exact .opsOff h ih
 | either h1 h2 _ _ ih1 ih2=>exact .either h1 h2 ih1 ih2
 | draw _ ih=>exact .draw ih
 | drOn h1 h2 _ ih=>exact .drOn h1 h2 ih
 | drOff h _ ih=>exact .drOff h ih
 | drNil h _ ih=>exact .drNil h ih
@[simp] theorem yCK {n D:Nat} {τ:Nat->AV} {ω:Nat->Ent} {S:Nat->Nat->Ent} (id:Nat):(stF n D τ ω S).out id=stF n (D+1+2*id) τ ω S:=rfl
@[simp] theorem zPS {n D:Nat} {τ:Nat->AV} {ω:Nat->Ent} {S:Nat->Nat->Ent}:(stF n D τ ω S).outRet=stF n (D+2) τ ω S:=rfl
end
section
variable {C:zL} {own:Md} {Q:St->Prop} {k:List AI} {n D:Nat} {τ:Nat->AV} {ω:Nat->Ent} {S:Nat->Nat->Ent} {l:List AOper} {d:Nat}
theorem sQ {f:FuncId} {cap:List AV} {x:Opd} {args r args'} {M dl:List (Nat×Nat×Ent)} {ps es} (h:C (D+1) f args' M r dl) (hx:(stF n D τ ω S).ev x= .fn f cap) (ha:(args.map fun x=>((stF n D τ ω S).ev x).strip)++cap.map AV.strip=args')
  (hM:∀m∈M,m.1<=D/\(m.1=D->m.2.1 < n)/\(stF n D τ ω S).look m.1 m.2.1=m.2.2) (hdl:∀u∈dl,(u.1,u.2.1)∈M.map (fun m=>(m.1,m.2.1))/\u.2.2.2≠ .dead)
  (hk:Rd C own Q (.dr ps l (es++[{val:=r,ups:=dl,rd:=M.map fun m=>(m.1,m.2.1)}])::k) ((dl.foldl St.up (stF n D τ ω S)).put (some d) r)) (hf:f≠yid:=by decide):Rd C own Q (.dr ps (⟨some d,.callv x args,none⟩::l) es::k) (stF n D τ ω S):=by
 refine .drCall rfl (.callv (M:=M) (dl:=dl) (r:=r) hf hx (by rw[ha];exact h) (fun m hm=> ?_) hdl) ?_
 ·have:=hM m hm;refine ⟨this.1,fun e=> ?_,this.2.2⟩;rw[l3];exact this.2.1 e
 ·simpa[zV] using hk
theorem lZ:∀{dl:List (Nat×Nat×Ent)} {S:Nat->Nat->Ent},(∀u∈dl,u.1≠D)->dl.foldl St.up (stF n D τ ω S)=stF n D τ ω (upds S dl)
 | [],S,h=>rfl
 | u::dl,S,h=>by
  rw[List.foldl_cons,wQ,if_neg (h u (by simp)),lZ fun v hv=>h v (by simp[hv])];rfl
end
section
variable {P:Program} {G:Nat->Option (List AV)} {L:xA} {T:FuncId->Option FnC}
end
end Go.Ab
/- Functions as results: what they caught is frozen,pointers to objects of the frames below stay. -/
namespace Go.Ab
open Go
def frzC (s:St) (h:Nat):Nat->AV->Option (AV×List (Nat×Nat))
 | 0,_=>none
 | n+1,v=>match v with
  | .ptr d i g off=>if d<=h then some (.ptr d i g off,[]) else match s.look d i with
   | (g',.cells cs)=>
    if g'=g/\d=s.D/\cs.all AV.one=true then
     match cs.mapM (frzC s h n) with
     | some l=>if (l.map fun x=>x.1.strip1).all (AV.upto h 20)=true then some (.bx h (l.map (fun x=>x.1.strip1)) off,(d,i)::(l.map (·.2)).flatten) else none
     | none=>none
    else none
   | _=>none
  | .fn f cs=>if cs.all (AV.upto h 19)=true then some (.fn f cs,[]) else match cs.mapM (frzC s h n) with
   | some l=>some (.fn f (l.map (·.1)),(l.map (·.2)).flatten)
   | none=>none
  | .meth f cs=>match cs.mapM (frzC s h n) with
   | some l=>some (.meth f (l.map (·.1)),(l.map (·.2)).flatten)
   | none=>none
  | .own .. | .mp .. | .ch .. | .yl .. | .agg .. | .tup .. | .ifc .. =>none
  | v=>some (v,[])
section
variable {P:Program} {G:Nat->Option (List AV)} {L:xA} {prot:Nat->Prop} {w0:World} {E0 E:GE} {w:World} {s:St} {a:Act}
def resC (s:St) (h:Nat) (rs:List RV):Option AV:=
 match uF s rs with
 | some [v]=>(frzC s h 20 v).map fun x=>x.1.strip
 | _=>none
def CloQ (h:Nat) (rs:List RV) (r:AV) (D:Nat) (S:Nat->Nat->Ent) (dl:List (Nat×Nat×Ent)):St->Prop:=fun s'=>
 resC s' h rs=some r/\∀d i,d≠D->s'.S d i=upds S dl d i
@[simp] theorem yFR (h:Nat) (rs:List RV) (r:AV) (D:Nat) (S:Nat->Nat->Ent) (dl:List (Nat×Nat×Ent)) (s':St):CloQ h rs r D S dl s'↔resC s' h rs=some r/\∀d i,d≠D->s'.S d i=upds S dl d i:=Iff.rfl
variable {T:FuncId->Option FnC}
end
section
variable {C:zL} {own:Md} {Q:St->Prop} {k:List AI} {n D:Nat} {τ:Nat->AV} {ω:Nat->Ent} {S:Nat->Nat->Ent} {l:List AOper} {d:Nat}
end
end Go.Ab
/- New objects at a place that is said: the rules. -/
namespace Go.Ab
open Go
section
variable {C:zL} {Q:St->Prop} {k:List AI} {n D:Nat} {τ:Nat->AV} {ω:Nat->Ent} {S:Nat->Nat->Ent} {l:List AOper} {d:Nat} {ps:List (Nat×Nat)} {es:List Eff}
theorem xV {dd i:Nat} (h:dd < D):xT (stF n D τ ω S) dd i=some (S dd i):=by
 unfold xT;rw[nW,if_neg (by omega),if_pos h];rfl
theorem zOD {m x} (hd:d < n) (h:((stF n D τ ω S).ev x).cells.length=m/\((stF n D τ ω S).ev x).cells.all AV.one=true)
  (hk:Rd C .pl Q (.ops l::k) (stF n D (upd τ d (.ptr D d ((ω d).1+1) 0)) (upd ω d ((ω d).1+1,.cells (((stF n D τ ω S).ev x).cells.map AV.var1))) S)):
  Rd C .pl Q (.ops (⟨some d,.box m x,none⟩::l)::k) (stF n D τ ω S):=by
 refine nT (e:={val:= .ptr D d ((ω d).1+1) 0,ups:=[(D,d,((ω d).1+1,.cells (((stF n D τ ω S).ev x).cells.map AV.var1)))]}) rfl ?_ ?_
 ·simp only[opf,uJ,if_pos hd,if_pos h,nW]
 ·simpa[zV,wQ,z5] using hk
theorem rV {z} (hd:d < n)
  (hk:Rd C .pl Q (.ops l::k) (stF n D (upd τ d (.ptr D d ((ω d).1+1) 0)) (upd ω d ((ω d).1+1,.cells (z.map AV.var1))) S)):
  Rd C .pl Q (.ops (⟨some d,.alloc z,none⟩::l)::k) (stF n D τ ω S):=by
 refine nT (e:={val:= .ptr D d ((ω d).1+1) 0,ups:=[(D,d,((ω d).1+1,.cells (z.map AV.var1)))]}) rfl ?_ ?_
 ·simp only[opf,uJ,if_pos hd,nW]
 ·simpa[zV,wQ,z5] using hk
end
end Go.Ab
/- A function whose first act is to defer a call of a closure that recovers. -/
namespace Go.Ab
open Go
section
variable {P:Program} {G:Nat->Option (List AV)} {L:xA}
end
end Go.Ab
/- Several results that stay where they lie; new slices at a place that is said. -/
namespace Go.Ab
open Go
def resU (s:St) (rs:List RV):Option AV:=
 match uF s rs with
 | some (a::b::l)=>some (.tup ((a::b::l).map AV.strip))
 | _=>none
def RetU (rs:List RV) (r:AV) (D:Nat) (S:Nat->Nat->Ent) (dl:List (Nat×Nat×Ent)):St->Prop:=fun s'=>resU s' rs=some r/\∀d i,d≠D->s'.S d i=upds S dl d i
@[simp] theorem yFI (rs:List RV) (r:AV) (D:Nat) (S:Nat->Nat->Ent) (dl:List (Nat×Nat×Ent)) (s':St):RetU rs r D S dl s'↔resU s' rs=some r/\∀d i,d≠D->s'.S d i=upds S dl d i:=Iff.rfl
section
variable {P:Program} {G:Nat->Option (List AV)} {L:xA} {prot:Nat->Prop} {w0:World} {E0 E:GE} {w:World} {s:St} {a:Act}
variable {T:FuncId->Option FnC}
end
section
variable {C:zL} {Q:St->Prop} {k:List AI} {n D:Nat} {τ:Nat->AV} {ω:Nat->Ent} {S:Nat->Nat->Ent} {l:List AOper} {d:Nat}
theorem e8 {z bytes:Nat} {ea zero x y kx ky} {m:Int} (dd i:Nat) (hdd:dd < D) (hx:(stF n D τ ω S).ev x= .int kx m) (hy:(stF n D τ ω S).ev y= .int ky m)
  (h:0<=m/\m<=zD/\m*bytes<=zD/\zero.length=z/\0 < z)
  (hk:Rd C .pl Q (.ops l::k) (stF n D (upd τ d (.own dd i ((S dd i).1+1) 0 m.toNat z ea)) ω (updS S dd i ((S dd i).1+1,.cells (yGT m.toNat zero).flatten)))):
  Rd C .pl Q (.ops (⟨some d,.mkslice z bytes ea zero x y,none⟩::l)::k) (stF n D τ ω S):=by
 have hne:¬dd=D:=by omega
 refine zEH (e:={val:= .own dd i ((S dd i).1+1) 0 m.toNat z ea,ups:=[(dd,i,((S dd i).1+1,.cells (yGT m.toNat zero).flatten))]}) dd i rfl ?_ ?_
 ·simp only[opfP,xV hdd,hx,hy];rw[if_pos ⟨h.1,trivial,h.2.1,h.2.2.1,h.2.2.2.1,h.2.2.2.2⟩]
 ·simpa[zV,wQ,z5,hne] using hk
theorem zHY {z bytes x y z' y0 ys r} (dd i:Nat) (hdd:dd < D) (hx:(stF n D τ ω S).evr x= .sl z' [] .nil) (hy:uT (stF n D τ ω S) dd z ((stF n D τ ω S).ev y)=some (y0::ys,r))
  (h:okEl z (!y0.one) (y0::ys)=true/\(ys.length+1)*bytes<=zD)
  (hk:Rd C .pl Q (.ops l::k) (stF n D (upd τ d (.own dd i ((S dd i).1+1) 0 (ys.length+1) z (!y0.one))) ω (updS S dd i ((S dd i).1+1,.cells (newC (y0::ys)))))):
  Rd C .pl Q (.ops (⟨some d,.append z bytes x y,none⟩::l)::k) (stF n D τ ω S):=by
 refine zEH (e:={val:= .own dd i ((S dd i).1+1) 0 (ys.length+1) z (!y0.one),ups:=[(dd,i,((S dd i).1+1,.cells (newC (y0::ys))))],rd:=r}) dd i rfl ?_ ?_
 ·simp only[opfP,hx,hy,xV hdd,if_pos h]
 ·have hne:¬dd=D:=by omega
  simpa[zV,wQ,z5,hne] using hk
end
end Go.Ab
/- A body may make objects in a frame of its own below itself: as many as it likes; they end with it. -/
namespace Go.Ab
open Go
def AV.wk:AV->Option AV
 | .own .. =>some (.slq false)
 | .sl _ [] .nil=>some (.slq true)
 | .sl _ (_::_) _=>some (.slq false)
 | .bool b=>some (.bool b)
 | .int k n=>some (.int k n)
 | .slq b=>some (.slq b)
 | _=>none
theorem zQH {E:GE} {b r:AV} {v:Value} (h:Rel E b v) (hw:b.wk=some r):RelI E.imm r v/\r.dull:=by
 unfold AV.wk at hw;split at hw<;>first | (injection hw with hw;subst hw) | cases hw
 ·obtain ⟨B,cap,_,_,rfl⟩:=h.own_inv;exact ⟨.slq (some _) _ _,trivial⟩
 ·obtain ⟨a,cap,rfl,hr⟩:=h.sl_inv;cases hr with
  | slE _ _ _ _ h1 h2=>rw[h1 rfl];exact ⟨.slq none _ _,trivial⟩
  | slN _ _ _ _ _ _ _ h1=>exact absurd rfl h1
 ·obtain ⟨a,cap,rfl,hr⟩:=h.sl_inv;cases hr with
  | slN=>exact ⟨.slq (some _) _ _,trivial⟩
 ·cases h with | imm _ _ h=>exact ⟨h,trivial⟩
 ·cases h with | imm _ _ h=>exact ⟨h,trivial⟩
 ·cases h with | imm _ _ h=>exact ⟨h,trivial⟩
section
variable {P:Program} {G:Nat->Option (List AV)} {L:xA} {prot:Nat->Prop} {w0:World} {E0 E E1:GE} {w w1:World}
theorem zMH {args:List AV} {D:Nat} {S:Nat->Nat->Ent} {vs:Array Value} (h:Ok G prot w0 E0 E w ⟨args,[],D,S⟩ vs):
  Ok G prot w0 E0 E w ⟨args,[],D+1,fun d i=>if d=D then (0,.dead) else S d i⟩ vs:=by
 have hlk:∀d i,d≠D+1->(⟨args,[],D+1,fun d i=>if d=D then (0,.dead) else S d i⟩:St).look d i=(⟨args,[],D,S⟩:St).look d i:=by
  intro d i hd;unfold St.look;simp only[hd,if_false];split<;>simp
 have hD1:∀i,(⟨args,[],D+1,fun d i=>if d=D then (0,.dead) else S d i⟩:St).look (D+1) i=(0,.dead):=fun i=>by simp[St.look]
 have hne:∀d i,((⟨args,[],D+1,fun d i=>if d=D then (0,.dead) else S d i⟩:St).look d i).2≠ .dead->d≠D+1:=fun d i hn e=>by subst e;rw[hD1] at hn;exact hn rfl
 have hlive:∀d i B,Live E ⟨args,[],D+1,fun d i=>if d=D then (0,.dead) else S d i⟩ d i B->Live E ⟨args,[],D,S⟩ d i B:=by
  rintro d i B ⟨q1,q2⟩;have hd:=hne d i q1;exact ⟨by rw[<-hlk d i hd];exact q1,by rw[<-hlk d i hd];exact q2⟩
 have hh:∀l ad z n cap,Hold E w ⟨args,[],D+1,fun d i=>if d=D then (0,.dead) else S d i⟩ vs l ad z n cap->Hold E w ⟨args,[],D,S⟩ vs l ad z n cap:=by
  intro l ad z n cap hh;cases hh with
  | t i a v ad z n cap h1 h2 h3=>exact .t i a v ad z n cap h1 h2 h3
  | o d i j g cs z xs B arr el ad cap h1 h2 h3 h4 h5 h6=>
   exact .o d i j g cs z xs B arr el ad cap (by rw[<-hlk d i (hne d i (by rw[h1];simp))];exact h1) h2 h3 h4 h5 h6
 refine ⟨h.size,h.rel,h.imm,fun d i g B hb=> ?_,h.rooms,fun d i hn=> ?_,fun d i d' i' B q1 q2=>h.inj d i d' i' B (hlive _ _ _ q1) (hlive _ _ _ q2),fun l ad z n cap q=> ?_,
  fun l l' ad ad' z z' n n' cap cap' q q' hb=>h.tinj _ _ _ _ _ _ _ _ _ _ (hh _ _ _ _ _ q) (hh _ _ _ _ _ q') hb,h.glob,h.frame,h.grow,h.same,h.ifr⟩
 ·have k:=h.locs d i g B hb;exact ⟨Nat.le_succ_of_le k.1,by rw[hlk d i (by have:=k.1;simp at this;omega)];exact k.2.1,k.2.2⟩
 ·have hd:=hne d i hn;rw[hlk d i hd] at hn|-;exact h.objs d i hn
 ·have k:=h.tips _ _ _ _ _ (hh _ _ _ _ _ q);exact ⟨k.spot,k.room,k.free,k.notp,fun d i hl=>k.noob d i (hlive _ _ _ hl)⟩
theorem zMF {args:List AV} {D:Nat} {S S':Nat->Nat->Ent} {vs:Array Value} {s1:St} {tmps:Array Value} {r:AV} {v:Value}
  (h:Ok G prot w0 E0 E w ⟨args,[],D,S⟩ vs) (hle:E.le E1) (h1:Ok G prot w0 E0 E1 w1 s1 tmps) (hS:∀d i,d < D->s1.look d i=S' d i) (hS2:∀d i,D < d->(S' d i).2= .dead)
  (hr:Rel (E.cut E1 D) r v) (hdu:r.dull):Ok G prot w0 E0 (E.cut E1 D) w1 ⟨[r],[],D,S'⟩ #[v]:=by
 let E2:GE:=E.cut E1 D
 let s2:St:=⟨[r],[],D,S'⟩
 have hlkD:∀i,s2.look D i=(0,.dead):=fun i=>by simp[s2,St.look]
 have hlk:∀d i,d < D->s2.look d i=s1.look d i:=fun d i hd=>by rw[hS d i hd];simp[s2,St.look,yGY hd]
 have hne:∀d i,(s2.look d i).2≠ .dead->d < D:=fun d i hn=>by
  rcases Nat.lt_trichotomy d D with hd | hd | hd
  ·exact hd
  ·subst hd;rw[hlkD] at hn;exact absurd rfl hn
  ·have:s2.look d i=S' d i:=by simp[s2,St.look,Nat.ne_of_gt hd]
   rw[this] at hn;exact absurd (hS2 d i hd) hn
 have hup:∀d i g B,E2.loc d i g=some B->E1.loc d i g=some B:=fun d i g B hb=>GE.cut_up hle hb;have hlive:∀d i B,Live E2 s2 d i B->Live E1 s1 d i B:=by
  rintro d i B ⟨q1,q2⟩;have hd:=hne d i q1;exact ⟨by rw[<-hlk d i hd];exact q1,by rw[<-hlk d i hd];exact hup _ _ _ _ q2⟩
 have hh:∀l ad z n cap,Hold E2 w1 s2 #[v] l ad z n cap->Hold E1 w1 s1 tmps l ad z n cap:=by
  intro l ad z n cap hh;cases hh with
  | t i a' v' ad z n cap q1 q2 q3=>
   cases i with
   | zero=>
    simp[s2] at q1 q2;subst q1;subst q2;exact (q3.dull hdu).elim
   | succ i=>simp[s2] at q1
  | o d i j g cs z xs B arr el ad cap q1 q2 q3 q4 q5 q6=>
   have hd:=hne d i (by rw[q1];simp);exact .o d i j g cs z xs B arr el ad cap (by rw[<-hlk d i hd];exact q1) q2 (hup _ _ _ _ q3) q4 q5 q6
 refine ⟨by simp,fun i b u hb hu=> ?_,h1.imm,fun d i g B hb=> ?_,fun d i g B hb=>h1.rooms d i g B (hup _ _ _ _ hb),fun d i hn=> ?_,fun d i d' i' B q1 q2=>h1.inj d i d' i' B (hlive _ _ _ q1) (hlive _ _ _ q2),
  fun l ad z n cap q=> ?_,fun l l' ad ad' z z' n n' cap cap' q q' hb=>h1.tinj _ _ _ _ _ _ _ _ _ _ (hh _ _ _ _ _ q) (hh _ _ _ _ _ q') hb,h1.glob,h1.frame,h1.grow,h1.same,h1.ifr⟩
 ·cases i with
  | zero=>simp at hb hu;subst hb;subst hu;exact hr
  | succ i=>simp at hb
 ·have k1:=h1.locs d i g B (hup _ _ _ _ hb);by_cases hd:d < D
  ·refine ⟨Nat.le_of_lt hd,?_,k1.2.2⟩
   show g<=(s2.look d i).1
   rw[hlk d i hd];exact k1.2.1
  ·rw[GE.cut_ge hd] at hb;have k:=h.locs _ _ _ _ hb;have hd':d=D:=Nat.le_antisymm k.1 (Nat.le_of_not_lt hd);subst hd';refine ⟨Nat.le_refl _,?_,k1.2.2⟩
   show g<=(s2.look d i).1
   rw[hlkD];have:=k.2.1;simpa[St.look] using this
 ·have hd:=hne d i hn;have hn':(s1.look d i).2≠ .dead:=by rw[<-hlk d i hd];exact hn
  obtain ⟨B,k1,k2,k3,k4⟩:=h1.objs d i hn';refine ⟨B,?_,?_,k3,k4⟩
  ·show (E.cut E1 D).loc d i (s2.look d i).1=some B
   rw[hlk d i hd,GE.cut_lt hle hd];exact k1
  ·show obAt (E.cut E1 D) w1 d B (s2.look d i).2
   rw[hlk d i hd];have:obAt (E1.to d) w1 d B (s1.look d i).2:=by
    have e:((E1.to d).to d)=E1.to d:=by
     unfold GE.to;congr 1
     funext d' i' g'
     simp only[];split<;>rfl
    revert k2;cases (s1.look d i).2<;>simp only[obAt,e]<;>exact id
   exact this.mono (GE.to_cut hle hd)
 ·have k:=h1.tips _ _ _ _ _ (hh _ _ _ _ _ q);exact ⟨k.spot,k.room,k.free,k.notp,fun d i hl=>k.noob d i (hlive _ _ _ hl)⟩
theorem n7 {d i:Nat}:∀(dl:List (Nat×Nat×Ent)) {S S1:Nat->Nat->Ent},S d i=S1 d i->upds S dl d i=upds S1 dl d i
 | [],_,_,h=>h
 | u::dl,S,S1,h=>by
  show upds (updS S u.1 u.2.1 u.2.2) dl d i=upds (updS S1 u.1 u.2.1 u.2.2) dl d i
  exact n7 dl (by unfold updS;split;rfl;exact h)
def RetP (rs:List RV) (r:AV) (D:Nat) (S:Nat->Nat->Ent) (dl:List (Nat×Nat×Ent)):St->Prop:=fun s'=>(∃b,uF s' rs=some [b]/\b.wk=some r)/\∀d i,d < D->s'.S d i=upds S dl d i
theorem eD (hm:PGood P) {f:FuncId} {fn:Func} {code:Code} {ac:AC} {rs:List RV} {args:List AV} {M dl:List (Nat×Nat×Ent)} {r:AV}
  (hf : P.funcs[f]? = some fn) (hb : fn.body = some code) (hn : (fn.name == "runtime.NumGoroutine") = false) (hc : comp P G L code = some ac) (hrs : xX P fn.results.toList = some rs)
  {D:Nat} (hdl:∀u∈dl,u.1 < D)
  (h:∀S,(∀m∈M,m.1 < D/\S m.1 m.2.1=m.2.2)->(∀i,S D i=(0,.dead))->Run (Loc P G) (RetP rs r D S dl) [.c ac] (St.start fn.ntmps args (D+1) S)):
  Loc P G D f args M r dl:=by
 refine .inl ⟨hm.ne hf,?_⟩;refine ⟨⟨fn,hf,by rw[hb];rfl,hn⟩,fun prot w0 E0 E w S vs hok hM=> ?_⟩;intro cs
 let b:Frame:={(default:Frame) with fn:=f,kind:= .normal}
 let a:Act:={tmps:=vs++Array.replicate (fn.ntmps - vs.size) undef,defers:=[]}
 have henter:Frame.enter P f vs .normal=b.atR a [.code code]:=by
  simp[Frame.enter,Frame.atR,hf,hb,b,a];try rfl
 have hok1:=zMH hok;have hM1:∀m∈M,m.1 < D/\(fun d i=>if d=D then (0,.dead) else S d i) m.1 m.2.1=m.2.2:=fun m hm=>by
  have:=hM m hm;refine ⟨this.1,?_⟩;simp only[yGY this.1,if_false];exact this.2
 obtain ⟨wy,todo,a',w',E1,s',⟨q0,qe⟩,q3',q4,q5,q6,q7⟩:=(oB (L:=L) (kc0:=[]) hm (h _ hM1 (fun i=>by simp))).1 _ (.c hc .nil) b (by simp[b]) cs a w E (lY fn.ntmps hok1);have hbn:b.roundOf=none:=rfl;obtain ⟨⟨q1,q2⟩,q3⟩:RetP rs r D (fun d i=>if d=D then (0,.dead) else S d i) dl s'/\Steps P (lone (b.atR a [.code code]) cs w) (lone {b.atR a' todo with mode:= .returning} cs w'):=by
  cases qe with
  | fall=>exact ⟨q0,q3'.trans (.one (stepR_end hbn))⟩
  | ret k=>exact ⟨q0,q3'.trans (.one (stepR_ret hbn))⟩
  | exit _=>exact q0.elim
  | stop _ _=>exact q0.elim
 obtain ⟨b0,hb0,hwk⟩:=q1;obtain ⟨vs',p1,p2,p3⟩:=l4 q5 hrs hb0;obtain ⟨v,rfl⟩:∃v,vs'= [v]:=by
  rcases vs' with _ | ⟨v,_ | ⟨u,l⟩⟩<;>simp at p2
  exact ⟨v,rfl⟩
 have hrun:=vS p1;simp only[] at hrun;obtain ⟨hri,hdu⟩:=zQH (p3 0 b0 v rfl rfl).1 hwk;rw[<-henter] at q3;have hsD:s'.D=D+1:=q7;refine ⟨.returned v,w',_,⟨v,E.cut E1 D,rfl,fun _ _ _ hx=>q4.1.1 _ _ _ hx,GE.leC_cut q4.1,fun d i g B hb=>q4.1.3 d i g B hb,?_⟩,q3,rfl,rfl,?_,rfl,fn,hf,hrun⟩
 ·refine zMF hok q4.1 q5 (fun d i hd=> ?_) (fun d i hd=> ?_) (.imm _ _ hri) hdu
  ·rw[St.look,if_neg (by rw[hsD];omega),q2 d i hd];exact n7 dl (by simp only[yGY hd,if_false])
  ·rw[n8 S dl d i (fun u hu e=>by have:=hdl u hu;injection e with e1 _;omega)];have:=iX (a:=⟨vs,[]⟩) hok (d:=d) hd i;rwa [St.look,if_neg (by simp only[];omega)] at this
 ·exact q6
section
variable {C:zL} {Q:St->Prop} {k:List AI} {n D:Nat} {τ:Nat->AV} {ω:Nat->Ent} {S:Nat->Nat->Ent} {l:List AOper} {d:Nat}
theorem vC {z bytes x y z' xs t ys r} (hx:(stF n D τ ω S).evr x= .sl z' xs t) (hy:zX (stF n D τ ω S) z ((stF n D τ ω S).ev y)=some (ys,r)) (h:(z'=z\/t= .nil)/\(xs.length+ys.length)*bytes<=zD/\(t= .tip\/t= .nil))
  (hk:Rd C .pl Q (.ops l::k) ((stF n D τ ω S).app (some d) {val:= .sl z (xs++ys) .tip,dem:=x.tmp,rd:=r})):Rd C .pl Q (.ops (⟨some d,.append z bytes x y,none⟩::l)::k) (stF n D τ ω S):=by
 refine nT rfl ?_ hk;simp only[opf,hx,hy];rw[if_pos h]
theorem wD {z ea qs vs} (hx:frzL (stF n D τ ω S) (qs.map (stF n D τ ω S).ev)=some (vs,[])) (h:vs.all (fun v=>v.cells.length==z&&v.cells.all AV.one&&(ea==(!v.one)))=true)
  (hk:Rd C .pl Q (.ops l::k) ((stF n D τ ω S).app (some d) {val:= .sl z (vs.map AV.strip) .tip})):Rd C .pl Q (.ops (⟨some d,.bslice z ea qs,none⟩::l)::k) (stF n D τ ω S):=by
 refine nT rfl ?_ hk;simp only[opf,hx];rw[if_pos h];rfl
theorem zEL (dd i:Nat) (hdd:dd < D) (hk:Rd C .pl Q (.ops l::k) (stF n D (upd τ d (.mp dd i ((S dd i).1+1))) ω (updS S dd i ((S dd i).1+1,.mp [])))):
  Rd C .pl Q (.ops (⟨some d,.mkmap,none⟩::l)::k) (stF n D τ ω S):=by
 have hne:¬dd=D:=by omega
 refine zEH (e:={val:= .mp dd i ((S dd i).1+1),ups:=[(dd,i,((S dd i).1+1,.mp []))]}) dd i rfl ?_ ?_
 ·simp only[opfP,xV hdd]
 ·simpa[zV,wQ,z5,hne] using hk
theorem uB {z bytes:Nat} {ea zero x y kx ky} {m:Int} (hd:d < n) (hx:(stF n D τ ω S).ev x= .int kx m) (hy:(stF n D τ ω S).ev y= .int ky m)
  (h:0<=m/\m<=zD/\m*bytes<=zD/\zero.length=z/\0 < z)
  (hk:Rd C .pl Q (.ops l::k) (stF n D (upd τ d (.own D d ((ω d).1+1) 0 m.toNat z ea)) (upd ω d ((ω d).1+1,.cells (yGT m.toNat zero).flatten)) S)):
  Rd C .pl Q (.ops (⟨some d,.mkslice z bytes ea zero x y,none⟩::l)::k) (stF n D τ ω S):=by
 refine nT (e:={val:= .own D d ((ω d).1+1) 0 m.toNat z ea,ups:=[(D,d,((ω d).1+1,.cells (yGT m.toNat zero).flatten))]}) rfl ?_ ?_
 ·simp only[opf,uJ,if_pos hd,nW,hx,hy];rw[if_pos ⟨h.1,trivial,h.2.1,h.2.2.1,h.2.2.2.1,h.2.2.2.2⟩]
 ·simpa[zV,wQ,z5] using hk
end
variable {T:FuncId->Option FnC}
theorem zBU (hm:PGood P) (hT:TOk P G L T) {f n:Nat} {ac:AC} {rs:List RV} {own:Bool} (hc:T f=some ⟨n,ac,rs,own⟩) {args:List AV} {M dl:List (Nat×Nat×Ent)} {r:AV} {D:Nat} (md:Md) (hmd:md≠ .rn) (hl:Nat.ble args.length n=true)
  (hdl:∀u∈dl,u.1 < D)
  (h:∀S,(∀m∈M,m.1 < D/\S m.1 m.2.1=m.2.2)->(∀i,S D i=(0,.dead))->Rd (Loc P G) md (RetP rs r D S dl) [.c ac] (stF n (D+1) (uY 0 args) (fun _=>(0,.dead)) S)):Loc P G D f args M r dl:=by
 obtain ⟨fn,code,t1,t2,t3,t4,t5,t6⟩:=hT f _ hc;refine eD (L:=L) hm t1 t2 t3 t4 t5 hdl fun S hS hD=> ?_;rw[t6,vF _ _ _ _ (Nat.le_of_ble_eq_true hl)];exact (h S hS hD).run hmd
end
end Go.Ab
