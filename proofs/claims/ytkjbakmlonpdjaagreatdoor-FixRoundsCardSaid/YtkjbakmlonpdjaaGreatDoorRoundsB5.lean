/- Rounds of a loop over a function: yield's contract, from a run of the loop's body. -/
import Derived.Test.YtkjbakmlonpdjaaGreatDoorRoundsB4
import Derived.RangeFuncRecord
import Derived.RangeFuncLeaves
import Derived.Recover
open Array renaming replicate->yOH, getD_eq_getD_getElem?->yOU, getElem?_eq_getElem->yPF, length_toList->yPK
open Bool renaming and_eq_true->yOB
open List renaming getElem?_map->yOD, all_cons->yOE, mem_map->yOF, mem_singleton->yOG, foldl_cons->yOI, getD_eq_getElem?_getD->yOJ, getElem?_eq_some_iff->yOL, mem_cons->yOM, mem_append->yON, cons_append->yOO, getElem?_toArray->yOP, foldl_nil->yOQ, replicate->yOS, getElem?_eq_getElem->yOT, all_eq_true->yOV, singleton_append->yOX, append_assoc->yOY, eq_nil_of_length_eq_zero->yOZ, getElem?_cons_zero->yPC, mem_flatten->yPD, getElem?_take_of_lt->yPE, length_append->yPG, length_replicate->yPH, getElem?_append->yPI, length_map->yPJ, range_eq_range'->yPL
open Nat renaming le_refl->yOK, le_of_ble_eq_true->yOR, lt_of_lt_of_le->yPB
open Option renaming map_eq_some_iff->yOC, bind_some->yOW
open Go.Sem renaming run_bind->yPA
set_option linter.unusedVariables false
set_option linter.unusedSimpArgs false
namespace Go.Ab
open Go
section
variable {P:Program} {G:Nat->Option (List AV)} {L:xC} {prot:Nat->Prop} {w0:World} {E0 E:GE} {w:World} {s:St} {vs:Array Value}
theorem Ok.round {args:List AV} {D:Nat} {S:Nat->Nat->Ent} (h:Ok G prot w0 E0 E w ⟨args,[],D,S⟩ vs) {ts:List AV} {tm:Array Value} (n:Nat) (hsz:tm.size=ts.length)
  (hrel:∀(i:Nat) b v,ts[i]?=some b->tm[i]?=some v->Rel E b v) (hdull:∀b∈ts,b.dull):Ok G prot w0 E0 E w ⟨ts,yOS n (0,.dead),D,S⟩ tm:=by
 have hl:∀d i,(⟨ts,yOS n (0,.dead),D,S⟩:St).look d i=(⟨args,[],D,S⟩:St).look d i:=by
  intro d i;unfold St.look;simp only[];split
  ·rw[yOJ,List.getElem?_replicate];split<;>simp
  ·rfl
 have hh:∀l ad z k cap,Hold E w ⟨ts,yOS n (0,.dead),D,S⟩ tm l ad z k cap->Hold E w ⟨args,[],D,S⟩ vs l ad z k cap:=by
  intro l ad z k cap hh;cases hh with
  | t i a0 v0 ad z n cap h1 h2 h3=>exact (h3.dull (hdull _ (zV h1))).elim
  | o d i j g cs z xs B arr el ad cap h1 h2 h3 h4 h5 h6=>exact .o d i j g cs z xs B arr el ad cap (by rw[<-hl];exact h1) h2 h3 h4 h5 h6
 exact h.tmps hl rfl hsz hrel (fun l ad z k cap q=>h.tips _ _ _ _ _ (hh _ _ _ _ _ q))
  (fun l l' ad ad' z z' k k' cap cap' q q' hb=>h.tinj _ _ _ _ _ _ _ _ _ _ (hh _ _ _ _ _ q) (hh _ _ _ _ _ q') hb)
inductive Jmp where
 | exit (id:Nat)
 | ret
def Jmp.code:Jmp->Code
 | .exit id=> .exit id
 | .ret=> .ret
def Jmp.way:Option Jmp->Way
 | none=> .fall
 | some (.exit id)=> .exit id
 | some .ret=> .ret
theorem Ok.loop (h:Ok G prot w0 E0 E w s vs) {d i g B:Nat} {r r':Loop} {ts:List AV} (hd:d≠s.D) (hlk:s.look d i=(g,.lp r ts)) (hB:E.loc d i g=some B) (ht:r'.tmps=r.tmps):
  w.heap[B]?=some (.loop r)/\Ok G prot w0 E0 E (w.putObj B (.loop r')) {s with S:=updS s.S d i (g,.lp r' ts)} vs:=by
 have hl:Live E s d i B:=⟨by rw[hlk];simp,by rw[hlk];exact hB⟩;obtain ⟨B',h1,h2,_,_⟩:=h.objs d i hl.1;have:B'=B:=by have:=hl.2;rw[h1] at this;exact Option.some.inj this
 subst this;rw[hlk] at h2;obtain ⟨q1,q2,q3⟩:=h2;have hT:=uA (o':= .loop r') q1;have:=h.setobj hl hT (o:= .lp r' ts) (by simp) ⟨hT.here,by rw[ht];exact q2,by rw[ht];exact q3⟩ (fun cs e=>by cases e) (fun arr el fz e=>by cases e);refine ⟨q1,?_⟩;unfold St.up at this;rw[yRN hd,hlk] at this;exact this
end
end Go.Ab
/- A loop over a function: the iterator's call,from its contract. -/
namespace Go.Ab
open Go
section
variable {P:Program} {G:Nat->Option (List AV)} {L:xC} {prot:Nat->Prop} {w0:World} {E0 E:GE} {w:World} {s:St} {vs:Array Value}
theorem Ok.rebase (h:Ok G prot w0 E0 E w s vs) {B:Nat} (hf:Fresh prot E w s vs B) (hB:B < w.heap.size):Ok G (fun b=>prot b\/b=B) w E E w s vs where
 size:=h.size
 rel:=h.rel
 imm:=h.imm
 locs:=h.locs
 rooms:=h.rooms
 objs:=fun d i hd=>by
  obtain ⟨B',h1,h2,h3,h4⟩:=h.objs d i hd;refine ⟨B',h1,h2,h3,?_⟩;rintro (q | q)
  ·exact h4 q
  ·subst q;exact hf.loc _ _ _ h1
 inj:=h.inj
 tips:=fun l ad z n cap hh=>by
  have k:=h.tips l ad z n cap hh;refine ⟨k.spot,k.room,k.free,?_,k.noob⟩;rintro (q | q)
  ·exact k.notp q
  ·exact hf.hold _ _ _ _ _ hh q
 tinj:=h.tinj
 glob:=h.glob
 frame:=fun b hb=>⟨by
  rcases hb with q | q
  ·exact yPB (h.frame b q).1 h.grow
  ·subst q;exact hB,rfl⟩
 grow:=yOK _
 same:=⟨rfl,rfl,rfl⟩
 ifr:=fun _ _ _=>rfl
theorem Ok.unbase (h:Ok G prot w0 E0 E w s vs) {prot':Nat->Prop} (hp:∀b,prot b->prot' b) {E':GE} {w':World} {s':St} {vs':Array Value} (h':Ok G prot' w E E' w' s' vs'):Ok G prot w0 E0 E' w' s' vs' where
 size:=h'.size
 rel:=h'.rel
 imm:=h'.imm
 locs:=h'.locs
 rooms:=h'.rooms
 objs:=fun d i hd=>by
  obtain ⟨B',h1,h2,h3,h4⟩:=h'.objs d i hd;exact ⟨B',h1,h2,h3,fun q=>h4 (hp _ q)⟩
 inj:=h'.inj
 tips:=fun l ad z n cap hh=>by
  have k:=h'.tips l ad z n cap hh;exact ⟨k.spot,k.room,k.free,fun q=>k.notp (hp _ q),k.noob⟩
 tinj:=h'.tinj
 glob:=h'.glob
 frame:=fun b hb=>⟨(h.frame b hb).1,(h'.frame b (hp b hb)).2.trans (h.frame b hb).2⟩
 grow:=Nat.le_trans h.grow h'.grow
 same:=⟨h'.same.1.trans h.same.1,h'.same.2.1.trans h.same.2.1,h'.same.2.2.trans h.same.2.2⟩
 ifr:=fun b hb o=>(h'.ifr b (hp b hb) o).trans (h.ifr b hb o)
theorem nE {E:GE} {w:World} {d B:Nat} {o:Ob} (h:obAt E w d B o) {x}:w.heap[B]?≠some (.deferred x):=by
 intro e;cases o with
 | dead=>exact h
 | cells cs=>obtain ⟨arr,el,h1,_⟩:=h;rw[h1] at e;cases e
 | mp es=>obtain ⟨arr,el,h1,_⟩:=h;rw[h1] at e;cases e
 | ch c b=>obtain ⟨arr,a,q,h1,_⟩:=h;rw[h1] at e;cases e
 | lp r ts=>rw[h.1] at e;cases e
theorem Ok.shut (h:Ok G prot w0 E0 E w s vs) {B:Nat} {x y} (hb:w.heap[B]?=some (.deferred x)) (hge:w0.heap.size<=B):Ok G prot w0 E0 E (w.putObj B (.deferred y)) s vs:=by
 have hB:=xR hb;have hT:=uA (o':= .deferred y) hb;have hcell:∀{b:Nat} {arr el fz},(w.putObj B (.deferred y)).heap[b]?=some (Obj.cells arr el fz)->w.heap[b]?=some (Obj.cells arr el fz):=by
  intro b arr el fz hc;by_cases e:b=B
  ·subst e;rw[hT.here] at hc;cases hc
  ·rw[hT.other b e] at hc;exact hc
 have hcell':∀{b:Nat} {arr el fz},w.heap[b]?=some (Obj.cells arr el fz)->(w.putObj B (.deferred y)).heap[b]?=some (Obj.cells arr el fz):=by
  intro b arr el fz hc;by_cases e:b=B
  ·subst e;rw[hb] at hc;cases hc
  ·rw[hT.other b e];exact hc
 have hhold:∀l ad z n cap,Hold E (w.putObj B (.deferred y)) s vs l ad z n cap->Hold E w s vs l ad z n cap:=by
  intro l ad z n cap hh;cases hh with
  | t i a0 v0 ad z n cap h1 h2 h3=>exact .t i a0 v0 ad z n cap h1 h2 h3
  | o d i j g cs z xs B' arr el ad cap h1 h2 h3 h4 h5 h6=>exact .o d i j g cs z xs B' arr el ad cap h1 h2 h3 (hcell h4) h5 h6
 constructor
 case size=>exact h.size
 case rel=>exact h.rel
 case imm=>
  intro b o v hv;obtain ⟨arr,el,fz,h1,h2⟩:=h.imm b o v hv;exact ⟨arr,el,fz,hcell' h1,h2⟩
 case locs=>intro d i g B' hb';have:=h.locs d i g B' hb';exact ⟨this.1,this.2.1,by rw[World.putObj_size];exact this.2.2⟩
 case rooms=>intro d i g B' hb' arr el fz ha;exact h.rooms d i g B' hb' arr el fz (hcell ha)
 case objs=>
  intro d i hd;obtain ⟨B',h1,h2,h3,h4⟩:=h.objs d i hd;refine ⟨B',h1,h2.world (hT.other B' fun e=> ?_),h3,h4⟩;subst e;exact nE h2 hb
 case inj=>exact h.inj
 case tips=>
  intro l ad z n cap hh;have k:=h.tips l ad z n cap (hhold _ _ _ _ _ hh);obtain ⟨arr,el,h1,h2⟩:=k.room;exact ⟨k.spot,⟨arr,el,hcell' h1,h2⟩,k.free,k.notp,k.noob⟩
 case tinj=>intro l l' ad ad' z z' n n' cap cap' hh hh' hb;exact h.tinj _ _ _ _ _ _ _ _ _ _ (hhold _ _ _ _ _ hh) (hhold _ _ _ _ _ hh') hb
 case glob=>exact h.glob
 case frame=>
  intro b hb';have:=h.frame b hb';exact ⟨this.1,by rw[hT.other b (by omega)];exact this.2⟩
 case grow=>rw[World.putObj_size];exact h.grow
 case same=>exact h.same
 case ifr=>exact h.ifr
theorem Ok.loopU (h:Ok G prot w0 E0 E w s vs) {d i g B:Nat} {r r':Loop} {ts:List AV} (hlk:s.look d i=(g,.lp r ts)) (hB:E.loc d i g=some B) (ht:r'.tmps=r.tmps):
  w.heap[B]?=some (.loop r)/\Ok G prot w0 E0 E (w.putObj B (.loop r')) (s.up (d,i,(g,.lp r' ts))) vs:=by
 have hl:Live E s d i B:=⟨by rw[hlk];simp,by rw[hlk];exact hB⟩;obtain ⟨B',h1,h2,_,_⟩:=h.objs d i hl.1;have:B'=B:=by have:=hl.2;rw[h1] at this;exact Option.some.inj this
 subst this;rw[hlk] at h2;obtain ⟨q1,q2,q3⟩:=h2;have hT:=uA (o':= .loop r') q1;have:=h.setobj hl hT (o:= .lp r' ts) (by simp) ⟨hT.here,by rw[ht];exact q2,by rw[ht];exact q3⟩ (fun cs e=>by cases e) (fun arr el fz e=>by cases e);rw[hlk] at this;exact ⟨q1,this⟩
theorem Ok.renew (h:Ok G prot w0 E0 E w s vs):Ok G prot w E E w s vs where
 size:=h.size
 rel:=h.rel
 imm:=h.imm
 locs:=h.locs
 rooms:=h.rooms
 objs:=h.objs
 inj:=h.inj
 tips:=h.tips
 tinj:=h.tinj
 glob:=h.glob
 frame:=fun b hb=>⟨yPB (h.frame b hb).1 h.grow,rfl⟩
 grow:=yOK _
 same:=⟨rfl,rfl,rfl⟩
 ifr:=fun _ _ _=>rfl
def snap (s:St):List AV:=s.ts.map AV.strip
def rngS (s:St) (slot g:Nat) (dl:List (Nat×Nat×Ent)) (r1 r2 r3:Loop):St:=
 ((dl.foldl St.up (s.up (s.D,slot,(g,.lp r1 (snap s))))).up (s.D,slot,(g,.lp r2 (snap s)))).up (s.D,slot,(g,.lp r3 (snap s)))
theorem bU {a:Act} (h:Ok G prot w0 E0 E w s a.tmps) {b:Frame} (hb:b.roundOf=none) {gx:Operand} {pp:Array Tmp} {ca cb:Code} {x:Opd} {ps:List Nat} {pre body:AC}
  (hx:opd P G 0 gx=some x) (hps:pp.toList=ps) (hpre:comp P G L ca=some pre) (hbody:comp P G L cb=some body)
  {fi:FuncId} {caps:List AV} {slot:Nat} {e0:Ent} {M dl:List (Nat×Nat×Ent)} {jump:Option Jmp} (hev:s.ev x= .fn fi caps) (hfi:fi≠yid) (hslot:s.os[slot]?=some e0)
  (ro':Loop->Loop) (hro:∀ro:Loop,ro.state= .ready->ro.pending=none->(ro' ro).state≠ .busy/\(ro' ro).pending=jump.map Jmp.code/\(ro' ro).tmps=ro.tmps)
  (hC:∀ro:Loop,ro.state= .ready->ro.pending=none->ro.params.toList=ps->comp P G L ro.assign=some pre->comp P G L ro.body=some body->
   Loc P G (s.D+1) fi (.yl s.D slot (e0.1+1)::caps.map AV.strip) ((s.D,slot,(e0.1+1,.lp ro (snap s)))::M) (.tup []) (dl++[(s.D,slot,(e0.1+1,.lp (ro' ro) (snap s)))]))
  (hM:∀m∈M,m.1<=s.D/\(m.1=s.D->m.2.1 < s.os.length/\m.2.1≠slot)/\s.look m.1 m.2.1=m.2.2) (hdl:∀u∈dl,(u.1,u.2.1)∈M.map (fun m=>(m.1,m.2.1))/\u.2.2.2≠ .dead) (k:List Item) (cs:List Frame):
  ∃(Bd:Nat) (w3:World) (E3:GE) (r1 r2 r3:Loop),
   Steps P (lone (b.atR a (.code (.rangeFunc gx pp ca cb)::k)) cs w) (lone (b.atR {a with defers:={target:= .collected Bd,args:= #[]}::a.defers} ((jump.map fun j=>Item.code j.code).toList++k)) cs w3)/\
   w.heap.size<=Bd/\GE.leD s.D E E3/\
   ∃prot':Nat->Prop,Ok G prot' w3 E3 E3 w3 (rngS s slot (e0.1+1) dl r1 r2 r3) a.tmps/\
    ∀E4 w4 s4 vs4,Ok G prot' w3 E3 E4 w4 s4 vs4->Ok G prot w0 E0 E4 w4 s4 vs4/\w4.heap[Bd]?=some (.deferred (some [])):=by
 obtain ⟨h1,hf1,hb1⟩:=h.push (.deferred (some [])) (w':=w.alloc (.deferred (some []))) rfl;have hs1:(w.alloc (.deferred (some []))).heap.size=w.heap.size+1:=World.size_alloc ..;have h2:=h1.rebase hf1 (by rw[hs1];omega);obtain ⟨us,hgv,hul,hur⟩:=(by have:=h.ev (s:=s) hx;rw[hev] at this;exact this.fn_inv);generalize hr1:({state:= .ready,pending:=none,fn:=b.fn,tmps:=a.tmps,params:=pp,assign:=ca,body:=cb,defers:=w.heap.size}:Loop)=r1;obtain ⟨h3,hf3,hb3⟩:=h2.push (.loop r1) (w':=(w.alloc (.deferred (some []))).alloc (.loop r1)) rfl;have hs3:((w.alloc (.deferred (some []))).alloc (.loop r1)).heap.size=w.heap.size+1+1:=by rw[World.size_alloc,hs1]
 rw[hs1] at hf3 hb3;have hat:obAt E ((w.alloc (.deferred (some []))).alloc (.loop r1)) s.D (w.heap.size+1) (.lp r1 (snap s)):=by
  refine ⟨hb3,by rw[<-hr1];simp[snap,h.size],fun j c v hc hv=> ?_⟩;rw[<-hr1] at hv;unfold snap at hc;rw[yOD,yOC] at hc;obtain ⟨c0,hc0,rfl⟩:=hc;exact ((h.rel j c0 v hc0 hv).strip).mono h.to_self
 obtain ⟨h4,hle4⟩:=h3.newobj hf3 (by rw[hs3];omega) hslot (o:= .lp r1 (snap s)) (by simp) hat (fun cs e=>by cases e) 0 (fun arr el fz hb'=>by rw[hb3] at hb';cases hb');obtain ⟨g,hg⟩:∃g,g=e0.1+1:=⟨_,rfl⟩;rw[<-hg] at h4 hle4;obtain ⟨l,hl⟩:∃l,l=w.heap.size+1:=⟨_,rfl⟩;rw[<-hl] at h4 hle4 hb3;generalize hw2:(w.alloc (.deferred (some []))).alloc (.loop r1)=w2 at h4 hb3 hs3;generalize hE4:E.addLoc s.D slot g l 0=E4 at h4 hle4;have hE4l:E4.loc s.D slot g=some l:=by rw[<-hE4];simp[GE.addLoc]
 have hleD4:GE.leD s.D E E4:=by rw[<-hE4];exact GE.leD_addLoc (by rw[hE4];exact hle4)
 obtain ⟨s2,hs2⟩:∃s2,s2=s.up (s.D,slot,(g,.lp r1 (snap s))):=⟨_,rfl⟩;rw[<-hs2] at h4;have hslt:slot < s.os.length:=(yOL.1 hslot).1;have hs2D:s2.D=s.D:=by rw[hs2];simp
 have hs2o:s2.os.length=s.os.length:=by rw[hs2];exact St.up_oslen ..
 have hlk2:∀d i,s2.look d i=if d=s.D/\i=slot then (g,.lp r1 (snap s)) else s.look d i:=by
  intro d i;rw[hs2];exact St.look_up s _ (fun _=>hslt) d i
 -- the call
 have hst1:r1.state= .ready:=by rw[<-hr1]
 have hpd1:r1.pending=none:=by rw[<-hr1]
 have hL:=(hC r1 hst1 hpd1 (by rw[<-hr1];exact hps) (by rw[<-hr1];exact hpre) (by rw[<-hr1];exact hbody)).fn hfi;rw[<-hg,<-hs2D] at hL;have hcall:=sO (a:=a) (dst:=none) (rd:=((s2.D,slot,((g,.lp r1 (snap s)):Ent))::M).map fun m=>(m.1,m.2.1)) h4 hL (vs:=(.func (.yield l) #[] #[]::us).toArray) (by simp;omega) (fun j b v hb hv=>by
   simp only[yOP] at hv;cases j with
   | zero=>
    simp only[yPC,Option.some.injEq] at hb hv;subst hb;subst hv;exact .yl _ _ _ _ (by rw[hs2D];exact hE4l)
   | succ j=>
    simp only[List.getElem?_cons_succ,yOD,yOC] at hb hv;obtain ⟨y,hy,rfl⟩:=hb;exact ((hur j y v hy hv).strip).mono hle4) (fun b hb=>by
     rcases yOM.1 hb with rfl | hb
     ·trivial
     ·obtain ⟨y,_,rfl⟩:=yOF.1 hb;exact AV.dull_strip _) (fun m hm=>by
     rcases yOM.1 hm with rfl | hm
     ·exact ⟨yOK _,fun _=>by rw[hs2o];exact hslt,by rw[hlk2,yRO ⟨hs2D,rfl⟩]⟩
     ·obtain ⟨q1,q2,q3⟩:=hM m hm;refine ⟨by rw[hs2D];exact q1,fun e=>by rw[hs2o];exact (q2 (by rw[<-hs2D];exact e)).1,?_⟩;rw[hlk2,yRN (fun e=>(q2 e.1).2 e.2)];exact q3) (fun u hu=>by
     rcases yON.1 hu with hu | hu
     ·exact ⟨List.mem_cons_of_mem _ (hdl u hu).1,(hdl u hu).2⟩
     ·rw[yOG.1 hu];simp)
 -- the steps
 have he:(Instr.enterLoop b.fn a.tmps pp ca cb b.roundOf).run P w= .ok (l,[{target:= .collected w.heap.size,args:= #[]}]) w2:=by
  rw[hb,run_enterLoop_outer,<-hw2,<-hr1,hl]
 have hres:(resolve a.eval (rangeCall gx l) 0).run P w2= .ok {target:= .fn (.func fi) us.toArray,args:= #[]++ #[.func (.yield l) #[] #[]]} w2:=by
  have hcst:a.eval (.const (.func (.yield l) #[] #[]))= .func (.yield l) #[] #[]:=rfl;simp[resolve,rangeCall,hgv,hcst,Deferred.ofValue,Sem.run]
 have hinv:(invoke (.fn (.func fi) us.toArray) (#[]++ #[.func (.yield l) #[] #[]])).run P w2= .ok (.enter fi (.func (.yield l) #[] #[]::us).toArray) w2:=by
  simp only[invoke];rw[yW hL.1];simp
 have st1:=stepR_rangeFunc (P:=P) (b:=b) (a:=a) (k:=k) (cs:=cs) (w:=w) he hres hinv;obtain ⟨e,w3,fr,⟨v,rfl,E5,hle5,h5,hd5⟩,hcomes,hfn,hleave⟩:=hcall (b.atR {a with defers:=[{target:= .collected w.heap.size,args:= #[]}]++a.defers} (.inRangeFunc l::k)::cs);have st2:=step_leave_returned (c:=b.atR {a with defers:=[{target:= .collected w.heap.size,args:= #[]}]++a.defers} (.inRangeFunc l::k)) (cs:=cs) hleave;rw[finish_atR_inRangeFunc] at st2;rw[xD] at h5;have h5:Ok G (fun b=>prot b\/b=w.heap.size) (w.alloc (.deferred (some []))) E E5 w3 ((dl++[(s2.D,slot,((g,Ob.lp (ro' r1) (snap s)):Ent))]).foldl St.up s2) a.tmps:=by
  exact h5
 rw[List.foldl_append,yOI,yOQ] at h5;have hsite:∀u∈dl,u.1=s2.D->u.2.1 < s2.os.length:=by
  intro u hu e;obtain ⟨m,hm,he⟩:=yOF.1 (hdl u hu).1;injection he with e1 e2;rw[hs2o,<-e2];exact ((hM m hm).2.1 (by rw[e1,<-hs2D];exact e)).1
 obtain ⟨_,hD6,_,hos6⟩:=zBY dl s2 hsite;have hlk5:((dl.foldl St.up s2).up (s2.D,slot,(g,.lp (ro' r1) (snap s)))).look s2.D slot=(g,.lp (ro' r1) (snap s)):=by
  rw[St.look_up _ _ (fun _=>by rw[hos6,hs2o];exact hslt)];simp
 have hE5l:E5.loc s2.D slot g=some l:=hle5.1.2 _ _ _ _ (by rw[hs2D];exact hE4l);obtain ⟨q1,q2,q3⟩:=hro r1 hst1 hpd1;obtain ⟨hh5,h6⟩:=h5.loopU (r':={ro' r1 with state:= .exhausted}) hlk5 hE5l rfl;have hh5':w3.heap[l]?=some (.loop (ro' r1)):=hh5;have hend:=run_endLoop (P:=P) hh5' q1;have st3:=stepR_endRangeFunc (P:=P) (b:=b) (a:={a with defers:=[{target:= .collected w.heap.size,args:= #[]}]++a.defers}) (k:=k) (cs:=cs) hend;have hj:((ro' r1).pending.map Item.code).toList=(jump.map fun j=>Item.code j.code).toList:=by rw[q2];cases jump<;>rfl
 rw[hj] at st3;have hpp:∀b,prot b->(prot b\/b=w.heap.size):=fun b hb=> .inl hb;have h7:=h1.unbase (prot':=fun b=>prot b\/b=w.heap.size) hpp h6;refine ⟨w.heap.size,_,E5,r1,ro' r1,{ro' r1 with state:= .exhausted},.head st1 (Steps.trans hcomes (.head st2 (.one st3))),yOK _,GE.leD_trans hleD4 (by rw[hs2D] at hle5;exact hle5),fun b=>prot b\/b=w.heap.size,?_,fun E4 w4 s4 vs4 hok=>⟨h7.unbase hpp hok,?_⟩⟩
 ·have:=h6.renew;unfold rngS;rw[hs2D] at this;rw[hs2] at this;rw[hg] at this;exact this
 ·rw[(hok.frame w.heap.size (.inr rfl)).2,(h6.frame w.heap.size (.inr rfl)).2];exact hb1
end
end Go.Ab
/- A function's contract,where its body holds a loop over a function. -/
namespace Go.Ab
open Go
section
variable {P:Program} {G:Nat->Option (List AV)} {L:xC}
def rngQ (P:Program) (G:Nat->Option (List AV)) (L:xC) (Qf:St->Prop):Way->St->Prop
 | .fall,s=>Qf s
 | .ret,s=>Qf s
 | .exit _,_=>False
 | .stop x ps pre body k,s=>∃(fi:FuncId) (caps:List AV) (slot:Nat) (e0:Ent) (M dl:List (Nat×Nat×Ent)) (jump:Option Jmp) (ro':Loop->Loop) (k':List AI),
   s.ev x= .fn fi caps/\fi≠yid/\s.os[slot]?=some e0/\
   (∀ro:Loop,ro.state= .ready->ro.pending=none->(ro' ro).state≠ .busy/\(ro' ro).pending=jump.map Jmp.code/\(ro' ro).tmps=ro.tmps)/\
   (∀ro:Loop,ro.state= .ready->ro.pending=none->ro.params.toList=ps->comp P G L ro.assign=some pre->comp P G L ro.body=some body->
    Loc P G (s.D+1) fi (.yl s.D slot (e0.1+1)::caps.map AV.strip) ((s.D,slot,(e0.1+1,.lp ro (snap s)))::M) (.tup []) (dl++[(s.D,slot,(e0.1+1,.lp (ro' ro) (snap s)))]))/\
   (∀m∈M,m.1<=s.D/\(m.1=s.D->m.2.1 < s.os.length/\m.2.1≠slot)/\s.look m.1 m.2.1=m.2.2)/\(∀u∈dl,(u.1,u.2.1)∈M.map (fun m=>(m.1,m.2.1))/\u.2.2.2≠ .dead)/\
   (match jump with | none=>k'=k | some (.exit id)=>exitTo id k=some k' | some .ret=>k'= .c .ret::k)/\∀r1 r2 r3,RunW (Loc P G) (fnQ Qf) k' (rngS s slot (e0.1+1) dl r1 r2 r3)
theorem zPT (s:St) (slot g:Nat) (dl:List (Nat×Nat×Ent)) (r1 r2 r3:Loop):(rngS s slot g dl r1 r2 r3).D=s.D:=by
 unfold rngS;simp only[St.up_D];have:∀(l:List (Nat×Nat×Ent)) (s:St),(l.foldl St.up s).D=s.D:=by
  intro l
  induction l with
  | nil=>intro s;rfl
  | cons u l ih=>intro s;rw[yOI,ih,St.up_D]
 rw[this,St.up_D]
theorem dN (hm:PGood P) {f:FuncId} {fn:Func} {code:Code} {ac:AC} {rs:List RV} {args:List AV} {M dl:List (Nat×Nat×Ent)} {r:AV}
  (hf : P.funcs[f]? = some fn) (hb : fn.body = some code) (hn : (fn.name == "runtime.NumGoroutine") = false) (hc : comp P G L code = some ac) (hrs : vP P fn.results.toList = some rs)
  {D:Nat} (h:∀S,(∀m∈M,m.1 < D/\S m.1 m.2.1=m.2.2)->RunW (Loc P G) (rngQ P G L fun s'=>resV s' rs=some r/\∀d i,d≠D->s'.S d i=upds S dl d i) [.c ac] (St.start fn.ntmps args D S)):
  Loc P G D f args M r dl:=by
 refine .inl ⟨hm.ne hf,?_⟩;refine ⟨⟨fn,hf,by rw[hb];rfl,hn⟩,fun prot w0 E0 E w S vs hok hM=> ?_⟩;intro cs
 let b:Frame:={(default:Frame) with fn:=f,kind:= .normal}
 let a:Act:={tmps:=vs++yOH (fn.ntmps - vs.size) undef,defers:=[]}
 have henter:Frame.enter P f vs .normal=b.atR a [.code code]:=by
  simp[Frame.enter,Frame.atR,hf,hb,b,a];try rfl
 have hbn:b.roundOf=none:=rfl
 -- the end
 have fin:∀(a':Act) (w':World) (E1:GE) (s':St) (todo:List Item),(resV s' rs=some r/\∀d i,d≠D->s'.S d i=upds S dl d i)->Steps P (lone (b.atR a [.code code]) cs w) (lone {b.atR a' todo with mode:= .returning} cs w')->
   GE.leD D E E1->Ok G prot w0 E0 E1 w' s' a'.tmps->a'.defers= []->s'.D=D->
   ∃e w' fr,(∃v E',e= .returned v/\(∀b o x,E.imm b o=some x->E'.imm b o=some x)/\GE.leC D E E'/\(∀d i g B,E.loc d i g=some B->E'.room B=E.room B)/\Ok G prot w0 E0 E' w' ⟨[r],[],D,upds S dl⟩ #[v])/\
    Comes P (lone (Frame.enter P f vs .normal) cs w) (lone fr cs w') e/\fr.fn=f/\fr.leaving P w' e:=by
  rintro a' w' E1 s' todo ⟨q1,q2⟩ q3 q4 q5 q6 hsD;obtain ⟨v,E2,p1,p2,p3,p4,s1,p5,p6,p7,p8,p9⟩:=mS q5 hrs (.inl q1);rw[<-henter] at q3;refine ⟨.returned v,w',_,⟨v,E.cut E2 D,rfl,fun _ _ _ hx=>p2.1 _ _ _ (q4.1.1 _ _ _ hx),GE.leC_cut (GE.le_trans q4.1 p2),fun d i g B hb=>(GE.le_trans q4.1 p2).3 d i g B hb,?_⟩,q3,rfl,rfl,?_,rfl,fn,hf,p1⟩
  ·refine jG hok (GE.le_trans q4.1 p2) p5 (by rw[p7,hsD]) (fun d i hd=> ?_) (.imm _ _ p4) (fun z n ad cap ht=>by obtain ⟨t,k⟩:=p9 z n ad cap ht;exact ⟨.t t,k,fun d i j e=>(by cases e)⟩)
   ·rw[p8 d i (by rw[hsD];exact hd),St.look,yRN (by rw[hsD];exact hd)];exact q2 d i hd
  ·exact q6
 obtain ⟨wy,todo,a',w',E1,s',⟨q0,qe⟩,q3',q4,q5,q6,q7⟩:=(w9 (L:=L) (kc0:=[]) hm (h S hM)).1 _ (.c hc .nil) b (by simp[b]) cs a w E (tX fn.ntmps hok);have hsD:s'.D=D:=q7;cases qe with
 | fall=>exact fin a' w' E1 s' _ q0 (q3'.trans (.one (stepR_end hbn))) q4 q5 q6 q7
 | ret k=>exact fin a' w' E1 s' _ q0 (q3'.trans (.one (stepR_ret hbn))) q4 q5 q6 q7
 | exit _=>exact q0.elim
 | @stop xx pss pre body kk cd kc hcode hk=>
  obtain ⟨gx,pp,ca,cb,rfl,hps,hx,hpre,hbody⟩:=zFF hcode;obtain ⟨fi,caps,slot,e0,Mi,dli,jump,ro',k',t1,t2,t3,t4,t5,t6,t7,t8,t9⟩:=q0;obtain ⟨Bd,w3,E3,r1,r2,r3,st2,hBd,le2,prot',ok3,back⟩:=bU (P:=P) (L:=L) q5 hbn hx hps hpre hbody t1 t2 t3 ro' t4 t5 t6 t7 kc cs;have hk':∃kc',KRel P G L [] k' kc'/\Steps P (lone (b.atR {a' with defers:={target:= .collected Bd,args:= #[]}::a'.defers} ((jump.map fun j=>Item.code j.code).toList++kc)) cs w3) (lone (b.atR {a' with defers:={target:= .collected Bd,args:= #[]}::a'.defers} kc') cs w3):=by
   cases jump with
   | none=>simp only at t8;subst t8;exact ⟨_,hk,Steps.refl _ _⟩
   | some j=>
    cases j with
    | exit id=>
     simp only at t8;obtain ⟨kc',u1,u2⟩:=nP hk t8;exact ⟨kc',u2,.one (stepR_exit u1)⟩
    | ret=>
     simp only at t8;subst t8;exact ⟨_,.c (by rfl) hk,Steps.refl _ _⟩
  obtain ⟨kc',hk',st3⟩:=hk';obtain ⟨wy4,todo4,a4,w4,E4,s4,⟨z0,ze⟩,st4,le4,ok4,df4,sD4⟩:=(w9 (L:=L) (kc0:=[]) hm (t9 r1 r2 r3)).1 _ hk' b (by simp[b]) cs {a' with defers:={target:= .collected Bd,args:= #[]}::a'.defers} w3 E3 ok3;obtain ⟨okb,hdef⟩:=back _ _ _ _ ok4;have hD4:s4.D=D:=by rw[sD4,zPT,hsD]
  have hle:GE.leD D E E4:=by
   rw[zPT,hsD] at le4;rw[hsD] at le2;exact GE.leD_trans q4 (GE.leD_trans le2 le4)
  have hdf:a4.defers= [{target:= .collected Bd,args:= #[]}]:=by rw[df4];show _::a'.defers=_;rw[q6]
  have hge:w0.heap.size<=Bd:=Nat.le_trans q5.grow hBd;have ok5:=okb.shut (y:=none) hdef hge;have hst:∀todo,Steps P (lone {b.atR a4 todo with mode:= .returning} cs w4) (lone {b.atR {a4 with defers:=[]} todo with mode:= .returning} cs (w4.putObj Bd (.deferred none))):=by
   intro todo;have:=step_collected (P:=P) (fr:={b.atR a4 todo with mode:= .returning}) (cs:=cs) (w:=w4) (d:={target:= .collected Bd,args:= #[]}) (ds:=[]) (by simp) (by show a4.defers=_;exact hdf) rfl (run_takeDeferred hdef);exact .one this
  have hall:=q3'.trans (st2.trans (st3.trans st4));cases ze with
  | fall=>exact fin {a4 with defers:=[]} _ E4 s4 _ z0 ((hall.trans (.one (stepR_end hbn))).trans (hst _)) hle ok5 rfl hD4
  | ret k=>exact fin {a4 with defers:=[]} _ E4 s4 _ z0 ((hall.trans (.one (stepR_ret hbn))).trans (hst _)) hle ok5 rfl hD4
  | exit _=>exact z0.elim
  | stop _ _=>exact z0.elim
end
end Go.Ab
/- New objects that a call hands to its caller. -/
namespace Go.Ab
open Go
def AV.ren1 (d i g d' i' g':Nat):AV->AV
 | .ptr e j k off=>if e=d/\j=i/\k=g then .ptr d' i' g' off else .ptr e j k off
 | v=>v
def AV.ren (d i g d' i' g':Nat):AV->AV
 | .fn f cs=> .fn f (cs.map (AV.ren1 d i g d' i' g'))
 | .tup cs=> .tup (cs.map (AV.ren1 d i g d' i' g'))
 | .agg cs=> .agg (cs.map (AV.ren1 d i g d' i' g'))
 | v=>v.ren1 d i g d' i' g'
theorem Rel.ren1 {E:GE} {a:AV} {v:Value} {d i g d' i' g' B:Nat} (h:Rel E a v) (h1:E.loc d i g=some B) (h2:E.loc d' i' g'=some B):Rel E (a.ren1 d i g d' i' g') v:=by
 cases a with
 | ptr e j k off=>
  unfold AV.ren1;simp only[];split
  ·rename_i hc;obtain ⟨rfl,rfl,rfl⟩:=hc;obtain ⟨B',q1,q2⟩:=h.ptr_inv;rw[h1] at q1;injection q1 with q1;subst q1;subst q2;exact .ptr _ _ _ _ _ h2
  ·exact h
 | _=>exact h
theorem Rel.renL {E:GE} {d i g d' i' g' B:Nat} (h1:E.loc d i g=some B) (h2:E.loc d' i' g'=some B) {cs:List AV} {vs:List Value}
  (h:∀(i:Nat) (c:AV) (v:Value),cs[i]?=some c->vs[i]?=some v->Rel E c v):∀(j:Nat) (c:AV) (v:Value),(cs.map (AV.ren1 d i g d' i' g'))[j]?=some c->vs[j]?=some v->Rel E c v:=by
 intro j c v hc hv;rw[yOD,yOC] at hc;obtain ⟨c0,h0,rfl⟩:=hc;exact (h j c0 v h0 hv).ren1 h1 h2
theorem Rel.ren {E:GE} {a:AV} {v:Value} {d i g d' i' g' B:Nat} (h:Rel E a v) (h1:E.loc d i g=some B) (h2:E.loc d' i' g'=some B):Rel E (a.ren d i g d' i' g') v:=by
 cases a with
 | fn f cs=>obtain ⟨vs,rfl,hl,hr⟩:=h.fn_inv;exact .fn f _ vs (by simpa using hl) (Rel.renL h1 h2 hr)
 | tup cs=>obtain ⟨vs,rfl,hl,hr⟩:=h.tup_inv;exact .tup _ vs (by simpa using hl) (Rel.renL h1 h2 hr)
 | agg cs=>obtain ⟨vs,rfl,hl,hr⟩:=h.agg_inv;exact .agg _ vs (by simpa using hl) (Rel.renL h1 h2 hr)
 | ptr e j k off=>exact h.ren1 h1 h2
 | _=>exact h
theorem AV.ren_sl {d i g d' i' g':Nat} {a:AV} {z xs t} (h:a.ren d i g d' i' g'= .sl z xs t):a= .sl z xs t:=by
 cases a with
 | ptr e j k off=>simp only[AV.ren,AV.ren1] at h;split at h<;>cases h
 | _=>first | exact h | cases h
theorem AV.ren1_sl {d i g d' i' g':Nat} {a:AV} {z xs t} (h:a.ren1 d i g d' i' g'= .sl z xs t):a= .sl z xs t:=by
 cases a with
 | ptr e j k off=>simp only[AV.ren1] at h;split at h<;>cases h
 | _=>first | exact h | cases h
theorem Tipped.of_ren {d i g d' i' g':Nat} {a:AV} {v:Value} {z n ad cap} (h:Tipped (a.ren d i g d' i' g') v z n ad cap):Tipped a v z n ad cap:=by
 generalize hb:a.ren d i g d' i' g'=b at h;cases h with
 | sl z xs ad cap hc=>rw[AV.ren_sl hb];exact .sl z xs ad cap hc
 | tup as us j z xs ad cap h1 h2 h3=>
  cases a with
  | tup cs=>
   injection hb with hb;subst hb;rw[yOD,yOC] at h1;obtain ⟨c,q1,q2⟩:=h1;rw[AV.ren1_sl q2] at q1;exact .tup cs us j z xs ad cap q1 h2 h3
  | ptr e j k off=>simp only[AV.ren,AV.ren1] at hb;split at hb<;>cases hb
  | _=>cases hb
 | agg as us j z xs ad cap h1 h2 h3=>
  cases a with
  | agg cs=>
   injection hb with hb;subst hb;rw[yOD,yOC] at h1;obtain ⟨c,q1,q2⟩:=h1;rw[AV.ren1_sl q2] at q1;exact .agg cs us j z xs ad cap q1 h2 h3
  | ptr e j k off=>simp only[AV.ren,AV.ren1] at hb;split at hb<;>cases hb
  | _=>cases hb
def St.move (s:St) (i g d' i' g':Nat) (o:Ob):St:=
 {ts:=s.ts.map (AV.ren s.D i g d' i' g'),os:=s.os.set i (g,.dead),D:=s.D,S:=updS s.S d' i' (g',o)}
section
variable {P:Program} {G:Nat->Option (List AV)} {L:xC} {prot:Nat->Prop} {w0:World} {E0 E:GE} {w:World} {s:St} {vs:Array Value}
theorem Ok.move (h:Ok G prot w0 E0 E w s vs) {i g d' i' g2:Nat} {cs:List AV} (hlk:s.look s.D i=(g,.cells cs)) (hup:∀c∈cs,c.upto d' 20=true) (hd':d' < s.D) (hlk2:s.S d' i'=(g2,.dead)):
  ∃B,E.loc s.D i g=some B/\Ok G prot w0 E0 (E.addLoc d' i' (g2+1) B (E.room B)) w (s.move i g d' i' (g2+1) (.cells cs)) vs/\E.le (E.addLoc d' i' (g2+1) B (E.room B)):=by
 have hi:i < s.os.length:=s.look_lt (d:=s.D) (i:=i) (by rw[hlk];simp) rfl;obtain ⟨B,hB,hat,himm,hnp⟩:=h.objs s.D i (by rw[hlk];simp);rw[hlk] at hB hat;simp only at hB hat;have hl:Live E s s.D i B:=⟨by rw[hlk];simp,by rw[hlk];exact hB⟩;have hlk2':s.look d' i'=(g2,.dead):=by unfold St.look;rw[yRN (by omega)];exact hlk2
 have hnone:E.loc d' i' (g2+1)=none:=by
  cases hl:E.loc d' i' (g2+1) with
  | none=>rfl
  | some B'=>have:=(h.locs _ _ _ _ hl).2.1;rw[hlk2'] at this;simp only at this;omega
 have hle:E.le (E.addLoc d' i' (g2+1) B (E.room B)):=GE.le_addLoc hnone (fun _ _ _ _=>rfl);refine ⟨B,hB,?_,hle⟩;have hroom:∀b,(E.addLoc d' i' (g2+1) B (E.room B)).room b=E.room b:=by
  intro b;simp only[GE.addLoc];split
  ·rename_i e;rw[e]
  ·rfl
 have hlook:∀d j,(s.move i g d' i' (g2+1) (.cells cs)).look d j=if d=d'/\j=i' then (g2+1,.cells cs) else if d=s.D/\j=i then (g,.dead) else s.look d j:=by
  intro d j;unfold St.move St.look updS;simp only[];by_cases hd:d=s.D
  ·rw[yRO hd,yRN (by omega),yRO hd];by_cases hj:j=i
   ·subst hj;rw[yRO ⟨hd,rfl⟩,yOJ,List.getElem?_set_self hi];rfl
   ·rw[yRN (fun e=>hj e.2),yOJ,List.getElem?_set_ne (fun e=>hj e.symm),yOJ]
  ·rw[yRN hd,yRN (c:=d=s.D/\j=i) (fun e=>hd e.1),yRN hd]
 have hloc:∀d j g' B',(E.addLoc d' i' (g2+1) B (E.room B)).loc d j g'=some B'->(d=d'/\j=i'/\g'=g2+1/\B'=B)\/E.loc d j g'=some B':=by
  intro d j g' B' hb;simp only[GE.addLoc] at hb;split at hb
  ·rename_i hc;exact .inl ⟨hc.1,hc.2.1,hc.2.2,(Option.some.inj hb).symm⟩
  ·exact .inr hb
 have hlive:∀d j B',Live (E.addLoc d' i' (g2+1) B (E.room B)) (s.move i g d' i' (g2+1) (.cells cs)) d j B'->(d=d'/\j=i'/\B'=B)\/(¬(d=s.D/\j=i)/\Live E s d j B'):=by
  intro d j B' ⟨h1,h2⟩;rw[hlook] at h1 h2;by_cases hc:d=d'/\j=i'
  ·rw[yRO hc] at h2;obtain ⟨rfl,rfl⟩:=hc;rcases hloc _ _ _ _ h2 with hx | hx
   ·exact .inl ⟨rfl,rfl,hx.2.2.2⟩
   ·rw[hnone] at hx;simp at hx
  ·rw[yRN hc] at h1 h2;by_cases hc2:d=s.D/\j=i
   ·rw[yRO hc2] at h1;exact absurd rfl h1
   ·rw[yRN hc2] at h1 h2;rcases hloc _ _ _ _ h2 with hx | hx
    ·exact absurd ⟨hx.1,hx.2.1⟩ hc
    ·exact .inr ⟨hc2,h1,hx⟩
 have hhold:∀l ad z n cap,Hold (E.addLoc d' i' (g2+1) B (E.room B)) w (s.move i g d' i' (g2+1) (.cells cs)) vs l ad z n cap->
   (Hold E w s vs l ad z n cap/\∀k,l≠ .o s.D i k)\/∃k,l= .o d' i' k/\Hold E w s vs (.o s.D i k) ad z n cap:=by
  intro l ad z n cap hh;cases hh with
  | t i a0 v0 ad z n cap h1 h2 h3=>
   unfold St.move at h1;simp only[yOD,yOC] at h1;obtain ⟨a,q1,q2⟩:=h1;rw[<-q2] at h3;exact .inl ⟨.t i a v0 ad z n cap q1 h2 h3.of_ren,fun k e=>by cases e⟩
  | o d j k g' cs' z xs B' arr el ad cap h1 h2 h3 h4 h5 h6=>
   rw[hlook] at h1;by_cases hc:d=d'/\j=i'
   ·rw[yRO hc] at h1;injection h1 with hg ho';injection ho' with ho';subst ho';subst hg;obtain ⟨rfl,rfl⟩:=hc;have:B'=B:=by
     rcases hloc _ _ _ _ h3 with hx | hx
     ·exact hx.2.2.2
     ·rw[hnone] at hx;simp at hx
    subst this;exact .inr ⟨k,rfl,.o s.D i k g cs z xs B' arr el ad cap hlk h2 hB h4 h5 h6⟩
   ·rw[yRN hc] at h1;by_cases hc2:d=s.D/\j=i
    ·rw[yRO hc2] at h1;injection h1 with _ e;cases e
    ·rw[yRN hc2] at h1;rcases hloc _ _ _ _ h3 with hx | hx
     ·exact absurd ⟨hx.1,hx.2.1⟩ hc
     ·exact .inl ⟨.o d j k g' cs' z xs B' arr el ad cap h1 h2 hx h4 h5 h6,fun k' e=>by injection e with e1 e2 _;exact hc2 ⟨e1,e2⟩⟩
 have hE1:(E.addLoc d' i' (g2+1) B (E.room B)).loc s.D i g=some B:=hle.2 _ _ _ _ hB;have hE2:(E.addLoc d' i' (g2+1) B (E.room B)).loc d' i' (g2+1)=some B:=by simp[GE.addLoc]
 refine ⟨by unfold St.move;simpa using h.size,fun j a v ha hv=> ?_,h.imm,?_,?_,?_,?_,?_,?_,h.glob,h.frame,h.grow,h.same,h.ifr⟩
 ·unfold St.move at ha;simp only[yOD,yOC] at ha;obtain ⟨a0,q1,rfl⟩:=ha;exact ((h.rel j a0 v q1 hv).mono hle).ren hE1 hE2
 ·intro d j g' B' hb;rw[hlook];rcases hloc _ _ _ _ hb with ⟨rfl,rfl,rfl,rfl⟩ | hx
  ·refine ⟨Nat.le_of_lt hd',by simp,(h.locs _ _ _ _ hB).2.2⟩
  ·have:=h.locs _ _ _ _ hx;refine ⟨this.1,?_,this.2.2⟩;by_cases hc:d=d'/\j=i'
   ·rw[yRO hc];obtain ⟨rfl,rfl⟩:=hc;rw[hlk2'] at this;simp only at this|-;omega
   ·rw[yRN hc];by_cases hc2:d=s.D/\j=i
    ·rw[yRO hc2];obtain ⟨rfl,rfl⟩:=hc2;rw[hlk] at this;exact this.2.1
    ·rw[yRN hc2];exact this.2.1
 ·intro d j g' B' hb arr el fz ha;rw[hroom];rcases hloc _ _ _ _ hb with hx | hx
  ·rw[hx.2.2.2] at ha|-;exact h.rooms _ _ _ _ hB arr el fz ha
  ·exact h.rooms _ _ _ _ hx arr el fz ha
 ·intro d j hdead;rw[hlook] at hdead|-;by_cases hc:d=d'/\j=i'
  ·rw[yRO hc];obtain ⟨rfl,rfl⟩:=hc;refine ⟨B,hE2,?_,himm,hnp⟩;obtain ⟨arr,el,k1,k2,k3,k4⟩:=hat;refine ⟨arr,el,k1,k2,k3,fun k c v hc hv=> ?_⟩;have hr:=(k4 k c v hc hv).upto (d:=d) 20 (hup c (zV hc));have hle2:((E.to s.D).to d).le ((E.addLoc d j (g2+1) B (E.room B)).to d):=⟨fun _ _ _ q=>q,fun d1 i1 g1 B1 hb=>(by
    simp only[GE.to] at hb|-;split at hb
    ·rename_i hdd;rw[yRO hdd];split at hb
     ·exact hle.2 _ _ _ _ hb
     ·cases hb
    ·cases hb),fun d1 i1 g1 B1 hb=>hroom _⟩
   exact hr.mono hle2
  ·rw[yRN hc] at hdead|-;by_cases hc2:d=s.D/\j=i
   ·rw[yRO hc2] at hdead;exact absurd rfl hdead
   ·rw[yRN hc2] at hdead|-;obtain ⟨B',h1,h2,h3,h4⟩:=h.objs d j hdead;exact ⟨B',hle.2 _ _ _ _ h1,h2.mono hle,h3,h4⟩
 ·intro d j d1 j1 B' h1 h2;rcases hlive _ _ _ h1 with ⟨a1,a2,a3⟩ | ⟨n1,k1⟩
  ·rcases hlive _ _ _ h2 with ⟨b1,b2,_⟩ | ⟨n2,k2⟩
   ·exact ⟨a1.trans b1.symm,a2.trans b2.symm⟩
   ·subst a3;exact absurd (h.inj _ _ _ _ _ k2 hl) n2
  ·rcases hlive _ _ _ h2 with ⟨_,_,b3⟩ | ⟨n2,k2⟩
   ·subst b3;exact absurd (h.inj _ _ _ _ _ k1 hl) n1
   ·exact h.inj _ _ _ _ _ k1 k2
 ·intro l ad z n cap hh;obtain ⟨l0,hh0⟩:∃l0,Hold E w s vs l0 ad z n cap:=by
   rcases hhold _ _ _ _ _ hh with ⟨hh,_⟩ | ⟨k,_,hh⟩
   ·exact ⟨_,hh⟩
   ·exact ⟨_,hh⟩
  have k:=h.tips _ _ _ _ _ hh0;refine ⟨k.spot,k.room,k.free,k.notp,fun d j hl'=> ?_⟩;rcases hlive _ _ _ hl' with ⟨_,_,e⟩ | ⟨_,q⟩
  ·exact k.noob _ _ (e▸hl)
  ·exact k.noob _ _ q
 ·intro l l' ad ad' z z' n n' cap cap' hh hh' hb;rcases hhold _ _ _ _ _ hh with ⟨k1,n1⟩ | ⟨k,rfl,k1⟩
  ·rcases hhold _ _ _ _ _ hh' with ⟨k2,n2⟩ | ⟨k',rfl,k2⟩
   ·exact h.tinj _ _ _ _ _ _ _ _ _ _ k1 k2 hb
   ·exact absurd (h.tinj _ _ _ _ _ _ _ _ _ _ k1 k2 hb) (n1 k')
  ·rcases hhold _ _ _ _ _ hh' with ⟨k2,n2⟩ | ⟨k',rfl,k2⟩
   ·exact absurd (h.tinj _ _ _ _ _ _ _ _ _ _ k1 k2 hb).symm (n2 k)
   ·have:=h.tinj _ _ _ _ _ _ _ _ _ _ k1 k2 hb;injection this with _ _ e;rw[e]
inductive Mv:St->St->Prop where
 | nil (s:St):Mv s s
 | move {s s2:St} {i g d' i' g2:Nat} {cs:List AV}:s.look s.D i=(g,.cells cs)->(∀c∈cs,c.upto d' 20=true)->d'+1=s.D->s.S d' i'=(g2,.dead)->Mv (s.move i g d' i' (g2+1) (.cells cs)) s2->Mv s s2
theorem Mv.ok {s s2:St} (hm:Mv s s2):∀{E:GE},Ok G prot w0 E0 E w s vs->∃E2,E.le E2/\(∀d i g B,E2.loc d i g=some B->d+1=s.D\/E.loc d i g=some B)/\Ok G prot w0 E0 E2 w s2 vs/\s2.D=s.D:=by
 induction hm with
 | nil s=>intro E h;exact ⟨E,E.le_refl,fun _ _ _ _ hb=> .inr hb,h,rfl⟩
 | @move s s2 i g d' i' g2 cs h1 h2 h3 h4 _ ih=>
  intro E h;obtain ⟨B,hB,ok1,le1⟩:=h.move h1 h2 (by omega) h4;obtain ⟨E2,q1,q2,q3,q4⟩:=ih ok1;refine ⟨E2,GE.le_trans le1 q1,fun d j k B' hb=> ?_,q3,q4⟩;rcases q2 d j k B' hb with e | e
  ·exact .inl e
  ·simp only[GE.addLoc] at e;split at e
   ·rename_i hc;exact .inl (by omega)
   ·exact .inr e
end
end Go.Ab
/- Pieces of runs; yields; loops over a function,on states given by functions. -/
namespace Go.Ab
open Go
section
variable {C:zQ}
theorem put_D (s:St) (d v):(s.put d v).D=s.D:=by cases d<;>rfl
theorem wD {id:Nat}:∀{k1 k1' k2:List AI},exitTo id k1=some k1'->exitTo id (k1++k2)=some (k1'++k2)
 | [],k1',k2,h=>by cases h
 | .blk j::k,k1',k2,h=>by
  simp only[exitTo,yOO] at h|-;split at h
  ·rename_i e;injection h with h;subst h;rw[yRO e]
  ·rename_i e;rw[yRN e];exact wD h
 | .c x::k,k1',k2,h=>by simp only[exitTo,yOO] at h|-;exact wD h
 | .lp x::k,k1',k2,h=>by simp only[exitTo,yOO] at h|-;exact wD h
 | .ops x::k,k1',k2,h=>by simp only[exitTo,yOO] at h|-;exact wD h
 | .dr x y z::k,k1',k2,h=>by simp only[exitTo,yOO] at h|-;exact wD h
theorem RunW.append {Q1 Q2:Way->St->Prop} {k1 k2:List AI} {s:St} (h:RunW C Q1 k1 s) (hf:∀s',Q1 .fall s'->RunW C Q2 k2 s') (ho:∀w s',Q1 w s'->w= .fall):RunW C Q2 (k1++k2) s:=by
 induction h with
 | done h=>exact hf _ h
 | ret h=>exact nomatch ho _ _ h
 | out h1 h=>exact nomatch ho _ _ h
 | stop h=>exact nomatch ho _ _ h
 | skip _ ih=>exact .skip ih
 | seq _ ih=>exact .seq ih
 | cond h _ ih=>exact .cond h ih
 | condU h _ _ ih1 ih2=>exact .condU h ih1 ih2
 | block _ ih=>exact .block ih
 | blk _ ih=>exact .blk ih
 | loop _ ih=>exact .loop ih
 | lp _ ih=>exact .lp ih
 | exit h _ ih=>exact .exit (wD h) ih
 | region _ ih=>exact .region ih
 | opsNil _ ih=>exact .opsNil ih
 | opsOn h1 h2 _ ih=>exact .opsOn h1 h2 ih
 | opsOff h _ ih=>exact .opsOff h ih
 | either h1 h2 _ _ ih1 ih2=>exact .either h1 h2 ih1 ih2
 | draw _ ih=>exact .draw ih
 | drOn h1 h2 _ ih=>exact .drOn h1 h2 ih
 | drOff h _ ih=>exact .drOff h ih
 | drNil h _ ih=>exact .drNil h ih
@[simp] theorem yJY {n D:Nat} {τ:Nat->AV} {ω:Nat->Ent} {S:Nat->Nat->Ent} (id:Nat):(stF n D τ ω S).out id=stF n (D+1+2*id) τ ω S:=rfl
@[simp] theorem zXX {n D:Nat} {τ:Nat->AV} {ω:Nat->Ent} {S:Nat->Nat->Ent}:(stF n D τ ω S).outRet=stF n (D+2) τ ω S:=rfl
def tC:AC->Bool
 | .skip | .region .. | .either .. =>true
 | .seq a b | .cond _ a b=>tC a&&tC b
 | .block _ a=>tC a
 | _=>false
def vU:AI->Bool
 | .c x=>tC x
 | .lp _=>false
 | _=>true
theorem RunW.straight {Q:Way->St->Prop} {k:List AI} {s:St} (h:RunW C Q k s):k.all vU=true->RunW C (fun w s'=>w= .fall/\Q w s') k s:=by
 induction h with
 | done h=>exact fun _=> .done ⟨rfl,h⟩
 | ret h=>intro hs;simp[vU,tC] at hs
 | out h1 h=>intro hs;simp[vU,tC] at hs
 | stop h=>intro hs;simp[vU,tC] at hs
 | skip _ ih=>intro hs;exact .skip (ih (by simpa[vU,tC] using hs))
 | seq _ ih=>intro hs;exact .seq (ih (by simpa[vU,tC,and_assoc] using hs))
 | condU h _ _ ih1 ih2=>
  intro hs;simp only[yOE,vU,tC,yOB] at hs ih1 ih2;exact .condU h (ih1 ⟨hs.1.1,hs.2⟩) (ih2 ⟨hs.1.2,hs.2⟩)
 | @cond c a b k s t h _ ih=>
  intro hs;refine .cond h (ih ?_);simp only[yOE,vU,tC,yOB] at hs|-;refine ⟨?_,hs.2⟩;cases t
  ·exact hs.1.2
  ·exact hs.1.1
 | block _ ih=>intro hs;exact .block (ih (by simpa[vU,tC] using hs))
 | blk _ ih=>intro hs;exact .blk (ih (by simpa[vU] using hs))
 | loop _ ih=>intro hs;simp[vU,tC] at hs
 | lp _ ih=>intro hs;simp[vU] at hs
 | exit h _ ih=>intro hs;simp[vU,tC] at hs
 | region _ ih=>intro hs;exact .region (ih (by simpa[vU,tC] using hs))
 | opsNil _ ih=>intro hs;exact .opsNil (ih (by simpa[vU] using hs))
 | opsOn h1 h2 _ ih=>intro hs;exact .opsOn h1 h2 (ih (by simpa[vU] using hs))
 | opsOff h _ ih=>intro hs;exact .opsOff h (ih (by simpa[vU] using hs))
 | either h1 h2 _ _ ih1 ih2=>intro hs;exact .either h1 h2 (ih1 (by simpa[vU,tC] using hs)) (ih2 (by simpa[vU,tC] using hs))
 | draw _ ih=>intro hs;exact .draw (ih (by simpa[vU,tC] using hs))
 | drOn h1 h2 _ ih=>intro hs;exact .drOn h1 h2 (ih (by simpa[vU] using hs))
 | drOff h _ ih=>intro hs;exact .drOff h (ih (by simpa[vU] using hs))
 | drNil h _ ih=>intro hs;exact .drNil h (ih (by simpa[vU] using hs))
end
section
variable {C:zQ} {own:Md} {Q:St->Prop} {k:List AI} {n D:Nat} {τ:Nat->AV} {ω:Nat->Ent} {S:Nat->Nat->Ent} {l:List AOper} {d:Nat}
theorem zZ {f:FuncId} {cap:List AV} {x:Opd} {args r args'} {M dl:List (Nat×Nat×Ent)} (h:C (D+1) f args' M r dl) (hx:(stF n D τ ω S).ev x= .fn f cap) (ha:(args.map fun x=>((stF n D τ ω S).ev x).strip)++cap.map AV.strip=args')
  (hM:∀m∈M,m.1<=D/\(m.1=D->m.2.1 < n)/\(stF n D τ ω S).look m.1 m.2.1=m.2.2) (hdl:∀u∈dl,(u.1,u.2.1)∈M.map (fun m=>(m.1,m.2.1))/\u.2.2.2≠ .dead)
  (hk:Rd C own Q (.ops l::k) ((dl.foldl St.up (stF n D τ ω S)).put (some d) r)) (hf:f≠yid:=by decide):Rd C own Q (.ops (⟨some d,.callv x args,none⟩::l)::k) (stF n D τ ω S):=by
 refine .opsCall rfl (.callv (M:=M) (dl:=dl) (r:=r) hf hx (by rw[ha];exact h) (fun m hm=> ?_) hdl) ?_
 ·have:=hM m hm;refine ⟨this.1,fun e=> ?_,this.2.2⟩;rw[qN];exact this.2.1 e
 ·simpa[yC] using hk
theorem z9 {f:FuncId} {cap:List AV} {x:Opd} {args r args'} {M dl:List (Nat×Nat×Ent)} {ps es} (h:C (D+1) f args' M r dl) (hx:(stF n D τ ω S).ev x= .fn f cap) (ha:(args.map fun x=>((stF n D τ ω S).ev x).strip)++cap.map AV.strip=args')
  (hM:∀m∈M,m.1<=D/\(m.1=D->m.2.1 < n)/\(stF n D τ ω S).look m.1 m.2.1=m.2.2) (hdl:∀u∈dl,(u.1,u.2.1)∈M.map (fun m=>(m.1,m.2.1))/\u.2.2.2≠ .dead)
  (hk:Rd C own Q (.dr ps l (es++[{val:=r,ups:=dl,rd:=M.map fun m=>(m.1,m.2.1)}])::k) ((dl.foldl St.up (stF n D τ ω S)).put (some d) r)) (hf:f≠yid:=by decide):Rd C own Q (.dr ps (⟨some d,.callv x args,none⟩::l) es::k) (stF n D τ ω S):=by
 refine .drCall rfl (.callv (M:=M) (dl:=dl) (r:=r) hf hx (by rw[ha];exact h) (fun m hm=> ?_) hdl) ?_
 ·have:=hM m hm;refine ⟨this.1,fun e=> ?_,this.2.2⟩;rw[qN];exact this.2.1 e
 ·simpa[yC] using hk
end
section
variable {P:Program} {G:Nat->Option (List AV)} {L:xC} {T:FuncId->Option FnC}
theorem zIU (hm:PGood P) (hT:TOk P G L T) {f n:Nat} {ac:AC} {rs:List RV} {own:Bool} (hc:T f=some ⟨n,ac,rs,own⟩) {args:List AV} {M dl:List (Nat×Nat×Ent)} {r:AV} {D:Nat} (hl:Nat.ble args.length n=true)
  (h:∀S,(∀m∈M,m.1 < D/\S m.1 m.2.1=m.2.2)->RunW (Loc P G) (rngQ P G L (RetM rs r D S dl)) [.c ac] (stF n D (vH 0 args) (fun _=>(0,.dead)) S)):Loc P G D f args M r dl:=by
 obtain ⟨fn,code,t1,t2,t3,t4,t5,t6⟩:=hT f _ hc;refine dN (L:=L) hm t1 t2 t3 t4 t5 fun S hS=> ?_;rw[t6,wG _ _ _ _ (yOR hl)];exact h S hS
end
end Go.Ab
/- Functions as results: what they caught is frozen,pointers to objects of the frames below stay. -/
namespace Go.Ab
open Go
def frzC (s:St) (h:Nat):Nat->AV->Option (AV×List (Nat×Nat))
 | 0,_=>none
 | n+1,v=>match v with
  | .ptr d i g off=>if d<=h then some (.ptr d i g off,[]) else match s.look d i with
   | (g',.cells cs)=>
    if g'=g/\d=s.D/\cs.all AV.one=true then
     match cs.mapM (frzC s h n) with
     | some l=>if (l.map fun x=>x.1.strip1).all (AV.upto h 20)=true then some (.bx h (l.map (fun x=>x.1.strip1)) off,(d,i)::(l.map (·.2)).flatten) else none
     | none=>none
    else none
   | _=>none
  | .fn f cs=>if cs.all (AV.upto h 19)=true then some (.fn f cs,[]) else match cs.mapM (frzC s h n) with
   | some l=>some (.fn f (l.map (·.1)),(l.map (·.2)).flatten)
   | none=>none
  | .meth f cs=>match cs.mapM (frzC s h n) with
   | some l=>some (.meth f (l.map (·.1)),(l.map (·.2)).flatten)
   | none=>none
  | .own .. | .mp .. | .ch .. | .yl .. | .agg .. | .tup .. | .ifc .. =>none
  | v=>some (v,[])
section
variable {P:Program} {G:Nat->Option (List AV)} {L:xC} {prot:Nat->Prop} {w0:World} {E0 E:GE} {w:World} {s:St} {a:Act}
theorem k8 {hh:Nat}:∀n {b b' l},frzC s hh n b=some (b',l)->∀p∈l,p.1=s.D/\∃g cs,s.look p.1 p.2=(g,.cells cs)
 | 0,b,b',l,h=>by simp[frzC] at h
 | n+1,b,b',l,h=>by
  have many:∀{cs:List AV} {m:List (AV×List (Nat×Nat))},cs.mapM (frzC s hh n)=some m->∀p∈(m.map (·.2)).flatten,p.1=s.D/\∃g cs,s.look p.1 p.2=(g,.cells cs):=by
   intro cs m hm p hp;obtain ⟨k1,k2⟩:=vW hm;obtain ⟨l1,hl1,hpl⟩:=yPD.1 hp;obtain ⟨y,hy,rfl⟩:=yOF.1 hl1;obtain ⟨j,hj⟩:=List.getElem?_of_mem hy;have hlt:j < cs.length:=by have:=(yOL.1 hj).1;omega
   obtain ⟨y',hy',hfy⟩:=k2 j _ (yOT hlt);have:y'=y:=by rw[hy'] at hj;exact Option.some.inj hj
   subst this;exact k8 n (b:=cs[j]) (b':=y'.1) (l:=y'.2) hfy p hpl
  cases b with
  | ptr d i g off=>
   simp only[frzC] at h;split at h
   ·injection h with h;injection h with _ h;subst h;simp
   ·split at h
    ·rename_i g' cs hlk;split at h
     ·rename_i hc;split at h
      ·rename_i m hm;split at h
       ·injection h with h;injection h with _ h;subst h;intro p hp;rcases yOM.1 hp with rfl | hp
        ·exact ⟨hc.2.1,g',cs,hlk⟩
        ·exact many hm p hp
       ·cases h
      ·cases h
     ·cases h
    ·cases h
  | fn f cs=>
   simp only[frzC] at h;split at h
   ·injection h with h;injection h with _ h;subst h;simp
   ·split at h;(rename_i m hm;injection h with h;injection h with _ h;subst h;exact many hm);cases h
  | meth f cs=>simp only[frzC] at h;split at h;(rename_i m hm;injection h with h;injection h with _ h;subst h;exact many hm);cases h
  | own=>simp[frzC] at h
  | mp=>simp[frzC] at h
  | ch=>simp[frzC] at h
  | yl=>simp[frzC] at h
  | agg=>simp[frzC] at h
  | tup=>simp[frzC] at h
  | ifc=>simp[frzC] at h
  | _=>simp only[frzC] at h;injection h with h;injection h with _ h;subst h;simp
theorem zCO (h:Ok G prot w0 E0 E w s a.tmps) {E':GE} (hle:E.le E') {hh:Nat}:∀n {b b' l v},frzC s hh n b=some (b',l)->Rel E b v->(∀p∈l,Full E E' w s p)->Rel E' b' v
 | 0,b,b',l,v,hf,_,_=>by simp[frzC] at hf
 | n+1,b,b',l,v,hf,hr,hfull=>by
  have many:∀{cs:List AV} {m:List (AV×List (Nat×Nat))} {us:List Value},cs.mapM (frzC s hh n)=some m->cs.length=us.length->(∀(i:Nat) (c:AV) (u:Value),cs[i]?=some c->us[i]?=some u->Rel E c u)->
    (∀p∈(m.map (·.2)).flatten,Full E E' w s p)->m.length=us.length/\∀(i:Nat) x (u:Value),m[i]?=some x->us[i]?=some u->Rel E' x.1 u:=by
   intro cs m us hm hl hc hp;obtain ⟨k1,k2⟩:=vW hm;refine ⟨by omega,fun i x u hx hu=> ?_⟩;have hlt:i < cs.length:=by have:=(yOL.1 hx).1;omega
   obtain ⟨y,hy,hfy⟩:=k2 i _ (yOT hlt);have:y=x:=by rw[hy] at hx;exact Option.some.inj hx
   subst this;refine zCO h hle n (b:=cs[i]) (b':=y.1) (l:=y.2) hfy (hc i _ u (yOT hlt) hu) (fun p hpp=>hp p ?_);exact yPD.2 ⟨y.2,yOF.2 ⟨y,zV hy,rfl⟩,hpp⟩
  have manym:∀{f:AV->AV} {cs:List AV} {m:List (AV×List (Nat×Nat))} {us:List Value},(∀c u,Rel E' c u->Rel E' (f c) u)->cs.mapM (frzC s hh n)=some m->cs.length=us.length->(∀(i:Nat) (c:AV) (u:Value),cs[i]?=some c->us[i]?=some u->Rel E c u)->
    (∀p∈(m.map (·.2)).flatten,Full E E' w s p)->(m.map fun x=>f x.1).length=us.length/\∀(i:Nat) (c:AV) (u:Value),(m.map fun x=>f x.1)[i]?=some c->us[i]?=some u->Rel E' c u:=by
   intro f cs m us hff hm hl hc hp;obtain ⟨k1,k2⟩:=many hm hl hc hp;refine ⟨by simpa using k1,fun i c u hci hu=> ?_⟩;simp only[yOD,yOC] at hci;obtain ⟨x,hx,rfl⟩:=hci;exact hff _ _ (k2 i x u hx hu)
  cases b with
  | ptr d i g off=>
   simp only[frzC] at hf;split at hf
   ·injection hf with hf;injection hf with hf _;subst hf;exact hr.mono hle
   ·split at hf
    ·rename_i g' cs hlk;split at hf
     ·rename_i hc;obtain ⟨hg,hD,hone⟩:=hc;subst hg;split at hf
      ·rename_i m hm;split at hf
       ·rename_i hup;injection hf with hf;injection hf with hf hf2;subst hf;subst hf2;obtain ⟨B,hb,rfl⟩:=hr.ptr_inv;obtain ⟨hlive,⟨arr,el,hB,hsz,hone2,hcr⟩,himm,hnp⟩:=v6 h hlk (by simp) hb;have hfull0:=hfull (d,i) (by simp) g' cs B arr el hlk hb hB;have htk:∀(i:Nat) (u:Value),(arr.toList.take cs.length)[i]?=some u->arr[i]?=some u:=by
         intro i u hu;have hi:i < cs.length:=by have:=(yOL.1 hu).1;simp at this;omega
         rw[yPE hi] at hu;simpa using hu
        obtain ⟨k1,k2⟩:=manym (f:=AV.strip1) (us:=arr.toList.take cs.length) (fun c u=>Rel.strip1) hm (by simp;omega) (fun i c u hc hu=>(hcr _ c u hc (htk i u hu)).mono (GE.to_le E d))
         (fun p hp=>hfull p (by simp only[yOM];exact .inr hp))
        have:=Rel.bx (E:=E') hh (m.map fun x=>x.1.strip1) off B 0 (fun i=>arr.getD i undef) (fun i c hc=>by
          have hi':i < cs.length:=by have:=(yOL.1 hc).1;simp at k1;simp at this;omega
          have hi:i < arr.size:=by omega
          exact k2 i c _ hc (by rw[yPE hi'];simp[yOU,yPF hi]))
         (fun c hc=>⟨20,yOV.1 hup c hc⟩)
         (fun i hi=>by
          rw[k1] at hi;have hi:i < arr.size:=by simp at hi;omega
          rw[Nat.zero_add];exact hfull0 i _ (by simp[yOU,yPF hi]))
        simpa using this
       ·cases hf
      ·cases hf
     ·cases hf
    ·cases hf
  | fn f cs=>
   simp only[frzC] at hf;split at hf
   ·injection hf with hf;injection hf with hf _;subst hf;exact hr.mono hle
   ·split at hf
    ·rename_i m hm;injection hf with hf;injection hf with hf hf2;subst hf;subst hf2;obtain ⟨us,rfl,hl,hc⟩:=hr.fn_inv;obtain ⟨k1,k2⟩:=manym (f:=id) (us:=us) (fun _ _ h=>h) hm hl hc hfull;exact .fn _ _ us k1 k2
    ·cases hf
  | meth f cs=>
   simp only[frzC] at hf;split at hf
   ·rename_i m hm;injection hf with hf;injection hf with hf hf2;subst hf;subst hf2;obtain ⟨us,rfl,hl,hc⟩:=hr.meth_inv;obtain ⟨k1,k2⟩:=manym (f:=id) (us:=us) (fun _ _ h=>h) hm hl hc hfull;exact .meth _ _ us k1 k2
   ·cases hf
  | own=>simp[frzC] at hf
  | mp=>simp[frzC] at hf
  | ch=>simp[frzC] at hf
  | yl=>simp[frzC] at hf
  | agg=>simp[frzC] at hf
  | tup=>simp[frzC] at hf
  | ifc=>simp[frzC] at hf
  | _=>simp only[frzC] at hf;injection hf with hf;injection hf with hf hf2;subst hf;exact hr.mono hle
def resC (s:St) (h:Nat) (rs:List RV):Option AV:=
 match jZ s rs with
 | some [v]=>(frzC s h 20 v).map fun x=>x.1.strip
 | _=>none
def CloQ (h:Nat) (rs:List RV) (r:AV) (D:Nat) (S:Nat->Nat->Ent) (dl:List (Nat×Nat×Ent)):St->Prop:=fun s'=>
 resC s' h rs=some r/\∀d i,d≠D->s'.S d i=upds S dl d i
@[simp] theorem yNC (h:Nat) (rs:List RV) (r:AV) (D:Nat) (S:Nat->Nat->Ent) (dl:List (Nat×Nat×Ent)) (s':St):CloQ h rs r D S dl s'↔resC s' h rs=some r/\∀d i,d≠D->s'.S d i=upds S dl d i:=Iff.rfl
theorem zEL (hm:PGood P) {f:FuncId} {fn:Func} {code:Code} {ac:AC} {rs:List RV} {args:List AV} {M dl:List (Nat×Nat×Ent)} {r:AV}
  (hf : P.funcs[f]? = some fn) (hb : fn.body = some code) (hn : (fn.name == "runtime.NumGoroutine") = false) (hc : comp P G L code = some ac) (hrs : vP P fn.results.toList = some rs)
  {D d1:Nat} (hd1:d1 < D) (hu:r.upto d1 20=true) (ht:r.dull) (h:∀S,(∀m∈M,m.1 < D/\S m.1 m.2.1=m.2.2)->Run (Loc P G) (CloQ d1 rs r D S dl) [.c ac] (St.start fn.ntmps args D S)):
  Loc P G D f args M r dl:=by
 refine .inl ⟨hm.ne hf,?_⟩;refine ⟨⟨fn,hf,by rw[hb];rfl,hn⟩,fun prot w0 E0 E w S vs hok hM=> ?_⟩;intro cs
 let b:Frame:={(default:Frame) with fn:=f,kind:= .normal}
 let a:Act:={tmps:=vs++yOH (fn.ntmps - vs.size) undef,defers:=[]}
 have henter:Frame.enter P f vs .normal=b.atR a [.code code]:=by
  simp[Frame.enter,Frame.atR,hf,hb,b,a];try rfl
 obtain ⟨wy,todo,a',w',E1,s',⟨q0,qe⟩,q3',q4,q5,q6,q7⟩:=(w9 (L:=L) (kc0:=[]) hm (h S hM)).1 _ (.c hc .nil) b (by simp[b]) cs a w E (tX fn.ntmps hok);have hbn:b.roundOf=none:=rfl;obtain ⟨⟨m2,m4⟩,q3⟩:(CloQ d1 rs r D S dl s')/\Steps P (lone (b.atR a [.code code]) cs w) (lone {b.atR a' todo with mode:= .returning} cs w'):=by
  cases qe with
  | fall=>exact ⟨q0,q3'.trans (.one (stepR_end hbn))⟩
  | ret k=>exact ⟨q0,q3'.trans (.one (stepR_ret hbn))⟩
  | exit _=>exact q0.elim
  | stop _ _=>exact q0.elim
 have hsD:s'.D=D:=q7;unfold resC at m2;split at m2
 case h_2=>cases m2
 rename_i b0 hbs;rw[yOC] at m2;obtain ⟨⟨b1,l⟩,hfz,hre⟩:=m2;simp only at hre;obtain ⟨us,r1,r2,r3⟩:=bQ q5 hrs hbs;rcases us with _ | ⟨u,_ | ⟨u',us⟩⟩<;>simp at r2
 have hres:(results fn a'.tmps).run P w'= .ok u w':=qR (P:=P) (w:=w') r1;have hpl:=k8 _ hfz;obtain ⟨E2,ok2,le2,loc2,full2,ts2,D2⟩:=q5.killAll l fun p hp=>(hpl p hp).2;have hrel0:Rel E2 b1 u:=zCO q5 le2 _ hfz (r3 0 b0 u rfl rfl).1 full2;have hrel:Rel E2 r u:=by rw[<-hre];exact hrel0.strip
 have hlook:∀d i,d≠s'.D->((kill s' l).foldl St.up s').look d i=s'.look d i:=fun d i hd=>dP l s' s' (fun p hp=>(hpl p hp).1) d i hd;have hle2:E.le E2:=GE.le_trans q4.1 le2;have e4:=jG (S':=upds S dl) hok hle2 ok2 (D2.trans hsD) (fun d i hd=>by rw[hlook d i (by rw[hsD];exact hd),St.look,yRN (by rw[hsD];exact hd)];exact m4 d i hd) ((hrel.upto 20 hu).mono (GE.to_cut hle2 hd1)) (fun z n ad cap h=>(h.dull ht).elim);rw[<-henter] at q3;exact ⟨.returned _,w',_,⟨_,E.cut E2 D,rfl,fun b o x hx=>le2.1 _ _ _ (q4.1.1 _ _ _ hx),GE.leC_cut hle2,fun d i g B hb=>hle2.3 _ _ _ _ hb,e4⟩,q3,rfl,rfl,q6,rfl,fn,hf,hres⟩
variable {T:FuncId->Option FnC}
theorem xZ (hm:PGood P) (hT:TOk P G L T) {f n:Nat} {ac:AC} {rs:List RV} {own:Bool} (hc:T f=some ⟨n,ac,rs,own⟩) {args:List AV} {M dl:List (Nat×Nat×Ent)} {r:AV} {D d1:Nat} (md:Md) (hmd:md≠ .rn) (hl:Nat.ble args.length n=true)
  (hd1:d1 < D) (hu:r.upto d1 20=true) (ht:r.dull)
  (h:∀S,(∀m∈M,m.1 < D/\S m.1 m.2.1=m.2.2)->Rd (Loc P G) md (CloQ d1 rs r D S dl) [.c ac] (stF n D (vH 0 args) (fun _=>(0,.dead)) S)):Loc P G D f args M r dl:=by
 obtain ⟨fn,code,t1,t2,t3,t4,t5,t6⟩:=hT f _ hc;refine zEL (L:=L) hm t1 t2 t3 t4 t5 hd1 hu ht fun S hS=> ?_;rw[t6,wG _ _ _ _ (yOR hl)];exact (h S hS).run hmd
end
section
variable {C:zQ} {own:Md} {Q:St->Prop} {k:List AI} {n D:Nat} {τ:Nat->AV} {ω:Nat->Ent} {S:Nat->Nat->Ent} {l:List AOper} {d:Nat}
theorem zDR {f:FuncId} {bs:List AV} {x:Opd} {args r args'} {M dl:List (Nat×Nat×Ent)} (h:C (D+1) f args' M r dl) (hx:(stF n D τ ω S).ev x= .meth f bs) (ha:bs.map AV.strip++(args.map fun x=>((stF n D τ ω S).ev x).strip)=args')
  (hM:∀m∈M,m.1<=D/\(m.1=D->m.2.1 < n)/\(stF n D τ ω S).look m.1 m.2.1=m.2.2) (hdl:∀u∈dl,(u.1,u.2.1)∈M.map (fun m=>(m.1,m.2.1))/\u.2.2.2≠ .dead)
  (hk:Rd C own Q (.ops l::k) ((dl.foldl St.up (stF n D τ ω S)).put (some d) r)) (hf:f≠yid:=by decide):Rd C own Q (.ops (⟨some d,.callv x args,none⟩::l)::k) (stF n D τ ω S):=by
 refine .opsCall rfl (.callm (M:=M) (dl:=dl) (r:=r) hf hx (by rw[ha];exact h) (fun m hm=> ?_) hdl) ?_
 ·have:=hM m hm;refine ⟨this.1,fun e=> ?_,this.2.2⟩;rw[qN];exact this.2.1 e
 ·simpa[yC] using hk
theorem zGD {f:FuncId} {bs:List AV} {x:Opd} {args r args'} {M dl:List (Nat×Nat×Ent)} {ps es} (h:C (D+1) f args' M r dl) (hx:(stF n D τ ω S).ev x= .meth f bs) (ha:bs.map AV.strip++(args.map fun x=>((stF n D τ ω S).ev x).strip)=args')
  (hM:∀m∈M,m.1<=D/\(m.1=D->m.2.1 < n)/\(stF n D τ ω S).look m.1 m.2.1=m.2.2) (hdl:∀u∈dl,(u.1,u.2.1)∈M.map (fun m=>(m.1,m.2.1))/\u.2.2.2≠ .dead)
  (hk:Rd C own Q (.dr ps l (es++[{val:=r,ups:=dl,rd:=M.map fun m=>(m.1,m.2.1)}])::k) ((dl.foldl St.up (stF n D τ ω S)).put (some d) r)) (hf:f≠yid:=by decide):Rd C own Q (.dr ps (⟨some d,.callv x args,none⟩::l) es::k) (stF n D τ ω S):=by
 refine .drCall rfl (.callm (M:=M) (dl:=dl) (r:=r) hf hx (by rw[ha];exact h) (fun m hm=> ?_) hdl) ?_
 ·have:=hM m hm;refine ⟨this.1,fun e=> ?_,this.2.2⟩;rw[qN];exact this.2.1 e
 ·simpa[yC] using hk
end
end Go.Ab
/- New objects at a place that is said: the rules. -/
namespace Go.Ab
open Go
section
variable {C:zQ} {Q:St->Prop} {k:List AI} {n D:Nat} {τ:Nat->AV} {ω:Nat->Ent} {S:Nat->Nat->Ent} {l:List AOper} {d:Nat} {ps:List (Nat×Nat)} {es:List Eff}
theorem pU {dd i:Nat} (h:dd < D):vV (stF n D τ ω S) dd i=some (S dd i):=by
 unfold vV;rw[eZ,yRN (by omega),yRO h];rfl
theorem e7 {i:Nat} (h:i < n):vV (stF n D τ ω S) D i=some (ω i):=by
 unfold vV;rw[eZ,yRO rfl,pR,yRO h]
theorem zLS {m x} (hd:d < n) (h:((stF n D τ ω S).ev x).cells.length=m/\((stF n D τ ω S).ev x).cells.all AV.one=true)
  (hk:Rd C .pl Q (.ops l::k) (stF n D (upd τ d (.ptr D d ((ω d).1+1) 0)) (upd ω d ((ω d).1+1,.cells (((stF n D τ ω S).ev x).cells.map AV.var1))) S)):
  Rd C .pl Q (.ops (⟨some d,.box m x,none⟩::l)::k) (stF n D τ ω S):=by
 refine zLK (e:={val:= .ptr D d ((ω d).1+1) 0,ups:=[(D,d,((ω d).1+1,.cells (((stF n D τ ω S).ev x).cells.map AV.var1)))]}) rfl ?_ ?_
 ·simp only[opf,pR,yRO hd,yRO h,eZ]
 ·simpa[yC,pQ,yE] using hk
theorem cY {z} (hd:d < n)
  (hk:Rd C .pl Q (.ops l::k) (stF n D (upd τ d (.ptr D d ((ω d).1+1) 0)) (upd ω d ((ω d).1+1,.cells (z.map AV.var1))) S)):
  Rd C .pl Q (.ops (⟨some d,.alloc z,none⟩::l)::k) (stF n D τ ω S):=by
 refine zLK (e:={val:= .ptr D d ((ω d).1+1) 0,ups:=[(D,d,((ω d).1+1,.cells (z.map AV.var1)))]}) rfl ?_ ?_
 ·simp only[opf,pR,yRO hd,eZ]
 ·simpa[yC,pQ,yE] using hk
theorem zLR {m x} (dd i:Nat) (hdd:dd < D) (h:((stF n D τ ω S).ev x).cells.length=m/\((stF n D τ ω S).ev x).cells.all AV.one=true/\((stF n D τ ω S).ev x).upto dd 20=true)
  (hk:Rd C .pl Q (.ops l::k) (stF n D (upd τ d (.ptr dd i ((S dd i).1+1) 0)) ω (updS S dd i ((S dd i).1+1,.cells (((stF n D τ ω S).ev x).cells))))):
  Rd C .pl Q (.ops (⟨some d,.box m x,none⟩::l)::k) (stF n D τ ω S):=by
 refine yEP (e:={val:= .ptr dd i ((S dd i).1+1) 0,ups:=[(dd,i,((S dd i).1+1,.cells (((stF n D τ ω S).ev x).cells)))]}) dd i rfl ?_ ?_
 ·simp only[opfP,pU hdd,yRO h]
 ·have hne:¬dd=D:=by omega
  simpa[yC,pQ,yE,hne] using hk
theorem oV {z ea qs} (hd:d < n) (h:okEl z ea (qs.map (stF n D τ ω S).ev)=true/\(qs.map (stF n D τ ω S).ev).all (AV.upto D 20)=true)
  (hk:Rd C .pl Q (.dr ps l (es++[{val:= .own D d ((ω d).1+1) 0 qs.length z ea,ups:=[(D,d,((ω d).1+1,.cells (newC (qs.map (stF n D τ ω S).ev))))]}])::k)
   (stF n D (upd τ d (.own D d ((ω d).1+1) 0 qs.length z ea)) (upd ω d ((ω d).1+1,.cells (newC (qs.map (stF n D τ ω S).ev)))) S)):
  Rd C .pl Q (.dr ps (⟨some d,.bslice z ea qs,none⟩::l) es::k) (stF n D τ ω S):=by
 refine jV (e:={val:= .own D d ((ω d).1+1) 0 qs.length z ea,ups:=[(D,d,((ω d).1+1,.cells (newC (qs.map (stF n D τ ω S).ev))))]}) D d rfl ?_ ?_
 ·simp only[opfP,e7 hd,yRO h]
 ·simpa[yC,pQ,yE] using hk
theorem zAT {z bytes x y z' y0 ys r} (dd i:Nat) (hdd:dd < D) (hx:(stF n D τ ω S).evr x= .sl z' [] .nil) (hy:tR (stF n D τ ω S) dd z ((stF n D τ ω S).ev y)=some (y0::ys,r))
  (h:okEl z (!y0.one) (y0::ys)=true/\(ys.length+1)*bytes<=z8)
  (hk:Rd C .pl Q (.dr ps l (es++[{val:= .own dd i ((S dd i).1+1) 0 (ys.length+1) z (!y0.one),ups:=[(dd,i,((S dd i).1+1,.cells (newC (y0::ys))))],rd:=r}])::k)
   (stF n D (upd τ d (.own dd i ((S dd i).1+1) 0 (ys.length+1) z (!y0.one))) ω (updS S dd i ((S dd i).1+1,.cells (newC (y0::ys)))))):
  Rd C .pl Q (.dr ps (⟨some d,.append z bytes x y,none⟩::l) es::k) (stF n D τ ω S):=by
 refine jV (e:={val:= .own dd i ((S dd i).1+1) 0 (ys.length+1) z (!y0.one),ups:=[(dd,i,((S dd i).1+1,.cells (newC (y0::ys))))],rd:=r}) dd i rfl ?_ ?_
 ·simp only[opfP,hx,hy,pU hdd,yRO h]
 ·have hne:¬dd=D:=by omega
  simpa[yC,pQ,yE,hne] using hk
theorem zGA {z bytes x y ys r g len ea cs} (dd i:Nat) (hdd:dd < D) (hx:(stF n D τ ω S).evr x= .own dd i g 0 len z ea) (hy:tR (stF n D τ ω S) dd z ((stF n D τ ω S).ev y)=some (ys,r))
  (hS:S dd i=(g,.cells cs)) (h:len*z<=cs.length/\ys≠[]/\okEl z ea ys=true/\(len+ys.length)*bytes<=z8)
  (hk:Rd C .pl Q (.dr ps l (es++[{val:= .own dd i (g+1) 0 (len+ys.length) z ea,ups:=[(dd,i,(g+1,.cells ((cs.take (len*z)).map AV.strip1++newC ys)))],rd:=r}])::k)
   (stF n D (upd τ d (.own dd i (g+1) 0 (len+ys.length) z ea)) ω (updS S dd i (g+1,.cells ((cs.take (len*z)).map AV.strip1++newC ys))))):
  Rd C .pl Q (.dr ps (⟨some d,.append z bytes x y,none⟩::l) es::k) (stF n D τ ω S):=by
 have hne:¬dd=D:=by omega
 refine jV (e:={val:= .own dd i (g+1) 0 (len+ys.length) z ea,ups:=[(dd,i,(g+1,.cells ((cs.take (len*z)).map AV.strip1++newC ys)))],rd:=r}) dd i rfl ?_ ?_
 ·simp only[opfP,hx,hy,yD,yRN hne,hS];rw[yRO ⟨trivial,trivial,trivial,trivial,trivial,h.1,h.2.1,h.2.2.1,h.2.2.2⟩]
 ·simpa[yC,pQ,yE,hne] using hk
end
end Go.Ab
/- A function whose first act is to defer a call of a closure that recovers. -/
namespace Go.Ab
open Go
theorem zIF {C:zQ} {Q:Way->St->Prop} {k0:List AI} {s:St} (h:RunW C Q k0 s):∀l k,k0= .ops l::k->∃es s1,OpsE C l s es s1/\RunW C Q k s1:=by
 induction h with
 | opsNil hk _=>intro l k e;injection e with e1 e2;injection e1 with e1;subst e1;subst e2;exact ⟨[],_,.nil,hk⟩
 | opsOn h1 h2 _ ih=>
  intro l k e;injection e with e1 e2;injection e1 with e1;subst e1;subst e2;obtain ⟨es,s1,q1,q2⟩:=ih _ _ rfl;exact ⟨_,s1,.on h1 h2 q1,q2⟩
 | opsOff h1 _ ih=>
  intro l k e;injection e with e1 e2;injection e1 with e1;subst e1;subst e2;obtain ⟨es,s1,q1,q2⟩:=ih _ _ rfl;exact ⟨_,s1,.off h1 q1,q2⟩
 | _=>intro l k e;first | cases e | (injection e with e1 e2;cases e1)
theorem tI {C:zQ} {Q:Way->St->Prop} {l:List AOper} {k:List AI} {s:St} (h:RunW C Q (.c (.region l none)::k) s):∃es s1,OpsE C l s es s1/\RunW C Q k s1:=by
 cases h with
 | region h=>exact zIF h _ _ rfl
theorem bP {C:zQ} {Q:Way->St->Prop} {a b:AC} {k:List AI} {s:St} (h:RunW C Q (.c (.seq a b)::k) s):RunW C Q (.c a:: .c b::k) s:=by
 cases h with
 | seq h=>exact h
theorem zPU {C:zQ} {l s es s'} (h:OpsE C l s es s'):s'.ts.length=s.ts.length:=by
 induction h with
 | nil=>rfl
 | on _ _ _ ih=>rw[ih,cQ]
 | off _ _ ih=>rw[ih,cQ]
def DefN (P:Program) (g:FuncId):Prop:=pI P g/\∀(vs:Array Value) (w:World),CallsD P g vs .returning w fun e u' w'=>(∃v,e= .returned v)/\u'= .returning/\w'=w
def zJV (P:Program) (G:Nat->Option (List AV)) (L:xC):Code->Option (List AOper×Nat×FuncId×List Opd×AC)
 | .seq c0 (.seq (.region _ ops false) c2)=>match comp P G L c0,ops.toList,comp P G L c2 with
  | some (.region l0 none),[om,od],some ac=>match xK P G L ops om,od.op,od.guard,od.dst with
   | some ⟨some t,.mkfn g caps,none⟩,.defer ⟨.value (.tmp t'),args,_⟩,none,none=>if t'=t/\args.size=0 then some (l0,t,g,caps,ac) else none
   | _,_,_,_=>none
  | _,_,_=>none
 | _=>none
section
variable {P:Program} {G:Nat->Option (List AV)} {L:xC}
theorem hU {code:Code} {l0 t g caps ac} (h:zJV P G L code=some (l0,t,g,caps,ac)):∃c0 id om od c2,code= .seq c0 (.seq (.region id #[om,od] false) c2)/\comp P G L c0=some (.region l0 none)/\
  xK P G L #[om,od] om=some ⟨some t,.mkfn g caps,none⟩/\(∃tys,od.op= .defer ⟨.value (.tmp t),#[],tys⟩)/\od.guard=none/\od.dst=none/\comp P G L c2=some ac:=by
 unfold zJV at h;split at h
 ·rename_i c0 id ops c2;split at h
  ·rename_i l0' om od ac' h1 h2 h3;split at h
   ·rename_i t1 g1 caps1 t' args tys h4 h5 h6 h7;split at h
    ·rename_i hc;obtain ⟨rfl,hs⟩:=hc;injection h with h;simp only[Prod.mk.injEq] at h;obtain ⟨rfl,rfl,rfl,rfl,rfl⟩:=h;have ho:ops= #[om,od]:=by rw[<-h2]
     subst ho;have ha:args= #[]:=Array.eq_empty_of_size_eq_zero hs;subst ha;exact ⟨c0,id,om,od,c2,rfl,h1,h4,⟨tys,h5⟩,h6,h7,h3⟩
    ·cases h
   ·cases h
  ·cases h
 ·cases h
theorem dO (hm:PGood P) {f:FuncId} {fn:Func} {code:Code} {ac:AC} {rs:List RV} {args:List AV} {M dl:List (Nat×Nat×Ent)} {r:AV} {l0 t g caps}
  (hf : P.funcs[f]? = some fn) (hb : fn.body = some code) (hn : (fn.name == "runtime.NumGoroutine") = false) (hc : zJV P G L code = some (l0,t,g,caps,ac)) (hrs : vP P fn.results.toList = some rs) (hg : DefN P g) (htn : t < fn.ntmps)
  {D:Nat} (h:∀S,(∀m∈M,m.1 < D/\S m.1 m.2.1=m.2.2)->Run (Loc P G) (fun s'=>resV s' rs=some r/\∀d i,d≠D->s'.S d i=upds S dl d i) [.c (.seq (.region l0 none) (.seq (.region [⟨some t,.mkfn g caps,none⟩] none) ac))] (St.start fn.ntmps args D S)):
  Loc P G D f args M r dl:=by
 refine .inl ⟨hm.ne hf,?_⟩;refine ⟨⟨fn,hf,by rw[hb];rfl,hn⟩,fun prot w0 E0 E w S vs hok hM=> ?_⟩;intro cs;obtain ⟨c0,id,om,od,c2,rfl,hc0,hom,⟨tys,hod⟩,hgd,hdst,hc2⟩:=hU hc
 let b:Frame:={(default:Frame) with fn:=f,kind:= .normal}
 let a:Act:={tmps:=vs++yOH (fn.ntmps - vs.size) undef,defers:=[]}
 have henter:Frame.enter P f vs .normal=b.atR a [.code (.seq c0 (.seq (.region id #[om,od] false) c2))]:=by
  simp[Frame.enter,Frame.atR,hf,hb,b,a];try rfl
 have hbk:b.kind≠ .early:=by simp[b]
 have hbn:b.roundOf=none:=rfl
 -- the part before
 obtain ⟨es0,s1,ho0,hr1⟩:=tI (bP (h S hM));obtain ⟨es1,s2,ho1,hr2⟩:=tI (bP hr1);obtain ⟨id0,ops0,hco0,⟨rfl,_⟩ | ⟨_,_,hx,_⟩⟩:=wS hc0
 case inr=>cases hx
 have hst:=tX fn.ntmps hok;obtain ⟨a1,w1,⟨E1,hle1,hok1,hd1⟩,har1⟩:=pX (id:=id0) hco0 hst ho0 (Q:=fun a' w'=>Post G prot w0 E0 E (St.start fn.ntmps args D S).D s1 a.defers a' w') (fun a' w' hp=>hp) b hbk [.code (.seq (.region id #[om,od] false) c2)] cs
 -- the closure
 cases ho1 with
 | off hgt _=>simp[gate] at hgt
 | on hgt hop hrest=>
 cases hrest with
 | nil=>
 rename_i e1;obtain ⟨a2,w2,⟨E2,hle2,hok2,hd2⟩,har2⟩:=vY hok1 (gops:= #[om,od]) (i:=0) rfl hom (.inl ⟨hgt,hop⟩) (K:=fun a' w'=>Post G prot w0 E0 E1 s1.D (s1.app (some t) e1) a1.defers a' w') (fun a' w' hp=>hp) b hbk [.code c2] cs [1];have hD0:(St.start fn.ntmps args D S).D=D:=rfl;have hD1:s1.D=D:=(dC ho0).trans hD0;have hev:e1.val= .fn g (caps.map fun x=>(s1.ev x).strip)/\e1.ups= []/\e1.dem= []:=by
  cases hop with
  | op he=>simp only[opf] at he;injection he with he;subst he;exact ⟨rfl,rfl,rfl⟩
  | own he=>simp[opfO] at he
  | plc he=>simp[opfP] at he
  | comm he=>simp[opfC] at he
 have hlt:t < s1.ts.length:=by
  rw[zPU ho0]
  show t < (St.start fn.ntmps args D S).ts.length
  simp only[St.start,yPG,yPH];omega
 obtain ⟨us,hval⟩:∃us:List Value,a2.tmps.getD t undef= .func (.func g) #[] us.toArray:=by
  have hrel:=hok2.rd t;have e:(s1.app (some t) e1).rd t=e1.val:=by
   rw[oT];simp[hlt]
  rw[e,hev.1] at hrel;obtain ⟨us,hu,_⟩:=hrel.fn_inv;exact ⟨us,hu⟩
 -- the deferred call
 let d:Deferred:={target:= .fn (.func g) us.toArray,args:= #[]}
 let a3:Act:=({a2 with defers:=d::a2.defers}:Act).put none undef
 have hdef:step P (lone (b.atR a2 (.inRegion #[om,od] [1]::[.code c2])) cs w2)= .next (lone (b.atR a3 (.inRegion #[om,od] []::[.code c2])) cs w2):=by
  have ho:(#[om,od]:Array Oper)[1]?=some od:=rfl;have hw:Region.wanted od (yielded #[om,od] a2.tmps)=true:=by simp[Region.wanted,hgd]
  have hgo:=stepGR_op (P:=P) (b:=b) (a:=a2) (k:=[.code c2]) (cs:=cs) (w:=w2) (rest:=[]) ho hw;have hsem:od.semAt b.roundOf a2.eval=execOp a2.eval od:=by rw[hbn];rfl
  rw[hsem] at hgo;have hev2:a2.eval (.tmp t)= .func (.func g) #[] us.toArray:=hval;have hr:(execOp a2.eval od).run P w2= .ok (.defer d) w2:=by
   unfold execOp;rw[hod];simp[resolve,hev2,Deferred.ofValue,d]
  refine step_lone_go ?_;have hfin:({b.atR a2 (.inRegion #[om,od] [1]::[.code c2]) with defers:=d::a2.defers}:Frame).finish undef=b.atR a3 (.inRegion #[om,od] []::[.code c2]):=by
   have:=Frame.finish_atR b {a2 with defers:=d::a2.defers} #[om,od] 1 [] [.code c2] undef;rw[ho] at this;simp only[yOW,hdst] at this;exact this
  rw[hgo];simp only[stepG.apply,Sem.runT_eq,hr,GStep.bare_after];exact congrArg (fun fr=>GStep.go {frame:=fr,callers:=cs,status:= .running,dying:=none} w2) hfin
 -- the part after
 have hok3:Ok G prot w0 E0 E2 w2 (s1.app (some t) e1) a3.tmps:=hok2;obtain ⟨wy,todo,a',w',E3,s',⟨q0,qe⟩,q3',q4,q5,q6,q7⟩:=(w9 (L:=L) (kc0:=[]) hm hr2).1 _ (.c hc2 .nil) b hbk cs a3 w2 E2 hok3;obtain ⟨⟨q1,q2⟩,q3⟩:((resV s' rs=some r)/\∀d i,d≠D->s'.S d i=upds S dl d i)/\Steps P (lone (b.atR a3 [.code c2]) cs w2) (lone {b.atR a' todo with mode:= .returning} cs w'):=by
  cases qe with
  | fall=>exact ⟨q0,q3'.trans (.one (stepR_end hbn))⟩
  | ret k=>exact ⟨q0,q3'.trans (.one (stepR_ret hbn))⟩
  | exit _=>exact q0.elim
  | stop _ _=>exact q0.elim
 obtain ⟨v,E4,p1,p2,p3,p4,s4,p5,p6,p7,p8,p9⟩:=mS q5 hrs (.inl q1);have hsD:s'.D=D:=by rw[q7,uS,hD1]
 have hleE:E.le E4:=GE.le_trans (GE.le_trans (GE.le_trans hle1.1 hle2.1) q4.1) p2;have hds:a'.defers= [d]:=by
  rw[q6]
  show d::a2.defers= [d]
  rw[hd2,hd1]
 have hlv:Leaves P fn a'.tmps (fun e w''=>e= .returned v/\w''=w') [d] .returning w':=by
  refine ⟨by simp,.func g,us.toArray,g,us.toArray,rfl,?_,?_⟩
  ·show (invoke (.fn (.func g) us.toArray) #[]).run P w'=_
   simp only[invoke];rw[yW hg.1];simp
  ·intro c cs' hcm;obtain ⟨e,u',w'',fr,⟨⟨v',rfl⟩,rfl,rfl⟩,k2,k3,k4⟩:=hg.2 us.toArray w' c cs' hcm;exact ⟨.returned v',.returning,_,fr,(show Leaves P fn a'.tmps _ [] (settle .returning) _ from ⟨v,p1,rfl,rfl⟩),k2,k3,k4⟩
 obtain ⟨e,w'',fr',⟨he,hw''⟩,k2,k3,k4⟩:=leaves_steps [d] .returning w' {b.atR a' todo with mode:= .returning} cs rfl hds rfl hf rfl hlv;subst he;subst hw'';have hsteps:Steps P (lone (Frame.enter P f vs .normal) cs w) (lone {b.atR a' todo with mode:= .returning} cs w''):=by
  rw[henter];refine .head stepR_seq (har1.trans (.head stepR_seq (.head stepR_region ?_)));exact har2.trans (.head hdef (.head stepR_region_end q3))
 refine ⟨.returned v,w'',fr',⟨v,E.cut E4 D,rfl,fun _ _ _ hx=>hleE.1 _ _ _ hx,GE.leC_cut hleE,fun d i g B hb=>hleE.3 d i g B hb,?_⟩,Comes.of_steps hsteps k2,k3,k4⟩;refine jG hok hleE p5 (by rw[p7,hsD]) (fun d i hd=> ?_) (.imm _ _ p4) (fun z n ad cap ht=>(by obtain ⟨t,k⟩:=p9 z n ad cap ht;exact ⟨.t t,k,fun d i j e=>(by cases e)⟩));rw[p8 d i (by rw[hsD];exact hd),St.look,yRN (by rw[hsD];exact hd)];exact q2 d i hd
end
end Go.Ab
/- Several results that stay where they lie; new slices at a place that is said. -/
namespace Go.Ab
open Go
def resU (s:St) (rs:List RV):Option AV:=
 match jZ s rs with
 | some (a::b::l)=>some (.tup ((a::b::l).map AV.strip))
 | _=>none
def RetU (rs:List RV) (r:AV) (D:Nat) (S:Nat->Nat->Ent) (dl:List (Nat×Nat×Ent)):St->Prop:=fun s'=>resU s' rs=some r/\∀d i,d≠D->s'.S d i=upds S dl d i
@[simp] theorem yMT (rs:List RV) (r:AV) (D:Nat) (S:Nat->Nat->Ent) (dl:List (Nat×Nat×Ent)) (s':St):RetU rs r D S dl s'↔resU s' rs=some r/\∀d i,d≠D->s'.S d i=upds S dl d i:=Iff.rfl
section
variable {P:Program} {G:Nat->Option (List AV)} {L:xC} {prot:Nat->Prop} {w0:World} {E0 E:GE} {w:World} {s:St} {a:Act}
variable {T:FuncId->Option FnC}
end
section
variable {C:zQ} {Q:St->Prop} {k:List AI} {n D:Nat} {τ:Nat->AV} {ω:Nat->Ent} {S:Nat->Nat->Ent} {l:List AOper} {d:Nat}
end
end Go.Ab
/- Functions that panic; functions that count,and panic where the number falls below zero. -/
namespace Go.Ab
open Go
def LocP (P:Program) (G:Nat->Option (List AV)) (pv:PanicEntry) (D:Nat) (f:FuncId) (args:List AV) (M dl:List (Nat×Nat×Ent)):Prop:=
 f≠yid/\pI P f/\∀(prot:Nat->Prop) (w0:World) (E0 E:GE) (w:World) (S:Nat->Nat->Ent) (vs:Array Value),
  Ok G prot w0 E0 E w ⟨args,[],D,S⟩ vs->(∀m∈M,m.1 < D/\S m.1 m.2.1=m.2.2)->
  Calls P f vs w fun e w'=>e= .panicked [pv]/\zLU G prot w0 E0 E D S (.tup []) dl (.tuple #[]) w'
def Fk (P:Program) (G:Nat->Option (List AV)) (pv:PanicEntry) (X:List (Nat×Nat×Ent)):zQ:=fun D f args M r dl=>
 r=ud/\dl= []/\(∀u∈X,(u.1,u.2.1)∈M.map (fun m=>(m.1,m.2.1))/\u.2.2.2≠ .dead)/\LocP P G pv D f args M X
structure Cnt where
 d:Nat
 i:Nat
 g:Nat
 ob:Int->Ob
 inj:∀n m,ob n=ob m->n=m
 live:∀n,ob n≠ .dead
def Cnt.e (c:Cnt) (n:Int):Nat×Nat×Ent:=(c.d,c.i,(c.g,c.ob n))
def LocB (P:Program) (G:Nat->Option (List AV)) (pv:PanicEntry) (c:Cnt):zQ:=fun D f args M r dl=>
 (Loc P G D f args M r dl/\(∀m∈M,(m.1,m.2.1)≠(c.d,c.i))/\∀u∈dl,u.1+1=D)\/
 (f≠yid/\∃n n':Int,c.e n∈M/\dl= [c.e n']/\(n < 0->n' < 0)/\(0<=n->0<=n'->Loc P G D f args M r dl)/\(0<=n->n' < 0->LocP P G pv D f args M [c.e (-1)]))
def AOp.isPc:AOp->Bool
 | .call .. | .callv .. =>true
 | _=>false
section
variable {P:Program} {G:Nat->Option (List AV)} {L:xC} {prot:Nat->Prop} {w0:World} {E0 E:GE} {w:World} {s:St} {a:Act} {gops:Array Oper} {pv:PanicEntry} {X:List (Nat×Nat×Ent)}
theorem zPW (h:Ok G prot w0 E0 E w s a.tmps) {i:Nat} {o:Oper} {ao:AOp} (ho:gops[i]?=some o) (hw:Region.wanted o (yielded gops a.tmps)=true) (hc:yV P G L gops o=some ao) (hp:ao.isPc=true)
  {dst:Option Nat} {e:Eff} (he:OpE (Fk P G pv X) s dst ao e) (b:Frame) (k:List Item) (cs:List Frame) (rest:List Nat):
  ∃w' E' s2,Steps P (lone (b.atR a (.inRegion gops (i::rest)::k)) cs w) (lone {b.atR a (.inRegion gops (i::rest)::k) with mode:= .panicking [pv]} cs w')/\GE.leD s.D E E'/\Ok G prot w0 E0 E' w' s2 a.tmps/\s2=X.foldl St.up s:=by
 -- the call enters f
 have enter:∃f args M vs,(execOp a.eval o).run P w= .ok (.enter f vs) w/\LocP P G pv (s.D+1) f args M X/\(∀m∈M,m.1<=s.D/\(m.1=s.D->m.2.1 < s.os.length)/\s.look m.1 m.2.1=m.2.2)/\
   (∀u∈X,(u.1,u.2.1)∈M.map (fun m=>(m.1,m.2.1))/\u.2.2.2≠ .dead)/\vs.size=args.length/\(∀(i:Nat) (b:AV) (v:Value),args[i]?=some b->vs[i]?=some v->Rel E b v)/\∀b∈args,b.dull:=by
  cases he with
  | op he=>cases ao<;>simp[AOp.isPc] at hp<;>simp[opf] at he
  | own he=>cases ao<;>simp[AOp.isPc] at hp<;>simp[opfO] at he
  | plc he=>cases ao<;>simp[AOp.isPc] at hp<;>simp[opfP] at he
  | comm he=>cases ao<;>simp[AOp.isPc] at hp<;>simp[opfC] at he
  | emp=>simp[AOp.isPc] at hp
  | callL=>simp[AOp.isPc] at hp
  | yld hx hC=>exact absurd rfl hC.2.2.2.1
  | call hf hL hM hdl=>
   rename_i f args M dl r;obtain ⟨_,_,x1,hL⟩:=hL;have:∃gargs ats,o.op= .call {callee:= .value (.func f),args:=gargs,argTypes:=ats}/\opds P G ats.toList gargs.toList=some args:=by
    clear hL x1;unfold yV at hc
    repeat' (split at hc)
    all_goals first | (cases hc;done) | skip
    all_goals first | (obtain ⟨_,_,hx⟩:=map_some hc;cases hx;done) | skip
    all_goals (injection hc with hc;first | (cases hc;done) | skip)
    all_goals (injection hc with e1 e2;subst e1;subst e2)
    all_goals exact ⟨_,_,by assumption,by assumption⟩
   obtain ⟨gargs,ats,hop,hargs⟩:=this;obtain ⟨q1,q2⟩:=vC h hargs;refine ⟨f,_,M,gargs.map a.eval,?_,hL,hM,x1,by simp[q1],fun i b v hb hv=> ?_,fun b hb=>by obtain ⟨x,_,rfl⟩:=yOF.1 hb;exact AV.dull_strip _⟩
   ·simp only[execOp,hop,resolve,Act.eval,Deferred.ofValue,pure_bind,invoke];rw[yW hL.2.1];simp
   ·simp only[yOD,Array.getElem?_map,yOC] at hb hv;obtain ⟨x,hx,rfl⟩:=hb;obtain ⟨g,hg,rfl⟩:=hv;obtain ⟨t,ht⟩:=q2 i x g hx (by simpa using hg);exact (h.ev ht).strip
  | callv hf hx hL hM hdl=>
   rename_i f cap x args M dl r;obtain ⟨_,_,x1,hL⟩:=hL;have:∃gx gargs ats,o.op= .call {callee:= .value gx,args:=gargs,argTypes:=ats}/\opds P G ats.toList gargs.toList=some args/\opd P G 0 gx=some x:=by
    clear hL x1 hM;unfold yV at hc
    repeat' (split at hc)
    all_goals first | (cases hc;done) | skip
    all_goals first | (obtain ⟨_,hy,hx⟩:=map_some hc;first | (cases hx;done) | (injection hx with e1 e2;subst e1;subst e2;exact ⟨_,_,_,by assumption,by assumption,hy⟩)) | skip
    all_goals (injection hc with hc;first | (cases hc;done) | skip)
   obtain ⟨gx,gargs,ats,hop,hargs,hgx⟩:=this;obtain ⟨q1,q2⟩:=vC h hargs;have hrx:=h.ev (s:=s) hgx;rw[hx] at hrx;obtain ⟨us,hgv,hul,hur⟩:=hrx.fn_inv;refine ⟨f,_,M,(gargs.toList.map a.eval++us).toArray,?_,hL,hM,x1,by simp[q1,hul],fun i b v hb hv=> ?_,fun b hb=> ?_⟩
   ·simp only[execOp,hop,resolve,hgv,Deferred.ofValue,pure_bind,invoke];rw[yW hL.2.1];simp
   ·simp only[yOP] at hv;rw[yPI] at hb hv;simp only[yPJ] at hb hv;rw[q1] at hb;split at hb
    ·rename_i hi;rw[yRO hi] at hv;simp only[yOD,yOC] at hb hv;obtain ⟨x,hx,rfl⟩:=hb;obtain ⟨g,hg,rfl⟩:=hv;obtain ⟨t,ht⟩:=q2 i x g hx hg;exact (h.ev ht).strip
    ·rename_i hi;rw[yRN hi] at hv;simp only[yOD,yOC] at hb;obtain ⟨c,hc,rfl⟩:=hb;exact (hur _ c v hc hv).strip
   ·rcases yON.1 hb with hb | hb
    ·obtain ⟨x,_,rfl⟩:=yOF.1 hb;exact AV.dull_strip _
    ·obtain ⟨x,_,rfl⟩:=yOF.1 hb;exact AV.dull_strip _
  | callm hf hx hL hM hdl=>
   rename_i f bs x args M dl r;obtain ⟨_,_,x1,hL⟩:=hL;have:∃gx gargs ats,o.op= .call {callee:= .value gx,args:=gargs,argTypes:=ats}/\opds P G ats.toList gargs.toList=some args/\opd P G 0 gx=some x:=by
    clear hL x1 hM;unfold yV at hc
    repeat' (split at hc)
    all_goals first | (cases hc;done) | skip
    all_goals first | (obtain ⟨_,hy,hx⟩:=map_some hc;first | (cases hx;done) | (injection hx with e1 e2;subst e1;subst e2;exact ⟨_,_,_,by assumption,by assumption,hy⟩)) | skip
    all_goals (injection hc with hc;first | (cases hc;done) | skip)
   obtain ⟨gx,gargs,ats,hop,hargs,hgx⟩:=this;obtain ⟨q1,q2⟩:=vC h hargs;have hrx:=h.ev (s:=s) hgx;rw[hx] at hrx;obtain ⟨us,hgv,hul,hur⟩:=hrx.meth_inv;refine ⟨f,_,M,(us++gargs.toList.map a.eval).toArray,?_,hL,hM,x1,by simp[q1,hul],fun i b v hb hv=> ?_,fun b hb=> ?_⟩
   ·simp only[execOp,hop,resolve,hgv,Deferred.ofValue,pure_bind,invoke];rw[yW hL.2.1];simp
   ·simp only[yOP] at hv;rw[yPI] at hb hv;simp only[yPJ] at hb;rw[hul] at hb;split at hb
    ·rename_i hi;rw[yRO hi] at hv;simp only[yOD,yOC] at hb;obtain ⟨c,hc,rfl⟩:=hb;exact (hur _ c v hc hv).strip
    ·rename_i hi;rw[yRN hi] at hv;simp only[yOD,yOC] at hb hv;obtain ⟨x,hx,rfl⟩:=hb;obtain ⟨g,hg,rfl⟩:=hv;obtain ⟨t,ht⟩:=q2 _ x g hx hg;exact (h.ev ht).strip
   ·rcases yON.1 hb with hb | hb
    ·obtain ⟨x,_,rfl⟩:=yOF.1 hb;exact AV.dull_strip _
    ·obtain ⟨x,_,rfl⟩:=yOF.1 hb;exact AV.dull_strip _
 obtain ⟨f,args,M,vs,hrun,hL,hM,x1,hsz,hrel,hdull⟩:=enter;obtain ⟨protc,hokc,hpost⟩:=pB (r:= .tup []) (dl:=X) h hsz hrel hdull hM x1 none (M.map fun m=>(m.1,m.2.1));obtain ⟨e,w',fr,⟨rfl,hR⟩,hsteps,_,hleave⟩:=hL.2.2 protc w E E w s.look vs hokc (fun m hm=>⟨by have:=(hM m hm).1;omega,(hM m hm).2.2⟩) (b.atR a (.inRegion gops (i::rest)::k)::cs);obtain ⟨E',hle,hok,_⟩:=hpost _ _ hR;have hnd:∀c,o.op≠ .defer c:=fun c hcc=>by
  unfold yV at hc;rw[hcc] at hc;cases hc
 have hg:=stepGR_op (P:=P) (b:=b) (k:=k) (cs:=cs) (w:=w) (rest:=rest) ho hw;rw[Oper.semAt_eq _ _ _ hnd] at hg;have henter:step P (lone (b.atR a (.inRegion gops (i::rest)::k)) cs w)= .next (lone (Frame.enter P f vs .normal) (b.atR a (.inRegion gops (i::rest)::k)::cs) w):=
  step_lone_go (by rw[hg];simp[stepG.apply,hrun,Frame.atR])
 refine ⟨w',E',_,.head henter (Steps.trans hsteps (.one ?_)),hle,hok,rfl⟩;rw[<-Frame.raise_atR];exact step_leave_panicked hleave
end
end Go.Ab
/- Runs that end in a panic. -/
namespace Go.Ab
open Go
section
variable {P:Program} {G:Nat->Option (List AV)} {L:xC} {pv:PanicEntry} {D:Nat} {Sf:Nat->Nat->Ent}
def PanK (P:Program) (G:Nat->Option (List AV)) (L:xC) (pv:PanicEntry) (D:Nat) (Sf:Nat->Nat->Ent) (k:List AI) (s:St):Prop:=
 s.D=D/\∀(prot:Nat->Prop) (w0:World) (E0:GE) (kc:List Item),KRel P G L [] k kc->∀(b:Frame),b.kind≠ .early->∀(cs:List Frame) (a:Act) (w:World) (E:GE),Ok G prot w0 E0 E w s a.tmps->
  ∃a' todo w' E' s',Steps P (lone (b.atR a kc) cs w) (lone {b.atR a' todo with mode:= .panicking [pv]} cs w')/\GE.leD D E E'/\Ok G prot w0 E0 E' w' s' a'.tmps/\a'.defers=a.defers/\s'.D=D/\∀d i,d≠D->s'.S d i=Sf d i
theorem PanK.pre (hm:PGood P) {x:AC} {k:List AI} {s:St} (md:Md) (hmd:md≠ .rn) (hx:tC x=true) (hD:s.D=D) (h:Rd (Loc P G) md (PanK P G L pv D Sf k) [.c x] s):PanK P G L pv D Sf (.c x::k) s:=by
 refine ⟨hD,fun prot w0 E0 kc hk b hb cs a w E hok=> ?_⟩;cases hk with
 | c hc hk'=>
  rename_i code kc';have hr:=(h.run hmd).straight (by simp[vU,hx]);obtain ⟨wy,todo,a',w',E',s',⟨⟨q0,q1⟩,qe⟩,q3,q4,q5,q6,q7⟩:=(w9 (L:=L) (prot:=prot) (w0:=w0) (E0:=E0) (kc0:=kc') hm hr).1 _ (.c hc .nil) b hb cs a w E hok;subst q0;cases qe with
  | fall=>
   obtain ⟨_,hp⟩:=(show PanK P G L pv D Sf k s' from q1);obtain ⟨a2,todo,w2,E2,s2,r1,r2,r3,r4,r5,r6⟩:=hp prot w0 E0 kc' hk' b hb cs a' w' E' q5;exact ⟨a2,todo,w2,E2,s2,q3.trans r1,GE.leD_trans (by rw[<-hD];exact q4) r2,r3,r4.trans q6,r5,r6⟩
theorem PanK.step {k k':List AI} {s:St} (h:PanK P G L pv D Sf k' s) (hs:∀prot w0 E0 kc,KRel P G L [] k kc->∃kc',KRel P G L [] k' kc'/\∀(b:Frame) (cs:List Frame) (a:Act) (w:World) (E:GE),Ok G prot w0 E0 E w s a.tmps->Steps P (lone (b.atR a kc) cs w) (lone (b.atR a kc') cs w)):PanK P G L pv D Sf k s:=by
 refine ⟨h.1,fun prot w0 E0 kc hk b hb cs a w E hok=> ?_⟩;obtain ⟨kc',hk',hst⟩:=hs prot w0 E0 kc hk;obtain ⟨a2,todo,w2,E2,s2,r1,r2⟩:=h.2 prot w0 E0 kc' hk' b hb cs a w E hok;exact ⟨a2,todo,w2,E2,s2,(hst b cs a w E hok).trans r1,r2⟩
theorem PanK.seq {a b:AC} {k:List AI} {s:St} (h:PanK P G L pv D Sf (.c a:: .c b::k) s):PanK P G L pv D Sf (.c (.seq a b)::k) s:=
 h.step fun prot w0 E0 kc hk=>by
  cases hk with
  | c hc hk'=>
   obtain ⟨x,y,rfl,h1,h2⟩:=fZ hc;exact ⟨_,.c h1 (.c h2 hk'),fun b cs a w E _=> .one stepR_seq⟩
theorem PanK.cond {c:Opd} {a b:AC} {k:List AI} {s:St} (t:Bool) (hc:s.ev c= .bool t) (h:PanK P G L pv D Sf (.c (if t then a else b)::k) s):PanK P G L pv D Sf (.c (.cond c a b)::k) s:=
 h.step fun prot w0 E0 kc hk=>by
  cases hk with
  | c hcc hk'=>
   obtain ⟨gc,x,y,rfl,h1,h2,h3⟩:=oP hcc;refine ⟨.code (if t then x else y)::_,.c ?_ hk',fun b cs a w E hok=> .one (stepR_cond ?_)⟩
   ·cases t
    ·exact h3
    ·exact h2
   ·have hv:=hok.ev h1;rw[hc] at hv;exact hv.bool_inv
theorem PanK.block {id:Nat} {a:AC} {k:List AI} {s:St} (h:PanK P G L pv D Sf (.c a:: .blk id::k) s):PanK P G L pv D Sf (.c (.block id a)::k) s:=
 h.step fun prot w0 E0 kc hk=>by
  cases hk with
  | c hc hk'=>
   obtain ⟨x,rfl,h1⟩:=hO hc;exact ⟨_,.c h1 (.blk hk'),fun b cs a w E _=> .one stepR_block⟩
theorem PanK.loop {a:AC} {k:List AI} {s:St} (h:PanK P G L pv D Sf (.c a:: .lp a::k) s):PanK P G L pv D Sf (.c (.loop a)::k) s:=
 h.step fun prot w0 E0 kc hk=>by
  cases hk with
  | c hc hk'=>
   obtain ⟨x,rfl,h1⟩:=cJ hc;exact ⟨_,.c h1 (.lp h1 hk'),fun b cs a w E _=> .one stepR_loop⟩
theorem PanK.lp {a:AC} {k:List AI} {s:St} (h:PanK P G L pv D Sf (.c a:: .lp a::k) s):PanK P G L pv D Sf (.lp a::k) s:=
 h.step fun prot w0 E0 kc hk=>by
  cases hk with
  | lp hc hk'=>exact ⟨_,.c hc (.lp hc hk'),fun b cs a w E _=> .one stepR_inLoop⟩
theorem PanK.blk {id:Nat} {k:List AI} {s:St} (h:PanK P G L pv D Sf k s):PanK P G L pv D Sf (.blk id::k) s:=
 h.step fun prot w0 E0 kc hk=>by
  cases hk with
  | blk hk'=>exact ⟨_,hk',fun b cs a w E _=> .one stepR_inBlock⟩
theorem PanK.skip {k:List AI} {s:St} (h:PanK P G L pv D Sf k s):PanK P G L pv D Sf (.c .skip::k) s:=
 h.step fun prot w0 E0 kc hk=>by
  cases hk with
  | c hc hk'=>
   obtain rfl:=(tT hc).1 rfl;exact ⟨_,hk',fun b cs a w E _=> .one stepR_skip⟩
theorem PanK.condU {c:Opd} {a b:AC} {k:List AI} {s:St} (hc:s.ev c= .ub) (h1:PanK P G L pv D Sf (.c a::k) s) (h2:PanK P G L pv D Sf (.c b::k) s):PanK P G L pv D Sf (.c (.cond c a b)::k) s:=by
 refine ⟨h1.1,fun prot w0 E0 kc hk bf hb cs ac w E hok=> ?_⟩;cases hk with
 | c hcc hk'=>
  obtain ⟨gc,x,y,rfl,e1,e2,e3⟩:=oP hcc;have hv:=hok.ev e1;rw[hc] at hv;obtain ⟨t,hv'⟩:∃t,ac.eval gc= .bool t:=by
   generalize ac.eval gc=v at hv;cases hv with | imm _ _ h=>cases h with | ub t=>exact ⟨t,rfl⟩
  cases t with
  | true=>
   obtain ⟨a2,todo,w2,E2,s2,r1,r2⟩:=h1.2 prot w0 E0 _ (.c e2 hk') bf hb cs ac w E hok;exact ⟨a2,todo,w2,E2,s2,.head (stepR_cond hv') r1,r2⟩
  | false=>
   obtain ⟨a2,todo,w2,E2,s2,r1,r2⟩:=h2.2 prot w0 E0 _ (.c e3 hk') bf hb cs ac w E hok;exact ⟨a2,todo,w2,E2,s2,.head (stepR_cond hv') r1,r2⟩
theorem PanK.exit {id:Nat} {k k':List AI} {s:St} (hx:exitTo id k=some k') (h:PanK P G L pv D Sf k' s):PanK P G L pv D Sf (.c (.exit id)::k) s:=
 h.step fun prot w0 E0 kc hk=>by
  cases hk with
  | c hc hk'=>
   obtain rfl:=(tT hc).2.2 _ rfl;obtain ⟨kc',h1,h2⟩:=nP hk' hx;exact ⟨kc',h2,fun b cs a w E _=> .one (stepR_exit h1)⟩
end
def okO (A:List Nat) (o:AOper):Bool:=
 (match o.dst with
 | some j=> !A.contains j || (match o.op with | .alloc _ | .box .. =>true | .faddr _ (.t i)=>A.contains i | _=>false)
 | none=>true)&&
 (match o.op with
 | .store _ (.t p) _ | .load _ _ true (.t p)=>A.contains p
 | .store .. | .load _ _ true _ | .copy .. | .mupd .. | .send .. | .recv .. | .callL .. =>false
 | _=>true)
def okAC (A:List Nat):AC->Bool
 | .skip | .ret | .exit _=>true
 | .region l _=>l.all (okO A)
 | .seq a b | .cond _ a b=>okAC A a&&okAC A b
 | .block _ a | .loop a=>okAC A a
 | .rangef .. | .either .. =>false
def okAI (A:List Nat):AI->Bool
 | .c x | .lp x=>okAC A x
 | .blk _=>true
 | .ops l | .dr _ l _=>l.all (okO A)
theorem tL {A:List Nat} {id:Nat}:∀{k k':List AI},exitTo id k=some k'->k.all (okAI A)=true->k'.all (okAI A)=true
 | [],k',h,_=>by simp[exitTo] at h
 | x::k,k',h,hk=>by
  simp only[yOE,yOB] at hk;cases x with
  | blk id'=>
   simp only[exitTo] at h;split at h
   ·injection h with h;subst h;exact hk.2
   ·exact tL h hk.2
  | c y=>exact tL (by simpa[exitTo] using h) hk.2
  | lp y=>exact tL (by simpa[exitTo] using h) hk.2
  | ops l=>exact tL (by simpa[exitTo] using h) hk.2
  | dr ps l es=>exact tL (by simpa[exitTo] using h) hk.2
theorem zUN {s:St}:∀n {b b' l},frz s n b=some (b',l)->∀p∈l,p.1=s.D
 | 0,b,b',l,h=>by simp[frz] at h
 | n+1,b,b',l,h=>by
  have many:∀{cs:List AV} {r:List (AV×List (Nat×Nat))},cs.mapM (frz s n)=some r->∀p∈(r.map (·.2)).flatten,p.1=s.D:=by
   intro cs
   induction cs with
   | nil=>intro r h;simp at h;subst h;simp
   | cons x cs ih=>
    intro r h p hp;rw[List.mapM_cons] at h;cases hx:frz s n x with
    | none=>rw[hx] at h;cases h
    | some y=>
     cases hm:cs.mapM (frz s n) with
     | none=>rw[hx,hm] at h;cases h
     | some r'=>
      rw[hx,hm] at h;obtain rfl:y::r'=r:=by injection h
      simp only[List.map_cons,List.flatten_cons,yON] at hp;rcases hp with hp | hp
      ·exact zUN n (b':=y.1) (l:=y.2) hx p hp
      ·exact ih hm p hp
  intro p hp;unfold frz at h
  repeat' (split at h)
  all_goals first | (cases h;done) | skip
  all_goals injection h with h;injection h with e1 e2;subst e1;subst e2
  all_goals first
   | (cases hp;done)
   | (
     rcases yOM.1 hp with rfl | hp
     ·rename_i hc _ _ _;exact hc.2.1
     ·exact many (by assumption) p hp)
   | exact many (by assumption) p hp
   | exact zUN n (by assumption) p hp
theorem zPZ {s:St}:∀{bs bs' l},frzL s bs=some (bs',l)->∀p∈l,p.1=s.D
 | [],bs',l,h=>by simp[frzL] at h;obtain ⟨rfl,rfl⟩:=h;simp
 | b::bs,bs',l,h=>by
  simp only[frzL] at h;split at h
  ·rename_i h1 h2;injection h with h;injection h with e1 e2;subst e1;subst e2;intro p hp;rcases yON.1 hp with hp | hp
   ·exact zUN _ h1 p hp
   ·exact zPZ h2 p hp
  ·cases h
theorem zIB {v:AV} {d i g o} (h:v.dem= .ptr d i g o):v= .ptr d i g o:=by cases v<;>simp[AV.dem] at h<;>simp[h]
section
variable {A:List Nat} {s:St}
theorem yBT (hA:∀j∈A,∀d i g o,s.rd j= .ptr d i g o->d=s.D) {o:AOper} (ho:okO A o=true) {dst:Option Nat} {e:Eff} (h:opf s dst o.op=some e):
  (∀u∈e.ups,u.1=s.D)/\∀j,o.dst=some j->j∈A->∀d i g x,e.val= .ptr d i g x->d=s.D:=by
 have hkill:∀{l},(∀p∈l,p.1=s.D)->∀u∈kill s l,u.1=s.D:=by
  intro l hl u hu;obtain ⟨p,hp,rfl⟩:=yOF.1 hu;exact hl p hp
 obtain ⟨od,op,og⟩:=o;simp only[okO,yOB] at ho;obtain ⟨ho1,ho2⟩:=ho;have hmem:∀{p d i g x},A.contains p=true->s.ev (.t p)= .ptr d i g x->d=s.D:=fun hp he=>hA _ (by simpa using hp) _ _ _ _ (zIB he);refine ⟨?_,fun j hj hm d i g x hv=> ?_⟩
 ·simp only at h;cases op with
  | store n p x=>
   cases p with
   | c v=>simp at ho2
   | t p=>
    simp only at ho2;simp only[opf] at h
    repeat' (split at h)
    all_goals first | (cases h;done) | skip
    injection h with h;subst h;intro u hu;obtain rfl:=yOG.1 hu;exact hmem ho2 (by assumption)
  | load ag n take p=>
   simp only[opf] at h
   repeat' (split at h)
   all_goals first | (cases h;done) | skip
   all_goals (injection h with h;subst h)
   all_goals first | (intro u hu;cases hu;done) | skip
   all_goals
    intro u hu;obtain rfl:=yOG.1 hu;rename_i hc;obtain rfl:take=true:=by
     cases take
     ·simp at hc
     ·rfl
    cases p with
    | c v=>simp at ho2
    | t p=>exact hmem ho2 (by assumption)
  | bslice z ea ps=>
   simp only[opf] at h
   repeat' (split at h)
   all_goals first | (cases h;done) | skip
   injection h with h;subst h;exact hkill (zPZ (by assumption))
  | copy z x y=>simp at ho2
  | mupd n x k v=>simp at ho2
  | extr tk x i=>
   cases tk<;>simp only[opf] at h
   all_goals repeat' (split at h)
   all_goals first | (cases h;done) | skip
   all_goals (injection h with h;subst h;intro u hu;cases hu)
  | _=>
   simp only[opf] at h
   repeat' (split at h)
   all_goals first | (cases h;done) | skip
   all_goals (injection h with h;subst h)
   all_goals first | (intro u hu;cases hu;done) | (intro u hu;obtain rfl:=yOG.1 hu;rfl)
 ·simp only at hj;subst hj;simp only at h;cases op with
  | alloc z=>
   simp only[opf] at h
   repeat' (split at h)
   all_goals first | (cases h;done) | skip
   injection h with h;subst h;injection hv with e1;exact e1.symm
  | box n v=>
   simp only[opf] at h
   repeat' (split at h)
   all_goals first | (cases h;done) | skip
   injection h with h;subst h;injection hv with e1;exact e1.symm
  | faddr off v=>
   cases v with
   | c v=>simp[hm] at ho1
   | t p=>
    simp only[opf] at h
    repeat' (split at h)
    all_goals first | (cases h;done) | skip
    all_goals (injection h with h;subst h)
    all_goals first | (cases hv;done) | skip
    injection hv with e1 e2 e3 e4;subst e1;exact hmem (by simpa[hm] using ho1) (by assumption)
  | _=>simp[hm] at ho1
theorem zPV {o:AOper} (ho:okO A o=true) {slot:Option Nat} {e:Eff} (h:opfO s slot o.op=some e):
  (∀u∈e.ups,u.1=s.D)/\∀j,o.dst=some j->j∈A->False:=by
 obtain ⟨od,op,og⟩:=o;simp only[okO,yOB] at ho;obtain ⟨ho1,ho2⟩:=ho;simp only at h;refine ⟨?_,fun j hj hm=> ?_⟩
 ·cases op<;>first | (simp[opfO] at h;done) | skip
  case load ag n take p=>
   simp only[opfO,opf] at h
   repeat' (split at h)
   all_goals first | (cases h;done) | skip
   all_goals (injection h with h;subst h)
   all_goals first | (intro u hu;cases hu;done) | simp_all
  all_goals simp only[opfO] at h
  all_goals repeat' (split at h)
  all_goals first | (cases h;done) | skip
  all_goals (injection h with h;subst h)
  all_goals first | (intro u hu;cases hu;done) | (intro u hu;obtain rfl:=yOG.1 hu;rfl) | skip
  all_goals (intro u hu;obtain rfl:=yOG.1 hu;rename_i hc;exact hc.2.1)
 ·simp only at hj;subst hj;cases op<;>first | (simp[hm] at ho1;done) | (simp[opfO] at h;done)
end
def Zp (A:List Nat) (D:Nat) (o:AOper) (e:Eff):Prop:=
 okO A o=true/\(∀j,o.dst=some j->j∈A->∀d i g x,e.val= .ptr d i g x->d=D)/\(o.op.isPc=true\/∀u∈e.ups,u.1=D)
structure InvN (c:Cnt) (A:List Nat) (D:Nat) (S0:Nat->Nat->Ent) (n:Int) (s:St):Prop where
 hD:s.D=D
 hA:∀j∈A,∀d i g x,s.rd j= .ptr d i g x->d=D
 hS:∀d i,d≠D->(d,i)≠(c.d,c.i)->s.S d i=S0 d i
 hn:s.S c.d c.i=(c.g,c.ob n)
section
variable {c:Cnt} {A:List Nat} {D:Nat} {S0:Nat->Nat->Ent} {n:Int} {s:St} {o:AOper} {e:Eff} {md:Md}
theorem yDM (hm:md≠ .pl) (hI:InvN c A D S0 n s) (ho:okO A o=true) (h:evN md s o.dst o.op=some e):Zp A D o e/\∀u∈e.ups,u.1=D:=by
 have k1:opf s o.dst o.op=some e->Zp A D o e/\∀u∈e.ups,u.1=D:=fun h=>by
  have:=yBT (by rw[hI.hD];exact hI.hA) ho h;rw[hI.hD] at this;exact ⟨⟨ho,this.2,.inr this.1⟩,this.1⟩
 have k2:∀{slot},opfO s slot o.op=some e->Zp A D o e/\∀u∈e.ups,u.1=D:=fun h=>by
  have:=zPV ho h;rw[hI.hD] at this;exact ⟨⟨ho,fun j hj hm=>(this.2 j hj hm).elim,.inr this.1⟩,this.1⟩
 unfold evN at h;split at h
 ·rename_i hop;simp[okO,hop] at ho
 ·rename_i hop;simp[okO,hop] at ho
 ·split at h
  ·exact k1 h
  ·split at h
   ·rename_i he;injection h with h;subst h;exact k2 he
   ·exact k1 h
  ·split at h
   ·cases h
   ·split at h
    ·exact k2 h
    ·split at h
     ·rename_i he;injection h with h;subst h;exact k1 he
     ·exact k2 h
  ·exact k1 h
  ·exact absurd rfl hm
theorem zQE (hI:InvN c A D S0 n s) (ho:okO A o=true) (h:AppE s o.dst o.op e):Zp A D o e/\∀u∈e.ups,u.1=D:=by
 rcases h.2 with h | ⟨slot,h⟩ | ⟨z,ea,d,ent,hop,h1,h2,rfl⟩
 ·have:=yBT (by rw[hI.hD];exact hI.hA) ho h;rw[hI.hD] at this;exact ⟨⟨ho,this.2,.inr this.1⟩,this.1⟩
 ·have:=zPV ho h;rw[hI.hD] at this;exact ⟨⟨ho,fun j hj hm=>(this.2 j hj hm).elim,.inr this.1⟩,this.1⟩
 ·have hu:∀u∈[(s.D,d,(ent.1+1,Ob.cells []))],u.1=D:=fun u hu=>by obtain rfl:=yOG.1 hu;exact hI.hD
  exact ⟨⟨ho,fun j hj hm=>by cases hop':o with | mk od op og=>simp_all[okO],.inr hu⟩,hu⟩
theorem zQC (ho:okO A o=true) (hc:o.op.isCall=true):Zp A D o e:=by
 obtain ⟨od,op,og⟩:=o;cases op<;>simp[AOp.isCall] at hc
 ·exact ⟨ho,fun j hj hm=>by simp only at hj;subst hj;simp[okO,hm] at ho,.inl rfl⟩
 ·simp[okO] at ho
 ·exact ⟨ho,fun j hj hm=>by simp only at hj;subst hj;simp[okO,hm] at ho,.inl rfl⟩
theorem zTM (ho:okO A o=true):Zp A D o {}:=⟨ho,fun _ _ _ _ _ _ _ h=>(by cases h),.inr fun u hu=>(by cases hu)⟩
theorem InvN.uniq {m:Int} (h:InvN c A D S0 n s) (h':InvN c A D S0 m s):n=m:=by
 have:=h.hn.symm.trans h'.hn;injection this with _ e;exact c.inj _ _ e
theorem InvN.app (hc:c.d≠D) (h:InvN c A D S0 n s) (hz:Zp A D o e):((∀u∈e.ups,u.1=D)->InvN c A D S0 n (s.app o.dst e))/\∀m,e.ups= [c.e m]->InvN c A D S0 m (s.app o.dst e):=by
 have hD:(s.app o.dst e).D=D:=by rw[uS];exact h.hD
 have hA:∀j∈A,∀d i g x,(s.app o.dst e).rd j= .ptr d i g x->d=D:=by
  intro j hj d i g x hr;rw[oT] at hr;split at hr
  ·rename_i hh;exact hz.2.1 j hh.1 hj _ _ _ _ hr
  ·split at hr
   ·exact h.hA j hj _ _ _ _ (zIB hr)
   ·exact h.hA j hj _ _ _ _ hr
 have hl:∀d i,d≠D->(s.app o.dst e).S d i=(e.ups.foldl St.up s).look d i:=fun d i hd=>by
  rw[<-lA s o.dst e,St.look,yRN (by rw[hD];exact hd)]
 have hs:∀d i,d≠D->s.look d i=s.S d i:=fun d i hd=>by rw[St.look,yRN (by rw[h.hD];exact hd)]
 constructor
 ·intro hu;have:∀d i,d≠D->(s.app o.dst e).S d i=s.S d i:=fun d i hd=>by
   rw[hl d i hd,tB _ _ _ _ (fun u hm e'=>hd (by rw[<-hu u hm];exact (congrArg Prod.fst e').symm)),hs d i hd]
  exact ⟨hD,hA,fun d i hd hne=>by rw[this d i hd];exact h.hS d i hd hne,by rw[this _ _ hc];exact h.hn⟩
 ·intro m hu;have:∀d i,d≠D->(s.app o.dst e).S d i=if d=c.d/\i=c.i then (c.g,c.ob m) else s.S d i:=fun d i hd=>by
   rw[hl d i hd,hu,yOI,yOQ,lG,<-hs d i hd];by_cases hh:d=c.d/\i=c.i
   ·rw[yRO ⟨hh,fun e'=>absurd (e'.trans h.hD) hc⟩,yRO hh];rfl
   ·rw[yRN (fun q=>hh q.1),yRN hh]
  refine ⟨hD,hA,fun d i hd hne=> ?_,by rw[this _ _ hc,yRO ⟨rfl,rfl⟩]⟩;rw[this d i hd,yRN (fun q=>hne (by rw[q.1,q.2]))];exact h.hS d i hd hne
theorem InvN.put (hc:c.d≠D) (h:InvN c A D S0 n s) (ho:okO A o=true):InvN c A D S0 n (s.put o.dst ud):=by
 rw[<-oU];exact (h.app hc (zTM ho)).1 fun u hu=>by cases hu
end
section
variable {P:Program} {G:Nat->Option (List AV)} {L:xC} {pv:PanicEntry} {c:Cnt} {A:List Nat} {D:Nat} {S0:Nat->Nat->Ent} {n:Int} {s:St} {o:AOper} {e:Eff}
theorem zIH (hc:c.d≠s.D) (hn:s.S c.d c.i=(c.g,c.ob n)) {dst:Option Nat} {op:AOp} (h:OpE (LocB P G pv c) s dst op e) (hz:∀f args,op≠ .callL f args) (hq:op.isPc=true\/∀u∈e.ups,u.1=s.D):
  (OpE (Loc P G) s dst op e/\∀u∈e.ups,u.1=s.D)\/
  ∃m,e.ups= [c.e m]/\(n < 0->m < 0)/\(0<=n->0<=m->OpE (Loc P G) s dst op e)/\(0<=n->m < 0->op.isPc=true/\∃e',OpE (Fk P G pv [c.e (-1)]) s dst op e'):=by
 have same:∀{M:List (Nat×Nat×Ent)} {m:Int},c.e m∈M->(∀m∈M,m.1<=s.D/\(m.1=s.D->m.2.1 < s.os.length)/\s.look m.1 m.2.1=m.2.2)->m=n:=by
  intro M m hm hM;have:=(hM _ hm).2.2;simp only[Cnt.e] at this;rw[St.look,yRN hc,hn] at this;injection this with _ e';exact (c.inj _ _ e').symm
 have fk:∀{M:List (Nat×Nat×Ent)} {m:Int} {f args},c.e m∈M->LocP P G pv (s.D+1) f args M [c.e (-1)]->Fk P G pv [c.e (-1)] (s.D+1) f args M ud []:=by
  intro M m f args hm hp;refine ⟨rfl,rfl,fun u hu=> ?_,hp⟩;obtain rfl:=yOG.1 hu;exact ⟨yOF.2 ⟨_,hm,rfl⟩,c.live _⟩
 cases h with
 | op h=>exact .inl ⟨.op h,hq.resolve_left fun hp=>by cases op<;>simp[AOp.isPc] at hp<;>simp[opf] at h⟩
 | own h=>exact .inl ⟨.own h,hq.resolve_left fun hp=>by cases op<;>simp[AOp.isPc] at hp<;>simp[opfO] at h⟩
 | plc h=>exact .inl ⟨.plc h,hq.resolve_left fun hp=>by cases op<;>simp[AOp.isPc] at hp<;>simp[opfP] at h⟩
 | comm h=>exact .inl ⟨.comm h,hq.resolve_left fun hp=>by cases op<;>simp[AOp.isPc] at hp<;>simp[opfC] at h⟩
 | emp h1 h2=>exact .inl ⟨.emp h1 h2,hq.resolve_left fun hp=>by simp[AOp.isPc] at hp⟩
 | callL=>exact absurd rfl (hz _ _)
 | yld hx hL hM hdl=>
  rcases hL with ⟨hl,h1,h2⟩ | ⟨h0,_⟩
  ·exact .inl ⟨.yld hx hl hM hdl,fun u hu=>by have:=h2 u hu;omega⟩
  ·exact absurd rfl h0
 | call hf hL hM hdl=>
  rcases hL with ⟨hl,h1,h2⟩ | ⟨_,m,m',hm,rfl,k1,k2,k3⟩
  ·exact .inl ⟨.call hf hl hM hdl,fun u hu=>by have:=h2 u hu;omega⟩
  ·obtain rfl:=same hm hM;exact .inr ⟨m',rfl,k1,fun q1 q2=> .call hf (k2 q1 q2) hM hdl,fun q1 q2=>⟨rfl,_,.call hf (fk hm (k3 q1 q2)) hM (by simp)⟩⟩
 | callv hf hx hL hM hdl=>
  rcases hL with ⟨hl,h1,h2⟩ | ⟨_,m,m',hm,rfl,k1,k2,k3⟩
  ·exact .inl ⟨.callv hf hx hl hM hdl,fun u hu=>by have:=h2 u hu;omega⟩
  ·obtain rfl:=same hm hM;exact .inr ⟨m',rfl,k1,fun q1 q2=> .callv hf hx (k2 q1 q2) hM hdl,fun q1 q2=>⟨rfl,_,.callv hf hx (fk hm (k3 q1 q2)) hM (by simp)⟩⟩
 | callm hf hx hL hM hdl=>
  rcases hL with ⟨hl,h1,h2⟩ | ⟨_,m,m',hm,rfl,k1,k2,k3⟩
  ·exact .inl ⟨.callm hf hx hl hM hdl,fun u hu=>by have:=h2 u hu;omega⟩
  ·obtain rfl:=same hm hM;exact .inr ⟨m',rfl,k1,fun q1 q2=> .callm hf hx (k2 q1 q2) hM hdl,fun q1 q2=>⟨rfl,_,.callm hf hx (fk hm (k3 q1 q2)) hM (by simp)⟩⟩
theorem zII (ho:okO A o=true) (f args):o.op≠ .callL f args:=by
 obtain ⟨od,op,og⟩:=o;rintro rfl;simp[okO] at ho
theorem g6 (hcD:c.d≠D) (hI:InvN c A D S0 n s) {dst:Option Nat} (hd:o.dst=dst) (h:OpE (LocB P G pv c) s dst o.op e) (hz:Zp A D o e):
  ∃m,InvN c A D S0 m (s.app dst e)/\(n < 0->m < 0)/\(0<=n->0<=m->OpE (Loc P G) s dst o.op e)/\(0<=n->m < 0->o.op.isPc=true/\∃e',OpE (Fk P G pv [c.e (-1)]) s dst o.op e'):=by
 subst hd;rcases zIH (by rw[hI.hD];exact hcD) hI.hn h (zII hz.1) (by rw[hI.hD];exact hz.2.2) with ⟨h1,h2⟩ | ⟨m,h1,h2,h3,h4⟩
 ·rw[hI.hD] at h2;exact ⟨n,(hI.app hcD hz).1 h2,id,fun _ _=>h1,fun q1 q2=>by omega⟩
 ·exact ⟨m,(hI.app hcD hz).2 m h1,h2,h3,h4⟩
theorem zCM (hcD:c.d≠D) (hI:InvN c A D S0 n s) (hn:0<=n) (h:Good (LocB P G pv c) s o e) (hz:Zp A D o e):
  (Good (Loc P G) s o e/\∃m,0<=m/\InvN c A D S0 m (s.app o.dst e))\/(gate s o.guard=some true/\o.op.isPc=true/\∃e',OpE (Fk P G pv [c.e (-1)]) s o.dst o.op e'):=by
 rcases h with ⟨h1,h2⟩ | ⟨h1,rfl⟩
 ·obtain ⟨m,k1,k2,k3,k4⟩:=g6 hcD hI rfl h2 hz;by_cases hm:0<=m
  ·exact .inl ⟨.inl ⟨h1,k3 hn hm⟩,m,hm,k1⟩
  ·exact .inr ⟨h1,k4 hn (by omega)⟩
 ·exact .inl ⟨.inr ⟨h1,rfl⟩,n,hn,(hI.app hcD hz).1 fun u hu=>by cases hu⟩
variable {prot:Nat->Prop} {w0:World} {E0 E:GE} {w:World} {a:Act} {gops:Array Oper}
def PanR (P:Program) (G:Nat->Option (List AV)) (pv:PanicEntry) (prot:Nat->Prop) (w0:World) (E0 E:GE) (gops:Array Oper) (D:Nat) (Sf:Nat->Nat->Ent) (ds:List Deferred) (todo:List Nat) (a:Act) (w:World):Prop:=
 ∀b:Frame,b.kind≠ .early->∀(k:List Item) (cs:List Frame),∃a' rest w' E' s',Steps P (lone (b.atR a (.inRegion gops todo::k)) cs w) (lone {b.atR a' (.inRegion gops rest::k) with mode:= .panicking [pv]} cs w')/\
  GE.leD D E E'/\Ok G prot w0 E0 E' w' s' a'.tmps/\a'.defers=ds/\s'.D=D/\∀d i,d≠D->s'.S d i=Sf d i
def Cnt.fin (c:Cnt) (S0:Nat->Nat->Ent):Nat->Nat->Ent:=updS S0 c.d c.i (c.g,c.ob (-1))
theorem zBU (hcD:c.d≠D) (hI:InvN c A D S0 n s) {E1:GE} (hle:GE.leD D E E1) (h:Ok G prot w0 E0 E1 w s a.tmps) {ds:List Deferred} (hd:a.defers=ds) {i:Nat} {go:Oper} (hi:gops[i]?=some go) (hco:xK P G L gops go=some o)
  (hp:gate s o.guard=some true/\o.op.isPc=true/\∃e',OpE (Fk P G pv [c.e (-1)]) s o.dst o.op e') (rest:List Nat):PanR P G pv prot w0 E0 E gops D (c.fin S0) ds (i::rest) a w:=by
 intro b hb k cs;obtain ⟨p1,p2,e',p3⟩:=hp;obtain ⟨w2,E2,s2,st2,le2,ok2,rfl⟩:=zPW (b:=b) (k:=k) (cs:=cs) (rest:=rest) h hi (qX h hco _ p1) (sK hco).1 p2 p3;rw[hI.hD] at le2;have hD:([c.e (-1)].foldl St.up s).D=D:=by
  rw[yOI,yOQ];exact hI.hD▸(St.up_D s _)
 refine ⟨a,_,w2,E2,_,st2,GE.leD_trans hle le2,ok2,hd,hD,fun d j hne=> ?_⟩;have:([c.e (-1)].foldl St.up s).S d j=([c.e (-1)].foldl St.up s).look d j:=by rw[St.look,yRN (by rw[hD];exact hne)]
 rw[this,yOI,yOQ,lG,Cnt.fin];unfold updS;by_cases hh:d=c.d/\j=c.i
 ·rw[yRO ⟨hh,fun e=>absurd (e.trans hI.hD) hcD⟩,yRO hh];rfl
 ·rw[yRN (fun q=>hh q.1),yRN hh,St.look,yRN (by rw[hI.hD];exact hne)];exact hI.hS d j hne (fun q=>hh ⟨congrArg Prod.fst q,congrArg Prod.snd q⟩)
theorem PanR.step {ds:List Deferred} {i:Nat} {rest:List Nat} {Sf:Nat->Nat->Ent} (h:OpS P gops i a w fun a' w'=>PanR P G pv prot w0 E0 E gops D Sf ds rest a' w'):PanR P G pv prot w0 E0 E gops D Sf ds (i::rest) a w:=by
 intro b hb k cs;obtain ⟨a1,w1,h1,s1⟩:=h b hb k cs rest;obtain ⟨a',r,w',E',s',q1,q2⟩:=h1 b hb k cs;exact ⟨a',r,w',E',s',s1.trans q1,q2⟩
def Zall (A:List Nat) (D:Nat) (l:List AOper) (es:List Eff):Prop:=∀j,j < l.length->Zp A D (l.getD j default) (es.getD j ({}:Eff))
theorem Zall.cons {l:List AOper} {es:List Eff} (h1:Zp A D o e) (h2:Zall A D l es):Zall A D (o::l) (e::es):=by
 intro j hj;cases j with
 | zero=>exact h1
 | succ j=>exact h2 j (by simpa using hj)
theorem zTI {ds:List Deferred} (hcD:c.d≠D) {l:List AOper} {es:List Eff} {s':St} (hr:OpsE (LocB P G pv c) l s es s'):∀{todo:List Nat} {a:Act} {w:World} {E1:GE} {n:Int},CompL P G L gops todo l->Zall A D l es->InvN c A D S0 n s->0<=n->
  (∃m,m < 0/\InvN c A D S0 m s')->GE.leD D E E1->Ok G prot w0 E0 E1 w s a.tmps->a.defers=ds->PanR P G pv prot w0 E0 E gops D (c.fin S0) ds todo a w:=by
 have go:∀{o:AOper} {l:List AOper} {s s':St} {e:Eff} {es:List Eff} (_:Good (LocB P G pv c) s o e)
   (_:∀{todo:List Nat} {a:Act} {w:World} {E1:GE} {n:Int},CompL P G L gops todo l->Zall A D l es->InvN c A D S0 n (s.app o.dst e)->0<=n->(∃m,m < 0/\InvN c A D S0 m s')->GE.leD D E E1->Ok G prot w0 E0 E1 w (s.app o.dst e) a.tmps->a.defers=ds->PanR P G pv prot w0 E0 E gops D (c.fin S0) ds todo a w)
   {todo:List Nat} {a:Act} {w:World} {E1:GE} {n:Int},CompL P G L gops todo (o::l)->Zall A D (o::l) (e::es)->InvN c A D S0 n s->0<=n->(∃m,m < 0/\InvN c A D S0 m s')->GE.leD D E E1->Ok G prot w0 E0 E1 w s a.tmps->a.defers=ds->PanR P G pv prot w0 E0 E gops D (c.fin S0) ds todo a w:=by
  intro o l s s' e es hg ih todo a w E1 n hcl hz hI hn hm hle hok hd;cases hcl with
  | cons hi hco hcl=>
   rcases zCM hcD hI hn hg (hz 0 (by simp)) with ⟨k1,m,k2,k3⟩ | hp
   ·refine PanR.step (vY hok hi hco k1 fun a' w' hp=> ?_);obtain ⟨E',hle',hok',hd'⟩:=hp;rw[hI.hD] at hle';exact ih hcl (fun j hj=>hz (j+1) (by simpa using hj)) k3 k2 hm (GE.leD_trans hle hle') hok' (hd'.trans hd)
   ·exact zBU hcD hI hle hok hd hi hco hp _
 induction hr with
 | nil=>
  intro todo a w E1 n _ _ hI hn ⟨m,hm,hI'⟩;exact absurd (hI.uniq hI') (by omega)
 | on h1 h2 _ ih=>exact fun hcl=>go (.inl ⟨h1,h2⟩) ih hcl
 | off h1 _ ih=>exact fun hcl=>go (.inr ⟨h1,rfl⟩) ih hcl
theorem zEG {ds:List Deferred} (hcD:c.d≠D) {l:List AOper} (hc:yQ P G L gops gops.toList=some l) {ps:List (Nat×Nat)} (hps:uJ gops l=some ps) (h:Ok G prot w0 E0 E w s a.tmps) {es:List Eff} {s':St} (hr:OpsE (LocB P G pv c) l s es s')
  (hap:∀p∈ps,(es.getD p.1 ({}:Eff)).apart (es.getD p.2 ({}:Eff))) (hz:Zall A D l es) (hI:InvN c A D S0 n s) (hn:0<=n) (hm:∃m,m < 0/\InvN c A D S0 m s') (hd:a.defers=ds) (t:Nat):
  PanR P G pv prot w0 E0 E gops D (c.fin S0) ds (Region.linearise.go .any gops gops.size t (yOH gops.size false) []) a w:=by
 refine rC hc hps h hr hap (I:=fun s=>∃m,0<=m/\InvN c A D S0 m s) ⟨n,hn,hI⟩ (Z:=Zp A D) hz
  (OpX:=fun i a w K=>(∀rest,PanR P G pv prot w0 E0 E gops D (c.fin S0) ds (i::rest) a w)\/OpS P gops i a w K)
  (W:=fun fuel listed a w=>∀t,PanR P G pv prot w0 E0 E gops D (c.fin S0) ds (Region.linearise.go .any gops fuel t listed []) a w) ?_ ?_ ?_ t
 ·rintro _ _ _ _ ⟨m,k1,k2⟩ _;obtain ⟨m',k3,k4⟩:=hm;exact absurd (k2.uniq k4) (by omega)
 ·intro fuel listed a1 w1 hrn hx t;simp only[Region.linearise.go];change PanR P G pv prot w0 E0 E gops D (c.fin S0) ds (match (Region.ready .any gops listed)[t % (Region.ready .any gops listed).length]? with
   | some i=>Region.linearise.go .any gops fuel (t / (Region.ready .any gops listed).length) (listed.setIfInBounds i true) [i]
   | none=>[].reverse) a1 w1
  cases hi:(Region.ready .any gops listed)[t % (Region.ready .any gops listed).length]? with
  | none=>
   have hnil:Region.ready .any gops listed= []:=by
    cases hr:Region.ready .any gops listed with
    | nil=>rfl
    | cons x xs=>
     rw[hr] at hi;have hlt:t % (x::xs).length < (x::xs).length:=Nat.mod_lt _ (by simp);simp at hi;simp at hlt;omega
   obtain ⟨⟨m,k1,k2⟩,_⟩:=hrn hnil;obtain ⟨m',k3,k4⟩:=hm;exact absurd (k2.uniq k4) (by omega)
  | some i=>
   simp only[];rw[linearise_go_acc,List.reverse_singleton,yOX];rcases hx i (List.mem_of_getElem? hi) with hp | hp
   ·exact hp _
   ·exact PanR.step (hp.mono fun a w k=>k _)
 ·intro E1 a1 w1 s1 i go ao e K ⟨m,k1,k2⟩ hle hD hdf hok hi hco hze hg hK;rw[hI.hD] at hle;rcases zCM hcD k2 k1 hg hze with ⟨q1,q2⟩ | hp
  ·exact .inr (vY hok hi hco q1 fun a' w' hp=>hK a' w' q2 hp)
  ·exact .inl fun rest=>zBU hcD k2 hle hok (hdf.trans hd) hi hco hp rest
end
section
variable {P:Program} {G:Nat->Option (List AV)} {L:xC} {pv:PanicEntry} {c:Cnt} {A:List Nat} {D:Nat} {S0:Nat->Nat->Ent} {md:Md} {Q:St->Prop}
def PM (P:Program) (G:Nat->Option (List AV)) (L:xC) (pv:PanicEntry) (c:Cnt) (A:List Nat) (D:Nat) (S0:Nat->Nat->Ent) (n:Int) (k:List AI) (s:St):Prop:=
 (∀l k',k= .ops l::k'->∃es s1 m,OpsE (LocB P G pv c) l s es s1/\Zall A D l es/\InvN c A D S0 m s1/\(0<=m->PanK P G L pv D (c.fin S0) k' s1))/\
 (∀ps l es k',k= .dr ps l es::k'->∃es' s1 m,OpsE (LocB P G pv c) l s es' s1/\Zall A D l es'/\(∀p∈ps,((es++es').getD p.1 ({}:Eff)).apart ((es++es').getD p.2 ({}:Eff)))/\InvN c A D S0 m s1/\(0<=m->PanK P G L pv D (c.fin S0) k' s1))/\
 (∀x k',k= .lp x::k'->0<=n->PanK P G L pv D (c.fin S0) (.c x:: .lp x::k') s)/\
 (0<=n->PanK P G L pv D (c.fin S0) k s)
theorem OpsE.pos {l s es s' n} (hcD:c.d≠D) (hr:OpsE (LocB P G pv c) l s es s') (hz:Zall A D l es) (hI:InvN c A D S0 n s):∃m,InvN c A D S0 m s'/\(0<=n->0<=m->OpsE (Loc P G) l s es s')/\(n < 0->m < 0):=by
 induction hr generalizing n with
 | nil=>exact ⟨n,hI,fun _ _=> .nil,id⟩
 | on h1 h2 _ ih=>
  obtain ⟨m,k1,k2,k3,_⟩:=g6 hcD hI rfl h2 (hz 0 (by simp));obtain ⟨m',j1,j2,j3⟩:=ih (fun j hj=>hz (j+1) (by simpa using hj)) k1;refine ⟨m',j1,fun q1 q2=> ?_,fun q=>j3 (k2 q)⟩;by_cases hm:0<=m
  ·exact .on h1 (k3 q1 hm) (j2 hm q2)
  ·exact absurd (j3 (by omega)) (by omega)
 | off h1 _ ih=>
  obtain ⟨m',j1,j2,j3⟩:=ih (fun j hj=>hz (j+1) (by simpa using hj)) ((hI.app hcD (hz 0 (by simp))).1 fun u hu=>by cases hu);exact ⟨m',j1,fun q1 q2=> .off h1 (j2 q1 q2),j3⟩
theorem yBQ (hm:PGood P) (hcD:c.d≠D) (hm1:md≠ .rn) (hm2:md≠ .pl) {nf:Int} (hQ:∀s',Q s'->s'.S c.d c.i=(c.g,c.ob nf)) {k:List AI} {s:St} (h:Rd (LocB P G pv c) md Q k s):
  k.all (okAI A)=true->∀n,InvN c A D S0 n s->(0<=nf->0<=n/\Run (Loc P G) Q k s)/\(nf < 0->PM P G L pv c A D S0 n k s):=by
 have hend:∀{n s},InvN c A D S0 n s->Q s->n=nf:=fun hI hq=>by
  have:=hI.hn.symm.trans (hQ _ hq);injection this with _ e;exact c.inj _ _ e
 -- items that are neither operations nor drawn ones
 have mk:∀{x k s n},(∀y,x≠ .lp y)->(∀l,x≠ .ops l)->(∀ps l es,x≠ .dr ps l es)->(0<=n->PanK P G L pv D (c.fin S0) (x::k) s)->PM P G L pv c A D S0 n (x::k) s:=
  fun h0 h1 h2 h3=>⟨fun l k' e=>absurd (List.cons.inj e).1 (h1 l),fun ps l es k' e=>absurd (List.cons.inj e).1 (h2 ps l es),fun y k' e=>absurd (List.cons.inj e).1 (h0 y),h3⟩
 have vac1:∀{l k s n},InvN c A D S0 n s->PanK P G L pv D (c.fin S0) (.ops l::k) s:=fun hI=>⟨hI.hD,fun _ _ _ _ hk=>by cases hk⟩;have vac2:∀{ps l es k s n},InvN c A D S0 n s->PanK P G L pv D (c.fin S0) (.dr ps l es::k) s:=fun hI=>⟨hI.hD,fun _ _ _ _ hk=>by cases hk⟩;have stepO:∀{o:AOper} {l:List AOper} {k:List AI} {s:St} {e:Eff} {n:Int},gate s o.guard=some true->OpE (LocB P G pv c) s o.dst o.op e->InvN c A D S0 n s->Zp A D o e->
   (∀m,InvN c A D S0 m (s.app o.dst e)->(0<=nf->0<=m/\Run (Loc P G) Q (.ops l::k) (s.app o.dst e))/\(nf < 0->PM P G L pv c A D S0 m (.ops l::k) (s.app o.dst e)))->
   (0<=nf->0<=n/\Run (Loc P G) Q (.ops (o::l)::k) s)/\(nf < 0->PM P G L pv c A D S0 n (.ops (o::l)::k) s):=by
  intro o l k s e n hg ho hI hz ih;obtain ⟨m,k1,k2,k3,_⟩:=g6 hcD hI rfl ho hz;obtain ⟨i1,i2⟩:=ih m k1;refine ⟨fun q=> ?_,fun q=>⟨fun l' k' he=> ?_,fun _ _ _ _ he=>(by injection he with e1 e2;cases e1),fun _ _ he=>(by injection he with e1 e2;cases e1),fun _=>vac1 hI⟩⟩
  ·obtain ⟨j1,j2⟩:=i1 q;have hn:0<=n:=by
    by_cases hn:0<=n
    ·exact hn
    ·exact absurd (k2 (by omega)) (by omega)
   exact ⟨hn,.opsOn hg (k3 hn j1) j2⟩
  ·injection he with e1 e2;injection e1 with e1;subst e1;subst e2;obtain ⟨es,s1,m',q1,q2,q3,q4⟩:=(i2 q).1 _ _ rfl;exact ⟨_,s1,m',.on hg ho q1,q2.cons hz,q3,q4⟩
 have stepD:∀{ps:List (Nat×Nat)} {o:AOper} {l:List AOper} {es:List Eff} {k:List AI} {s:St} {e:Eff} {n:Int},gate s o.guard=some true->OpE (LocB P G pv c) s o.dst o.op e->InvN c A D S0 n s->Zp A D o e->
   (∀m,InvN c A D S0 m (s.app o.dst e)->(0<=nf->0<=m/\Run (Loc P G) Q (.dr ps l (es++[e])::k) (s.app o.dst e))/\(nf < 0->PM P G L pv c A D S0 m (.dr ps l (es++[e])::k) (s.app o.dst e)))->
   (0<=nf->0<=n/\Run (Loc P G) Q (.dr ps (o::l) es::k) s)/\(nf < 0->PM P G L pv c A D S0 n (.dr ps (o::l) es::k) s):=by
  intro ps o l es k s e n hg ho hI hz ih;obtain ⟨m,k1,k2,k3,_⟩:=g6 hcD hI rfl ho hz;obtain ⟨i1,i2⟩:=ih m k1;refine ⟨fun q=> ?_,fun q=>⟨fun _ _ he=>(by injection he with e1 e2;cases e1),fun ps' l' es' k' he=> ?_,fun _ _ he=>(by injection he with e1 e2;cases e1),fun _=>vac2 hI⟩⟩
  ·obtain ⟨j1,j2⟩:=i1 q;have hn:0<=n:=by
    by_cases hn:0<=n
    ·exact hn
    ·exact absurd (k2 (by omega)) (by omega)
   exact ⟨hn,.drOn hg (k3 hn j1) j2⟩
  ·injection he with e1 e2;injection e1 with e1 e3 e4;subst e1;subst e2;subst e3;subst e4;obtain ⟨es',s1,m',q1,q2,q3,q4,q5⟩:=(i2 q).2.1 _ _ _ _ rfl;simp only[yOY,yOX] at q3;exact ⟨_,s1,m',.on hg ho q1,q2.cons hz,q3,q4,q5⟩
 have leaf:∀{x k0 k' s n},(∀y,x≠ .lp y)->(∀l,x≠ .ops l)->(∀ps l es,x≠ .dr ps l es)->(0<=nf->0<=n/\Run (Loc P G) Q k' s)/\(nf < 0->PM P G L pv c A D S0 n k' s)->(Run (Loc P G) Q k' s->Run (Loc P G) Q (x::k0) s)->(PanK P G L pv D (c.fin S0) k' s->PanK P G L pv D (c.fin S0) (x::k0) s)->
   (0<=nf->0<=n/\Run (Loc P G) Q (x::k0) s)/\(nf < 0->PM P G L pv c A D S0 n (x::k0) s):=
  fun h0 h1 h2 h3 h4 h5=>⟨fun q=>⟨(h3.1 q).1,h4 (h3.1 q).2⟩,fun q=>mk h0 h1 h2 fun hn=>h5 ((h3.2 q).2.2.2 hn)⟩
 induction h with
 | done hq=>exact fun _ n hI=>⟨fun q=>⟨by rw[hend hI hq];exact q,.done hq⟩,fun q=>⟨by simp,by simp,by simp,fun hn=>by rw[hend hI hq] at hn;omega⟩⟩
 | ret h1 hq=>exact fun _ n hI=>⟨fun q=>⟨by rw[hend hI hq];exact q,.ret hq⟩,fun q=>mk (by simp) (by simp) (by simp) fun hn=>by rw[hend hI hq] at hn;omega⟩
 | out h1=>exact absurd h1 hm1
 | outRet h1=>exact absurd h1 hm1
 | skip _ ih=>exact fun hk n hI=>leaf (by simp) (by simp) (by simp) (ih (by simpa[okAI,okAC] using hk) n hI) .skip PanK.skip
 | seq _ ih=>exact fun hk n hI=>leaf (by simp) (by simp) (by simp) (ih (by simpa[okAI,okAC,and_assoc] using hk) n hI) .seq PanK.seq
 | @cond c' a b k s t hc _ ih=>
  refine fun hk n hI=>leaf (by simp) (by simp) (by simp) (ih ?_ n hI) (.cond hc) (PanK.cond t hc);simp only[yOE,okAI,okAC,yOB] at hk|-;exact ⟨by cases t;exact hk.1.2;exact hk.1.1,hk.2⟩
 | condU hc _ _ ih1 ih2=>
  intro hk n hI;simp only[yOE,okAI,okAC,yOB] at hk ih1 ih2;have i1:=ih1 ⟨hk.1.1,hk.2⟩ n hI;have i2:=ih2 ⟨hk.1.2,hk.2⟩ n hI;exact ⟨fun q=>⟨(i1.1 q).1,.condU hc (i1.1 q).2 (i2.1 q).2⟩,fun q=>mk (by simp) (by simp) (by simp) fun hn=>PanK.condU hc ((i1.2 q).2.2.2 hn) ((i2.2 q).2.2.2 hn)⟩
 | block _ ih=>exact fun hk n hI=>leaf (by simp) (by simp) (by simp) (ih (by simpa[okAI,okAC] using hk) n hI) .block PanK.block
 | blk _ ih=>exact fun hk n hI=>leaf (by simp) (by simp) (by simp) (ih (by simpa[okAI,okAC] using hk) n hI) .blk PanK.blk
 | loop _ ih=>
  intro hk n hI;have i:=ih (by simpa[okAI,okAC] using hk) n hI;refine ⟨fun q=>⟨(i.1 q).1,?_⟩,fun q=>mk (by simp) (by simp) (by simp) fun hn=>PanK.loop ((i.2 q).2.2.1 _ _ rfl hn)⟩;have:=(i.1 q).2;cases this with
  | lp h=>exact .loop h
 | lp _ ih=>
  intro hk n hI;have i:=ih (by simpa[okAI,okAC] using hk) n hI;refine ⟨fun q=>⟨(i.1 q).1,.lp (i.1 q).2⟩,fun q=>⟨fun _ _ e=>(by injection e with e1 e2;cases e1),fun _ _ _ _ e=>(by injection e with e1 e2;cases e1),fun x k' e hn=> ?_,fun hn=>PanK.lp ((i.2 q).2.2.2 hn)⟩⟩;injection e with e1 e2;injection e1 with e1;subst e1;subst e2;exact (i.2 q).2.2.2 hn
 | exit hx _ ih=>exact fun hk n hI=>leaf (by simp) (by simp) (by simp) (ih (tL hx (by simpa[okAI,okAC] using hk)) n hI) (.exit hx) (PanK.exit hx)
 | region _ ih=>
  intro hk n hI;have i:=ih (by simpa[okAI,okAC] using hk) n hI;refine ⟨fun q=>⟨(i.1 q).1,.region (i.1 q).2⟩,fun q=>mk (by simp) (by simp) (by simp) fun hn=> ?_⟩;obtain ⟨es,s1,m,q1,q2,q3,q4⟩:=(i.2 q).1 _ _ rfl;refine ⟨hI.hD,fun prot w0 E0 kc hk b hb cs a w E hok=> ?_⟩;cases hk with
  | c hc hk'=>
   obtain ⟨id,gops,hco,⟨rfl,_⟩ | ⟨_,_,hx,_⟩⟩:=wS hc
   case inr=>cases hx
   by_cases hm':0<=m
   ·obtain ⟨m',j1,j2,_⟩:=q1.pos hcD q2 hI;have hmm:=j1.uniq q3;obtain ⟨a1,w1,⟨E1,hle,hok1,hd1⟩,har⟩:=pX (id:=id) hco hok (j2 hn (by omega)) (Q:=fun a' w'=>Post G prot w0 E0 E _ s1 a.defers a' w') (fun a' w' hp=>hp) b hb _ cs;obtain ⟨a2,todo,w2,E2,s2,r1,r2,r3⟩:=(q4 hm').2 prot w0 E0 _ hk' b hb cs a1 w1 E1 hok1;obtain ⟨r3,r4,r5⟩:=r3;exact ⟨a2,todo,w2,E2,s2,har.trans r1,GE.leD_trans (by rw[<-hI.hD];exact hle) r2,r3,r4.trans hd1,r5⟩
   ·have hcl:=vT (k:=0) hco (fun i o ho=>by simpa using ho);simp only[yPK] at hcl;rw[<-yPL] at hcl;obtain ⟨a',rest,w',E',s',r1,r2⟩:=zTI (E:=E) hcD q1 hcl q2 hI hn ⟨m,by omega,q3⟩ (GE.leD_refl _ _) hok rfl b hb _ cs;exact ⟨a',_,w',E',s',.head stepR_region r1,r2⟩
 | draw _ ih=>
  intro hk n hI;have i:=ih (by simpa[okAI,okAC] using hk) n hI;refine ⟨fun q=>⟨(i.1 q).1,.draw (i.1 q).2⟩,fun q=>mk (by simp) (by simp) (by simp) fun hn=> ?_⟩;obtain ⟨es,s1,m,q1,q2,hap,q3,q4⟩:=(i.2 q).2.1 _ _ _ _ rfl;simp only[List.nil_append] at hap;refine ⟨hI.hD,fun prot w0 E0 kc hk b hb cs a w E hok=> ?_⟩;cases hk with
  | c hc hk'=>
   obtain ⟨id,gops,hco,⟨_,hx⟩ | ⟨ps',rfl,hx,hps⟩⟩:=wS hc
   case inl=>cases hx
   injection hx with hx;subst hx;by_cases hm':0<=m
   ·obtain ⟨m',j1,j2,_⟩:=q1.pos hcD q2 hI;have hmm:=j1.uniq q3;obtain ⟨a1,w1,⟨E1,hle,hok1,hd1⟩,har⟩:=qC (id:=id) hm.1 hco hps hok (j2 hn (by omega)) hap (Q:=fun a' w'=>Post G prot w0 E0 E _ s1 a.defers a' w') (fun a' w' hp=>hp) b hb _ cs;obtain ⟨a2,todo,w2,E2,s2,r1,r2,r3⟩:=(q4 hm').2 prot w0 E0 _ hk' b hb cs a1 w1 E1 hok1;obtain ⟨r3,r4,r5⟩:=r3;exact ⟨a2,todo,w2,E2,s2,har.trans r1,GE.leD_trans (by rw[<-hI.hD];exact hle) r2,r3,r4.trans hd1,r5⟩
   ·have hok':=hok.world (w':={w with drawn:=w.drawn+1}) (fun _ _=>rfl) (yOK _) ⟨rfl,rfl,rfl⟩;obtain ⟨a',rest,w',E',s',r1,r2⟩:=zEG hcD hco hps hok' q1 hap q2 hI hn ⟨m,by omega,q3⟩ rfl (w.tape w.drawn (.order b.fn id)) b hb _ cs;have e:Region.schedule (P.follows .mixedOrders) gops (w.tape w.drawn (.order b.fn id))=Region.linearise.go .any gops gops.size (w.tape w.drawn (.order b.fn id)) (yOH gops.size false) []:=by
     simp only[Region.schedule,hm.1,Bool.true_or,if_true];rfl
    rw[<-e] at r1;exact ⟨a',_,w',E',s',.head stepR_region_draw r1,r2⟩
 | either=>intro hk;simp[okAI,okAC] at hk
 | opsNil _ ih=>
  intro hk n hI;have i:=ih (by simpa[okAI] using hk) n hI;exact ⟨fun q=>⟨(i.1 q).1,.opsNil (i.1 q).2⟩,fun q=>⟨fun l k' e=>(by
   injection e with e1 e2;injection e1 with e1;subst e1;subst e2;exact ⟨[],_,n,.nil,fun j hj=>by simp at hj,hI,(i.2 q).2.2.2⟩),fun _ _ _ _ e=>(by injection e with e1 e2;cases e1),fun _ _ he=>(by injection he with e1 e2;cases e1),fun _=>vac1 hI⟩⟩
 | opsOn h1 h2 _ ih=>
  intro hk n hI;simp only[yOE,okAI,yOB] at hk ih;exact stepO h1 (d8 h2) hI (yDM hm2 hI hk.1.1 h2).1 (ih ⟨hk.1.2,hk.2⟩)
 | opsCall h1 h2 _ ih=>
  intro hk n hI;simp only[yOE,okAI,yOB] at hk ih;exact stepO h1 (h2.op _) hI (zQC hk.1.1 h2.isCall) (ih ⟨hk.1.2,hk.2⟩)
 | opsApp _ h1 h2 _ ih=>
  intro hk n hI;simp only[yOE,okAI,yOB] at hk ih;exact stepO h1 h2.op hI (zQE hI hk.1.1 h2).1 (ih ⟨hk.1.2,hk.2⟩)
 | opsPl h=>exact absurd h hm2
 | opsOff h1 _ ih=>
  intro hk n hI;simp only[yOE,okAI,yOB] at hk ih;have i:=ih ⟨hk.1.2,hk.2⟩ n (hI.put hcD hk.1.1);refine ⟨fun q=>⟨(i.1 q).1,.opsOff h1 (i.1 q).2⟩,fun q=>⟨fun l' k' he=> ?_,fun _ _ _ _ he=>(by injection he with e1 e2;cases e1),fun _ _ he=>(by injection he with e1 e2;cases e1),fun _=>vac1 hI⟩⟩;injection he with e1 e2;injection e1 with e1;subst e1;subst e2;obtain ⟨es,s1,m',q1,q2,q3,q4⟩:=(i.2 q).1 _ _ rfl;exact ⟨_,s1,m',.off h1 (by rw[oU];exact q1),q2.cons (zTM hk.1.1),q3,q4⟩
 | drOn h1 h2 _ ih=>
  intro hk n hI;simp only[yOE,okAI,yOB] at hk ih;exact stepD h1 (d8 h2) hI (yDM hm2 hI hk.1.1 h2).1 (ih ⟨hk.1.2,hk.2⟩)
 | drCall h1 h2 _ ih=>
  intro hk n hI;simp only[yOE,okAI,yOB] at hk ih;exact stepD h1 (h2.op _) hI (zQC hk.1.1 h2.isCall) (ih ⟨hk.1.2,hk.2⟩)
 | drApp _ h1 h2 _ ih=>
  intro hk n hI;simp only[yOE,okAI,yOB] at hk ih;exact stepD h1 h2.op hI (zQE hI hk.1.1 h2).1 (ih ⟨hk.1.2,hk.2⟩)
 | drPl h=>exact absurd h hm2
 | drOff h1 _ ih=>
  intro hk n hI;simp only[yOE,okAI,yOB] at hk ih;have i:=ih ⟨hk.1.2,hk.2⟩ n (hI.put hcD hk.1.1);refine ⟨fun q=>⟨(i.1 q).1,.drOff h1 (i.1 q).2⟩,fun q=>⟨fun _ _ he=>(by injection he with e1 e2;cases e1),fun ps' l' es' k' he=> ?_,fun _ _ he=>(by injection he with e1 e2;cases e1),fun _=>vac2 hI⟩⟩;injection he with e1 e2;injection e1 with e1 e3 e4;subst e1;subst e2;subst e3;subst e4;obtain ⟨es',s1,m',q1,q2,q3,q4,q5⟩:=(i.2 q).2.1 _ _ _ _ rfl;simp only[yOY,yOX] at q3;exact ⟨_,s1,m',.off h1 (by rw[oU];exact q1),q2.cons (zTM hk.1.1),q3,q4,q5⟩
 | drNil hap _ ih=>
  intro hk n hI;have i:=ih (by simpa[okAI] using hk) n hI;rw[yOV] at hap;have hap':=fun p hp=>mN (hap p hp);exact ⟨fun q=>⟨(i.1 q).1,.drNil hap' (i.1 q).2⟩,fun q=>⟨fun _ _ e=>(by injection e with e1 e2;cases e1),fun ps l es k' e=>(by
   injection e with e1 e2;injection e1 with e1 e3 e4;subst e1;subst e2;subst e3;subst e4;exact ⟨[],_,n,.nil,fun j hj=>by simp at hj,by simpa using hap',hI,(i.2 q).2.2.2⟩),fun _ _ he=>(by injection he with e1 e2;cases e1),fun _=>vac2 hI⟩⟩
end
end Go.Ab
/- Contracts of functions that count. -/
namespace Go.Ab
open Go
section
variable {P:Program} {G:Nat->Option (List AV)} {L:xC} {pv:PanicEntry} {T:FuncId->Option FnC}
theorem mE (hm:PGood P) {f:FuncId} {fn:Func} {code:Code} {args:List AV} {M X:List (Nat×Nat×Ent)} {D:Nat}
  (hf : P.funcs[f]? = some fn) (hb : fn.body = some code) (hn : (fn.name == "runtime.NumGoroutine") = false)
  (h:∀S,(∀m∈M,m.1 < D/\S m.1 m.2.1=m.2.2)->∀(prot:Nat->Prop) (w0:World) (E0:GE) (b:Frame),b.kind≠ .early->∀(cs:List Frame) (a:Act) (w:World) (E:GE),Ok G prot w0 E0 E w (St.start fn.ntmps args D S) a.tmps->
   ∃a' todo w' E' s',Steps P (lone (b.atR a [.code code]) cs w) (lone {b.atR a' todo with mode:= .panicking [pv]} cs w')/\GE.leD D E E'/\Ok G prot w0 E0 E' w' s' a'.tmps/\a'.defers=a.defers/\s'.D=D/\∀d i,d≠D->s'.S d i=upds S X d i):LocP P G pv D f args M X:=by
 refine ⟨hm.ne hf,⟨fn,hf,by rw[hb];rfl,hn⟩,fun prot w0 E0 E w S vs hok hM cs=> ?_⟩
 let b:Frame:={(default:Frame) with fn:=f,kind:= .normal}
 let a:Act:={tmps:=vs++yOH (fn.ntmps - vs.size) undef,defers:=[]}
 have henter:Frame.enter P f vs .normal=b.atR a [.code code]:=by
  simp[Frame.enter,Frame.atR,hf,hb,b,a];try rfl
 obtain ⟨a',todo,w',E1,s',q1,q2,q3,q4,q5,q6⟩:=h S hM prot w0 E0 b (by simp[b]) cs a w E (tX fn.ntmps hok);rw[<-henter] at q1;have e4:=jG (r:= .tup []) (v:= .tuple #[]) (S':=upds S X) hok q2.1 q3 q5 (fun d i hd=>by rw[St.look,yRN (by rw[q5];exact hd)];exact q6 d i hd) n8 (fun z n ad cap h=>(h.dull nA).elim);exact ⟨.panicked [pv],w',_,⟨rfl,E.cut E1 D,fun b o x hx=>q2.1.1 _ _ _ hx,GE.leC_cut q2.1,fun d i g B hb=>q2.1.3 _ _ _ _ hb,e4⟩,q1,rfl,rfl,q4,fn,hf⟩
theorem wF (hm:PGood P) (hT:TOk P G L T) {f n:Nat} {ac:AC} {rs:List RV} {own:Bool} (hc:T f=some ⟨n,ac,rs,own⟩) (c:Cnt) (A:List Nat) {args:List AV} {M:List (Nat×Nat×Ent)} {r:AV} {D:Nat} {k k':Int} (md:Md)
  (hA:(okAC A ac&&Nat.ble args.length n&&A.all (fun j=>Nat.ble args.length j))=true) (hmd:md≠ .rn/\md≠ .pl) (hcM:c.e k∈M) (hcD:c.d < D) (hk:k < 0->k' < 0)
  (h:∀S,(∀m∈M,m.1 < D/\S m.1 m.2.1=m.2.2)->Rd (LocB P G pv c) md (RetM rs r D S [c.e k']) [.c ac] (stF n D (vH 0 args) (fun _=>(0,.dead)) S)):LocB P G pv c D f args M r [c.e k']:=by
 simp only[yOB] at hA;obtain ⟨⟨hA1,hl⟩,hA2⟩:=hA;obtain ⟨fn,code,t1,t2,t3,t4,t5,t6⟩:=hT f _ hc;have hne:c.d≠D:=by omega
 have key:∀S,(∀m∈M,m.1 < D/\S m.1 m.2.1=m.2.2)->(0<=k'->0<=k/\Run (Loc P G) (RetM rs r D S [c.e k']) [.c ac] (St.start fn.ntmps args D S))/\(k' < 0->PM P G L pv c A D S k [.c ac] (St.start fn.ntmps args D S)):=by
  intro S hS;have hst:St.start fn.ntmps args D S=stF n D (vH 0 args) (fun _=>(0,.dead)) S:=by rw[t6,wG _ _ _ _ (yOR hl)]
  rw[hst];refine yBQ hm hne hmd.1 hmd.2 (fun s' q=> ?_) (h S hS) (by simpa[okAI] using hA1) k ⟨rfl,fun j hj d i g x hr=> ?_,fun _ _ _ _=>rfl,(hS _ hcM).2⟩
  ·rw[q.2 _ _ hne];simp[upds,updS,Cnt.e]
  ·rw[r9] at hr;split at hr
   ·rw[eR,yRO (Nat.zero_le _),yOJ,List.getElem?_eq_none (by have:=yOR (yOV.1 hA2 j hj);omega)] at hr;cases hr
   ·cases hr
 refine .inr ⟨hm.ne t1,k,k',hcM,rfl,hk,fun h1 h2=> ?_,fun h1 h2=> ?_⟩
 ·exact nI (L:=L) hm t1 t2 t3 t4 t5 fun S hS=>((key S hS).1 h2).2
 ·refine mE hm t1 t2 t3 fun S hS prot w0 E0 b hb cs a w E hok=> ?_;obtain ⟨a',todo,w',E',s',q1,q2,q3,q4,q5,q6⟩:=((key S hS).2 h2).2.2.2 h1 |>.2 prot w0 E0 _ (.c t4 .nil) b hb cs a w E hok;exact ⟨a',todo,w',E',s',q1,q2,q3,q4,q5,q6⟩
theorem b7 {gops:Array Oper} {i:Nat} {o:Oper} {a:Act} {w w':World} {v:Value} (ho:gops[i]?=some o) (hg:o.guard=none) (hnd:∀c,o.op≠ .defer c) (hr:(execOp a.eval o).run P w= .ok (.value v) w'):OpS P gops i a w fun a' w''=>a'=a.put o.dst v/\w''=w':=by
 refine dD ho (by simp[Region.wanted,hg]) hnd ?_;unfold Oper.wp;rw[hr];exact ⟨rfl,rfl⟩
theorem zCU {a:Act} {i:Nat} {v:Value} (h:i < a.tmps.size):(a.put (some i) v).eval (.tmp i)=v:=by
 show (a.tmps.setIfInBounds i v).getD i undef=v
 simp[yOU,Array.getElem?_setIfInBounds_self_of_lt h]
theorem lB {E:GE}:Rel E (.agg []) (.agg #[]):= .agg [] [] rfl (by simp)
theorem zMZ (hm:PGood P) {f:FuncId} {fn:Func} {c0 c1 x:Code} {a0 a1:AC} {t i j id:Nat} {ty ty' tz:TypeId} {oa ob oc:Oper} {args:List AV} {M X:List (Nat×Nat×Ent)} {D:Nat}
  (hf : P.funcs[f]? = some fn) (hb : fn.body = some (.seq c0 (.seq c1 (.cond (.tmp t) (.region id #[oa,ob,oc] false) x)))) (hn : (fn.name == "runtime.NumGoroutine") = false) (h0 : comp P G L c0 = some a0) (h1 : comp P G L c1 = some a1) (hs : (tC a0 && tC a1) = true)
  (ha:oa.op= .build ty #[]/\oa.dst=some i/\oa.guard=none) (hob:ob.op= .makeInterface ty' (.tmp i)/\ob.dst=some j/\ob.guard=none) (hoc:oc.op= .panic (.tmp j)/\oc.guard=none)
  (ra:∀ρ w,(execOp ρ oa).run P w= .ok (.value (.agg #[])) w) (rb:∀ρ w,ρ (.tmp i)= .agg #[]->(execOp ρ ob).run P w= .ok (.value (.iface tz (.agg #[]))) w)
  (h:∀S,(∀m∈M,m.1 < D/\S m.1 m.2.1=m.2.2)->Rd (Loc P G) .im (fun s1=>Rd (Loc P G) .im (fun s'=>s'.rd t= .bool true/\i < s'.ts.length/\j < s'.ts.length/\∀d i,d≠D->s'.S d i=upds S X d i) [.c a1] s1) [.c a0] (St.start fn.ntmps args D S)):LocP P G ⟨.iface tz (.agg #[]),false,false⟩ D f args M X:=by
 refine mE hm hf hb hn fun S hS prot w0 E0 b hb cs a w E hok=> ?_;simp only[yOB] at hs;have hr:=((h S hS).run).straight (by simp[vU,hs]);obtain ⟨wy,todo,aa,ww,EE,ss,⟨⟨q0,q1⟩,qe⟩,z3,z4,z5,z6,z7⟩:=(w9 (L:=L) (prot:=prot) (w0:=w0) (E0:=E0) (kc0:=[.code (.seq c1 (.cond (.tmp t) (.region id #[oa,ob,oc] false) x))]) hm hr).1 _ (.c h0 .nil) b hb cs a w E hok;subst q0;have hr2:=(Rd.run q1).straight (by simp[vU,hs]);cases qe with
 | fall=>
 obtain ⟨wy,todo,a',w1,E',s',⟨⟨q0,q1⟩,qe⟩,q3,q4,q5,q6,q7⟩:=(w9 (L:=L) (prot:=prot) (w0:=w0) (E0:=E0) (kc0:=[.code (.cond (.tmp t) (.region id #[oa,ob,oc] false) x)]) hm hr2).1 _ (.c h1 .nil) b hb cs aa ww EE z5;subst q0
 replace q3:=(Steps.head stepR_seq (z3.trans (.head stepR_seq q3)))
 have zD:ss.D=D:=z7;rw[zD] at q4
 replace q4:=GE.leD_trans (show GE.leD D E EE from z4) q4
 replace q6:=q6.trans z6
 replace q7:=q7.trans z7
 obtain ⟨q1,k1,k2,k3⟩:=q1;cases qe with
 | fall=>
 have hv:a'.eval (.tmp t)= .bool true:=by
  have:=q5.rd t;rw[q1] at this;exact this.bool_inv
 have hsz:=q5.size;have r0:=ra a'.eval w1;obtain ⟨ha1,ha2,ha3⟩:=ha;obtain ⟨hb1,hb2,hb3⟩:=hob;obtain ⟨hc1,hc2⟩:=hoc;obtain ⟨_,u1,⟨rfl,e1⟩,s1⟩:=b7 (gops:= #[oa,ob,oc]) (i:=0) rfl ha3 (by simp[ha1]) r0 b hb [] cs [1,2];rw[e1] at s1;have r1:=rb (a'.put oa.dst (.agg #[])).eval w1 (by rw[ha2];exact zCU (by omega));obtain ⟨_,u2,⟨rfl,e2⟩,s2⟩:=b7 (gops:= #[oa,ob,oc]) (i:=1) rfl hb3 (by simp[hb1]) r1 b hb [] cs [2];rw[e2] at s2;have hok2:=(q5.putd oa.dst (a:= .agg []) (v:= .agg #[]) lB (by intro _ h;cases h)).putd ob.dst (a:= .ifc tz (.agg [])) (v:= .iface tz (.agg #[])) (.ifc _ _ _ lB) trivial;rw[<-xD,<-xD] at hok2;have ev:((a'.put oa.dst (.agg #[])).put ob.dst (.iface tz (.agg #[]))).eval (.tmp j)= .iface tz (.agg #[]):=by
  rw[hb2];refine zCU ?_;rw[xD,ha2];simp[putV];omega
 have hw:Region.wanted oc (yielded #[oa,ob,oc] ((a'.put oa.dst (.agg #[])).put ob.dst (.iface tz (.agg #[]))).tmps)=true:=by simp[Region.wanted,hc2]
 have hg:=stepGR_op (P:=P) (b:=b) (a:=(a'.put oa.dst (.agg #[])).put ob.dst (.iface tz (.agg #[]))) (k:=[]) (cs:=cs) (w:=w1) (rest:=[]) (ops:= #[oa,ob,oc]) (i:=2) rfl hw;rw[Oper.semAt_eq _ _ _ (by simp[hc1])] at hg;have hrun:(execOp ((a'.put oa.dst (.agg #[])).put ob.dst (.iface tz (.agg #[]))).eval oc).run P w1= .halt (.panic (.iface tz (.agg #[]))) w1:=by
  unfold execOp;rw[hc1];simp[ev,Instr.panic,goPanic]
 have hlast:step P (lone (b.atR ((a'.put oa.dst (.agg #[])).put ob.dst (.iface tz (.agg #[]))) (.inRegion #[oa,ob,oc] [2]::[])) cs w1)= .next (lone {b.atR ((a'.put oa.dst (.agg #[])).put ob.dst (.iface tz (.agg #[]))) (.inRegion #[oa,ob,oc] [2]::[]) with mode:= .panicking [⟨.iface tz (.agg #[]),false,false⟩]} cs w1):=by
  refine step_lone_go ?_;rw[hg,<-Frame.raise_atR];simp[stepG.apply,hrun]
 refine ⟨_,_,w1,E',_,((q3.trans (.one (stepR_cond hv))).trans (.head stepR_region s1)).trans (s2.trans (.one hlast)),q4,hok2,?_,?_,fun d i' hd=> ?_⟩
 ·rw[yX,yX];exact q6
 ·have:∀(s:St) o v,(s.put o v).D=s.D:=fun s o v=>by cases o<;>rfl
  rw[this,this];exact q7
 ·have:∀(s:St) o v,(s.put o v).S=s.S:=fun s o v=>by cases o<;>rfl
  rw[this,this];exact k3 d i' hd
end
end Go.Ab
/- A function whose first act is to defer a closure that recovers,where something panics. -/
namespace Go.Ab
open Go
def DefL (P:Program) (G:Nat->Option (List AV)) (pv:PanicEntry) (D:Nat) (g:FuncId) (args:List AV) (M dl:List (Nat×Nat×Ent)):Prop:=
 pI P g/\∀(prot:Nat->Prop) (w0:World) (E0 E:GE) (w:World) (S:Nat->Nat->Ent) (vs:Array Value),
  Ok G prot w0 E0 E w ⟨args,[],D,S⟩ vs->(∀m∈M,m.1 < D/\S m.1 m.2.1=m.2.2)->
  CallsD P g vs (.panicking [pv]) w fun e u' w'=>(∃v,e= .returned v)/\u'= .panicking [{v:=pv.v,recovered:=true}]/\zLU G prot w0 E0 E D S (.tup []) dl (.tuple #[]) w'
section
variable {P:Program} {G:Nat->Option (List AV)} {L:xC} {prot:Nat->Prop} {w0:World} {E0 E:GE} {w:World} {s:St} {a:Act} {gops:Array Oper}
theorem Ok.ev_ifc0 (h:Ok G prot w0 E0 E w s a.tmps) {k:Nat} {t:TypeId} (hk:s.rd k= .ifc t (.agg [])):a.eval (.tmp k)= .iface t (.agg #[]):=by
 have:=h.rd k;rw[hk] at this
 show a.tmps.getD k undef=_
 generalize a.tmps.getD k undef=v at this;cases this with
 | imm _ _ h=>cases h with
  | ifc _ _ v h=>cases h with
   | agg _ vs h1 h2=>obtain rfl:=yOZ h1.symm;rfl
 | ifc _ _ v h=>cases h with
  | imm _ _ h=>cases h with
   | agg _ vs h1 h2=>obtain rfl:=yOZ h1.symm;rfl
  | agg _ vs h1 h2=>obtain rfl:=yOZ h1.symm;rfl
theorem Ok.ev_bool (h:Ok G prot w0 E0 E w s a.tmps) {k:Nat} {b:Bool} (hk:s.rd k= .bool b):a.eval (.tmp k)= .bool b:=by
 have:=h.rd k;rw[hk] at this;exact this.bool_inv
theorem opV (h:Ok G prot w0 E0 E w s a.tmps) {i:Nat} {o:Oper} {v:Value} {av:AV} (ho:gops[i]?=some o) (hg:o.guard=none) (hnd:∀c,o.op≠ .defer c) (hr:(execOp a.eval o).run P w= .ok (.value v) w) (hrel:Rel E av v) (hd:av.dull):
  OpS P gops i a w fun a' w'=>Post G prot w0 E0 E s.D (s.put o.dst av) a.defers a' w':=
 (b7 ho hg hnd hr).mono fun a' w' ⟨h1,h2⟩=>⟨E,GE.leD_refl _ _,by rw[h1,h2,xD];exact h.putd _ hrel hd,by rw[h1];exact yX _ _ _⟩
def ChW (P:Program) (G:Nat->Option (List AV)) (gops:Array Oper) (is:List Nat) (Q:St->Prop) (s:St):Prop:=
 ∀{prot:Nat->Prop} {w0:World} {E0 E:GE} {w:World} {a:Act},Ok G prot w0 E0 E w s a.tmps->∀b:Frame,b.kind≠ .early->∀(k:List Item) (cs:List Frame) (rest:List Nat),∃s2 a' w',Q s2/\s2.D=s.D/\Post G prot w0 E0 E s.D s2 a.defers a' w'/\
  Steps P (lone (b.atR a (.inRegion gops (is++rest)::k)) cs w) (lone (b.atR a' (.inRegion gops rest::k)) cs w')
theorem ChW.nil {Q:St->Prop} (h:Q s):ChW P G gops [] Q s:=fun ho b hb k cs rest=>⟨s,_,_,h,rfl,⟨_,GE.leD_refl _ _,ho,rfl⟩,Steps.refl _ _⟩
theorem ChW.val {i:Nat} {is:List Nat} {o:Oper} (av:AV) {Q:St->Prop} (ho:gops[i]?=some o) (hg:o.guard=none) (hnd:∀c,o.op≠ .defer c) (hd:av.dull)
  (hr:∀{prot w0 E0 E w} {a:Act},Ok G prot w0 E0 E w s a.tmps->∃v,(execOp a.eval o).run P w= .ok (.value v) w/\Rel E av v) (hk:ChW P G gops is Q (s.put o.dst av)):ChW P G gops (i::is) Q s:=by
 intro prot w0 E0 E w a h b hb k cs rest;obtain ⟨v,h1,h2⟩:=hr h;obtain ⟨a1,w1,⟨E1,l1,o1,d1⟩,st1⟩:=opV h ho hg hnd h1 h2 hd b hb k cs (is++rest);obtain ⟨s2,a2,w2,q,e,⟨E2,l2,o2,d2⟩,st2⟩:=hk o1 b hb k cs rest;rw[put_D] at l2 e;exact ⟨s2,a2,w2,q,e,⟨E2,GE.leD_trans l1 l2,o2,d2.trans d1⟩,st1.trans st2⟩
theorem oZ {ops:Array Oper} {Q:Act->World->Prop}:∀(l:List Nat) (a:Act) (w:World),wpOpsS P ops Q l a w->∀(b:Frame),b.kind≠ .early->∀(rest:List Nat) (k:List Item) (cs:List Frame),
  ∃a' w',Q a' w'/\Steps P (lone (b.atR a (.inRegion ops (l++rest)::k)) cs w) (lone (b.atR a' (.inRegion ops rest::k)) cs w')
 | [],a,w,h,b,hb,rest,k,cs=>⟨a,w,h,Steps.refl _ _⟩
 | i::l,a,w,h,b,hb,rest,k,cs=>by
  obtain ⟨a1,w1,h1,s1⟩:=h b hb k cs (l++rest);obtain ⟨a2,w2,h2,s2⟩:=oZ l a1 w1 h1 b hb rest k cs;exact ⟨a2,w2,h2,s1.trans s2⟩
theorem ChW.rd {is js:List Nat} {l:List AOper} {Q:St->Prop} (hc:CompL P G L gops is l) (hr:Rd (Loc P G) .im (ChW P G gops js Q) [.ops l] s):ChW P G gops (is++js) Q s:=by
 intro prot w0 E0 E w a h b hb k cs rest;obtain ⟨es,s1,hops,hr1⟩:=zIF (hr.run) _ _ rfl;have hk:ChW P G gops js Q s1:=by
  generalize hkk:([]:List AI)=kk at hr1;cases hr1<;>first | (cases hkk;done) | assumption
 obtain ⟨a1,w1,⟨E1,l1,o1,d1⟩,st1⟩:=oZ is a w (b6 hops hc h (Q:=Post G prot w0 E0 E s.D s1 a.defers) fun a' w' hp=>hp) b hb (js++rest) k cs;obtain ⟨s2,a2,w2,q,e,⟨E2,l2,o2,d2⟩,st2⟩:=hk o1 b hb k cs rest;rw[dC hops] at l2 e;rw[yOY];exact ⟨s2,a2,w2,q,e,⟨E2,GE.leD_trans l1 l2,o2,d2.trans d1⟩,st1.trans st2⟩
theorem zJG (d:Nat) {t tz:TypeId} {ms v} (hu:P.underlying t=some (.interface ms)):(Op.equalIn (d+1) t (.iface tz v) .nilIface).run P w= .ok false w:=by simp[Op.equalIn,run_underlying hu]
theorem zEO {o:Oper} {ρ:Operand->Value} {t:TypeId} {x:Operand} {t' ms tz v} (hu:P.underlying t=some (.interface ms)) (h:o.op= .binOp .neq t x (.const .nilIface) t') (hx:ρ x= .iface tz v) (hc:ρ (.const .nilIface)= .nilIface):(execOp ρ o).run P w= .ok (.value (.bool true)) w:=by
 unfold execOp;rw[h];have h1:(Op.equalIn (9999+1) t (.iface tz v) Value.nilIface).run P w= .ok false w:=zJG 9999 hu;have h2:(eqGuard .neq t x (.const .nilIface) (.iface tz v) .nilIface).run P w= .ok () w:=by simp[eqGuard]
 have h3:(binOp .neq t (.iface tz v) .nilIface).run P w= .ok (.bool true) w:=by
  simp only[binOp,Op.equal,Op.maxDepth,yPA];refine (congrArg (fun r=>Result.andThen r _) h1).trans ?_;rfl
 simp only[hx,hc,yPA,h2,Result.andThen_ok,h3];rfl
theorem bS {o:Oper} {ρ} (h:o.op= .call ⟨.builtin .recover,#[],#[]⟩):(execOp ρ o).run P w= .ok .recover w:=by
 unfold execOp;rw[h];simp[resolve,invoke,builtin]
theorem zFQ {o:Oper} {ρ:Operand->Value} {x:Operand} {ty tl:TypeId} {v:Value} {u:TypeDesc} (hu:P.underlying tl=some u) (hn:∀ms,u≠ .interface ms) (h:o.op= .typeAssert x ty tl true) (hx:ρ x= .iface tl v):(execOp ρ o).run P w= .ok (.value (.tuple #[v,.bool true])) w:=by
 unfold execOp;rw[h];simp only[hx,Instr.typeAssert,yPA,run_underlying hu];cases u<;>first | exact absurd rfl (hn _) | simp
end
section
variable {P:Program} {G:Nat->Option (List AV)} {L:xC}
theorem ChW.region {gops:Array Oper} {Q:St->Prop} {s:St} (hc:ChW P G gops (List.range gops.size) Q s) {prot:Nat->Prop} {w0:World} {E0 E:GE} {w:World} {a:Act} (h:Ok G prot w0 E0 E w s a.tmps) (id:Nat) (b:Frame) (hb:b.kind≠ .early) (k:List Item) (cs:List Frame):
  ∃s2 a' w',Q s2/\s2.D=s.D/\Post G prot w0 E0 E s.D s2 a.defers a' w'/\Steps P (lone (b.atR a (.code (.region id gops false)::k)) cs w) (lone (b.atR a' k) cs w'):=by
 obtain ⟨s2,a',w',q,e,h1,h2⟩:=hc h b hb k cs [];rw[List.append_nil] at h2;exact ⟨s2,a',w',q,e,h1,.head stepR_region (h2.trans (.one stepR_region_end))⟩
theorem zUY (hm:PGood P) {g:FuncId} {fn:Func} {i0 i1 i2 i3:Nat} {o00 o01 o10 o11 o20 o21 o22 o23 o24 o25 o26 o27 o30 o31:Oper} {x r5:Code} {a5:AC} {ty tl t':TypeId} {ms} {u:TypeDesc} {pv:PanicEntry}
  (hf : P.funcs[g]? = some fn) (hn : (fn.name == "runtime.NumGoroutine") = false) (hres : fn.results = #[]) (hnt : fn.ntmps = 17) (hpv : pv = ⟨.iface tl (.agg #[]),false,false⟩)
  (hb:fn.body=some (.seq (.region i0 #[o00,o01] false) (.seq (.region i1 #[o10,o11] false) (.cond (.tmp 7) (.seq (.seq (.region i2 #[o20,o21,o22,o23,o24,o25,o26,o27] false) (.seq (.region i3 #[o30,o31] false) (.cond (.tmp 14) x .skip))) r5) .skip))))
  (hu:P.underlying ty=some (.interface ms)) (hul:P.underlying tl=some u) (hni:∀ms,u≠ .interface ms)
  (h00:o00.op= .call ⟨.builtin .recover,#[],#[]⟩/\o00.dst=some 5/\o00.guard=none) (h11:o11.op= .binOp .neq ty (.tmp 6) (.const .nilIface) t'/\o11.dst=some 7/\o11.guard=none) (h21:o21.op= .typeAssert (.tmp 9) ty tl true/\o21.dst=some 10/\o21.guard=none)
  (c0:yQ P G L #[o00,o01] [o01]=some [⟨some 2,.mov true (.t 5),none⟩]) (c1:yQ P G L #[o10,o11] [o10]=some [⟨some 6,.mov false (.t 2),none⟩])
  (c2:yQ P G L #[o20,o21,o22,o23,o24,o25,o26,o27] [o20]=some [⟨some 9,.mov false (.t 2),none⟩])
  (c3:yQ P G L #[o20,o21,o22,o23,o24,o25,o26,o27] [o22,o23,o24,o25,o26,o27]=some [⟨some 8,.mov true (.t 10),none⟩,⟨some 11,.extr false (.t 8) 0,none⟩,⟨some 12,.extr false (.t 8) 1,none⟩,⟨some 3,.alloc [],none⟩,⟨none,.store 0 (.t 3) (.t 11),none⟩,⟨some 4,.mov true (.t 12),none⟩])
  (c4:yQ P G L #[o30,o31] [o30,o31]=some [⟨some 13,.mov false (.t 4),none⟩,⟨some 14,.un .not (.t 13),none⟩]) (c5:comp P G L r5=some a5)
  {D:Nat} {p0 p1:AV} {M dl:List (Nat×Nat×Ent)}
  (h5:∀S τ ω,(∀m∈M,m.1 < D/\S m.1 m.2.1=m.2.2)->τ 0=p0->τ 1=p1->Rd (Loc P G) .im (fun s'=>∀d i,d≠D->s'.S d i=upds S dl d i) [.c a5] (stF 17 D τ ω S)):DefL P G pv D g [p0,p1] M dl:=by
 subst hpv;obtain ⟨h001,h002,h003⟩:=h00;obtain ⟨h111,h112,h113⟩:=h11;obtain ⟨h211,h212,h213⟩:=h21;refine ⟨⟨fn,hf,by rw[hb];rfl,hn⟩,fun prot w0 E0 E w S vs hok hM c cs hmode=> ?_⟩
 let b:Frame:={(default:Frame) with fn:=g,kind:= .deferred}
 have hbk:b.kind≠ .early:=by simp[b]
 have hbn:b.roundOf=none:=rfl
 let a:Act:={tmps:=vs++yOH (fn.ntmps - vs.size) undef,defers:=[]}
 have hst:=tX fn.ntmps hok;have hst0:St.start fn.ntmps [p0,p1] D S=stF 17 D (vH 0 [p0,p1]) (fun _=>(0,.dead)) S:=by rw[hnt,wG _ _ _ _ (by simp)]
 rw[hst0] at hst;have hval:∀{v:Value},v= .iface tl (.agg #[])->∀{E:GE},Rel E (.ifc tl (.agg [])) v:=fun e _=>by rw[e];exact .ifc _ _ _ lB
 -- recover
 let c':Frame:={c with mode:= .panicking [{v:= .iface tl (.agg #[]),recovered:=true}]}
 have hrec:recoverD (c::cs)=some (.iface tl (.agg #[]),c'::cs):=by
  simp only[recoverD,hmode];rfl
 have hfirst:Steps P (lone (b.atR a [.code (.region i0 #[o00,o01] false),.code (.seq (.region i1 #[o10,o11] false) (.cond (.tmp 7) (.seq (.seq (.region i2 #[o20,o21,o22,o23,o24,o25,o26,o27] false) (.seq (.region i3 #[o30,o31] false) (.cond (.tmp 14) x .skip))) r5) .skip))]) (c::cs) w)
   (lone (b.atR (a.put (some 5) (.iface tl (.agg #[]))) (.inRegion #[o00,o01] [1]::[.code (.seq (.region i1 #[o10,o11] false) (.cond (.tmp 7) (.seq (.seq (.region i2 #[o20,o21,o22,o23,o24,o25,o26,o27] false) (.seq (.region i3 #[o30,o31] false) (.cond (.tmp 14) x .skip))) r5) .skip))])) (c'::cs) w):=by
  refine .head stepR_region (.one (step_lone_go ?_));have hg:=stepGR_op (P:=P) (b:=b) (a:=a) (k:=[.code (.seq (.region i1 #[o10,o11] false) (.cond (.tmp 7) (.seq (.seq (.region i2 #[o20,o21,o22,o23,o24,o25,o26,o27] false) (.seq (.region i3 #[o30,o31] false) (.cond (.tmp 14) x .skip))) r5) .skip))]) (cs:=c::cs) (w:=w) (rest:=[1]) (ops:= #[o00,o01]) (i:=0) (o:=o00) rfl (by simp[Region.wanted,h003]);rw[Oper.semAt_eq _ _ _ (by simp[h001])] at hg;have hk:(b.atR a (.inRegion #[o00,o01] [0,1]::[.code (.seq (.region i1 #[o10,o11] false) (.cond (.tmp 7) (.seq (.seq (.region i2 #[o20,o21,o22,o23,o24,o25,o26,o27] false) (.seq (.region i3 #[o30,o31] false) (.cond (.tmp 14) x .skip))) r5) .skip))])).kind= .deferred:=rfl;have htr:=tryRecover_deferred hk (c::cs)
  have hfin:=Frame.finish_atR b a #[o00,o01] 0 [1] [.code (.seq (.region i1 #[o10,o11] false) (.cond (.tmp 7) (.seq (.seq (.region i2 #[o20,o21,o22,o23,o24,o25,o26,o27] false) (.seq (.region i3 #[o30,o31] false) (.cond (.tmp 14) x .skip))) r5) .skip))] (.iface tl (.agg #[]));have hr:=bS (P:=P) (w:=w) (ρ:=a.eval) h001;simp only[yOP,yPC,yOW,h002] at hfin;have e:List.range (#[o00,o01]:Array Oper).size= [0,1]:=rfl;rw[e,hg,<-hfin];simp only[Frame.atR,hbn] at htr|-;simp[stepG.apply,hr,htr,hrec]
 have ok1:Ok G prot w0 E0 E w (stF 17 D (upd (vH 0 [p0,p1]) 5 (.ifc tl (.agg []))) (fun _=>(0,.dead)) S) (a.put (some 5) (.iface tl (.agg #[]))).tmps:=by
  rw[xD,<-yE];exact hst.putd (some 5) (hval rfl) trivial
 -- what is left of the first region
 have l0:CompL P G L #[o00,o01] [1] [⟨some 2,.mov true (.t 5),none⟩]:=vT (k:=1) c0 (fun i o ho=>by cases i with | zero=>simpa using ho | succ i=>simp at ho);have r1:ChW P G #[o00,o01] [1] (fun s=>∃τ,s=stF 17 D τ (fun _=>(0,.dead)) S/\τ 0=p0/\τ 1=p1/\τ 2= .ifc tl (.agg [])) (stF 17 D (upd (vH 0 [p0,p1]) 5 (.ifc tl (.agg []))) (fun _=>(0,.dead)) S):=by
  refine ChW.rd (js:=[]) l0 ?_;simp;exact ChW.nil ⟨_,rfl,by simp[xL,left,vH],by simp[xL,left,vH],by simp[xL,left,vH]⟩
 obtain ⟨s1,a1,w1,⟨τ1,rfl,e10,e11,e12⟩,eD1,⟨E1,le1,ok1',d1⟩,st1⟩:=r1 ok1 b hbk [.code (.seq (.region i1 #[o10,o11] false) (.cond (.tmp 7) (.seq (.seq (.region i2 #[o20,o21,o22,o23,o24,o25,o26,o27] false) (.seq (.region i3 #[o30,o31] false) (.cond (.tmp 14) x .skip))) r5) .skip))] (c'::cs) []
 -- the second region
 have l1:CompL P G L #[o10,o11] [0] [⟨some 6,.mov false (.t 2),none⟩]:=vT (k:=0) c1 (fun i o ho=>by cases i with | zero=>simpa using ho | succ i=>simp at ho);have r2:ChW P G #[o10,o11] [0,1] (fun s=>∃τ,s=stF 17 D τ (fun _=>(0,.dead)) S/\τ 0=p0/\τ 1=p1/\τ 2= .ifc tl (.agg [])/\τ 7= .bool true) (stF 17 D τ1 (fun _=>(0,.dead)) S):=by
  refine ChW.rd (js:=[1]) l1 ?_;simp[e12];refine ChW.val (.bool true) rfl h113 (by simp[h111]) trivial (fun h=>⟨.bool true,?_,.imm _ _ (.bool _)⟩) ?_
  ·exact zEO hu h111 (h.ev_ifc0 (t:=tl) (by simp[r9,xL])) rfl
  ·rw[h112];refine ChW.nil ⟨_,yE _ _,?_,?_,?_,?_⟩<;>simp[xL,e10,e11,e12]
 obtain ⟨s2,a2,w2,⟨τ2,rfl,e20,e21,e22,e27⟩,eD2,⟨E2,le2,ok2,d2⟩,st2⟩:=r2.region ok1' i1 b hbk [.code (.cond (.tmp 7) (.seq (.seq (.region i2 #[o20,o21,o22,o23,o24,o25,o26,o27] false) (.seq (.region i3 #[o30,o31] false) (.cond (.tmp 14) x .skip))) r5) .skip)] (c'::cs);have hc1:=ok2.ev_bool (k:=7) (b:=true) (by simp[r9,e27])
 -- the third region
 have l2:CompL P G L #[o20,o21,o22,o23,o24,o25,o26,o27] [0] [⟨some 9,.mov false (.t 2),none⟩]:=vT (k:=0) c2 (fun i o ho=>by cases i with | zero=>simpa using ho | succ i=>simp at ho);have l3:CompL P G L #[o20,o21,o22,o23,o24,o25,o26,o27] [2,3,4,5,6,7] [⟨some 8,.mov true (.t 10),none⟩,⟨some 11,.extr false (.t 8) 0,none⟩,⟨some 12,.extr false (.t 8) 1,none⟩,⟨some 3,.alloc [],none⟩,⟨none,.store 0 (.t 3) (.t 11),none⟩,⟨some 4,.mov true (.t 12),none⟩]:=
  vT (k:=2) c3 (fun i o ho=>by rcases i with _ | _ | _ | _ | _ | _ | i<;>first | (simp at ho;done) | simpa using ho)
 have r3:ChW P G #[o20,o21,o22,o23,o24,o25,o26,o27] [0,1,2,3,4,5,6,7] (fun s=>∃τ ω,s=stF 17 D τ ω S/\τ 0=p0/\τ 1=p1/\τ 4= .bool true) (stF 17 D τ2 (fun _=>(0,.dead)) S):=by
  refine ChW.rd (js:=[1,2,3,4,5,6,7]) l2 ?_;simp[e22];refine ChW.val (.tup [.agg [],.bool true]) rfl h213 (by simp[h211]) (by intro b hb;simp at hb;rcases hb with rfl | rfl<;>trivial) (fun h=>⟨.tuple #[.agg #[],.bool true],?_,?_⟩) ?_
  ·exact zFQ hul hni h211 (h.ev_ifc0 (t:=tl) (by simp[r9,xL]))
  ·exact .tup [.agg [],.bool true] [.agg #[],.bool true] rfl (fun i c v hc hv=>by
    rcases i with _ | _ | i<;>simp at hc hv
    ·subst hc;subst hv;exact lB
    ·subst hc;subst hv;exact .imm _ _ (.bool _))
  ·rw[h212,yE];refine ChW.rd (js:=[]) l3 ?_;simp;exact ChW.nil ⟨_,⟨_,rfl⟩,by simp[xL,left,e20],by simp[xL,left,e21],by simp[xL,left]⟩
 obtain ⟨s3,a3,w3,⟨τ3,ω3,rfl,e30,e31,e34⟩,eD3,⟨E3,le3,ok3,d3⟩,st3⟩:=r3.region ok2 i2 b hbk [.code (.seq (.region i3 #[o30,o31] false) (.cond (.tmp 14) x .skip)),.code r5] (c'::cs)
 -- the fourth
 have l4:CompL P G L #[o30,o31] [0,1] [⟨some 13,.mov false (.t 4),none⟩,⟨some 14,.un .not (.t 13),none⟩]:=vT (k:=0) c4 (fun i o ho=>by rcases i with _ | _ | i<;>first | (simp at ho;done) | simpa using ho)
 have r4:ChW P G #[o30,o31] [0,1] (fun s=>∃τ ω,s=stF 17 D τ ω S/\τ 0=p0/\τ 1=p1/\τ 14= .bool false) (stF 17 D τ3 ω3 S):=by
  refine ChW.rd (js:=[]) l4 ?_;simp[e34];exact ChW.nil ⟨_,⟨_,rfl⟩,by simp[xL,e30],by simp[xL,e31],by simp[xL]⟩
 obtain ⟨s4,a4,w4,⟨τ4,ω4,rfl,e40,e41,e44⟩,eD4,⟨E4,le4,ok4,d4⟩,st4⟩:=r4.region ok3 i3 b hbk [.code (.cond (.tmp 14) x .skip),.code r5] (c'::cs);have hc2:=ok4.ev_bool (k:=14) (b:=false) (by simp[r9,e44])
 -- what is written
 obtain ⟨wy,todo,a5',w5,E5,s5,⟨q0,qe⟩,q3',q4,q5,q6,q7⟩:=(w9 (L:=L) (kc0:=[]) hm (h5 S τ4 ω4 hM e40 e41).run).1 _ (.c c5 .nil) b hbk (c'::cs) a4 w4 E4 ok4;obtain ⟨q1,q3⟩:(∀d i,d≠D->s5.S d i=upds S dl d i)/\Steps P (lone (b.atR a4 [.code r5]) (c'::cs) w4) (lone {b.atR a5' todo with mode:= .returning} (c'::cs) w5):=by
  cases qe with
  | fall=>exact ⟨q0,q3'.trans (.one (stepR_end hbn))⟩
  | ret k=>exact ⟨q0,q3'.trans (.one (stepR_ret hbn))⟩
  | exit _=>exact q0.elim
  | stop _ _=>exact q0.elim
 have henter:Frame.enter P g vs .deferred=b.atR a [.code (.seq (.region i0 #[o00,o01] false) (.seq (.region i1 #[o10,o11] false) (.cond (.tmp 7) (.seq (.seq (.region i2 #[o20,o21,o22,o23,o24,o25,o26,o27] false) (.seq (.region i3 #[o30,o31] false) (.cond (.tmp 14) x .skip))) r5) .skip)))]:=by
  simp[Frame.enter,Frame.atR,hf,hb,b,a];try rfl
 have hsteps:Steps P (lone (Frame.enter P g vs .deferred) (c::cs) w) (lone {b.atR a5' todo with mode:= .returning} (c'::cs) w5):=by
  rw[henter];refine (Steps.head stepR_seq hfirst).trans (st1.trans (.head stepR_region_end (.head stepR_seq (st2.trans (.head (stepR_cond hc1) ?_)))));refine .head stepR_seq (.head stepR_seq (st3.trans (.head stepR_seq (st4.trans (.head (stepR_cond hc2) (.head stepR_skip q3))))))
 have hds:a5'.defers= []:=by
  rw[q6,d4,d3,d2,d1];rfl
 have hsD:s5.D=D:=q7;have hle:E.le E5:=GE.le_trans (GE.le_trans (GE.le_trans (GE.le_trans le1.1 le2.1) le3.1) le4.1) q4.1;have e6:=jG (r:= .tup []) (v:= .tuple #[]) (S':=upds S dl) hok hle q5 hsD (fun d i hd=>by rw[St.look,yRN (by rw[hsD];exact hd)];exact q1 d i hd) n8 (fun z n ad cap h=>(h.dull nA).elim);refine ⟨.returned (.tuple #[]),_,w5,_,⟨⟨_,rfl⟩,rfl,E.cut E5 D,fun b o x hx=>hle.1 _ _ _ hx,GE.leC_cut hle,fun d i g B hb=>hle.3 _ _ _ _ hb,e6⟩,hsteps,rfl,rfl,hds,fn,hf,?_⟩;unfold results;rw[hres];simp
end
end Go.Ab
/- A function that defers a closure which recovers: what it returns where a call of its first region behind the deferral panics. -/
namespace Go.Ab
open Go
theorem CompL.split {P:Program} {G:Nat->Option (List AV)} {L:xC} {gops:Array Oper}:∀{l1:List AOper} {o:AOper} {l2:List AOper} {todo:List Nat},CompL P G L gops todo (l1++o::l2)->∃t1 i go t2,todo=t1++i::t2/\CompL P G L gops t1 l1/\gops[i]?=some go/\xK P G L gops go=some o
 | [],o,l2,todo,h=>by
  cases h with
  | cons h1 h2 h3=>exact ⟨[],_,_,_,rfl,.nil,h1,h2⟩
 | x::l1,o,l2,todo,h=>by
  cases h with
  | cons h1 h2 h3=>
   obtain ⟨t1,i,go,t2,rfl,q1,q2,q3⟩:=h3.split;exact ⟨_::t1,i,go,t2,rfl,.cons h1 h2 q1,q2,q3⟩
section
variable {P:Program} {G:Nat->Option (List AV)} {L:xC}
def zQH (P:Program) (G:Nat->Option (List AV)) (pv:PanicEntry) (g:FuncId) (cv:List AV) (rs:List RV) (o:AOper) (D:Nat) (S:Nat->Nat->Ent) (r:AV) (dl:List (Nat×Nat×Ent)) (s:St):Prop:=
 gate s o.guard=some true/\o.op.isPc=true/\∃X e,OpE (Fk P G pv X) s o.dst o.op e/\∃M' dl',DefL P G pv (D+1) g cv M' dl'/\
  (∀m∈M',m.1<=D/\(m.1=D->m.2.1 < (X.foldl St.up s).os.length)/\(X.foldl St.up s).look m.1 m.2.1=m.2.2)/\(∀u∈dl',(u.1,u.2.1)∈M'.map (fun m=>(m.1,m.2.1))/\u.2.2.2≠ .dead)/\
  resV (dl'.foldl St.up (X.foldl St.up s)) rs=some r/\∀d i,d≠D->(dl'.foldl St.up (X.foldl St.up s)).S d i=upds S dl d i
theorem iA (hm:PGood P) {f:FuncId} {fn:Func} {code:Code} {acr:AC} {l1 l2:List AOper} {o:AOper} {rs:List RV} {args:List AV} {M dl:List (Nat×Nat×Ent)} {r:AV} {l0 t g caps} {pv:PanicEntry}
  (hpv : pv.goexit = false) (hf : P.funcs[f]? = some fn) (hb : fn.body = some code) (hn : (fn.name == "runtime.NumGoroutine") = false) (hc : zJV P G L code = some (l0,t,g,caps,.seq (.region (l1 ++ o :: l2) none) acr)) (hrs : vP P fn.results.toList = some rs) (htn : t < fn.ntmps) (hge : pI P g) (cv : List AV)
  {D:Nat} (h:∀S,(∀m∈M,m.1 < D/\S m.1 m.2.1=m.2.2)->Rd (Loc P G) .im (fun s=>(caps.map fun x=>(s.ev x).strip)=cv/\Rd (Loc P G) .im (zQH P G pv g cv rs o D S r dl) [.c (.seq (.region [⟨some t,.mkfn g caps,none⟩] none) (.region l1 none))] s) [.c (.region l0 none)] (St.start fn.ntmps args D S)):
  Loc P G D f args M r dl:=by
 refine .inl ⟨hm.ne hf,?_⟩;refine ⟨⟨fn,hf,by rw[hb];rfl,hn⟩,fun prot w0 E0 E w S vs hok hM=> ?_⟩;intro cs;obtain ⟨c0,id,om,od,c2,rfl,hc0,hom,⟨tys,hod⟩,hgd,hdst,hc2⟩:=hU hc
 let b:Frame:={(default:Frame) with fn:=f,kind:= .normal}
 let a:Act:={tmps:=vs++yOH (fn.ntmps - vs.size) undef,defers:=[]}
 have henter:Frame.enter P f vs .normal=b.atR a [.code (.seq c0 (.seq (.region id #[om,od] false) c2))]:=by
  simp[Frame.enter,Frame.atR,hf,hb,b,a];try rfl
 have hbk:b.kind≠ .early:=by simp[b]
 have hbn:b.roundOf=none:=rfl;have dn:∀{Q:St->Prop} {s:St},Run (Loc P G) Q [] s->Q s:=by
  intro Q s hr;generalize hkk:([]:List AI)=kk at hr;cases hr<;>first | (cases hkk;done) | assumption
 -- the part before
 obtain ⟨es0,s1,ho0,hr1⟩:=tI ((h S hM).run);obtain ⟨hcv,hr1⟩:=dn hr1;obtain ⟨es1,s2,ho1,hr2⟩:=tI (bP hr1.run);obtain ⟨es2,s3,ho2,hr3⟩:=tI hr2;obtain ⟨p1,p2,X,e,p3,M',dl',p4,p5,p6,p7,p8⟩:=dn hr3;obtain ⟨id0,ops0,hco0,⟨rfl,_⟩ | ⟨_,_,hx,_⟩⟩:=wS hc0
 case inr=>cases hx
 have hst:=tX fn.ntmps hok;obtain ⟨a1,w1,⟨E1,hle1,hok1,hd1⟩,har1⟩:=pX (id:=id0) hco0 hst ho0 (Q:=fun a' w'=>Post G prot w0 E0 E (St.start fn.ntmps args D S).D s1 a.defers a' w') (fun a' w' hp=>hp) b hbk [.code (.seq (.region id #[om,od] false) c2)] cs
 -- the closure
 cases ho1 with
 | off hgt _=>simp[gate] at hgt
 | on hgt hop hrest=>
 cases hrest with
 | nil=>
 rename_i e1;obtain ⟨a2,w2,⟨E2,hle2,hok2,hd2⟩,har2⟩:=vY hok1 (gops:= #[om,od]) (i:=0) rfl hom (.inl ⟨hgt,hop⟩) (K:=fun a' w'=>Post G prot w0 E0 E1 s1.D (s1.app (some t) e1) a1.defers a' w') (fun a' w' hp=>hp) b hbk [.code c2] cs [1];have hD0:(St.start fn.ntmps args D S).D=D:=rfl;have hD1:s1.D=D:=(dC ho0).trans hD0;have hev:e1.val= .fn g cv:=by
  rw[<-hcv];cases hop with
  | op he=>simp only[opf] at he;injection he with he;subst he;rfl
  | own he=>simp[opfO] at he
  | plc he=>simp[opfP] at he
  | comm he=>simp[opfC] at he
 have hlt:t < s1.ts.length:=by
  rw[zPU ho0]
  show t < (St.start fn.ntmps args D S).ts.length
  simp only[St.start,yPG,yPH];omega
 obtain ⟨us,hval,husl,husr⟩:∃us:List Value,a2.tmps.getD t undef= .func (.func g) #[] us.toArray/\cv.length=us.length/\∀(i:Nat) (c:AV) (u:Value),cv[i]?=some c->us[i]?=some u->Rel E2 c u:=by
  have hrel:=hok2.rd t;have e:(s1.app (some t) e1).rd t=e1.val:=by
   rw[oT];simp[hlt]
  rw[e,hev] at hrel;exact hrel.fn_inv
 -- the deferred call
 let d:Deferred:={target:= .fn (.func g) us.toArray,args:= #[]}
 let a3:Act:=({a2 with defers:=d::a2.defers}:Act).put none undef
 have hdef:step P (lone (b.atR a2 (.inRegion #[om,od] [1]::[.code c2])) cs w2)= .next (lone (b.atR a3 (.inRegion #[om,od] []::[.code c2])) cs w2):=by
  have ho:(#[om,od]:Array Oper)[1]?=some od:=rfl;have hw:Region.wanted od (yielded #[om,od] a2.tmps)=true:=by simp[Region.wanted,hgd]
  have hgo:=stepGR_op (P:=P) (b:=b) (a:=a2) (k:=[.code c2]) (cs:=cs) (w:=w2) (rest:=[]) ho hw;have hsem:od.semAt b.roundOf a2.eval=execOp a2.eval od:=by rw[hbn];rfl
  rw[hsem] at hgo;have hev2:a2.eval (.tmp t)= .func (.func g) #[] us.toArray:=hval;have hr:(execOp a2.eval od).run P w2= .ok (.defer d) w2:=by
   unfold execOp;rw[hod];simp[resolve,hev2,Deferred.ofValue,d]
  refine step_lone_go ?_;have hfin:({b.atR a2 (.inRegion #[om,od] [1]::[.code c2]) with defers:=d::a2.defers}:Frame).finish undef=b.atR a3 (.inRegion #[om,od] []::[.code c2]):=by
   have:=Frame.finish_atR b {a2 with defers:=d::a2.defers} #[om,od] 1 [] [.code c2] undef;rw[ho] at this;simp only[yOW,hdst] at this;exact this
  rw[hgo];simp only[stepG.apply,Sem.runT_eq,hr,GStep.bare_after];exact congrArg (fun fr=>GStep.go {frame:=fr,callers:=cs,status:= .running,dying:=none} w2) hfin
 -- up to the call that panics
 have hok3:Ok G prot w0 E0 E2 w2 (s1.app (some t) e1) a3.tmps:=hok2;obtain ⟨cr,cx,rfl,hcr,hcx⟩:=fZ hc2;obtain ⟨idr,gops,hcs,⟨rfl,_⟩ | ⟨ps,_,hne,_⟩⟩:=wS hcr
 case inr=>cases hne
 have hcl:=vT (k:=0) hcs (fun i o ho=>by simpa using ho);simp only[yPK] at hcl;rw[<-yPL] at hcl;obtain ⟨t1,i,go,t2,ht,q1,q2,q3⟩:=hcl.split;obtain ⟨a4,w4,⟨E4,le4,ok4,d4⟩,st4⟩:=oZ t1 a3 w2 (b6 ho2 q1 hok3 (Q:=Post G prot w0 E0 E2 (s1.app (some t) e1).D s3 a3.defers) fun a' w' hp=>hp) b hbk (i::t2) [.code cx] cs;obtain ⟨w5,E5,s5,st5,le5,ok5,rfl⟩:=zPW (b:=b) (k:=[.code cx]) (cs:=cs) (rest:=t2) ok4 q2 (qX ok4 q3 _ p1) (sK q3).1 p2 p3;have hD3:s3.D=D:=by rw[dC ho2,uS,hD1]
 have hD5:(X.foldl St.up s3).D=D:=by
  have:∀(l:List (Nat×Nat×Ent)) (s:St),(l.foldl St.up s).D=s.D:=by
   intro l
   induction l with
   | nil=>intro s;rfl
   | cons u l ih=>intro s;rw[yOI,ih,St.up_D]
  rw[this,hD3]
 rw[uS,hD1] at le4;rw[hD3] at le5;have hds:a4.defers= [d]:=by
  rw[d4]
  show d::a2.defers= [d]
  rw[hd2,hd1]
 -- the closure recovers
 have le35:=GE.leD_trans le4 le5;obtain ⟨protc,hokc,hpost⟩:=pB (r:= .tup []) (dl:=dl') (args:=cv) (vs:=us.toArray) ok5 (by simpa using husl.symm) (fun i c v hc hv=>(husr i c v hc (by simpa using hv)).mono le35.1) (fun c hc=>by rw[<-hcv] at hc;obtain ⟨x,_,rfl⟩:=yOF.1 hc;exact AV.dull_strip _) (by rw[hD5];exact p5) p6 none [];have hcall:=p4.2 protc w5 E5 E5 w5 (X.foldl St.up s3).look us.toArray (by rw[hD5] at hokc;exact hokc) (fun m hm=>⟨by have:=(p5 m hm).1;omega,(p5 m hm).2.2⟩)
 let R:Ending->World->Prop:=fun e w'=>∃v E',e= .returned v/\(∀b o x,E.imm b o=some x->E'.imm b o=some x)/\GE.leC D E E'/\(∀d i g B,E.loc d i g=some B->E'.room B=E.room B)/\
   Ok G prot w0 E0 E' w' ⟨[r],[],D,upds S dl⟩ #[v]
 have hleE:E.le E5:=GE.le_trans (GE.le_trans hle1.1 hle2.1) le35.1;have hlv:Leaves P fn a4.tmps R [d] (.panicking [pv]) w5:=by
  refine ⟨by simp,.func g,us.toArray,g,us.toArray,rfl,?_,?_⟩
  ·show (invoke (.fn (.func g) us.toArray) #[]).run P w5=_
   simp only[invoke];rw[yW hge];simp
  ·intro c cs' hcm;obtain ⟨e,u',w',fr,⟨⟨v',rfl⟩,rfl,hp⟩,k2,k3,k4⟩:=hcall c cs' hcm;refine ⟨.returned v',_,_,fr,?_,k2,k3,k4⟩;obtain ⟨E6,l6,o6,d6⟩:=hpost _ _ (by rw[hD5];exact hp);obtain ⟨v,E7,j1,j2,j3,j4,s7,j5,j6,j7,j8,j9⟩:=mS o6 hrs (.inl (show resV ((X.foldl St.up s3).app none {val:= .tup [],ups:=dl',rd:=[]}) rs=some r from p7));have hs:settle (.panicking [{v:=pv.v,recovered:=true}])= .returning:=rfl
   show Leaves P fn a4.tmps R [] (settle (.panicking [{v:=pv.v,recovered:=true}])) w'
   rw[hs];rw[hD5] at l6;have hle7:E.le E7:=GE.le_trans hleE (GE.le_trans l6.1 j2);have hsD:((X.foldl St.up s3).app none {val:=AV.tup [],ups:=dl',rd:=[]}).D=D:=by rw[uS,hD5]
   refine ⟨v,j1,v,E.cut E7 D,rfl,fun b o x hx=>hle7.1 _ _ _ hx,GE.leC_cut hle7,fun d i g B hb=>hle7.3 d i g B hb,?_⟩;refine jG hok hle7 j5 (by rw[j7,hsD]) (fun d i hd=> ?_) (.imm _ _ j4) (fun z n ad cap ht=>(by obtain ⟨t,k⟩:=j9 z n ad cap ht;exact ⟨.t t,k,fun d i j e=>(by cases e)⟩));rw[j8 d i (by rw[hsD];exact hd),St.look,yRN (by rw[hsD];exact hd)];exact p8 d i hd
 obtain ⟨e,w'',fr',hR,k2,k3,k4⟩:=leaves_steps [d] (.panicking [pv]) w5 {b.atR a4 (.inRegion gops (i::t2)::[.code cx]) with mode:= .panicking [pv]} cs rfl hds rfl hf rfl hlv;have hsteps:Steps P (lone (Frame.enter P f vs .normal) cs w) (lone {b.atR a4 (.inRegion gops (i::t2)::[.code cx]) with mode:= .panicking [pv]} cs w5):=by
  rw[henter];refine .head stepR_seq (har1.trans (.head stepR_seq (.head stepR_region (har2.trans (.head hdef (.head stepR_region_end (.head stepR_seq (.head stepR_region ?_))))))));rw[ht];exact st4.trans st5
 exact ⟨e,w'',fr',hR,Comes.of_steps hsteps k2,k3,k4⟩
end
end Go.Ab
