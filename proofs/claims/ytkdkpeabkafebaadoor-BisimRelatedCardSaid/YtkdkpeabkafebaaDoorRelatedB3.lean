/- Calls; operations in the machine's words. -/
import Derived.Test.YtkdkpeabkafebaaDoorRelatedB2
open Array renaming getD_eq_getD_getElem?->yGZ, replicate->yHJ, getElem?_eq_some_iff->yHL, getElem?_eq_getElem->yHO, getElem?_replicate->yIF, getElem?_map->yIH, length_toList->yIR, getElem?_append_left->yJC
open Bool renaming and_eq_true->yHE, false_eq_true->yHK, or_eq_true->yHQ, not_eq_true'->yIS, not_false->yIV
open List renaming mem_map->yGT, mem_append->yGU, mem_singleton->yGV, getElem?_map->yGW, foldl_cons->yGY, mem_cons->yHA, mem_flatMap->yHB, getD_eq_getElem?_getD->yHC, map_congr_left->yHD, getElem?_eq_getElem->yHF, all_eq_true->yHG, range->yHH, mem_filter->yHI, length_cons->yHN, length_nil->yHP, getElem?_eq_some_iff->yHR, getElem?_cons_zero->yHS, getElem?_eq_none->yHV, mapM_cons->yHW, mem_range->yHX, getElem?_toArray->yHZ, singleton_append->yIA, getElem?_append_left->yIB, getElem?_append_right->yIC, filter_cons->yID, getElem?_replicate->yIG, getElem?_append->yIK, length_map->yIL, getElem?_set->yIM, getElem?_of_mem->yIN, mem_flatten->yIO, length_append->yIU, append_assoc->yJA, replicate->yJB, mem_cons_of_mem->yJD
open Nat renaming le_refl->yHM, lt_or_ge->yIE, max_eq_right->yIW, min_eq_left->yIX, max_eq_left->yIY, min_eq_right->yIZ
open Option renaming map_eq_some_iff->yGX, getD_some->yHU, map_some->yII, isSome_iff_exists->yIJ, isNone_iff_eq_none->yIP, bind_some->yIQ, mem_toList->yIT
open Go.Result renaming andThen_ok->yHY
open Go.Sem renaming run_bind->yHT
set_option linter.unusedVariables false
set_option linter.unusedSimpArgs false
namespace Go.Ab
open Go
section
variable {P:Program} {G:Nat->Option (List AV)} {L:xA} {prot:Nat->Prop} {w0:World} {E0 E:GE} {w:World} {s:St} {a:Act}
def Post (G:Nat->Option (List AV)) (prot:Nat->Prop) (w0:World) (E0 E:GE) (D:Nat) (s':St) (ds:List Deferred):Act->World->Prop:=
 fun a' w'=>∃E',E.leD D E'/\Ok G prot w0 E0 E' w' s' a'.tmps/\a'.defers=ds
theorem xO (a:Act) (dst:Option Nat) (v:Value):(a.put dst v).tmps=putV a.tmps dst v:=by cases dst<;>rfl
theorem yT (a:Act) (dst:Option Nat) (v:Value):(a.put dst v).defers=a.defers:=by cases dst<;>rfl
theorem iX (h:Ok G prot w0 E0 E w s a.tmps) {d:Nat} (hd:s.D < d) (i:Nat):(s.look d i).2= .dead:=by
 by_cases hne:(s.look d i).2= .dead
 ·exact hne
 ·obtain ⟨B,hb,_⟩:=h.objs d i hne;have:=(h.locs _ _ _ _ hb).1;omega
theorem n8 (S:Nat->Nat->Ent):∀(dl:List (Nat×Nat×Ent)) (d i:Nat),(∀u∈dl,(u.1,u.2.1)≠(d,i))->upds S dl d i=S d i:=by
 intro dl
 induction dl generalizing S with
 | nil=>intro d i _;rfl
 | cons u dl ih=>
  intro d i h;simp only[upds,yGY];have:=ih (updS S u.1 u.2.1 u.2.2) d i (fun v hv=>h v (by simp[hv]));simp only[upds] at this;rw[this];simp only[updS];rw[if_neg];intro e;exact h u (by simp) (by simp[e.1,e.2])
theorem zGA:∀(dl:List (Nat×Nat×Ent)) (s:St),(∀u∈dl,u.1=s.D->u.2.1 < s.os.length)->
  (∀d i,(dl.foldl St.up s).look d i=upds s.look dl d i)/\(dl.foldl St.up s).D=s.D/\(dl.foldl St.up s).ts=s.ts/\(dl.foldl St.up s).os.length=s.os.length:=by
 intro dl
 induction dl with
 | nil=>intro s _;exact ⟨fun _ _=>rfl,rfl,rfl,rfl⟩
 | cons u dl ih=>
  intro s h;obtain ⟨h1,h2,h3,h4⟩:=ih (s.up u) (fun v hv e=>by rw[St.up_oslen];exact h v (by simp[hv]) (by simpa using e));refine ⟨fun d i=> ?_,by simpa using h2,by simpa using h3,by rw[yGY,h4,St.up_oslen]⟩;have hf:(s.up u).look=updS s.look u.1 u.2.1 u.2.2:=by
   funext d i
   rw[St.look_up s u (h u (by simp))];rfl
  simp only[yGY,h1,upds,hf]
theorem gR (h:Ok G prot w0 E0 E w s a.tmps) {args:List AV} {M dl:List (Nat×Nat×Ent)} {r:AV} {vs:Array Value} (hsz:vs.size=args.length)
  (hrel:∀(i:Nat) (b:AV) (v:Value),args[i]?=some b->vs[i]?=some v->Rel E b v)
  (htips:∀(i:Nat) (b:AV) (v:Value) (z n:Nat) (ad:Addr) (cap:Nat),args[i]?=some b->vs[i]?=some v->Tipped b v z n ad cap->TipOk prot E w s ad z n cap/\∀l ad' z' n' cap',Hold E w s a.tmps l ad' z' n' cap'->ad'.block≠ad.block)
  (hsep:∀(i i':Nat) (b b':AV) (v v':Value) (z z' n n':Nat) (ad ad':Addr) (cap cap':Nat),args[i]?=some b->vs[i]?=some v->Tipped b v z n ad cap->args[i']?=some b'->vs[i']?=some v'->Tipped b' v' z' n' ad' cap'->ad.block=ad'.block->i=i') (hM:∀m∈M,m.1<=s.D/\(m.1=s.D->m.2.1 < s.os.length)/\s.look m.1 m.2.1=m.2.2)
  (hdl:∀u∈dl,(u.1,u.2.1)∈M.map (fun m=>(m.1,m.2.1))/\u.2.2.2≠ .dead) (dst:Option Nat) (rd:List (Nat×Nat)):
  ∃protc:Nat->Prop,Ok G protc w E E w ⟨args,[],s.D+1,s.look⟩ vs/\∀v w',zOE G protc w E E (s.D+1) s.look r dl v w'->Post G prot w0 E0 E s.D (s.app dst {val:=r,ups:=dl,rd:=rd}) a.defers (a.put dst v) w':=by
 let protc:Nat->Prop:=fun b=>b < w.heap.size/\(∀d i,¬Live E s d i b)/\(∀d i j ad z n cap,Hold E w s a.tmps (.o d i j) ad z n cap->ad.block≠b)/\
  ∀(i:Nat) (b':AV) (v:Value) (z n:Nat) (ad:Addr) (cap:Nat),args[i]?=some b'->vs[i]?=some v->Tipped b' v z n ad cap->ad.block≠b
 have hsub:∀b,prot b->protc b:=fun b hb=>⟨Nat.lt_of_lt_of_le (h.frame b hb).1 h.grow,fun d i hl=>by
   obtain ⟨B,h1,_,_,h4⟩:=h.objs d i hl.1;have:B=b:=by have:=hl.2;rw[h1] at this;exact Option.some.inj this
   subst this;exact h4 hb,
  fun d i j ad z n cap hh e=>(h.tips _ _ _ _ _ hh).notp (e▸hb),fun i b' v z n ad cap h1 h2 h3 e=>(htips i b' v z n ad cap h1 h2 h3).1.notp (e▸hb)⟩
 let sc:St:=⟨args,[],s.D+1,s.look⟩
 have hlk:∀d i,sc.look d i=if d=s.D+1 then (0,.dead) else s.look d i:=by
  intro d i;simp only[sc,St.look];split<;>simp
 have hdead:∀d i,(sc.look d i).2≠ .dead->d≠s.D+1/\sc.look d i=s.look d i:=by
  intro d i hne;rw[hlk] at hne|-;by_cases hd:d=s.D+1
  ·rw[if_pos hd] at hne;exact absurd rfl hne
  ·rw[if_neg hd] at hne|-;exact ⟨hd,rfl⟩
 have hlive:∀d i B,Live E sc d i B->Live E s d i B:=by
  intro d i B ⟨h1,h2⟩;obtain ⟨_,e⟩:=hdead d i h1;rw[e] at h1 h2;exact ⟨h1,h2⟩
 have hhold:∀l ad z n cap,Hold E w sc vs l ad z n cap->((∃d i j,l= .o d i j)/\Hold E w s a.tmps l ad z n cap)\/∃i b v,l= .t i/\args[i]?=some b/\vs[i]?=some v/\Tipped b v z n ad cap:=by
  intro l ad z n cap hh;cases hh with
  | t i a0 v0 ad z n cap h1 h2 h3=>exact .inr ⟨i,a0,v0,rfl,h1,h2,h3⟩
  | o d i j g cs z xs B arr el ad cap h1 h2 h3 h4 h5 h6=>
   obtain ⟨_,e⟩:=hdead d i (by rw[h1];simp);rw[e] at h1;exact .inl ⟨⟨d,i,j,rfl⟩,.o d i j g cs z xs B arr el ad cap h1 h2 h3 h4 h5 h6⟩
 have hokc:Ok G protc w E E w sc vs:=by
  refine ⟨hsz,hrel,h.imm,?_,h.rooms,?_,fun d i d' i' B h1 h2=>h.inj _ _ _ _ _ (hlive _ _ _ h1) (hlive _ _ _ h2),?_,?_,h.glob,fun b hb=>⟨hb.1,rfl⟩,yHM _,⟨rfl,rfl,rfl⟩,fun _ _ _=>rfl⟩
  ·intro d i g B hb;have:=h.locs d i g B hb;refine ⟨by simp only[sc];omega,?_,this.2.2⟩;rw[hlk,if_neg (by omega)];exact this.2.1
  ·intro d i hne;obtain ⟨_,e⟩:=hdead d i hne;rw[e] at hne|-;obtain ⟨B,h1,h2,h3,h4⟩:=h.objs d i hne;exact ⟨B,h1,h2,h3,fun hp=>hp.2.1 d i ⟨hne,h1⟩⟩
  ·intro l ad z n cap hh;rcases hhold _ _ _ _ _ hh with ⟨⟨d,i,j,rfl⟩,hh⟩ | ⟨i,b,v,rfl,q1,q2,q3⟩
   ·have k:=h.tips _ _ _ _ _ hh;exact ⟨k.spot,k.room,k.free,fun hp=>hp.2.2.1 _ _ _ _ _ _ _ hh rfl,fun d i hl=>k.noob d i (hlive _ _ _ hl)⟩
   ·have k:=(htips i b v z n ad cap q1 q2 q3).1;exact ⟨k.spot,k.room,k.free,fun hp=>hp.2.2.2 i b v z n ad cap q1 q2 q3 rfl,fun d i hl=>k.noob d i (hlive _ _ _ hl)⟩
  ·intro l l' ad ad' z z' n n' cap cap' hh hh' hb;rcases hhold _ _ _ _ _ hh with ⟨_,hh⟩ | ⟨i,b,v,rfl,q1,q2,q3⟩
   ·rcases hhold _ _ _ _ _ hh' with ⟨_,hh'⟩ | ⟨i',b',v',rfl,q1',q2',q3'⟩
    ·exact h.tinj _ _ _ _ _ _ _ _ _ _ hh hh' hb
    ·exact absurd hb ((htips i' b' v' z' n' ad' cap' q1' q2' q3').2 _ _ _ _ _ hh)
   ·rcases hhold _ _ _ _ _ hh' with ⟨_,hh'⟩ | ⟨i',b',v',rfl,q1',q2',q3'⟩
    ·exact absurd hb.symm ((htips i b v z n ad cap q1 q2 q3).2 _ _ _ _ _ hh')
    ·rw[hsep i i' b b' v v' z z' n n' ad ad' cap cap' q1 q2 q3 q1' q2' q3' hb]
 refine ⟨protc,hokc,?_⟩;rintro v w' ⟨E',himm,hloc,hroom,ho⟩;refine ⟨E',⟨⟨himm,hloc.1,hroom⟩,fun d i g B hb=>(hloc.2 d i g B hb).imp (fun e=>by omega) id⟩,?_,yT _ _ _⟩;have hle:E.le E':=⟨himm,hloc.1,hroom⟩
 -- sites of the changes
 have hsite:∀u∈dl,u.1<=s.D/\(u.1=s.D->u.2.1 < s.os.length):=by
  intro u hu;obtain ⟨m,hm,he⟩:=yGT.1 (hdl u hu).1;injection he with e1 e2;have:=hM m hm;rw[<-e1,<-e2];exact ⟨this.1,this.2.1⟩
 obtain ⟨hl2,hD2,hts2,hos2⟩:=zGA dl s (fun u hu=>(hsite u hu).2)
 let s2:=dl.foldl St.up s
 let sp:St:=⟨[r],[],s.D+1,upds s.look dl⟩
 have hlkp:∀d i,d≠s.D+1->sp.look d i=s2.look d i:=by
  intro d i hd;simp only[sp,St.look];rw[if_neg hd];exact (hl2 d i).symm
 have htop:∀i,(s2.look (s.D+1) i).2= .dead:=by
  intro i;have:s2.look (s.D+1) i=s.look (s.D+1) i:=by
   rw[show s2.look (s.D+1) i=upds s.look dl (s.D+1) i from hl2 _ _];refine n8 _ _ _ _ fun u hu e=> ?_;injection e with e1 e2;have:=(hsite u hu).1;omega
  rw[this];exact iX h (by omega) i
 have hne2:∀d i,(s2.look d i).2≠ .dead->d≠s.D+1:=fun d i hne e=>by subst e;exact hne (htop i)
 have hlive2:∀d i B,Live E' s2 d i B->Live E' sp d i B:=by
  intro d i B ⟨h1,h2⟩;have:=hne2 d i h1;refine ⟨by rw[hlkp d i this];exact h1,by rw[hlkp d i this];exact h2⟩
 -- a temporary's right to append
 have htmp:∀i ad z n cap,Hold E' w' s2 a.tmps (.t i) ad z n cap->Hold E w s a.tmps (.t i) ad z n cap/\protc ad.block:=by
  intro i ad z n cap hh;have hh0:Hold E w s a.tmps (.t i) ad z n cap:=by
   cases hh with
   | t i a0 v0 ad z n cap h1 h2 h3=>exact .t i a0 v0 ad z n cap (by rw[<-hts2];exact h1) h2 h3
  refine ⟨hh0,?_⟩;have k:=h.tips _ _ _ _ _ hh0;obtain ⟨arr,el,r1,_⟩:=k.room;exact ⟨yU r1,k.noob,fun d i' j ad' z' n' cap' hh' e=>(by have:=h.tinj _ _ _ _ _ _ _ _ _ _ hh0 hh' e.symm;cases this),
   fun i' b' v z' n' ad' cap' q1 q2 q3 e=>(htips i' b' v z' n' ad' cap' q1 q2 q3).2 _ _ _ _ _ hh0 e.symm⟩
 have hobj:∀d i j ad z n cap,Hold E' w' s2 a.tmps (.o d i j) ad z n cap->Hold E' w' sp #[v] (.o d i j) ad z n cap:=by
  intro d i j ad z n cap hh;cases hh with
  | o d i j g cs z xs B arr el ad cap h1 h2 h3 h4 h5 h6=>
   have:=hne2 d i (by rw[h1];simp);exact .o d i j g cs z xs B arr el ad cap (by rw[hlkp d i this];exact h1) h2 h3 h4 h5 h6
 have ok2:Ok G prot w0 E0 E' w' s2 a.tmps:=by
  refine ⟨by rw[show s2.ts=s.ts from hts2];exact h.size,fun i b u hb hu=>(h.rel i b u (by rw[<-hts2];exact hb) hu).mono hle,ho.imm,?_,ho.rooms,?_,?_,?_,?_,ho.glob,?_,Nat.le_trans h.grow ho.grow,
   ⟨ho.same.1.trans h.same.1,ho.same.2.1.trans h.same.2.1,ho.same.2.2.trans h.same.2.2⟩,fun b hb o=>(ho.ifr b (hsub b hb) o).trans (h.ifr b hb o)⟩
  ·intro d i g B hb;have k:=ho.locs d i g B hb;have hd:d<=s.D:=by
    rcases hloc.2 d i g B hb with e | hb
    ·omega
    ·exact (h.locs _ _ _ _ hb).1
   refine ⟨by rw[show s2.D=s.D from hD2];exact hd,?_,k.2.2⟩;rw[<-hlkp d i (by omega)];exact k.2.1
  ·intro d i hne;have hd:=hne2 d i hne;obtain ⟨B,h1,h2,h3,h4⟩:=ho.objs d i (by rw[hlkp d i hd];exact hne);rw[hlkp d i hd] at h1 h2;exact ⟨B,h1,h2,h3,fun hp=>h4 (hsub B hp)⟩
  ·intro d i d' i' B h1 h2;exact ho.inj _ _ _ _ _ (hlive2 _ _ _ h1) (hlive2 _ _ _ h2)
  ·intro l ad z n cap hh;cases l with
   | t i=>
    obtain ⟨hh0,hp⟩:=htmp i ad z n cap hh;have k:=h.tips _ _ _ _ _ hh0;obtain ⟨arr,el,r1,r2⟩:=k.room;refine ⟨k.spot,⟨arr,el,by rw[(ho.frame _ hp).2];exact r1,r2⟩,fun p hpp=>by rw[ho.ifr _ hp];exact k.free p hpp,k.notp,fun d i' hl=> ?_⟩;obtain ⟨B,h1,_,_,h4⟩:=ho.objs d i' (hlive2 _ _ _ hl).1;have:B=ad.block:=by have:=(hlive2 _ _ _ hl).2;rw[h1] at this;exact Option.some.inj this
    subst this;exact h4 hp
   | o d i j=>
    have k:=ho.tips _ _ _ _ _ (hobj _ _ _ _ _ _ _ hh);exact ⟨k.spot,k.room,k.free,fun hp=>k.notp (hsub _ hp),fun d' i' hl=>k.noob d' i' (hlive2 _ _ _ hl)⟩
  ·intro l l' ad ad' z z' n n' cap cap' hh hh' hb;cases l with
   | t i=>
    cases l' with
    | t i'=>exact h.tinj _ _ _ _ _ _ _ _ _ _ (htmp _ _ _ _ _ hh).1 (htmp _ _ _ _ _ hh').1 hb
    | o d i' j=>exact absurd (hb▸(htmp _ _ _ _ _ hh).2) (ho.tips _ _ _ _ _ (hobj _ _ _ _ _ _ _ hh')).notp
   | o d i j=>
    cases l' with
    | t i'=>exact absurd (hb▸(htmp _ _ _ _ _ hh').2) (fun hp=>(ho.tips _ _ _ _ _ (hobj _ _ _ _ _ _ _ hh)).notp (by rw[hb];exact (htmp _ _ _ _ _ hh').2))
    | o d' i' j'=>exact ho.tinj _ _ _ _ _ _ _ _ _ _ (hobj _ _ _ _ _ _ _ hh) (hobj _ _ _ _ _ _ _ hh') hb
  ·intro b hb;exact ⟨(h.frame b hb).1,((ho.frame b (hsub b hb)).2).trans (h.frame b hb).2⟩
 rw[xO];have hrv:Rel E' r v:=ho.rel 0 r v rfl rfl
 show Ok G prot w0 E0 E' w' ((dl.foldl St.up s).put dst r) _
 refine ok2.put dst hrv fun z n ad cap er=> ?_;have hh:Hold E' w' sp #[v] (.t 0) ad z n cap:= .t 0 r v ad z n cap rfl rfl er;have k:=ho.tips _ _ _ _ _ hh;refine ⟨⟨k.spot,k.room,k.free,fun hp=>k.notp (hsub _ hp),fun d' i' hl=>k.noob d' i' (hlive2 _ _ _ hl)⟩,fun l ad' z' n' cap' _ hh' e=> ?_⟩;cases l with
 | t i=>exact k.notp (e▸(htmp _ _ _ _ _ hh').2)
 | o d i j=>have:=ho.tinj _ _ _ _ _ _ _ _ _ _ (hobj _ _ _ _ _ _ _ hh') hh e;cases this
theorem rS {args:List AV} {vs:Array Value} (hdull:∀b∈args,b.dull) {i:Nat} {b:AV} {v:Value} {z n ad cap} (h1:args[i]?=some b) (ht:Tipped b v z n ad cap):False:=ht.dull (hdull b (zP h1))
theorem gQ (h:Ok G prot w0 E0 E w s a.tmps) {f:FuncId} {args:List AV} {M dl:List (Nat×Nat×Ent)} {r:AV} (hL:Loc0 P G (s.D+1) f args M r dl) {vs:Array Value} (hsz:vs.size=args.length)
  (hrel:∀(i:Nat) (b:AV) (v:Value),args[i]?=some b->vs[i]?=some v->Rel E b v)
  (htips:∀(i:Nat) (b:AV) (v:Value) (z n:Nat) (ad:Addr) (cap:Nat),args[i]?=some b->vs[i]?=some v->Tipped b v z n ad cap->TipOk prot E w s ad z n cap/\∀l ad' z' n' cap',Hold E w s a.tmps l ad' z' n' cap'->ad'.block≠ad.block)
  (hsep:∀(i i':Nat) (b b':AV) (v v':Value) (z z' n n':Nat) (ad ad':Addr) (cap cap':Nat),args[i]?=some b->vs[i]?=some v->Tipped b v z n ad cap->args[i']?=some b'->vs[i']?=some v'->Tipped b' v' z' n' ad' cap'->ad.block=ad'.block->i=i') (hM:∀m∈M,m.1<=s.D/\(m.1=s.D->m.2.1 < s.os.length)/\s.look m.1 m.2.1=m.2.2)
  (hdl:∀u∈dl,(u.1,u.2.1)∈M.map (fun m=>(m.1,m.2.1))/\u.2.2.2≠ .dead) (dst:Option Nat) (rd:List (Nat×Nat)):
  Calls P f vs w fun e w'=>∃v,e= .returned v/\Post G prot w0 E0 E s.D (s.app dst {val:=r,ups:=dl,rd:=rd}) a.defers (a.put dst v) w':=by
 obtain ⟨protc,hokc,hpost⟩:=gR (r:=r) h hsz hrel htips hsep hM hdl dst rd;refine (hL.2 protc w E E w s.look vs hokc (fun m hm=>⟨by have:=(hM m hm).1;omega,(hM m hm).2.2⟩)).mono ?_;rintro e w' ⟨v,E',rfl,himm,hloc,hroom,ho⟩;exact ⟨v,rfl,hpost v w' ⟨E',himm,hloc,hroom,ho⟩⟩
theorem eW (h:Ok G prot w0 E0 E w s a.tmps) {args:List AV} {M dl:List (Nat×Nat×Ent)} {r:AV} {vs:Array Value} (hsz:vs.size=args.length)
  (hrel:∀(i:Nat) (b:AV) (v:Value),args[i]?=some b->vs[i]?=some v->Rel E b v) (hdull:∀b∈args,b.dull) (hM:∀m∈M,m.1<=s.D/\(m.1=s.D->m.2.1 < s.os.length)/\s.look m.1 m.2.1=m.2.2)
  (hdl:∀u∈dl,(u.1,u.2.1)∈M.map (fun m=>(m.1,m.2.1))/\u.2.2.2≠ .dead) (dst:Option Nat) (rd:List (Nat×Nat)):
  ∃protc:Nat->Prop,Ok G protc w E E w ⟨args,[],s.D+1,s.look⟩ vs/\∀v w',zOE G protc w E E (s.D+1) s.look r dl v w'->Post G prot w0 E0 E s.D (s.app dst {val:=r,ups:=dl,rd:=rd}) a.defers (a.put dst v) w':=
 gR h hsz hrel (fun _ _ _ _ _ _ _ h1 _ ht=>(rS (vs:=vs) hdull h1 ht).elim) (fun _ _ _ _ _ _ _ _ _ _ _ _ _ _ h1 _ ht _ _ _ _=>(rS (vs:=vs) hdull h1 ht).elim) hM hdl dst rd
theorem sJ (h:Ok G prot w0 E0 E w s a.tmps) {f:FuncId} {args:List AV} {M dl:List (Nat×Nat×Ent)} {r:AV} (hL:Loc0 P G (s.D+1) f args M r dl) {vs:Array Value} (hsz:vs.size=args.length)
  (hrel:∀(i:Nat) (b:AV) (v:Value),args[i]?=some b->vs[i]?=some v->Rel E b v) (hdull:∀b∈args,b.dull) (hM:∀m∈M,m.1<=s.D/\(m.1=s.D->m.2.1 < s.os.length)/\s.look m.1 m.2.1=m.2.2)
  (hdl:∀u∈dl,(u.1,u.2.1)∈M.map (fun m=>(m.1,m.2.1))/\u.2.2.2≠ .dead) (dst:Option Nat) (rd:List (Nat×Nat)):
  Calls P f vs w fun e w'=>∃v,e= .returned v/\Post G prot w0 E0 E s.D (s.app dst {val:=r,ups:=dl,rd:=rd}) a.defers (a.put dst v) w':=
 gQ h hL hsz hrel (fun _ _ _ _ _ _ _ h1 _ ht=>(rS (vs:=vs) hdull h1 ht).elim) (fun _ _ _ _ _ _ _ _ _ _ _ _ _ _ h1 _ ht _ _ _ _=>(rS (vs:=vs) hdull h1 ht).elim) hM hdl dst rd
def xQ (w:World):Nat->Nat->Option Value:=fun b o=>match w.cell? ⟨b,o,none⟩ with
 | some v=>if v.oneCell' then some v else none
 | none=>none
theorem zCV:∀(L:List Nat) {s:St},Ok G prot w0 E0 E w s a.tmps->Ok G prot w0 E0 E w (L.foldl St.demT s) a.tmps/\(∀l ad z n cap,Hold E w (L.foldl St.demT s) a.tmps l ad z n cap->(∀t∈L,l≠ .t t)/\Hold E w s a.tmps l ad z n cap)/\(∀d i,(L.foldl St.demT s).look d i=s.look d i)/\(L.foldl St.demT s).D=s.D/\(L.foldl St.demT s).os=s.os
 | [],s,h=>⟨h,fun _ _ _ _ _ hh=>⟨fun _ ht=>(by cases ht),hh⟩,fun _ _=>rfl,rfl,rfl⟩
 | t::L,s,h=>by
  obtain ⟨h1,h2⟩:=h.dem t;obtain ⟨g1,g2,g3,g4,g5⟩:=zCV L h1;refine ⟨g1,fun l ad z n cap hh=> ?_,fun d i=>g3 d i,g4,g5⟩;obtain ⟨q1,q2⟩:=g2 l ad z n cap hh;obtain ⟨q3,q4⟩:=h2 l ad z n cap q2;exact ⟨fun t' ht'=>(by rcases yHA.1 ht' with rfl | ht';exact q3;exact q1 t' ht'),q4⟩
theorem AV.keep_strip {b:AV} (h:∀z xs t,b≠ .sl z xs t):b.keep=b.strip:=by cases b<;>first | rfl | exact absurd rfl (h _ _ _)
theorem Tipped.of_keep {b:AV} {v:Value} {z n ad cap} (h:Tipped b.keep v z n ad cap):Tipped b v z n ad cap:=by
 by_cases hb:∃z xs t,b= .sl z xs t
 ·obtain ⟨z,xs,t,rfl⟩:=hb;exact h
 ·rw[AV.keep_strip fun z xs t e=>hb ⟨z,xs,t,e⟩] at h;exact (h.dull (AV.dull_strip _)).elim
theorem zAF:∀{args:List Opd},(args.flatMap Opd.tmp).Nodup->∀{i i' j:Nat},args[i]?=some (.t j)->args[i']?=some (.t j)->i=i'
 | [],_,i,i',j,h,_=>by simp at h
 | x::args,hn,i,i',j,h,h'=>by
  rw[List.flatMap_cons,List.nodup_append] at hn;obtain ⟨n1,n2,n3⟩:=hn;have hno:∀k:Nat,args[k]?=some (.t j)->x≠ .t j:=by
   intro k hk e;subst e;exact n3 j (by simp[Opd.tmp]) j (yHB.2 ⟨_,zP hk,by simp[Opd.tmp]⟩) rfl
  cases i with
  | zero=>
   cases i' with
   | zero=>rfl
   | succ i'=>
    simp only[yHS,Option.some.injEq] at h;exact absurd h (hno i' (by simpa using h'))
  | succ i=>
   cases i' with
   | zero=>
    simp only[yHS,Option.some.injEq] at h';exact absurd h' (hno i (by simpa using h))
   | succ i'=>rw[zAF (i:=i) (i':=i') (j:=j) n2 (by simpa using h) (by simpa using h')]
theorem aR (h:Ok G prot w0 E0 E w s a.tmps) {f:FuncId} {args:List Opd} {gargs:Array Operand} {ats:List TypeId} (hn:(args.flatMap Opd.tmp).Nodup) (hargs:opds P G ats gargs.toList=some args) {M dl:List (Nat×Nat×Ent)} {r:AV}
  (hL:Loc0 P G (s.D+1) f (args.map fun x=>(s.evr x).keep) M r dl) (hM:∀m∈M,m.1<=s.D/\(m.1=s.D->m.2.1 < s.os.length)/\s.look m.1 m.2.1=m.2.2)
  (hdl:∀u∈dl,(u.1,u.2.1)∈M.map (fun m=>(m.1,m.2.1))/\u.2.2.2≠ .dead) (dst:Option Nat) (rd:List (Nat×Nat)):
  Calls P f (gargs.map a.eval) w fun e w'=>∃v,e= .returned v/\Post G prot w0 E0 E s.D (s.app dst {val:=r,ups:=dl,dem:=args.flatMap Opd.tmp,rd:=rd}) a.defers (a.put dst v) w':=by
 obtain ⟨o1,g2,g3,g4,g5⟩:=zCV (args.flatMap Opd.tmp) h;obtain ⟨q1,q2⟩:=wS h hargs;have hget:∀(i:Nat) (b:AV) (v:Value),(args.map fun x=>(s.evr x).keep)[i]?=some b->(gargs.map a.eval)[i]?=some v->∃x g t,args[i]?=some x/\gargs.toList[i]?=some g/\opd P G t g=some x/\b=(s.evr x).keep/\v=a.eval g:=by
  intro i b v hb hv;simp only[yGW,yIH,yGX] at hb hv;obtain ⟨x,hx,rfl⟩:=hb;obtain ⟨g,hg,rfl⟩:=hv;obtain ⟨t,ht⟩:=q2 i x g hx (by simpa using hg);exact ⟨x,g,t,hx,by simpa using hg,ht,rfl,rfl⟩
 have hone:∀(i:Nat) (b:AV) (v:Value) (z n:Nat) (ad:Addr) (cap:Nat),(args.map fun x=>(s.evr x).keep)[i]?=some b->(gargs.map a.eval)[i]?=some v->Tipped b v z n ad cap->∃j,args[i]?=some (.t j)/\Hold E w s a.tmps (.t j) ad z n cap:=by
  intro i b v z n ad cap hb hv ht;obtain ⟨x,g,t,hx,hg,hxo,rfl,rfl⟩:=hget i b v hb hv;have ht:=ht.of_keep;cases x with
  | c c=>exact (ht.dull (tC hxo)).elim
  | t j=>
   cases g with
   | tmp j'=>
    simp[opd] at hxo;subst hxo;exact ⟨j',hx,zBZ h ht⟩
   | const v=>simp only[opd,yGX] at hxo;obtain ⟨_,_,h⟩:=hxo;cases h
   | global g=>simp only[opd,yGX] at hxo;obtain ⟨_,_,h⟩:=hxo;cases h
   | func f=>simp[opd] at hxo
 have hlk:((args.flatMap Opd.tmp).foldl St.demT s).look=s.look:=by funext d i;exact g3 d i
 have:=gQ (r:=r) (dst:=dst) (rd:=rd) (args:=args.map fun x=>(s.evr x).keep) (M:=M) (dl:=dl) (P:=P) (f:=f) (vs:=gargs.map a.eval) o1 (by rw[g4];exact hL) (by simp[q1])
  (fun i b v hb hv=>by
   obtain ⟨x,g,t,hx,hg,hxo,rfl,rfl⟩:=hget i b v hb hv;have hr:=h.evr (s:=s) hxo;cases hs:s.evr x with
   | sl z xs tp=>rw[hs] at hr;exact hr
   | _=>rw[hs] at hr;exact hr.strip)
  (fun i b v z n ad cap hb hv ht=>by
   obtain ⟨j,hj,hh⟩:=hone i b v z n ad cap hb hv ht;have k:=h.tips _ _ _ _ _ hh;refine ⟨TipOk.congr (s:=s) g3 k,fun l ad' z' n' cap' hl e=> ?_⟩;obtain ⟨p1,p2⟩:=g2 l ad' z' n' cap' hl;exact p1 j (yHB.2 ⟨_,zP hj,by simp[Opd.tmp]⟩) (h.tinj _ _ _ _ _ _ _ _ _ _ p2 hh e))
  (fun i i' b b' v v' z z' n n' ad ad' cap cap' hb hv ht hb' hv' ht' e=>by
   obtain ⟨j,hj,hh⟩:=hone i b v z n ad cap hb hv ht;obtain ⟨j',hj',hh'⟩:=hone i' b' v' z' n' ad' cap' hb' hv' ht';have:=h.tinj _ _ _ _ _ _ _ _ _ _ hh hh' e;injection this with this;subst this;exact zAF hn hj hj')
  (fun m hm=>by have:=hM m hm;rw[g4,g5,hlk];exact this) hdl
 refine this.mono fun e w' hp=> ?_;rw[g4] at hp;exact hp
theorem wX {f:FuncId} (hf:zFB P f) (vs:Array Value) (w:World):(callFunc f vs).run P w= .ok (.enter f vs) w:=by
 obtain ⟨fn,h1,h2,h3⟩:=hf;unfold callFunc;rw[yHT];simp only[run_program,yHY,h1,h3,yHK,if_false,h2,Sem.run_pure]
theorem bW {G:Nat->Option (List AV)} {el:TypeId} {k:Nat}:∀{l:List (Nat×Operand)},rE P G el k l=some []->l= []
 | [],_=>rfl
 | (i,x)::ps,hx=>by
  simp only[rE] at hx;split at hx
  ·split at hx
   ·cases hx
   ·cases hx
  ·cases hx
theorem zGP (h:Ok G prot w0 E0 E w s a.tmps) {t el ti z d ent} {ea:Bool} (hu:P.underlying t=some (.slice el)) (ht:tinf P el=some ti) (hz:xF P el=some z) (hs0:0 < ti.size) (he0:s.os[d]?=some ent):
  Done G prot w0 E0 E s a (some d) {val:= .own s.D d (ent.1+1) 0 0 ti.size ea,ups:=[(s.D,d,(ent.1+1,.cells []))]} ((do pure (Next.value (<-Instr.buildSlice t 0 #[])):Sem Next).run P w):=by
 obtain ⟨inf,v0,h1,h2,h3,h4,h5⟩:=yH hz;obtain ⟨inf',h1',_,hs,_,_⟩:=z8 ht;have:inf'=inf:=by rw[h1] at h1';exact (Option.some.inj h1').symm
 subst this;have hrun:(Instr.buildSlice t 0 #[]).run P w= .ok (.slice (some ⟨w.heap.size,0,none⟩) 0 0) {w with heap:=w.heap.push (.cells #[] el)}:=by
  unfold Instr.buildSlice;simp only[yHT,run_underlying hu,yHY,run_sizeOf w h1,Program.cellsOf,h1,yII,yHU,hs];rw[if_neg (by omega)];simp[newRow,Instr.fill,show Array.range 0= #[] from rfl]
 rw[yB _ hrun];refine v7 h he0 rfl (fun j v hv=>by simp at hv) (fun j c v hc=>by simp at hc) (fun j z xs ad cap hc=>by simp at hc)
  (fun E' _ hl hro=> .own _ _ _ _ _ _ _ _ _ hl (yHM _) (by rw[hro];simp)) trivial
theorem yCU (h:Ok G prot w0 E0 E w s a.tmps) {ops:Array Oper} {o:Oper} {ao:AOp} (hc:yL P G L ops o=some ao) {e:Eff} (he:OpE (Loc P G) s o.dst ao e) (hn:∀e',opfC s ao≠some e') (hy:∀x args d i g,ao= .callv x args->s.ev x≠ .yl d i g) (Q:Exit->Act->World->Prop):
  o.wp P a w (Post G prot w0 E0 E s.D (s.app o.dst e) a.defers) Q:=by
 cases he with
 | op he=>
  obtain ⟨nx,v,w',E',hrun,hnx,hle,hok⟩:=zLF h hc he;unfold Oper.wp;rw[hrun];rcases hnx with rfl | ⟨rfl,rfl⟩
  ·exact ⟨E',hle,by rw[xO];exact hok,yT _ _ _⟩
  ·exact ⟨E',hle,by rw[xO];exact hok,yT _ _ _⟩
 | comm he=>exact absurd he (hn _)
 | plc he=>
  obtain ⟨nx,v,w',E',hrun,hnx,hle,hok⟩:=zFX h hc he;unfold Oper.wp;rw[hrun];rcases hnx with rfl | ⟨rfl,rfl⟩
  ·exact ⟨E',hle,by rw[xO];exact hok,yT _ _ _⟩
  ·exact ⟨E',hle,by rw[xO];exact hok,yT _ _ _⟩
 | yld hx _ _ _=>exact absurd hx (hy _ _ _ _ _ rfl)
 | emp hd he0=>
  rename_i z ea d ent;have:∃t el ti zz,o.op= .buildSlice t 0 #[]/\P.underlying t=some (.slice el)/\tinf P el=some ti/\xF P el=some zz/\0 < ti.size/\z=ti.size:=by
   unfold yL at hc
   repeat' (split at hc)
   all_goals first | (cases hc;done) | skip
   all_goals first | (obtain ⟨_,_,hx⟩:=map_some hc;cases hx;done) | skip
   all_goals (injection hc with hc;first | (cases hc;done) | skip)
   rename_i t n ps hop _ _ el hi _ _ ti qs ht hq hcond;injection hc with e1 e2 e3;subst e1;subst e3;obtain ⟨c1,c2,c3,c4⟩:=hcond;obtain ⟨zz,hz⟩:=yIJ.1 c4;obtain ⟨inf,_,hu,_,_,_⟩:=z8 hi;have hops:=bW hq;have hnil:t= #[]:=Array.ext' (by simpa using hops);subst hnil;have hlen:=c1.symm;simp only[yHP] at hlen;subst hlen;exact ⟨_,_,_,_,n,hu,ht,hz,c2,rfl⟩
  obtain ⟨t,el,ti,zz,hop,hu,hi,hz,hs0,rfl⟩:=this;obtain ⟨nx,v,w',E',hrun,hnx,hle,hok⟩:=zGP (ea:=ea) h hu hi hz hs0 he0;unfold Oper.wp;rw[hd];have hr:(execOp a.eval o).run P w= .ok nx w':=by
   rw[<-hrun];simp only[execOp,hop];simp
  rw[hr];rcases hnx with rfl | ⟨rfl,rfl⟩
  ·exact ⟨E',hle,by rw[xO,hd];exact hok,yT _ _ _⟩
  ·exact ⟨E',hle,by rw[xO,hd];exact hok,yT _ _ _⟩
 | own he=>
  obtain ⟨nx,v,w',E',hrun,hnx,hle,hok⟩:=zFY h hc he;unfold Oper.wp;rw[hrun];rcases hnx with rfl | ⟨rfl,rfl⟩
  ·exact ⟨E',hle,by rw[xO];exact hok,yT _ _ _⟩
  ·exact ⟨E',hle,by rw[xO];exact hok,yT _ _ _⟩
 | call hf hL hM hdl=>
  rename_i f args M dl r
  replace hL:=hL.fn hf
  clear hy;have:∃gargs ats,o.op= .call {callee:= .value (.func f),args:=gargs,argTypes:=ats}/\opds P G ats.toList gargs.toList=some args:=by
   unfold yL at hc
   repeat' (split at hc)
   all_goals first | (cases hc;done) | skip
   all_goals first | (obtain ⟨_,_,hx⟩:=map_some hc;cases hx;done) | skip
   all_goals (injection hc with hc;first | (cases hc;done) | skip)
   all_goals (injection hc with e1 e2;subst e1;subst e2)
   all_goals exact ⟨_,_,by assumption,by assumption⟩
  obtain ⟨gargs,ats,hop,hargs⟩:=this;obtain ⟨q1,q2⟩:=wS h hargs;have hrun:(execOp a.eval o).run P w= .ok (.enter f (gargs.map a.eval)) w:=by
   simp only[execOp,hop,resolve,Act.eval,Deferred.ofValue,pure_bind,invoke];rw[wX hL.1];simp
  unfold Oper.wp;rw[hrun];have:=sJ (P:=P) (dst:=o.dst) (rd:=M.map fun m=>(m.1,m.2.1)) h hL (vs:=gargs.map a.eval) (by simp[q1]) (fun i b v hb hv=>by
   simp only[yGW,yIH,yGX] at hb hv;obtain ⟨x,hx,rfl⟩:=hb;obtain ⟨g,hg,rfl⟩:=hv;obtain ⟨t,ht⟩:=q2 i x g hx (by simpa using hg);exact (h.ev ht).strip) (fun b hb=>by obtain ⟨x,_,rfl⟩:=yGT.1 hb;exact AV.dull_strip _) hM hdl
  refine this.mono ?_;rintro e w' ⟨v,rfl,hp⟩;exact hp
 | callL hf hnd hL hM hdl=>
  rename_i f args M dl r
  replace hL:=hL.fn hf
  clear hy;have:∃gargs ats,o.op= .call {callee:= .value (.func f),args:=gargs,argTypes:=ats}/\opds P G ats.toList gargs.toList=some args:=by
   unfold yL at hc
   repeat' (split at hc)
   all_goals first | (cases hc;done) | skip
   all_goals first | (obtain ⟨_,_,hx⟩:=map_some hc;cases hx;done) | skip
   all_goals (injection hc with hc;first | (cases hc;done) | skip)
   all_goals (injection hc with e1 e2;subst e1;subst e2)
   all_goals exact ⟨_,_,by assumption,by assumption⟩
  obtain ⟨gargs,ats,hop,hargs⟩:=this;have hrun:(execOp a.eval o).run P w= .ok (.enter f (gargs.map a.eval)) w:=by
   simp only[execOp,hop,resolve,Act.eval,Deferred.ofValue,pure_bind,invoke];rw[wX hL.1];simp
  unfold Oper.wp;rw[hrun];have:=aR (P:=P) (dst:=o.dst) (rd:=M.map fun m=>(m.1,m.2.1)) h hnd hargs hL hM hdl;refine this.mono ?_;rintro e w' ⟨v,rfl,hp⟩;exact hp
 | callv hf hx hL hM hdl=>
  rename_i f cap x args M dl r
  replace hL:=hL.fn hf
  clear hy;have:∃gx gargs ats,o.op= .call {callee:= .value gx,args:=gargs,argTypes:=ats}/\opds P G ats.toList gargs.toList=some args/\opd P G 0 gx=some x:=by
   unfold yL at hc
   repeat' (split at hc)
   all_goals first | (cases hc;done) | skip
   all_goals first | (obtain ⟨_,hy,hx⟩:=map_some hc;first | (cases hx;done) | (injection hx with e1 e2;subst e1;subst e2;exact ⟨_,_,_,by assumption,by assumption,hy⟩)) | skip
   all_goals (injection hc with hc;first | (cases hc;done) | skip)
  obtain ⟨gx,gargs,ats,hop,hargs,hgx⟩:=this;obtain ⟨q1,q2⟩:=wS h hargs;have hrx:=h.ev (s:=s) hgx;rw[hx] at hrx;obtain ⟨us,hgv,hul,hur⟩:=hrx.fn_inv;have hrun:(execOp a.eval o).run P w= .ok (.enter f ((gargs.toList.map a.eval++us).toArray)) w:=by
   simp only[execOp,hop,resolve,hgv,Deferred.ofValue,pure_bind,invoke];rw[wX hL.1];simp
  unfold Oper.wp;rw[hrun];have:=sJ (P:=P) (dst:=o.dst) (rd:=M.map fun m=>(m.1,m.2.1)) h hL (vs:=(gargs.toList.map a.eval++us).toArray) (by simp[q1,hul]) (fun i b v hb hv=>by
   simp only[yHZ] at hv;rw[yIK] at hb hv;simp only[yIL] at hb hv;rw[q1] at hb;split at hb
   ·rename_i hi;rw[if_pos hi] at hv;simp only[yGW,yGX] at hb hv;obtain ⟨x,hx,rfl⟩:=hb;obtain ⟨g,hg,rfl⟩:=hv;obtain ⟨t,ht⟩:=q2 i x g hx hg;exact (h.ev ht).strip
   ·rename_i hi;rw[if_neg hi] at hv;simp only[yGW,yGX] at hb;obtain ⟨c,hc,rfl⟩:=hb;exact (hur _ c v hc hv).strip) (fun b hb=>by
     rcases yGU.1 hb with hb | hb
     ·obtain ⟨x,_,rfl⟩:=yGT.1 hb;exact AV.dull_strip _
     ·obtain ⟨x,_,rfl⟩:=yGT.1 hb;exact AV.dull_strip _) hM hdl
  refine this.mono ?_;rintro e w' ⟨v,rfl,hp⟩;exact hp
 | callm hf hx hL hM hdl=>
  rename_i f bs x args M dl r
  replace hL:=hL.fn hf
  clear hy;have:∃gx gargs ats,o.op= .call {callee:= .value gx,args:=gargs,argTypes:=ats}/\opds P G ats.toList gargs.toList=some args/\opd P G 0 gx=some x:=by
   unfold yL at hc
   repeat' (split at hc)
   all_goals first | (cases hc;done) | skip
   all_goals first | (obtain ⟨_,hy,hx⟩:=map_some hc;first | (cases hx;done) | (injection hx with e1 e2;subst e1;subst e2;exact ⟨_,_,_,by assumption,by assumption,hy⟩)) | skip
   all_goals (injection hc with hc;first | (cases hc;done) | skip)
  obtain ⟨gx,gargs,ats,hop,hargs,hgx⟩:=this;obtain ⟨q1,q2⟩:=wS h hargs;have hrx:=h.ev (s:=s) hgx;rw[hx] at hrx;obtain ⟨us,hgv,hul,hur⟩:=hrx.meth_inv;have hrun:(execOp a.eval o).run P w= .ok (.enter f ((us++gargs.toList.map a.eval).toArray)) w:=by
   simp only[execOp,hop,resolve,hgv,Deferred.ofValue,pure_bind,invoke];rw[wX hL.1];simp
  unfold Oper.wp;rw[hrun];have hlen:(bs.map AV.strip++(args.map fun x=>(s.ev x).strip)).length=us.length+gargs.size:=by simp[q1,hul]
  have:=sJ (P:=P) (dst:=o.dst) (rd:=M.map fun m=>(m.1,m.2.1)) h hL (vs:=(us++gargs.toList.map a.eval).toArray) (by simp[q1,hul]) (fun i b v hb hv=>by
   simp only[yHZ] at hv;rw[yIK] at hb hv;simp only[yIL] at hb;rw[hul] at hb;split at hb
   ·rename_i hi;rw[if_pos hi] at hv;simp only[yGW,yGX] at hb;obtain ⟨c,hc,rfl⟩:=hb;exact (hur _ c v hc hv).strip
   ·rename_i hi;rw[if_neg hi] at hv;simp only[yGW,yGX] at hb hv;obtain ⟨x,hx,rfl⟩:=hb;obtain ⟨g,hg,rfl⟩:=hv;obtain ⟨t,ht⟩:=q2 _ x g hx hg;exact (h.ev ht).strip) (fun b hb=>by
     rcases yGU.1 hb with hb | hb
     ·obtain ⟨x,_,rfl⟩:=yGT.1 hb;exact AV.dull_strip _
     ·obtain ⟨x,_,rfl⟩:=yGT.1 hb;exact AV.dull_strip _) hM hdl
  refine this.mono ?_;rintro e w' ⟨v,rfl,hp⟩;exact hp
theorem Rel.yl_inv {v:Value} {d i g} (h:Rel E (.yl d i g) v):∃B,E.loc d i g=some B/\v= .func (.yield B) #[] #[]:=by
 cases h with
 | imm _ _ h=>cases h
 | yl _ _ _ B hb=>exact ⟨B,hb,rfl⟩
theorem zFF {gops:Array Oper} (h:Ok G prot w0 E0 E w s a.tmps) {i:Nat} {o:Oper} (ho:gops[i]?=some o) (hw:Region.wanted o (yielded gops a.tmps)=true) {x:Opd} {args:List Opd} (hc:yL P G L gops o=some (.callv x args))
  {d i' g:Nat} (hx:s.ev x= .yl d i' g) {M dl:List (Nat×Nat×Ent)} {r:AV} (hC:Loc P G (s.D+1) yid (.yl d i' g::args.map fun x=>(s.ev x).strip) M r dl)
  (hM:∀m∈M,m.1<=s.D/\(m.1=s.D->m.2.1 < s.os.length)/\s.look m.1 m.2.1=m.2.2) (hdl:∀u∈dl,(u.1,u.2.1)∈M.map (fun m=>(m.1,m.2.1))/\u.2.2.2≠ .dead):
  OpS P gops i a w (Post G prot w0 E0 E s.D (s.app o.dst {val:=r,ups:=dl,rd:=M.map fun m=>(m.1,m.2.1)}) a.defers):=by
 obtain ⟨_,hR⟩:=hC.resolve_left fun q=>q.1 rfl;have:∃gx gargs ats,o.op= .call {callee:= .value gx,args:=gargs,argTypes:=ats}/\opds P G ats.toList gargs.toList=some args/\opd P G 0 gx=some x:=by
  clear hC hR hM hdl hx;unfold yL at hc
  repeat' (split at hc)
  all_goals first | (cases hc;done) | skip
  all_goals first | (obtain ⟨_,hy,hx⟩:=map_some hc;first | (cases hx;done) | (injection hx with e1 e2;subst e1;subst e2;exact ⟨_,_,_,by assumption,by assumption,hy⟩)) | skip
  all_goals (injection hc with hc;first | (cases hc;done) | skip)
 obtain ⟨gx,gargs,ats,hop,hargs,hgx⟩:=this;obtain ⟨q1,q2⟩:=wS h hargs;have hrx:=h.ev (s:=s) hgx;rw[hx] at hrx;obtain ⟨B,hB,hgv⟩:=hrx.yl_inv
 let us:List Value:=gargs.toList.map a.eval
 obtain ⟨protc,hokc,hpost⟩:=eW (r:=r) (args:= .yl d i' g::args.map fun x=>(s.ev x).strip) (vs:=(.func (.yield B) #[] #[]::us).toArray) h (by simp[us,q1]) (fun j b v hb hv=>by
   simp only[yHZ] at hv;cases j with
   | zero=>
    simp only[yHS,Option.some.injEq] at hb hv;subst hb;subst hv;exact .yl _ _ _ _ hB
   | succ j=>
    simp only[List.getElem?_cons_succ,us,yGW,yGX] at hb hv;obtain ⟨y,hy,rfl⟩:=hb;obtain ⟨gy,hgy,rfl⟩:=hv;obtain ⟨t,ht⟩:=q2 j y gy hy hgy;exact (h.ev ht).strip) (fun b hb=>by
     rcases yHA.1 hb with rfl | hb
     ·trivial
     ·obtain ⟨y,_,rfl⟩:=yGT.1 hb;exact AV.dull_strip _) hM hdl o.dst (M.map fun m=>(m.1,m.2.1))
 obtain ⟨f,tm,asg,body,hy,hsteps⟩:=hR protc w E E w s.look B us hokc (fun m hm=>⟨by have:=(hM m hm).1;omega,(hM m hm).2.2⟩);have hrun:(execOp a.eval o).run P w= .ok (.round B f tm asg body) w:=by
  simp only[execOp,hop,resolve,hgv,Deferred.ofValue,pure_bind,invoke];rw[<-hy];simp[us];congr 2;apply Array.ext';simp
 intro b hb k cs rest;have hg:=stepGR_op (P:=P) (b:=b) (k:=k) (cs:=cs) (w:=w) (rest:=rest) ho hw;rw[Oper.semAt_eq _ _ _ (by rw[hop];intro c;simp)] at hg;have henter:step P (lone (b.atR a (.inRegion gops (i::rest)::k)) cs w)= .next (lone (Frame.round B f tm asg body .normal) (b.atR a (.inRegion gops (i::rest)::k)::cs) w):=
  step_lone_go (by rw[hg];simp[stepG.apply,hrun,Frame.atR])
 obtain ⟨v,w',hst,hp⟩:=hsteps (b.atR a (.inRegion gops (i::rest)::k)) cs;refine ⟨a.put o.dst v,w',hpost v w' hp,.head henter ?_⟩;rw[Frame.finish_atR,ho] at hst;exact hst
theorem op_S {gops:Array Oper} (h:Ok G prot w0 E0 E w s a.tmps) {i:Nat} {o:Oper} {ao:AOp} (ho:gops[i]?=some o) (hw:Region.wanted o (yielded gops a.tmps)=true) (hc:yL P G L gops o=some ao) {e:Eff} (he:OpE (Loc P G) s o.dst ao e):
  OpS P gops i a w (Post G prot w0 E0 E s.D (s.app o.dst e) a.defers):=by
 by_cases hyl:∃x args d i' g,ao= .callv x args/\s.ev x= .yl d i' g
 ·obtain ⟨x,args,d,i',g,rfl,hev⟩:=hyl;cases he with
  | op he=>simp[opf] at he
  | own he=>simp[opfO] at he
  | plc he=>simp[opfP] at he
  | callm _ hx _ _ _=>rw[hev] at hx;cases hx
  | comm he=>simp[opfC] at he
  | callv _ hx _ _ _=>rw[hev] at hx;cases hx
  | yld hx hC hM hdl=>exact zFF h ho hw hc hx hC hM hdl
 by_cases hx:∃e',opfC s ao=some e'
 ·obtain ⟨e',he'⟩:=hx;cases ao with
  | send co xo=>
   have he2:opfC s (.send co xo)=some e:=by
    cases he with
    | comm h=>exact h
    | op h=>simp[opf] at h
    | own h=>simp[opfO] at h
    | plc h=>simp[opfP] at h
   have:∃gc gx,o.op= .send gc gx/\opd P G 0 gc=some co/\opd P G 0 gx=some xo:=by
    unfold yL at hc
    repeat' (split at hc)
    all_goals first | (cases hc;done) | skip
    all_goals first | (obtain ⟨_,_,hx⟩:=map_some hc;cases hx;done) | skip
    all_goals (injection hc with hc;first | (cases hc;done) | skip)
    all_goals (injection hc with e1 e2;subst e1;subst e2)
    all_goals exact ⟨_,_,by assumption,by assumption,by assumption⟩
   obtain ⟨gc,gx,hop,h1,h2⟩:=this;exact zAT h ho hw hop h1 h2 he2
  | recv co=>
   have he2:opfC s (.recv co)=some e:=by
    cases he with
    | comm h=>exact h
    | op h=>simp[opf] at h
    | own h=>simp[opfO] at h
    | plc h=>simp[opfP] at h
   have:∃t gc dir el,o.op= .recv t gc false/\P.underlying t=some (.chan dir el)/\(xF P el).isSome=true/\opd P G 0 gc=some co:=by
    unfold yL at hc
    repeat' (split at hc)
    all_goals first | (cases hc;done) | skip
    all_goals first | (obtain ⟨_,_,hx⟩:=map_some hc;cases hx;done) | skip
    all_goals (injection hc with hc;first | (cases hc;done) | skip)
    all_goals (injection hc with e1;subst e1)
    all_goals exact ⟨_,_,_,_,by assumption,by assumption,by assumption,by assumption⟩
   obtain ⟨t,gc,dir,el,hop,hu,hz,h1⟩:=this;obtain ⟨zz,hz⟩:=yIJ.1 hz;exact zBA h ho hw hop hu hz h1 he2
  | _=>simp[opfC] at he'
 ·refine zBK ho hw (fun c hcc=> ?_) (yCU h hc he (fun e' he'=>hx ⟨e',he'⟩) (fun x args d i g e1 e2=>hyl ⟨x,args,d,i,g,e1,e2⟩) _);unfold yL at hc;rw[hcc] at hc;cases hc
end
end Go.Ab
/- The order of operations: effects that are apart may come in either order. -/
namespace Go.Ab
open Go
theorem AV.dem1_dem1 (b:AV):b.dem1.dem1=b.dem1:=by
 cases b with
 | sl z xs t=>cases t<;>rfl
 | _=>rfl
theorem AV.dem_dem (b:AV):b.dem.dem=b.dem:=by
 cases b with
 | sl z xs t=>cases t<;>rfl
 | agg cs=>simp[AV.dem,AV.dem1_dem1]
 | tup cs=>simp[AV.dem,AV.dem1_dem1]
 | _=>rfl
def demL (ts:List AV) (l:List Nat):List AV:=l.foldl (fun ts t=>ts.set t (ts.getD t ud).dem) ts
def setO (ts:List AV) (d:Option Nat) (v:AV):List AV:=match d with | some d=>ts.set d v | none=>ts
theorem nL:∀(l:List Nat) (s:St),l.foldl St.demT s={s with ts:=demL s.ts l}
 | [],s=>rfl
 | t::l,s=>by simp only[yGY,nL l];rfl
theorem fO (s:St) (ts:List AV) (u):({s with ts:=ts}:St).up u={s.up u with ts:=ts}:=by
 unfold St.up;split<;>rfl
theorem uG (ts:List AV):∀(l:List (Nat×Nat×Ent)) (s:St),l.foldl St.up ({s with ts:=ts}:St)={l.foldl St.up s with ts:=ts}
 | [],s=>rfl
 | u::l,s=>by simp only[yGY,fO];exact uG ts l (s.up u)
theorem lM (s:St) (d:Option Nat) (e:Eff):s.app d e={e.ups.foldl St.up s with ts:=setO (demL s.ts e.dem) d e.val}:=by
 unfold St.app;rw[nL,uG];cases d<;>rfl
theorem jU:∀(l:List Nat) (ts:List AV) (i:Nat),(demL ts l)[i]?=(ts[i]?).map fun v=>if i∈l then v.dem else v
 | [],ts,i=>by simp[demL]
 | t::l,ts,i=>by
  have h:=jU l (ts.set t (ts.getD t ud).dem) i;simp only[demL,yGY] at h|-;rw[h,yIM];by_cases hti:t=i
  ·subst hti;by_cases hlt:t < ts.length
   ·simp[hlt,yHC,AV.dem_dem]
   ·simp[hlt]
  ·simp[hti,yHA,Ne.symm hti]
theorem dU (ts:List AV) (d:Option Nat) (v:AV) (i:Nat):(setO ts d v)[i]?=if d=some i then (ts[i]?).map fun _=>v else ts[i]?:=by
 cases d with
 | none=>simp[setO]
 | some d=>
  simp only[setO,yIM,Option.some.injEq];by_cases h:d=i
  ·subst h;by_cases hlt:d < ts.length
   ·simp[hlt]
   ·simp[hlt]
  ·simp[h]
theorem zJT (s:St) (u v:Nat×Nat×Ent) (h:(u.1,u.2.1)≠(v.1,v.2.1)):(s.up u).up v=(s.up v).up u:=by
 obtain ⟨d,i,e⟩:=u;obtain ⟨d',i',e'⟩:=v;simp only[ne_eq,Prod.mk.injEq,not_and] at h;unfold St.up;simp only;by_cases h1:d=s.D<;>by_cases h2:d'=s.D
 ·simp only[h1,h2,if_true];rw[List.set_comm _ _ (h (h1.trans h2.symm))]
 ·simp[h1,h2]
 ·simp[h1,h2]
 ·simp only[h1,h2,if_false];congr 1
  funext x y
  simp only[updS];by_cases c1:x=d'/\y=i'
  ·by_cases c2:x=d/\y=i
   ·exact absurd (c2.2.symm.trans c1.2) (h (c2.1.symm.trans c1.1))
   ·simp[c1,c2];intro e1 e2;exact absurd e2.symm (h e1.symm)
  ·simp[c1]
theorem pT (u:Nat×Nat×Ent):∀(l:List (Nat×Nat×Ent)) (s:St),(∀v∈l,(u.1,u.2.1)≠(v.1,v.2.1))->l.foldl St.up (s.up u)=(l.foldl St.up s).up u
 | [],s,_=>rfl
 | v::l,s,h=>by
  simp only[yGY];rw[zJT s u v (h v (by simp)),pT u l _ (fun x hx=>h x (by simp[hx]))]
theorem dN:∀(l m:List (Nat×Nat×Ent)) (s:St),(∀u∈l,∀v∈m,(u.1,u.2.1)≠(v.1,v.2.1))->m.foldl St.up (l.foldl St.up s)=l.foldl St.up (m.foldl St.up s)
 | [],m,s,_=>rfl
 | u::l,m,s,h=>by
  simp only[yGY];rw[dN l m _ (fun x hx=>h x (by simp[hx])),pT u m s (fun v hv=>h u (by simp) v hv)]
theorem zGY (s:St) (d1 d2:Option Nat) (e1 e2:Eff) (hd:∀x,d1=some x->d2≠some x) (h1:∀x,d1=some x->x∉e2.dem) (h2:∀x,d2=some x->x∉e1.dem)
  (hu:∀u∈e1.ups,∀v∈e2.ups,(u.1,u.2.1)≠(v.1,v.2.1)):(s.app d1 e1).app d2 e2=(s.app d2 e2).app d1 e1:=by
 simp only[lM,uG];rw[dN _ _ _ hu];congr 1;apply List.ext_getElem?;intro i;simp only[dU,jU];by_cases c1:d1=some i
 ·have c2:d2≠some i:=hd i c1;have:=h1 i c1;simp[c1,c2,this];cases s.ts[i]?<;>simp
 ·by_cases c2:d2=some i
  ·have:=h2 i c2;simp[c1,c2,this];cases s.ts[i]?<;>simp
  ·simp only[c1,c2,if_false,Option.map_map];cases s.ts[i]? with
   | none=>rfl
   | some x=>simp only[yII,Function.comp];by_cases m1:i∈e1.dem<;>by_cases m2:i∈e2.dem<;>simp[m1,m2]
structure Agr (nm tk:List Nat) (ps:List (Nat×Nat)) (s1 s2:St):Prop where
 D:s1.D=s2.D
 os:s1.os.length=s2.os.length
 tl:s1.ts.length=s2.ts.length
 nm:∀t∈nm,(s1.rd t).dem=(s2.rd t).dem
 tk:∀t∈tk,s1.rd t=s2.rd t
 lk:∀p∈ps,s1.look p.1 p.2=s2.look p.1 p.2
theorem Agr.refl (nm tk ps) (s:St):Agr nm tk ps s s:=⟨rfl,rfl,rfl,fun _ _=>rfl,fun _ _=>rfl,fun _ _=>rfl⟩
theorem Agr.trans {nm tk ps} {a b c:St} (h:Agr nm tk ps a b) (k:Agr nm tk ps b c):Agr nm tk ps a c:=
 ⟨h.D.trans k.D,h.os.trans k.os,h.tl.trans k.tl,fun t ht=>(h.nm t ht).trans (k.nm t ht),fun t ht=>(h.tk t ht).trans (k.tk t ht),fun p hp=>(h.lk p hp).trans (k.lk p hp)⟩
theorem Agr.symm {nm tk ps} {a b:St} (h:Agr nm tk ps a b):Agr nm tk ps b a:=
 ⟨h.D.symm,h.os.symm,h.tl.symm,fun t ht=>(h.nm t ht).symm,fun t ht=>(h.tk t ht).symm,fun p hp=>(h.lk p hp).symm⟩
theorem vB (s:St) (d e):(s.app d e).D=s.D:=by
 rw[lM];have:∀(l:List (Nat×Nat×Ent)) (s:St),(l.foldl St.up s).D=s.D:=by
  intro l;induction l with
  | nil=>intro s;rfl
  | cons u l ih=>intro s;simp only[yGY];rw[ih];simp
 exact this _ _
theorem zEA (s:St) (d e):(s.app d e).os.length=s.os.length:=by
 rw[lM];have:∀(l:List (Nat×Nat×Ent)) (s:St),(l.foldl St.up s).os.length=s.os.length:=by
  intro l;induction l with
  | nil=>intro s;rfl
  | cons u l ih=>intro s;simp only[yGY];rw[ih,St.up_oslen]
 exact this _ _
theorem zGT (l:List Nat):∀ts:List AV,(demL ts l).length=ts.length:=by
 induction l with
 | nil=>intro ts;rfl
 | cons t l ih=>intro ts;simp only[demL,yGY] at ih|-;rw[ih];simp
theorem zFN (ts:List AV) (d v):(setO ts d v).length=ts.length:=by cases d<;>simp[setO]
theorem zDZ (s:St) (d e):(s.app d e).ts.length=s.ts.length:=by rw[lM];simp[zFN,zGT]
theorem lL (s:St) (d e) (t:Nat):(s.app d e).rd t=if d=some t/\t < s.ts.length then e.val else if t∈e.dem/\t < s.ts.length then (s.rd t).dem else s.rd t:=by
 rw[lM];simp only[St.rd,yHC,dU,jU];by_cases hlt:t < s.ts.length
 ·have:=yHF hlt;by_cases c1:d=some t
  ·simp[c1,hlt]
  ·by_cases c2:t∈e.dem<;>simp[c1,c2,hlt]
 ·have:s.ts[t]?=none:=yHV (by omega);simp[this,hlt]
theorem fP (s:St) (u:Nat×Nat×Ent) (d i:Nat):(s.up u).look d i=if (d=u.1/\i=u.2.1)/\(u.1=s.D->u.2.1 < s.os.length) then u.2.2 else s.look d i:=by
 by_cases hb:u.1=s.D->u.2.1 < s.os.length
 ·rw[St.look_up s u hb];by_cases c:d=u.1/\i=u.2.1
  ·rw[if_pos c,if_pos ⟨c,hb⟩]
  ·rw[if_neg c,if_neg (fun k=>c k.1)]
 ·have h1:u.1=s.D:=by
   by_cases e:u.1=s.D
   ·exact e
   ·exact absurd (fun h=>absurd h e) hb
  have h2:¬u.2.1 < s.os.length:=fun h=>hb fun _=>h;rw[if_neg (by rintro ⟨_,h⟩;exact hb h)];unfold St.up;rw[if_pos h1,List.set_eq_of_length_le (by omega)]
theorem qQ:∀(l:List (Nat×Nat×Ent)) (s1 s2:St) (d i:Nat),s1.D=s2.D->s1.os.length=s2.os.length->s1.look d i=s2.look d i->(l.foldl St.up s1).look d i=(l.foldl St.up s2).look d i
 | [],s1,s2,d,i,_,_,h=>h
 | u::l,s1,s2,d,i,hD,ho,h=>by
  simp only[yGY];refine qQ l _ _ d i (by simpa using hD) (by simpa[St.up_oslen] using ho) ?_;rw[fP,fP,hD,ho,h]
theorem tJ:∀(l:List (Nat×Nat×Ent)) (s:St) (d i:Nat),(∀u∈l,(u.1,u.2.1)≠(d,i))->(l.foldl St.up s).look d i=s.look d i
 | [],s,d,i,_=>rfl
 | u::l,s,d,i,h=>by
  simp only[yGY];rw[tJ l _ d i (fun v hv=>h v (by simp[hv])),fP,if_neg];rintro ⟨⟨e1,e2⟩,_⟩;exact h u (by simp) (by rw[e1,e2])
theorem j8 (s:St) (d e) (x y:Nat):(s.app d e).look x y=(e.ups.foldl St.up s).look x y:=by rw[lM];rfl
theorem Agr.both {nm tk ps} {s1 s2:St} (h:Agr nm tk ps s1 s2) (d e):Agr nm tk ps (s1.app d e) (s2.app d e):=by
 refine ⟨by rw[vB,vB];exact h.D,by rw[zEA,zEA];exact h.os,by rw[zDZ,zDZ];exact h.tl,fun t ht=> ?_,fun t ht=> ?_,fun p hp=> ?_⟩
 ·rw[lL,lL,h.tl];have:=h.nm t ht;split
  ·rfl
  ·split
   ·rw[AV.dem_dem,AV.dem_dem];exact this
   ·exact this
 ·rw[lL,lL,h.tl,h.tk t ht]
 ·rw[j8,j8];exact qQ _ _ _ _ _ h.D h.os (h.lk p hp)
theorem Agr.one {nm tk ps} (s:St) {d e} (h1:∀x,d=some x->x∉nm) (h1':∀x,d=some x->x∉tk) (h2:∀t∈e.dem,t∉tk) (h3:∀u∈e.ups,(u.1,u.2.1)∉ps):Agr nm tk ps (s.app d e) s:=by
 refine ⟨vB _ _ _,zEA _ _ _,zDZ _ _ _,fun t ht=> ?_,fun t ht=> ?_,fun p hp=> ?_⟩
 ·rw[lL,if_neg (fun c=>h1 t c.1 ht)];split
  ·exact AV.dem_dem _
  ·rfl
 ·rw[lL,if_neg (fun c=>h1' t c.1 ht),if_neg (fun c=>h2 t c.1 ht)]
 ·rw[j8];exact tJ _ _ _ _ (fun u hu e'=>h3 u hu (by rw[e'];exact hp))
section
variable {C:zL} {s1 s2:St}
theorem qV {x:Opd} (h:∀t∈x.tmp,(s1.rd t).dem=(s2.rd t).dem):s1.ev x=s2.ev x:=by
 cases x with
 | t i=>exact h i (by simp[Opd.tmp])
 | c v=>rfl
theorem jP {x:Opd} (h:∀t∈x.tmp,s1.rd t=s2.rd t):s1.evr x=s2.evr x:=by
 cases x with
 | t i=>exact h i (by simp[Opd.tmp])
 | c v=>rfl
theorem mW {α β:Type} {f g:α->Option β}:∀{l:List α},(∀x∈l,f x=g x)->l.mapM f=l.mapM g
 | [],_=>rfl
 | x::l,h=>by rw[yHW,yHW,h x (by simp),mW fun y hy=>h y (by simp[hy])]
theorem jL (hD:s1.D=s2.D):∀n {b b' l},frz s1 n b=some (b',l)->(∀p∈l,s1.look p.1 p.2=s2.look p.1 p.2)->frz s2 n b=some (b',l)
 | 0,b,b',l,h,_=>by simp[frz] at h
 | n+1,b,b',l,h,hl=>by
  have many:∀{cs:List AV} {m:List (AV×List (Nat×Nat))},cs.mapM (frz s1 n)=some m->(∀p∈(m.map (·.2)).flatten,s1.look p.1 p.2=s2.look p.1 p.2)->cs.mapM (frz s2 n)=some m:=by
   intro cs m hm hp;rw[<-hm];refine (mW fun x hx=> ?_).symm;obtain ⟨j,hj⟩:=yIN hx;obtain ⟨q1,q2⟩:=vM hm;obtain ⟨y,hy,hfy⟩:=q2 j x hj;rw[hfy];exact (jL hD n (b:=x) (b':=y.1) (l:=y.2) hfy fun p hpp=>hp p (yIO.2 ⟨y.2,yGT.2 ⟨y,zP hy,rfl⟩,hpp⟩)).symm
  cases b with
  | own d i g off len z ea=>
   simp only[frz] at h|-;split at h
   ·rename_i g' cs hlk;split at h
    ·rename_i hc;split at h
     ·rename_i m hm;injection h with h;injection h with h h2;subst h;subst h2;have:=hl (d,i) (by simp);simp only at this;rw[<-this,hlk];simp only;rw[<-hD,if_pos hc,many hm fun p hp=>hl p (by simp only[yHA];exact .inr hp)]
     ·cases h
    ·cases h
   ·cases h
  | ptr d i g off=>
   simp only[frz] at h|-;split at h
   ·rename_i g' cs hlk;split at h
    ·rename_i hc;split at h
     ·rename_i m hm;injection h with h;injection h with h h2;subst h;subst h2;have:=hl (d,i) (by simp);simp only at this;rw[<-this,hlk];simp only;rw[<-hD,if_pos hc,many hm fun p hp=>hl p (by simp only[yHA];exact .inr hp)]
     ·cases h
    ·cases h
   ·cases h
  | mp d i g=>simp[frz] at h
  | ch d i g=>simp[frz] at h
  | yl d i g=>simp[frz] at h
  | meth f cs=>simp[frz] at h
  | bx k cs off=>simp[frz] at h
  | agg cs=>simp only[frz] at h|-;split at h;(rename_i m hm;injection h with h;injection h with h h2;subst h;subst h2;rw[many hm hl]);cases h
  | tup cs=>simp only[frz] at h|-;split at h;(rename_i m hm;injection h with h;injection h with h h2;subst h;subst h2;rw[many hm hl]);cases h
  | fn f cs=>simp only[frz] at h|-;split at h;(rename_i m hm;injection h with h;injection h with h h2;subst h;subst h2;rw[many hm hl]);cases h
  | ifc t b=>
   simp only[frz] at h|-;split at h
   ·rename_i v' l' hv;injection h with h;injection h with h h2;subst h;subst h2;rw[jL hD n hv hl]
   ·cases h
  | _=>simp only[frz] at h|-;exact h
theorem jM (hD:s1.D=s2.D):∀{bs bs' l},frzL s1 bs=some (bs',l)->(∀p∈l,s1.look p.1 p.2=s2.look p.1 p.2)->frzL s2 bs=some (bs',l)
 | [],bs',l,h,_=>h
 | b::bs,bs',l,h,hl=>by
  simp only[frzL] at h|-;split at h
  ·rename_i v' l1 vs' l2 h1 h2;injection h with h;injection h with h h';subst h;subst h';rw[jL hD _ h1 fun p hp=>hl p (by simp[hp]),jM hD h2 fun p hp=>hl p (by simp[hp])]
  ·cases h
theorem vN {z y ys l} (h:zX s1 z y=some (ys,l)) (hl:∀p∈l,s1.look p.1 p.2=s2.look p.1 p.2):zX s2 z y=some (ys,l):=by
 unfold zX at h|-;split at h
 ·exact h
 ·rename_i d i g off len z' ea;split at h
  ·rename_i hz;split at h
   ·rename_i g' cs hlk;split at h
    ·rename_i hc;injection h with h;injection h with h h2;subst h;subst h2;have:=hl (d,i) (by simp);simp only at this;rw[if_pos hz,<-this,hlk];simp only;rw[if_pos hc]
    ·cases h
   ·cases h
  ·cases h
 ·cases h
end
end Go.Ab
/- The order of operations: what an operation looks at,and what it may change. -/
namespace Go.Ab
open Go
section
variable {C:zL} {s1 s2:St}
theorem qS (hD:s1.D=s2.D) (ho:s1.os.length=s2.os.length) {d:Nat} (h:s1.look s1.D d=s2.look s1.D d):s1.os[d]?=s2.os[d]?:=by
 simp only[St.look,if_true,hD] at h;by_cases hlt:d < s1.os.length
 ·have hlt2:d < s2.os.length:=by omega
  simp only[yHC,yHF hlt,yHF hlt2,yHU] at h|-;rw[h]
 ·rw[yHV (by omega),yHV (by omega)]
def Eff.sites (e:Eff):List (Nat×Nat):=e.rd++e.ups.map fun u=>(u.1,u.2.1)
theorem fY {dst:Option Nat} {o:AOp} {e:Eff} (h:opf s1 dst o=some e) (ha:Agr (o.opds.flatMap Opd.tmp) o.takes e.sites s1 s2):opf s2 dst o=some e:=by
 have hev:∀x∈o.opds,s1.ev x=s2.ev x:=fun x hx=>qV fun t ht=>ha.nm t (yHB.2 ⟨x,hx,ht⟩);have hevr:∀x:Opd,(∀t∈x.tmp,t∈o.takes)->s1.evr x=s2.evr x:=fun x hx=>jP fun t ht=>ha.tk t (hx t ht);have hrd:∀p∈e.rd,s1.look p.1 p.2=s2.look p.1 p.2:=fun p hp=>ha.lk p (yGU.2 (.inl hp));have hup:∀u∈e.ups,s1.look u.1 u.2.1=s2.look u.1 u.2.1:=fun u hu=>ha.lk (u.1,u.2.1) (yGU.2 (.inr (yGT.2 ⟨u,hu,rfl⟩)));have hD:=ha.D;have hos:=ha.os;clear ha;cases o with
 | mov take x=>
  cases take
  ·simp only[opf,yHK,if_false] at h|-;rw[<-hev x (by simp[AOp.opds])];exact h
  ·simp only[opf,if_true] at h|-;rw[<-hevr x (fun t ht=>by simpa[AOp.takes] using ht)];exact h
 | pick c a b=>
  simp only[opf] at h|-;rw[<-hev c (by simp[AOp.opds]),<-hev a (by simp[AOp.opds]),<-hev b (by simp[AOp.opds])];exact h
 | alloc z=>
  simp only[opf] at h|-;split at h
  ·rename_i d;split at h
   ·rename_i e0 he0;injection h with h;subst h;have:=qS hD hos (hup _ (yGV.2 rfl));simp only at this|-;rw[<-this,he0,<-hD]
   ·cases h
  ·cases h
 | box n x=>
  simp only[opf] at h|-;rw[<-hev x (by simp[AOp.opds])];split at h
  ·rename_i d;split at h
   ·rename_i e0 he0;split at h
    ·rename_i hc;injection h with h;subst h;have:=qS hD hos (hup _ (yGV.2 rfl));simp only at this|-;rw[<-this,he0,<-hD];simp only;rw[if_pos hc]
    ·cases h
   ·cases h
  ·cases h
 | build z ps=>
  simp only[opf] at h|-;have:(ps.map fun (o,n,x)=>(o,n,s2.ev x))=ps.map fun (o,n,x)=>(o,n,s1.ev x):=by
   apply yHD;rintro ⟨o,n,x⟩ hx;simp only;rw[hev x (by simp only[AOp.opds];exact yGT.2 ⟨(o,n,x),hx,rfl⟩)]
  rw[this];exact h
 | bslice z ea ps=>
  simp only[opf] at h|-;have hm:ps.map s2.ev=ps.map s1.ev:=yHD fun x hx=>(hev x hx).symm;rw[hm];split at h
  ·rename_i vs l hl;split at h
   ·rename_i hall;injection h with h;subst h;have hlk:∀p∈l,s1.look p.1 p.2=s2.look p.1 p.2:=fun p hp=>hup (p.1,p.2,((s1.look p.1 p.2).1,.dead)) (yGT.2 ⟨p,hp,rfl⟩);rw[jM hD hl hlk];simp only;rw[if_pos hall];have:kill s2 l=kill s1 l:=by
     unfold kill;apply yHD;rintro ⟨d,i⟩ hp;have:=hlk _ hp;simp only at this|-;rw[this]
    rw[this]
   ·cases h
  ·cases h
 | load ag n take p=>
  simp only[opf] at h|-;rw[<-hev p (by simp[AOp.opds])];split at h
  ·exact h
  ·exact h
  ·rename_i d i g off _;split at h
   ·rename_i g' cs hlk;split at h
    ·rename_i hg;split at h
     ·rename_i v hv;split at h
      ·rename_i ht;injection h with h;subst h;have:=hup _ (yGV.2 rfl);simp only at this|-;rw[<-this,hlk];simp only;rw[if_pos hg,hv];simp only;rw[if_pos ht]
      ·rename_i hta;split at h
       ·rename_i ht;injection h with h;subst h;have:=hup _ (yGV.2 rfl);simp only at this|-;rw[<-this,hlk];simp only;rw[if_pos hg,hv];simp only;rw[if_neg hta,if_pos ht]
       ·rename_i ht;injection h with h;subst h;have:=hrd (d,i) (yGV.2 rfl);simp only at this|-;rw[<-this,hlk];simp only;rw[if_pos hg,hv];simp only;rw[if_neg hta,if_neg ht]
     ·cases h
    ·cases h
   ·cases h
  ·cases h
 | store n p x=>
  simp only[opf] at h|-;rw[<-hev p (by simp[AOp.opds]),<-hevr x (fun t ht=>by simpa[AOp.takes] using ht)];split at h
  ·rename_i d i g off _;split at h
   ·rename_i g' cs hlk;split at h
    ·rename_i hc;injection h with h;subst h;have:=hup _ (yGV.2 rfl);simp only at this|-;rw[<-this,hlk];simp only;rw[if_pos hc]
    ·cases h
   ·cases h
  ·cases h
 | nilchk x=>simp only[opf] at h|-;rw[<-hev x (by simp[AOp.opds])];exact h
 | bin op e' x y=>simp only[opf] at h|-;rw[<-hev x (by simp[AOp.opds]),<-hev y (by simp[AOp.opds])];exact h
 | un op x=>simp only[opf] at h|-;rw[<-hev x (by simp[AOp.opds])];exact h
 | conv k x=>simp only[opf] at h|-;rw[<-hev x (by simp[AOp.opds])];exact h
 | faddr off x=>simp only[opf] at h|-;rw[<-hev x (by simp[AOp.opds])];exact h
 | iaddrA len z x i=>simp only[opf] at h|-;rw[<-hev x (by simp[AOp.opds]),<-hev i (by simp[AOp.opds])];exact h
 | iaddrS z x i=>simp only[opf] at h|-;rw[<-hev x (by simp[AOp.opds]),<-hev i (by simp[AOp.opds])];exact h
 | extr tk x i=>
  cases tk with
  | false=>simp only[opf] at h|-;rw[<-hev x (by simp[AOp.opds])];exact h
  | true=>simp only[opf] at h|-;rw[<-hevr x (fun t ht=>by simpa[AOp.takes] using ht)];exact h
 | len x=>simp only[opf] at h|-;rw[<-hev x (by simp[AOp.opds])];exact h
 | append z bytes x y=>
  simp only[opf] at h|-;rw[<-hevr x (fun t ht=>by simpa[AOp.takes] using ht),<-hev y (by simp[AOp.opds])];split at h
  ·rename_i z' xs t ys r h1 h2;split at h
   ·rename_i hc;injection h with h;subst h;rw[vN h2 hrd,h1];exact if_pos hc
   ·cases h
  ·cases h
 | stuck=>simp[opf] at h
 | isnil x=>simp only[opf] at h|-;rw[<-hev x (by simp[AOp.opds])];exact h
 | copy z x y=>
  simp only[opf] at h|-;rw[<-hev x (by simp[AOp.opds]),<-hev y (by simp[AOp.opds])];split at h
  ·rename_i d i g off len z' ea ys r h1 h2;split at h
   ·rename_i g' cs hlk;split at h
    ·rename_i hc;injection h with h;subst h;have hl:=hup _ (yGV.2 rfl);simp only at hl;rw[vN h2 hrd,h1];simp only;rw[<-hl,hlk];exact if_pos hc
    ·cases h
   ·cases h
  ·cases h
 | mm max x y=>simp only[opf] at h|-;rw[<-hev x (by simp[AOp.opds]),<-hev y (by simp[AOp.opds])];exact h
 | sidx x y=>simp only[opf] at h|-;rw[<-hev x (by simp[AOp.opds]),<-hev y (by simp[AOp.opds])];exact h
 | call f args=>simp[opf] at h
 | callL f args=>simp[opf] at h
 | callv x args=>simp[opf] at h
 | mkslice z bytes ea zero l c=>
  simp only[opf] at h|-;rw[<-hev l (by simp[AOp.opds]),<-hev c (by simp[AOp.opds])];split at h
  ·rename_i d _ n _ m h1 h2;split at h
   ·rename_i e0 he0;split at h
    ·rename_i hc;injection h with h;subst h;have:=qS hD hos (hup _ (yGV.2 rfl));simp only at this|-;rw[<-this,he0,<-hD];simp only;rw[if_pos hc]
    ·cases h
   ·cases h
  ·cases h
 | slice z take x lo hi=>
  simp only[opf] at h|-;have hlo:optI s2 lo (some 0)=optI s1 lo (some 0):=by
   cases lo with
   | none=>rfl
   | some o=>simp only[optI];rw[hev o (by simp[AOp.opds])]
  have hhi:∀k:Option Int,optI s2 hi k=optI s1 hi k:=by
   intro k;cases hi with
   | none=>rfl
   | some o=>simp only[optI];rw[hev o (by simp[AOp.opds])]
  rw[hlo];split at h
  ·cases h
  ·rename_i l hl;by_cases htk:take=true/\hi=none
   ·obtain ⟨rfl,rfl⟩:=htk;rw[<-hevr x (fun t ht=>by simpa[AOp.takes] using ht)];exact h
   ·-- no right goes over: a copy of the operand serves
    have hd:(s1.evr x).dem=(s2.evr x).dem:=by
     have:=hev x (by simp[AOp.opds]);cases x with
     | t i=>exact this
     | c v=>rfl
    generalize s1.evr x=u1 at h hd;generalize s2.evr x=u2 at hd;split at h
    ·rename_i z' xs tp;obtain ⟨tp2,rfl⟩:∃t2,u2= .sl z' xs t2:=by
      cases u2<;>simp[AV.dem] at hd
      rename_i z2 xs2 t2;exact ⟨t2,by rw[hd.1,hd.2.1]⟩
     simp only;rw[hhi];split at h
     ·rename_i hv hh;split at h
      ·rename_i hc;split at h
       ·rename_i ht;simp[yHE,yIP] at ht;exact absurd ht htk
       ·rename_i ht;rw[if_pos hc,if_neg ht];exact h
      ·cases h
     ·cases h
    ·cases h
 | mkchan bytes n=>
  simp only[opf] at h|-;rw[<-hev n (by simp[AOp.opds])];split at h
  ·rename_i d _ m h1;split at h
   ·rename_i e0 he0;split at h
    ·rename_i hc;injection h with h;subst h;have:=qS hD hos (hup _ (yGV.2 rfl));simp only at this|-;rw[<-this,he0,<-hD];exact if_pos hc
    ·cases h
   ·cases h
  ·cases h
 | mkmap=>
  simp only[opf] at h|-;split at h
  ·rename_i d;split at h
   ·rename_i e0 he0;injection h with h;subst h;have:=qS hD hos (hup _ (yGV.2 rfl));simp only at this|-;rw[<-this,he0,<-hD]
   ·cases h
  ·cases h
 | mlook n cok zero x k=>
  simp only[opf] at h|-;rw[<-hev x (by simp[AOp.opds]),<-hev k (by simp[AOp.opds])];split at h
  ·rename_i d i g kk h1 h2;split at h
   ·rename_i g' es hlk;split at h
    ·rename_i hc;split at h
     ·rename_i v hm;split at h
      ·rename_i hvp;injection h with h;subst h;have:=hrd (d,i) (by simp);simp only at this;simp only[<-this,hlk,if_pos hc,hm,if_pos hvp]
      ·cases h
     ·rename_i hm;injection h with h;subst h;have:=hrd (d,i) (by simp);simp only at this;simp only[<-this,hlk,if_pos hc,hm]
     ·cases h
    ·cases h
   ·cases h
  ·cases h
 | mupd n x k v=>
  simp only[opf] at h|-;rw[<-hev x (by simp[AOp.opds]),<-hev k (by simp[AOp.opds]),<-hev v (by simp[AOp.opds])];split at h
  ·rename_i d i g kk h1 h2;split at h
   ·rename_i g' es hlk;split at h
    ·rename_i hc;split at h
     ·rename_i hm;injection h with h;subst h;have:=hup _ (yGV.2 rfl);simp only at this;simp only[<-this,hlk,if_pos hc,hm]
     ·cases h
    ·cases h
   ·cases h
  ·cases h
 | lenc x=>
  simp only[opf] at h|-;rw[<-hev x (by simp[AOp.opds])];split at h
  ·rename_i d i g h1;split at h
   ·rename_i g' cap buf hlk;split at h
    ·rename_i hc;injection h with h;subst h;have:=hrd (d,i) (by simp);simp only at this;simp only[<-this,hlk];exact if_pos hc
    ·cases h
   ·cases h
  ·cases h
 | send c x=>simp[opf] at h
 | recv c=>simp[opf] at h
 | mkfn f cap=>
  simp only[opf] at h|-;have:(cap.map fun x=>(s2.ev x).strip)=cap.map fun x=>(s1.ev x).strip:=yHD fun x hx=>by rw[hev x hx]
  rw[this];exact h
 | mkmeth f cap=>
  simp only[opf] at h|-;have:(cap.map fun x=>(s2.ev x).strip)=cap.map fun x=>(s1.ev x).strip:=yHD fun x hx=>by rw[hev x hx]
  rw[this];exact h
theorem d6 {o:AOp} {e:Eff} (h:opfC s1 o=some e) (ha:Agr (o.opds.flatMap Opd.tmp) o.takes e.sites s1 s2):opfC s2 o=some e:=by
 have hev:∀x∈o.opds,s1.ev x=s2.ev x:=fun x hx=>qV fun t ht=>ha.nm t (yHB.2 ⟨x,hx,ht⟩);have hup:∀u∈e.ups,s1.look u.1 u.2.1=s2.look u.1 u.2.1:=fun u hu=>ha.lk (u.1,u.2.1) (yGU.2 (.inr (yGT.2 ⟨u,hu,rfl⟩)));have hD:=ha.D;clear ha;cases o with
 | send c x=>
  simp only[opfC] at h|-;rw[<-hev c (by simp[AOp.opds]),<-hev x (by simp[AOp.opds])];split at h
  ·rename_i d i g v l h1 h2;split at h
   ·rename_i g' cap buf hlk;split at h
    ·rename_i hc;injection h with h;subst h;have hk:∀p∈l,s1.look p.1 p.2=s2.look p.1 p.2:=fun p hp=>hup (p.1,p.2,((s1.look p.1 p.2).1,.dead)) (yGU.2 (.inl (yGT.2 ⟨p,hp,rfl⟩)));have hf:frz s2 frzD (s1.ev x)=some (v,l):=jL hD _ h2 hk;have hd:=hup (d,i,(g,.ch cap (buf++[v.strip]))) (yGU.2 (.inr (by simp)));simp only at hd;have hkill:kill s2 l=kill s1 l:=yHD fun p hp=>by obtain ⟨p1,p2⟩:=p;simp only;rw[hk _ hp]
     rw[h1,hf];simp only;rw[<-hd,hlk];simp only;rw[if_pos hc,hkill]
    ·cases h
   ·cases h
  ·cases h
 | recv c=>
  simp only[opfC] at h|-;rw[<-hev c (by simp[AOp.opds])];split at h
  ·rename_i d i g h1;split at h
   ·rename_i g' cap v buf hlk;split at h
    ·rename_i hc;injection h with h;subst h;have hd:=hup _ (yGV.2 rfl);simp only at hd;simp only[h1,<-hd,hlk];exact if_pos hc
    ·cases h
   ·cases h
  ·cases h
 | _=>simp[opfC] at h
theorem xZ (hD:s1.D=s2.D) (ho:s1.os.length=s2.os.length) {d i:Nat} (h:s1.look d i=s2.look d i):xT s1 d i=xT s2 d i:=by
 unfold xT;rw[<-hD];by_cases hd:d=s1.D
 ·rw[if_pos hd,if_pos hd];subst hd;exact qS hD ho h
 ·rw[if_neg hd,if_neg hd];have hd2:¬d=s2.D:=fun e=>hd (e.trans hD.symm);simp only[St.look,if_neg hd,if_neg hd2] at h;rw[h]
theorem lD {d z y ys l} (h:uT s1 d z y=some (ys,l)) (hl:∀p∈l,s1.look p.1 p.2=s2.look p.1 p.2):uT s2 d z y=some (ys,l):=by
 unfold uT at h|-;split at h
 ·exact h
 ·rename_i d i g off len z' ea;split at h
  ·rename_i hz;split at h
   ·rename_i g' cs hlk;split at h
    ·rename_i hc;injection h with h;injection h with h h2;subst h;subst h2;have:=hl (d,i) (by simp);simp only at this;rw[if_pos hz,<-this,hlk];simp only;rw[if_pos hc]
    ·cases h
   ·cases h
  ·cases h
 ·cases h
theorem zFV {dd slt:Nat} {o:AOp} {e:Eff} (h:opfP s1 dd slt o=some e) (ha:Agr (o.opds.flatMap Opd.tmp) o.takes e.sites s1 s2):opfP s2 dd slt o=some e:=by
 have hev:∀x∈o.opds,s1.ev x=s2.ev x:=fun x hx=>qV fun t ht=>ha.nm t (yHB.2 ⟨x,hx,ht⟩);have hevr:∀x:Opd,(∀t∈x.tmp,t∈o.takes)->s1.evr x=s2.evr x:=fun x hx=>jP fun t ht=>ha.tk t (hx t ht);have hrd:∀p∈e.rd,s1.look p.1 p.2=s2.look p.1 p.2:=fun p hp=>ha.lk p (yGU.2 (.inl hp));have hup:∀u∈e.ups,s1.look u.1 u.2.1=s2.look u.1 u.2.1:=fun u hu=>ha.lk (u.1,u.2.1) (yGU.2 (.inr (yGT.2 ⟨u,hu,rfl⟩)));have hD:=ha.D;have hos:=ha.os;clear ha;cases o with
 | alloc z=>
  simp only[opfP] at h|-;split at h
  ·rename_i e0 he0;injection h with h;subst h;rw[<-xZ hD hos (hup _ (yGV.2 rfl)),he0]
  ·cases h
 | box n x=>
  simp only[opfP] at h|-;rw[<-hev x (by simp[AOp.opds])];split at h
  ·rename_i e0 he0;split at h
   ·rename_i hc;injection h with h;subst h;rw[<-xZ hD hos (hup _ (yGV.2 rfl)),he0];exact if_pos hc
   ·cases h
  ·cases h
 | bslice z ea ps=>
  simp only[opfP] at h|-;have hm:ps.map s2.ev=ps.map s1.ev:=yHD fun x hx=>(hev x hx).symm;rw[hm];split at h
  ·rename_i e0 he0;split at h
   ·rename_i hc;injection h with h;subst h;rw[<-xZ hD hos (hup _ (yGV.2 rfl)),he0];exact if_pos hc
   ·cases h
  ·cases h
 | mkslice z bytes ea zero l c=>
  simp only[opfP] at h|-;rw[<-hev l (by simp[AOp.opds]),<-hev c (by simp[AOp.opds])];split at h
  ·rename_i e0 _ n _ m he0 h1 h2;split at h
   ·rename_i hc;injection h with h;subst h;rw[<-xZ hD hos (hup _ (yGV.2 rfl)),he0,h1,h2];exact if_pos hc
   ·cases h
  ·cases h
 | append z bytes x y=>
  simp only[opfP] at h|-;rw[<-hevr x (fun t ht=>by simpa[AOp.takes] using ht),<-hev y (by simp[AOp.opds])];split at h
  ·rename_i z' y0 ys r h1 h2;split at h
   ·rename_i e0 he0;split at h
    ·rename_i hc;injection h with h;subst h;rw[lD h2 hrd,h1,<-xZ hD hos (hup _ (yGV.2 rfl)),he0];exact if_pos hc
    ·cases h
   ·cases h
  ·rename_i d i g off len z' ea ys r h1 h2;split at h
   ·rename_i g' cs hlk;split at h
    ·rename_i hc;injection h with h;subst h;rw[lD h2 hrd,h1];have:=hup _ (yGV.2 rfl);obtain ⟨rfl,rfl,hc3⟩:=hc;simp only at this|-;rw[<-this,hlk];exact if_pos ⟨trivial,trivial,hc3⟩
    ·cases h
   ·cases h
  ·cases h
 | mkmap=>
  simp only[opfP] at h|-;split at h
  ·rename_i e0 he0;injection h with h;subst h;rw[<-xZ hD hos (hup _ (yGV.2 rfl)),he0]
  ·cases h
 | _=>simp[opfP] at h
theorem dZ {dst:Option Nat} {o:AOp} {e:Eff} (h:opfO s1 dst o=some e) (ha:Agr (o.opds.flatMap Opd.tmp) o.takes e.sites s1 s2):opfO s2 dst o=some e:=by
 have ha0:=ha;have hev:∀x∈o.opds,s1.ev x=s2.ev x:=fun x hx=>qV fun t ht=>ha.nm t (yHB.2 ⟨x,hx,ht⟩);have hevr:∀x:Opd,(∀t∈x.tmp,t∈o.takes)->s1.evr x=s2.evr x:=fun x hx=>jP fun t ht=>ha.tk t (hx t ht);have hrd:∀p∈e.rd,s1.look p.1 p.2=s2.look p.1 p.2:=fun p hp=>ha.lk p (yGU.2 (.inl hp));have hup:∀u∈e.ups,s1.look u.1 u.2.1=s2.look u.1 u.2.1:=fun u hu=>ha.lk (u.1,u.2.1) (yGU.2 (.inr (yGT.2 ⟨u,hu,rfl⟩)));have hD:=ha.D;have hos:=ha.os;clear ha;cases o with
 | mov take x=>
  cases take
  ·simp only[opfO,yHK,if_false] at h|-;rw[<-hev x (by simp[AOp.opds])];exact h
  ·simp only[opfO,if_true] at h|-;rw[<-hevr x (fun t ht=>by simpa[AOp.takes] using ht)];exact h
 | append z bytes x y=>
  simp only[opfO] at h|-;rw[<-hevr x (fun t ht=>by simpa[AOp.takes] using ht),<-hev y (by simp[AOp.opds])];split at h
  ·rename_i z' r h1 h2;injection h with h;subst h;rw[vN h2 hrd,h1]
  ·rename_i d i g off len z' ea r h1 h2;split at h
   ·rename_i hc;injection h with h;subst h;rw[vN h2 hrd,h1];exact if_pos hc
   ·cases h
  ·rename_i z' y0 ys r h1 h2;split at h
   ·rename_i d;split at h
    ·rename_i e0 he0;split at h
     ·rename_i hc;injection h with h;subst h;rw[vN h2 hrd,h1];have:=qS hD hos (hup _ (yGV.2 rfl));simp only at this|-;rw[<-this,he0,<-hD];exact if_pos hc
     ·cases h
    ·cases h
   ·cases h
  ·rename_i d i g off len z' ea ys r hov h1 h2;split at h
   ·rename_i g' cs hlk;split at h
    ·rename_i hc;injection h with h;subst h;rw[vN h2 hrd,h1];have:=hup _ (yGV.2 rfl);simp only at this|-;rw[<-this,hlk,<-hD];exact if_pos hc
    ·cases h
   ·cases h
  ·cases h
 | slice z take x lo hi=>
  simp only[opfO] at h|-;have hlo:optI s2 lo (some 0)=optI s1 lo (some 0):=by
   cases lo with
   | none=>rfl
   | some o=>simp only[optI];rw[hev o (by simp[AOp.opds])]
  have hhi:∀k:Option Int,optI s2 hi k=optI s1 hi k:=by
   intro k;cases hi with
   | none=>rfl
   | some o=>simp only[optI];rw[hev o (by simp[AOp.opds])]
  rw[hlo,<-hev x (by simp[AOp.opds])];simp only[hhi];exact h
 | load ag n take p=>
  have h':opf s1 none (.load ag n false p)=some e:=h;exact fY (o:= .load ag n false p) h' ha0
 | _=>simp[opfO] at h
theorem zLE {dst:Option Nat} {o:AOp} {e:Eff} (h:OpE C s1 dst o e) (ha:Agr (o.opds.flatMap Opd.tmp) o.takes e.sites s1 s2):OpE C s2 dst o e:=by
 cases h with
 | op h=>exact .op (fY h ha)
 | own h=>exact .own (dZ h ha)
 | plc h=>exact .plc (zFV h ha)
 | comm h=>exact .comm (d6 h ha)
 | call hf hC hM hdl=>
  rename_i f args M dl r;have hev:∀x∈args,s1.ev x=s2.ev x:=fun x hx=>qV fun t ht=>ha.nm t (yHB.2 ⟨x,hx,ht⟩);have hm:(args.map fun x=>(s1.ev x).strip)=args.map fun x=>(s2.ev x).strip:=yHD fun x hx=>by rw[hev x hx]
  refine .call hf (by rw[<-hm,<-ha.D];exact hC) (fun m hm'=> ?_) hdl;have:=hM m hm';have hl:=ha.lk (m.1,m.2.1) (yGU.2 (.inl (yGT.2 ⟨m,hm',rfl⟩)));simp only at hl;exact ⟨by rw[<-ha.D];exact this.1,fun e=>by rw[<-ha.os];exact this.2.1 (e.trans ha.D.symm),by rw[<-hl];exact this.2.2⟩
 | callL hf hn hC hM hdl=>
  rename_i f args M dl r;have hev:∀x∈args,s1.evr x=s2.evr x:=fun x hx=>jP fun t ht=>ha.tk t (yHB.2 ⟨x,hx,ht⟩);have hm:(args.map fun x=>(s1.evr x).keep)=args.map fun x=>(s2.evr x).keep:=yHD fun x hx=>by rw[hev x hx]
  refine .callL hf hn (by rw[<-hm,<-ha.D];exact hC) (fun m hm'=> ?_) hdl;have:=hM m hm';have hl:=ha.lk (m.1,m.2.1) (yGU.2 (.inl (yGT.2 ⟨m,hm',rfl⟩)));simp only at hl;exact ⟨by rw[<-ha.D];exact this.1,fun e=>by rw[<-ha.os];exact this.2.1 (e.trans ha.D.symm),by rw[<-hl];exact this.2.2⟩
 | callv hf hx hC hM hdl=>
  rename_i f cap x args M dl r;have hev:∀y∈x::args,s1.ev y=s2.ev y:=fun y hy=>qV fun t ht=>ha.nm t (yHB.2 ⟨y,hy,ht⟩);have hm:(args.map fun x=>(s1.ev x).strip)=args.map fun x=>(s2.ev x).strip:=yHD fun y hy=>by rw[hev y (by simp[hy])]
  refine .callv hf (by rw[<-hev x (by simp)];exact hx) (by rw[<-hm,<-ha.D];exact hC) (fun m hm'=> ?_) hdl;have:=hM m hm';have hl:=ha.lk (m.1,m.2.1) (yGU.2 (.inl (yGT.2 ⟨m,hm',rfl⟩)));simp only at hl;exact ⟨by rw[<-ha.D];exact this.1,fun e=>by rw[<-ha.os];exact this.2.1 (e.trans ha.D.symm),by rw[<-hl];exact this.2.2⟩
 | callm hf hx hC hM hdl=>
  rename_i f cap x args M dl r;have hev:∀y∈x::args,s1.ev y=s2.ev y:=fun y hy=>qV fun t ht=>ha.nm t (yHB.2 ⟨y,hy,ht⟩);have hm:(args.map fun x=>(s1.ev x).strip)=args.map fun x=>(s2.ev x).strip:=yHD fun y hy=>by rw[hev y (by simp[hy])]
  refine .callm hf (by rw[<-hev x (by simp)];exact hx) (by rw[<-hm,<-ha.D];exact hC) (fun m hm'=> ?_) hdl;have:=hM m hm';have hl:=ha.lk (m.1,m.2.1) (yGU.2 (.inl (yGT.2 ⟨m,hm',rfl⟩)));simp only at hl;exact ⟨by rw[<-ha.D];exact this.1,fun e=>by rw[<-ha.os];exact this.2.1 (e.trans ha.D.symm),by rw[<-hl];exact this.2.2⟩
 | yld hx hC hM hdl=>
  rename_i d i g x args M dl r;have hev:∀y∈x::args,s1.ev y=s2.ev y:=fun y hy=>qV fun t ht=>ha.nm t (yHB.2 ⟨y,hy,ht⟩);have hm:(args.map fun x=>(s1.ev x).strip)=args.map fun x=>(s2.ev x).strip:=yHD fun y hy=>by rw[hev y (by simp[hy])]
  refine .yld (by rw[<-hev x (by simp)];exact hx) (by rw[<-hm,<-ha.D];exact hC) (fun m hm'=> ?_) hdl;have:=hM m hm';have hl:=ha.lk (m.1,m.2.1) (yGU.2 (.inl (yGT.2 ⟨m,hm',rfl⟩)));simp only at hl;exact ⟨by rw[<-ha.D];exact this.1,fun e=>by rw[<-ha.os];exact this.2.1 (e.trans ha.D.symm),by rw[<-hl];exact this.2.2⟩
 | emp hd h=>
  rename_i z ea d ent;have hl:=qS ha.D ha.os (ha.lk (s1.D,d) (yGU.2 (.inr (yGV.2 rfl))));rw[ha.D];rw[hl] at h;exact .emp hd h
theorem zFW {s:St} {dst:Option Nat} {o:AOp} {e:Eff} (h:OpE C s dst o e):(o.ups=false->e.ups= [])/\(o.rds=false->e.rd= [])/\∀t∈e.dem,t∈o.takes:=by
 cases h with
 | op h=>
  cases o with
  | mov take x=>cases take<;>simp only[opf,yHK,if_false,if_true] at h<;>injection h with h<;>subst h<;>simp[AOp.takes]
  | load ag n take p=>
   simp only[opf] at h
   repeat' (split at h)
   all_goals first | (cases h;done) | skip
   all_goals (injection h with h;subst h;simp_all[AOp.ups,AOp.rds])
  | slice z take x lo hi=>
   simp only[opf] at h
   repeat' (split at h)
   all_goals first | (cases h;done) | skip
   all_goals first
    | (injection h with h;subst h;rename_i ht;simp[yHE,yIP] at ht;obtain ⟨rfl,rfl⟩:=ht;simp[AOp.takes];done)
    | (injection h with h;subst h;simp)
  | call f args=>simp[opf] at h
  | callL f args=>simp[opf] at h
  | callv x args=>simp[opf] at h
  | extr take x i=>
   cases take<;>
   ·simp only[opf] at h
    repeat' (split at h)
    all_goals first | (cases h;done) | skip
    all_goals (injection h with h;subst h;simp[AOp.ups,AOp.rds,AOp.takes])
  | _=>
   simp only[opf] at h
   repeat' (split at h)
   all_goals first | (cases h;done) | skip
   all_goals (injection h with h;subst h;simp[AOp.ups,AOp.rds,AOp.takes])
 | comm h=>
  cases o with
  | send c x=>
   simp only[opfC] at h
   repeat' (split at h)
   all_goals first | (cases h;done) | skip
   all_goals (injection h with h;subst h;simp[AOp.ups,AOp.rds])
  | recv c=>
   simp only[opfC] at h
   repeat' (split at h)
   all_goals first | (cases h;done) | skip
   all_goals (injection h with h;subst h;simp[AOp.ups,AOp.rds])
  | _=>simp[opfC] at h
 | plc h=>
  cases o with
  | _=>
   simp only[opfP] at h
   repeat' (split at h)
   all_goals first | (cases h;done) | skip
   all_goals (injection h with h;subst h;simp[AOp.ups,AOp.rds,AOp.takes])
 | own h=>
  cases o with
  | mov take x=>cases take<;>simp only[opfO,yHK,if_false,if_true] at h<;>injection h with h<;>subst h<;>simp[AOp.takes]
  | slice z take x lo hi=>
   simp only[opfO] at h
   repeat' (split at h)
   all_goals first | (cases h;done) | skip
   all_goals (injection h with h;subst h;simp)
  | append z bytes x y=>
   simp only[opfO] at h
   repeat' (split at h)
   all_goals first | (cases h;done) | skip
   all_goals (injection h with h;subst h;simp[AOp.ups,AOp.rds,AOp.takes])
  | load ag n take p=>
   have h':opf s none (.load ag n false p)=some e:=h;simp only[opf] at h'
   repeat' (split at h')
   all_goals first | (cases h';done) | skip
   all_goals (injection h' with h';subst h';simp_all[AOp.ups,AOp.rds])
  | _=>simp[opfO] at h
 | call=>simp[AOp.ups,AOp.rds]
 | callL=>simp[AOp.ups,AOp.rds,AOp.takes]
 | callv=>simp[AOp.ups,AOp.rds]
 | callm=>simp[AOp.ups,AOp.rds]
 | yld=>simp[AOp.ups,AOp.rds]
 | emp=>simp[AOp.ups,AOp.rds]
end
end Go.Ab
/- Regions,in the order of the text and in whatever order. -/
namespace Go.Ab
open Go
def qO (P:Program) (ops:Array Oper) (Q:Act->World->Prop):List Nat->Act->World->Prop
 | [],a,w=>Q a w
 | i::rest,a,w=>OpS P ops i a w (qO P ops Q rest)
theorem rY {P:Program} {ops:Array Oper} {Q:Act->World->Prop}:∀(l:List Nat) (a:Act) (w:World),qO P ops Q l a w->∀(b:Frame),b.kind≠ .early->∀(k:List Item) (cs:List Frame),
  ∃a' w',Q a' w'/\Steps P (lone (b.atR a (.inRegion ops l::k)) cs w) (lone (b.atR a' k) cs w')
 | [],a,w,h,b,hb,k,cs=>⟨a,w,h,.one stepR_region_end⟩
 | i::rest,a,w,h,b,hb,k,cs=>by
  obtain ⟨a1,w1,h1,s1⟩:=h b hb k cs rest;obtain ⟨a2,w2,h2,s2⟩:=rY rest a1 w1 h1 b hb k cs;exact ⟨a2,w2,h2,s1.trans s2⟩
def qP (P:Program) (md:Region.Mode) (ops:Array Oper) (Q:Act->World->Prop):Nat->Array Bool->Act->World->Prop
 | 0,listed,a,w=>Region.ready md ops listed= []/\Q a w
 | fuel+1,listed,a,w=>
  (Region.ready md ops listed= []->Q a w)/\
  ∀i∈Region.ready md ops listed,OpS P ops i a w (qP P md ops Q fuel (listed.setIfInBounds i true))
theorem iC {P:Program} {md:Region.Mode} {ops:Array Oper} {Q:Act->World->Prop}:∀(fuel t:Nat) (listed:Array Bool) (a:Act) (w:World),qP P md ops Q fuel listed a w->
  qO P ops Q (Region.linearise.go md ops fuel t listed []) a w:=by
 intro fuel
 induction fuel with
 | zero=>intro t listed a w h;simpa[Region.linearise.go,qO] using h.2
 | succ fuel ih=>
  intro t listed a w h;obtain ⟨h₀,h₁⟩:=h;simp only[Region.linearise.go];change qO P ops Q (match (Region.ready md ops listed)[t % (Region.ready md ops listed).length]? with
   | some i=>Region.linearise.go md ops fuel (t / (Region.ready md ops listed).length) (listed.setIfInBounds i true) [i]
   | none=>[].reverse) a w
  cases hi:(Region.ready md ops listed)[t % (Region.ready md ops listed).length]? with
  | none=>
   have hnil:Region.ready md ops listed= []:=by
    cases hr:Region.ready md ops listed with
    | nil=>rfl
    | cons x xs=>
     rw[hr] at hi;have hlt:t % (x::xs).length < (x::xs).length:=Nat.mod_lt _ (by simp);simp at hi;simp at hlt;omega
   simpa[qO] using h₀ hnil
  | some i=>
   simp only[];rw[linearise_go_acc,List.reverse_singleton,yIA];exact OpS.mono (h₁ i (List.mem_of_getElem? hi)) (fun a w=>ih _ _ a w)
def RegS (P:Program) (c:Code) (a:Act) (w:World) (Q:Act->World->Prop):Prop:=
 ∀(b:Frame),b.kind≠ .early->∀(k:List Item) (cs:List Frame),∃a' w',Q a' w'/\Steps P (lone (b.atR a (.code c::k)) cs w) (lone (b.atR a' k) cs w')
theorem regS {P:Program} {ops:Array Oper} {Q:Act->World->Prop} {id:Nat} {a:Act} {w:World} (h:qO P ops Q (yHH ops.size) a w):RegS P (.region id ops false) a w Q:=
 fun b hb k cs=>let ⟨a',w',q,r⟩:=rY _ a w h b hb k cs;⟨a',w',q,.head stepR_region r⟩
theorem dX {P:Program} {ops:Array Oper} {Q:Act->World->Prop} {id:Nat} {a:Act} {w:World} (hm:P.follows .mixedOrders=true)
  (h:qP P .any ops Q ops.size (yHJ ops.size false) a {w with drawn:=w.drawn+1}):RegS P (.region id ops true) a w Q:=
 fun b hb k cs=>by
  have:=iC ops.size (w.tape w.drawn (.order b.fn id)) _ a _ h;obtain ⟨a',w',q,r⟩:=rY _ a _ this b hb k cs;refine ⟨a',w',q,.head stepR_region_draw ?_⟩;simp only[Region.schedule,hm,Bool.true_or,if_true];exact r
inductive OpsE (C:zL):List AOper->St->List Eff->St->Prop where
 | nil {s}:OpsE C [] s [] s
 | on {o l s e es s'}:gate s o.guard=some true->OpE C s o.dst o.op e->OpsE C l (s.app o.dst e) es s'->OpsE C (o::l) s (e::es) s'
 | off {o l s es s'}:gate s o.guard=some false->OpsE C l (s.app o.dst ({}:Eff)) es s'->OpsE C (o::l) s (({}:Eff)::es) s'
theorem zEB (s:St) (d:Option Nat):s.app d ({}:Eff)=s.put d ud:=rfl
section
variable {P:Program} {G:Nat->Option (List AV)} {L:xA} {prot:Nat->Prop} {w0:World} {E0 E:GE} {w:World} {s:St} {a:Act} {gops:Array Oper}
inductive CompL (P:Program) (G:Nat->Option (List AV)) (L:xA) (gops:Array Oper):List Nat->List AOper->Prop where
 | nil:CompL P G L gops [] []
 | cons {i o ao todo l}:gops[i]?=some o->xI P G L gops o=some ao->CompL P G L gops todo l->CompL P G L gops (i::todo) (ao::l)
theorem jV {o:Oper} {ao:AOper} (h:xI P G L gops o=some ao):yL P G L gops o=some ao.op/\ao.dst=o.dst:=by
 unfold xI at h;split at h
 ·rename_i h1 h2;injection h with h;subst h;exact ⟨h1,rfl⟩
 ·split at h
  ·rename_i h1 _ _ _;injection h with h;subst h;exact ⟨by assumption,rfl⟩
  ·cases h
 ·cases h
theorem eF (h:Ok G prot w0 E0 E w s a.tmps) {o:Oper} {ao:AOper} (hc:xI P G L gops o=some ao):∀gb,gate s ao.guard=some gb->Region.wanted o (yielded gops a.tmps)=gb:=by
 unfold xI at hc;split at hc
 ·rename_i h1 h2;injection hc with hc;subst hc;intro gb hgb;simp[gate] at hgb;simp[Region.wanted,h2,hgb]
 ·rename_i j wt h1 h2;split at hc
  ·rename_i t ht;injection hc with hc;subst hc;have hr:=h.rd t;intro gb hgb;simp only[gate] at hgb;simp only[Region.wanted,h2,yielded,ht,yIQ];generalize s.rd t=c at hr hgb;by_cases hb:∃b,c= .bool b
   ·obtain ⟨b,rfl⟩:=hb;have hv:=hr.bool_inv;have:a.tmps[t]?=some (.bool b):=by
     rw[yGZ] at hv;cases hx:a.tmps[t]? with
     | none=>rw[hx] at hv;simp[undef] at hv
     | some x=>rw[hx] at hv;simp at hv;rw[hv]
    injection hgb with hgb;simp only[this];rw[<-hgb];cases b<;>cases wt<;>rfl
   ·by_cases hu:c= .ub
    ·rw[hu] at hgb;cases hgb
    have hn:∀b,a.tmps[t]?≠some (.bool b):=by
     intro b hx;rw[yGZ,hx] at hr;simp only[yHU] at hr;cases hr with | imm _ _ hr=>cases hr with
      | bool b=>exact hb ⟨b,rfl⟩
      | ub b=>exact hu rfl
    have hgf:gb=false:=by
     split at hgb
     ·exact absurd ⟨_,rfl⟩ hb
     ·exact absurd rfl hu
     ·injection hgb with hgb;exact hgb.symm
    subst hgf;split
    ·rename_i b e;exact absurd e (hn b)
    ·cases wt<;>rfl
  ·cases hc
 ·cases hc
def Good (C:zL) (s:St) (ao:AOper) (e:Eff):Prop:=(gate s ao.guard=some true/\OpE C s ao.dst ao.op e)\/(gate s ao.guard=some false/\e={})
theorem rJ (h:Ok G prot w0 E0 E w s a.tmps) {i:Nat} {o:Oper} {ao:AOper} (hi:gops[i]?=some o) (hc:xI P G L gops o=some ao) {e:Eff} (hg:Good (Loc P G) s ao e)
  {K:Act->World->Prop} (hK:∀a' w',Post G prot w0 E0 E s.D (s.app ao.dst e) a.defers a' w'->K a' w'):OpS P gops i a w K:=by
 obtain ⟨hop,hdst⟩:=jV hc;have hgw:=eF h hc;rcases hg with ⟨h1,h2⟩ | ⟨h1,h2⟩
 ·have hgw:=hgw _ h1;rw[hdst] at h2 hK;exact (op_S h hi hgw hop h2).mono hK
 ·have hgw:=hgw _ h1;subst h2;rw[hdst] at hK;intro b hb k cs rest;refine ⟨a.put o.dst undef,w,hK _ _ ⟨E,GE.leD_refl _ _,?_,yT _ _ _⟩,?_⟩
  ·rw[xO,zEB];exact h.putd _ mD lV
  ·have hs:=stepR_op_skip (P:=P) (b:=b) (a:=a) (k:=k) (cs:=cs) (w:=w) (ops:=gops) (i:=i) (rest:=rest) (by simp[hi,hgw]);simp only[hi,yIQ] at hs;exact .one hs
theorem zLD {l:List AOper} {es:List Eff} {s':St} (hr:OpsE (Loc P G) l s es s'):∀{todo:List Nat} {a:Act} {w:World} {E:GE},CompL P G L gops todo l->Ok G prot w0 E0 E w s a.tmps->∀{Q:Act->World->Prop},
  (∀a' w',Post G prot w0 E0 E s.D s' a.defers a' w'->Q a' w')->qO P gops Q todo a w:=by
 induction hr with
 | nil=>
  intro todo a w E hc h Q hQ;cases hc;exact hQ _ _ ⟨E,GE.leD_refl _ _,h,rfl⟩
 | on h1 h2 _ ih=>
  intro todo a w E hc h Q hQ;cases hc with
  | cons hi hco hcl=>
   refine rJ h hi hco (.inl ⟨h1,h2⟩) fun a' w' hp=> ?_;obtain ⟨E',hle,hok,hd⟩:=hp;refine ih hcl hok fun a'' w'' hp2=>hQ _ _ ?_;obtain ⟨E'',hle2,hok2,hd2⟩:=hp2;rw[vB] at hle2;exact ⟨E'',GE.leD_trans hle hle2,hok2,hd2.trans hd⟩
 | off h1 _ ih=>
  intro todo a w E hc h Q hQ;cases hc with
  | cons hi hco hcl=>
   refine rJ h hi hco (.inr ⟨h1,rfl⟩) fun a' w' hp=> ?_;obtain ⟨E',hle,hok,hd⟩:=hp;refine ih hcl hok fun a'' w'' hp2=>hQ _ _ ?_;obtain ⟨E'',hle2,hok2,hd2⟩:=hp2;rw[vB] at hle2;exact ⟨E'',GE.leD_trans hle hle2,hok2,hd2.trans hd⟩
theorem jW:∀{os:List Oper} {l:List AOper} {k:Nat},yM P G L gops os=some l->(∀i o,os[i]?=some o->gops[k+i]?=some o)->CompL P G L gops (List.range' k os.length) l
 | [],l,k,h,_=>by simp[yM] at h;subst h;exact .nil
 | o::os,l,k,h,hg=>by
  simp only[yM] at h;split at h
  ·rename_i ao l' h1 h2;injection h with h;subst h;simp only[yHN,List.range'_succ];refine .cons (hg 0 o rfl) h1 (jW h2 fun i o' ho=> ?_);have:=hg (i+1) o' (by simpa using ho);rw[show k+(i+1)=k+1+i by omega] at this;exact this
  ·cases h
theorem zAZ {id:Nat} {l:List AOper} (hc:yM P G L gops gops.toList=some l) (h:Ok G prot w0 E0 E w s a.tmps) {es:List Eff} {s':St} (hr:OpsE (Loc P G) l s es s') {Q:Act->World->Prop}
  (hQ:∀a' w',Post G prot w0 E0 E s.D s' a.defers a' w'->Q a' w'):RegS P (.region id gops false) a w Q:=by
 have:=jW (k:=0) hc (fun i o ho=>by simpa using ho);simp only[yIR] at this;rw[<-List.range_eq_range'] at this;exact regS (zLD hr this h hQ)
def sig (l:List AOper) (es:List Eff) (s:St) (A:Nat->Bool):Nat->St
 | 0=>s
 | m+1=>if A m then (sig l es s A m).app (l.getD m default).dst (es.getD m ({}:Eff)) else sig l es s A m
theorem rB {l es} {s:St} {A B:Nat->Bool}:∀{m},(∀i,i < m->A i=B i)->sig l es s A m=sig l es s B m
 | 0,_=>rfl
 | m+1,h=>by simp only[sig];rw[rB fun i hi=>h i (by omega),h m (by omega)]
theorem uK {ao:AOper} {l:List AOper} {e:Eff} {es:List Eff} {s:St}:∀m,sig (ao::l) (e::es) s (fun _=>true) (m+1)=sig l es (s.app ao.dst e) (fun _=>true) m
 | 0=>rfl
 | m+1=>by
  have:=uK (ao:=ao) (l:=l) (e:=e) (es:=es) (s:=s) m;rw[sig,this];rfl
theorem zGV {C:zL} {l:List AOper} {es:List Eff} {s s':St} (h:OpsE C l s es s'):
  es.length=l.length/\s'=sig l es s (fun _=>true) l.length/\∀(j:Nat) ao e,l[j]?=some ao->es[j]?=some e->Good C (sig l es s (fun _=>true) j) ao e:=by
 induction h with
 | nil=>exact ⟨rfl,rfl,by simp⟩
 | on h1 h2 _ ih=>
  obtain ⟨q1,q2,q3⟩:=ih;refine ⟨by simp[q1],by rw[q2,yHN,uK],fun j ao e ha he=> ?_⟩;cases j with
  | zero=>simp at ha he;subst ha;subst he;exact .inl ⟨h1,h2⟩
  | succ j=>rw[uK];exact q3 j ao e (by simpa using ha) (by simpa using he)
 | off h1 _ ih=>
  obtain ⟨q1,q2,q3⟩:=ih;refine ⟨by simp[q1],by rw[q2,yHN,uK],fun j ao e ha he=> ?_⟩;cases j with
  | zero=>simp at ha he;subst ha;subst he;exact .inr ⟨h1,rfl⟩
  | succ j=>rw[uK];exact q3 j ao e (by simpa using ha) (by simpa using he)
theorem zGF {C:zL} {s1 s2:St} {ao:AOper} {e:Eff} (h:Good C s1 ao e) (ha:Agr ao.names ao.op.takes e.sites s1 s2):Good C s2 ao e:=by
 have hg:gate s2 ao.guard=gate s1 ao.guard:=by
  unfold gate;split
  ·rfl
  ·rename_i t wt hgd;have:=ha.nm t (by simp[AOper.names,hgd]);generalize s1.rd t=x at this;generalize s2.rd t=y at this;have key:∀{x y:AV} {b},x.dem=y.dem->x= .bool b->y= .bool b:=by
    intro x y b h e;subst e;cases y<;>simp[AV.dem] at h
    simp[h]
   by_cases hx:∃b,x= .bool b
   ·obtain ⟨b,rfl⟩:=hx;rw[key this rfl]
   ·by_cases hy:∃b,y= .bool b
    ·obtain ⟨b,rfl⟩:=hy;exact absurd ⟨b,key this.symm rfl⟩ hx
    ·have ku:∀{x y:AV},x.dem=y.dem->x= .ub->y= .ub:=by
      intro x y h e;subst e;cases y<;>simp[AV.dem] at h
      rfl
     by_cases h1:x= .ub
     ·rw[ku this h1,h1]
     ·by_cases h2:y= .ub
      ·exact absurd (ku this.symm h2) h1
      ·cases x<;>cases y<;>first | rfl | exact absurd ⟨_,rfl⟩ hx | exact absurd ⟨_,rfl⟩ hy | exact absurd rfl h1 | exact absurd rfl h2
 rcases h with ⟨h1,h2⟩ | ⟨h1,h2⟩
 ·exact .inl ⟨by rw[hg];exact h1,zLE h2 ⟨ha.D,ha.os,ha.tl,fun t ht=>ha.nm t (yGU.2 (.inl ht)),ha.tk,ha.lk⟩⟩
 ·exact .inr ⟨by rw[hg];exact h1,h2⟩
theorem pV (o:AOp):∀t∈o.takes,t∈o.opds.flatMap Opd.tmp:=by
 intro t ht;cases o with
 | mov take x=>cases take<;>simp[AOp.takes] at ht;simpa[AOp.opds] using ht
 | store n p x=>simp[AOp.takes] at ht;simp[AOp.opds,ht]
 | append z b x y=>simp[AOp.takes] at ht;simp[AOp.opds,ht]
 | slice z take x lo hi=>cases take<;>cases hi<;>simp[AOp.takes] at ht;simp[AOp.opds,ht]
 | extr tk x i=>cases tk<;>simp[AOp.takes] at ht;simp[AOp.opds,ht]
 | callL f args=>simpa[AOp.takes,AOp.opds] using ht
 | _=>simp[AOp.takes] at ht
theorem uN {C:zL} {s:St} {ao:AOper} {e:Eff} (h:Good C s ao e):(ao.op.ups=false->e.ups= [])/\(ao.op.rds=false->e.rd= [])/\∀t∈e.dem,t∈ao.op.takes:=by
 rcases h with ⟨_,h⟩ | ⟨_,rfl⟩
 ·exact zFW h
 ·simp
structure Free (a b:AOper) (e f:Eff):Prop where
 d1:∀x,a.dst=some x->x∉b.names/\b.dst≠some x
 d2:∀x,b.dst=some x->x∉a.names
 tk:∀t∈a.op.takes,t∉b.op.takes
 uu:∀u∈e.ups,∀v∈f.ups,(u.1,u.2.1)≠(v.1,v.2.1)
 ur:∀u∈e.ups,(u.1,u.2.1)∉f.rd
 ru:∀v∈f.ups,(v.1,v.2.1)∉e.rd
theorem zMB {C:zL} {s1 s2:St} {a b:AOper} {e f:Eff} (ha:Good C s1 a e) (hb:Good C s2 b f) (hs:zEC a b=true) (hd:oT a b=true->e.apart f):Free a b e f:=by
 simp only[zEC,yHE,yHG,yIS,yIT] at hs;obtain ⟨⟨h1,h2⟩,h3⟩:=hs;have k1:=uN ha;have k2:=uN hb;have dyn:(∀u∈e.ups,∀v∈f.ups,(u.1,u.2.1)≠(v.1,v.2.1))/\(∀u∈e.ups,(u.1,u.2.1)∉f.rd)/\(∀v∈f.ups,(v.1,v.2.1)∉e.rd):=by
  by_cases hn:oT a b=true
  ·obtain ⟨q1,q2,q3,_⟩:=hd hn;exact ⟨q1,q2,q3⟩
  ·have n1:a.op.ups=false\/(b.op.ups=false/\b.op.rds=false):=by
    revert hn;unfold oT;cases a.op.ups<;>cases b.op.ups<;>cases b.op.rds<;>cases a.op.rds<;>simp
   have n2:b.op.ups=false\/a.op.rds=false:=by
    revert hn;unfold oT;cases a.op.ups<;>cases b.op.ups<;>cases b.op.rds<;>cases a.op.rds<;>simp
   refine ⟨?_,?_,?_⟩
   ·rcases n1 with n | ⟨n,_⟩
    ·rw[k1.1 n];simp
    ·rw[k2.1 n];simp
   ·rcases n1 with n | ⟨_,n⟩
    ·rw[k1.1 n];simp
    ·rw[k2.2.1 n];simp
   ·rcases n2 with n | n
    ·rw[k2.1 n];simp
    ·rw[k1.2.1 n];simp
 refine ⟨fun x hx=> ?_,fun x hx=> ?_,fun t ht=> ?_,dyn.1,dyn.2.1,dyn.2.2⟩
 ·have:=h1 x (by simpa using hx);simp only[List.contains_eq_mem,decide_eq_false_iff_not,yIT] at this;exact ⟨this.1,this.2⟩
 ·have:=h2 x (by simpa using hx);simpa using this
 ·have:=h3 t ht;simpa using this
theorem Free.symm {a b e f} (h:Free a b e f):Free b a f e:=
 ⟨fun x hx=>⟨h.d2 x hx,fun e'=>(h.d1 x e').2 hx⟩,fun x hx=>(h.d1 x hx).1,fun t ht ht'=>h.tk t ht' ht,fun u hu v hv e=>h.uu v hv u hu e.symm,h.ru,h.ur⟩
theorem Free.agr {C:zL} {s1:St} {a b e f} (h:Free a b e f) (ha:Good C s1 a e) (s:St):Agr b.names b.op.takes f.sites (s.app a.dst e) s:=by
 refine Agr.one s (fun x hx=>(h.d1 x hx).1) (fun x hx ht=>(h.d1 x hx).1 (yGU.2 (.inl (pV _ _ ht)))) (fun t ht=>h.tk t ((uN ha).2.2 t ht)) (fun u hu hm=> ?_);rcases yGU.1 hm with hm | hm
 ·exact h.ur u hu hm
 ·obtain ⟨v,hv,e'⟩:=yGT.1 hm;exact h.uu u hu v hv e'.symm
theorem Free.comm {C:zL} {s1 s2:St} {a b e f} (h:Free a b e f) (ha:Good C s1 a e) (hb:Good C s2 b f) (s:St):(s.app a.dst e).app b.dst f=(s.app b.dst f).app a.dst e:=by
 refine zGY s _ _ _ _ (fun x hx=>(h.d1 x hx).2) (fun x hx hm=>(h.d1 x hx).1 (yGU.2 (.inl (pV _ _ ((uN hb).2.2 x hm))))) (fun x hx hm=>h.d2 x hx (yGU.2 (.inl (pV _ _ ((uN ha).2.2 x hm))))) h.uu
section draw
variable {l:List AOper} {es:List Eff} {C:zL} {s:St} (FR:Nat->Nat->Prop)
 (hgood:∀(j:Nat),j < l.length->Good C (sig l es s (fun _=>true) j) (l.getD j default) (es.getD j ({}:Eff)))
 (hfr:∀i j,FR i j->i < l.length->j < l.length->Free (l.getD i default) (l.getD j default) (es.getD i ({}:Eff)) (es.getD j ({}:Eff)))
include hgood hfr in
theorem zKU {A:Nat->Bool} {j:Nat} (hj:j < l.length) (hlo:∀i,i < j->A i=false->FR i j) (hhi:∀i,j < i->i < l.length->A i=true->FR i j) (hjf:A j=false):
  Agr (l.getD j default).names (l.getD j default).op.takes (es.getD j ({}:Eff)).sites (sig l es s A l.length) (sig l es s (fun _=>true) j):=by
 have low:∀m,m<=j->Agr (l.getD j default).names (l.getD j default).op.takes (es.getD j ({}:Eff)).sites (sig l es s A m) (sig l es s (fun _=>true) m):=by
  intro m
  induction m with
  | zero=>intro _;exact Agr.refl _ _ _ _
  | succ m ih=>
   intro hm;have ih:=ih (by omega);simp only[sig,if_true];cases hA:A m with
   | true=>exact ih.both _ _
   | false=>exact ih.trans ((hfr m j (hlo m (by omega) hA) (by omega) hj).agr (hgood m (by omega)) _).symm
 have high:∀k,j+k<=l.length->Agr (l.getD j default).names (l.getD j default).op.takes (es.getD j ({}:Eff)).sites (sig l es s A (j+k)) (sig l es s (fun _=>true) j):=by
  intro k
  induction k with
  | zero=>intro _;exact low j (yHM _)
  | succ k ih=>
   intro hk;have ih:=ih (by omega);rw[<-Nat.add_assoc];simp only[sig];cases hA:A (j+k) with
   | false=>exact ih
   | true=>
    have:k≠0:=by rintro rfl;rw[Nat.add_zero,hjf] at hA;cases hA
    exact ((hfr (j+k) j (hhi _ (by omega) (by omega) hA) (by omega) hj).agr (hgood _ (by omega)) _).trans ih
 have:=high (l.length - j) (by omega);rwa [show j+(l.length - j)=l.length by omega] at this
include hgood hfr in
theorem zKT {A:Nat->Bool} {j:Nat} (hj:j < l.length) (hhi:∀i,j < i->i < l.length->A i=true->FR i j) (hjf:A j=false):
  sig l es s (fun k=>if k=j then true else A k) l.length=(sig l es s A l.length).app (l.getD j default).dst (es.getD j ({}:Eff)):=by
 have high:∀k,j+k+1<=l.length->sig l es s (fun k=>if k=j then true else A k) (j+k+1)=(sig l es s A (j+k+1)).app (l.getD j default).dst (es.getD j ({}:Eff)):=by
  intro k
  induction k with
  | zero=>
   intro _;simp only[Nat.add_zero,sig,if_true,hjf,yHK,if_false];rw[rB (A:=fun k=>if k=j then true else A k) (B:=A) fun i hi=>if_neg (by omega)]
  | succ k ih=>
   intro hk;have ih:=ih (by omega);rw[show j+(k+1)+1=(j+k+1)+1 by omega];rw[sig,ih]
   conv=>rhs;rw[sig]
   rw[if_neg (by omega:¬(j+k+1=j))];cases hA:A (j+k+1) with
   | false=>rfl
   | true=>
    simp only[if_true];exact ((hfr (j+k+1) j (hhi _ (by omega) (by omega) hA) (by omega) hj).comm (hgood _ (by omega)) (hgood _ hj) _).symm
 have:=high (l.length - j - 1) (by omega);rwa [show j+(l.length - j - 1)+1=l.length by omega] at this
end draw
theorem nV (s q m i:Nat):(s ||| 2^q ||| m).testBit i=(s.testBit i || decide (q=i) || m.testBit i):=by
 simp[Nat.testBit_or,Nat.testBit_two_pow]
theorem cB (acc:List Nat):∀(p:List Nat) (s i:Nat),(p.foldl (fun s q=>s ||| 2^q ||| acc.getD q 0) s).testBit i=true->s.testBit i=true\/∃q∈p,q=i\/(acc.getD q 0).testBit i=true
 | [],s,i,h=> .inl h
 | q::p,s,i,h=>by
  simp only[yGY] at h;rcases cB acc p _ i h with h | ⟨q',hq',h⟩
  ·rw[nV] at h;simp only[yHQ,decide_eq_true_eq] at h;rcases h with (h | h) | h
   ·exact .inl h
   ·exact .inr ⟨q,by simp,.inl h⟩
   ·exact .inr ⟨q,by simp,.inr h⟩
  ·exact .inr ⟨q',by simp[hq'],h⟩
theorem sK (A:Nat->Bool):∀(ps:List (List Nat)) (acc:List Nat),(∀j i,j < acc.length->A j=true->(acc.getD j 0).testBit i=true->A i=true)->
  (∀k p,ps[k]?=some p->A (acc.length+k)=true->∀q∈p,A q=true)->uM ps acc.length=true->
  ∀j i,A j=true->((befs ps acc).getD j 0).testBit i=true->A i=true
 | [],acc,h1,_,_,j,i,hj,hb=>by
  by_cases hlt:j < acc.length
  ·exact h1 j i hlt hj hb
  ·simp[befs,yHC,yHV (Nat.le_of_not_lt hlt)] at hb
 | p::ps,acc,h1,h2,h3,j,i,hj,hb=>by
  simp only[uM,yHE,yHG,decide_eq_true_eq] at h3;simp only[befs] at hb;refine sK A ps _ ?_ ?_ ?_ j i hj hb
  ·intro j i hlt hj hb;simp only[yIU,yHN,yHP] at hlt;by_cases hc:j < acc.length
   ·rw[yHC,yIB hc,<-yHC] at hb;exact h1 j i hc hj hb
   ·have:j=acc.length:=by omega
    subst this;rw[yHC,yIC (yHM _)] at hb;simp only[Nat.sub_self,yHS,yHU] at hb;rcases cB acc p 0 i hb with h | ⟨q,hq,h⟩
    ·simp at h
    ·have hAq:=h2 0 p rfl (by simpa using hj) q hq;rcases h with rfl | h
     ·exact hAq
     ·exact h1 q i (h3.1 q hq) hAq h
  ·intro k p' hk hA q hq;simp only[yIU,yHN,yHP] at hA;exact h2 (k+1) p' (by simpa using hk) (by rw[<-hA];congr 1;omega) q hq
  ·simpa using h3.2
theorem rH {b:List Nat} {n i j:Nat} (hi:i < j) (hj:j < n) (h:(b.getD j 0).testBit i=false):(i,j)∈oN b n:=by
 unfold oN;refine yHB.2 ⟨j,yHX.2 hj,yGT.2 ⟨i,yHI.2 ⟨yHX.2 hi,by simp only[h,yIV]⟩,rfl⟩⟩
theorem hX {p q:Nat->Bool}:∀{l:List Nat} {x:Nat},x∈l->p x=true->q x=false->(∀y,q y=true->p y=true)->(l.filter q).length < (l.filter p).length
 | y::l,x,hx,h1,h2,h3=>by
  have hle:∀l:List Nat,(l.filter q).length<=(l.filter p).length:=by
   intro l
   induction l with
   | nil=>simp
   | cons z l ih=>
    simp only[yID];cases hq:q z with
    | true=>rw[h3 z hq];simp;exact ih
    | false=>cases hp:p z<;>simp<;>omega
  rcases yHA.1 hx with rfl | hx
  ·simp only[yID,h1,h2,if_true,yHN];have:=hle l;simp;omega
  ·have:=hX hx h1 h2 h3;simp only[yID];cases hq:q y with
   | true=>rw[h3 y hq];simp;omega
   | false=>cases hp:p y<;>simp<;>omega
theorem oH {C:zL} {l:List AOper} (hc:yM P G L gops gops.toList=some l) {ps:List (Nat×Nat)} (hps:wY gops l=some ps)
  (h:Ok G prot w0 E0 E w s a.tmps) {es:List Eff} {s':St} (hr:OpsE C l s es s') (hap:∀p∈ps,(es.getD p.1 ({}:Eff)).apart (es.getD p.2 ({}:Eff)))
  {I:St->Prop} (hI:I s) {Z:AOper->Eff->Prop} (hZ:∀j,j < l.length->Z (l.getD j default) (es.getD j ({}:Eff))) {OpX:Nat->Act->World->(Act->World->Prop)->Prop} {W:Nat->Array Bool->Act->World->Prop}
  (hend:∀listed a1 w1,Region.ready .any gops listed= []->I s'->Post G prot w0 E0 E s.D s' a.defers a1 w1->W 0 listed a1 w1)
  (hstep:∀fuel listed a1 w1,(Region.ready .any gops listed= []->I s'/\Post G prot w0 E0 E s.D s' a.defers a1 w1)->(∀i∈Region.ready .any gops listed,OpX i a1 w1 (W fuel (listed.setIfInBounds i true)))->W (fuel+1) listed a1 w1)
  (hop:∀{E1:GE} {a1:Act} {w1:World} {s1:St} {i:Nat} {o:Oper} {ao:AOper} {e:Eff} {K:Act->World->Prop},I s1->GE.leD s.D E E1->s1.D=s.D->a1.defers=a.defers->Ok G prot w0 E0 E1 w1 s1 a1.tmps->gops[i]?=some o->xI P G L gops o=some ao->Z ao e->Good C s1 ao e->
   (∀a' w',I (s1.app ao.dst e)->Post G prot w0 E0 E1 s1.D (s1.app ao.dst e) a1.defers a' w'->K a' w')->OpX i a1 w1 K):
  W gops.size (yHJ gops.size false) a w:=by
 obtain ⟨c1,c2,c3⟩:=zGV hr;have hcomp:∀(i:Nat) o,gops[i]?=some o->∃ao,l[i]?=some ao/\xI P G L gops o=some ao:=by
  have gen:∀{os:List Oper} {l:List AOper},yM P G L gops os=some l->l.length=os.length/\∀(i:Nat) o,os[i]?=some o->∃ao,l[i]?=some ao/\xI P G L gops o=some ao:=by
   intro os
   induction os with
   | nil=>intro l h;simp[yM] at h;subst h;simp
   | cons o os ih=>
    intro l h;simp only[yM] at h;split at h
    ·rename_i ao l' h1 h2;injection h with h;subst h;obtain ⟨q1,q2⟩:=ih h2;refine ⟨by simp[q1],fun i o' ho=> ?_⟩;cases i with
     | zero=>simp at ho;subst ho;exact ⟨ao,rfl,h1⟩
     | succ i=>exact q2 i o' (by simpa using ho)
    ·cases h
  intro i o ho;exact (gen hc).2 i o (by simpa using ho)
 have hlen:l.length=gops.size:=by
  have gen:∀{os:List Oper} {l:List AOper},yM P G L gops os=some l->l.length=os.length:=by
   intro os
   induction os with
   | nil=>intro l h;simp[yM] at h;subst h;simp
   | cons o os ih=>
    intro l h;simp only[yM] at h;split at h
    ·rename_i ao l' h1 h2;injection h with h;subst h;simp[ih h2]
    ·cases h
  simpa using gen hc
 have hgood:∀(j:Nat),j < l.length->Good C (sig l es s (fun _=>true) j) (l.getD j default) (es.getD j ({}:Eff)):=by
  intro j hj;refine c3 j _ _ ?_ ?_
  ·rw[yHC,yHF hj];rfl
  ·rw[yHC,yHF (by omega)];rfl
 -- the pairs whose order is open
 unfold wY at hps;simp only at hps;split at hps
 ·rename_i hchk;simp only[yHE,yHG] at hchk;obtain ⟨k1,k2⟩:=hchk;injection hps with hps
  let bm:=befs (gops.toList.map vK) []
  have hfree:∀i j,i < j->j < l.length->(bm.getD j 0).testBit i=false->Free (l.getD i default) (l.getD j default) (es.getD i ({}:Eff)) (es.getD j ({}:Eff)):=by
   intro i j hij hj hb;have hmem:=rH (b:=bm) (n:=l.length) hij hj hb;refine zMB (hgood i (by omega)) (hgood j hj) (k2 _ hmem) fun hn=>hap (i,j) ?_;rw[<-hps];exact yHI.2 ⟨hmem,hn⟩
  let FR:Nat->Nat->Prop:=fun i j=>i≠j/\(bm.getD (max i j) 0).testBit (min i j)=false
  have hfr:∀i j,FR i j->i < l.length->j < l.length->Free (l.getD i default) (l.getD j default) (es.getD i ({}:Eff)) (es.getD j ({}:Eff)):=by
   intro i j ⟨hne,hb⟩ hi hj;rcases Nat.lt_or_gt_of_ne hne with hlt | hlt
   ·rw[yIW (by omega),yIX (by omega)] at hb;exact hfree i j hlt hj hb
   ·rw[yIY (by omega),yIZ (by omega)] at hb;exact (hfree j i hlt hi hb).symm
  -- what has run is closed
  let Cl:(Nat->Bool)->Prop:=fun A=>∀j o,gops[j]?=some o->A j=true->∀q∈vK o,A q=true
  have hcl:∀A,Cl A->(∀j,A j=true->j < gops.size)->∀j i,A j=true->(bm.getD j 0).testBit i=true->A i=true:=by
   intro A hA hlt j i hj hb;refine sK A _ [] (by simp) (fun k p hk hAk q hq=> ?_) (by simpa using k1) j i hj hb;rw[yGW,yGX] at hk;obtain ⟨o,ho,rfl⟩:=hk;simp only[yHP,Nat.zero_add] at hAk;exact hA k o (by simpa using ho) hAk q hq
  have main:∀(fuel:Nat) (listed:Array Bool) (a1:Act) (w1:World) (E1:GE),listed.size=gops.size->Cl (fun i=>listed.getD i false)->
    ((yHH gops.size).filter fun i=> !listed.getD i false).length<=fuel->a1.defers=a.defers->E.leD s.D E1->
    Ok G prot w0 E0 E1 w1 (sig l es s (fun i=>listed.getD i false) l.length) a1.tmps->I (sig l es s (fun i=>listed.getD i false) l.length)->W fuel listed a1 w1:=by
   intro fuel
   induction fuel with
   | zero=>
    intro listed a1 w1 E1 hsz hA hcnt hdf hle hok hIs;have hall:∀i,i < gops.size->listed.getD i false=true:=by
     intro i hi;cases hx:listed.getD i false with
     | true=>rfl
     | false=>
      have:i∈(yHH gops.size).filter fun i=> !listed.getD i false:=yHI.2 ⟨yHX.2 hi,by rw[hx];rfl⟩;have hnil:((yHH gops.size).filter fun i=> !listed.getD i false)= []:=List.eq_nil_of_length_eq_zero (by omega);rw[hnil] at this;simp at this
    have hfin:sig l es s (fun i=>listed.getD i false) l.length=s':=by rw[c2];exact rB fun i hi=>hall i (by omega)
    have hrn:Region.ready .any gops listed= []:=by
     cases hx:Region.ready .any gops listed with
     | nil=>rfl
     | cons i r=>
      have:i∈Region.ready .any gops listed:=by rw[hx];simp
      obtain ⟨h0,o,ho,_⟩:=mem_ready.1 this;have hi:i < gops.size:=(yHL.1 ho).1;have:=hall i hi;rw[yGZ] at h0 this;cases hy:listed[i]? with
      | none=>rw[hy] at this;simp at this
      | some x=>rw[hy] at h0 this;simp at h0 this;rw[h0] at this;cases this
    exact hend _ _ _ hrn (by rw[<-hfin];exact hIs) ⟨E1,hle,by rw[<-hfin];exact hok,hdf⟩
   | succ fuel ih=>
    intro listed a1 w1 E1 hsz hA hcnt hdf hle hok hIs;have hAlt:∀j,listed.getD j false=true->j < gops.size:=by
     intro j hj;rcases yIE j listed.size with hx | hx
     ·omega
     ·rw[yGZ,Array.getElem?_eq_none hx] at hj;simp at hj
    have hclA:=hcl _ hA hAlt;refine hstep _ _ _ _ (fun hrn=> ?_) (fun j hj=> ?_)
    ·have hall:∀i,i < gops.size->listed.getD i false=true:=by
      intro i
      induction i using Nat.strongRecOn with
      | _ i ihi=>
       intro hi;cases hx:listed.getD i false with
       | true=>rfl
       | false=>
        exfalso;have ho:gops[i]?=some gops[i]:=yHO hi;have:i∈Region.ready .any gops listed:=by
         refine mem_ready.2 ⟨?_,gops[i],ho,fun e he hb=> ?_⟩
         ·rw[yGZ] at hx|-;rw[yHO (by omega)] at hx|-;simpa using hx
         ·have hpk:∀(ps:List (List Nat)) (k:Nat),uM ps k=true->∀m p,ps[m]?=some p->∀q∈p,q < k+m:=by
           intro ps
           induction ps with
           | nil=>intro k _ m p hm;simp at hm
           | cons p0 ps ihp=>
            intro k hk m p hm q hq;simp only[uM,yHE,yHG,decide_eq_true_eq] at hk;cases m with
            | zero=>simp at hm;subst hm;have:=hk.1 q hq;omega
            | succ m=>have:=ihp (k+1) hk.2 m p (by simpa using hm) q hq;omega
          have hq:e.on∈vK gops[i]:=by
           unfold vK;exact yGT.2 ⟨e,yHI.2 ⟨by simpa using he,hb⟩,rfl⟩
          have hlt:=hpk _ 0 k1 i (vK gops[i]) (by rw[yGW];simp[hi]) e.on hq;exact ihi e.on (by omega) (by omega)
        rw[hrn] at this;simp at this
     have hfin:sig l es s (fun i=>listed.getD i false) l.length=s':=by rw[c2];exact rB fun i hi=>hall i (by omega)
     exact ⟨by rw[<-hfin];exact hIs,E1,hle,by rw[<-hfin];exact hok,hdf⟩
    ·obtain ⟨h0,o,ho,hpre⟩:=mem_ready.1 hj;have hjlt:j < gops.size:=(yHL.1 ho).1;have hjf:listed.getD j false=false:=by
      rw[yGZ] at h0|-;rw[yHO (by omega)] at h0|-;simpa using h0
     have hpre':∀q∈vK o,listed.getD q false=true:=by
      intro q hq;unfold vK at hq;obtain ⟨e,he,rfl⟩:=yGT.1 hq;obtain ⟨he1,he2⟩:=yHI.1 he;exact hpre e (by simpa using he1) he2
     -- the new mask
     have hset:∀k,(listed.setIfInBounds j true).getD k false=if k=j then true else listed.getD k false:=by
      intro k;by_cases hk:k=j
      ·subst hk;rw[if_pos rfl,yGZ,Array.getElem?_setIfInBounds_self_of_lt (by omega)];rfl
      ·rw[if_neg hk,yGZ,Array.getElem?_setIfInBounds_ne (fun e=>hk e.symm),<-yGZ]
     have hA':Cl (fun k=>if k=j then true else listed.getD k false):=by
      intro k o' ho' hk q hq;simp only at hk|-;by_cases hkj:k=j
      ·subst hkj;rw[ho] at ho';injection ho' with ho';subst ho';have:=hpre' q hq;split
       ·rfl
       ·exact this
      ·rw[if_neg hkj] at hk;have:=hA k o' ho' hk q hq;simp only at this;split
       ·rfl
       ·exact this
     have hA'lt:∀k,(if k=j then true else listed.getD k false)=true->k < gops.size:=by
      intro k hk;by_cases hkj:k=j
      ·omega
      ·rw[if_neg hkj] at hk;exact hAlt k hk
     have hlo:∀i,i < j->listed.getD i false=false->FR i j:=by
      intro i hi hx;refine ⟨by omega,?_⟩;rw[yIW (by omega),yIX (by omega)];cases hb:(bm.getD j 0).testBit i with
      | false=>rfl
      | true=>
       have:=hcl _ hA' hA'lt j i (by simp) hb
       (try simp only at this)
       rw[if_neg (by omega),hx] at this;cases this
     have hhi:∀i,j < i->i < l.length->listed.getD i false=true->FR i j:=by
      intro i hi _ hx;refine ⟨by omega,?_⟩;rw[yIY (by omega),yIZ (by omega)];cases hb:(bm.getD i 0).testBit j with
      | false=>rfl
      | true=>have:=hclA i j hx hb;(try simp only at this);rw[hjf] at this;cases this
     have hagr:=zKU FR hgood hfr (A:=fun i=>listed.getD i false) (by omega) hlo hhi hjf;have hput:=zKT FR hgood hfr (A:=fun i=>listed.getD i false) (by omega) hhi hjf;obtain ⟨ao,hao,hco⟩:=hcomp j o ho;have hld:l.getD j default=ao:=by rw[yHC,hao];rfl
     have hg:=zGF (hgood j (by omega)) hagr.symm;rw[hld] at hg hput;have hD:(sig l es s (fun i=>listed.getD i false) l.length).D=s.D:=by
      have:∀m,(sig l es s (fun i=>listed.getD i false) m).D=s.D:=by
       intro m
       induction m with
       | zero=>rfl
       | succ m ihm=>simp only[sig];split;rw[vB];exact ihm;exact ihm
      exact this _
     refine hop hIs hle hD hdf hok ho hco (by rw[<-hld];exact hZ j (by omega)) hg fun a' w' hI' hp=> ?_;obtain ⟨E',hle',hok',hd'⟩:=hp;rw[hD] at hle';rw[<-hput] at hok' hI';have hmask:(fun i=>(listed.setIfInBounds j true).getD i false)=fun k=>if k=j then true else listed.getD k false:=funext hset
     refine ih _ a' w' E' (by simpa using hsz) (by rw[hmask];exact hA') ?_ (hd'.trans hdf) (GE.leD_trans hle hle') (by rw[hmask];exact hok') (by rw[hmask];exact hI');have:=hX (p:=fun i=> !listed.getD i false) (q:=fun i=> !(listed.setIfInBounds j true).getD i false) (l:=yHH gops.size) (x:=j) (yHX.2 hjlt) (by simp only[hjf,yIV]) (by simp only[hset,if_true,Bool.not_true]) (fun y hy=>by
      simp only[hset] at hy;by_cases hyj:y=j
      ·rw[if_pos hyj] at hy;simp at hy
      ·rw[if_neg hyj] at hy;exact hy)
     omega
  have h0:sig l es s (fun i=>(yHJ gops.size false).getD i false) l.length=s:=by
   have:∀m,sig l es s (fun i=>(yHJ gops.size false).getD i false) m=s:=by
    intro m
    induction m with
    | zero=>rfl
    | succ m ihm=>
     simp only[sig];rw[if_neg,ihm];rw[yGZ,yIF];split<;>simp
   exact this _
  refine main gops.size _ a _ E (by simp) (fun j o ho hj=> ?_) ?_ rfl (GE.leD_refl _ _) (by rw[h0];exact h) (by rw[h0];exact hI)
  ·simp[yGZ,yIF] at hj;split at hj<;>simp at hj
  ·exact Nat.le_trans (List.length_filter_le _ _) (by simp)
 ·cases hps
theorem nX {id:Nat} {l:List AOper} (hm:P.follows .mixedOrders=true) (hc:yM P G L gops gops.toList=some l) {ps:List (Nat×Nat)} (hps:wY gops l=some ps)
  (h:Ok G prot w0 E0 E w s a.tmps) {es:List Eff} {s':St} (hr:OpsE (Loc P G) l s es s') (hap:∀p∈ps,(es.getD p.1 ({}:Eff)).apart (es.getD p.2 ({}:Eff))) {Q:Act->World->Prop}
  (hQ:∀a' w',Post G prot w0 E0 E s.D s' a.defers a' w'->Q a' w'):RegS P (.region id gops true) a w Q:=
 dX hm (oH hc hps (h.world (w':={w with drawn:=w.drawn+1}) (fun _ _=>rfl) (yHM _) ⟨rfl,rfl,rfl⟩) hr hap (I:=fun _=>True) trivial (Z:=fun _ _=>True) (fun _ _=>trivial) (OpX:=fun i a w K=>OpS P gops i a w K) (W:=qP P .any gops Q)
  (fun _ _ _ hrn _ hp=>⟨hrn,hQ _ _ hp⟩) (fun _ _ _ _ h1 h2=>⟨fun hrn=>hQ _ _ (h1 hrn).2,h2⟩) fun _ _ _ _ hok ho hco _ hg hK=>rJ hok ho hco hg fun a' w' hp=>hK _ _ trivial hp)
theorem OpsE.cons_inv {C:zL} {o:AOper} {l:List AOper} {s s':St} {es:List Eff} (h:OpsE C (o::l) s es s'):∃e es',Good C s o e/\OpsE C l (s.app o.dst e) es' s':=by
 cases h with
 | on h1 h2 h3=>exact ⟨_,_,.inl ⟨h1,h2⟩,h3⟩
 | off h1 h3=>exact ⟨_,_,.inr ⟨h1,rfl⟩,h3⟩
theorem pD {id:Nat} {o0 o1 o2 o3:AOper} (hm:P.follows .mixedOrders=true) (hc:yM P G L gops gops.toList=some [o0,o1,o2,o3]) (hps:wY gops [o0,o1,o2,o3]=some [(1,2)])
  (u0:o0.op.ups=true) (u1:o1.op.ups=true) (u2:o2.op.ups=true) (u3:o3.op.rds=true)
  (h:Ok G prot w0 E0 E w s a.tmps) {e0:Eff} (hg0:gate s o0.guard=some true) (he0:OpE (Loc P G) s o0.dst o0.op e0) {es1 es2:List Eff} {s1 s2:St} (hr1:OpsE (Loc P G) [o1,o2,o3] (s.app o0.dst e0) es1 s1) (hr2:OpsE (Loc P G) [o2,o1,o3] (s.app o0.dst e0) es2 s2) {Q:Act->World->Prop}
  (hQ1:∀a' w',Post G prot w0 E0 E s.D s1 a.defers a' w'->Q a' w') (hQ2:∀a' w',Post G prot w0 E0 E s.D s2 a.defers a' w'->Q a' w'):RegS P (.region id gops true) a w Q:=by
 have hcl:=jW (k:=0) hc (fun i o ho=>by simpa using ho);have hsz:gops.size=4:=by
  have:∀{os:List Oper} {l:List AOper},yM P G L gops os=some l->l.length=os.length:=by
   intro os
   induction os with
   | nil=>intro l h;simp[yM] at h;subst h;simp
   | cons o os ih=>
    intro l h;simp only[yM] at h;split at h
    ·rename_i ao l' h1 h2;injection h with h;subst h;simp[ih h2]
    ·cases h
  have:=this hc;simpa using this.symm
 rw[yIR,hsz] at hcl;have hr4:List.range' 0 4= [0,1,2,3]:=rfl;rw[hr4] at hcl;cases hcl with
 | @cons _ g0 _ _ _ i0 k0 hcl=>
 cases hcl with
 | @cons _ g1 _ _ _ i1 k1 hcl=>
 cases hcl with
 | @cons _ g2 _ _ _ i2 k2 hcl=>
 cases hcl with
 | @cons _ g3 _ _ _ i3 k3 hcl=>
 clear hcl
 -- what must come before
 unfold wY at hps;simp only at hps;split at hps
 case isFalse=>cases hps
 rename_i hchk;simp only[yHE] at hchk;obtain ⟨hp,_⟩:=hchk;injection hps with hps
 let bm:=befs (gops.toList.map vK) []
 have hbit:∀i j,i < j->j < 4->oT ([o0,o1,o2,o3].getD i default) ([o0,o1,o2,o3].getD j default)=true->(i,j)≠(1,2)->(bm.getD j 0).testBit i=true:=by
  intro i j hij hj hn hne;cases hb:(bm.getD j 0).testBit i with
  | true=>rfl
  | false=>
   have hmem:=rH (b:=bm) (n:=4) hij hj hb;have:(i,j)∈[(1,2)]:=by
    rw[<-hps];exact yHI.2 ⟨hmem,hn⟩
   exact absurd (yGV.1 this) hne
 have b01:=hbit 0 1 (by omega) (by omega) (by simp[oT,u0,u1]) (by simp);have b02:=hbit 0 2 (by omega) (by omega) (by simp[oT,u0,u2]) (by simp);have b03:=hbit 0 3 (by omega) (by omega) (by simp[oT,u0,u3]) (by simp);have b13:=hbit 1 3 (by omega) (by omega) (by simp[oT,u1,u3]) (by simp);have b23:=hbit 2 3 (by omega) (by omega) (by simp[oT,u2,u3]) (by simp);have hclo:∀A:Nat->Bool,(∀j o,gops[j]?=some o->A j=true->∀q∈vK o,A q=true)->∀j i,A j=true->(bm.getD j 0).testBit i=true->A i=true:=by
  intro A hA j i hj hb;refine sK A _ [] (by simp) (fun k p hk hAk q hq=> ?_) (by simpa using hp) j i hj hb;rw[yGW,yGX] at hk;obtain ⟨o,ho,rfl⟩:=hk;simp only[yHP,Nat.zero_add] at hAk;exact hA k o (by simpa using ho) hAk q hq
 have hlt:∀(j:Nat) o,gops[j]?=some o->∀q∈vK o,q < j:=by
  have hpk:∀(ps:List (List Nat)) (k:Nat),uM ps k=true->∀m p,ps[m]?=some p->∀q∈p,q < k+m:=by
   intro ps
   induction ps with
   | nil=>intro k _ m p hm;simp at hm
   | cons p0 ps ihp=>
    intro k hk m p hm q hq;simp only[uM,yHE,yHG,decide_eq_true_eq] at hk;cases m with
    | zero=>simp at hm;subst hm;have:=hk.1 q hq;omega
    | succ m=>have:=ihp (k+1) hk.2 m p (by simpa using hm) q hq;omega
  intro j o ho q hq;have:=hpk _ 0 hp j (vK o) (by rw[yGW];simp[ho]) q hq;omega
 -- which may come next
 have rdy:∀(listed:Array Bool) (j:Nat),j∈Region.ready .any gops listed↔listed.getD j true=false/\∃o,gops[j]?=some o/\∀q∈vK o,listed.getD q false=true:=by
  intro listed j;rw[mem_ready];refine and_congr Iff.rfl ⟨fun ⟨o,ho,hx⟩=>⟨o,ho,fun q hq=> ?_⟩,fun ⟨o,ho,hx⟩=>⟨o,ho,fun e he hb=> ?_⟩⟩
  ·unfold vK at hq;obtain ⟨e,he,rfl⟩:=yGT.1 hq;obtain ⟨he1,he2⟩:=yHI.1 he;exact hx e (by simpa using he1) he2
  ·exact hx e.on (by unfold vK;exact yGT.2 ⟨e,yHI.2 ⟨by simpa using he,hb⟩,rfl⟩)
 have nxt:∀(listed:Array Bool) (j:Nat),(∀k o,gops[k]?=some o->listed.getD k false=true->∀q∈vK o,listed.getD q false=true)->j∈Region.ready .any gops listed->
   ∀i,(bm.getD j 0).testBit i=true->i=j\/listed.getD i false=true:=by
  intro listed j hcl hj i hb;obtain ⟨_,o,ho,hx⟩:=(rdy _ _).1 hj;have:=hclo (fun k=>decide (k=j) || listed.getD k false) (fun k o' ho' hk q hq=> ?_) j i (by simp) hb
  ·simpa using this
  ·simp only[yHQ,decide_eq_true_eq] at hk|-;rcases hk with rfl | hk
   ·rw[ho] at ho';injection ho' with ho';subst ho';exact .inr (hx q hq)
   ·exact .inr (hcl k o' ho' hk q hq)
 have lt4:∀(listed:Array Bool) (j:Nat),j∈Region.ready .any gops listed->j < 4:=by
  intro listed j hj;obtain ⟨_,o,ho,_⟩:=(rdy _ _).1 hj;have:=(yHL.1 ho).1;omega
 refine dX hm ?_;rw[hsz];have ok0:Ok G prot w0 E0 E {w with drawn:=w.drawn+1} s a.tmps:=h.world (fun _ _=>rfl) (yHM _) ⟨rfl,rfl,rfl⟩;have step:∀{todo:List Nat} {E1:GE} {w1:World} {t1:St} {a1:Act} {i:Nat} {g:Oper} {ao:AOper} {e:Eff} {K:Act->World->Prop},Ok G prot w0 E0 E1 w1 t1 a1.tmps->E.leD s.D E1->t1.D=s.D->a1.defers=a.defers->gops[i]?=some g->xI P G L gops g=some ao->Good (Loc P G) t1 ao e->
   (∀E2 w2 a2,Ok G prot w0 E0 E2 w2 (t1.app ao.dst e) a2.tmps->E.leD s.D E2->a2.defers=a.defers->K a2 w2)->OpS P gops i a1 w1 K:=by
  intro todo E1 w1 t1 a1 i g ao e K hok hle hD hdf hi hco hg hK;refine rJ hok hi hco hg fun a' w' hp=> ?_;obtain ⟨E',hle',hok',hd'⟩:=hp;rw[hD] at hle';exact hK E' w' a' hok' (GE.leD_trans hle hle') (hd'.trans hdf)
 have rep:yHJ 4 false= #[false,false,false,false]:=rfl;rw[rep]
 -- first
 refine ⟨fun hn=> ?_,fun j hj=> ?_⟩
 ·have:0∈Region.ready .any gops #[false,false,false,false]:=(rdy _ _).2 ⟨rfl,g0,i0,fun q hq=>absurd (hlt 0 g0 i0 q hq) (by omega)⟩;rw[hn] at this;simp at this
 have hj0:j=0:=by
  have:=lt4 _ _ hj;have cl:∀k o,gops[k]?=some o->(#[false,false,false,false]:Array Bool).getD k false=true->∀q∈vK o,(#[false,false,false,false]:Array Bool).getD q false=true:=by
   intro k o ho hk;have hk4:=(yHL.1 ho).1;rw[hsz] at hk4;have:k=0\/k=1\/k=2\/k=3:=by omega
   rcases this with rfl | rfl | rfl | rfl<;>cases hk
  have:j=0\/j=1\/j=2\/j=3:=by omega
  rcases this with rfl | rfl | rfl | rfl
  ·rfl
  ·rcases nxt _ _ cl hj 0 b01 with e | e<;>cases e
  ·rcases nxt _ _ cl hj 0 b02 with e | e<;>cases e
  ·rcases nxt _ _ cl hj 0 b03 with e | e<;>cases e
 subst hj0;refine step (todo:=[]) ok0 (GE.leD_refl _ _) rfl rfl i0 k0 (.inl ⟨hg0,he0⟩) fun E2 w2 a2 ok2 le2 df2=> ?_
 show qP P .any gops Q 3 #[true,false,false,false] a2 w2
 have cl1:∀k o,gops[k]?=some o->(#[true,false,false,false]:Array Bool).getD k false=true->∀q∈vK o,(#[true,false,false,false]:Array Bool).getD q false=true:=by
  intro k o ho hk q hq;have hk4:=(yHL.1 ho).1;rw[hsz] at hk4;have:k=0\/k=1\/k=2\/k=3:=by omega
  rcases this with rfl | rfl | rfl | rfl
  ·exact absurd (hlt 0 o ho q hq) (by omega)
  all_goals cases hk
 refine ⟨fun hn=> ?_,fun j hj=> ?_⟩
 ·have:1∈Region.ready .any gops #[true,false,false,false]:=(rdy _ _).2 ⟨rfl,g1,i1,fun q hq=>by
   have:=hlt 1 g1 i1 q hq;obtain rfl:q=0:=by omega
   rfl⟩
  rw[hn] at this;simp at this
 have hjA:=hj;have hj12:j=1\/j=2:=by
  have:=lt4 _ _ hj;have h0:=((rdy _ _).1 hj).1;have:j=0\/j=1\/j=2\/j=3:=by omega
  rcases this with rfl | rfl | rfl | rfl
  ·cases h0
  ·exact .inl rfl
  ·exact .inr rfl
  ·rcases nxt _ _ cl1 hj 1 b13 with e | e<;>cases e
 -- the rest,in an order
 have last:∀(es:List Eff) (t1 s':St) (E3:GE) (w3:World) (a3:Act),OpsE (Loc P G) [o3] t1 es s'->t1.D=s.D->Ok G prot w0 E0 E3 w3 t1 a3.tmps->E.leD s.D E3->a3.defers=a.defers->(∀a' w',Post G prot w0 E0 E s.D s' a.defers a' w'->Q a' w')->
   qP P .any gops Q 1 #[true,true,true,false] a3 w3:=by
  intro es t1 s' E3 w3 a3 hr hD ok3 le3 df3 hQ;refine ⟨fun hn=> ?_,fun j hj=> ?_⟩
  ·have:3∈Region.ready .any gops #[true,true,true,false]:=(rdy _ _).2 ⟨rfl,g3,i3,fun q hq=>by
    have:=hlt 3 g3 i3 q hq;have:q=0\/q=1\/q=2:=by omega
    rcases this with rfl | rfl | rfl<;>rfl⟩
   rw[hn] at this;simp at this
  have hj3:j=3:=by
   have:=lt4 _ _ hj;have h0:=((rdy _ _).1 hj).1;have:j=0\/j=1\/j=2\/j=3:=by omega
   rcases this with rfl | rfl | rfl | rfl
   ·cases h0
   ·cases h0
   ·cases h0
   ·rfl
  subst hj3;obtain ⟨e,es',hg,hr'⟩:=hr.cons_inv;cases hr';refine step (todo:=[]) ok3 le3 hD df3 i3 k3 hg fun E4 w4 a4 ok4 le4 df4=> ?_;refine ⟨?_,hQ _ _ ⟨E4,le4,ok4,df4⟩⟩
  show Region.ready .any gops #[true,true,true,true]= []
  cases hx:Region.ready .any gops #[true,true,true,true] with
  | nil=>rfl
  | cons i r=>
   have hi:i∈Region.ready .any gops #[true,true,true,true]:=by rw[hx];simp
   have:=lt4 _ _ hi;have h0:=((rdy _ _).1 hi).1;have:i=0\/i=1\/i=2\/i=3:=by omega
   rcases this with rfl | rfl | rfl | rfl<;>cases h0
 have hD1:(s.app o0.dst e0).D=s.D:=vB _ _ _;rcases hj12 with rfl | rfl
 ·obtain ⟨e,es',hg,hr'⟩:=hr1.cons_inv;refine step (todo:=[]) ok2 le2 hD1 df2 i1 k1 hg fun E3 w3 a3 ok3 le3 df3=> ?_
  show qP P .any gops Q 2 #[true,true,false,false] a3 w3
  refine ⟨fun hn=> ?_,fun j hj=> ?_⟩
  ·have:2∈Region.ready .any gops #[true,true,false,false]:=(rdy _ _).2 ⟨rfl,g2,i2,fun q hq=>by
    have:=hlt 2 g2 i2 q hq;have:q=0\/q=1:=by omega
    rcases this with rfl | rfl<;>rfl⟩
   rw[hn] at this;simp at this
  have cl2:∀k o,gops[k]?=some o->(#[true,true,false,false]:Array Bool).getD k false=true->∀q∈vK o,(#[true,true,false,false]:Array Bool).getD q false=true:=by
   intro k o ho hk q hq;have hk4:=(yHL.1 ho).1;rw[hsz] at hk4;have:k=0\/k=1\/k=2\/k=3:=by omega
   rcases this with rfl | rfl | rfl | rfl
   ·exact absurd (hlt 0 o ho q hq) (by omega)
   ·have:=hlt 1 o ho q hq;obtain rfl:q=0:=by omega
    rfl
   all_goals cases hk
  have hj2:j=2:=by
   have:=lt4 _ _ hj;have h0:=((rdy _ _).1 hj).1;have:j=0\/j=1\/j=2\/j=3:=by omega
   rcases this with rfl | rfl | rfl | rfl
   ·cases h0
   ·cases h0
   ·rfl
   ·rcases nxt _ _ cl2 hj 2 b23 with e | e<;>cases e
  subst hj2;obtain ⟨e',es'',hg',hr''⟩:=hr'.cons_inv;have hD2:((s.app o0.dst e0).app o1.dst e).D=s.D:=by rw[vB,vB]
  refine step (todo:=[]) ok3 le3 hD2 df3 i2 k2 hg' fun E4 w4 a4 ok4 le4 df4=> ?_;exact last _ _ _ E4 w4 a4 hr'' (by rw[vB];exact hD2) ok4 le4 df4 hQ1
 ·obtain ⟨e,es',hg,hr'⟩:=hr2.cons_inv;refine step (todo:=[]) ok2 le2 hD1 df2 i2 k2 hg fun E3 w3 a3 ok3 le3 df3=> ?_
  show qP P .any gops Q 2 #[true,false,true,false] a3 w3
  refine ⟨fun hn=> ?_,fun j hj=> ?_⟩
  ·have:1∈Region.ready .any gops #[true,false,true,false]:=(rdy _ _).2 ⟨rfl,g1,i1,fun q hq=>by
    have:=hlt 1 g1 i1 q hq;obtain rfl:q=0:=by omega
    rfl⟩
   rw[hn] at this;simp at this
  have cl2:∀k o,gops[k]?=some o->(#[true,false,true,false]:Array Bool).getD k false=true->∀q∈vK o,(#[true,false,true,false]:Array Bool).getD q false=true:=by
   intro k o ho hk q hq;have hk4:=(yHL.1 ho).1;rw[hsz] at hk4;have:k=0\/k=1\/k=2\/k=3:=by omega
   rcases this with rfl | rfl | rfl | rfl
   ·exact absurd (hlt 0 o ho q hq) (by omega)
   ·cases hk
   ·obtain ⟨_,o',ho',hx⟩:=(rdy _ _).1 hjA;rw[ho] at ho';injection ho' with ho';subst ho';have h1:=hx q hq;have h2:=hlt 2 o ho q hq;have:q=0\/q=1:=by omega
    rcases this with rfl | rfl
    ·rfl
    ·cases h1
   all_goals cases hk
  have hj1:j=1:=by
   have:=lt4 _ _ hj;have h0:=((rdy _ _).1 hj).1;have:j=0\/j=1\/j=2\/j=3:=by omega
   rcases this with rfl | rfl | rfl | rfl
   ·cases h0
   ·rfl
   ·cases h0
   ·rcases nxt _ _ cl2 hj 1 b13 with e | e<;>cases e
  subst hj1;obtain ⟨e',es'',hg',hr''⟩:=hr'.cons_inv;have hD2:((s.app o0.dst e0).app o2.dst e).D=s.D:=by rw[vB,vB]
  refine step (todo:=[]) ok3 le3 hD2 df3 i1 k1 hg' fun E4 w4 a4 ok4 le4 df4=> ?_;exact last _ _ _ E4 w4 a4 hr'' (by rw[vB];exact hD2) ok4 le4 df4 hQ2
end
end Go.Ab
/- A run of compiled code is a run of the machine; a function's contract from its run. -/
namespace Go.Ab
open Go
section
variable {P:Program} {G:Nat->Option (List AV)} {L:xA}
inductive KRel (P:Program) (G:Nat->Option (List AV)) (L:xA) (kc0:List Item):List AI->List Item->Prop where
 | nil:KRel P G L kc0 [] kc0
 | c {x code k kc}:comp P G L code=some x->KRel P G L kc0 k kc->KRel P G L kc0 (.c x::k) (.code code::kc)
 | blk {id k kc}:KRel P G L kc0 k kc->KRel P G L kc0 (.blk id::k) (.inBlock id::kc)
 | lp {x code k kc}:comp P G L code=some x->KRel P G L kc0 k kc->KRel P G L kc0 (.lp x::k) (.inLoop code::kc)
theorem aB {kc0:List Item} {id:Nat} {k:List AI} {kc:List Item} (h:KRel P G L kc0 k kc):∀{k'},exitTo id k=some k'->∃kc',Go.exitTo id kc=some kc'/\KRel P G L kc0 k' kc':=by
 induction h with
 | nil=>intro k' h;simp[exitTo] at h
 | c hc _ ih=>
  intro k' h;simp only[exitTo] at h;obtain ⟨kc',h1,h2⟩:=ih h;exact ⟨kc',by simp[Go.exitTo,h1],h2⟩
 | lp hc _ ih=>
  intro k' h;simp only[exitTo] at h;obtain ⟨kc',h1,h2⟩:=ih h;exact ⟨kc',by simp[Go.exitTo,h1],h2⟩
 | blk hk ih=>
  rename_i id' k0 kc0;intro k' h;simp only[exitTo] at h;split at h
  ·rename_i he;injection h with h;subst h;exact ⟨kc0,by simp[Go.exitTo,he],hk⟩
  ·rename_i he;obtain ⟨kc',h1,h2⟩:=ih h;exact ⟨kc',by simp[Go.exitTo,he,h1],h2⟩
theorem eH {kc0:List Item} {id:Nat} {k:List AI} {kc:List Item} (h:KRel P G L kc0 k kc):exitTo id k=none->Go.exitTo id kc=Go.exitTo id kc0:=by
 induction h with
 | nil=>intro _;rfl
 | c hc _ ih=>
  intro h;simp only[exitTo] at h;simp[Go.exitTo,ih h]
 | lp hc _ ih=>
  intro h;simp only[exitTo] at h;simp[Go.exitTo,ih h]
 | blk hk ih=>
  intro h;simp only[exitTo] at h;split at h
  ·cases h
  ·rename_i he;simp[Go.exitTo,he,ih h]
theorem wG {ops:Array Oper} {l:List AOper} {x:AC} (h:((wY ops l).map fun ps=>(rR l ps).getD (.region l (some ps)))=some x):∃ps,wY ops l=some ps/\(x= .region l (some ps)\/
  ∃o0 o1 o2 o3,x= .either o0 o1 o2 o3/\l= [o0,o1,o2,o3]/\ps= [(1,2)]/\o0.op.ups=true/\o1.op.ups=true/\o2.op.ups=true/\o3.op.rds=true):=by
 obtain ⟨ps,hps,he⟩:=map_some h;refine ⟨ps,hps,?_⟩;cases hx:rR l ps with
 | none=>rw[hx] at he;exact .inl he.symm
 | some y=>
  rw[hx] at he;have he:y=x:=he;subst he;exact .inr (jT hx)
theorem eT {code:Code} {o0 o1 o2 o3:AOper} (h:comp P G L code=some (.either o0 o1 o2 o3)):
  ∃id ops,code= .region id ops true/\yM P G L ops ops.toList=some [o0,o1,o2,o3]/\wY ops [o0,o1,o2,o3]=some [(1,2)]/\o0.op.ups=true/\o1.op.ups=true/\o2.op.ups=true/\o3.op.rds=true:=by
 cases code with
 | region id ops draw=>
  simp only[comp] at h;split at h
  ·rename_i l' hl;split at h
   ·rename_i hd;obtain ⟨ps,hps,he | ⟨_,_,_,_,he,rfl,rfl,k⟩⟩:=wG h
    ·cases he
    ·injection he with e1 e2 e3 e4;subst e1;subst e2;subst e3;subst e4;exact ⟨id,ops,by rw[hd],hl,hps,k⟩
   ·injection h with h;cases h
  ·cases h
 | seq a b=>simp only[comp] at h;split at h<;>first | (injection h with h;cases h;done) | cases h
 | cond c a b=>simp only[comp] at h;split at h<;>first | (injection h with h;cases h;done) | cases h
 | block id a=>simp only[comp] at h;obtain ⟨_,_,he⟩:=map_some h;cases he
 | loop a=>simp only[comp] at h;obtain ⟨_,_,he⟩:=map_some h;cases he
 | rangeFunc g ps a b=>simp only[comp] at h;split at h<;>first | (injection h with h;cases h;done) | cases h
 | _=>simp[comp] at h
theorem nN {code:Code} {l:List AOper} {d:Option (List (Nat×Nat))} (h:comp P G L code=some (.region l d)):
  ∃id ops,yM P G L ops ops.toList=some l/\((code= .region id ops false/\d=none)\/(∃ps,code= .region id ops true/\d=some ps/\wY ops l=some ps)):=by
 cases code with
 | region id ops draw=>
  simp only[comp] at h;split at h
  ·rename_i l' hl;split at h
   ·rename_i hd;obtain ⟨ps,hps,he | ⟨_,_,_,_,he,_⟩⟩:=wG h
    ·injection he with e1 e2;subst e1;subst e2;exact ⟨id,ops,hl,.inr ⟨ps,by rw[hd],rfl,hps⟩⟩
    ·cases he
   ·rename_i hd;injection h with h;injection h with e1 e2;subst e1;subst e2;exact ⟨id,ops,hl,.inl ⟨by simp at hd;rw[hd],rfl⟩⟩
  ·cases h
 | seq a b=>simp only[comp] at h;split at h<;>first | (injection h with h;cases h;done) | cases h
 | cond c a b=>simp only[comp] at h;split at h<;>first | (injection h with h;cases h;done) | cases h
 | block id a=>simp only[comp] at h;obtain ⟨_,_,he⟩:=map_some h;cases he
 | loop a=>simp only[comp] at h;obtain ⟨_,_,he⟩:=map_some h;cases he
 | rangeFunc g ps a b=>simp only[comp] at h;split at h<;>first | (injection h with h;cases h;done) | cases h
 | _=>simp[comp] at h
theorem zGU {code:Code} {x y:AC} (h:comp P G L code=some (.seq x y)):∃a b,code= .seq a b/\comp P G L a=some x/\comp P G L b=some y:=by
 cases code with
 | seq a b=>
  simp only[comp] at h;split at h
  ·rename_i h1 h2;injection h with h;injection h with e1 e2;subst e1;subst e2;exact ⟨a,b,rfl,h1,h2⟩
  ·cases h
 | region id ops draw=>
  simp only[comp] at h;split at h
  ·split at h
   ·obtain ⟨_,_,he | ⟨_,_,_,_,he,_⟩⟩:=wG h<;>cases he
   ·injection h with h;cases h
  ·cases h
 | cond c a b=>simp only[comp] at h;split at h<;>first | (injection h with h;cases h;done) | cases h
 | block id a=>simp only[comp] at h;obtain ⟨_,_,he⟩:=map_some h;cases he
 | loop a=>simp only[comp] at h;obtain ⟨_,_,he⟩:=map_some h;cases he
 | rangeFunc g ps a b=>simp only[comp] at h;split at h<;>first | (injection h with h;cases h;done) | cases h
 | _=>simp[comp] at h
theorem gL {code:Code} {c:Opd} {x y:AC} (h:comp P G L code=some (.cond c x y)):∃gc a b,code= .cond gc a b/\opd P G 0 gc=some c/\comp P G L a=some x/\comp P G L b=some y:=by
 cases code with
 | cond gc a b=>
  simp only[comp] at h;split at h
  ·rename_i h1 h2 h3;injection h with h;injection h with e1 e2 e3;subst e1;subst e2;subst e3;exact ⟨gc,a,b,rfl,h1,h2,h3⟩
  ·cases h
 | region id ops draw=>
  simp only[comp] at h;split at h
  ·split at h
   ·obtain ⟨_,_,he | ⟨_,_,_,_,he,_⟩⟩:=wG h<;>cases he
   ·injection h with h;cases h
  ·cases h
 | seq a b=>simp only[comp] at h;split at h<;>first | (injection h with h;cases h;done) | cases h
 | block id a=>simp only[comp] at h;obtain ⟨_,_,he⟩:=map_some h;cases he
 | loop a=>simp only[comp] at h;obtain ⟨_,_,he⟩:=map_some h;cases he
 | rangeFunc g ps a b=>simp only[comp] at h;split at h<;>first | (injection h with h;cases h;done) | cases h
 | _=>simp[comp] at h
theorem aO {code:Code} {id:Nat} {x:AC} (h:comp P G L code=some (.block id x)):∃a,code= .block id a/\comp P G L a=some x:=by
 cases code with
 | block id' a=>simp only[comp] at h;obtain ⟨y,hy,he⟩:=map_some h;injection he with e1 e2;subst e1;subst e2;exact ⟨a,rfl,hy⟩
 | region id ops draw=>
  simp only[comp] at h;split at h
  ·split at h
   ·obtain ⟨_,_,he | ⟨_,_,_,_,he,_⟩⟩:=wG h<;>cases he
   ·injection h with h;cases h
  ·cases h
 | seq a b=>simp only[comp] at h;split at h<;>first | (injection h with h;cases h;done) | cases h
 | cond c a b=>simp only[comp] at h;split at h<;>first | (injection h with h;cases h;done) | cases h
 | loop a=>simp only[comp] at h;obtain ⟨_,_,he⟩:=map_some h;cases he
 | rangeFunc g ps a b=>simp only[comp] at h;split at h<;>first | (injection h with h;cases h;done) | cases h
 | _=>simp[comp] at h
theorem zCY {code:Code} {x:AC} (h:comp P G L code=some (.loop x)):∃a,code= .loop a/\comp P G L a=some x:=by
 cases code with
 | loop a=>simp only[comp] at h;obtain ⟨y,hy,he⟩:=map_some h;injection he with e1;subst e1;exact ⟨a,rfl,hy⟩
 | region id ops draw=>
  simp only[comp] at h;split at h
  ·split at h
   ·obtain ⟨_,_,he | ⟨_,_,_,_,he,_⟩⟩:=wG h<;>cases he
   ·injection h with h;cases h
  ·cases h
 | seq a b=>simp only[comp] at h;split at h<;>first | (injection h with h;cases h;done) | cases h
 | cond c a b=>simp only[comp] at h;split at h<;>first | (injection h with h;cases h;done) | cases h
 | block id a=>simp only[comp] at h;obtain ⟨_,_,he⟩:=map_some h;cases he
 | rangeFunc g ps a b=>simp only[comp] at h;split at h<;>first | (injection h with h;cases h;done) | cases h
 | _=>simp[comp] at h
theorem rT {code:Code} {x:AC} (h:comp P G L code=some x):(x= .skip->code= .skip)/\(x= .ret->code= .ret)/\∀id,x= .exit id->code= .exit id:=by
 cases code with
 | skip=>simp only[comp] at h;injection h with h;subst h;simp
 | ret=>simp only[comp] at h;injection h with h;subst h;simp
 | exit id=>simp only[comp] at h;injection h with h;subst h;simp
 | loop a=>simp only[comp] at h;obtain ⟨y,hy,rfl⟩:=map_some h;simp
 | block id' a=>simp only[comp] at h;obtain ⟨y,hy,rfl⟩:=map_some h;simp
 | region id ops draw=>
  simp only[comp] at h;split at h
  ·split at h
   ·obtain ⟨_,_,rfl | ⟨_,_,_,_,rfl,_⟩⟩:=wG h<;>simp
   ·injection h with h;subst h;simp
  ·cases h
 | seq a b=>simp only[comp] at h;split at h<;>first | (injection h with h;subst h;simp;done) | cases h
 | cond c a b=>simp only[comp] at h;split at h<;>first | (injection h with h;subst h;simp;done) | cases h
 | rangeFunc g ps a b=>simp only[comp] at h;split at h<;>first | (injection h with h;subst h;simp;done) | cases h
 | _=>simp[comp] at h
inductive EndK (P:Program) (G:Nat->Option (List AV)) (L:xA) (kc0:List Item):Way->List Item->Prop where
 | fall:EndK P G L kc0 .fall kc0
 | ret (k):EndK P G L kc0 .ret (.code .ret::k)
 | exit {id k}:Go.exitTo id k=Go.exitTo id kc0->EndK P G L kc0 (.exit id) (.code (.exit id)::k)
 | stop {x ps pre body k code kc}:comp P G L code=some (.rangef x ps pre body)->KRel P G L kc0 k kc->EndK P G L kc0 (.stop x ps pre body k) (.code code::kc)
def zFC (P:Program) (G:Nat->Option (List AV)) (L:xA) (prot:Nat->Prop) (w0:World) (E0:GE) (kc0:List Item) (Q:Way->St->Prop) (k:List AI) (s:St):Prop:=
 ∀kc,KRel P G L kc0 k kc->∀(b:Frame),b.kind≠ .early->∀(cs:List Frame) (a:Act) (w:World) (E:GE),Ok G prot w0 E0 E w s a.tmps->
  ∃wy todo a' w' E' s',(Q wy s'/\EndK P G L kc0 wy todo)/\Steps P (lone (b.atR a kc) cs w) (lone (b.atR a' todo) cs w')/\GE.leD s.D E E'/\Ok G prot w0 E0 E' w' s' a'.tmps/\a'.defers=a.defers/\s'.D=s.D
theorem zBJ {C:zL} {l s es s'} (h:OpsE C l s es s'):s'.D=s.D:=by
 induction h with
 | nil=>rfl
 | on _ _ _ ih=>rw[ih,vB]
 | off _ _ ih=>rw[ih,vB]
theorem oB {prot:Nat->Prop} {w0:World} {E0:GE} {kc0:List Item} (hm:PGood P) {Q:Way->St->Prop} {k:List AI} {s:St} (h:RunW (Loc P G) Q k s):
  zFC P G L prot w0 E0 kc0 Q k s/\(∀l k',k= .ops l::k'->∃es s1,OpsE (Loc P G) l s es s1/\zFC P G L prot w0 E0 kc0 Q k' s1)/\
  (∀ps l es k',k= .dr ps l es::k'->∃es' s1,OpsE (Loc P G) l s es' s1/\(∀p∈ps,((es++es').getD p.1 ({}:Eff)).apart ((es++es').getD p.2 ({}:Eff)))/\zFC P G L prot w0 E0 kc0 Q k' s1):=by
 have vac1:∀{l k s},zFC P G L prot w0 E0 kc0 Q (.ops l::k) s:=by intro l k s kc hk;cases hk
 have vac2:∀{ps l es k s},zFC P G L prot w0 E0 kc0 Q (.dr ps l es::k) s:=by intro ps l es k s kc hk;cases hk
 induction h with
 | done hq=>
  refine ⟨fun kc hk b hb cs a w E hok=> ?_,by simp,by simp⟩;cases hk;exact ⟨.fall,kc0,a,w,E,_,⟨hq,.fall⟩,Steps.refl _ _,GE.leD_refl _ _,hok,rfl,rfl⟩
 | ret hq=>
  refine ⟨fun kc hk b hb cs a w E hok=> ?_,by simp,by simp⟩;cases hk with
  | c hc hk'=>
   obtain rfl:=(rT hc).2.1 rfl;exact ⟨.ret,_,a,w,E,_,⟨hq,.ret _⟩,Steps.refl _ _,GE.leD_refl _ _,hok,rfl,rfl⟩
 | stop hq=>
  refine ⟨fun kc hk b hb cs a w E hok=> ?_,by simp,by simp⟩;cases hk with
  | c hc hk'=>exact ⟨.stop _ _ _ _ _,_,a,w,E,_,⟨hq,.stop hc hk'⟩,Steps.refl _ _,GE.leD_refl _ _,hok,rfl,rfl⟩
 | out hx hq=>
  refine ⟨fun kc hk b hb cs a w E hok=> ?_,by simp,by simp⟩;cases hk with
  | c hc hk'=>
   obtain rfl:=(rT hc).2.2 _ rfl;exact ⟨.exit _,_,a,w,E,_,⟨hq,.exit (eH hk' hx)⟩,Steps.refl _ _,GE.leD_refl _ _,hok,rfl,rfl⟩
 | skip _ ih=>
  refine ⟨fun kc hk b hb cs a w E hok=> ?_,by simp,by simp⟩;cases hk with
  | c hc hk'=>
   obtain rfl:=(rT hc).1 rfl;obtain ⟨wy,todo,a',w',E',s',h1,h2,h3⟩:=ih.1 _ hk' b hb cs a w E hok;exact ⟨wy,todo,a',w',E',s',h1,.head stepR_skip h2,h3⟩
 | seq _ ih=>
  refine ⟨fun kc hk b hb cs a w E hok=> ?_,by simp,by simp⟩;cases hk with
  | c hc hk'=>
   obtain ⟨x,y,rfl,h1,h2⟩:=zGU hc;obtain ⟨wy,todo,a',w',E',s',h1,h2,h3⟩:=ih.1 _ (.c h1 (.c h2 hk')) b hb cs a w E hok;exact ⟨wy,todo,a',w',E',s',h1,.head stepR_seq h2,h3⟩
 | @condU c' ax ay k' s' hcv _ _ ih1 ih2=>
  refine ⟨fun kc hk b hb cs a w E hok=> ?_,by simp,by simp⟩;cases hk with
  | c hc hk'=>
   obtain ⟨gc,x,y,rfl,h1,h2,h3⟩:=gL hc;have hv:=hok.ev h1;rw[hcv] at hv;obtain ⟨t,hv'⟩:∃t,a.eval gc= .bool t:=by
    generalize a.eval gc=v at hv;cases hv with | imm _ _ h=>cases h with | ub t=>exact ⟨t,rfl⟩
   cases t with
   | true=>
    obtain ⟨wy,todo,a',w',E',s',q1,q2,q3⟩:=ih1.1 (.code x::_) (.c h2 hk') b hb cs a w E hok;exact ⟨wy,todo,a',w',E',s',q1,.head (stepR_cond hv') q2,q3⟩
   | false=>
    obtain ⟨wy,todo,a',w',E',s',q1,q2,q3⟩:=ih2.1 (.code y::_) (.c h3 hk') b hb cs a w E hok;exact ⟨wy,todo,a',w',E',s',q1,.head (stepR_cond hv') q2,q3⟩
 | @cond c' ax ay k' s' t hcv _ ih=>
  refine ⟨fun kc hk b hb cs a w E hok=> ?_,by simp,by simp⟩;cases hk with
  | c hc hk'=>
   obtain ⟨gc,x,y,rfl,h1,h2,h3⟩:=gL hc;have hv:=hok.ev h1;rw[hcv] at hv;have hv':=hv.bool_inv;obtain ⟨wy,todo,a',w',E',s',q1,q2,q3⟩:=ih.1 (.code (if t then x else y)::_) (.c (by cases t<;>simp<;>assumption) hk') b hb cs a w E hok
   exact ⟨wy,todo,a',w',E',s',q1,.head (stepR_cond hv') q2,q3⟩
 | block _ ih=>
  refine ⟨fun kc hk b hb cs a w E hok=> ?_,by simp,by simp⟩;cases hk with
  | c hc hk'=>
   obtain ⟨x,rfl,h1⟩:=aO hc;obtain ⟨wy,todo,a',w',E',s',q1,q2,q3⟩:=ih.1 _ (.c h1 (.blk hk')) b hb cs a w E hok;exact ⟨wy,todo,a',w',E',s',q1,.head stepR_block q2,q3⟩
 | blk _ ih=>
  refine ⟨fun kc hk b hb cs a w E hok=> ?_,by simp,by simp⟩;cases hk with
  | blk hk'=>
   obtain ⟨wy,todo,a',w',E',s',q1,q2,q3⟩:=ih.1 _ hk' b hb cs a w E hok;exact ⟨wy,todo,a',w',E',s',q1,.head stepR_inBlock q2,q3⟩
 | loop _ ih=>
  refine ⟨fun kc hk b hb cs a w E hok=> ?_,by simp,by simp⟩;cases hk with
  | c hc hk'=>
   obtain ⟨x,rfl,h1⟩:=zCY hc;obtain ⟨wy,todo,a',w',E',s',q1,q2,q3⟩:=ih.1 _ (.c h1 (.lp h1 hk')) b hb cs a w E hok;exact ⟨wy,todo,a',w',E',s',q1,.head stepR_loop q2,q3⟩
 | lp _ ih=>
  refine ⟨fun kc hk b hb cs a w E hok=> ?_,by simp,by simp⟩;cases hk with
  | lp hc hk'=>
   obtain ⟨wy,todo,a',w',E',s',q1,q2,q3⟩:=ih.1 _ (.c hc (.lp hc hk')) b hb cs a w E hok;exact ⟨wy,todo,a',w',E',s',q1,.head stepR_inLoop q2,q3⟩
 | exit hx _ ih=>
  refine ⟨fun kc hk b hb cs a w E hok=> ?_,by simp,by simp⟩;cases hk with
  | c hc hk'=>
   obtain rfl:=(rT hc).2.2 _ rfl;obtain ⟨kc',h1,h2⟩:=aB hk' hx;obtain ⟨wy,todo,a',w',E',s',q1,q2,q3⟩:=ih.1 _ h2 b hb cs a w E hok;exact ⟨wy,todo,a',w',E',s',q1,.head (stepR_exit h1) q2,q3⟩
 | region _ ih=>
  rename_i l k s _;refine ⟨fun kc hk b hb cs a w E hok=> ?_,by simp,by simp⟩;cases hk with
  | c hc hk'=>
   rename_i kc';obtain ⟨id,ops,hco,⟨rfl,_⟩ | ⟨_,_,hx,_⟩⟩:=nN hc
   ·obtain ⟨es,s1,h1,h2⟩:=ih.2.1 l k rfl;obtain ⟨a1,w1,hp,har⟩:=zAZ (id:=id) hco hok h1 (Q:=fun a' w'=>Post G prot w0 E0 E s.D s1 a.defers a' w') (fun a' w' hp=>hp) b hb kc' cs;obtain ⟨E1,hle,hok1,hd1⟩:=hp;obtain ⟨wy,todo,a',w',E',s',q1,q2,q3,q4,q5,q6⟩:=h2 _ hk' b hb cs a1 w1 E1 hok1;rw[zBJ h1] at q3 q6;exact ⟨wy,todo,a',w',E',s',q1,Steps.trans har q2,GE.leD_trans hle q3,q4,q5.trans hd1,q6⟩
   ·cases hx
 | draw _ ih=>
  rename_i l ps k s _;refine ⟨fun kc hk b hb cs a w E hok=> ?_,by simp,by simp⟩;cases hk with
  | c hc hk'=>
   rename_i kc';obtain ⟨id,ops,hco,⟨_,hx⟩ | ⟨ps',rfl,hx,hps⟩⟩:=nN hc
   ·cases hx
   ·injection hx with hx;subst hx;obtain ⟨es,s1,h1,hap,h2⟩:=ih.2.2 ps l [] k rfl;simp only[List.nil_append] at hap;obtain ⟨a1,w1,hp,har⟩:=nX (id:=id) hm.1 hco hps hok h1 hap (Q:=fun a' w'=>Post G prot w0 E0 E s.D s1 a.defers a' w') (fun a' w' hp=>hp) b hb kc' cs;obtain ⟨E1,hle,hok1,hd1⟩:=hp;obtain ⟨wy,todo,a',w',E',s',q1,q2,q3,q4,q5,q6⟩:=h2 _ hk' b hb cs a1 w1 E1 hok1;rw[zBJ h1] at q3 q6;exact ⟨wy,todo,a',w',E',s',q1,Steps.trans har q2,GE.leD_trans hle q3,q4,q5.trans hd1,q6⟩
 | either h1 h2 _ _ ih1 ih2=>
  rename_i o0 o1 o2 o3 k s e0 _ _;refine ⟨fun kc hk b hb cs a w E hok=> ?_,by simp,by simp⟩;cases hk with
  | c hc hk'=>
   rename_i kc';obtain ⟨id,ops,rfl,hco,hps,u0,u1,u2,u3⟩:=eT hc;obtain ⟨es1,s1,r1,c1⟩:=ih1.2.1 _ k rfl;obtain ⟨es2,s2,r2,c2⟩:=ih2.2.1 _ k rfl;obtain ⟨a1,w1,hp,har⟩:=pD (id:=id) hm.1 hco hps u0 u1 u2 u3 hok h1 h2 r1 r2 (Q:=fun a' w'=>Post G prot w0 E0 E s.D s1 a.defers a' w'\/Post G prot w0 E0 E s.D s2 a.defers a' w') (fun a' w' hp=> .inl hp) (fun a' w' hp=> .inr hp) b hb kc' cs;rcases hp with ⟨E1,hle,hok1,hd1⟩ | ⟨E1,hle,hok1,hd1⟩
   ·obtain ⟨wy,todo,a',w',E',s',q1,q2,q3,q4,q5,q6⟩:=c1 _ hk' b hb cs a1 w1 E1 hok1;rw[zBJ r1,vB] at q3 q6;exact ⟨wy,todo,a',w',E',s',q1,Steps.trans har q2,GE.leD_trans hle q3,q4,q5.trans hd1,q6⟩
   ·obtain ⟨wy,todo,a',w',E',s',q1,q2,q3,q4,q5,q6⟩:=c2 _ hk' b hb cs a1 w1 E1 hok1;rw[zBJ r2,vB] at q3 q6;exact ⟨wy,todo,a',w',E',s',q1,Steps.trans har q2,GE.leD_trans hle q3,q4,q5.trans hd1,q6⟩
 | opsNil _ ih=>
  refine ⟨vac1,fun l k' he=> ?_,by simp⟩;injection he with e1 e2;injection e1 with e1;subst e1;subst e2;exact ⟨[],_,.nil,ih.1⟩
 | opsOn h1 h2 _ ih=>
  refine ⟨vac1,fun l k' he=> ?_,by simp⟩;injection he with e1 e2;injection e1 with e1;subst e1;subst e2;obtain ⟨es,s1,q1,q2⟩:=ih.2.1 _ _ rfl;exact ⟨_,s1,.on h1 h2 q1,q2⟩
 | opsOff h1 _ ih=>
  refine ⟨vac1,fun l k' he=> ?_,by simp⟩;injection he with e1 e2;injection e1 with e1;subst e1;subst e2;obtain ⟨es,s1,q1,q2⟩:=ih.2.1 _ _ rfl;exact ⟨_,s1,.off h1 q1,q2⟩
 | drOn h1 h2 _ ih=>
  refine ⟨vac2,by simp,fun ps l es k' he=> ?_⟩;injection he with e1 e2;injection e1 with e1 e3 e4;subst e1;subst e2;subst e3;subst e4;obtain ⟨es',s1,q1,q2,q3⟩:=ih.2.2 _ _ _ _ rfl;simp only[yJA,yIA] at q2;exact ⟨_,s1,.on h1 h2 q1,q2,q3⟩
 | drOff h1 _ ih=>
  refine ⟨vac2,by simp,fun ps l es k' he=> ?_⟩;injection he with e1 e2;injection e1 with e1 e3 e4;subst e1;subst e2;subst e3;subst e4;obtain ⟨es',s1,q1,q2,q3⟩:=ih.2.2 _ _ _ _ rfl;simp only[yJA,yIA] at q2;exact ⟨_,s1,.off h1 q1,q2,q3⟩
 | drNil hap _ ih=>
  refine ⟨vac2,by simp,fun ps l es k' he=> ?_⟩;injection he with e1 e2;injection e1 with e1 e3 e4;subst e1;subst e2;subst e3;subst e4;exact ⟨[],_,.nil,by simpa using hap,ih.1⟩
inductive RV where
 | tmp (t:Nat)
 | cell (a:Nat) (ag:Bool) (n:Nat)
def xX (P:Program):List ResultVar->Option (List RV)
 | []=>some []
 | .tmp t::l=>(xX P l).map (.tmp t:: ·)
 | .cell a t::l=>match tinf P t,xX P l with
  | some i,some m=>if aggD i.desc || i.size=1 then some (.cell a (aggD i.desc) i.size::m) else none
  | _,_=>none
def pC (s:St):RV->Option AV
 | .tmp t=>some (s.rd t)
 | .cell a ag n=>match s.rd a with
  | .ptr d i g off=>match s.look d i with
   | (g',.cells cs)=>if g'=g then (part ag n cs off).map AV.dem else none
   | _=>none
  | _=>none
def uF (s:St):List RV->Option (List AV)
 | []=>some []
 | r::l=>match pC s r,uF s l with
  | some v,some m=>some (v::m)
  | _,_=>none
def pack:List AV->AV
 | [.sl z xs t]=> .sl z xs t
 | [v]=>v.strip
 | vs=> .tup (vs.map AV.strip)
def zLB (vs:List AV):AV:= .tup (vs.map AV.keep)
def resT (s:St) (rs:List RV):Option AV:=
 match uF s rs with
 | some vs=>match frzL s vs with
  | some (vs',_)=>match vs' with
   | _::_::_=>some (zLB vs')
   | _=>none
  | none=>none
 | none=>none
def AV.firm1:AV->Bool
 | .int .. | .bool _ | .sl .. =>true
 | _=>false
def AV.keep1:AV->AV
 | .sl z xs .tip=> .sl z xs .tip
 | .sl z xs _=> .sl z xs .no
 | v=>v
def resA (s:St):List RV->Option AV
 | [.cell a true n]=>match s.rd a with
  | .ptr d i g off=>match s.look d i with
   | (g',.cells cs)=>if d=s.D/\g'=g/\off+n<=cs.length/\((cs.drop off).take n).all AV.firm1=true then some (.agg (((cs.drop off).take n).map AV.keep1)) else none
   | _=>none
  | _=>none
 | _=>none
def resV (s:St) (rs:List RV):Option AV:=
 match uF s rs with
 | some vs=>match frzL s vs with
  | some (vs',_)=>some (pack vs')
  | none=>none
 | none=>none
end
end Go.Ab
/- Results,and a function's contract from a run of its body. -/
namespace Go.Ab
open Go
section
variable {P:Program} {G:Nat->Option (List AV)} {L:xA} {prot:Nat->Prop} {w0:World} {E0 E:GE} {w:World} {s:St} {a:Act}
def oneR (P:Program) (tmps:Array Value):ResultVar->Sem Value
 | .tmp t=>pure (tmps.getD t undef)
 | .cell a t=>do loadVar t (<-asAddr (tmps.getD a undef))
theorem mX {t:TypeId} {b o:Nat} {v:Value} (h:(Instr.loadAt t (.pointer (some ⟨b,o,none⟩))).run P w= .ok v w):(loadVar t ⟨b,o,none⟩).run P w= .ok v w:=by
 unfold Instr.loadAt at h;simpa[Instr.sureAddr] using h
theorem zTI (h:Ok G prot w0 E0 E w s a.tmps) {r:ResultVar} {c:RV} (hc:xX P [r]=some [c]) {b:AV} (hb:pC s c=some b):
  ∃v,(oneR P a.tmps r).run P w= .ok v w/\Rel E b v/\(∀z xs,b= .sl z xs .tip->∃t:Nat,s.ts[t]?=some b/\a.tmps[t]?=some v):=by
 cases r with
 | tmp t=>
  simp[xX] at hc;subst hc;simp[pC] at hb;subst hb;refine ⟨a.tmps.getD t undef,by simp[oneR],h.rd t,fun z xs e=>⟨t,?_⟩⟩;rw[St.rd,yHC] at e|-;cases hi:s.ts[t]? with
  | none=>rw[hi] at e;simp[ud] at e
  | some x=>
   have hlt:t < s.ts.length:=(yHR.1 hi).1;have hlt':t < a.tmps.size:=by rw[h.size];exact hlt
   refine ⟨by simp,?_⟩;simp[yGZ,yHO hlt']
 | cell p t=>
  simp only[xX] at hc;split at hc
  ·rename_i i m ht hm;injection hm with hm;subst hm;split at hc
   ·rename_i hag;injection hc with hc;injection hc with hc _;subst hc;obtain ⟨inf,hi,hu,hs,_,_⟩:=z8 ht;have h1:aggD i.desc=false->i.size=1:=fun e=>by simpa[e] using hag
    simp only[pC] at hb;have hr:=h.rd p;split at hb
    ·rename_i d i' g off hev;rw[hev] at hr;obtain ⟨B,hloc,hv⟩:=hr.ptr_inv;split at hb
     ·rename_i g' cs hlk;split at hb
      ·rename_i hg;subst hg;obtain ⟨hlive,⟨arr,el,hB,hsz,hone,hcr⟩,himm,hnp⟩:=wH h hlk (by simp) hloc;obtain ⟨u,hp,rfl⟩:=map_some hb;have hle:off+i.size<=cs.length:=by
        unfold part at hp;split at hp
        ·assumption
        ·cases hp
       have hget:∀j,j < i.size->arr[off+j]?=some (arr.getD (off+j) undef):=fun j hj=>by
        have:off+j < arr.size:=by omega
        simp[yGZ,yHO this]
       have hrun:=vG (w:=w) hi hu (b:=B) (o:=off) (f:=fun j=>arr.getD (off+j) undef) (fun j hj=>uA hB (hget j (by omega))) (fun e=>by rw[hs];exact h1 e);have hru:Rel E u (if aggD i.desc then .agg ((yHH i.size).map fun j=>arr.getD (off+j) undef).toArray else arr.getD (off+0) undef):=
        pL hp (fun j c hj hc=>(hcr _ c _ hc (hget j hj)).mono (GE.to_le E d)) h1
       rw[hs] at hrun;refine ⟨_,?_,hru.dem,fun z xs e=>absurd e (fun e=>AV.dull_ne (AV.dull_dem u) e)⟩;simp only[oneR,hv,asAddr,pure_bind];exact mX hrun
      ·cases hb
     ·cases hb
    ·cases hb
   ·cases hc
  ·cases hc
theorem qI {r rs l} (h:xX P (r::rs)=some l):∃c l',l=c::l'/\xX P [r]=some [c]/\xX P rs=some l':=by
 cases r with
 | tmp t=>
  simp only[xX] at h;obtain ⟨l',hl,rfl⟩:=map_some h;exact ⟨_,l',rfl,rfl,hl⟩
 | cell a t=>
  simp only[xX] at h|-;split at h
  ·rename_i i m h1 h2;split at h
   ·rename_i h3;injection h with h;subst h;exact ⟨_,_,rfl,by rw[h1];simp only[];rw[if_pos h3],h2⟩
   ·cases h
  ·cases h
theorem l4 (h:Ok G prot w0 E0 E w s a.tmps):∀{rs:List ResultVar} {l:List RV},xX P rs=some l->∀{bs},uF s l=some bs->
  ∃vs:List Value,(rs.mapM (oneR P a.tmps)).run P w= .ok vs w/\vs.length=bs.length/\∀(i:Nat) b v,bs[i]?=some b->vs[i]?=some v->Rel E b v/\(∀z xs,b= .sl z xs .tip->∃t:Nat,s.ts[t]?=some b/\a.tmps[t]?=some v)
 | [],l,hc,bs,hb=>by
  simp[xX] at hc;subst hc;simp[uF] at hb;subst hb;exact ⟨[],by simp,rfl,by simp⟩
 | r::rs,l,hc,bs,hb=>by
  obtain ⟨c,l',rfl,h1,h2⟩:=qI hc;simp only[uF] at hb;split at hb
  ·rename_i b bs' k1 k2;injection hb with hb;subst hb;obtain ⟨v,q1,q2,q3⟩:=zTI h h1 k1;obtain ⟨vs,p1,p2,p3⟩:=l4 h h2 k2;refine ⟨v::vs,by rw[yHW];simp[q1,p1],by simp[p2],fun i b v hb hv=> ?_⟩;cases i with
   | zero=>simp at hb hv;subst hb;subst hv;exact ⟨q2,q3⟩
   | succ i=>exact p3 i b v (by simpa using hb) (by simpa using hv)
  ·cases hb
theorem vS {fn:Func} {vs:List Value} {tmps:Array Value} (h:(fn.results.toList.mapM (oneR P tmps)).run P w= .ok vs w):
  (results fn tmps).run P w= .ok (match vs with | [v]=>v | _=> .tuple vs.toArray) w:=by
 have e:results fn tmps=(do let vs<-fn.results.mapM (oneR P tmps);pure (if h:vs.size=1 then vs[0] else .tuple vs)):=by
  unfold results;congr 2
 rw[e,Array.mapM_eq_mapM_toList,map_eq_pure_bind];simp only[yHT,h,yHY,Sem.run_pure];rcases vs with _ | ⟨v,_ | ⟨u,vs⟩⟩<;>simp
theorem o9:∀n {b b' l},frz s n b=some (b',l)->∀p∈l,p.1=s.D
 | 0,b,b',l,hf=>by simp[frz] at hf
 | n+1,b,b',l,hf=>by
  have many:∀{cs:List AV} {m:List (AV×List (Nat×Nat))},cs.mapM (frz s n)=some m->∀p∈(m.map (·.2)).flatten,p.1=s.D:=by
   intro cs m hm p hp;obtain ⟨q,hq,hpq⟩:=yIO.1 hp;obtain ⟨x,hx,rfl⟩:=yGT.1 hq;obtain ⟨q1,q2⟩:=vM hm;obtain ⟨i,hi⟩:=yIN hx;have hlt:i < cs.length:=by have:=(yHR.1 hi).1;omega
   obtain ⟨y,hy,hfy⟩:=q2 i _ (yHF hlt);have:y=x:=by rw[hy] at hi;exact Option.some.inj hi
   subst this;exact o9 n (b':=y.1) (l:=y.2) hfy p hpq
  unfold frz at hf;split at hf
  ·split at hf
   ·split at hf
    ·rename_i hc;split at hf
     ·rename_i m hm;injection hf with hf;injection hf with _ hf;subst hf;intro p hp;rcases yHA.1 hp with rfl | hp
      ·exact hc.2.1
      ·exact many hm p hp
     ·cases hf
    ·cases hf
   ·cases hf
  ·split at hf
   ·split at hf
    ·rename_i hc;split at hf
     ·rename_i m hm;injection hf with hf;injection hf with _ hf;subst hf;intro p hp;rcases yHA.1 hp with rfl | hp
      ·exact hc.2.1
      ·exact many hm p hp
     ·cases hf
    ·cases hf
   ·cases hf
  ·cases hf
  ·cases hf
  ·cases hf
  ·cases hf
  ·cases hf
  ·split at hf
   ·rename_i m hm;injection hf with hf;injection hf with _ hf;subst hf;exact many hm
   ·cases hf
  ·split at hf
   ·rename_i m hm;injection hf with hf;injection hf with _ hf;subst hf;exact many hm
   ·cases hf
  ·split at hf
   ·rename_i m hm;injection hf with hf;injection hf with _ hf;subst hf;exact many hm
   ·cases hf
  ·split at hf
   ·rename_i v' l' hv;injection hf with hf;injection hf with _ hf;subst hf;exact o9 n hv
   ·cases hf
  ·injection hf with hf;injection hf with _ hf;subst hf;simp
theorem qG:∀{bs bs' l},frzL s bs=some (bs',l)->∀p∈l,p.1=s.D
 | [],bs',l,h=>by simp[frzL] at h;obtain ⟨rfl,rfl⟩:=h;simp
 | b::bs,bs',l,h=>by
  simp only[frzL] at h;split at h
  ·rename_i v' l1 vs' l2 h1 h2;injection h with h;injection h with _ h;subst h;intro p hp;rcases yGU.1 hp with hp | hp
   ·exact o9 _ h1 p hp
   ·exact qG h2 p hp
  ·cases h
theorem zBW:∀(l:List (Nat×Nat)) (s s0:St),(∀p∈l,p.1=s.D)->∀d i,d≠s.D->((l.map fun (p:Nat×Nat)=>(p.1,p.2,((s0.look p.1 p.2).1,Ob.dead))).foldl St.up s).look d i=s.look d i:=by
 intro l
 induction l with
 | nil=>intro s s0 _ d i _;rfl
 | cons p l ih=>
  intro s s0 hl d i hd;simp only[List.map_cons,yGY];rw[ih _ _ (fun q hq=>by rw[St.up_D];exact hl q (by simp[hq])) d i (by simpa using hd)];unfold St.up;rw[if_pos (hl p (by simp))];unfold St.look;rw[if_neg hd,if_neg hd]
theorem zLW {n b b' l z xs} (h:frz s n b=some (b',l)) (he:b'= .sl z xs .tip):b= .sl z xs .tip:=by
 subst he;cases n with
 | zero=>simp[frz] at h
 | succ n=>
  unfold frz at h;split at h
  ·(repeat' split at h)<;>first | (injection h with h;injection h with h _;cases h;done) | cases h
  ·(repeat' split at h)<;>first | (injection h with h;injection h with h _;cases h;done) | cases h
  ·cases h
  ·cases h
  ·cases h
  ·cases h
  ·cases h
  ·split at h<;>first | (injection h with h;injection h with h _;cases h;done) | cases h
  ·split at h<;>first | (injection h with h;injection h with h _;cases h;done) | cases h
  ·split at h<;>first | (injection h with h;injection h with h _;cases h;done) | cases h
  ·split at h<;>first | (injection h with h;injection h with h _;cases h;done) | cases h
  ·injection h with h;injection h with h _
theorem Rel.keep {E:GE} {a v} (h:Rel E a v):Rel E a.keep v:=by
 cases a with
 | sl z xs t=>exact h
 | _=>exact h.strip
theorem RelI.keep {imm} {a v} (h:RelI imm a v):RelI imm a.keep v:=by
 cases a with
 | sl z xs t=>exact h
 | _=>exact h.strip
theorem dV (h:Ok G prot w0 E0 E w s a.tmps) {fn:Func} {rs:List RV} (hc:xX P fn.results.toList=some rs) {bs cs:List AV} {l:List (Nat×Nat)} (hbs:uF s rs=some bs) (hf:frzL s bs=some (cs,l)):
  ∃vs E',(results fn a.tmps).run P w= .ok (match vs with | [v]=>v | vs=> .tuple vs.toArray) w/\cs.length=vs.length/\E.le E'/\E'.loc=E.loc/\(∀(i:Nat) c v,cs[i]?=some c->vs[i]?=some v->RelI E'.imm c v)/\
   ∃s1,Ok G prot w0 E0 E' w s1 a.tmps/\s1.ts=s.ts/\s1.D=s.D/\(∀d i,d≠s.D->s1.look d i=s.look d i)/\
   (∀(i:Nat) z xs v,cs[i]?=some (.sl z xs .tip)->vs[i]?=some v->∃t:Nat,s1.ts[t]?=some (.sl z xs .tip)/\a.tmps[t]?=some v):=by
 obtain ⟨vs,q1,q2,q3⟩:=l4 h hc hbs;obtain ⟨f1,f2,f3⟩:=rK hf;obtain ⟨E',o1,le1,loc1,full1,ts1,D1⟩:=h.killAll l f3;have hrel:∀(i:Nat) c v,cs[i]?=some c->vs[i]?=some v->RelI E'.imm c v:=by
  intro i c v hci hv;have hlt:i < bs.length:=by rw[<-f1];exact (yHR.1 hci).1
  obtain ⟨b',l',k1,k2,k3⟩:=f2 i _ (yHF hlt);have:b'=c:=by rw[k1] at hci;exact Option.some.inj hci
  subst this;exact qE h le1.1 _ k2 (q3 i _ v (yHF hlt) hv).1 (fun q hq=>full1 q (k3 q hq))
 have hlook:∀d i,d≠s.D->((kill s l).foldl St.up s).look d i=s.look d i:=fun d i hd=>zBW l s s (qG hf) d i hd;refine ⟨vs,E',(vS q1).trans (by rcases vs with _ | ⟨v,_ | ⟨v',vs⟩⟩<;>rfl),by omega,le1,loc1,hrel,_,o1,ts1,D1,hlook,fun i z xs v hci hv=> ?_⟩
 have hlt:i < bs.length:=by rw[<-f1];exact (yHR.1 hci).1
 obtain ⟨b',l',k1,k2,k3⟩:=f2 i _ (yHF hlt);rw[hci] at k1;injection k1 with k1;have hb:=zLW k2 k1.symm;obtain ⟨t,h1,h2⟩:=(q3 i _ v (yHF hlt) hv).2 z xs hb;exact ⟨t,by rw[ts1,h1,hb],h2⟩
theorem zFQ (h:Ok G prot w0 E0 E w s a.tmps) {fn:Func} {rs:List RV} (hc:xX P fn.results.toList=some rs) {r:AV} (hr:resV s rs=some r\/resT s rs=some r):
  ∃v E',(results fn a.tmps).run P w= .ok v w/\E.le E'/\E'.loc=E.loc/\RelI E'.imm r v/\
   ∃s1,Ok G prot w0 E0 E' w s1 a.tmps/\s1.ts=s.ts/\s1.D=s.D/\(∀d i,d≠s.D->s1.look d i=s.look d i)/\
   (∀z n ad cap,Tipped r v z n ad cap->∃t:Nat,Hold E' w s1 a.tmps (.t t) ad z n cap):=by
 rcases hr with hr | hr
 ·unfold resV at hr;split at hr
  ·rename_i bs hbs;split at hr
   ·rename_i cs l hf;injection hr with hr;obtain ⟨vs,E',q1,hlen,le1,loc1,hrel,s1,o1,ts1,D1,hlook,htip⟩:=dV h hc hbs hf;refine ⟨_,E',q1,le1,loc1,?_,s1,o1,ts1,D1,hlook,?_⟩
    ·rcases cs with _ | ⟨c,_ | ⟨c',cs⟩⟩
     ·rcases vs with _ | ⟨v,vs⟩
      ·simp[pack] at hr;subst hr;exact .tup [] [] rfl (by simp)
      ·simp at hlen
     ·rcases vs with _ | ⟨v,_ | ⟨v',vs⟩⟩<;>simp at hlen
      have:=hrel 0 c v rfl rfl;subst hr;unfold pack;split
      ·rename_i e;injection e with e;subst e;exact this
      ·rename_i e;injection e with e;subst e;exact this.strip
      ·rename_i hne;exact (hne _ rfl).elim
     ·rcases vs with _ | ⟨v,_ | ⟨v',vs⟩⟩<;>simp at hlen
      subst hr;have:pack (c::c'::cs)= .tup ((c::c'::cs).map AV.strip):=by cases c<;>rfl
      rw[this];refine .tup _ _ (by simp;omega) fun i b u hb hu=> ?_;rw[yGW,yGX] at hb;obtain ⟨b0,h0,rfl⟩:=hb;exact (hrel i b0 u h0 hu).strip
    ·intro z n ad cap ht;rcases cs with _ | ⟨c,_ | ⟨c',cs⟩⟩
     ·simp[pack] at hr;subst hr;exact (ht.dull (by intro b hb;cases hb)).elim
     ·rcases vs with _ | ⟨v,_ | ⟨v',vs⟩⟩<;>simp at hlen
      subst hr;unfold pack at ht;split at ht
      ·rename_i z' xs' t' e';injection e' with e';subst e';generalize hw:(AV.sl z' xs' t')=x at ht;cases ht with
       | sl z xs ad cap hc'=>
        obtain ⟨t,h1,h2⟩:=htip 0 z xs _ (by rw[hw];rfl) rfl;exact ⟨t,.t t _ _ _ _ _ _ h1 h2 (.sl z xs ad cap hc')⟩
       | tup as=>cases hw
       | agg as=>cases hw
      ·exact (ht.dull (AV.dull_strip _)).elim
      ·rename_i hne;exact (hne _ rfl).elim
     ·have:pack (c::c'::cs)= .tup ((c::c'::cs).map AV.strip):=by cases c<;>rfl
      rw[this] at hr;subst hr;refine (ht.dull ?_).elim;intro b hb;obtain ⟨b0,_,rfl⟩:=yGT.1 hb;cases b0<;>trivial
   ·cases hr
  ·cases hr
 ·unfold resT at hr;split at hr
  ·rename_i bs hbs;split at hr
   ·rename_i cs l hf;split at hr
    ·rename_i c c' cs;injection hr with hr;obtain ⟨vs,E',q1,hlen,le1,loc1,hrel,s1,o1,ts1,D1,hlook,htip⟩:=dV h hc hbs hf;rcases vs with _ | ⟨v,_ | ⟨v',vs⟩⟩<;>simp at hlen
     subst hr;refine ⟨_,E',q1,le1,loc1,?_,s1,o1,ts1,D1,hlook,?_⟩
     ·refine .tup _ _ (by simp;omega) fun i b u hb hu=> ?_;rw[yGW,yGX] at hb;obtain ⟨b0,h0,rfl⟩:=hb;exact (hrel i b0 u h0 hu).keep
     ·intro z n ad cap ht;generalize hw:zLB (c::c'::cs)=x at ht;cases ht with
      | tup as us j z xs ad cap h1 h2 h3=>
       injection hw with hw;rw[<-hw,yGW,yGX] at h1;obtain ⟨b0,h0,he⟩:=h1;have hb:b0= .sl z xs .tip:=by
        cases b0<;>first | exact he | cases he
       rw[hb] at h0;obtain ⟨t,g1,g2⟩:=htip j z xs _ h0 (by simpa using h2);exact ⟨t,.t t _ _ _ _ _ _ g1 g2 (.sl z xs ad cap h3)⟩
    ·cases hr
   ·cases hr
  ·cases hr
theorem zCD {c:AV} {v:Value} (hr:Rel E c v) (h:c.firm1=true):RelI E.imm c.keep1 v:=by
 cases c with
 | int k n=>cases hr with | imm _ _ h=>exact h
 | bool b=>cases hr with | imm _ _ h=>exact h
 | sl z xs t=>
  cases hr with
  | imm _ _ h=>
   cases t with
   | tip=>exact h
   | no=>exact h
   | nil=>exact h.sl_tip (by simp)
 | _=>simp[AV.firm1] at h
theorem zFR (h:Ok G prot w0 E0 E w s a.tmps) {fn:Func} {rs:List RV} (hc:xX P fn.results.toList=some rs) {r:AV} (hr:resA s rs=some r):
  ∃v,(results fn a.tmps).run P w= .ok v w/\RelI E.imm r v/\∀z n ad cap,Tipped r v z n ad cap->∃i j,Hold E w s a.tmps (.o s.D i j) ad z n cap:=by
 unfold resA at hr;split at hr
 case h_2=>cases hr
 rename_i a0 n0;generalize hl:fn.results.toList=l at hc;cases l with
 | nil=>simp[xX] at hc
 | cons r0 rest=>
  obtain ⟨c0,l',e0,h1,h2⟩:=qI hc;injection e0 with e0 e1;subst e0;subst e1;have hrest:rest= []:=by
   cases rest with
   | nil=>rfl
   | cons r1 rest=>
    obtain ⟨c1,l1,e,_,_⟩:=qI h2;cases e
  subst hrest;cases r0 with
  | tmp t=>simp[xX] at h1
  | cell p t=>
   simp only[xX] at h1;split at h1
   case h_2=>cases h1
   rename_i i m ht hm;injection hm with hm;subst hm;split at h1
   case isFalse=>cases h1
   rename_i hag;injection h1 with h1;injection h1 with h1 _;injection h1 with e1 e2 e3;subst e1;subst e3;obtain ⟨inf,hi,hu,hs,_,_⟩:=z8 ht;have hone0:aggD i.desc=false->i.size=1:=fun e=>by simpa[e] using hag
   have hrp:=h.rd p;split at hr
   case h_2=>cases hr
   rename_i d i' g off hev;rw[hev] at hrp;obtain ⟨B,hloc,hv⟩:=hrp.ptr_inv;split at hr
   case h_2=>cases hr
   rename_i g' cs hlk;split at hr
   case isFalse=>cases hr
   rename_i hcond;obtain ⟨hD,hg,hle,hfirm⟩:=hcond;subst hg;injection hr with hr;obtain ⟨hlive,⟨arr,el,hB,hsz,hone,hcr⟩,himm,hnp⟩:=wH h hlk (by simp) hloc;have hget:∀j,j < i.size->arr[off+j]?=some (arr.getD (off+j) undef):=fun j hj=>by
    have:off+j < arr.size:=by omega
    simp[yGZ,yHO this]
   have hrun:=vG (w:=w) hi hu (b:=B) (o:=off) (f:=fun j=>arr.getD (off+j) undef) (fun j hj=>uA hB (hget j (by omega))) (fun e=>by rw[hs];exact hone0 e);rw[hs,e2,if_pos rfl] at hrun;have hcell:∀(j:Nat) c,((cs.drop off).take i.size)[j]?=some c->j < i.size/\cs[off+j]?=some c:=by
    intro j c hj;have hlt:=(yHR.1 hj).1;rw[List.length_take] at hlt;have hjs:j < i.size:=by omega
    rw[List.getElem?_take_of_lt hjs,List.getElem?_drop] at hj;exact ⟨hjs,hj⟩
   have hval:∀(j:Nat),j < i.size->(List.map (fun j=>arr.getD (off+j) undef) (yHH i.size))[j]?=some (arr.getD (off+j) undef):=fun j hj=>by
    rw[yGW,List.getElem?_range hj];rfl
   refine ⟨.agg (List.map (fun j=>arr.getD (off+j) undef) (yHH i.size)).toArray,?_,?_,?_⟩
   ·refine (vS (vs:=[_]) ?_).trans rfl;rw[hl,yHW];simp only[oneR,hv,asAddr,pure_bind,List.mapM_nil];rw[yHT,mX hrun];rfl
   ·rw[<-hr];refine .agg _ _ (by simp;omega) fun j c u hj hu=> ?_;rw[yGW,yGX] at hj;obtain ⟨c0,h0,rfl⟩:=hj;obtain ⟨hjs,hc0⟩:=hcell j c0 h0;rw[hval j hjs] at hu;injection hu with hu;subst hu;exact zCD ((hcr _ c0 _ hc0 (hget j hjs)).mono (GE.to_le E d)) (yHG.1 hfirm c0 (zP h0))
   ·intro z n ad cap htp;rw[<-hr] at htp;cases htp with
    | agg as us j z xs ad cap k1 k2 k3=>
     rw[yGW,yGX] at k1;obtain ⟨c0,h0,hk⟩:=k1;obtain ⟨hjs,hc0⟩:=hcell j c0 h0;have hc':c0= .sl z xs .tip:=by
      cases c0 with
      | sl z' xs' t'=>cases t'<;>first | exact hk | (simp[AV.keep1] at hk)
      | _=>simp[AV.keep1] at hk
     subst hc';have k2':(List.map (fun j=>arr.getD (off+j) undef) (yHH i.size))[j]?=some (.slice (some ad) xs.length cap):=by simpa using k2
     rw[hval j hjs] at k2';injection k2' with k2';refine ⟨i',off+j,?_⟩;rw[<-hD];exact .o d i' (off+j) _ cs z xs B arr el ad cap hlk hc0 hloc hB (by rw[hget j hjs,k2']) k3
end
end Go.Ab
/- A function's contract from a run of its body. -/
namespace Go.Ab
open Go
section
variable {P:Program} {G:Nat->Option (List AV)} {L:xA}
def St.start (n:Nat) (args:List AV) (D:Nat) (S:Nat->Nat->Ent):St:=
 ⟨args++yJB (n - args.length) ud,yJB n (0,.dead),D,S⟩
theorem mF {n args D S} (d i:Nat):(St.start n args D S).look d i=(⟨args,[],D,S⟩:St).look d i:=by
 unfold St.look St.start;simp only[];split
 ·rw[yHC,yIG];split<;>simp
 ·rfl
theorem lY {prot:Nat->Prop} {w0:World} {E0 E:GE} {w:World} {args:List AV} {D S} {vs:Array Value} (n:Nat)
  (h:Ok G prot w0 E0 E w ⟨args,[],D,S⟩ vs):Ok G prot w0 E0 E w (St.start n args D S) (vs++yHJ (n - vs.size) undef):=by
 have hsz:vs.size=args.length:=h.size;have hh:∀l ad z k cap,Hold E w (St.start n args D S) (vs++yHJ (n - vs.size) undef) l ad z k cap->Hold E w ⟨args,[],D,S⟩ vs l ad z k cap:=by
  intro l ad z k cap hh;cases hh with
  | t i a' v' ad z n' cap h1 h2 h3=>
   have hi:i < args.length:=by
    rcases yIE i args.length with hi | hi
    ·exact hi
    ·simp only[St.start] at h1;rw[yIC hi,yIG] at h1;split at h1
     ·injection h1 with h1;subst h1;exact (h3.dull (by intro b hb;cases hb)).elim
     ·cases h1
   refine .t i a' v' ad z _ cap ?_ ?_ h3
   ·simp only[St.start] at h1;rw[yIB hi] at h1;exact h1
   ·rw[yJC (by omega)] at h2;exact h2
  | o d i j g cs z xs B arr el ad cap h1 h2 h3 h4 h5 h6=>exact .o d i j g cs z xs B arr el ad cap (by rw[<-mF (n:=n)];exact h1) h2 h3 h4 h5 h6
 refine h.tmps mF rfl (by simp[St.start,hsz]) (fun i b v hb hv=> ?_) (fun l ad z k cap q=>h.tips _ _ _ _ _ (hh _ _ _ _ _ q))
  (fun l l' ad ad' z z' k k' cap cap' q q' hb=>h.tinj _ _ _ _ _ _ _ _ _ _ (hh _ _ _ _ _ q) (hh _ _ _ _ _ q') hb)
 simp only[St.start] at hb;rcases yIE i args.length with hi | hi
 ·rw[yIB hi] at hb;rw[yJC (by omega)] at hv;exact h.rel i b v hb hv
 ·rw[yIC hi,yIG] at hb;rw[Array.getElem?_append_right (by omega),yIF] at hv;split at hb<;>split at hv<;>simp at hb hv
  subst hb;subst hv;exact mD
theorem Run.imp {C:zL} {Q Q':St->Prop} {k:List AI} {s:St} (hq:∀s,Q s->Q' s) (hr:Run C Q k s):Run C Q' k s:=
 RunW.imp (fun w s h=>by cases w<;>first | exact hq _ h | exact h) hr
def GE.cut (E E1:GE) (D:Nat):GE:=⟨E1.imm,fun d i g=>match E.loc d i g with | some B=>some B | none=>if d < D then E1.loc d i g else none,E1.room⟩
section
variable {E E1:GE} {D:Nat}
theorem GE.cut_lt (hle:E.le E1) {d i g:Nat} (hd:d < D):(E.cut E1 D).loc d i g=E1.loc d i g:=by
 show (match E.loc d i g with | some B=>some B | none=>if d < D then E1.loc d i g else none)=_
 split
 ·rename_i B hb;exact (hle.2 _ _ _ _ hb).symm
 ·rw[if_pos hd]
theorem GE.cut_ge {d i g:Nat} (hd:¬d < D):(E.cut E1 D).loc d i g=E.loc d i g:=by
 show (match E.loc d i g with | some B=>some B | none=>if d < D then E1.loc d i g else none)=_
 split
 ·rename_i B hb;exact hb.symm
 ·rename_i hb;rw[if_neg hd,hb]
theorem GE.cut_up (hle:E.le E1) {d i g B:Nat} (hb:(E.cut E1 D).loc d i g=some B):E1.loc d i g=some B:=by
 by_cases hd:d < D
 ·rw[<-GE.cut_lt hle hd];exact hb
 ·rw[GE.cut_ge hd] at hb;exact hle.2 _ _ _ _ hb
theorem GE.leC_cut (hle:E.le E1):GE.leC D E (E.cut E1 D):=by
 refine ⟨fun d i g B hb=> ?_,fun d i g B hb=> ?_⟩
 ·by_cases hd:d < D
  ·rw[GE.cut_lt hle hd];exact hle.2 _ _ _ _ hb
  ·rw[GE.cut_ge hd];exact hb
 ·by_cases hd:d < D
  ·exact .inl hd
  ·rw[GE.cut_ge hd] at hb;exact .inr hb
theorem GE.to_cut (hle:E.le E1) {d:Nat} (hd:d < D):(E1.to d).le (E.cut E1 D):=by
 refine ⟨fun _ _ _ q=>q,fun d' i' g' B' hb=> ?_,fun _ _ _ _ _=>rfl⟩;simp only[GE.to] at hb;split at hb
 ·rw[GE.cut_lt hle (by omega)];exact hb
 ·cases hb
end
theorem zIT {prot:Nat->Prop} {w0:World} {E0 E E1:GE} {w w1:World} {args:List AV} {D S} {vs:Array Value} {s1:St} {tmps:Array Value} {r:AV} {v:Value} {S':Nat->Nat->Ent}
  (h:Ok G prot w0 E0 E w ⟨args,[],D,S⟩ vs) (hle:E.le E1) (h1:Ok G prot w0 E0 E1 w1 s1 tmps) (hD:s1.D=D) (hS:∀d i,d≠D->s1.look d i=S' d i)
  (hr:Rel (E.cut E1 D) r v) (ht:∀z n ad cap,Tipped r v z n ad cap->∃l:Lc,Hold E1 w1 s1 tmps l ad z n cap/\∀d i j,l= .o d i j->d=D):
  Ok G prot w0 E0 (E.cut E1 D) w1 ⟨[r],[],D,S'⟩ #[v]:=by
 let E2:GE:=E.cut E1 D
 let s2:St:=⟨[r],[],D,S'⟩
 have hlkD:∀i,s2.look D i=(0,.dead):=fun i=>by simp[s2,St.look]
 have hlk:∀d i,d≠D->s2.look d i=s1.look d i:=fun d i hd=>by rw[hS d i hd];simp[s2,St.look,hd]
 have hne:∀d i,(s2.look d i).2≠ .dead->d≠D:=fun d i hn e=>by subst e;rw[hlkD] at hn;exact hn rfl
 have hup:∀d i g B,E2.loc d i g=some B->E1.loc d i g=some B:=fun d i g B hb=>GE.cut_up hle hb;have hlive:∀d i B,Live E2 s2 d i B->Live E1 s1 d i B:=by
  rintro d i B ⟨q1,q2⟩;have hd:=hne d i q1;exact ⟨by rw[<-hlk d i hd];exact q1,by rw[<-hlk d i hd];exact hup _ _ _ _ q2⟩
 have hh:∀l ad z n cap,Hold E2 w1 s2 #[v] l ad z n cap->∃l',Hold E1 w1 s1 tmps l' ad z n cap/\((∃i,l= .t i)↔∀d i j,l'= .o d i j->d=D)/\(∀d i j,l= .o d i j->l'=l)/\(∀i,l= .t i->i=0):=by
  intro l ad z n cap hh;cases hh with
  | t i a' v' ad z n cap q1 q2 q3=>
   cases i with
   | zero=>
    simp[s2] at q1 q2;subst q1;subst q2;obtain ⟨t,k1,k2⟩:=ht z n ad cap q3;exact ⟨t,k1,⟨fun _=>k2,fun _=>⟨0,rfl⟩⟩,by simp,by simp⟩
   | succ i=>simp[s2] at q1
  | o d i j g cs z xs B arr el ad cap q1 q2 q3 q4 q5 q6=>
   have hd:=hne d i (by rw[q1];simp);exact ⟨.o d i j,.o d i j g cs z xs B arr el ad cap (by rw[<-hlk d i hd];exact q1) q2 (hup _ _ _ _ q3) q4 q5 q6,⟨fun h=>(by obtain ⟨i,e⟩:=h;cases e),fun e=>absurd (e d i j rfl) hd⟩,by simp,by simp⟩
 refine ⟨by simp,fun i b u hb hu=> ?_,h1.imm,fun d i g B hb=> ?_,fun d i g B hb=>h1.rooms d i g B (hup _ _ _ _ hb),fun d i hn=> ?_,fun d i d' i' B q1 q2=>h1.inj d i d' i' B (hlive _ _ _ q1) (hlive _ _ _ q2),
  fun l ad z n cap q=> ?_,fun l l' ad ad' z z' n n' cap cap' q q' hb=> ?_,h1.glob,h1.frame,h1.grow,h1.same,h1.ifr⟩
 ·cases i with
  | zero=>simp at hb hu;subst hb;subst hu;exact hr
  | succ i=>simp at hb
 ·have k1:=h1.locs d i g B (hup _ _ _ _ hb);refine ⟨by rw[<-hD];exact k1.1,?_,k1.2.2⟩;by_cases hd:d=D
  ·subst hd;rw[GE.cut_ge (by omega)] at hb;have:=(h.locs _ _ _ _ hb).2.1
   show g<=(s2.look d i).1
   rw[hlkD];simpa[St.look] using this
  ·show g<=(s2.look d i).1
   rw[hlk d i hd];exact k1.2.1
 ·have hd:=hne d i hn;have hn':(s1.look d i).2≠ .dead:=by rw[<-hlk d i hd];exact hn
  obtain ⟨B,k1,k2,k3,k4⟩:=h1.objs d i hn';have hdl:=(h1.locs _ _ _ _ k1).1;rw[hD] at hdl;have hdlt:d < D:=by omega
  refine ⟨B,?_,?_,k3,k4⟩
  ·show (E.cut E1 D).loc d i (s2.look d i).1=some B
   rw[hlk d i hd,GE.cut_lt hle hdlt];exact k1
  ·show obAt (E.cut E1 D) w1 d B (s2.look d i).2
   rw[hlk d i hd];have:obAt (E1.to d) w1 d B (s1.look d i).2:=by
    have e:((E1.to d).to d)=E1.to d:=by
     unfold GE.to;congr 1
     funext d' i' g'
     simp only[];split<;>rfl
    revert k2;cases (s1.look d i).2<;>simp only[obAt,e]<;>exact id
   exact this.mono (GE.to_cut hle hdlt)
 ·obtain ⟨l',k1,_⟩:=hh _ _ _ _ _ q;have k:=h1.tips _ _ _ _ _ k1;exact ⟨k.spot,k.room,k.free,k.notp,fun d i hl=>k.noob d i (hlive _ _ _ hl)⟩
 ·obtain ⟨m,k1,k2,k3,k4⟩:=hh _ _ _ _ _ q;obtain ⟨m',j1,j2,j3,j4⟩:=hh _ _ _ _ _ q';have e:=h1.tinj _ _ _ _ _ _ _ _ _ _ k1 j1 hb;subst e;cases l with
  | t i=>
   obtain ⟨i',hi'⟩:=j2.2 (k2.1 ⟨i,rfl⟩);subst hi';rw[k4 i rfl,j4 i' rfl]
  | o d i j=>
   have e1:=k3 d i j rfl;cases l' with
   | t i'=>obtain ⟨i2,e2⟩:=k2.2 (j2.1 ⟨i',rfl⟩);cases e2
   | o d' i' j'=>rw[<-e1,j3 d' i' j' rfl]
theorem oV (hm:PGood P) {f:FuncId} {fn:Func} {code:Code} {ac:AC} {rs:List RV} {args:List AV} {M dl:List (Nat×Nat×Ent)} {r:AV}
  (hf : P.funcs[f]? = some fn) (hb : fn.body = some code) (hn : (fn.name == "runtime.NumGoroutine") = false) (hc : comp P G L code = some ac) (hrs : xX P fn.results.toList = some rs)
  {D:Nat} (h:∀S,(∀m∈M,m.1 < D/\S m.1 m.2.1=m.2.2)->Run (Loc P G) (fun s'=>((∃r',(resV s' rs=some r'\/resT s' rs=some r')/\(r'=r\/r'.strip=r))\/resA s' rs=some r)/\∀d i,d≠D->s'.S d i=upds S dl d i) [.c ac] (St.start fn.ntmps args D S)):
  Loc P G D f args M r dl:=by
 refine .inl ⟨hm.ne hf,?_⟩;refine ⟨⟨fn,hf,by rw[hb];rfl,hn⟩,fun prot w0 E0 E w S vs hok hM=> ?_⟩;intro cs
 let b:Frame:={(default:Frame) with fn:=f,kind:= .normal}
 let a:Act:={tmps:=vs++yHJ (fn.ntmps - vs.size) undef,defers:=[]}
 have henter:Frame.enter P f vs .normal=b.atR a [.code code]:=by
  simp[Frame.enter,Frame.atR,hf,hb,b,a];try rfl
 obtain ⟨wy,todo,a',w',E1,s',⟨q0,qe⟩,q3',q4,q5,q6,q7⟩:=(oB (L:=L) (kc0:=[]) hm (h S hM)).1 _ (.c hc .nil) b (by simp[b]) cs a w E (lY fn.ntmps hok);have hbn:b.roundOf=none:=rfl;obtain ⟨⟨q1,q2⟩,q3⟩:(((∃r',(resV s' rs=some r'\/resT s' rs=some r')/\(r'=r\/r'.strip=r))\/resA s' rs=some r)/\∀d i,d≠D->s'.S d i=upds S dl d i)/\Steps P (lone (b.atR a [.code code]) cs w) (lone {b.atR a' todo with mode:= .returning} cs w'):=by
  cases qe with
  | fall=>exact ⟨q0,q3'.trans (.one (stepR_end hbn))⟩
  | ret k=>exact ⟨q0,q3'.trans (.one (stepR_ret hbn))⟩
  | exit _=>exact q0.elim
  | stop _ _=>exact q0.elim
 obtain ⟨v,E2,p1,p2,p3,p4,s1,p5,p6,p7,p8,p9⟩:∃v E',(results fn a'.tmps).run P w'= .ok v w'/\E1.le E'/\E'.loc=E1.loc/\RelI E'.imm r v/\
   ∃s1,Ok G prot w0 E0 E' w' s1 a'.tmps/\s1.ts=s'.ts/\s1.D=s'.D/\(∀d i,d≠s'.D->s1.look d i=s'.look d i)/\
   (∀z n ad cap,Tipped r v z n ad cap->∃l:Lc,Hold E' w' s1 a'.tmps l ad z n cap/\∀d i j,l= .o d i j->d=s'.D):=by
  rcases q1 with ⟨r',q1,qr⟩ | q1
  ·obtain ⟨v,E2,p1,p2,p3,p4,s1,p5,p6,p7,p8,p9⟩:=zFQ q5 hrs q1;refine ⟨v,E2,p1,p2,p3,?_,s1,p5,p6,p7,p8,?_⟩
   ·rcases qr with rfl | rfl
    ·exact p4
    ·exact p4.strip
   ·rcases qr with rfl | rfl
    ·intro z n ad cap ht;obtain ⟨t,k⟩:=p9 z n ad cap ht;exact ⟨.t t,k,fun d i j e=>(by cases e)⟩
    ·exact fun z n ad cap ht=>(ht.dull (AV.dull_strip _)).elim
  ·obtain ⟨v,p1,p2,p3⟩:=zFR q5 hrs q1;refine ⟨v,E1,p1,GE.le_refl _,rfl,p2,s',q5,rfl,rfl,fun _ _ _=>rfl,fun z n ad cap ht=> ?_⟩;obtain ⟨i,j,k⟩:=p3 z n ad cap ht;exact ⟨.o s'.D i j,k,fun d i j e=>by injection e with e1 e2 e3;exact e1.symm⟩
 rw[<-henter] at q3;have hsD:s'.D=D:=q7;refine ⟨.returned v,w',_,⟨v,E.cut E2 D,rfl,fun _ _ _ hx=>p2.1 _ _ _ (q4.1.1 _ _ _ hx),GE.leC_cut (GE.le_trans q4.1 p2),fun d i g B hb=>(GE.le_trans q4.1 p2).3 d i g B hb,?_⟩,q3,rfl,rfl,?_,rfl,fn,hf,p1⟩
 ·refine zIT hok (GE.le_trans q4.1 p2) p5 (by rw[p7,hsD]) (fun d i hd=> ?_) (.imm _ _ p4) (by rw[hsD] at p9;exact p9)
  ·rw[p8 d i (by rw[hsD];exact hd),St.look,if_neg (by rw[hsD];exact hd)];exact q2 d i hd
 ·exact q6
theorem tF (hm:PGood P) {f:FuncId} {fn:Func} {code:Code} {ac:AC} {rs:List RV} {args:List AV} {M dl:List (Nat×Nat×Ent)} {r:AV}
  (hf : P.funcs[f]? = some fn) (hb : fn.body = some code) (hn : (fn.name == "runtime.NumGoroutine") = false) (hc : comp P G L code = some ac) (hrs : xX P fn.results.toList = some rs)
  {D:Nat} (h:∀S,(∀m∈M,m.1 < D/\S m.1 m.2.1=m.2.2)->Run (Loc P G) (fun s'=>resV s' rs=some r/\∀d i,d≠D->s'.S d i=upds S dl d i) [.c ac] (St.start fn.ntmps args D S)):
  Loc P G D f args M r dl:=
 oV hm hf hb hn hc hrs fun S hS=>(h S hS).imp fun _ q=>⟨.inl ⟨r,.inl q.1,.inl rfl⟩,q.2⟩
end
end Go.Ab
/- Runs of closed calls,computed. -/
namespace Go.Ab
open Go
structure FnC where
 n:Nat
 ac:AC
 rs:List RV
 /-- whether appends begin an object of the frame -/
 own:Bool
 deriving Inhabited
abbrev sP:=List (Nat×Nat)
def Ob.live:Ob->Bool
 | .dead=>false
 | _=>true
def lN (a b:Eff):Bool:=
 (a.ups.all fun u=>b.ups.all fun v=> !(u.1==v.1&&u.2.1==v.2.1))&&(a.ups.all fun u=>b.rd.all fun p=> !(u.1==p.1&&u.2.1==p.2))&&
 (b.ups.all fun u=>a.rd.all fun p=> !(u.1==p.1&&u.2.1==p.2))&&(a.dem.all fun t=>b.dem.all fun t'=> !(t==t'))
def iQ (s:St):Nat->sP->List AV->sP
 | 0,acc,_=>acc
 | n+1,acc,vs=>vs.foldl (fun acc v=>match v with
   | .ptr d i .. | .own d i .. | .ch d i _ | .mp d i _ | .yl d i _=>if acc.contains (d,i) then acc else
     match (s.look d i).2 with
     | .cells cs=>iQ s n ((d,i)::acc) cs
     | _=>(d,i)::acc
   | .agg cs | .tup cs | .fn _ cs=>iQ s n acc cs
   | .ifc _ v=>iQ s n acc [v]
   | _=>acc) acc
def zAG (M:List (Nat×Nat×Ent)):Nat->Nat->Ent:=fun d i=>match M.find? (fun m=>m.1==d&&m.2.1==i) with
 | some m=>m.2.2
 | none=>(0,.dead)
def oP (s:St) (l:sP):Bool:=l.all fun p=>p.1==s.D || (s.look p.1 p.2).2.live
def evB (own:Bool) (s:St) (dst:Option Nat) (op:AOp):Option Eff:=
 match if own then (match opfO s dst op with | some e=>some e | none=>opf s dst op) else (match opf s dst op with | some e=>some e | none=>opfO s dst op) with
 | some e=>if oP s e.sites then some e else none
 | none=>match opfC s op with
  | some e=>if oP s e.sites then some e else none
  | none=>none
section
variable (T:FuncId->Option FnC) (orc:FuncId->List AV->Option AV) (rc:Bool->List AI->St->Option (St×sP))
def evF (s:St) (f:FuncId) (args:List AV):Option Eff:=
 match orc f args with
 | some r=>some {val:=r}
 | none=>match T f with
  | none=>none
  | some c=>
   let M:=((iQ s 30 [] args).filter fun p=>decide (p.1<=s.D)&&(decide (p.1≠s.D) || decide (p.2 < s.os.length))&&(s.look p.1 p.2).2.live).map fun p=>(p.1,p.2,s.look p.1 p.2)
   match rc c.own [.c c.ac] (St.start c.n args (s.D+1) (zAG M)) with
   | none=>none
   | some (s',W)=>match resV s' c.rs with
    | none=>none
    | some r=>if W.all (fun p=>M.any (fun m=>m.1==p.1&&m.2.1==p.2)&&(s'.S p.1 p.2).2.live&&decide (p.1≠s'.D)) then
      some {val:=r,ups:=W.map fun p=>(p.1,p.2,s'.S p.1 p.2),rd:=M.map fun m=>(m.1,m.2.1)} else none
def evO (own:Bool) (s:St) (dst:Option Nat) (op:AOp):Option Eff:=
 match op with
 | .call f args=>if f=yid then none else evF T orc rc s f (args.map fun x=>(s.ev x).strip)
 | .callv x args=>match s.ev x with
  | .fn f cap=>if f=yid then none else evF T orc rc s f ((args.map fun x=>(s.ev x).strip)++cap.map AV.strip)
  | _=>none
 | .callL _ _=>none
 | op=>evB own s dst op
def evL (own:Bool):List AOper->St->Option (List Eff×St)
 | [],s=>some ([],s)
 | o::l,s=>match gate s o.guard with
  | some true=>match evO T orc rc own s o.dst o.op with
   | some e=>match evL own l (s.app o.dst e) with
    | some (es,s')=>some (e::es,s')
    | none=>none
   | none=>none
  | some false=>match evL own l (s.put o.dst ud) with
   | some (es,s')=>some (({}:Eff)::es,s')
   | none=>none
  | none=>none
end
def zFU (D:Nat) (W:sP) (es:List Eff):sP:=es.foldl (fun W e=>e.ups.foldl (fun W u=>if u.1==D || W.contains (u.1,u.2.1) then W else (u.1,u.2.1)::W) W) W
def evR (T:FuncId->Option FnC) (orc:FuncId->List AV->Option AV):Nat->Bool->List AI->St->sP->Option (St×sP)
 | 0,_,_,_,_=>none
 | n+1,own,k,s,W=>match k with
  | []=>some (s,W)
  | .c .ret::_=>some (s,W)
  | .c .skip::k=>evR T orc n own k s W
  | .c (.seq a b)::k=>evR T orc n own (.c a:: .c b::k) s W
  | .c (.cond c a b)::k=>match s.ev c with
   | .bool t=>evR T orc n own (.c (if t then a else b)::k) s W
   | _=>none
  | .c (.block id a)::k=>evR T orc n own (.c a:: .blk id::k) s W
  | .c (.loop a)::k=>evR T orc n own (.c a:: .lp a::k) s W
  | .c (.exit id)::k=>match exitTo id k with
   | some k'=>evR T orc n own k' s W
   | none=>none
  | .blk _::k=>evR T orc n own k s W
  | .lp a::k=>evR T orc n own (.c a:: .lp a::k) s W
  | .c (.region l d)::k=>match evL T orc (fun own k s=>evR T orc n own k s []) own l s with
   | some (es,s')=>match d with
    | none=>evR T orc n own k s' (zFU s.D W es)
    | some ps=>if ps.all (fun p=>lN (es.getD p.1 ({}:Eff)) (es.getD p.2 ({}:Eff))) then evR T orc n own k s' (zFU s.D W es) else none
   | none=>none
  | .c (.rangef ..)::_=>none
  | .c (.either ..)::_=>none
  | .ops _::_=>none
  | .dr .. ::_=>none
structure Sim (s0 s:St):Prop where
 ts:s.ts=s0.ts
 os:s.os=s0.os
 D:s.D=s0.D
 S:∀d i,d≠s0.D->(s0.S d i).2≠ .dead->s.S d i=s0.S d i
theorem Sim.look {s0 s:St} (h:Sim s0 s) {d i} (hl:d=s0.D\/(s0.look d i).2≠ .dead):s.look d i=s0.look d i:=by
 unfold St.look at hl|-;rw[h.D,h.os];split
 ·rfl
 ·rename_i hd;rw[if_neg hd] at hl;exact h.S d i hd (hl.resolve_left hd)
theorem Ob.live_ne {o:Ob} (h:o.live=true):o≠ .dead:=by cases o<;>simp_all[Ob.live]
theorem Sim.agr {s0 s:St} (h:Sim s0 s) {nm tk:List Nat} {l:sP} (hl:oP s0 l=true):Agr nm tk l s0 s:=by
 simp only[oP,yHG,yHQ,beq_iff_eq] at hl;refine ⟨h.D.symm,by rw[h.os],by rw[h.ts],fun t _=>by simp[St.rd,h.ts],fun t _=>by simp[St.rd,h.ts],fun p hp=>(h.look ?_).symm⟩;exact (hl p hp).imp id Ob.live_ne
theorem Sim.ev {s0 s:St} (h:Sim s0 s) (x:Opd):s.ev x=s0.ev x:=by cases x<;>simp[St.ev,St.rd,h.ts]
theorem Sim.put {s0 s:St} (h:Sim s0 s) (dst) (v):Sim (s0.put dst v) (s.put dst v):=by
 cases dst with
 | none=>exact h
 | some d=>exact ⟨by simp[St.put,h.ts],h.os,h.D,h.S⟩
theorem Sim.demT {s0 s:St} (h:Sim s0 s) (t):Sim (s0.demT t) (s.demT t):=⟨by simp[St.demT,h.ts,St.rd],h.os,h.D,h.S⟩
theorem Sim.up {s0 s:St} (h:Sim s0 s) (u):Sim (s0.up u) (s.up u):=by
 by_cases hu:u.1=s0.D
 ·rw[St.up,St.up,if_pos hu,if_pos (hu.trans h.D.symm)];exact ⟨h.ts,by simp[h.os],h.D,h.S⟩
 ·rw[St.up,St.up,if_neg hu,if_neg (fun e=>hu (e.trans h.D))];refine ⟨h.ts,h.os,h.D,fun d i hd hne=> ?_⟩;simp only[updS] at hne|-;split
  ·rfl
  ·rename_i hc;rw[if_neg hc] at hne;exact h.S d i hd hne
theorem Sim.app {s0 s:St} (h:Sim s0 s) (dst) (e:Eff):Sim (s0.app dst e) (s.app dst e):=by
 unfold St.app;refine Sim.put ?_ _ _;have h1:Sim (e.dem.foldl St.demT s0) (e.dem.foldl St.demT s):=by
  generalize e.dem=l
  induction l generalizing s0 s with
  | nil=>exact h
  | cons t l ih=>exact ih (h.demT t)
 generalize e.ups=l;revert h1;generalize e.dem.foldl St.demT s0=a;generalize e.dem.foldl St.demT s=b;intro h1
 induction l generalizing a b with
 | nil=>exact h1
 | cons t l ih=>exact ih _ _ (h1.up t)
theorem pA {a b:Eff} (h:lN a b=true):a.apart b:=by
 simp only[lN,yHE,yHG,yIS,Bool.and_eq_false_iff,beq_eq_false_iff_ne] at h;obtain ⟨⟨⟨h1,h2⟩,h3⟩,h4⟩:=h;refine ⟨fun u hu v hv e=> ?_,fun u hu hm=> ?_,fun u hu hm=> ?_,fun t ht hm=> ?_⟩
 ·injection e with e1 e2;rcases h1 u hu v hv with k | k<;>exact k (by assumption)
 ·rcases h2 u hu _ hm with k | k<;>exact k rfl
 ·rcases h3 u hu _ hm with k | k<;>exact k rfl
 ·exact h4 t ht _ hm rfl
section
variable {P:Program} {G:Nat->Option (List AV)} {L:xA} {T:FuncId->Option FnC} {orc:FuncId->List AV->Option AV}
def TOk (P:Program) (G:Nat->Option (List AV)) (L:xA) (T:FuncId->Option FnC):Prop:=
 ∀ f c,T f = some c → ∃ fn code,P.funcs[f]? = some fn ∧ fn.body = some code ∧ (fn.name == "runtime.NumGoroutine") = false ∧ comp P G L code = some c.ac ∧ xX P fn.results.toList = some c.rs ∧ fn.ntmps = c.n
def OOk (P:Program) (G:Nat->Option (List AV)) (orc:FuncId->List AV->Option AV):Prop:=∀f args r,orc f args=some r->∀D,Loc P G D f args [] r []
theorem zAV {s0 s:St} (h:Sim s0 s) {r:RV} {v} (hv:pC s0 r=some v):pC s r=some v:=by
 have hrd:∀t,s.rd t=s0.rd t:=fun t=>by simp[St.rd,h.ts]
 cases r with
 | tmp t=>simp only[pC,hrd] at hv|-;exact hv
 | cell a ag n=>
  simp only[pC,hrd] at hv|-;split at hv
  ·rename_i d i g off he;split at hv
   ·rename_i g' cs hlk;rw[h.look (.inr (by rw[hlk];simp)),hlk];exact hv
   ·cases hv
  ·cases hv
theorem iK {s0 s:St} (h:Sim s0 s):∀{rs:List RV} {vs},uF s0 rs=some vs->uF s rs=some vs
 | [],vs,hv=>hv
 | r::rs,vs,hv=>by
  simp only[uF] at hv|-;split at hv
  ·rename_i v m h1 h2;rw[zAV h h1,iK h h2];exact hv
  ·cases hv
theorem zFP {s0 s:St} (h:Sim s0 s) {rs:List RV} {r} (hr:resV s0 rs=some r):resV s rs=some r:=by
 unfold resV at hr|-;split at hr
 ·rename_i vs hvs;rw[iK h hvs];split at hr
  ·rename_i vs' l hf;simp only;rw[jM h.D.symm hf (fun p hp=>(h.look (.inl (qG hf p hp))).symm)];exact hr
  ·cases hr
 ·cases hr
def RcOk (P:Program) (G:Nat->Option (List AV)) (rc:Bool->List AI->St->Option (St×sP)):Prop:=
 ∀own k s0 s0' W,rc own k s0=some (s0',W)->∀s,Sim s0 s->
  Run (Loc P G) (fun s'=>Sim s0' s'/\s'.D=s.D/\∀d i,d≠s.D->(d,i)∉W->s'.S d i=s.S d i) k s
theorem upds_mem (S:Nat->Nat->Ent) (F:Nat->Nat->Ent):∀(W:sP) (d i:Nat),((d,i)∈W->upds S (W.map fun p=>(p.1,p.2,F p.1 p.2)) d i=F d i)/\((d,i)∉W->upds S (W.map fun p=>(p.1,p.2,F p.1 p.2)) d i=S d i):=by
 have key:∀(W:sP) (S:Nat->Nat->Ent) (d i:Nat),upds S (W.map fun p=>(p.1,p.2,F p.1 p.2)) d i=if (d,i)∈W then F d i else S d i:=by
  intro W
  induction W with
  | nil=>intro S d i;simp[upds]
  | cons p W ih=>
   intro S d i;have:upds S ((p::W).map fun p=>(p.1,p.2,F p.1 p.2))=upds (updS S p.1 p.2 (F p.1 p.2)) (W.map fun p=>(p.1,p.2,F p.1 p.2)):=rfl;rw[this,ih];by_cases hW:(d,i)∈W
   ·rw[if_pos hW,if_pos (yJD _ hW)]
   ·rw[if_neg hW];unfold updS;by_cases hp:d=p.1/\i=p.2
    ·rw[if_pos hp,if_pos (by obtain ⟨e1,e2⟩:=hp;simp[e1,e2]),hp.1,hp.2]
    ·rw[if_neg hp,if_neg (by
      intro hm;rcases yHA.1 hm with e | e
      ·exact hp ⟨by rw[<-e],by rw[<-e]⟩
      ·exact hW e)]
 intro W d i;rw[key];exact ⟨fun h=>if_pos h,fun h=>if_neg h⟩
theorem nG (hm:PGood P) (hT:TOk P G L T) (hO:OOk P G orc) {rc} (hrc:RcOk P G rc) {s0 s:St} (hs:Sim s0 s) {f args e} (h:evF T orc rc s0 f args=some e):
  ∃M,Loc P G (s.D+1) f args M e.val e.ups/\(∀m∈M,m.1<=s.D/\(m.1=s.D->m.2.1 < s.os.length)/\s.look m.1 m.2.1=m.2.2)/\
   (∀u∈e.ups,(u.1,u.2.1)∈M.map (fun m=>(m.1,m.2.1))/\u.2.2.2≠ .dead)/\e={val:=e.val,ups:=e.ups,rd:=M.map fun m=>(m.1,m.2.1)}:=by
 unfold evF at h;split at h
 ·rename_i r hr;injection h with h;subst h;exact ⟨[],hO f args r hr _,by simp,by simp,rfl⟩
 ·split at h
  ·cases h
  ·rename_i c hc;obtain ⟨fn,code,t1,t2,t3,t4,t5,t6⟩:=hT f c hc;simp only at h;generalize hM:(((iQ s0 30 [] args).filter fun p=>decide (p.1<=s0.D)&&(decide (p.1≠s0.D) || decide (p.2 < s0.os.length))&&(s0.look p.1 p.2).2.live).map fun p=>(p.1,p.2,s0.look p.1 p.2))=M at h;have hMm:∀m∈M,m.1<=s.D/\(m.1=s.D->m.2.1 < s.os.length)/\s.look m.1 m.2.1=m.2.2:=by
    intro m hm;rw[<-hM] at hm;obtain ⟨p,hp,rfl⟩:=yGT.1 hm;have:=(yHI.1 hp).2;simp only[yHE,yHQ,decide_eq_true_eq] at this;obtain ⟨⟨k1,k2⟩,k3⟩:=this;refine ⟨by rw[hs.D];exact k1,fun e=> ?_,hs.look (.inr (Ob.live_ne k3))⟩;rw[hs.os];exact k2.resolve_left (fun hne=>hne (e.trans hs.D))
   split at h
   ·cases h
   ·rename_i s' W hrun;split at h
    ·cases h
    ·rename_i r hr;split at h
     ·rename_i hW;injection h with h;subst h;simp only[yHG,yHE,List.any_eq_true,beq_iff_eq,decide_eq_true_eq] at hW;refine ⟨M,?_,hMm,?_,rfl⟩
      ·refine tF (L:=L) hm t1 t2 t3 t4 t5 fun S hS=> ?_;have hsim:Sim (St.start c.n args (s0.D+1) (zAG M)) (St.start fn.ntmps args (s.D+1) S):=by
        refine ⟨by simp[St.start,t6],by simp[St.start,t6],by simp[St.start,hs.D],fun d i _ hne=> ?_⟩;simp only[St.start,zAG] at hne|-;split at hne
        ·rename_i m hf;have hmem:=List.mem_of_find?_eq_some hf;have hp:=List.find?_some hf;simp only[yHE,beq_iff_eq] at hp;rw[<-hp.1,<-hp.2];exact (hS m hmem).2
        ·exact absurd rfl hne
       refine Run.imp ?_ (hrc _ _ _ _ _ hrun _ hsim)
       ·rintro t ⟨q1,q2,q3⟩;refine ⟨zFP q1 hr,fun d i hd=> ?_⟩;obtain ⟨u1,u2⟩:=upds_mem S s'.S W d i;by_cases hW':(d,i)∈W
        ·rw[u1 hW'];obtain ⟨⟨_,k2⟩,k3⟩:=hW _ hW';exact q1.S d i k3 (Ob.live_ne k2)
        ·rw[u2 hW'];exact q3 d i hd hW'
      ·intro u hu;obtain ⟨p,hp,rfl⟩:=yGT.1 hu;obtain ⟨⟨⟨m,hm,k1,k2⟩,k3⟩,_⟩:=hW p hp;exact ⟨yGT.2 ⟨m,hm,by rw[k1,k2]⟩,Ob.live_ne k3⟩
     ·cases h
theorem zCG {C:zL} {s0 s:St} (hs:Sim s0 s) {own dst op e} (h:evB own s0 dst op=some e):OpE C s dst op e:=by
 have key:∀{e},(opf s0 dst op=some e\/opfO s0 dst op=some e)->oP s0 e.sites=true->OpE C s dst op e:=by
  rintro e (h1 | h1) h2
  ·exact .op (fY h1 (hs.agr h2))
  ·exact .own (dZ h1 (hs.agr h2))
 unfold evB at h;split at h
 ·rename_i e' he;split at h
  ·rename_i hk;injection h with h;subst h;refine key ?_ hk;cases own
   ·simp only[yHK,if_false] at he;split at he
    ·rename_i e2 h2;injection he with he;subst he;exact .inl h2
    ·exact .inr he
   ·simp only[if_true] at he;split at he
    ·rename_i e2 h2;injection he with he;subst he;exact .inr h2
    ·exact .inl he
  ·cases h
 ·split at h
  ·rename_i e' he;split at h
   ·rename_i hk;injection h with h;subst h;exact .comm (d6 he (hs.agr hk))
   ·cases h
  ·cases h
theorem zCE (hm:PGood P) (hT:TOk P G L T) (hO:OOk P G orc) {rc} (hrc:RcOk P G rc) {s0 s:St} (hs:Sim s0 s) {own dst op e} (h:evO T orc rc own s0 dst op=some e):OpE (Loc P G) s dst op e:=by
 have hev:∀x,s.ev x=s0.ev x:=fun x=>hs.ev x;unfold evO at h;split at h
 ·rename_i f args;split at h
  ·cases h
  rename_i hf;obtain ⟨M,h1,h2,h3,h4⟩:=nG hm hT hO hrc hs h;rw[h4];refine .call hf ?_ h2 h3;simp only[hev];exact h1
 ·rename_i x args;split at h
  ·rename_i f cap hx;split at h
   ·cases h
   rename_i hf;obtain ⟨M,h1,h2,h3,h4⟩:=nG hm hT hO hrc hs h;rw[h4];refine .callv hf (by rw[hev];exact hx) ?_ h2 h3;simp only[hev];exact h1
  ·cases h
 ·cases h
 ·exact zCG hs h
theorem cO {s0 s:St} (hs:Sim s0 s) (g):gate s g=gate s0 g:=by
 unfold gate;have:∀t,s.rd t=s0.rd t:=fun t=>by simp[St.rd,hs.ts]
 split
 ·rfl
 ·rw[this]
theorem nF (hm:PGood P) (hT:TOk P G L T) (hO:OOk P G orc) {rc} (hrc:RcOk P G rc) {own}:∀{l:List AOper} {s0 s0' s:St} {es},Sim s0 s->evL T orc rc own l s0=some (es,s0')->∃s',OpsE (Loc P G) l s es s'/\Sim s0' s'
 | [],s0,s0',s,es,hs,h=>by simp[evL] at h;obtain ⟨rfl,rfl⟩:=h;exact ⟨s,.nil,hs⟩
 | o::l,s0,s0',s,es,hs,h=>by
  simp only[evL] at h;split at h
  ·rename_i hg;split at h
   ·rename_i e he;split at h
    ·rename_i es' s2 hl;injection h with h;injection h with h1 h2;subst h1;subst h2;obtain ⟨s',q1,q2⟩:=nF hm hT hO hrc (hs.app o.dst e) hl;exact ⟨s',.on (by rw[cO hs];exact hg) (zCE hm hT hO hrc hs he) q1,q2⟩
    ·cases h
   ·cases h
  ·rename_i hg;split at h
   ·rename_i es' s2 hl;injection h with h;injection h with h1 h2;subst h1;subst h2;obtain ⟨s',q1,q2⟩:=nF hm hT hO hrc (hs.put o.dst ud) hl;exact ⟨s',.off (by rw[cO hs];exact hg) q1,q2⟩
   ·cases h
  ·cases h
theorem zKV {C:zL} {Q:St->Prop} {k:List AI} {l:List AOper} {s es s'} (h:OpsE C l s es s') (hk:Run C Q k s'):Run C Q (.ops l::k) s:=by
 induction h with
 | nil=>exact .opsNil hk
 | on h1 h2 _ ih=>exact .opsOn h1 h2 (ih hk)
 | off h1 _ ih=>exact .opsOff h1 (ih hk)
theorem zTJ {C:zL} {Q:St->Prop} {k:List AI} {ps} {l:List AOper} {s es s'} (h:OpsE C l s es s') (hk:Run C Q k s'):∀es0:List Eff,(∀p∈ps,((es0++es).getD p.1 ({}:Eff)).apart ((es0++es).getD p.2 ({}:Eff)))->Run C Q (.dr ps l es0::k) s:=by
 induction h with
 | nil=>intro es0 h;exact .drNil (by simpa using h) hk
 | on h1 h2 _ ih=>intro es0 h;exact .drOn h1 h2 (ih hk _ (by simpa using h))
 | off h1 _ ih=>intro es0 h;exact .drOff h1 (ih hk _ (by simpa using h))
theorem zRD:∀(l:List (Nat×Nat×Ent)) (s:St) (d i:Nat),(∀u∈l,u.1≠s.D->(u.1,u.2.1)≠(d,i))->d≠s.D->(l.foldl St.up s).S d i=s.S d i
 | [],s,d,i,_,_=>rfl
 | u::l,s,d,i,h,hd=>by
  rw[yGY,zRD l (s.up u) d i (fun v hv=>by rw[St.up_D];exact h v (by simp[hv])) (by simpa using hd)];unfold St.up;split
  ·rfl
  ·rename_i hu;simp only[updS];rw[if_neg];rintro ⟨e1,e2⟩;exact h u (by simp) hu (by rw[e1,e2])
theorem zXB (s:St) (dst) (e:Eff) (d i:Nat) (h:∀u∈e.ups,u.1≠s.D->(u.1,u.2.1)≠(d,i)) (hd:d≠s.D):(s.app dst e).S d i=s.S d i:=by
 unfold St.app;have hdem:∀l:List Nat,(l.foldl St.demT s).S=s.S/\(l.foldl St.demT s).D=s.D:=by
  intro l;rw[nL];exact ⟨rfl,rfl⟩
 rw[St.put_S,zRD _ _ d i (by rw[(hdem _).2];exact h) (by rw[(hdem _).2];exact hd),(hdem _).1]
theorem yCT {C:zL} {l s es s'} (h:OpsE C l s es s'):∀d i,d≠s.D->(∀e∈es,∀u∈e.ups,u.1≠s.D->(u.1,u.2.1)≠(d,i))->s'.S d i=s.S d i:=by
 induction h with
 | nil=>intro d i _ _;rfl
 | on h1 h2 _ ih=>
  intro d i hd hu;rw[ih d i (by rw[vB];exact hd) (fun e he=>by rw[vB];exact hu e (by simp[he]))];exact zXB _ _ _ d i (hu _ (by simp)) hd
 | off h1 _ ih=>
  intro d i hd hu;rw[ih d i (by rw[vB];exact hd) (fun e he=>by rw[vB];exact hu e (by simp[he]))];exact zXB _ _ _ d i (hu _ (by simp)) hd
theorem zBG (D:Nat):∀(es:List Eff) (W:sP) (p:Nat×Nat),p∉zFU D W es->p∉W/\∀e∈es,∀u∈e.ups,u.1≠D->(u.1,u.2.1)≠p:=by
 have one:∀(l:List (Nat×Nat×Ent)) (W:sP) (p:Nat×Nat),p∉l.foldl (fun W u=>if u.1==D || W.contains (u.1,u.2.1) then W else (u.1,u.2.1)::W) W->p∉W/\∀u∈l,u.1≠D->(u.1,u.2.1)≠p:=by
  intro l
  induction l with
  | nil=>intro W p h;exact ⟨h,by simp⟩
  | cons u l ih=>
   intro W p h;obtain ⟨h1,h2⟩:=ih _ p h;simp only at h1;split at h1
   ·rename_i hc;simp only[yHQ,beq_iff_eq,List.contains_iff_mem] at hc;refine ⟨h1,fun v hv hD=> ?_⟩;rcases yHA.1 hv with rfl | hv
    ·rcases hc with hc | hc
     ·exact absurd hc hD
     ·intro e;exact h1 (e▸hc)
    ·exact h2 v hv hD
   ·refine ⟨fun hm=>h1 (yJD _ hm),fun v hv hD=> ?_⟩;rcases yHA.1 hv with rfl | hv
    ·intro e;exact h1 (by rw[<-e];simp)
    ·exact h2 v hv hD
 intro es
 induction es with
 | nil=>intro W p h;exact ⟨h,by simp⟩
 | cons e es ih=>
  intro W p h;obtain ⟨h1,h2⟩:=ih _ p h;obtain ⟨h3,h4⟩:=one _ _ _ h1;refine ⟨h3,fun e' he'=> ?_⟩;rcases yHA.1 he' with rfl | he'
  ·exact h4
  ·exact h2 e' he'
theorem gE (hm:PGood P) (hT:TOk P G L T) (hO:OOk P G orc):∀(n:Nat) (own:Bool) (k:List AI) (s0 s0':St) (W W':sP),evR T orc n own k s0 W=some (s0',W')->∀s,Sim s0 s->
  Run (Loc P G) (fun s'=>Sim s0' s'/\s'.D=s.D/\∀d i,d≠s.D->(d,i)∉W'->((d,i)∉W/\s'.S d i=s.S d i)) k s
 | 0,own,k,s0,s0',W,W',h,_,_=>by simp[evR] at h
 | n+1,own,k,s0,s0',W,W',h,s,hs=>by
  have ih:=gE hm hT hO n;have hrc:RcOk P G (fun own k s=>evR T orc n own k s []):=by
   intro own k t0 t0' V hv t ht;exact (ih own k t0 t0' [] V hv t ht).imp fun u ⟨q1,q2,q3⟩=>⟨q1,q2,fun d i hd hi=>(q3 d i hd hi).2⟩
  unfold evR at h;split at h
  ·injection h with h;injection h with h1 h2;subst h1;subst h2;exact .done ⟨hs,rfl,fun d i _ hW=>⟨hW,rfl⟩⟩
  ·injection h with h;injection h with h1 h2;subst h1;subst h2;exact .ret ⟨hs,rfl,fun d i _ hW=>⟨hW,rfl⟩⟩
  ·exact .skip (ih _ _ _ _ _ _ h s hs)
  ·exact .seq (ih _ _ _ _ _ _ h s hs)
  ·split at h
   ·rename_i c a b k t hc;exact .cond (by rw[hs.ev];exact hc) (ih _ _ _ _ _ _ h s hs)
   ·cases h
  ·exact .block (ih _ _ _ _ _ _ h s hs)
  ·exact .loop (ih _ _ _ _ _ _ h s hs)
  ·split at h
   ·rename_i he;exact .exit he (ih _ _ _ _ _ _ h s hs)
   ·cases h
  ·exact .blk (ih _ _ _ _ _ _ h s hs)
  ·exact .lp (ih _ _ _ _ _ _ h s hs)
  ·rename_i l d k;split at h
   ·rename_i es s1 hl;obtain ⟨s',q1,q2⟩:=nF hm hT hO hrc hs hl;have cont:evR T orc n own k s1 (zFU s0.D W es)=some (s0',W')->Run (Loc P G) (fun s'=>Sim s0' s'/\s'.D=s.D/\∀d i,d≠s.D->(d,i)∉W'->((d,i)∉W/\s'.S d i=s.S d i)) k s':=by
     intro h;refine (ih _ _ _ _ _ _ h s' q2).imp ?_;rintro u ⟨u1,u2,u3⟩;have hD:=zBJ q1;refine ⟨u1,u2.trans hD,fun d i hd hW=> ?_⟩;obtain ⟨k1,k2⟩:=u3 d i (by rw[hD];exact hd) hW;obtain ⟨k3,k4⟩:=zBG _ es W (d,i) k1;refine ⟨k3,k2.trans (yCT q1 d i hd ?_)⟩;rw[hs.D];exact k4
    split at h
    ·exact .region (zKV q1 (cont h))
    ·rename_i ps;split at h
     ·rename_i hap;refine .draw (zTJ q1 (cont h) [] fun p hp=> ?_);rw[yHG] at hap;exact pA (hap p hp)
     ·cases h
   ·cases h
  ·cases h
  ·cases h
  ·cases h
  ·cases h
theorem zIR (hm:PGood P) (hT:TOk P G L T) (hO:OOk P G orc) {n D:Nat} {f:FuncId} {args:List AV} {r:AV}
  (h:(evF T orc (fun own k s=>evR T orc n own k s []) ⟨[],[],D,fun _ _=>(0,.dead)⟩ f args).map (fun e=>(e.val,e.ups.isEmpty,e.rd.isEmpty))=some (r,true,true)):Loc P G (D+1) f args [] r []:=by
 rw[yGX] at h;obtain ⟨e,he,h⟩:=h;injection h with h1 h;injection h with h2 h3;have hrc:RcOk P G (fun own k s=>evR T orc n own k s []):=by
  intro own k t0 t0' V hv t ht;exact (gE hm hT hO n own k t0 t0' [] V hv t ht).imp fun u ⟨q1,q2,q3⟩=>⟨q1,q2,fun d i hd hi=>(q3 d i hd hi).2⟩
 obtain ⟨M,k1,k2,k3,k4⟩:=nG hm hT hO hrc (s:=⟨[],[],D,fun _ _=>(0,.dead)⟩) ⟨rfl,rfl,rfl,fun _ _ _ _=>rfl⟩ he;have hM:M= []:=by
  rw[k4] at h3;simpa using h3
 subst hM;rw[List.isEmpty_iff] at h2;rw[h2,h1] at k1;exact k1
end
end Go.Ab
