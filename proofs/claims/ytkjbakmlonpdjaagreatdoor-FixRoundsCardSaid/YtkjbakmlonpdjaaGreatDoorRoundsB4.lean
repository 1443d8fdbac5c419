/- The readable data of a row's arguments as abstract values. -/
import Derived.Test.YtkjbakmlonpdjaaGreatDoorRoundsB3
import Derived.ProofKit
import Derived.OpenShut
open Array renaming all_eq_true_iff_forall_mem->yOZ
open Bool renaming and_eq_true->yOC, false_eq_true->yOF
open List renaming all_eq_true->yOB, getElem?_eq_getElem->yOD, getElem?_eq_none->yOE, range->yOG, mapM_cons->yOH, getElem?_map->yOI, getElem?_range->yOJ, contains_iff_mem->yOK, drop_zero->yOL, take_of_length_le->yOM, mem_map->yON, map_cons->yOO, drop_drop->yOQ, take_append_drop->yOR, getElem?_eq_some_iff->yOT, ext_getElem?->yOV, getD_eq_getElem?_getD->yOX, map_map->yOY, eq_nil_of_length_eq_zero->yPA, getElem?_of_mem->yPB, flatten_cons->yPE, map_congr_left->yPF, getElem?_replicate->yPG
open Nat renaming le_of_ble_eq_true->yOP, le_of_not_lt->yOW
open Option renaming bind_eq_some_iff->yOS, map_eq_some_iff->yOU, bind_eq_bind->yPC, pure_def->yPD
set_option linter.unusedVariables false
set_option linter.unusedSimpArgs false
namespace Go.Ab
open Go
def wK (P:Program):Nat->List Field->Nat->Bool
 | o,[],n=>o==n
 | o,f::fs,n=>f.offset==o&&wK P (o+P.cellsOf f.type) fs n
def wL (P:Program) (l:List TypeId):Bool:=l.all fun t=>match P.underlying t with
 | some .bool | some (.int _) | some .string=>P.cellsOf t==1
 | some (.slice e)=>P.cellsOf t==1&&l.contains e&&decide (0 < P.cellsOf e)
 | some (.struct fs)=>wK P 0 fs.toList (P.cellsOf t)&&fs.all fun f=>l.contains f.type
 | _=>false
def tO (P:Program) (t:TypeId):Bool:=match P.underlying t with
 | some d=>aggD d
 | none=>false
def mkV (P:Program) (t:TypeId) (cs:List AV):AV:=if tO P t then .agg cs else cs.headD ud
def tyOk (P:Program):Nat->TypeId->List AV->Prop
 | 0,_,_=>False
 | n+1,t,cs=>match P.underlying t with
  | some .bool=>∃b,cs= [.bool b]
  | some (.int k)=>∃i,cs= [.int k i]/\(Lit.int k i).wf=true
  | some .string=>∃s,cs= [.str s]/\s.size<=maxLen
  | some (.slice e)=>∃xs,cs= [.sl (P.cellsOf e) xs .no]/\xs.length<=maxLen/\∀x∈xs,∃c,x=mkV P e c/\tyOk P n e c
  | some (.struct fs)=>cs.length=P.cellsOf t/\∀f∈fs.toList,tyOk P n f.type ((cs.drop f.offset).take (P.cellsOf f.type))
  | _=>False
def allRel (w:World) (cs:List AV) (vs:List Value):Prop:=cs.length=vs.length/\∀(i:Nat) c v,cs[i]?=some c->vs[i]?=some v->RelI (vL w) c v/\v.oneCell'=true/\c.one=true/\c.dull1
theorem allRel.app {w:World} {a b:List AV} {x y:List Value} (h1:allRel w a x) (h2:allRel w b y):allRel w (a++b) (x++y):=by
 refine ⟨by simp[h1.1,h2.1],fun i c v hc hv=> ?_⟩;rw[List.getElem?_append] at hc hv;rw[h1.1] at hc;split at hc
 ·rename_i hi;rw[yRO hi] at hv;exact h1.2 i c v hc hv
 ·rename_i hi;rw[yRN hi] at hv;exact h2.2 _ c v hc hv
theorem allRel.single {w:World} {c:AV} {v:Value} (h:RelI (vL w) c v) (hv:v.oneCell'=true) (hc:c.one=true) (hd:c.dull1:=by trivial):allRel w [c] [v]:=
 ⟨rfl,fun i c' v' h1 h2=>by cases i with
  | zero=>simp at h1 h2;subst h1;subst h2;exact ⟨h,hv,hc,hd⟩
  | succ i=>simp at h1⟩
section
variable {P:Program} {w:World} {l:List TypeId} {t:TypeId}
theorem aU (hl:wL P l=true) (ht:t∈l) (hu:P.underlying t=some .bool):P.cellsOf t=1:=by
 have:=yOB.1 hl t ht;rw[hu] at this;simpa using this
theorem zFN (hl:wL P l=true) (ht:t∈l) {k} (hu:P.underlying t=some (.int k)):P.cellsOf t=1:=by
 have:=yOB.1 hl t ht;rw[hu] at this;simpa using this
theorem eD (hl:wL P l=true) (ht:t∈l) (hu:P.underlying t=some .string):P.cellsOf t=1:=by
 have:=yOB.1 hl t ht;rw[hu] at this;simpa using this
theorem cL (hl:wL P l=true) (ht:t∈l) {e} (hu:P.underlying t=some (.slice e)):P.cellsOf t=1/\e∈l/\0 < P.cellsOf e:=by
 have:=yOB.1 hl t ht;rw[hu] at this;simp only[yOC,beq_iff_eq,yOK,yRP] at this;exact ⟨this.1.1,this.1.2,this.2⟩
theorem eC (hl:wL P l=true) (ht:t∈l) {fs} (hu:P.underlying t=some (.struct fs)):wK P 0 fs.toList (P.cellsOf t)=true/\∀f∈fs.toList,f.type∈l:=by
 have:=yOB.1 hl t ht;rw[hu] at this;simp only[yOC,yOZ,yOK] at this;exact ⟨this.1,fun f hf=>this.2 f (by simpa using hf)⟩
theorem zEN (hl:wL P l=true) (ht:t∈l) (h:tO P t=false):P.cellsOf t=1:=by
 have:=yOB.1 hl t ht;unfold tO at h;split at this
 ·simpa using this
 ·simpa using this
 ·simpa using this
 ·simp only[yOC,beq_iff_eq] at this;exact this.1.1
 ·rename_i hu;rw[hu] at h;simp[aggD] at h
 ·simp at this
theorem zIR (hl:wL P l=true) (ht:t∈l) {cs:List AV} {vs:List Value} (h:allRel w cs vs) (hlen:cs.length=P.cellsOf t):(mkV P t cs).cells=cs:=by
 unfold mkV;split
 ·rfl
 ·rename_i ha;have h1:=zEN hl ht (by simpa using ha);obtain ⟨c,rfl⟩:∃c,cs= [c]:=by
   cases cs with
   | nil=>simp at hlen;omega
   | cons c r=>cases r with
    | nil=>exact ⟨c,rfl⟩
    | cons _ _=>simp at hlen;omega
  obtain ⟨v,rfl⟩:∃v,vs= [v]:=by
   have:=h.1;cases vs with
   | nil=>simp at this
   | cons c r=>cases r with
    | nil=>exact ⟨c,rfl⟩
    | cons _ _=>simp at this
  have:=(h.2 0 c v rfl rfl).2.2;cases c<;>simp_all[AV.one,AV.cells]
theorem hG {n:Nat} {vs:List Value} {sz:Nat} (hv:vs.length=sz):∀(fs:List Field) (o:Nat),wK P o fs sz=true->o<=sz->
  (∀f∈fs,∃cs,allRel w cs ((vs.drop f.offset).take (P.cellsOf f.type))/\tyOk P n f.type cs/\cs.length=P.cellsOf f.type)->
  ∃cs,allRel w cs (vs.drop o)/\∀f∈fs,o<=f.offset/\tyOk P n f.type ((cs.drop (f.offset - o)).take (P.cellsOf f.type))
 | [],o,h,ho,_=>by
  simp[wK] at h;subst h;refine ⟨[],⟨by simp[hv],by simp⟩,by simp⟩
 | f::fs,o,h,ho,hf=>by
  simp only[wK,yOC,beq_iff_eq] at h;obtain ⟨h1,h2⟩:=h;obtain ⟨c1,r1,t1,l1⟩:=hf f (by simp);rw[h1] at r1;have hlen:o+P.cellsOf f.type<=sz:=by
   have:=r1.1;rw[l1] at this;simp only[List.length_take,List.length_drop,hv] at this;omega
  obtain ⟨c2,r2,t2⟩:=hG hv fs (o+P.cellsOf f.type) h2 hlen (fun g hg=>hf g (by simp[hg]));refine ⟨c1++c2,?_,fun g hg=> ?_⟩
  ·have:=r1.app r2;rwa [show (vs.drop o).take (P.cellsOf f.type)++vs.drop (o+P.cellsOf f.type)=vs.drop o by rw[<-yOQ,yOR]] at this
  ·rcases List.mem_cons.1 hg with rfl | hg
   ·refine ⟨by omega,?_⟩;rw[h1,Nat.sub_self,yOL,List.take_append_of_le_length (by omega),yOM (by omega)];exact t1
   ·obtain ⟨q1,q2⟩:=t2 g hg;refine ⟨by omega,?_⟩;rw[List.drop_append,List.drop_eq_nil_of_le (by omega),List.nil_append,l1,Nat.sub_sub];exact q2
theorem cN {base:Nat} {a:Addr} {n:Nat} {cs:List Value} (h:w.cells? base a n=some cs):cs.length=n/\∀i,i < n->w.cell? (a.add i)=cs[i]?:=by
 obtain ⟨_,hl,hc⟩:=World.cells?_some h;exact ⟨hl,hc⟩
theorem gQ {H:Type} {enc:TypeId×Value->H} {base:Nat} {spare:Nat->Bool} {held:Bool} (hl:wL P l=true):∀(fuel:Nat) (t:TypeId) (vs:List Value) (y:DataW H×List MemPlace),t∈l->
  DataW.trod enc P w base spare held fuel t vs=some y->∃cs,allRel w cs vs/\tyOk P fuel t cs/\cs.length=P.cellsOf t
 | 0,t,vs,y,ht,h=>by simp[DataW.trod] at h
 | n+1,t,vs,y,ht,h=>by
  have hcl:=yOB.1 hl t ht;cases hu:P.underlying t with
  | none=>rw[hu] at hcl;simp at hcl
  | some d=>
  cases d with
  | bool=>
   obtain ⟨b,rfl,_⟩:=DataW.trod_bool hu h;exact ⟨[.bool b],.single (.bool b) rfl rfl,by simp[tyOk,hu],by simp[aU hl ht hu]⟩
  | int k=>
   obtain ⟨m,rfl,_,hw⟩:=DataW.trod_int hu h;exact ⟨[.int k m],.single (.int k m) rfl rfl,by simp[tyOk,hu];simpa using hw,by simp[zFN hl ht hu]⟩
  | string=>
   obtain ⟨m,rfl,_,hw⟩:=DataW.trod_string hu h;exact ⟨[.str m],.single (.str m) rfl rfl,by simp[tyOk,hu];exact hw,by simp[eD hl ht hu]⟩
  | slice e=>
   obtain ⟨h1,he,hpos⟩:=cL hl ht hu;rcases DataW.trod_slice hu h with ⟨rfl,_⟩ | ⟨a,len,cap,elems,rest,n',hn,rfl,_,hb,hlc,hmax,hel,hget,_⟩
   ·exact ⟨[.sl (P.cellsOf e) [] .no],.single (.slE _ _ _ _ (by simp) (by simp)) rfl rfl,by simp[tyOk,hu],by simp[h1]⟩
   ·injection hn with hn;subst hn;have each:∀i,i < len->∃c evs,w.cells? base (a.add (i*P.cellsOf e)) (P.cellsOf e)=some evs/\allRel w c evs/\tyOk P n e c/\c.length=P.cellsOf e:=by
     intro i hi;have:=hget i hi;rw[yOD (by omega)] at this;rw[yOS] at this;obtain ⟨evs,q1,q2⟩:=this;obtain ⟨c,r1,r2,r3⟩:=gQ hl n e evs _ he q2;exact ⟨c,evs,q1,r1,r2,r3⟩
    let f:Nat->List AV:=fun i=>if hi:i < len then Classical.choose (each i hi) else []
    have hf:∀i,i < len->∃evs,w.cells? base (a.add (i*P.cellsOf e)) (P.cellsOf e)=some evs/\allRel w (f i) evs/\tyOk P n e (f i)/\(f i).length=P.cellsOf e:=by
     intro i hi;simp only[f,hi,dif_pos];exact Classical.choose_spec (each i hi)
    let xs:List AV:=(yOG len).map fun i=>mkV P e (f i)
    have hxl:xs.length=len:=by simp[xs]
    have hxm:∀x∈xs,∃i,i < len/\x=mkV P e (f i):=by
     intro x hx;obtain ⟨i,hi,rfl⟩:=yON.1 hx;exact ⟨i,by simpa using hi,rfl⟩
    have hcells:∀i,i < len->(mkV P e (f i)).cells=f i:=by
     intro i hi;obtain ⟨evs,_,r1,_,r3⟩:=hf i hi;exact zIR hl he r1 r3
    have hty:∃xs',[AV.sl (P.cellsOf e) xs .no]= [AV.sl (P.cellsOf e) xs' .no]/\xs'.length<=maxLen/\∀x∈xs',∃c,x=mkV P e c/\tyOk P n e c:=by
     refine ⟨xs,rfl,by omega,fun x hx=> ?_⟩;obtain ⟨i,hi,rfl⟩:=hxm x hx;obtain ⟨_,_,_,r2,_⟩:=hf i hi;exact ⟨f i,rfl,r2⟩
    refine ⟨[.sl (P.cellsOf e) xs .no],.single ?_ rfl rfl,by simp only[tyOk,hu];exact hty,by simp[h1]⟩;by_cases h0:len=0
    ·subst h0;have:xs= []:=yPA hxl;rw[this];exact .slE _ _ _ _ (by simp) (by simp)
    ·have hspot:a.spot=none:=by
      obtain ⟨evs,q1,q2,_,_⟩:=hf 0 (by omega);obtain ⟨e1,e2⟩:=cN q1;have:=e2 0 hpos;rw[yOD (by omega)] at this;simp only[Nat.zero_mul,Addr.add,if_true] at this;unfold World.cell? at this;split at this
      ·split at this
       ·cases this
       ·rename_i hs;simpa using hs
      ·cases this
     obtain ⟨b,o,sp⟩:=a;simp only at hspot;subst hspot;have hz:∀x∈xs,x.cells.length=P.cellsOf e:=by
      intro x hx;obtain ⟨i,hi,rfl⟩:=hxm x hx;rw[hcells i hi];obtain ⟨_,_,_,_,r3⟩:=hf i hi;exact r3
     have hcell:∀i,i < len*P.cellsOf e->∃c v,(yO xs)[i]?=some c/\w.cell? ⟨b,o+i,none⟩=some v/\RelI (vL w) c v/\v.oneCell'=true:=by
      intro i hi;have hq:i / P.cellsOf e < len:=(Nat.div_lt_iff_lt_mul hpos).2 hi;have hr:i % P.cellsOf e < P.cellsOf e:=Nat.mod_lt _ hpos;have hsum:i / P.cellsOf e*P.cellsOf e+i % P.cellsOf e=i:=by rw[Nat.mul_comm];exact Nat.div_add_mod i _
      obtain ⟨evs,q1,q2,q3,q4⟩:=hf _ hq;obtain ⟨e1,e2⟩:=cN q1;have hx:xs[i / P.cellsOf e]?=some (mkV P e (f (i / P.cellsOf e))):=by simp[xs,hq]
      have hfl:=rH hz hx hr;rw[hsum,hcells _ hq] at hfl;have hv:=e2 _ hr;rw[xU,xU,Nat.add_assoc,hsum] at hv;have hc1:(f (i / P.cellsOf e))[i % P.cellsOf e]?=some ((f (i / P.cellsOf e))[i % P.cellsOf e]'(by omega)):=yOD _;have hv1:evs[i % P.cellsOf e]?=some (evs[i % P.cellsOf e]'(by omega)):=yOD _;obtain ⟨k1,k2,k3⟩:=q2.2 _ _ _ hc1 hv1;exact ⟨_,_,hfl.trans hc1,hv.trans hv1,k1,k2⟩
     have hfll:=yB hz;have:=RelI.slN (imm:=vL w) (P.cellsOf e) xs .no b o cap (fun i=>(w.cell? ⟨b,o+i,none⟩).getD undef) (by intro e0;rw[e0] at hxl;simp at hxl;omega) (by omega) (by simp) hz
      (fun i c hc=>by
       have hi:i < len*P.cellsOf e:=by have:=(yOT.1 hc).1;rw[hfll,hxl] at this;exact this
       obtain ⟨c',v,k1,k2,k3,k4⟩:=hcell i hi;rw[k1] at hc;injection hc with hc;subst hc;rw[k2];exact k3)
      (fun i hi=>by
       rw[hfll,hxl] at hi;obtain ⟨c',v,k1,k2,k3,k4⟩:=hcell i hi;simp only[vL,k2,k4,if_true,Option.getD_some])
     rw[hxl] at this;exact this
  | struct fs=>
   obtain ⟨h1,h2⟩:=eC hl ht hu;obtain ⟨xs,n',hn,_,hlen,hxl,hget⟩:=DataW.trod_struct hu h;injection hn with hn;subst hn;obtain ⟨cs,r1,r2⟩:=hG (P:=P) (w:=w) (n:=n) hlen fs.toList 0 h1 (Nat.zero_le _) (fun f hf=>by
    obtain ⟨i,hi⟩:=yPB hf;have hi':fs[i]?=some f:=by simpa using hi
    have hlt:i < fs.size:=(Array.getElem?_eq_some_iff.1 hi').1;have:=hget i f hi';rw[yOD (by omega)] at this;exact gQ hl n f.type _ _ (h2 f hf) this)
   rw[yOL] at r1;refine ⟨cs,r1,?_,r1.1.trans hlen⟩;simp only[tyOk,hu];refine ⟨r1.1.trans hlen,fun f hf=> ?_⟩;have:=(r2 f hf).2;rwa [Nat.sub_zero] at this
  | _=>rw[hu] at hcl;simp at hcl
end
end Go.Ab
/- From a law's contract to the machine's call. -/
namespace Go.Ab
open Go
section
variable {P:Program} {G:Nat->Option (List AV)}
structure Stands (w w':World):Prop where
 heap:∀b,b < w.heap.size->w'.heap[b]?=w.heap[b]?
 size:w.heap.size<=w'.heap.size
 os:w'.os=w.os
 tape:w'.tape=w.tape
 output:w'.output=w.output
theorem zIW {f:FuncId} {args:List AV} {r:Bool} (hL:Loc P G 0 f args [] (.bool r) []) {W:World} {vs:Array Value} (hlen:args.length=vs.size)
  (hrel:∀(i:Nat) b v,args[i]?=some b->vs[i]?=some v->RelI (vL W) b v) (hdull:∀b∈args,b.dull)
  (hglob:∀g cs,G g=some cs->∀(j:Nat) (c:AV),cs[j]?=some c->∃v,vL W g j=some v/\RelI (vL W) c v) (hf:f≠yid:=by decide):
  Calls P f vs W fun e W'=>e= .returned (.bool r)/\Stands W W':=by
 let E:GE:=⟨vL W,fun _ _ _=>none,fun _=>0⟩
 let s:St:=⟨args,[],0,fun _ _=>(0,.dead)⟩
 have hlk:∀d i,(s.look d i).2= .dead:=by
  intro d i;simp only[s,St.look];split<;>simp
 have hnh:∀l ad z n cap,¬Hold E W s vs l ad z n cap:=by
  intro l ad z n cap hh;cases hh with
  | t i a0 v0 ad z n cap h1 h2 h3=>exact h3.dull (hdull _ (zV h1))
  | o d i j g cs z xs B arr el ad cap h1=>have:=hlk d i;rw[h1] at this;cases this
 have hok:Ok G (fun b=>b < W.heap.size) W E E W s vs:=by
  refine ⟨by simp[s,hlen],fun i b v hb hv=> .imm _ _ (hrel i b v hb hv),?_,fun d i g B hb=>by simp[E] at hb,fun d i g B hb=>by simp[E] at hb,fun d i hne=>absurd (hlk d i) hne,
   fun d i d' i' B h1=>absurd (hlk d i) h1.1,fun l ad z n cap hh=>absurd hh (hnh _ _ _ _ _),fun l l' ad ad' z z' n n' cap cap' hh=>absurd hh (hnh _ _ _ _ _),hglob,fun b hb=>⟨hb,rfl⟩,Nat.le_refl _,⟨rfl,rfl,rfl⟩,fun _ _ _=>rfl⟩
  intro b o v hv;simp only[E,vL] at hv;split at hv
  ·rename_i u hu;split at hv
   ·rename_i h1;injection hv with hv;subst hv;unfold World.cell? at hu;split at hu
    ·rename_i c el fz hc;exact ⟨c,el,fz,hc,by simpa using hu,h1⟩
    ·cases hu
   ·cases hv
  ·cases hv
 refine ((hL.fn hf).2 (fun b=>b < W.heap.size) W E E W (fun _ _=>(0,.dead)) vs hok (by simp)).mono ?_;rintro e w' ⟨v,E',rfl,himm,hloc,hroom,ho⟩;have hv:=(ho.rel 0 (.bool r) v rfl rfl).bool_inv;subst hv;exact ⟨rfl,fun b hb=>(ho.frame b hb).2,ho.grow,ho.same.1,ho.same.2.1,ho.same.2.2⟩
end
end Go.Ab
/- Arguments of a row as abstract values; what a law's call leaves,in the kit's words. -/
namespace Go.Ab
open Go Go.RowKit
def Arg (P:Program) (t:TypeId) (a:AV):Prop:=∃fuel cs,tyOk P fuel t cs/\cs.length=P.cellsOf t/\a=mkV P t cs
section
variable {P:Program} {W:World} {l:List TypeId} {t:TypeId}
theorem zKZ {H:Type} {enc:TypeId×Value->H} {base base':Nat} {spare:Nat->Bool} {held:Bool} {r:Reach} (hl:wL P l=true) (ht:t∈l) {v:Value} {d:DataW H} {p:List MemPlace}
  (hok:Value.okWide P W r base' t v) (h:DataW.Trod enc P W base spare held t v d p):∃a,Arg P t a/\RelI (vL W) a v/\a.dull:=by
 obtain ⟨fuel,hf⟩:=h;obtain ⟨cs,h1,h2,h3⟩:=gQ hl fuel t _ _ ht hf;refine ⟨mkV P t cs,⟨fuel,cs,h2,h3,rfl⟩,?_⟩;unfold mkV tO;unfold Value.okWide at hok;have hcl:=yOB.1 hl t ht;cases fuel with
 | zero=>simp[tyOk] at h2
 | succ n=>
 have single:∀{c:AV},cs= [c]->v.cells= #[v]->RelI (vL W) (cs.headD ud) v:=by
  intro c hc hv;subst hc;rw[hv] at h1;exact (h1.2 0 c v rfl rfl).1
 cases hu:P.underlying t with
 | none=>rw[hu] at hcl;simp at hcl
 | some ds=>
 rw[hu] at hok;cases ds with
 | bool=>
  simp only[tyOk,hu] at h2;obtain ⟨b,rfl⟩:=h2;have hv:v.cells= #[v]:=by cases v<;>simp[Cell.okWide,hu,Cell.ok] at hok<;>rfl
  simp only[aggD,yOF,if_false];exact ⟨single rfl hv,trivial⟩
 | int k=>
  simp only[tyOk,hu] at h2;obtain ⟨b,rfl,_⟩:=h2;have hv:v.cells= #[v]:=by cases v<;>simp[Cell.okWide,hu,Cell.ok] at hok<;>rfl
  simp only[aggD,yOF,if_false];exact ⟨single rfl hv,trivial⟩
 | string=>
  simp only[tyOk,hu] at h2;obtain ⟨b,rfl,_⟩:=h2;have hv:v.cells= #[v]:=by cases v<;>simp[Cell.okWide,hu,Cell.ok] at hok<;>rfl
  simp only[aggD,yOF,if_false];exact ⟨single rfl hv,trivial⟩
 | slice e=>
  simp only[tyOk,hu] at h2;obtain ⟨b,rfl,_⟩:=h2;have hv:v.cells= #[v]:=by cases v<;>simp[Cell.okWide,hu,Cell.ok] at hok<;>rfl
  simp only[aggD,yOF,if_false];exact ⟨single rfl hv,trivial⟩
 | struct fs=>
  simp only[aggD,if_true];obtain ⟨arr,rfl,_,_⟩:=hok;refine ⟨?_,fun c hc=>by
   obtain ⟨i,hi⟩:=yPB hc;have hlt:i < (Value.agg arr).cells.toList.length:=by rw[<-h1.1];exact (yOT.1 hi).1
   exact (h1.2 i c _ hi (yOD hlt)).2.2.2⟩
  have:=RelI.agg (imm:=vL W) cs arr.toList h1.1 (fun i c u hc hu=>(h1.2 i c u hc hu).1);simpa using this
 | _=>rw[hu] at hcl;simp at hcl
end
end Go.Ab
/- A laid datum of numbers,structs and arrays determines the cells. -/
namespace Go.Ab
open Go Go.RowKit
def oJ {H:Type}:Nat->DataW H->Option (List Value)
 | 0,_=>none
 | n+1,.lit (.int k i)=>some [.int k i]
 | n+1,.lit (.bool b)=>some [.bool b]
 | n+1,.lit (.string b)=>some [.string ⟨b.toArray⟩]
 | n+1,.agg ds=>(ds.mapM (oJ n)).map List.flatten
 | n+1,_=>none
def aF (P:Program) (l:List TypeId):Bool:=l.all fun t=>match P.underlying t with
 | some .bool | some (.int _) | some .string=>true
 | some (.struct fs)=>wK P 0 fs.toList (P.cellsOf t)&&fs.all fun f=>l.contains f.type
 | some (.array n e)=>l.contains e&&n*P.cellsOf e==P.cellsOf t
 | _=>false
section
variable {P:Program} {w:World} {l:List TypeId} {H:Type} {enc:TypeId×Value->H} {base:Nat} {spare:Nat->Bool} {held:Bool}
theorem iJ {m:Nat} {vs:List Value} {sz:Nat} (hv:vs.length=sz):∀(fs:List Field) (o:Nat) (xs:List (DataW H×List MemPlace)) (uss:List (List Value)),wK P o fs sz=true->xs.length=fs.length->
  xs.mapM (fun x=>oJ m x.1)=some uss->(∀(i:Nat) f x us,fs[i]?=some f->xs[i]?=some x->oJ m x.1=some us->(vs.drop f.offset).take (P.cellsOf f.type)=us)->vs.drop o=uss.flatten
 | [],o,xs,uss,h,hl,hm,_=>by
  simp[wK] at h;subst h;have:xs= []:=yPA (by simpa using hl);subst this;simp at hm;subst hm;simp[hv]
 | f::fs,o,xs,uss,h,hl,hm,hf=>by
  simp only[wK,yOC,beq_iff_eq] at h;obtain ⟨h1,h2⟩:=h;cases xs with
  | nil=>simp at hl
  | cons x xs=>
   rw[yOH] at hm;simp only[yPC,yOS,yPD,Option.some.injEq] at hm;obtain ⟨us,hu,uss',hm',rfl⟩:=hm;have e1:=hf 0 f x us rfl rfl hu;have e2:=iJ hv fs (o+P.cellsOf f.type) xs uss' h2 (by simpa using hl) hm' (fun i g y us hg hy hus=>hf (i+1) g y us (by simpa using hg) (by simpa using hy) hus);rw[h1] at e1;rw[yPE,<-e1,<-e2,<-yOQ,yOR]
theorem zDM {m z:Nat} {vs:List Value}:∀(xs:List (DataW H×List MemPlace)) (i0:Nat) (uss:List (List Value)),vs.length=(i0+xs.length)*z->
  xs.mapM (fun x=>oJ m x.1)=some uss->(∀(i:Nat) x us,xs[i]?=some x->oJ m x.1=some us->(vs.drop ((i0+i)*z)).take z=us)->vs.drop (i0*z)=uss.flatten
 | [],i0,uss,hv,hm,_=>by
  simp at hm;subst hm;simp at hv;simp[hv]
 | x::xs,i0,uss,hv,hm,hf=>by
  rw[yOH] at hm;simp only[yPC,yOS,yPD,Option.some.injEq] at hm;obtain ⟨us,hu,uss',hm',rfl⟩:=hm;have e1:=hf 0 x us rfl hu;have e2:=zDM xs (i0+1) uss' (by rw[hv];congr 1;simp;omega) hm' (fun i y us hy hus=>by
   have:=hf (i+1) y us (by simpa using hy) hus;rwa [show i0+(i+1)=i0+1+i by omega] at this)
  rw[Nat.add_zero] at e1;rw[yPE,<-e1,<-e2,Nat.succ_mul,<-yOQ,yOR]
theorem mD {m:Nat} {xs:List (DataW H×List MemPlace)} {uss:List (List Value)}:((xs.map (·.1)).mapM (oJ m))=some uss->xs.mapM (fun x=>oJ m x.1)=some uss:=by
 intro h;rw[<-h];clear h
 induction xs generalizing uss with
 | nil=>rfl
 | cons x xs ih=>simp only[yOO,yOH,ih (uss:=uss)]
theorem pM (hl:aF P l=true):∀(fuel m:Nat) (t:TypeId) (vs us:List Value) (y:DataW H×List MemPlace),t∈l->
  DataW.trod enc P w base spare held fuel t vs=some y->oJ m y.1=some us->vs=us
 | 0,m,t,vs,us,y,ht,h,hf=>by simp[DataW.trod] at h
 | n+1,0,t,vs,us,y,ht,h,hf=>by simp[oJ] at hf
 | n+1,m+1,t,vs,us,y,ht,h,hf=>by
  have hcl:=yOB.1 hl t ht;cases hu:P.underlying t with
  | none=>rw[hu] at hcl;simp at hcl
  | some d=>
  cases d with
  | bool=>
   obtain ⟨b,rfl,rfl⟩:=DataW.trod_bool hu h;simpa[oJ] using hf
  | int k=>
   obtain ⟨b,rfl,rfl,_⟩:=DataW.trod_int hu h;simpa[oJ] using hf
  | string=>
   obtain ⟨b,rfl,rfl,_⟩:=DataW.trod_string hu h;simpa[oJ] using hf
  | struct fs=>
   rw[hu] at hcl;simp only[yOC,yOZ,yOK] at hcl;obtain ⟨xs,n',hn,rfl,hlen,hxl,hget⟩:=DataW.trod_struct hu h;injection hn with hn;subst hn;simp only[oJ,yOU] at hf;obtain ⟨uss,hm,rfl⟩:=hf;have:=iJ (P:=P) (m:=m) hlen fs.toList 0 xs uss hcl.1 (by simpa using hxl) (mD hm) (fun i f x us hfi hx hus=>by
    have hfi':fs[i]?=some f:=by simpa using hfi
    have h1:=hget i f hfi';rw[hx] at h1;exact pM hl n m f.type _ us x (hcl.2 f (Array.mem_of_getElem? hfi')) h1 hus)
   simpa using this
  | array k e=>
   rw[hu] at hcl;simp only[yOC,yOK,beq_iff_eq] at hcl;obtain ⟨xs,n',hn,rfl,hlen,hxl,hget⟩:=DataW.trod_array hu h;injection hn with hn;subst hn;simp only[oJ,yOU] at hf;obtain ⟨uss,hm,rfl⟩:=hf;have:=zDM (m:=m) (z:=P.cellsOf e) (vs:=vs) xs 0 uss (by rw[hlen,Nat.zero_add,hxl];exact hcl.2.symm) (mD hm) (fun i x us hx hus=>by
    rw[Nat.zero_add];have h1:=hget i (by rw[<-hxl];exact (yOT.1 hx).1);rw[hx] at h1;exact pM hl n m e _ us x hcl.1 h1 hus)
   simpa using this
  | _=>rw[hu] at hcl;simp at hcl
end
end Go.Ab
/- Symbolic runs: straight code is computed up to the next round of a loop. -/
namespace Go.Ab
open Go
def evS (T:FuncId->Option FnC) (orc:FuncId->List AV->Option AV) (rc:Bool->List AI->St->Option (St×zFS)):Nat->Bool->List AI->St->Option (List AI×St)
 | 0,_,k,s=>some (k,s)
 | n+1,own,k,s=>match k with
  | .c .skip::k=>evS T orc rc n own k s
  | .c (.seq a b)::k=>evS T orc rc n own (.c a:: .c b::k) s
  | .c (.cond c a b)::k=>match s.ev c with
   | .bool t=>evS T orc rc n own (.c (if t then a else b)::k) s
   | _=>none
  | .c (.block id a)::k=>evS T orc rc n own (.c a:: .blk id::k) s
  | .c (.exit id)::k=>match exitTo id k with
   | some k'=>evS T orc rc n own k' s
   | none=>none
  | .blk _::k=>evS T orc rc n own k s
  | .c (.loop a)::k=>some (.lp a::k,s)
  | .c (.region l d)::k=>match evL T orc rc own l s with
   | some (es,s')=>match d with
    | none=>evS T orc rc n own k s'
    | some ps=>if ps.all (fun p=>gK (es.getD p.1 ({}:Eff)) (es.getD p.2 ({}:Eff))) then evS T orc rc n own k s' else none
   | none=>none
  | k=>some (k,s)
section
variable {P:Program} {G:Nat->Option (List AV)} {L:xC} {T:FuncId->Option FnC} {orc:FuncId->List AV->Option AV}
theorem Sim.refl (s:St):Sim s s:=⟨rfl,rfl,rfl,fun _ _ _ _=>rfl⟩
end
end Go.Ab
/- Lemmas for symbolic runs: what is frozen. -/
namespace Go.Ab
open Go
theorem zUL (s:St) (n:Nat) (k i):frz s (n+1) (.int k i)=some (.int k i,[]):=rfl
theorem yDA (s:St) (n:Nat) (z xs t):frz s (n+1) (.sl z xs t)=some (.sl z xs t,[]):=rfl
def AV.still1:AV->Bool
 | .int .. | .bool _ | .sl .. | .box .. | .nilp | .nilf | .nili | .nilm | .str _=>true
 | _=>false
theorem zEP (s:St) (n:Nat) {v:AV} (h:v.still1=true):frz s (n+1) v=some (v,[]):=by
 cases v<;>first | rfl | simp[AV.still1] at h
theorem zUM (s:St) (n:Nat) {cs:List AV} (h:cs.all AV.still1=true):frz s (n+2) (.agg cs)=some (.agg cs,[]):=by
 have:∀{cs:List AV},cs.all AV.still1=true->cs.mapM (frz s (n+1))=some (cs.map fun c=>(c,[])):=by
  intro cs
  induction cs with
  | nil=>intro _;rfl
  | cons c cs ih=>
   intro h;simp only[List.all_cons,yOC] at h;rw[yOH,zEP s n h.1];simp[ih h.2]
 rw[frz,this h];simp[Function.comp_def]
theorem zNI (s:St) {cs:List AV} (h:cs.all AV.still1=true):frz s frzD (.agg cs)=some (.agg cs,[]):=zUM s 18 h
end Go.Ab
/- Deterministic runs,by rewriting: the states are given by functions. -/
namespace Go.Ab
open Go
def upd {α:Type} (τ:Nat->α) (d:Nat) (v:α):Nat->α:=fun t=>if t=d then v else τ t
theorem xL {α:Type} (τ:Nat->α) (d:Nat) (v:α) (t:Nat):upd τ d v t=if t=d then v else τ t:=rfl
def stF (n D:Nat) (τ:Nat->AV) (ω:Nat->Ent) (S:Nat->Nat->Ent):St:=⟨(yOG n).map τ,(yOG n).map ω,D,S⟩
section
variable {n D:Nat} {τ:Nat->AV} {ω:Nat->Ent} {S:Nat->Nat->Ent}
theorem lX {α:Type} (n:Nat) (τ:Nat->α) (d:Nat) (v:α):((yOG n).map τ).set d v=(yOG n).map (upd τ d v):=by
 apply yOV;intro i;simp only[List.getElem?_set,yOI,List.length_map,List.length_range,List.getElem?_range',upd];by_cases h:i < n
 ·rw[yOJ h];by_cases e:d=i
  ·subst e;simp[h,upd]
  ·have e':¬i=d:=fun q=>e q.symm;simp[e,e',upd]
 ·rw[yOE (by simpa using yOW h)];by_cases e:d=i
  ·subst e;simp[h]
  ·simp[e]
theorem qD {α:Type} (n:Nat) (τ:Nat->α) (d:α) (i:Nat):((yOG n).map τ).getD i d=if i < n then τ i else d:=by
 rw[yOX,yOI];by_cases h:i < n
 ·rw[yOJ h];simp[h]
 ·rw[yOE (by simpa using yOW h)];simp[h]
theorem r9 (t:Nat):(stF n D τ ω S).rd t=if t < n then τ t else ud:=qD n τ ud t
theorem yE (d:Nat) (v:AV):(stF n D τ ω S).put (some d) v=stF n D (upd τ d v) ω S:=by
 simp only[St.put,stF,lX]
theorem zME (v:AV):(stF n D τ ω S).put none v=stF n D τ ω S:=rfl
theorem eZ:(stF n D τ ω S).D=D:=rfl
theorem yJZ:(stF n D τ ω S).S=S:=rfl
theorem bF (i:Nat):(stF n D τ ω S).ev (.t i)=if i < n then (τ i).dem else ud:=by
 simp only[St.ev,r9];split<;>rfl
theorem zRR (v:AV):(stF n D τ ω S).ev (.c v)=v:=rfl
theorem zMF (i:Nat):(stF n D τ ω S).evr (.t i)=if i < n then τ i else ud:=r9 i
theorem zMG (v:AV):(stF n D τ ω S).evr (.c v)=v:=rfl
theorem pR (i:Nat):(stF n D τ ω S).os[i]?=if i < n then some (ω i) else none:=by
 simp only[stF,yOI];by_cases h:i < n
 ·rw[yOJ h];simp[h]
 ·rw[yOE (by simpa using yOW h)];simp[h]
theorem zRQ (i:Nat) (h:i < (stF n D τ ω S).os.length):(stF n D τ ω S).os[i]=ω i:=by
 have e:=pR (n:=n) (D:=D) (τ:=τ) (ω:=ω) (S:=S) i;have hl:(stF n D τ ω S).os.length=n:=by simp[stF]
 rw[yOD h,yRO (by omega)] at e;exact Option.some.inj e
theorem qN:(stF n D τ ω S).os.length=n:=by simp[stF]
theorem yD (d i:Nat):(stF n D τ ω S).look d i=if d=D then (if i < n then ω i else (0,.dead)) else S d i:=by
 by_cases h:d=D
 ·subst h;simp only[St.look,stF,if_true];exact qD n ω _ i
 ·unfold St.look;rw[yRN (show¬d=(stF n D τ ω S).D from h),yRN h];rfl
theorem pQ (d i:Nat) (e:Ent):(stF n D τ ω S).up (d,i,e)=if d=D then stF n D τ (upd ω i e) S else stF n D τ ω (updS S d i e):=by
 by_cases h:d=D
 ·subst h;simp only[St.up,stF,lX,if_true]
 ·unfold St.up;rw[yRN (show¬d=(stF n D τ ω S).D from h),yRN h];rfl
theorem pS (t:Nat):(stF n D τ ω S).demT t=stF n D (upd τ t (τ t).dem) ω S:=by
 simp only[St.demT,r9];have:=yE (n:=n) (D:=D) (τ:=τ) (ω:=ω) (S:=S) t (if t < n then τ t else ud).dem;simp only[St.put] at this;rw[this];by_cases h:t < n
 ·rw[yRO h]
 ·rw[yRN h];unfold stF;congr 1;refine yPF fun i hi=> ?_;have hi:=List.mem_range.1 hi;have:i≠t:=by omega
  simp[upd,this]
def vH:Nat->List AV->Nat->AV
 | _,[]=>fun _=>ud
 | i,a::as=>upd (vH (i+1) as) i a
theorem eR:∀(as:List AV) (i t:Nat),vH i as t=if i<=t then as.getD (t - i) ud else ud
 | [],i,t=>by simp[vH]
 | a::as,i,t=>by
  rw[vH,xL,eR as (i+1) t];by_cases h:t=i
  ·subst h;simp
  ·rw[yRN h];by_cases h1:i<=t
   ·rw[yRO (by omega),yRO h1];obtain ⟨m,hm⟩:∃m,t - i=m+1:=⟨t - i - 1,by omega⟩;rw[hm,show t - (i+1)=m by omega];simp
   ·rw[yRN (by omega),yRN h1]
theorem wG (n:Nat) (args:List AV) (D:Nat) (S:Nat->Nat->Ent) (h:args.length<=n):St.start n args D S=stF n D (vH 0 args) (fun _=>(0,.dead)) S:=by
 unfold St.start stF;congr 1
 ·apply yOV;intro i;rw[yOI];by_cases hi:i < n
  ·rw[yOJ hi];simp only[Option.map_some,eR,Nat.zero_le,if_true,Nat.sub_zero];by_cases ha:i < args.length
   ·rw[List.getElem?_append_left ha,yOX,yOD ha];rfl
   ·rw[List.getElem?_append_right (by omega),yPG,yRO (by omega),yOX,yOE (by omega)];rfl
  ·rw[yOE (by simp;omega),yOE (by simp;omega)];rfl
 ·apply yOV;intro i;rw[yOI,yPG];by_cases hi:i < n
  ·rw[yOJ hi];simp[hi]
  ·rw[yOE (by simp;omega)];simp[hi]
end
inductive Md where
 | im
 | ow
 | fr
 /-- a round of a loop over a function: as im; an exit may leave it -/
 | rn
 /-- as im; at a new object the proof says where it lies -/
 | pl
def AOp.isPl:AOp->Bool
 | .alloc .. | .box .. | .bslice .. | .append .. | .mkslice .. =>true
 | _=>false
def AOp.isApp:AOp->Bool
 | .append .. =>true
 | .bslice _ _ []=>true
 | _=>false
def AOp.isLd:AOp->Bool
 | .load .. =>true
 | _=>false
def AOp.isMv:AOp->Bool
 | .mov .. =>true
 | _=>false
def evN (own:Md) (s:St) (dst:Option Nat) (op:AOp):Option Eff:=
 match op with
 | .send .. | .recv .. =>opfC s op
 | op=>match own with
  | .im=>opf s dst op
  | .ow=>match opfO s dst op with | some e=>some e | none=>opf s dst op
  | .fr=>if op.isApp then none else if op.isLd then opfO s dst op else match opf s dst op with | some e=>some e | none=>opfO s dst op
  | .rn=>opf s dst op
  | .pl=>if op.isPl then none else if op.isLd then opfO s dst op else if op.isMv then opfO s dst op else opf s dst op
def AOp.isCall:AOp->Bool
 | .call .. | .callL .. | .callv .. =>true
 | _=>false
inductive CallE (C:zQ) (s:St):AOp->Eff->Prop where
 | call {f:FuncId} {args:List Opd} {M dl:List (Nat×Nat×Ent)} {r:AV}:f≠yid->
   C (s.D+1) f (args.map fun x=>(s.ev x).strip) M r dl->(∀m∈M,m.1<=s.D/\(m.1=s.D->m.2.1 < s.os.length)/\s.look m.1 m.2.1=m.2.2)->
   (∀u∈dl,(u.1,u.2.1)∈M.map (fun m=>(m.1,m.2.1))/\u.2.2.2≠ .dead)->
   CallE C s (.call f args) {val:=r,ups:=dl,rd:=M.map fun m=>(m.1,m.2.1)}
 | callL {f:FuncId} {args:List Opd} {M dl:List (Nat×Nat×Ent)} {r:AV}:f≠yid->(args.flatMap Opd.tmp).Nodup->
   C (s.D+1) f (args.map fun x=>(s.evr x).keep) M r dl->(∀m∈M,m.1<=s.D/\(m.1=s.D->m.2.1 < s.os.length)/\s.look m.1 m.2.1=m.2.2)->
   (∀u∈dl,(u.1,u.2.1)∈M.map (fun m=>(m.1,m.2.1))/\u.2.2.2≠ .dead)->
   CallE C s (.callL f args) {val:=r,ups:=dl,dem:=args.flatMap Opd.tmp,rd:=M.map fun m=>(m.1,m.2.1)}
 | callv {f:FuncId} {cap:List AV} {x:Opd} {args:List Opd} {M dl:List (Nat×Nat×Ent)} {r:AV}:f≠yid->
   s.ev x= .fn f cap->C (s.D+1) f ((args.map fun x=>(s.ev x).strip)++cap.map AV.strip) M r dl->(∀m∈M,m.1<=s.D/\(m.1=s.D->m.2.1 < s.os.length)/\s.look m.1 m.2.1=m.2.2)->
   (∀u∈dl,(u.1,u.2.1)∈M.map (fun m=>(m.1,m.2.1))/\u.2.2.2≠ .dead)->
   CallE C s (.callv x args) {val:=r,ups:=dl,rd:=M.map fun m=>(m.1,m.2.1)}
 | callm {f:FuncId} {bs:List AV} {x:Opd} {args:List Opd} {M dl:List (Nat×Nat×Ent)} {r:AV}:f≠yid->
   s.ev x= .meth f bs->C (s.D+1) f (bs.map AV.strip++(args.map fun x=>(s.ev x).strip)) M r dl->(∀m∈M,m.1<=s.D/\(m.1=s.D->m.2.1 < s.os.length)/\s.look m.1 m.2.1=m.2.2)->
   (∀u∈dl,(u.1,u.2.1)∈M.map (fun m=>(m.1,m.2.1))/\u.2.2.2≠ .dead)->
   CallE C s (.callv x args) {val:=r,ups:=dl,rd:=M.map fun m=>(m.1,m.2.1)}
 | yld {d i g:Nat} {x:Opd} {args:List Opd} {M dl:List (Nat×Nat×Ent)} {r:AV}:
   s.ev x= .yl d i g->C (s.D+1) yid (.yl d i g::args.map fun x=>(s.ev x).strip) M r dl->(∀m∈M,m.1<=s.D/\(m.1=s.D->m.2.1 < s.os.length)/\s.look m.1 m.2.1=m.2.2)->
   (∀u∈dl,(u.1,u.2.1)∈M.map (fun m=>(m.1,m.2.1))/\u.2.2.2≠ .dead)->
   CallE C s (.callv x args) {val:=r,ups:=dl,rd:=M.map fun m=>(m.1,m.2.1)}
theorem CallE.op {C s op e} (h:CallE C s op e) (dst):OpE C s dst op e:=by
 cases h with
 | call h0 h1 h2 h3=>exact .call h0 h1 h2 h3
 | callL h0 h1 h2 h3 h4=>exact .callL h0 h1 h2 h3 h4
 | callv h0 h1 h2 h3 h4=>exact .callv h0 h1 h2 h3 h4
 | callm h0 h1 h2 h3 h4=>exact .callm h0 h1 h2 h3 h4
 | yld h1 h2 h3 h4=>exact .yld h1 h2 h3 h4
theorem CallE.isCall {C s op e} (h:CallE C s op e):op.isCall=true:=by cases h<;>rfl
theorem d8 {C own s dst op e} (h:evN own s dst op=some e):OpE C s dst op e:=by
 unfold evN at h;split at h
 ·exact .comm h
 ·exact .comm h
 ·split at h
  ·exact .op h
  ·split at h
   ·rename_i he;injection h with h;subst h;exact .own he
   ·exact .op h
  ·split at h
   ·cases h
   ·split at h
    ·exact .own h
    ·split at h
     ·rename_i he;injection h with h;subst h;exact .op he
     ·exact .own h
  ·exact .op h
  ·split at h
   ·cases h
   ·split at h
    ·exact .own h
    ·split at h
     ·exact .own h
     ·exact .op h
def AppE (s:St) (dst:Option Nat) (op:AOp) (e:Eff):Prop:=op.isApp=true/\(opf s dst op=some e\/(∃slot,opfO s slot op=some e)\/
 ∃z ea d ent,op= .bslice z ea []/\dst=some d/\s.os[d]?=some ent/\e={val:= .own s.D d (ent.1+1) 0 0 z ea,ups:=[(s.D,d,(ent.1+1,.cells []))]})
theorem AppE.op {C s dst op e} (h:AppE s dst op e):OpE C s dst op e:=by
 rcases h.2 with h | ⟨slot,h⟩ | ⟨z,ea,d,ent,rfl,h1,h2,rfl⟩
 ·exact .op h
 ·exact .own h
 ·exact .emp h1 h2
def PlE (s:St) (dst:Option Nat) (op:AOp) (e:Eff):Prop:=op.isPl=true/\(opf s dst op=some e\/∃d i,opfP s d i op=some e)
theorem PlE.op {C s dst op e} (h:PlE s dst op e):OpE C s dst op e:=by
 rcases h.2 with h | ⟨d,i,h⟩
 ·exact .op h
 ·exact .plc h
def AOp.isComm:AOp->Bool
 | .send .. | .recv .. =>true
 | _=>false
theorem rM {own s d op} (h1:opfO s d op=none) (h2:op.isComm=false) (h3:op.isApp=false) (h4:op.isLd=false) (h5:own= .pl->op.isPl=false):evN own s d op=opf s d op:=by
 have h6:op.isMv=false:=by
  cases op<;>first | rfl | skip
  rename_i take x;cases take<;>simp[opfO] at h1
 unfold evN;split
 ·cases h2
 ·cases h2
 ·cases own
  ·rfl
  ·simp only[h1]
  ·simp only[h3,h4,h1,yOF,if_false];cases opf s d op<;>rfl
  ·rfl
  ·simp only[h5 rfl,h4,h6,yOF,if_false]
theorem xG {own s d op} (h1:opfO s d op=none) (h2:op.isComm=false) (h3:op.isApp=false) (h4:op.isLd=false) (h5:op.isPl=false:=by rfl):evN own s d op=opf s d op:=rM h1 h2 h3 h4 fun _=>h5
theorem zNK {own s d ag m p}:evN own s d (.load ag m false p)=opf s d (.load ag m false p):=by
 cases own
 ·rfl
 ·show (match opf s d (.load ag m false p) with | some e=>some e | none=>opf s d (.load ag m false p))=_
  cases opf s d (.load ag m false p)<;>rfl
 ·rfl
 ·rfl
 ·rfl
def St.out (s:St) (id:Nat):St:={s with D:=s.D+1+2*id}
def St.outRet (s:St):St:={s with D:=s.D+2}
inductive Rd (C:zQ) (own:Md) (Q:St->Prop):List AI->St->Prop where
 | done {s}:Q s->Rd C own Q [] s
 | ret {k s}:own≠ .rn->Q s->Rd C own Q (.c .ret::k) s
 | out {id k s}:own= .rn->exitTo id k=none->Q (s.out id)->Rd C own Q (.c (.exit id)::k) s
 | outRet {k s}:own= .rn->Q s.outRet->Rd C own Q (.c .ret::k) s
 | skip {k s}:Rd C own Q k s->Rd C own Q (.c .skip::k) s
 | seq {a b k s}:Rd C own Q (.c a:: .c b::k) s->Rd C own Q (.c (.seq a b)::k) s
 | cond {c a b k s t}:s.ev c= .bool t->Rd C own Q (.c (if t then a else b)::k) s->Rd C own Q (.c (.cond c a b)::k) s
 | condU {c a b k s}:s.ev c= .ub->Rd C own Q (.c a::k) s->Rd C own Q (.c b::k) s->Rd C own Q (.c (.cond c a b)::k) s
 | block {id a k s}:Rd C own Q (.c a:: .blk id::k) s->Rd C own Q (.c (.block id a)::k) s
 | blk {id k s}:Rd C own Q k s->Rd C own Q (.blk id::k) s
 | loop {a k s}:Rd C own Q (.lp a::k) s->Rd C own Q (.c (.loop a)::k) s
 | lp {a k s}:Rd C own Q (.c a:: .lp a::k) s->Rd C own Q (.lp a::k) s
 | exit {id k k' s}:exitTo id k=some k'->Rd C own Q k' s->Rd C own Q (.c (.exit id)::k) s
 | region {l k s}:Rd C own Q (.ops l::k) s->Rd C own Q (.c (.region l none)::k) s
 | opsNil {k s}:Rd C own Q k s->Rd C own Q (.ops []::k) s
 | opsOn {o l k s e}:gate s o.guard=some true->evN own s o.dst o.op=some e->Rd C own Q (.ops l::k) (s.app o.dst e)->Rd C own Q (.ops (o::l)::k) s
 | opsCall {o l k s e}:gate s o.guard=some true->CallE C s o.op e->Rd C own Q (.ops l::k) (s.app o.dst e)->Rd C own Q (.ops (o::l)::k) s
 | opsApp {o l k s e}:own= .fr->gate s o.guard=some true->AppE s o.dst o.op e->Rd C own Q (.ops l::k) (s.app o.dst e)->Rd C own Q (.ops (o::l)::k) s
 | opsPl {o l k s e}:own= .pl->gate s o.guard=some true->PlE s o.dst o.op e->Rd C own Q (.ops l::k) (s.app o.dst e)->Rd C own Q (.ops (o::l)::k) s
 | opsOff {o l k s}:gate s o.guard=some false->Rd C own Q (.ops l::k) (s.put o.dst ud)->Rd C own Q (.ops (o::l)::k) s
 | either {o0 o1 o2 o3 k s e0}:o0.guard=none->evN own s o0.dst o0.op=some e0->Rd C own Q (.ops [o1,o2,o3]::k) (s.app o0.dst e0)->Rd C own Q (.ops [o2,o1,o3]::k) (s.app o0.dst e0)->Rd C own Q (.c (.either o0 o1 o2 o3)::k) s
 | draw {l ps k s}:Rd C own Q (.dr ps l []::k) s->Rd C own Q (.c (.region l (some ps))::k) s
 | drOn {o l ps es k s e}:gate s o.guard=some true->evN own s o.dst o.op=some e->Rd C own Q (.dr ps l (es++[e])::k) (s.app o.dst e)->Rd C own Q (.dr ps (o::l) es::k) s
 | drCall {o l ps es k s e}:gate s o.guard=some true->CallE C s o.op e->Rd C own Q (.dr ps l (es++[e])::k) (s.app o.dst e)->Rd C own Q (.dr ps (o::l) es::k) s
 | drApp {o l ps es k s e}:own= .fr->gate s o.guard=some true->AppE s o.dst o.op e->Rd C own Q (.dr ps l (es++[e])::k) (s.app o.dst e)->Rd C own Q (.dr ps (o::l) es::k) s
 | drPl {o l ps es k s e}:own= .pl->gate s o.guard=some true->PlE s o.dst o.op e->Rd C own Q (.dr ps l (es++[e])::k) (s.app o.dst e)->Rd C own Q (.dr ps (o::l) es::k) s
 | drOff {o l ps es k s}:gate s o.guard=some false->Rd C own Q (.dr ps l (es++[({}:Eff)])::k) (s.put o.dst ud)->Rd C own Q (.dr ps (o::l) es::k) s
 | drNil {ps es k s}:(ps.all fun p=>gK (es.getD p.1 ({}:Eff)) (es.getD p.2 ({}:Eff)))=true->Rd C own Q k s->Rd C own Q (.dr ps [] es::k) s
def WQ (own:Md) (Q:St->Prop):Way->St->Prop
 | .fall,s=>Q s
 | .ret,s=>(own≠ .rn/\Q s)\/(own= .rn/\Q s.outRet)
 | .exit id,s=>own= .rn/\Q (s.out id)
 | .stop ..,_=>False
theorem Rd.runW {C own Q k s} (h:Rd C own Q k s):RunW C (WQ own Q) k s:=by
 induction h with
 | done h=>exact .done h
 | ret h1 h=>exact .ret (.inl ⟨h1,h⟩)
 | out h1 h2 h=>exact .out h2 ⟨h1,h⟩
 | outRet h1 h=>exact .ret (.inr ⟨h1,h⟩)
 | skip _ ih=>exact .skip ih
 | seq _ ih=>exact .seq ih
 | cond h _ ih=>exact .cond h ih
 | condU h _ _ ih1 ih2=>exact .condU h ih1 ih2
 | block _ ih=>exact .block ih
 | blk _ ih=>exact .blk ih
 | loop _ ih=>cases ih with | lp h=>exact .loop h
 | lp _ ih=>exact .lp ih
 | exit h _ ih=>exact .exit h ih
 | region _ ih=>exact .region ih
 | opsNil _ ih=>exact .opsNil ih
 | opsOn h1 h2 _ ih=>exact .opsOn h1 (d8 h2) ih
 | opsCall h1 h2 _ ih=>exact .opsOn h1 (h2.op _) ih
 | opsApp _ h1 h2 _ ih=>exact .opsOn h1 h2.op ih
 | opsPl _ h1 h2 _ ih=>exact .opsOn h1 h2.op ih
 | opsOff h _ ih=>exact .opsOff h ih
 | either h0 h1 _ _ ih1 ih2=>exact .either (by rw[h0];rfl) (d8 h1) ih1 ih2
 | draw _ ih=>exact .draw ih
 | drOn h1 h2 _ ih=>exact .drOn h1 (d8 h2) ih
 | drCall h1 h2 _ ih=>exact .drOn h1 (h2.op _) ih
 | drApp _ h1 h2 _ ih=>exact .drOn h1 h2.op ih
 | drPl _ h1 h2 _ ih=>exact .drOn h1 h2.op ih
 | drOff h _ ih=>exact .drOff h ih
 | drNil h _ ih=>
  refine .drNil (fun p hp=> ?_) ih;rw[yOB] at h;exact mN (h p hp)
theorem Rd.run {C own Q k s} (h:Rd C own Q k s) (hn:own≠ .rn:=by simp):Run C Q k s:=
 RunW.imp (fun w s h=>by
  cases w with
  | fall=>exact h
  | ret=>rcases h with h | h;exact h.2;exact absurd h.1 hn
  | exit id=>exact absurd h.1 hn
  | stop=>exact h) h.runW
def sel (t:Bool) (a b:AC):AC:=if t then a else b
theorem zML (a b:AC):sel true a b=a:=rfl
theorem zHV (a b:AC):sel false a b=b:=rfl
def nU {α:Type} (o:Option α) (f:α->Prop):Prop:=match o with | some v=>f v | none=>False
theorem gI {α:Type} (v:α) (f:α->Prop):nU (some v) f=f v:=rfl
theorem vQ {α:Type} (f:α->Prop):nU none f=False:=rfl
def iteR (b:Bool) (p q:Prop):Prop:=if b then p else q
theorem zIX (p q:Prop):iteR true p q=p:=rfl
theorem nK (p q:Prop):iteR false p q=q:=rfl
def Ek (C:zQ) (own:Md) (Q:St->Prop) (oe:Option Eff) (d:Option Nat) (l:List AOper) (k:List AI) (s:St):Prop:=nU oe fun e=>Rd C own Q (.ops l::k) (s.app d e)
theorem xT (C:zQ) (own:Md) (Q:St->Prop) (e:Eff) (d:Option Nat) (l:List AOper) (k:List AI) (s:St):Ek C own Q (some e) d l k s=Rd C own Q (.ops l::k) (s.app d e):=rfl
def Ekd (C:zQ) (own:Md) (Q:St->Prop) (oe:Option Eff) (d:Option Nat) (ps:List (Nat×Nat)) (l:List AOper) (es:List Eff) (k:List AI) (s:St):Prop:=nU oe fun e=>Rd C own Q (.dr ps l (es++[e])::k) (s.app d e)
theorem zOZ (C:zQ) (own:Md) (Q:St->Prop) (e:Eff) (d:Option Nat) (ps:List (Nat×Nat)) (l:List AOper) (es:List Eff) (k:List AI) (s:St):Ekd C own Q (some e) d ps l es k s=Rd C own Q (.dr ps l (es++[e])::k) (s.app d e):=rfl
def gB (w:Bool):AV->Option Bool
 | .bool b=>some (b==w)
 | .ub=>none
 | _=>some false
theorem zUH (w b:Bool):gB w (.bool b)=some (b==w):=rfl
theorem yLO (w:Bool):gB w ud=some false:=rfl
def Gk (C:zQ) (own:Md) (Q:St->Prop) (ob:Option Bool) (d:Option Nat) (op:AOp) (l:List AOper) (k:List AI) (s:St):Prop:=nU ob fun b=>iteR b (Rd C own Q (.ops (⟨d,op,none⟩::l)::k) s) (Rd C own Q (.ops l::k) (s.put d ud))
theorem zVY (C:zQ) (own:Md) (Q:St->Prop) (d:Option Nat) (op:AOp) (l:List AOper) (k:List AI) (s:St):Gk C own Q (some true) d op l k s=Rd C own Q (.ops (⟨d,op,none⟩::l)::k) s:=rfl
theorem zOY (C:zQ) (own:Md) (Q:St->Prop) (d:Option Nat) (op:AOp) (l:List AOper) (k:List AI) (s:St):Gk C own Q (some false) d op l k s=Rd C own Q (.ops l::k) (s.put d ud):=rfl
def Gkd (C:zQ) (own:Md) (Q:St->Prop) (ob:Option Bool) (d:Option Nat) (op:AOp) (ps:List (Nat×Nat)) (l:List AOper) (es:List Eff) (k:List AI) (s:St):Prop:=nU ob fun b=>iteR b (Rd C own Q (.dr ps (⟨d,op,none⟩::l) es::k) s) (Rd C own Q (.dr ps l (es++[({}:Eff)])::k) (s.put d ud))
theorem zOX (C:zQ) (own:Md) (Q:St->Prop) (d:Option Nat) (op:AOp) (ps:List (Nat×Nat)) (l:List AOper) (es:List Eff) (k:List AI) (s:St):Gkd C own Q (some true) d op ps l es k s=Rd C own Q (.dr ps (⟨d,op,none⟩::l) es::k) s:=rfl
theorem zLV (C:zQ) (own:Md) (Q:St->Prop) (d:Option Nat) (op:AOp) (ps:List (Nat×Nat)) (l:List AOper) (es:List Eff) (k:List AI) (s:St):Gkd C own Q (some false) d op ps l es k s=Rd C own Q (.dr ps l (es++[({}:Eff)])::k) (s.put d ud):=rfl
def Vk (C:zQ) (own:Md) (Q:St->Prop) (ov:Option AV) (d:Nat) (l:List AOper) (k:List AI) (n D:Nat) (τ:Nat->AV) (ω:Nat->Ent) (S:Nat->Nat->Ent):Prop:=nU ov fun v=>Rd C own Q (.ops l::k) (stF n D (upd τ d v) ω S)
theorem pH (C:zQ) (own:Md) (Q:St->Prop) (v:AV) (d:Nat) (l:List AOper) (k:List AI) (n D:Nat) (τ:Nat->AV) (ω:Nat->Ent) (S:Nat->Nat->Ent):Vk C own Q (some v) d l k n D τ ω S=Rd C own Q (.ops l::k) (stF n D (upd τ d v) ω S):=rfl
theorem zVZ (C:zQ) (own:Md) (Q:St->Prop) (d:Option Nat) (l:List AOper) (k:List AI) (s:St):Ek C own Q none d l k s=False:=rfl
theorem zPA (C:zQ) (own:Md) (Q:St->Prop) (d:Option Nat) (ps:List (Nat×Nat)) (l:List AOper) (es:List Eff) (k:List AI) (s:St):Ekd C own Q none d ps l es k s=False:=rfl
theorem zVE (C:zQ) (own:Md) (Q:St->Prop) (d:Nat) (l:List AOper) (k:List AI) (n D:Nat) (τ:Nat->AV) (ω:Nat->Ent) (S:Nat->Nat->Ent):Vk C own Q none d l k n D τ ω S=False:=rfl
def Uk (C:zQ) (own:Md) (Q:St->Prop) (ou:Option (Nat×Nat×Ent)) (x:Opd) (l:List AOper) (k:List AI) (s:St):Prop:=nU ou fun u=>Rd C own Q (.ops l::k) ((x.tmp.foldl St.demT s).up u)
theorem zVF (C:zQ) (own:Md) (Q:St->Prop) (u:Nat×Nat×Ent) (x:Opd) (l:List AOper) (k:List AI) (s:St):Uk C own Q (some u) x l k s=Rd C own Q (.ops l::k) ((x.tmp.foldl St.demT s).up u):=rfl
theorem zVG (C:zQ) (own:Md) (Q:St->Prop) (x:Opd) (l:List AOper) (k:List AI) (s:St):Uk C own Q none x l k s=False:=rfl
section
variable {C:zQ} {own:Md} {Q:St->Prop} {k:List AI} {s:St}
theorem yEQ:Rd C own Q [] s↔Q s:=⟨fun h=>by cases h;assumption,.done⟩
theorem zAN (hn:own≠ .rn):Rd C own Q (.c .ret::k) s↔Q s:=by
 constructor
 ·intro h;cases h with
  | ret _ h=>exact h
  | outRet h1=>exact absurd h1 hn
 ·exact .ret hn
theorem zVM:Rd C .im Q (.c .ret::k) s↔Q s:=zAN (by simp)
theorem zVN:Rd C .fr Q (.c .ret::k) s↔Q s:=zAN (by simp)
def outR (own:Md) (Q:St->Prop) (id:Nat) (s:St):Prop:=own= .rn/\Q (s.out id)
theorem zVK:Rd C own Q (.c .skip::k) s↔Rd C own Q k s:=⟨fun h=>by cases h;assumption,.skip⟩
theorem yEO {a b}:Rd C own Q (.c (.seq a b)::k) s↔Rd C own Q (.c a:: .c b::k) s:=⟨fun h=>by cases h;assumption,.seq⟩
theorem zOV {id a}:Rd C own Q (.c (.block id a)::k) s↔Rd C own Q (.c a:: .blk id::k) s:=⟨fun h=>by cases h;assumption,.block⟩
theorem yEU {id}:Rd C own Q (.blk id::k) s↔Rd C own Q k s:=⟨fun h=>by cases h;assumption,.blk⟩
theorem zVT {a}:Rd C own Q (.c (.loop a)::k) s↔Rd C own Q (.lp a::k) s:=⟨fun h=>by cases h;assumption,.loop⟩
theorem zVV {id}:Rd C own Q (.c (.exit id)::k) s↔match exitTo id k with | some k'=>Rd C own Q k' s | none=>outR own Q id s:=by
 constructor
 ·intro h;cases h with
  | exit h1 h2=>rw[h1];exact h2
  | out h1 h2 h3=>rw[h2];exact ⟨h1,h3⟩
 ·intro h;split at h
  ·rename_i he;exact .exit he h
  ·rename_i he;exact .out h.1 he h.2
theorem zLE {l}:Rd C own Q (.c (.region l none)::k) s↔Rd C own Q (.ops l::k) s:=⟨fun h=>by cases h;assumption,.region⟩
theorem zVW {l ps}:Rd C own Q (.c (.region l (some ps))::k) s↔Rd C own Q (.dr ps l []::k) s:=⟨fun h=>by cases h;assumption,.draw⟩
theorem zLM {d op o1 o2 o3}:Rd C own Q (.c (.either ⟨d,op,none⟩ o1 o2 o3)::k) s↔nU (evN own s d op) fun e=>Rd C own Q (.ops [o1,o2,o3]::k) (s.app d e)/\Rd C own Q (.ops [o2,o1,o3]::k) (s.app d e):=by
 constructor
 ·intro h;cases h with
  | either h0 h1 h2 h3=>rw[h1];exact ⟨h2,h3⟩
 ·intro h;unfold nU at h;split at h
  ·rename_i he;exact .either rfl he h.1 h.2
  ·exact h.elim
theorem zLF:Rd C own Q (.ops []::k) s↔Rd C own Q k s:=⟨fun h=>by cases h;assumption,.opsNil⟩
theorem zOT {ps es}:Rd C own Q (.dr ps [] es::k) s↔((ps.all fun p=>gK (es.getD p.1 ({}:Eff)) (es.getD p.2 ({}:Eff)))=true/\Rd C own Q k s):=by
 constructor
 ·intro h;cases h with | drNil h1 h2=>exact ⟨h1,h2⟩
 ·intro h;exact .drNil h.1 h.2
theorem zVX {c a b}:Rd C own Q (.c (.cond c a b)::k) s↔match s.ev c with | .bool t=>Rd C own Q (.c (sel t a b)::k) s | .ub=>Rd C own Q (.c a::k) s/\Rd C own Q (.c b::k) s | _=>False:=by
 constructor
 ·intro h;cases h with
  | cond h1 h2=>rw[h1];exact h2
  | condU h1 h2 h3=>rw[h1];exact ⟨h2,h3⟩
 ·intro h;split at h
  ·rename_i he;exact .cond he h
  ·rename_i he;exact .condU he h.1 h.2
  ·exact h.elim
theorem wM {d op l} (hc:op.isCall=false) (ha:own= .fr->op.isApp=false) (hp:own= .pl->op.isPl=false:=by intros;first | rfl | contradiction):Rd C own Q (.ops (⟨d,op,none⟩::l)::k) s↔Ek C own Q (evN own s d op) d l k s:=by
 constructor
 ·intro h;cases h with
  | opsOn h1 h2 h3=>simp only at h2;rw[h2];exact h3
  | opsCall h1 h2 h3=>have:=h2.isCall;rw[hc] at this;cases this
  | opsApp h0 h1 h2 h3=>have h4:op.isApp=true:=h2.1;rw[ha h0] at h4;cases h4
  | opsPl h0 h1 h2 h3=>have h4:op.isPl=true:=h2.1;rw[hp h0] at h4;cases h4
  | opsOff h1 h2=>simp[gate] at h1
 ·intro h;unfold Ek nU at h;split at h
  ·rename_i he;exact .opsOn rfl he h
  ·exact h.elim
theorem zOQ {d op l t w}:Rd C own Q (.ops (⟨d,op,some (t,w)⟩::l)::k) s↔
  Gk C own Q (gB w (s.rd t)) d op l k s:=by
 have hg:gate s (some (t,w))=gB w (s.rd t):=by
  simp only[gate,gB];split<;>rename_i hb<;>simp[hb]
 constructor
 ·intro h;cases h with
  | opsOn h1 h2 h3=>rw[hg] at h1;rw[h1];exact .opsOn rfl h2 h3
  | opsCall h1 h2 h3=>rw[hg] at h1;rw[h1];exact .opsCall rfl h2 h3
  | opsApp h0 h1 h2 h3=>rw[hg] at h1;rw[h1];exact .opsApp h0 rfl h2 h3
  | opsPl h0 h1 h2 h3=>rw[hg] at h1;rw[h1];exact .opsPl h0 rfl h2 h3
  | opsOff h1 h2=>rw[hg] at h1;rw[h1];exact h2
 ·intro h;cases hb:gB w (s.rd t) with
  | none=>rw[hb] at h;exact h.elim
  | some b=>
  cases b with
  | true=>
   rw[hb] at h;cases (show Rd C own Q (.ops (⟨d,op,none⟩::l)::k) s from h) with
   | opsOn h1 h2 h3=>exact .opsOn (by rw[hg,hb]) h2 h3
   | opsCall h1 h2 h3=>exact .opsCall (by rw[hg,hb]) h2 h3
   | opsApp h0 h1 h2 h3=>exact .opsApp h0 (by rw[hg,hb]) h2 h3
   | opsPl h0 h1 h2 h3=>exact .opsPl h0 (by rw[hg,hb]) h2 h3
   | opsOff h1 h2=>simp[gate] at h1
  | false=>rw[hb] at h;exact .opsOff (by rw[hg,hb]) h
theorem y4 {d op l ps es} (hc:op.isCall=false) (ha:own= .fr->op.isApp=false) (hp:own= .pl->op.isPl=false:=by intros;first | rfl | contradiction):Rd C own Q (.dr ps (⟨d,op,none⟩::l) es::k) s↔Ekd C own Q (evN own s d op) d ps l es k s:=by
 constructor
 ·intro h;cases h with
  | drOn h1 h2 h3=>simp only at h2;rw[h2];exact h3
  | drCall h1 h2 h3=>have:=h2.isCall;rw[hc] at this;cases this
  | drApp h0 h1 h2 h3=>have h4:op.isApp=true:=h2.1;rw[ha h0] at h4;cases h4
  | drPl h0 h1 h2 h3=>have h4:op.isPl=true:=h2.1;rw[hp h0] at h4;cases h4
  | drOff h1 h2=>simp[gate] at h1
 ·intro h;unfold Ekd nU at h;split at h
  ·rename_i he;exact .drOn rfl he h
  ·exact h.elim
theorem zGC {d op l t w ps es}:Rd C own Q (.dr ps (⟨d,op,some (t,w)⟩::l) es::k) s↔
  Gkd C own Q (gB w (s.rd t)) d op ps l es k s:=by
 have hg:gate s (some (t,w))=gB w (s.rd t):=by
  simp only[gate,gB];split<;>rename_i hb<;>simp[hb]
 constructor
 ·intro h;cases h with
  | drOn h1 h2 h3=>rw[hg] at h1;rw[h1];exact .drOn rfl h2 h3
  | drCall h1 h2 h3=>rw[hg] at h1;rw[h1];exact .drCall rfl h2 h3
  | drApp h0 h1 h2 h3=>rw[hg] at h1;rw[h1];exact .drApp h0 rfl h2 h3
  | drPl h0 h1 h2 h3=>rw[hg] at h1;rw[h1];exact .drPl h0 rfl h2 h3
  | drOff h1 h2=>rw[hg] at h1;rw[h1];exact h2
 ·intro h;cases hb:gB w (s.rd t) with
  | none=>rw[hb] at h;exact h.elim
  | some b=>
  cases b with
  | true=>
   rw[hb] at h;cases (show Rd C own Q (.dr ps (⟨d,op,none⟩::l) es::k) s from h) with
   | drOn h1 h2 h3=>exact .drOn (by rw[hg,hb]) h2 h3
   | drCall h1 h2 h3=>exact .drCall (by rw[hg,hb]) h2 h3
   | drApp h0 h1 h2 h3=>exact .drApp h0 (by rw[hg,hb]) h2 h3
   | drPl h0 h1 h2 h3=>exact .drPl h0 (by rw[hg,hb]) h2 h3
   | drOff h1 h2=>simp[gate] at h1
  | false=>rw[hb] at h;exact .drOff (by rw[hg,hb]) h
end
section
variable {C:zQ} {own:Md} {Q:St->Prop} {k:List AI} {n D:Nat} {τ:Nat->AV} {ω:Nat->Ent} {S:Nat->Nat->Ent} {l:List AOper} {d:Nat}
theorem yC (dst:Option Nat) (v:AV) (ups dem rd):(stF n D τ ω S).app dst {val:=v,ups:=ups,dem:=dem,rd:=rd}=(ups.foldl St.up (dem.foldl St.demT (stF n D τ ω S))).put dst v:=rfl
theorem yEV {op e x y}:Rd C own Q (.ops (⟨some d,.bin op e x y,none⟩::l)::k) (stF n D τ ω S)↔
  Vk C own Q (binf op e ((stF n D τ ω S).ev x) ((stF n D τ ω S).ev y)) d l k n D τ ω S:=by
 rw[wM rfl (by intros;first | rfl | contradiction)];have:evN own (stF n D τ ω S) (some d) (.bin op e x y)=opf (stF n D τ ω S) (some d) (.bin op e x y):=xG rfl rfl rfl rfl;rw[this];simp only[opf];cases binf op e ((stF n D τ ω S).ev x) ((stF n D τ ω S).ev y) with
 | none=>exact Iff.rfl
 | some v=>simp only[xT,pH,yC,List.foldl,yE]
theorem zVR {x}:Rd C .im Q (.ops (⟨some d,.mov false x,none⟩::l)::k) (stF n D τ ω S)↔
  Rd C .im Q (.ops l::k) (stF n D (upd τ d ((stF n D τ ω S).ev x).var1) ω S):=by
 rw[wM rfl (by intros;first | rfl | contradiction)];simp[xT,evN,opf,yC,yE]
theorem zVQ {v}:Rd C .im Q (.ops (⟨some d,.mov true (.c v),none⟩::l)::k) (stF n D τ ω S)↔
  Rd C .im Q (.ops l::k) (stF n D (upd τ d v.var1) ω S):=by
 rw[wM rfl (by intros;first | rfl | contradiction)];simp[xT,evN,opf,yC,yE,Opd.tmp,St.evr]
def left (τ:Nat->AV) (i:Nat):AV->Nat->AV
 | .sl z xs t=>upd τ i (.sl z xs t.dem)
 | .agg cs=>upd τ i (AV.agg cs).dem
 | .tup cs=>upd τ i (AV.tup cs).dem
 | _=>τ
theorem aD {i:Nat}:upd τ i (τ i).dem=left τ i (τ i):=by
 have h0:(τ i).dem=τ i->upd τ i (τ i).dem=τ:=by
  intro h;funext t;simp only[upd];split
  ·rename_i e;rw[h,e]
  ·rfl
 cases h:τ i<;>first | rfl | (rw[<-h];rw[h0 (by rw[h];rfl)];rw[h];rfl)
theorem zVP {i}:Rd C .im Q (.ops (⟨some d,.mov true (.t i),none⟩::l)::k) (stF n D τ ω S)↔
  Rd C .im Q (.ops l::k) (stF n D (upd (left τ i (τ i)) d ((stF n D τ ω S).rd i).var1) ω S):=by
 rw[wM rfl (by intros;first | rfl | contradiction),<-aD];simp[xT,evN,opf,yC,yE,Opd.tmp,St.evr,pS]
theorem zOO {x}:Rd C .fr Q (.ops (⟨some d,.mov false x,none⟩::l)::k) (stF n D τ ω S)↔
  Rd C .fr Q (.ops l::k) (stF n D (upd τ d ((stF n D τ ω S).ev x).var1) ω S):=by
 rw[wM rfl (by intros;first | rfl | contradiction)];simp[xT,evN,AOp.isApp,AOp.isLd,opf,yC,yE]
theorem zOM {v}:Rd C .fr Q (.ops (⟨some d,.mov true (.c v),none⟩::l)::k) (stF n D τ ω S)↔
  Rd C .fr Q (.ops l::k) (stF n D (upd τ d v.var1) ω S):=by
 rw[wM rfl (by intros;first | rfl | contradiction)];simp[xT,evN,AOp.isApp,AOp.isLd,opf,yC,yE,Opd.tmp,St.evr]
theorem zOK {i}:Rd C .fr Q (.ops (⟨some d,.mov true (.t i),none⟩::l)::k) (stF n D τ ω S)↔
  Rd C .fr Q (.ops l::k) (stF n D (upd (left τ i (τ i)) d ((stF n D τ ω S).rd i).var1) ω S):=by
 rw[wM rfl (by intros;first | rfl | contradiction),<-aD];simp[xT,evN,AOp.isApp,AOp.isLd,opf,yC,yE,Opd.tmp,St.evr,pS]
theorem zE {f args r args'} (h:C (D+1) f args' [] r []) (ha:args.map (fun x=>((stF n D τ ω S).ev x).strip)=args')
  (hk:Rd C own Q (.ops l::k) (stF n D (upd τ d r) ω S)) (hf:f≠yid:=by decide):Rd C own Q (.ops (⟨some d,.call f args,none⟩::l)::k) (stF n D τ ω S):=by
 refine .opsCall rfl (.call (M:=[]) (dl:=[]) (r:=r) hf (by rw[ha];exact h) (by simp) (by simp)) ?_;simpa[yC,yE] using hk
theorem zW {f args r args' ps es} (h:C (D+1) f args' [] r []) (ha:args.map (fun x=>((stF n D τ ω S).ev x).strip)=args')
  (hk:Rd C own Q (.dr ps l (es++[{val:=r}])::k) (stF n D (upd τ d r) ω S)) (hf:f≠yid:=by decide):Rd C own Q (.dr ps (⟨some d,.call f args,none⟩::l) es::k) (stF n D τ ω S):=by
 refine .drCall rfl (.call (M:=[]) (dl:=[]) (r:=r) hf (by rw[ha];exact h) (by simp) (by simp)) ?_;simpa[yC,yE] using hk
end
section
variable {C:zQ} {own:Md} {Q:St->Prop} {k:List AI} {s:St} {l:List AOper} {d:Option Nat} {ps:List (Nat×Nat)} {es:List Eff}
theorem zOW {z} (hp:own≠ .pl):Rd C own Q (.ops (⟨d,.alloc z,none⟩::l)::k) s↔Ek C own Q (opf s d (.alloc z)) d l k s:=by
 rw[wM rfl (by intros;first | rfl | contradiction) (fun e=>absurd e hp)];rw[rM rfl rfl rfl rfl (fun e=>absurd e hp)];try exact Iff.rfl
theorem zAW {z} (hp:own≠ .pl):Rd C own Q (.dr ps (⟨d,.alloc z,none⟩::l) es::k) s↔Ekd C own Q (opf s d (.alloc z)) d ps l es k s:=by
 rw[y4 rfl (by intros;first | rfl | contradiction) (fun e=>absurd e hp)];rw[rM rfl rfl rfl rfl (fun e=>absurd e hp)];try exact Iff.rfl
theorem yET {m x} (hp:own≠ .pl):Rd C own Q (.ops (⟨d,.box m x,none⟩::l)::k) s↔Ek C own Q (opf s d (.box m x)) d l k s:=by
 rw[wM rfl (by intros;first | rfl | contradiction) (fun e=>absurd e hp)];rw[rM rfl rfl rfl rfl (fun e=>absurd e hp)];try exact Iff.rfl
theorem zOU {z qs}:Rd C own Q (.ops (⟨d,.build z qs,none⟩::l)::k) s↔Ek C own Q (opf s d (.build z qs)) d l k s:=by
 rw[wM rfl (by intros;first | rfl | contradiction)];rw[xG rfl rfl rfl rfl];try exact Iff.rfl
theorem zAS {z qs}:Rd C own Q (.dr ps (⟨d,.build z qs,none⟩::l) es::k) s↔Ekd C own Q (opf s d (.build z qs)) d ps l es k s:=by
 rw[y4 rfl (by intros;first | rfl | contradiction)];rw[xG rfl rfl rfl rfl];try exact Iff.rfl
theorem zLQ {z ea q qs} (hp:own≠ .pl):Rd C own Q (.ops (⟨d,.bslice z ea (q::qs),none⟩::l)::k) s↔Ek C own Q (opf s d (.bslice z ea (q::qs))) d l k s:=by
 rw[wM rfl (by intros;first | rfl | contradiction) (fun e=>absurd e hp)];rw[rM rfl rfl rfl rfl (fun e=>absurd e hp)];try exact Iff.rfl
theorem cW {z ea q qs} (hp:own≠ .pl):Rd C own Q (.dr ps (⟨d,.bslice z ea (q::qs),none⟩::l) es::k) s↔Ekd C own Q (opf s d (.bslice z ea (q::qs))) d ps l es k s:=by
 rw[y4 rfl (by intros;first | rfl | contradiction) (fun e=>absurd e hp)];rw[rM rfl rfl rfl rfl (fun e=>absurd e hp)];try exact Iff.rfl
theorem zGF {z ea}:Rd C .im Q (.ops (⟨d,.bslice z ea [],none⟩::l)::k) s↔Ek C .im Q (opf s d (.bslice z ea [])) d l k s:=by
 rw[wM rfl (by intros;first | rfl | contradiction)];exact Iff.rfl
theorem zVU {ag m take p}:Rd C .im Q (.ops (⟨d,.load ag m take p,none⟩::l)::k) s↔Ek C .im Q (opf s d (.load ag m take p)) d l k s:=by
 rw[wM rfl (by intros;first | rfl | contradiction)];exact Iff.rfl
theorem zOP {ag m p}:Rd C own Q (.ops (⟨d,.load ag m false p,none⟩::l)::k) s↔Ek C own Q (opf s d (.load ag m false p)) d l k s:=by
 rw[wM rfl (by intros;first | rfl | contradiction)];rw[zNK]
theorem zFY {ag m take p}:Rd C .im Q (.dr ps (⟨d,.load ag m take p,none⟩::l) es::k) s↔Ekd C .im Q (opf s d (.load ag m take p)) d ps l es k s:=by
 rw[y4 rfl (by intros;first | rfl | contradiction)];exact Iff.rfl
theorem zAQ {ag m take p}:Rd C .fr Q (.dr ps (⟨d,.load ag m take p,none⟩::l) es::k) s↔Ekd C .fr Q (opf s d (.load ag m false p)) d ps l es k s:=by
 rw[y4 rfl (by intros;first | rfl | contradiction)];exact Iff.rfl
theorem zOH {m p x}:Rd C own Q (.ops (⟨d,.store m p x,none⟩::l)::k) s↔Ek C own Q (opf s d (.store m p x)) d l k s:=by
 rw[wM rfl (by intros;first | rfl | contradiction)];rw[xG rfl rfl rfl rfl];try exact Iff.rfl
theorem zAO {m p x}:Rd C own Q (.dr ps (⟨d,.store m p x,none⟩::l) es::k) s↔Ekd C own Q (opf s d (.store m p x)) d ps l es k s:=by
 rw[y4 rfl (by intros;first | rfl | contradiction)];rw[xG rfl rfl rfl rfl];try exact Iff.rfl
theorem zLG {x}:Rd C own Q (.ops (⟨d,.nilchk x,none⟩::l)::k) s↔Ek C own Q (opf s d (.nilchk x)) d l k s:=by
 rw[wM rfl (by intros;first | rfl | contradiction)];rw[xG rfl rfl rfl rfl];try exact Iff.rfl
theorem cS {x}:Rd C own Q (.dr ps (⟨d,.nilchk x,none⟩::l) es::k) s↔Ekd C own Q (opf s d (.nilchk x)) d ps l es k s:=by
 rw[y4 rfl (by intros;first | rfl | contradiction)];rw[xG rfl rfl rfl rfl];try exact Iff.rfl
theorem yMY {op x}:Rd C own Q (.ops (⟨d,.un op x,none⟩::l)::k) s↔Ek C own Q (opf s d (.un op x)) d l k s:=by
 rw[wM rfl (by intros;first | rfl | contradiction)];rw[xG rfl rfl rfl rfl];try exact Iff.rfl
theorem zOS {op x}:Rd C own Q (.dr ps (⟨d,.un op x,none⟩::l) es::k) s↔Ekd C own Q (opf s d (.un op x)) d ps l es k s:=by
 rw[y4 rfl (by intros;first | rfl | contradiction)];rw[xG rfl rfl rfl rfl];try exact Iff.rfl
theorem zOR {off x}:Rd C own Q (.ops (⟨d,.faddr off x,none⟩::l)::k) s↔Ek C own Q (opf s d (.faddr off x)) d l k s:=by
 rw[wM rfl (by intros;first | rfl | contradiction)];rw[xG rfl rfl rfl rfl];try exact Iff.rfl
theorem zAR {off x}:Rd C own Q (.dr ps (⟨d,.faddr off x,none⟩::l) es::k) s↔Ekd C own Q (opf s d (.faddr off x)) d ps l es k s:=by
 rw[y4 rfl (by intros;first | rfl | contradiction)];rw[xG rfl rfl rfl rfl];try exact Iff.rfl
theorem zLJ {len z x i}:Rd C own Q (.ops (⟨d,.iaddrA len z x i,none⟩::l)::k) s↔Ek C own Q (opf s d (.iaddrA len z x i)) d l k s:=by
 rw[wM rfl (by intros;first | rfl | contradiction)];rw[xG rfl rfl rfl rfl];try exact Iff.rfl
theorem cV {len z x i}:Rd C own Q (.dr ps (⟨d,.iaddrA len z x i,none⟩::l) es::k) s↔Ekd C own Q (opf s d (.iaddrA len z x i)) d ps l es k s:=by
 rw[y4 rfl (by intros;first | rfl | contradiction)];rw[xG rfl rfl rfl rfl];try exact Iff.rfl
theorem zLI {z x i}:Rd C own Q (.ops (⟨d,.iaddrS z x i,none⟩::l)::k) s↔Ek C own Q (opf s d (.iaddrS z x i)) d l k s:=by
 rw[wM rfl (by intros;first | rfl | contradiction)];rw[xG rfl rfl rfl rfl];try exact Iff.rfl
theorem cU {z x i}:Rd C own Q (.dr ps (⟨d,.iaddrS z x i,none⟩::l) es::k) s↔Ekd C own Q (opf s d (.iaddrS z x i)) d ps l es k s:=by
 rw[y4 rfl (by intros;first | rfl | contradiction)];rw[xG rfl rfl rfl rfl];try exact Iff.rfl
theorem zLL {tk x i}:Rd C own Q (.ops (⟨d,.extr tk x i,none⟩::l)::k) s↔Ek C own Q (opf s d (.extr tk x i)) d l k s:=by
 rw[wM rfl (by intros;first | rfl | contradiction)];rw[xG rfl rfl rfl rfl];try exact Iff.rfl
theorem zFZ {tk x i}:Rd C own Q (.dr ps (⟨d,.extr tk x i,none⟩::l) es::k) s↔Ekd C own Q (opf s d (.extr tk x i)) d ps l es k s:=by
 rw[y4 rfl (by intros;first | rfl | contradiction)];rw[xG rfl rfl rfl rfl];try exact Iff.rfl
theorem yER {x}:Rd C own Q (.ops (⟨d,.len x,none⟩::l)::k) s↔Ek C own Q (opf s d (.len x)) d l k s:=by
 rw[wM rfl (by intros;first | rfl | contradiction)];rw[xG rfl rfl rfl rfl];try exact Iff.rfl
theorem zLO {x}:Rd C own Q (.dr ps (⟨d,.len x,none⟩::l) es::k) s↔Ekd C own Q (opf s d (.len x)) d ps l es k s:=by
 rw[y4 rfl (by intros;first | rfl | contradiction)];rw[xG rfl rfl rfl rfl];try exact Iff.rfl
theorem zVO {c a b}:Rd C own Q (.ops (⟨d,.pick c a b,none⟩::l)::k) s↔Ek C own Q (opf s d (.pick c a b)) d l k s:=by
 rw[wM rfl (by intros;first | rfl | contradiction)];rw[xG rfl rfl rfl rfl];try exact Iff.rfl
theorem zFU {c a b}:Rd C own Q (.dr ps (⟨d,.pick c a b,none⟩::l) es::k) s↔Ekd C own Q (opf s d (.pick c a b)) d ps l es k s:=by
 rw[y4 rfl (by intros;first | rfl | contradiction)];rw[xG rfl rfl rfl rfl];try exact Iff.rfl
theorem yMZ {mx x y}:Rd C own Q (.ops (⟨d,.mm mx x y,none⟩::l)::k) s↔Ek C own Q (opf s d (.mm mx x y)) d l k s:=by
 rw[wM rfl (by intros;first | rfl | contradiction)];rw[xG rfl rfl rfl rfl];try exact Iff.rfl
theorem zFT {z by_ ea zero a b} (hp:own≠ .pl):Rd C own Q (.ops (⟨d,.mkslice z by_ ea zero a b,none⟩::l)::k) s↔Ek C own Q (opf s d (.mkslice z by_ ea zero a b)) d l k s:=by
 rw[wM rfl (by intros;first | rfl | contradiction) (fun e=>absurd e hp)];rw[rM rfl rfl rfl rfl (fun e=>absurd e hp)];try exact Iff.rfl
theorem zVS {f cap}:Rd C own Q (.ops (⟨d,.mkfn f cap,none⟩::l)::k) s↔Ek C own Q (opf s d (.mkfn f cap)) d l k s:=by
 rw[wM rfl (by intros;first | rfl | contradiction)];rw[xG rfl rfl rfl rfl];try exact Iff.rfl
theorem zFX {f cap}:Rd C own Q (.dr ps (⟨d,.mkfn f cap,none⟩::l) es::k) s↔Ekd C own Q (opf s d (.mkfn f cap)) d ps l es k s:=by
 rw[y4 rfl (by intros;first | rfl | contradiction)];rw[xG rfl rfl rfl rfl];try exact Iff.rfl
theorem zLH {f cap}:Rd C own Q (.ops (⟨d,.mkmeth f cap,none⟩::l)::k) s↔Ek C own Q (opf s d (.mkmeth f cap)) d l k s:=by
 rw[wM rfl (by intros;first | rfl | contradiction)];rw[xG rfl rfl rfl rfl];try exact Iff.rfl
theorem cT {f cap}:Rd C own Q (.dr ps (⟨d,.mkmeth f cap,none⟩::l) es::k) s↔Ekd C own Q (opf s d (.mkmeth f cap)) d ps l es k s:=by
 rw[y4 rfl (by intros;first | rfl | contradiction)];rw[xG rfl rfl rfl rfl];try exact Iff.rfl
theorem zLT {z by_ x y}:Rd C .im Q (.ops (⟨d,.append z by_ x y,none⟩::l)::k) s↔Ek C .im Q (opf s d (.append z by_ x y)) d l k s:=by
 rw[wM rfl (by intros;first | rfl | contradiction)];exact Iff.rfl
theorem cX {z by_ x y}:Rd C .im Q (.dr ps (⟨d,.append z by_ x y,none⟩::l) es::k) s↔Ekd C .im Q (opf s d (.append z by_ x y)) d ps l es k s:=by
 rw[y4 rfl (by intros;first | rfl | contradiction)];exact Iff.rfl
theorem zOI {z take x lo hi}:Rd C .im Q (.ops (⟨d,.slice z take x lo hi,none⟩::l)::k) s↔Ek C .im Q (opf s d (.slice z take x lo hi)) d l k s:=by
 rw[wM rfl (by intros;first | rfl | contradiction)];exact Iff.rfl
theorem zLN {take x}:Rd C .im Q (.dr ps (⟨d,.mov take x,none⟩::l) es::k) s↔Ekd C .im Q (opf s d (.mov take x)) d ps l es k s:=by
 rw[y4 rfl (by intros;first | rfl | contradiction)];exact Iff.rfl
theorem zLP {op e x y}:Rd C own Q (.dr ps (⟨d,.bin op e x y,none⟩::l) es::k) s↔Ekd C own Q (opf s d (.bin op e x y)) d ps l es k s:=by
 rw[y4 rfl (by intros;first | rfl | contradiction)];rw[xG rfl rfl rfl rfl];try exact Iff.rfl
end
section
variable {C:zQ} {Q:St->Prop} {k:List AI} {s:St} {l:List AOper} {d:Option Nat} {ps:List (Nat×Nat)} {es:List Eff}
theorem cR {z take x lo hi}:Rd C .fr Q (.dr ps (⟨d,.slice z take x lo hi,none⟩::l) es::k) s↔Ekd C .fr Q (match opf s d (.slice z take x lo hi) with | some e=>some e | none=>opfO s d (.slice z take x lo hi)) d ps l es k s:=by
 rw[y4 rfl (by intros;first | rfl | contradiction)];exact Iff.rfl
theorem zFW {take x}:Rd C .fr Q (.dr ps (⟨d,.mov take x,none⟩::l) es::k) s↔Ekd C .fr Q (match opf s d (.mov take x) with | some e=>some e | none=>opfO s d (.mov take x)) d ps l es k s:=by
 rw[y4 rfl (by intros;first | rfl | contradiction)];exact Iff.rfl
theorem rQ {z bytes x y e} (h:opf s d (.append z bytes x y)=some e\/∃slot,opfO s slot (.append z bytes x y)=some e) (hk:Rd C .fr Q (.dr ps l (es++[e])::k) (s.app d e)):Rd C .fr Q (.dr ps (⟨d,.append z bytes x y,none⟩::l) es::k) s:=
 .drApp rfl rfl ⟨rfl,h.imp_right .inl⟩ hk
end
section
variable {C:zQ} {Q:St->Prop} {k:List AI} {n D:Nat} {τ:Nat->AV} {ω:Nat->Ent} {S:Nat->Nat->Ent} {l:List AOper} {d:Nat}
theorem zVL {s}:Rd C .pl Q (.c .ret::k) s↔Q s:=zAN (by simp)
theorem zON {x}:Rd C .pl Q (.ops (⟨some d,.mov false x,none⟩::l)::k) (stF n D τ ω S)↔
  Rd C .pl Q (.ops l::k) (stF n D (upd τ d ((stF n D τ ω S).ev x)) ω S):=by
 rw[wM rfl (by intros;first | rfl | contradiction)];simp[xT,evN,AOp.isPl,AOp.isLd,AOp.isMv,opfO,yC,yE]
theorem zOL {v}:Rd C .pl Q (.ops (⟨some d,.mov true (.c v),none⟩::l)::k) (stF n D τ ω S)↔
  Rd C .pl Q (.ops l::k) (stF n D (upd τ d v) ω S):=by
 rw[wM rfl (by intros;first | rfl | contradiction)];simp[xT,evN,AOp.isPl,AOp.isLd,AOp.isMv,opfO,yC,yE,Opd.tmp,St.evr]
theorem zOJ {i}:Rd C .pl Q (.ops (⟨some d,.mov true (.t i),none⟩::l)::k) (stF n D τ ω S)↔
  Rd C .pl Q (.ops l::k) (stF n D (upd (left τ i (τ i)) d ((stF n D τ ω S).rd i)) ω S):=by
 rw[wM rfl (by intros;first | rfl | contradiction),<-aD];simp[xT,evN,AOp.isPl,AOp.isLd,AOp.isMv,opfO,yC,yE,Opd.tmp,St.evr,pS]
end
section
variable {C:zQ} {Q:St->Prop} {k:List AI} {s:St} {l:List AOper} {d:Option Nat} {ps:List (Nat×Nat)} {es:List Eff}
theorem zAP {ag m take p}:Rd C .pl Q (.dr ps (⟨d,.load ag m take p,none⟩::l) es::k) s↔Ekd C .pl Q (opf s d (.load ag m false p)) d ps l es k s:=by
 rw[y4 rfl (by intros;first | rfl | contradiction)];exact Iff.rfl
theorem zFV {take x}:Rd C .pl Q (.dr ps (⟨d,.mov take x,none⟩::l) es::k) s↔Ekd C .pl Q (opfO s d (.mov take x)) d ps l es k s:=by
 rw[y4 rfl (by intros;first | rfl | contradiction)];exact Iff.rfl
theorem zLK {op e} (hp:op.isPl=true) (h:opf s d op=some e) (hk:Rd C .pl Q (.ops l::k) (s.app d e)):Rd C .pl Q (.ops (⟨d,op,none⟩::l)::k) s:=
 .opsPl rfl rfl ⟨hp,.inl h⟩ hk
theorem yEP {op e} (dd i:Nat) (hp:op.isPl=true) (h:opfP s dd i op=some e) (hk:Rd C .pl Q (.ops l::k) (s.app d e)):Rd C .pl Q (.ops (⟨d,op,none⟩::l)::k) s:=
 .opsPl rfl rfl ⟨hp,.inr ⟨dd,i,h⟩⟩ hk
theorem jV {op e} (dd i:Nat) (hp:op.isPl=true) (h:opfP s dd i op=some e) (hk:Rd C .pl Q (.dr ps l (es++[e])::k) (s.app d e)):Rd C .pl Q (.dr ps (⟨d,op,none⟩::l) es::k) s:=
 .drPl rfl rfl ⟨hp,.inr ⟨dd,i,h⟩⟩ hk
end
section
variable {P:Program} {G:Nat->Option (List AV)} {L:xC} {T:FuncId->Option FnC}
def RetQ (rs:List RV) (r:AV) (S:Nat->Nat->Ent):St->Prop:=fun s'=>resV s' rs=some r/\s'.S=S
theorem zVJ (rs:List RV) (r:AV) (S:Nat->Nat->Ent) (s':St):RetQ rs r S s'↔resV s' rs=some r/\s'.S=S:=Iff.rfl
theorem dM (hm:PGood P) (hT:TOk P G L T) {f:FuncId} {c:FnC} (hc:T f=some c) {args:List AV} {r:AV} {D:Nat} (md:Md) (hmd:md≠ .rn) (hl:args.length<=c.n)
  (h:∀S,Rd (Loc P G) md (fun s'=>resV s' c.rs=some r/\s'.S=S) [.c c.ac] (stF c.n D (vH 0 args) (fun _=>(0,.dead)) S)):Loc P G D f args [] r []:=by
 obtain ⟨fn,code,t1,t2,t3,t4,t5,t6⟩:=hT f c hc;refine nI (L:=L) hm t1 t2 t3 t4 t5 fun S _=> ?_;rw[t6,wG _ _ _ _ hl];exact ((h S).run hmd).imp fun s' ⟨h1,h2⟩=>⟨h1,fun d i _=>by rw[h2];rfl⟩
theorem zP (hm:PGood P) (hT:TOk P G L T) {f n:Nat} {ac:AC} {rs:List RV} {own:Bool} (hc:T f=some ⟨n,ac,rs,own⟩) {args:List AV} {r:AV} {D:Nat} (hl:Nat.ble args.length n=true)
  (h:∀S,Rd (Loc P G) .im (RetQ rs r S) [.c ac] (stF n D (vH 0 args) (fun _=>(0,.dead)) S)):Loc P G D f args [] r []:=
 dM hm hT hc .im (by simp) (yOP hl) h
theorem zTO (hm:PGood P) (hT:TOk P G L T) {f n:Nat} {ac:AC} {rs:List RV} {own:Bool} (hc:T f=some ⟨n,ac,rs,own⟩) {args:List AV} {r:AV} {D:Nat} (hl:Nat.ble args.length n=true)
  (h:∀S,Rd (Loc P G) .fr (RetQ rs r S) [.c ac] (stF n D (vH 0 args) (fun _=>(0,.dead)) S)):Loc P G D f args [] r []:=
 dM hm hT hc .fr (by simp) (yOP hl) h
end
end Go.Ab
/- Rules for rewriting: values,and the commonest operations on states that are given by functions. -/
namespace Go.Ab
open Go
@[simp] theorem yHQ (b:Bool):AV.dem (AV.bool b)=AV.bool b:=rfl
@[simp] theorem yDT (b:Bool):AV.dem1 (AV.bool b)=AV.bool b:=rfl
@[simp] theorem zYI (b:Bool):AV.cells (AV.bool b)= [AV.bool b]:=rfl
@[simp] theorem yGG (b:Bool):AV.one (AV.bool b)=true:=rfl
@[simp] theorem zXF (b:Bool):AV.strip (AV.bool b)=AV.bool b:=rfl
@[simp] theorem zRI (b:Bool):AV.strip1 (AV.bool b)=AV.bool b:=rfl
@[simp] theorem yCS (b:Bool):AV.keep (AV.bool b)=AV.bool b:=rfl
@[simp] theorem yCY (b:Bool):AV.isSl (AV.bool b)=false:=rfl
@[simp] theorem yFZ (b:Bool):AV.stc (AV.bool b)= [AV.var1 (AV.bool b)]:=rfl
@[simp] theorem zYT (b:Bool):AV.var1 (AV.bool b)=AV.bool b:=rfl
@[simp] theorem zRO (b:Bool):AV.still1 (AV.bool b)=true:=rfl
@[simp] theorem zQQ (D:Nat) (b:Bool):AV.upto D 20 (AV.bool b)=true:=rfl
@[simp] theorem zQW (D:Nat) (b:Bool):AV.upto D 19 (AV.bool b)=true:=rfl
@[simp] theorem yCB (τ:Nat->AV) (i:Nat) (b:Bool):left τ i (AV.bool b)=τ:=rfl
@[simp] theorem yDF (s:St) (b:Bool):frz s frzD (AV.bool b)=some (AV.bool b,[]):=rfl
@[simp] theorem yNU:AV.dem AV.ub=AV.ub:=rfl
@[simp] theorem yMA:AV.dem1 AV.ub=AV.ub:=rfl
@[simp] theorem yIA:AV.cells AV.ub= [AV.ub]:=rfl
@[simp] theorem yNM:AV.one AV.ub=true:=rfl
@[simp] theorem yFO:AV.strip AV.ub=AV.ub:=rfl
@[simp] theorem zZX:AV.strip1 AV.ub=AV.ub:=rfl
@[simp] theorem yLA:AV.keep AV.ub=AV.ub:=rfl
@[simp] theorem yLH:AV.isSl AV.ub=false:=rfl
@[simp] theorem yNF:AV.stc AV.ub= [AV.var1 AV.ub]:=rfl
@[simp] theorem yJE:AV.var1 AV.ub=AV.ub:=rfl
@[simp] theorem yAE:AV.still1 AV.ub=false:=rfl
@[simp] theorem zYV (D:Nat):AV.upto D 20 AV.ub=true:=rfl
@[simp] theorem zZC (D:Nat):AV.upto D 19 AV.ub=true:=rfl
@[simp] theorem yKS (τ:Nat->AV) (i:Nat):left τ i AV.ub=τ:=rfl
@[simp] theorem yLV (kd:IntKind) (i:Int):AV.dem (AV.int kd i)=AV.int kd i:=rfl
@[simp] theorem yHV (kd:IntKind) (i:Int):AV.dem1 (AV.int kd i)=AV.int kd i:=rfl
@[simp] theorem yEB (kd:IntKind) (i:Int):AV.cells (AV.int kd i)= [AV.int kd i]:=rfl
@[simp] theorem yKM (kd:IntKind) (i:Int):AV.one (AV.int kd i)=true:=rfl
@[simp] theorem zZS (kd:IntKind) (i:Int):AV.strip (AV.int kd i)=AV.int kd i:=rfl
@[simp] theorem zXK (kd:IntKind) (i:Int):AV.strip1 (AV.int kd i)=AV.int kd i:=rfl
@[simp] theorem yGW (kd:IntKind) (i:Int):AV.keep (AV.int kd i)=AV.int kd i:=rfl
@[simp] theorem yHE (kd:IntKind) (i:Int):AV.isSl (AV.int kd i)=false:=rfl
@[simp] theorem yJU (kd:IntKind) (i:Int):AV.stc (AV.int kd i)= [AV.var1 (AV.int kd i)]:=rfl
@[simp] theorem yFF (kd:IntKind) (i:Int):AV.var1 (AV.int kd i)=AV.int kd i:=rfl
@[simp] theorem zXT (kd:IntKind) (i:Int):AV.still1 (AV.int kd i)=true:=rfl
@[simp] theorem zWO (D:Nat) (kd:IntKind) (i:Int):AV.upto D 20 (AV.int kd i)=true:=rfl
@[simp] theorem zWU (D:Nat) (kd:IntKind) (i:Int):AV.upto D 19 (AV.int kd i)=true:=rfl
@[simp] theorem yGN (τ:Nat->AV) (i:Nat) (kd:IntKind) (m:Int):left τ i (AV.int kd m)=τ:=rfl
@[simp] theorem yHJ (s:St) (kd:IntKind) (i:Int):frz s frzD (AV.int kd i)=some (AV.int kd i,[]):=rfl
@[simp] theorem yLS (x:ByteArray):AV.dem (AV.str x)=AV.str x:=rfl
@[simp] theorem yHS (x:ByteArray):AV.dem1 (AV.str x)=AV.str x:=rfl
@[simp] theorem yDY (x:ByteArray):AV.cells (AV.str x)= [AV.str x]:=rfl
@[simp] theorem yKJ (x:ByteArray):AV.one (AV.str x)=true:=rfl
@[simp] theorem zZP (x:ByteArray):AV.strip (AV.str x)=AV.str x:=rfl
@[simp] theorem zXH (x:ByteArray):AV.strip1 (AV.str x)=AV.str x:=rfl
@[simp] theorem yGT (x:ByteArray):AV.keep (AV.str x)=AV.str x:=rfl
@[simp] theorem yHB (x:ByteArray):AV.isSl (AV.str x)=false:=rfl
@[simp] theorem yJR (x:ByteArray):AV.stc (AV.str x)= [AV.var1 (AV.str x)]:=rfl
@[simp] theorem yFC (x:ByteArray):AV.var1 (AV.str x)=AV.str x:=rfl
@[simp] theorem zXQ (x:ByteArray):AV.still1 (AV.str x)=true:=rfl
@[simp] theorem zWL (D:Nat) (x:ByteArray):AV.upto D 20 (AV.str x)=true:=rfl
@[simp] theorem zWR (D:Nat) (x:ByteArray):AV.upto D 19 (AV.str x)=true:=rfl
@[simp] theorem yGK (τ:Nat->AV) (i:Nat) (x:ByteArray):left τ i (AV.str x)=τ:=rfl
@[simp] theorem yHI (s:St) (x:ByteArray):frz s frzD (AV.str x)=some (AV.str x,[]):=rfl
@[simp] theorem yHL:AV.dem AV.nilp=AV.nilp:=rfl
@[simp] theorem yDO:AV.dem1 AV.nilp=AV.nilp:=rfl
@[simp] theorem zYD:AV.cells AV.nilp= [AV.nilp]:=rfl
@[simp] theorem yGB:AV.one AV.nilp=true:=rfl
@[simp] theorem zXA:AV.strip AV.nilp=AV.nilp:=rfl
@[simp] theorem zRD:AV.strip1 AV.nilp=AV.nilp:=rfl
@[simp] theorem yCN:AV.keep AV.nilp=AV.nilp:=rfl
@[simp] theorem yCT:AV.isSl AV.nilp=false:=rfl
@[simp] theorem yFU:AV.stc AV.nilp= [AV.var1 AV.nilp]:=rfl
@[simp] theorem zYO:AV.var1 AV.nilp=AV.nilp:=rfl
@[simp] theorem zRJ:AV.still1 AV.nilp=true:=rfl
@[simp] theorem zQL (D:Nat):AV.upto D 20 AV.nilp=true:=rfl
@[simp] theorem zQR (D:Nat):AV.upto D 19 AV.nilp=true:=rfl
@[simp] theorem yBW (τ:Nat->AV) (i:Nat):left τ i AV.nilp=τ:=rfl
@[simp] theorem yDB (s:St):frz s frzD AV.nilp=some (AV.nilp,[]):=rfl
@[simp] theorem yHO:AV.dem AV.nilf=AV.nilf:=rfl
@[simp] theorem yDR:AV.dem1 AV.nilf=AV.nilf:=rfl
@[simp] theorem zYG:AV.cells AV.nilf= [AV.nilf]:=rfl
@[simp] theorem yGE:AV.one AV.nilf=true:=rfl
@[simp] theorem zXD:AV.strip AV.nilf=AV.nilf:=rfl
@[simp] theorem zRG:AV.strip1 AV.nilf=AV.nilf:=rfl
@[simp] theorem yCQ:AV.keep AV.nilf=AV.nilf:=rfl
@[simp] theorem yCW:AV.isSl AV.nilf=false:=rfl
@[simp] theorem yFX:AV.stc AV.nilf= [AV.var1 AV.nilf]:=rfl
@[simp] theorem zYR:AV.var1 AV.nilf=AV.nilf:=rfl
@[simp] theorem zRM:AV.still1 AV.nilf=true:=rfl
@[simp] theorem zQO (D:Nat):AV.upto D 20 AV.nilf=true:=rfl
@[simp] theorem zQU (D:Nat):AV.upto D 19 AV.nilf=true:=rfl
@[simp] theorem yBZ (τ:Nat->AV) (i:Nat):left τ i AV.nilf=τ:=rfl
@[simp] theorem yDE (s:St):frz s frzD AV.nilf=some (AV.nilf,[]):=rfl
@[simp] theorem yHN:AV.dem AV.nili=AV.nili:=rfl
@[simp] theorem yDQ:AV.dem1 AV.nili=AV.nili:=rfl
@[simp] theorem zYF:AV.cells AV.nili= [AV.nili]:=rfl
@[simp] theorem yGD:AV.one AV.nili=true:=rfl
@[simp] theorem zXC:AV.strip AV.nili=AV.nili:=rfl
@[simp] theorem zRF:AV.strip1 AV.nili=AV.nili:=rfl
@[simp] theorem yCP:AV.keep AV.nili=AV.nili:=rfl
@[simp] theorem yCV:AV.isSl AV.nili=false:=rfl
@[simp] theorem yFW:AV.stc AV.nili= [AV.var1 AV.nili]:=rfl
@[simp] theorem zYQ:AV.var1 AV.nili=AV.nili:=rfl
@[simp] theorem zRL:AV.still1 AV.nili=true:=rfl
@[simp] theorem zQN (D:Nat):AV.upto D 20 AV.nili=true:=rfl
@[simp] theorem zQT (D:Nat):AV.upto D 19 AV.nili=true:=rfl
@[simp] theorem yBY (τ:Nat->AV) (i:Nat):left τ i AV.nili=τ:=rfl
@[simp] theorem yDD (s:St):frz s frzD AV.nili=some (AV.nili,[]):=rfl
@[simp] theorem yHM:AV.dem AV.nilm=AV.nilm:=rfl
@[simp] theorem yDP:AV.dem1 AV.nilm=AV.nilm:=rfl
@[simp] theorem zYE:AV.cells AV.nilm= [AV.nilm]:=rfl
@[simp] theorem yGC:AV.one AV.nilm=true:=rfl
@[simp] theorem zXB:AV.strip AV.nilm=AV.nilm:=rfl
@[simp] theorem zRE:AV.strip1 AV.nilm=AV.nilm:=rfl
@[simp] theorem yCO:AV.keep AV.nilm=AV.nilm:=rfl
@[simp] theorem yCU:AV.isSl AV.nilm=false:=rfl
@[simp] theorem yFV:AV.stc AV.nilm= [AV.var1 AV.nilm]:=rfl
@[simp] theorem zYP:AV.var1 AV.nilm=AV.nilm:=rfl
@[simp] theorem zRK:AV.still1 AV.nilm=true:=rfl
@[simp] theorem zQM (D:Nat):AV.upto D 20 AV.nilm=true:=rfl
@[simp] theorem zQS (D:Nat):AV.upto D 19 AV.nilm=true:=rfl
@[simp] theorem yBX (τ:Nat->AV) (i:Nat):left τ i AV.nilm=τ:=rfl
@[simp] theorem yDC (s:St):frz s frzD AV.nilm=some (AV.nilm,[]):=rfl
@[simp] theorem yNV (z:Nat) (xs:List AV) (t:Tip):AV.dem (AV.sl z xs t)=AV.sl z xs t.dem:=rfl
@[simp] theorem yMB (z:Nat) (xs:List AV) (t:Tip):AV.dem1 (AV.sl z xs t)=AV.sl z xs t.dem:=rfl
@[simp] theorem yIB (z:Nat) (xs:List AV) (t:Tip):AV.cells (AV.sl z xs t)= [AV.sl z xs t]:=rfl
@[simp] theorem yNN (z:Nat) (xs:List AV) (t:Tip):AV.one (AV.sl z xs t)=true:=rfl
@[simp] theorem yFP (z:Nat) (xs:List AV) (t:Tip):AV.strip (AV.sl z xs t)=AV.sl z xs .no:=rfl
@[simp] theorem zZY (z:Nat) (xs:List AV) (t:Tip):AV.strip1 (AV.sl z xs t)=AV.sl z xs .no:=rfl
@[simp] theorem yLB (z:Nat) (xs:List AV) (t:Tip):AV.keep (AV.sl z xs t)=AV.sl z xs t:=rfl
@[simp] theorem yLI (z:Nat) (xs:List AV) (t:Tip):AV.isSl (AV.sl z xs t)=true:=rfl
@[simp] theorem yNG (z:Nat) (xs:List AV) (t:Tip):AV.stc (AV.sl z xs t)= [AV.var1 (AV.sl z xs t)]:=rfl
@[simp] theorem yAF (z:Nat) (xs:List AV) (t:Tip):AV.still1 (AV.sl z xs t)=true:=rfl
@[simp] theorem zYW (D:Nat) (z:Nat) (xs:List AV) (t:Tip):AV.upto D 20 (AV.sl z xs t)=true:=rfl
@[simp] theorem zZD (D:Nat) (z:Nat) (xs:List AV) (t:Tip):AV.upto D 19 (AV.sl z xs t)=true:=rfl
@[simp] theorem yKT (τ:Nat->AV) (i:Nat) (z:Nat) (xs:List AV) (t:Tip):left τ i (AV.sl z xs t)=upd τ i (AV.sl z xs t.dem):=rfl
@[simp] theorem yLP (s:St) (z:Nat) (xs:List AV) (t:Tip):frz s frzD (AV.sl z xs t)=some (AV.sl z xs t,[]):=rfl
@[simp] theorem yLX (cs:List AV) (off:Nat):AV.dem (AV.box cs off)=AV.box cs off:=rfl
@[simp] theorem yHX (cs:List AV) (off:Nat):AV.dem1 (AV.box cs off)=AV.box cs off:=rfl
@[simp] theorem yED (cs:List AV) (off:Nat):AV.cells (AV.box cs off)= [AV.box cs off]:=rfl
@[simp] theorem yKO (cs:List AV) (off:Nat):AV.one (AV.box cs off)=true:=rfl
@[simp] theorem zZU (cs:List AV) (off:Nat):AV.strip (AV.box cs off)=AV.box cs off:=rfl
@[simp] theorem zXM (cs:List AV) (off:Nat):AV.strip1 (AV.box cs off)=AV.box cs off:=rfl
@[simp] theorem yGY (cs:List AV) (off:Nat):AV.keep (AV.box cs off)=AV.box cs off:=rfl
@[simp] theorem yHG (cs:List AV) (off:Nat):AV.isSl (AV.box cs off)=false:=rfl
@[simp] theorem yJW (cs:List AV) (off:Nat):AV.stc (AV.box cs off)= [AV.var1 (AV.box cs off)]:=rfl
@[simp] theorem yFH (cs:List AV) (off:Nat):AV.var1 (AV.box cs off)=AV.box cs off:=rfl
@[simp] theorem zXV (cs:List AV) (off:Nat):AV.still1 (AV.box cs off)=true:=rfl
@[simp] theorem zWP (D:Nat) (cs:List AV) (off:Nat):AV.upto D 20 (AV.box cs off)=true:=rfl
@[simp] theorem zWV (D:Nat) (cs:List AV) (off:Nat):AV.upto D 19 (AV.box cs off)=true:=rfl
@[simp] theorem yGP (τ:Nat->AV) (i:Nat) (cs:List AV) (off:Nat):left τ i (AV.box cs off)=τ:=rfl
@[simp] theorem yHK (s:St) (cs:List AV) (off:Nat):frz s frzD (AV.box cs off)=some (AV.box cs off,[]):=rfl
@[simp] theorem yLT (d:Nat) (j:Nat) (g:Nat) (off:Nat):AV.dem (AV.ptr d j g off)=AV.ptr d j g off:=rfl
@[simp] theorem yHT (d:Nat) (j:Nat) (g:Nat) (off:Nat):AV.dem1 (AV.ptr d j g off)=AV.ptr d j g off:=rfl
@[simp] theorem yDZ (d:Nat) (j:Nat) (g:Nat) (off:Nat):AV.cells (AV.ptr d j g off)= [AV.ptr d j g off]:=rfl
@[simp] theorem yKK (d:Nat) (j:Nat) (g:Nat) (off:Nat):AV.one (AV.ptr d j g off)=true:=rfl
@[simp] theorem zZQ (d:Nat) (j:Nat) (g:Nat) (off:Nat):AV.strip (AV.ptr d j g off)=AV.ptr d j g off:=rfl
@[simp] theorem zXI (d:Nat) (j:Nat) (g:Nat) (off:Nat):AV.strip1 (AV.ptr d j g off)=AV.ptr d j g off:=rfl
@[simp] theorem yGU (d:Nat) (j:Nat) (g:Nat) (off:Nat):AV.keep (AV.ptr d j g off)=AV.ptr d j g off:=rfl
@[simp] theorem yHC (d:Nat) (j:Nat) (g:Nat) (off:Nat):AV.isSl (AV.ptr d j g off)=false:=rfl
@[simp] theorem yJS (d:Nat) (j:Nat) (g:Nat) (off:Nat):AV.stc (AV.ptr d j g off)= [AV.var1 (AV.ptr d j g off)]:=rfl
@[simp] theorem yFD (d:Nat) (j:Nat) (g:Nat) (off:Nat):AV.var1 (AV.ptr d j g off)=AV.ptr d j g off:=rfl
@[simp] theorem zXR (d:Nat) (j:Nat) (g:Nat) (off:Nat):AV.still1 (AV.ptr d j g off)=false:=rfl
@[simp] theorem zWM (D:Nat) (d:Nat) (j:Nat) (g:Nat) (off:Nat):AV.upto D 20 (AV.ptr d j g off)=decide (d<=D):=rfl
@[simp] theorem zWS (D:Nat) (d:Nat) (j:Nat) (g:Nat) (off:Nat):AV.upto D 19 (AV.ptr d j g off)=decide (d<=D):=rfl
@[simp] theorem yGL (τ:Nat->AV) (i:Nat) (d:Nat) (j:Nat) (g:Nat) (off:Nat):left τ i (AV.ptr d j g off)=τ:=rfl
@[simp] theorem yLU (d:Nat) (j:Nat) (g:Nat) (off:Nat) (len:Nat) (z:Nat) (ea:Bool):AV.dem (AV.own d j g off len z ea)=AV.own d j g off len z ea:=rfl
@[simp] theorem yHU (d:Nat) (j:Nat) (g:Nat) (off:Nat) (len:Nat) (z:Nat) (ea:Bool):AV.dem1 (AV.own d j g off len z ea)=AV.own d j g off len z ea:=rfl
@[simp] theorem yEA (d:Nat) (j:Nat) (g:Nat) (off:Nat) (len:Nat) (z:Nat) (ea:Bool):AV.cells (AV.own d j g off len z ea)= [AV.own d j g off len z ea]:=rfl
@[simp] theorem yKL (d:Nat) (j:Nat) (g:Nat) (off:Nat) (len:Nat) (z:Nat) (ea:Bool):AV.one (AV.own d j g off len z ea)=true:=rfl
@[simp] theorem zZR (d:Nat) (j:Nat) (g:Nat) (off:Nat) (len:Nat) (z:Nat) (ea:Bool):AV.strip (AV.own d j g off len z ea)=AV.own d j g off len z ea:=rfl
@[simp] theorem zXJ (d:Nat) (j:Nat) (g:Nat) (off:Nat) (len:Nat) (z:Nat) (ea:Bool):AV.strip1 (AV.own d j g off len z ea)=AV.own d j g off len z ea:=rfl
@[simp] theorem yGV (d:Nat) (j:Nat) (g:Nat) (off:Nat) (len:Nat) (z:Nat) (ea:Bool):AV.keep (AV.own d j g off len z ea)=AV.own d j g off len z ea:=rfl
@[simp] theorem yHD (d:Nat) (j:Nat) (g:Nat) (off:Nat) (len:Nat) (z:Nat) (ea:Bool):AV.isSl (AV.own d j g off len z ea)=false:=rfl
@[simp] theorem yJT (d:Nat) (j:Nat) (g:Nat) (off:Nat) (len:Nat) (z:Nat) (ea:Bool):AV.stc (AV.own d j g off len z ea)= [AV.var1 (AV.own d j g off len z ea)]:=rfl
@[simp] theorem yFE (d:Nat) (j:Nat) (g:Nat) (off:Nat) (len:Nat) (z:Nat) (ea:Bool):AV.var1 (AV.own d j g off len z ea)=AV.own d j g off len z ea:=rfl
@[simp] theorem zXS (d:Nat) (j:Nat) (g:Nat) (off:Nat) (len:Nat) (z:Nat) (ea:Bool):AV.still1 (AV.own d j g off len z ea)=false:=rfl
@[simp] theorem zWN (D:Nat) (d:Nat) (j:Nat) (g:Nat) (off:Nat) (len:Nat) (z:Nat) (ea:Bool):AV.upto D 20 (AV.own d j g off len z ea)=decide (d<=D):=rfl
@[simp] theorem zWT (D:Nat) (d:Nat) (j:Nat) (g:Nat) (off:Nat) (len:Nat) (z:Nat) (ea:Bool):AV.upto D 19 (AV.own d j g off len z ea)=decide (d<=D):=rfl
@[simp] theorem yGM (τ:Nat->AV) (i:Nat) (d:Nat) (j:Nat) (g:Nat) (off:Nat) (len:Nat) (z:Nat) (ea:Bool):left τ i (AV.own d j g off len z ea)=τ:=rfl
@[simp] theorem yNW (d:Nat) (j:Nat) (g:Nat):AV.dem (AV.mp d j g)=AV.mp d j g:=rfl
@[simp] theorem yMC (d:Nat) (j:Nat) (g:Nat):AV.dem1 (AV.mp d j g)=AV.mp d j g:=rfl
@[simp] theorem yIC (d:Nat) (j:Nat) (g:Nat):AV.cells (AV.mp d j g)= [AV.mp d j g]:=rfl
@[simp] theorem yNO (d:Nat) (j:Nat) (g:Nat):AV.one (AV.mp d j g)=true:=rfl
@[simp] theorem yFQ (d:Nat) (j:Nat) (g:Nat):AV.strip (AV.mp d j g)=AV.mp d j g:=rfl
@[simp] theorem zZZ (d:Nat) (j:Nat) (g:Nat):AV.strip1 (AV.mp d j g)=AV.mp d j g:=rfl
@[simp] theorem yLC (d:Nat) (j:Nat) (g:Nat):AV.keep (AV.mp d j g)=AV.mp d j g:=rfl
@[simp] theorem yLJ (d:Nat) (j:Nat) (g:Nat):AV.isSl (AV.mp d j g)=false:=rfl
@[simp] theorem yNH (d:Nat) (j:Nat) (g:Nat):AV.stc (AV.mp d j g)= [AV.var1 (AV.mp d j g)]:=rfl
@[simp] theorem yJF (d:Nat) (j:Nat) (g:Nat):AV.var1 (AV.mp d j g)=AV.mp d j g:=rfl
@[simp] theorem yAG (d:Nat) (j:Nat) (g:Nat):AV.still1 (AV.mp d j g)=false:=rfl
@[simp] theorem zYX (D:Nat) (d:Nat) (j:Nat) (g:Nat):AV.upto D 20 (AV.mp d j g)=decide (d<=D):=rfl
@[simp] theorem zZE (D:Nat) (d:Nat) (j:Nat) (g:Nat):AV.upto D 19 (AV.mp d j g)=decide (d<=D):=rfl
@[simp] theorem yKU (τ:Nat->AV) (i:Nat) (d:Nat) (j:Nat) (g:Nat):left τ i (AV.mp d j g)=τ:=rfl
@[simp] theorem yNY (d:Nat) (j:Nat) (g:Nat):AV.dem (AV.ch d j g)=AV.ch d j g:=rfl
@[simp] theorem yME (d:Nat) (j:Nat) (g:Nat):AV.dem1 (AV.ch d j g)=AV.ch d j g:=rfl
@[simp] theorem yIE (d:Nat) (j:Nat) (g:Nat):AV.cells (AV.ch d j g)= [AV.ch d j g]:=rfl
@[simp] theorem yNQ (d:Nat) (j:Nat) (g:Nat):AV.one (AV.ch d j g)=true:=rfl
@[simp] theorem yFS (d:Nat) (j:Nat) (g:Nat):AV.strip (AV.ch d j g)=AV.ch d j g:=rfl
@[simp] theorem yAB (d:Nat) (j:Nat) (g:Nat):AV.strip1 (AV.ch d j g)=AV.ch d j g:=rfl
@[simp] theorem yLE (d:Nat) (j:Nat) (g:Nat):AV.keep (AV.ch d j g)=AV.ch d j g:=rfl
@[simp] theorem yLL (d:Nat) (j:Nat) (g:Nat):AV.isSl (AV.ch d j g)=false:=rfl
@[simp] theorem yNJ (d:Nat) (j:Nat) (g:Nat):AV.stc (AV.ch d j g)= [AV.var1 (AV.ch d j g)]:=rfl
@[simp] theorem yJH (d:Nat) (j:Nat) (g:Nat):AV.var1 (AV.ch d j g)=AV.ch d j g:=rfl
@[simp] theorem yAI (d:Nat) (j:Nat) (g:Nat):AV.still1 (AV.ch d j g)=false:=rfl
@[simp] theorem zYZ (D:Nat) (d:Nat) (j:Nat) (g:Nat):AV.upto D 20 (AV.ch d j g)=decide (d<=D):=rfl
@[simp] theorem zZG (D:Nat) (d:Nat) (j:Nat) (g:Nat):AV.upto D 19 (AV.ch d j g)=decide (d<=D):=rfl
@[simp] theorem yKW (τ:Nat->AV) (i:Nat) (d:Nat) (j:Nat) (g:Nat):left τ i (AV.ch d j g)=τ:=rfl
@[simp] theorem yNT (d:Nat) (j:Nat) (g:Nat):AV.dem (AV.yl d j g)=AV.yl d j g:=rfl
@[simp] theorem yLZ (d:Nat) (j:Nat) (g:Nat):AV.dem1 (AV.yl d j g)=AV.yl d j g:=rfl
@[simp] theorem yHZ (d:Nat) (j:Nat) (g:Nat):AV.cells (AV.yl d j g)= [AV.yl d j g]:=rfl
@[simp] theorem yNL (d:Nat) (j:Nat) (g:Nat):AV.one (AV.yl d j g)=true:=rfl
@[simp] theorem yFN (d:Nat) (j:Nat) (g:Nat):AV.strip (AV.yl d j g)=AV.yl d j g:=rfl
@[simp] theorem zZW (d:Nat) (j:Nat) (g:Nat):AV.strip1 (AV.yl d j g)=AV.yl d j g:=rfl
@[simp] theorem yKZ (d:Nat) (j:Nat) (g:Nat):AV.keep (AV.yl d j g)=AV.yl d j g:=rfl
@[simp] theorem yLG (d:Nat) (j:Nat) (g:Nat):AV.isSl (AV.yl d j g)=false:=rfl
@[simp] theorem yNE (d:Nat) (j:Nat) (g:Nat):AV.stc (AV.yl d j g)= [AV.var1 (AV.yl d j g)]:=rfl
@[simp] theorem yJD (d:Nat) (j:Nat) (g:Nat):AV.var1 (AV.yl d j g)=AV.yl d j g:=rfl
@[simp] theorem yAD (d:Nat) (j:Nat) (g:Nat):AV.still1 (AV.yl d j g)=false:=rfl
@[simp] theorem zYU (D:Nat) (d:Nat) (j:Nat) (g:Nat):AV.upto D 20 (AV.yl d j g)=decide (d<=D):=rfl
@[simp] theorem zZB (D:Nat) (d:Nat) (j:Nat) (g:Nat):AV.upto D 19 (AV.yl d j g)=decide (d<=D):=rfl
@[simp] theorem yKR (τ:Nat->AV) (i:Nat) (d:Nat) (j:Nat) (g:Nat):left τ i (AV.yl d j g)=τ:=rfl
@[simp] theorem yNX (f:FuncId) (cap:List AV):AV.dem (AV.fn f cap)=AV.fn f cap:=rfl
@[simp] theorem yMD (f:FuncId) (cap:List AV):AV.dem1 (AV.fn f cap)=AV.fn f cap:=rfl
@[simp] theorem yID (f:FuncId) (cap:List AV):AV.cells (AV.fn f cap)= [AV.fn f cap]:=rfl
@[simp] theorem yNP (f:FuncId) (cap:List AV):AV.one (AV.fn f cap)=true:=rfl
@[simp] theorem yFR (f:FuncId) (cap:List AV):AV.strip (AV.fn f cap)=AV.fn f cap:=rfl
@[simp] theorem yAA (f:FuncId) (cap:List AV):AV.strip1 (AV.fn f cap)=AV.fn f cap:=rfl
@[simp] theorem yLD (f:FuncId) (cap:List AV):AV.keep (AV.fn f cap)=AV.fn f cap:=rfl
@[simp] theorem yLK (f:FuncId) (cap:List AV):AV.isSl (AV.fn f cap)=false:=rfl
@[simp] theorem yNI (f:FuncId) (cap:List AV):AV.stc (AV.fn f cap)= [AV.var1 (AV.fn f cap)]:=rfl
@[simp] theorem yJG (f:FuncId) (cap:List AV):AV.var1 (AV.fn f cap)=AV.fn f cap:=rfl
@[simp] theorem yAH (f:FuncId) (cap:List AV):AV.still1 (AV.fn f cap)=false:=rfl
@[simp] theorem yKV (τ:Nat->AV) (i:Nat) (f:FuncId) (cap:List AV):left τ i (AV.fn f cap)=τ:=rfl
@[simp] theorem yHP (f:FuncId) (cap:List AV):AV.dem (AV.meth f cap)=AV.meth f cap:=rfl
@[simp] theorem yDS (f:FuncId) (cap:List AV):AV.dem1 (AV.meth f cap)=AV.meth f cap:=rfl
@[simp] theorem zYH (f:FuncId) (cap:List AV):AV.cells (AV.meth f cap)= [AV.meth f cap]:=rfl
@[simp] theorem yGF (f:FuncId) (cap:List AV):AV.one (AV.meth f cap)=true:=rfl
@[simp] theorem zXE (f:FuncId) (cap:List AV):AV.strip (AV.meth f cap)=AV.meth f cap:=rfl
@[simp] theorem zRH (f:FuncId) (cap:List AV):AV.strip1 (AV.meth f cap)=AV.meth f cap:=rfl
@[simp] theorem yCR (f:FuncId) (cap:List AV):AV.keep (AV.meth f cap)=AV.meth f cap:=rfl
@[simp] theorem yCX (f:FuncId) (cap:List AV):AV.isSl (AV.meth f cap)=false:=rfl
@[simp] theorem yFY (f:FuncId) (cap:List AV):AV.stc (AV.meth f cap)= [AV.var1 (AV.meth f cap)]:=rfl
@[simp] theorem zYS (f:FuncId) (cap:List AV):AV.var1 (AV.meth f cap)=AV.meth f cap:=rfl
@[simp] theorem zRN (f:FuncId) (cap:List AV):AV.still1 (AV.meth f cap)=false:=rfl
@[simp] theorem yCA (τ:Nat->AV) (i:Nat) (f:FuncId) (cap:List AV):left τ i (AV.meth f cap)=τ:=rfl
@[simp] theorem yNZ (h:Nat) (cs:List AV) (off:Nat):AV.dem (AV.bx h cs off)=AV.bx h cs off:=rfl
@[simp] theorem yMF (h:Nat) (cs:List AV) (off:Nat):AV.dem1 (AV.bx h cs off)=AV.bx h cs off:=rfl
@[simp] theorem yIF (h:Nat) (cs:List AV) (off:Nat):AV.cells (AV.bx h cs off)= [AV.bx h cs off]:=rfl
@[simp] theorem yNR (h:Nat) (cs:List AV) (off:Nat):AV.one (AV.bx h cs off)=true:=rfl
@[simp] theorem yFT (h:Nat) (cs:List AV) (off:Nat):AV.strip (AV.bx h cs off)=AV.bx h cs off:=rfl
@[simp] theorem yAC (h:Nat) (cs:List AV) (off:Nat):AV.strip1 (AV.bx h cs off)=AV.bx h cs off:=rfl
@[simp] theorem yLF (h:Nat) (cs:List AV) (off:Nat):AV.keep (AV.bx h cs off)=AV.bx h cs off:=rfl
@[simp] theorem yLM (h:Nat) (cs:List AV) (off:Nat):AV.isSl (AV.bx h cs off)=false:=rfl
@[simp] theorem yNK (h:Nat) (cs:List AV) (off:Nat):AV.stc (AV.bx h cs off)= [AV.var1 (AV.bx h cs off)]:=rfl
@[simp] theorem yJI (h:Nat) (cs:List AV) (off:Nat):AV.var1 (AV.bx h cs off)=AV.bx h cs off:=rfl
@[simp] theorem yAJ (h:Nat) (cs:List AV) (off:Nat):AV.still1 (AV.bx h cs off)=false:=rfl
@[simp] theorem yKX (τ:Nat->AV) (i:Nat) (h:Nat) (cs:List AV) (off:Nat):left τ i (AV.bx h cs off)=τ:=rfl
@[simp] theorem zZA (D:Nat) (h:Nat) (cs:List AV) (off:Nat):AV.upto D 20 (AV.bx h cs off)=decide (h<=D):=rfl
@[simp] theorem zZH (D:Nat) (h:Nat) (cs:List AV) (off:Nat):AV.upto D 19 (AV.bx h cs off)=decide (h<=D):=rfl
@[simp] theorem zZJ (D:Nat) (h:Nat) (cs:List AV) (off:Nat):AV.upto D 18 (AV.bx h cs off)=decide (h<=D):=rfl
@[simp] theorem zYY (D:Nat) (f:FuncId) (cap:List AV):AV.upto D 20 (AV.fn f cap)=cap.all (AV.upto D 19):=rfl
@[simp] theorem zZF (D:Nat) (f:FuncId) (cap:List AV):AV.upto D 19 (AV.fn f cap)=cap.all (AV.upto D 18):=rfl
@[simp] theorem zQP (D:Nat) (f:FuncId) (cap:List AV):AV.upto D 20 (AV.meth f cap)=cap.all (AV.upto D 19):=rfl
@[simp] theorem zQV (D:Nat) (f:FuncId) (cap:List AV):AV.upto D 19 (AV.meth f cap)=cap.all (AV.upto D 18):=rfl
@[simp] theorem yLW (t:TypeId) (v:AV):AV.dem (AV.ifc t v)=AV.ifc t v:=rfl
@[simp] theorem yHW (t:TypeId) (v:AV):AV.dem1 (AV.ifc t v)=AV.ifc t v:=rfl
@[simp] theorem yEC (t:TypeId) (v:AV):AV.cells (AV.ifc t v)= [AV.ifc t v]:=rfl
@[simp] theorem yKN (t:TypeId) (v:AV):AV.one (AV.ifc t v)=true:=rfl
@[simp] theorem zZT (t:TypeId) (v:AV):AV.strip (AV.ifc t v)=AV.ifc t v:=rfl
@[simp] theorem zXL (t:TypeId) (v:AV):AV.strip1 (AV.ifc t v)=AV.ifc t v:=rfl
@[simp] theorem yGX (t:TypeId) (v:AV):AV.keep (AV.ifc t v)=AV.ifc t v:=rfl
@[simp] theorem yHF (t:TypeId) (v:AV):AV.isSl (AV.ifc t v)=false:=rfl
@[simp] theorem yJV (t:TypeId) (v:AV):AV.stc (AV.ifc t v)= [AV.var1 (AV.ifc t v)]:=rfl
@[simp] theorem yFG (t:TypeId) (v:AV):AV.var1 (AV.ifc t v)=AV.ifc t v:=rfl
@[simp] theorem zXU (t:TypeId) (v:AV):AV.still1 (AV.ifc t v)=false:=rfl
@[simp] theorem yGO (τ:Nat->AV) (i:Nat) (t:TypeId) (v:AV):left τ i (AV.ifc t v)=τ:=rfl
@[simp] theorem yLY (cs:List AV):AV.dem (AV.agg cs)=AV.agg (cs.map AV.dem1):=rfl
@[simp] theorem yHY (cs:List AV):AV.dem1 (AV.agg cs)=AV.agg cs:=rfl
@[simp] theorem yEE (cs:List AV):AV.cells (AV.agg cs)=cs:=rfl
@[simp] theorem yKP (cs:List AV):AV.one (AV.agg cs)=false:=rfl
@[simp] theorem zZV (cs:List AV):AV.strip (AV.agg cs)=AV.agg (cs.map AV.strip1):=rfl
@[simp] theorem zXN (cs:List AV):AV.strip1 (AV.agg cs)=AV.agg cs:=rfl
@[simp] theorem yGZ (cs:List AV):AV.keep (AV.agg cs)=AV.agg (cs.map AV.strip1):=rfl
@[simp] theorem yHH (cs:List AV):AV.isSl (AV.agg cs)=false:=rfl
@[simp] theorem yJX (cs:List AV):AV.stc (AV.agg cs)=stcL cs:=rfl
attribute [simp] stcL
@[simp] theorem yFI (cs:List AV):AV.var1 (AV.agg cs)=AV.agg cs:=rfl
@[simp] theorem zXW (cs:List AV):AV.still1 (AV.agg cs)=false:=rfl
@[simp] theorem zWQ (D:Nat) (cs:List AV):AV.upto D 20 (AV.agg cs)=cs.all (AV.upto D 19):=rfl
@[simp] theorem yGQ (τ:Nat->AV) (i:Nat) (cs:List AV):left τ i (AV.agg cs)=upd τ i (AV.agg (cs.map AV.dem1)):=rfl
@[simp] theorem yLR (vs:List AV):AV.dem (AV.tup vs)=AV.tup (vs.map AV.dem1):=rfl
@[simp] theorem yHR (vs:List AV):AV.dem1 (AV.tup vs)=AV.tup vs:=rfl
@[simp] theorem yDX (vs:List AV):AV.cells (AV.tup vs)= [AV.tup vs]:=rfl
@[simp] theorem yKI (vs:List AV):AV.one (AV.tup vs)=false:=rfl
@[simp] theorem zZO (vs:List AV):AV.strip (AV.tup vs)=AV.tup (vs.map AV.strip1):=rfl
@[simp] theorem zXG (vs:List AV):AV.strip1 (AV.tup vs)=AV.tup vs:=rfl
@[simp] theorem yGS (vs:List AV):AV.keep (AV.tup vs)=AV.tup (vs.map AV.strip1):=rfl
@[simp] theorem yHA (vs:List AV):AV.isSl (AV.tup vs)=false:=rfl
@[simp] theorem yJQ (vs:List AV):AV.stc (AV.tup vs)= [AV.var1 (AV.tup vs)]:=rfl
@[simp] theorem yFB (vs:List AV):AV.var1 (AV.tup vs)=AV.tup vs:=rfl
@[simp] theorem zXP (vs:List AV):AV.still1 (AV.tup vs)=false:=rfl
@[simp] theorem yGJ (τ:Nat->AV) (i:Nat) (vs:List AV):left τ i (AV.tup vs)=upd τ i (AV.tup (vs.map AV.dem1)):=rfl
@[simp] theorem zWK (z:Nat) (xs:List AV):AV.var1 (.sl z xs .no)= .sl z xs .no:=rfl
@[simp] theorem zQI (z:Nat) (xs:List AV):AV.var1 (.sl z xs .tip)= .sl z xs .tip:=rfl
@[simp] theorem zQJ (z:Nat) (xs:List AV):AV.var1 (.sl z xs .nil)= .sl z xs .tip:=rfl
@[simp] theorem zZL:Tip.dem .no= .no:=rfl
@[simp] theorem zWY:Tip.dem .tip= .no:=rfl
@[simp] theorem zWZ:Tip.dem .nil= .nil:=rfl
@[simp] theorem yLN (kd:IntKind) (i:Int):AV.idx (.int kd i)=some i:=rfl
attribute [simp] xL r9 yE zME eZ yJZ bF zRR zMF zMG pR zRQ qN yD pQ pS yC vH zML zHV exitTo
attribute [simp ↓] yEO zLE zLF zOV yEU zVT zVK zVM zVN zVL yEQ zVW
attribute [simp] zVX zVV
attribute [simp] gI vQ zIX nK xT zOZ zVY zOY zOX zLV pH zVZ zPA zVE zVF zVG zUH yLO
@[simp] theorem yND:ud.dem=ud:=rfl
@[simp] theorem yFJ:ud.strip=ud:=rfl
@[simp] theorem yJL:ud.var1=ud:=rfl
@[simp] theorem yJM (τ:Nat->AV) (i:Nat):left τ i ud=upd τ i ud:=rfl
def zNA (ag:Bool) (m g off:Nat):Ent->Option AV
 | (g',.cells cs)=>if g'=g then (part ag m cs off).map AV.dem else none
 | _=>none
def aC (lk:Nat->Nat->Ent) (ag:Bool) (m:Nat):AV->Option AV
 | .box cs off=>(part ag m cs off).map AV.dem
 | .bx _ cs off=>(part ag m cs off).map AV.dem
 | .ptr d i g off=>zNA ag m g off (lk d i)
 | _=>none
@[simp] theorem zTQ (ag m g off g' cs):zNA ag m g off (g',.cells cs)=if g'=g then (part ag m cs off).map AV.dem else none:=rfl
@[simp] theorem yBV (lk ag m cs off):aC lk ag m (.box cs off)=(part ag m cs off).map AV.dem:=rfl
@[simp] theorem yGH (lk ag m h cs off):aC lk ag m (.bx h cs off)=(part ag m cs off).map AV.dem:=rfl
@[simp] theorem yBU (lk ag m d i g off):aC lk ag m (.ptr d i g off)=zNA ag m g off (lk d i):=rfl
@[simp] theorem yKC (m cs off):part true m cs off=if off+m<=cs.length then some (.agg ((cs.drop off).take m)) else none:=by simp[part]
@[simp] theorem yKB (cs off):part false 1 cs off=cs[off]?:=by
 simp only[part];split
 ·rfl
 ·rw[yOE (by omega)]
def zGM (m:Nat) (x:AV):AV->(Nat->Nat->Ent)->Option (Nat×Nat×Ent)
 | .ptr d i g off,lk=>match lk d i with
  | (g',.cells cs)=>if g'=g/\x.cells.length=m/\off+m<=cs.length/\x.upto d 20=true/\x.cells.all AV.one=true then some (d,i,(g,.cells (putC cs off x.stc))) else none
  | _=>none
 | _,_=>none
@[simp] theorem zXO (m x d i g off lk):zGM m x (.ptr d i g off) lk=match lk d i with
  | (g',.cells cs)=>if g'=g/\x.cells.length=m/\off+m<=cs.length/\x.upto d 20=true/\x.cells.all AV.one=true then some (d,i,(g,.cells (putC cs off x.stc))) else none
  | _=>none:=rfl
section
variable {C:zQ} {own:Md} {Q:St->Prop} {k:List AI} {n D:Nat} {τ:Nat->AV} {ω:Nat->Ent} {S:Nat->Nat->Ent} {l:List AOper} {d:Nat}
@[simp ↓] theorem yIZ {ag m p}:Rd C own Q (.ops (⟨some d,.load ag m false p,none⟩::l)::k) (stF n D τ ω S)↔
  Vk C own Q (aC (stF n D τ ω S).look ag m ((stF n D τ ω S).ev p)) d l k n D τ ω S:=by
 rw[zOP];simp only[opf];cases (stF n D τ ω S).ev p<;>try exact Iff.rfl
 ·rename_i cs off;simp only[aC];cases part ag m cs off<;>simp
 rotate_left
 ·rename_i h cs off;simp only[aC];cases part ag m cs off<;>simp
 ·rename_i d' i g off;simp only[aC,zNA];rcases (stF n D τ ω S).look d' i with ⟨g',ob⟩;cases ob<;>try exact Iff.rfl
  rename_i cs;simp only;by_cases e:g'=g
  ·simp only[e,if_true];cases part ag m cs off<;>simp
  ·simp[e]
@[simp ↓] theorem yEW {z} (hp:own≠ .pl):Rd C own Q (.ops (⟨some d,.alloc z,none⟩::l)::k) (stF n D τ ω S)↔
  (if d < n then Rd C own Q (.ops l::k) (stF n D (upd τ d (.ptr D d ((ω d).1+1) 0)) (upd ω d ((ω d).1+1,.cells (z.map AV.var1))) S) else False):=by
 rw[zOW hp];simp only[opf,pR];by_cases h:d < n<;>simp[h]
@[simp ↓] theorem zYL {z o1 o2 o3} (hp:own≠ .pl):Rd C own Q (.c (.either ⟨some d,.alloc z,none⟩ o1 o2 o3)::k) (stF n D τ ω S)↔
  (if d < n then Rd C own Q (.ops [o1,o2,o3]::k) (stF n D (upd τ d (.ptr D d ((ω d).1+1) 0)) (upd ω d ((ω d).1+1,.cells (z.map AV.var1))) S)/\Rd C own Q (.ops [o2,o1,o3]::k) (stF n D (upd τ d (.ptr D d ((ω d).1+1) 0)) (upd ω d ((ω d).1+1,.cells (z.map AV.var1))) S) else False):=by
 rw[zLM,rM rfl rfl rfl rfl (fun e=>absurd e hp)];simp only[opf,pR];by_cases h:d < n<;>simp[h]
@[simp ↓] theorem yNB {m x} (hp:own≠ .pl):Rd C own Q (.ops (⟨some d,.box m x,none⟩::l)::k) (stF n D τ ω S)↔
  (if d < n/\((stF n D τ ω S).ev x).cells.length=m/\((stF n D τ ω S).ev x).cells.all AV.one=true then Rd C own Q (.ops l::k) (stF n D (upd τ d (.ptr D d ((ω d).1+1) 0)) (upd ω d ((ω d).1+1,.cells (((stF n D τ ω S).ev x).cells.map AV.var1))) S) else False):=by
 rw[yET hp];simp only[opf,pR];by_cases h:d < n
 ·by_cases h2:((stF n D τ ω S).ev x).cells.length=m/\((stF n D τ ω S).ev x).cells.all AV.one=true
  ·have h3:=And.intro h h2;simp only[yRO h,yRO h2,yRO h3,xT,pH,yC,List.foldl,pQ,yE,if_true,eZ]
  ·have h3:¬(d < n/\((stF n D τ ω S).ev x).cells.length=m/\((stF n D τ ω S).ev x).cells.all AV.one=true):=fun q=>h2 q.2;simp only[yRO h,yRN h2,yRN h3,Ek,Vk,vQ]
 ·have h3:¬(d < n/\((stF n D τ ω S).ev x).cells.length=m/\((stF n D τ ω S).ev x).cells.all AV.one=true):=fun q=>h q.1;simp only[yRN h,yRN h3,Ek,Vk,vQ]
@[simp ↓] theorem yEN {m p x}:Rd C own Q (.ops (⟨none,.store m p x,none⟩::l)::k) (stF n D τ ω S)↔
  Uk C own Q (zGM m ((stF n D τ ω S).evr x) ((stF n D τ ω S).ev p) (stF n D τ ω S).look) x l k (stF n D τ ω S):=by
 rw[zOH];simp only[opf];cases (stF n D τ ω S).ev p<;>try exact Iff.rfl
 rename_i d' i g off;simp only[zGM];rcases (stF n D τ ω S).look d' i with ⟨g',ob⟩;cases ob<;>try exact Iff.rfl
 rename_i cs;simp only;split<;>exact Iff.rfl
attribute [-simp] pS
def d7 (off:Nat):AV->Option AV
 | .ptr d i g o=>some (.ptr d i g (o+off))
 | .box cs o=>some (.box cs (o+off))
 | .bx h cs o=>some (.bx h cs (o+off))
 | _=>none
@[simp] theorem yDI (off h cs o):d7 off (.bx h cs o)=some (.bx h cs (o+off)):=rfl
@[simp] theorem zYA (off d i g o):d7 off (.ptr d i g o)=some (.ptr d i g (o+off)):=rfl
@[simp] theorem zYB (off cs o):d7 off (.box cs o)=some (.box cs (o+off)):=rfl
@[simp ↓] theorem yES {off x}:Rd C own Q (.ops (⟨some d,.faddr off x,none⟩::l)::k) (stF n D τ ω S)↔
  Vk C own Q (d7 off ((stF n D τ ω S).ev x)) d l k n D τ ω S:=by
 rw[zOR];simp only[opf];cases (stF n D τ ω S).ev x<;>simp[d7]
def fK (len z:Nat):AV->AV->Option AV
 | .ptr d i g o,.int _ n=>if 0<=n/\n < len then some (.ptr d i g (o+n.toNat*z)) else none
 | .box cs o,.int _ n=>if 0<=n/\n < len then some (.box cs (o+n.toNat*z)) else none
 | _,_=>none
@[simp] theorem zUE (len z d i g o kd m):fK len z (.ptr d i g o) (.int kd m)=if 0<=m/\m < len then some (.ptr d i g (o+m.toNat*z)) else none:=rfl
@[simp] theorem zUF (len z cs o kd m):fK len z (.box cs o) (.int kd m)=if 0<=m/\m < len then some (.box cs (o+m.toNat*z)) else none:=rfl
@[simp ↓] theorem zYK {len z x i}:Rd C own Q (.ops (⟨some d,.iaddrA len z x i,none⟩::l)::k) (stF n D τ ω S)↔
  Vk C own Q (fK len z ((stF n D τ ω S).ev x) ((stF n D τ ω S).ev i)) d l k n D τ ω S:=by
 rw[zLJ];simp only[opf];cases (stF n D τ ω S).ev i<;>cases (stF n D τ ω S).ev x<;>simp only[fK]<;>(try exact Iff.rfl)<;>
  first
  | (
    rename_i m _ _ _ _;by_cases h:0<=m/\m < (len:Int)
    ·simp only[yRO h,xT,pH,yC,List.foldl,yE]
    ·simp only[yRN h,Ek,Vk,vQ])
  | (
    rename_i m _ _;by_cases h:0<=m/\m < (len:Int)
    ·simp only[yRO h,xT,pH,yC,List.foldl,yE]
    ·simp only[yRN h,Ek,Vk,vQ])
  | (split<;>simp_all)
def fJ (z:Nat):AV->AV->Option AV
 | .sl z' xs _,.int _ n=>if 0<=n/\n < xs.length/\z'=z then some (.box (xs.getD n.toNat ud).cells 0) else none
 | .own d i g o len z' _,.int _ n=>if 0<=n/\n < len/\z'=z then some (.ptr d i g (o+n.toNat*z)) else none
 | _,_=>none
@[simp] theorem zXZ (z z' xs t kd m):fJ z (.sl z' xs t) (.int kd m)=if 0<=m/\m < xs.length/\z'=z then some (.box (xs.getD m.toNat ud).cells 0) else none:=rfl
@[simp] theorem zUD (z d i g o len z' ea kd m):fJ z (.own d i g o len z' ea) (.int kd m)=if 0<=m/\m < len/\z'=z then some (.ptr d i g (o+m.toNat*z)) else none:=rfl
@[simp ↓] theorem zYJ {z x i}:Rd C own Q (.ops (⟨some d,.iaddrS z x i,none⟩::l)::k) (stF n D τ ω S)↔
  Vk C own Q (fJ z ((stF n D τ ω S).ev x) ((stF n D τ ω S).ev i)) d l k n D τ ω S:=by
 rw[zLI];simp only[opf];cases (stF n D τ ω S).ev i<;>cases (stF n D τ ω S).ev x<;>simp only[fJ]<;>(try exact Iff.rfl)<;>
  first
  | (
    rename_i m z' xs _;by_cases h:0<=m/\m < (xs.length:Int)/\z'=z
    ·simp only[yRO h,xT,pH,yC,List.foldl,yE]
    ·simp only[yRN h,Ek,Vk,vQ])
  | (
    rename_i m _ _ _ _ len z' _;by_cases h:0<=m/\m < (len:Int)/\z'=z
    ·simp only[yRO h,xT,pH,yC,List.foldl,yE]
    ·simp only[yRN h,Ek,Vk,vQ])
def lenV:AV->Option AV
 | .sl _ xs _=>some (.int .i64 xs.length)
 | .own _ _ _ _ len _ _=>some (.int .i64 len)
 | _=>none
@[simp] theorem yKQ (z xs t):lenV (.sl z xs t)=some (.int .i64 xs.length):=rfl
@[simp] theorem yGI (d i g o len z ea):lenV (.own d i g o len z ea)=some (.int .i64 len):=rfl
@[simp ↓] theorem yNA {x}:Rd C own Q (.ops (⟨some d,.len x,none⟩::l)::k) (stF n D τ ω S)↔
  Vk C own Q (lenV ((stF n D τ ω S).ev x)) d l k n D τ ω S:=by
 rw[yER];simp only[opf];cases (stF n D τ ω S).ev x<;>simp[lenV]
def zUP (i:Nat):AV->Option AV
 | .tup vs=>vs[i]?
 | _=>none
@[simp] theorem yDJ (i vs):zUP i (.tup vs)=vs[i]?:=rfl
def tipB:AV->Bool
 | .sl _ _ .tip=>true
 | _=>false
@[simp] theorem yFK (z xs):tipB (.sl z xs .tip)=true:=rfl
@[simp] theorem yJO (z xs):tipB (.sl z xs .no)=false:=rfl
@[simp] theorem yFL (z xs):tipB (.sl z xs .nil)=false:=rfl
@[simp] theorem yFM {v:AV} (h:v.dem=v):tipB v=false:=by
 cases v with
 | sl z xs t=>cases t<;>first | rfl | (simp[AV.dem,Tip.dem] at h)
 | _=>rfl
def zUQ (i:Nat):AV->Option AV
 | .tup vs=>vs[i]?.map AV.dem
 | _=>none
@[simp] theorem yDK (i vs):zUQ i (.tup vs)=vs[i]?.map AV.dem:=rfl
@[simp ↓] theorem yJA {x i}:Rd C own Q (.ops (⟨some d,.extr false x i,none⟩::l)::k) (stF n D τ ω S)↔
  Vk C own Q (zUQ i ((stF n D τ ω S).ev x)) d l k n D τ ω S:=by
 rw[zLL];simp only[opf];cases (stF n D τ ω S).ev x<;>try exact Iff.rfl
 rename_i vs;simp only[zUQ];cases vs[i]?<;>simp
@[simp ↓] theorem yJB {x i}:Rd C own Q (.ops (⟨some d,.extr true x i,none⟩::l)::k) (stF n D τ ω S)↔
  nU (zUP i ((stF n D τ ω S).evr x)) fun v=>iteR (tipB v) (Rd C own Q (.ops l::k) ((x.tmp.foldl St.demT (stF n D τ ω S)).put (some d) v)) (Rd C own Q (.ops l::k) (stF n D (upd τ d v.dem) ω S)):=by
 rw[zLL];simp only[opf];cases (stF n D τ ω S).evr x<;>try exact Iff.rfl
 rename_i vs;simp only[zUP];cases hv:vs[i]? with
 | none=>exact Iff.rfl
 | some v=>
  rw[gI];cases v with
  | sl z xs t=>
   cases t
   case tip=>exact Iff.rfl
   all_goals simp only[tipB,nK,xT,yC,List.foldl,yE]
  | _=>simp only[tipB,nK,xT,yC,List.foldl,yE]
def zTF (t:AV) (a b:AV):Option AV:=
 match t with
 | .bool t=>some (if t then a else b)
 | _=>none
@[simp] theorem zXY (t a b):zTF (.bool t) a b=some (if t then a else b):=rfl
@[simp ↓] theorem yIY {c a b}:Rd C own Q (.ops (⟨some d,.pick c a b,none⟩::l)::k) (stF n D τ ω S)↔
  Vk C own Q (zTF ((stF n D τ ω S).ev c) ((stF n D τ ω S).ev a) ((stF n D τ ω S).ev b)) d l k n D τ ω S:=by
 rw[zVO];simp only[opf];cases (stF n D τ ω S).ev c<;>simp[zTF]
@[simp ↓] theorem yOA {op x}:Rd C own Q (.ops (⟨some d,.un op x,none⟩::l)::k) (stF n D τ ω S)↔
  Vk C own Q (unf op ((stF n D τ ω S).ev x)) d l k n D τ ω S:=by
 rw[yMY];simp only[opf];cases unf op ((stF n D τ ω S).ev x)<;>simp
attribute [simp ↓] zON zOL zOJ zAP zFV yEV zVR zVQ zVP zOO zOM zOK cR zFW zAQ zVU zOQ zGC
@[simp] theorem yJJ (b:Bool):unf .not (.bool b)=some (.bool !b):=rfl
@[simp] theorem yJK (kd:IntKind) (i:Int):unf .neg (.int kd i)=some (.int kd (kd.wrap (0 - i))):=rfl
@[simp] theorem yKF (i:Nat):Opd.tmp (.t i)= [i]:=rfl
@[simp] theorem yKG (v:AV):Opd.tmp (.c v)= []:=rfl
end
@[simp] theorem yIX (e:EqK) (kd:IntKind) (a b:Int):binf .add e (.int kd a) (.int kd b)=some (.int kd (kd.wrap (a+b))):=by simp[binf,binI,cmpI]
@[simp] theorem yIG (e:EqK) (kd:IntKind) (a b:Int):binf .sub e (.int kd a) (.int kd b)=some (.int kd (kd.wrap (a - b))):=by simp[binf,binI,cmpI]
@[simp] theorem yIO (e:EqK) (kd:IntKind) (a b:Int):binf .mul e (.int kd a) (.int kd b)=some (.int kd (kd.wrap (a*b))):=by simp[binf,binI,cmpI]
@[simp] theorem yIK (e:EqK) (kd:IntKind) (a b:Int):binf .quo e (.int kd a) (.int kd b)=if b=0 then none else some (.int kd (kd.wrap (a.tdiv b))):=by simp[binf,binI,cmpI]
@[simp] theorem yIJ (e:EqK) (kd:IntKind) (a b:Int):binf .rem e (.int kd a) (.int kd b)=if b=0 then none else some (.int kd (a.tmod b)):=by simp[binf,binI,cmpI]
@[simp] theorem yIW (e:EqK) (kd:IntKind) (a b:Int):binf .and e (.int kd a) (.int kd b)=some (oR kd (· &&& ·) a b):=by simp[binf,binI,cmpI]
@[simp] theorem yMP (e:EqK) (kd:IntKind) (a b:Int):binf .or e (.int kd a) (.int kd b)=some (oR kd (· ||| ·) a b):=by simp[binf,binI,cmpI]
@[simp] theorem zVD (e:EqK) (kd:IntKind) (a b:Int):binf .andNot e (.int kd a) (.int kd b)=some (oR kd (fun x y=>x &&& ~~~y) a b):=by simp[binf,binI,cmpI]
@[simp] theorem yIT (e:EqK) (kd:IntKind) (a b:Int):binf .eql e (.int kd a) (.int kd b)=some (.bool (decide (a=b))):=by simp[binf,binI,cmpI]
@[simp] theorem yIL (e:EqK) (kd:IntKind) (a b:Int):binf .neq e (.int kd a) (.int kd b)=some (.bool (!decide (a=b))):=by simp[binf,binI,cmpI]
@[simp] theorem yIP (e:EqK) (kd:IntKind) (a b:Int):binf .lss e (.int kd a) (.int kd b)=some (.bool (decide (a < b))):=by simp[binf,binI,cmpI]
@[simp] theorem yIQ (e:EqK) (kd:IntKind) (a b:Int):binf .leq e (.int kd a) (.int kd b)=some (.bool (decide (a<=b))):=by simp[binf,binI,cmpI]
@[simp] theorem yIR (e:EqK) (kd:IntKind) (a b:Int):binf .gtr e (.int kd a) (.int kd b)=some (.bool (decide (a > b))):=by simp[binf,binI,cmpI]
@[simp] theorem yIS (e:EqK) (kd:IntKind) (a b:Int):binf .geq e (.int kd a) (.int kd b)=some (.bool (decide (a≥b))):=by simp[binf,binI,cmpI]
@[simp] theorem yII (e:EqK) (kd kd':IntKind) (a b:Int):binf .shl e (.int kd a) (.int kd' b)=if b < 0 then none else some (.int kd (kd.wrap (a*2^(min b.toNat kd.bits)))):=rfl
@[simp] theorem yIH (e:EqK) (kd kd':IntKind) (a b:Int):binf .shr e (.int kd a) (.int kd' b)=if b < 0 then none else some (.int kd (a.fdiv (2^(min b.toNat kd.bits)))):=rfl
@[simp] theorem yIU (a b:Bool):binf .eql .sc (.bool a) (.bool b)=some (.bool (a==b)):=rfl
@[simp] theorem yIM (a b:Bool):binf .neq .sc (.bool a) (.bool b)=some (.bool (!(a==b))):=rfl
@[simp] theorem yIV (n:Nat) (a b:List AV):binf .eql (.arr n) (.agg a) (.agg b)=if a.length=n/\b.length=n then (wQ a b).map .bool else none:=rfl
@[simp] theorem yIN (n:Nat) (a b:List AV):binf .neq (.arr n) (.agg a) (.agg b)=if a.length=n/\b.length=n then (wQ a b).map (fun b=> .bool (!b)) else none:=rfl
@[simp] theorem yGA (cs:List AV) (off:Nat) (vs:List AV):putC cs off vs=cs.take off++vs++cs.drop (off+vs.length):=rfl
attribute [simp ↓] zOU zLQ zGF zLG zLT zOI zFT yMZ zVS zLH
attribute [simp ↓] zOT zAW zAS cW zFY zAO cS zOS zAR cV cU zFZ zLO zFU zFX cT cX zLN zLP
@[simp] theorem yNS (n:Nat):((n:Int) < 0)=False:=by simp
@[simp] theorem zYC (s:St) (z z':Nat) (ys:List AV) (t:Tip):yS s z (.sl z' ys t)=if z'=z then some (ys,[]) else none:=rfl
@[simp] theorem yGR (s:St):kill s []= []:=rfl
@[simp] theorem yCM (s:St) (p:Nat×Nat) (l:List (Nat×Nat)):kill s (p::l)=(p.1,p.2,((s.look p.1 p.2).1,.dead))::kill s l:=rfl
theorem aB:z8=1099511627776:=rfl
theorem zN {C:zQ} {own:Md} {Q:St->Prop} {k:List AI} {s:St} {a b:AC} (e:a=b) (h:Rd C own Q (.c b:: .lp a::k) s):Rd C own Q (.lp a::k) s:= .lp (e▸h)
attribute [simp] opf opfO zVJ gK aB optI
attribute [simp] resV jZ zHW frzL zNI pack zES upds
end Go.Ab
/- Calls that look at objects of the frames below. -/
namespace Go.Ab
open Go
section
variable {C:zQ} {own:Md} {Q:St->Prop} {k:List AI} {n D:Nat} {τ:Nat->AV} {ω:Nat->Ent} {S:Nat->Nat->Ent} {l:List AOper} {d:Nat}
theorem zR {f args r args'} {M dl:List (Nat×Nat×Ent)} (h:C (D+1) f args' M r dl) (ha:args.map (fun x=>((stF n D τ ω S).ev x).strip)=args')
  (hM:∀m∈M,m.1<=D/\(m.1=D->m.2.1 < n)/\(stF n D τ ω S).look m.1 m.2.1=m.2.2) (hdl:∀u∈dl,(u.1,u.2.1)∈M.map (fun m=>(m.1,m.2.1))/\u.2.2.2≠ .dead)
  (hk:Rd C own Q (.ops l::k) ((dl.foldl St.up (stF n D τ ω S)).put (some d) r)) (hf:f≠yid:=by decide):Rd C own Q (.ops (⟨some d,.call f args,none⟩::l)::k) (stF n D τ ω S):=by
 refine .opsCall rfl (.call (M:=M) (dl:=dl) (r:=r) hf (by rw[ha];exact h) (fun m hm=> ?_) hdl) ?_
 ·have:=hM m hm;refine ⟨this.1,fun e=> ?_,this.2.2⟩;rw[qN];exact this.2.1 e
 ·simpa[yC] using hk
theorem zM {f args r args'} {M dl:List (Nat×Nat×Ent)} {ps es} (h:C (D+1) f args' M r dl) (ha:args.map (fun x=>((stF n D τ ω S).ev x).strip)=args')
  (hM:∀m∈M,m.1<=D/\(m.1=D->m.2.1 < n)/\(stF n D τ ω S).look m.1 m.2.1=m.2.2) (hdl:∀u∈dl,(u.1,u.2.1)∈M.map (fun m=>(m.1,m.2.1))/\u.2.2.2≠ .dead)
  (hk:Rd C own Q (.dr ps l (es++[{val:=r,ups:=dl,rd:=M.map fun m=>(m.1,m.2.1)}])::k) ((dl.foldl St.up (stF n D τ ω S)).put (some d) r)) (hf:f≠yid:=by decide):Rd C own Q (.dr ps (⟨some d,.call f args,none⟩::l) es::k) (stF n D τ ω S):=by
 refine .drCall rfl (.call (M:=M) (dl:=dl) (r:=r) hf (by rw[ha];exact h) (fun m hm=> ?_) hdl) ?_
 ·have:=hM m hm;refine ⟨this.1,fun e=> ?_,this.2.2⟩;rw[qN];exact this.2.1 e
 ·simpa[yC] using hk
theorem uF (S:Nat->Nat->Ent) (d i:Nat) (e:Ent):updS S d i e d i=e:=by simp[updS]
theorem zDW (S:Nat->Nat->Ent) (d i:Nat) (e e':Ent):updS (updS S d i e) d i e'=updS S d i e':=by
 funext a b;simp only[updS];split<;>rfl
theorem uE (S:Nat->Nat->Ent) (d i:Nat) {e:Ent} (h:S d i=e):updS S d i e=S:=by
 funext a b;simp only[updS];split
 ·rename_i hc;rw[hc.1,hc.2,h]
 ·rfl
attribute [simp] uF zDW
end
section
variable {P:Program} {G:Nat->Option (List AV)} {L:xC} {T:FuncId->Option FnC}
def RetM (rs:List RV) (r:AV) (D:Nat) (S:Nat->Nat->Ent) (dl:List (Nat×Nat×Ent)):St->Prop:=fun s'=>resV s' rs=some r/\∀d i,d≠D->s'.S d i=upds S dl d i
@[simp] theorem yMW (rs:List RV) (r:AV) (D:Nat) (S:Nat->Nat->Ent) (dl:List (Nat×Nat×Ent)) (s':St):RetM rs r D S dl s'↔resV s' rs=some r/\∀d i,d≠D->s'.S d i=upds S dl d i:=Iff.rfl
theorem yH (hm:PGood P) (hT:TOk P G L T) {f n:Nat} {ac:AC} {rs:List RV} {own:Bool} (hc:T f=some ⟨n,ac,rs,own⟩) {args:List AV} {M dl:List (Nat×Nat×Ent)} {r:AV} {D:Nat} (hl:Nat.ble args.length n=true)
  (h:∀S,(∀m∈M,m.1 < D/\S m.1 m.2.1=m.2.2)->Rd (Loc P G) .im (RetM rs r D S dl) [.c ac] (stF n D (vH 0 args) (fun _=>(0,.dead)) S)):Loc P G D f args M r dl:=by
 obtain ⟨fn,code,t1,t2,t3,t4,t5,t6⟩:=hT f _ hc;refine nI (L:=L) hm t1 t2 t3 t4 t5 fun S hS=> ?_;rw[t6,wG _ _ _ _ (yOP hl)];exact (h S hS).run
def RetS (rs:List RV) (r:AV) (D:Nat) (S:Nat->Nat->Ent) (dl:List (Nat×Nat×Ent)):St->Prop:=fun s'=>(resV s' rs).map AV.strip=some r/\∀d i,d≠D->s'.S d i=upds S dl d i
@[simp] theorem yMV (rs:List RV) (r:AV) (D:Nat) (S:Nat->Nat->Ent) (dl:List (Nat×Nat×Ent)) (s':St):RetS rs r D S dl s'↔(resV s' rs).map AV.strip=some r/\∀d i,d≠D->s'.S d i=upds S dl d i:=Iff.rfl
theorem fD (hm:PGood P) (hT:TOk P G L T) {f n:Nat} {ac:AC} {rs:List RV} {own:Bool} (hc:T f=some ⟨n,ac,rs,own⟩) {args:List AV} {M dl:List (Nat×Nat×Ent)} {r:AV} {D:Nat} (hl:Nat.ble args.length n=true)
  (h:∀S,(∀m∈M,m.1 < D/\S m.1 m.2.1=m.2.2)->Rd (Loc P G) .im (RetS rs r D S dl) [.c ac] (stF n D (vH 0 args) (fun _=>(0,.dead)) S)):Loc P G D f args M r dl:=by
 obtain ⟨fn,code,t1,t2,t3,t4,t5,t6⟩:=hT f _ hc;refine lY (L:=L) hm t1 t2 t3 t4 t5 fun S hS=> ?_;rw[t6,wG _ _ _ _ (yOP hl)];refine ((h S hS).run).imp fun s' h=>⟨?_,h.2⟩;obtain ⟨r',h1,h2⟩:=yOU.1 h.1;exact .inl ⟨r',.inl h1,.inr h2⟩
def RetT (rs:List RV) (r:AV) (D:Nat) (S:Nat->Nat->Ent) (dl:List (Nat×Nat×Ent)):St->Prop:=fun s'=>resT s' rs=some r/\∀d i,d≠D->s'.S d i=upds S dl d i
@[simp] theorem yMU (rs:List RV) (r:AV) (D:Nat) (S:Nat->Nat->Ent) (dl:List (Nat×Nat×Ent)) (s':St):RetT rs r D S dl s'↔resT s' rs=some r/\∀d i,d≠D->s'.S d i=upds S dl d i:=Iff.rfl
def RetA (rs:List RV) (r:AV) (D:Nat) (S:Nat->Nat->Ent) (dl:List (Nat×Nat×Ent)):St->Prop:=fun s'=>resA s' rs=some r/\∀d i,d≠D->s'.S d i=upds S dl d i
@[simp] theorem yMX (rs:List RV) (r:AV) (D:Nat) (S:Nat->Nat->Ent) (dl:List (Nat×Nat×Ent)) (s':St):RetA rs r D S dl s'↔resA s' rs=some r/\∀d i,d≠D->s'.S d i=upds S dl d i:=Iff.rfl
attribute [simp] resA AV.firm1 AV.keep1
attribute [simp] resT zTH
end
end Go.Ab
/- Appends in free mode,on states that are given by functions. -/
namespace Go.Ab
open Go
section
variable {C:zQ} {Q:St->Prop} {k:List AI} {n D:Nat} {τ:Nat->AV} {ω:Nat->Ent} {S:Nat->Nat->Ent} {l:List AOper} {d:Nat} {ps:List (Nat×Nat)} {es:List Eff}
 {z bytes z':Nat} {x y:Opd} {xs ys:List AV} {t:Tip} {r:List (Nat×Nat)}
theorem nW (hx:(stF n D τ ω S).evr x= .sl z' xs t) (hy:yS (stF n D τ ω S) z ((stF n D τ ω S).ev y)=some (ys,r)) (hz:z'=z\/t= .nil) (hb:(xs.length+ys.length)*bytes<=z8) (ht:t= .tip\/t= .nil)
  (hk:Rd C .fr Q (.dr ps l (es++[{val:= .sl z (xs++ys) .tip,dem:=x.tmp,rd:=r}])::k) ((x.tmp.foldl St.demT (stF n D τ ω S)).put (some d) (.sl z (xs++ys) .tip))):Rd C .fr Q (.dr ps (⟨some d,.append z bytes x y,none⟩::l) es::k) (stF n D τ ω S):=by
 refine rQ (e:={val:= .sl z (xs++ys) .tip,dem:=x.tmp,rd:=r}) (.inl ?_) hk;simp only[opf,hx,hy];exact yRO ⟨hz,hb,ht⟩
theorem gP {y0:AV} (slot:Nat) (hs:slot < n) (hx:(stF n D τ ω S).evr x= .sl z' [] .nil) (hy:yS (stF n D τ ω S) z ((stF n D τ ω S).ev y)=some (y0::ys,r)) (hok:okEl z (!y0.one) (y0::ys)=true) (hb:(ys.length+1)*bytes<=z8)
  (hk:Rd C .fr Q (.dr ps l (es++[{val:= .own D slot ((ω slot).1+1) 0 (ys.length+1) z (!y0.one),ups:=[(D,slot,((ω slot).1+1,.cells (newC (y0::ys))))],rd:=r}])::k)
   (stF n D (upd τ d (.own D slot ((ω slot).1+1) 0 (ys.length+1) z (!y0.one))) (upd ω slot ((ω slot).1+1,.cells (newC (y0::ys)))) S)):Rd C .fr Q (.dr ps (⟨some d,.append z bytes x y,none⟩::l) es::k) (stF n D τ ω S):=by
 refine rQ (e:={val:= .own D slot ((ω slot).1+1) 0 (ys.length+1) z (!y0.one),ups:=[(D,slot,((ω slot).1+1,.cells (newC (y0::ys))))],rd:=r}) (.inr ⟨some slot,?_⟩) ?_
 ·simp only[opfO,hx,hy,pR,yRO hs,eZ];exact yRO ⟨hok,hb⟩
 ·simpa[yC] using hk
theorem zGB {i g len:Nat} {ea:Bool} {cs:List AV} (hi:i < n) (hx:(stF n D τ ω S).evr x= .own D i g 0 len z ea) (hy:yS (stF n D τ ω S) z ((stF n D τ ω S).ev y)=some (ys,r)) (hne:ys≠[]) (hw:ω i=(g,.cells cs)) (hl:len*z<=cs.length) (hok:okEl z ea ys=true) (hb:(len+ys.length)*bytes<=z8)
  (hk:Rd C .fr Q (.dr ps l (es++[{val:= .own D i (g+1) 0 (len+ys.length) z ea,ups:=[(D,i,(g+1,.cells ((cs.take (len*z)).map AV.strip1++newC ys)))],rd:=r}])::k)
   (stF n D (upd τ d (.own D i (g+1) 0 (len+ys.length) z ea)) (upd ω i (g+1,.cells ((cs.take (len*z)).map AV.strip1++newC ys))) S)):Rd C .fr Q (.dr ps (⟨some d,.append z bytes x y,none⟩::l) es::k) (stF n D τ ω S):=by
 refine rQ (e:={val:= .own D i (g+1) 0 (len+ys.length) z ea,ups:=[(D,i,(g+1,.cells ((cs.take (len*z)).map AV.strip1++newC ys)))],rd:=r}) (.inr ⟨none,?_⟩) ?_
 ·obtain ⟨y0,ys',rfl⟩:∃y0 ys',ys=y0::ys':=by
   cases ys with
   | nil=>exact absurd rfl hne
   | cons a b=>exact ⟨a,b,rfl⟩
  simp only[opfO,hx,hy,yD,if_true,yRO hi,hw,eZ];exact yRO ⟨trivial,trivial,trivial,trivial,hl,hne,hok,hb⟩
 ·simpa[yC] using hk
theorem nX {d' i g off len:Nat} {ea:Bool} (hx:(stF n D τ ω S).evr x= .own d' i g off len z ea) (hy:yS (stF n D τ ω S) z ((stF n D τ ω S).ev y)=some ([],r))
  (hk:Rd C .fr Q (.dr ps l (es++[{val:= .own d' i g off len z ea,rd:=r}])::k) (stF n D (upd τ d (.own d' i g off len z ea)) ω S)):Rd C .fr Q (.dr ps (⟨some d,.append z bytes x y,none⟩::l) es::k) (stF n D τ ω S):=by
 refine rQ (e:={val:= .own d' i g off len z ea,rd:=r}) (.inr ⟨none,?_⟩) ?_
 ·simp only[opfO,hx,hy];exact yRO trivial
 ·simpa[yC] using hk
theorem gO (hx:(stF n D τ ω S).evr x= .sl z' [] .nil) (hy:yS (stF n D τ ω S) z ((stF n D τ ω S).ev y)=some ([],r))
  (hk:Rd C .fr Q (.dr ps l (es++[{val:= .sl z [] .nil,rd:=r}])::k) (stF n D (upd τ d (.sl z [] .nil)) ω S)):Rd C .fr Q (.dr ps (⟨some d,.append z bytes x y,none⟩::l) es::k) (stF n D τ ω S):=by
 refine rQ (e:={val:= .sl z [] .nil,rd:=r}) (.inr ⟨none,?_⟩) ?_
 ·simp only[opfO,hx,hy]
 ·simpa[yC] using hk
theorem zAV {y0:AV} (slot:Nat) (hs:slot < n) (hx:(stF n D τ ω S).evr x= .sl z' [] .nil) {yv:AV} (hy0:(stF n D τ ω S).ev y=yv) (hy:yS (stF n D τ ω S) z yv=some (y0::ys,r)) (hok:okEl z (!y0.one) (y0::ys)=true) (hb:(ys.length+1)*bytes<=z8)
  (hk:Rd C .fr Q (.dr ps l (es++[{val:= .own D slot ((ω slot).1+1) 0 (ys.length+1) z (!y0.one),ups:=[(D,slot,((ω slot).1+1,.cells (newC (y0::ys))))],rd:=r}])::k)
   (stF n D (upd τ d (.own D slot ((ω slot).1+1) 0 (ys.length+1) z (!y0.one))) (upd ω slot ((ω slot).1+1,.cells (newC (y0::ys)))) S)):Rd C .fr Q (.dr ps (⟨some d,.append z bytes x y,none⟩::l) es::k) (stF n D τ ω S):=gP slot hs hx (hy0▸hy) hok hb hk
theorem zAU {i g len:Nat} {ea:Bool} {cs:List AV} (hi:i < n) (hx:(stF n D τ ω S).evr x= .own D i g 0 len z ea) {yv:AV} (hy0:(stF n D τ ω S).ev y=yv) (hy:yS (stF n D τ ω S) z yv=some (ys,r)) (hne:ys≠[]) (hw:ω i=(g,.cells cs)) (hl:len*z<=cs.length) (hok:okEl z ea ys=true) (hb:(len+ys.length)*bytes<=z8)
  (hk:Rd C .fr Q (.dr ps l (es++[{val:= .own D i (g+1) 0 (len+ys.length) z ea,ups:=[(D,i,(g+1,.cells ((cs.take (len*z)).map AV.strip1++newC ys)))],rd:=r}])::k)
   (stF n D (upd τ d (.own D i (g+1) 0 (len+ys.length) z ea)) (upd ω i (g+1,.cells ((cs.take (len*z)).map AV.strip1++newC ys))) S)):Rd C .fr Q (.dr ps (⟨some d,.append z bytes x y,none⟩::l) es::k) (stF n D τ ω S):=zGB hi hx (hy0▸hy) hne hw hl hok hb hk
theorem jW (hx:(stF n D τ ω S).evr x= .sl z' [] .nil) {yv:AV} (hy0:(stF n D τ ω S).ev y=yv) (hy:yS (stF n D τ ω S) z yv=some ([],r))
  (hk:Rd C .fr Q (.dr ps l (es++[{val:= .sl z [] .nil,rd:=r}])::k) (stF n D (upd τ d (.sl z [] .nil)) ω S)):Rd C .fr Q (.dr ps (⟨some d,.append z bytes x y,none⟩::l) es::k) (stF n D τ ω S):=gO hx (hy0▸hy) hk
theorem qU:∀(m:Nat) (l:List Int),m<=l.length->vF 1 false m (l.map (AV.int .i64))=(l.take m).map (AV.int .i64)
 | 0,l,_=>by simp[vF]
 | m+1,[],h=>by simp at h
 | m+1,a::l,h=>by
  rw[vF];simp only[yOO,yOF,if_false,List.headD_cons,List.drop_succ_cons,yOL,List.take_succ_cons];rw[qU m l (by simpa using h)]
theorem dI (l:List Int):newC (l.map (AV.int .i64))=l.map (AV.int .i64):=by
 induction l with
 | nil=>rfl
 | cons a l ih=>unfold newC at ih|-;simpa using ih
theorem dF (l:List Int):okEl 1 false (l.map (AV.int .i64))=true:=by simp[okEl]
theorem wX {A g off len:Nat} {l:List Int} (hA:A < n) (hw:ω A=(g,.cells (l.map (AV.int .i64)))) (hl:off+len<=l.length):
  yS (stF n D τ ω S) 1 (.own D A g off len 1 false)=some (((l.drop off).take len).map (AV.int .i64),[(D,A)]):=by
 unfold yS;simp only[if_true,yD,yRO hA,hw];have h1:(l.map (AV.int .i64)).all (AV.clean 20)=true:=by
  rw[yOB];intro v hv;obtain ⟨i,_,rfl⟩:=yON.1 hv;rfl
 have h2:(l.map (AV.int .i64)).all AV.one=true:=by
  rw[yOB];intro v hv;obtain ⟨i,_,rfl⟩:=yON.1 hv;rfl
 rw[yRO ⟨trivial,by simpa using hl,h1,.inr trivial,h2⟩];have h3:(((l.map (AV.int .i64)).drop off).take (len*1)).map AV.strip1=((l.drop off).take len).map (AV.int .i64):=by
  rw[Nat.mul_one,<-List.map_drop,<-List.map_take,yOY];exact yPF fun i _=>rfl
 rw[h3,qU len _ (by simp;omega),yOM (by simp;omega)]
theorem sQ {L:List Int} (slot:Nat) (hs:slot < n) (hx:(stF n D τ ω S).evr x= .sl z' [] .nil) {yv:AV} (hy0:(stF n D τ ω S).ev y=yv) (hy:yS (stF n D τ ω S) 1 yv=some (L.map (AV.int .i64),r)) (hne:L≠[]) (hb:L.length*bytes<=z8)
  (hk:Rd C .fr Q (.dr ps l (es++[{val:= .own D slot ((ω slot).1+1) 0 L.length 1 false,ups:=[(D,slot,((ω slot).1+1,.cells (L.map (AV.int .i64))))],rd:=r}])::k)
   (stF n D (upd τ d (.own D slot ((ω slot).1+1) 0 L.length 1 false)) (upd ω slot ((ω slot).1+1,.cells (L.map (AV.int .i64)))) S)):Rd C .fr Q (.dr ps (⟨some d,.append 1 bytes x y,none⟩::l) es::k) (stF n D τ ω S):=by
 obtain ⟨a,L',rfl⟩:∃a L',L=a::L':=by
  cases L with
  | nil=>exact absurd rfl hne
  | cons a b=>exact ⟨a,b,rfl⟩
 refine zAV (y0:= .int .i64 a) (ys:=L'.map (AV.int .i64)) slot hs hx hy0 hy (dF (a::L')) (by simpa using hb) ?_;have e:=dI (a::L');rw[yOO] at e;rw[e];simpa using hk
theorem vR {i g:Nat} {L0 L:List Int} (hi:i < n) (hx:(stF n D τ ω S).evr x= .own D i g 0 L0.length 1 false) {yv:AV} (hy0:(stF n D τ ω S).ev y=yv) (hy:yS (stF n D τ ω S) 1 yv=some (L.map (AV.int .i64),r)) (hne:L≠[]) (hw:ω i=(g,.cells (L0.map (AV.int .i64)))) (hb:(L0.length+L.length)*bytes<=z8)
  (hk:Rd C .fr Q (.dr ps l (es++[{val:= .own D i (g+1) 0 (L0.length+L.length) 1 false,ups:=[(D,i,(g+1,.cells ((L0++L).map (AV.int .i64))))],rd:=r}])::k)
   (stF n D (upd τ d (.own D i (g+1) 0 (L0.length+L.length) 1 false)) (upd ω i (g+1,.cells ((L0++L).map (AV.int .i64)))) S)):Rd C .fr Q (.dr ps (⟨some d,.append 1 bytes x y,none⟩::l) es::k) (stF n D τ ω S):=by
 refine zAU hi hx hy0 hy (by simpa using hne) hw (by simp) (dF L) (by simpa using hb) ?_;have e:((L0.map (AV.int .i64)).take (L0.length*1)).map AV.strip1++newC (L.map (AV.int .i64))=(L0++L).map (AV.int .i64):=by
  rw[dI,yOM (by simp),List.map_append,yOY];congr 1
 rw[e];simpa using hk
theorem dU {A g len:Nat} {l:List Int} (m:Nat) (hA:A < n) (hw:ω A=(g,.cells (l.map (AV.int .i64)))) (hl:len<=l.length):
  frz (stF n D τ ω S) (m+2) (.own D A g 0 len 1 false)=some (.sl 1 ((l.take len).map (AV.int .i64)) .no,(D,A)::((l.take len).map fun _=>([]:List (Nat×Nat))).flatten):=by
 rw[frz];have h2:(l.map (AV.int .i64)).all AV.one=true:=by
  rw[yOB];intro v hv;obtain ⟨i,_,rfl⟩:=yON.1 hv;rfl
 have h3:∀(q:List Int),(q.map (AV.int .i64)).mapM (frz (stF n D τ ω S) (m+1))=some (q.map fun i=>(AV.int .i64 i,([]:List (Nat×Nat)))):=by
  intro q
  induction q with
  | nil=>rfl
  | cons a q ih=>rw[yOO,yOH,ih];simp[frz]
 simp only[yD,if_true,yRO hA,hw];rw[yRO ⟨trivial,rfl,by simpa using hl,.inr trivial,h2⟩];rw[yOL,Nat.mul_one,<-List.map_take,h3];simp only[yOY];congr 2
 ·congr 1;have:=qU len (l.take len) (by simp;omega);rw[yOM (l:=l.take len) (by simp;omega)] at this;rw[<-this];congr 1
end
end Go.Ab
