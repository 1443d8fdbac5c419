/- The readable data of a row's arguments as abstract values. -/
import Derived.Test.YtkdkpeabkafebaaDoorRelatedB3
import Derived.ProofKit
import Derived.OpenShut
open Array renaming all_eq_true_iff_forall_mem->yHY
open Bool renaming and_eq_true->yGV, false_eq_true->yGX
open List renaming all_eq_true->yGT, getElem?_eq_getElem->yGU, getElem?_eq_none->yGW, drop_zero->yGY, range->yGZ, contains_iff_mem->yHA, take_of_length_le->yHB, mapM_cons->yHC, getElem?_map->yHD, getElem?_range->yHE, drop_drop->yHF, take_append_drop->yHG, mem_map->yHH, getElem?_eq_some_iff->yHI, map_cons->yHJ, drop_eq_nil_of_le->yHL, getElem?_of_mem->yHQ, ext_getElem?->yHU, getD_eq_getElem?_getD->yHW, map_map->yHX, take_append_of_le_length->yHZ, drop_append->yIA, nil_append->yIB, eq_nil_of_length_eq_zero->yIC, flatten_cons->yIF, map_congr_left->yIG, getElem?_replicate->yIH
open Nat renaming le_of_ble_eq_true->yHK, succ_mul->yHM, zero_mul->yHN, zero_le->yHP, sub_zero->yHR, zero_add->yHS, le_of_not_lt->yHV
open Option renaming bind_eq_some_iff->yHO, map_eq_some_iff->yHT, bind_eq_bind->yID, pure_def->yIE
set_option linter.unusedVariables false
set_option linter.unusedSimpArgs false
namespace Go.Ab
open Go
def y8 (P:Program):Nat->List Field->Nat->Bool
 | o,[],n=>o==n
 | o,f::fs,n=>f.offset==o&&y8 P (o+P.cellsOf f.type) fs n
def y9 (P:Program) (l:List TypeId):Bool:=l.all fun t=>match P.underlying t with
 | some .bool | some (.int _) | some .string=>P.cellsOf t==1
 | some (.slice e)=>P.cellsOf t==1&&l.contains e&&decide (0 < P.cellsOf e)
 | some (.struct fs)=>y8 P 0 fs.toList (P.cellsOf t)&&fs.all fun f=>l.contains f.type
 | some (.array n e)=>l.contains e&&n*P.cellsOf e==P.cellsOf t
 | _=>false
def wU (P:Program) (t:TypeId):Bool:=match P.underlying t with
 | some d=>aggD d
 | none=>false
def mkV (P:Program) (t:TypeId) (cs:List AV):AV:=if wU P t then .agg cs else cs.headD ud
def tyOk (P:Program):Nat->TypeId->List AV->Prop
 | 0,_,_=>False
 | n+1,t,cs=>match P.underlying t with
  | some .bool=>∃b,cs= [.bool b]
  | some (.int k)=>∃i,cs= [.int k i]/\(Lit.int k i).wf=true
  | some .string=>∃s,cs= [.str s]/\s.size<=maxLen
  | some (.slice e)=>∃xs,cs= [.sl (P.cellsOf e) xs .no]/\xs.length<=maxLen/\∀x∈xs,∃c,x=mkV P e c/\tyOk P n e c
  | some (.struct fs)=>cs.length=P.cellsOf t/\∀f∈fs.toList,tyOk P n f.type ((cs.drop f.offset).take (P.cellsOf f.type))
  | some (.array k e)=>cs.length=P.cellsOf t/\∀i,i < k->tyOk P n e ((cs.drop (i*P.cellsOf e)).take (P.cellsOf e))
  | _=>False
def allRel (w:World) (cs:List AV) (vs:List Value):Prop:=cs.length=vs.length/\∀(i:Nat) c v,cs[i]?=some c->vs[i]?=some v->RelI (xQ w) c v/\v.oneCell'=true/\c.one=true/\c.dull1
theorem allRel.app {w:World} {a b:List AV} {x y:List Value} (h1:allRel w a x) (h2:allRel w b y):allRel w (a++b) (x++y):=by
 refine ⟨by simp[h1.1,h2.1],fun i c v hc hv=> ?_⟩;rw[List.getElem?_append] at hc hv;rw[h1.1] at hc;split at hc
 ·rename_i hi;rw[if_pos hi] at hv;exact h1.2 i c v hc hv
 ·rename_i hi;rw[if_neg hi] at hv;exact h2.2 _ c v hc hv
theorem allRel.single {w:World} {c:AV} {v:Value} (h:RelI (xQ w) c v) (hv:v.oneCell'=true) (hc:c.one=true) (hd:c.dull1:=by trivial):allRel w [c] [v]:=
 ⟨rfl,fun i c' v' h1 h2=>by cases i with
  | zero=>simp at h1 h2;subst h1;subst h2;exact ⟨h,hv,hc,hd⟩
  | succ i=>simp at h1⟩
section
variable {P:Program} {w:World} {l:List TypeId} {t:TypeId}
theorem eU (hl:y9 P l=true) (ht:t∈l) (hu:P.underlying t=some .bool):P.cellsOf t=1:=by
 have:=yGT.1 hl t ht;rw[hu] at this;simpa using this
theorem aQ (hl:y9 P l=true) (ht:t∈l) {k} (hu:P.underlying t=some (.int k)):P.cellsOf t=1:=by
 have:=yGT.1 hl t ht;rw[hu] at this;simpa using this
theorem jY (hl:y9 P l=true) (ht:t∈l) (hu:P.underlying t=some .string):P.cellsOf t=1:=by
 have:=yGT.1 hl t ht;rw[hu] at this;simpa using this
theorem gN (hl:y9 P l=true) (ht:t∈l) {e} (hu:P.underlying t=some (.slice e)):P.cellsOf t=1/\e∈l/\0 < P.cellsOf e:=by
 have:=yGT.1 hl t ht;rw[hu] at this;simp only[yGV,beq_iff_eq,yHA,decide_eq_true_eq] at this;exact ⟨this.1.1,this.1.2,this.2⟩
theorem jX (hl:y9 P l=true) (ht:t∈l) {fs} (hu:P.underlying t=some (.struct fs)):y8 P 0 fs.toList (P.cellsOf t)=true/\∀f∈fs.toList,f.type∈l:=by
 have:=yGT.1 hl t ht;rw[hu] at this;simp only[yGV,yHY,yHA] at this;exact ⟨this.1,fun f hf=>this.2 f (by simpa using hf)⟩
theorem b6 (hl:y9 P l=true) (ht:t∈l) (h:wU P t=false):P.cellsOf t=1:=by
 have:=yGT.1 hl t ht;unfold wU at h;split at this
 ·simpa using this
 ·simpa using this
 ·simpa using this
 ·simp only[yGV,beq_iff_eq] at this;exact this.1.1
 ·rename_i hu;rw[hu] at h;simp[aggD] at h
 ·rename_i hu;rw[hu] at h;simp[aggD] at h
 ·simp at this
theorem zBR (hl:y9 P l=true) (ht:t∈l) {cs:List AV} {vs:List Value} (h:allRel w cs vs) (hlen:cs.length=P.cellsOf t):(mkV P t cs).cells=cs:=by
 unfold mkV;split
 ·rfl
 ·rename_i ha;have h1:=b6 hl ht (by simpa using ha);obtain ⟨c,rfl⟩:∃c,cs= [c]:=by
   cases cs with
   | nil=>simp at hlen;omega
   | cons c r=>cases r with
    | nil=>exact ⟨c,rfl⟩
    | cons _ _=>simp at hlen;omega
  obtain ⟨v,rfl⟩:∃v,vs= [v]:=by
   have:=h.1;cases vs with
   | nil=>simp at this
   | cons c r=>cases r with
    | nil=>exact ⟨c,rfl⟩
    | cons _ _=>simp at this
  have:=(h.2 0 c v rfl rfl).2.2;cases c<;>simp_all[AV.one,AV.cells]
theorem lC {n:Nat} {vs:List Value} {sz:Nat} (hv:vs.length=sz):∀(fs:List Field) (o:Nat),y8 P o fs sz=true->o<=sz->
  (∀f∈fs,∃cs,allRel w cs ((vs.drop f.offset).take (P.cellsOf f.type))/\tyOk P n f.type cs/\cs.length=P.cellsOf f.type)->
  ∃cs,allRel w cs (vs.drop o)/\∀f∈fs,o<=f.offset/\tyOk P n f.type ((cs.drop (f.offset - o)).take (P.cellsOf f.type))
 | [],o,h,ho,_=>by
  simp[y8] at h;subst h;refine ⟨[],⟨by simp[hv],by simp⟩,by simp⟩
 | f::fs,o,h,ho,hf=>by
  simp only[y8,yGV,beq_iff_eq] at h;obtain ⟨h1,h2⟩:=h;obtain ⟨c1,r1,t1,l1⟩:=hf f (by simp);rw[h1] at r1;have hlen:o+P.cellsOf f.type<=sz:=by
   have:=r1.1;rw[l1] at this;simp only[List.length_take,List.length_drop,hv] at this;omega
  obtain ⟨c2,r2,t2⟩:=lC hv fs (o+P.cellsOf f.type) h2 hlen (fun g hg=>hf g (by simp[hg]));refine ⟨c1++c2,?_,fun g hg=> ?_⟩
  ·have:=r1.app r2;rwa [show (vs.drop o).take (P.cellsOf f.type)++vs.drop (o+P.cellsOf f.type)=vs.drop o by rw[<-yHF,yHG]] at this
  ·rcases List.mem_cons.1 hg with rfl | hg
   ·refine ⟨by omega,?_⟩;rw[h1,Nat.sub_self,yGY,yHZ (by omega),yHB (by omega)];exact t1
   ·obtain ⟨q1,q2⟩:=t2 g hg;refine ⟨by omega,?_⟩;rw[yIA,yHL (by omega),yIB,l1,Nat.sub_sub];exact q2
theorem zDY {n k z:Nat} {e:TypeId} {vs:List Value} (hv:vs.length=k*z) (hf:∀i,i < k->∃cs,allRel w cs ((vs.drop (i*z)).take z)/\tyOk P n e cs/\cs.length=z):∀(r i0:Nat),i0+r=k->
  ∃cs,allRel w cs (vs.drop (i0*z))/\∀i,i0<=i->i < k->tyOk P n e ((cs.drop ((i - i0)*z)).take z)
 | 0,i0,h=>by
  have:vs.drop (i0*z)= []:=yHL (by rw[hv,<-h];exact Nat.le_refl _);exact ⟨[],⟨by simp[this],by simp⟩,fun i h1 h2=>by omega⟩
 | r+1,i0,h=>by
  obtain ⟨c1,r1,t1,l1⟩:=hf i0 (by omega);obtain ⟨c2,r2,t2⟩:=zDY hv hf r (i0+1) (by omega);refine ⟨c1++c2,?_,fun i h1 h2=> ?_⟩
  ·have:=r1.app r2;rwa [show (vs.drop (i0*z)).take z++vs.drop ((i0+1)*z)=vs.drop (i0*z) by rw[yHM,<-yHF,yHG]] at this
  ·by_cases e0:i=i0
   ·subst e0;rw[Nat.sub_self,yHN,yGY,yHZ (by omega),yHB (by omega)];exact t1
   ·have q:=t2 i (by omega) h2;have e1:(i - i0)*z=z+(i - (i0+1))*z:=by
     rw[show i - i0=(i - (i0+1))+1 by omega,yHM,Nat.add_comm]
    rw[yIA,yHL (by rw[e1,l1];omega),yIB,l1,e1,Nat.add_sub_cancel_left];exact q
theorem gP {base:Nat} {a:Addr} {n:Nat} {cs:List Value} (h:w.cells? base a n=some cs):cs.length=n/\∀i,i < n->w.cell? (a.add i)=cs[i]?:=by
 obtain ⟨_,hl,hc⟩:=World.cells?_some h;exact ⟨hl,hc⟩
theorem pG {H:Type} {enc:TypeId×Value->H} {base:Nat} {spare:Nat->Bool} {held:Bool} (hl:y9 P l=true):∀(fuel:Nat) (t:TypeId) (vs:List Value) (y:DataW H×List MemPlace),t∈l->
  DataW.trod enc P w base spare held fuel t vs=some y->∃cs,allRel w cs vs/\tyOk P fuel t cs/\cs.length=P.cellsOf t
 | 0,t,vs,y,ht,h=>by simp[DataW.trod] at h
 | n+1,t,vs,y,ht,h=>by
  have hcl:=yGT.1 hl t ht;cases hu:P.underlying t with
  | none=>rw[hu] at hcl;simp at hcl
  | some d=>
  cases d with
  | bool=>
   obtain ⟨b,rfl,_⟩:=DataW.trod_bool hu h;exact ⟨[.bool b],.single (.bool b) rfl rfl,by simp[tyOk,hu],by simp[eU hl ht hu]⟩
  | int k=>
   obtain ⟨m,rfl,_,hw⟩:=DataW.trod_int hu h;exact ⟨[.int k m],.single (.int k m) rfl rfl,by simp[tyOk,hu];simpa using hw,by simp[aQ hl ht hu]⟩
  | string=>
   obtain ⟨m,rfl,_,hw⟩:=DataW.trod_string hu h;exact ⟨[.str m],.single (.str m) rfl rfl,by simp[tyOk,hu];exact hw,by simp[jY hl ht hu]⟩
  | slice e=>
   obtain ⟨h1,he,hpos⟩:=gN hl ht hu;rcases DataW.trod_slice hu h with ⟨rfl,_⟩ | ⟨a,len,cap,elems,rest,n',hn,rfl,_,hb,hlc,hmax,hel,hget,_⟩
   ·exact ⟨[.sl (P.cellsOf e) [] .no],.single (.slE _ _ _ _ (by simp) (by simp)) rfl rfl,by simp[tyOk,hu],by simp[h1]⟩
   ·injection hn with hn;subst hn;have each:∀i,i < len->∃c evs,w.cells? base (a.add (i*P.cellsOf e)) (P.cellsOf e)=some evs/\allRel w c evs/\tyOk P n e c/\c.length=P.cellsOf e:=by
     intro i hi;have:=hget i hi;rw[yGU (by omega)] at this;rw[yHO] at this;obtain ⟨evs,q1,q2⟩:=this;obtain ⟨c,r1,r2,r3⟩:=pG hl n e evs _ he q2;exact ⟨c,evs,q1,r1,r2,r3⟩
    let f:Nat->List AV:=fun i=>if hi:i < len then Classical.choose (each i hi) else []
    have hf:∀i,i < len->∃evs,w.cells? base (a.add (i*P.cellsOf e)) (P.cellsOf e)=some evs/\allRel w (f i) evs/\tyOk P n e (f i)/\(f i).length=P.cellsOf e:=by
     intro i hi;simp only[f,hi,dif_pos];exact Classical.choose_spec (each i hi)
    let xs:List AV:=(yGZ len).map fun i=>mkV P e (f i)
    have hxl:xs.length=len:=by simp[xs]
    have hxm:∀x∈xs,∃i,i < len/\x=mkV P e (f i):=by
     intro x hx;obtain ⟨i,hi,rfl⟩:=yHH.1 hx;exact ⟨i,by simpa using hi,rfl⟩
    have hcells:∀i,i < len->(mkV P e (f i)).cells=f i:=by
     intro i hi;obtain ⟨evs,_,r1,_,r3⟩:=hf i hi;exact zBR hl he r1 r3
    have hty:∃xs',[AV.sl (P.cellsOf e) xs .no]= [AV.sl (P.cellsOf e) xs' .no]/\xs'.length<=maxLen/\∀x∈xs',∃c,x=mkV P e c/\tyOk P n e c:=by
     refine ⟨xs,rfl,by omega,fun x hx=> ?_⟩;obtain ⟨i,hi,rfl⟩:=hxm x hx;obtain ⟨_,_,_,r2,_⟩:=hf i hi;exact ⟨f i,rfl,r2⟩
    refine ⟨[.sl (P.cellsOf e) xs .no],.single ?_ rfl rfl,by simp only[tyOk,hu];exact hty,by simp[h1]⟩;by_cases h0:len=0
    ·subst h0;have:xs= []:=yIC hxl;rw[this];exact .slE _ _ _ _ (by simp) (by simp)
    ·have hspot:a.spot=none:=by
      obtain ⟨evs,q1,q2,_,_⟩:=hf 0 (by omega);obtain ⟨e1,e2⟩:=gP q1;have:=e2 0 hpos;rw[yGU (by omega)] at this;simp only[yHN,Addr.add,if_true] at this;unfold World.cell? at this;split at this
      ·split at this
       ·cases this
       ·rename_i hs;simpa using hs
      ·cases this
     obtain ⟨b,o,sp⟩:=a;simp only at hspot;subst hspot;have hz:∀x∈xs,x.cells.length=P.cellsOf e:=by
      intro x hx;obtain ⟨i,hi,rfl⟩:=hxm x hx;rw[hcells i hi];obtain ⟨_,_,_,_,r3⟩:=hf i hi;exact r3
     have hcell:∀i,i < len*P.cellsOf e->∃c v,(yC xs)[i]?=some c/\w.cell? ⟨b,o+i,none⟩=some v/\RelI (xQ w) c v/\v.oneCell'=true:=by
      intro i hi;have hq:i / P.cellsOf e < len:=(Nat.div_lt_iff_lt_mul hpos).2 hi;have hr:i % P.cellsOf e < P.cellsOf e:=Nat.mod_lt _ hpos;have hsum:i / P.cellsOf e*P.cellsOf e+i % P.cellsOf e=i:=by rw[Nat.mul_comm];exact Nat.div_add_mod i _
      obtain ⟨evs,q1,q2,q3,q4⟩:=hf _ hq;obtain ⟨e1,e2⟩:=gP q1;have hx:xs[i / P.cellsOf e]?=some (mkV P e (f (i / P.cellsOf e))):=by simp[xs,hq]
      have hfl:=uQ hz hx hr;rw[hsum,hcells _ hq] at hfl;have hv:=e2 _ hr;rw[yW,yW,Nat.add_assoc,hsum] at hv;have hc1:(f (i / P.cellsOf e))[i % P.cellsOf e]?=some ((f (i / P.cellsOf e))[i % P.cellsOf e]'(by omega)):=yGU _;have hv1:evs[i % P.cellsOf e]?=some (evs[i % P.cellsOf e]'(by omega)):=yGU _;obtain ⟨k1,k2,k3⟩:=q2.2 _ _ _ hc1 hv1;exact ⟨_,_,hfl.trans hc1,hv.trans hv1,k1,k2⟩
     have hfll:=zU hz;have:=RelI.slN (imm:=xQ w) (P.cellsOf e) xs .no b o cap (fun i=>(w.cell? ⟨b,o+i,none⟩).getD undef) (by intro e0;rw[e0] at hxl;simp at hxl;omega) (by omega) (by simp) hz
      (fun i c hc=>by
       have hi:i < len*P.cellsOf e:=by have:=(yHI.1 hc).1;rw[hfll,hxl] at this;exact this
       obtain ⟨c',v,k1,k2,k3,k4⟩:=hcell i hi;rw[k1] at hc;injection hc with hc;subst hc;rw[k2];exact k3)
      (fun i hi=>by
       rw[hfll,hxl] at hi;obtain ⟨c',v,k1,k2,k3,k4⟩:=hcell i hi;simp only[xQ,k2,k4,if_true,Option.getD_some])
     rw[hxl] at this;exact this
  | struct fs=>
   obtain ⟨h1,h2⟩:=jX hl ht hu;obtain ⟨xs,n',hn,_,hlen,hxl,hget⟩:=DataW.trod_struct hu h;injection hn with hn;subst hn;obtain ⟨cs,r1,r2⟩:=lC (P:=P) (w:=w) (n:=n) hlen fs.toList 0 h1 (yHP _) (fun f hf=>by
    obtain ⟨i,hi⟩:=yHQ hf;have hi':fs[i]?=some f:=by simpa using hi
    have hlt:i < fs.size:=(Array.getElem?_eq_some_iff.1 hi').1;have:=hget i f hi';rw[yGU (by omega)] at this;exact pG hl n f.type _ _ (h2 f hf) this)
   rw[yGY] at r1;refine ⟨cs,r1,?_,r1.1.trans hlen⟩;simp only[tyOk,hu];refine ⟨r1.1.trans hlen,fun f hf=> ?_⟩;have:=(r2 f hf).2;rwa [yHR] at this
  | array k e=>
   rw[hu] at hcl;simp only[yGV,yHA,beq_iff_eq] at hcl;obtain ⟨xs,n',hn,_,hlen,hxl,hget⟩:=DataW.trod_array hu h;injection hn with hn;subst hn;obtain ⟨cs,r1,r2⟩:=zDY (P:=P) (w:=w) (n:=n) (e:=e) (k:=k) (hlen.trans hcl.2.symm) (fun i hi=>by
    have h1:=hget i hi;rw[yGU (by omega)] at h1;exact pG hl n e _ _ hcl.1 h1) k 0 (yHS k)
   rw[yHN,yGY] at r1;refine ⟨cs,r1,?_,r1.1.trans hlen⟩;simp only[tyOk,hu];exact ⟨r1.1.trans hlen,fun i hi=>by have:=r2 i (yHP _) hi;rwa [yHR] at this⟩
  | _=>rw[hu] at hcl;simp at hcl
end
end Go.Ab
/- From a law's contract to the machine's call. -/
namespace Go.Ab
open Go
section
variable {P:Program} {G:Nat->Option (List AV)}
structure Stands (w w':World):Prop where
 heap:∀b,b < w.heap.size->w'.heap[b]?=w.heap[b]?
 size:w.heap.size<=w'.heap.size
 os:w'.os=w.os
 tape:w'.tape=w.tape
 output:w'.output=w.output
theorem zBV {f:FuncId} {args:List AV} {r:Bool} (hL:Loc P G 0 f args [] (.bool r) []) {W:World} {vs:Array Value} (hlen:args.length=vs.size)
  (hrel:∀(i:Nat) b v,args[i]?=some b->vs[i]?=some v->RelI (xQ W) b v) (hdull:∀b∈args,b.dull)
  (hglob:∀g cs,G g=some cs->∀(j:Nat) (c:AV),cs[j]?=some c->∃v,xQ W g j=some v/\RelI (xQ W) c v) (hf:f≠yid:=by decide):
  Calls P f vs W fun e W'=>e= .returned (.bool r)/\Stands W W':=by
 let E:GE:=⟨xQ W,fun _ _ _=>none,fun _=>0⟩
 let s:St:=⟨args,[],0,fun _ _=>(0,.dead)⟩
 have hlk:∀d i,(s.look d i).2= .dead:=by
  intro d i;simp only[s,St.look];split<;>simp
 have hnh:∀l ad z n cap,¬Hold E W s vs l ad z n cap:=by
  intro l ad z n cap hh;cases hh with
  | t i a0 v0 ad z n cap h1 h2 h3=>exact h3.dull (hdull _ (zP h1))
  | o d i j g cs z xs B arr el ad cap h1=>have:=hlk d i;rw[h1] at this;cases this
 have hok:Ok G (fun b=>b < W.heap.size) W E E W s vs:=by
  refine ⟨by simp[s,hlen],fun i b v hb hv=> .imm _ _ (hrel i b v hb hv),?_,fun d i g B hb=>by simp[E] at hb,fun d i g B hb=>by simp[E] at hb,fun d i hne=>absurd (hlk d i) hne,
   fun d i d' i' B h1=>absurd (hlk d i) h1.1,fun l ad z n cap hh=>absurd hh (hnh _ _ _ _ _),fun l l' ad ad' z z' n n' cap cap' hh=>absurd hh (hnh _ _ _ _ _),hglob,fun b hb=>⟨hb,rfl⟩,Nat.le_refl _,⟨rfl,rfl,rfl⟩,fun _ _ _=>rfl⟩
  intro b o v hv;simp only[E,xQ] at hv;split at hv
  ·rename_i u hu;split at hv
   ·rename_i h1;injection hv with hv;subst hv;unfold World.cell? at hu;split at hu
    ·rename_i c el fz hc;exact ⟨c,el,fz,hc,by simpa using hu,h1⟩
    ·cases hu
   ·cases hv
  ·cases hv
 refine ((hL.fn hf).2 (fun b=>b < W.heap.size) W E E W (fun _ _=>(0,.dead)) vs hok (by simp)).mono ?_;rintro e w' ⟨v,E',rfl,himm,hloc,hroom,ho⟩;have hv:=(ho.rel 0 (.bool r) v rfl rfl).bool_inv;subst hv;exact ⟨rfl,fun b hb=>(ho.frame b hb).2,ho.grow,ho.same.1,ho.same.2.1,ho.same.2.2⟩
end
end Go.Ab
/- Arguments of a row as abstract values; what a law's call leaves,in the kit's words. -/
namespace Go.Ab
open Go Go.RowKit
def Arg (P:Program) (t:TypeId) (a:AV):Prop:=∃fuel cs,tyOk P fuel t cs/\cs.length=P.cellsOf t/\a=mkV P t cs
section
variable {P:Program} {W:World} {l:List TypeId} {t:TypeId}
theorem qL {H:Type} {enc:TypeId×Value->H} {base base':Nat} {spare:Nat->Bool} {held:Bool} {r:Reach} (hl:y9 P l=true) (ht:t∈l) {v:Value} {d:DataW H} {p:List MemPlace}
  (hok:Value.okWide P W r base' t v) (h:DataW.Trod enc P W base spare held t v d p):∃a,Arg P t a/\RelI (xQ W) a v/\a.dull:=by
 obtain ⟨fuel,hf⟩:=h;obtain ⟨cs,h1,h2,h3⟩:=pG hl fuel t _ _ ht hf;refine ⟨mkV P t cs,⟨fuel,cs,h2,h3,rfl⟩,?_⟩;unfold mkV wU;unfold Value.okWide at hok;have hcl:=yGT.1 hl t ht;cases fuel with
 | zero=>simp[tyOk] at h2
 | succ n=>
 have single:∀{c:AV},cs= [c]->v.cells= #[v]->RelI (xQ W) (cs.headD ud) v:=by
  intro c hc hv;subst hc;rw[hv] at h1;exact (h1.2 0 c v rfl rfl).1
 cases hu:P.underlying t with
 | none=>rw[hu] at hcl;simp at hcl
 | some ds=>
 rw[hu] at hok;cases ds with
 | bool=>
  simp only[tyOk,hu] at h2;obtain ⟨b,rfl⟩:=h2;have hv:v.cells= #[v]:=by cases v<;>simp[Cell.okWide,hu,Cell.ok] at hok<;>rfl
  simp only[aggD,yGX,if_false];exact ⟨single rfl hv,trivial⟩
 | int k=>
  simp only[tyOk,hu] at h2;obtain ⟨b,rfl,_⟩:=h2;have hv:v.cells= #[v]:=by cases v<;>simp[Cell.okWide,hu,Cell.ok] at hok<;>rfl
  simp only[aggD,yGX,if_false];exact ⟨single rfl hv,trivial⟩
 | string=>
  simp only[tyOk,hu] at h2;obtain ⟨b,rfl,_⟩:=h2;have hv:v.cells= #[v]:=by cases v<;>simp[Cell.okWide,hu,Cell.ok] at hok<;>rfl
  simp only[aggD,yGX,if_false];exact ⟨single rfl hv,trivial⟩
 | slice e=>
  simp only[tyOk,hu] at h2;obtain ⟨b,rfl,_⟩:=h2;have hv:v.cells= #[v]:=by cases v<;>simp[Cell.okWide,hu,Cell.ok] at hok<;>rfl
  simp only[aggD,yGX,if_false];exact ⟨single rfl hv,trivial⟩
 | struct fs=>
  simp only[aggD,if_true];obtain ⟨arr,rfl,_,_⟩:=hok;refine ⟨?_,fun c hc=>by
   obtain ⟨i,hi⟩:=yHQ hc;have hlt:i < (Value.agg arr).cells.toList.length:=by rw[<-h1.1];exact (yHI.1 hi).1
   exact (h1.2 i c _ hi (yGU hlt)).2.2.2⟩
  have:=RelI.agg (imm:=xQ W) cs arr.toList h1.1 (fun i c u hc hu=>(h1.2 i c u hc hu).1);simpa using this
 | array k e=>
  simp only[aggD,if_true];obtain ⟨arr,rfl,_,_⟩:=hok;refine ⟨?_,fun c hc=>by
   obtain ⟨i,hi⟩:=yHQ hc;have hlt:i < (Value.agg arr).cells.toList.length:=by rw[<-h1.1];exact (yHI.1 hi).1
   exact (h1.2 i c _ hi (yGU hlt)).2.2.2⟩
  have:=RelI.agg (imm:=xQ W) cs arr.toList h1.1 (fun i c u hc hu=>(h1.2 i c u hc hu).1);simpa using this
 | _=>rw[hu] at hcl;simp at hcl
end
end Go.Ab
/- A laid datum of numbers,structs and arrays determines the cells. -/
namespace Go.Ab
open Go Go.RowKit
def rO {H:Type}:Nat->DataW H->Option (List Value)
 | 0,_=>none
 | n+1,.lit (.int k i)=>some [.int k i]
 | n+1,.lit (.bool b)=>some [.bool b]
 | n+1,.lit (.string b)=>some [.string ⟨b.toArray⟩]
 | n+1,.agg ds=>(ds.mapM (rO n)).map List.flatten
 | n+1,_=>none
def zCB (P:Program) (l:List TypeId):Bool:=l.all fun t=>match P.underlying t with
 | some .bool | some (.int _) | some .string=>true
 | some (.struct fs)=>y8 P 0 fs.toList (P.cellsOf t)&&fs.all fun f=>l.contains f.type
 | some (.array n e)=>l.contains e&&n*P.cellsOf e==P.cellsOf t
 | _=>false
section
variable {P:Program} {w:World} {l:List TypeId} {H:Type} {enc:TypeId×Value->H} {base:Nat} {spare:Nat->Bool} {held:Bool}
theorem mK {m:Nat} {vs:List Value} {sz:Nat} (hv:vs.length=sz):∀(fs:List Field) (o:Nat) (xs:List (DataW H×List MemPlace)) (uss:List (List Value)),y8 P o fs sz=true->xs.length=fs.length->
  xs.mapM (fun x=>rO m x.1)=some uss->(∀(i:Nat) f x us,fs[i]?=some f->xs[i]?=some x->rO m x.1=some us->(vs.drop f.offset).take (P.cellsOf f.type)=us)->vs.drop o=uss.flatten
 | [],o,xs,uss,h,hl,hm,_=>by
  simp[y8] at h;subst h;have:xs= []:=yIC (by simpa using hl);subst this;simp at hm;subst hm;simp[hv]
 | f::fs,o,xs,uss,h,hl,hm,hf=>by
  simp only[y8,yGV,beq_iff_eq] at h;obtain ⟨h1,h2⟩:=h;cases xs with
  | nil=>simp at hl
  | cons x xs=>
   rw[yHC] at hm;simp only[yID,yHO,yIE,Option.some.injEq] at hm;obtain ⟨us,hu,uss',hm',rfl⟩:=hm;have e1:=hf 0 f x us rfl rfl hu;have e2:=mK hv fs (o+P.cellsOf f.type) xs uss' h2 (by simpa using hl) hm' (fun i g y us hg hy hus=>hf (i+1) g y us (by simpa using hg) (by simpa using hy) hus);rw[h1] at e1;rw[yIF,<-e1,<-e2,<-yHF,yHG]
theorem bI {m z:Nat} {vs:List Value}:∀(xs:List (DataW H×List MemPlace)) (i0:Nat) (uss:List (List Value)),vs.length=(i0+xs.length)*z->
  xs.mapM (fun x=>rO m x.1)=some uss->(∀(i:Nat) x us,xs[i]?=some x->rO m x.1=some us->(vs.drop ((i0+i)*z)).take z=us)->vs.drop (i0*z)=uss.flatten
 | [],i0,uss,hv,hm,_=>by
  simp at hm;subst hm;simp at hv;simp[hv]
 | x::xs,i0,uss,hv,hm,hf=>by
  rw[yHC] at hm;simp only[yID,yHO,yIE,Option.some.injEq] at hm;obtain ⟨us,hu,uss',hm',rfl⟩:=hm;have e1:=hf 0 x us rfl hu;have e2:=bI xs (i0+1) uss' (by rw[hv];congr 1;simp;omega) hm' (fun i y us hy hus=>by
   have:=hf (i+1) y us (by simpa using hy) hus;rwa [show i0+(i+1)=i0+1+i by omega] at this)
  rw[Nat.add_zero] at e1;rw[yIF,<-e1,<-e2,yHM,<-yHF,yHG]
theorem qU {m:Nat} {xs:List (DataW H×List MemPlace)} {uss:List (List Value)}:((xs.map (·.1)).mapM (rO m))=some uss->xs.mapM (fun x=>rO m x.1)=some uss:=by
 intro h;rw[<-h];clear h
 induction xs generalizing uss with
 | nil=>rfl
 | cons x xs ih=>simp only[yHJ,yHC,ih (uss:=uss)]
theorem pU (hl:zCB P l=true):∀(fuel m:Nat) (t:TypeId) (vs us:List Value) (y:DataW H×List MemPlace),t∈l->
  DataW.trod enc P w base spare held fuel t vs=some y->rO m y.1=some us->vs=us
 | 0,m,t,vs,us,y,ht,h,hf=>by simp[DataW.trod] at h
 | n+1,0,t,vs,us,y,ht,h,hf=>by simp[rO] at hf
 | n+1,m+1,t,vs,us,y,ht,h,hf=>by
  have hcl:=yGT.1 hl t ht;cases hu:P.underlying t with
  | none=>rw[hu] at hcl;simp at hcl
  | some d=>
  cases d with
  | bool=>
   obtain ⟨b,rfl,rfl⟩:=DataW.trod_bool hu h;simpa[rO] using hf
  | int k=>
   obtain ⟨b,rfl,rfl,_⟩:=DataW.trod_int hu h;simpa[rO] using hf
  | string=>
   obtain ⟨b,rfl,rfl,_⟩:=DataW.trod_string hu h;simpa[rO] using hf
  | struct fs=>
   rw[hu] at hcl;simp only[yGV,yHY,yHA] at hcl;obtain ⟨xs,n',hn,rfl,hlen,hxl,hget⟩:=DataW.trod_struct hu h;injection hn with hn;subst hn;simp only[rO,yHT] at hf;obtain ⟨uss,hm,rfl⟩:=hf;have:=mK (P:=P) (m:=m) hlen fs.toList 0 xs uss hcl.1 (by simpa using hxl) (qU hm) (fun i f x us hfi hx hus=>by
    have hfi':fs[i]?=some f:=by simpa using hfi
    have h1:=hget i f hfi';rw[hx] at h1;exact pU hl n m f.type _ us x (hcl.2 f (Array.mem_of_getElem? hfi')) h1 hus)
   simpa using this
  | array k e=>
   rw[hu] at hcl;simp only[yGV,yHA,beq_iff_eq] at hcl;obtain ⟨xs,n',hn,rfl,hlen,hxl,hget⟩:=DataW.trod_array hu h;injection hn with hn;subst hn;simp only[rO,yHT] at hf;obtain ⟨uss,hm,rfl⟩:=hf;have:=bI (m:=m) (z:=P.cellsOf e) (vs:=vs) xs 0 uss (by rw[hlen,yHS,hxl];exact hcl.2.symm) (qU hm) (fun i x us hx hus=>by
    rw[yHS];have h1:=hget i (by rw[<-hxl];exact (yHI.1 hx).1);rw[hx] at h1;exact pU hl n m e _ us x hcl.1 h1 hus)
   simpa using this
  | _=>rw[hu] at hcl;simp at hcl
end
end Go.Ab
/- Symbolic runs: straight code is computed up to the next round of a loop. -/
namespace Go.Ab
open Go
section
variable {P:Program} {G:Nat->Option (List AV)} {L:xA} {T:FuncId->Option FnC} {orc:FuncId->List AV->Option AV}
theorem Sim.refl (s:St):Sim s s:=⟨rfl,rfl,rfl,fun _ _ _ _=>rfl⟩
end
end Go.Ab
/- Lemmas for symbolic runs: what is frozen. -/
namespace Go.Ab
open Go
theorem zLZ (s:St) (n:Nat) (k i):frz s (n+1) (.int k i)=some (.int k i,[]):=rfl
theorem zUZ (s:St) (n:Nat) (z xs t):frz s (n+1) (.sl z xs t)=some (.sl z xs t,[]):=rfl
def AV.still1:AV->Bool
 | .int .. | .bool _ | .sl .. | .box .. | .nilp | .nilf | .nili | .nilm | .str _=>true
 | _=>false
theorem b7 (s:St) (n:Nat) {v:AV} (h:v.still1=true):frz s (n+1) v=some (v,[]):=by
 cases v<;>first | rfl | simp[AV.still1] at h
theorem zMA (s:St) (n:Nat) {cs:List AV} (h:cs.all AV.still1=true):frz s (n+2) (.agg cs)=some (.agg cs,[]):=by
 have:∀{cs:List AV},cs.all AV.still1=true->cs.mapM (frz s (n+1))=some (cs.map fun c=>(c,[])):=by
  intro cs
  induction cs with
  | nil=>intro _;rfl
  | cons c cs ih=>
   intro h;simp only[List.all_cons,yGV] at h;rw[yHC,b7 s n h.1];simp[ih h.2]
 rw[frz,this h];simp[Function.comp_def]
theorem zGH (s:St) {cs:List AV} (h:cs.all AV.still1=true):frz s frzD (.agg cs)=some (.agg cs,[]):=zMA s 18 h
end Go.Ab
/- Deterministic runs,by rewriting: the states are given by functions. -/
namespace Go.Ab
open Go
def upd {α:Type} (τ:Nat->α) (d:Nat) (v:α):Nat->α:=fun t=>if t=d then v else τ t
theorem vE {α:Type} (τ:Nat->α) (d:Nat) (v:α) (t:Nat):upd τ d v t=if t=d then v else τ t:=rfl
def stF (n D:Nat) (τ:Nat->AV) (ω:Nat->Ent) (S:Nat->Nat->Ent):St:=⟨(yGZ n).map τ,(yGZ n).map ω,D,S⟩
section
variable {n D:Nat} {τ:Nat->AV} {ω:Nat->Ent} {S:Nat->Nat->Ent}
theorem oU {α:Type} (n:Nat) (τ:Nat->α) (d:Nat) (v:α):((yGZ n).map τ).set d v=(yGZ n).map (upd τ d v):=by
 apply yHU;intro i;simp only[List.getElem?_set,yHD,List.length_map,List.length_range,List.getElem?_range',upd];by_cases h:i < n
 ·rw[yHE h];by_cases e:d=i
  ·subst e;simp[h,upd]
  ·have e':¬i=d:=fun q=>e q.symm;simp[e,e',upd]
 ·rw[yGW (by simpa using yHV h)];by_cases e:d=i
  ·subst e;simp[h]
  ·simp[e]
theorem tM {α:Type} (n:Nat) (τ:Nat->α) (d:α) (i:Nat):((yGZ n).map τ).getD i d=if i < n then τ i else d:=by
 rw[yHW,yHD];by_cases h:i < n
 ·rw[yHE h];simp[h]
 ·rw[yGW (by simpa using yHV h)];simp[h]
theorem pZ (t:Nat):(stF n D τ ω S).rd t=if t < n then τ t else ud:=tM n τ ud t
theorem z5 (d:Nat) (v:AV):(stF n D τ ω S).put (some d) v=stF n D (upd τ d v) ω S:=by
 simp only[St.put,stF,oU]
theorem zFI (v:AV):(stF n D τ ω S).put none v=stF n D τ ω S:=rfl
theorem nW:(stF n D τ ω S).D=D:=rfl
theorem yCL:(stF n D τ ω S).S=S:=rfl
theorem zKH (i:Nat):(stF n D τ ω S).ev (.t i)=if i < n then (τ i).dem else ud:=by
 simp only[St.ev,pZ];split<;>rfl
theorem zKI (v:AV):(stF n D τ ω S).ev (.c v)=v:=rfl
theorem zFJ (i:Nat):(stF n D τ ω S).evr (.t i)=if i < n then τ i else ud:=pZ i
theorem zFK (v:AV):(stF n D τ ω S).evr (.c v)=v:=rfl
theorem uJ (i:Nat):(stF n D τ ω S).os[i]?=if i < n then some (ω i) else none:=by
 simp only[stF,yHD];by_cases h:i < n
 ·rw[yHE h];simp[h]
 ·rw[yGW (by simpa using yHV h)];simp[h]
theorem zKG (i:Nat) (h:i < (stF n D τ ω S).os.length):(stF n D τ ω S).os[i]=ω i:=by
 have e:=uJ (n:=n) (D:=D) (τ:=τ) (ω:=ω) (S:=S) i;have hl:(stF n D τ ω S).os.length=n:=by simp[stF]
 rw[yGU h,if_pos (by omega)] at e;exact Option.some.inj e
theorem l3:(stF n D τ ω S).os.length=n:=by simp[stF]
theorem zS (d i:Nat):(stF n D τ ω S).look d i=if d=D then (if i < n then ω i else (0,.dead)) else S d i:=by
 by_cases h:d=D
 ·subst h;simp only[St.look,stF,if_true];exact tM n ω _ i
 ·unfold St.look;rw[if_neg (show¬d=(stF n D τ ω S).D from h),if_neg h];rfl
theorem wQ (d i:Nat) (e:Ent):(stF n D τ ω S).up (d,i,e)=if d=D then stF n D τ (upd ω i e) S else stF n D τ ω (updS S d i e):=by
 by_cases h:d=D
 ·subst h;simp only[St.up,stF,oU,if_true]
 ·unfold St.up;rw[if_neg (show¬d=(stF n D τ ω S).D from h),if_neg h];rfl
theorem tB (t:Nat):(stF n D τ ω S).demT t=stF n D (upd τ t (τ t).dem) ω S:=by
 simp only[St.demT,pZ];have:=z5 (n:=n) (D:=D) (τ:=τ) (ω:=ω) (S:=S) t (if t < n then τ t else ud).dem;simp only[St.put] at this;rw[this];by_cases h:t < n
 ·rw[if_pos h]
 ·rw[if_neg h];unfold stF;congr 1;refine yIG fun i hi=> ?_;have hi:=List.mem_range.1 hi;have:i≠t:=by omega
  simp[upd,this]
def uY:Nat->List AV->Nat->AV
 | _,[]=>fun _=>ud
 | i,a::as=>upd (uY (i+1) as) i a
theorem bJ:∀(as:List AV) (i t:Nat),uY i as t=if i<=t then as.getD (t - i) ud else ud
 | [],i,t=>by simp[uY]
 | a::as,i,t=>by
  rw[uY,vE,bJ as (i+1) t];by_cases h:t=i
  ·subst h;simp
  ·rw[if_neg h];by_cases h1:i<=t
   ·rw[if_pos (by omega),if_pos h1];obtain ⟨m,hm⟩:∃m,t - i=m+1:=⟨t - i - 1,by omega⟩;rw[hm,show t - (i+1)=m by omega];simp
   ·rw[if_neg (by omega),if_neg h1]
theorem vF (n:Nat) (args:List AV) (D:Nat) (S:Nat->Nat->Ent) (h:args.length<=n):St.start n args D S=stF n D (uY 0 args) (fun _=>(0,.dead)) S:=by
 unfold St.start stF;congr 1
 ·apply yHU;intro i;rw[yHD];by_cases hi:i < n
  ·rw[yHE hi];simp only[Option.map_some,bJ,yHP,if_true,yHR];by_cases ha:i < args.length
   ·rw[List.getElem?_append_left ha,yHW,yGU ha];rfl
   ·rw[List.getElem?_append_right (by omega),yIH,if_pos (by omega),yHW,yGW (by omega)];rfl
  ·rw[yGW (by simp;omega),yGW (by simp;omega)];rfl
 ·apply yHU;intro i;rw[yHD,yIH];by_cases hi:i < n
  ·rw[yHE hi];simp[hi]
  ·rw[yGW (by simp;omega)];simp[hi]
end
inductive Md where
 | im
 | ow
 | fr
 /-- a round of a loop over a function: as im; an exit may leave it -/
 | rn
 /-- as im; at a new object the proof says where it lies -/
 | pl
def AOp.isPl:AOp->Bool
 | .alloc .. | .box .. | .bslice .. | .append .. | .mkslice .. | .mkmap=>true
 | _=>false
def AOp.isApp:AOp->Bool
 | .append .. =>true
 | .bslice _ _ []=>true
 | _=>false
def AOp.isLd:AOp->Bool
 | .load .. =>true
 | _=>false
def AOp.isMv:AOp->Bool
 | .mov .. =>true
 | _=>false
def evN (own:Md) (s:St) (dst:Option Nat) (op:AOp):Option Eff:=
 match op with
 | .send .. | .recv .. =>opfC s op
 | op=>match own with
  | .im=>opf s dst op
  | .ow=>match opfO s dst op with | some e=>some e | none=>opf s dst op
  | .fr=>if op.isApp then none else if op.isLd then opfO s dst op else match opf s dst op with | some e=>some e | none=>opfO s dst op
  | .rn=>opf s dst op
  | .pl=>if op.isPl then none else if op.isLd then opfO s dst op else if op.isMv then opfO s dst op else opf s dst op
def AOp.isCall:AOp->Bool
 | .call .. | .callL .. | .callv .. =>true
 | _=>false
inductive CallE (C:zL) (s:St):AOp->Eff->Prop where
 | call {f:FuncId} {args:List Opd} {M dl:List (Nat×Nat×Ent)} {r:AV}:f≠yid->
   C (s.D+1) f (args.map fun x=>(s.ev x).strip) M r dl->(∀m∈M,m.1<=s.D/\(m.1=s.D->m.2.1 < s.os.length)/\s.look m.1 m.2.1=m.2.2)->
   (∀u∈dl,(u.1,u.2.1)∈M.map (fun m=>(m.1,m.2.1))/\u.2.2.2≠ .dead)->
   CallE C s (.call f args) {val:=r,ups:=dl,rd:=M.map fun m=>(m.1,m.2.1)}
 | callL {f:FuncId} {args:List Opd} {M dl:List (Nat×Nat×Ent)} {r:AV}:f≠yid->(args.flatMap Opd.tmp).Nodup->
   C (s.D+1) f (args.map fun x=>(s.evr x).keep) M r dl->(∀m∈M,m.1<=s.D/\(m.1=s.D->m.2.1 < s.os.length)/\s.look m.1 m.2.1=m.2.2)->
   (∀u∈dl,(u.1,u.2.1)∈M.map (fun m=>(m.1,m.2.1))/\u.2.2.2≠ .dead)->
   CallE C s (.callL f args) {val:=r,ups:=dl,dem:=args.flatMap Opd.tmp,rd:=M.map fun m=>(m.1,m.2.1)}
 | callv {f:FuncId} {cap:List AV} {x:Opd} {args:List Opd} {M dl:List (Nat×Nat×Ent)} {r:AV}:f≠yid->
   s.ev x= .fn f cap->C (s.D+1) f ((args.map fun x=>(s.ev x).strip)++cap.map AV.strip) M r dl->(∀m∈M,m.1<=s.D/\(m.1=s.D->m.2.1 < s.os.length)/\s.look m.1 m.2.1=m.2.2)->
   (∀u∈dl,(u.1,u.2.1)∈M.map (fun m=>(m.1,m.2.1))/\u.2.2.2≠ .dead)->
   CallE C s (.callv x args) {val:=r,ups:=dl,rd:=M.map fun m=>(m.1,m.2.1)}
 | callm {f:FuncId} {bs:List AV} {x:Opd} {args:List Opd} {M dl:List (Nat×Nat×Ent)} {r:AV}:f≠yid->
   s.ev x= .meth f bs->C (s.D+1) f (bs.map AV.strip++(args.map fun x=>(s.ev x).strip)) M r dl->(∀m∈M,m.1<=s.D/\(m.1=s.D->m.2.1 < s.os.length)/\s.look m.1 m.2.1=m.2.2)->
   (∀u∈dl,(u.1,u.2.1)∈M.map (fun m=>(m.1,m.2.1))/\u.2.2.2≠ .dead)->
   CallE C s (.callv x args) {val:=r,ups:=dl,rd:=M.map fun m=>(m.1,m.2.1)}
 | yld {d i g:Nat} {x:Opd} {args:List Opd} {M dl:List (Nat×Nat×Ent)} {r:AV}:
   s.ev x= .yl d i g->C (s.D+1) yid (.yl d i g::args.map fun x=>(s.ev x).strip) M r dl->(∀m∈M,m.1<=s.D/\(m.1=s.D->m.2.1 < s.os.length)/\s.look m.1 m.2.1=m.2.2)->
   (∀u∈dl,(u.1,u.2.1)∈M.map (fun m=>(m.1,m.2.1))/\u.2.2.2≠ .dead)->
   CallE C s (.callv x args) {val:=r,ups:=dl,rd:=M.map fun m=>(m.1,m.2.1)}
theorem CallE.op {C s op e} (h:CallE C s op e) (dst):OpE C s dst op e:=by
 cases h with
 | call h0 h1 h2 h3=>exact .call h0 h1 h2 h3
 | callL h0 h1 h2 h3 h4=>exact .callL h0 h1 h2 h3 h4
 | callv h0 h1 h2 h3 h4=>exact .callv h0 h1 h2 h3 h4
 | callm h0 h1 h2 h3 h4=>exact .callm h0 h1 h2 h3 h4
 | yld h1 h2 h3 h4=>exact .yld h1 h2 h3 h4
theorem CallE.isCall {C s op e} (h:CallE C s op e):op.isCall=true:=by cases h<;>rfl
theorem zCF {C own s dst op e} (h:evN own s dst op=some e):OpE C s dst op e:=by
 unfold evN at h;split at h
 ·exact .comm h
 ·exact .comm h
 ·split at h
  ·exact .op h
  ·split at h
   ·rename_i he;injection h with h;subst h;exact .own he
   ·exact .op h
  ·split at h
   ·cases h
   ·split at h
    ·exact .own h
    ·split at h
     ·rename_i he;injection h with h;subst h;exact .op he
     ·exact .own h
  ·exact .op h
  ·split at h
   ·cases h
   ·split at h
    ·exact .own h
    ·split at h
     ·exact .own h
     ·exact .op h
def AppE (s:St) (dst:Option Nat) (op:AOp) (e:Eff):Prop:=op.isApp=true/\(opf s dst op=some e\/(∃slot,opfO s slot op=some e)\/
 ∃z ea d ent,op= .bslice z ea []/\dst=some d/\s.os[d]?=some ent/\e={val:= .own s.D d (ent.1+1) 0 0 z ea,ups:=[(s.D,d,(ent.1+1,.cells []))]})
theorem AppE.op {C s dst op e} (h:AppE s dst op e):OpE C s dst op e:=by
 rcases h.2 with h | ⟨slot,h⟩ | ⟨z,ea,d,ent,rfl,h1,h2,rfl⟩
 ·exact .op h
 ·exact .own h
 ·exact .emp h1 h2
def PlE (s:St) (dst:Option Nat) (op:AOp) (e:Eff):Prop:=op.isPl=true/\(opf s dst op=some e\/∃d i,opfP s d i op=some e)
theorem PlE.op {C s dst op e} (h:PlE s dst op e):OpE C s dst op e:=by
 rcases h.2 with h | ⟨d,i,h⟩
 ·exact .op h
 ·exact .plc h
def AOp.isComm:AOp->Bool
 | .send .. | .recv .. =>true
 | _=>false
theorem xS {own s d op} (h1:opfO s d op=none) (h2:op.isComm=false) (h3:op.isApp=false) (h4:op.isLd=false) (h5:own= .pl->op.isPl=false):evN own s d op=opf s d op:=by
 have h6:op.isMv=false:=by
  cases op<;>first | rfl | skip
  rename_i take x;cases take<;>simp[opfO] at h1
 unfold evN;split
 ·cases h2
 ·cases h2
 ·cases own
  ·rfl
  ·simp only[h1]
  ·simp only[h3,h4,h1,yGX,if_false];cases opf s d op<;>rfl
  ·rfl
  ·simp only[h5 rfl,h4,h6,yGX,if_false]
theorem z4 {own s d op} (h1:opfO s d op=none) (h2:op.isComm=false) (h3:op.isApp=false) (h4:op.isLd=false) (h5:op.isPl=false:=by rfl):evN own s d op=opf s d op:=xS h1 h2 h3 h4 fun _=>h5
theorem zGK {own s d ag m p}:evN own s d (.load ag m false p)=opf s d (.load ag m false p):=by
 cases own
 ·rfl
 ·show (match opf s d (.load ag m false p) with | some e=>some e | none=>opf s d (.load ag m false p))=_
  cases opf s d (.load ag m false p)<;>rfl
 ·rfl
 ·rfl
 ·rfl
def St.out (s:St) (id:Nat):St:={s with D:=s.D+1+2*id}
def St.outRet (s:St):St:={s with D:=s.D+2}
inductive Rd (C:zL) (own:Md) (Q:St->Prop):List AI->St->Prop where
 | done {s}:Q s->Rd C own Q [] s
 | ret {k s}:own≠ .rn->Q s->Rd C own Q (.c .ret::k) s
 | out {id k s}:own= .rn->exitTo id k=none->Q (s.out id)->Rd C own Q (.c (.exit id)::k) s
 | outRet {k s}:own= .rn->Q s.outRet->Rd C own Q (.c .ret::k) s
 | skip {k s}:Rd C own Q k s->Rd C own Q (.c .skip::k) s
 | seq {a b k s}:Rd C own Q (.c a:: .c b::k) s->Rd C own Q (.c (.seq a b)::k) s
 | cond {c a b k s t}:s.ev c= .bool t->Rd C own Q (.c (if t then a else b)::k) s->Rd C own Q (.c (.cond c a b)::k) s
 | condU {c a b k s}:s.ev c= .ub->Rd C own Q (.c a::k) s->Rd C own Q (.c b::k) s->Rd C own Q (.c (.cond c a b)::k) s
 | block {id a k s}:Rd C own Q (.c a:: .blk id::k) s->Rd C own Q (.c (.block id a)::k) s
 | blk {id k s}:Rd C own Q k s->Rd C own Q (.blk id::k) s
 | loop {a k s}:Rd C own Q (.lp a::k) s->Rd C own Q (.c (.loop a)::k) s
 | lp {a k s}:Rd C own Q (.c a:: .lp a::k) s->Rd C own Q (.lp a::k) s
 | exit {id k k' s}:exitTo id k=some k'->Rd C own Q k' s->Rd C own Q (.c (.exit id)::k) s
 | region {l k s}:Rd C own Q (.ops l::k) s->Rd C own Q (.c (.region l none)::k) s
 | opsNil {k s}:Rd C own Q k s->Rd C own Q (.ops []::k) s
 | opsOn {o l k s e}:gate s o.guard=some true->evN own s o.dst o.op=some e->Rd C own Q (.ops l::k) (s.app o.dst e)->Rd C own Q (.ops (o::l)::k) s
 | opsCall {o l k s e}:gate s o.guard=some true->CallE C s o.op e->Rd C own Q (.ops l::k) (s.app o.dst e)->Rd C own Q (.ops (o::l)::k) s
 | opsApp {o l k s e}:own= .fr->gate s o.guard=some true->AppE s o.dst o.op e->Rd C own Q (.ops l::k) (s.app o.dst e)->Rd C own Q (.ops (o::l)::k) s
 | opsPl {o l k s e}:own= .pl->gate s o.guard=some true->PlE s o.dst o.op e->Rd C own Q (.ops l::k) (s.app o.dst e)->Rd C own Q (.ops (o::l)::k) s
 | opsOff {o l k s}:gate s o.guard=some false->Rd C own Q (.ops l::k) (s.put o.dst ud)->Rd C own Q (.ops (o::l)::k) s
 | either {o0 o1 o2 o3 k s e0}:o0.guard=none->evN own s o0.dst o0.op=some e0->Rd C own Q (.ops [o1,o2,o3]::k) (s.app o0.dst e0)->Rd C own Q (.ops [o2,o1,o3]::k) (s.app o0.dst e0)->Rd C own Q (.c (.either o0 o1 o2 o3)::k) s
 | draw {l ps k s}:Rd C own Q (.dr ps l []::k) s->Rd C own Q (.c (.region l (some ps))::k) s
 | drOn {o l ps es k s e}:gate s o.guard=some true->evN own s o.dst o.op=some e->Rd C own Q (.dr ps l (es++[e])::k) (s.app o.dst e)->Rd C own Q (.dr ps (o::l) es::k) s
 | drCall {o l ps es k s e}:gate s o.guard=some true->CallE C s o.op e->Rd C own Q (.dr ps l (es++[e])::k) (s.app o.dst e)->Rd C own Q (.dr ps (o::l) es::k) s
 | drApp {o l ps es k s e}:own= .fr->gate s o.guard=some true->AppE s o.dst o.op e->Rd C own Q (.dr ps l (es++[e])::k) (s.app o.dst e)->Rd C own Q (.dr ps (o::l) es::k) s
 | drPl {o l ps es k s e}:own= .pl->gate s o.guard=some true->PlE s o.dst o.op e->Rd C own Q (.dr ps l (es++[e])::k) (s.app o.dst e)->Rd C own Q (.dr ps (o::l) es::k) s
 | drOff {o l ps es k s}:gate s o.guard=some false->Rd C own Q (.dr ps l (es++[({}:Eff)])::k) (s.put o.dst ud)->Rd C own Q (.dr ps (o::l) es::k) s
 | drNil {ps es k s}:(ps.all fun p=>lN (es.getD p.1 ({}:Eff)) (es.getD p.2 ({}:Eff)))=true->Rd C own Q k s->Rd C own Q (.dr ps [] es::k) s
def WQ (own:Md) (Q:St->Prop):Way->St->Prop
 | .fall,s=>Q s
 | .ret,s=>(own≠ .rn/\Q s)\/(own= .rn/\Q s.outRet)
 | .exit id,s=>own= .rn/\Q (s.out id)
 | .stop ..,_=>False
theorem Rd.runW {C own Q k s} (h:Rd C own Q k s):RunW C (WQ own Q) k s:=by
 induction h with
 | done h=>exact .done h
 | ret h1 h=>exact .ret (.inl ⟨h1,h⟩)
 | out h1 h2 h=>exact .out h2 ⟨h1,h⟩
 | outRet h1 h=>exact .ret (.inr ⟨h1,h⟩)
 | skip _ ih=>exact .skip ih
 | seq _ ih=>exact .seq ih
 | cond h _ ih=>exact .cond h ih
 | condU h _ _ ih1 ih2=>exact .condU h ih1 ih2
 | block _ ih=>exact .block ih
 | blk _ ih=>exact .blk ih
 | loop _ ih=>cases ih with | lp h=>exact .loop h
 | lp _ ih=>exact .lp ih
 | exit h _ ih=>exact .exit h ih
 | region _ ih=>exact .region ih
 | opsNil _ ih=>exact .opsNil ih
 | opsOn h1 h2 _ ih=>exact .opsOn h1 (zCF h2) ih
 | opsCall h1 h2 _ ih=>exact .opsOn h1 (h2.op _) ih
 | opsApp _ h1 h2 _ ih=>exact .opsOn h1 h2.op ih
 | opsPl _ h1 h2 _ ih=>exact .opsOn h1 h2.op ih
 | opsOff h _ ih=>exact .opsOff h ih
 | either h0 h1 _ _ ih1 ih2=>exact .either (by rw[h0];rfl) (zCF h1) ih1 ih2
 | draw _ ih=>exact .draw ih
 | drOn h1 h2 _ ih=>exact .drOn h1 (zCF h2) ih
 | drCall h1 h2 _ ih=>exact .drOn h1 (h2.op _) ih
 | drApp _ h1 h2 _ ih=>exact .drOn h1 h2.op ih
 | drPl _ h1 h2 _ ih=>exact .drOn h1 h2.op ih
 | drOff h _ ih=>exact .drOff h ih
 | drNil h _ ih=>
  refine .drNil (fun p hp=> ?_) ih;rw[yGT] at h;exact pA (h p hp)
theorem Rd.run {C own Q k s} (h:Rd C own Q k s) (hn:own≠ .rn:=by simp):Run C Q k s:=
 RunW.imp (fun w s h=>by
  cases w with
  | fall=>exact h
  | ret=>rcases h with h | h;exact h.2;exact absurd h.1 hn
  | exit id=>exact absurd h.1 hn
  | stop=>exact h) h.runW
def sel (t:Bool) (a b:AC):AC:=if t then a else b
theorem zFO (a b:AC):sel true a b=a:=rfl
theorem zAU (a b:AC):sel false a b=b:=rfl
def qK {α:Type} (o:Option α) (f:α->Prop):Prop:=match o with | some v=>f v | none=>False
theorem lK {α:Type} (v:α) (f:α->Prop):qK (some v) f=f v:=rfl
theorem xL {α:Type} (f:α->Prop):qK none f=False:=rfl
def iteR (b:Bool) (p q:Prop):Prop:=if b then p else q
theorem zBX (p q:Prop):iteR true p q=p:=rfl
theorem qC (p q:Prop):iteR false p q=q:=rfl
def Ek (C:zL) (own:Md) (Q:St->Prop) (oe:Option Eff) (d:Option Nat) (l:List AOper) (k:List AI) (s:St):Prop:=qK oe fun e=>Rd C own Q (.ops l::k) (s.app d e)
theorem yV (C:zL) (own:Md) (Q:St->Prop) (e:Eff) (d:Option Nat) (l:List AOper) (k:List AI) (s:St):Ek C own Q (some e) d l k s=Rd C own Q (.ops l::k) (s.app d e):=rfl
def Ekd (C:zL) (own:Md) (Q:St->Prop) (oe:Option Eff) (d:Option Nat) (ps:List (Nat×Nat)) (l:List AOper) (es:List Eff) (k:List AI) (s:St):Prop:=qK oe fun e=>Rd C own Q (.dr ps l (es++[e])::k) (s.app d e)
theorem zID (C:zL) (own:Md) (Q:St->Prop) (e:Eff) (d:Option Nat) (ps:List (Nat×Nat)) (l:List AOper) (es:List Eff) (k:List AI) (s:St):Ekd C own Q (some e) d ps l es k s=Rd C own Q (.dr ps l (es++[e])::k) (s.app d e):=rfl
def gB (w:Bool):AV->Option Bool
 | .bool b=>some (b==w)
 | .ub=>none
 | _=>some false
theorem zLV (w b:Bool):gB w (.bool b)=some (b==w):=rfl
theorem yEQ (w:Bool):gB w ud=some false:=rfl
def Gk (C:zL) (own:Md) (Q:St->Prop) (ob:Option Bool) (d:Option Nat) (op:AOp) (l:List AOper) (k:List AI) (s:St):Prop:=qK ob fun b=>iteR b (Rd C own Q (.ops (⟨d,op,none⟩::l)::k) s) (Rd C own Q (.ops l::k) (s.put d ud))
theorem zOF (C:zL) (own:Md) (Q:St->Prop) (d:Option Nat) (op:AOp) (l:List AOper) (k:List AI) (s:St):Gk C own Q (some true) d op l k s=Rd C own Q (.ops (⟨d,op,none⟩::l)::k) s:=rfl
theorem zIB (C:zL) (own:Md) (Q:St->Prop) (d:Option Nat) (op:AOp) (l:List AOper) (k:List AI) (s:St):Gk C own Q (some false) d op l k s=Rd C own Q (.ops l::k) (s.put d ud):=rfl
def Gkd (C:zL) (own:Md) (Q:St->Prop) (ob:Option Bool) (d:Option Nat) (op:AOp) (ps:List (Nat×Nat)) (l:List AOper) (es:List Eff) (k:List AI) (s:St):Prop:=qK ob fun b=>iteR b (Rd C own Q (.dr ps (⟨d,op,none⟩::l) es::k) s) (Rd C own Q (.dr ps l (es++[({}:Eff)])::k) (s.put d ud))
theorem zIA (C:zL) (own:Md) (Q:St->Prop) (d:Option Nat) (op:AOp) (ps:List (Nat×Nat)) (l:List AOper) (es:List Eff) (k:List AI) (s:St):Gkd C own Q (some true) d op ps l es k s=Rd C own Q (.dr ps (⟨d,op,none⟩::l) es::k) s:=rfl
theorem zFA (C:zL) (own:Md) (Q:St->Prop) (d:Option Nat) (op:AOp) (ps:List (Nat×Nat)) (l:List AOper) (es:List Eff) (k:List AI) (s:St):Gkd C own Q (some false) d op ps l es k s=Rd C own Q (.dr ps l (es++[({}:Eff)])::k) (s.put d ud):=rfl
def Vk (C:zL) (own:Md) (Q:St->Prop) (ov:Option AV) (d:Nat) (l:List AOper) (k:List AI) (n D:Nat) (τ:Nat->AV) (ω:Nat->Ent) (S:Nat->Nat->Ent):Prop:=qK ov fun v=>Rd C own Q (.ops l::k) (stF n D (upd τ d v) ω S)
theorem sN (C:zL) (own:Md) (Q:St->Prop) (v:AV) (d:Nat) (l:List AOper) (k:List AI) (n D:Nat) (τ:Nat->AV) (ω:Nat->Ent) (S:Nat->Nat->Ent):Vk C own Q (some v) d l k n D τ ω S=Rd C own Q (.ops l::k) (stF n D (upd τ d v) ω S):=rfl
theorem zOG (C:zL) (own:Md) (Q:St->Prop) (d:Option Nat) (l:List AOper) (k:List AI) (s:St):Ek C own Q none d l k s=False:=rfl
theorem zIE (C:zL) (own:Md) (Q:St->Prop) (d:Option Nat) (ps:List (Nat×Nat)) (l:List AOper) (es:List Eff) (k:List AI) (s:St):Ekd C own Q none d ps l es k s=False:=rfl
theorem zNG (C:zL) (own:Md) (Q:St->Prop) (d:Nat) (l:List AOper) (k:List AI) (n D:Nat) (τ:Nat->AV) (ω:Nat->Ent) (S:Nat->Nat->Ent):Vk C own Q none d l k n D τ ω S=False:=rfl
def Uk (C:zL) (own:Md) (Q:St->Prop) (ou:Option (Nat×Nat×Ent)) (x:Opd) (l:List AOper) (k:List AI) (s:St):Prop:=qK ou fun u=>Rd C own Q (.ops l::k) ((x.tmp.foldl St.demT s).up u)
theorem zNH (C:zL) (own:Md) (Q:St->Prop) (u:Nat×Nat×Ent) (x:Opd) (l:List AOper) (k:List AI) (s:St):Uk C own Q (some u) x l k s=Rd C own Q (.ops l::k) ((x.tmp.foldl St.demT s).up u):=rfl
theorem zNI (C:zL) (own:Md) (Q:St->Prop) (x:Opd) (l:List AOper) (k:List AI) (s:St):Uk C own Q none x l k s=False:=rfl
section
variable {C:zL} {own:Md} {Q:St->Prop} {k:List AI} {s:St}
theorem zXF:Rd C own Q [] s↔Q s:=⟨fun h=>by cases h;assumption,.done⟩
theorem e7 (hn:own≠ .rn):Rd C own Q (.c .ret::k) s↔Q s:=by
 constructor
 ·intro h;cases h with
  | ret _ h=>exact h
  | outRet h1=>exact absurd h1 hn
 ·exact .ret hn
theorem zNN:Rd C .im Q (.c .ret::k) s↔Q s:=e7 (by simp)
theorem zNO:Rd C .fr Q (.c .ret::k) s↔Q s:=e7 (by simp)
def outR (own:Md) (Q:St->Prop) (id:Nat) (s:St):Prop:=own= .rn/\Q (s.out id)
theorem zLC (id:Nat):outR .rn Q id s↔Q (s.out id):=⟨fun h=>h.2,fun h=>⟨rfl,h⟩⟩
theorem zNK:Rd C own Q (.c .skip::k) s↔Rd C own Q k s:=⟨fun h=>by cases h;assumption,.skip⟩
theorem zXE {a b}:Rd C own Q (.c (.seq a b)::k) s↔Rd C own Q (.c a:: .c b::k) s:=⟨fun h=>by cases h;assumption,.seq⟩
theorem zHX {id a}:Rd C own Q (.c (.block id a)::k) s↔Rd C own Q (.c a:: .blk id::k) s:=⟨fun h=>by cases h;assumption,.block⟩
theorem zXJ {id}:Rd C own Q (.blk id::k) s↔Rd C own Q k s:=⟨fun h=>by cases h;assumption,.blk⟩
theorem zNV {a}:Rd C own Q (.c (.loop a)::k) s↔Rd C own Q (.lp a::k) s:=⟨fun h=>by cases h;assumption,.loop⟩
theorem zNY {id}:Rd C own Q (.c (.exit id)::k) s↔match exitTo id k with | some k'=>Rd C own Q k' s | none=>outR own Q id s:=by
 constructor
 ·intro h;cases h with
  | exit h1 h2=>rw[h1];exact h2
  | out h1 h2 h3=>rw[h2];exact ⟨h1,h3⟩
 ·intro h;split at h
  ·rename_i he;exact .exit he h
  ·rename_i he;exact .out h.1 he h.2
theorem zEG {l}:Rd C own Q (.c (.region l none)::k) s↔Rd C own Q (.ops l::k) s:=⟨fun h=>by cases h;assumption,.region⟩
theorem zNZ {l ps}:Rd C own Q (.c (.region l (some ps))::k) s↔Rd C own Q (.dr ps l []::k) s:=⟨fun h=>by cases h;assumption,.draw⟩
theorem zEQ {d op o1 o2 o3}:Rd C own Q (.c (.either ⟨d,op,none⟩ o1 o2 o3)::k) s↔qK (evN own s d op) fun e=>Rd C own Q (.ops [o1,o2,o3]::k) (s.app d e)/\Rd C own Q (.ops [o2,o1,o3]::k) (s.app d e):=by
 constructor
 ·intro h;cases h with
  | either h0 h1 h2 h3=>rw[h1];exact ⟨h2,h3⟩
 ·intro h;unfold qK at h;split at h
  ·rename_i he;exact .either rfl he h.1 h.2
  ·exact h.elim
theorem zEI:Rd C own Q (.ops []::k) s↔Rd C own Q k s:=⟨fun h=>by cases h;assumption,.opsNil⟩
theorem zHV {ps es}:Rd C own Q (.dr ps [] es::k) s↔((ps.all fun p=>lN (es.getD p.1 ({}:Eff)) (es.getD p.2 ({}:Eff)))=true/\Rd C own Q k s):=by
 constructor
 ·intro h;cases h with | drNil h1 h2=>exact ⟨h1,h2⟩
 ·intro h;exact .drNil h.1 h.2
theorem zOC {c a b}:Rd C own Q (.c (.cond c a b)::k) s↔match s.ev c with | .bool t=>Rd C own Q (.c (sel t a b)::k) s | .ub=>Rd C own Q (.c a::k) s/\Rd C own Q (.c b::k) s | _=>False:=by
 constructor
 ·intro h;cases h with
  | cond h1 h2=>rw[h1];exact h2
  | condU h1 h2 h3=>rw[h1];exact ⟨h2,h3⟩
 ·intro h;split at h
  ·rename_i he;exact .cond he h
  ·rename_i he;exact .condU he h.1 h.2
  ·exact h.elim
theorem yG {d op l} (hc:op.isCall=false) (ha:own= .fr->op.isApp=false) (hp:own= .pl->op.isPl=false:=by intros;first | rfl | contradiction):Rd C own Q (.ops (⟨d,op,none⟩::l)::k) s↔Ek C own Q (evN own s d op) d l k s:=by
 constructor
 ·intro h;cases h with
  | opsOn h1 h2 h3=>simp only at h2;rw[h2];exact h3
  | opsCall h1 h2 h3=>have:=h2.isCall;rw[hc] at this;cases this
  | opsApp h0 h1 h2 h3=>have h4:op.isApp=true:=h2.1;rw[ha h0] at h4;cases h4
  | opsPl h0 h1 h2 h3=>have h4:op.isPl=true:=h2.1;rw[hp h0] at h4;cases h4
  | opsOff h1 h2=>simp[gate] at h1
 ·intro h;unfold Ek qK at h;split at h
  ·rename_i he;exact .opsOn rfl he h
  ·exact h.elim
theorem zHR {d op l t w}:Rd C own Q (.ops (⟨d,op,some (t,w)⟩::l)::k) s↔
  Gk C own Q (gB w (s.rd t)) d op l k s:=by
 have hg:gate s (some (t,w))=gB w (s.rd t):=by
  simp only[gate,gB];split<;>rename_i hb<;>simp[hb]
 constructor
 ·intro h;cases h with
  | opsOn h1 h2 h3=>rw[hg] at h1;rw[h1];exact .opsOn rfl h2 h3
  | opsCall h1 h2 h3=>rw[hg] at h1;rw[h1];exact .opsCall rfl h2 h3
  | opsApp h0 h1 h2 h3=>rw[hg] at h1;rw[h1];exact .opsApp h0 rfl h2 h3
  | opsPl h0 h1 h2 h3=>rw[hg] at h1;rw[h1];exact .opsPl h0 rfl h2 h3
  | opsOff h1 h2=>rw[hg] at h1;rw[h1];exact h2
 ·intro h;cases hb:gB w (s.rd t) with
  | none=>rw[hb] at h;exact h.elim
  | some b=>
  cases b with
  | true=>
   rw[hb] at h;cases (show Rd C own Q (.ops (⟨d,op,none⟩::l)::k) s from h) with
   | opsOn h1 h2 h3=>exact .opsOn (by rw[hg,hb]) h2 h3
   | opsCall h1 h2 h3=>exact .opsCall (by rw[hg,hb]) h2 h3
   | opsApp h0 h1 h2 h3=>exact .opsApp h0 (by rw[hg,hb]) h2 h3
   | opsPl h0 h1 h2 h3=>exact .opsPl h0 (by rw[hg,hb]) h2 h3
   | opsOff h1 h2=>simp[gate] at h1
  | false=>rw[hb] at h;exact .opsOff (by rw[hg,hb]) h
theorem zW {d op l ps es} (hc:op.isCall=false) (ha:own= .fr->op.isApp=false) (hp:own= .pl->op.isPl=false:=by intros;first | rfl | contradiction):Rd C own Q (.dr ps (⟨d,op,none⟩::l) es::k) s↔Ekd C own Q (evN own s d op) d ps l es k s:=by
 constructor
 ·intro h;cases h with
  | drOn h1 h2 h3=>simp only at h2;rw[h2];exact h3
  | drCall h1 h2 h3=>have:=h2.isCall;rw[hc] at this;cases this
  | drApp h0 h1 h2 h3=>have h4:op.isApp=true:=h2.1;rw[ha h0] at h4;cases h4
  | drPl h0 h1 h2 h3=>have h4:op.isPl=true:=h2.1;rw[hp h0] at h4;cases h4
  | drOff h1 h2=>simp[gate] at h1
 ·intro h;unfold Ekd qK at h;split at h
  ·rename_i he;exact .drOn rfl he h
  ·exact h.elim
theorem zAC {d op l t w ps es}:Rd C own Q (.dr ps (⟨d,op,some (t,w)⟩::l) es::k) s↔
  Gkd C own Q (gB w (s.rd t)) d op ps l es k s:=by
 have hg:gate s (some (t,w))=gB w (s.rd t):=by
  simp only[gate,gB];split<;>rename_i hb<;>simp[hb]
 constructor
 ·intro h;cases h with
  | drOn h1 h2 h3=>rw[hg] at h1;rw[h1];exact .drOn rfl h2 h3
  | drCall h1 h2 h3=>rw[hg] at h1;rw[h1];exact .drCall rfl h2 h3
  | drApp h0 h1 h2 h3=>rw[hg] at h1;rw[h1];exact .drApp h0 rfl h2 h3
  | drPl h0 h1 h2 h3=>rw[hg] at h1;rw[h1];exact .drPl h0 rfl h2 h3
  | drOff h1 h2=>rw[hg] at h1;rw[h1];exact h2
 ·intro h;cases hb:gB w (s.rd t) with
  | none=>rw[hb] at h;exact h.elim
  | some b=>
  cases b with
  | true=>
   rw[hb] at h;cases (show Rd C own Q (.dr ps (⟨d,op,none⟩::l) es::k) s from h) with
   | drOn h1 h2 h3=>exact .drOn (by rw[hg,hb]) h2 h3
   | drCall h1 h2 h3=>exact .drCall (by rw[hg,hb]) h2 h3
   | drApp h0 h1 h2 h3=>exact .drApp h0 (by rw[hg,hb]) h2 h3
   | drPl h0 h1 h2 h3=>exact .drPl h0 (by rw[hg,hb]) h2 h3
   | drOff h1 h2=>simp[gate] at h1
  | false=>rw[hb] at h;exact .drOff (by rw[hg,hb]) h
end
section
variable {C:zL} {own:Md} {Q:St->Prop} {k:List AI} {n D:Nat} {τ:Nat->AV} {ω:Nat->Ent} {S:Nat->Nat->Ent} {l:List AOper} {d:Nat}
theorem zV (dst:Option Nat) (v:AV) (ups dem rd):(stF n D τ ω S).app dst {val:=v,ups:=ups,dem:=dem,rd:=rd}=(ups.foldl St.up (dem.foldl St.demT (stF n D τ ω S))).put dst v:=rfl
theorem zXK {op e x y}:Rd C own Q (.ops (⟨some d,.bin op e x y,none⟩::l)::k) (stF n D τ ω S)↔
  Vk C own Q (binf op e ((stF n D τ ω S).ev x) ((stF n D τ ω S).ev y)) d l k n D τ ω S:=by
 rw[yG rfl (by intros;first | rfl | contradiction)];have:evN own (stF n D τ ω S) (some d) (.bin op e x y)=opf (stF n D τ ω S) (some d) (.bin op e x y):=z4 rfl rfl rfl rfl;rw[this];simp only[opf];cases binf op e ((stF n D τ ω S).ev x) ((stF n D τ ω S).ev y) with
 | none=>exact Iff.rfl
 | some v=>simp only[yV,sN,zV,List.foldl,z5]
theorem zNT {x}:Rd C .im Q (.ops (⟨some d,.mov false x,none⟩::l)::k) (stF n D τ ω S)↔
  Rd C .im Q (.ops l::k) (stF n D (upd τ d ((stF n D τ ω S).ev x).var1) ω S):=by
 rw[yG rfl (by intros;first | rfl | contradiction)];simp[yV,evN,opf,zV,z5]
theorem zNS {v}:Rd C .im Q (.ops (⟨some d,.mov true (.c v),none⟩::l)::k) (stF n D τ ω S)↔
  Rd C .im Q (.ops l::k) (stF n D (upd τ d v.var1) ω S):=by
 rw[yG rfl (by intros;first | rfl | contradiction)];simp[yV,evN,opf,zV,z5,Opd.tmp,St.evr]
def left (τ:Nat->AV) (i:Nat):AV->Nat->AV
 | .sl z xs t=>upd τ i (.sl z xs t.dem)
 | .agg cs=>upd τ i (AV.agg cs).dem
 | .tup cs=>upd τ i (AV.tup cs).dem
 | _=>τ
theorem jE {i:Nat}:upd τ i (τ i).dem=left τ i (τ i):=by
 have h0:(τ i).dem=τ i->upd τ i (τ i).dem=τ:=by
  intro h;funext t;simp only[upd];split
  ·rename_i e;rw[h,e]
  ·rfl
 cases h:τ i<;>first | rfl | (rw[<-h];rw[h0 (by rw[h];rfl)];rw[h];rfl)
theorem zNR {i}:Rd C .im Q (.ops (⟨some d,.mov true (.t i),none⟩::l)::k) (stF n D τ ω S)↔
  Rd C .im Q (.ops l::k) (stF n D (upd (left τ i (τ i)) d ((stF n D τ ω S).rd i).var1) ω S):=by
 rw[yG rfl (by intros;first | rfl | contradiction),<-jE];simp[yV,evN,opf,zV,z5,Opd.tmp,St.evr,tB]
theorem zHK {x}:Rd C .fr Q (.ops (⟨some d,.mov false x,none⟩::l)::k) (stF n D τ ω S)↔
  Rd C .fr Q (.ops l::k) (stF n D (upd τ d ((stF n D τ ω S).ev x).var1) ω S):=by
 rw[yG rfl (by intros;first | rfl | contradiction)];simp[yV,evN,AOp.isApp,AOp.isLd,opf,zV,z5]
theorem zHI {v}:Rd C .fr Q (.ops (⟨some d,.mov true (.c v),none⟩::l)::k) (stF n D τ ω S)↔
  Rd C .fr Q (.ops l::k) (stF n D (upd τ d v.var1) ω S):=by
 rw[yG rfl (by intros;first | rfl | contradiction)];simp[yV,evN,AOp.isApp,AOp.isLd,opf,zV,z5,Opd.tmp,St.evr]
theorem zHG {i}:Rd C .fr Q (.ops (⟨some d,.mov true (.t i),none⟩::l)::k) (stF n D τ ω S)↔
  Rd C .fr Q (.ops l::k) (stF n D (upd (left τ i (τ i)) d ((stF n D τ ω S).rd i).var1) ω S):=by
 rw[yG rfl (by intros;first | rfl | contradiction),<-jE];simp[yV,evN,AOp.isApp,AOp.isLd,opf,zV,z5,Opd.tmp,St.evr,tB]
theorem zE {f args r args'} (h:C (D+1) f args' [] r []) (ha:args.map (fun x=>((stF n D τ ω S).ev x).strip)=args')
  (hk:Rd C own Q (.ops l::k) (stF n D (upd τ d r) ω S)) (hf:f≠yid:=by decide):Rd C own Q (.ops (⟨some d,.call f args,none⟩::l)::k) (stF n D τ ω S):=by
 refine .opsCall rfl (.call (M:=[]) (dl:=[]) (r:=r) hf (by rw[ha];exact h) (by simp) (by simp)) ?_;simpa[zV,z5] using hk
theorem zZ {f args r args' ps es} (h:C (D+1) f args' [] r []) (ha:args.map (fun x=>((stF n D τ ω S).ev x).strip)=args')
  (hk:Rd C own Q (.dr ps l (es++[{val:=r}])::k) (stF n D (upd τ d r) ω S)) (hf:f≠yid:=by decide):Rd C own Q (.dr ps (⟨some d,.call f args,none⟩::l) es::k) (stF n D τ ω S):=by
 refine .drCall rfl (.call (M:=[]) (dl:=[]) (r:=r) hf (by rw[ha];exact h) (by simp) (by simp)) ?_;simpa[zV,z5] using hk
end
section
variable {C:zL} {own:Md} {Q:St->Prop} {k:List AI} {s:St} {l:List AOper} {d:Option Nat} {ps:List (Nat×Nat)} {es:List Eff}
theorem zHZ {z} (hp:own≠ .pl):Rd C own Q (.ops (⟨d,.alloc z,none⟩::l)::k) s↔Ek C own Q (opf s d (.alloc z)) d l k s:=by
 rw[yG rfl (by intros;first | rfl | contradiction) (fun e=>absurd e hp)];rw[xS rfl rfl rfl rfl (fun e=>absurd e hp)];try exact Iff.rfl
theorem dK {z} (hp:own≠ .pl):Rd C own Q (.dr ps (⟨d,.alloc z,none⟩::l) es::k) s↔Ekd C own Q (opf s d (.alloc z)) d ps l es k s:=by
 rw[zW rfl (by intros;first | rfl | contradiction) (fun e=>absurd e hp)];rw[xS rfl rfl rfl rfl (fun e=>absurd e hp)];try exact Iff.rfl
theorem zXI {m x} (hp:own≠ .pl):Rd C own Q (.ops (⟨d,.box m x,none⟩::l)::k) s↔Ek C own Q (opf s d (.box m x)) d l k s:=by
 rw[yG rfl (by intros;first | rfl | contradiction) (fun e=>absurd e hp)];rw[xS rfl rfl rfl rfl (fun e=>absurd e hp)];try exact Iff.rfl
theorem zEU {m x} (hp:own≠ .pl):Rd C own Q (.dr ps (⟨d,.box m x,none⟩::l) es::k) s↔Ekd C own Q (opf s d (.box m x)) d ps l es k s:=by
 rw[zW rfl (by intros;first | rfl | contradiction) (fun e=>absurd e hp)];rw[xS rfl rfl rfl rfl (fun e=>absurd e hp)];try exact Iff.rfl
theorem zHW {z qs}:Rd C own Q (.ops (⟨d,.build z qs,none⟩::l)::k) s↔Ek C own Q (opf s d (.build z qs)) d l k s:=by
 rw[yG rfl (by intros;first | rfl | contradiction)];rw[z4 rfl rfl rfl rfl];try exact Iff.rfl
theorem dH {z qs}:Rd C own Q (.dr ps (⟨d,.build z qs,none⟩::l) es::k) s↔Ekd C own Q (opf s d (.build z qs)) d ps l es k s:=by
 rw[zW rfl (by intros;first | rfl | contradiction)];rw[z4 rfl rfl rfl rfl];try exact Iff.rfl
theorem zEW {z ea q qs} (hp:own≠ .pl):Rd C own Q (.ops (⟨d,.bslice z ea (q::qs),none⟩::l)::k) s↔Ek C own Q (opf s d (.bslice z ea (q::qs))) d l k s:=by
 rw[yG rfl (by intros;first | rfl | contradiction) (fun e=>absurd e hp)];rw[xS rfl rfl rfl rfl (fun e=>absurd e hp)];try exact Iff.rfl
theorem fG {z ea q qs} (hp:own≠ .pl):Rd C own Q (.dr ps (⟨d,.bslice z ea (q::qs),none⟩::l) es::k) s↔Ekd C own Q (opf s d (.bslice z ea (q::qs))) d ps l es k s:=by
 rw[zW rfl (by intros;first | rfl | contradiction) (fun e=>absurd e hp)];rw[xS rfl rfl rfl rfl (fun e=>absurd e hp)];try exact Iff.rfl
theorem zAD {z ea}:Rd C .im Q (.ops (⟨d,.bslice z ea [],none⟩::l)::k) s↔Ek C .im Q (opf s d (.bslice z ea [])) d l k s:=by
 rw[yG rfl (by intros;first | rfl | contradiction)];exact Iff.rfl
theorem iB {z ea}:Rd C .im Q (.dr ps (⟨d,.bslice z ea [],none⟩::l) es::k) s↔Ekd C .im Q (opf s d (.bslice z ea [])) d ps l es k s:=by
 rw[zW rfl (by intros;first | rfl | contradiction)];exact Iff.rfl
theorem zNW {ag m take p}:Rd C .im Q (.ops (⟨d,.load ag m take p,none⟩::l)::k) s↔Ek C .im Q (opf s d (.load ag m take p)) d l k s:=by
 rw[yG rfl (by intros;first | rfl | contradiction)];exact Iff.rfl
theorem zHO {ag m p}:Rd C own Q (.ops (⟨d,.load ag m false p,none⟩::l)::k) s↔Ek C own Q (opf s d (.load ag m false p)) d l k s:=by
 rw[yG rfl (by intros;first | rfl | contradiction)];rw[zGK]
theorem zHP {ag m p}:Rd C .fr Q (.ops (⟨d,.load ag m true p,none⟩::l)::k) s↔Rd C .fr Q (.ops (⟨d,.load ag m false p,none⟩::l)::k) s:=by
 rw[yG rfl (by intros;first | rfl | contradiction),yG rfl (by intros;first | rfl | contradiction)];exact Iff.rfl
theorem aZ {ag m take p}:Rd C .im Q (.dr ps (⟨d,.load ag m take p,none⟩::l) es::k) s↔Ekd C .im Q (opf s d (.load ag m take p)) d ps l es k s:=by
 rw[zW rfl (by intros;first | rfl | contradiction)];exact Iff.rfl
theorem dE {ag m take p}:Rd C .fr Q (.dr ps (⟨d,.load ag m take p,none⟩::l) es::k) s↔Ekd C .fr Q (opf s d (.load ag m false p)) d ps l es k s:=by
 rw[zW rfl (by intros;first | rfl | contradiction)];exact Iff.rfl
theorem zHD {m p x}:Rd C own Q (.ops (⟨d,.store m p x,none⟩::l)::k) s↔Ek C own Q (opf s d (.store m p x)) d l k s:=by
 rw[yG rfl (by intros;first | rfl | contradiction)];rw[z4 rfl rfl rfl rfl];try exact Iff.rfl
theorem e9 {m p x}:Rd C own Q (.dr ps (⟨d,.store m p x,none⟩::l) es::k) s↔Ekd C own Q (opf s d (.store m p x)) d ps l es k s:=by
 rw[zW rfl (by intros;first | rfl | contradiction)];rw[z4 rfl rfl rfl rfl];try exact Iff.rfl
theorem zEJ {x}:Rd C own Q (.ops (⟨d,.nilchk x,none⟩::l)::k) s↔Ek C own Q (opf s d (.nilchk x)) d l k s:=by
 rw[yG rfl (by intros;first | rfl | contradiction)];rw[z4 rfl rfl rfl rfl];try exact Iff.rfl
theorem fB {x}:Rd C own Q (.dr ps (⟨d,.nilchk x,none⟩::l) es::k) s↔Ekd C own Q (opf s d (.nilchk x)) d ps l es k s:=by
 rw[zW rfl (by intros;first | rfl | contradiction)];rw[z4 rfl rfl rfl rfl];try exact Iff.rfl
theorem yFN {op x}:Rd C own Q (.ops (⟨d,.un op x,none⟩::l)::k) s↔Ek C own Q (opf s d (.un op x)) d l k s:=by
 rw[yG rfl (by intros;first | rfl | contradiction)];rw[z4 rfl rfl rfl rfl];try exact Iff.rfl
theorem zHT {op x}:Rd C own Q (.dr ps (⟨d,.un op x,none⟩::l) es::k) s↔Ekd C own Q (opf s d (.un op x)) d ps l es k s:=by
 rw[zW rfl (by intros;first | rfl | contradiction)];rw[z4 rfl rfl rfl rfl];try exact Iff.rfl
theorem zOB {kd x}:Rd C own Q (.ops (⟨d,.conv kd x,none⟩::l)::k) s↔Ek C own Q (opf s d (.conv kd x)) d l k s:=by
 rw[yG rfl (by intros;first | rfl | contradiction)];rw[z4 rfl rfl rfl rfl];try exact Iff.rfl
theorem zAA {kd x}:Rd C own Q (.dr ps (⟨d,.conv kd x,none⟩::l) es::k) s↔Ekd C own Q (opf s d (.conv kd x)) d ps l es k s:=by
 rw[zW rfl (by intros;first | rfl | contradiction)];rw[z4 rfl rfl rfl rfl];try exact Iff.rfl
theorem zHS {off x}:Rd C own Q (.ops (⟨d,.faddr off x,none⟩::l)::k) s↔Ek C own Q (opf s d (.faddr off x)) d l k s:=by
 rw[yG rfl (by intros;first | rfl | contradiction)];rw[z4 rfl rfl rfl rfl];try exact Iff.rfl
theorem dG {off x}:Rd C own Q (.dr ps (⟨d,.faddr off x,none⟩::l) es::k) s↔Ekd C own Q (opf s d (.faddr off x)) d ps l es k s:=by
 rw[zW rfl (by intros;first | rfl | contradiction)];rw[z4 rfl rfl rfl rfl];try exact Iff.rfl
theorem zEO {len z x i}:Rd C own Q (.ops (⟨d,.iaddrA len z x i,none⟩::l)::k) s↔Ek C own Q (opf s d (.iaddrA len z x i)) d l k s:=by
 rw[yG rfl (by intros;first | rfl | contradiction)];rw[z4 rfl rfl rfl rfl];try exact Iff.rfl
theorem fF {len z x i}:Rd C own Q (.dr ps (⟨d,.iaddrA len z x i,none⟩::l) es::k) s↔Ekd C own Q (opf s d (.iaddrA len z x i)) d ps l es k s:=by
 rw[zW rfl (by intros;first | rfl | contradiction)];rw[z4 rfl rfl rfl rfl];try exact Iff.rfl
theorem zEN {z x i}:Rd C own Q (.ops (⟨d,.iaddrS z x i,none⟩::l)::k) s↔Ek C own Q (opf s d (.iaddrS z x i)) d l k s:=by
 rw[yG rfl (by intros;first | rfl | contradiction)];rw[z4 rfl rfl rfl rfl];try exact Iff.rfl
theorem fE {z x i}:Rd C own Q (.dr ps (⟨d,.iaddrS z x i,none⟩::l) es::k) s↔Ekd C own Q (opf s d (.iaddrS z x i)) d ps l es k s:=by
 rw[zW rfl (by intros;first | rfl | contradiction)];rw[z4 rfl rfl rfl rfl];try exact Iff.rfl
theorem zEP {tk x i}:Rd C own Q (.ops (⟨d,.extr tk x i,none⟩::l)::k) s↔Ek C own Q (opf s d (.extr tk x i)) d l k s:=by
 rw[yG rfl (by intros;first | rfl | contradiction)];rw[z4 rfl rfl rfl rfl];try exact Iff.rfl
theorem a8 {tk x i}:Rd C own Q (.dr ps (⟨d,.extr tk x i,none⟩::l) es::k) s↔Ekd C own Q (opf s d (.extr tk x i)) d ps l es k s:=by
 rw[zW rfl (by intros;first | rfl | contradiction)];rw[z4 rfl rfl rfl rfl];try exact Iff.rfl
theorem zHQ {x}:Rd C own Q (.ops (⟨d,.isnil x,none⟩::l)::k) s↔Ek C own Q (opf s d (.isnil x)) d l k s:=by
 rw[yG rfl (by intros;first | rfl | contradiction)];rw[z4 rfl rfl rfl rfl];try exact Iff.rfl
theorem dF {x}:Rd C own Q (.dr ps (⟨d,.isnil x,none⟩::l) es::k) s↔Ekd C own Q (opf s d (.isnil x)) d ps l es k s:=by
 rw[zW rfl (by intros;first | rfl | contradiction)];rw[z4 rfl rfl rfl rfl];try exact Iff.rfl
theorem zOA {z x y}:Rd C own Q (.ops (⟨d,.copy z x y,none⟩::l)::k) s↔Ek C own Q (opf s d (.copy z x y)) d l k s:=by
 rw[yG rfl (by intros;first | rfl | contradiction)];rw[z4 rfl rfl rfl rfl];try exact Iff.rfl
theorem a9 {z x y}:Rd C own Q (.dr ps (⟨d,.copy z x y,none⟩::l) es::k) s↔Ekd C own Q (opf s d (.copy z x y)) d ps l es k s:=by
 rw[zW rfl (by intros;first | rfl | contradiction)];rw[z4 rfl rfl rfl rfl];try exact Iff.rfl
theorem zXG {x}:Rd C own Q (.ops (⟨d,.len x,none⟩::l)::k) s↔Ek C own Q (opf s d (.len x)) d l k s:=by
 rw[yG rfl (by intros;first | rfl | contradiction)];rw[z4 rfl rfl rfl rfl];try exact Iff.rfl
theorem zET {x}:Rd C own Q (.dr ps (⟨d,.len x,none⟩::l) es::k) s↔Ekd C own Q (opf s d (.len x)) d ps l es k s:=by
 rw[zW rfl (by intros;first | rfl | contradiction)];rw[z4 rfl rfl rfl rfl];try exact Iff.rfl
theorem zNP {c a b}:Rd C own Q (.ops (⟨d,.pick c a b,none⟩::l)::k) s↔Ek C own Q (opf s d (.pick c a b)) d l k s:=by
 rw[yG rfl (by intros;first | rfl | contradiction)];rw[z4 rfl rfl rfl rfl];try exact Iff.rfl
theorem aU {c a b}:Rd C own Q (.dr ps (⟨d,.pick c a b,none⟩::l) es::k) s↔Ekd C own Q (opf s d (.pick c a b)) d ps l es k s:=by
 rw[zW rfl (by intros;first | rfl | contradiction)];rw[z4 rfl rfl rfl rfl];try exact Iff.rfl
theorem yFO {mx x y}:Rd C own Q (.ops (⟨d,.mm mx x y,none⟩::l)::k) s↔Ek C own Q (opf s d (.mm mx x y)) d l k s:=by
 rw[yG rfl (by intros;first | rfl | contradiction)];rw[z4 rfl rfl rfl rfl];try exact Iff.rfl
theorem zHU {mx x y}:Rd C own Q (.dr ps (⟨d,.mm mx x y,none⟩::l) es::k) s↔Ekd C own Q (opf s d (.mm mx x y)) d ps l es k s:=by
 rw[zW rfl (by intros;first | rfl | contradiction)];rw[z4 rfl rfl rfl rfl];try exact Iff.rfl
theorem zNL {x y}:Rd C own Q (.ops (⟨d,.sidx x y,none⟩::l)::k) s↔Ek C own Q (opf s d (.sidx x y)) d l k s:=by
 rw[yG rfl (by intros;first | rfl | contradiction)];rw[z4 rfl rfl rfl rfl];try exact Iff.rfl
theorem aT {x y}:Rd C own Q (.dr ps (⟨d,.sidx x y,none⟩::l) es::k) s↔Ekd C own Q (opf s d (.sidx x y)) d ps l es k s:=by
 rw[zW rfl (by intros;first | rfl | contradiction)];rw[z4 rfl rfl rfl rfl];try exact Iff.rfl
theorem aS {z by_ ea zero a b} (hp:own≠ .pl):Rd C own Q (.ops (⟨d,.mkslice z by_ ea zero a b,none⟩::l)::k) s↔Ek C own Q (opf s d (.mkslice z by_ ea zero a b)) d l k s:=by
 rw[yG rfl (by intros;first | rfl | contradiction) (fun e=>absurd e hp)];rw[xS rfl rfl rfl rfl (fun e=>absurd e hp)];try exact Iff.rfl
theorem iA {z by_ ea zero a b} (hp:own≠ .pl):Rd C own Q (.dr ps (⟨d,.mkslice z by_ ea zero a b,none⟩::l) es::k) s↔Ekd C own Q (opf s d (.mkslice z by_ ea zero a b)) d ps l es k s:=by
 rw[zW rfl (by intros;first | rfl | contradiction) (fun e=>absurd e hp)];rw[xS rfl rfl rfl rfl (fun e=>absurd e hp)];try exact Iff.rfl
theorem zNU {f cap}:Rd C own Q (.ops (⟨d,.mkfn f cap,none⟩::l)::k) s↔Ek C own Q (opf s d (.mkfn f cap)) d l k s:=by
 rw[yG rfl (by intros;first | rfl | contradiction)];rw[z4 rfl rfl rfl rfl];try exact Iff.rfl
theorem aY {f cap}:Rd C own Q (.dr ps (⟨d,.mkfn f cap,none⟩::l) es::k) s↔Ekd C own Q (opf s d (.mkfn f cap)) d ps l es k s:=by
 rw[zW rfl (by intros;first | rfl | contradiction)];rw[z4 rfl rfl rfl rfl];try exact Iff.rfl
theorem zEK {f cap}:Rd C own Q (.ops (⟨d,.mkmeth f cap,none⟩::l)::k) s↔Ek C own Q (opf s d (.mkmeth f cap)) d l k s:=by
 rw[yG rfl (by intros;first | rfl | contradiction)];rw[z4 rfl rfl rfl rfl];try exact Iff.rfl
theorem fC {f cap}:Rd C own Q (.dr ps (⟨d,.mkmeth f cap,none⟩::l) es::k) s↔Ekd C own Q (opf s d (.mkmeth f cap)) d ps l es k s:=by
 rw[zW rfl (by intros;first | rfl | contradiction)];rw[z4 rfl rfl rfl rfl];try exact Iff.rfl
theorem zEM {by_ x}:Rd C own Q (.ops (⟨d,.mkchan by_ x,none⟩::l)::k) s↔Ek C own Q (opf s d (.mkchan by_ x)) d l k s:=by
 rw[yG rfl (by intros;first | rfl | contradiction)];rw[z4 rfl rfl rfl rfl];try exact Iff.rfl
theorem fD {by_ x}:Rd C own Q (.dr ps (⟨d,.mkchan by_ x,none⟩::l) es::k) s↔Ekd C own Q (opf s d (.mkchan by_ x)) d ps l es k s:=by
 rw[zW rfl (by intros;first | rfl | contradiction)];rw[z4 rfl rfl rfl rfl];try exact Iff.rfl
theorem zHM (hp:own≠ .pl):Rd C own Q (.ops (⟨d,(.mkmap),none⟩::l)::k) s↔Ek C own Q (opf s d (.mkmap)) d l k s:=by
 rw[yG rfl (by intros;first | rfl | contradiction) (fun e=>absurd e hp)];rw[xS rfl rfl rfl rfl (fun e=>absurd e hp)];try exact Iff.rfl
theorem dC (hp:own≠ .pl):Rd C own Q (.dr ps (⟨d,(.mkmap),none⟩::l) es::k) s↔Ekd C own Q (opf s d (.mkmap)) d ps l es k s:=by
 rw[zW rfl (by intros;first | rfl | contradiction) (fun e=>absurd e hp)];rw[xS rfl rfl rfl rfl (fun e=>absurd e hp)];try exact Iff.rfl
theorem zHL {n_ cok zero x y}:Rd C own Q (.ops (⟨d,(.mlook n_ cok zero x y),none⟩::l)::k) s↔Ek C own Q (opf s d (.mlook n_ cok zero x y)) d l k s:=by
 rw[yG rfl (by intros;first | rfl | contradiction)];rw[z4 rfl rfl rfl rfl];try exact Iff.rfl
theorem dB {n_ cok zero x y}:Rd C own Q (.dr ps (⟨d,(.mlook n_ cok zero x y),none⟩::l) es::k) s↔Ekd C own Q (opf s d (.mlook n_ cok zero x y)) d ps l es k s:=by
 rw[zW rfl (by intros;first | rfl | contradiction)];rw[z4 rfl rfl rfl rfl];try exact Iff.rfl
theorem zNQ {n_ x y z}:Rd C own Q (.ops (⟨d,(.mupd n_ x y z),none⟩::l)::k) s↔Ek C own Q (opf s d (.mupd n_ x y z)) d l k s:=by
 rw[yG rfl (by intros;first | rfl | contradiction)];rw[z4 rfl rfl rfl rfl];try exact Iff.rfl
theorem aV {n_ x y z}:Rd C own Q (.dr ps (⟨d,(.mupd n_ x y z),none⟩::l) es::k) s↔Ekd C own Q (opf s d (.mupd n_ x y z)) d ps l es k s:=by
 rw[zW rfl (by intros;first | rfl | contradiction)];rw[z4 rfl rfl rfl rfl];try exact Iff.rfl
theorem zNX {x}:Rd C own Q (.ops (⟨d,.lenc x,none⟩::l)::k) s↔Ek C own Q (opf s d (.lenc x)) d l k s:=by
 rw[yG rfl (by intros;first | rfl | contradiction)];rw[z4 rfl rfl rfl rfl];try exact Iff.rfl
theorem a7 {x}:Rd C own Q (.dr ps (⟨d,.lenc x,none⟩::l) es::k) s↔Ekd C own Q (opf s d (.lenc x)) d ps l es k s:=by
 rw[zW rfl (by intros;first | rfl | contradiction)];rw[z4 rfl rfl rfl rfl];try exact Iff.rfl
theorem zEX {z by_ x y}:Rd C .im Q (.ops (⟨d,.append z by_ x y,none⟩::l)::k) s↔Ek C .im Q (opf s d (.append z by_ x y)) d l k s:=by
 rw[yG rfl (by intros;first | rfl | contradiction)];exact Iff.rfl
theorem fH {z by_ x y}:Rd C .im Q (.dr ps (⟨d,.append z by_ x y,none⟩::l) es::k) s↔Ekd C .im Q (opf s d (.append z by_ x y)) d ps l es k s:=by
 rw[zW rfl (by intros;first | rfl | contradiction)];exact Iff.rfl
theorem zHE {z take x lo hi}:Rd C .im Q (.ops (⟨d,.slice z take x lo hi,none⟩::l)::k) s↔Ek C .im Q (opf s d (.slice z take x lo hi)) d l k s:=by
 rw[yG rfl (by intros;first | rfl | contradiction)];exact Iff.rfl
theorem dA {z take x lo hi}:Rd C .im Q (.dr ps (⟨d,.slice z take x lo hi,none⟩::l) es::k) s↔Ekd C .im Q (opf s d (.slice z take x lo hi)) d ps l es k s:=by
 rw[zW rfl (by intros;first | rfl | contradiction)];exact Iff.rfl
theorem zES {take x}:Rd C .im Q (.dr ps (⟨d,.mov take x,none⟩::l) es::k) s↔Ekd C .im Q (opf s d (.mov take x)) d ps l es k s:=by
 rw[zW rfl (by intros;first | rfl | contradiction)];exact Iff.rfl
theorem zEV {op e x y}:Rd C own Q (.dr ps (⟨d,.bin op e x y,none⟩::l) es::k) s↔Ekd C own Q (opf s d (.bin op e x y)) d ps l es k s:=by
 rw[zW rfl (by intros;first | rfl | contradiction)];rw[z4 rfl rfl rfl rfl];try exact Iff.rfl
end
section
variable {C:zL} {Q:St->Prop} {k:List AI} {s:St} {l:List AOper} {d:Option Nat} {ps:List (Nat×Nat)} {es:List Eff}
theorem zEF {z take x lo hi}:Rd C .fr Q (.ops (⟨d,.slice z take x lo hi,none⟩::l)::k) s↔Ek C .fr Q (match opf s d (.slice z take x lo hi) with | some e=>some e | none=>opfO s d (.slice z take x lo hi)) d l k s:=by
 rw[yG rfl (by intros;first | rfl | contradiction)];exact Iff.rfl
theorem fA {z take x lo hi}:Rd C .fr Q (.dr ps (⟨d,.slice z take x lo hi,none⟩::l) es::k) s↔Ekd C .fr Q (match opf s d (.slice z take x lo hi) with | some e=>some e | none=>opfO s d (.slice z take x lo hi)) d ps l es k s:=by
 rw[zW rfl (by intros;first | rfl | contradiction)];exact Iff.rfl
theorem aX {take x}:Rd C .fr Q (.dr ps (⟨d,.mov take x,none⟩::l) es::k) s↔Ekd C .fr Q (match opf s d (.mov take x) with | some e=>some e | none=>opfO s d (.mov take x)) d ps l es k s:=by
 rw[zW rfl (by intros;first | rfl | contradiction)];exact Iff.rfl
theorem uZ {z bytes x y e} (h:opf s d (.append z bytes x y)=some e\/∃slot,opfO s slot (.append z bytes x y)=some e) (hk:Rd C .fr Q (.dr ps l (es++[e])::k) (s.app d e)):Rd C .fr Q (.dr ps (⟨d,.append z bytes x y,none⟩::l) es::k) s:=
 .drApp rfl rfl ⟨rfl,h.imp_right .inl⟩ hk
end
section
variable {C:zL} {Q:St->Prop} {k:List AI} {n D:Nat} {τ:Nat->AV} {ω:Nat->Ent} {S:Nat->Nat->Ent} {l:List AOper} {d:Nat}
theorem zNM {s}:Rd C .pl Q (.c .ret::k) s↔Q s:=e7 (by simp)
theorem zHJ {x}:Rd C .pl Q (.ops (⟨some d,.mov false x,none⟩::l)::k) (stF n D τ ω S)↔
  Rd C .pl Q (.ops l::k) (stF n D (upd τ d ((stF n D τ ω S).ev x)) ω S):=by
 rw[yG rfl (by intros;first | rfl | contradiction)];simp[yV,evN,AOp.isPl,AOp.isLd,AOp.isMv,opfO,zV,z5]
theorem zHH {v}:Rd C .pl Q (.ops (⟨some d,.mov true (.c v),none⟩::l)::k) (stF n D τ ω S)↔
  Rd C .pl Q (.ops l::k) (stF n D (upd τ d v) ω S):=by
 rw[yG rfl (by intros;first | rfl | contradiction)];simp[yV,evN,AOp.isPl,AOp.isLd,AOp.isMv,opfO,zV,z5,Opd.tmp,St.evr]
theorem zHF {i}:Rd C .pl Q (.ops (⟨some d,.mov true (.t i),none⟩::l)::k) (stF n D τ ω S)↔
  Rd C .pl Q (.ops l::k) (stF n D (upd (left τ i (τ i)) d ((stF n D τ ω S).rd i)) ω S):=by
 rw[yG rfl (by intros;first | rfl | contradiction),<-jE];simp[yV,evN,AOp.isPl,AOp.isLd,AOp.isMv,opfO,zV,z5,Opd.tmp,St.evr,tB]
end
section
variable {C:zL} {Q:St->Prop} {k:List AI} {s:St} {l:List AOper} {d:Option Nat} {ps:List (Nat×Nat)} {es:List Eff}
theorem zHN {ag m take p}:Rd C .pl Q (.ops (⟨d,.load ag m take p,none⟩::l)::k) s↔Ek C .pl Q (opf s d (.load ag m false p)) d l k s:=by
 rw[yG rfl (by intros;first | rfl | contradiction)];exact Iff.rfl
theorem dD {ag m take p}:Rd C .pl Q (.dr ps (⟨d,.load ag m take p,none⟩::l) es::k) s↔Ekd C .pl Q (opf s d (.load ag m false p)) d ps l es k s:=by
 rw[zW rfl (by intros;first | rfl | contradiction)];exact Iff.rfl
theorem aW {take x}:Rd C .pl Q (.dr ps (⟨d,.mov take x,none⟩::l) es::k) s↔Ekd C .pl Q (opfO s d (.mov take x)) d ps l es k s:=by
 rw[zW rfl (by intros;first | rfl | contradiction)];exact Iff.rfl
theorem nT {op e} (hp:op.isPl=true) (h:opf s d op=some e) (hk:Rd C .pl Q (.ops l::k) (s.app d e)):Rd C .pl Q (.ops (⟨d,op,none⟩::l)::k) s:=
 .opsPl rfl rfl ⟨hp,.inl h⟩ hk
theorem zEH {op e} (dd i:Nat) (hp:op.isPl=true) (h:opfP s dd i op=some e) (hk:Rd C .pl Q (.ops l::k) (s.app d e)):Rd C .pl Q (.ops (⟨d,op,none⟩::l)::k) s:=
 .opsPl rfl rfl ⟨hp,.inr ⟨dd,i,h⟩⟩ hk
theorem lO {op e} (hp:op.isPl=true) (h:opf s d op=some e) (hk:Rd C .pl Q (.dr ps l (es++[e])::k) (s.app d e)):Rd C .pl Q (.dr ps (⟨d,op,none⟩::l) es::k) s:=
 .drPl rfl rfl ⟨hp,.inl h⟩ hk
theorem zER {op e} (dd i:Nat) (hp:op.isPl=true) (h:opfP s dd i op=some e) (hk:Rd C .pl Q (.dr ps l (es++[e])::k) (s.app d e)):Rd C .pl Q (.dr ps (⟨d,op,none⟩::l) es::k) s:=
 .drPl rfl rfl ⟨hp,.inr ⟨dd,i,h⟩⟩ hk
end
section
variable {P:Program} {G:Nat->Option (List AV)} {L:xA} {T:FuncId->Option FnC}
def RetQ (rs:List RV) (r:AV) (S:Nat->Nat->Ent):St->Prop:=fun s'=>resV s' rs=some r/\s'.S=S
theorem zNJ (rs:List RV) (r:AV) (S:Nat->Nat->Ent) (s':St):RetQ rs r S s'↔resV s' rs=some r/\s'.S=S:=Iff.rfl
theorem iY (hm:PGood P) (hT:TOk P G L T) {f:FuncId} {c:FnC} (hc:T f=some c) {args:List AV} {r:AV} {D:Nat} (md:Md) (hmd:md≠ .rn) (hl:args.length<=c.n)
  (h:∀S,Rd (Loc P G) md (fun s'=>resV s' c.rs=some r/\s'.S=S) [.c c.ac] (stF c.n D (uY 0 args) (fun _=>(0,.dead)) S)):Loc P G D f args [] r []:=by
 obtain ⟨fn,code,t1,t2,t3,t4,t5,t6⟩:=hT f c hc;refine tF (L:=L) hm t1 t2 t3 t4 t5 fun S _=> ?_;rw[t6,vF _ _ _ _ hl];exact ((h S).run hmd).imp fun s' ⟨h1,h2⟩=>⟨h1,fun d i _=>by rw[h2];rfl⟩
theorem z0 (hm:PGood P) (hT:TOk P G L T) {f n:Nat} {ac:AC} {rs:List RV} {own:Bool} (hc:T f=some ⟨n,ac,rs,own⟩) {args:List AV} {r:AV} {D:Nat} (hl:Nat.ble args.length n=true)
  (h:∀S,Rd (Loc P G) .im (RetQ rs r S) [.c ac] (stF n D (uY 0 args) (fun _=>(0,.dead)) S)):Loc P G D f args [] r []:=
 iY hm hT hc .im (by simp) (yHK hl) h
theorem zLN (hm:PGood P) (hT:TOk P G L T) {f n:Nat} {ac:AC} {rs:List RV} {own:Bool} (hc:T f=some ⟨n,ac,rs,own⟩) {args:List AV} {r:AV} {D:Nat} (hl:Nat.ble args.length n=true)
  (h:∀S,Rd (Loc P G) .fr (RetQ rs r S) [.c ac] (stF n D (uY 0 args) (fun _=>(0,.dead)) S)):Loc P G D f args [] r []:=
 iY hm hT hc .fr (by simp) (yHK hl) h
end
end Go.Ab
/- Rules for rewriting: values,and the commonest operations on states that are given by functions. -/
namespace Go.Ab
open Go
@[simp] theorem yAE (b:Bool):AV.dem (AV.bool b)=AV.bool b:=rfl
@[simp] theorem zVN (b:Bool):AV.dem1 (AV.bool b)=AV.bool b:=rfl
@[simp] theorem zQD (b:Bool):AV.cells (AV.bool b)= [AV.bool b]:=rfl
@[simp] theorem zYT (b:Bool):AV.one (AV.bool b)=true:=rfl
@[simp] theorem zPA (b:Bool):AV.strip (AV.bool b)=AV.bool b:=rfl
@[simp] theorem zJZ (b:Bool):AV.strip1 (AV.bool b)=AV.bool b:=rfl
@[simp] theorem zUR (b:Bool):AV.keep (AV.bool b)=AV.bool b:=rfl
@[simp] theorem zUX (b:Bool):AV.isSl (AV.bool b)=false:=rfl
@[simp] theorem zYK (b:Bool):AV.stc (AV.bool b)= [AV.var1 (AV.bool b)]:=rfl
@[simp] theorem zQN (b:Bool):AV.var1 (AV.bool b)=AV.bool b:=rfl
@[simp] theorem zKF (b:Bool):AV.still1 (AV.bool b)=true:=rfl
@[simp] theorem zJM (D:Nat) (b:Bool):AV.upto D 20 (AV.bool b)=true:=rfl
@[simp] theorem zJS (D:Nat) (b:Bool):AV.upto D 19 (AV.bool b)=true:=rfl
@[simp] theorem zUA (τ:Nat->AV) (i:Nat) (b:Bool):left τ i (AV.bool b)=τ:=rfl
@[simp] theorem zVE (s:St) (b:Bool):frz s frzD (AV.bool b)=some (AV.bool b,[]):=rfl
@[simp] theorem yGK:AV.dem AV.ub=AV.ub:=rfl
@[simp] theorem yFB:AV.dem1 AV.ub=AV.ub:=rfl
@[simp] theorem yAO:AV.cells AV.ub= [AV.ub]:=rfl
@[simp] theorem yGB:AV.one AV.ub=true:=rfl
@[simp] theorem zXZ:AV.strip AV.ub=AV.ub:=rfl
@[simp] theorem zRP:AV.strip1 AV.ub=AV.ub:=rfl
@[simp] theorem yEC:AV.keep AV.ub=AV.ub:=rfl
@[simp] theorem yEJ:AV.isSl AV.ub=false:=rfl
@[simp] theorem yFU:AV.stc AV.ub= [AV.var1 AV.ub]:=rfl
@[simp] theorem yBS:AV.var1 AV.ub=AV.ub:=rfl
@[simp] theorem zRW:AV.still1 AV.ub=false:=rfl
@[simp] theorem zQP (D:Nat):AV.upto D 20 AV.ub=true:=rfl
@[simp] theorem zQW (D:Nat):AV.upto D 19 AV.ub=true:=rfl
@[simp] theorem yDG (τ:Nat->AV) (i:Nat):left τ i AV.ub=τ:=rfl
@[simp] theorem yEW (kd:IntKind) (i:Int):AV.dem (AV.int kd i)=AV.int kd i:=rfl
@[simp] theorem yAJ (kd:IntKind) (i:Int):AV.dem1 (AV.int kd i)=AV.int kd i:=rfl
@[simp] theorem zVT (kd:IntKind) (i:Int):AV.cells (AV.int kd i)= [AV.int kd i]:=rfl
@[simp] theorem yCZ (kd:IntKind) (i:Int):AV.one (AV.int kd i)=true:=rfl
@[simp] theorem zRK (kd:IntKind) (i:Int):AV.strip (AV.int kd i)=AV.int kd i:=rfl
@[simp] theorem zPF (kd:IntKind) (i:Int):AV.strip1 (AV.int kd i)=AV.int kd i:=rfl
@[simp] theorem zZK (kd:IntKind) (i:Int):AV.keep (AV.int kd i)=AV.int kd i:=rfl
@[simp] theorem zZS (kd:IntKind) (i:Int):AV.isSl (AV.int kd i)=false:=rfl
@[simp] theorem yCG (kd:IntKind) (i:Int):AV.stc (AV.int kd i)= [AV.var1 (AV.int kd i)]:=rfl
@[simp] theorem zXQ (kd:IntKind) (i:Int):AV.var1 (AV.int kd i)=AV.int kd i:=rfl
@[simp] theorem zPO (kd:IntKind) (i:Int):AV.still1 (AV.int kd i)=true:=rfl
@[simp] theorem zOL (D:Nat) (kd:IntKind) (i:Int):AV.upto D 20 (AV.int kd i)=true:=rfl
@[simp] theorem zOR (D:Nat) (kd:IntKind) (i:Int):AV.upto D 19 (AV.int kd i)=true:=rfl
@[simp] theorem zZB (τ:Nat->AV) (i:Nat) (kd:IntKind) (m:Int):left τ i (AV.int kd m)=τ:=rfl
@[simp] theorem zZX (s:St) (kd:IntKind) (i:Int):frz s frzD (AV.int kd i)=some (AV.int kd i,[]):=rfl
@[simp] theorem yET (x:ByteArray):AV.dem (AV.str x)=AV.str x:=rfl
@[simp] theorem yAG (x:ByteArray):AV.dem1 (AV.str x)=AV.str x:=rfl
@[simp] theorem zVQ (x:ByteArray):AV.cells (AV.str x)= [AV.str x]:=rfl
@[simp] theorem yCW (x:ByteArray):AV.one (AV.str x)=true:=rfl
@[simp] theorem zRH (x:ByteArray):AV.strip (AV.str x)=AV.str x:=rfl
@[simp] theorem zPC (x:ByteArray):AV.strip1 (AV.str x)=AV.str x:=rfl
@[simp] theorem zZH (x:ByteArray):AV.keep (AV.str x)=AV.str x:=rfl
@[simp] theorem zZP (x:ByteArray):AV.isSl (AV.str x)=false:=rfl
@[simp] theorem yCD (x:ByteArray):AV.stc (AV.str x)= [AV.var1 (AV.str x)]:=rfl
@[simp] theorem zXN (x:ByteArray):AV.var1 (AV.str x)=AV.str x:=rfl
@[simp] theorem zPL (x:ByteArray):AV.still1 (AV.str x)=true:=rfl
@[simp] theorem zOI (D:Nat) (x:ByteArray):AV.upto D 20 (AV.str x)=true:=rfl
@[simp] theorem zOO (D:Nat) (x:ByteArray):AV.upto D 19 (AV.str x)=true:=rfl
@[simp] theorem zYY (τ:Nat->AV) (i:Nat) (x:ByteArray):left τ i (AV.str x)=τ:=rfl
@[simp] theorem zZW (s:St) (x:ByteArray):frz s frzD (AV.str x)=some (AV.str x,[]):=rfl
@[simp] theorem zZZ:AV.dem AV.nilp=AV.nilp:=rfl
@[simp] theorem zVI:AV.dem1 AV.nilp=AV.nilp:=rfl
@[simp] theorem zPY:AV.cells AV.nilp= [AV.nilp]:=rfl
@[simp] theorem zYO:AV.one AV.nilp=true:=rfl
@[simp] theorem zOV:AV.strip AV.nilp=AV.nilp:=rfl
@[simp] theorem zJU:AV.strip1 AV.nilp=AV.nilp:=rfl
@[simp] theorem zUM:AV.keep AV.nilp=AV.nilp:=rfl
@[simp] theorem zUS:AV.isSl AV.nilp=false:=rfl
@[simp] theorem zYF:AV.stc AV.nilp= [AV.var1 AV.nilp]:=rfl
@[simp] theorem zQI:AV.var1 AV.nilp=AV.nilp:=rfl
@[simp] theorem zKA:AV.still1 AV.nilp=true:=rfl
@[simp] theorem zJH (D:Nat):AV.upto D 20 AV.nilp=true:=rfl
@[simp] theorem zJN (D:Nat):AV.upto D 19 AV.nilp=true:=rfl
@[simp] theorem zTV (τ:Nat->AV) (i:Nat):left τ i AV.nilp=τ:=rfl
@[simp] theorem zVA (s:St):frz s frzD AV.nilp=some (AV.nilp,[]):=rfl
@[simp] theorem yAC:AV.dem AV.nilf=AV.nilf:=rfl
@[simp] theorem zVL:AV.dem1 AV.nilf=AV.nilf:=rfl
@[simp] theorem zQB:AV.cells AV.nilf= [AV.nilf]:=rfl
@[simp] theorem zYR:AV.one AV.nilf=true:=rfl
@[simp] theorem zOY:AV.strip AV.nilf=AV.nilf:=rfl
@[simp] theorem zJX:AV.strip1 AV.nilf=AV.nilf:=rfl
@[simp] theorem zUP:AV.keep AV.nilf=AV.nilf:=rfl
@[simp] theorem zUV:AV.isSl AV.nilf=false:=rfl
@[simp] theorem zYI:AV.stc AV.nilf= [AV.var1 AV.nilf]:=rfl
@[simp] theorem zQL:AV.var1 AV.nilf=AV.nilf:=rfl
@[simp] theorem zKD:AV.still1 AV.nilf=true:=rfl
@[simp] theorem zJK (D:Nat):AV.upto D 20 AV.nilf=true:=rfl
@[simp] theorem zJQ (D:Nat):AV.upto D 19 AV.nilf=true:=rfl
@[simp] theorem zTY (τ:Nat->AV) (i:Nat):left τ i AV.nilf=τ:=rfl
@[simp] theorem zVD (s:St):frz s frzD AV.nilf=some (AV.nilf,[]):=rfl
@[simp] theorem yAB:AV.dem AV.nili=AV.nili:=rfl
@[simp] theorem zVK:AV.dem1 AV.nili=AV.nili:=rfl
@[simp] theorem zQA:AV.cells AV.nili= [AV.nili]:=rfl
@[simp] theorem zYQ:AV.one AV.nili=true:=rfl
@[simp] theorem zOX:AV.strip AV.nili=AV.nili:=rfl
@[simp] theorem zJW:AV.strip1 AV.nili=AV.nili:=rfl
@[simp] theorem zUO:AV.keep AV.nili=AV.nili:=rfl
@[simp] theorem zUU:AV.isSl AV.nili=false:=rfl
@[simp] theorem zYH:AV.stc AV.nili= [AV.var1 AV.nili]:=rfl
@[simp] theorem zQK:AV.var1 AV.nili=AV.nili:=rfl
@[simp] theorem zKC:AV.still1 AV.nili=true:=rfl
@[simp] theorem zJJ (D:Nat):AV.upto D 20 AV.nili=true:=rfl
@[simp] theorem zJP (D:Nat):AV.upto D 19 AV.nili=true:=rfl
@[simp] theorem zTX (τ:Nat->AV) (i:Nat):left τ i AV.nili=τ:=rfl
@[simp] theorem zVC (s:St):frz s frzD AV.nili=some (AV.nili,[]):=rfl
@[simp] theorem yAA:AV.dem AV.nilm=AV.nilm:=rfl
@[simp] theorem zVJ:AV.dem1 AV.nilm=AV.nilm:=rfl
@[simp] theorem zPZ:AV.cells AV.nilm= [AV.nilm]:=rfl
@[simp] theorem zYP:AV.one AV.nilm=true:=rfl
@[simp] theorem zOW:AV.strip AV.nilm=AV.nilm:=rfl
@[simp] theorem zJV:AV.strip1 AV.nilm=AV.nilm:=rfl
@[simp] theorem zUN:AV.keep AV.nilm=AV.nilm:=rfl
@[simp] theorem zUT:AV.isSl AV.nilm=false:=rfl
@[simp] theorem zYG:AV.stc AV.nilm= [AV.var1 AV.nilm]:=rfl
@[simp] theorem zQJ:AV.var1 AV.nilm=AV.nilm:=rfl
@[simp] theorem zKB:AV.still1 AV.nilm=true:=rfl
@[simp] theorem zJI (D:Nat):AV.upto D 20 AV.nilm=true:=rfl
@[simp] theorem zJO (D:Nat):AV.upto D 19 AV.nilm=true:=rfl
@[simp] theorem zTW (τ:Nat->AV) (i:Nat):left τ i AV.nilm=τ:=rfl
@[simp] theorem zVB (s:St):frz s frzD AV.nilm=some (AV.nilm,[]):=rfl
@[simp] theorem yGL (z:Nat) (xs:List AV) (t:Tip):AV.dem (AV.sl z xs t)=AV.sl z xs t.dem:=rfl
@[simp] theorem yFC (z:Nat) (xs:List AV) (t:Tip):AV.dem1 (AV.sl z xs t)=AV.sl z xs t.dem:=rfl
@[simp] theorem yAP (z:Nat) (xs:List AV) (t:Tip):AV.cells (AV.sl z xs t)= [AV.sl z xs t]:=rfl
@[simp] theorem yGC (z:Nat) (xs:List AV) (t:Tip):AV.one (AV.sl z xs t)=true:=rfl
@[simp] theorem zYA (z:Nat) (xs:List AV) (t:Tip):AV.strip (AV.sl z xs t)=AV.sl z xs .no:=rfl
@[simp] theorem zRQ (z:Nat) (xs:List AV) (t:Tip):AV.strip1 (AV.sl z xs t)=AV.sl z xs .no:=rfl
@[simp] theorem yED (z:Nat) (xs:List AV) (t:Tip):AV.keep (AV.sl z xs t)=AV.sl z xs t:=rfl
@[simp] theorem yEK (z:Nat) (xs:List AV) (t:Tip):AV.isSl (AV.sl z xs t)=true:=rfl
@[simp] theorem yFV (z:Nat) (xs:List AV) (t:Tip):AV.stc (AV.sl z xs t)= [AV.var1 (AV.sl z xs t)]:=rfl
@[simp] theorem zRX (z:Nat) (xs:List AV) (t:Tip):AV.still1 (AV.sl z xs t)=true:=rfl
@[simp] theorem zQQ (D:Nat) (z:Nat) (xs:List AV) (t:Tip):AV.upto D 20 (AV.sl z xs t)=true:=rfl
@[simp] theorem zQX (D:Nat) (z:Nat) (xs:List AV) (t:Tip):AV.upto D 19 (AV.sl z xs t)=true:=rfl
@[simp] theorem yDH (τ:Nat->AV) (i:Nat) (z:Nat) (xs:List AV) (t:Tip):left τ i (AV.sl z xs t)=upd τ i (AV.sl z xs t.dem):=rfl
@[simp] theorem yER (s:St) (z:Nat) (xs:List AV) (t:Tip):frz s frzD (AV.sl z xs t)=some (AV.sl z xs t,[]):=rfl
@[simp] theorem yEY (cs:List AV) (off:Nat):AV.dem (AV.box cs off)=AV.box cs off:=rfl
@[simp] theorem yAL (cs:List AV) (off:Nat):AV.dem1 (AV.box cs off)=AV.box cs off:=rfl
@[simp] theorem zVV (cs:List AV) (off:Nat):AV.cells (AV.box cs off)= [AV.box cs off]:=rfl
@[simp] theorem yDB (cs:List AV) (off:Nat):AV.one (AV.box cs off)=true:=rfl
@[simp] theorem zRM (cs:List AV) (off:Nat):AV.strip (AV.box cs off)=AV.box cs off:=rfl
@[simp] theorem zPH (cs:List AV) (off:Nat):AV.strip1 (AV.box cs off)=AV.box cs off:=rfl
@[simp] theorem zZM (cs:List AV) (off:Nat):AV.keep (AV.box cs off)=AV.box cs off:=rfl
@[simp] theorem zZU (cs:List AV) (off:Nat):AV.isSl (AV.box cs off)=false:=rfl
@[simp] theorem yCI (cs:List AV) (off:Nat):AV.stc (AV.box cs off)= [AV.var1 (AV.box cs off)]:=rfl
@[simp] theorem zXS (cs:List AV) (off:Nat):AV.var1 (AV.box cs off)=AV.box cs off:=rfl
@[simp] theorem zPQ (cs:List AV) (off:Nat):AV.still1 (AV.box cs off)=true:=rfl
@[simp] theorem zOM (D:Nat) (cs:List AV) (off:Nat):AV.upto D 20 (AV.box cs off)=true:=rfl
@[simp] theorem zOS (D:Nat) (cs:List AV) (off:Nat):AV.upto D 19 (AV.box cs off)=true:=rfl
@[simp] theorem zZD (τ:Nat->AV) (i:Nat) (cs:List AV) (off:Nat):left τ i (AV.box cs off)=τ:=rfl
@[simp] theorem zZY (s:St) (cs:List AV) (off:Nat):frz s frzD (AV.box cs off)=some (AV.box cs off,[]):=rfl
@[simp] theorem yEU (d:Nat) (j:Nat) (g:Nat) (off:Nat):AV.dem (AV.ptr d j g off)=AV.ptr d j g off:=rfl
@[simp] theorem yAH (d:Nat) (j:Nat) (g:Nat) (off:Nat):AV.dem1 (AV.ptr d j g off)=AV.ptr d j g off:=rfl
@[simp] theorem zVR (d:Nat) (j:Nat) (g:Nat) (off:Nat):AV.cells (AV.ptr d j g off)= [AV.ptr d j g off]:=rfl
@[simp] theorem yCX (d:Nat) (j:Nat) (g:Nat) (off:Nat):AV.one (AV.ptr d j g off)=true:=rfl
@[simp] theorem zRI (d:Nat) (j:Nat) (g:Nat) (off:Nat):AV.strip (AV.ptr d j g off)=AV.ptr d j g off:=rfl
@[simp] theorem zPD (d:Nat) (j:Nat) (g:Nat) (off:Nat):AV.strip1 (AV.ptr d j g off)=AV.ptr d j g off:=rfl
@[simp] theorem zZI (d:Nat) (j:Nat) (g:Nat) (off:Nat):AV.keep (AV.ptr d j g off)=AV.ptr d j g off:=rfl
@[simp] theorem zZQ (d:Nat) (j:Nat) (g:Nat) (off:Nat):AV.isSl (AV.ptr d j g off)=false:=rfl
@[simp] theorem yCE (d:Nat) (j:Nat) (g:Nat) (off:Nat):AV.stc (AV.ptr d j g off)= [AV.var1 (AV.ptr d j g off)]:=rfl
@[simp] theorem zXO (d:Nat) (j:Nat) (g:Nat) (off:Nat):AV.var1 (AV.ptr d j g off)=AV.ptr d j g off:=rfl
@[simp] theorem zPM (d:Nat) (j:Nat) (g:Nat) (off:Nat):AV.still1 (AV.ptr d j g off)=false:=rfl
@[simp] theorem zOJ (D:Nat) (d:Nat) (j:Nat) (g:Nat) (off:Nat):AV.upto D 20 (AV.ptr d j g off)=decide (d<=D):=rfl
@[simp] theorem zOP (D:Nat) (d:Nat) (j:Nat) (g:Nat) (off:Nat):AV.upto D 19 (AV.ptr d j g off)=decide (d<=D):=rfl
@[simp] theorem zYZ (τ:Nat->AV) (i:Nat) (d:Nat) (j:Nat) (g:Nat) (off:Nat):left τ i (AV.ptr d j g off)=τ:=rfl
@[simp] theorem yEV (d:Nat) (j:Nat) (g:Nat) (off:Nat) (len:Nat) (z:Nat) (ea:Bool):AV.dem (AV.own d j g off len z ea)=AV.own d j g off len z ea:=rfl
@[simp] theorem yAI (d:Nat) (j:Nat) (g:Nat) (off:Nat) (len:Nat) (z:Nat) (ea:Bool):AV.dem1 (AV.own d j g off len z ea)=AV.own d j g off len z ea:=rfl
@[simp] theorem zVS (d:Nat) (j:Nat) (g:Nat) (off:Nat) (len:Nat) (z:Nat) (ea:Bool):AV.cells (AV.own d j g off len z ea)= [AV.own d j g off len z ea]:=rfl
@[simp] theorem yCY (d:Nat) (j:Nat) (g:Nat) (off:Nat) (len:Nat) (z:Nat) (ea:Bool):AV.one (AV.own d j g off len z ea)=true:=rfl
@[simp] theorem zRJ (d:Nat) (j:Nat) (g:Nat) (off:Nat) (len:Nat) (z:Nat) (ea:Bool):AV.strip (AV.own d j g off len z ea)=AV.own d j g off len z ea:=rfl
@[simp] theorem zPE (d:Nat) (j:Nat) (g:Nat) (off:Nat) (len:Nat) (z:Nat) (ea:Bool):AV.strip1 (AV.own d j g off len z ea)=AV.own d j g off len z ea:=rfl
@[simp] theorem zZJ (d:Nat) (j:Nat) (g:Nat) (off:Nat) (len:Nat) (z:Nat) (ea:Bool):AV.keep (AV.own d j g off len z ea)=AV.own d j g off len z ea:=rfl
@[simp] theorem zZR (d:Nat) (j:Nat) (g:Nat) (off:Nat) (len:Nat) (z:Nat) (ea:Bool):AV.isSl (AV.own d j g off len z ea)=false:=rfl
@[simp] theorem yCF (d:Nat) (j:Nat) (g:Nat) (off:Nat) (len:Nat) (z:Nat) (ea:Bool):AV.stc (AV.own d j g off len z ea)= [AV.var1 (AV.own d j g off len z ea)]:=rfl
@[simp] theorem zXP (d:Nat) (j:Nat) (g:Nat) (off:Nat) (len:Nat) (z:Nat) (ea:Bool):AV.var1 (AV.own d j g off len z ea)=AV.own d j g off len z ea:=rfl
@[simp] theorem zPN (d:Nat) (j:Nat) (g:Nat) (off:Nat) (len:Nat) (z:Nat) (ea:Bool):AV.still1 (AV.own d j g off len z ea)=false:=rfl
@[simp] theorem zOK (D:Nat) (d:Nat) (j:Nat) (g:Nat) (off:Nat) (len:Nat) (z:Nat) (ea:Bool):AV.upto D 20 (AV.own d j g off len z ea)=decide (d<=D):=rfl
@[simp] theorem zOQ (D:Nat) (d:Nat) (j:Nat) (g:Nat) (off:Nat) (len:Nat) (z:Nat) (ea:Bool):AV.upto D 19 (AV.own d j g off len z ea)=decide (d<=D):=rfl
@[simp] theorem zZA (τ:Nat->AV) (i:Nat) (d:Nat) (j:Nat) (g:Nat) (off:Nat) (len:Nat) (z:Nat) (ea:Bool):left τ i (AV.own d j g off len z ea)=τ:=rfl
@[simp] theorem yGM (d:Nat) (j:Nat) (g:Nat):AV.dem (AV.mp d j g)=AV.mp d j g:=rfl
@[simp] theorem yFD (d:Nat) (j:Nat) (g:Nat):AV.dem1 (AV.mp d j g)=AV.mp d j g:=rfl
@[simp] theorem yAQ (d:Nat) (j:Nat) (g:Nat):AV.cells (AV.mp d j g)= [AV.mp d j g]:=rfl
@[simp] theorem yGD (d:Nat) (j:Nat) (g:Nat):AV.one (AV.mp d j g)=true:=rfl
@[simp] theorem zYB (d:Nat) (j:Nat) (g:Nat):AV.strip (AV.mp d j g)=AV.mp d j g:=rfl
@[simp] theorem zRR (d:Nat) (j:Nat) (g:Nat):AV.strip1 (AV.mp d j g)=AV.mp d j g:=rfl
@[simp] theorem yEE (d:Nat) (j:Nat) (g:Nat):AV.keep (AV.mp d j g)=AV.mp d j g:=rfl
@[simp] theorem yEL (d:Nat) (j:Nat) (g:Nat):AV.isSl (AV.mp d j g)=false:=rfl
@[simp] theorem yFW (d:Nat) (j:Nat) (g:Nat):AV.stc (AV.mp d j g)= [AV.var1 (AV.mp d j g)]:=rfl
@[simp] theorem yBT (d:Nat) (j:Nat) (g:Nat):AV.var1 (AV.mp d j g)=AV.mp d j g:=rfl
@[simp] theorem zRY (d:Nat) (j:Nat) (g:Nat):AV.still1 (AV.mp d j g)=false:=rfl
@[simp] theorem zQR (D:Nat) (d:Nat) (j:Nat) (g:Nat):AV.upto D 20 (AV.mp d j g)=decide (d<=D):=rfl
@[simp] theorem zQY (D:Nat) (d:Nat) (j:Nat) (g:Nat):AV.upto D 19 (AV.mp d j g)=decide (d<=D):=rfl
@[simp] theorem yDI (τ:Nat->AV) (i:Nat) (d:Nat) (j:Nat) (g:Nat):left τ i (AV.mp d j g)=τ:=rfl
@[simp] theorem yGO (d:Nat) (j:Nat) (g:Nat):AV.dem (AV.ch d j g)=AV.ch d j g:=rfl
@[simp] theorem yFF (d:Nat) (j:Nat) (g:Nat):AV.dem1 (AV.ch d j g)=AV.ch d j g:=rfl
@[simp] theorem yAS (d:Nat) (j:Nat) (g:Nat):AV.cells (AV.ch d j g)= [AV.ch d j g]:=rfl
@[simp] theorem yGF (d:Nat) (j:Nat) (g:Nat):AV.one (AV.ch d j g)=true:=rfl
@[simp] theorem zYD (d:Nat) (j:Nat) (g:Nat):AV.strip (AV.ch d j g)=AV.ch d j g:=rfl
@[simp] theorem zRT (d:Nat) (j:Nat) (g:Nat):AV.strip1 (AV.ch d j g)=AV.ch d j g:=rfl
@[simp] theorem yEG (d:Nat) (j:Nat) (g:Nat):AV.keep (AV.ch d j g)=AV.ch d j g:=rfl
@[simp] theorem yEN (d:Nat) (j:Nat) (g:Nat):AV.isSl (AV.ch d j g)=false:=rfl
@[simp] theorem yFY (d:Nat) (j:Nat) (g:Nat):AV.stc (AV.ch d j g)= [AV.var1 (AV.ch d j g)]:=rfl
@[simp] theorem yBV (d:Nat) (j:Nat) (g:Nat):AV.var1 (AV.ch d j g)=AV.ch d j g:=rfl
@[simp] theorem zSA (d:Nat) (j:Nat) (g:Nat):AV.still1 (AV.ch d j g)=false:=rfl
@[simp] theorem zQT (D:Nat) (d:Nat) (j:Nat) (g:Nat):AV.upto D 20 (AV.ch d j g)=decide (d<=D):=rfl
@[simp] theorem zRA (D:Nat) (d:Nat) (j:Nat) (g:Nat):AV.upto D 19 (AV.ch d j g)=decide (d<=D):=rfl
@[simp] theorem yDK (τ:Nat->AV) (i:Nat) (d:Nat) (j:Nat) (g:Nat):left τ i (AV.ch d j g)=τ:=rfl
@[simp] theorem yGJ (d:Nat) (j:Nat) (g:Nat):AV.dem (AV.yl d j g)=AV.yl d j g:=rfl
@[simp] theorem yFA (d:Nat) (j:Nat) (g:Nat):AV.dem1 (AV.yl d j g)=AV.yl d j g:=rfl
@[simp] theorem yAN (d:Nat) (j:Nat) (g:Nat):AV.cells (AV.yl d j g)= [AV.yl d j g]:=rfl
@[simp] theorem yGA (d:Nat) (j:Nat) (g:Nat):AV.one (AV.yl d j g)=true:=rfl
@[simp] theorem zXY (d:Nat) (j:Nat) (g:Nat):AV.strip (AV.yl d j g)=AV.yl d j g:=rfl
@[simp] theorem zRO (d:Nat) (j:Nat) (g:Nat):AV.strip1 (AV.yl d j g)=AV.yl d j g:=rfl
@[simp] theorem yEB (d:Nat) (j:Nat) (g:Nat):AV.keep (AV.yl d j g)=AV.yl d j g:=rfl
@[simp] theorem yEI (d:Nat) (j:Nat) (g:Nat):AV.isSl (AV.yl d j g)=false:=rfl
@[simp] theorem yFT (d:Nat) (j:Nat) (g:Nat):AV.stc (AV.yl d j g)= [AV.var1 (AV.yl d j g)]:=rfl
@[simp] theorem yBR (d:Nat) (j:Nat) (g:Nat):AV.var1 (AV.yl d j g)=AV.yl d j g:=rfl
@[simp] theorem zRV (d:Nat) (j:Nat) (g:Nat):AV.still1 (AV.yl d j g)=false:=rfl
@[simp] theorem zQO (D:Nat) (d:Nat) (j:Nat) (g:Nat):AV.upto D 20 (AV.yl d j g)=decide (d<=D):=rfl
@[simp] theorem zQV (D:Nat) (d:Nat) (j:Nat) (g:Nat):AV.upto D 19 (AV.yl d j g)=decide (d<=D):=rfl
@[simp] theorem yDF (τ:Nat->AV) (i:Nat) (d:Nat) (j:Nat) (g:Nat):left τ i (AV.yl d j g)=τ:=rfl
@[simp] theorem yGN (f:FuncId) (cap:List AV):AV.dem (AV.fn f cap)=AV.fn f cap:=rfl
@[simp] theorem yFE (f:FuncId) (cap:List AV):AV.dem1 (AV.fn f cap)=AV.fn f cap:=rfl
@[simp] theorem yAR (f:FuncId) (cap:List AV):AV.cells (AV.fn f cap)= [AV.fn f cap]:=rfl
@[simp] theorem yGE (f:FuncId) (cap:List AV):AV.one (AV.fn f cap)=true:=rfl
@[simp] theorem zYC (f:FuncId) (cap:List AV):AV.strip (AV.fn f cap)=AV.fn f cap:=rfl
@[simp] theorem zRS (f:FuncId) (cap:List AV):AV.strip1 (AV.fn f cap)=AV.fn f cap:=rfl
@[simp] theorem yEF (f:FuncId) (cap:List AV):AV.keep (AV.fn f cap)=AV.fn f cap:=rfl
@[simp] theorem yEM (f:FuncId) (cap:List AV):AV.isSl (AV.fn f cap)=false:=rfl
@[simp] theorem yFX (f:FuncId) (cap:List AV):AV.stc (AV.fn f cap)= [AV.var1 (AV.fn f cap)]:=rfl
@[simp] theorem yBU (f:FuncId) (cap:List AV):AV.var1 (AV.fn f cap)=AV.fn f cap:=rfl
@[simp] theorem zRZ (f:FuncId) (cap:List AV):AV.still1 (AV.fn f cap)=false:=rfl
@[simp] theorem yDJ (τ:Nat->AV) (i:Nat) (f:FuncId) (cap:List AV):left τ i (AV.fn f cap)=τ:=rfl
@[simp] theorem yAD (f:FuncId) (cap:List AV):AV.dem (AV.meth f cap)=AV.meth f cap:=rfl
@[simp] theorem zVM (f:FuncId) (cap:List AV):AV.dem1 (AV.meth f cap)=AV.meth f cap:=rfl
@[simp] theorem zQC (f:FuncId) (cap:List AV):AV.cells (AV.meth f cap)= [AV.meth f cap]:=rfl
@[simp] theorem zYS (f:FuncId) (cap:List AV):AV.one (AV.meth f cap)=true:=rfl
@[simp] theorem zOZ (f:FuncId) (cap:List AV):AV.strip (AV.meth f cap)=AV.meth f cap:=rfl
@[simp] theorem zJY (f:FuncId) (cap:List AV):AV.strip1 (AV.meth f cap)=AV.meth f cap:=rfl
@[simp] theorem zUQ (f:FuncId) (cap:List AV):AV.keep (AV.meth f cap)=AV.meth f cap:=rfl
@[simp] theorem zUW (f:FuncId) (cap:List AV):AV.isSl (AV.meth f cap)=false:=rfl
@[simp] theorem zYJ (f:FuncId) (cap:List AV):AV.stc (AV.meth f cap)= [AV.var1 (AV.meth f cap)]:=rfl
@[simp] theorem zQM (f:FuncId) (cap:List AV):AV.var1 (AV.meth f cap)=AV.meth f cap:=rfl
@[simp] theorem zKE (f:FuncId) (cap:List AV):AV.still1 (AV.meth f cap)=false:=rfl
@[simp] theorem zTZ (τ:Nat->AV) (i:Nat) (f:FuncId) (cap:List AV):left τ i (AV.meth f cap)=τ:=rfl
@[simp] theorem yGP (h:Nat) (cs:List AV) (off:Nat):AV.dem (AV.bx h cs off)=AV.bx h cs off:=rfl
@[simp] theorem yFG (h:Nat) (cs:List AV) (off:Nat):AV.dem1 (AV.bx h cs off)=AV.bx h cs off:=rfl
@[simp] theorem yAT (h:Nat) (cs:List AV) (off:Nat):AV.cells (AV.bx h cs off)= [AV.bx h cs off]:=rfl
@[simp] theorem yGG (h:Nat) (cs:List AV) (off:Nat):AV.one (AV.bx h cs off)=true:=rfl
@[simp] theorem zYE (h:Nat) (cs:List AV) (off:Nat):AV.strip (AV.bx h cs off)=AV.bx h cs off:=rfl
@[simp] theorem zRU (h:Nat) (cs:List AV) (off:Nat):AV.strip1 (AV.bx h cs off)=AV.bx h cs off:=rfl
@[simp] theorem yEH (h:Nat) (cs:List AV) (off:Nat):AV.keep (AV.bx h cs off)=AV.bx h cs off:=rfl
@[simp] theorem yEO (h:Nat) (cs:List AV) (off:Nat):AV.isSl (AV.bx h cs off)=false:=rfl
@[simp] theorem yFZ (h:Nat) (cs:List AV) (off:Nat):AV.stc (AV.bx h cs off)= [AV.var1 (AV.bx h cs off)]:=rfl
@[simp] theorem yBW (h:Nat) (cs:List AV) (off:Nat):AV.var1 (AV.bx h cs off)=AV.bx h cs off:=rfl
@[simp] theorem zSB (h:Nat) (cs:List AV) (off:Nat):AV.still1 (AV.bx h cs off)=false:=rfl
@[simp] theorem yDL (τ:Nat->AV) (i:Nat) (h:Nat) (cs:List AV) (off:Nat):left τ i (AV.bx h cs off)=τ:=rfl
@[simp] theorem zQU (D:Nat) (h:Nat) (cs:List AV) (off:Nat):AV.upto D 20 (AV.bx h cs off)=decide (h<=D):=rfl
@[simp] theorem zRB (D:Nat) (h:Nat) (cs:List AV) (off:Nat):AV.upto D 19 (AV.bx h cs off)=decide (h<=D):=rfl
@[simp] theorem zRC (D:Nat) (h:Nat) (cs:List AV) (off:Nat):AV.upto D 18 (AV.bx h cs off)=decide (h<=D):=rfl
@[simp] theorem zQS (D:Nat) (f:FuncId) (cap:List AV):AV.upto D 20 (AV.fn f cap)=cap.all (AV.upto D 19):=rfl
@[simp] theorem zQZ (D:Nat) (f:FuncId) (cap:List AV):AV.upto D 19 (AV.fn f cap)=cap.all (AV.upto D 18):=rfl
@[simp] theorem zJL (D:Nat) (f:FuncId) (cap:List AV):AV.upto D 20 (AV.meth f cap)=cap.all (AV.upto D 19):=rfl
@[simp] theorem zJR (D:Nat) (f:FuncId) (cap:List AV):AV.upto D 19 (AV.meth f cap)=cap.all (AV.upto D 18):=rfl
@[simp] theorem yEX (t:TypeId) (v:AV):AV.dem (AV.ifc t v)=AV.ifc t v:=rfl
@[simp] theorem yAK (t:TypeId) (v:AV):AV.dem1 (AV.ifc t v)=AV.ifc t v:=rfl
@[simp] theorem zVU (t:TypeId) (v:AV):AV.cells (AV.ifc t v)= [AV.ifc t v]:=rfl
@[simp] theorem yDA (t:TypeId) (v:AV):AV.one (AV.ifc t v)=true:=rfl
@[simp] theorem zRL (t:TypeId) (v:AV):AV.strip (AV.ifc t v)=AV.ifc t v:=rfl
@[simp] theorem zPG (t:TypeId) (v:AV):AV.strip1 (AV.ifc t v)=AV.ifc t v:=rfl
@[simp] theorem zZL (t:TypeId) (v:AV):AV.keep (AV.ifc t v)=AV.ifc t v:=rfl
@[simp] theorem zZT (t:TypeId) (v:AV):AV.isSl (AV.ifc t v)=false:=rfl
@[simp] theorem yCH (t:TypeId) (v:AV):AV.stc (AV.ifc t v)= [AV.var1 (AV.ifc t v)]:=rfl
@[simp] theorem zXR (t:TypeId) (v:AV):AV.var1 (AV.ifc t v)=AV.ifc t v:=rfl
@[simp] theorem zPP (t:TypeId) (v:AV):AV.still1 (AV.ifc t v)=false:=rfl
@[simp] theorem zZC (τ:Nat->AV) (i:Nat) (t:TypeId) (v:AV):left τ i (AV.ifc t v)=τ:=rfl
@[simp] theorem yEZ (cs:List AV):AV.dem (AV.agg cs)=AV.agg (cs.map AV.dem1):=rfl
@[simp] theorem yAM (cs:List AV):AV.dem1 (AV.agg cs)=AV.agg cs:=rfl
@[simp] theorem zVW (cs:List AV):AV.cells (AV.agg cs)=cs:=rfl
@[simp] theorem yDC (cs:List AV):AV.one (AV.agg cs)=false:=rfl
@[simp] theorem zRN (cs:List AV):AV.strip (AV.agg cs)=AV.agg (cs.map AV.strip1):=rfl
@[simp] theorem zPI (cs:List AV):AV.strip1 (AV.agg cs)=AV.agg cs:=rfl
@[simp] theorem zZN (cs:List AV):AV.keep (AV.agg cs)=AV.agg (cs.map AV.strip1):=rfl
@[simp] theorem zZV (cs:List AV):AV.isSl (AV.agg cs)=false:=rfl
@[simp] theorem yCJ (cs:List AV):AV.stc (AV.agg cs)=stcL cs:=rfl
attribute [simp] stcL
@[simp] theorem zXT (cs:List AV):AV.var1 (AV.agg cs)=AV.agg cs:=rfl
@[simp] theorem zPR (cs:List AV):AV.still1 (AV.agg cs)=false:=rfl
@[simp] theorem zON (D:Nat) (cs:List AV):AV.upto D 20 (AV.agg cs)=cs.all (AV.upto D 19):=rfl
@[simp] theorem zZE (τ:Nat->AV) (i:Nat) (cs:List AV):left τ i (AV.agg cs)=upd τ i (AV.agg (cs.map AV.dem1)):=rfl
@[simp] theorem yES (vs:List AV):AV.dem (AV.tup vs)=AV.tup (vs.map AV.dem1):=rfl
@[simp] theorem yAF (vs:List AV):AV.dem1 (AV.tup vs)=AV.tup vs:=rfl
@[simp] theorem zVP (vs:List AV):AV.cells (AV.tup vs)= [AV.tup vs]:=rfl
@[simp] theorem yCV (vs:List AV):AV.one (AV.tup vs)=false:=rfl
@[simp] theorem zRG (vs:List AV):AV.strip (AV.tup vs)=AV.tup (vs.map AV.strip1):=rfl
@[simp] theorem zPB (vs:List AV):AV.strip1 (AV.tup vs)=AV.tup vs:=rfl
@[simp] theorem zZG (vs:List AV):AV.keep (AV.tup vs)=AV.tup (vs.map AV.strip1):=rfl
@[simp] theorem zZO (vs:List AV):AV.isSl (AV.tup vs)=false:=rfl
@[simp] theorem yCC (vs:List AV):AV.stc (AV.tup vs)= [AV.var1 (AV.tup vs)]:=rfl
@[simp] theorem zXM (vs:List AV):AV.var1 (AV.tup vs)=AV.tup vs:=rfl
@[simp] theorem zPK (vs:List AV):AV.still1 (AV.tup vs)=false:=rfl
@[simp] theorem zYX (τ:Nat->AV) (i:Nat) (vs:List AV):left τ i (AV.tup vs)=upd τ i (AV.tup (vs.map AV.dem1)):=rfl
@[simp] theorem zOH (z:Nat) (xs:List AV):AV.var1 (.sl z xs .no)= .sl z xs .no:=rfl
@[simp] theorem zJF (z:Nat) (xs:List AV):AV.var1 (.sl z xs .tip)= .sl z xs .tip:=rfl
@[simp] theorem zJG (z:Nat) (xs:List AV):AV.var1 (.sl z xs .nil)= .sl z xs .tip:=rfl
@[simp] theorem zRF:Tip.dem .no= .no:=rfl
@[simp] theorem zOT:Tip.dem .tip= .no:=rfl
@[simp] theorem zOU:Tip.dem .nil= .nil:=rfl
@[simp] theorem yEP (kd:IntKind) (i:Int):AV.idx (.int kd i)=some i:=rfl
attribute [simp] vE pZ z5 zFI nW yCL zKH zKI zFJ zFK uJ zKG l3 zS wQ tB zV uY zFO zAU exitTo
attribute [simp ↓] zXE zEG zEI zHX zXJ zNV zNK zNN zNO zNM zXF zNZ
attribute [simp] zOC zNY zLC
attribute [simp] lK xL zBX qC yV zID zOF zIB zIA zFA sN zOG zIE zNG zNH zNI zLV yEQ
@[simp] theorem yFS:ud.dem=ud:=rfl
@[simp] theorem zXU:ud.strip=ud:=rfl
@[simp] theorem yBZ:ud.var1=ud:=rfl
@[simp] theorem yCA (τ:Nat->AV) (i:Nat):left τ i ud=upd τ i ud:=rfl
def zGC (ag:Bool) (m g off:Nat):Ent->Option AV
 | (g',.cells cs)=>if g'=g then (part ag m cs off).map AV.dem else none
 | _=>none
def eE (lk:Nat->Nat->Ent) (ag:Bool) (m:Nat):AV->Option AV
 | .box cs off=>(part ag m cs off).map AV.dem
 | .bx _ cs off=>(part ag m cs off).map AV.dem
 | .ptr d i g off=>zGC ag m g off (lk d i)
 | _=>none
@[simp] theorem zLO (ag m g off g' cs):zGC ag m g off (g',.cells cs)=if g'=g then (part ag m cs off).map AV.dem else none:=rfl
@[simp] theorem zTU (lk ag m cs off):eE lk ag m (.box cs off)=(part ag m cs off).map AV.dem:=rfl
@[simp] theorem zYV (lk ag m h cs off):eE lk ag m (.bx h cs off)=(part ag m cs off).map AV.dem:=rfl
@[simp] theorem zTT (lk ag m d i g off):eE lk ag m (.ptr d i g off)=zGC ag m g off (lk d i):=rfl
@[simp] theorem yCQ (m cs off):part true m cs off=if off+m<=cs.length then some (.agg ((cs.drop off).take m)) else none:=by simp[part]
@[simp] theorem yCP (cs off):part false 1 cs off=cs[off]?:=by
 simp only[part];split
 ·rfl
 ·rw[yGW (by omega)]
def zAI (m:Nat) (x:AV):AV->(Nat->Nat->Ent)->Option (Nat×Nat×Ent)
 | .ptr d i g off,lk=>match lk d i with
  | (g',.cells cs)=>if g'=g/\x.cells.length=m/\off+m<=cs.length/\x.upto d 20=true/\x.cells.all AV.one=true then some (d,i,(g,.cells (putC cs off x.stc))) else none
  | _=>none
 | _,_=>none
@[simp] theorem zPJ (m x d i g off lk):zAI m x (.ptr d i g off) lk=match lk d i with
  | (g',.cells cs)=>if g'=g/\x.cells.length=m/\off+m<=cs.length/\x.upto d 20=true/\x.cells.all AV.one=true then some (d,i,(g,.cells (putC cs off x.stc))) else none
  | _=>none:=rfl
section
variable {C:zL} {own:Md} {Q:St->Prop} {k:List AI} {n D:Nat} {τ:Nat->AV} {ω:Nat->Ent} {S:Nat->Nat->Ent} {l:List AOper} {d:Nat}
@[simp ↓] theorem yBO {ag m p}:Rd C own Q (.ops (⟨some d,.load ag m false p,none⟩::l)::k) (stF n D τ ω S)↔
  Vk C own Q (eE (stF n D τ ω S).look ag m ((stF n D τ ω S).ev p)) d l k n D τ ω S:=by
 rw[zHO];simp only[opf];cases (stF n D τ ω S).ev p<;>try exact Iff.rfl
 ·rename_i cs off;simp only[eE];cases part ag m cs off<;>simp
 rotate_left
 ·rename_i h cs off;simp only[eE];cases part ag m cs off<;>simp
 ·rename_i d' i g off;simp only[eE,zGC];rcases (stF n D τ ω S).look d' i with ⟨g',ob⟩;cases ob<;>try exact Iff.rfl
  rename_i cs;simp only;by_cases e:g'=g
  ·simp only[e,if_true];cases part ag m cs off<;>simp
  ·simp[e]
@[simp ↓] theorem zXL {z} (hp:own≠ .pl):Rd C own Q (.ops (⟨some d,.alloc z,none⟩::l)::k) (stF n D τ ω S)↔
  (if d < n then Rd C own Q (.ops l::k) (stF n D (upd τ d (.ptr D d ((ω d).1+1) 0)) (upd ω d ((ω d).1+1,.cells (z.map AV.var1))) S) else False):=by
 rw[zHZ hp];simp only[opf,uJ];by_cases h:d < n<;>simp[h]
@[simp ↓] theorem zQG {z o1 o2 o3} (hp:own≠ .pl):Rd C own Q (.c (.either ⟨some d,.alloc z,none⟩ o1 o2 o3)::k) (stF n D τ ω S)↔
  (if d < n then Rd C own Q (.ops [o1,o2,o3]::k) (stF n D (upd τ d (.ptr D d ((ω d).1+1) 0)) (upd ω d ((ω d).1+1,.cells (z.map AV.var1))) S)/\Rd C own Q (.ops [o2,o1,o3]::k) (stF n D (upd τ d (.ptr D d ((ω d).1+1) 0)) (upd ω d ((ω d).1+1,.cells (z.map AV.var1))) S) else False):=by
 rw[zEQ,xS rfl rfl rfl rfl (fun e=>absurd e hp)];simp only[opf,uJ];by_cases h:d < n<;>simp[h]
@[simp ↓] theorem yFQ {m x} (hp:own≠ .pl):Rd C own Q (.ops (⟨some d,.box m x,none⟩::l)::k) (stF n D τ ω S)↔
  (if d < n/\((stF n D τ ω S).ev x).cells.length=m/\((stF n D τ ω S).ev x).cells.all AV.one=true then Rd C own Q (.ops l::k) (stF n D (upd τ d (.ptr D d ((ω d).1+1) 0)) (upd ω d ((ω d).1+1,.cells (((stF n D τ ω S).ev x).cells.map AV.var1))) S) else False):=by
 rw[zXI hp];simp only[opf,uJ];by_cases h:d < n
 ·by_cases h2:((stF n D τ ω S).ev x).cells.length=m/\((stF n D τ ω S).ev x).cells.all AV.one=true
  ·have h3:=And.intro h h2;simp only[if_pos h,if_pos h2,if_pos h3,yV,sN,zV,List.foldl,wQ,z5,if_true,nW]
  ·have h3:¬(d < n/\((stF n D τ ω S).ev x).cells.length=m/\((stF n D τ ω S).ev x).cells.all AV.one=true):=fun q=>h2 q.2;simp only[if_pos h,if_neg h2,if_neg h3,Ek,Vk,xL]
 ·have h3:¬(d < n/\((stF n D τ ω S).ev x).cells.length=m/\((stF n D τ ω S).ev x).cells.all AV.one=true):=fun q=>h q.1;simp only[if_neg h,if_neg h3,Ek,Vk,xL]
@[simp ↓] theorem zXD {m p x}:Rd C own Q (.ops (⟨none,.store m p x,none⟩::l)::k) (stF n D τ ω S)↔
  Uk C own Q (zAI m ((stF n D τ ω S).evr x) ((stF n D τ ω S).ev p) (stF n D τ ω S).look) x l k (stF n D τ ω S):=by
 rw[zHD];simp only[opf];cases (stF n D τ ω S).ev p<;>try exact Iff.rfl
 rename_i d' i g off;simp only[zAI];rcases (stF n D τ ω S).look d' i with ⟨g',ob⟩;cases ob<;>try exact Iff.rfl
 rename_i cs;simp only;split<;>exact Iff.rfl
theorem zCW (t:Nat):(stF n D τ ω S).demT t=stF n D (left τ t (τ t)) ω S:=by rw[tB,jE]
attribute [-simp] tB
attribute [simp] zCW
def gD (off:Nat):AV->Option AV
 | .ptr d i g o=>some (.ptr d i g (o+off))
 | .box cs o=>some (.box cs (o+off))
 | .bx h cs o=>some (.bx h cs (o+off))
 | _=>none
@[simp] theorem zVF (off h cs o):gD off (.bx h cs o)=some (.bx h cs (o+off)):=rfl
@[simp] theorem zPV (off d i g o):gD off (.ptr d i g o)=some (.ptr d i g (o+off)):=rfl
@[simp] theorem zPW (off cs o):gD off (.box cs o)=some (.box cs (o+off)):=rfl
@[simp ↓] theorem zXH {off x}:Rd C own Q (.ops (⟨some d,.faddr off x,none⟩::l)::k) (stF n D τ ω S)↔
  Vk C own Q (gD off ((stF n D τ ω S).ev x)) d l k n D τ ω S:=by
 rw[zHS];simp only[opf];cases (stF n D τ ω S).ev x<;>simp[gD]
def jK (len z:Nat):AV->AV->Option AV
 | .ptr d i g o,.int _ n=>if 0<=n/\n < len then some (.ptr d i g (o+n.toNat*z)) else none
 | .box cs o,.int _ n=>if 0<=n/\n < len then some (.box cs (o+n.toNat*z)) else none
 | _,_=>none
@[simp] theorem zLT (len z d i g o kd m):jK len z (.ptr d i g o) (.int kd m)=if 0<=m/\m < len then some (.ptr d i g (o+m.toNat*z)) else none:=rfl
@[simp] theorem zLU (len z cs o kd m):jK len z (.box cs o) (.int kd m)=if 0<=m/\m < len then some (.box cs (o+m.toNat*z)) else none:=rfl
@[simp ↓] theorem zQF {len z x i}:Rd C own Q (.ops (⟨some d,.iaddrA len z x i,none⟩::l)::k) (stF n D τ ω S)↔
  Vk C own Q (jK len z ((stF n D τ ω S).ev x) ((stF n D τ ω S).ev i)) d l k n D τ ω S:=by
 rw[zEO];simp only[opf];cases (stF n D τ ω S).ev i<;>cases (stF n D τ ω S).ev x<;>simp only[jK]<;>(try exact Iff.rfl)<;>
  first
  | (
    rename_i m _ _ _ _;by_cases h:0<=m/\m < (len:Int)
    ·simp only[if_pos h,yV,sN,zV,List.foldl,z5]
    ·simp only[if_neg h,Ek,Vk,xL])
  | (
    rename_i m _ _;by_cases h:0<=m/\m < (len:Int)
    ·simp only[if_pos h,yV,sN,zV,List.foldl,z5]
    ·simp only[if_neg h,Ek,Vk,xL])
  | (split<;>simp_all)
def jJ (z:Nat):AV->AV->Option AV
 | .sl z' xs _,.int _ n=>if 0<=n/\n < xs.length/\z'=z then some (.box (xs.getD n.toNat ud).cells 0) else none
 | .own d i g o len z' _,.int _ n=>if 0<=n/\n < len/\z'=z then some (.ptr d i g (o+n.toNat*z)) else none
 | _,_=>none
@[simp] theorem zPU (z z' xs t kd m):jJ z (.sl z' xs t) (.int kd m)=if 0<=m/\m < xs.length/\z'=z then some (.box (xs.getD m.toNat ud).cells 0) else none:=rfl
@[simp] theorem zLS (z d i g o len z' ea kd m):jJ z (.own d i g o len z' ea) (.int kd m)=if 0<=m/\m < len/\z'=z then some (.ptr d i g (o+m.toNat*z)) else none:=rfl
@[simp ↓] theorem zQE {z x i}:Rd C own Q (.ops (⟨some d,.iaddrS z x i,none⟩::l)::k) (stF n D τ ω S)↔
  Vk C own Q (jJ z ((stF n D τ ω S).ev x) ((stF n D τ ω S).ev i)) d l k n D τ ω S:=by
 rw[zEN];simp only[opf];cases (stF n D τ ω S).ev i<;>cases (stF n D τ ω S).ev x<;>simp only[jJ]<;>(try exact Iff.rfl)<;>
  first
  | (
    rename_i m z' xs _;by_cases h:0<=m/\m < (xs.length:Int)/\z'=z
    ·simp only[if_pos h,yV,sN,zV,List.foldl,z5]
    ·simp only[if_neg h,Ek,Vk,xL])
  | (
    rename_i m _ _ _ _ len z' _;by_cases h:0<=m/\m < (len:Int)/\z'=z
    ·simp only[if_pos h,yV,sN,zV,List.foldl,z5]
    ·simp only[if_neg h,Ek,Vk,xL])
def lenV:AV->Option AV
 | .sl _ xs _=>some (.int .i64 xs.length)
 | .own _ _ _ _ len _ _=>some (.int .i64 len)
 | _=>none
@[simp] theorem yDE (z xs t):lenV (.sl z xs t)=some (.int .i64 xs.length):=rfl
@[simp] theorem zYW (d i g o len z ea):lenV (.own d i g o len z ea)=some (.int .i64 len):=rfl
@[simp ↓] theorem yFP {x}:Rd C own Q (.ops (⟨some d,.len x,none⟩::l)::k) (stF n D τ ω S)↔
  Vk C own Q (lenV ((stF n D τ ω S).ev x)) d l k n D τ ω S:=by
 rw[zXG];simp only[opf];cases (stF n D τ ω S).ev x<;>simp[lenV]
def zMC (i:Nat):AV->Option AV
 | .tup vs=>vs[i]?
 | _=>none
@[simp] theorem zVG (i vs):zMC i (.tup vs)=vs[i]?:=rfl
def tipB:AV->Bool
 | .sl _ _ .tip=>true
 | _=>false
@[simp] theorem zXV (z xs):tipB (.sl z xs .tip)=true:=rfl
@[simp] theorem yCB (z xs):tipB (.sl z xs .no)=false:=rfl
@[simp] theorem zXW (z xs):tipB (.sl z xs .nil)=false:=rfl
@[simp] theorem zXX {v:AV} (h:v.dem=v):tipB v=false:=by
 cases v with
 | sl z xs t=>cases t<;>first | rfl | (simp[AV.dem,Tip.dem] at h)
 | _=>rfl
def zMD (i:Nat):AV->Option AV
 | .tup vs=>vs[i]?.map AV.dem
 | _=>none
@[simp] theorem zVH (i vs):zMD i (.tup vs)=vs[i]?.map AV.dem:=rfl
@[simp ↓] theorem yBP {x i}:Rd C own Q (.ops (⟨some d,.extr false x i,none⟩::l)::k) (stF n D τ ω S)↔
  Vk C own Q (zMD i ((stF n D τ ω S).ev x)) d l k n D τ ω S:=by
 rw[zEP];simp only[opf];cases (stF n D τ ω S).ev x<;>try exact Iff.rfl
 rename_i vs;simp only[zMD];cases vs[i]?<;>simp
@[simp ↓] theorem yBQ {x i}:Rd C own Q (.ops (⟨some d,.extr true x i,none⟩::l)::k) (stF n D τ ω S)↔
  qK (zMC i ((stF n D τ ω S).evr x)) fun v=>iteR (tipB v) (Rd C own Q (.ops l::k) ((x.tmp.foldl St.demT (stF n D τ ω S)).put (some d) v)) (Rd C own Q (.ops l::k) (stF n D (upd τ d v.dem) ω S)):=by
 rw[zEP];simp only[opf];cases (stF n D τ ω S).evr x<;>try exact Iff.rfl
 rename_i vs;simp only[zMC];cases hv:vs[i]? with
 | none=>exact Iff.rfl
 | some v=>
  rw[lK];cases v with
  | sl z xs t=>
   cases t
   case tip=>exact Iff.rfl
   all_goals simp only[tipB,qC,yV,zV,List.foldl,z5]
  | _=>simp only[tipB,qC,yV,zV,List.foldl,z5]
def zLA (t:AV) (a b:AV):Option AV:=
 match t with
 | .bool t=>some (if t then a else b)
 | _=>none
@[simp] theorem zPT (t a b):zLA (.bool t) a b=some (if t then a else b):=rfl
@[simp ↓] theorem yBN {c a b}:Rd C own Q (.ops (⟨some d,.pick c a b,none⟩::l)::k) (stF n D τ ω S)↔
  Vk C own Q (zLA ((stF n D τ ω S).ev c) ((stF n D τ ω S).ev a) ((stF n D τ ω S).ev b)) d l k n D τ ω S:=by
 rw[zNP];simp only[opf];cases (stF n D τ ω S).ev c<;>simp[zLA]
@[simp ↓] theorem yGQ {op x}:Rd C own Q (.ops (⟨some d,.un op x,none⟩::l)::k) (stF n D τ ω S)↔
  Vk C own Q (unf op ((stF n D τ ω S).ev x)) d l k n D τ ω S:=by
 rw[yFN];simp only[opf];cases unf op ((stF n D τ ω S).ev x)<;>simp
attribute [simp ↓] zHJ zHH zHF zHN dD aW zXK zNT zNS zNR zHK zHI zHG zEF fA aX zHP dE zNW zHR zAC
@[simp] theorem yBX (b:Bool):unf .not (.bool b)=some (.bool !b):=rfl
@[simp] theorem yBY (kd:IntKind) (i:Int):unf .neg (.int kd i)=some (.int kd (kd.wrap (0 - i))):=rfl
@[simp] theorem yCR (i:Nat):Opd.tmp (.t i)= [i]:=rfl
@[simp] theorem yCS (v:AV):Opd.tmp (.c v)= []:=rfl
end
@[simp] theorem yBM (e:EqK) (kd:IntKind) (a b:Int):binf .add e (.int kd a) (.int kd b)=some (.int kd (kd.wrap (a+b))):=by simp[binf,binI,cmpI]
@[simp] theorem yAV (e:EqK) (kd:IntKind) (a b:Int):binf .sub e (.int kd a) (.int kd b)=some (.int kd (kd.wrap (a - b))):=by simp[binf,binI,cmpI]
@[simp] theorem yBD (e:EqK) (kd:IntKind) (a b:Int):binf .mul e (.int kd a) (.int kd b)=some (.int kd (kd.wrap (a*b))):=by simp[binf,binI,cmpI]
@[simp] theorem yAZ (e:EqK) (kd:IntKind) (a b:Int):binf .quo e (.int kd a) (.int kd b)=if b=0 then none else some (.int kd (kd.wrap (a.tdiv b))):=by simp[binf,binI,cmpI]
@[simp] theorem yAY (e:EqK) (kd:IntKind) (a b:Int):binf .rem e (.int kd a) (.int kd b)=if b=0 then none else some (.int kd (a.tmod b)):=by simp[binf,binI,cmpI]
@[simp] theorem yBL (e:EqK) (kd:IntKind) (a b:Int):binf .and e (.int kd a) (.int kd b)=some (j7 kd (· &&& ·) a b):=by simp[binf,binI,cmpI]
@[simp] theorem yFH (e:EqK) (kd:IntKind) (a b:Int):binf .or e (.int kd a) (.int kd b)=some (j7 kd (· ||| ·) a b):=by simp[binf,binI,cmpI]
@[simp] theorem yAU (e:EqK) (kd:IntKind) (a b:Int):binf .xor e (.int kd a) (.int kd b)=some (j7 kd (· ^^^ ·) a b):=by simp[binf,binI,cmpI]
@[simp] theorem zNF (e:EqK) (kd:IntKind) (a b:Int):binf .andNot e (.int kd a) (.int kd b)=some (j7 kd (fun x y=>x &&& ~~~y) a b):=by simp[binf,binI,cmpI]
@[simp] theorem yBI (e:EqK) (kd:IntKind) (a b:Int):binf .eql e (.int kd a) (.int kd b)=some (.bool (decide (a=b))):=by simp[binf,binI,cmpI]
@[simp] theorem yBA (e:EqK) (kd:IntKind) (a b:Int):binf .neq e (.int kd a) (.int kd b)=some (.bool (!decide (a=b))):=by simp[binf,binI,cmpI]
@[simp] theorem yBE (e:EqK) (kd:IntKind) (a b:Int):binf .lss e (.int kd a) (.int kd b)=some (.bool (decide (a < b))):=by simp[binf,binI,cmpI]
@[simp] theorem yBF (e:EqK) (kd:IntKind) (a b:Int):binf .leq e (.int kd a) (.int kd b)=some (.bool (decide (a<=b))):=by simp[binf,binI,cmpI]
@[simp] theorem yBG (e:EqK) (kd:IntKind) (a b:Int):binf .gtr e (.int kd a) (.int kd b)=some (.bool (decide (a > b))):=by simp[binf,binI,cmpI]
@[simp] theorem yBH (e:EqK) (kd:IntKind) (a b:Int):binf .geq e (.int kd a) (.int kd b)=some (.bool (decide (a≥b))):=by simp[binf,binI,cmpI]
@[simp] theorem yAX (e:EqK) (kd kd':IntKind) (a b:Int):binf .shl e (.int kd a) (.int kd' b)=if b < 0 then none else some (.int kd (kd.wrap (a*2^(min b.toNat kd.bits)))):=rfl
@[simp] theorem yAW (e:EqK) (kd kd':IntKind) (a b:Int):binf .shr e (.int kd a) (.int kd' b)=if b < 0 then none else some (.int kd (a.fdiv (2^(min b.toNat kd.bits)))):=rfl
@[simp] theorem yBJ (a b:Bool):binf .eql .sc (.bool a) (.bool b)=some (.bool (a==b)):=rfl
@[simp] theorem yBB (a b:Bool):binf .neq .sc (.bool a) (.bool b)=some (.bool (!(a==b))):=rfl
@[simp] theorem yBK (n:Nat) (a b:List AV):binf .eql (.arr n) (.agg a) (.agg b)=if a.length=n/\b.length=n then (yP a b).map .bool else none:=rfl
@[simp] theorem yBC (n:Nat) (a b:List AV):binf .neq (.arr n) (.agg a) (.agg b)=if a.length=n/\b.length=n then (yP a b).map (fun b=> .bool (!b)) else none:=rfl
@[simp] theorem zYN (cs:List AV) (off:Nat) (vs:List AV):putC cs off vs=cs.take off++vs++cs.drop (off+vs.length):=rfl
attribute [simp ↓] zNL aT zHQ zOA dF a9 zHW zEW zAD iB zOB zEJ zEX zHE aS yFO zNU zEK zEM zNX zHM zHL zNQ
attribute [simp ↓] zHV dK zEU dH fG aZ e9 fB zHT zAA dG fF fE a8 zET aU zHU iA aY fC fD a7 dC dB aV fH dA zES zEV
@[simp] theorem yGH (n:Nat):((n:Int) < 0)=False:=by simp
@[simp] theorem zTO (n:Nat):(0<=(n:Int))=True:=by simp
@[simp] theorem zPX (s:St) (z z':Nat) (ys:List AV) (t:Tip):zX s z (.sl z' ys t)=if z'=z then some (ys,[]) else none:=rfl
@[simp] theorem zZF (s:St):kill s []= []:=rfl
@[simp] theorem zUL (s:St) (p:Nat×Nat) (l:List (Nat×Nat)):kill s (p::l)=(p.1,p.2,((s.look p.1 p.2).1,.dead))::kill s l:=rfl
theorem eA:zD=1099511627776:=rfl
theorem zC {C:zL} {own:Md} {Q:St->Prop} {k:List AI} {s:St} {a b:AC} (e:a=b) (h:Rd C own Q (.c b:: .lp a::k) s):Rd C own Q (.lp a::k) s:= .lp (e▸h)
attribute [simp] opf opfO zNJ lN eA optI
attribute [simp] resV uF pC frzL zGH pack aA upds
end Go.Ab
/- Calls that look at objects of the frames below. -/
namespace Go.Ab
open Go
section
variable {C:zL} {own:Md} {Q:St->Prop} {k:List AI} {n D:Nat} {τ:Nat->AV} {ω:Nat->Ent} {S:Nat->Nat->Ent} {l:List AOper} {d:Nat}
theorem yE {f args r args'} {M dl:List (Nat×Nat×Ent)} (h:C (D+1) f args' M r dl) (ha:args.map (fun x=>((stF n D τ ω S).ev x).strip)=args')
  (hM:∀m∈M,m.1<=D/\(m.1=D->m.2.1 < n)/\(stF n D τ ω S).look m.1 m.2.1=m.2.2) (hdl:∀u∈dl,(u.1,u.2.1)∈M.map (fun m=>(m.1,m.2.1))/\u.2.2.2≠ .dead)
  (hk:Rd C own Q (.ops l::k) ((dl.foldl St.up (stF n D τ ω S)).put (some d) r)) (hf:f≠yid:=by decide):Rd C own Q (.ops (⟨some d,.call f args,none⟩::l)::k) (stF n D τ ω S):=by
 refine .opsCall rfl (.call (M:=M) (dl:=dl) (r:=r) hf (by rw[ha];exact h) (fun m hm=> ?_) hdl) ?_
 ·have:=hM m hm;refine ⟨this.1,fun e=> ?_,this.2.2⟩;rw[l3];exact this.2.1 e
 ·simpa[zV] using hk
theorem zY {f args r args'} {M dl:List (Nat×Nat×Ent)} {ps es} (h:C (D+1) f args' M r dl) (ha:args.map (fun x=>((stF n D τ ω S).ev x).strip)=args')
  (hM:∀m∈M,m.1<=D/\(m.1=D->m.2.1 < n)/\(stF n D τ ω S).look m.1 m.2.1=m.2.2) (hdl:∀u∈dl,(u.1,u.2.1)∈M.map (fun m=>(m.1,m.2.1))/\u.2.2.2≠ .dead)
  (hk:Rd C own Q (.dr ps l (es++[{val:=r,ups:=dl,rd:=M.map fun m=>(m.1,m.2.1)}])::k) ((dl.foldl St.up (stF n D τ ω S)).put (some d) r)) (hf:f≠yid:=by decide):Rd C own Q (.dr ps (⟨some d,.call f args,none⟩::l) es::k) (stF n D τ ω S):=by
 refine .drCall rfl (.call (M:=M) (dl:=dl) (r:=r) hf (by rw[ha];exact h) (fun m hm=> ?_) hdl) ?_
 ·have:=hM m hm;refine ⟨this.1,fun e=> ?_,this.2.2⟩;rw[l3];exact this.2.1 e
 ·simpa[zV] using hk
theorem sU (S:Nat->Nat->Ent) (d i:Nat) (e:Ent):updS S d i e d i=e:=by simp[updS]
theorem bP (S:Nat->Nat->Ent) (d i:Nat) (e e':Ent):updS (updS S d i e) d i e'=updS S d i e':=by
 funext a b;simp only[updS];split<;>rfl
attribute [simp] sU bP
end
section
variable {P:Program} {G:Nat->Option (List AV)} {L:xA} {T:FuncId->Option FnC}
def RetM (rs:List RV) (r:AV) (D:Nat) (S:Nat->Nat->Ent) (dl:List (Nat×Nat×Ent)):St->Prop:=fun s'=>resV s' rs=some r/\∀d i,d≠D->s'.S d i=upds S dl d i
@[simp] theorem yFL (rs:List RV) (r:AV) (D:Nat) (S:Nat->Nat->Ent) (dl:List (Nat×Nat×Ent)) (s':St):RetM rs r D S dl s'↔resV s' rs=some r/\∀d i,d≠D->s'.S d i=upds S dl d i:=Iff.rfl
theorem y4 (hm:PGood P) (hT:TOk P G L T) {f n:Nat} {ac:AC} {rs:List RV} {own:Bool} (hc:T f=some ⟨n,ac,rs,own⟩) {args:List AV} {M dl:List (Nat×Nat×Ent)} {r:AV} {D:Nat} (hl:Nat.ble args.length n=true)
  (h:∀S,(∀m∈M,m.1 < D/\S m.1 m.2.1=m.2.2)->Rd (Loc P G) .im (RetM rs r D S dl) [.c ac] (stF n D (uY 0 args) (fun _=>(0,.dead)) S)):Loc P G D f args M r dl:=by
 obtain ⟨fn,code,t1,t2,t3,t4,t5,t6⟩:=hT f _ hc;refine tF (L:=L) hm t1 t2 t3 t4 t5 fun S hS=> ?_;rw[t6,vF _ _ _ _ (yHK hl)];exact (h S hS).run
def RetS (rs:List RV) (r:AV) (D:Nat) (S:Nat->Nat->Ent) (dl:List (Nat×Nat×Ent)):St->Prop:=fun s'=>(resV s' rs).map AV.strip=some r/\∀d i,d≠D->s'.S d i=upds S dl d i
@[simp] theorem yFK (rs:List RV) (r:AV) (D:Nat) (S:Nat->Nat->Ent) (dl:List (Nat×Nat×Ent)) (s':St):RetS rs r D S dl s'↔(resV s' rs).map AV.strip=some r/\∀d i,d≠D->s'.S d i=upds S dl d i:=Iff.rfl
theorem zLM (hm:PGood P) (hT:TOk P G L T) {f n:Nat} {ac:AC} {rs:List RV} {own:Bool} (hc:T f=some ⟨n,ac,rs,own⟩) {args:List AV} {M dl:List (Nat×Nat×Ent)} {r:AV} {D:Nat} (hl:Nat.ble args.length n=true)
  (h:∀S,(∀m∈M,m.1 < D/\S m.1 m.2.1=m.2.2)->Rd (Loc P G) .im (RetS rs r D S dl) [.c ac] (stF n D (uY 0 args) (fun _=>(0,.dead)) S)):Loc P G D f args M r dl:=by
 obtain ⟨fn,code,t1,t2,t3,t4,t5,t6⟩:=hT f _ hc;refine oV (L:=L) hm t1 t2 t3 t4 t5 fun S hS=> ?_;rw[t6,vF _ _ _ _ (yHK hl)];refine ((h S hS).run).imp fun s' h=>⟨?_,h.2⟩;obtain ⟨r',h1,h2⟩:=yHT.1 h.1;exact .inl ⟨r',.inl h1,.inr h2⟩
def RetT (rs:List RV) (r:AV) (D:Nat) (S:Nat->Nat->Ent) (dl:List (Nat×Nat×Ent)):St->Prop:=fun s'=>resT s' rs=some r/\∀d i,d≠D->s'.S d i=upds S dl d i
@[simp] theorem yFJ (rs:List RV) (r:AV) (D:Nat) (S:Nat->Nat->Ent) (dl:List (Nat×Nat×Ent)) (s':St):RetT rs r D S dl s'↔resT s' rs=some r/\∀d i,d≠D->s'.S d i=upds S dl d i:=Iff.rfl
def RetA (rs:List RV) (r:AV) (D:Nat) (S:Nat->Nat->Ent) (dl:List (Nat×Nat×Ent)):St->Prop:=fun s'=>resA s' rs=some r/\∀d i,d≠D->s'.S d i=upds S dl d i
@[simp] theorem yFM (rs:List RV) (r:AV) (D:Nat) (S:Nat->Nat->Ent) (dl:List (Nat×Nat×Ent)) (s':St):RetA rs r D S dl s'↔resA s' rs=some r/\∀d i,d≠D->s'.S d i=upds S dl d i:=Iff.rfl
attribute [simp] resA AV.firm1 AV.keep1
attribute [simp] resT zLB
end
end Go.Ab
/- Appends in free mode,on states that are given by functions. -/
namespace Go.Ab
open Go
section
variable {C:zL} {Q:St->Prop} {k:List AI} {n D:Nat} {τ:Nat->AV} {ω:Nat->Ent} {S:Nat->Nat->Ent} {l:List AOper} {d:Nat} {ps:List (Nat×Nat)} {es:List Eff}
 {z bytes z':Nat} {x y:Opd} {xs ys:List AV} {t:Tip} {r:List (Nat×Nat)}
theorem qM (hx:(stF n D τ ω S).evr x= .sl z' xs t) (hy:zX (stF n D τ ω S) z ((stF n D τ ω S).ev y)=some (ys,r)) (hz:z'=z\/t= .nil) (hb:(xs.length+ys.length)*bytes<=zD) (ht:t= .tip\/t= .nil)
  (hk:Rd C .fr Q (.dr ps l (es++[{val:= .sl z (xs++ys) .tip,dem:=x.tmp,rd:=r}])::k) ((x.tmp.foldl St.demT (stF n D τ ω S)).put (some d) (.sl z (xs++ys) .tip))):Rd C .fr Q (.dr ps (⟨some d,.append z bytes x y,none⟩::l) es::k) (stF n D τ ω S):=by
 refine uZ (e:={val:= .sl z (xs++ys) .tip,dem:=x.tmp,rd:=r}) (.inl ?_) hk;simp only[opf,hx,hy];exact if_pos ⟨hz,hb,ht⟩
theorem lQ {y0:AV} (slot:Nat) (hs:slot < n) (hx:(stF n D τ ω S).evr x= .sl z' [] .nil) (hy:zX (stF n D τ ω S) z ((stF n D τ ω S).ev y)=some (y0::ys,r)) (hok:okEl z (!y0.one) (y0::ys)=true) (hb:(ys.length+1)*bytes<=zD)
  (hk:Rd C .fr Q (.dr ps l (es++[{val:= .own D slot ((ω slot).1+1) 0 (ys.length+1) z (!y0.one),ups:=[(D,slot,((ω slot).1+1,.cells (newC (y0::ys))))],rd:=r}])::k)
   (stF n D (upd τ d (.own D slot ((ω slot).1+1) 0 (ys.length+1) z (!y0.one))) (upd ω slot ((ω slot).1+1,.cells (newC (y0::ys)))) S)):Rd C .fr Q (.dr ps (⟨some d,.append z bytes x y,none⟩::l) es::k) (stF n D τ ω S):=by
 refine uZ (e:={val:= .own D slot ((ω slot).1+1) 0 (ys.length+1) z (!y0.one),ups:=[(D,slot,((ω slot).1+1,.cells (newC (y0::ys))))],rd:=r}) (.inr ⟨some slot,?_⟩) ?_
 ·simp only[opfO,hx,hy,uJ,if_pos hs,nW];exact if_pos ⟨hok,hb⟩
 ·simpa[zV] using hk
theorem zAB {i g len:Nat} {ea:Bool} {cs:List AV} (hi:i < n) (hx:(stF n D τ ω S).evr x= .own D i g 0 len z ea) (hy:zX (stF n D τ ω S) z ((stF n D τ ω S).ev y)=some (ys,r)) (hne:ys≠[]) (hw:ω i=(g,.cells cs)) (hl:len*z<=cs.length) (hok:okEl z ea ys=true) (hb:(len+ys.length)*bytes<=zD)
  (hk:Rd C .fr Q (.dr ps l (es++[{val:= .own D i (g+1) 0 (len+ys.length) z ea,ups:=[(D,i,(g+1,.cells ((cs.take (len*z)).map AV.strip1++newC ys)))],rd:=r}])::k)
   (stF n D (upd τ d (.own D i (g+1) 0 (len+ys.length) z ea)) (upd ω i (g+1,.cells ((cs.take (len*z)).map AV.strip1++newC ys))) S)):Rd C .fr Q (.dr ps (⟨some d,.append z bytes x y,none⟩::l) es::k) (stF n D τ ω S):=by
 refine uZ (e:={val:= .own D i (g+1) 0 (len+ys.length) z ea,ups:=[(D,i,(g+1,.cells ((cs.take (len*z)).map AV.strip1++newC ys)))],rd:=r}) (.inr ⟨none,?_⟩) ?_
 ·obtain ⟨y0,ys',rfl⟩:∃y0 ys',ys=y0::ys':=by
   cases ys with
   | nil=>exact absurd rfl hne
   | cons a b=>exact ⟨a,b,rfl⟩
  simp only[opfO,hx,hy,zS,if_true,if_pos hi,hw,nW];exact if_pos ⟨trivial,trivial,trivial,trivial,hl,hne,hok,hb⟩
 ·simpa[zV] using hk
theorem qN {d' i g off len:Nat} {ea:Bool} (hx:(stF n D τ ω S).evr x= .own d' i g off len z ea) (hy:zX (stF n D τ ω S) z ((stF n D τ ω S).ev y)=some ([],r))
  (hk:Rd C .fr Q (.dr ps l (es++[{val:= .own d' i g off len z ea,rd:=r}])::k) (stF n D (upd τ d (.own d' i g off len z ea)) ω S)):Rd C .fr Q (.dr ps (⟨some d,.append z bytes x y,none⟩::l) es::k) (stF n D τ ω S):=by
 refine uZ (e:={val:= .own d' i g off len z ea,rd:=r}) (.inr ⟨none,?_⟩) ?_
 ·simp only[opfO,hx,hy];exact if_pos trivial
 ·simpa[zV] using hk
theorem lP (hx:(stF n D τ ω S).evr x= .sl z' [] .nil) (hy:zX (stF n D τ ω S) z ((stF n D τ ω S).ev y)=some ([],r))
  (hk:Rd C .fr Q (.dr ps l (es++[{val:= .sl z [] .nil,rd:=r}])::k) (stF n D (upd τ d (.sl z [] .nil)) ω S)):Rd C .fr Q (.dr ps (⟨some d,.append z bytes x y,none⟩::l) es::k) (stF n D τ ω S):=by
 refine uZ (e:={val:= .sl z [] .nil,rd:=r}) (.inr ⟨none,?_⟩) ?_
 ·simp only[opfO,hx,hy]
 ·simpa[zV] using hk
theorem dJ {y0:AV} (slot:Nat) (hs:slot < n) (hx:(stF n D τ ω S).evr x= .sl z' [] .nil) {yv:AV} (hy0:(stF n D τ ω S).ev y=yv) (hy:zX (stF n D τ ω S) z yv=some (y0::ys,r)) (hok:okEl z (!y0.one) (y0::ys)=true) (hb:(ys.length+1)*bytes<=zD)
  (hk:Rd C .fr Q (.dr ps l (es++[{val:= .own D slot ((ω slot).1+1) 0 (ys.length+1) z (!y0.one),ups:=[(D,slot,((ω slot).1+1,.cells (newC (y0::ys))))],rd:=r}])::k)
   (stF n D (upd τ d (.own D slot ((ω slot).1+1) 0 (ys.length+1) z (!y0.one))) (upd ω slot ((ω slot).1+1,.cells (newC (y0::ys)))) S)):Rd C .fr Q (.dr ps (⟨some d,.append z bytes x y,none⟩::l) es::k) (stF n D τ ω S):=lQ slot hs hx (hy0▸hy) hok hb hk
theorem dI {i g len:Nat} {ea:Bool} {cs:List AV} (hi:i < n) (hx:(stF n D τ ω S).evr x= .own D i g 0 len z ea) {yv:AV} (hy0:(stF n D τ ω S).ev y=yv) (hy:zX (stF n D τ ω S) z yv=some (ys,r)) (hne:ys≠[]) (hw:ω i=(g,.cells cs)) (hl:len*z<=cs.length) (hok:okEl z ea ys=true) (hb:(len+ys.length)*bytes<=zD)
  (hk:Rd C .fr Q (.dr ps l (es++[{val:= .own D i (g+1) 0 (len+ys.length) z ea,ups:=[(D,i,(g+1,.cells ((cs.take (len*z)).map AV.strip1++newC ys)))],rd:=r}])::k)
   (stF n D (upd τ d (.own D i (g+1) 0 (len+ys.length) z ea)) (upd ω i (g+1,.cells ((cs.take (len*z)).map AV.strip1++newC ys))) S)):Rd C .fr Q (.dr ps (⟨some d,.append z bytes x y,none⟩::l) es::k) (stF n D τ ω S):=zAB hi hx (hy0▸hy) hne hw hl hok hb hk
theorem nU (hx:(stF n D τ ω S).evr x= .sl z' [] .nil) {yv:AV} (hy0:(stF n D τ ω S).ev y=yv) (hy:zX (stF n D τ ω S) z yv=some ([],r))
  (hk:Rd C .fr Q (.dr ps l (es++[{val:= .sl z [] .nil,rd:=r}])::k) (stF n D (upd τ d (.sl z [] .nil)) ω S)):Rd C .fr Q (.dr ps (⟨some d,.append z bytes x y,none⟩::l) es::k) (stF n D τ ω S):=lP hx (hy0▸hy) hk
theorem sE:∀(m:Nat) (l:List Int),m<=l.length->wJ 1 false m (l.map (AV.int .i64))=(l.take m).map (AV.int .i64)
 | 0,l,_=>by simp[wJ]
 | m+1,[],h=>by simp at h
 | m+1,a::l,h=>by
  rw[wJ];simp only[yHJ,yGX,if_false,List.headD_cons,List.drop_succ_cons,yGY,List.take_succ_cons];rw[sE m l (by simpa using h)]
theorem iU (l:List Int):newC (l.map (AV.int .i64))=l.map (AV.int .i64):=by
 induction l with
 | nil=>rfl
 | cons a l ih=>unfold newC at ih|-;simpa using ih
theorem iS (l:List Int):okEl 1 false (l.map (AV.int .i64))=true:=by simp[okEl]
theorem xE {A g off len:Nat} {l:List Int} (hA:A < n) (hw:ω A=(g,.cells (l.map (AV.int .i64)))) (hl:off+len<=l.length):
  zX (stF n D τ ω S) 1 (.own D A g off len 1 false)=some (((l.drop off).take len).map (AV.int .i64),[(D,A)]):=by
 unfold zX;simp only[if_true,zS,if_pos hA,hw];have h1:(l.map (AV.int .i64)).all (AV.clean 20)=true:=by
  rw[yGT];intro v hv;obtain ⟨i,_,rfl⟩:=yHH.1 hv;rfl
 have h2:(l.map (AV.int .i64)).all AV.one=true:=by
  rw[yGT];intro v hv;obtain ⟨i,_,rfl⟩:=yHH.1 hv;rfl
 rw[if_pos ⟨trivial,by simpa using hl,h1,.inr trivial,h2⟩];have h3:(((l.map (AV.int .i64)).drop off).take (len*1)).map AV.strip1=((l.drop off).take len).map (AV.int .i64):=by
  rw[Nat.mul_one,<-List.map_drop,<-List.map_take,yHX];exact yIG fun i _=>rfl
 rw[h3,sE len _ (by simp;omega),yHB (by simp;omega)]
theorem uC {L:List Int} (slot:Nat) (hs:slot < n) (hx:(stF n D τ ω S).evr x= .sl z' [] .nil) {yv:AV} (hy0:(stF n D τ ω S).ev y=yv) (hy:zX (stF n D τ ω S) 1 yv=some (L.map (AV.int .i64),r)) (hne:L≠[]) (hb:L.length*bytes<=zD)
  (hk:Rd C .fr Q (.dr ps l (es++[{val:= .own D slot ((ω slot).1+1) 0 L.length 1 false,ups:=[(D,slot,((ω slot).1+1,.cells (L.map (AV.int .i64))))],rd:=r}])::k)
   (stF n D (upd τ d (.own D slot ((ω slot).1+1) 0 L.length 1 false)) (upd ω slot ((ω slot).1+1,.cells (L.map (AV.int .i64)))) S)):Rd C .fr Q (.dr ps (⟨some d,.append 1 bytes x y,none⟩::l) es::k) (stF n D τ ω S):=by
 obtain ⟨a,L',rfl⟩:∃a L',L=a::L':=by
  cases L with
  | nil=>exact absurd rfl hne
  | cons a b=>exact ⟨a,b,rfl⟩
 refine dJ (y0:= .int .i64 a) (ys:=L'.map (AV.int .i64)) slot hs hx hy0 hy (iS (a::L')) (by simpa using hb) ?_;have e:=iU (a::L');rw[yHJ] at e;rw[e];simpa using hk
theorem xM {i g:Nat} {L0 L:List Int} (hi:i < n) (hx:(stF n D τ ω S).evr x= .own D i g 0 L0.length 1 false) {yv:AV} (hy0:(stF n D τ ω S).ev y=yv) (hy:zX (stF n D τ ω S) 1 yv=some (L.map (AV.int .i64),r)) (hne:L≠[]) (hw:ω i=(g,.cells (L0.map (AV.int .i64)))) (hb:(L0.length+L.length)*bytes<=zD)
  (hk:Rd C .fr Q (.dr ps l (es++[{val:= .own D i (g+1) 0 (L0.length+L.length) 1 false,ups:=[(D,i,(g+1,.cells ((L0++L).map (AV.int .i64))))],rd:=r}])::k)
   (stF n D (upd τ d (.own D i (g+1) 0 (L0.length+L.length) 1 false)) (upd ω i (g+1,.cells ((L0++L).map (AV.int .i64)))) S)):Rd C .fr Q (.dr ps (⟨some d,.append 1 bytes x y,none⟩::l) es::k) (stF n D τ ω S):=by
 refine dI hi hx hy0 hy (by simpa using hne) hw (by simp) (iS L) (by simpa using hb) ?_;have e:((L0.map (AV.int .i64)).take (L0.length*1)).map AV.strip1++newC (L.map (AV.int .i64))=(L0++L).map (AV.int .i64):=by
  rw[iU,yHB (by simp),List.map_append,yHX];congr 1
 rw[e];simpa using hk
theorem i8 {A g len:Nat} {l:List Int} (m:Nat) (hA:A < n) (hw:ω A=(g,.cells (l.map (AV.int .i64)))) (hl:len<=l.length):
  frz (stF n D τ ω S) (m+2) (.own D A g 0 len 1 false)=some (.sl 1 ((l.take len).map (AV.int .i64)) .no,(D,A)::((l.take len).map fun _=>([]:List (Nat×Nat))).flatten):=by
 rw[frz];have h2:(l.map (AV.int .i64)).all AV.one=true:=by
  rw[yGT];intro v hv;obtain ⟨i,_,rfl⟩:=yHH.1 hv;rfl
 have h3:∀(q:List Int),(q.map (AV.int .i64)).mapM (frz (stF n D τ ω S) (m+1))=some (q.map fun i=>(AV.int .i64 i,([]:List (Nat×Nat)))):=by
  intro q
  induction q with
  | nil=>rfl
  | cons a q ih=>rw[yHJ,yHC,ih];simp[frz]
 simp only[zS,if_true,if_pos hA,hw];rw[if_pos ⟨trivial,rfl,by simpa using hl,.inr trivial,h2⟩];rw[yGY,Nat.mul_one,<-List.map_take,h3];simp only[yHX];congr 2
 ·congr 1;have:=sE len (l.take len) (by simp;omega);rw[yHB (l:=l.take len) (by simp;omega)] at this;rw[<-this];congr 1
end
end Go.Ab
