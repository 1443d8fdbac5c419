/- Law 6 for the arguments of a row. -/
import Derived.Test.YtkjbakmlonpdjaaGreatDoorDualsH
import Derived.Test.YtkjbakmlonpdjaaGreatDoorDualsB4
import Derived.Test.YtkjbakmlonpdjaaGreatDoorCards
import Derived.Test.YtkjbakmlonpdjaaGreatDoorTie
import Derived.LaidLaws
import Derived.Handed
import Derived.SevenTiedAt
namespace Go.Ab.Tab
open Go Go.Ab
theorem law6_arg:∀a0 a1,Arg Pg 27 a0→Arg Pg 28 a1→Go.Ab.Loc Pg Gl 0 6 [a0,a1] [] (.bool true) []:=by
 intro a0 a1 h0 h1
 obtain ⟨s,rfl,hs⟩:=arg27' h0
 obtain ⟨l,rfl,hl⟩:=arg28 h1
 exact law6 spec12 s hs l hl 0
end Go.Ab.Tab
namespace Go.Proofs.YtkjbakmlonpdjaaGreatDoor
open Go.ChangeShapes Go.WideShapes Go.ChangeAt Go.RowKit Go.Ab Go.Ab.Tab
theorem Tryz.own:ownKnob Tryz.prog.godebug=none:=by kernel_rfl
theorem Tryz.laidOut:laidOutB Tryz.prog=true:=by kernel_rfl
theorem formsN : Tryz.prog.globalNamed "ectype/functor.forms" = some 0 := by kernel_rfl
theorem formsType:(Tryz.prog.globals[0]?).map (·.type)=some 205:=by kernel_rfl
def ints:List Int:=[0,0,16,0,0,2,0,2,4,1,0,1,0,1,0,1]
theorem flatOk:flatTys Tryz.prog [205,204,3]=true:=by kernel_rfl
theorem glob_ok {W:World} (h:laidMet Tryz.prog Rows.fixDualsRow.laid W):∀g cs,Gl g=some cs→∀(j:Nat) (c:AV),cs[j]?=some c→∃v,allImm W g j=some v∧RelI (allImm W) c v:=by
 intro g cs hg j c hc
 unfold Gl at hg
 split at hg
 ·rename_i hg0;subst hg0
  injection hg with hg;subst hg
  obtain ⟨ps,⟨g,t,cs,fuel,p,q,hg,ht,hvar,hd,_,_⟩,_⟩:=h
  obtain rfl:=Option.some.inj (formsN.symm.trans hg)
  obtain rfl:=Option.some.inj (formsType.symm.trans ht)
  have hf:=trod_flat flatOk fuel 5 205 cs.toList (ints.map (Value.int .i64)) _ (by simp) hd rfl
  unfold forms at hc
  rw[List.getElem?_map,Option.map_eq_some_iff] at hc
  obtain ⟨n,hn,rfl⟩:=hc
  have hcell:=World.var?_cell hg hvar j
  have hcs:cs[j]?=some (.int .i64 n):=by
   rw[←Array.getElem?_toList,hf,List.getElem?_map]
   have:ints[j]?=some n:=hn
   rw[this];rfl
  rw[hcs] at hcell
  refine ⟨.int .i64 n,?_,.int _ _⟩
  simp only[allImm]
  have e:W.cell? ⟨0,j,none⟩=some (.int .i64 n):=by simpa using hcell
  simp[e,Value.oneCell']
 ·cases hg
noncomputable def laidWorld (os:Os):World:=
 let w0:=World.holding Tryz.prog os ⟨#[],#[],[]⟩
 {w0 with heap:=w0.heap.modify 0 fun
   | .cells _ t frozen=> .cells (ints.map (Value.int .i64)).toArray t frozen
   | o=>o}
theorem laid_met (os:Os) (args:Array Value):laidMet Tryz.prog Rows.fixDualsRow.laid ((laidWorld os).forCall (fun _ _=>0) ⟨#[],args,[]⟩).memory:=
 laidMet_of_run' 8 (by kernel_rfl) (by kernel_rfl)
theorem closedOk:closedTys Tryz.prog [27,24,25,102,22,3,40,33,28,71,45,43,4]=true:=by kernel_rfl
theorem below_of {W W':World} (h:Stands W W'):Below W.heap.size W W':=⟨h.os,h.tape,h.output,h.size,h.heap⟩
section
variable {H:Type} {enc:TypeId×Value→H} {P:Program} {w:World} {base:Nat} {spare:Nat→Bool} {held:Bool}
theorem trodAll_n {t0 t1:TypeId} {args:Array Value} {ds:List (DataW H)} {ps:List MemPlace} (h:DataW.TrodAll enc P w base spare held [t0,t1] args.toList ds ps):
  ∃v0 v1 d0 d1 p0 p1,args= #[v0,v1]∧ds= [d0,d1]∧ps=p0++p1∧DataW.Trod enc P w base spare held t0 v0 d0 p0∧DataW.Trod enc P w base spare held t1 v1 d1 p1:=by
 obtain ⟨v0,vs0,d0,ds0,p0,q0,hargs,rfl,rfl,h0,r0⟩:=trodAll_cons h
 obtain ⟨v1,vs1,d1,ds1,p1,q1,rfl,rfl,rfl,h1,r1⟩:=trodAll_cons r0
 obtain ⟨rfl,rfl,rfl⟩:=trodAll_nil r1
 exact ⟨v0,v1,d0,d1,p0,p1,by cases args;simp_all,rfl,by simp,h0,h1⟩
theorem trodAll_mkn {t0 t1:TypeId} {v0 v1:Value} {d0 d1:DataW H} {p0 p1:List MemPlace} (h0:DataW.Trod enc P w base spare held t0 v0 d0 p0) (h1:DataW.Trod enc P w base spare held t1 v1 d1 p1):DataW.TrodAll enc P w base spare held [t0,t1] [v0,v1] [d0,d1] (p0++p1):=
 ⟨p0,_,h0,trodAll_mk1 h1,rfl⟩
end
set_option maxRecDepth 100000 in
theorem law_lifted (hlaw:∀a0 a1,Arg Tryz.prog 27 a0→Arg Tryz.prog 28 a1→Go.Ab.Loc Tryz.prog Gl 0 6 [a0,a1] [] (.bool true) [])
  (os:Os) (started:os.Started) (H:Type) (enc:TypeId×Value→H):
  ReturnsInHanded {} Tryz.checked os 6 .any (fun w args=>(Rows.fixDualsSpec.pre enc Tryz.prog Tryz.f6 Rows.fixDualsRow.domain false w args∧laidMet Tryz.prog Rows.fixDualsRow.laid w)∧sizedMet enc Tryz.prog Tryz.f6 (OpenSpec.ofChange Rows.fixDualsSpec) false w args)
   (Rows.fixDualsSpec.post enc Tryz.prog Tryz.f6 false true false false):=by
 refine returnsInHanded_of_change_and (C:=Tryz.checked) (X:=fun w _=>laidMet Tryz.prog Rows.fixDualsRow.laid w) (fun _ _ _ hh h=>h.of_heap hh) Tryz.own started (by kernel_rfl) Tryz.func6
  (ChangeSpec.witness_at (enc:=enc) (C:=Tryz.checked) (os:=os) (X:=fun w _=>laidMet Tryz.prog Rows.fixDualsRow.laid w) false (laidWorld os) #[.agg #[.int .i64 0,.int .i64 0,.slice none 0 0,.slice none 0 0],.slice none 0 0] 8 rfl (by kernel_rfl) (by kernel_rfl) (by kernel_rfl) (by kernel_rfl) (by kernel_rfl) (laid_met os _)) ?_
 intro W base args ds gs before hval0 hW hcnd0 _ hL _
 have hval:∀(j:Nat) t v,Tryz.f6.params[j]?=some t→args[j]?=some v→Value.okWide Tryz.prog W .any base t v:=hval0
 have hW':=hW
 obtain ⟨p,q,hA0,hV,rfl,hfz,hnd⟩:=hW
 have hA:DataW.TrodAll enc Tryz.prog W 0 (fun _=>true) true Tryz.f6.params.toList args.toList ds p:=hA0
 rw[Tryz.params6] at hA hval
 obtain ⟨v0,v1,d0,d1,p0,p1,rfl,rfl,rfl,h0,h1⟩:=trodAll_n hA
 obtain ⟨rfl,rfl⟩:=trodVars_none hV
 obtain ⟨a0,t0,r0,n0⟩:=arg_rel closedOk (by simp) (hval 0 27 v0 rfl rfl) h0
 obtain ⟨a1,t1,r1,n1⟩:=arg_rel closedOk (by simp) (hval 1 28 v1 rfl rfl) h1
 refine (law_calls (hlaw a0 a1 t0 t1) (W:=W) (vs:= #[v0,v1]) rfl (fun i b v hb hv=> ?_) (fun b hb=> ?_) (glob_ok hL)).mono fun e W' ⟨he,hs⟩=> ?_
 ·match i,hb,hv with
  | 0,hb,hv=>simp at hb hv;subst hb;subst hv;exact r0
  | 1,hb,hv=>simp at hb hv;subst hb;subst hv;exact r1
  | n+2,hb,hv=>simp at hb
 ·simp at hb
  rcases hb with rfl | rfl<;>assumption
 subst he
 have hB:=below_of hs
 simp only[List.append_nil] at hW'
 have hlt:∀x∈p0++p1,x.block < W.heap.size:=fun x hx=>by
  have:=hW'.lt x (by simpa using hx)
  simpa using this
 refine ⟨_,rfl,_,_,_,[],(p0++p1),[],hW',?_,?_,rfl,hB.frame _,fun h=>by cases h⟩
 ·exact trodAll_mk1 (shut_bool (by kernel_rfl) true)
 ·refine trodAll_mkn (Below.trod Tryz.laidOut (by kernel_rfl) (of_decide_eq_true (by kernel_rfl)) h0 hB fun x hx=>hlt x (by simp[hx])) (Below.trod Tryz.laidOut (by kernel_rfl) (of_decide_eq_true (by kernel_rfl)) h1 hB fun x hx=>hlt x (by simp[hx]))
theorem row_holds (hlaw:∀a0 a1,Arg Tryz.prog 27 a0→Arg Tryz.prog 28 a1→Go.Ab.Loc Tryz.prog Gl 0 6 [a0,a1] [] (.bool true) []):Rows.FixDualsSaid:=
 OpenClaim.holds_of_wide 6 Tryz.f6 rfl rfl rfl rfl rfl rfl rfl ⟨rfl,rfl,rfl,rfl,rfl⟩ rfl rfl rfl rfl rfl (by kernel_rfl) Tryz.func6 (by kernel_rfl)
  (of_decide_eq_true (by kernel_rfl)) (by unfold Func.isWrapper;first | (rw[if_pos (by decide+kernel)];kernel_rfl) | (rw[if_neg (by decide+kernel)];exact ⟨rfl,rfl⟩))
  (fun os started H enc _=>law_lifted hlaw os started H enc)
theorem card_holds (hlaw:∀a0 a1,Arg Tryz.prog 27 a0→Arg Tryz.prog 28 a1→Go.Ab.Loc Tryz.prog Gl 0 6 [a0,a1] [] (.bool true) []):Rows.FixDualsCardSaid:=
 Claim7.holds_tied_plain_at .later [] [.data] true (true,"c1d4ddd4f3cb4e43dffdcf47013e0f9a8dbe1fcf753834db3f30a4dc6b8cde4b") true
  (row_holds hlaw) (fun _ h=>by cases h) (by kernel_rfl) (fun _ h=>by cases h) fixDuals_row_tie rfl ⟨rfl,rfl⟩ (by kernel_rfl) rfl
  (fun f fn hf hfn=>by
   obtain rfl : f = 6 := Option.some.inj ((show Tryz.prog.funcNamed "ectype/ectypelaw09.FixDuals" = some 6 by kernel_rfl).symm.trans hf) |>.symm
   obtain rfl:fn=Tryz.f6:=(Option.some.inj (Tryz.func6.symm.trans hfn)).symm
   exact ⟨by kernel_rfl,fun j t ht=>by
    rw[Tryz.params6] at ht
    have h3:t∈[27,28]:=by
     match j,ht with
     | 0,ht=>simp at ht;simp[←ht]
     | 1,ht=>simp at ht;simp[←ht]
     | n+2,ht=>simp at ht
    have:([27,28].all fun t=>Tryz.prog.wantsStandIn t==false)=true:=by kernel_rfl
    have:=List.all_eq_true.1 this t h3
    have e:Tryz.prog.wantsStandIn t=false:=by simpa using this
    exact e⟩)
  (by kernel_rfl)
theorem duals:Rows.FixDualsCardSaid:=card_holds law6_arg
end Go.Proofs.YtkjbakmlonpdjaaGreatDoor
