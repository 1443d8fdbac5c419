/- Law 7 for the arguments of a row. -/
import Derived.Test.YtkjbakmlonpdjaaGreatDoorSolvesH
import Derived.Test.YtkjbakmlonpdjaaGreatDoorSolvesI
import Derived.Test.YtkjbakmlonpdjaaGreatDoorSolvesB4
import Derived.Test.YtkjbakmlonpdjaaGreatDoorCards
import Derived.Test.YtkjbakmlonpdjaaGreatDoorTie
import Derived.LaidLaws
import Derived.Handed
import Derived.SevenTiedAt
namespace Go.Ab.Tab
open Go Go.Ab
set_option maxRecDepth 10000
theorem u33:Pg.underlying 33=some (.slice 40):=by kernel_rfl
theorem z33:Pg.cellsOf 33=1:=by kernel_rfl
theorem g33:isAggT Pg 33=false:=by kernel_rfl
theorem arg33 {a:AV} (h:Arg Pg 33 a):∃l:List (List Int),a= .sl 1 (l.map encI) .no/\l.length<=maxLen/\∀x∈l,x.length<=maxLen:=by
 obtain ⟨fuel,cs,h1,h2,rfl⟩:=h
 obtain ⟨xs,n',rfl,h2,h3⟩:=ty_slice u33 h1
 obtain ⟨l,rfl,hl⟩:=map_exists encI (fun x=>x.length<=maxLen) xs fun x hx=>by
  obtain ⟨c,rfl,hc⟩:=h3 x hx
  obtain ⟨y,rfl,hy⟩:=ty40 hc
  exact ⟨y,mkV_one g40 _,hy⟩
 rw[z40,mkV_one g33]
 exact ⟨l,rfl,by simpa using h2,hl⟩
theorem law7_arg:∀a0 a1 a2,Arg Pg 27 a0->Arg Pg 28 a1->Arg Pg 33 a2->Go.Ab.Loc Pg Gl 0 7 [a0,a1,a2] [] (.bool true) []:=by
 intro a0 a1 a2 h0 h1 h2
 obtain ⟨s,rfl,hs⟩:=arg27' h0
 obtain ⟨l,rfl,hl⟩:=arg28 h1
 obtain ⟨vs,rfl,hv,hx⟩:=arg33 h2
 have h62:maxLen < 2^63:=by simp[maxLen]
 exact law7 spec12 s hs l hl vs (by omega) (fun x h=>by have:=hx x h;omega) 0
end Go.Ab.Tab
namespace Go.Proofs.YtkjbakmlonpdjaaGreatDoor
open Go.ChangeShapes Go.WideShapes Go.ChangeAt Go.RowKit Go.Ab Go.Ab.Tab
theorem Tryz.own:ownKnob Tryz.prog.godebug=none:=by kernel_rfl
theorem Tryz.laidOut:laidOutB Tryz.prog=true:=by kernel_rfl
theorem formsN : Tryz.prog.globalNamed "ectype/functor.forms" = some 0 := by kernel_rfl
theorem formsType:(Tryz.prog.globals[0]?).map (·.type)=some 205:=by kernel_rfl
def ints:List Int:=[0,0,16,0,0,2,0,2,4,1,0,1,0,1,0,1]
theorem flatOk:flatTys Tryz.prog [205,204,3]=true:=by kernel_rfl
theorem glob_ok {W:World} (h:laidMet Tryz.prog Rows.fixSolvesRow.laid W):∀g cs,Gl g=some cs->∀(j:Nat) (c:AV),cs[j]?=some c->∃v,allImm W g j=some v/\RelI (allImm W) c v:=by
 intro g cs hg j c hc
 unfold Gl at hg
 split at hg
 ·rename_i hg0;subst hg0
  injection hg with hg;subst hg
  obtain ⟨ps,⟨g,t,cs,fuel,p,q,hg,ht,hvar,hd,_,_⟩,_⟩:=h
  obtain rfl:=Option.some.inj (formsN.symm.trans hg)
  obtain rfl:=Option.some.inj (formsType.symm.trans ht)
  have hf:=trod_flat flatOk fuel 5 205 cs.toList (ints.map (Value.int .i64)) _ (by simp) hd rfl
  unfold forms at hc
  rw[List.getElem?_map,Option.map_eq_some_iff] at hc
  obtain ⟨n,hn,rfl⟩:=hc
  have hcell:=World.var?_cell hg hvar j
  have hcs:cs[j]?=some (.int .i64 n):=by
   rw[<-Array.getElem?_toList,hf,List.getElem?_map]
   have:ints[j]?=some n:=hn
   rw[this];rfl
  rw[hcs] at hcell
  refine ⟨.int .i64 n,?_,.int _ _⟩
  simp only[allImm]
  have e:W.cell? ⟨0,j,none⟩=some (.int .i64 n):=by simpa using hcell
  simp[e,Value.oneCell']
 ·cases hg
noncomputable def laidWorld (os:Os):World:=
 let w0:=World.holding Tryz.prog os ⟨#[],#[],[]⟩
 {w0 with heap:=w0.heap.modify 0 fun
   | .cells _ t frozen=> .cells (ints.map (Value.int .i64)).toArray t frozen
   | o=>o}
theorem laid_met (os:Os) (args:Array Value):laidMet Tryz.prog Rows.fixSolvesRow.laid ((laidWorld os).forCall (fun _ _=>0) ⟨#[],args,[]⟩).memory:=
 laidMet_of_run' 8 (by kernel_rfl) (by kernel_rfl)
theorem closedOk:closedTys Tryz.prog [27,24,25,102,22,3,40,33,28,71,45,43,4]=true:=by kernel_rfl
theorem below_of {W W':World} (h:Stands W W'):Below W.heap.size W W':=⟨h.os,h.tape,h.output,h.size,h.heap⟩
section
variable {H:Type} {enc:TypeId×Value->H} {P:Program} {w:World} {base:Nat} {spare:Nat->Bool} {held:Bool}
theorem trodAll_n {t0 t1 t2:TypeId} {args:Array Value} {ds:List (DataW H)} {ps:List MemPlace} (h:DataW.TrodAll enc P w base spare held [t0,t1,t2] args.toList ds ps):
  ∃v0 v1 v2 d0 d1 d2 p0 p1 p2,args= #[v0,v1,v2]/\ds= [d0,d1,d2]/\ps=p0++p1++p2/\DataW.Trod enc P w base spare held t0 v0 d0 p0/\DataW.Trod enc P w base spare held t1 v1 d1 p1/\DataW.Trod enc P w base spare held t2 v2 d2 p2:=by
 obtain ⟨v0,vs0,d0,ds0,p0,q0,hargs,rfl,rfl,h0,r0⟩:=trodAll_cons h
 obtain ⟨v1,vs1,d1,ds1,p1,q1,rfl,rfl,rfl,h1,r1⟩:=trodAll_cons r0
 obtain ⟨v2,vs2,d2,ds2,p2,q2,rfl,rfl,rfl,h2,r2⟩:=trodAll_cons r1
 obtain ⟨rfl,rfl,rfl⟩:=trodAll_nil r2
 exact ⟨v0,v1,v2,d0,d1,d2,p0,p1,p2,by cases args;simp_all,rfl,by simp,h0,h1,h2⟩
theorem trodAll_mkn {t0 t1 t2:TypeId} {v0 v1 v2:Value} {d0 d1 d2:DataW H} {p0 p1 p2:List MemPlace} (h0:DataW.Trod enc P w base spare held t0 v0 d0 p0) (h1:DataW.Trod enc P w base spare held t1 v1 d1 p1) (h2:DataW.Trod enc P w base spare held t2 v2 d2 p2):DataW.TrodAll enc P w base spare held [t0,t1,t2] [v0,v1,v2] [d0,d1,d2] (p0++(p1++p2)):=
 ⟨p0,_,h0,⟨p1,_,h1,trodAll_mk1 h2,rfl⟩,rfl⟩
end
set_option maxRecDepth 100000 in
theorem law_lifted (hlaw:∀a0 a1 a2,Arg Tryz.prog 27 a0->Arg Tryz.prog 28 a1->Arg Tryz.prog 33 a2->Go.Ab.Loc Tryz.prog Gl 0 7 [a0,a1,a2] [] (.bool true) [])
  (os:Os) (started:os.Started) (H:Type) (enc:TypeId×Value->H):
  ReturnsInHanded {} Tryz.checked os 7 .any (fun w args=>(Rows.fixSolvesSpec.pre enc Tryz.prog Tryz.f7 Rows.fixSolvesRow.domain false w args/\laidMet Tryz.prog Rows.fixSolvesRow.laid w)/\sizedMet enc Tryz.prog Tryz.f7 (OpenSpec.ofChange Rows.fixSolvesSpec) false w args)
   (Rows.fixSolvesSpec.post enc Tryz.prog Tryz.f7 false true false false):=by
 refine returnsInHanded_of_change_and (C:=Tryz.checked) (X:=fun w _=>laidMet Tryz.prog Rows.fixSolvesRow.laid w) (fun _ _ _ hh h=>h.of_heap hh) Tryz.own started (by kernel_rfl) Tryz.func7
  (ChangeSpec.witness_at (enc:=enc) (C:=Tryz.checked) (os:=os) (X:=fun w _=>laidMet Tryz.prog Rows.fixSolvesRow.laid w) false (laidWorld os) #[.agg #[.int .i64 0,.int .i64 0,.slice none 0 0,.slice none 0 0],.slice none 0 0,.slice none 0 0] 8 rfl (by kernel_rfl) (by kernel_rfl) (by kernel_rfl) (by kernel_rfl) (by kernel_rfl) (laid_met os _)) ?_
 intro W base args ds gs before hval0 hW hcnd0 _ hL _
 have hval:∀(j:Nat) t v,Tryz.f7.params[j]?=some t->args[j]?=some v->Value.okWide Tryz.prog W .any base t v:=hval0
 have hW':=hW
 obtain ⟨p,q,hA0,hV,rfl,hfz,hnd⟩:=hW
 have hA:DataW.TrodAll enc Tryz.prog W 0 (fun _=>true) true Tryz.f7.params.toList args.toList ds p:=hA0
 rw[Tryz.params7] at hA hval
 obtain ⟨v0,v1,v2,d0,d1,d2,p0,p1,p2,rfl,rfl,rfl,h0,h1,h2⟩:=trodAll_n hA
 obtain ⟨rfl,rfl⟩:=trodVars_none hV
 obtain ⟨a0,t0,r0,n0⟩:=arg_rel closedOk (by simp) (hval 0 27 v0 rfl rfl) h0
 obtain ⟨a1,t1,r1,n1⟩:=arg_rel closedOk (by simp) (hval 1 28 v1 rfl rfl) h1
 obtain ⟨a2,t2,r2,n2⟩:=arg_rel closedOk (by simp) (hval 2 33 v2 rfl rfl) h2
 refine (law_calls (hlaw a0 a1 a2 t0 t1 t2) (W:=W) (vs:= #[v0,v1,v2]) rfl (fun i b v hb hv=> ?_) (fun b hb=> ?_) (glob_ok hL)).mono fun e W' ⟨he,hs⟩=> ?_
 ·match i,hb,hv with
  | 0,hb,hv=>simp at hb hv;subst hb;subst hv;exact r0
  | 1,hb,hv=>simp at hb hv;subst hb;subst hv;exact r1
  | 2,hb,hv=>simp at hb hv;subst hb;subst hv;exact r2
  | n+3,hb,hv=>simp at hb
 ·simp at hb
  rcases hb with rfl | rfl | rfl<;>assumption
 subst he
 have hB:=below_of hs
 simp only[List.append_nil] at hW'
 have hlt:∀x∈p0++p1++p2,x.block < W.heap.size:=fun x hx=>by
  have:=hW'.lt x (by simpa using hx)
  simpa using this
 refine ⟨_,rfl,_,_,_,[],(p0++(p1++p2)),[],hW',?_,?_,rfl,hB.frame _,fun h=>by cases h⟩
 ·exact trodAll_mk1 (shut_bool (by kernel_rfl) true)
 ·refine trodAll_mkn (Below.trod Tryz.laidOut (by kernel_rfl) (of_decide_eq_true (by kernel_rfl)) h0 hB fun x hx=>hlt x (by simp[hx])) (Below.trod Tryz.laidOut (by kernel_rfl) (of_decide_eq_true (by kernel_rfl)) h1 hB fun x hx=>hlt x (by simp[hx])) (Below.trod Tryz.laidOut (by kernel_rfl) (of_decide_eq_true (by kernel_rfl)) h2 hB fun x hx=>hlt x (by simp[hx]))
theorem row_holds (hlaw:∀a0 a1 a2,Arg Tryz.prog 27 a0->Arg Tryz.prog 28 a1->Arg Tryz.prog 33 a2->Go.Ab.Loc Tryz.prog Gl 0 7 [a0,a1,a2] [] (.bool true) []):Rows.FixSolvesSaid:=
 OpenClaim.holds_of_wide 7 Tryz.f7 rfl rfl rfl rfl rfl rfl rfl ⟨rfl,rfl,rfl,rfl,rfl⟩ rfl rfl rfl rfl rfl (by kernel_rfl) Tryz.func7 (by kernel_rfl)
  (of_decide_eq_true (by kernel_rfl)) (by unfold Func.isWrapper;first | (rw[if_pos (by decide+kernel)];kernel_rfl) | (rw[if_neg (by decide+kernel)];exact ⟨rfl,rfl⟩))
  (fun os started H enc _=>law_lifted hlaw os started H enc)
theorem card_holds (hlaw:∀a0 a1 a2,Arg Tryz.prog 27 a0->Arg Tryz.prog 28 a1->Arg Tryz.prog 33 a2->Go.Ab.Loc Tryz.prog Gl 0 7 [a0,a1,a2] [] (.bool true) []):Rows.FixSolvesCardSaid:=
 Claim7.holds_tied_plain_at .later [] [.data] true (true,"c1d4ddd4f3cb4e43dffdcf47013e0f9a8dbe1fcf753834db3f30a4dc6b8cde4b") true
  (row_holds hlaw) (fun _ h=>by cases h) (by kernel_rfl) (fun _ h=>by cases h) fixSolves_row_tie rfl ⟨rfl,rfl⟩ (by kernel_rfl) rfl
  (fun f fn hf hfn=>by
   obtain rfl : f = 7 := Option.some.inj ((show Tryz.prog.funcNamed "ectype/ectypelaw09.FixSolves" = some 7 by kernel_rfl).symm.trans hf) |>.symm
   obtain rfl:fn=Tryz.f7:=(Option.some.inj (Tryz.func7.symm.trans hfn)).symm
   exact ⟨by kernel_rfl,fun j t ht=>by
    rw[Tryz.params7] at ht
    have h3:t∈[27,28,33]:=by
     match j,ht with
     | 0,ht=>simp at ht;simp[<-ht]
     | 1,ht=>simp at ht;simp[<-ht]
     | 2,ht=>simp at ht;simp[<-ht]
     | n+3,ht=>simp at ht
    have:([27,28,33].all fun t=>Tryz.prog.wantsStandIn t==false)=true:=by kernel_rfl
    have:=List.all_eq_true.1 this t h3
    have e:Tryz.prog.wantsStandIn t=false:=by simpa using this
    exact e⟩)
  (by kernel_rfl)
theorem solves:Rows.FixSolvesCardSaid:=card_holds law7_arg
end Go.Proofs.YtkjbakmlonpdjaaGreatDoor
