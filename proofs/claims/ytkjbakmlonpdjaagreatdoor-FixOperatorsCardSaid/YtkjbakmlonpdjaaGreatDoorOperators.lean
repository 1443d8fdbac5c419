/- Law 5 (FixOperators). -/
import Derived.Test.YtkjbakmlonpdjaaGreatDoorOperatorsI
import Derived.Test.YtkjbakmlonpdjaaGreatDoorOperatorsB4
import Derived.Test.YtkjbakmlonpdjaaGreatDoorCards
import Derived.Test.YtkjbakmlonpdjaaGreatDoorTie
import Derived.LaidLaws
import Derived.Handed
import Derived.SevenTiedAt
set_option linter.unusedVariables false
set_option linter.unusedSimpArgs false
set_option maxRecDepth 10000
namespace Go.Ab.Tab
open Go Go.Ab
def sgL (f:Fu) (x:Eqn):List Eqn:=if isL f [x] then [x] else []
def sgE (f:Fu) (x:Eqn):Int:=if isL f [x] then 0 else 2
theorem singR_eq (f:Fu) (x:Eqn):singR f x= .tup [encL (sgL f x),.int .i64 (sgE f x)]:=by
 unfold singR sgL sgE
 cases isL f [x]<;>rfl
theorem isL_one {f:Fu} {x:Eqn} (h:isL f [x]=true):zF x.body<=2000:=by
 unfold isL okE at h
 simp at h
 omega
theorem equal_ok {f:Fu} {x w:Eqn} {fits:Bool} (h1:fits=true->w=x) (h2:fits=false->isL f [x]=false):
  (if fits&&isL f [w] then decide (sgE f x=0)&&(((sgL f x).all fun x=>decide (zF x.body<=2500))&&decide ((sgL f x).length<=20))&&(decide ((sgL f x).length= [w].length)&&eqEs (sgL f x) [w]) else decide (sgE f x=2)&&decide ((sgL f x).length=0))=true:=by
 unfold sgE sgL
 cases fits with
 | false=>rw[h2 rfl];simp
 | true=>
  rw[h1 rfl]
  cases h:isL f [x] with
  | false=>simp
  | true=>
   have:=isL_one h
   have e:eqEs [x] [x]=true:=(eqEs_iff _ _ rfl).2 rfl
   simp[e];omega
theorem fit_sg {f:Fu} {x:Eqn}:fitL (sgL f x):=by
 unfold sgL
 cases h:isL f [x] with
 | false=>exact ⟨by simp[maxLen],by simp⟩
 | true=>exact ⟨by simp[maxLen],fun y hy=>by simp at hy;subst hy;exact fitM_of _ (by have:=isL_one h;unfold maxLen;omega)⟩
section
variable {D:Nat}
theorem law5_j0 (haw:∀D,Go.Ab.Loc Pg Gl D 12 [] [] (.bool true) []) (f:Fu) (hf:zG f=true) (a:Fm) (ha:fitM a) (hv:okVar (fun _=>False) a) (hn:zF a<=2000) (S) (τ ω) (K:List AI)
  (t2:τ 2= .ptr D 2 1 0) (t3:τ 3= .ptr D 3 1 0) (t7:τ 7=encL (sgL f ⟨true,alwM a f⟩)) (t8:τ 8= .int .i64 (sgE f ⟨true,alwM a f⟩)) (t9:τ 9=encL (sgL f ⟨false,posM a f⟩)) (t10:τ 10= .int .i64 (sgE f ⟨false,posM a f⟩))
  (w2:ω 2=(1,.cells (cellsF f))) (w3:ω 3=(1,.cells (yZ a))):Rd (Loc Pg Gl) .im (RetQ [.tmp 4] (.bool true) S) (.c c5_j0::K) (stF 147 D τ ω S):=by
 obtain ⟨g1,g2⟩:=gv_id hv
 have hv1:zF varM=1:=by simp[varM,zF,zV]
 have hv2:zF (notM varM)=2:=by simp[notM,varM,zF,zV]
 have h30:=spec30 (D+1) f hf a (by omega)
 have h31:=spec31 (D+1) f hf a (by omega)
 have fre:∀b,fitM b->fitM (refEv f b):=fun b hb=>by unfold refEv;split;exact fit1 (fit_ev hb f);exact fit0
 have hwA:fitL [refAlw f a]:=⟨by simp[maxLen],fun y hy=>by simp at hy;subst hy;exact fit2 ha (fre _ fit0)⟩
 have hwP:fitL [refPos f a]:=⟨by simp[maxLen],fun y hy=>by simp at hy;subst hy;exact fit1 (fit2 (fit1 ha) (fre _ (fit1 fit0)))⟩
 have h32a:=spec32 (D+1) f hf (sgL f ⟨true,alwM a f⟩) [refAlw f a] fit_sg hwA (sgE f ⟨true,alwM a f⟩) (decide (lvF f<=2000))
 have h32p:=spec32 (D+1) f hf (sgL f ⟨false,posM a f⟩) [refPos f a] fit_sg hwP (sgE f ⟨false,posM a f⟩) (decide (lvF f*2<=2000))
 rw[equal_ok (fun h=>by
   have h:=of_decide_eq_true h
   unfold refAlw refEv alwM
   rw[hv1,Nat.mul_one,if_pos h,g1]) (fun h=>by
   have h:=of_decide_eq_false h
   refine isL_big ?_
   have h1:=lv_ev 1 f hf
   have h2:=ev_nodes varM f hf
   rw[hv1] at h2
   unfold alwM
   simp only[zF,zV,h2];omega)] at h32a
 rw[equal_ok (fun h=>by
   have h:=of_decide_eq_true h
   unfold refPos refEv posM
   rw[hv2,if_pos h,g1]) (fun h=>by
   have h:=of_decide_eq_false h
   refine isL_big ?_
   have h1:=lv_ev 2 f hf
   have h2:=ev_nodes (notM varM) f hf
   rw[hv2] at h2
   unfold posM
   have e3:∀x,zF (notM x)=zF x+1:=fun x=>by simp only[notM,zF,zV];omega
   rw[e3]
   simp only[zF,zV,h2,e3];omega)] at h32p
 have e1:encL [refAlw f a]= .sl 5 [encE (refAlw f a)] .no:=rfl
 have e2:encL [refPos f a]= .sl 5 [encE (refPos f a)] .no:=rfl
 have e3:∀l,encL l= .sl 5 (l.map encE) .no:=fun _=>rfl
 rw[e1,e3] at h32a
 rw[e2,e3] at h32p
 rw[e3] at t7 t9
 generalize encE (refAlw f a)=rA at*
 generalize encE (refPos f a)=rP at*
 simp only[cellsF] at w2
 simp only[yZ] at w3
 unfold c5_j0
 simp[t2,t3,w2,w3]
 refine zE h30 (by simp[zB f,zA a]) ?_
 simp[t2,t3,w2,w3]
 refine zE h31 (by simp[zB f,zA a]) ?_
 simp[t2,t3,t7,t8,w2,w3]
 refine zE h32a (by simp[zB f]) ?_
 simp[t2,t9,t10,w2]
 refine zE h32p (by simp[zB f]) ?_
 simp
 refine zE (haw (D+1)) (by simp) ?_
 simp
theorem law5 (haw:∀D,Go.Ab.Loc Pg Gl D 12 [] [] (.bool true) []) (f:Fu) (hf:fitF f) (a:Fm) (ha:fitM a) (D:Nat):Go.Ab.Loc Pg Gl D 5 [encF f,encM a] [] (.bool true) []:=by
 refine zW zH tok rfl rfl fun S=> ?_
 have h25:=spec25 f hf (D+1) 400 (by omega)
 have h17:=spec17 a ha (D+1) 2500 (by omega)
 have h26:=spec26 (D+1) f hf a
 have h20:=spec20 (D+1) f hf a
 have h21:=spec21 (D+1) f hf a
 have h27:=spec27 f hf (D+1)
 have hz:∀b,Go.Ab.Loc Pg Gl (D+1) 28 [encM (.mk 0 0 0 []),encM b] [] (.bool (eqM (.mk 0 0 0 []) b)) []:=fun b=>spec28 _ fit0 b (D+1)
 have hzz:=hz (.mk 0 0 0 [])
 rw[(eqM_iff _ _).2 rfl] at hzz
 have hw0:IntKind.i64.wrap 0=0:=by rfl
 have e0:encM (.mk 0 0 0 [])= .agg [.int .i64 0,.int .i64 0,.int .i64 0,.sl 4 [] .no]:=by rw[zC];rfl
 have haw1:=haw (D+1)
 unfold c5
 simp[zB f,zA a]
 refine zE h25 (by simp[zB f]) ?_
 by_cases b1:yE f<=400
 rotate_left
 ·simp[b1]
  refine zE haw1 (by simp) ?_
  simp
 simp[b1]
 refine zE h17 (by simp[zA a]) ?_
 by_cases b2:zF a<=2500
 rotate_left
 ·simp[b2]
  refine zE haw1 (by simp) ?_
  simp
 simp[b2]
 by_cases h0:fineN f a=0
 ·obtain ⟨g1,g2⟩:=fine0 h0
  obtain ⟨hv,hn⟩:=isFm_ok g2
  have hfs:=isF_shaped g1
  have h19:=spec19 (D+1) f hfs a ha
  have h29:=spec29 (D+1) f hfs a ha b2
  rw[g1] at h27
  rw[g2] at h19
  unfold everyR at h26
  unfold alwaysR at h20
  unfold possR at h21
  rw[if_pos h0] at h26 h20 h21
  rw[singR_eq] at h20 h21
  have hre:lvF f*zF a<=2000->refEv f a=evyM a f:=fun h=>by unfold refEv evyM;rw[if_pos h,(gv_id hv).1]
  have hbig:¬lvF f*zF a<=2000->isFm f (evyM a f)=false:=fun h=>by
   refine isFm_big ?_
   have h1:=lv_ev (zF a) f hfs
   have h2:=ev_nodes a f hfs
   unfold evyM
   rw[(gv_id hv).1]
   simp only[zF,zV,h2];omega
  have h19e:=spec19 (D+1) f hfs (evyM a f) (fit1 (fit_ev (by rw[(gv_id hv).1];exact ha) f))
  obtain ⟨b,e,hb⟩:∃b e,(if isFm f (evyM a f) then AV.tup [encM (evyM a f),.int .i64 0] else .tup [encM (.mk 0 0 0 []),.int .i64 2])= .tup [encM b,.int .i64 e]/\(isFm f (evyM a f)=true->b=evyM a f/\e=0)/\(isFm f (evyM a f)=false->b= .mk 0 0 0 []/\e=2):=by
   cases isFm f (evyM a f)
   ·exact ⟨_,_,rfl,by simp,by simp⟩
   ·exact ⟨_,_,rfl,by simp,by simp⟩
  obtain ⟨hb,hb1,hb2⟩:=hb
  rw[hb,zA b] at h26
  have el:∀l,encL l= .sl 5 (l.map encE) .no:=fun _=>rfl
  rw[el] at h20 h21
  refine zE h26 (by simp[zB f,zA a]) ?_
  simp
  refine zE h20 (by simp[zB f,zA a]) ?_
  simp
  refine zE h21 (by simp[zB f,zA a]) ?_
  simp
  refine zE h27 (by simp[zB f]) ?_
  simp
  refine zE h19 (by simp[zB f,zA a]) ?_
  simp[c5_j1]
  by_cases hok:lvF f*zF a<=2000
  ·rw[hre hok] at h29
   rw[decide_eq_true hok,zA (evyM a f)] at h29
   refine zE h29 (by simp[zB f,zA a]) ?_
   simp
   refine zE h19e (by simp[zB f,zA (evyM a f)]) ?_
   cases hx:isFm f (evyM a f) with
   | true=>
    obtain ⟨rfl,rfl⟩:=hb1 hx
    have hnn:=(isFm_ok hx).2
    have hfit:fitM (evyM a f):=fitM_of _ (by unfold maxLen;omega)
    have h17e:=spec17 (evyM a f) hfit (D+1) 2500 (by omega)
    have h28e:=spec28 (evyM a f) hfit (evyM a f) (D+1)
    rw[(eqM_iff _ _).2 rfl] at h28e
    have hd:zF (evyM a f)<=2500:=by omega
    simp
    refine zE h17e (by simp[zA (evyM a f)]) ?_
    simp[hd]
    refine zE h28e (by simp[zA (evyM a f)]) ?_
    simp
    refine law5_j0 haw f hfs a ha hv hn S _ _ _ ?_ ?_ ?_ ?_ ?_ ?_ ?_ ?_<;>simp[el,cellsF,yZ]
   | false=>
    obtain ⟨rfl,rfl⟩:=hb2 hx
    simp
    refine zE hzz (by simp[e0,Fm.o,Fm.n,Fm.m,Fm.ar]) ?_
    simp
    refine law5_j0 haw f hfs a ha hv hn S _ _ _ ?_ ?_ ?_ ?_ ?_ ?_ ?_ ?_<;>simp[el,cellsF,yZ]
  ·obtain ⟨rfl,rfl⟩:=hb2 (hbig hok)
   rw[decide_eq_false hok,zA (refEv f a)] at h29
   refine zE h29 (by simp[zB f,zA a]) ?_
   simp
   refine zE hzz (by simp[e0,Fm.o,Fm.n,Fm.m,Fm.ar]) ?_
   simp
   refine law5_j0 haw f hfs a ha hv hn S _ _ _ ?_ ?_ ?_ ?_ ?_ ?_ ?_ ?_<;>simp[el,cellsF,yZ]
 ·unfold everyR at h26
  unfold alwaysR at h20
  unfold possR at h21
  rw[if_neg h0] at h26 h20 h21
  rw[zC] at h26
  have hd:decide (fineN f a=0)=false:=decide_eq_false h0
  have hz2:decide ((0:Int)=fineN f a)=false:=decide_eq_false fun e=>h0 e.symm
  refine zE h26 (by simp[zB f,zA a]) ?_
  simp
  refine zE h20 (by simp[zB f,zA a]) ?_
  simp
  refine zE h21 (by simp[zB f,zA a]) ?_
  simp
  refine zE h27 (by simp[zB f]) ?_
  have hfn:fineN f a=if isF f then (if isFm f a then 0 else 70) else 10:=rfl
  cases g1:isF f with
  | false=>
   rw[g1] at hfn
   simp at hfn
   simp[c5_j1,hfn,hw0]
   refine zE hzz (by simp[e0]) ?_
   simp[hw0]
   refine zE haw1 (by simp) ?_
   simp
  | true=>
   have h19:=spec19 (D+1) f (isF_shaped g1) a ha
   rw[g1] at hfn
   simp
   refine zE h19 (by simp[zB f,zA a]) ?_
   cases g2:isFm f a with
   | true=>rw[g2] at hfn;exact absurd hfn h0
   | false=>
    rw[g2] at hfn
    simp at hfn
    simp[c5_j1,hfn,hw0]
    refine zE hzz (by simp[e0]) ?_
    simp[hw0]
    refine zE haw1 (by simp) ?_
    simp
theorem law5_arg:∀a0 a1,Arg Pg 24 a0->Arg Pg 45 a1->Go.Ab.Loc Pg Gl 0 5 [a0,a1] [] (.bool true) []:=by
 intro a0 a1 h0 h1
 obtain ⟨f,rfl,hf⟩:=arg24 h0
 obtain ⟨a,rfl,ha⟩:=arg45 h1
 exact law5 spec12 f hf a ha 0
end
end Go.Ab.Tab
namespace Go.Proofs.YtkjbakmlonpdjaaGreatDoor
open Go.ChangeShapes Go.WideShapes Go.ChangeAt Go.RowKit Go.Ab Go.Ab.Tab
theorem Tryz.own:ownKnob Tryz.prog.godebug=none:=by kernel_rfl
theorem Tryz.laidOut:laidOutB Tryz.prog=true:=by kernel_rfl
theorem formsN : Tryz.prog.globalNamed "ectype/functor.forms" = some 0 := by kernel_rfl
theorem formsType:(Tryz.prog.globals[0]?).map (·.type)=some 205:=by kernel_rfl
def ints:List Int:=[0,0,16,0,0,2,0,2,4,1,0,1,0,1,0,1]
theorem flatOk:flatTys Tryz.prog [205,204,3]=true:=by kernel_rfl
theorem glob_ok {W:World} (h:laidMet Tryz.prog Rows.fixOperatorsRow.laid W):∀g cs,Gl g=some cs->∀(j:Nat) (c:AV),cs[j]?=some c->∃v,allImm W g j=some v/\RelI (allImm W) c v:=by
 intro g cs hg j c hc
 unfold Gl at hg
 split at hg
 ·rename_i hg0;subst hg0
  injection hg with hg;subst hg
  obtain ⟨ps,⟨g,t,cs,fuel,p,q,hg,ht,hvar,hd,_,_⟩,_⟩:=h
  obtain rfl:=Option.some.inj (formsN.symm.trans hg)
  obtain rfl:=Option.some.inj (formsType.symm.trans ht)
  have hf:=trod_flat flatOk fuel 5 205 cs.toList (ints.map (Value.int .i64)) _ (by simp) hd rfl
  unfold forms at hc
  rw[List.getElem?_map,Option.map_eq_some_iff] at hc
  obtain ⟨n,hn,rfl⟩:=hc
  have hcell:=World.var?_cell hg hvar j
  have hcs:cs[j]?=some (.int .i64 n):=by
   rw[<-Array.getElem?_toList,hf,List.getElem?_map]
   have:ints[j]?=some n:=hn
   rw[this];rfl
  rw[hcs] at hcell
  refine ⟨.int .i64 n,?_,.int _ _⟩
  simp only[allImm]
  have e:W.cell? ⟨0,j,none⟩=some (.int .i64 n):=by simpa using hcell
  simp[e,Value.oneCell']
 ·cases hg
noncomputable def laidWorld (os:Os):World:=
 let w0:=World.holding Tryz.prog os ⟨#[],#[],[]⟩
 {w0 with heap:=w0.heap.modify 0 fun
   | .cells _ t frozen=> .cells (ints.map (Value.int .i64)).toArray t frozen
   | o=>o}
theorem laid_met (os:Os) (args:Array Value):laidMet Tryz.prog Rows.fixOperatorsRow.laid ((laidWorld os).forCall (fun _ _=>0) ⟨#[],args,[]⟩).memory:=
 laidMet_of_run' 8 (by kernel_rfl) (by kernel_rfl)
theorem closedOk:closedTys Tryz.prog [27,24,25,102,22,3,40,33,28,71,45,43,4]=true:=by kernel_rfl
theorem below_of {W W':World} (h:Stands W W'):Below W.heap.size W W':=⟨h.os,h.tape,h.output,h.size,h.heap⟩
section
variable {H:Type} {enc:TypeId×Value->H} {P:Program} {w:World} {base:Nat} {spare:Nat->Bool} {held:Bool}
theorem trodAll_n {t0 t1:TypeId} {args:Array Value} {ds:List (DataW H)} {ps:List MemPlace} (h:DataW.TrodAll enc P w base spare held [t0,t1] args.toList ds ps):
  ∃v0 v1 d0 d1 p0 p1,args= #[v0,v1]/\ds= [d0,d1]/\ps=p0++p1/\DataW.Trod enc P w base spare held t0 v0 d0 p0/\DataW.Trod enc P w base spare held t1 v1 d1 p1:=by
 obtain ⟨v0,vs0,d0,ds0,p0,q0,hargs,rfl,rfl,h0,r0⟩:=trodAll_cons h
 obtain ⟨v1,vs1,d1,ds1,p1,q1,rfl,rfl,rfl,h1,r1⟩:=trodAll_cons r0
 obtain ⟨rfl,rfl,rfl⟩:=trodAll_nil r1
 exact ⟨v0,v1,d0,d1,p0,p1,by cases args;simp_all,rfl,by simp,h0,h1⟩
theorem trodAll_mkn {t0 t1:TypeId} {v0 v1:Value} {d0 d1:DataW H} {p0 p1:List MemPlace} (h0:DataW.Trod enc P w base spare held t0 v0 d0 p0) (h1:DataW.Trod enc P w base spare held t1 v1 d1 p1):DataW.TrodAll enc P w base spare held [t0,t1] [v0,v1] [d0,d1] (p0++p1):=
 ⟨p0,_,h0,trodAll_mk1 h1,rfl⟩
end
set_option maxRecDepth 100000 in
theorem law_lifted (hlaw:∀a0 a1,Arg Tryz.prog 24 a0->Arg Tryz.prog 45 a1->Go.Ab.Loc Tryz.prog Gl 0 5 [a0,a1] [] (.bool true) [])
  (os:Os) (started:os.Started) (H:Type) (enc:TypeId×Value->H):
  ReturnsInHanded {} Tryz.checked os 5 .any (fun w args=>(Rows.fixOperatorsSpec.pre enc Tryz.prog Tryz.f5 Rows.fixOperatorsRow.domain false w args/\laidMet Tryz.prog Rows.fixOperatorsRow.laid w)/\sizedMet enc Tryz.prog Tryz.f5 (OpenSpec.ofChange Rows.fixOperatorsSpec) false w args)
   (Rows.fixOperatorsSpec.post enc Tryz.prog Tryz.f5 false true false false):=by
 refine returnsInHanded_of_change_and (C:=Tryz.checked) (X:=fun w _=>laidMet Tryz.prog Rows.fixOperatorsRow.laid w) (fun _ _ _ hh h=>h.of_heap hh) Tryz.own started (by kernel_rfl) Tryz.func5
  (ChangeSpec.witness_at (enc:=enc) (C:=Tryz.checked) (os:=os) (X:=fun w _=>laidMet Tryz.prog Rows.fixOperatorsRow.laid w) false (laidWorld os) #[.agg #[.int .i64 0,.int .i64 0,.slice none 0 0],.agg #[.int .i64 0,.int .i64 0,.int .i64 0,.slice none 0 0]] 8 rfl (by kernel_rfl) (by kernel_rfl) (by kernel_rfl) (by kernel_rfl) (by kernel_rfl) (laid_met os _)) ?_
 intro W base args ds gs before hval0 hW hcnd0 _ hL _
 have hval:∀(j:Nat) t v,Tryz.f5.params[j]?=some t->args[j]?=some v->Value.okWide Tryz.prog W .any base t v:=hval0
 have hW':=hW
 obtain ⟨p,q,hA0,hV,rfl,hfz,hnd⟩:=hW
 have hA:DataW.TrodAll enc Tryz.prog W 0 (fun _=>true) true Tryz.f5.params.toList args.toList ds p:=hA0
 rw[Tryz.params5] at hA hval
 obtain ⟨v0,v1,d0,d1,p0,p1,rfl,rfl,rfl,h0,h1⟩:=trodAll_n hA
 obtain ⟨rfl,rfl⟩:=trodVars_none hV
 obtain ⟨a0,t0,r0,n0⟩:=arg_rel closedOk (by simp) (hval 0 24 v0 rfl rfl) h0
 obtain ⟨a1,t1,r1,n1⟩:=arg_rel closedOk (by simp) (hval 1 45 v1 rfl rfl) h1
 refine (law_calls (hlaw a0 a1 t0 t1) (W:=W) (vs:= #[v0,v1]) rfl (fun i b v hb hv=> ?_) (fun b hb=> ?_) (glob_ok hL)).mono fun e W' ⟨he,hs⟩=> ?_
 ·match i,hb,hv with
  | 0,hb,hv=>simp at hb hv;subst hb;subst hv;exact r0
  | 1,hb,hv=>simp at hb hv;subst hb;subst hv;exact r1
  | n+2,hb,hv=>simp at hb
 ·simp at hb
  rcases hb with rfl | rfl<;>assumption
 subst he
 have hB:=below_of hs
 simp only[List.append_nil] at hW'
 have hlt:∀x∈p0++p1,x.block < W.heap.size:=fun x hx=>by
  have:=hW'.lt x (by simpa using hx)
  simpa using this
 refine ⟨_,rfl,_,_,_,[],(p0++p1),[],hW',?_,?_,rfl,hB.frame _,fun h=>by cases h⟩
 ·exact trodAll_mk1 (shut_bool (by kernel_rfl) true)
 ·refine trodAll_mkn (Below.trod Tryz.laidOut (by kernel_rfl) (of_decide_eq_true (by kernel_rfl)) h0 hB fun x hx=>hlt x (by simp[hx])) (Below.trod Tryz.laidOut (by kernel_rfl) (of_decide_eq_true (by kernel_rfl)) h1 hB fun x hx=>hlt x (by simp[hx]))
theorem row_holds (hlaw:∀a0 a1,Arg Tryz.prog 24 a0->Arg Tryz.prog 45 a1->Go.Ab.Loc Tryz.prog Gl 0 5 [a0,a1] [] (.bool true) []):Rows.FixOperatorsSaid:=
 OpenClaim.holds_of_wide 5 Tryz.f5 rfl rfl rfl rfl rfl rfl rfl ⟨rfl,rfl,rfl,rfl,rfl⟩ rfl rfl rfl rfl rfl (by kernel_rfl) Tryz.func5 (by kernel_rfl)
  (of_decide_eq_true (by kernel_rfl)) (by unfold Func.isWrapper;first | (rw[if_pos (by decide+kernel)];kernel_rfl) | (rw[if_neg (by decide+kernel)];exact ⟨rfl,rfl⟩))
  (fun os started H enc _=>law_lifted hlaw os started H enc)
theorem card_holds (hlaw:∀a0 a1,Arg Tryz.prog 24 a0->Arg Tryz.prog 45 a1->Go.Ab.Loc Tryz.prog Gl 0 5 [a0,a1] [] (.bool true) []):Rows.FixOperatorsCardSaid:=
 Claim7.holds_tied_plain_at .later [] [.data] true (true,"c1d4ddd4f3cb4e43dffdcf47013e0f9a8dbe1fcf753834db3f30a4dc6b8cde4b") true
  (row_holds hlaw) (fun _ h=>by cases h) (by kernel_rfl) (fun _ h=>by cases h) fixOperators_row_tie rfl ⟨rfl,rfl⟩ (by kernel_rfl) rfl
  (fun f fn hf hfn=>by
   obtain rfl : f = 5 := Option.some.inj ((show Tryz.prog.funcNamed "ectype/ectypelaw09.FixOperators" = some 5 by kernel_rfl).symm.trans hf) |>.symm
   obtain rfl:fn=Tryz.f5:=(Option.some.inj (Tryz.func5.symm.trans hfn)).symm
   exact ⟨by kernel_rfl,fun j t ht=>by
    rw[Tryz.params5] at ht
    have h3:t∈[24,45]:=by
     match j,ht with
     | 0,ht=>simp at ht;simp[<-ht]
     | 1,ht=>simp at ht;simp[<-ht]
     | n+2,ht=>simp at ht
    have:([24,45].all fun t=>Tryz.prog.wantsStandIn t==false)=true:=by kernel_rfl
    have:=List.all_eq_true.1 this t h3
    have e:Tryz.prog.wantsStandIn t=false:=by simpa using this
    exact e⟩)
  (by kernel_rfl)
theorem operators:Rows.FixOperatorsCardSaid:=card_holds law5_arg
end Go.Proofs.YtkjbakmlonpdjaaGreatDoor
