/- Law 9 (FixRounds): the walk. -/
import Derived.Test.YtkjbakmlonpdjaaGreatDoorRoundsJ
import Derived.Test.YtkjbakmlonpdjaaGreatDoorRoundsB4
import Derived.Test.YtkjbakmlonpdjaaGreatDoorCards
import Derived.Test.YtkjbakmlonpdjaaGreatDoorTie
import Derived.LaidLaws
import Derived.Handed
import Derived.SevenTiedAt
open Array renaming getElem?_toList->yOG
open Bool renaming and_eq_true->yOC
open List renaming range->yOB, all_eq_true->yOD, getElem?_map->yOE
open Option renaming map_eq_some_iff->yOF
set_option linter.unusedVariables false
set_option linter.unusedSimpArgs false
set_option maxRecDepth 10000
namespace Go.Ab.Tab
open Go Go.Ab
section
variable {D:Nat}
theorem l9_2 (haw:∀D,Go.Ab.Loc Pg Gl D 12 [] [] (.bool true) []) (s:Sy) (a:List Fm) (L:List (List Int)) (hL:L.length=a.length) (hal:a.length<=1000) (hLl:∀x∈L,x.length<=1000) (hcall:∀i (h:i < a.length) (h':i < L.length),∀D,Go.Ab.Loc Pg Gl D 43 [encY s,encM a[i]] [] (.tup [encI L[i],.int .i64 0]) []) (S):∀(j i:Nat) (τ ω),i+j=a.length->τ 2= .ptr D 2 1 0->ω 2=(1,.cells [.int .i64 s.f.k,.int .i64 s.f.n,.sl 3 (s.f.gs.map encF) .no,.sl 3 (s.m.map encV) .no])->τ 9= .sl 1 (L.map encI) .no->τ 95= .sl 4 (a.map encM) .no->τ 96= .int .i64 a.length->τ 97= .int .i64 i->
  Rd (Loc Pg Gl) .im (RetQ [.tmp 4] (.bool true) S) [.lp c9_l2,.blk 2,.c zVB] (stF 139 D τ ω S):=by
 have haw1:=haw (D+1);intro j
 induction j with
 | zero=>
  intro i τ ω hi t2 w2 t9 t95 t96 t97;refine zN c9_l2.eq_1 ?_;obtain rfl:i=a.length:=by omega
  simp[t96,t97,zVB];refine zE haw1 (by simp) ?_;simp
 | succ j ih=>
  intro i τ ω hi t2 w2 t9 t95 t96 t97;refine zN c9_l2.eq_1 ?_;have hlt:i < a.length:=by omega
  have hltL:i < L.length:=by omega
  have hwr:=wN i (by omega);have h43:=hcall i hlt hltL (D+1);have hxl:=hLl _ (List.getElem_mem hltL);generalize hge:a[i]=b at*;simp[encY,encI] at h43;simp[t2,w2,t95,t96,t97,hlt,hge,zA b];refine zE h43 (by simp[zA b]) ?_;simp[t9,hltL,encI];refine l9_1 (L:=L) (i:=i) hltL (x:=L[i]) rfl (by omega) (upd ω 12 ((ω 12).1+1,.cells (oQ b))) (upd (upd τ 11 (.int .i64 i)) 97 (.int .i64 i)) (by simp[t9]) (by simp) (fun τ' hτ'=> ?_) L[i].length 0 _ (by omega) (fun q hq=> ?_) ?_ ?_ ?_
  ·have v2:=hτ' 2 (by omega);have v9:=hτ' 9 (by omega);have v95:=hτ' 95 (by omega);have v96:=hτ' 96 (by omega);have v97:=hτ' 97 (by omega);simp at v2 v9 v95 v96 v97;simp[yEF,v97,hwr];refine ih (i+1) _ _ (by omega) ?_ ?_ ?_ ?_ ?_ ?_;all_goals simp[v2,v9,v95,v96,t2,w2,t9,t95,t96]
  ·by_cases h11:q=11
   ·subst h11;simp
   by_cases h97:q=97
   ·subst h97;simp[t97]
   simp only[upd];repeat rw[yRN (by omega)]
  all_goals simp
theorem law9 (haw:∀D,Go.Ab.Loc Pg Gl D 12 [] [] (.bool true) []) (s:Sy) (hs:fitY s) (l:List Eqn) (hl:fitL l) (D:Nat):Go.Ab.Loc Pg Gl D 9 [encY s,encL l] [] (.bool true) []:=by
 refine zP zF tok rfl rfl fun S=> ?_;have haw1:=haw (D+1);have h10:=yBN s hs l hl (D+1) 200 (by omega);have el:∀l,encL l= .sl 5 (l.map encE) .no:=fun _=>rfl;unfold c9;simp[encY,el] at h10|-;refine zE h10 (by simp) ?_;cases hlook:zMY 200 s l with
 | false=>
  simp;refine zE haw1 (by simp) ?_;simp
 | true=>
 have hb:zI s.m<=400:=by
  unfold zMY fewY at hlook;simp only[yOC] at hlook;have:=zCT (n:=400) (l:=s.m) (t:=0) (by omega) hlook.1.2.2;omega
 have h11:=yBM s hs (by omega) l hl (D+1);simp[encY,el] at h11|-;refine zE h11 (by simp) ?_;by_cases hf:uX s l=0
 rotate_left
 ·simp[hf];refine zE haw1 (by simp) ?_;simp
 simp[hf];by_cases h8:(8:Int) < s.m.length
 ·simp[h8];refine zE haw1 (by simp) ?_;simp
 obtain ⟨hy,hll⟩:isY s=true/\isL s.f l=true:=by
  unfold uX at hf;cases h1:isY s<;>cases h2:isL s.f l<;>simp[h1,h2] at hf|-
 obtain ⟨y1,y2,y3⟩:=zCB hy;obtain ⟨l1,l2,l3⟩:=zCD hll;have hisF:isF s.f=true:=by
  unfold isY at hy;simp only[yOC] at hy;exact hy.1
 have hask:oS s.f l=0:=by unfold oS;rw[yRO hisF,yRO hll]
 have hkk:(s.m.length:Int)*(l.length:Int)=((s.m.length*l.length:Nat):Int):=by simp
 have hk32:s.m.length*l.length<=8*4:=Nat.mul_le_mul (by omega) l2;have hwk:IntKind.i64.wrap ((s.m.length:Int)*(l.length:Int))=((s.m.length*l.length:Nat):Int):=by rw[hkk];exact vE (by omega) (by omega)
 have h39:=yBE (D+1) s.f hs.1 l hl ((s.m.length*l.length:Nat):Int);have h13:=zHG s hs (by omega) l hl (D+1);unfold rndA at h39;unfold solR at h13;rw[yRO hask,yRN (by omega),Int.toNat_natCast] at h39;rw[yRO hf] at h13;have hnx:∀v∈s.m,valN s.m.length v s.f=true:=fun v hv=>(y3 v hv).1;simp[h8];refine l9_0 haw l (l[0]'(by omega)).gr (fun _=>rfl) (by omega) (.ptr D 2 1 0) _ (fun hgr τ ω t1 t2 w2=> ?_) l.length 0 _ _ (by omega) (by simp) ?_ ?_ rfl ?_ ?_ ?_
 ·unfold rndR at h39;generalize hK:s.m.length*l.length=kk at*;have hsol:∀i,i < l.length->evS s.m [] (rndM l kk i)=solS s l i:=fun i hi=>by
   rw[zHX (f:=s.f) (nx:=s.m) hgr l2 l3 (vI s.m.length l l.length) [] kk i hi,<-hK];exact zEF y1 hnx hgr l3 (rT s l _) i hi
  by_cases hall:(yOB l.length).all (fun i=>isFm s.f (rndM l kk i))=true
  ·rw[yRO hall] at h39;have hfm:∀i,i < l.length->isFm s.f (rndM l kk i)=true:=fun i hi=>yOD.1 hall i (List.mem_range.2 hi);obtain ⟨a,ha⟩:∃a,a=(yOB l.length).map (rndM l kk):=⟨_,rfl⟩;obtain ⟨Ls,hLs⟩:∃Ls,Ls=(yOB l.length).map fun i=>toZ (uY (solS s l i) s.m.length):=⟨_,rfl⟩;have ea:((yOB l.length).map fun i=>encM (rndM l kk i))=a.map encM:=by rw[ha,List.map_map];rfl
   have eL:((yOB l.length).map fun i=>nJ s.m.length (solS s l i))=Ls.map encI:=by
    rw[hLs,List.map_map];refine List.map_congr_left fun i _=> ?_
    show nJ s.m.length (solS s l i)=encI (toZ (uY (solS s l i) s.m.length))
    rw[<-zGH];rfl
   have hal:a.length=l.length:=by rw[ha];simp
   have hLl:Ls.length=l.length:=by rw[hLs];simp
   have key:=l9_2 (D:=D) haw s a Ls (by omega) (by omega) (fun x hx=>by
    rw[hLs] at hx;obtain ⟨i,_,rfl⟩:=List.mem_map.1 hx;rw[zQZ];have:(uY (solS s l i) s.m.length).length<=s.m.length:=by unfold uY;exact Nat.le_trans (List.length_filter_le _ _) (by simp)
    omega) (fun i h h' D'=>by
    have hi:i < l.length:=by omega
    have e1:a[i]=rndM l kk i:=by simp[ha]
    have e2:Ls[i]=toZ (uY (solS s l i) s.m.length):=by simp[hLs]
    have hf1:=hfm i hi;unfold isFm at hf1;simp only[yOC,yRP] at hf1;rw[e1,e2,<-hsol i hi];exact yBD hs (by omega) hy hf1.1.1 hf1.1.2 hf1.2 D') S a.length 0
   rw[ea] at h39;rw[eL] at h13;clear hsol hfm hall ea eL ha hLs;unfold zVA;simp[zB s.f,encY,el] at h39 h13;simp[t1,t2,w2,hwk];refine zE h39 (by simp[zB s.f]) ?_;simp[t1,t2,w2];refine zE h13 (by simp) ?_;simp[t1,hal,hLl];refine key _ _ (by omega) ?_ ?_ ?_ ?_ ?_ ?_;all_goals simp[t2,w2,hal]
  ·rw[yRN hall] at h39;unfold zVA;simp[zB s.f,encY,el] at h39 h13;simp[t1,t2,w2,hwk];refine zE h39 (by simp[zB s.f]) ?_;simp[t1,t2,w2];refine zE h13 (by simp) ?_;simp;refine zE haw1 (by simp) ?_;simp
 all_goals simp
theorem law9_arg:∀a0 a1,Arg Pg 27 a0->Arg Pg 28 a1->Go.Ab.Loc Pg Gl 0 9 [a0,a1] [] (.bool true) []:=by
 intro a0 a1 h0 h1;obtain ⟨s,rfl,hs⟩:=yEI h0;obtain ⟨l,rfl,hl⟩:=yMR h1;exact law9 yBL s hs l hl 0
end
end Go.Ab.Tab
namespace Go.Proofs.YtkjbakmlonpdjaaGreatDoor
open Go.ChangeShapes Go.WideShapes Go.ChangeAt Go.RowKit Go.Ab Go.Ab.Tab
theorem Tryz.own:ownKnob Tryz.prog.godebug=none:=by kernel_rfl
theorem Tryz.laidOut:laidOutB Tryz.prog=true:=by kernel_rfl
theorem formsN : Tryz.prog.globalNamed "ectype/functor.forms" = some 0 := by kernel_rfl
theorem formsType:(Tryz.prog.globals[0]?).map (·.type)=some 205:=by kernel_rfl
def ints:List Int:=[0,0,16,0,0,2,0,2,4,1,0,1,0,1,0,1]
theorem rulesN : Tryz.prog.globalNamed "ectype/logic.rules" = some 1 := by kernel_rfl
theorem rulesType:(Tryz.prog.globals[1]?).map (·.type)=some 213:=by kernel_rfl
def rvals:List Value:=[.string ⟨#[116,111,112]⟩,.int .i64 (-1),.int .i64 0,.string ⟨#[110,111,116]⟩,.int .i64 (-1),.int .i64 1,.string ⟨#[97,110,100]⟩,.int .i64 (-1),.int .i64 2,.string ⟨#[115,116,101,112]⟩,.int .i64 (-1),.int .i64 1,.string ⟨#[97,116]⟩,.int .i64 0,.int .i64 1,.string ⟨#[105,115]⟩,.int .i64 1,.int .i64 0,.string ⟨#[102,105,114,115,116]⟩,.int .i64 2,.int .i64 1,.string ⟨#[115,101,99,111,110,100]⟩,.int .i64 2,.int .i64 1,.string ⟨#[108,101,102,116]⟩,.int .i64 3,.int .i64 1,.string ⟨#[114,105,103,104,116]⟩,.int .i64 3,.int .i64 1,.string ⟨#[105,110,112,117,116]⟩,.int .i64 4,.int .i64 1,.string ⟨#[115,111,109,101]⟩,.int .i64 5,.int .i64 1,.string ⟨#[109,97,110,121]⟩,.int .i64 6,.int .i64 1,.string ⟨#[115,104,97,114,101]⟩,.int .i64 7,.int .i64 1]
def toAV:Value->AV
 | .int k n=> .int k n
 | .string b=> .str b
 | _=> .nilp
def isIS:Value->Bool
 | .int .. =>true
 | .string _=>true
 | _=>false
theorem rules_map:rules=rvals.map toAV:=rfl
theorem rvals_is:rvals.all isIS=true:=rfl
theorem flatOk2:aF Tryz.prog [213,212,9,3]=true:=by kernel_rfl
theorem flatOk:aF Tryz.prog [205,204,3]=true:=by kernel_rfl
theorem glob_ok {W:World} (h:laidMet Tryz.prog Rows.fixRoundsRow.laid W):∀g cs,Gl g=some cs->∀(j:Nat) (c:AV),cs[j]?=some c->∃v,vL W g j=some v/\RelI (vL W) c v:=by
 intro g cs hg j c hc;unfold Gl at hg;split at hg
 ·rename_i hg0;subst hg0;injection hg with hg;subst hg;obtain ⟨ps,⟨g,t,cs,fuel,p,q,hg,ht,hvar,hd,_,_⟩,_⟩:=h;obtain rfl:=Option.some.inj (formsN.symm.trans hg);obtain rfl:=Option.some.inj (formsType.symm.trans ht);have hf:=pM flatOk fuel 5 205 cs.toList (ints.map (Value.int .i64)) _ (by simp) hd rfl;unfold forms at hc;rw[yOE,yOF] at hc;obtain ⟨n,hn,rfl⟩:=hc;have hcell:=World.var?_cell hg hvar j;have hcs:cs[j]?=some (.int .i64 n):=by
   rw[<-yOG,hf,yOE];have:ints[j]?=some n:=hn;rw[this];rfl
  rw[hcs] at hcell;refine ⟨.int .i64 n,?_,.int _ _⟩;simp only[vL];have e:W.cell? ⟨0,j,none⟩=some (.int .i64 n):=by simpa using hcell
  simp[e,Value.oneCell']
 split at hg
 ·rename_i hg0;subst hg0;injection hg with hg;subst hg;obtain ⟨ps,⟨_,_,_,_,_,_,_,_,_,_,⟨g,t,cs,fuel,p,q,hg,ht,hvar,hd,_,_⟩,_⟩,_⟩:=h;obtain rfl:=Option.some.inj (rulesN.symm.trans hg);obtain rfl:=Option.some.inj (rulesType.symm.trans ht);have hf:=pM flatOk2 fuel 5 213 cs.toList rvals _ (by simp) hd rfl;rw[rules_map,yOE,yOF] at hc;obtain ⟨v,hn,rfl⟩:=hc;have hcell:=World.var?_cell hg hvar j;have hcs:cs[j]?=some v:=by rw[<-yOG,hf,hn]
  rw[hcs] at hcell;have hv:isIS v=true:=yOD.1 rvals_is v (List.mem_of_getElem? hn);have e:W.cell? ⟨1,j,none⟩=some v:=by simpa using hcell
  cases v with
  | int k n=>
   refine ⟨.int k n,?_,.int _ _⟩;simp only[vL];simp[e,Value.oneCell']
  | string b=>
   refine ⟨.string b,?_,.str _⟩;simp only[vL];simp[e,Value.oneCell']
  | _=>cases hv
 ·cases hg
noncomputable def laidWorld (os:Os):World:=
 let w0:=World.holding Tryz.prog os ⟨#[],#[],[]⟩
 {w0 with heap:=(w0.heap.modify 0 fun
   | .cells _ t frozen=> .cells (ints.map (Value.int .i64)).toArray t frozen
   | o=>o) |>.modify 1 fun
   | .cells _ t frozen=> .cells rvals.toArray t frozen
   | o=>o}
theorem laid_met (os:Os) (args:Array Value):laidMet Tryz.prog Rows.fixRoundsRow.laid ((laidWorld os).forCall (fun _ _=>0) ⟨#[],args,[]⟩).memory:=
 laidMet_of_run' 8 (by kernel_rfl) (by kernel_rfl)
theorem closedOk:wL Tryz.prog [27,24,25,102,22,3,40,33,28,71,45,43,4]=true:=by kernel_rfl
theorem below_of {W W':World} (h:Stands W W'):Below W.heap.size W W':=⟨h.os,h.tape,h.output,h.size,h.heap⟩
section
variable {H:Type} {enc:TypeId×Value->H} {P:Program} {w:World} {base:Nat} {spare:Nat->Bool} {held:Bool}
theorem trodAll_n {t0 t1:TypeId} {args:Array Value} {ds:List (DataW H)} {ps:List MemPlace} (h:DataW.TrodAll enc P w base spare held [t0,t1] args.toList ds ps):
  ∃v0 v1 d0 d1 p0 p1,args= #[v0,v1]/\ds= [d0,d1]/\ps=p0++p1/\DataW.Trod enc P w base spare held t0 v0 d0 p0/\DataW.Trod enc P w base spare held t1 v1 d1 p1:=by
 obtain ⟨v0,vs0,d0,ds0,p0,q0,hargs,rfl,rfl,h0,r0⟩:=trodAll_cons h;obtain ⟨v1,vs1,d1,ds1,p1,q1,rfl,rfl,rfl,h1,r1⟩:=trodAll_cons r0;obtain ⟨rfl,rfl,rfl⟩:=trodAll_nil r1;exact ⟨v0,v1,d0,d1,p0,p1,by cases args;simp_all,rfl,by simp,h0,h1⟩
theorem trodAll_mkn {t0 t1:TypeId} {v0 v1:Value} {d0 d1:DataW H} {p0 p1:List MemPlace} (h0:DataW.Trod enc P w base spare held t0 v0 d0 p0) (h1:DataW.Trod enc P w base spare held t1 v1 d1 p1):DataW.TrodAll enc P w base spare held [t0,t1] [v0,v1] [d0,d1] (p0++p1):=
 ⟨p0,_,h0,trodAll_mk1 h1,rfl⟩
end
set_option maxRecDepth 100000 in
theorem law_lifted (hlaw:∀a0 a1,Arg Tryz.prog 27 a0->Arg Tryz.prog 28 a1->Go.Ab.Loc Tryz.prog Gl 0 9 [a0,a1] [] (.bool true) [])
  (os:Os) (started:os.Started) (H:Type) (enc:TypeId×Value->H):
  ReturnsInHanded {} Tryz.checked os 9 .any (fun w args=>(Rows.fixRoundsSpec.pre enc Tryz.prog Tryz.f9 Rows.fixRoundsRow.domain false w args/\laidMet Tryz.prog Rows.fixRoundsRow.laid w)/\sizedMet enc Tryz.prog Tryz.f9 (OpenSpec.ofChange Rows.fixRoundsSpec) false w args)
   (Rows.fixRoundsSpec.post enc Tryz.prog Tryz.f9 false true false false):=by
 refine returnsInHanded_of_change_and (C:=Tryz.checked) (X:=fun w _=>laidMet Tryz.prog Rows.fixRoundsRow.laid w) (fun _ _ _ hh h=>h.of_heap hh) Tryz.own started (by kernel_rfl) Tryz.func9
  (ChangeSpec.witness_at (enc:=enc) (C:=Tryz.checked) (os:=os) (X:=fun w _=>laidMet Tryz.prog Rows.fixRoundsRow.laid w) false (laidWorld os) #[.agg #[.int .i64 0,.int .i64 0,.slice none 0 0,.slice none 0 0],.slice none 0 0] 8 rfl (by kernel_rfl) (by kernel_rfl) (by kernel_rfl) (by kernel_rfl) (by kernel_rfl) (laid_met os _)) ?_
 intro W base args ds gs before hval0 hW hcnd0 _ hL _;have hval:∀(j:Nat) t v,Tryz.f9.params[j]?=some t->args[j]?=some v->Value.okWide Tryz.prog W .any base t v:=hval0;have hW':=hW;obtain ⟨p,q,hA0,hV,rfl,hfz,hnd⟩:=hW;have hA:DataW.TrodAll enc Tryz.prog W 0 (fun _=>true) true Tryz.f9.params.toList args.toList ds p:=hA0;rw[Tryz.params9] at hA hval;obtain ⟨v0,v1,d0,d1,p0,p1,rfl,rfl,rfl,h0,h1⟩:=trodAll_n hA;obtain ⟨rfl,rfl⟩:=trodVars_none hV;obtain ⟨a0,t0,r0,n0⟩:=zKZ closedOk (by simp) (hval 0 27 v0 rfl rfl) h0;obtain ⟨a1,t1,r1,n1⟩:=zKZ closedOk (by simp) (hval 1 28 v1 rfl rfl) h1;refine (zIW (hlaw a0 a1 t0 t1) (W:=W) (vs:= #[v0,v1]) rfl (fun i b v hb hv=> ?_) (fun b hb=> ?_) (glob_ok hL)).mono fun e W' ⟨he,hs⟩=> ?_
 ·match i,hb,hv with
  | 0,hb,hv=>simp at hb hv;subst hb;subst hv;exact r0
  | 1,hb,hv=>simp at hb hv;subst hb;subst hv;exact r1
  | n+2,hb,hv=>simp at hb
 ·simp at hb;rcases hb with rfl | rfl<;>assumption
 subst he;have hB:=below_of hs;simp only[List.append_nil] at hW';have hlt:∀x∈p0++p1,x.block < W.heap.size:=fun x hx=>by
  have:=hW'.lt x (by simpa using hx);simpa using this
 refine ⟨_,rfl,_,_,_,[],(p0++p1),[],hW',?_,?_,rfl,hB.frame _,fun h=>by cases h⟩
 ·exact trodAll_mk1 (shut_bool (by kernel_rfl) true)
 ·refine trodAll_mkn (Below.trod Tryz.laidOut (by kernel_rfl) (of_decide_eq_true (by kernel_rfl)) h0 hB fun x hx=>hlt x (by simp[hx])) (Below.trod Tryz.laidOut (by kernel_rfl) (of_decide_eq_true (by kernel_rfl)) h1 hB fun x hx=>hlt x (by simp[hx]))
theorem row_holds (hlaw:∀a0 a1,Arg Tryz.prog 27 a0->Arg Tryz.prog 28 a1->Go.Ab.Loc Tryz.prog Gl 0 9 [a0,a1] [] (.bool true) []):Rows.FixRoundsSaid:=
 OpenClaim.holds_of_wide 9 Tryz.f9 rfl rfl rfl rfl rfl rfl rfl ⟨rfl,rfl,rfl,rfl,rfl⟩ rfl rfl rfl rfl rfl (by kernel_rfl) Tryz.func9 (by kernel_rfl)
  (of_decide_eq_true (by kernel_rfl)) (by unfold Func.isWrapper;first | (rw[yRO (by decide+kernel)];kernel_rfl) | (rw[yRN (by decide+kernel)];exact ⟨rfl,rfl⟩))
  (fun os started H enc _=>law_lifted hlaw os started H enc)
theorem card_holds (hlaw:∀a0 a1,Arg Tryz.prog 27 a0->Arg Tryz.prog 28 a1->Go.Ab.Loc Tryz.prog Gl 0 9 [a0,a1] [] (.bool true) []):Rows.FixRoundsCardSaid:=
 Claim7.holds_tied_plain_at .later [] [.data,.widerDeep] true (true,"c1d4ddd4f3cb4e43dffdcf47013e0f9a8dbe1fcf753834db3f30a4dc6b8cde4b") true
  (row_holds hlaw) (fun _ h=>by cases h) (by kernel_rfl) (fun _ h=>by cases h) fixRounds_row_tie rfl ⟨rfl,rfl⟩ (by kernel_rfl) rfl
  (fun f fn hf hfn=>by
   obtain rfl : f = 9 := Option.some.inj ((show Tryz.prog.funcNamed "ectype/ectypelaw09.FixRounds" = some 9 by kernel_rfl).symm.trans hf) |>.symm
   obtain rfl:fn=Tryz.f9:=(Option.some.inj (Tryz.func9.symm.trans hfn)).symm;exact ⟨by kernel_rfl,fun j t ht=>by
    rw[Tryz.params9] at ht;have h3:t∈[27,28]:=by
     match j,ht with
     | 0,ht=>simp at ht;simp[<-ht]
     | 1,ht=>simp at ht;simp[<-ht]
     | n+2,ht=>simp at ht
    have:([27,28].all fun t=>Tryz.prog.wantsStandIn t==false)=true:=by kernel_rfl
    have:=yOD.1 this t h3;have e:Tryz.prog.wantsStandIn t=false:=by simpa using this
    exact e⟩)
  (by kernel_rfl)
theorem rounds:Rows.FixRoundsCardSaid:=card_holds law9_arg
end Go.Proofs.YtkjbakmlonpdjaaGreatDoor
