/- Law 4 (FixReach): the walk. -/
import Derived.Test.YtkjbakmlonpdjaaGreatDoorReachK
import Derived.Test.YtkjbakmlonpdjaaGreatDoorReachB4
import Derived.Test.YtkjbakmlonpdjaaGreatDoorCards
import Derived.Test.YtkjbakmlonpdjaaGreatDoorTie
import Derived.LaidLaws
import Derived.Handed
import Derived.SevenTiedAt
open Bool renaming and_eq_true->yOG
open List renaming getElem?_map->yOH
set_option linter.unusedVariables false
set_option linter.unusedSimpArgs false
set_option maxRecDepth 10000
namespace Go.Ab.Tab
open Go Go.Ab
section
variable {D:Nat}
theorem isL_sg {f:Fu} {x:Eqn} (h:isL f [x]=true):zO x.body<=2000:=by
 unfold isL okE at h;simp at h;omega
theorem law4 (haw:∀D,Go.Ab.Loc Pg Gl D 12 [] [] (.bool true) []) (s:Sy) (hs:fitY s) (a:Fm) (ha:fitM a) (D:Nat):Go.Ab.Loc Pg Gl D 4 [encY s,encM a] [] (.bool true) []:=by
 refine zU zI tok rfl rfl fun S=> ?_;have haw1:=haw (D+1);have h16:=yCG s hs.1 hs.2.1 hs.2.2 (D+1) 400 (by omega);have h17:=zHO a ha (D+1) 200 (by omega);unfold c4;simp[encY,zB a] at h16 h17|-;refine zE h16 (by simp) ?_;cases b1:fewY 400 s with
 | false=>
  simp;refine zE haw1 (by simp) ?_;simp
 | true=>
 have hnod:zJ s.m<=400:=by
  unfold fewY at b1;simp only[yOG] at b1;have:=zDN (n:=400) (l:=s.m) (t:=0) (by omega) b1.2.2;omega
 simp;refine zE h17 (by simp) ?_;by_cases b2:zO a<=200
 rotate_left
 ·simp[b2];refine zE haw1 (by simp) ?_;simp
 simp[b2];have h18:=yCF s hs.1 hs.2.1 hs.2.2 (by omega) (D+1);simp[encY] at h18;refine zE h18 (by simp) ?_;cases hy:isY s with
 | false=>
  simp;refine zE haw1 (by simp) ?_;simp
 | true=>
 obtain ⟨y1,y2,y3⟩:=mK hy;have h19:=yCE (D+1) s.f y1 a ha;simp[zA s.f,zB a] at h19;simp;refine zE h19 (by simp) ?_;cases hfm:isFm s.f a with
 | false=>
  simp;refine zE haw1 (by simp) ?_;simp
 | true=>
 simp;by_cases h60:(60:Int) < s.m.length
 ·simp[h60];refine zE haw1 (by simp) ?_;simp
 have hfN:pL s.f a=0:=by
  unfold isY at hy;simp only[yOG] at hy;unfold pL;rw[if_pos hy.1,if_pos hfm]
 have h20:=zQQ (D+1) s.f hs.1 a;have h21:=zQP (D+1) s.f hs.1 a;unfold dM at h20;unfold zNJ at h21;rw[if_pos hfN,zNB] at h20 h21;have el:∀l,encL l= .sl 5 (l.map encE) .no:=fun _=>rfl;simp[zA s.f,zB a,el] at h20 h21;simp[h60];refine zE h20 (by simp) ?_;simp;refine zE h21 (by simp) ?_;cases hA:isL s.f [⟨true,alwM a s.f⟩]<;>cases hP:isL s.f [⟨false,posM a s.f⟩]<;>simp[sgL,sgE,hA,hP]
 ·refine zE haw1 (by simp) ?_;simp
 ·refine zE haw1 (by simp) ?_;simp
 ·refine zE haw1 (by simp) ?_;simp
 ·have fitA:fitL [⟨true,alwM a s.f⟩]:=⟨by simp[maxLen],fun y hy=>by simp at hy;subst hy;exact eO _ (by have:=isL_sg hA;unfold maxLen;omega)⟩;have fitP:fitL [⟨false,posM a s.f⟩]:=⟨by simp[maxLen],fun y hy=>by simp at hy;subst hy;exact eO _ (by have:=isL_sg hP;unfold maxLen;omega)⟩;have hvar:=(aZ hfm).1;have h13a:=zCH s hs (by omega) [⟨true,alwM a s.f⟩] fitA (D+1);have h13b:=zCH s hs (by omega) [⟨false,posM a s.f⟩] fitP (D+1);have fa:uY s [⟨true,alwM a s.f⟩]=0:=by unfold uY;rw[if_pos hy,if_pos hA]
  have fb:uY s [⟨false,posM a s.f⟩]=0:=by unfold uY;rw[if_pos hy,if_pos hP]
  unfold solR at h13a h13b;rw[if_pos fa] at h13a;rw[if_pos fb] at h13b;have eR:∀l:List Eqn,l.length=1->((List.range l.length).map fun i=>mY s.m.length (solS s l i))= [encI (toZ (oW (solS s l 0) s.m.length))]:=fun l hl=>by
   rw[hl,<-zRZ];rfl
  rw[eR _ rfl] at h13a h13b;have hva:valM s.f ((0:Nat):Int) none false a=true:=by
   unfold isFm at hfm;simp only[yOG] at hfm;exact hfm.1.1
  have h22:=((zTY s y1 (by omega) y3 [] (.im []) (vars:=0) (fun i hi=>absurd hi (by omega)) a (by omega)).1 false hva) (D+1) trivial;have halw:=fun z hz=>zLR hy hvar hA z hz;have hpos:=fun z hz=>zIK hy hvar hP z hz;simp only[VA.A,VA.M,List.map_nil] at h22;generalize hE:evS s.m [] a=E at*;have ea:=zDW (r:=fun z=>(outS s z).all fun y=>E.testBit y.toNat) halw;have eb:=zDW (r:=fun z=>(outS s z).any fun y=>E.testBit y.toNat) hpos;rw[<-ea] at h13a;rw[<-eb] at h13b;have hI:(y8 s.m.length E).length=s.m.length:=by unfold y8;simp
  have hq:∀t:Nat,t < s.m.length->(y8 s.m.length E)[t]?=some ((fun y:Int=>E.testBit y.toNat) t):=fun t ht=>by
   unfold y8;rw[yOH,List.getElem?_range ht];simp
  have n60:s.m.length<=60:=by omega
  have hn2:(s.m.length:Int)<=1099511627776:=by omega
  have z0:=zMQ (fun z=>(outS s z).all fun y=>E.testBit y.toNat) s.m.length;have z1:=zMQ (fun z=>(outS s z).any fun y=>E.testBit y.toNat) s.m.length;have key:=fun z τ ω=>l4b (D:=D) haw s hy n60 (by omega) (y8 s.m.length E) hI (fun y=>E.testBit y.toNat) hq _ _ rfl rfl S s.m.length z τ ω;simp[encY,zB a,xU,el] at h13a h13b h22;generalize hXA:toZ (vV (AZ (fun z=>(outS s z).all fun y=>E.testBit y.toNat) s.m.length s.m.length))=xa at*;generalize hXB:toZ (vV (AZ (fun z=>(outS s z).any fun y=>E.testBit y.toNat) s.m.length s.m.length))=xb at*;refine zE h13a (by simp) ?_;simp;refine zE h13b (by simp) ?_;simp;refine zE h22 (by simp) ?_;simp[hn2];refine key 0 _ _ (by omega) ?_ ?_ ?_ ?_ ?_ ?_ ?_ ?_ ?_ ?_ ?_ ?_ ?_
  case refine_12=>rw[z0];simp
  case refine_13=>rw[z1];simp
  all_goals simp
theorem law4_arg:∀a0 a1,Arg Pg 27 a0->Arg Pg 45 a1->Go.Ab.Loc Pg Gl 0 4 [a0,a1] [] (.bool true) []:=by
 intro a0 a1 h0 h1;obtain ⟨s,rfl,hs⟩:=yEX h0;obtain ⟨a,rfl,ha⟩:=yMV h1;exact law4 yCH s hs a ha 0
end
end Go.Ab.Tab
namespace Go.Proofs.YtkjbakmlonpdjaaGreatDoor
open Go.ChangeShapes Go.WideShapes Go.ChangeAt Go.RowKit Go.Ab Go.Ab.Tab
theorem Tryz.own:ownKnob Tryz.prog.godebug=none:=by kernel_rfl
theorem Tryz.laidOut:laidOutB Tryz.prog=true:=by kernel_rfl
theorem formsN : Tryz.prog.globalNamed "ectype/functor.forms" = some 0 := by kernel_rfl
theorem formsType:(Tryz.prog.globals[0]?).map (·.type)=some 205:=by kernel_rfl
def ints:List Int:=[0,0,16,0,0,2,0,2,4,1,0,1,0,1,0,1]
theorem flatOk:zJH Tryz.prog [205,204,3]=true:=by kernel_rfl
theorem glob_ok {W:World} (h:laidMet Tryz.prog Rows.fixReachRow.laid W):∀g cs,Gl g=some cs->∀(j:Nat) (c:AV),cs[j]?=some c->∃v,vY W g j=some v/\RelI (vY W) c v:=by
 intro g cs hg j c hc;unfold Gl at hg;split at hg
 ·rename_i hg0;subst hg0;injection hg with hg;subst hg;obtain ⟨ps,⟨g,t,cs,fuel,p,q,hg,ht,hvar,hd,_,_⟩,_⟩:=h;obtain rfl:=Option.some.inj (formsN.symm.trans hg);obtain rfl:=Option.some.inj (formsType.symm.trans ht);have hf:=lT flatOk fuel 5 205 cs.toList (ints.map (Value.int .i64)) _ (by simp) hd rfl;unfold forms at hc;rw[yOH,Option.map_eq_some_iff] at hc;obtain ⟨n,hn,rfl⟩:=hc;have hcell:=World.var?_cell hg hvar j;have hcs:cs[j]?=some (.int .i64 n):=by
   rw[<-Array.getElem?_toList,hf,yOH];have:ints[j]?=some n:=hn;rw[this];rfl
  rw[hcs] at hcell;refine ⟨.int .i64 n,?_,.int _ _⟩;simp only[vY];have e:W.cell? ⟨0,j,none⟩=some (.int .i64 n):=by simpa using hcell
  simp[e,Value.oneCell']
 ·cases hg
noncomputable def laidWorld (os:Os):World:=
 let w0:=World.holding Tryz.prog os ⟨#[],#[],[]⟩
 {w0 with heap:=w0.heap.modify 0 fun
   | .cells _ t frozen=> .cells (ints.map (Value.int .i64)).toArray t frozen
   | o=>o}
theorem laid_met (os:Os) (args:Array Value):laidMet Tryz.prog Rows.fixReachRow.laid ((laidWorld os).forCall (fun _ _=>0) ⟨#[],args,[]⟩).memory:=
 laidMet_of_run' 8 (by kernel_rfl) (by kernel_rfl)
theorem closedOk:wL Tryz.prog [27,24,25,102,22,3,40,33,28,71,45,43,4]=true:=by kernel_rfl
theorem below_of {W W':World} (h:Stands W W'):Below W.heap.size W W':=⟨h.os,h.tape,h.output,h.size,h.heap⟩
section
variable {H:Type} {enc:TypeId×Value->H} {P:Program} {w:World} {base:Nat} {spare:Nat->Bool} {held:Bool}
theorem trodAll_n {t0 t1:TypeId} {args:Array Value} {ds:List (DataW H)} {ps:List MemPlace} (h:DataW.TrodAll enc P w base spare held [t0,t1] args.toList ds ps):
  ∃v0 v1 d0 d1 p0 p1,args= #[v0,v1]/\ds= [d0,d1]/\ps=p0++p1/\DataW.Trod enc P w base spare held t0 v0 d0 p0/\DataW.Trod enc P w base spare held t1 v1 d1 p1:=by
 obtain ⟨v0,vs0,d0,ds0,p0,q0,hargs,rfl,rfl,h0,r0⟩:=trodAll_cons h;obtain ⟨v1,vs1,d1,ds1,p1,q1,rfl,rfl,rfl,h1,r1⟩:=trodAll_cons r0;obtain ⟨rfl,rfl,rfl⟩:=trodAll_nil r1;exact ⟨v0,v1,d0,d1,p0,p1,by cases args;simp_all,rfl,by simp,h0,h1⟩
theorem trodAll_mkn {t0 t1:TypeId} {v0 v1:Value} {d0 d1:DataW H} {p0 p1:List MemPlace} (h0:DataW.Trod enc P w base spare held t0 v0 d0 p0) (h1:DataW.Trod enc P w base spare held t1 v1 d1 p1):DataW.TrodAll enc P w base spare held [t0,t1] [v0,v1] [d0,d1] (p0++p1):=
 ⟨p0,_,h0,trodAll_mk1 h1,rfl⟩
end
set_option maxRecDepth 100000 in
theorem law_lifted (hlaw:∀a0 a1,Arg Tryz.prog 27 a0->Arg Tryz.prog 45 a1->Go.Ab.Loc Tryz.prog Gl 0 4 [a0,a1] [] (.bool true) [])
  (os:Os) (started:os.Started) (H:Type) (enc:TypeId×Value->H):
  ReturnsInHanded {} Tryz.checked os 4 .any (fun w args=>(Rows.fixReachSpec.pre enc Tryz.prog Tryz.f4 Rows.fixReachRow.domain false w args/\laidMet Tryz.prog Rows.fixReachRow.laid w)/\sizedMet enc Tryz.prog Tryz.f4 (OpenSpec.ofChange Rows.fixReachSpec) false w args)
   (Rows.fixReachSpec.post enc Tryz.prog Tryz.f4 false true false false):=by
 refine returnsInHanded_of_change_and (C:=Tryz.checked) (X:=fun w _=>laidMet Tryz.prog Rows.fixReachRow.laid w) (fun _ _ _ hh h=>h.of_heap hh) Tryz.own started (by kernel_rfl) Tryz.func4
  (ChangeSpec.witness_at (enc:=enc) (C:=Tryz.checked) (os:=os) (X:=fun w _=>laidMet Tryz.prog Rows.fixReachRow.laid w) false (laidWorld os) #[.agg #[.int .i64 0,.int .i64 0,.slice none 0 0,.slice none 0 0],.agg #[.int .i64 0,.int .i64 0,.int .i64 0,.slice none 0 0]] 8 rfl (by kernel_rfl) (by kernel_rfl) (by kernel_rfl) (by kernel_rfl) (by kernel_rfl) (laid_met os _)) ?_
 intro W base args ds gs before hval0 hW hcnd0 _ hL _;have hval:∀(j:Nat) t v,Tryz.f4.params[j]?=some t->args[j]?=some v->Value.okWide Tryz.prog W .any base t v:=hval0;have hW':=hW;obtain ⟨p,q,hA0,hV,rfl,hfz,hnd⟩:=hW;have hA:DataW.TrodAll enc Tryz.prog W 0 (fun _=>true) true Tryz.f4.params.toList args.toList ds p:=hA0;rw[Tryz.params4] at hA hval;obtain ⟨v0,v1,d0,d1,p0,p1,rfl,rfl,rfl,h0,h1⟩:=trodAll_n hA;obtain ⟨rfl,rfl⟩:=trodVars_none hV;obtain ⟨a0,t0,r0,n0⟩:=zLM closedOk (by simp) (hval 0 27 v0 rfl rfl) h0;obtain ⟨a1,t1,r1,n1⟩:=zLM closedOk (by simp) (hval 1 45 v1 rfl rfl) h1;refine (zJD (hlaw a0 a1 t0 t1) (W:=W) (vs:= #[v0,v1]) rfl (fun i b v hb hv=> ?_) (fun b hb=> ?_) (glob_ok hL)).mono fun e W' ⟨he,hs⟩=> ?_
 ·match i,hb,hv with
  | 0,hb,hv=>simp at hb hv;subst hb;subst hv;exact r0
  | 1,hb,hv=>simp at hb hv;subst hb;subst hv;exact r1
  | n+2,hb,hv=>simp at hb
 ·simp at hb;rcases hb with rfl | rfl<;>assumption
 subst he;have hB:=below_of hs;simp only[List.append_nil] at hW';have hlt:∀x∈p0++p1,x.block < W.heap.size:=fun x hx=>by
  have:=hW'.lt x (by simpa using hx);simpa using this
 refine ⟨_,rfl,_,_,_,[],(p0++p1),[],hW',?_,?_,rfl,hB.frame _,fun h=>by cases h⟩
 ·exact trodAll_mk1 (shut_bool (by kernel_rfl) true)
 ·refine trodAll_mkn (Below.trod Tryz.laidOut (by kernel_rfl) (of_decide_eq_true (by kernel_rfl)) h0 hB fun x hx=>hlt x (by simp[hx])) (Below.trod Tryz.laidOut (by kernel_rfl) (of_decide_eq_true (by kernel_rfl)) h1 hB fun x hx=>hlt x (by simp[hx]))
theorem row_holds (hlaw:∀a0 a1,Arg Tryz.prog 27 a0->Arg Tryz.prog 45 a1->Go.Ab.Loc Tryz.prog Gl 0 4 [a0,a1] [] (.bool true) []):Rows.FixReachSaid:=
 OpenClaim.holds_of_wide 4 Tryz.f4 rfl rfl rfl rfl rfl rfl rfl ⟨rfl,rfl,rfl,rfl,rfl⟩ rfl rfl rfl rfl rfl (by kernel_rfl) Tryz.func4 (by kernel_rfl)
  (of_decide_eq_true (by kernel_rfl)) (by unfold Func.isWrapper;first | (rw[if_pos (by decide+kernel)];kernel_rfl) | (rw[if_neg (by decide+kernel)];exact ⟨rfl,rfl⟩))
  (fun os started H enc _=>law_lifted hlaw os started H enc)
theorem card_holds (hlaw:∀a0 a1,Arg Tryz.prog 27 a0->Arg Tryz.prog 45 a1->Go.Ab.Loc Tryz.prog Gl 0 4 [a0,a1] [] (.bool true) []):Rows.FixReachCardSaid:=
 Claim7.holds_tied_plain_at .later [] [.data] true (true,"c1d4ddd4f3cb4e43dffdcf47013e0f9a8dbe1fcf753834db3f30a4dc6b8cde4b") true
  (row_holds hlaw) (fun _ h=>by cases h) (by kernel_rfl) (fun _ h=>by cases h) fixReach_row_tie rfl ⟨rfl,rfl⟩ (by kernel_rfl) rfl
  (fun f fn hf hfn=>by
   obtain rfl : f = 4 := Option.some.inj ((show Tryz.prog.funcNamed "ectype/ectypelaw09.FixReach" = some 4 by kernel_rfl).symm.trans hf) |>.symm
   obtain rfl:fn=Tryz.f4:=(Option.some.inj (Tryz.func4.symm.trans hfn)).symm;exact ⟨by kernel_rfl,fun j t ht=>by
    rw[Tryz.params4] at ht;have h3:t∈[27,45]:=by
     match j,ht with
     | 0,ht=>simp at ht;simp[<-ht]
     | 1,ht=>simp at ht;simp[<-ht]
     | n+2,ht=>simp at ht
    have:([27,45].all fun t=>Tryz.prog.wantsStandIn t==false)=true:=by kernel_rfl
    have:=List.all_eq_true.1 this t h3;have e:Tryz.prog.wantsStandIn t=false:=by simpa using this
    exact e⟩)
  (by kernel_rfl)
theorem reach:Rows.FixReachCardSaid:=card_holds law4_arg
end Go.Proofs.YtkjbakmlonpdjaaGreatDoor
