/- The reference's flows: the contract. -/
import Derived.Test.YtkdkpeabkafebaaDoorRelatedG
open Bool renaming true_eq_false->yGT, and_eq_true->yGY
open Int renaming toNat_natCast->yHE, eq_ofNat_of_zero_le->yHF
open List renaming getElem_mem->yGU, drop_eq_getElem_cons->yHA, getElem_cons_succ->yHB, length_pos_iff->yHD
open Nat renaming le_succ->yGV, le_refl->yGW, zero_add->yGX, lt_succ_self->yGZ, eq_zero_or_pos->yHC
set_option linter.unusedVariables false
set_option linter.unusedSimpArgs false
set_option maxRecDepth 100000
namespace Go.Ab.Tab
open Go Go.Ab
theorem zXC {n m may F} {v:Int}:∀{q:List (Nat×Nat)},Alo n m may F 1 q->(∀t (h:t+1 < q.length),v<=F q[t+1].1 q[t].2)->Alo n m may F v q:=by
 intro q h
 induction h with
 | one i c h1 h2 h3=>exact fun _=> .one i c h1 h2 h3
 | cons i c i' c' t h1 h2 h3 h4 h5 h6 ih=>
  intro hv;refine .cons i c i' c' t h1 h2 h3 ?_ h5 (ih fun s hs=> ?_)
  ·have:=hv 0 (by simp);simpa using this
  ·have:=hv (s+1) (by simp at hs|-;omega);simpa using this
theorem zGZ {n m may F}:∀{q:List (Nat×Nat)},Alo n m may F 1 q->∀t (h:t+1 < q.length),1<=F q[t+1].1 q[t].2:=by
 intro q h
 induction h with
 | one i c h1 h2 h3=>intro t h;simp at h
 | cons i c i' c' t h1 h2 h3 h4 h5 h6 ih=>
  intro s hs;cases s with
  | zero=>simpa using h4
  | succ s=>
   have:=ih s (by simp at hs|-;omega);simp only[yHB] at this|-;exact this
theorem bN {e:FE} {b:Bool} {τ:Nat->AV} {ω S} (h1:τ 6= .bool b) (h2:∀d j,d < e.D->S d j=e.S0 d j):RetP [.tmp 6] (.bool b) e.D e.S0 [] (stF 146 (e.D+1) τ ω S):=by
 refine ⟨⟨.bool b,?_,rfl⟩,fun d j hd=>h2 d j hd⟩;simp[uF,pC,pZ,h1]
theorem yDO {e:FE} {may} (ho:e.Ok may) {a b:Nat->Int} (hb0:∀k,k < e.m->0<=b k) (hsa:sumN e.n a<=2199023255552) (hsb:sumN e.m b<=2199023255552) (hsum:sumN e.n a=sumN e.m b) {bq:Bool} (hq:bq=true↔Feas e.n e.m may a b):
  ∀(fuel:Nat) (left right:Nat->Int) (F:Nat->Nat->Int) (τ ω S),sumN e.n left<=fuel->Flo e.n e.m may a b left right F->e.Fr τ->e.Mm left right F ω S->Rd (Loc Pg Gl) .pl (RetP [.tmp 6] (.bool bq) e.D e.S0 []) [.lp c48_l3,.blk 2,.c gZ] (stF 146 (e.D+1) τ ω S):=by
 have hn10:=ho.hn;have hm10:=ho.hm;intro fuel
 induction fuel with
 | zero=>
  intro left right F τ ω S hfu hL hf hM;have hl0:0<=sumN e.n left:=xG hL.lf;have hz:¬0 < sumN e.n left:=by omega
  refine zC c48_l3.eq_1 ?_;simp[hf.h7];refine yE (zAO (e.D+2) e.n hn10 left hL.lf (by omega) e.D e.n 1 (by omega)) (by simp[AV.strip]) (fun x hx=> ?_) (by simp) ?_
  ·simp at hx;subst hx;refine ⟨yGV _,fun h=>by simp only at h;omega,?_⟩;rw[zS,if_neg (by simp only;omega)];exact hM.oL
  have hbq:bq=true:=hq.2 (hL.feas (pH hL.lf (by omega)) hsum);simp[hz,gZ,hbq];exact bN (by simp) hM.low
 | succ fuel ih=>
  intro left right F τ ω S hfu hL hf hM;have hll:∀i,i < e.n->left i<=a i:=fun i hi=>by
   have h1:=hL.rows i hi;have h2:0<=sumN e.m (F i):=xG fun k hk=>hL.nn i k hi hk;omega
  have hls:sumN e.n left<=sumN e.n a:=uI hll;have hl0:0<=sumN e.n left:=xG hL.lf;refine zC c48_l3.eq_1 ?_;simp[hf.h7];refine yE (zAO (e.D+2) e.n hn10 left hL.lf (by omega) e.D e.n 1 (by omega)) (by simp[AV.strip]) (fun x hx=> ?_) (by simp) ?_
  ·simp at hx;subst hx;refine ⟨yGV _,fun h=>by simp only at h;omega,?_⟩;rw[zS,if_neg (by simp only;omega)];exact hM.oL
  by_cases hz:0 < sumN e.n left
  ·simp[hz,hf.h7,hf.h8,hf.h9,hf.h2]
   let w:WE:=⟨e.n,e.m,e.D,e.D+1,e.dM,e.sM,e.gM,e.csM,left,right,F⟩
   have hw:w.Ok may:=⟨yGZ _,ho.hM,hn10,hm10,ho.hlen,ho.hrow,hL.cap⟩;obtain ⟨r,q1,q2⟩:=zSG hw;refine yE (q2 (e.D+2) (yGZ _)) (by simp[AV.strip,w]) (fun x hx=> ?_) (by simp) ?_
   ·have hM0:=ho.hM;simp only[WE.M,w,List.mem_cons,List.mem_map,List.mem_range] at hx;rcases hx with rfl | rfl | rfl | rfl | ⟨j,hj,rfl⟩
    ·refine ⟨yGV _,fun h=>by simp only at h;omega,?_⟩;rw[zS,if_neg (by simp only;omega)];exact hM.oL
    ·refine ⟨yGV _,fun h=>by simp only at h;omega,?_⟩;rw[zS,if_neg (by simp only;omega)];exact hM.oO
    ·refine ⟨yGW _,fun _=>by simp,?_⟩;simp[zS,hM.o21]
    ·refine ⟨by simp only;omega,fun h=>by simp only at h;omega,?_⟩;rw[zS,if_neg (by simp only;omega),hM.low _ _ hM0];exact hM.mayS
    ·refine ⟨yGV _,fun h=>by simp only at h;omega,?_⟩;rw[zS,if_neg (by simp only;omega)];exact hM.oR j hj
   obtain ⟨i0,hi0,hli0⟩:∃i,i < e.n/\left i≠0:=by
    refine Classical.byContradiction fun hc=> ?_;have:sumN e.n left=0:=by
     rw[yD (g:=fun _=>0) fun i hi=> ?_,yR];refine Classical.byContradiction fun h=>hc ⟨i,hi,h⟩
    omega
   rcases q1 with ⟨q,rfl,hal,hqlen,hhd,hlst⟩ | ⟨rfl,cols,c1,c2⟩
   ·obtain ⟨⟨i0,c0⟩,q',rfl⟩:∃x q',q=x::q':=by
     cases hal with
     | one=>exact ⟨_,_,rfl⟩
     | cons=>exact ⟨_,_,rfl⟩
    have hqx:=hal.lt;obtain ⟨b1,b2⟩:=hqx (i0,c0) (by simp);simp only[w] at b1 b2 hal hqlen;have hsl:q'.length < ((i0,c0)::q').length:=by simp
    obtain ⟨cl,hcl⟩:∃cl,((i0,c0)::q')[q'.length].2=cl:=⟨_,rfl⟩;have hlast:((i0,c0)::q').getLast?=some (((i0,c0)::q')[q'.length]):=by
     rw[List.getLast?_eq_getElem?,List.getElem?_eq_getElem (by simp)];simp
    have hpc:=hlst _ hlast;have b3:=(hqx _ (yGU hsl)).2;rw[hcl] at hpc b3;simp only[w] at hpc b3;have hpl:=hhd _ rfl;simp only[w] at hpl;have ecl:(AV.int .i64 i0::AV.int .i64 c0::yN q')[2*q'.length+1]?=some (.int .i64 cl):=by
     have:=rN hsl;rw[hcl] at this;exact this
    simp at hqlen;have hwA:IntKind.i64.wrap (2*(q'.length:Int)+1+1 - 1)=((2*q'.length+1:Nat):Int):=by rw[<-zH (n:=2*q'.length+1) (by omega)];congr 1;omega
    have hwB:IntKind.i64.wrap (2*(q'.length:Int)+1)=((2*q'.length+1:Nat):Int):=by rw[<-zH (n:=2*q'.length+1) (by omega)];congr 1
    have hK1:((2*q'.length+1:Nat):Int) < 2*(q'.length:Int)+1+1:=by omega
    have hp0:0 < 2*(q'.length:Int)+1+1:=by omega
    generalize hK:2*q'.length+1=K at hwA hwB hK1 ecl;have n0:¬e.D=e.D+1:=by omega
    have hi1:i0+1<=e.n:=b1;have hc1:cl+1<=e.m:=b3;simp[yN,hp0,hwA,hwB,hK1,ecl,hf.h7,hf.h8,b1,b3,n0,hM.oL,hM.oO];refine yDQ ho (q:=(i0,c0)::q') hqx (by simp;omega) (zGZ hal) (left:=left) (right:=right) (v0:=if right cl < left i0 then right cl else left i0) (fun τ' ω' v g1 g2 g3 g4 g5 g6 g7=> ?_) q'.length 0 _ ω (if right cl < left i0 then right cl else left i0) (by simp;omega) ?_ ?_ ?_ ?_ hM (by split<;>omega) (Int.le_refl _) (fun t h ht=>by omega)
    ·have hv1:v<=left i0:=by split at g6<;>omega
     have hv2:v<=right cl:=by split at g6<;>omega
     have hav:=zXC hal g7;have r1:=hL.cols cl b3;have r2:b cl<=sumN e.m b:=vX hb0 b3;have r3:0<=sumN e.n (fun j=>F j cl):=xG fun j hj=>hL.nn j cl hj b3;have l1:=hll i0 b1;have l2:left i0<=sumN e.n left:=vX hL.lf b1;have hw1:IntKind.i64.wrap (left i0 - v)=left i0 - v:=yO (by omega) (by omega);have hw2:IntKind.i64.wrap (right cl - v)=right cl - v:=yO (by omega) (by omega);have hM1:=g4.setL (upd1 left i0 (left i0 - v));have hM2:=hM1.setO (upd1 right cl (right cl - v));have hb:=hL.bnd (fun k hk=>hb0 k hk) hsb;simp[zJA,g1.h7,g1.h8,g2,g3,yN,hp0,hwA,hwB,hK1,ecl,b1,b3,n0,g4.oL,hi1,tN b1,hw1];generalize updS S e.D e.n (1,.cells (mI e.n (upd1 left i0 (left i0 - v))))=S1 at hM1 hM2;simp[g1.h8,b3,n0,hM1.oO,hc1,tN b3,hw2,g2,g3,yN,hwA,hwB,hK1,ecl];generalize updS S1 e.D (e.n+1) (1,.cells (mI e.m (upd1 right cl (right cl - v))))=S2 at hM2
     refine yDP ho (q:=(i0,c0)::q') (by simp;omega) (left:=upd1 left i0 (left i0 - v)) (right:=upd1 right cl (right cl - v)) (rb:=right) (v:=v) g5 (by omega) (target:=aug v ((i0,c0)::q') F) (fun τ2 ω2 S3 k1 k2=> ?_) q'.length 0 _ _ S2 F i0 c0 q' (by simp;omega) rfl hav hL.cap hb rfl ?_ ?_ ?_ ?_ hM2
     ·have hmv:=zJE (right:=right) g5 ((i0,c0)::q') F hav hL.cap (i0,c0) ((i0,c0)::q')[q'.length] rfl hlast (by rw[hcl];exact hv2);rw[hcl] at hmv;have hL':=hL.mv hmv b1 hv1;have hsum':sumN e.n (upd1 left i0 (left i0 - v))=sumN e.n left+(-v):=lW b1 fun j hj=>by
       unfold upd1;by_cases e1:j=i0
       ·subst e1;rw[if_pos rfl,if_pos rfl];omega
       ·rw[if_neg e1,if_neg e1]
      simp;exact ih _ _ _ τ2 ω2 S3 (by rw[hsum'];omega) hL' k1 k2
     ·repeat (first | exact g1 | refine FE.Fr.upd ?_ _ _)
     all_goals simp[yN,g2,g3]
    ·repeat (first | exact hf | refine FE.Fr.upd ?_ _ _)
    all_goals simp[yN]
   ·have hbq:bq=false:=by
     cases h:bq
     ·rfl
     ·exact absurd (hq.1 h) (hL.cut cols hi0 hli0 (c1 i0 hi0 (by have:=hL.lf i0 hi0;simp only[w];omega)) c2)
    simp[hbq];exact bN (by simp) hM.low
  ·have hbq:bq=true:=hq.2 (hL.feas (pH hL.lf (by omega)) hsum);simp[hz,gZ,hbq];exact bN (by simp) hM.low
theorem zLK (m:Nat) (f:Nat->Int):mI (m+1) f= .int .i64 (f 0)::mI m (fun k=>f (k+1)):=by
 unfold mI;rw[List.range_succ_eq_map];simp[Function.comp_def]
theorem zLI (m:Nat) (f:Nat->Int):newC (mI m f)=mI m f:=by
 unfold newC mI
 induction m with
 | zero=>rfl
 | succ m ih=>rw[List.range_succ];simp[ih,AV.cells,AV.strip1] at*
theorem zLH (m:Nat) (f:Nat->Int):okEl 1 false (mI m f)=true:=by
 unfold okEl mI;simp[AV.cells,AV.one]
theorem zEY {C:zL} {Q:St->Prop} {k:List AI} {N D:Nat} {τ:Nat->AV} {ω:Nat->Ent} {S:Nat->Nat->Ent} {l:List AOper} {d:Nat} {x y:Opd} {z' m:Nat} {f:Nat->Int} (dd i:Nat) (hdd:dd < D) (hx:(stF N D τ ω S).evr x= .sl z' [] .nil) (hy:(stF N D τ ω S).ev y= .sl 1 (mI m f) .no) (hm:0 < m) (hmm:m<=1000)
  (hk:Rd C .pl Q (.ops l::k) (stF N D (upd τ d (.own dd i ((S dd i).1+1) 0 m 1 false)) ω (updS S dd i ((S dd i).1+1,.cells (mI m f))))):
  Rd C .pl Q (.ops (⟨some d,.append 1 8 x y,none⟩::l)::k) (stF N D τ ω S):=by
 obtain ⟨m,rfl⟩:∃m',m=m'+1:=⟨m - 1,by omega⟩;have e1:=zLK m f;refine zHY (y0:= .int .i64 (f 0)) (ys:=mI m (fun k=>f (k+1))) (r:=[]) dd i hdd hx (by rw[hy,e1];simp[uT]) ⟨by rw[<-e1];exact zLH _ _,by unfold zD;simp;omega⟩ ?_;rw[<-e1,zLI,zTP];exact hk
theorem yDR {e:FE} {may} (ho:e.Ok may) (hn0:0 < e.n) {b:Nat->Int} {left right:Nat->Int} {Q:St->Prop} (hk:∀τ ω S,e.Fr τ->e.Mm left right (fun _ _=>0) ω S->Rd (Loc Pg Gl) .pl Q [.c gY] (stF 146 (e.D+1) τ ω S)):
  ∀(j i:Nat) (τ ω S),i+j=e.n->e.Fr τ->τ 1= .sl 1 (mI e.m b) .no->τ 23= .int .i64 e.n->τ 24= .int .i64 i->ω 21=(1,.cells (tZ e.n e.D e.m i))->S e.D e.n=(1,.cells (mI e.n left))->S e.D (e.n+1)=(1,.cells (mI e.m right))->
   (∀j,j < i->S e.D j=(1,.cells (mI e.m fun _=>0)))->(∀j,i<=j->j < e.n->S e.D j=(0,.dead))->(∀d j,d < e.D->S d j=e.S0 d j)->e.S0 e.dM e.sM=(e.gM,.cells e.csM)->
   Rd (Loc Pg Gl) .pl Q [.lp c48_l0,.blk 0,.c gY] (stF 146 (e.D+1) τ ω S):=by
 have hn10:=ho.hn;have hm10:=ho.hm;intro j
 induction j with
 | zero=>
  intro i τ ω S hi hf h1 h23 h24 w21 sL sO sR sD sl sM;obtain rfl:i=e.n:=by omega
  rw[iM] at w21;refine zC c48_l0.eq_1 ?_;simp[h23,h24];refine hk _ ω S ?_ ⟨w21,sL,sO,sR,sl,sM⟩;repeat (first | exact hf | refine FE.Fr.upd ?_ _ _)
 | succ j ih=>
  intro i τ ω S hi hf h1 h23 h24 w21 sL sO sR sD sl sM;have hlt:i < e.n:=by omega
  have hwr:IntKind.i64.wrap ((i:Int)+1)=((i+1:Nat):Int):=zF hlt (by unfold maxLen;omega);have hi1:i+1<=e.n:=hlt;refine zC c48_l0.eq_1 ?_;simp[h23,h24,hlt,hf.h9,h1];refine e8 (m:=e.m) (kx:= .i64) (ky:= .i64) e.D i (by omega) (by simp) (by simp) ⟨by omega,by unfold zD;omega,by unfold zD;omega,rfl,by decide⟩ ?_;simp[h23,h24,hlt,hf.h9,w21,sD i (yGW _) hlt,iL hlt,hwr,hi1,fU];refine ih (i+1) _ _ _ (by omega) ?_ ?_ ?_ ?_ ?_ ?_ ?_ (fun j' hj'=> ?_) (fun j' hj' hj2=> ?_) (fun d j' hd=> ?_) sM
  ·repeat (first | exact hf | refine FE.Fr.upd ?_ _ _)
  ·simp[h1]
  ·simp[h23]
  ·simp
  ·simp
  ·unfold updS;rw[if_neg (by omega)];exact sL
  ·unfold updS;rw[if_neg (by omega)];exact sO
  ·unfold updS;by_cases h:j'=i
   ·subst h;rw[if_pos ⟨rfl,rfl⟩]
   ·rw[if_neg (fun q=>h q.2)];exact sR j' (by omega)
  ·unfold updS;rw[if_neg (by omega)];exact sD j' (by omega) hj2
  ·unfold updS;rw[if_neg (by omega)];exact sl d j' hd
theorem zIL {D n m dM sM gM:Nat} {csM:List AV} {may:Nat->Nat->Bool} (ho:CF D n m dM sM gM csM may) {a b:Nat->Int} (ha:∀i,i < n->0<=a i) (hb:∀k,k < m->0<=b k) (hsa:sumN n a<=2199023255552) (hsum:sumN n a=sumN m b) (hnm:0 < n->0 < m):
  Go.Ab.Loc Pg Gl D 48 [.sl 1 (mI n a) .no,.sl 1 (mI m b) .no,.own dM sM gM 0 n 1 false] [(dM,sM,(gM,.cells csM))] (.bool (w8 n m may a b)) []:=by
 have hn10:=ho.hn;have hm10:=ho.hm;refine zBU zR tok rfl .pl (by simp) rfl (by simp) fun S hS hSD=> ?_;have hmay:=(hS (dM,sM,(gM,.cells csM)) (by simp)).2;generalize hbq:w8 n m may a b=bq;have hq:bq=true↔Feas n m may a b:=by rw[<-hbq];exact wL
 let e:FE:=⟨n,m,D,dM,sM,gM,csM,S⟩
 have hoe:e.Ok may:=⟨ho.hM,ho.hn,ho.hm,ho.hlen,ho.hrow⟩;unfold c48;simp;rcases yHC n with hn0 | hn0
 ·subst hn0;have hb1:bq=true:=hq.2 ⟨fun _ _=>0,fun i k hi _=>by omega,fun i hi=>by omega,fun k hk=>by
   have h1:sumN m b=0:=by rw[<-hsum];rfl
   rw[pH hb h1 k hk];rfl⟩
  refine vC (z':=1) (xs:=[]) (t:= .nil) (ys:=[]) (r:=[]) (by simp) (by simp[zX,mI]) ⟨.inl rfl,by simp,.inr rfl⟩ ?_;simp;refine vC (z':=1) (xs:=[]) (t:= .nil) (ys:=mI m b) (r:=[]) (by simp) (by simp[zX]) ⟨.inl rfl,by simp[zD];omega,.inr rfl⟩ ?_;simp;refine uB (m:=0) (kx:= .i64) (ky:= .i64) (by decide) (by simp) (by simp) ⟨by omega,by unfold zD;omega,by unfold zD;omega,rfl,by decide⟩ ?_;simp;refine zC c48_l0.eq_1 ?_;simp[gY];refine zC c48_l3.eq_1 ?_;simp;refine zE (zAP _ 0 (by omega) (fun _=>0) (fun i hi=>by omega) (by simp[sumN])) (by simp[mI]) ?_;simp[sumN,gZ,hb1];exact bN (e:=e) (by simp) (fun _ _ _=>rfl)
 ·have hm0:=hnm hn0;refine zEY (z':=1) (m:=n) (f:=a) D n (by omega) (by simp) (by simp) hn0 hn10 ?_;simp[hSD];refine zEY (z':=1) (m:=m) (f:=b) D (n+1) (by omega) (by simp) (by simp) hm0 hm10 ?_;simp[hSD,lT];refine uB (m:=n) (kx:= .i64) (ky:= .i64) (by decide) (by simp) (by simp) ⟨by omega,by unfold zD;omega,by unfold zD;omega,rfl,by decide⟩ ?_;simp[iN n D m];refine yDR (e:=e) hoe hn0 (b:=b) (left:=a) (right:=b) (fun τ ω S' hf hM=> ?_) n 0 _ _ _ (yGX _) ⟨?_,?_,?_,?_⟩ ?_ ?_ ?_ ?_ ?_ ?_ (fun j hj=>by omega) (fun j _ hj=> ?_) (fun d j hd=> ?_) hmay
  ·simp[gY];refine yDO (e:=e) hoe hb hsa (show sumN m b<=2199023255552 by omega) hsum hq (sumN n a).toNat a b (fun _ _=>0) τ ω S' (by have:0<=sumN n a:=xG ha;show sumN n a<=_;omega) ⟨fun _ _ _ _=>Int.le_refl _,fun _ _ _ _ h=>absurd rfl h,ha,hb,fun i _=>by show sumN m (fun _=>0)+a i=a i;rw[yR];simp,fun k _=>by show sumN n (fun _=>0)+b k=b k;rw[yR];simp⟩ hf hM
  all_goals simp[e,lT]
  ·rw[if_neg (by simp only[e] at hj;omega),if_neg (by simp only[e] at hj;omega)];exact hSD j
  ·rw[if_neg (by simp only[e] at hd;omega),if_neg (by simp only[e] at hd;omega)]
end Go.Ab.Tab
/- The reference's Related. -/
namespace Go.Ab.Tab
open Go Go.Ab
def zEE (rs:List PI) (u:Va):Prop:=∀(f:Fu) (v:Va) (n m:Nat),zT f=true->valP n u f=true->valP m v f=true->∀(D:Nat),Go.Ab.Loc Pg Gl D 13 [encF f,encV u,encV v,encR rs] [] (.bool (relV (relF rs) u f v)) []
theorem yEA {D:Nat} {rs:List PI} (a a':Int) (gs gs':List Va) (ws ws':List Int) (fs:List Fu) (n m:Nat) (hlen:gs.length<=maxLen) (hl:gs'.length=gs.length) (hfl:fs.length=gs.length) (hfs:∀f∈fs,zT f=true)
  (hu:∀i (h:i < gs.length) (h':i < fs.length),valP n gs[i] fs[i]=true) (hv:∀i (h:i < gs'.length) (h':i < fs.length),valP m gs'[i] fs[i]=true) (hrec:∀x∈gs,zEE rs x) {S:Nat->Nat->Ent}:
  ∀(j i:Nat) (τ ω) (r:AV),i+j=gs.length->τ 3=encR rs->τ 5= .ptr D 5 1 0->τ 6= .ptr D 6 1 0->(∃t,τ 9= .sl 3 (fs.map encF) t)->τ 45= .int .i64 gs.length->τ 46= .int .i64 i->
   ω 5=(1,.cells [.int .i64 a,.sl 3 (gs.map encV) .no,.sl 1 (ws.map (AV.int .i64)) .no])->ω 6=(1,.cells [.int .i64 a',.sl 3 (gs'.map encV) .no,.sl 1 (ws'.map (AV.int .i64)) .no])->
   r= .bool (oE (relF rs) (gs.drop i) (fs.drop i) (gs'.drop i))->Rd (Loc Pg Gl) .im (RetQ [.tmp 8] r S) [.lp c13_l0,.blk 0,.c zDW,.c zDV] (stF 144 D τ ω S):=by
 intro j
 induction j with
 | zero=>
  intro i τ ω r hi h3 h5 h6 h9 h45 h46 w5 w6 hr;obtain rfl:i=gs.length:=by omega
  rw[List.drop_length,vH] at hr;refine zC c13_l0.eq_1 ?_;simp[h45,h46,zDW,hr]
 | succ j ih=>
  intro i τ ω r hi h3 h5 h6 h9 h45 h46 w5 w6 hr;obtain ⟨t9,h9⟩:=h9;have hlt:i < gs.length:=by omega
  have hlt':i < gs'.length:=by omega
  have hltf:i < fs.length:=by omega
  have hwr:=zF hlt hlen;rw[yHA hlt,yHA hlt',yHA hltf,vJ] at hr;cases t9;all_goals
   refine zC c13_l0.eq_1 ?_;simp[h3,h5,h6,h9,h45,h46,w5,w6,hlt,hlt',hltf,zB fs[i],zA gs[i],zA gs'[i],encR];refine zZ (hrec gs[i] (yGU hlt) fs[i] gs'[i] n m (hfs _ (yGU hltf)) (hu i hlt hltf) (hv i hlt' hltf) (D+1)) (by simp[AV.strip,zB fs[i],zA gs[i],zA gs'[i],encR]) ?_;cases hb:relV (relF rs) gs[i] fs[i] gs'[i]
   ·rw[hb] at hr;simp[hr]
   ·rw[hb,Bool.true_and] at hr;simp[h46,hwr];refine ih (i+1) _ ω r (by omega) ?_ ?_ ?_ (by first | (refine ⟨.no,?_⟩;simp[h9];done) | (refine ⟨.nil,?_⟩;simp[h9];done) | (refine ⟨.tip,?_⟩;simp[h9];done)) ?_ ?_ w5 w6 hr;all_goals simp[h3,h5,h6,h45,encR]
structure QE where
 D:Nat
 rs:List PI
 k:Int
 N:Int
 g:Fu
 a:Int
 gs:List Va
 ws:List Int
 a':Int
 gs':List Va
 ws':List Int
 n:Nat
 m:Nat
structure QE.Ok (e:QE):Prop where
 hg:zT e.g=true
 hu:∀i (h:i < e.gs.length),valP e.n e.gs[i] e.g=true
 hv:∀i (h:i < e.gs'.length),valP e.m e.gs'[i] e.g=true
 hl:e.gs.length<=100
 hl':e.gs'.length<=100
 hrec:∀x∈e.gs,zEE e.rs x
structure QE.Fr (e:QE) (τ:Nat->AV):Prop where
 h3:τ 3=encR e.rs
 h4:τ 4= .ptr e.D 4 1 0
 h5:τ 5= .ptr e.D 5 1 0
 h6:τ 6= .ptr e.D 6 1 0
 h12:τ 12= .own e.D 70 1 0 e.gs.length 1 false
 h72:τ 72= .int .i64 e.gs.length
theorem QE.Fr.upd {e:QE} {τ:Nat->AV} (h:e.Fr τ) (d:Nat) (v:AV) (hd:¬(d=3\/d=4\/d=5\/d=6\/d=12\/d=72):=by decide):e.Fr (upd τ d v):=by
 refine ⟨?_,?_,?_,?_,?_,?_⟩<;>rw[vE,if_neg (by omega)]
 ·exact h.h3
 ·exact h.h4
 ·exact h.h5
 ·exact h.h6
 ·exact h.h12
 ·exact h.h72
structure QE.Ob (e:QE) (cnt:Nat->Nat) (mf:Nat->Nat->Bool) (ω:Nat->Ent):Prop where
 o4:ω 4=(1,.cells [.int .i64 e.k,.int .i64 e.N,.sl 3 [encF e.g] .no])
 o5:ω 5=(1,.cells [.int .i64 e.a,.sl 3 (e.gs.map encV) .no,.sl 1 (e.ws.map (AV.int .i64)) .no])
 o6:ω 6=(1,.cells [.int .i64 e.a',.sl 3 (e.gs'.map encV) .no,.sl 1 (e.ws'.map (AV.int .i64)) .no])
 o70:ω 70=(1,.cells (mayC e.gs.length cnt mf))
noncomputable def QE.mf (e:QE):Nat->Nat->Bool:=mAt (relM (relF e.rs) e.gs e.g e.gs')
theorem yDZ {e:QE} (ho:e.Ok) {S:Nat->Nat->Ent} {Q:St->Prop} {rest:List AI} {i:Nat} (hi:i < e.gs.length)
  (hk:∀τ ω,e.Fr τ->τ 73= .int .i64 i->e.Ob (cntI (i+1) 0 e.gs'.length) e.mf ω->Rd (Loc Pg Gl) .im Q rest (stF 144 e.D τ ω S)):
  ∀(j c:Nat) (τ ω),c+j=e.gs'.length->e.Fr τ->τ 73= .int .i64 i->τ 13= .int .i64 i->τ 77= .sl 3 (e.gs'.map encV) .no->τ 78= .int .i64 e.gs'.length->τ 79= .int .i64 c->
   e.Ob (cntI i c e.gs'.length) e.mf ω->Rd (Loc Pg Gl) .im Q (.lp c13_l1:: .blk 4::rest) (stF 144 e.D τ ω S):=by
 intro j
 induction j with
 | zero=>
  intro c τ ω hc hf h73 h13 h77 h78 h79 hO;obtain rfl:c=e.gs'.length:=by omega
  refine zC c13_l1.eq_1 ?_;simp[h78,h79];refine hk _ ω ?_ (by simp[h73]) ⟨hO.o4,hO.o5,hO.o6,by rw[hO.o70,iW]⟩;repeat (first | exact hf | refine QE.Fr.upd ?_ _ _)
 | succ j ih=>
  intro c τ ω hc hf h73 h13 h77 h78 h79 hO;have hlt:c < e.gs'.length:=by omega
  have hl:=ho.hl;have hl':=ho.hl';have hwr:IntKind.i64.wrap ((c:Int)+1)=((c+1:Nat):Int):=zF hlt (by unfold maxLen;omega);have hi1:i+1<=e.gs.length:=hi;have hcnt:cntI i c e.gs'.length i=c:=by unfold cntI;rw[if_neg (Nat.lt_irrefl _),if_pos rfl]
  have hrel:relV (relF e.rs) e.gs[i] e.g e.gs'[c]=e.mf i c:=(k7 hi hlt).symm;refine zC c13_l1.eq_1 ?_;have hb:rowE (c+1) (e.mf i)= .sl 1 (mB c (e.mf i)++[.bool (e.mf i c)]) .tip:=by rw[zBS];rfl
  have hput:=d9 (c:=c) (m:=e.gs'.length) hi e.mf;rw[hb] at hput;have hcm:c+1<=1099511627776:=by omega
  rcases yHC c with hc0 | hc0
  ·subst hc0;simp[hf.h3,hf.h4,hf.h5,hf.h6,hf.h12,h13,h77,h78,h79,hO.o4,hO.o5,hO.o6,hO.o70,hlt,hi,zA e.gs'[0],zA e.gs[i],zB e.g,hcnt,rowE,mB,encR];refine zZ (ho.hrec e.gs[i] (yGU hi) e.g e.gs'[0] e.n e.m ho.hg (ho.hu i hi) (ho.hv 0 hlt) (e.D+1)) (by simp[AV.strip,zB e.g,zA e.gs[i],zA e.gs'[0],encR]) ?_;rw[hrel];simp[mB] at hput;simp[hi,hi1,hput,hwr,h79];refine ih 1 _ _ (by omega) ?_ ?_ ?_ ?_ ?_ ?_ ⟨?_,?_,?_,?_⟩
   ·repeat (first | exact hf | refine QE.Fr.upd ?_ _ _)
   all_goals simp[h73,h13,h77,h78,hO.o4,hO.o5,hO.o6,tA,tH,hput,pF]
  ·have hc0':¬c=0:=by omega
   simp[hf.h3,hf.h4,hf.h5,hf.h6,hf.h12,h13,h77,h78,h79,hO.o4,hO.o5,hO.o6,hO.o70,hlt,hi,zA e.gs'[c],zA e.gs[i],zB e.g,hcnt,rowE,hc0',encR];refine zZ (ho.hrec e.gs[i] (yGU hi) e.g e.gs'[c] e.n e.m ho.hg (ho.hu i hi) (ho.hv c hlt) (e.D+1)) (by simp[AV.strip,zB e.g,zA e.gs[i],zA e.gs'[c],encR]) ?_;rw[hrel];simp[hi,hi1,hput,hwr,h79,hcm];refine ih (c+1) _ _ (by omega) ?_ ?_ ?_ ?_ ?_ ?_ ⟨?_,?_,?_,?_⟩
   ·repeat (first | exact hf | refine QE.Fr.upd ?_ _ _)
   all_goals simp[h73,h13,h77,h78,hO.o4,hO.o5,hO.o6,tA,tH,hput,pF]
theorem yDY {e:QE} (ho:e.Ok) {S:Nat->Nat->Ent} {Q:St->Prop}
  (hk:∀τ ω,e.Fr τ->e.Ob (cntI e.gs.length 0 e.gs'.length) e.mf ω->Rd (Loc Pg Gl) .im Q [.c lJ] (stF 144 e.D τ ω S)):
  ∀(j i:Nat) (τ ω),i+j=e.gs.length->e.Fr τ->τ 73= .int .i64 i->e.Ob (cntI i 0 e.gs'.length) e.mf ω->Rd (Loc Pg Gl) .im Q [.lp c13_l2,.blk 2,.c lJ] (stF 144 e.D τ ω S):=by
 intro j
 induction j with
 | zero=>
  intro i τ ω hi hf h73 hO;obtain rfl:i=e.gs.length:=by omega
  refine zC c13_l2.eq_1 ?_;simp[hf.h72,h73];refine hk _ ω ?_ hO;repeat (first | exact hf | refine QE.Fr.upd ?_ _ _)
 | succ j ih=>
  intro i τ ω hi hf h73 hO;have hlt:i < e.gs.length:=by omega
  have hl:=ho.hl;have hwr:IntKind.i64.wrap ((i:Int)+1)=((i+1:Nat):Int):=zF hlt (by unfold maxLen;omega);refine zC c13_l2.eq_1 ?_;simp[hf.h72,hf.h6,h73,hlt,hO.o6];refine yDZ ho hlt (fun τ' ω' g1 g2 g3=> ?_) e.gs'.length 0 _ _ (yGX _) ?_ ?_ ?_ ?_ ?_ ?_ hO
  ·simp[zJD,g2,hwr];refine ih (i+1) _ ω' (by omega) ?_ (by simp) g3;repeat (first | exact g1 | refine QE.Fr.upd ?_ _ _)
  ·repeat (first | exact hf | refine QE.Fr.upd ?_ _ _)
  all_goals simp[h73]
end Go.Ab.Tab
/- The reference's Related: the contract. -/
namespace Go.Ab.Tab
open Go Go.Ab
theorem zFH {ws:List Int} (h:∀w∈ws,1<=w) (h0:0 < ws.length):0 < sumW ws:=by
 cases ws with
 | nil=>simp at h0
 | cons w l=>
  rw[sumW];have h1:=h w (by simp);have h2:=wE (l:=l) fun x hx=>by have:=h x (by simp[hx]);omega
  omega
theorem oJ {k N:Int} {fg:List Fu} {n:Nat} {a:Int} {gs:List Va} {ws:List Int} (hsh:zT (.mk k N fg)=true) (hs:sets k=false) (h0:k≠0) (f:VF n a gs ws k N fg):(zQ (.mk k N fg) (.mk a gs ws)).length=gs.length:=by
 obtain ⟨hl,_⟩:=xH hsh;rw[zK];rcases oY hsh with rfl | rfl | rfl | rfl | rfl | rfl | rfl | rfl
 ·exact absurd rfl h0
 ·rw[f.con rfl];rfl
 ·have e2:arK 2=2:=rfl;rw[e2] at hl;have:=(f.two rfl).1;simp;omega
 ·have e2:arK 3=2:=rfl;rw[e2] at hl;obtain ⟨h1,h2⟩:=f.sum rfl;have hna:¬(a < 0\/1 < a):=by omega
  simp[hna];rcases h2 with rfl | rfl<;>simp<;>omega
 ·have:=(f.exp rfl).1;simp;omega
 ·exact absurd hs (by decide)
 ·exact absurd hs (by decide)
 ·exact absurd hs (by decide)
theorem bV {k N:Int} {fg:List Fu} {a:Int} {gs gs':List Va} {ws ws':List Int} (hsh:zT (.mk k N fg)=true) (hs:sets k=false):zQ (.mk k N fg) (.mk a gs ws)=zQ (.mk k N fg) (.mk a gs' ws'):=by
 rw[zK,zK];by_cases h0:k=0\/k=1
 ·rw[if_pos h0,if_pos h0]
 rw[if_neg h0,if_neg h0];by_cases h2:k=2
 ·rw[if_pos h2,if_pos h2]
 rw[if_neg h2,if_neg h2];by_cases h3:k=3
 ·rw[if_pos h3,if_pos h3]
 rw[if_neg h3,if_neg h3];by_cases h4:k=4
 ·rw[if_pos h4,if_pos h4]
 exfalso;rcases oY hsh with rfl | rfl | rfl | rfl | rfl | rfl | rfl | rfl
 ·exact h0 (.inl rfl)
 ·exact h0 (.inr rfl)
 ·exact h2 rfl
 ·exact h3 rfl
 ·exact h4 rfl
 ·exact absurd hs (by decide)
 ·exact absurd hs (by decide)
 ·exact absurd hs (by decide)
theorem zTC (rs:List PI) (hrs:rs.length<=maxLen):∀u,zEE rs u:=by
 refine Va.ind' fun a gs ws hrec=> ?_;intro f v n m hsh hu hv D;obtain ⟨a',gs',ws'⟩:=v;obtain ⟨k,N,fg⟩:=f;have fu:=zHC hsh hu;have fv:=zHC hsh hv;obtain ⟨hl,hn1,hn2,hfs⟩:=xH hsh;refine z0 zR tok rfl rfl fun S=> ?_;have he:encF (.mk k N fg)= .agg [.int .i64 k,.int .i64 N,.sl 3 (fg.map encF) .no]:=zI _ _ _;have hv1:encV (.mk a gs ws)= .agg [.int .i64 a,.sl 3 (gs.map encV) .no,.sl 1 (ws.map (AV.int .i64)) .no]:=zG _ _ _;rw[zG,zG,zI];unfold c13;generalize hr:AV.bool (relV (relF rs) (.mk a gs ws) (.mk k N fg) (.mk a' gs' ws'))=r;by_cases h0:k=0
 ·subst h0;rw[oG] at hr;simp[Fu.k,Va.n] at hr;simp[encR];refine zE (zSR _ rs hrs (a,a')) (by simp[encR,encP]) ?_;simp[<-hr,relF]
 by_cases hs:sets k=true
 ·rw[l9 hs] at hr;have hk':k=5\/k=6\/k=7:=by simpa[sets,wtd] using hs
  obtain ⟨g,rfl⟩:∃g,fg= [g]:=by
   have e1:arK k=1:=by rcases hk' with rfl | rfl | rfl<;>rfl
   rw[e1] at hl
   match fg,hl with
   | [g],_=>exact ⟨g,rfl⟩
  obtain ⟨s1,s2⟩:=fu.set hs;obtain ⟨s3,s4⟩:=fv.set hs;have pu:∀i (h:i < gs.length),valP n gs[i] g=true:=by
   intro i h;have:=fu.sub i h (by rw[zK];rcases hk' with rfl | rfl | rfl<;>simp[h])
   rw[show (zQ (.mk k N [g]) (.mk a gs ws))[i]'(by rw[zK];rcases hk' with rfl | rfl | rfl<;>simp[h])=g from by
    simp only[zK];rcases hk' with rfl | rfl | rfl<;>simp] at this
   exact this
  have pv:∀i (h:i < gs'.length),valP m gs'[i] g=true:=by
   intro i h;have:=fv.sub i h (by rw[zK];rcases hk' with rfl | rfl | rfl<;>simp[h])
   rw[show (zQ (.mk k N [g]) (.mk a' gs' ws'))[i]'(by rw[zK];rcases hk' with rfl | rfl | rfl<;>simp[h])=g from by
    simp only[zK];rcases hk' with rfl | rfl | rfl<;>simp] at this
   exact this
  let e:QE:=⟨D,rs,k,N,g,a,gs,ws,a',gs',ws',n,m⟩
  have ho:e.Ok:=⟨hfs g (by simp),pu,pv,s1,s3,hrec⟩;have hmx:(gs.length:Int)*24<=1099511627776:=by omega
  have hmx1:(gs.length:Int)<=1099511627776:=by omega
  simp[h0,encR];refine zE (dS _ k) (by simp) ?_;simp[hs,zDV,zD,hmx,hmx1,dW gs.length gs'.length e.mf];have hcf:CF (D+1) gs.length gs'.length D 70 1 (mayC gs.length (cntI gs.length 0 gs'.length) e.mf) e.mf:=by
   refine ⟨yGZ _,by omega,by omega,by simp,fun i hi=> ?_⟩;rw[cA hi];have:cntI gs.length 0 gs'.length i=gs'.length:=by unfold cntI;rw[if_pos hi]
   rw[this];exact ⟨_,rfl⟩
  refine yDY (e:=e) ho (fun τ ω hf hO=> ?_) gs.length 0 _ _ (yGX _) ⟨?_,?_,?_,?_,?_,?_⟩ ?_ ⟨?_,?_,?_,?_⟩
  ·change Rd (Loc Pg Gl) .im (RetQ [.tmp 8] r S) [.c lJ] (stF 144 D τ ω S);have look:∀{τ':Nat->AV} (x:Nat×Nat×Ent),x∈[(D,70,(1,Ob.cells (mayC gs.length (cntI gs.length 0 gs'.length) e.mf)))]->x.1<=D/\(x.1=D->x.2.1 < 144)/\(stF 144 D τ' ω S).look x.1 x.2.1=x.2.2:=by
    intro τ' x hx;simp at hx;subst hx;refine ⟨yGW _,fun _=>by simp,?_⟩;simp[zS,hO.o70];rfl
   have hf4:=hf.h4;have hf5:=hf.h5;have hf6:=hf.h6;have hf12:=hf.h12;have ho4:=hO.o4;have ho5:=hO.o5;have ho6:=hO.o6;simp only[e] at hf4 hf5 hf6 hf12 ho4 ho5 ho6;by_cases h5:k=5
   ·subst h5;simp[lJ,hf4,ho4,hf6,ho6,hf12];refine yE (zSQ hcf) (by simp[AV.strip]) look (by simp) ?_;simp[<-hr,relS,QE.mf,e,Va.gs,Va.ws]
   ·have hw:wtd k=true:=by rcases hk' with rfl | rfl | rfl<;>first | exact absurd rfl h5 | rfl
    obtain ⟨w1,w2,w3⟩:=fu.wgt hw;obtain ⟨w4,w5,w6⟩:=fv.wgt hw;have nu:∀i,i < gs.length->0<=wAt ws i:=fun i hi=>by have:=w2 _ (lR (ws:=ws) (i:=i) (by omega));omega
    have nv:∀i,i < gs'.length->0<=wAt ws' i:=fun i hi=>by have:=w5 _ (lR (ws:=ws') (i:=i) (by omega));omega
    have tu:sumN gs.length (wAt ws)=sumW ws:=by rw[<-w1];exact sY ws
    have tv:sumN gs'.length (wAt ws')=sumW ws':=by rw[<-w4];exact sY ws'
    have su0:0<=sumW ws:=by rw[<-tu];exact xG nu
    have sv0:0<=sumW ws':=by rw[<-tv];exact xG nv
    have iu:ws.map (AV.int .i64)=mI gs.length (wAt ws):=by rw[qD,w1]
    have iv:ws'.map (AV.int .i64)=mI gs'.length (wAt ws'):=by rw[qD,w4]
    simp[lJ,hf4,ho4,hf5,ho5,hf6,ho6,hf12,h5];refine zZ (zAP _ gs.length (by omega) (wAt ws) nu (by rw[tu];omega)) (by simp[iu]) ?_;simp[hf6,ho6];refine zZ (zAP _ gs'.length (by omega) (wAt ws') nv (by rw[tv];omega)) (by simp[iv]) ?_;simp[hf4,ho4,tu,tv];by_cases h6:k=6
    ·have hrr:r= .bool (w8 gs.length gs'.length e.mf (wAt ws) (wAt ws')):=by
      rw[<-hr];simp only[relS,if_neg h5,if_pos h6,Va.gs,Va.ws];rfl
     by_cases hsm:sumW ws=sumW ws'
     ·simp[h6,hsm,hf5,ho5,hf6,ho6,hf12];refine yE (zIL hcf (a:=wAt ws) (b:=wAt ws') nu nv (by rw[tu];omega) (by rw[tu,tv,hsm]) (fun h=> ?_)) (by simp[AV.strip,iu,iv]) look (by simp) ?_
      ·have:=zFH w2 (by omega);refine Classical.byContradiction fun hc=> ?_;have:ws'= []:=List.eq_nil_of_length_eq_zero (by omega);rw[this] at hsm;simp[sumW] at hsm;omega
      simp[hrr]
     ·have hfl:w8 gs.length gs'.length e.mf (wAt ws) (wAt ws')=false:=by
       cases hh:w8 gs.length gs'.length e.mf (wAt ws) (wAt ws')
       ·rfl
       ·exact absurd (by rw[<-tu,<-tv];exact cP (wL.1 hh)) hsm
      simp[h6,hsm,hrr,hfl]
    ·have h7:k=7:=by omega
     have hrr:r= .bool (w8 gs.length gs'.length e.mf (fun i=>wAt ws i*sumW ws') (fun k=>wAt ws' k*sumW ws)):=by
      rw[<-hr];simp only[relS,if_neg h5,if_neg h6,Va.gs,Va.ws];rfl
     have ne1:0 < gs.length:=yHD.2 (fu.ne h7);have ne2:0 < gs'.length:=yHD.2 (fv.ne h7);have hprod:sumW ws*sumW ws'<=1099511627776:=by
      have:=Int.mul_le_mul w3 w6 sv0 (by omega);omega
     have su1:sumN gs.length (fun i=>wAt ws i*sumW ws')=sumW ws*sumW ws':=by rw[sZ,tu]
     have sv1:sumN gs'.length (fun i=>wAt ws' i*sumW ws)=sumW ws'*sumW ws:=by rw[sZ,tv]
     have pu1:∀i,i < gs.length->0<=wAt ws i*sumW ws':=fun i hi=>Int.mul_nonneg (nu i hi) sv0;have pv1:∀i,i < gs'.length->0<=wAt ws' i*sumW ws:=fun i hi=>Int.mul_nonneg (nv i hi) su0;have hcomm:=Int.mul_comm (sumW ws') (sumW ws);simp[h6,hf5,ho5,hf6,ho6,hf12];refine zZ (zIK _ gs.length (by omega) (wAt ws) (sumW ws') (fun i hi=>⟨pu1 i hi,by
      have:=vX (f:=fun i=>wAt ws i*sumW ws') pu1 hi;rw[su1] at this;omega⟩)) (by simp[iu]) ?_
     simp[hf6,ho6];refine zZ (zIK _ gs'.length (by omega) (wAt ws') (sumW ws) (fun i hi=>⟨pv1 i hi,by
      have:=vX (f:=fun i=>wAt ws' i*sumW ws) pv1 hi;rw[sv1] at this;omega⟩)) (by simp[iv]) ?_
     simp[hf12];refine zY (zIL hcf (a:=fun i=>wAt ws i*sumW ws') (b:=fun k=>wAt ws' k*sumW ws) pu1 pv1 (by rw[su1];omega) (by rw[su1,sv1,hcomm]) (fun _=>ne2)) (by simp[AV.strip]) look (by simp) ?_;simp[hrr]
  all_goals simp[e,encR]
 ·have hs':sets k=false:=by simpa using hs
  rw[mJ h0 hs'] at hr;simp only[Va.n,Va.gs] at hr;simp[h0,encR];refine zE (dS _ k) (by simp) ?_;by_cases haa:a=a'
  ·subst haa;have l1:=oJ hsh hs' h0 fu;have l2:=oJ hsh hs' h0 fv;have hps:=bV (a:=a) (gs:=gs) (gs':=gs') (ws:=ws) (ws':=ws') hsh hs';have hgl:gs.length<=100:=by
    rcases oY hsh with rfl | rfl | rfl | rfl | rfl | rfl | rfl | rfl
    ·exact absurd rfl h0
    ·rw[fu.con rfl];simp
    ·have:=(fu.two rfl).1;omega
    ·have:=(fu.sum rfl).1;omega
    ·have:=(fu.exp rfl).1;have e1:y7 4=4:=rfl;omega
    ·exact absurd hs' (by decide)
    ·exact absurd hs' (by decide)
    ·exact absurd hs' (by decide)
   simp[hs',encR];refine zE (dR _ (.mk k N fg) hsh (.mk a gs ws) (by simp only[Va.gs];omega)) (by simp[zI,zG]) ?_;unfold oI;simp;refine yEA (rs:=rs) a a gs gs' ws ws' (zQ (.mk k N fg) (.mk a gs ws)) n m (by unfold maxLen;omega) (by rw[<-l2,<-hps,l1]) l1 (xW hsh (.mk a gs ws)) (fun i h h'=>fu.sub i h h') (fun i h h'=>by
    have:=fv.sub i h (by rw[<-hps];exact h');simpa only[<-hps] using this) hrec gs.length 0 _ _ r (yGX _) ?_ ?_ ?_ ⟨.no,?_⟩ ?_ ?_ ?_ ?_ ?_
   all_goals simp[encR]
   rw[<-hr];simp
  ·simp[haa] at hr;simp[hs',haa,<-hr]
end Go.Ab.Tab
/- bisim.of,bisim.Related. -/
namespace Go.Ab.Tab
open Go Go.Ab
def RetV (rs:List RV) (r:AV) (D:Nat) (S:Nat->Nat->Ent) (dl:List (Nat×Nat×Ent)):St->Prop:=fun s'=>uF s' rs=some [r]/\∀d i,d≠D->s'.S d i=upds S dl d i
theorem eC {P:Program} {G:Nat->Option (List AV)} {L:xA} (hm:PGood P) {f:FuncId} {fn:Func} {code:Code} {ac:AC} {rs:List RV} {args:List AV} {M dl:List (Nat×Nat×Ent)} {r:AV}
  (hf : P.funcs[f]? = some fn) (hb : fn.body = some code) (hn : (fn.name == "runtime.NumGoroutine") = false) (hc : comp P G L code = some ac) (hrs : xX P fn.results.toList = some rs)
  {D d1:Nat} (hd1:d1 < D) (hu:r.upto d1 20=true) (ht:r.dull) (h:∀S,(∀m∈M,m.1 < D/\S m.1 m.2.1=m.2.2)->Run (Go.Ab.Loc P G) (RetV rs r D S dl) [.c ac] (St.start fn.ntmps args D S)):
  Go.Ab.Loc P G D f args M r dl:=by
 refine .inl ⟨hm.ne hf,?_⟩;refine ⟨⟨fn,hf,by rw[hb];rfl,hn⟩,fun prot w0 E0 E w S vs hok hM=> ?_⟩;intro cs
 let b:Frame:={(default:Frame) with fn:=f,kind:= .normal}
 let a:Act:={tmps:=vs++Array.replicate (fn.ntmps - vs.size) undef,defers:=[]}
 have henter:Frame.enter P f vs .normal=b.atR a [.code code]:=by
  simp[Frame.enter,Frame.atR,hf,hb,b,a];try rfl
 obtain ⟨wy,todo,a',w',E1,s',⟨q0,qe⟩,q3',q4,q5,q6,q7⟩:=(oB (L:=L) (kc0:=[]) hm (h S hM)).1 _ (.c hc .nil) b (by simp[b]) cs a w E (lY fn.ntmps hok);have hbn:b.roundOf=none:=rfl;obtain ⟨⟨m2,m4⟩,q3⟩:(RetV rs r D S dl s')/\Steps P (lone (b.atR a [.code code]) cs w) (lone {b.atR a' todo with mode:= .returning} cs w'):=by
  cases qe with
  | fall=>exact ⟨q0,q3'.trans (.one (stepR_end hbn))⟩
  | ret k=>exact ⟨q0,q3'.trans (.one (stepR_ret hbn))⟩
  | exit _=>exact q0.elim
  | stop _ _=>exact q0.elim
 have hsD:s'.D=D:=q7;obtain ⟨us,r1,r2,r3⟩:=l4 q5 hrs m2;rcases us with _ | ⟨u,_ | ⟨u',us⟩⟩<;>simp at r2
 have hres:(results fn a'.tmps).run P w'= .ok u w':=vS (P:=P) (w:=w') r1;have hrel:Rel E1 r u:=(r3 0 r u rfl rfl).1;have e4:=zIT (S':=upds S dl) hok q4.1 q5 hsD (fun d i hd=>by rw[St.look,if_neg (by rw[hsD];exact hd)];exact m4 d i hd) ((hrel.upto 20 hu).mono (GE.to_cut q4.1 hd1)) (fun z n ad cap h=>(h.dull ht).elim);rw[<-henter] at q3;exact ⟨.returned _,w',_,⟨_,E.cut E1 D,rfl,fun b o x hx=>q4.1.1 _ _ _ hx,GE.leC_cut q4.1,fun d i g B hb=>q4.1.3 _ _ _ _ hb,e4⟩,q3,rfl,rfl,q6,rfl,fn,hf,hres⟩
theorem zLL {f n:Nat} {ac:AC} {rs:List RV} {own:Bool} (hc:T f=some ⟨n,ac,rs,own⟩) {args:List AV} {M dl:List (Nat×Nat×Ent)} {r:AV} {D d1:Nat} (md:Md) (hmd:md≠ .rn) (hl:Nat.ble args.length n=true)
  (hd1:d1 < D) (hu:r.upto d1 20=true) (ht:r.dull)
  (h:∀S,(∀m∈M,m.1 < D/\S m.1 m.2.1=m.2.2)->Rd (Go.Ab.Loc Pg Gl) md (RetV rs r D S dl) [.c ac] (stF n D (uY 0 args) (fun _=>(0,.dead)) S)):Go.Ab.Loc Pg Gl D f args M r dl:=by
 obtain ⟨fn,code,t1,t2,t3,t4,t5,t6⟩:=tok f _ hc;refine eC (L:=Lx) zR t1 t2 t3 t4 t5 hd1 hu ht fun S hS=> ?_;rw[t6,vF _ _ _ _ (Nat.le_of_ble_eq_true hl)];exact (h S hS).run hmd
theorem zBT {p q r:PI} (h1:ltP p q=true) (h2:ltP q r=true):ltP p r=true:=by
 unfold ltP at*;simp at*;omega
theorem zTS {p q:PI} (h:ltP p q=true):¬q=p:=by
 intro e;subst e;unfold ltP at h;simp at h
theorem iP {n m:Int}:∀{rs:List PI} {q:PI},y1 n m (some q) rs=true->∀p∈rs,ltP q p=true
 | [],_,_,p,hp=>by cases hp
 | x::l,q,h,p,hp=>by
  rw[y1] at h;simp only[yGY] at h;rcases List.mem_cons.1 hp with rfl | hp
  ·exact h.2.1
  ·exact zBT h.2.1 (iP h.2.2 p hp)
theorem iO {n m:Int}:∀{rs:List PI} {o:Option PI},y1 n m o rs=true->∀(c:Nat) (h:c < rs.length),hasP (rs.take c) rs[c]=false
 | [],_,_,c,h=>by simp at h
 | x::l,o,h,0,_=>rfl
 | x::l,o,h,c+1,hc=>by
  have h2:y1 n m (some x) l=true:=by
   cases o with
   | none=>rw[y1] at h;simp only[yGY] at h;exact h.2
   | some q=>rw[y1] at h;simp only[yGY] at h;exact h.2.2
  have hc':c < l.length:=by simpa using hc
  have ih:=iO h2 c hc';have hlt:=iP h2 l[c] (yGU hc');simp only[List.take_succ_cons,yHB,hasP,List.any_cons];rw[decide_eq_false (zTS hlt),Bool.false_or];exact ih
theorem aF (rs:List PI) (c:Nat) (h:c < rs.length):v6 (rs.take c)++[(encP rs[c],.bool true)]=v6 (rs.take (c+1)):=by
 unfold v6;rw[List.take_succ_eq_append_getElem h,List.map_append];rfl
theorem l36 {D d1 i g:Nat} {rs:List PI} (hlen:rs.length<=maxLen) (hd:d1 < D) (hnew:∀(c:Nat) (h:c < rs.length),hasP (rs.take c) rs[c]=false) {S0:Nat->Nat->Ent}:
  ∀(j c:Nat) (τ ω S),c+j=rs.length->τ 3= .mp d1 i (g+1)->τ 7=encR rs->τ 8= .int .i64 rs.length->τ 9= .int .i64 c->S d1 i=(g+1,.mp (v6 (rs.take c)))->(∀a b,¬(a=d1/\b=i)->S a b=S0 a b)->
   Rd (Loc Pg Gl) .pl (RetV [.tmp 2] (.mp d1 i (g+1)) D S0 [(d1,i,(g+1,.mp (v6 rs)))]) [.lp c36_l0,.blk 0,.c zDT] (stF 17 D τ ω S):=by
 have hne:¬d1=D:=by omega
 intro j
 induction j with
 | zero=>
  intro c τ ω S hc h3 h7 h8 h9 hS hS0;obtain rfl:c=rs.length:=by omega
  refine zC c36_l0.eq_1 ?_;simp[h3,h7,h8,h9,zDT];refine ⟨by simp[uF,pC,pZ],fun a b hab=> ?_⟩
  show S a b=updS S0 d1 i (g+1,.mp (v6 rs)) a b
  unfold updS;split
  ·rename_i hq;rw[hq.1,hq.2,hS,List.take_length]
  ·rename_i hq;exact hS0 a b hq
 | succ j ih=>
  intro c τ ω S hc h3 h7 h8 h9 hS hS0;have hlt:c < rs.length:=by omega
  have hwr:=zF hlt hlen;have hev:encP rs[c]= .agg [.int .i64 rs[c].1,.int .i64 rs[c].2]:=rfl;have hmf:wZ 2 [.int .i64 rs[c].1,.int .i64 rs[c].2] (v6 (rs.take c))=some none:=by
   rw[f9];rw[show (rs[c].1,rs[c].2)=rs[c] from rfl,hnew c hlt];rfl
  have het:=aF rs c hlt;rw[hev] at het;refine zC c36_l0.eq_1 ?_;simp[h3,h7,h8,h9,hlt,encR,hev];refine rV (by decide) ?_;simp[h3,h7,h8,h9,hlt,encR,hev,hne,hS,keyC,AV.plain1,AV.still2,hmf,hwr,het];refine ih (c+1) _ _ _ (by omega) ?_ ?_ ?_ ?_ ?_ (fun a b hab=> ?_)
  ·simp[h3]
  ·simp[h7,encR,hev]
  ·simp[h8]
  ·simp
  ·simp
  ·unfold updS;rw[if_neg hab];exact hS0 a b hab
theorem zSX {rs:List PI} {n m:Int} (hlen:rs.length<=maxLen) (hok:y1 n m none rs=true) (D d1 i g:Nat) (hd:d1 < D):Go.Ab.Loc Pg Gl D 36 [encR rs] [(d1,i,(g,.dead))] (.mp d1 i (g+1)) [(d1,i,(g+1,.mp (v6 rs)))]:=by
 have hne:¬d1=D:=by omega
 refine zLL rfl .pl (by simp) rfl hd (by simp[AV.upto]) trivial fun S hS=> ?_;have h1:=(hS (d1,i,(g,.dead)) (by simp)).2;unfold c36;simp[encR];refine zEL d1 i hd ?_;simp[h1];refine l36 hlen hd (fun c h=>iO hok c h) rs.length 0 _ _ _ (yGX _) ?_ ?_ ?_ ?_ ?_ (fun a b hab=> ?_)
 ·simp
 ·simp[encR]
 ·simp
 ·simp
 ·simp[updS,v6]
 ·unfold updS;rw[if_neg hab]
noncomputable def relR (f:Fu) (n m:Int) (u v:Va) (rs:List PI):Bool×Int:=
 if isF f=false then (false,10) else if n < 0\/100 < n\/m < 0\/100 < m then (false,1) else if valV f n.toNat u=false\/valV f m.toNat v=false then (false,20) else if y1 n m none rs=false then (false,1) else (relV (relF rs) u f v,0)
theorem wC (f:Fu) (n m:Int) (u v:Va) (rs:List PI):relR f n m u v rs=
 if isF f=false then (false,10) else if n < 0\/100 < n\/m < 0\/100 < m then (false,1) else if valV f n.toNat u=false\/valV f m.toNat v=false then (false,20) else if y1 n m none rs=false then (false,1) else (relV (relF rs) u f v,0):=rfl
theorem lS {f:Fu} {n:Nat} {v:Va} (h:valV f n v=true):valP n v f=true:=by
 unfold valV at h;simp only[yGY] at h;rw[zAE];simp only[yGY];exact h.2
theorem zAK (f:Fu) (hf:fitF f) (n m:Int) (u v:Va) (hu:fitV u) (hv:fitV v) (rs:List PI) (hrs:rs.length<=maxLen) (D:Nat):
  Go.Ab.Loc Pg Gl D 9 [encF f,.int .i64 n,.int .i64 m,encV u,encV v,encR rs] [] (.tup [.bool (relR f n m u v rs).1,.int .i64 (relR f n m u v rs).2]) []:=by
 refine z0 zR tok rfl rfl fun S=> ?_;generalize hr:relR f n m u v rs=r;rw[wC] at hr;rw[zB f,zA u,zA v];unfold c9;simp[encR];refine zE (zSZ f hf _) (by simp[zB f]) ?_;cases h1:isF f
 ·simp[h1] at hr;simp[<-hr]
 have hsh:=mY h1;simp[h1] at hr;by_cases a1:n < 0
 ·simp[a1] at hr;simp[a1,<-hr]
 by_cases a2:100 < n
 ·simp[a1,a2] at hr;simp[a1,a2,<-hr]
 by_cases a3:m < 0
 ·simp[a1,a2,a3] at hr;simp[a1,a2,a3,<-hr]
 by_cases a4:100 < m
 ·simp[a1,a2,a3,a4] at hr;simp[a1,a2,a3,a4,<-hr]
 obtain ⟨n',rfl⟩:∃n':Nat,n=n':=⟨n.toNat,by omega⟩;obtain ⟨m',rfl⟩:∃m':Nat,m=m':=⟨m.toNat,by omega⟩;have hn':n'<=100:=by omega
 have hm':m'<=100:=by omega
 simp only[a1,a2,a3,a4,or_self,if_false,yHE] at hr;simp[a1,a2,a3,a4];refine zE (zIN f hsh n' (by omega) u hu _) (by simp[zB f,zA u]) ?_;cases h2:valV f n' u
 ·simp[h2] at hr;simp[<-hr]
 simp[h2] at hr;simp;refine zE (zIN f hsh m' (by omega) v hv _) (by simp[zB f,zA v]) ?_;cases h3:valV f m' v
 ·simp[h3] at hr;simp[<-hr]
 simp[h3] at hr;simp;refine zE (zSY _ rs hrs n' m' (by omega) (by omega)) (by simp[encR]) ?_;cases h4:y1 n' m' none rs
 ·simp[h4] at hr;simp[<-hr]
 simp[h4] at hr;simp;refine zY (zSX hrs h4 (D+1) D 49 0 (by omega)) (by simp[AV.strip,encR]) (fun x hx=> ?_) (by simp) ?_
 ·simp at hx;subst hx;refine ⟨yGW _,fun _=>by simp,?_⟩;simp[zS]
 simp;refine zY (zSW rs u f v n' m' hsh (lS h2) (lS h3) (D+1) D 49 1 (by omega)) (by simp[AV.strip,zB f,zA u,zA v]) (fun x hx=> ?_) (by simp) ?_
 ·simp at hx;subst hx;refine ⟨yGW _,fun _=>by simp,?_⟩;simp[zS]
 simp[<-hr]
end Go.Ab.Tab
/- awake: fixed calls. -/
namespace Go.Ab.Tab
open Go Go.Ab
def bX:FuncId->List AV->Option AV:=fun _ _=>none
theorem d7 (P:Program) (G:Nat->Option (List AV)):OOk P G bX:=by intro f args r h;simp[bX] at h
theorem aw20:(evF T bX (fun own k s=>evR T bX 100000 own k s []) ⟨[],[],1,fun _ _=>(0,.dead)⟩ 20 [encR [(0,1),(2,1)],encR [(1,5)]]).map (fun e=>(e.val,e.ups.isEmpty,e.rd.isEmpty))=some (encR [(0,5),(2,5)],true,true):=by kernel_rfl
theorem zKK:Go.Ab.Loc Pg Gl 2 20 [encR [(0,1),(2,1)],encR [(1,5)]] [] (encR [(0,5),(2,5)]) []:=zIR (L:=Lx) zR tok (d7 _ _) aw20
theorem aw19:(evF T bX (fun own k s=>evR T bX 100000 own k s []) ⟨[],[],1,fun _ _=>(0,.dead)⟩ 19 [encR [(0,5),(2,5)],encR [(0,5),(2,5)]]).map (fun e=>(e.val,e.ups.isEmpty,e.rd.isEmpty))=some (.bool true,true,true):=by kernel_rfl
theorem zKL:Go.Ab.Loc Pg Gl 2 19 [encR [(0,5),(2,5)],encR [(0,5),(2,5)]] [] (.bool true) []:=zIR (L:=Lx) zR tok (d7 _ _) aw19
def fI:Fu:= .mk 0 0 []
def vI (n:Int):Va:= .mk n [] []
theorem zGJ (k:Int):fitF (.mk k 0 [fI]):=by
 unfold fI;simp[fitF,hJ,maxLen]
theorem hH (l ws:List Int) (h1:l.length<=10) (h2:ws.length<=10):fitV (.mk 0 (l.map vI) ws):=by
 rw[fitV];refine ⟨⟨by unfold maxLen;simp;omega,by unfold maxLen;omega⟩,?_⟩;refine pQ fun a ha=> ?_;obtain ⟨n,_,rfl⟩:=List.mem_map.1 ha;unfold vI;simp[fitV,nY,maxLen]
theorem zAY (rs:List PI) (l l':List Int) (i k:Nat) (hi:i < l.length) (hk:k < l'.length):mAt (relM (relF rs) (l.map vI) fI (l'.map vI)) i k=hasP rs (l[i],l'[k]):=by
 rw[k7 (by simpa using hi) (by simpa using hk)];simp only[List.getElem_map];unfold vI fI;rw[oG];simp[Fu.k,Va.n,relF]
theorem zAX (rs:List PI) (k:Int) (hk:k=6\/k=7) (l l' ws ws':List Int):relV (relF rs) (.mk 0 (l.map vI) ws) (.mk k 0 [fI]) (.mk 0 (l'.map vI) ws')=
  w8 l.length l'.length (mAt (relM (relF rs) (l.map vI) fI (l'.map vI))) (if k=6 then wAt ws else fun i=>wAt ws i*sumW ws') (if k=6 then wAt ws' else fun k=>wAt ws' k*sumW ws):=by
 rw[l9 (by rcases hk with rfl | rfl<;>rfl)]
 have h5:¬k=5:=by omega
 simp only[relS,if_neg h5,List.headD_cons,Va.gs,Va.ws,List.length_map];split<;>rfl
theorem r1:relR (.mk 7 0 [fI]) 2 1 (.mk 0 ([0,1].map vI) [1,1]) (.mk 0 ([0].map vI) [1]) [(0,0),(1,0)]=(true,0):=by
 have hf:w8 2 1 (mAt (relM (relF [(0,0),(1,0)]) ([0,1].map vI) fI ([0].map vI))) (fun i=>wAt [1,1] i*sumW [1]) (fun k=>wAt [1] k*sumW [1,1])=true:=by
  refine wL.2 ⟨fun _ _=>1,fun i k hi hk=>⟨Int.one_nonneg,fun _=> ?_⟩,fun i hi=> ?_,fun k hk=> ?_⟩
  ·rw[zAY _ _ _ _ _ hi hk];obtain rfl:k=0:=by omega
   rcases (show i=0\/i=1 by omega) with rfl | rfl<;>rfl
  ·rcases (show i=0\/i=1 by omega) with rfl | rfl<;>rfl
  ·obtain rfl:k=0:=by omega
   rfl
 have e1:isF (.mk 7 0 [fI])=true:=by decide
 have e2:valV (.mk 7 0 [fI]) 2 (.mk 0 ([0,1].map vI) [1,1])=true:=by decide
 have e3:valV (.mk 7 0 [fI]) 1 (.mk 0 ([0].map vI) [1])=true:=by decide
 have e4:y1 2 1 none [(0,0),(1,0)]=true:=by decide
 have e5:=zAX [(0,0),(1,0)] 7 (.inr rfl) [0,1] [0] [1,1] [1];rw[wC];simp only[e1,e4,e5,yGT,if_false,Int.reduceToNat,e2,e3];simp[hf];exact hf
theorem r2:relR (.mk 7 0 [fI]) 2 1 (.mk 0 ([0,1].map vI) [1,1]) (.mk 0 ([0].map vI) [1]) [(0,0)]=(false,0):=by
 have hf:w8 2 1 (mAt (relM (relF [(0,0)]) ([0,1].map vI) fI ([0].map vI))) (fun i=>wAt [1,1] i*sumW [1]) (fun k=>wAt [1] k*sumW [1,1])=false:=by
  cases h:w8 2 1 (mAt (relM (relF [(0,0)]) ([0,1].map vI) fI ([0].map vI))) (fun i=>wAt [1,1] i*sumW [1]) (fun k=>wAt [1] k*sumW [1,1]) with
  | false=>rfl
  | true=>
   obtain ⟨x,h1,h2,h3⟩:=wL.1 h;have h4:=(h1 1 0 (by omega) (by omega)).2;rw[zAY _ _ _ _ _ (by simp) (by simp)] at h4;have h5:=h2 1 (by omega);have h6:x 1 0=0:=by
    refine Classical.byContradiction fun hx=> ?_;have:=h4 hx;exact absurd this (by decide)
   simp[sumN,h6,wAt,sumW] at h5
 have e1:isF (.mk 7 0 [fI])=true:=by decide
 have e2:valV (.mk 7 0 [fI]) 2 (.mk 0 ([0,1].map vI) [1,1])=true:=by decide
 have e3:valV (.mk 7 0 [fI]) 1 (.mk 0 ([0].map vI) [1])=true:=by decide
 have e4:y1 2 1 none [(0,0)]=true:=by decide
 have e5:=zAX [(0,0)] 7 (.inr rfl) [0,1] [0] [1,1] [1];rw[wC];simp only[e1,e4,e5,yGT,if_false,Int.reduceToNat,e2,e3];simp[hf];exact hf
theorem r3:relR (.mk 6 0 [fI]) 1 2 (.mk 0 ([0].map vI) [2]) (.mk 0 ([0,1].map vI) [1,1]) [(0,0),(0,1)]=(true,0):=by
 have hf:w8 1 2 (mAt (relM (relF [(0,0),(0,1)]) ([0].map vI) fI ([0,1].map vI))) (wAt [2]) (wAt [1,1])=true:=by
  refine wL.2 ⟨fun _ _=>1,fun i k hi hk=>⟨Int.one_nonneg,fun _=> ?_⟩,fun i hi=> ?_,fun k hk=> ?_⟩
  ·rw[zAY _ _ _ _ _ hi hk];obtain rfl:i=0:=by omega
   rcases (show k=0\/k=1 by omega) with rfl | rfl<;>rfl
  ·obtain rfl:i=0:=by omega
   rfl
  ·rcases (show k=0\/k=1 by omega) with rfl | rfl<;>rfl
 have e1:isF (.mk 6 0 [fI])=true:=by decide
 have e2:valV (.mk 6 0 [fI]) 1 (.mk 0 ([0].map vI) [2])=true:=by decide
 have e3:valV (.mk 6 0 [fI]) 2 (.mk 0 ([0,1].map vI) [1,1])=true:=by decide
 have e4:y1 1 2 none [(0,0),(0,1)]=true:=by decide
 have e5:=zAX [(0,0),(0,1)] 6 (.inl rfl) [0] [0,1] [2] [1,1];rw[wC];simp only[e1,e4,e5,yGT,if_false,Int.reduceToNat,e2,e3];simp[hf];exact hf
theorem r4:relR (.mk 6 0 [fI]) 1 2 (.mk 0 ([0].map vI) [1]) (.mk 0 ([0].map vI) [1]) [(0,2)]=(false,1):=by
 have e1:isF (.mk 6 0 [fI])=true:=by decide
 have e2:valV (.mk 6 0 [fI]) 1 (.mk 0 ([0].map vI) [1])=true:=by decide
 have e3:valV (.mk 6 0 [fI]) 2 (.mk 0 ([0].map vI) [1])=true:=by decide
 have e4:y1 1 2 none [(0,2)]=false:=by decide
 rw[wC];simp only[e1,e4,yGT,if_false,Int.reduceToNat,e2,e3];simp
def w1:Va:= .mk 0 [vI 0,vI 1] [1,1]
theorem fS:Go.Ab.Loc Pg Gl 1 8 [] [] (.bool true) []:=by
 refine z0 zR tok rfl rfl fun S=> ?_;unfold c8;simp;refine zE (zIO _ 0 0 []) (by simp) ?_;simp[zI];refine zE (zIO _ 7 0 [fI]) (by simp[zI,fI]) ?_;simp[zI,fI];refine zE (zAK (.mk 7 0 [fI]) (zGJ 7) 2 1 (.mk 0 ([0,1].map vI) [1,1]) (.mk 0 ([0].map vI) [1]) (hH _ _ (by decide) (by decide)) (hH _ _ (by decide) (by decide)) [(0,0),(1,0)] (by unfold maxLen;decide) _) (by simp[zI,zG,fI,vI,encR,encP]) ?_;rw[r1];simp;refine zE (zAK (.mk 7 0 [fI]) (zGJ 7) 2 1 (.mk 0 ([0,1].map vI) [1,1]) (.mk 0 ([0].map vI) [1]) (hH _ _ (by decide) (by decide)) (hH _ _ (by decide) (by decide)) [(0,0)] (by unfold maxLen;decide) _) (by simp[zI,zG,fI,vI,encR,encP]) ?_;rw[r2];simp;refine zE (zAK (.mk 6 0 [fI]) (zGJ 6) 1 2 (.mk 0 ([0].map vI) [2]) (.mk 0 ([0,1].map vI) [1,1]) (hH _ _ (by decide) (by decide)) (hH _ _ (by decide) (by decide)) [(0,0),(0,1)] (by unfold maxLen;decide) _) (by simp[zI,zG,fI,vI,encR,encP]) ?_
 rw[r3];simp;refine zE (zAK (.mk 6 0 [fI]) (zGJ 6) 1 2 (.mk 0 ([0].map vI) [1]) (.mk 0 ([0].map vI) [1]) (hH _ _ (by decide) (by decide)) (hH _ _ (by decide) (by decide)) [(0,2)] (by unfold maxLen;decide) _) (by simp[zI,zG,fI,vI,encR,encP]) ?_;rw[r4];simp;refine zE zKK (by simp[encR,encP]) ?_;simp;refine zE zKL (by simp[encR,encP]) ?_;simp
end Go.Ab.Tab
/- law 3 (BisimRelated). -/
namespace Go.Ab.Tab
open Go Go.Ab
theorem j3_0 {S:Nat->Nat->Ent} {τ:Nat->AV} {ω} {b:Bool} {e:Int} (h13:τ 13= .bool b) (h14:τ 14= .int .i64 e) (h15:τ 15= .int .i64 e) (h16:τ 16= .bool b):
  Rd (Go.Ab.Loc Pg Gl) .im (RetQ [RV.tmp 12] (AV.bool true) S) [.c zMJ] (stF 100 0 τ ω S):=by
 unfold zMJ;simp[h13,h14,h15,h16];exact zE fS (by simp) (by simp)
theorem law3 (f:Fu) (hf:fitF f) (n m:Int) (u v:Va) (hu:fitV u) (hv:fitV v) (rs:List PI) (hrs:rs.length<=maxLen):Go.Ab.Loc Pg Gl 0 3 [encF f,.int .i64 n,.int .i64 m,encV u,encV v,encR rs] [] (.bool true) []:=by
 refine z0 zR tok rfl rfl fun S=> ?_;unfold c3;rw[zB f,zA u,zA v];simp[encR];refine zE (zSP f hf _ 100 (by decide)) (by simp[zB f]) ?_;by_cases hF:z6 f<=100
 case neg=>
  simp[hF];exact zE fS (by simp) (by simp)
 simp[hF];refine zE (zSL u hu _ 300 (by decide)) (by simp[zA u]) ?_;by_cases hU:zM u<=300
 case neg=>
  simp[hU];exact zE fS (by simp) (by simp)
 simp[hU];cases hlu:tO 300 u with
 | false=>
  simp[hlu];exact zE fS (by simp) (by simp)
 | true=>
 simp[hlu];refine zE (zSL v hv _ 300 (by decide)) (by simp[zA v]) ?_;by_cases hV:zM v<=300
 case neg=>
  simp[hV];exact zE fS (by simp) (by simp)
 simp[hV];cases hlv:tO 300 v with
 | false=>
  simp[hlv];exact zE fS (by simp) (by simp)
 | true=>
 simp[hlv];by_cases hR:300 < (rs.length:Int)
 ·simp[hR];exact zE fS (by simp) (by simp)
 simp[hR];refine zE (zAK f hf n m u v hu hv rs hrs _) (by simp[zB f,zA u,zA v,encR]) ?_;generalize hr:relR f n m u v rs=r;rw[wC] at hr;simp;refine zE (zTF f hf _) (by simp[zB f]) ?_;cases hi:isF f with
 | false=>
  simp only[hi,if_true] at hr;subst hr;simp;exact j3_0 (b:=false) (e:=10) (by simp) (by simp) (by simp) (by simp)
 | true=>
 simp only[hi,yGT,if_false] at hr;have hsh:=mY hi;simp;by_cases hnm:n < 0\/100 < n\/m < 0\/100 < m
 ·rw[if_pos hnm] at hr;subst hr;by_cases h1:n < 0
  ·simp[h1];exact j3_0 (b:=false) (e:=1) (by simp) (by simp) (by simp) (by simp)
  by_cases h2:100 < n
  ·simp[h1,h2];exact j3_0 (b:=false) (e:=1) (by simp) (by simp) (by simp) (by simp)
  by_cases h3:m < 0
  ·simp[h1,h2,h3];exact j3_0 (b:=false) (e:=1) (by simp) (by simp) (by simp) (by simp)
  have h4:100 < m:=by omega
  simp[h1,h2,h3,h4];exact j3_0 (b:=false) (e:=1) (by simp) (by simp) (by simp) (by simp)
 rw[if_neg hnm] at hr;obtain ⟨n,rfl⟩:=yHF (show 0<=n by omega);obtain ⟨m,rfl⟩:=yHF (show 0<=m by omega);have h1:¬((n:Int) < 0):=by omega
 have h2:¬(100 < (n:Int)):=by omega
 have h3:¬((m:Int) < 0):=by omega
 have h4:¬(100 < (m:Int)):=by omega
 simp only[yHE] at hr;simp[h1,h2,h3,h4];refine zE (zAQ f hsh n (by omega) u hu (by omega) _) (by simp[zB f,zA u]) ?_;cases hvu:valV f n u with
 | false=>
  simp only[hvu,true_or,if_true] at hr;subst hr;simp;exact j3_0 (b:=false) (e:=20) (by simp) (by simp) (by simp) (by simp)
 | true=>
 simp only[hvu,yGT,false_or] at hr;simp;refine zE (zAQ f hsh m (by omega) v hv (by omega) _) (by simp[zB f,zA v]) ?_;cases hvv:valV f m v with
 | false=>
  simp only[hvv,if_true] at hr;subst hr;simp;exact j3_0 (b:=false) (e:=20) (by simp) (by simp) (by simp) (by simp)
 | true=>
 simp only[hvv,yGT,if_false] at hr;simp;refine zE (zTD _ rs hrs n m) (by simp[encR]) ?_;cases hro:y1 n m none rs with
 | false=>
  simp only[hro,if_true] at hr;subst hr;simp;exact j3_0 (b:=false) (e:=1) (by simp) (by simp) (by simp) (by simp)
 | true=>
 simp only[hro,yGT,if_false] at hr;simp;refine zE (zTC rs hrs u f v n m hsh (lS hvu) (lS hvv) _) (by simp[zB f,zA u,zA v,encR]) ?_;subst hr;simp;exact j3_0 (b:=relV (relF rs) u f v) (e:=0) (by simp) (by simp) (by simp) (by simp)
end Go.Ab.Tab
