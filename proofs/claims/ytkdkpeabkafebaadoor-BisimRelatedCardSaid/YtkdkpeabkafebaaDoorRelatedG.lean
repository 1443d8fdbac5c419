/- slices.Contains of truth values, bisim.covered, bisim.flow. -/
import Derived.Test.YtkdkpeabkafebaaDoorRelatedF
open Bool renaming and_eq_true->yGU, eq_iff_iff->yHC
open Int renaming tmod_eq_emod_of_nonneg->yHO
open List renaming getElem_mem->yGV, drop_eq_getElem_cons->yGW, getElem?_eq_some_iff->yGX, range->yGY, mem_range->yHA, getElem?_eq_getElem->yHB, all_eq_true->yHD, getElem?_eq_none->yHE, mem_cons_of_mem->yHF, getElem_append_left->yHG, getElem?_cons_succ->yHH, range_succ->yHJ, ext_getElem?->yHN, getElem?_map->yHP, eq_nil_of_length_eq_zero->yHQ, replicate->yHR, map_congr_left->yHS, getElem?_take_of_lt->yHT, getElem?_set_ne->yHU, getElem?_drop->yHV
open Nat renaming zero_add->yGT, le_refl->yGZ, zero_le->yHI, lt_irrefl->yHK, lt_succ_self->yHL, not_lt_zero->yHM
set_option linter.unusedVariables false
set_option linter.unusedSimpArgs false
set_option maxRecDepth 10000
namespace Go.Ab.Tab
open Go Go.Ab
def idxB (f:Nat->Bool) (b:Bool):Nat->Nat->Int
 | 0,_=> -1
 | j+1,i=>if f i=b then i else idxB f b j (i+1)
def anyB (f:Nat->Bool) (b:Bool) (m:Nat):Bool:=(yGY m).any fun k=>f k==b
theorem j9 {f b m}:anyB f b m=true↔∃k,k < m/\f k=b:=by simp[anyB]
theorem cL {f b}:∀(j i:Nat),0<=idxB f b j i↔∃k,i<=k/\k < i+j/\f k=b
 | 0,i=>by simp[idxB];intro k h1 h2;omega
 | j+1,i=>by
  rw[idxB];by_cases h:f i=b
  ·rw[if_pos h];exact ⟨fun _=>⟨i,yGZ _,by omega,h⟩,fun _=>by omega⟩
  ·rw[if_neg h,cL j (i+1)];constructor
   ·rintro ⟨k,h1,h2,h3⟩;exact ⟨k,by omega,by omega,h3⟩
   ·rintro ⟨k,h1,h2,h3⟩;by_cases e:k=i
    ·subst e;exact absurd h3 h
    ·exact ⟨k,by omega,by omega,h3⟩
theorem cM {f b m}:decide (0<=idxB f b m 0)=anyB f b m:=by
 rw[yHC,decide_eq_true_eq,cL,j9];exact ⟨fun ⟨k,_,h2,h3⟩=>⟨k,by omega,h3⟩,fun ⟨k,h2,h3⟩=>⟨k,yHI _,by omega,h3⟩⟩
theorem l109 (D m:Nat) (hm:m<=1000) (f:Nat->Bool) (b:Bool) (S) (x:AV) (hx:x= .sl 1 (mB m f) .no\/∃d s g,d < D/\x= .own d s g 0 m 1 false/\S d s=(g,.cells (mB m f))):
  ∀(j i:Nat) (τ ω) (r:AV),i+j=m->τ 0=x->τ 1= .bool b->τ 7= .int .i64 m->τ 8= .int .i64 i->r= .int .i64 (idxB f b j i)->
  Rd (Loc Pg Gl) .im (RetM [.tmp 4] r D S []) [.lp c109_l0,.blk 0,.c j6] (stF 19 D τ ω S):=by
 intro j
 induction j with
 | zero=>
  intro i τ ω r hi h0 h1 h7 h8 hr;refine zC c109_l0.eq_1 ?_;obtain rfl:i=m:=by omega
  simp[h0,h1,h7,h8,j6,upds,hr,idxB]
 | succ j ih=>
  intro i τ ω r hi h0 h1 h7 h8 hr;have hlt:i < m:=by omega
  have hwr:IntKind.i64.wrap ((i:Int)+1)=((i+1:Nat):Int):=zF hlt (by unfold maxLen;omega);rw[idxB] at hr;refine zC c109_l0.eq_1 ?_;have go:f i≠b->∀τ',τ' 0=x->τ' 1= .bool b->τ' 7= .int .i64 m->τ' 8= .int .i64 (i+1:Nat)->Rd (Loc Pg Gl) .im (RetM [.tmp 4] r D S []) [.lp c109_l0,.blk 0,.c j6] (stF 19 D τ' ω S):=by
   intro hne τ' g0 g1 g7 g8;exact ih (i+1) τ' ω r (by omega) g0 g1 g7 g8 (by rw[hr,if_neg hne])
  rcases hx with rfl | ⟨d,s,g,hd,rfl,hS⟩
  ·by_cases hb:f i=b
   ·rw[if_pos hb] at hr;simp[h0,h1,h7,h8,hlt,hb,upds,hr]
   ·have hb':(b==f i)=false:=beq_false_of_ne (Ne.symm hb);simp[h0,h1,h7,h8,hlt,hb',hwr];refine go hb _ ?_ ?_ ?_ ?_;all_goals simp[h0,h1,h7]
  ·have hne:¬d=D:=by omega
   by_cases hb:f i=b
   ·rw[if_pos hb] at hr;simp[h0,h1,h7,h8,hlt,hb,upds,hr,hne,hS]
   ·have hb':(b==f i)=false:=beq_false_of_ne (Ne.symm hb);simp[h0,h1,h7,h8,hlt,hb',hwr,hne,hS];refine go hb _ ?_ ?_ ?_ ?_;all_goals simp[h0,h1,h7]
theorem zKP (D m:Nat) (hm:m<=1000) (f:Nat->Bool) (b:Bool):Go.Ab.Loc Pg Gl D 109 [.sl 1 (mB m f) .no,.bool b] [] (.int .i64 (idxB f b m 0)) []:=by
 refine y4 zR tok rfl rfl fun S hS=> ?_;unfold c109;simp;refine l109 D m hm f b S (.sl 1 (mB m f) .no) (.inl rfl) m 0 _ _ _ (yGT _) ?_ ?_ ?_ ?_ rfl;all_goals simp
theorem zFL (D m:Nat) (hm:m<=1000) (f:Nat->Bool) (b:Bool) (d s g:Nat) (hd:d < D):Go.Ab.Loc Pg Gl D 109 [.own d s g 0 m 1 false,.bool b] [(d,s,(g,.cells (mB m f)))] (.int .i64 (idxB f b m 0)) []:=by
 refine y4 zR tok rfl rfl fun S hS=> ?_;have h1:=(hS (d,s,(g,.cells (mB m f))) (by simp)).2;unfold c109;simp;refine l109 D m hm f b S (.own d s g 0 m 1 false) (.inr ⟨d,s,g,hd,rfl,h1⟩) m 0 _ _ _ (yGT _) ?_ ?_ ?_ ?_ rfl;all_goals simp
theorem zSF (D m:Nat) (hm:m<=1000) (f:Nat->Bool) (b:Bool):Go.Ab.Loc Pg Gl D 87 [.sl 1 (mB m f) .no,.bool b] [] (.bool (anyB f b m)) []:=by
 refine z0 zR tok rfl rfl fun S=> ?_;unfold c87;simp;refine zE (zKP _ m hm f b) (by simp) ?_;rw[<-cM];simp
theorem zKJ (D m:Nat) (hm:m<=1000) (f:Nat->Bool) (b:Bool) (d s g:Nat) (hd:d < D):Go.Ab.Loc Pg Gl D 87 [.own d s g 0 m 1 false,.bool b] [(d,s,(g,.cells (mB m f)))] (.bool (anyB f b m)) []:=by
 refine y4 zR tok rfl rfl fun S hS=> ?_;have h1:=(hS (d,s,(g,.cells (mB m f))) (by simp)).2;unfold c87;simp;refine yE (zFL (D+1) m hm f b d s g (by omega)) (by simp[AV.strip]) (fun x hx=> ?_) (by simp) ?_
 ·simp at hx;subst hx;refine ⟨by simp only;omega,by simp only;omega,?_⟩;rw[zS,if_neg (by simp only;omega)];exact h1
 rw[<-cM];simp[upds]
def covB (n m:Nat) (may:Nat->Nat->Bool):Bool:=((yGY n).all fun i=>anyB (may i) true m)&&((yGY m).all fun k=>anyB (fun i=>may i k) true n)
theorem rU (f:Nat->Bool) (b:Bool) (i:Nat):anyB f b (i+1)=(anyB f b i || f i==b):=by simp[anyB,yHJ]
structure CF (D n m dM sM gM:Nat) (csM:List AV) (may:Nat->Nat->Bool):Prop where
 hM:dM < D
 hn:n<=1000
 hm:m<=1000
 hlen:csM.length=n
 hrow:∀i,i < n->∃t,csM[i]?=some (.sl 1 (mB m (may i)) t)
theorem yDN {D n m dM sM gM:Nat} {csM:List AV} {may:Nat->Nat->Bool} (ho:CF D n m dM sM gM csM may) {S:Nat->Nat->Ent} {Q:St->Prop} {i:Nat} {rest:List AI} {tp:Tip} (P:(Nat->AV)->Prop) (hP:∀τ d v,8<=d->d≠12->d≠13->d≠14->P τ->P (upd τ d v))
  (hk:∀τ ω met,P τ->τ 5= .own D 11 1 0 m 1 false->ω 11=(1,.cells (mB m met))->(∀k,k < m->met k=anyB (fun j=>may j k) true (i+1))->Rd (Loc Pg Gl) .im Q rest (stF 43 D τ ω S)):
  ∀(j c:Nat) (τ ω met),c+j=m->P τ->τ 5= .own D 11 1 0 m 1 false->ω 11=(1,.cells (mB m met))->τ 21= .sl 1 (mB m (may i)) tp->τ 22= .int .i64 m->τ 23= .int .i64 c->
   (∀k,k < m->met k=if k < c then anyB (fun j=>may j k) true (i+1) else anyB (fun j=>may j k) true i)->Rd (Loc Pg Gl) .im Q (.lp c69_l0:: .blk 2::rest) (stF 43 D τ ω S):=by
 intro j
 induction j with
 | zero=>
  intro c τ ω met hc hp h5 w11 h21 h22 h23 hme;obtain rfl:c=m:=by omega
  refine zC c69_l0.eq_1 ?_;simp[h21,h22,h23];refine hk _ ω met (hP _ _ _ (by decide) (by decide) (by decide) (by decide) hp) (by simp[h5]) w11 fun k hk=>by rw[hme k hk,if_pos hk]
 | succ j ih=>
  intro c τ ω met hc hp h5 w11 h21 h22 h23 hme;have hlt:c < m:=by omega
  have hm10:=ho.hm;have hwr:IntKind.i64.wrap ((c:Int)+1)=((c+1:Nat):Int):=zF hlt (by unfold maxLen;omega);have hi1:c+1<=m:=hlt;have hmc:=hme c hlt;rw[if_neg (yHK _)] at hmc;have fin:∀τ' ω' v,v=anyB (fun j=>may j c) true (i+1)->P τ'->τ' 5= .own D 11 1 0 m 1 false->ω' 11=(1,.cells (mB m (updB met c v)))->τ' 21= .sl 1 (mB m (may i)) tp->τ' 22= .int .i64 m->τ' 23= .int .i64 (c+1:Nat)->
    Rd (Loc Pg Gl) .im Q (.lp c69_l0:: .blk 2::rest) (stF 43 D τ' ω' S):=by
   intro τ' ω' v hv g1 g2 g3 g4 g5 g6;refine ih (c+1) τ' ω' (updB met c v) (by omega) g1 g2 g3 g4 g5 g6 fun k hk=> ?_;unfold updB;by_cases e1:k=c
   ·subst e1;rw[if_pos rfl,if_pos (yHL _),hv]
   ·rw[if_neg e1,hme k hk];by_cases e2:k < c
    ·rw[if_pos e2,if_pos (by omega)]
    ·rw[if_neg e2,if_neg (by omega)]
  refine zC c69_l0.eq_1 ?_;cases hmv:met c
  ·simp[h21,h22,h23,hlt,h5,w11,hmv,hi1,uE hlt,hwr];refine fin _ _ (may i c) ?_ ?_ ?_ ?_ ?_ ?_ ?_
   ·rw[rU,<-hmc,hmv];simp
   ·repeat (first | exact hp | refine hP _ _ _ (by decide) (by decide) (by decide) (by decide) ?_)
   all_goals simp[h5,h21,h22]
  ·simp[h21,h22,h23,hlt,h5,w11,hmv,hi1,uE hlt,hwr];refine fin _ _ true ?_ ?_ ?_ ?_ ?_ ?_ ?_
   ·rw[rU,<-hmc,hmv];simp
   ·repeat (first | exact hp | refine hP _ _ _ (by decide) (by decide) (by decide) (by decide) ?_)
   all_goals simp[h5,h21,h22]
theorem yDM {D n m dM sM gM:Nat} {csM:List AV} {may:Nat->Nat->Bool} (ho:CF D n m dM sM gM csM may) {S:Nat->Nat->Ent} (hS:S dM sM=(gM,.cells csM)):
  ∀(j i:Nat) (τ ω met) (r:AV),i+j=n->τ 12= .own dM sM gM 0 n 1 false->τ 13= .int .i64 n->τ 14= .int .i64 i->τ 5= .own D 11 1 0 m 1 false->ω 11=(1,.cells (mB m met))->(∀k,k < m->met k=anyB (fun j=>may j k) true i)->
   (∀i',i' < i->anyB (may i') true m=true)->r= .bool (covB n m may)->Rd (Loc Pg Gl) .im (RetM [.tmp 4] r D S []) [.lp c69_l1,.blk 0,.c zDH] (stF 43 D τ ω S):=by
 have hm10:=ho.hm;have hn10:=ho.hn;have hne:¬dM=D:=by have:=ho.hM;omega
 intro j
 induction j with
 | zero=>
  intro i τ ω met r hi h12 h13 h14 h5 w11 hme hok hr;obtain rfl:i=n:=by omega
  refine zC c69_l1.eq_1 ?_;simp[h12,h13,h14,zDH,h5];refine yE (zKJ (D+1) m hm10 met false D 11 1 (by omega)) (by simp[AV.strip]) (fun x hx=> ?_) (by simp) ?_
  ·simp at hx;subst hx;refine ⟨yGZ _,fun _=>by simp,?_⟩;simp[zS,w11]
  have hb:(!(anyB met false m))=covB i m may:=by
   unfold covB;rw[yHC];simp only[Bool.not_eq_true',yGU,yHD,yHA];constructor
   ·intro h;refine ⟨fun j hj=>hok j hj,fun k hk=> ?_⟩;rw[<-hme k hk];cases hmk:met k
    ·have:anyB met false m=true:=j9.2 ⟨k,hk,hmk⟩;rw[h] at this;cases this
    ·rfl
   ·rintro ⟨_,h⟩;cases ha:anyB met false m
    ·rfl
    ·obtain ⟨k,hk,hmk⟩:=j9.1 ha;rw[hme k hk,h k hk] at hmk;cases hmk
  simp[upds,hr,hb]
 | succ j ih=>
  intro i τ ω met r hi h12 h13 h14 h5 w11 hme hok hr;have hlt:i < n:=by omega
  have hwr:IntKind.i64.wrap ((i:Int)+1)=((i+1:Nat):Int):=zF hlt (by unfold maxLen;omega);have hlen:=ho.hlen;obtain ⟨tp,htp⟩:=ho.hrow i hlt;have hge:csM[i]'(by rw[hlen];exact hlt)= .sl 1 (mB m (may i)) tp:=by
   rw[yHB (by rw[hlen];exact hlt)] at htp;exact Option.some.inj htp
  cases tp;all_goals
   refine zC c69_l1.eq_1 ?_;simp[h12,h13,h14,hlt,hne,hS,hlen,hge];refine zE (zSF _ m hm10 (may i) true) (by simp) ?_;cases hany:anyB (may i) true m
   ·have hb:covB n m may=false:=by
     cases hc:covB n m may
     ·rfl
     ·unfold covB at hc;simp only[yGU,yHD,yHA] at hc;rw[hc.1 i hlt] at hany;cases hany
    simp[upds,hr,hb]
   ·simp;refine yDN ho (i:=i) (fun τ=>τ 12= .own dM sM gM 0 n 1 false/\τ 13= .int .i64 n/\τ 14= .int .i64 i) (fun τ d v h8 n12 n13 n14 h=>by simp only[vE];rw[if_neg (Ne.symm n12),if_neg (Ne.symm n13),if_neg (Ne.symm n14)];exact h)
     (fun τ ω met hp g5 gw gm=> ?_) m 0 _ ω met (yGT _) ⟨by simp[h12],by simp[h13],by simp[h14]⟩ (by simp[h5]) w11 (by simp;rfl) (by simp) (by simp) (fun k hk=>by rw[if_neg (yHM _)];exact hme k hk)
    simp[zIZ,hp.2.2,hwr];refine ih (i+1) _ ω met r (by omega) ?_ ?_ ?_ ?_ gw gm (fun i' hi'=> ?_) hr
    ·simp[hp.1]
    ·simp[hp.2.1]
    ·simp
    ·simp[g5]
    ·by_cases e1:i'=i
     ·rw[e1];exact hany
     ·exact hok i' (by omega)
theorem zSM {D n m dM sM gM:Nat} {csM:List AV} {may:Nat->Nat->Bool} (ho:CF D n m dM sM gM csM may):Go.Ab.Loc Pg Gl D 69 [.own dM sM gM 0 n 1 false,.int .i64 m] [(dM,sM,(gM,.cells csM))] (.bool (covB n m may)) []:=by
 have hm10:=ho.hm;refine y4 zR tok rfl rfl fun S hS=> ?_;have h1:=(hS (dM,sM,(gM,.cells csM)) (by simp)).2;unfold c69;have hmx:(m:Int)<=1099511627776:=by omega
 simp[zD,l6,hmx];refine yDM ho h1 n 0 _ _ (fun _=>false) _ (yGT _) ?_ ?_ ?_ ?_ ?_ (fun k hk=>by simp[anyB]) (fun i hi=>by omega) rfl;all_goals simp
end Go.Ab.Tab
/- When values are related; bisim.flow. -/
namespace Go.Ab.Tab
open Go Go.Ab
@[simp] theorem zYL (b:Bool):(AV.slq b).var1= .slq b:=rfl
@[simp] theorem yCN (b:Bool):(AV.slq b).dem= .slq b:=rfl
@[simp] theorem zTG (b:Bool):(AV.slq b).strip= .slq b:=rfl
@[simp] theorem yCM (s:St) (b:Bool):frz s frzD (.slq b)=some (.slq b,[]):=rfl
noncomputable def w8 (n m:Nat) (may:Nat->Nat->Bool) (a b:Nat->Int):Bool:= @decide (Feas n m may a b) (Classical.propDecidable _)
theorem wL {n m may a b}:w8 n m may a b=true↔Feas n m may a b:=by unfold w8;exact @decide_eq_true_iff _ (Classical.propDecidable _)
def wAt (ws:List Int) (i:Nat):Int:=ws.getD i 0
theorem qD (ws:List Int):ws.map (AV.int .i64)=mI ws.length (wAt ws):=by
 unfold mI;refine yHN fun i=> ?_;rw[yHP,yHP];by_cases h:i < ws.length
 ·simp[h,wAt]
 ·rw[yHE (by omega),yHE (by simp;omega)];rfl
theorem mE (f:Nat->Int):∀n,sumN (n+1) f=f 0+sumN n (fun i=>f (i+1))
 | 0=>by simp[sumN]
 | n+1=>by
  show sumN (n+1) f+f (n+1)=f 0+(sumN n (fun i=>f (i+1))+f (n+1))
  rw[mE f n];omega
theorem sY:∀(ws:List Int),sumN ws.length (wAt ws)=sumW ws
 | []=>rfl
 | w::ws=>by
  rw[List.length_cons,mE,sumW];have:(fun i=>wAt (w::ws) (i+1))=wAt ws:=by funext i;simp[wAt]
  rw[this,sY ws];rfl
theorem lR {ws:List Int} {i:Nat} (h:i < ws.length):wAt ws i∈ws:=by
 unfold wAt;rw[List.getD_eq_getElem?_getD,yHB h];exact yGV h
theorem sZ (f:Nat->Int) (c:Int):∀n,sumN n (fun i=>f i*c)=sumN n f*c
 | 0=>by simp[sumN]
 | n+1=>by
  show sumN n (fun i=>f i*c)+f n*c=(sumN n f+f n)*c
  rw[sZ f c n,Int.add_mul]
def mAt (M:List (List Bool)) (i k:Nat):Bool:=(M.getD i []).getD k false
noncomputable def relS (k:Int) (M:List (List Bool)) (n m:Nat) (ws ws':List Int):Bool:=
 if k=5 then covB n m (mAt M) else if k=6 then w8 n m (mAt M) (wAt ws) (wAt ws') else w8 n m (mAt M) (fun i=>wAt ws i*sumW ws') (fun k=>wAt ws' k*sumW ws)
def f00:Fu:= .mk 0 0 []
mutual
noncomputable def relV (r:Int->Int->Bool):Va->Fu->Va->Bool
 | .mk a gs ws,f,v=>if f.k=0 then r a v.n else if sets f.k then relS f.k (relM r gs (f.gs.headD f00) v.gs) gs.length v.gs.length ws v.ws else decide (a=v.n)&&oE r gs (zQ f (.mk a gs ws)) v.gs
noncomputable def oE (r:Int->Int->Bool):List Va->List Fu->List Va->Bool
 | [],_,_=>true
 | u::us,fs,vs=>(match fs,vs with | f::_,v::_=>relV r u f v | _,_=>true)&&oE r us fs.tail vs.tail
noncomputable def relM (r:Int->Int->Bool):List Va->Fu->List Va->List (List Bool)
 | [],_,_=>[]
 | u::us,g,vs=>(vs.map fun v=>relV r u g v)::relM r us g vs
end
theorem oG (r a gs ws f v):relV r (.mk a gs ws) f v=if f.k=0 then r a v.n else if sets f.k then relS f.k (relM r gs (f.gs.headD f00) v.gs) gs.length v.gs.length ws v.ws else decide (a=v.n)&&oE r gs (zQ f (.mk a gs ws)) v.gs:=by rw[relV]
theorem vJ (r u us f fs v vs):oE r (u::us) (f::fs) (v::vs)=(relV r u f v&&oE r us fs vs):=by rw[oE];rfl
theorem vH (r fs vs):oE r [] fs vs=true:=by rw[oE]
theorem k7 {r g} {vs:List Va}:∀{us:List Va} {i k:Nat} (hi:i < us.length) (hk:k < vs.length),mAt (relM r us g vs) i k=relV r us[i] g vs[k]
 | u::us,0,k,_,hk=>by rw[relM];simp[mAt,hk]
 | u::us,i+1,k,hi,hk=>by
  rw[relM];have:=k7 (r:=r) (g:=g) (vs:=vs) (us:=us) (i:=i) (k:=k) (by simpa using hi) hk;simp only[mAt,List.getD_cons_succ,List.getElem_cons_succ] at this|-;exact this
structure VF (n:Nat) (a:Int) (gs:List Va) (ws:List Int) (k N:Int) (fg:List Fu):Prop where
 two:k=2->gs.length=2/\a=0
 sum:k=3->gs.length=1/\(a=0\/a=1)
 exp:k=4->gs.length=N.toNat/\a=0
 con:k=1->gs= []
 set:sets k=true->gs.length<=100/\a=0
 wgt:wtd k=true->ws.length=gs.length/\(∀w∈ws,1<=w)/\sumW ws<=1048576
 ne:k=7->gs≠[]
 sub:∀(i:Nat) (h1:i < gs.length) (h2:i < (zQ (.mk k N fg) (.mk a gs ws)).length),valP n gs[i] (zQ (.mk k N fg) (.mk a gs ws))[i]=true
theorem iE {n:Nat}:∀{l:List Va} {fs:List Fu},vP n l fs=true->∀(i:Nat) (h1:i < l.length) (h2:i < fs.length),valP n l[i] fs[i]=true
 | v::l,f::fs,h,0,_,_=>by
  rw[vP] at h;simp only[yGU] at h;exact h.1
 | v::l,f::fs,h,i+1,h1,h2=>by
  rw[vP] at h;simp only[yGU] at h;simpa using iE h.2 i (by simpa using h1) (by simpa using h2)
 | [],_,_,_,h1,_=>by simp at h1
 | _::_,[],_,_,_,h2=>by simp at h2
theorem zHC {n:Nat} {a:Int} {gs:List Va} {ws:List Int} {k N:Int} {fg:List Fu} (hsh:zT (.mk k N fg)=true) (h:valP n (.mk a gs ws) (.mk k N fg)=true):VF n a gs ws k N fg:=by
 rw[fM] at h;simp only[yGU] at h;obtain ⟨h1,h2⟩:=h;have hsub:=iE h2;rw[wT] at h1;simp only[yGU] at h1;obtain ⟨⟨hp,hnum,hw⟩,hset,hwd⟩:=h1;obtain ⟨hl,hn1,hn2,_⟩:=xH hsh;rw[y5] at hp;simp only[yGU,decide_eq_true_eq] at hp;obtain ⟨hp1,hp2⟩:=hp;rw[xR] at hnum;simp only[yGU,decide_eq_true_eq] at hnum;obtain ⟨hn0,hn3⟩:=hnum;have hw':=vD hw;refine ⟨fun hk=> ?_,fun hk=> ?_,fun hk=> ?_,fun hk=> ?_,fun hk=> ?_,hw'.1,hw'.2.1,hsub⟩
 ·subst hk;rw[zK] at hp2;have e2:arK 2=2:=rfl;rw[e2] at hl;simp at hp2 hn3;omega
 ·subst hk;have e3:arK 3=2:=rfl;rw[e3] at hl;simp at hp1 hn3;rw[zK] at hp2;have ha:a=0\/a=1:=by omega
  have hna:¬(a < 0\/1 < a):=by omega
  simp[hna] at hp2;refine ⟨?_,ha⟩;rcases ha with rfl | rfl
  ·simp at hp2;omega
  ·simp at hp2;omega
 ·subst hk;rw[zK] at hp2;simp at hp2 hn3;omega
 ·subst hk;rw[zK] at hp2;simp at hp2;exact yHQ hp2.symm
 ·rw[hk] at hwd;simp at hwd;have hk':k=5\/k=6\/k=7:=by simpa[sets,wtd] using hk
  refine ⟨hwd,?_⟩;rcases hk' with rfl | rfl | rfl<;>simp at hn3<;>omega
theorem zSK {D:Nat} {f:Fu} {u v:Va} {dM sM gM:Nat} {csM:List AV} {may:Nat->Nat->Bool} (ho:CF D u.ws.length v.ws.length dM sM gM csM may) (hu:∀w∈u.ws,1<=w) (hv:∀w∈v.ws,1<=w) (su:sumW u.ws<=1048576) (sv:sumW v.ws<=1048576):
  Go.Ab.Loc Pg Gl D 70 [encF f,.own dM sM gM 0 u.ws.length 1 false,encV u,encV v] [(dM,sM,(gM,.cells csM))]
   (.slq (!(if f.k=6 then w8 u.ws.length v.ws.length may (wAt u.ws) (wAt v.ws) else w8 u.ws.length v.ws.length may (fun i=>wAt u.ws i*sumW v.ws) (fun k=>wAt v.ws k*sumW u.ws)))) []:=by
 have hn10:=ho.hn;have hm10:=ho.hm;have nu:∀i,i < u.ws.length->0<=wAt u.ws i:=fun i hi=>by have:=hu _ (lR hi);omega
 have nv:∀i,i < v.ws.length->0<=wAt v.ws i:=fun i hi=>by have:=hv _ (lR hi);omega
 have tu:=sY u.ws;have tv:=sY v.ws;have su0:0<=sumW u.ws:=by rw[<-tu];exact xG nu
 have sv0:0<=sumW v.ws:=by rw[<-tv];exact xG nv
 have hprod:sumW u.ws*sumW v.ws<=1099511627776:=by
  have:=Int.mul_le_mul su sv sv0 (by omega);omega
 have ok:∀(times by_:Int),0<=times->0<=by_->sumW u.ws*times<=2199023255552->sumW v.ws*by_<=2199023255552->∀S0,(⟨u.ws.length,v.ws.length,D+1,dM,sM,gM,csM,wAt u.ws,wAt v.ws,times,by_,S0⟩:ME).Ok may:=by
  intro times by_ h1 h2 h3 h4 S0;refine ⟨Nat.lt_succ_of_lt ho.hM,hn10,hm10,ho.hlen,ho.hrow,fun i hi=>Int.mul_nonneg (nu i hi) h1,fun k hk=>Int.mul_nonneg (nv k hk) h2,?_,?_⟩
  ·show sumN _ (fun i=>wAt u.ws i*times)<=_
   rw[sZ,tu];exact h3
  ·show sumN _ (fun i=>wAt v.ws i*by_)<=_
   rw[sZ,tv];exact h4
 refine y4 zR tok rfl rfl fun S hS=> ?_;have h1:=(hS (dM,sM,(gM,.cells csM)) (by simp)).2;have hne:¬dM=D:=by have:=ho.hM;omega
 have look:∀{τ:Nat->AV} {ω:Nat->Ent} (x:Nat×Nat×Ent),x∈[(dM,sM,(gM,Ob.cells csM))]->x.1<=D/\(x.1=D->x.2.1 < 30)/\(stF 30 D τ ω S).look x.1 x.2.1=x.2.2:=by
  intro τ ω x hx;simp at hx;subst hx;have:=ho.hM;refine ⟨by simp only;omega,by simp only;omega,?_⟩;rw[zS,if_neg hne];exact h1
 unfold c70;rw[zB f,zA u,zA v];by_cases hk:f.k=6
 ·simp[hk];refine yE (zIH (ok 1 1 (by decide) (by decide) (by omega) (by omega)) (bq:= !(w8 u.ws.length v.ws.length may (wAt u.ws) (wAt v.ws))) (by simp[<-wL])) (by simp[AV.strip,qD]) look (by simp) ?_;simp[upds]
 ·simp[hk];refine zZ (zIG _ v.ws.length hm10 (wAt v.ws) nv (by rw[tv];omega)) (by simp[qD]) ?_;simp;refine zZ (zIG _ u.ws.length hn10 (wAt u.ws) nu (by rw[tu];omega)) (by simp[qD]) ?_;simp[tu,tv];refine zY (zIH (ok (sumW v.ws) (sumW u.ws) sv0 su0 (by omega) (by rw[Int.mul_comm];omega)) (bq:= !(w8 u.ws.length v.ws.length may (fun i=>wAt u.ws i*sumW v.ws) (fun k=>wAt v.ws k*sumW u.ws))) (by simp[<-wL])) (by simp[AV.strip,qD]) look (by simp) ?_;simp[upds]
end Go.Ab.Tab
/- bisim.related. -/
namespace Go.Ab.Tab
open Go Go.Ab
def v6 (rs:List PI):List (AV×AV):=rs.map fun p=>(encP p,.bool true)
def relF (rs:List PI):Int->Int->Bool:=fun a b=>hasP rs (a,b)
theorem eqC2 (a b c d:Int):yP [.int .i64 a,.int .i64 b] [.int .i64 c,.int .i64 d]=some (decide (a=c)&&decide (b=d)):=by
 simp only[yP,if_true];by_cases h1:a=c<;>by_cases h2:b=d<;>simp[h1,h2]
theorem f9 (a b:Int):∀rs:List PI,wZ 2 [.int .i64 a,.int .i64 b] (v6 rs)=some (if hasP rs (a,b) then some (.bool true) else none)
 | []=>rfl
 | p::rs=>by
  have ih:=f9 a b rs;have e1:hasP (p::rs) (a,b)=((decide (a=p.1)&&decide (b=p.2)) || hasP rs (a,b)):=by
   unfold hasP;rw[List.any_cons];congr 1;rw[yHC];simp[Prod.ext_iff]
  have e2:keyC 2 (encP p)=some [.int .i64 p.1,.int .i64 p.2]:=rfl;rw[v6,List.map_cons,wZ];simp only[e2,eqC2];rw[e1];cases h:(decide (a=p.1)&&decide (b=p.2))
  ·simpa[v6] using ih
  ·simp
def zED (rs:List PI) (u:Va):Prop:=∀(f:Fu) (v:Va) (n m:Nat),zT f=true->valP n u f=true->valP m v f=true->∀(D dm im gm:Nat),dm < D->
 Go.Ab.Loc Pg Gl D 37 [.mp dm im gm,encF f,encV u,encV v] [(dm,im,(gm,.mp (v6 rs)))] (.bool (relV (relF rs) u f v)) []
theorem eB {D dm im gm:Nat} {rs:List PI} {S:Nat->Nat->Ent} (hd:dm < D) (hS:S dm im=(gm,.mp (v6 rs))) {N:Nat} {τ:Nat->AV} {ω:Nat->Ent}:∀x∈[(dm,im,(gm,Ob.mp (v6 rs)))],x.1<=D/\(x.1=D->x.2.1 < N)/\(stF N D τ ω S).look x.1 x.2.1=x.2.2:=by
 intro x hx;simp at hx;subst hx;refine ⟨by simp only;omega,by simp only;omega,?_⟩;rw[zS,if_neg (by simp only;omega)];exact hS
theorem yDX {D dm im gm:Nat} {rs:List PI} {S:Nat->Nat->Ent} (hd:dm < D) (hS:S dm im=(gm,.mp (v6 rs))) (k N:Int) (g:Fu) (hg:zT g=true) (a a':Int) (gs gs':List Va) (ws ws':List Int) (n m:Nat) (hlen:gs.length<=maxLen) (hl:gs'.length=gs.length)
  (hu:∀i (h:i < gs.length),valP n gs[i] g=true) (hv:∀i (h:i < gs'.length),valP m gs'[i] g=true) (hrec:∀x∈gs,zED rs x):
  ∀(j i:Nat) (τ ω) (r:AV),i+j=gs.length->τ 0= .mp dm im gm->τ 5= .ptr D 5 1 0->τ 6= .ptr D 6 1 0->τ 7= .ptr D 7 1 0->τ 94= .int .i64 gs.length->τ 95= .int .i64 i->
   ω 5=(1,.cells [.int .i64 k,.int .i64 N,.sl 3 [encF g] .no])->ω 6=(1,.cells [.int .i64 a,.sl 3 (gs.map encV) .no,.sl 1 (ws.map (AV.int .i64)) .no])->ω 7=(1,.cells [.int .i64 a',.sl 3 (gs'.map encV) .no,.sl 1 (ws'.map (AV.int .i64)) .no])->
   r= .bool (oE (relF rs) (gs.drop i) (yHR j g) (gs'.drop i))->Rd (Loc Pg Gl) .im (RetM [.tmp 8] r D S []) [.lp c37_l0,.blk 1,.c zDS,.blk 0,.c zDR] (stF 168 D τ ω S):=by
 intro j
 induction j with
 | zero=>
  intro i τ ω r hi h0 h5 h6 h7 h94 h95 w5 w6 w7 hr;obtain rfl:i=gs.length:=by omega
  rw[List.drop_length,vH] at hr;refine zC c37_l0.eq_1 ?_;simp[h94,h95,zDS,hr,upds]
 | succ j ih=>
  intro i τ ω r hi h0 h5 h6 h7 h94 h95 w5 w6 w7 hr;have hlt:i < gs.length:=by omega
  have hlt':i < gs'.length:=by omega
  have hwr:=zF hlt hlen;rw[yGW hlt,yGW hlt',List.replicate_succ,vJ] at hr;refine zC c37_l0.eq_1 ?_;simp[h0,h5,h6,h7,h94,h95,w5,w6,w7,hlt,hlt',zB g,zA gs[i],zA gs'[i]];refine zY (hrec gs[i] (yGV hlt) g gs'[i] n m hg (hu i hlt) (hv i hlt') (D+1) dm im gm (by omega)) (by simp[AV.strip,zB g,zA gs[i],zA gs'[i]]) (eB hd hS) (by simp) ?_;cases hb:relV (relF rs) gs[i] g gs'[i]
  ·rw[hb] at hr;simp[hr,upds]
  ·rw[hb,Bool.true_and] at hr;simp[h95,hwr];refine ih (i+1) _ ω r (by omega) ?_ ?_ ?_ ?_ ?_ ?_ w5 w6 w7 hr;all_goals simp[h0,h5,h6,h7,h94]
end Go.Ab.Tab
/- bisim.related on sets. -/
namespace Go.Ab.Tab
open Go Go.Ab
def rowE (c:Nat) (f:Nat->Bool):AV:= .sl 1 (mB c f) (if c=0 then .nil else .tip)
def mayC (n:Nat) (cnt:Nat->Nat) (mf:Nat->Nat->Bool):List AV:=(yGY n).map fun j=>rowE (cnt j) (mf j)
@[simp] theorem zYU (n cnt mf):(mayC n cnt mf).length=n:=by simp[mayC]
@[simp] theorem yDD {n cnt mf i} (h:i < (mayC n cnt mf).length):(mayC n cnt mf)[i]=rowE (cnt i) (mf i):=by simp[mayC]
theorem cA {n cnt mf i} (h:i < n):(mayC n cnt mf)[i]?=some (rowE (cnt i) (mf i)):=by simp[mayC,h]
def cntI (i c m:Nat):Nat->Nat:=fun j=>if j < i then m else if j=i then c else 0
theorem d9 {n i c m:Nat} (hi:i < n) (mf:Nat->Nat->Bool):List.take i (mayC n (cntI i c m) mf)++rowE (c+1) (mf i)::List.drop (i+1) (mayC n (cntI i c m) mf)=mayC n (cntI i (c+1) m) mf:=by
 unfold mayC;rw[zBC _ hi];refine yHS fun j _=> ?_;unfold cntI;by_cases h1:j=i
 ·subst h1;simp
 ·simp[h1]
theorem iW {n i m:Nat} (mf:Nat->Nat->Bool):mayC n (cntI i m m) mf=mayC n (cntI (i+1) 0 m) mf:=by
 unfold mayC;refine yHS fun j _=> ?_;have:cntI i m m j=cntI (i+1) 0 m j:=by
  unfold cntI;by_cases h1:j < i
  ·rw[if_pos h1,if_pos (by omega)]
  ·rw[if_neg h1];by_cases h2:j=i
   ·rw[if_pos h2,if_pos (by omega)]
   ·rw[if_neg h2,if_neg (by omega)];split<;>rfl
 rw[this]
theorem zBS (c:Nat) (f:Nat->Bool):mB c f++[.bool (f c)]=mB (c+1) f:=by simp[mB,yHJ]
theorem tA {α:Type} (l:List α) (i:Nat) (x:α):List.take i (l.set i x)=List.take i l:=by
 refine yHN fun j=> ?_;by_cases h:j < i
 ·rw[yHT h,yHT h,yHU (by omega)]
 ·rw[yHE (by simp;omega),yHE (by simp;omega)]
theorem tH {α:Type} (l:List α) (i:Nat) (x:α):List.drop (i+1) (l.set i x)=List.drop (i+1) l:=by
 refine yHN fun j=> ?_;rw[yHV,yHV,yHU (by omega)]
theorem pF:IntKind.i64.wrap 1=1:=by decide
theorem dW (n m:Nat) (mf:Nat->Nat->Bool):yHR n (AV.sl 1 [] .nil)=mayC n (cntI 0 0 m) mf:=by
 refine (List.eq_replicate_iff.2 ⟨by simp,fun b hb=> ?_⟩).symm;obtain ⟨j,_,rfl⟩:=List.mem_map.1 hb;have:cntI 0 0 m j=0:=by unfold cntI;rw[if_neg (yHM _)];split<;>rfl
 rw[this];rfl
structure RE where
 dm:Nat
 im:Nat
 gm:Nat
 D:Nat
 rs:List PI
 k:Int
 N:Int
 g:Fu
 a:Int
 gs:List Va
 ws:List Int
 a':Int
 gs':List Va
 ws':List Int
 n:Nat
 m:Nat
structure RE.Ok (e:RE):Prop where
 hd:e.dm < e.D
 hg:zT e.g=true
 hu:∀i (h:i < e.gs.length),valP e.n e.gs[i] e.g=true
 hv:∀i (h:i < e.gs'.length),valP e.m e.gs'[i] e.g=true
 hl:e.gs.length<=100
 hl':e.gs'.length<=100
 hrec:∀x∈e.gs,zED e.rs x
structure RE.Fr (e:RE) (τ:Nat->AV):Prop where
 h0:τ 0= .mp e.dm e.im e.gm
 h5:τ 5= .ptr e.D 5 1 0
 h6:τ 6= .ptr e.D 6 1 0
 h7:τ 7= .ptr e.D 7 1 0
 h10:τ 10= .own e.D 119 1 0 e.gs.length 1 false
 h121:τ 121= .sl 3 (e.gs.map encV) .no
 h122:τ 122= .int .i64 e.gs.length
theorem RE.Fr.upd {e:RE} {τ:Nat->AV} (h:e.Fr τ) (d:Nat) (v:AV) (hd:¬(d=0\/d=5\/d=6\/d=7\/d=10\/d=121\/d=122):=by decide):e.Fr (upd τ d v):=by
 refine ⟨?_,?_,?_,?_,?_,?_,?_⟩<;>rw[vE,if_neg (by omega)]
 ·exact h.h0
 ·exact h.h5
 ·exact h.h6
 ·exact h.h7
 ·exact h.h10
 ·exact h.h121
 ·exact h.h122
structure RE.Ob (e:RE) (cnt:Nat->Nat) (mf:Nat->Nat->Bool) (ω:Nat->Ent):Prop where
 o5:ω 5=(1,.cells [.int .i64 e.k,.int .i64 e.N,.sl 3 [encF e.g] .no])
 o6:ω 6=(1,.cells [.int .i64 e.a,.sl 3 (e.gs.map encV) .no,.sl 1 (e.ws.map (AV.int .i64)) .no])
 o7:ω 7=(1,.cells [.int .i64 e.a',.sl 3 (e.gs'.map encV) .no,.sl 1 (e.ws'.map (AV.int .i64)) .no])
 o119:ω 119=(1,.cells (mayC e.gs.length cnt mf))
noncomputable def RE.mf (e:RE):Nat->Nat->Bool:=mAt (relM (relF e.rs) e.gs e.g e.gs')
theorem yDW {e:RE} (ho:e.Ok) {S:Nat->Nat->Ent} (hS:S e.dm e.im=(e.gm,.mp (v6 e.rs))) {Q:St->Prop} {rest:List AI} {i:Nat} (hi:i < e.gs.length)
  (hk:∀τ ω,e.Fr τ->τ 123= .int .i64 i->e.Ob (cntI (i+1) 0 e.gs'.length) e.mf ω->Rd (Loc Pg Gl) .im Q rest (stF 168 e.D τ ω S)):
  ∀(j c:Nat) (τ ω) (g12:Nat),c+j=e.gs'.length->e.Fr τ->τ 123= .int .i64 i->τ 11= .int .i64 i->τ 12= .ptr e.D 12 g12 0->τ 129= .sl 3 (e.gs'.map encV) .no->τ 130= .int .i64 e.gs'.length->τ 131= .int .i64 c->
   e.Ob (cntI i c e.gs'.length) e.mf ω->ω 12=(g12,.cells [.int .i64 e.gs[i].n,.sl 3 (e.gs[i].gs.map encV) .no,.sl 1 (e.gs[i].ws.map (AV.int .i64)) .no])->Rd (Loc Pg Gl) .im Q (.lp c37_l1:: .blk 5::rest) (stF 168 e.D τ ω S):=by
 intro j
 induction j with
 | zero=>
  intro c τ ω g12 hc hf h123 h11 h12 h129 h130 h131 hO w12;obtain rfl:c=e.gs'.length:=by omega
  refine zC c37_l1.eq_1 ?_;simp[h130,h131];refine hk _ ω ?_ (by simp[h123]) ⟨hO.o5,hO.o6,hO.o7,by rw[hO.o119,iW]⟩;repeat (first | exact hf | refine RE.Fr.upd ?_ _ _)
 | succ j ih=>
  intro c τ ω g12 hc hf h123 h11 h12 h129 h130 h131 hO w12;have hlt:c < e.gs'.length:=by omega
  have hl:=ho.hl;have hl':=ho.hl';have hwr:IntKind.i64.wrap ((c:Int)+1)=((c+1:Nat):Int):=zF hlt (by unfold maxLen;omega);have hne:¬e.D=e.dm:=by have:=ho.hd;omega
  have hi1:i+1<=e.gs.length:=hi;have hcnt:cntI i c e.gs'.length i=c:=by unfold cntI;rw[if_neg (yHK _),if_pos rfl]
  have hrel:relV (relF e.rs) e.gs[i] e.g e.gs'[c]=e.mf i c:=(k7 hi hlt).symm;refine zC c37_l1.eq_1 ?_;have fin:∀τ' ω',e.Fr τ'->τ' 123= .int .i64 i->τ' 11= .int .i64 i->τ' 12= .ptr e.D 12 g12 0->τ' 129= .sl 3 (e.gs'.map encV) .no->τ' 130= .int .i64 e.gs'.length->τ' 131= .int .i64 (c+1:Nat)->
    e.Ob (cntI i (c+1) e.gs'.length) e.mf ω'->ω' 12=ω 12->Rd (Loc Pg Gl) .im Q (.lp c37_l1:: .blk 5::rest) (stF 168 e.D τ' ω' S):=by
   intro τ' ω' g1 g2 g3 g4 g5 g6 g7 g8 g9;exact ih (c+1) τ' ω' g12 (by omega) g1 g2 g3 g4 g5 g6 g7 g8 (by rw[g9,w12])
  have hb:rowE (c+1) (e.mf i)= .sl 1 (mB c (e.mf i)++[.bool (e.mf i c)]) .tip:=by rw[zBS];rfl
  have hput:=d9 (c:=c) (m:=e.gs'.length) hi e.mf;rw[hb] at hput;have hcm:c+1<=1099511627776:=by omega
  rcases Nat.eq_zero_or_pos c with hc0 | hc0
  ·subst hc0;simp[hf.h0,hf.h5,hf.h6,hf.h7,hf.h10,h11,h12,h129,h130,h131,hO.o5,hO.o6,hO.o7,hO.o119,w12,hlt,hi,zA e.gs'[0],zB e.g,hcnt,rowE,mB];refine zY (ho.hrec e.gs[i] (yGV hi) e.g e.gs'[0] e.n e.m ho.hg (ho.hu i hi) (ho.hv 0 hlt) (e.D+1) e.dm e.im e.gm (by have:=ho.hd;omega)) (by simp[AV.strip,zB e.g,zA e.gs[i],zA e.gs'[0]]) (eB ho.hd hS) (by simp) ?_;rw[hrel];simp[mB] at hput;simp[hi,hi1,hne,hput,hwr,h131];refine fin _ _ ?_ ?_ ?_ ?_ ?_ ?_ ?_ ⟨?_,?_,?_,?_⟩ ?_
   ·repeat (first | exact hf | refine RE.Fr.upd ?_ _ _)
   all_goals simp[h123,h11,h12,h129,h130,hO.o5,hO.o6,hO.o7,tA,tH,hput,pF]
  ·have hc0':¬c=0:=by omega
   simp[hf.h0,hf.h5,hf.h6,hf.h7,hf.h10,h11,h12,h129,h130,h131,hO.o5,hO.o6,hO.o7,hO.o119,w12,hlt,hi,zA e.gs'[c],zB e.g,hcnt,rowE,hc0'];refine zY (ho.hrec e.gs[i] (yGV hi) e.g e.gs'[c] e.n e.m ho.hg (ho.hu i hi) (ho.hv c hlt) (e.D+1) e.dm e.im e.gm (by have:=ho.hd;omega)) (by simp[AV.strip,zB e.g,zA e.gs[i],zA e.gs'[c]]) (eB ho.hd hS) (by simp) ?_;rw[hrel];simp[hi,hi1,hne,hput,hwr,h131,hcm];refine fin _ _ ?_ ?_ ?_ ?_ ?_ ?_ ?_ ⟨?_,?_,?_,?_⟩ ?_
   ·repeat (first | exact hf | refine RE.Fr.upd ?_ _ _)
   all_goals simp[h123,h11,h12,h129,h130,hO.o5,hO.o6,hO.o7,tA,tH,hput,pF]
end Go.Ab.Tab
/- bisim.related: the contract. -/
namespace Go.Ab.Tab
open Go Go.Ab
theorem yDV {e:RE} (ho:e.Ok) {S:Nat->Nat->Ent} (hS:S e.dm e.im=(e.gm,.mp (v6 e.rs))) {Q:St->Prop}
  (hk:∀τ ω,e.Fr τ->e.Ob (cntI e.gs.length 0 e.gs'.length) e.mf ω->Rd (Loc Pg Gl) .im Q [.c lI] (stF 168 e.D τ ω S)):
  ∀(j i:Nat) (τ ω),i+j=e.gs.length->e.Fr τ->τ 123= .int .i64 i->e.Ob (cntI i 0 e.gs'.length) e.mf ω->Rd (Loc Pg Gl) .im Q [.lp c37_l2,.blk 3,.c lI] (stF 168 e.D τ ω S):=by
 intro j
 induction j with
 | zero=>
  intro i τ ω hi hf h123 hO;obtain rfl:i=e.gs.length:=by omega
  refine zC c37_l2.eq_1 ?_;simp[hf.h122,h123];refine hk _ ω ?_ hO;repeat (first | exact hf | refine RE.Fr.upd ?_ _ _)
 | succ j ih=>
  intro i τ ω hi hf h123 hO;have hlt:i < e.gs.length:=by omega
  have hl:=ho.hl;have hwr:IntKind.i64.wrap ((i:Int)+1)=((i+1:Nat):Int):=zF hlt (by unfold maxLen;omega);refine zC c37_l2.eq_1 ?_;simp[hf.h122,hf.h121,hf.h7,h123,hlt,zA e.gs[i],hO.o7];refine yDW ho hS hlt (fun τ' ω' g1 g2 g3=> ?_) e.gs'.length 0 _ _ ((ω 12).1+1) (yGT _) ?_ ?_ ?_ ?_ ?_ ?_ ?_ ⟨?_,?_,?_,?_⟩ ?_
  ·simp[zJC,g2,hwr];refine ih (i+1) _ ω' (by omega) ?_ (by simp) g3;repeat (first | exact g1 | refine RE.Fr.upd ?_ _ _)
  ·repeat (first | exact hf | refine RE.Fr.upd ?_ _ _)
  all_goals simp[h123,hO.o5,hO.o6,hO.o7,hO.o119]
theorem zGW (b:Bool) (z:Nat):binf .neq .nsl (.slq b) (.sl z [] .nil)=some (.bool !b):=rfl
theorem l9 {r a gs ws k N fg v} (hs:sets k=true):relV r (.mk a gs ws) (.mk k N fg) v=relS k (relM r gs (fg.headD f00) v.gs) gs.length v.gs.length ws v.ws:=by
 rw[oG];have h0:¬(Fu.mk k N fg).k=0:=by
  intro h;simp only[Fu.k] at h;rw[h] at hs;simp[sets,wtd] at hs
 rw[if_neg h0];simp only[Fu.k,Fu.gs,hs,if_true]
theorem mJ {r a gs ws k N fg v} (h0:k≠0) (hs:sets k=false):relV r (.mk a gs ws) (.mk k N fg) v=(decide (a=v.n)&&oE r gs (zQ (.mk k N fg) (.mk a gs ws)) v.gs):=by
 rw[oG];simp only[Fu.k,Fu.gs,hs,h0,if_false,Bool.false_eq_true]
theorem zSW (rs:List PI):∀u,zED rs u:=by
 refine Va.ind' fun a gs ws hrec=> ?_;intro f v n m hsh hu hv D dm im gm hd;obtain ⟨a',gs',ws'⟩:=v;obtain ⟨k,N,fg⟩:=f;have fu:=zHC hsh hu;have fv:=zHC hsh hv;obtain ⟨hl,hn1,hn2,hfs⟩:=xH hsh;refine y4 zR tok rfl rfl fun S hS=> ?_;have hm:=(hS (dm,im,(gm,.mp (v6 rs))) (by simp)).2;have hne:¬dm=D:=by omega
 rw[zG,zG,zI];unfold c37;generalize hr:AV.bool (relV (relF rs) (.mk a gs ws) (.mk k N fg) (.mk a' gs' ws'))=r;by_cases hs:sets k=true
 ·rw[l9 hs] at hr;have hk':k=5\/k=6\/k=7:=by simpa[sets,wtd] using hs
  obtain ⟨g,rfl⟩:∃g,fg= [g]:=by
   have e1:arK k=1:=by rcases hk' with rfl | rfl | rfl<;>rfl
   rw[e1] at hl
   match fg,hl with
   | [g],_=>exact ⟨g,rfl⟩
  obtain ⟨s1,s2⟩:=fu.set hs;obtain ⟨s3,s4⟩:=fv.set hs;have pu:∀i (h:i < gs.length),valP n gs[i] g=true:=by
   intro i h;have:=fu.sub i h (by rw[zK];rcases hk' with rfl | rfl | rfl<;>simp[h])
   rw[show (zQ (.mk k N [g]) (.mk a gs ws))[i]'(by rw[zK];rcases hk' with rfl | rfl | rfl<;>simp[h])=g from by
    simp only[zK];rcases hk' with rfl | rfl | rfl<;>simp] at this
   exact this
  have pv:∀i (h:i < gs'.length),valP m gs'[i] g=true:=by
   intro i h;have:=fv.sub i h (by rw[zK];rcases hk' with rfl | rfl | rfl<;>simp[h])
   rw[show (zQ (.mk k N [g]) (.mk a' gs' ws'))[i]'(by rw[zK];rcases hk' with rfl | rfl | rfl<;>simp[h])=g from by
    simp only[zK];rcases hk' with rfl | rfl | rfl<;>simp] at this
   exact this
  let e:RE:=⟨dm,im,gm,D,rs,k,N,g,a,gs,ws,a',gs',ws',n,m⟩
  have ho:e.Ok:=⟨hd,hfs g (by simp),pu,pv,s1,s3,hrec⟩;have hk0:¬k=0:=by omega
  have hk1:¬k=1:=by omega
  have hk2:¬k=2:=by omega
  have hk3:¬k=3:=by omega
  have hk4:¬k=4:=by omega
  have hmx:(gs.length:Int)*24<=1099511627776:=by omega
  have hmx1:(gs.length:Int)<=1099511627776:=by omega
  simp[hk0,hk1,hk2,hk3,hk4,zDR,zD,hmx,hmx1,dW gs.length gs'.length e.mf];have hcf:CF (D+1) gs.length gs'.length D 119 1 (mayC gs.length (cntI gs.length 0 gs'.length) e.mf) e.mf:=by
   refine ⟨yHL _,by omega,by omega,by simp,fun i hi=> ?_⟩;rw[cA hi];have:cntI gs.length 0 gs'.length i=gs'.length:=by unfold cntI;rw[if_pos hi]
   rw[this];exact ⟨_,rfl⟩
  refine yDV (e:=e) ho hm (fun τ ω hf hO=> ?_) gs.length 0 _ _ (yGT _) ⟨?_,?_,?_,?_,?_,?_,?_⟩ ?_ ⟨?_,?_,?_,?_⟩
  ·change Rd (Loc Pg Gl) .im (RetM [.tmp 8] r D S []) [.c lI] (stF 168 D τ ω S);have look:∀{τ':Nat->AV} (x:Nat×Nat×Ent),x∈[(D,119,(1,Ob.cells (mayC gs.length (cntI gs.length 0 gs'.length) e.mf)))]->x.1<=D/\(x.1=D->x.2.1 < 168)/\(stF 168 D τ' ω S).look x.1 x.2.1=x.2.2:=by
    intro τ' x hx;simp at hx;subst hx;refine ⟨yGZ _,fun _=>by simp,?_⟩;simp[zS,hO.o119];rfl
   have hf5:=hf.h5;have hf6:=hf.h6;have hf7:=hf.h7;have hf10:=hf.h10;have ho5:=hO.o5;have ho6:=hO.o6;have ho7:=hO.o7;simp only[e] at hf5 hf6 hf7 hf10 ho5 ho6 ho7;by_cases h5:k=5
   ·subst h5;simp[lI,hf5,ho5,hf7,ho7,hf10];refine yE (zSM hcf) (by simp[AV.strip]) look (by simp) ?_;simp[upds,<-hr,relS,RE.mf,e,Va.gs,Va.ws]
   ·have hw:wtd k=true:=by rcases hk' with rfl | rfl | rfl<;>first | exact absurd rfl h5 | rfl
    obtain ⟨w1,w2,w3⟩:=fu.wgt hw;obtain ⟨w4,w5,w6⟩:=fv.wgt hw;simp[lI,hf5,ho5,hf6,ho6,hf7,ho7,hf10,h5];have sp:=zSK (D:=D+1) (f:= .mk k N [g]) (u:= .mk a gs ws) (v:= .mk a' gs' ws') (dM:=D) (sM:=119) (gM:=1) (csM:=mayC gs.length (cntI gs.length 0 gs'.length) e.mf) (may:=e.mf) (by simp only[Va.ws];rw[w1,w4];exact hcf) w2 w5 w3 w6;simp only[Va.ws,w1,w4] at sp;refine yE sp (by simp[AV.strip,zI,zG]) look (by simp) ?_;have hrr:r= .bool (if k=6 then w8 gs.length gs'.length e.mf (wAt ws) (wAt ws') else w8 gs.length gs'.length e.mf (fun i=>wAt ws i*sumW ws') (fun k=>wAt ws' k*sumW ws)):=by
     rw[<-hr];simp only[relS,if_neg h5,Va.gs,Va.ws];rfl
    simp[upds,hrr,zGW,Fu.k];rfl
  all_goals simp[e]
 ·have hs':sets k=false:=by simpa using hs
  by_cases h0:k=0
  ·subst h0;rw[oG] at hr;simp[Fu.k,Va.n] at hr;simp[hne,hm,keyC,f9,<-hr,relF,upds];cases hh:hasP rs (a,a')<;>simp[hh,upds,AV.still2]
  rw[mJ h0 hs'] at hr;simp only[Va.n,Va.gs] at hr;rcases oY hsh with rfl | rfl | rfl | rfl | rfl | rfl | rfl | rfl
  ·exact absurd rfl h0
  ·have e1:=fu.con rfl;subst e1;rw[vH] at hr;simp[<-hr,upds];try exact decide_eq_decide.2 Iff.rfl
  ·obtain ⟨b1,b2⟩:=fu.two rfl;obtain ⟨b3,b4⟩:=fv.two rfl;obtain ⟨f0,f1,rfl⟩:∃f0 f1,fg= [f0,f1]:=by
    have e1:arK 2=2:=rfl;rw[e1] at hl
    match fg,hl with
    | [f0,f1],_=>exact ⟨f0,f1,rfl⟩
   obtain ⟨u0,u1,rfl⟩:∃u0 u1,gs= [u0,u1]:=by
    match gs,b1 with
    | [u0,u1],_=>exact ⟨u0,u1,rfl⟩
   obtain ⟨v0,v1,rfl⟩:∃v0 v1,gs'= [v0,v1]:=by
    match gs',b3 with
    | [v0,v1],_=>exact ⟨v0,v1,rfl⟩
   have p0:=fu.sub 0 (by simp) (by simp[zK]);have p1:=fu.sub 1 (by simp) (by simp[zK]);have q0:=fv.sub 0 (by simp) (by simp[zK]);have q1:=fv.sub 1 (by simp) (by simp[zK]);simp[zK] at p0 p1 q0 q1;subst b2;subst b4;simp[zK,vJ,vH] at hr;simp[zB f0,zB f1,zA u0,zA u1,zA v0,zA v1];refine zY (hrec u0 (by simp) f0 v0 n m (hfs f0 (by simp)) p0 q0 (D+1) dm im gm (by omega)) (by simp[AV.strip,zB f0,zA u0,zA v0]) (eB hd hm) (by simp) ?_;cases hb:relV (relF rs) u0 f0 v0
   ·rw[hb] at hr;simp[<-hr,upds]
   ·rw[hb] at hr;simp[zB f0,zB f1,zA u0,zA u1,zA v0,zA v1];refine zY (hrec u1 (by simp) f1 v1 n m (hfs f1 (by simp)) p1 q1 (D+1) dm im gm (by omega)) (by simp[AV.strip,zB f1,zA u1,zA v1]) (eB hd hm) (by simp) ?_;simp[<-hr,upds]
  ·obtain ⟨b1,b2⟩:=fu.sum rfl;obtain ⟨b3,b4⟩:=fv.sum rfl;obtain ⟨f0,f1,rfl⟩:∃f0 f1,fg= [f0,f1]:=by
    have e1:arK 3=2:=rfl;rw[e1] at hl
    match fg,hl with
    | [f0,f1],_=>exact ⟨f0,f1,rfl⟩
   obtain ⟨u0,rfl⟩:∃u0,gs= [u0]:=by
    match gs,b1 with
    | [u0],_=>exact ⟨u0,rfl⟩
   obtain ⟨v0,rfl⟩:∃v0,gs'= [v0]:=by
    match gs',b3 with
    | [v0],_=>exact ⟨v0,rfl⟩
   by_cases haa:a=a'
   ·subst haa;have p0:=fu.sub 0 (by simp) (by rw[zK];rcases b2 with rfl | rfl<;>simp)
    have q0:=fv.sub 0 (by simp) (by rw[zK];rcases b2 with rfl | rfl<;>simp)
    rcases b2 with rfl | rfl
    ·simp[zK] at p0 q0;simp[zK,vJ,vH] at hr;simp[zB f0,zA u0,zA v0];refine zY (hrec u0 (by simp) f0 v0 n m (hfs f0 (by simp)) p0 q0 (D+1) dm im gm (by omega)) (by simp[AV.strip,zB f0,zA u0,zA v0]) (eB hd hm) (by simp) ?_;simp[<-hr,upds]
    ·simp[zK] at p0 q0;simp[zK,vJ,vH] at hr;simp[zB f1,zA u0,zA v0];refine zY (hrec u0 (by simp) f1 v0 n m (hfs f1 (by simp)) p0 q0 (D+1) dm im gm (by omega)) (by simp[AV.strip,zB f1,zA u0,zA v0]) (eB hd hm) (by simp) ?_;simp[<-hr,upds]
   ·simp[haa] at hr;simp[haa,<-hr,upds]
  ·obtain ⟨b1,b2⟩:=fu.exp rfl;obtain ⟨b3,b4⟩:=fv.exp rfl;obtain ⟨g,rfl⟩:∃g,fg= [g]:=by
    have e1:arK 4=1:=rfl;rw[e1] at hl
    match fg,hl with
    | [g],_=>exact ⟨g,rfl⟩
   subst b2;subst b4;have hN:N<=100:=by have e1:y7 4=4:=rfl;omega
   have pu:∀i (h:i < gs.length),valP n gs[i] g=true:=by
    intro i h;have h2:i < N.toNat:=by omega
    have:=fu.sub i h (by rw[zK];simp[h2]);simpa[zK] using this
   have pv:∀i (h:i < gs'.length),valP m gs'[i] g=true:=by
    intro i h;have h2:i < N.toNat:=by omega
    have:=fv.sub i h (by rw[zK];simp[h2]);simpa[zK] using this
   simp;refine yDX hd hm 4 N g (hfs g (by simp)) 0 0 gs gs' ws ws' n m (by unfold maxLen;omega) (by omega) pu pv hrec gs.length 0 _ _ r (yGT _) ?_ ?_ ?_ ?_ ?_ ?_ ?_ ?_ ?_ ?_;all_goals simp
   rw[<-hr,b1];simp[zK]
  ·exact absurd rfl hs
  ·exact absurd rfl hs
  ·exact absurd rfl hs
end Go.Ab.Tab
/- The reference's sum,times,covers. -/
namespace Go.Ab.Tab
open Go Go.Ab
theorem l47 (D:Nat) (n:Nat) (hn1:n<=1000) (f:Nat->Int) (hf:∀i,i < n->0<=f i) (hs:sumN n f<=2199023255552) (S) (x:AV) (hx:(∃t,x= .sl 1 (mI n f) t)\/∃d s g,d < D/\x= .own d s g 0 n 1 false/\S d s=(g,.cells (mI n f))):
  ∀(j i:Nat) (τ ω),i+j=n->τ 6=x->τ 7= .int .i64 n->τ 8= .int .i64 i->τ 3= .int .i64 (sumN i f)->
  Rd (Loc Pg Gl) .im (RetM [.tmp 2] (.int .i64 (sumN n f)) D S []) [.lp c47_l0,.blk 0,.c zDK] (stF 17 D τ ω S):=by
 intro j
 induction j with
 | zero=>
  intro i τ ω hi h6 h7 h8 h3;refine zC c47_l0.eq_1 ?_;obtain rfl:i=n:=by omega
  simp[h6,h7,h8,h3,zDK,upds]
 | succ j ih=>
  intro i τ ω hi h6 h7 h8 h3;have hlt:i < n:=by omega
  have hwr:IntKind.i64.wrap ((i:Int)+1)=((i+1:Nat):Int):=zF hlt (by unfold maxLen;omega);have e1:sumN (i+1) f=sumN i f+f i:=rfl;have h0:=hf i hlt;have h1:sumN (i+1) f<=sumN n f:=iI hf hlt;have h2:0<=sumN i f:=xG fun k hk=>hf k (by omega);have hw:IntKind.i64.wrap (sumN i f+f i)=sumN (i+1) f:=by rw[<-e1];refine yO ?_ ?_<;>(have:=e1;omega)
  refine zC c47_l0.eq_1 ?_;rcases hx with ⟨t,rfl⟩ | ⟨d,s,g,hd,rfl,hS⟩
  ·simp[h6,h7,h8,h3,hlt,hw,hwr];refine ih (i+1) _ _ (by omega) ?_ ?_ ?_ ?_;all_goals simp[h6,h7]
  ·have hne:¬d=D:=by omega
   simp[h6,h7,h8,h3,hlt,hw,hwr,hne,hS];refine ih (i+1) _ _ (by omega) ?_ ?_ ?_ ?_;all_goals simp[h6,h7]
theorem zAP (D:Nat) (n:Nat) (hn1:n<=1000) (f:Nat->Int) (hf:∀i,i < n->0<=f i) (hs:sumN n f<=2199023255552):Go.Ab.Loc Pg Gl D 47 [.sl 1 (mI n f) .no] [] (.int .i64 (sumN n f)) []:=by
 refine y4 zR tok rfl rfl fun S hS=> ?_;unfold c47;simp;refine l47 D n hn1 f hf hs S (.sl 1 (mI n f) .no) (.inl ⟨_,rfl⟩) n 0 _ _ (yGT _) ?_ ?_ ?_ ?_;all_goals simp[sumN]
theorem zAO (D:Nat) (n:Nat) (hn1:n<=1000) (f:Nat->Int) (hf:∀i,i < n->0<=f i) (hs:sumN n f<=2199023255552) (d s g:Nat) (hd:d < D):Go.Ab.Loc Pg Gl D 47 [.own d s g 0 n 1 false] [(d,s,(g,.cells (mI n f)))] (.int .i64 (sumN n f)) []:=by
 refine y4 zR tok rfl rfl fun S hS=> ?_;have h1:=(hS (d,s,(g,.cells (mI n f))) (by simp)).2;unfold c47;simp;refine l47 D n hn1 f hf hs S (.own d s g 0 n 1 false) (.inr ⟨d,s,g,hd,rfl,h1⟩) n 0 _ _ (yGT _) ?_ ?_ ?_ ?_;all_goals simp[sumN]
theorem zLJ (c:Nat) (f:Nat->Int):mI c f++[.int .i64 (f c)]=mI (c+1) f:=by simp[mI,yHJ]
theorem l49 (D n:Nat) (hn:n<=1000) (f:Nat->Int) (b:Int) (hf:∀i,i < n->0<=f i*b/\f i*b<=2199023255552) (S):
  ∀(j i:Nat) (τ ω) (r:AV),i+j=n->τ 1= .int .i64 b->τ 5= .sl 1 (mI i (fun i=>f i*b)) .tip->τ 8= .sl 1 (mI n f) .no->τ 9= .int .i64 n->τ 10= .int .i64 i->r= .sl 1 (mI n (fun i=>f i*b)) .no->
   Rd (Loc Pg Gl) .im (RetS [.tmp 4] r D S []) [.lp c49_l0,.blk 0,.c zDJ] (stF 22 D τ ω S):=by
 intro j
 induction j with
 | zero=>
  intro i τ ω r hi h1 h5 h8 h9 h10 hr;obtain rfl:i=n:=by omega
  refine zC c49_l0.eq_1 ?_;simp[h5,h8,h9,h10,zDJ,hr,upds,AV.strip]
 | succ j ih=>
  intro i τ ω r hi h1 h5 h8 h9 h10 hr;have hlt:i < n:=by omega
  have hwr:IntKind.i64.wrap ((i:Int)+1)=((i+1:Nat):Int):=zF hlt (by unfold maxLen;omega);obtain ⟨q1,q2⟩:=hf i hlt;have hw:IntKind.i64.wrap (f i*b)=f i*b:=yO (by omega) (by omega);have hb:(i+1)*8<=1099511627776:=by omega
  have hsn:=zLJ i (fun i=>f i*b);refine zC c49_l0.eq_1 ?_;simp[h1,h5,h8,h9,h10,hlt,hw,hb,hwr];refine ih (i+1) _ ω r (by omega) ?_ ?_ ?_ ?_ ?_ hr;all_goals simp[h1,h8,h9,hsn]
theorem zIK (D n:Nat) (hn:n<=1000) (f:Nat->Int) (b:Int) (hf:∀i,i < n->0<=f i*b/\f i*b<=2199023255552):Go.Ab.Loc Pg Gl D 49 [.sl 1 (mI n f) .no,.int .i64 b] [] (.sl 1 (mI n (fun i=>f i*b)) .no) []:=by
 refine zLM zR tok rfl rfl fun S hS=> ?_;unfold c49;simp;refine l49 D n hn f b hf S n 0 _ _ _ (yGT _) ?_ ?_ ?_ ?_ ?_ rfl;all_goals simp[mI]
theorem yDU {D n m dM sM gM:Nat} {csM:List AV} {may:Nat->Nat->Bool} (ho:CF D n m dM sM gM csM may) {S:Nat->Nat->Ent} {Q:St->Prop} {i:Nat} {rest:List AI} {tp:Tip} (P:(Nat->AV)->Prop) (hP:∀τ d v,8<=d->d≠15->d≠16->d≠17->P τ->P (upd τ d v))
  (hk:∀τ ω met,P τ->τ 5= .own D 14 1 0 m 1 false->τ 8= .bool (anyB (may i) true m)->ω 14=(1,.cells (mB m met))->(∀k,k < m->met k=anyB (fun j=>may j k) true (i+1))->Rd (Loc Pg Gl) .im Q rest (stF 55 D τ ω S)):
  ∀(j c:Nat) (τ ω met),c+j=m->P τ->τ 5= .own D 14 1 0 m 1 false->τ 8= .bool (anyB (may i) true c)->ω 14=(1,.cells (mB m met))->τ 21= .sl 1 (mB m (may i)) tp->τ 22= .int .i64 m->τ 23= .int .i64 c->
   (∀k,k < m->met k=if k < c then anyB (fun j=>may j k) true (i+1) else anyB (fun j=>may j k) true i)->Rd (Loc Pg Gl) .im Q (.lp c46_l0:: .blk 2::rest) (stF 55 D τ ω S):=by
 intro j
 induction j with
 | zero=>
  intro c τ ω met hc hp h5 h8 w11 h21 h22 h23 hme;obtain rfl:c=m:=by omega
  refine zC c46_l0.eq_1 ?_;simp[h21,h22,h23];refine hk _ ω met (hP _ _ _ (by decide) (by decide) (by decide) (by decide) hp) (by simp[h5]) (by simp[h8]) w11 fun k hk=>by rw[hme k hk,if_pos hk]
 | succ j ih=>
  intro c τ ω met hc hp h5 h8 w11 h21 h22 h23 hme;have hlt:c < m:=by omega
  have hm10:=ho.hm;have hwr:IntKind.i64.wrap ((c:Int)+1)=((c+1:Nat):Int):=zF hlt (by unfold maxLen;omega);have hi1:c+1<=m:=hlt;have hmc:=hme c hlt;rw[if_neg (yHK _)] at hmc;have hfnd:anyB (may i) true (c+1)=(anyB (may i) true c || may i c):=by rw[rU];simp
  have hcol:anyB (fun j=>may j c) true (i+1)=(met c || may i c):=by rw[rU,<-hmc];simp
  have fin:∀τ' ω' v,v=anyB (fun j=>may j c) true (i+1)->P τ'->τ' 5= .own D 14 1 0 m 1 false->τ' 8= .bool (anyB (may i) true (c+1))->ω' 14=(1,.cells (mB m (updB met c v)))->τ' 21= .sl 1 (mB m (may i)) tp->τ' 22= .int .i64 m->τ' 23= .int .i64 (c+1:Nat)->
    Rd (Loc Pg Gl) .im Q (.lp c46_l0:: .blk 2::rest) (stF 55 D τ' ω' S):=by
   intro τ' ω' v hv g1 g2 g8 g3 g4 g5 g6;refine ih (c+1) τ' ω' (updB met c v) (by omega) g1 g2 g8 g3 g4 g5 g6 fun k hk=> ?_;unfold updB;by_cases e1:k=c
   ·subst e1;rw[if_pos rfl,if_pos (yHL _),hv]
   ·rw[if_neg e1,hme k hk];by_cases e2:k < c
    ·rw[if_pos e2,if_pos (by omega)]
    ·rw[if_neg e2,if_neg (by omega)]
  refine zC c46_l0.eq_1 ?_;cases hfv:anyB (may i) true c
  ·rw[hfv] at h8 hfnd;cases hmv:met c
   ·simp[h21,h22,h23,hlt,h5,h8,w11,hmv,hi1,uE hlt,hwr];refine fin _ _ (may i c) (by rw[hcol,hmv];simp) ?_ ?_ ?_ ?_ ?_ ?_ ?_
    ·repeat (first | exact hp | refine hP _ _ _ (by decide) (by decide) (by decide) (by decide) ?_)
    all_goals simp[h5,h21,h22,hfnd]
   ·simp[h21,h22,h23,hlt,h5,h8,w11,hmv,hi1,uE hlt,hwr];refine fin _ _ true (by rw[hcol,hmv];simp) ?_ ?_ ?_ ?_ ?_ ?_ ?_
    ·repeat (first | exact hp | refine hP _ _ _ (by decide) (by decide) (by decide) (by decide) ?_)
    all_goals simp[h5,h21,h22,hfnd]
  ·rw[hfv] at h8 hfnd;cases hmv:met c
   ·simp[h21,h22,h23,hlt,h5,h8,w11,hmv,hi1,uE hlt,hwr];refine fin _ _ (may i c) (by rw[hcol,hmv];simp) ?_ ?_ ?_ ?_ ?_ ?_ ?_
    ·repeat (first | exact hp | refine hP _ _ _ (by decide) (by decide) (by decide) (by decide) ?_)
    all_goals simp[h5,h21,h22,hfnd]
   ·simp[h21,h22,h23,hlt,h5,h8,w11,hmv,hi1,uE hlt,hwr];refine fin _ _ true (by rw[hcol,hmv];simp) ?_ ?_ ?_ ?_ ?_ ?_ ?_
    ·repeat (first | exact hp | refine hP _ _ _ (by decide) (by decide) (by decide) (by decide) ?_)
    all_goals simp[h5,h21,h22,hfnd]
theorem yDS {D m:Nat} (hm10:m<=1000) {S:Nat->Nat->Ent} {met:Nat->Bool}:∀(j c:Nat) (τ ω) (r:AV),c+j=m->τ 46= .own D 14 1 0 m 1 false->τ 47= .int .i64 m->τ 48= .int .i64 c->ω 14=(1,.cells (mB m met))->
  r= .bool ((List.range' c j).all met)->Rd (Loc Pg Gl) .im (RetM [.tmp 4] r D S []) [.lp c46_l2,.blk 4,.c zDM] (stF 55 D τ ω S):=by
 intro j
 induction j with
 | zero=>
  intro c τ ω r hc h46 h47 h48 w14 hr;obtain rfl:c=m:=by omega
  refine zC c46_l2.eq_1 ?_;simp[h46,h47,h48,zDM,upds,hr]
 | succ j ih=>
  intro c τ ω r hc h46 h47 h48 w14 hr;have hlt:c < m:=by omega
  have hwr:IntKind.i64.wrap ((c:Int)+1)=((c+1:Nat):Int):=zF hlt (by unfold maxLen;omega);rw[List.range'_succ,List.all_cons] at hr;refine zC c46_l2.eq_1 ?_;cases hmv:met c
  ·rw[hmv,Bool.false_and] at hr;simp[h46,h47,h48,hlt,w14,hmv,upds,hr]
  ·rw[hmv,Bool.true_and] at hr;simp[h46,h47,h48,hlt,w14,hmv,hwr];refine ih (c+1) _ ω r (by omega) ?_ ?_ ?_ w14 hr;all_goals simp[h46,h47]
theorem yDT {D n m dM sM gM:Nat} {csM:List AV} {may:Nat->Nat->Bool} (ho:CF D n m dM sM gM csM may) {S:Nat->Nat->Ent} (hS:S dM sM=(gM,.cells csM)):
  ∀(j i:Nat) (τ ω met) (r:AV),i+j=n->τ 15= .own dM sM gM 0 n 1 false->τ 16= .int .i64 n->τ 17= .int .i64 i->τ 5= .own D 14 1 0 m 1 false->ω 14=(1,.cells (mB m met))->(∀k,k < m->met k=anyB (fun j=>may j k) true i)->
   (∀i',i' < i->anyB (may i') true m=true)->r= .bool (covB n m may)->Rd (Loc Pg Gl) .im (RetM [.tmp 4] r D S []) [.lp c46_l1,.blk 0,.c zDL] (stF 55 D τ ω S):=by
 have hm10:=ho.hm;have hn10:=ho.hn;have hne:¬dM=D:=by have:=ho.hM;omega
 intro j
 induction j with
 | zero=>
  intro i τ ω met r hi h12 h13 h14 h5 w11 hme hok hr;obtain rfl:i=n:=by omega
  have hb:(List.range' 0 m).all met=covB i m may:=by
   unfold covB;rw[yHC];simp only[yGU,yHD,yHA,List.mem_range'_1,yGT,yHI,true_and];constructor
   ·intro h;exact ⟨fun j hj=>hok j hj,fun k hk=>by rw[<-hme k hk];exact h k hk⟩
   ·rintro ⟨_,h⟩ k hk;rw[hme k hk];exact h k hk
  refine zC c46_l1.eq_1 ?_;simp[h12,h13,h14,zDL,h5];refine yDS hm10 (met:=met) m 0 _ ω r (yGT _) ?_ ?_ ?_ w11 (by rw[hr,hb]);all_goals simp
 | succ j ih=>
  intro i τ ω met r hi h12 h13 h14 h5 w11 hme hok hr;have hlt:i < n:=by omega
  have hwr:IntKind.i64.wrap ((i:Int)+1)=((i+1:Nat):Int):=zF hlt (by unfold maxLen;omega);have hlen:=ho.hlen;obtain ⟨tp,htp⟩:=ho.hrow i hlt;have hge:csM[i]'(by rw[hlen];exact hlt)= .sl 1 (mB m (may i)) tp:=by
   rw[yHB (by rw[hlen];exact hlt)] at htp;exact Option.some.inj htp
  cases tp;all_goals
   refine zC c46_l1.eq_1 ?_;simp[h12,h13,h14,hlt,hne,hS,hlen,hge];refine yDU ho (i:=i) (fun τ=>τ 15= .own dM sM gM 0 n 1 false/\τ 16= .int .i64 n/\τ 17= .int .i64 i) (fun τ d v h8 n12 n13 n14 h=>by simp only[vE];rw[if_neg (Ne.symm n12),if_neg (Ne.symm n13),if_neg (Ne.symm n14)];exact h)
    (fun τ ω met hp g5 g8 gw gm=> ?_) m 0 _ ω met (yGT _) ⟨by simp[h12],by simp[h13],by simp[h14]⟩ (by simp[h5]) (by simp[anyB]) w11 (by simp;rfl) (by simp) (by simp) (fun k hk=>by rw[if_neg (yHM _)];exact hme k hk)
   cases hany:anyB (may i) true m
   ·have hb:covB n m may=false:=by
     cases hc:covB n m may
     ·rfl
     ·unfold covB at hc;simp only[yGU,yHD,yHA] at hc;rw[hc.1 i hlt] at hany;cases hany
    rw[hany] at g8;simp[zDN,g8,upds,hr,hb]
   ·rw[hany] at g8;simp[zDN,g8,zJB,hp.2.2,hwr];refine ih (i+1) _ ω met r (by omega) ?_ ?_ ?_ ?_ gw gm (fun i' hi'=> ?_) hr
    ·simp[hp.1]
    ·simp[hp.2.1]
    ·simp
    ·simp[g5]
    ·by_cases e1:i'=i
     ·rw[e1];exact hany
     ·exact hok i' (by omega)
theorem zSQ {D n m dM sM gM:Nat} {csM:List AV} {may:Nat->Nat->Bool} (ho:CF D n m dM sM gM csM may):Go.Ab.Loc Pg Gl D 46 [.own dM sM gM 0 n 1 false,.int .i64 m] [(dM,sM,(gM,.cells csM))] (.bool (covB n m may)) []:=by
 have hm10:=ho.hm;refine y4 zR tok rfl rfl fun S hS=> ?_;have h1:=(hS (dM,sM,(gM,.cells csM)) (by simp)).2;unfold c46;have hmx:(m:Int)<=1099511627776:=by omega
 simp[zD,l6,hmx];refine yDT ho h1 n 0 _ _ (fun _=>false) _ (yGT _) ?_ ?_ ?_ ?_ ?_ (fun k hk=>by simp[anyB]) (fun i hi=>by omega) rfl;all_goals simp
end Go.Ab.Tab
/- The reference's way: breadth-first search. -/
namespace Go.Ab.Tab
open Go Go.Ab
def yN:List (Nat×Nat)->List AV
 | []=>[]
 | (r,c)::t=> .int .i64 r:: .int .i64 c::yN t
theorem qH (r c:Nat):∀t,yN (t++[(r,c)])=yN t++[.int .i64 r,.int .i64 c]
 | []=>rfl
 | (a,b)::t=>by simp[yN,qH r c t]
@[simp] theorem hG:∀t,(yN t).length=2*t.length
 | []=>rfl
 | (a,b)::t=>by simp[yN,hG t];omega
abbrev PT:=List (Nat×Nat)×Nat
def r6 (p:PT):AV:= .sl 1 (yN p.1++[.int .i64 p.2]) .no
theorem Alo.snoc {n m may F} {v:Int} {x c:Nat} (hx:x < n) (hc:c < m) (hm:may x c=true):∀{p:List (Nat×Nat)} {i j:Nat},Alo n m may F v (p++[(i,j)])->v<=F x j->c∉(p++[(i,j)]).map (·.2)->Alo n m may F v (p++[(i,j),(x,c)])
 | [],i,j,h,hv,hn=>by
  cases h with
  | one _ _ h1 h2 h3=>exact .cons i j x c [] h1 h2 h3 hv (by simp at hn|-;exact fun e=>hn e.symm) (.one x c hx hc hm)
 | [(a,b)],i,j,h,hv,hn=>by
  cases h with
  | cons _ _ _ _ _ h1 h2 h3 h4 h5 h6=>
   refine .cons a b i j [(x,c)] h1 h2 h3 h4 ?_ (Alo.snoc hx hc hm (p:=[]) h6 hv (by simp at hn|-;exact hn.2));simp at h5 hn|-;exact ⟨h5,fun e=>hn.1 e.symm⟩
 | (a,b)::(a',b')::p,i,j,h,hv,hn=>by
  cases h with
  | cons _ _ _ _ _ h1 h2 h3 h4 h5 h6=>
   refine .cons a b a' b' (p++[(i,j),(x,c)]) h1 h2 h3 h4 ?_ (Alo.snoc hx hc hm (p:=(a',b')::p) h6 hv (by simp at hn|-;exact hn.2));simp at h5 hn|-;exact ⟨h5.1,h5.2.1,h5.2.2,fun e=>hn.1 e.symm⟩
theorem pP (s:St) (k:IntKind) (i:Int):frzL s [.int k i]=some ([.int k i],[]):=rfl
theorem zCA (s:St) (z:Nat) (xs:List AV) (t:Tip):frzL s [.sl z xs t]=some ([.sl z xs t],[]):=rfl
structure WE where
 n:Nat
 m:Nat
 d0:Nat
 d1:Nat
 dM:Nat
 sM:Nat
 gM:Nat
 csM:List AV
 left:Nat->Int
 op:Nat->Int
 F:Nat->Nat->Int
structure WE.Ok (e:WE) (may:Nat->Nat->Bool):Prop where
 h01:e.d0 < e.d1
 hM0:e.dM < e.d0
 hn:e.n<=1000
 hm:e.m<=1000
 hlen:e.csM.length=e.n
 hrow:∀i,i < e.n->∃t,e.csM[i]?=some (.sl 1 (mB e.m (may i)) t)
 cap:Cap e.n e.m may e.op e.F
def WE.M (e:WE):List (Nat×Nat×Ent):=(e.d0,e.n,(1,.cells (mI e.n e.left)))::(e.d0,e.n+1,(1,.cells (mI e.m e.op)))::(e.d1,21,(1,.cells (uL e.n e.d0 e.m)))::(e.dM,e.sM,(e.gM,.cells e.csM))::(yGY e.n).map fun j=>(e.d0,j,(1,.cells (mI e.m (e.F j))))
structure WE.Mem (e:WE) (S:Nat->Nat->Ent):Prop where
 oL:S e.d0 e.n=(1,.cells (mI e.n e.left))
 oO:S e.d0 (e.n+1)=(1,.cells (mI e.m e.op))
 oF:S e.d1 21=(1,.cells (uL e.n e.d0 e.m))
 oM:S e.dM e.sM=(e.gM,.cells e.csM)
 oR:∀j,j < e.n->S e.d0 j=(1,.cells (mI e.m (e.F j)))
theorem WE.mem_of {e:WE} {S} (h:∀x∈e.M,S x.1 x.2.1=x.2.2):e.Mem S:=
 ⟨h (e.d0,e.n,(1,.cells (mI e.n e.left))) (by simp[WE.M]),h (e.d0,e.n+1,(1,.cells (mI e.m e.op))) (by simp[WE.M]),h (e.d1,21,(1,.cells (uL e.n e.d0 e.m))) (by simp[WE.M]),h (e.dM,e.sM,(e.gM,.cells e.csM)) (by simp[WE.M]),
  fun j hj=>h (e.d0,j,(1,.cells (mI e.m (e.F j)))) (by unfold WE.M;exact yHF _ (yHF _ (yHF _ (yHF _ (List.mem_map.2 ⟨j,yHA.2 hj,rfl⟩)))))⟩
def WE.Pq (e:WE) (may:Nat->Nat->Bool) (p:PT):Prop:=p.2 < e.n/\0 < e.left (p.1.headD (p.2,0)).1/\∀c,c < e.m->may p.2 c=true->c∉p.1.map (·.2)->Alo e.n e.m may e.F 1 (p.1++[(p.2,c)])
structure WE.Fr (e:WE) (D:Nat) (τ:Nat->AV):Prop where
 h0:τ 0= .own e.d0 e.n 1 0 e.n 1 false
 h1:τ 1= .own e.d0 (e.n+1) 1 0 e.m 1 false
 h2:τ 2= .own e.d1 21 1 0 e.n 1 false
 h3:τ 3= .own e.dM e.sM e.gM 0 e.n 1 false
 h9:τ 9= .own D 22 1 0 e.n 1 false
 h10:τ 10= .own D 25 1 0 e.m 1 false
theorem WE.Fr.upd {e:WE} {D:Nat} {τ:Nat->AV} (h:e.Fr D τ) (d:Nat) (v:AV) (hd:¬(d=0\/d=1\/d=2\/d=3\/d=9\/d=10):=by decide):e.Fr D (upd τ d v):=by
 refine ⟨?_,?_,?_,?_,?_,?_⟩<;>rw[vE,if_neg (by omega)]
 ·exact h.h0
 ·exact h.h1
 ·exact h.h2
 ·exact h.h3
 ·exact h.h9
 ·exact h.h10
structure WE.Iv (e:WE) (may:Nat->Nat->Bool) (rows cols:Nat->Bool) (ps:List PT) (k ex:Nat):Prop where
 i1:∀x,x < e.n->rows x=true->∃t,∃h:t < ps.length,ps[t].2=x
 i2:∀t (h:t < ps.length),t < k->Nb e.m may cols ps[t].2
 i3:∀c,c < e.m->c≠ex->cols c=true->e.op c=0/\∀x,x < e.n->e.F x c≠0->rows x=true
 i4:∀x,x < e.n->0 < e.left x->rows x=true
 i5:∀t (h:t < ps.length),e.Pq may ps[t]/\(∀c∈ps[t].1.map (·.2),cols c=true)/\ps[t].1.length<=t
 i6:ps.length+yQ rows e.n<=e.n
def WE.Res (e:WE) (may:Nat->Nat->Bool) (r:AV):Prop:=
 (∃q:List (Nat×Nat),r= .sl 1 (yN q) .no/\Alo e.n e.m may e.F 1 q/\q.length<=1001/\(∀p,q.head?=some p->0 < e.left p.1)/\∀p,q.getLast?=some p->0 < e.op p.2)\/
 (r= .sl 1 [] .nil/\∃cols:Nat->Bool,(∀i,i < e.n->0 < e.left i->Nb e.m may cols i)/\∀k,k < e.m->cols k=true->e.op k=0/\∀j,j < e.n->e.F j k≠0->Nb e.m may cols j)
def WE.Go (e:WE) (may:Nat->Nat->Bool) (rows cols:Nat->Bool) (ps:List PT) (k:List AI) (P:(Nat->AV)->Prop):Prop:=
 ∃r,e.Res may r/\∀(D:Nat) (S:Nat->Nat->Ent) (τ:Nat->AV) (ω:Nat->Ent) (t:Tip),e.d1 < D->e.Mem S->e.Fr D τ->ω 22=(1,.cells (mB e.n rows))->ω 25=(1,.cells (mB e.m cols))->τ 11= .sl 1 (ps.map r6) t->(t= .tip\/t= .nil)->P τ->
  Rd (Loc Pg Gl) .pl (RetM [.tmp 8] r D S []) k (stF 126 D τ ω S)
theorem vQ {f:Nat->Bool} {x:Nat}:∀k,f k=true->updB f x true k=true:=fun k h=>by unfold updB;split;rfl;exact h
theorem pS (f:Nat->Bool) (x:Nat):updB f x true x=true:=by unfold updB;rw[if_pos rfl]
theorem lU {f:Nat->Bool} {x y:Nat} (h:y≠x) (b:Bool):updB f x b y=f y:=by unfold updB;rw[if_neg h]
section
variable {e:WE} {may:Nat->Nat->Bool} (ho:e.Ok may)
include ho
theorem way1 {p:PT} {k j fuel:Nat} (hj:j < e.m) (hmay:may p.2 j=true) (hop:e.op j=0) (hq:Alo e.n e.m may e.F 1 (p.1++[(p.2,j)])) (hpl:p.1.length<=k)
  (hcont:∀rows cols ps,e.Iv may rows cols ps k e.m->ps[k]?=some p->(∀c,c < j+1->may p.2 c=true->cols c=true)->ps.length+yQ rows e.n<=fuel+1+k->e.Go may rows cols ps [.lp c77_l2,.blk 4,.blk 3,.c gV,.lp c77_l3,.blk 2,.c qZ] (fun τ=>τ 14= .int .i64 k/\τ 15=r6 p/\τ 16= .int .i64 p.2/\τ 61= .int .i64 e.m/\τ 62= .int .i64 (j+1:Nat))):
  ∀(jj x:Nat) (rows cols:Nat->Bool) (ps:List PT),x+jj=e.n->e.Iv may rows cols ps k j->ps[k]?=some p->cols j=true->(∀c,c < j->may p.2 c=true->cols c=true)->(∀y,y < x->e.F y j≠0->rows y=true)->ps.length+yQ rows e.n<=fuel+1+k->
   e.Go may rows cols ps [.lp c77_l1,.blk 6,.blk 5,.c gW,.lp c77_l2,.blk 4,.blk 3,.c gV,.lp c77_l3,.blk 2,.c qZ]
    (fun τ=>τ 14= .int .i64 k/\τ 15=r6 p/\τ 16= .int .i64 p.2/\τ 61= .int .i64 e.m/\τ 62= .int .i64 j/\τ 17= .int .i64 j/\(∃t,τ 18= .sl 1 (yN (p.1++[(p.2,j)])) t)/\τ 94= .int .i64 e.n/\τ 95= .int .i64 x):=by
 have hn10:=ho.hn;have hm10:=ho.hm;have hwj:IntKind.i64.wrap ((j:Int)+1)=((j+1:Nat):Int):=zF hj (by unfold maxLen;omega);intro jj
 induction jj with
 | zero=>
  intro x rows cols ps hx hI hp hcj hcs hjn hfu;obtain rfl:x=e.n:=by omega
  obtain ⟨r,q1,q2⟩:=hcont rows cols ps ⟨hI.i1,hI.i2,fun c hc _ hcc=>by
   by_cases e1:c=j
   ·subst e1;exact ⟨hop,hjn⟩
   ·exact hI.i3 c hc e1 hcc,hI.i4,hI.i5,hI.i6⟩ hp (fun c hc hm=>by
   by_cases e1:c=j
   ·subst e1;exact hcj
   ·exact hcs c (by omega) hm) hfu
  refine ⟨r,q1,fun D S τ ω t hD hS hf w22 w25 h11 ht ⟨h14,h15,h16,h61,h62,h17,h18,h94,h95⟩=> ?_⟩;refine zC c77_l1.eq_1 ?_;simp[h94,h95,gW,h62,hwj];refine q2 D S _ ω t hD hS ?_ w22 w25 ?_ ht ⟨?_,?_,?_,?_,?_⟩
  ·repeat (first | exact hf | refine WE.Fr.upd ?_ _ _)
  all_goals simp[h11,h14,h15,h16,h61]
 | succ jj ih=>
  intro x rows cols ps hx hI hp hcj hcs hjn hfu;have hlt:x < e.n:=by omega
  have hwr:IntKind.i64.wrap ((x:Int)+1)=((x+1:Nat):Int):=zF hlt (by unfold maxLen;omega);have h01:=ho.h01;have hM0:=ho.hM0;have hx1:x+1<=e.n:=hlt;by_cases hcond:rows x=false/\0 < e.F x j
  ·obtain ⟨hr,hF⟩:=hcond;have hun:yQ (updB rows x true) e.n < yQ rows e.n:=sV (k:=x) vQ hr (pS _ _) hlt;have hkl:k < ps.length:=(yGX.1 hp).1;have hpk:=(yGX.1 hp).2;obtain ⟨a1,a2,a3⟩:=hI.i5 k hkl;rw[hpk] at a1 a2;obtain ⟨r,q1,q2⟩:=ih (x+1) (updB rows x true) cols (ps++[(p.1++[(p.2,j)],x)]) (by omega) ⟨fun y hy hry=>by
     by_cases e1:y=x
     ·exact ⟨ps.length,by simp,by simp[e1]⟩
     ·obtain ⟨t,ht,e2⟩:=hI.i1 y hy (by rw[lU e1] at hry;exact hry);exact ⟨t,by simp;omega,by rw[yHG ht];exact e2⟩,
    fun t h ht=>by rw[yHG (by omega)];exact hI.i2 t (by omega) ht,
    fun c hc hcj hcc=>⟨(hI.i3 c hc hcj hcc).1,fun y hy hne=>vQ _ ((hI.i3 c hc hcj hcc).2 y hy hne)⟩,
    fun y hy hl=>vQ _ (hI.i4 y hy hl),
    fun t h=>by
     by_cases e1:t < ps.length
     ·rw[yHG e1];exact hI.i5 t e1
     ·have e2:t=ps.length:=by simp at h;omega
      subst e2;simp only[List.getElem_append_right (yGZ _),Nat.sub_self,List.getElem_cons_zero];refine ⟨⟨hlt,?_,fun c hc hm hnc=>by simp only[List.append_assoc,List.cons_append,List.nil_append];exact Alo.snoc hlt hc hm hq (by omega) hnc⟩,fun c hc=> ?_,by simp;omega⟩
      ·have:=a1.2.1;cases hp1:p.1 with
       | nil=>rw[hp1] at this;simpa using this
       | cons b l=>rw[hp1] at this;simpa using this
      ·simp at hc;rcases hc with ⟨b,hb⟩ | hc
       ·exact a2 c (by simp;exact ⟨b,hb⟩)
       ·rw[hc];exact hcj,
    by simp;have:=hI.i6;omega⟩ (by rw[List.getElem?_append_left hkl];exact hp) hcj hcs (fun y hy hne=>by
     by_cases e1:y=x
     ·rw[e1];exact pS _ _
     ·exact vQ _ (hjn y (by omega) hne)) (by simp;omega)
   refine ⟨r,q1,fun D S τ ω t hD hS hf w22 w25 h11 ht ⟨h14,h15,h16,h61,h62,h17,⟨t8,h18⟩,h94,h95⟩=> ?_⟩;have n1:¬e.d1=D:=by omega
   have n0:¬e.d0=D:=by omega
   have hql:2*p.1.length+2<=3000:=by have:=hI.i6;omega
   have hpsl:ps.length<=1000:=by have:=hI.i6;omega
   refine zC c77_l1.eq_1 ?_;simp[h94,h95,hlt,hf.h9,w22,hr,hf.h2,n1,n0,hS.oF,hS.oR x hlt,h17,hj,hF,hx1,uE hlt,h11,h18];refine vC (z':=1) (xs:=[]) (t:= .nil) (ys:=yN (p.1++[(p.2,j)])) (r:=[]) (by simp) (by simp[zX]) ⟨.inl rfl,by simp[zD];omega,.inr rfl⟩ ?_;simp;refine wD (vs:=[.int .i64 x]) (by simp[pP]) (by simp) ?_;simp;refine vC (z':=1) (xs:=yN (p.1++[(p.2,j)])) (t:= .tip) (ys:=[.int .i64 x]) (r:=[]) (by simp) (by simp[zX]) ⟨.inl rfl,by simp[zD];omega,.inl rfl⟩ ?_;simp;refine wD (vs:=[.sl 1 (yN (p.1++[(p.2,j)])++[.int .i64 x]) .no]) (by simp[zCA]) (by simp) ?_;simp;refine vC (z':=1) (xs:=ps.map r6) (t:=t) (ys:=[.sl 1 (yN (p.1++[(p.2,j)])++[.int .i64 x]) .no]) (r:=[]) (by simp) (by simp[zX]) ⟨.inl rfl,by simp[zD];omega,ht⟩ ?_;simp[hwr,h95];refine q2 D S _ _ .tip hD hS ?_ ?_ ?_ ?_ (.inl rfl) ⟨?_,?_,?_,?_,?_,?_,⟨t8,?_⟩,?_,?_⟩
   ·repeat (first | exact hf | refine WE.Fr.upd ?_ _ _)
   all_goals simp[w25,h14,h15,h16,h61,h62,h17,h94,r6,h18]
  ·obtain ⟨r,q1,q2⟩:=ih (x+1) rows cols ps (by omega) hI hp hcj hcs (fun y hy hne=>by
     by_cases e1:y=x
     ·subst e1;cases hr:rows y
      ·have:=ho.cap.nn y j hlt hj;exact absurd ⟨hr,by omega⟩ hcond
      ·rfl
     ·exact hjn y (by omega) hne) hfu
   refine ⟨r,q1,fun D S τ ω t hD hS hf w22 w25 h11 ht ⟨h14,h15,h16,h61,h62,h17,h18,h94,h95⟩=> ?_⟩;have n1:¬e.d1=D:=by omega
   have n0:¬e.d0=D:=by omega
   refine zC c77_l1.eq_1 ?_;cases hr:rows x
   ·have hF:¬0 < e.F x j:=fun h=>hcond ⟨hr,h⟩;simp[h94,h95,hlt,hf.h9,w22,hr,hf.h2,n1,n0,hS.oF,hS.oR x hlt,h17,hj,hF,hwr];refine q2 D S _ ω t hD hS ?_ w22 w25 ?_ ht ⟨?_,?_,?_,?_,?_,?_,?_,?_,?_⟩
    ·repeat (first | exact hf | refine WE.Fr.upd ?_ _ _)
    all_goals simp[h11,h14,h15,h16,h61,h62,h17,h94]
    exact h18
   ·simp[h94,h95,hlt,hf.h9,w22,hr,hwr];refine q2 D S _ ω t hD hS ?_ w22 w25 ?_ ht ⟨?_,?_,?_,?_,?_,?_,?_,?_,?_⟩
    ·repeat (first | exact hf | refine WE.Fr.upd ?_ _ _)
    all_goals simp[h11,h14,h15,h16,h61,h62,h17,h94]
    exact h18
theorem way2 {p:PT} {k fuel:Nat} (hpq:e.Pq may p) (hpl:p.1.length<=k)
  (hcont:∀rows cols ps,e.Iv may rows cols ps (k+1) e.m->k+1<=ps.length->ps.length+yQ rows e.n<=fuel+(k+1)->e.Go may rows cols ps [.lp c77_l3,.blk 2,.c qZ] (fun τ=>τ 14= .int .i64 (k+1:Nat))):
  ∀(jj j:Nat) (rows cols:Nat->Bool) (ps:List PT),j+jj=e.m->e.Iv may rows cols ps k e.m->ps[k]?=some p->(∀c,c < j->may p.2 c=true->cols c=true)->ps.length+yQ rows e.n<=fuel+1+k->
   e.Go may rows cols ps [.lp c77_l2,.blk 4,.blk 3,.c gV,.lp c77_l3,.blk 2,.c qZ] (fun τ=>τ 14= .int .i64 k/\τ 15=r6 p/\τ 16= .int .i64 p.2/\τ 61= .int .i64 e.m/\τ 62= .int .i64 j):=by
 have hn10:=ho.hn;have hm10:=ho.hm;have h01:=ho.h01;have hM0:=ho.hM0;intro jj
 induction jj with
 | zero=>
  intro j rows cols ps hj hI hp hcs hfu;obtain rfl:j=e.m:=by omega
  have hkl:k < ps.length:=(yGX.1 hp).1;have hpk:=(yGX.1 hp).2;obtain ⟨r,q1,q2⟩:=hcont rows cols ps ⟨hI.i1,fun t h ht=>by
   by_cases e1:t=k
   ·subst e1;rw[hpk];exact fun c hc hm=>hcs c hc hm
   ·exact hI.i2 t h (by omega),hI.i3,hI.i4,hI.i5,hI.i6⟩ hkl (by omega)
  have hwk:IntKind.i64.wrap ((k:Int)+1)=((k+1:Nat):Int):=by rw[<-zH (n:=k+1) (by have:=hI.i6;omega)];rfl
  refine ⟨r,q1,fun D S τ ω t hD hS hf w22 w25 h11 ht ⟨h14,h15,h16,h61,h62⟩=> ?_⟩;refine zC c77_l2.eq_1 ?_;simp[h61,h62,gV,h14,hwk];refine q2 D S _ ω t hD hS ?_ w22 w25 ?_ ht ?_
  ·repeat (first | exact hf | refine WE.Fr.upd ?_ _ _)
  all_goals simp[h11]
 | succ jj ih=>
  intro j rows cols ps hj hI hp hcs hfu;have hlt:j < e.m:=by omega
  have hwr:IntKind.i64.wrap ((j:Int)+1)=((j+1:Nat):Int):=zF hlt (by unfold maxLen;omega);have hj1:j+1<=e.m:=hlt;have hi:=hpq.1;have hlen:=ho.hlen;obtain ⟨tp,htp⟩:=ho.hrow p.2 hi;have hge:e.csM[p.2]'(by rw[hlen];exact hi)= .sl 1 (mB e.m (may p.2)) tp:=by
   rw[yHB (by rw[hlen];exact hi)] at htp;exact Option.some.inj htp
  have hkl:k < ps.length:=(yGX.1 hp).1;have hpk:=(yGX.1 hp).2;by_cases hskip:may p.2 j=false\/cols j=true
  ·obtain ⟨r,q1,q2⟩:=ih (j+1) rows cols ps (by omega) hI hp (fun c hc hm=>by
    by_cases e1:c=j
    ·subst e1;rcases hskip with h | h
     ·rw[h] at hm;cases hm
     ·exact h
    ·exact hcs c (by omega) hm) hfu
   refine ⟨r,q1,fun D S τ ω t hD hS hf w22 w25 h11 ht ⟨h14,h15,h16,h61,h62⟩=> ?_⟩;have nM:¬e.dM=D:=by omega
   by_cases hmj:may p.2 j=false
   ·cases tp;all_goals
     refine zC c77_l2.eq_1 ?_;simp[h61,h62,hlt,hf.h3,h16,nM,hS.oM,hi,hlen,hge,hmj,gW,hwr];refine q2 D S _ ω t hD hS ?_ w22 w25 ?_ ht ⟨?_,?_,?_,?_,?_⟩
     ·repeat (first | exact hf | refine WE.Fr.upd ?_ _ _)
     all_goals simp[h11,h14,h15,h16,h61]
   ·have hcj:=hskip.resolve_left hmj;have hmj':may p.2 j=true:=by simpa using hmj
    cases tp;all_goals
     refine zC c77_l2.eq_1 ?_;simp[h61,h62,hlt,hf.h3,h16,nM,hS.oM,hi,hlen,hge,hmj',hf.h10,w25,hcj,gW,hwr];refine q2 D S _ ω t hD hS ?_ w22 w25 ?_ ht ⟨?_,?_,?_,?_,?_⟩
     ·repeat (first | exact hf | refine WE.Fr.upd ?_ _ _)
     all_goals simp[h11,h14,h15,h16,h61]
  ·have hmj:may p.2 j=true:=by
    cases h:may p.2 j
    ·exact absurd (.inl h) hskip
    ·rfl
   have hcj:cols j=false:=by
    cases h:cols j
    ·rfl
    ·exact absurd (.inr h) hskip
   obtain ⟨a1,a2,a3⟩:=hI.i5 k hkl;rw[hpk] at a1 a2;have hnj:j∉p.1.map (·.2):=fun h=>by rw[a2 j h] at hcj;cases hcj
   have hq:=hpq.2.2 j hlt hmj hnj;have hql:2*p.1.length+2<=3000:=by have:=hI.i6;omega
   have hr0:=ho.cap.rt j hlt;by_cases hop:0 < e.op j
   ·refine ⟨.sl 1 (yN (p.1++[(p.2,j)])) .no,.inl ⟨_,rfl,hq,by simp;have:=hI.i6;omega,fun b hb=> ?_,fun b hb=> ?_⟩,fun D S τ ω t hD hS hf w22 w25 h11 ht ⟨h14,h15,h16,h61,h62⟩=> ?_⟩
    ·have:=hpq.2.1;cases hp1:p.1 with
     | nil=>rw[hp1] at hb this;simp at hb this;subst hb;exact this
     | cons c l=>rw[hp1] at hb this;simp at hb this;subst hb;exact this
    ·simp at hb;subst hb;exact hop
    ·have nM:¬e.dM=D:=by omega
     have n0:¬e.d0=D:=by omega
     cases tp;all_goals
      refine zC c77_l2.eq_1 ?_;simp[h61,h62,hlt,hf.h3,h16,nM,hS.oM,hi,hlen,hge,hmj,hf.h10,w25,hcj,hj1,uE hlt,h15,r6];refine vC (z':=1) (xs:=[]) (t:= .nil) (ys:=yN p.1++[.int .i64 p.2]) (r:=[]) (by simp) (by simp[zX]) ⟨.inl rfl,by simp[zD];omega,.inr rfl⟩ ?_;simp;refine wD (vs:=[.int .i64 j]) (by simp[pP]) (by simp) ?_;simp;refine vC (z':=1) (xs:=yN p.1++[.int .i64 p.2]) (t:= .tip) (ys:=[.int .i64 j]) (r:=[]) (by simp) (by simp[zX]) ⟨.inl rfl,by simp[zD];omega,.inl rfl⟩ ?_;simp[hf.h1,n0,hS.oO,hlt,hop,upds,qH]
   ·have hop0:e.op j=0:=by omega
    obtain ⟨r,q1,q2⟩:=way1 ho hlt hmj hop0 hq hpl (fun rows' cols' ps' g1 g2 g3 g4=>ih (j+1) rows' cols' ps' (by omega) g1 g2 g3 g4) e.n 0 rows (updB cols j true) ps (yGT _)
     ⟨hI.i1,fun t h ht=>Nb.mono (hI.i2 t h ht) vQ,fun c hc hcj' hcc=>hI.i3 c hc (by omega) (by rw[lU hcj'] at hcc;exact hcc),hI.i4,fun t h=>⟨(hI.i5 t h).1,fun c hc=>vQ _ ((hI.i5 t h).2.1 c hc),(hI.i5 t h).2.2⟩,hI.i6⟩
     hp (pS _ _) (fun c hc hm=>vQ _ (hcs c hc hm)) (fun y hy=>by omega) hfu
    refine ⟨r,q1,fun D S τ ω t hD hS hf w22 w25 h11 ht ⟨h14,h15,h16,h61,h62⟩=> ?_⟩;have nM:¬e.dM=D:=by omega
    have n0:¬e.d0=D:=by omega
    cases tp;all_goals
     refine zC c77_l2.eq_1 ?_;simp[h61,h62,hlt,hf.h3,h16,nM,hS.oM,hi,hlen,hge,hmj,hf.h10,w25,hcj,hj1,uE hlt,h15,r6];refine vC (z':=1) (xs:=[]) (t:= .nil) (ys:=yN p.1++[.int .i64 p.2]) (r:=[]) (by simp) (by simp[zX]) ⟨.inl rfl,by simp[zD];omega,.inr rfl⟩ ?_;simp;refine wD (vs:=[.int .i64 j]) (by simp[pP]) (by simp) ?_;simp;refine vC (z':=1) (xs:=yN p.1++[.int .i64 p.2]) (t:= .tip) (ys:=[.int .i64 j]) (r:=[]) (by simp) (by simp[zX]) ⟨.inl rfl,by simp[zD];omega,.inl rfl⟩ ?_;simp[hf.h1,n0,hS.oO,hlt,hop,hf.h0];refine q2 D S _ _ t hD hS ?_ ?_ ?_ ?_ ht ⟨?_,?_,?_,?_,?_,?_,⟨.tip,?_⟩,?_,?_⟩
     ·repeat (first | exact hf | refine WE.Fr.upd ?_ _ _)
     all_goals simp[w22,h11,h14,h15,h16,h61,h62,r6,qH]
end
end Go.Ab.Tab
/- The reference's way: the contract. -/
namespace Go.Ab.Tab
open Go Go.Ab
theorem zGB {f n:Nat} {ac:AC} {rs:List RV} {own:Bool} (hc:T f=some ⟨n,ac,rs,own⟩) {args:List AV} {M dl:List (Nat×Nat×Ent)} {r:AV} {D:Nat} (md:Md) (hmd:md≠ .rn) (hl:Nat.ble args.length n=true)
  (h:∀S,(∀m∈M,m.1 < D/\S m.1 m.2.1=m.2.2)->Rd (Go.Ab.Loc Pg Gl) md (RetM rs r D S dl) [.c ac] (stF n D (uY 0 args) (fun _=>(0,.dead)) S)):Go.Ab.Loc Pg Gl D f args M r dl:=by
 obtain ⟨fn,code,t1,t2,t3,t4,t5,t6⟩:=tok f _ hc;refine tF (L:=Lx) zR t1 t2 t3 t4 t5 fun S hS=> ?_;rw[t6,vF _ _ _ _ (Nat.le_of_ble_eq_true hl)];exact (h S hS).run hmd
theorem n9:∀n,yQ (fun _=>false) n=n
 | 0=>rfl
 | n+1=>by simp[yQ,n9 n]
section
variable {e:WE} {may:Nat->Nat->Bool} (ho:e.Ok may)
include ho
theorem way3:∀(fuel:Nat) (rows cols:Nat->Bool) (ps:List PT) (k:Nat),e.Iv may rows cols ps k e.m->k<=ps.length->ps.length+yQ rows e.n<=fuel+k->e.Go may rows cols ps [.lp c77_l3,.blk 2,.c qZ] (fun τ=>τ 14= .int .i64 k):=by
 have hn10:=ho.hn;have hm10:=ho.hm;intro fuel
 induction fuel with
 | zero=>
  intro rows cols ps k hI hk hfu;obtain rfl:k=ps.length:=by omega
  refine ⟨.sl 1 [] .nil,.inr ⟨rfl,cols,fun i hi hl=> ?_,fun c hc hcc=> ?_⟩,fun D S τ ω t hD hS hf w22 w25 h11 ht h14=> ?_⟩
  ·obtain ⟨t,ht,e1⟩:=hI.i1 i hi (hI.i4 i hi hl);rw[<-e1];exact hI.i2 t ht ht
  ·obtain ⟨b1,b2⟩:=hI.i3 c hc (by omega) hcc;refine ⟨b1,fun j hj hne=> ?_⟩;obtain ⟨t,ht,e1⟩:=hI.i1 j hj (b2 j hj hne);rw[<-e1];exact hI.i2 t ht ht
  ·refine zC c77_l3.eq_1 ?_;simp[h14,h11,qZ,upds]
 | succ fuel ih=>
  intro rows cols ps k hI hk hfu;by_cases hkl:k=ps.length
  ·subst hkl;refine ⟨.sl 1 [] .nil,.inr ⟨rfl,cols,fun i hi hl=> ?_,fun c hc hcc=> ?_⟩,fun D S τ ω t hD hS hf w22 w25 h11 ht h14=> ?_⟩
   ·obtain ⟨t,ht,e1⟩:=hI.i1 i hi (hI.i4 i hi hl);rw[<-e1];exact hI.i2 t ht ht
   ·obtain ⟨b1,b2⟩:=hI.i3 c hc (by omega) hcc;refine ⟨b1,fun j hj hne=> ?_⟩;obtain ⟨t,ht,e1⟩:=hI.i1 j hj (b2 j hj hne);rw[<-e1];exact hI.i2 t ht ht
   ·refine zC c77_l3.eq_1 ?_;simp[h14,h11,qZ,upds]
  ·have hlt:k < ps.length:=by omega
   obtain ⟨a1,a2,a3⟩:=hI.i5 k hlt;obtain ⟨r,q1,q2⟩:=way2 ho (p:=ps[k]) (k:=k) (fuel:=fuel) a1 a3 (fun rows' cols' ps' g1 g2 g3=>ih rows' cols' ps' (k+1) g1 g2 g3) e.m 0 rows cols ps (yGT _) hI (yHB hlt) (fun c hc=>by omega) (by omega);refine ⟨r,q1,fun D S τ ω t hD hS hf w22 w25 h11 ht h14=> ?_⟩;have hpl:ps[k].1.length<=1000:=by have:=hI.i6;omega
   have hw:IntKind.i64.wrap (2*(ps[k].1.length:Int)+1 - 1)=((2*ps[k].1.length:Nat):Int):=by rw[<-zH (n:=2*ps[k].1.length) (by omega)];congr 1;omega
   have hw2:IntKind.i64.wrap (2*(ps[k].1.length:Int))=((2*ps[k].1.length:Nat):Int):=by rw[<-zH (n:=2*ps[k].1.length) (by omega)];congr 1
   have hin:0<=2*(ps[k].1.length:Int)/\2*(ps[k].1.length:Int) < 2*(ps[k].1.length:Int)+1:=by omega
   have htn:(2*(ps[k].1.length:Int)).toNat=2*ps[k].1.length:=by omega
   have hel:(yN ps[k].1++[AV.int .i64 ps[k].2])[2*ps[k].1.length]?=some (.int .i64 ps[k].2):=by
    rw[List.getElem?_append_right (by simp),hG,Nat.sub_self];rfl
   refine zC c77_l3.eq_1 ?_;simp[h14,h11,hlt,r6,hw,hw2,hin,htn,hel,hf.h1];refine q2 D S _ ω t hD hS ?_ w22 w25 ?_ ht ⟨?_,?_,?_,?_,?_⟩
   ·repeat (first | exact hf | refine WE.Fr.upd ?_ _ _)
   all_goals simp[h11,h14,r6]
theorem way0:∀(j x:Nat) (rows:Nat->Bool) (ps:List PT),x+j=e.n->(∀y,y < e.n->rows y=true->∃t,∃h:t < ps.length,ps[t].2=y)->(∀y,y < x->0 < e.left y->rows y=true)->(∀y,x<=y->rows y=false)->
  (∀p∈ps,p.1= []/\p.2 < e.n/\0 < e.left p.2)->ps.length+yQ rows e.n<=e.n->e.Go may rows (fun _=>false) ps [.lp c77_l0,.blk 0,.c zDE] (fun τ=>τ 26= .own e.d0 e.n 1 0 e.n 1 false/\τ 27= .int .i64 e.n/\τ 28= .int .i64 x):=by
 have h01:=ho.h01;have hM0:=ho.hM0;have hn10:=ho.hn;intro j
 induction j with
 | zero=>
  intro x rows ps hx a1 a2 a3 a4 a6;obtain rfl:x=e.n:=by omega
  obtain ⟨r,q1,q2⟩:=way3 ho e.n rows (fun _=>false) ps 0 ⟨a1,fun t h ht=>(by omega),fun c _ _ h=>(by cases h),fun y hy hl=>a2 y hy hl,fun t h=>by
   obtain ⟨b1,b2,b3⟩:=a4 ps[t] (yGV h);exact ⟨⟨b2,by rw[b1];exact b3,fun c hc hm _=>by rw[b1];exact .one _ _ b2 hc hm⟩,by rw[b1];simp,by rw[b1];simp⟩,a6⟩ (yHI _) a6
  refine ⟨r,q1,fun D S τ ω t hD hS hf w22 w25 h11 ht ⟨h26,h27,h28⟩=> ?_⟩;refine zC c77_l0.eq_1 ?_;simp[h27,h28,zDE];refine q2 D S _ ω t hD hS ?_ w22 w25 ?_ ht ?_
  ·repeat (first | exact hf | refine WE.Fr.upd ?_ _ _)
  all_goals simp[h11]
 | succ j ih=>
  intro x rows ps hx a1 a2 a3 a4 a6;have hlt:x < e.n:=by omega
  have hwr:IntKind.i64.wrap ((x:Int)+1)=((x+1:Nat):Int):=zF hlt (by unfold maxLen;omega);have hx1:x+1<=e.n:=hlt;by_cases hl:0 < e.left x
  ·have hun:yQ (updB rows x true) e.n < yQ rows e.n:=sV (k:=x) vQ (a3 x (yGZ _)) (pS _ _) hlt;obtain ⟨r,q1,q2⟩:=ih (x+1) (updB rows x true) (ps++[([],x)]) (by omega) (fun y hy hr=>by
     by_cases e1:y=x
     ·exact ⟨ps.length,by simp,by simp[e1]⟩
     ·obtain ⟨t,ht,e2⟩:=a1 y hy (by rw[lU e1] at hr;exact hr);exact ⟨t,by simp;omega,by rw[yHG ht];exact e2⟩) (fun y hy hly=>by
     by_cases e1:y=x
     ·rw[e1];exact pS _ _
     ·exact vQ _ (a2 y (by omega) hly)) (fun y hy=>by rw[lU (by omega)];exact a3 y (by omega)) (fun p hp=>by
     rcases List.mem_append.1 hp with hp | hp
     ·exact a4 p hp
     ·simp at hp;subst hp;exact ⟨rfl,hlt,hl⟩) (by simp;omega)
   refine ⟨r,q1,fun D S τ ω t hD hS hf w22 w25 h11 ht ⟨h26,h27,h28⟩=> ?_⟩;have n0:¬e.d0=D:=by omega
   refine zC c77_l0.eq_1 ?_;simp[h26,h27,h28,hlt,n0,hS.oL,hl,hf.h9,w22,hx1,uE hlt,h11];refine wD (vs:=[.int .i64 x]) (by simp[pP]) (by simp) ?_;simp;refine wD (vs:=[.sl 1 [.int .i64 x] .no]) (by simp[zCA]) (by simp) ?_;simp;have hsz:(ps.length+1)*24<=zD:=by unfold zD;omega
   refine vC (z':=1) (xs:=ps.map r6) (t:=t) (ys:=[.sl 1 [.int .i64 x] .no]) (r:=[]) (by simp[h11]) (by simp[zX]) ⟨.inl rfl,by simpa using hsz,ht⟩ ?_;simp[h11,h28,hwr];refine q2 D S _ _ .tip hD hS ?_ ?_ ?_ ?_ (.inl rfl) ⟨?_,?_,?_⟩
   ·repeat (first | exact hf | refine WE.Fr.upd ?_ _ _)
   all_goals simp[w25,r6,yN,h26,h27]
  ·obtain ⟨r,q1,q2⟩:=ih (x+1) rows ps (by omega) a1 (fun y hy hly=>by
     by_cases e1:y=x
     ·subst e1;exact absurd hly hl
     ·exact a2 y (by omega) hly) (fun y hy=>a3 y (by omega)) a4 a6
   refine ⟨r,q1,fun D S τ ω t hD hS hf w22 w25 h11 ht ⟨h26,h27,h28⟩=> ?_⟩;have n0:¬e.d0=D:=by omega
   refine zC c77_l0.eq_1 ?_;simp[h26,h27,h28,hlt,n0,hS.oL,hl,hwr];refine q2 D S _ ω t hD hS ?_ w22 w25 ?_ ht ⟨?_,?_,?_⟩
   ·repeat (first | exact hf | refine WE.Fr.upd ?_ _ _)
   all_goals simp[h11,h26,h27]
theorem zSG:∃r,e.Res may r/\∀D,e.d1 < D->Go.Ab.Loc Pg Gl D 77 [.own e.d0 e.n 1 0 e.n 1 false,.own e.d0 (e.n+1) 1 0 e.m 1 false,.own e.d1 21 1 0 e.n 1 false,.own e.dM e.sM e.gM 0 e.n 1 false] e.M r []:=by
 have hn10:=ho.hn;have hm10:=ho.hm;obtain ⟨r,q1,q2⟩:=way0 ho e.n 0 (fun _=>false) [] (yGT _) (fun y hy h=>(by cases h)) (fun y hy=>(by omega)) (fun _ _=>rfl) (fun p hp=>(by cases hp)) (by rw[n9];simp);refine ⟨r,q1,fun D hD=> ?_⟩;refine zGB rfl .pl (by simp) rfl fun S hS=> ?_;have hm:=WE.mem_of fun x hx=>(hS x hx).2;unfold c77;simp;refine xP (m:=e.n) (kx:= .i64) (ky:= .i64) (by decide) (by simp) (by simp) ⟨by omega,by unfold zD;omega,by unfold zD;omega,rfl,by decide⟩ ?_;simp;refine xP (m:=e.m) (kx:= .i64) (ky:= .i64) (by decide) (by simp) (by simp) ⟨by omega,by unfold zD;omega,by unfold zD;omega,rfl,by decide⟩ ?_;simp[l6];refine q2 D S _ _ .nil hD hm ⟨?_,?_,?_,?_,?_,?_⟩ ?_ ?_ ?_ (.inr rfl) ⟨?_,?_,?_⟩;all_goals simp
end
end Go.Ab.Tab
/- The reference's flows: the inner loops. -/
namespace Go.Ab.Tab
open Go Go.Ab
theorem rM:∀{q:List (Nat×Nat)} {s:Nat} (h:s < q.length),(yN q)[2*s]?=some (.int .i64 q[s].1)
 | (r,c)::q,0,_=>rfl
 | (r,c)::q,s+1,h=>by
  rw[yN,show 2*(s+1)=2*s+1+1 by omega,yHH,yHH];exact rM (q:=q) (by simpa using h)
theorem rN:∀{q:List (Nat×Nat)} {s:Nat} (h:s < q.length),(yN q)[2*s+1]?=some (.int .i64 q[s].2)
 | (r,c)::q,0,_=>rfl
 | (r,c)::q,s+1,h=>by
  rw[yN,show 2*(s+1)+1=2*s+1+1+1 by omega,yHH,yHH];exact rN (q:=q) (by simpa using h)
theorem zGX {n m:Nat} {may:Nat->Nat->Bool} {v:Int} (h0:0 < v) {right:Nat->Int} {F:Nat->Nat->Int} {i c i' c':Nat} {t:List (Nat×Nat)} (h:Alo n m may F v ((i,c)::(i',c')::t)) (hc:Cap n m may right F) (hb:Bnd n m right F):
  Cap n m may right (augM (augP F i c v) i' c v)/\Alo n m may (augM (augP F i c v) i' c v) v ((i',c')::t)/\Bnd n m right (augM (augP F i c v) i' c v):=by
 cases h with
 | cons _ _ _ _ _ h1 h2 h3 h4 h5 h6=>
  have hi':i' < n:=(h6.lt (i',c') (by simp)).1;have hmi':may i' c=true:=hc.mayp i' c hi' h2 (by omega);refine ⟨⟨fun a b ha hb=> ?_,fun a b ha hb hne=> ?_,hc.rt⟩,h6.congr fun j d hd=> ?_,fun b hbm=> ?_⟩
  ·have e1:=hc.nn a b ha hb;have e2:=hc.nn i c h1 h2;unfold augM augP upd2;by_cases q1:a=i'/\b=c
   ·obtain ⟨rfl,rfl⟩:=q1;rw[if_pos ⟨rfl,rfl⟩];by_cases q2:a=i/\b=b
    ·rw[if_pos q2];omega
    ·rw[if_neg q2];omega
   ·rw[if_neg q1];by_cases q2:a=i/\b=c
    ·rw[if_pos q2];omega
    ·rw[if_neg q2];exact e1
  ·unfold augM augP upd2 at hne;by_cases q1:a=i'/\b=c
   ·rw[q1.1,q1.2];exact hmi'
   ·rw[if_neg q1] at hne;by_cases q2:a=i/\b=c
    ·rw[q2.1,q2.2];exact h3
    ·rw[if_neg q2] at hne;exact hc.mayp a b ha hb hne
  ·have:d≠c:=fun e=>h5 (e▸hd);unfold augM augP upd2;rw[if_neg (fun q=>this q.2),if_neg (fun q=>this q.2)]
  ·have:=hb b hbm;unfold augM;rw[v8 hi'];unfold augP;rw[v8 h1];by_cases e:b=c
   ·simp only[e,if_true] at this|-;omega
   ·simp only[e,if_false] at this|-;omega
structure FE where
 n:Nat
 m:Nat
 D:Nat
 dM:Nat
 sM:Nat
 gM:Nat
 csM:List AV
 S0:Nat->Nat->Ent
structure FE.Fr (e:FE) (τ:Nat->AV):Prop where
 h2:τ 2= .own e.dM e.sM e.gM 0 e.n 1 false
 h7:τ 7= .own e.D e.n 1 0 e.n 1 false
 h8:τ 8= .own e.D (e.n+1) 1 0 e.m 1 false
 h9:τ 9= .own (e.D+1) 21 1 0 e.n 1 false
theorem FE.Fr.upd {e:FE} {τ:Nat->AV} (h:e.Fr τ) (d:Nat) (v:AV) (hd:¬(d=2\/d=7\/d=8\/d=9):=by decide):e.Fr (upd τ d v):=by
 refine ⟨?_,?_,?_,?_⟩<;>rw[vE,if_neg (by omega)]
 ·exact h.h2
 ·exact h.h7
 ·exact h.h8
 ·exact h.h9
structure FE.Mm (e:FE) (left right:Nat->Int) (F:Nat->Nat->Int) (ω:Nat->Ent) (S:Nat->Nat->Ent):Prop where
 o21:ω 21=(1,.cells (uL e.n e.D e.m))
 oL:S e.D e.n=(1,.cells (mI e.n left))
 oO:S e.D (e.n+1)=(1,.cells (mI e.m right))
 oR:∀j,j < e.n->S e.D j=(1,.cells (mI e.m (F j)))
 low:∀d j,d < e.D->S d j=e.S0 d j
 mayS:e.S0 e.dM e.sM=(e.gM,.cells e.csM)
structure FE.Ok (e:FE) (may:Nat->Nat->Bool):Prop where
 hM:e.dM < e.D
 hn:e.n<=1000
 hm:e.m<=1000
 hlen:e.csM.length=e.n
 hrow:∀i,i < e.n->∃t,e.csM[i]?=some (.sl 1 (mB e.m (may i)) t)
theorem FE.Mm.setRow {e:FE} {left right F ω S} (h:e.Mm left right F ω S) {may} (ho:e.Ok may) {i:Nat} (hi:i < e.n) (k:Nat) (v:Int):e.Mm left right (upd2 F i k v) ω (updS S e.D i (1,.cells (mI e.m (upd1 (F i) k v)))):=by
 refine ⟨h.o21,?_,?_,fun j hj=> ?_,fun d j hd=> ?_,h.mayS⟩<;>unfold updS
 ·rw[if_neg (by omega)];exact h.oL
 ·rw[if_neg (by omega)];exact h.oO
 ·by_cases e1:j=i
  ·subst e1;rw[if_pos ⟨rfl,rfl⟩];have:upd2 F j k v j=upd1 (F j) k v:=by funext k';unfold upd2 upd1;simp
   rw[this]
  ·rw[if_neg (fun q=>e1 q.2),h.oR j hj];have:upd2 F i k v j=F j:=by funext k';unfold upd2;rw[if_neg (fun q=>e1 q.1)]
   rw[this]
 ·rw[if_neg (by omega)];exact h.low d j hd
theorem FE.Mm.setL {e:FE} {left right F ω S} (h:e.Mm left right F ω S) (left'):e.Mm left' right F ω (updS S e.D e.n (1,.cells (mI e.n left'))):=by
 refine ⟨h.o21,?_,?_,fun j hj=> ?_,fun d j hd=> ?_,h.mayS⟩<;>unfold updS
 ·rw[if_pos ⟨rfl,rfl⟩]
 ·rw[if_neg (by omega)];exact h.oO
 ·rw[if_neg (by omega)];exact h.oR j hj
 ·rw[if_neg (by omega)];exact h.low d j hd
theorem FE.Mm.setO {e:FE} {left right F ω S} (h:e.Mm left right F ω S) (right'):e.Mm left right' F ω (updS S e.D (e.n+1) (1,.cells (mI e.m right'))):=by
 refine ⟨h.o21,?_,?_,fun j hj=> ?_,fun d j hd=> ?_,h.mayS⟩<;>unfold updS
 ·rw[if_neg (by omega)];exact h.oL
 ·rw[if_pos ⟨rfl,rfl⟩]
 ·rw[if_neg (by omega)];exact h.oR j hj
 ·rw[if_neg (by omega)];exact h.low d j hd
theorem yDQ {e:FE} {may} (ho:e.Ok may) {q:List (Nat×Nat)} (hq:∀x∈q,x.1 < e.n/\x.2 < e.m) (hql:q.length<=1001) {left right:Nat->Int} {F:Nat->Nat->Int} (hF:∀t (h:t+1 < q.length),1<=F q[t+1].1 q[t].2) {v0:Int}
  {Q:St->Prop} {rest:List AI} {S:Nat->Nat->Ent}
  (hk:∀τ ω v,e.Fr τ->τ 11= .sl 1 (yN q) .no->τ 12= .int .i64 v->e.Mm left right F ω S->0 < v->v<=v0->(∀t (h:t+1 < q.length),v<=F q[t+1].1 q[t].2)->Rd (Loc Pg Gl) .pl Q rest (stF 146 (e.D+1) τ ω S)):
  ∀(j s:Nat) (τ ω) (v:Int),s+1+j=q.length->e.Fr τ->τ 11= .sl 1 (yN q) .no->τ 12= .int .i64 v->τ 13= .int .i64 (2*s+2:Nat)->e.Mm left right F ω S->0 < v->v<=v0->(∀t (h:t+1 < q.length),t < s->v<=F q[t+1].1 q[t].2)->
   Rd (Loc Pg Gl) .pl Q (.lp c48_l1:: .blk 4::rest) (stF 146 (e.D+1) τ ω S):=by
 intro j
 induction j with
 | zero=>
  intro s τ ω v hs hf h11 h12 h13 hM hv hv0 hvs;generalize hK:2*s+2=K at h13;have hKl:¬(K:Int) < 2*(q.length:Int):=by omega
  refine zC c48_l1.eq_1 ?_;simp[h11,h13,hKl];refine hk _ ω v ?_ (by simp[h11]) (by simp[h12]) hM hv hv0 (fun t h=>hvs t h (by omega));repeat (first | exact hf | refine FE.Fr.upd ?_ _ _)
 | succ j ih=>
  intro s τ ω v hs hf h11 h12 h13 hM hv hv0 hvs;generalize hK:2*s+2=K at h13;have hsl:s+1 < q.length:=by omega
  have hsl0:s < q.length:=by omega
  have hKl:(K:Int) < 2*(q.length:Int):=by omega
  have hKl1:((2*s+1:Nat):Int) < 2*(q.length:Int):=by omega
  have hw1:IntKind.i64.wrap ((K:Int) - 1)=((2*s+1:Nat):Int):=by rw[<-zH (n:=2*s+1) (by omega)];congr 1;omega
  have hw2:IntKind.i64.wrap ((K:Int)+2)=((2*(s+1)+2:Nat):Int):=by rw[<-zH (n:=2*(s+1)+2) (by omega)];congr 1;omega
  have e1:(yN q)[K]?=some (.int .i64 q[s+1].1):=by rw[<-hK];exact rM hsl
  have e2:(yN q)[2*s+1]?=some (.int .i64 q[s].2):=rN hsl0;generalize hK1:2*s+1=K1 at hw1 hKl1 e2;have b1:=(hq _ (yGV hsl)).1;have b2:=(hq _ (yGV hsl0)).2;have hFs:=hF s hsl;have n0:¬e.D=e.D+1:=by omega
  refine zC c48_l1.eq_1 ?_;simp[h11,h13,hKl,hKl1,hf.h9,hw1,e1,e2,h12,b1,b2,hM.o21,hM.oR _ b1,n0];refine ih (s+1) _ ω (if F q[s+1].1 q[s].2 < v then F q[s+1].1 q[s].2 else v) (by omega) ?_ ?_ ?_ ?_ hM (by split<;>omega) (by split<;>omega) (fun t h ht=> ?_)
  ·repeat (first | exact hf | refine FE.Fr.upd ?_ _ _)
  ·simp[h11]
  ·simp
  ·simp[hw2]
  ·by_cases e3:t=s
   ·subst e3;split<;>omega
   ·have:=hvs t h (by omega);split<;>omega
theorem yDP {e:FE} {may} (ho:e.Ok may) {q:List (Nat×Nat)} (hql:q.length<=1001) {left right rb:Nat->Int} {v:Int} (hv:0 < v) (hv2:v<=2199023255552) {target:Nat->Nat->Int}
  {Q:St->Prop} {rest:List AI}
  (hk:∀τ ω S,e.Fr τ->e.Mm left right target ω S->Rd (Loc Pg Gl) .pl Q rest (stF 146 (e.D+1) τ ω S)):
  ∀(j s:Nat) (τ ω S) (F:Nat->Nat->Int) (i c:Nat) (tl:List (Nat×Nat)),s+1+j=q.length->q.drop s=(i,c)::tl->Alo e.n e.m may F v ((i,c)::tl)->Cap e.n e.m may rb F->Bnd e.n e.m rb F->target=aug v ((i,c)::tl) F->
   e.Fr τ->τ 11= .sl 1 (yN q) .no->τ 12= .int .i64 v->τ 14= .int .i64 (2*s+1:Nat)->e.Mm left right F ω S->
   Rd (Loc Pg Gl) .pl Q (.lp c48_l2:: .blk 6::rest) (stF 146 (e.D+1) τ ω S):=by
 intro j
 induction j with
 | zero=>
  intro s τ ω S F i c tl hs hd hal hc hb htg hf h11 h12 h14 hM;have hsl:s < q.length:=by omega
  have htl:tl= []:=by
   have:=congrArg List.length hd;simp at this;exact yHQ (by omega)
  subst htl;have hqs:q[s]=(i,c):=by
   have:=yGW hsl;rw[hd] at this;exact (List.cons.inj this).1.symm
  obtain ⟨hin,hcm⟩:=hal.lt (i,c) (by simp);simp only at hin hcm;generalize hK:2*s+1=K at h14;have hKl:(K:Int) < 2*(q.length:Int):=by omega
  have hK0l:((2*s:Nat):Int) < 2*(q.length:Int):=by omega
  have hw1:IntKind.i64.wrap ((K:Int) - 1)=((2*s:Nat):Int):=by rw[<-zH (n:=2*s) (by omega)];congr 1;omega
  have hw2:IntKind.i64.wrap ((K:Int)+1)=((2*s+2:Nat):Int):=by rw[<-zH (n:=2*s+2) (by omega)];congr 1;omega
  have e1:(yN q)[2*s]?=some (.int .i64 i):=by rw[rM hsl,hqs]
  have e2:(yN q)[K]?=some (.int .i64 c):=by rw[<-hK,rN hsl,hqs]
  have hmod:(K:Int).tmod 2=1:=by rw[yHO (by omega),<-hK];omega
  have hend:¬((2*s+2:Nat):Int) < 2*(q.length:Int):=by omega
  generalize hK0:2*s=K0 at hw1 hK0l e1 hw2 hend;generalize hK2:K0+2=K2 at hw2 hend;have n0:¬e.D=e.D+1:=by omega
  have hc1:c+1<=e.m:=hcm;obtain ⟨f1,f2⟩:=hb.F hc hin hcm;have hw3:IntKind.i64.wrap (F i c+v)=F i c+v:=yO (by omega) (by omega);have hM1:=hM.setRow ho hin c (F i c+v);refine zC c48_l2.eq_1 ?_;simp[h11,h14,hKl,hK0l,hmod,hf.h9,hw1,e1,e2,h12,hin,hcm,hM.o21,hM.oR i hin,n0,hw3,hc1,tN hcm,hw2];refine zC c48_l2.eq_1 ?_;simp[h11,hend];refine hk _ ω _ ?_ (by rw[htg];exact hM1);repeat (first | exact hf | refine FE.Fr.upd ?_ _ _)
 | succ j ih=>
  intro s τ ω S F i c tl hs hd hal hc hb htg hf h11 h12 h14 hM;have hsl:s < q.length:=by omega
  have hsl1:s+1 < q.length:=by omega
  have hqs:q[s]=(i,c):=by
   have:=yGW hsl;rw[hd] at this;exact (List.cons.inj this).1.symm
  have hd1:q.drop (s+1)=tl:=by
   have:=yGW hsl;rw[hd] at this;exact (List.cons.inj this).2.symm
  obtain ⟨⟨i',c'⟩,tl',rfl⟩:∃x tl',tl=x::tl':=by
   cases tl with
   | nil=>have:=congrArg List.length hd1;simp at this;omega
   | cons x t=>exact ⟨x,t,rfl⟩
  have hqs1:q[s+1]=(i',c'):=by
   have:=yGW hsl1;rw[hd1] at this;exact (List.cons.inj this).1.symm
  obtain ⟨hin,hcm⟩:=hal.lt (i,c) (by simp);obtain ⟨hin',hcm'⟩:=hal.lt (i',c') (by simp);simp only at hin hcm hin' hcm';obtain ⟨g1,g2,g3⟩:=zGX hv hal hc hb;generalize hK:2*s+1=K at h14;have hKl:(K:Int) < 2*(q.length:Int):=by omega
  have hK0l:((2*s:Nat):Int) < 2*(q.length:Int):=by omega
  have hw1:IntKind.i64.wrap ((K:Int) - 1)=((2*s:Nat):Int):=by rw[<-zH (n:=2*s) (by omega)];congr 1;omega
  have hw2:IntKind.i64.wrap ((K:Int)+1)=((2*s+2:Nat):Int):=by rw[<-zH (n:=2*s+2) (by omega)];congr 1;omega
  have e1:(yN q)[2*s]?=some (.int .i64 i):=by rw[rM hsl,hqs]
  have e2:(yN q)[K]?=some (.int .i64 c):=by rw[<-hK,rN hsl,hqs]
  have e3:(yN q)[2*s+2]?=some (.int .i64 i'):=by rw[show 2*s+2=2*(s+1) by omega,rM hsl1,hqs1]
  have hmod:(K:Int).tmod 2=1:=by rw[yHO (by omega),<-hK];omega
  have hmod2:¬((2*s+2:Nat):Int).tmod 2=1:=by rw[yHO (by omega)];omega
  have hK2l:((2*s+2:Nat):Int) < 2*(q.length:Int):=by omega
  have hw4:IntKind.i64.wrap (((2*s+2:Nat):Int) - 1)=(K:Int):=by rw[<-zH (n:=K) (by omega)];congr 1;omega
  have hw5:IntKind.i64.wrap (((2*s+2:Nat):Int)+1)=((2*(s+1)+1:Nat):Int):=by rw[<-zH (n:=2*(s+1)+1) (by omega)];congr 1
  generalize hK0:2*s=K0 at hw1 hK0l e1 e3 hw2 hmod2 hK2l hw4 hw5;generalize hK2:K0+2=K2 at hw2 e3 hmod2 hK2l hw4 hw5;have n0:¬e.D=e.D+1:=by omega
  have hc1:c+1<=e.m:=hcm;obtain ⟨f1,f2⟩:=hb.F hc hin hcm;have hw3:IntKind.i64.wrap (F i c+v)=F i c+v:=yO (by omega) (by omega);have hM1:=hM.setRow ho hin c (F i c+v);have hF2:upd2 F i c (F i c+v)=augP F i c v:=rfl;rw[hF2] at hM1;obtain ⟨f3,f4⟩:=hb.F hc hin' hcm;have hg:augM (augP F i c v) i' c v i' c=augP F i c v i' c - v:=by unfold augM upd2;simp
  have f5:=g1.nn i' c hin' hcm;rw[hg] at f5;have f6:augP F i c v i' c<=2199023255552+v:=by
   unfold augP upd2;split<;>omega
  have hw6:IntKind.i64.wrap (augP F i c v i' c - v)=augP F i c v i' c - v:=yO (by omega) (by omega);have hM2:=hM1.setRow ho hin' c (augP F i c v i' c - v);have hF3:upd2 (augP F i c v) i' c (augP F i c v i' c - v)=augM (augP F i c v) i' c v:=rfl;rw[hF3] at hM2;refine zC c48_l2.eq_1 ?_;simp[h11,h14,hKl,hK0l,hmod,hf.h9,hw1,e1,e2,h12,hin,hcm,hM.o21,hM.oR i hin,n0,hw3,hc1,tN hcm,hw2];generalize updS S e.D i (1,.cells (mI e.m (upd1 (F i) c (F i c+v))))=S1 at hM1 hM2;refine zC c48_l2.eq_1 ?_;simp[h11,hKl,hK2l,hmod2,hf.h9,hw4,e2,e3,h12,hin',hcm,hM1.o21,hM1.oR i' hin',n0,hw6,hc1,tN hcm,hw5];refine ih (s+1) _ ω _ (augM (augP F i c v) i' c v) i' c' tl' (by omega) hd1 g2 g1 g3 (by rw[htg];rfl) ?_ ?_ ?_ ?_ hM2
  ·repeat (first | exact hf | refine FE.Fr.upd ?_ _ _)
  ·simp[h11]
  ·simp[h12]
  ·simp
end Go.Ab.Tab
