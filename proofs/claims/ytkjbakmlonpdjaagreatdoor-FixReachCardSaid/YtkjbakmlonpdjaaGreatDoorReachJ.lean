/- Sets as lists of truth values. -/
import Derived.Test.YtkjbakmlonpdjaaGreatDoorReachG
import Derived.Test.YtkjbakmlonpdjaaGreatDoorReachE
import Derived.Test.YtkjbakmlonpdjaaGreatDoorReachB5
open Bool renaming and_eq_true->yOG, and_true->yON
open List renaming getD_cons_zero->yOH, getElem?_eq_some_iff->yOI, take_of_length_le->yOJ, map_cons->yOK, getElem_mem->yOL, mem_cons->yOM, map_append->yOO, ext_getElem->yOP, replicate_succ->yOQ, map_congr_left->yOR, not_mem_nil->yOS, drop_eq_getElem_cons->yOT, map_nil->yOU, length_map->yOV, getElem_map->yOW, drop_zero->yOX, getD_cons_succ->yOY, take_succ_eq_append_getElem->yOZ, all_eq_true->yPA
set_option linter.unusedVariables false
set_option linter.unusedSimpArgs false
set_option maxRecDepth 10000
namespace Go.Ab.Tab
open Go Go.Ab
def y8 (n X:Nat):List Bool:=(List.range n).map X.testBit
end Go.Ab.Tab
/- The reference's List,and same: of sets that lie in a frame below. -/
namespace Go.Ab.Tab
open Go Go.Ab
structure Rw where
 s:Nat
 g:Nat
 b:List Bool
def rowA (d:Nat) (x:Rw):AV:= .own d x.s x.g 0 x.b.length 1 false
def rowE (x:Rw):Ent:=(x.g,.cells (x.b.map AV.bool))
def rowM (d:Nat) (x:Rw):Nat×Nat×Ent:=(d,x.s,rowE x)
def vV (bs:List Bool):List Nat:=(List.range bs.length).filter fun i=>bs.getD i false
theorem l24a {D:Nat} {L:List (List Int)} {S:Nat->Nat->Ent} {r:AV} {K:List AI} {i:Nat} (hi:i < L.length) {x:List Nat} (hx:toZ x=L[i]) (hxl:x.length < 2^62):∀(j k:Nat) (τ ω),k+j=x.length->
  τ 0= .sl 1 (L.map encI) .no->τ 5= .int .i64 i->τ 32= .sl 1 (x.map encN) .no->τ 33= .int .i64 x.length->τ 34= .int .i64 k->
  (∀τ',τ' 0=τ 0->τ' 1=τ 1->τ' 15=τ 15->τ' 16=τ 16->τ' 17=τ 17->Rd (Loc Pg Gl) .im (RetM [.tmp 4] r D S []) K (stF 50 D τ' ω S))->
  Rd (Loc Pg Gl) .im (RetM [.tmp 4] r D S []) (.lp c24_l0:: .blk 2::K) (stF 50 D τ ω S):=by
 intro j
 induction j with
 | zero=>
  intro k τ ω hk t0 t5 t32 t33 t34 hK;refine zM c24_l0.eq_1 ?_;obtain rfl:k=x.length:=by omega
  simp[t0,t5,t32,t33,t34];refine hK _ ?_ ?_ ?_ ?_ ?_;all_goals simp
 | succ j ih=>
  intro k τ ω hk t0 t5 t32 t33 t34 hK;refine zM c24_l0.eq_1 ?_;have hlt:k < x.length:=by omega
  have hlt':(k:Int) < x.length:=by omega
  have hi':(i:Int) < L.length:=by omega
  have hwr:IntKind.i64.wrap ((k:Int)+1)=((k+1:Nat):Int):=by rw[<-zF (n:=k+1) (by omega)];rfl
  have hkl:k < L[i].length:=by rw[<-hx,zHB];exact hlt
  have hkl':(k:Int) < L[i].length:=by omega
  have hget:(L[i])[k]=(x[k]:Int):=by simp only[<-hx];simp[toZ]
  simp[t0,t5,t32,t33,t34,hlt,hlt',hi,hi',encI,encN,hkl,hkl',hget,hwr];refine ih (k+1) _ ω (by omega) ?_ ?_ ?_ ?_ ?_ fun τ' a1 a2 a3 a4 a5=>hK τ' (a1.trans ?_) (a2.trans ?_) (a3.trans ?_) (a4.trans ?_) (a5.trans ?_);all_goals simp[t0,t5,t32,t33,encI]
end Go.Ab.Tab
/- The reference's evaluation: truth of prepared value formulas,weight. -/
namespace Go.Ab.Tab
open Go Go.Ab
mutual
def rdy (nx:List Va) (e:List Nat):Fm->AV
 | .mk o n m ar=>if o=4 then .agg [.int .i64 o,.int .i64 n,.int .i64 m,.sl 5 [] .no,xU (y8 nx.length ((evSs nx e ar).getD 0 0))]
  else .agg [.int .i64 o,.int .i64 n,.int .i64 m,.sl 5 (rdys nx e ar) .no,.sl 1 [] .no]
def rdys (nx:List Va) (e:List Nat):List Fm->List AV
 | []=>[]
 | a::l=>rdy nx e a::rdys nx e l
end
theorem fP (nx e):∀l,rdys nx e l=l.map (rdy nx e)
 | []=>by rw[rdys];rfl
 | a::l=>by rw[rdys,fP nx e l];rfl
def rdyC (nx:List Va) (e:List Nat) (a:Fm):List AV:=[.int .i64 a.o,.int .i64 a.n,.int .i64 a.m,.sl 5 (if a.o=4 then [] else a.ar.map (rdy nx e)) .no,if a.o=4 then xU (y8 nx.length ((evSs nx e a.ar).getD 0 0)) else .sl 1 [] .no]
theorem fQ (nx e) (a:Fm):rdy nx e a= .agg (rdyC nx e a):=by
 cases a with
 | mk o n m ar=>
  rw[rdy];unfold rdyC;simp only[Fm.o,Fm.n,Fm.m,Fm.ar,fP];by_cases ho:o=4<;>simp[ho]
def wls (k:Int) (v:Va):List Int:=if wtd k then v.ws else List.replicate v.gs.length 1
theorem zBV:∀(n:Nat) (s:Int),s+n<=1048576->wOk s (List.replicate n 1)=true
 | 0,_,_=>rfl
 | n+1,s,h=>by
  rw[yOQ,wOk];simp only[yOG,decide_eq_true_eq];exact ⟨by omega,by omega,zBV n (s+1) (by omega)⟩
def RC (rc:List AV):Prop:=rc.length=5/\∀x∈rc,x.one=true/\x.dem1=x/\x.var1=x/\x.strip1=x
theorem RC.facts {rc:List AV} (h:RC rc):rc.length=5/\rc.map AV.dem1=rc/\rc.map AV.strip1=rc/\rc.map (AV.var1∘AV.dem1)=rc/\∀x∈rc,x.dem1.one=true:=by
 have key:∀f:AV->AV,(∀x∈rc,f x=x)->rc.map f=rc:=fun f hf=>(yOR hf).trans (List.map_id' rc);refine ⟨h.1,key _ fun x hx=>(h.2 x hx).2.1,key _ fun x hx=>(h.2 x hx).2.2.2,key _ fun x hx=> ?_,fun x hx=> ?_⟩
 ·show x.dem1.var1=x
  rw[(h.2 x hx).2.1,(h.2 x hx).2.2.1]
 ·rw[(h.2 x hx).2.1];exact (h.2 x hx).1
theorem rC (nx e a):RC (rdyC nx e a):=by
 refine ⟨rfl,fun x hx=> ?_⟩;simp only[rdyC,yOM,yOS,or_false] at hx;rcases hx with rfl | rfl | rfl | rfl | rfl
 case inr.inr.inr.inr=>split<;>exact ⟨rfl,rfl,rfl,rfl⟩
 all_goals exact ⟨rfl,rfl,rfl,rfl⟩
theorem l117 (D N:Nat) (g h:Fu) (hgs:g.gs[0]?=some h) (rc:List AV) (hR:RC rc) (φ:Va->Bool) (hcall:∀u,valN N u h=true->zG u<=2000->Go.Ab.Loc Pg Gl (D+1) 68 [encF h,encV u,.agg rc] [] (.bool (φ u)) [])
  (v:Va) (hv:∀a∈v.gs,valN N a h=true) (hnod:zG v<=2000) (hwl:wtd g.k=true->v.ws.length=v.gs.length) (S):
  ∀(j i:Nat) (sum all:Int) (τ ω) (r:AV),i+j=v.gs.length->0<=sum->sum<=all->all<=1048576->wOk all ((wls g.k v).drop i)=true->
  τ 3= .ptr D 3 1 0->ω 3=(1,.cells [.int .i64 g.k,.int .i64 g.n,.sl 3 (g.gs.map encF) .no])->τ 4= .ptr D 4 1 0->ω 4=(1,.cells [.int .i64 v.n,.sl 3 (v.gs.map encV) .no,.sl 1 (v.ws.map (AV.int .i64)) .no])->τ 5= .ptr D 5 1 0->ω 5=(1,.cells rc)->
  τ 6= .int .i64 sum->τ 7= .int .i64 all->τ 12= .sl 3 (v.gs.map encV) .no->τ 13= .int .i64 v.gs.length->τ 14= .int .i64 i->
  r= .tup [.int .i64 (sum+wSum φ (v.gs.drop i) ((wls g.k v).drop i)),.int .i64 (all+wSum (fun _=>true) (v.gs.drop i) ((wls g.k v).drop i))]->
  Rd (Loc Pg Gl) .im (RetQ [.tmp 6,.tmp 7] r S) [.lp c117_l0,.blk 0,.c dJ] (stF 43 D τ ω S):=by
 obtain ⟨hrc,hrd,hrs,hrv,hro⟩:=hR.facts;have hgl:v.gs.length<=2000:=by have:=vH v;have:=wI v.gs;omega
 have hwll:(wls g.k v).length=v.gs.length:=by
  unfold wls;cases hw:wtd g.k
  ·simp
  ·simpa using hwl hw
 have hg0:0 < g.gs.length:=(yOI.1 hgs).1;have hg1:g.gs[0]=h:=(yOI.1 hgs).2;intro j
 induction j with
 | zero=>
  intro i sum all τ ω r hi h0 h1 h2 hwk t3 w3 t4 w4 t5 w5 t6 t7 t12 t13 t14 hr;refine zM c117_l0.eq_1 ?_;obtain rfl:i=v.gs.length:=by omega
  rw[List.drop_length] at hr;simp[wSum] at hr;simp[t6,t7,t12,t13,t14,dJ,hr]
 | succ j ih=>
  intro i sum all τ ω r hi h0 h1 h2 hwk t3 w3 t4 w4 t5 w5 t6 t7 t12 t13 t14 hr;refine zM c117_l0.eq_1 ?_;have hlt:i < v.gs.length:=by omega
  have hwr:IntKind.i64.wrap ((i:Int)+1)=((i+1:Nat):Int):=by rw[<-zF (n:=i+1) (by omega)];rfl
  have hm:=yOL hlt;have hnv:zG v.gs[i]<=2000:=by have:=sF hlt;have:=vH v;omega
  have hlw:i < (wls g.k v).length:=by omega
  rw[yOT hlw,wOk] at hwk;simp only[yOG,decide_eq_true_eq] at hwk;rw[yOT hlt,yOT hlw,wSum,wSum] at hr;have e1:IntKind.i64.wrap (all+(wls g.k v)[i])=all+(wls g.k v)[i]:=uM (by omega) (by omega);have e2:IntKind.i64.wrap (sum+(wls g.k v)[i])=sum+(wls g.k v)[i]:=uM (by omega) (by omega);have hc:=hcall v.gs[i] (hv _ hm) hnv;have hpart:part true 5 rc 0=some (.agg rc):=by
   unfold part;rw[if_pos (by omega),if_pos rfl,yOX,yOJ (by omega)]
  have tail:∀τ1 ω1,τ1 3=τ 3->τ1 4=τ 4->τ1 5=τ 5->τ1 6=τ 6->τ1 7=τ 7->τ1 12=τ 12->τ1 13=τ 13->τ1 14=τ 14->τ1 10= .int .i64 (wls g.k v)[i]->τ1 9= .ptr D 9 ((ω 9).1+1) 0->ω1 3=ω 3->ω1 4=ω 4->ω1 5=ω 5->ω1 9=((ω 9).1+1,.cells [.int .i64 v.gs[i].n,.sl 3 (v.gs[i].gs.map encV) .no,.sl 1 (v.gs[i].ws.map (AV.int .i64)) .no])->
    Rd (Loc Pg Gl) .im (RetQ [.tmp 6,.tmp 7] r S) [.c zBA,.blk 1,.c (.region [⟨some 40,.bin .add .other (.t 14) (.c (.int .i64 1)),none⟩,⟨some 14,.mov false (.t 40),none⟩] none),.lp c117_l0,.blk 0,.c dJ] (stF 43 D τ1 ω1 S):=by
   intro τ1 ω1 a3 a4 a5 a6 a7 a12 a13 a14 a10 a9 b3 b4 b5 b9;unfold zBA;simp[a3,a4,a5,a6,a7,a12,a13,a14,a10,a9,b3,b4,b5,b9,t3,t4,t5,t6,t7,t12,t13,t14,w3,w4,w5,hg0,hg1,zA h,hpart,hrd,e1];refine zX hc (by simp[zA h,zC v.gs[i],hrd,hrs]) ?_;cases hphi:φ v.gs[i] with
   | false=>
    rw[hphi] at hr;simp[a14,t14,hwr];refine ih (i+1) sum (all+(wls g.k v)[i]) _ _ r (by omega) h0 (by omega) (by omega) hwk.2.2 ?_ ?_ ?_ ?_ ?_ ?_ ?_ ?_ ?_ ?_ ?_ (by rw[hr];simp[Int.add_assoc]);all_goals simp[a3,a4,a5,a6,a12,a13,t3,t4,t5,t6,t12,t13,b3,b4,b5,w3,w4,w5]
   | true=>
    rw[hphi] at hr;simp[a14,t14,hwr,a6,t6,a10,e2];refine ih (i+1) (sum+(wls g.k v)[i]) (all+(wls g.k v)[i]) _ _ r (by omega) (by omega) (by omega) (by omega) hwk.2.2 ?_ ?_ ?_ ?_ ?_ ?_ ?_ ?_ ?_ ?_ ?_ (by rw[hr];simp[Int.add_assoc]);all_goals simp[a3,a4,a5,a12,a13,t3,t4,t5,t12,t13,b3,b4,b5,w3,w4,w5]
  simp[t3,w3,t12,t13,t14,hlt,zC v.gs[i]];refine zE (qW (D+1) g.k) (by simp) ?_;cases hw:wtd g.k with
  | false=>
   have he:(wls g.k v)[i]=1:=by simp[wls,hw]
   simp;refine tail _ _ ?_ ?_ ?_ ?_ ?_ ?_ ?_ ?_ ?_ ?_ ?_ ?_ ?_ ?_;all_goals simp[he]
  | true=>
   have he:∀hl:i < v.ws.length,(wls g.k v)[i]=v.ws[i]:=fun hl=>by simp[wls,hw]
   have hl:i < v.ws.length:=by rw[hwl hw];exact hlt
   simp[t4,w4,hl];refine tail _ _ ?_ ?_ ?_ ?_ ?_ ?_ ?_ ?_ ?_ ?_ ?_ ?_ ?_ ?_;all_goals simp[he hl]
theorem aF (D N:Nat) (g h:Fu) (hgs:g.gs[0]?=some h) (rc:List AV) (hR:RC rc) (φ:Va->Bool) (hcall:∀D u,valN N u h=true->zG u<=2000->Go.Ab.Loc Pg Gl D 68 [encF h,encV u,.agg rc] [] (.bool (φ u)) [])
  (v:Va) (hv:∀a∈v.gs,valN N a h=true) (hnod:zG v<=2000) (hwl:wtd g.k=true->v.ws.length=v.gs.length) (hwk:wOk 0 (wls g.k v)=true):
  Go.Ab.Loc Pg Gl D 117 [encF g,encV v,.agg rc] [] (.tup [.int .i64 (wSum φ v.gs (wls g.k v)),.int .i64 (wSum (fun _=>true) v.gs (wls g.k v))]) []:=by
 refine zU zI tok rfl rfl fun S=> ?_;generalize hr:AV.tup [.int .i64 (wSum φ v.gs (wls g.k v)),.int .i64 (wSum (fun _=>true) v.gs (wls g.k v))]=r;obtain ⟨hrc,hrd,hrs,hrv,hro⟩:=hR.facts;unfold c117;simp[zA g,zC v,hrc];refine ⟨hro,?_⟩;rw[hrv];refine l117 D N g h hgs rc hR φ (fun u=>hcall (D+1) u) v hv hnod hwl S v.gs.length 0 0 0 _ _ r (by omega) (by omega) (by omega) (by omega) hwk ?_ ?_ ?_ ?_ ?_ ?_ ?_ ?_ ?_ ?_ ?_ (by rw[<-hr];simp);all_goals simp[hrv]
end Go.Ab.Tab
/- The reference's evaluation: truth. -/
namespace Go.Ab.Tab
open Go Go.Ab
def zVZ (nx:List Va) (e:List Nat) (g:Fu) (b:Fm):Prop:=∀D v,valN nx.length v g=true->zG v<=2000->Go.Ab.Loc Pg Gl D 68 [encF g,encV v,.agg (rdyC nx e b)] [] (.bool (prB nx e b v)) []
theorem mV {rc:List AV} (h:rc.length=5):rc.take 5=rc:=yOJ (by omega)
theorem dQ (p:Va->Bool):∀l:List Va,0<=wSum p l (List.replicate l.length 1)/\(0 < wSum p l (List.replicate l.length 1)↔l.any p=true)
 | []=>by simp[wSum]
 | v::l=>by
  obtain ⟨h1,h2⟩:=dQ p l;rw[List.length_cons,yOQ,wSum,List.any_cons];cases hp:p v
  ·simp only[Bool.false_eq_true,if_false,Bool.false_or];rw[Int.zero_add];exact ⟨h1,h2⟩
  ·simp;omega
theorem b6 (p:Va->Bool):∀(l:List Va) (ws:List Int) (s:Int),wOk s ws=true->0<=wSum p l ws/\s+wSum p l ws<=max s 1048576
 | [],ws,s,_=>by simp[wSum];omega
 | _::_,[],s,_=>by simp[wSum];omega
 | v::l,w::ws,s,h=>by
  rw[wOk] at h;simp only[yOG,decide_eq_true_eq] at h;obtain ⟨h1,h2⟩:=b6 p l ws (s+w) h.2.2;rw[wSum];split<;>omega
theorem nJ {nx e} {o n m:Int} {ar:List Fm} (ho:o≠4):rdyC nx e (.mk o n m ar)= [.int .i64 o,.int .i64 n,.int .i64 m,.sl 5 (ar.map fun b=> .agg (rdyC nx e b)) .no,.sl 1 [] .no]:=by
 have h:ar.map (rdy nx e)=ar.map fun b=> .agg (rdyC nx e b):=yOR fun b _=>fQ nx e b
 show [AV.int .i64 o,.int .i64 n,.int .i64 m,.sl 5 (if o=4 then [] else ar.map (rdy nx e)) .no,if o=4 then xU (y8 nx.length ((evSs nx e ar).getD 0 0)) else .sl 1 [] .no]=_
 rw[if_neg ho,if_neg ho,h]
theorem dU {f:Fu} {nx:List Va} {e:List Nat} {vars:Int}:∀a:Fm,∀g odd,zH g=true->valM f vars (some g) odd a=true->zVZ nx e g a:=by
 refine Fm.ind' fun o n m ar ih=> ?_;have one:∀{md odd},ar.length=1->xD f vars md odd ar=true->∃b,ar= [b]/\valM f vars md odd b=true:=by
  intro md odd hl h;rcases ar with _ | ⟨b,_ | ⟨c,l⟩⟩<;>simp at hl
  simp only[xD,yON] at h;exact ⟨b,rfl,h⟩
 have two:∀{md odd},ar.length=2->xD f vars md odd ar=true->∃b b',ar= [b,b']/\valM f vars md odd b=true/\valM f vars md odd b'=true:=by
  intro md odd hl h;rcases ar with _ | ⟨b,_ | ⟨c,_ | ⟨x,l⟩⟩⟩<;>simp at hl
  simp only[xD,yON,yOG] at h;exact ⟨b,c,rfl,h⟩
 intro g odd hg h D v hv hnod;have hany:=pW hg hv;refine zU zI tok rfl rfl fun S=> ?_;unfold c68;by_cases o0:o=0
 ·subst o0;rw[y5,if_pos rfl,nJ (by omega)];simp[zA g,zC v]
 by_cases o1:o=1
 ·subst o1;rw[y4,if_neg o0,if_pos rfl] at h;simp only[yOG,decide_eq_true_eq] at h;obtain ⟨b,rfl,hb⟩:=one h.1.2 h.2;have hc:=ih b (by simp) g _ hg hb (D+1) v hv hnod;obtain ⟨hrc,hrd,hrs,hrv,hro⟩:=(rC nx e b).facts;rw[y5,if_neg o0,if_neg (by omega),if_neg (by omega),if_neg (by omega),yB,yOH,nJ (by omega)];simp only[yOK,yOU];generalize rdyC nx e b=rc at*;simp[zA g,zC v] at hc|-;simp[mV hrc,hrc,hrd];refine zX hc (by simp[hrd,hrs]) ?_;simp[oneB]
 by_cases o2:o=2
 ·subst o2;rw[y4,if_neg o0,if_neg o1,if_pos rfl] at h;simp only[yOG,decide_eq_true_eq] at h;obtain ⟨b,b',rfl,hb,hb'⟩:=two h.1.2 h.2;have hc:=ih b (by simp) g _ hg hb (D+1) v hv hnod;have hc':=ih b' (by simp) g _ hg hb' (D+1) v hv hnod;obtain ⟨hrc,hrd,hrs,hrv,hro⟩:=(rC nx e b).facts;obtain ⟨hrc',hrd',hrs',hrv',hro'⟩:=(rC nx e b').facts;rw[y5,if_neg o0,if_neg (by omega),if_neg (by omega),if_pos rfl];simp only[yB,yOH,yOY];rw[nJ (by omega)];simp only[yOK,yOU];generalize rdyC nx e b=rc at*;generalize rdyC nx e b'=rc' at*;simp[zA g,zC v] at hc hc'|-;simp[mV hrc,hrc,hrd];refine zX hc (by simp[hrd,hrs]) ?_;cases hp:prB nx e b v
  ·simp
  ·simp[mV hrc',hrc',hrd'];refine zX hc' (by simp[hrd',hrs']) ?_;simp
 have hcm:comM o=false:=by simp[comM,o0,o1,o2]
 rw[sX _ _ _ _ _ _ _ _ hcm] at h;by_cases o4:o=4
 ·subst o4;rw[if_pos rfl] at h;simp only[yOG,decide_eq_true_eq] at h;obtain ⟨b,rfl,hb⟩:=one h.1.2.1 h.2;obtain ⟨hk,hn1,hn2⟩:=hany.resolve_right (by omega);obtain ⟨k,hk2⟩:∃k:Nat,v.n=k:=⟨v.n.toNat,by omega⟩;have hkn:k < nx.length:=by omega
  have hkn':(k:Int) < nx.length:=by omega
  rw[y5,if_neg o0,if_neg (by omega),if_pos rfl];have hrd:rdyC nx e (.mk 4 n m [b])= [.int .i64 4,.int .i64 n,.int .i64 m,.sl 5 [] .no,.sl 1 ((y8 nx.length (evS nx e b)).map AV.bool) .no]:=by
   show [AV.int .i64 4,.int .i64 n,.int .i64 m,.sl 5 (if (4:Int)=4 then [] else [b].map (rdy nx e)) .no,if (4:Int)=4 then xU (y8 nx.length ((evSs nx e [b]).getD 0 0)) else .sl 1 [] .no]=_
   rw[if_pos rfl,if_pos rfl,yC,yOH];rfl
  rw[hrd,hk2];simp only[yC,yOH];have hbl:(y8 nx.length (evS nx e b)).length=nx.length:=by simp[y8]
  have hbk:∀h:k < (y8 nx.length (evS nx e b)).length,(y8 nx.length (evS nx e b))[k]=(evS nx e b).testBit k:=fun h=>by simp[y8]
  simp[zA g,zC v,hk2,hbl,hkn,hkn',hbk]
 rw[if_neg o4] at h;by_cases o5:o=5
 ·subst o5;rw[y5,if_neg o0,if_pos rfl,nJ (by omega)];simp[zA g,zC v]
 rw[if_neg o5] at h;simp only[yOG,decide_eq_true_eq] at h;obtain ⟨b,rfl,hb⟩:=one h.1.2 h.2;have hsh:=rG hg h.1.1;have hsub:=ih b (by simp) (inF g o) _ hsh hb;obtain ⟨hrc,hrd,hrs,hrv,hro⟩:=(rC nx e b).facts;have hRC:=rC nx e b;have hnv:=vH v;rw[y5,if_neg o0,if_neg o5,if_neg o4,if_neg o2,yB,yOH,nJ o4];simp only[yOK,yOU];unfold zVZ at hsub;generalize rdyC nx e b=rc at*;generalize prB nx e b=φ at*;have leaf:∀(u:Va) (i:Nat),v.gs[i]?=some u->zG u<=2000:=fun u i hu=>by
  have hi:=(yOI.1 hu).1;have:=sF hi;rw[(yOI.1 hu).2] at this;omega
 rcases tR h.1.1 with ⟨hk,rfl⟩ | ⟨hk,rfl⟩ | ⟨hk,rfl⟩ | ⟨hk,rfl⟩ | ⟨hk,rfl,hn1,hn2⟩ | ⟨hk,rfl⟩ | ⟨hk,rfl⟩ | ⟨hk,rfl,hm1,hm2,hn1,hn2⟩
 ·obtain ⟨_,a,b',g1,g2,e1,e2,v1,v2⟩:=(hany.resolve_left (by omega)).resolve_left (by omega) |>.resolve_right (by omega);have e3:inF g 6=g1:=by simp[inF,hk,e2]
  rw[e3] at hsub;have hc:=hsub (D+1) a v1 (leaf a 0 (by rw[e1];rfl));simp[zA,zC,e1,e2,mV hrc,hrc,hrd] at hc|-;refine zX hc (by simp[hrd,hrs]) ?_;simp[oneB,e1]
 ·obtain ⟨_,a,b',g1,g2,e1,e2,v1,v2⟩:=(hany.resolve_left (by omega)).resolve_left (by omega) |>.resolve_right (by omega);have e3:inF g 7=g2:=by simp[inF,hk,e2]
  rw[e3] at hsub;have hc:=hsub (D+1) b' v2 (leaf b' 1 (by rw[e1];rfl));simp[zA,zC,e1,e2,mV hrc,hrc,hrd] at hc|-;refine zX hc (by simp[hrd,hrs]) ?_;simp[oneB,e1]
 ·obtain ⟨_,a,g1,g2,e1,e2,hc0⟩:=(((hany.resolve_left (by omega)).resolve_left (by omega)).resolve_left (by omega)).resolve_right (by omega);have e3:inF g 8=g1:=by simp[inF,hk,e2]
  rw[e3] at hsub;rcases hc0 with ⟨hn,v1⟩ | ⟨hn,v1⟩
  ·have hc:=hsub (D+1) a v1 (leaf a 0 (by rw[e1];rfl));simp[zA,zC,e1,e2,hn,mV hrc,hrc,hrd] at hc|-;refine zX hc (by simp[hrd,hrs]) ?_;simp[oneB,e1,hn]
  ·simp[zA,zC,hn,oneB]
 ·obtain ⟨_,a,g1,g2,e1,e2,hc0⟩:=(((hany.resolve_left (by omega)).resolve_left (by omega)).resolve_left (by omega)).resolve_right (by omega);have e3:inF g 9=g2:=by simp[inF,hk,e2]
  rw[e3] at hsub;rcases hc0 with ⟨hn,v1⟩ | ⟨hn,v1⟩
  ·simp[zA,zC,hn,oneB]
  ·have hc:=hsub (D+1) a v1 (leaf a 0 (by rw[e1];rfl));simp[zA,zC,e1,e2,hn,mV hrc,hrc,hrd] at hc|-;refine zX hc (by simp[hrd,hrs]) ?_;simp[oneB,e1,hn]
 ·obtain ⟨_,hl,x,e2,hx⟩:=((((hany.resolve_left (by omega)).resolve_left (by omega)).resolve_left (by omega)).resolve_left (by omega)).resolve_right (by omega);have e3:inF g 10=x:=by simp[inF,hk,e2]
  rw[e3] at hsub;obtain ⟨i,rfl⟩:∃i:Nat,n=i:=⟨n.toNat,by omega⟩;have hlt:i < v.gs.length:=by omega
  have hlt':(i:Int) < v.gs.length:=by omega
  have hc:=hsub (D+1) v.gs[i] (hx _ (yOL hlt)) (leaf v.gs[i] i (List.getElem?_eq_getElem hlt));simp[zA,zC,e2,hlt,hlt',mV hrc,hrc,hrd] at hc|-;refine zX hc (by simp[hrd,hrs]) ?_;simp[oneB,hlt]
 all_goals
  obtain ⟨_,⟨x,e2,hx⟩,hw1,hw2⟩:=((((hany.resolve_left (by omega)).resolve_left (by omega)).resolve_left (by omega)).resolve_left (by omega)).resolve_left (by omega);have hgl:v.gs.length<=2000:=by have:=wI v.gs;omega
  have h0:g.gs[0]?=some x:=by rw[e2];rfl
 ·have e3:inF g 11=x:=by simp[inF,hk,e2]
  rw[e3] at hsub;have hwt:wtd g.k=false:=by rw[hk];rfl
  have hwe:wls g.k v=List.replicate v.gs.length 1:=by unfold wls;rw[hwt];rfl
  have hc:=aF (D+1) nx.length g x h0 rc hRC φ (fun D u hu hn=>hsub D u hu hn) v hx hnod (by rw[hwt];intro h;cases h) (by rw[hwe];exact zBV _ _ (by omega));rw[hwe] at hc;have hw:=(dQ φ v.gs).2;simp[zA,zC,mV hrc,hrc,hrd] at hc|-;refine zX hc (by simp[hrd,hrs]) ?_;simp[oneB];by_cases hp:0 < wSum φ v.gs (List.replicate v.gs.length 1)
  ·have:=hw.1 hp;simp only[List.any_eq_true] at this;simp[hp,this]
  ·have:¬v.gs.any φ=true:=fun h=>hp (hw.2 h);have hp':∀x,x∈v.gs->φ x=false:=by simpa using this
   simpa[hp] using hp'
 ·have e3:inF g 12=x:=by simp[inF,hk,e2]
  rw[e3] at hsub;obtain ⟨w1,w2⟩:=hw2 (by omega);have hwt:wtd g.k=true:=by rw[hk];rfl
  have hwe:wls g.k v=v.ws:=by unfold wls;rw[hwt];rfl
  have hc:=aF (D+1) nx.length g x h0 rc hRC φ (fun D u hu hn=>hsub D u hu hn) v hx hnod (fun _=>w1) (by rw[hwe];exact w2);rw[hwe] at hc;simp[zA,zC,mV hrc,hrc,hrd] at hc|-;refine zX hc (by simp[hrd,hrs]) ?_;simp[oneB]
 ·have e3:inF g 13=x:=by simp[inF,hk,e2]
  rw[e3] at hsub;obtain ⟨w1,w2⟩:=hw2 (by omega);have hwt:wtd g.k=true:=by rw[hk];rfl
  have hwe:wls g.k v=v.ws:=by unfold wls;rw[hwt];rfl
  have hc:=aF (D+1) nx.length g x h0 rc hRC φ (fun D u hu hn=>hsub D u hu hn) v hx hnod (fun _=>w1) (by rw[hwe];exact w2);rw[hwe] at hc;obtain ⟨s0,s1⟩:=b6 φ v.gs v.ws 0 w2;obtain ⟨a0,a1⟩:=b6 (fun _=>true) v.gs v.ws 0 w2;generalize hsum:wSum φ v.gs v.ws=sum at*;generalize hall:wSum (fun _=>true) v.gs v.ws=all at*;have b1:sum*m<=1048576*1048576:=Int.mul_le_mul (by omega) hm2 (by omega) (by omega);have b2:0<=sum*m:=Int.mul_nonneg s0 (by omega);have b3:n*all<=1048576*1048576:=Int.mul_le_mul (by omega) (by omega) (by omega) (by omega);have b4:0<=n*all:=Int.mul_nonneg (by omega) a0;have q1:IntKind.i64.wrap (sum*m)=sum*m:=uM (by omega) (by omega);have q2:IntKind.i64.wrap (n*all)=n*all:=uM (by omega) (by omega);simp[zA,zC,mV hrc,hrc,hrd] at hc|-;refine zX hc (by simp[hrd,hrs]) ?_;simp[oneB,q1,q2,hsum,hall]
end Go.Ab.Tab
/- The reference's evaluation: Set,prepare. -/
namespace Go.Ab.Tab
open Go Go.Ab
inductive Rx where
 | im (b:List Bool)
 | ow (x:Rw)
def Rx.B:Rx->List Bool
 | .im b=>b
 | .ow x=>x.b
def Rx.A (d:Nat):Rx->AV
 | .im b=>xU b
 | .ow x=>rowA d x
def Rx.M (d:Nat):Rx->List (Nat×Nat×Ent)
 | .im _=>[]
 | .ow x=>[rowM d x]
inductive VA where
 | im (l:List (List Bool))
 | ow (d o g:Nat) (R:List Rx)
def VA.B:VA->List (List Bool)
 | .im l=>l
 | .ow _ _ _ R=>R.map Rx.B
def VA.A:VA->AV
 | .im l=> .sl 1 (l.map xU) .no
 | .ow d o g R=> .own d o g 0 R.length 1 false
def VA.M:VA->List (Nat×Nat×Ent)
 | .im l=>[]
 | .ow d o g R=>(d,o,(g,.cells (R.map (Rx.A d))))::R.flatMap (Rx.M d)
@[simp] theorem VA.A_dem (V:VA):V.A.dem=V.A:=by cases V<;>rfl
@[simp] theorem VA.A_strip (V:VA):V.A.strip=V.A:=by cases V<;>rfl
@[simp] theorem VA.A_var1 (V:VA):V.A.var1=V.A:=by cases V<;>rfl
def VA.dp:VA->Nat->Prop
 | .im _,_=>True
 | .ow d _ _ _,D=>d < D
theorem VA.dp_succ {V:VA} {D:Nat} (h:V.dp D):V.dp (D+1):=by
 cases V with
 | im l=>trivial
 | ow d o g R=>exact Nat.lt_succ_of_lt h
theorem memN {M:List (Nat×Nat×Ent)} {D n:Nat} {S:Nat->Nat->Ent} {τ:Nat->AV} {ω:Nat->Ent} (hS:∀m∈M,m.1 < D/\S m.1 m.2.1=m.2.2):∀m∈M,m.1<=D/\(m.1=D->m.2.1 < n)/\(stF n D τ ω S).look m.1 m.2.1=m.2.2:=by
 intro m hm;obtain ⟨h1,h2⟩:=hS m hm;refine ⟨Nat.le_of_lt h1,fun e=>absurd e (Nat.ne_of_lt h1),?_⟩;rw[yP,if_neg (Nat.ne_of_lt h1)];exact h2
def qF (R:List Bool) (i:Nat):List Bool:=R.take i++List.replicate (R.length - i) false
theorem jR (R:List Bool) (i:Nat) (h:i<=R.length):(qF R i).length=R.length:=by simp[qF];omega
theorem r8 (R:List Bool):qF R 0=List.replicate R.length false:=by simp[qF]
theorem jS (R:List Bool):qF R R.length=R:=by simp[qF]
theorem zNC {α β:Type} (f:α->β) {P:List α} {k:Nat} (h:P.length=k) (b c:α) (B:List α):List.take k ((P++b::B).map f)++f c::List.drop (k+1) ((P++b::B).map f)=(P++c::B).map f:=by
 subst h;rw[yOO,yOK,yOO,yOK,List.take_append_of_le_length (by simp),yOJ (by simp),<-yOV (f:=f),List.drop_length_add_append];rfl
theorem nU {R:List Bool} {i:Nat} (h:i < R.length):List.take i ((qF R i).map AV.bool)++AV.bool R[i]::List.drop (i+1) ((qF R i).map AV.bool)=(qF R (i+1)).map AV.bool:=by
 have e:R.length - i=(R.length - (i+1))+1:=by omega
 unfold qF;rw[e,yOQ,zNC AV.bool (by simp;omega) false R[i],yOZ h,List.append_assoc];rfl
section
variable {D n:Nat} {S:Nat->Nat->Ent} {K:List AI}
theorem l22a (X:List Bool) (hX:X.length=n) (hn:n < 2^31):∀(j i:Nat) (τ ω),i+j=n->τ 7= .own D 19 1 0 n 1 false->ω 19=(1,.cells ((qF (X.map not) i).map AV.bool))->
  τ 40=xU X->τ 41= .int .i64 n->τ 42= .int .i64 i->
  Rd (Loc Pg Gl) .im (RetM [.tmp 6] (xU (X.map not)) D S []) (.lp c22_l0:: .blk 1:: .c zLA::K) (stF 119 D τ ω S):=by
 intro j
 induction j with
 | zero=>
  intro i τ ω hi t7 w t40 t41 t42;refine zM c22_l0.eq_1 ?_;obtain rfl:i=n:=by omega
  have hfr:∀τ,frz (stF 119 D τ ω S) frzD (.own D 19 1 0 i 1 false)=some (xU (X.map not),[(D,19)]):=fun τ=>tS (by decide) (by simpa using hX) (by rw[w];congr 3;have:=jS (X.map not);rw[yOV,hX] at this;exact this);simp[t7,t40,t41,t42,zLA,hfr,upds];rfl
 | succ j ih=>
  intro i τ ω hi t7 w t40 t41 t42;refine zM c22_l0.eq_1 ?_;have hlt:i < n:=by omega
  have hlt':(i:Int) < n:=by omega
  have hwr:IntKind.i64.wrap ((i:Int)+1)=((i+1:Nat):Int):=by rw[<-zF (n:=i+1) (by omega)];rfl
  have hstep:=nU (R:=X.map not) (i:=i) (by simp[hX];exact hlt);have hl:=jR (X.map not) i (by simp[hX];omega);have ih1:=ih (i+1);rw[yOV,hX] at hl;simp only[yOW] at hstep;rw[<-hstep] at ih1;generalize qF (X.map not) i=F at*;have t40':=t40;unfold xU at t40;simp[t7,t40,t41,t42,w,hX,hlt,hlt',hwr,show i+1<=F.length by omega];refine ih1 _ _ (by omega) ?_ ?_ ?_ ?_ ?_;all_goals simp[t7,t40',t41]
theorem l22b (X Y:List Bool) (hX:X.length=n) (hY:Y.length=n) (hn:n < 2^31):∀(j i:Nat) (τ ω),i+j=n->τ 7= .own D 19 1 0 n 1 false->ω 19=(1,.cells ((qF (List.zipWith and X Y) i).map AV.bool))->
  τ 10=xU X->τ 11=xU Y->τ 71= .int .i64 n->τ 72= .int .i64 i->
  Rd (Loc Pg Gl) .im (RetM [.tmp 6] (xU (List.zipWith and X Y)) D S []) (.lp c22_l1:: .blk 3:: .c zKZ::K) (stF 119 D τ ω S):=by
 have hZ:(List.zipWith and X Y).length=n:=by simp[hX,hY]
 intro j
 induction j with
 | zero=>
  intro i τ ω hi t7 w t10 t11 t71 t72;refine zM c22_l1.eq_1 ?_;obtain rfl:i=n:=by omega
  have hfr:∀τ,frz (stF 119 D τ ω S) frzD (.own D 19 1 0 i 1 false)=some (xU (List.zipWith and X Y),[(D,19)]):=fun τ=>tS (by decide) hZ (by rw[w];congr 3;have:=jS (List.zipWith and X Y);rw[hZ] at this;exact this);simp[t7,t71,t72,zKZ,hfr,upds];rfl
 | succ j ih=>
  intro i τ ω hi t7 w t10 t11 t71 t72;refine zM c22_l1.eq_1 ?_;have hlt:i < n:=by omega
  have hlt':(i:Int) < n:=by omega
  have hwr:IntKind.i64.wrap ((i:Int)+1)=((i+1:Nat):Int):=by rw[<-zF (n:=i+1) (by omega)];rfl
  have hstep:=nU (R:=List.zipWith and X Y) (i:=i) (by rw[hZ];exact hlt);have hl:=jR (List.zipWith and X Y) i (by rw[hZ];omega);have ih1:=ih (i+1);rw[hZ] at hl;simp only[List.getElem_zipWith] at hstep;rw[<-hstep] at ih1;generalize qF (List.zipWith and X Y) i=F at*;have t10':=t10;have t11':=t11;unfold xU at t10 t11;cases hXi:X[i]
  ·rw[hXi] at ih1;simp[t7,t10,t11,t71,t72,w,hX,hY,hlt,hlt',hwr,hXi,show i+1<=F.length by omega];refine ih1 _ _ (by omega) ?_ ?_ ?_ ?_ ?_ ?_;all_goals simp[t7,t10',t11',t71]
  ·rw[hXi] at ih1;simp[t7,t10,t11,t71,t72,w,hX,hY,hlt,hlt',hwr,hXi,show i+1<=F.length by omega];refine ih1 _ _ (by omega) ?_ ?_ ?_ ?_ ?_ ?_;all_goals simp[t7,t10',t11',t71]
theorem l22c (s:Sy) (hsh:zH s.f=true) (hn:s.m.length=n) (hn2:n < 2^31) (rc rc':List AV) (hR:RC rc) (h5:rc'.length=5) (hd5:rc'.map AV.dem1=rc) (φ:Va->Bool) (hcall:∀D u,u∈s.m->Go.Ab.Loc Pg Gl D 68 [encF s.f,encV u,.agg rc] [] (.bool (φ u)) []):∀(j i:Nat) (τ ω),i+j=n->τ 7= .own D 19 1 0 n 1 false->ω 19=(1,.cells ((qF (s.m.map φ) i).map AV.bool))->
  τ 3= .ptr D 3 1 0->ω 3=(1,.cells [.int .i64 s.f.k,.int .i64 s.f.n,.sl 3 (s.f.gs.map encF) .no,.sl 3 (s.m.map encV) .no])->τ 13= .ptr D 13 1 0->ω 13=(1,.cells rc')->
  τ 102= .sl 3 (s.m.map encV) .no->τ 103= .int .i64 n->τ 104= .int .i64 i->
  Rd (Loc Pg Gl) .im (RetM [.tmp 6] (xU (s.m.map φ)) D S []) (.lp c22_l2:: .blk 5:: .c zKY::K) (stF 119 D τ ω S):=by
 have hZ:(s.m.map φ).length=n:=by simp[hn]
 obtain ⟨hrc,hrd,hrs,hrv,hro⟩:=hR.facts;intro j
 induction j with
 | zero=>
  intro i τ ω hi t7 w t3 w3 t13 w13 t102 t103 t104;refine zM c22_l2.eq_1 ?_;obtain rfl:i=n:=by omega
  have hfr:∀τ,frz (stF 119 D τ ω S) frzD (.own D 19 1 0 i 1 false)=some (xU (s.m.map φ),[(D,19)]):=fun τ=>tS (by decide) hZ (by rw[w];congr 3;have:=jS (s.m.map φ);rw[hZ] at this;exact this);simp[t7,t103,t104,zKY,hfr,upds];rfl
 | succ j ih=>
  intro i τ ω hi t7 w t3 w3 t13 w13 t102 t103 t104;refine zM c22_l2.eq_1 ?_;have hlt:i < n:=by omega
  have hlm:i < s.m.length:=by omega
  have hlt':(i:Int) < s.m.length:=by omega
  have hwr:IntKind.i64.wrap ((i:Int)+1)=((i+1:Nat):Int):=by rw[<-zF (n:=i+1) (by omega)];rfl
  have hstep:=nU (R:=s.m.map φ) (i:=i) (by rw[hZ];exact hlt);have hl:=jR (s.m.map φ) i (by rw[hZ];omega);have ih1:=ih (i+1);rw[hZ] at hl;simp only[yOW] at hstep;rw[<-hstep] at ih1;generalize qF (s.m.map φ) i=F at*;have hc:=hcall (D+1) s.m[i] (yOL hlm);simp[t7,t3,w3,t13,w13,t102,t103,t104,w,hlt,hlm,zA s.f,zC s.m[i],mV h5,h5,hd5] at hc|-;refine zE hc (by simp[zA s.f,zC s.m[i],hrd,hrs]) ?_;simp[t7,w,hlt,t104,hwr,show i+1<=F.length by omega];refine ih1 _ _ (by omega) ?_ ?_ ?_ ?_ ?_ ?_ ?_ ?_ ?_;all_goals simp[t7,t3,w3,t13,w13,t102,t103]
end
end Go.Ab.Tab
/- The reference's evaluation: Set and prepare,all formulas. -/
namespace Go.Ab.Tab
open Go Go.Ab
theorem zOT (nx:List Va) (p:Va->Bool):y8 nx.length (qE p 0 nx)=nx.map p:=by
 apply yOP
 ·simp[y8]
 ·intro i h1 h2;have hi:i < nx.length:=by simpa using h2
  simp only[y8,yOW,List.getElem_range,uH];rw[Nat.sub_zero,y6 hi];simp[hi]
theorem zLL (nx:List Va):y8 nx.length (allT nx.length)=nx.map fun _=>true:=by
 apply yOP
 ·simp[y8]
 ·intro i h1 h2;have hi:i < nx.length:=by simpa using h2
  simp[y8,uA,hi]
theorem zOV (n X Y:Nat):y8 n (X &&& Y)=List.zipWith and (y8 n X) (y8 n Y):=by
 apply yOP
 ·simp[y8]
 ·intro i h1 h2;simp[y8]
theorem zOU (n X:Nat):y8 n (allT n ^^^ (allT n &&& X))=(y8 n X).map not:=by
 apply yOP
 ·simp[y8]
 ·intro i h1 h2;have hi:i < n:=by simpa[y8] using h1
  simp[y8,uA,hi]
theorem o8 (n X:Nat):(y8 n X).length=n:=by simp[y8]
def dN (s:Sy) (e:List Nat) (V:VA) (a:Fm):Prop:=∀D,V.dp D->Go.Ab.Loc Pg Gl D 22 [encY s,encM a,V.A] V.M (xU (y8 s.m.length (evS s.m e a))) []
def bP (s:Sy) (e:List Nat) (V:VA) (a:Fm):Prop:=∀D,V.dp D->Go.Ab.Loc Pg Gl D 67 [encY s,encM a,V.A] V.M (rdy s.m e a) []
theorem zEZ (bs:List Bool):okEl 1 false (bs.map AV.bool)=true:=by
 unfold okEl;rw[yPA];intro v hv;obtain ⟨b,_,rfl⟩:=List.mem_map.1 hv;rfl
theorem zFA (bs:List Bool):newC (bs.map AV.bool)=bs.map AV.bool:=by
 induction bs with
 | nil=>rfl
 | cons b bs ih=>simp only[newC,yOK,List.flatMap_cons,yOO] at ih|-;rw[ih];rfl
theorem yJO (s:Sy) (hn:s.m.length < 2^31) (V:VA) (n m:Int) (k:Nat) (hk:n=k) (bs:List Bool) (hV:V.B[k]?=some bs) (hbl:bs.length=s.m.length) (D:Nat) (hD:V.dp D):
  Go.Ab.Loc Pg Gl D 22 [encY s,encM (.mk 14 n m []),V.A] V.M (xU bs) []:=by
 subst hk;refine yD zI tok rfl rfl fun S hS=> ?_;have hn2:(s.m.length:Int)<=1099511627776:=by omega
 have hok:=zEZ bs;have hnc:=zFA bs;have hrow':List.replicate s.m.length (AV.bool false)=(List.replicate s.m.length false).map AV.bool:=by simp
 have htk:List.take s.m.length (bs.map AV.bool)=bs.map AV.bool:=yOJ (by simp[hbl]);have hfr:∀τ ω,frz (stF 119 D τ (upd ω 19 (1,.cells (bs.map AV.bool))) S) frzD (.own D 19 1 0 s.m.length 1 false)=some (.sl 1 (bs.map AV.bool) .no,[(D,19)]):=fun τ ω=>tS (by decide) hbl (by rw[xI,if_pos rfl]);cases V with
 | im L=>
  have hV':L[k]?=some bs:=hV;obtain ⟨hkl,hke⟩:=yOI.1 hV';have hkl':(k:Int) < L.length:=by omega
  unfold c22;simp[zL,encY,VA.A,hn2,hkl,hkl',hke,xU];simp[htk,hok,hnc,hbl,hfr,upds]
 | ow d o g R=>
  have hdD:d < D:=hD;have hne:¬d=D:=by omega
  have hO:=(hS _ (List.mem_cons_self ..)).2;simp only at hO;have hV':(R.map Rx.B)[k]?=some bs:=hV;rw[List.getElem?_map,Option.map_eq_some_iff] at hV';obtain ⟨x,hx,rfl⟩:=hV';obtain ⟨hkl,hke⟩:=yOI.1 hx;have hkl':(k:Int) < R.length:=by omega
  cases x with
  | im b=>
   unfold c22;simp[zL,encY,VA.A,hn2,hne,hO,hkl,hkl',hke,Rx.A,xU];simp only[Rx.B] at htk hok hnc hbl hfr;simp[htk,hok,hnc,hbl,hfr,upds,Rx.B]
  | ow x=>
   have hr:=(hS (rowM d x) (List.mem_cons_of_mem _ (List.mem_flatMap.2 ⟨.ow x,by rw[<-hke];exact yOL hkl,by simp[Rx.M]⟩))).2;simp only[rowM,rowE] at hr;simp only[Rx.B] at htk hok hnc hbl hfr;have hg:wT 1 false x.b.length (x.b.map AV.bool)=x.b.map AV.bool:=rH x.b;have hst:(x.b.map AV.bool).map AV.strip1=x.b.map AV.bool:=by rw[List.map_map];exact yOR fun _ _=>rfl
   have hcl:(x.b.map AV.bool).all (AV.clean 20)=true/\(x.b.map AV.bool).all AV.one=true:=by
    constructor<;>(rw[yPA];intro v hv;obtain ⟨b,_,rfl⟩:=List.mem_map.1 hv;rfl)
   have hel:∀τ ω,yM (stF 119 D τ ω S) 1 (.own d x.s x.g 0 x.b.length 1 false)=some (x.b.map AV.bool,[(d,x.s)]):=fun τ ω=>by
    simp only[yM,if_true,yP,if_neg hne,hr];rw[if_pos ⟨trivial,by simp,hcl.1,.inr trivial,hcl.2⟩,yOX,Nat.mul_one,yOJ (by simp),hst,hg]
   unfold c22;simp[zL,encY,VA.A,hn2,hne,hO,hkl,hkl',hke,Rx.A,rowA,hel];simp[htk,hok,hnc,hbl,hfr,upds,Rx.B];rfl
end Go.Ab.Tab
/- The reference's evaluation: Set and prepare. -/
namespace Go.Ab.Tab
open Go Go.Ab
theorem zIF (nx e a):stcL (rdyC nx e a)=rdyC nx e a/\∀D,∀x∈rdyC nx e a,AV.upto D 19 x=true:=by
 unfold rdyC;by_cases h:a.o=4
 ·simp only[if_pos h];refine ⟨rfl,fun D x hx=> ?_⟩;simp only[yOM,yOS,or_false] at hx;rcases hx with rfl | rfl | rfl | rfl | rfl<;>rfl
 ·simp only[if_neg h];refine ⟨rfl,fun D x hx=> ?_⟩;simp only[yOM,yOS,or_false] at hx;rcases hx with rfl | rfl | rfl | rfl | rfl<;>rfl
section
variable (s:Sy) (hsh:zH s.f=true) (hn:s.m.length < 2^31) (hnx:∀v∈s.m,valN s.m.length v s.f=true/\zG v<=2000) (e:List Nat) (V:VA)
include hn
theorem yLC (b:Fm) (n m:Int) (hb:dN s e V b):dN s e V (.mk 1 n m [b]):=by
 intro D hD;refine yD zI tok rfl rfl fun S hS=> ?_;have hn2:(s.m.length:Int)<=1099511627776:=by omega
 have hc:=hb (D+1) (VA.dp_succ hD);have hr:y8 s.m.length (evS s.m e (.mk 1 n m [b]))=(y8 s.m.length (evS s.m e b)).map not:=by
  rw[y7,if_neg (by omega),if_neg (by omega),if_pos rfl,yC,yOH,zOU]
 rw[hr];generalize hX:y8 s.m.length (evS s.m e b)=X at*;have hXl:X.length=s.m.length:=by rw[<-hX];exact o8 _ _
 generalize hres:xU (X.map not)=r;unfold c22;simp[zL,encY,hn2,zB b] at hc|-;refine zK hc (by simp) (memN hS) (by simp) ?_;simp[xU,hXl];rw[<-hres];refine l22a X hXl hn s.m.length 0 _ _ (by omega) ?_ ?_ ?_ ?_ ?_
 case refine_2=>simp[r8,hXl]
 all_goals simp[xU]
theorem yMX (b b':Fm) (n m:Int) (hb:dN s e V b) (hb':dN s e V b'):dN s e V (.mk 2 n m [b,b']):=by
 intro D hD;refine yD zI tok rfl rfl fun S hS=> ?_;have hn2:(s.m.length:Int)<=1099511627776:=by omega
 have hc:=hb (D+1) (VA.dp_succ hD);have hc':=hb' (D+1) (VA.dp_succ hD);have hr:y8 s.m.length (evS s.m e (.mk 2 n m [b,b']))=List.zipWith and (y8 s.m.length (evS s.m e b)) (y8 s.m.length (evS s.m e b')):=by
  rw[y7,if_neg (by omega),if_neg (by omega),if_neg (by omega),if_pos rfl,<-zOV];simp only[yC,yOH,yOY]
 rw[hr];generalize hX:y8 s.m.length (evS s.m e b)=X at*;generalize hY:y8 s.m.length (evS s.m e b')=Y at*;have hXl:X.length=s.m.length:=by rw[<-hX];exact o8 _ _
 have hYl:Y.length=s.m.length:=by rw[<-hY];exact o8 _ _
 generalize hres:xU (List.zipWith and X Y)=r;unfold c22;simp[zL,encY,hn2,zB b,zB b'] at hc hc'|-;refine zK hc (by simp) (memN hS) (by simp) ?_;simp[zB b'];refine zK hc' (by simp) (memN hS) (by simp) ?_;simp[xU];rw[<-hres];refine l22b X Y hXl hYl hn s.m.length 0 _ _ (by omega) ?_ ?_ ?_ ?_ ?_ ?_
 case refine_2=>simp[r8,hXl,hYl]
 all_goals simp[xU]
include hsh hnx
theorem yKA (n m:Int):dN s e V (.mk 0 n m []):=by
 intro D hD;refine yD zI tok rfl rfl fun S hS=> ?_;have hn2:(s.m.length:Int)<=1099511627776:=by omega
 have hr:y8 s.m.length (evS s.m e (.mk 0 n m []))=s.m.map (prB s.m e (.mk 0 0 0 [])):=by
  rw[y7,if_pos rfl,zLL,y5,if_pos rfl]
 rw[hr];unfold c22;simp[zL,encY,hn2,zKX,zLB];refine l22c s hsh rfl hn (rdyC s.m e (.mk 0 0 0 [])) [.int .i64 0,.int .i64 0,.int .i64 0,.sl 5 [] .tip,.sl 1 [] .tip] (rC _ _ _) rfl ?_ (prB s.m e (.mk 0 0 0 [])) (fun D u hu=>dU (f:=s.f) (vars:=0) (.mk 0 0 0 []) s.f false hsh (by rw[y4];rfl) D u (hnx u hu).1 (hnx u hu).2) s.m.length 0 _ _ (by omega) ?_ ?_ ?_ ?_ ?_ ?_ ?_ ?_ ?_
 case refine_1=>rw[nJ (by omega)];rfl
 case refine_3=>simp[r8]
 all_goals simp
theorem yBG {vars:Int} (b:Fm) (n m:Int) {odd:Bool} (hv:valM s.f vars (some s.f) odd b=true) (hb:bP s e V b):dN s e V (.mk 3 n m [b]):=by
 intro D hD;refine yD zI tok rfl rfl fun S hS=> ?_;have hn2:(s.m.length:Int)<=1099511627776:=by omega
 have hc:=hb (D+1) (VA.dp_succ hD);rw[fQ] at hc;have hr:y8 s.m.length (evS s.m e (.mk 3 n m [b]))=s.m.map (prB s.m e b):=by
  rw[y7,if_neg (by omega),if_neg (by omega),if_neg (by omega),if_neg (by omega),yB,yOH,zOT]
 rw[hr];have hT:=dU (nx:=s.m) (e:=e) b s.f odd hsh hv;have hR:=rC s.m e b;obtain ⟨hrc,hrd,hrs,hrv,hro⟩:=hR.facts;obtain ⟨hst,hup⟩:=zIF s.m e b;have hone:∀x∈rdyC s.m e b,x.one=true:=fun x hx=>(hR.2 x hx).1;unfold zVZ at hT;generalize rdyC s.m e b=rc at*;generalize prB s.m e b=φ at*;generalize hres:xU (s.m.map φ)=r;unfold c22;simp[zL,encY,hn2,zB b] at hc|-;simp[zKX];refine zK hc (by simp) (memN hS) (by simp) ?_;simp[zLB,hrc,hrd];rw[if_pos ⟨hup D,hone⟩];have hd5:List.drop (stcL rc).length [AV.int IntKind.i64 0,AV.int IntKind.i64 0,AV.int IntKind.i64 0,AV.sl 5 [] Tip.tip,AV.sl 1 [] Tip.tip]= []:=by rw[hst,hrc];rfl
 rw[hd5,hst,List.append_nil];simp;rw[<-hres];refine l22c s hsh rfl hn rc rc hR hrc hrd φ (fun D u hu=>hT D u (hnx u hu).1 (hnx u hu).2) s.m.length 0 _ _ (by omega) ?_ ?_ ?_ ?_ ?_ ?_ ?_ ?_ ?_
 case refine_2=>simp[r8]
 all_goals simp
end
end Go.Ab.Tab
/- The reference's evaluation: prepare; all formulas. -/
namespace Go.Ab.Tab
open Go Go.Ab
theorem zNG (nx e a) (σ:St):frz σ frzD (.agg (rdyC nx e a))=some (.agg (rdyC nx e a),[]):=by
 unfold rdyC;by_cases h:a.o=4
 ·simp only[if_pos h];rfl
 ·simp only[if_neg h];rfl
section
variable (s:Sy) (e:List Nat) (V:VA)
theorem zSP (b:Fm) (n m:Int) (hb:dN s e V b):bP s e V (.mk 4 n m [b]):=by
 intro D hD;refine yD zI tok rfl rfl fun S hS=> ?_;have hc:=hb (D+1) (VA.dp_succ hD);have hr:rdy s.m e (.mk 4 n m [b])= .agg [.int .i64 4,.int .i64 n,.int .i64 m,.sl 5 [] .no,xU (y8 s.m.length (evS s.m e b))]:=by
  rw[rdy,if_pos rfl,yC,yOH]
 rw[hr];generalize y8 s.m.length (evS s.m e b)=X at*;unfold c67;simp[zL,encY,zB b] at hc|-;refine zK hc (by simp) (memN hS) (by simp) ?_;simp[xU,upds]
theorem l67 (o n m:Int) (ar:List Fm) (hlen:ar.length<=2^30) (hrec:∀a∈ar,bP s e V a) {D:Nat} (hD:V.dp D) (S:Nat->Nat->Ent) (hS:∀m∈V.M,m.1 < D/\S m.1 m.2.1=m.2.2):∀(j k:Nat) (acc:List AV) (tp:Tip) (τ ω),k+j=ar.length->(tp= .tip\/tp= .nil)->acc=(ar.take k).map (rdy s.m e)->
  τ 2=V.A->τ 3= .ptr D 3 1 0->τ 6= .ptr D 6 1 0->τ 7= .ptr D 7 1 0->τ 30= .sl 4 (ar.map encM) .no->τ 31= .int .i64 ar.length->τ 32= .int .i64 k->
  ω 3=(1,.cells [.int .i64 s.f.k,.int .i64 s.f.n,.sl 3 (s.f.gs.map encF) .no,.sl 3 (s.m.map encV) .no])->ω 6=(1,.cells [.int .i64 0,.int .i64 0,.int .i64 0,.sl 5 [] .tip,.sl 1 [] .tip])->ω 7=(1,.cells [.int .i64 o,.int .i64 n,.int .i64 m,.sl 5 acc tp,.sl 1 [] .tip])->
  Rd (Loc Pg Gl) .im (RetM [.cell 6 true 5] (.agg [.int .i64 o,.int .i64 n,.int .i64 m,.sl 5 (ar.map (rdy s.m e)) .no,.sl 1 [] .no]) D S []) [.lp c67_l0,.blk 0,.c zKQ] (stF 47 D τ ω S):=by
 intro j
 induction j with
 | zero=>
  intro k acc tp τ ω hk htp hacc t2 t3 t6 t7 t30 t31 t32 w3 w6 w7;refine zM c67_l0.eq_1 ?_;obtain rfl:k=ar.length:=by omega
  rw[yOJ (Nat.le_refl _)] at hacc;subst hacc;rcases htp with rfl | rfl<;>simp[t6,t7,t30,t31,t32,w6,w7,zKQ,upds]
 | succ j ih=>
  intro k acc tp τ ω hk htp hacc t2 t3 t6 t7 t30 t31 t32 w3 w6 w7;refine zM c67_l0.eq_1 ?_;have hlt:k < ar.length:=by omega
  have hwr:=z8 hlt (by unfold maxLen;omega);have hal:acc.length=k:=by rw[hacc];simp;omega
  have hle:(k+1)*72<=1099511627776:=by omega
  have hc:=hrec ar[k] (yOL hlt) (D+1) (VA.dp_succ hD);rw[fQ] at hc;have hnx:=ih (k+1) (acc++[rdy s.m e ar[k]]) .tip;have hacc':acc++[rdy s.m e ar[k]]=(ar.take (k+1)).map (rdy s.m e):=by rw[hacc,yOZ hlt,yOO];rfl
  have hR:=rC s.m e ar[k];obtain ⟨hrc,hrd,hrs,hrv,hro⟩:=hR.facts;have hone:∀x∈rdyC s.m e ar[k],x.one=true:=fun x hx=>(hR.2 x hx).1;obtain ⟨hst,hup⟩:=zIF s.m e ar[k];have hfz:=zNG s.m e ar[k];rw[fQ] at hnx hacc';generalize rdyC s.m e ar[k]=rc at*;have htp':(tp= .nil\/tp= .tip)=True:=by simp;exact htp.symm
  simp[t2,t3,t6,t7,t30,t31,t32,w3,w6,w7,hlt,hwr,zB ar[k],encY] at hc|-;refine zK hc (by simp[t2]) (memN hS) (by simp) ?_;simp[t2,t3,t6,t7,w3,w6,w7,htp,htp',hal,hle,t32,hwr,hrc,hrd,hone,hfz,hrs];rw[if_pos hone];simp[t2,t3,t6,t7,w3,w6,w7,htp,htp',hal,hle,t32,hwr,hrc,hrd];refine ⟨fun a a1 a2 b hm=> .inl fun h=>by have:=(hS _ hm).1;simp only at this;omega,?_⟩;refine hnx _ _ (by omega) (.inl rfl) hacc' ?_ ?_ ?_ ?_ ?_ ?_ ?_ ?_ ?_ ?_;all_goals simp[t2,t3,t6,t7,t30,t31,w3,w6,encY]
theorem cI (o n m:Int) (ho:o≠4) (ar:List Fm) (hlen:ar.length<=2^30) (hrec:∀a∈ar,bP s e V a):bP s e V (.mk o n m ar):=by
 intro D hD;refine yD zI tok rfl rfl fun S hS=> ?_;have hr:rdy s.m e (.mk o n m ar)= .agg [.int .i64 o,.int .i64 n,.int .i64 m,.sl 5 (ar.map (rdy s.m e)) .no,.sl 1 [] .no]:=by
  rw[rdy,if_neg ho,fP]
 rw[hr];have hd:decide (o=4)=false:=decide_eq_false ho;unfold c67;simp[zL,encY,hd];refine l67 s e V o n m ar hlen hrec hD S hS ar.length 0 [] .tip _ _ (by omega) (.inl rfl) rfl ?_ ?_ ?_ ?_ ?_ ?_ ?_ ?_ ?_ ?_;all_goals simp
end
theorem zTY (s:Sy) (hsh:zH s.f=true) (hn:s.m.length < 2^31) (hnx:∀v∈s.m,valN s.m.length v s.f=true/\zG v<=2000) (e:List Nat) (V:VA) {vars:Nat} (hE:∀i:Nat,i < vars->V.B[i]?=some (y8 s.m.length (e.getD i 0))):∀a:Fm,zO a<=2^30->
  (∀odd,valM s.f vars none odd a=true->dN s e V a)/\(∀g odd,valM s.f vars (some g) odd a=true->bP s e V a):=by
 refine Fm.ind' fun o n m ar ih hsz=> ?_;rw[zO] at hsz;have hlen:ar.length<=2^30:=by have:=vI ar;omega
 have hsub:∀b∈ar,zO b<=2^30:=fun b hb=>by have:=tO hb;omega
 have one:∀{md odd},ar.length=1->xD s.f vars md odd ar=true->∃b,ar= [b]/\valM s.f vars md odd b=true:=by
  intro md odd hl h;rcases ar with _ | ⟨b,_ | ⟨c,l⟩⟩<;>simp at hl
  simp only[xD,yON] at h;exact ⟨b,rfl,h⟩
 have two:∀{md odd},ar.length=2->xD s.f vars md odd ar=true->∃b b',ar= [b,b']/\valM s.f vars md odd b=true/\valM s.f vars md odd b'=true:=by
  intro md odd hl h;rcases ar with _ | ⟨b,_ | ⟨c,_ | ⟨x,l⟩⟩⟩<;>simp at hl
  simp only[xD,yON,yOG] at h;exact ⟨b,c,rfl,h⟩
 have mem67:∀g odd,xD s.f vars (some g) odd ar=true->∀b∈ar,bP s e V b:=by
  intro g odd h;have:∀l:List Fm,(∀b∈l,b∈ar)->xD s.f vars (some g) odd l=true->∀b∈l,bP s e V b:=by
   intro l
   induction l with
   | nil=>intro _ _ b hb;cases hb
   | cons c l ihl=>
    intro hm h b hb;rw[xD,yOG] at h;rcases yOM.1 hb with rfl | hb
    ·exact (ih b (hm b (by simp)) (hsub b (hm b (by simp)))).2 g odd h.1
    ·exact ihl (fun x hx=>hm x (by simp[hx])) h.2 b hb
  exact this ar (fun _ h=>h) h
 constructor
 ·intro odd h;by_cases o0:o=0
  ·subst o0;rw[y4,if_pos rfl] at h;simp only[yOG] at h;have:ar= []:=by simpa using h.1.1
   subst this;exact yKA s hsh hn hnx e V n m
  by_cases o1:o=1
  ·subst o1;rw[y4,if_neg o0,if_pos rfl] at h;simp only[yOG,decide_eq_true_eq] at h;obtain ⟨b,rfl,hb⟩:=one h.1.2 h.2;exact yLC s hn e V b n m ((ih b (by simp) (hsub b (by simp))).1 _ hb)
  by_cases o2:o=2
  ·subst o2;rw[y4,if_neg o0,if_neg o1,if_pos rfl] at h;simp only[yOG,decide_eq_true_eq] at h;obtain ⟨b,b',rfl,hb,hb'⟩:=two h.1.2 h.2;exact yMX s hn e V b b' n m ((ih b (by simp) (hsub b (by simp))).1 _ hb) ((ih b' (by simp) (hsub b' (by simp))).1 _ hb')
  have hcm:comM o=false:=by simp[comM,o0,o1,o2]
  rw[wM _ _ _ _ _ _ _ _ hcm] at h;simp only at h;by_cases o3:o=3
  ·subst o3;rw[if_pos rfl] at h;simp only[yOG,decide_eq_true_eq] at h;obtain ⟨b,rfl,hb⟩:=one h.1.2 h.2;exact yBG s hsh hn hnx e V b n m hb ((ih b (by simp) (hsub b (by simp))).2 _ _ hb)
  ·rw[if_neg o3] at h;by_cases o14:o=14
   ·subst o14;rw[if_pos rfl] at h;simp only[yOG,decide_eq_true_eq] at h;have har:ar= []:=by simpa using h.1.1.1.1
    subst har;have hV:=hE n.toNat (by omega);intro D hD;have:=yJO s hn V n m n.toNat (by omega) _ hV (o8 _ _) D hD;rw[y7,if_neg (by omega),if_pos rfl];exact this
   ·rw[if_neg o14] at h;cases h
 ·intro g odd h;by_cases o0:o=0
  ·subst o0;rw[y4,if_pos rfl] at h;simp only[yOG] at h;have:ar= []:=by simpa using h.1.1
   subst this;exact cI s e V 0 n m (by omega) [] (by simp) (by simp)
  by_cases o1:o=1
  ·subst o1;rw[y4,if_neg o0,if_pos rfl] at h;simp only[yOG] at h;exact cI s e V 1 n m (by omega) ar hlen (mem67 _ _ h.2)
  by_cases o2:o=2
  ·subst o2;rw[y4,if_neg o0,if_neg o1,if_pos rfl] at h;simp only[yOG] at h;exact cI s e V 2 n m (by omega) ar hlen (mem67 _ _ h.2)
  have hcm:comM o=false:=by simp[comM,o0,o1,o2]
  rw[sX _ _ _ _ _ _ _ _ hcm] at h;by_cases o4:o=4
  ·subst o4;rw[if_pos rfl] at h;simp only[yOG,decide_eq_true_eq] at h;obtain ⟨b,rfl,hb⟩:=one h.1.2.1 h.2;exact zSP s e V b n m ((ih b (by simp) (hsub b (by simp))).1 _ hb)
  ·rw[if_neg o4] at h;by_cases o5:o=5
   ·subst o5;rw[if_pos rfl] at h;simp only[yOG] at h;have:ar= []:=by simpa using h.1.2
    subst this;exact cI s e V 5 n m (by omega) [] (by simp) (by simp)
   ·rw[if_neg o5] at h;simp only[yOG] at h;exact cI s e V o n m o4 ar hlen (mem67 _ _ h.2)
end Go.Ab.Tab
