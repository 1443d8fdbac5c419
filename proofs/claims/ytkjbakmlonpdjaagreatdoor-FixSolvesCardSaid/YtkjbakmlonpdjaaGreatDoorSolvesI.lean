/- The reference's evaluation: truth of prepared value formulas, weight. -/
import Derived.Test.YtkjbakmlonpdjaaGreatDoorSolvesG
import Derived.Test.YtkjbakmlonpdjaaGreatDoorSolvesH
set_option linter.unusedVariables false
set_option linter.unusedSimpArgs false
set_option maxRecDepth 10000
namespace Go.Ab.Tab
open Go Go.Ab
mutual
def rdy (nx:List Va) (e:List Nat):Fm->AV
 | .mk o n m ar=>if o=4 then .agg [.int .i64 o,.int .i64 n,.int .i64 m,.sl 5 [] .no,zV (zY nx.length ((evSs nx e ar).getD 0 0))]
  else .agg [.int .i64 o,.int .i64 n,.int .i64 m,.sl 5 (rdys nx e ar) .no,.sl 1 [] .no]
def rdys (nx:List Va) (e:List Nat):List Fm->List AV
 | []=>[]
 | a::l=>rdy nx e a::rdys nx e l
end
theorem rdys_map (nx e):∀l,rdys nx e l=l.map (rdy nx e)
 | []=>by rw[rdys];rfl
 | a::l=>by rw[rdys,rdys_map nx e l];rfl
def rdyC (nx:List Va) (e:List Nat) (a:Fm):List AV:=[.int .i64 a.o,.int .i64 a.n,.int .i64 a.m,.sl 5 (if a.o=4 then [] else a.ar.map (rdy nx e)) .no,if a.o=4 then zV (zY nx.length ((evSs nx e a.ar).getD 0 0)) else .sl 1 [] .no]
theorem rdy_eta (nx e) (a:Fm):rdy nx e a= .agg (rdyC nx e a):=by
 cases a with
 | mk o n m ar=>
  rw[rdy]
  unfold rdyC
  simp only[Fm.o,Fm.n,Fm.m,Fm.ar,rdys_map]
  by_cases ho:o=4<;>simp[ho]
def wls (k:Int) (v:Va):List Int:=if wtd k then v.ws else List.replicate v.gs.length 1
theorem wOk_ones:∀(n:Nat) (s:Int),s+n<=1048576->wOk s (List.replicate n 1)=true
 | 0,_,_=>rfl
 | n+1,s,h=>by
  rw[List.replicate_succ,wOk]
  simp only[Bool.and_eq_true,decide_eq_true_eq]
  exact ⟨by omega,by omega,wOk_ones n (s+1) (by omega)⟩
def RC (rc:List AV):Prop:=rc.length=5/\∀x∈rc,x.one=true/\x.dem1=x/\x.var1=x/\x.strip1=x
theorem RC.facts {rc:List AV} (h:RC rc):rc.length=5/\rc.map AV.dem1=rc/\rc.map AV.strip1=rc/\rc.map (AV.var1∘AV.dem1)=rc/\∀x∈rc,x.dem1.one=true:=by
 have key:∀f:AV->AV,(∀x∈rc,f x=x)->rc.map f=rc:=fun f hf=>(List.map_congr_left hf).trans (List.map_id' rc)
 refine ⟨h.1,key _ fun x hx=>(h.2 x hx).2.1,key _ fun x hx=>(h.2 x hx).2.2.2,key _ fun x hx=> ?_,fun x hx=> ?_⟩
 ·show x.dem1.var1=x
  rw[(h.2 x hx).2.1,(h.2 x hx).2.2.1]
 ·rw[(h.2 x hx).2.1];exact (h.2 x hx).1
theorem rdyC_RC (nx e a):RC (rdyC nx e a):=by
 refine ⟨rfl,fun x hx=> ?_⟩
 simp only[rdyC,List.mem_cons,List.not_mem_nil,or_false] at hx
 rcases hx with rfl | rfl | rfl | rfl | rfl
 case inr.inr.inr.inr=>split<;>exact ⟨rfl,rfl,rfl,rfl⟩
 all_goals exact ⟨rfl,rfl,rfl,rfl⟩
theorem l117 (D N:Nat) (g h:Fu) (hgs:g.gs[0]?=some h) (rc:List AV) (hR:RC rc) (φ:Va->Bool) (hcall:∀u,valN N u h=true->zG u<=2000->Go.Ab.Loc Pg Gl (D+1) 68 [encF h,encV u,.agg rc] [] (.bool (φ u)) [])
  (v:Va) (hv:∀a∈v.gs,valN N a h=true) (hnod:zG v<=2000) (hwl:wtd g.k=true->v.ws.length=v.gs.length) (S):
  ∀(j i:Nat) (sum all:Int) (τ ω) (r:AV),i+j=v.gs.length->0<=sum->sum<=all->all<=1048576->wOk all ((wls g.k v).drop i)=true->
  τ 3= .ptr D 3 1 0->ω 3=(1,.cells [.int .i64 g.k,.int .i64 g.n,.sl 3 (g.gs.map encF) .no])->τ 4= .ptr D 4 1 0->ω 4=(1,.cells [.int .i64 v.n,.sl 3 (v.gs.map encV) .no,.sl 1 (v.ws.map (AV.int .i64)) .no])->τ 5= .ptr D 5 1 0->ω 5=(1,.cells rc)->
  τ 6= .int .i64 sum->τ 7= .int .i64 all->τ 12= .sl 3 (v.gs.map encV) .no->τ 13= .int .i64 v.gs.length->τ 14= .int .i64 i->
  r= .tup [.int .i64 (sum+wSum φ (v.gs.drop i) ((wls g.k v).drop i)),.int .i64 (all+wSum (fun _=>true) (v.gs.drop i) ((wls g.k v).drop i))]->
  Rd (Loc Pg Gl) .im (RetQ [.tmp 6,.tmp 7] r S) [.lp c117_l0,.blk 0,.c c117_k0] (stF 43 D τ ω S):=by
 obtain ⟨hrc,hrd,hrs,hrv,hro⟩:=hR.facts
 have hgl:v.gs.length<=2000:=by have:=nodesV_sub v;have:=nodesVs_le_len v.gs;omega
 have hwll:(wls g.k v).length=v.gs.length:=by
  unfold wls
  cases hw:wtd g.k
  ·simp
  ·simpa using hwl hw
 have hg0:0 < g.gs.length:=(List.getElem?_eq_some_iff.1 hgs).1
 have hg1:g.gs[0]=h:=(List.getElem?_eq_some_iff.1 hgs).2
 intro j
 induction j with
 | zero=>
  intro i sum all τ ω r hi h0 h1 h2 hwk t3 w3 t4 w4 t5 w5 t6 t7 t12 t13 t14 hr
  refine zK c117_l0.eq_1 ?_
  obtain rfl:i=v.gs.length:=by omega
  rw[List.drop_length] at hr
  simp[wSum] at hr
  simp[t6,t7,t12,t13,t14,c117_k0,hr]
 | succ j ih=>
  intro i sum all τ ω r hi h0 h1 h2 hwk t3 w3 t4 w4 t5 w5 t6 t7 t12 t13 t14 hr
  refine zK c117_l0.eq_1 ?_
  have hlt:i < v.gs.length:=by omega
  have hwr:IntKind.i64.wrap ((i:Int)+1)=((i+1:Nat):Int):=by rw[<-zE (n:=i+1) (by omega)];rfl
  have hm:=List.getElem_mem hlt
  have hnv:zG v.gs[i]<=2000:=by have:=nodesVs_get hlt;have:=nodesV_sub v;omega
  have hlw:i < (wls g.k v).length:=by omega
  rw[List.drop_eq_getElem_cons hlw,wOk] at hwk
  simp only[Bool.and_eq_true,decide_eq_true_eq] at hwk
  rw[List.drop_eq_getElem_cons hlt,List.drop_eq_getElem_cons hlw,wSum,wSum] at hr
  have e1:IntKind.i64.wrap (all+(wls g.k v)[i])=all+(wls g.k v)[i]:=i64_id (by omega) (by omega)
  have e2:IntKind.i64.wrap (sum+(wls g.k v)[i])=sum+(wls g.k v)[i]:=i64_id (by omega) (by omega)
  have hc:=hcall v.gs[i] (hv _ hm) hnv
  have hpart:part true 5 rc 0=some (.agg rc):=by
   unfold part;rw[if_pos (by omega),if_pos rfl,List.drop_zero,List.take_of_length_le (by omega)]
  have tail:∀τ1 ω1,τ1 3=τ 3->τ1 4=τ 4->τ1 5=τ 5->τ1 6=τ 6->τ1 7=τ 7->τ1 12=τ 12->τ1 13=τ 13->τ1 14=τ 14->τ1 10= .int .i64 (wls g.k v)[i]->τ1 9= .ptr D 9 ((ω 9).1+1) 0->ω1 3=ω 3->ω1 4=ω 4->ω1 5=ω 5->ω1 9=((ω 9).1+1,.cells [.int .i64 v.gs[i].n,.sl 3 (v.gs[i].gs.map encV) .no,.sl 1 (v.gs[i].ws.map (AV.int .i64)) .no])->
    Rd (Loc Pg Gl) .im (RetQ [.tmp 6,.tmp 7] r S) [.c c117_j0,.blk 1,.c (.region [⟨some 40,.bin .add .other (.t 14) (.c (.int .i64 1)),none⟩,⟨some 14,.mov false (.t 40),none⟩] none),.lp c117_l0,.blk 0,.c c117_k0] (stF 43 D τ1 ω1 S):=by
   intro τ1 ω1 a3 a4 a5 a6 a7 a12 a13 a14 a10 a9 b3 b4 b5 b9
   unfold c117_j0
   simp[a3,a4,a5,a6,a7,a12,a13,a14,a10,a9,b3,b4,b5,b9,t3,t4,t5,t6,t7,t12,t13,t14,w3,w4,w5,hg0,hg1,zA h,hpart,hrd,e1]
   refine zU hc (by simp[zA h,zC v.gs[i],hrd,hrs]) ?_
   cases hphi:φ v.gs[i] with
   | false=>
    rw[hphi] at hr
    simp[a14,t14,hwr]
    refine ih (i+1) sum (all+(wls g.k v)[i]) _ _ r (by omega) h0 (by omega) (by omega) hwk.2.2 ?_ ?_ ?_ ?_ ?_ ?_ ?_ ?_ ?_ ?_ ?_ (by rw[hr];simp[Int.add_assoc])
    all_goals simp[a3,a4,a5,a6,a12,a13,t3,t4,t5,t6,t12,t13,b3,b4,b5,w3,w4,w5]
   | true=>
    rw[hphi] at hr
    simp[a14,t14,hwr,a6,t6,a10,e2]
    refine ih (i+1) (sum+(wls g.k v)[i]) (all+(wls g.k v)[i]) _ _ r (by omega) (by omega) (by omega) (by omega) hwk.2.2 ?_ ?_ ?_ ?_ ?_ ?_ ?_ ?_ ?_ ?_ ?_ (by rw[hr];simp[Int.add_assoc])
    all_goals simp[a3,a4,a5,a12,a13,t3,t4,t5,t12,t13,b3,b4,b5,w3,w4,w5]
  simp[t3,w3,t12,t13,t14,hlt,zC v.gs[i]]
  refine zD (spec144 (D+1) g.k) (by simp) ?_
  cases hw:wtd g.k with
  | false=>
   have he:(wls g.k v)[i]=1:=by simp[wls,hw]
   simp
   refine tail _ _ ?_ ?_ ?_ ?_ ?_ ?_ ?_ ?_ ?_ ?_ ?_ ?_ ?_ ?_
   all_goals simp[he]
  | true=>
   have he:∀hl:i < v.ws.length,(wls g.k v)[i]=v.ws[i]:=fun hl=>by simp[wls,hw]
   have hl:i < v.ws.length:=by rw[hwl hw];exact hlt
   simp[t4,w4,hl]
   refine tail _ _ ?_ ?_ ?_ ?_ ?_ ?_ ?_ ?_ ?_ ?_ ?_ ?_ ?_ ?_
   all_goals simp[he hl]
theorem spec117 (D N:Nat) (g h:Fu) (hgs:g.gs[0]?=some h) (rc:List AV) (hR:RC rc) (φ:Va->Bool) (hcall:∀D u,valN N u h=true->zG u<=2000->Go.Ab.Loc Pg Gl D 68 [encF h,encV u,.agg rc] [] (.bool (φ u)) [])
  (v:Va) (hv:∀a∈v.gs,valN N a h=true) (hnod:zG v<=2000) (hwl:wtd g.k=true->v.ws.length=v.gs.length) (hwk:wOk 0 (wls g.k v)=true):
  Go.Ab.Loc Pg Gl D 117 [encF g,encV v,.agg rc] [] (.tup [.int .i64 (wSum φ v.gs (wls g.k v)),.int .i64 (wSum (fun _=>true) v.gs (wls g.k v))]) []:=by
 refine zS zF tok rfl rfl fun S=> ?_
 generalize hr:AV.tup [.int .i64 (wSum φ v.gs (wls g.k v)),.int .i64 (wSum (fun _=>true) v.gs (wls g.k v))]=r
 obtain ⟨hrc,hrd,hrs,hrv,hro⟩:=hR.facts
 unfold c117
 simp[zA g,zC v,hrc]
 refine ⟨hro,?_⟩
 rw[hrv]
 refine l117 D N g h hgs rc hR φ (fun u=>hcall (D+1) u) v hv hnod hwl S v.gs.length 0 0 0 _ _ r (by omega) (by omega) (by omega) (by omega) hwk ?_ ?_ ?_ ?_ ?_ ?_ ?_ ?_ ?_ ?_ ?_ (by rw[<-hr];simp)
 all_goals simp[hrv]
end Go.Ab.Tab
/- The reference's evaluation: truth. -/
namespace Go.Ab.Tab
open Go Go.Ab
def Sub68 (nx:List Va) (e:List Nat) (g:Fu) (b:Fm):Prop:=∀D v,valN nx.length v g=true->zG v<=2000->Go.Ab.Loc Pg Gl D 68 [encF g,encV v,.agg (rdyC nx e b)] [] (.bool (prB nx e b v)) []
theorem take5 {rc:List AV} (h:rc.length=5):rc.take 5=rc:=List.take_of_length_le (by omega)
theorem wSum_ones (p:Va->Bool):∀l:List Va,0<=wSum p l (List.replicate l.length 1)/\(0 < wSum p l (List.replicate l.length 1)↔l.any p=true)
 | []=>by simp[wSum]
 | v::l=>by
  obtain ⟨h1,h2⟩:=wSum_ones p l
  rw[List.length_cons,List.replicate_succ,wSum,List.any_cons]
  cases hp:p v
  ·simp only[Bool.false_eq_true,if_false,Bool.false_or]
   rw[Int.zero_add];exact ⟨h1,h2⟩
  ·simp;omega
theorem wSum_le (p:Va->Bool):∀(l:List Va) (ws:List Int) (s:Int),wOk s ws=true->0<=wSum p l ws/\s+wSum p l ws<=max s 1048576
 | [],ws,s,_=>by simp[wSum];omega
 | _::_,[],s,_=>by simp[wSum];omega
 | v::l,w::ws,s,h=>by
  rw[wOk] at h
  simp only[Bool.and_eq_true,decide_eq_true_eq] at h
  obtain ⟨h1,h2⟩:=wSum_le p l ws (s+w) h.2.2
  rw[wSum]
  split<;>omega
theorem rdyC_mk {nx e} {o n m:Int} {ar:List Fm} (ho:o≠4):rdyC nx e (.mk o n m ar)= [.int .i64 o,.int .i64 n,.int .i64 m,.sl 5 (ar.map fun b=> .agg (rdyC nx e b)) .no,.sl 1 [] .no]:=by
 have h:ar.map (rdy nx e)=ar.map fun b=> .agg (rdyC nx e b):=List.map_congr_left fun b _=>rdy_eta nx e b
 show [AV.int .i64 o,.int .i64 n,.int .i64 m,.sl 5 (if o=4 then [] else ar.map (rdy nx e)) .no,if o=4 then zV (zY nx.length ((evSs nx e ar).getD 0 0)) else .sl 1 [] .no]=_
 rw[if_neg ho,if_neg ho,h]
theorem truth_all {f:Fu} {nx:List Va} {e:List Nat} {vars:Int}:∀a:Fm,∀g odd,zI g=true->valM f vars (some g) odd a=true->Sub68 nx e g a:=by
 refine Fm.ind' fun o n m ar ih=> ?_
 have one:∀{md odd},ar.length=1->y5 f vars md odd ar=true->∃b,ar= [b]/\valM f vars md odd b=true:=by
  intro md odd hl h
  rcases ar with _ | ⟨b,_ | ⟨c,l⟩⟩<;>simp at hl
  simp only[y5,Bool.and_true] at h
  exact ⟨b,rfl,h⟩
 have two:∀{md odd},ar.length=2->y5 f vars md odd ar=true->∃b b',ar= [b,b']/\valM f vars md odd b=true/\valM f vars md odd b'=true:=by
  intro md odd hl h
  rcases ar with _ | ⟨b,_ | ⟨c,_ | ⟨x,l⟩⟩⟩<;>simp at hl
  simp only[y5,Bool.and_true,Bool.and_eq_true] at h
  exact ⟨b,c,rfl,h⟩
 intro g odd hg h D v hv hnod
 have hany:=valN_any hg hv
 refine zS zF tok rfl rfl fun S=> ?_
 unfold c68
 by_cases o0:o=0
 ·subst o0
  rw[prB_mk,if_pos rfl,rdyC_mk (by omega)]
  simp[zA g,zC v]
 by_cases o1:o=1
 ·subst o1
  rw[yW,if_neg o0,if_pos rfl] at h
  simp only[Bool.and_eq_true,decide_eq_true_eq] at h
  obtain ⟨b,rfl,hb⟩:=one h.1.2 h.2
  have hc:=ih b (by simp) g _ hg hb (D+1) v hv hnod
  obtain ⟨hrc,hrd,hrs,hrv,hro⟩:=(rdyC_RC nx e b).facts
  rw[prB_mk,if_neg o0,if_neg (by omega),if_neg (by omega),if_neg (by omega),yU,List.getD_cons_zero,rdyC_mk (by omega)]
  simp only[List.map_cons,List.map_nil]
  generalize rdyC nx e b=rc at*
  simp[zA g,zC v] at hc|-
  simp[take5 hrc,hrc,hrd]
  refine zU hc (by simp[hrd,hrs]) ?_
  simp[oneB]
 by_cases o2:o=2
 ·subst o2
  rw[yW,if_neg o0,if_neg o1,if_pos rfl] at h
  simp only[Bool.and_eq_true,decide_eq_true_eq] at h
  obtain ⟨b,b',rfl,hb,hb'⟩:=two h.1.2 h.2
  have hc:=ih b (by simp) g _ hg hb (D+1) v hv hnod
  have hc':=ih b' (by simp) g _ hg hb' (D+1) v hv hnod
  obtain ⟨hrc,hrd,hrs,hrv,hro⟩:=(rdyC_RC nx e b).facts
  obtain ⟨hrc',hrd',hrs',hrv',hro'⟩:=(rdyC_RC nx e b').facts
  rw[prB_mk,if_neg o0,if_neg (by omega),if_neg (by omega),if_pos rfl]
  simp only[yU,List.getD_cons_zero,List.getD_cons_succ]
  rw[rdyC_mk (by omega)]
  simp only[List.map_cons,List.map_nil]
  generalize rdyC nx e b=rc at*
  generalize rdyC nx e b'=rc' at*
  simp[zA g,zC v] at hc hc'|-
  simp[take5 hrc,hrc,hrd]
  refine zU hc (by simp[hrd,hrs]) ?_
  cases hp:prB nx e b v
  ·simp
  ·simp[take5 hrc',hrc',hrd']
   refine zU hc' (by simp[hrd',hrs']) ?_
   simp
 have hcm:comM o=false:=by simp[comM,o0,o1,o2]
 rw[valM_some _ _ _ _ _ _ _ _ hcm] at h
 by_cases o4:o=4
 ·subst o4
  rw[if_pos rfl] at h
  simp only[Bool.and_eq_true,decide_eq_true_eq] at h
  obtain ⟨b,rfl,hb⟩:=one h.1.2.1 h.2
  obtain ⟨hk,hn1,hn2⟩:=hany.resolve_right (by omega)
  obtain ⟨k,hk2⟩:∃k:Nat,v.n=k:=⟨v.n.toNat,by omega⟩
  have hkn:k < nx.length:=by omega
  have hkn':(k:Int) < nx.length:=by omega
  rw[prB_mk,if_neg o0,if_neg (by omega),if_pos rfl]
  have hrd:rdyC nx e (.mk 4 n m [b])= [.int .i64 4,.int .i64 n,.int .i64 m,.sl 5 [] .no,.sl 1 ((zY nx.length (evS nx e b)).map AV.bool) .no]:=by
   show [AV.int .i64 4,.int .i64 n,.int .i64 m,.sl 5 (if (4:Int)=4 then [] else [b].map (rdy nx e)) .no,if (4:Int)=4 then zV (zY nx.length ((evSs nx e [b]).getD 0 0)) else .sl 1 [] .no]=_
   rw[if_pos rfl,if_pos rfl,yV,List.getD_cons_zero];rfl
  rw[hrd,hk2]
  simp only[yV,List.getD_cons_zero]
  have hbl:(zY nx.length (evS nx e b)).length=nx.length:=by simp[zY]
  have hbk:∀h:k < (zY nx.length (evS nx e b)).length,(zY nx.length (evS nx e b))[k]=(evS nx e b).testBit k:=fun h=>by simp[zY]
  simp[zA g,zC v,hk2,hbl,hkn,hkn',hbk]
 rw[if_neg o4] at h
 by_cases o5:o=5
 ·subst o5
  rw[prB_mk,if_neg o0,if_pos rfl,rdyC_mk (by omega)]
  simp[zA g,zC v]
 rw[if_neg o5] at h
 simp only[Bool.and_eq_true,decide_eq_true_eq] at h
 obtain ⟨b,rfl,hb⟩:=one h.1.2 h.2
 have hsh:=inF_shape hg h.1.1
 have hsub:=ih b (by simp) (inF g o) _ hsh hb
 obtain ⟨hrc,hrd,hrs,hrv,hro⟩:=(rdyC_RC nx e b).facts
 have hRC:=rdyC_RC nx e b
 have hnv:=nodesV_sub v
 rw[prB_mk,if_neg o0,if_neg o5,if_neg o4,if_neg o2,yU,List.getD_cons_zero,rdyC_mk o4]
 simp only[List.map_cons,List.map_nil]
 unfold Sub68 at hsub
 generalize rdyC nx e b=rc at*
 generalize prB nx e b=φ at*
 have leaf:∀(u:Va) (i:Nat),v.gs[i]?=some u->zG u<=2000:=fun u i hu=>by
  have hi:=(List.getElem?_eq_some_iff.1 hu).1
  have:=nodesVs_get hi
  rw[(List.getElem?_eq_some_iff.1 hu).2] at this
  omega
 rcases inOk_cases h.1.1 with ⟨hk,rfl⟩ | ⟨hk,rfl⟩ | ⟨hk,rfl⟩ | ⟨hk,rfl⟩ | ⟨hk,rfl,hn1,hn2⟩ | ⟨hk,rfl⟩ | ⟨hk,rfl⟩ | ⟨hk,rfl,hm1,hm2,hn1,hn2⟩
 ·obtain ⟨_,a,b',g1,g2,e1,e2,v1,v2⟩:=(hany.resolve_left (by omega)).resolve_left (by omega) |>.resolve_right (by omega)
  have e3:inF g 6=g1:=by simp[inF,hk,e2]
  rw[e3] at hsub
  have hc:=hsub (D+1) a v1 (leaf a 0 (by rw[e1];rfl))
  simp[zA,zC,e1,e2,take5 hrc,hrc,hrd] at hc|-
  refine zU hc (by simp[hrd,hrs]) ?_
  simp[oneB,e1]
 ·obtain ⟨_,a,b',g1,g2,e1,e2,v1,v2⟩:=(hany.resolve_left (by omega)).resolve_left (by omega) |>.resolve_right (by omega)
  have e3:inF g 7=g2:=by simp[inF,hk,e2]
  rw[e3] at hsub
  have hc:=hsub (D+1) b' v2 (leaf b' 1 (by rw[e1];rfl))
  simp[zA,zC,e1,e2,take5 hrc,hrc,hrd] at hc|-
  refine zU hc (by simp[hrd,hrs]) ?_
  simp[oneB,e1]
 ·obtain ⟨_,a,g1,g2,e1,e2,hc0⟩:=(((hany.resolve_left (by omega)).resolve_left (by omega)).resolve_left (by omega)).resolve_right (by omega)
  have e3:inF g 8=g1:=by simp[inF,hk,e2]
  rw[e3] at hsub
  rcases hc0 with ⟨hn,v1⟩ | ⟨hn,v1⟩
  ·have hc:=hsub (D+1) a v1 (leaf a 0 (by rw[e1];rfl))
   simp[zA,zC,e1,e2,hn,take5 hrc,hrc,hrd] at hc|-
   refine zU hc (by simp[hrd,hrs]) ?_
   simp[oneB,e1,hn]
  ·simp[zA,zC,hn,oneB]
 ·obtain ⟨_,a,g1,g2,e1,e2,hc0⟩:=(((hany.resolve_left (by omega)).resolve_left (by omega)).resolve_left (by omega)).resolve_right (by omega)
  have e3:inF g 9=g2:=by simp[inF,hk,e2]
  rw[e3] at hsub
  rcases hc0 with ⟨hn,v1⟩ | ⟨hn,v1⟩
  ·simp[zA,zC,hn,oneB]
  ·have hc:=hsub (D+1) a v1 (leaf a 0 (by rw[e1];rfl))
   simp[zA,zC,e1,e2,hn,take5 hrc,hrc,hrd] at hc|-
   refine zU hc (by simp[hrd,hrs]) ?_
   simp[oneB,e1,hn]
 ·obtain ⟨_,hl,x,e2,hx⟩:=((((hany.resolve_left (by omega)).resolve_left (by omega)).resolve_left (by omega)).resolve_left (by omega)).resolve_right (by omega)
  have e3:inF g 10=x:=by simp[inF,hk,e2]
  rw[e3] at hsub
  obtain ⟨i,rfl⟩:∃i:Nat,n=i:=⟨n.toNat,by omega⟩
  have hlt:i < v.gs.length:=by omega
  have hlt':(i:Int) < v.gs.length:=by omega
  have hc:=hsub (D+1) v.gs[i] (hx _ (List.getElem_mem hlt)) (leaf v.gs[i] i (List.getElem?_eq_getElem hlt))
  simp[zA,zC,e2,hlt,hlt',take5 hrc,hrc,hrd] at hc|-
  refine zU hc (by simp[hrd,hrs]) ?_
  simp[oneB,hlt]
 all_goals
  obtain ⟨_,⟨x,e2,hx⟩,hw1,hw2⟩:=((((hany.resolve_left (by omega)).resolve_left (by omega)).resolve_left (by omega)).resolve_left (by omega)).resolve_left (by omega)
  have hgl:v.gs.length<=2000:=by have:=nodesVs_le_len v.gs;omega
  have h0:g.gs[0]?=some x:=by rw[e2];rfl
 ·have e3:inF g 11=x:=by simp[inF,hk,e2]
  rw[e3] at hsub
  have hwt:wtd g.k=false:=by rw[hk];rfl
  have hwe:wls g.k v=List.replicate v.gs.length 1:=by unfold wls;rw[hwt];rfl
  have hc:=spec117 (D+1) nx.length g x h0 rc hRC φ (fun D u hu hn=>hsub D u hu hn) v hx hnod (by rw[hwt];intro h;cases h) (by rw[hwe];exact wOk_ones _ _ (by omega))
  rw[hwe] at hc
  have hw:=(wSum_ones φ v.gs).2
  simp[zA,zC,take5 hrc,hrc,hrd] at hc|-
  refine zU hc (by simp[hrd,hrs]) ?_
  simp[oneB]
  by_cases hp:0 < wSum φ v.gs (List.replicate v.gs.length 1)
  ·have:=hw.1 hp
   simp only[List.any_eq_true] at this
   simp[hp,this]
  ·have:¬v.gs.any φ=true:=fun h=>hp (hw.2 h)
   have hp':∀x,x∈v.gs->φ x=false:=by simpa using this
   simpa[hp] using hp'
 ·have e3:inF g 12=x:=by simp[inF,hk,e2]
  rw[e3] at hsub
  obtain ⟨w1,w2⟩:=hw2 (by omega)
  have hwt:wtd g.k=true:=by rw[hk];rfl
  have hwe:wls g.k v=v.ws:=by unfold wls;rw[hwt];rfl
  have hc:=spec117 (D+1) nx.length g x h0 rc hRC φ (fun D u hu hn=>hsub D u hu hn) v hx hnod (fun _=>w1) (by rw[hwe];exact w2)
  rw[hwe] at hc
  simp[zA,zC,take5 hrc,hrc,hrd] at hc|-
  refine zU hc (by simp[hrd,hrs]) ?_
  simp[oneB]
 ·have e3:inF g 13=x:=by simp[inF,hk,e2]
  rw[e3] at hsub
  obtain ⟨w1,w2⟩:=hw2 (by omega)
  have hwt:wtd g.k=true:=by rw[hk];rfl
  have hwe:wls g.k v=v.ws:=by unfold wls;rw[hwt];rfl
  have hc:=spec117 (D+1) nx.length g x h0 rc hRC φ (fun D u hu hn=>hsub D u hu hn) v hx hnod (fun _=>w1) (by rw[hwe];exact w2)
  rw[hwe] at hc
  obtain ⟨s0,s1⟩:=wSum_le φ v.gs v.ws 0 w2
  obtain ⟨a0,a1⟩:=wSum_le (fun _=>true) v.gs v.ws 0 w2
  generalize hsum:wSum φ v.gs v.ws=sum at*
  generalize hall:wSum (fun _=>true) v.gs v.ws=all at*
  have b1:sum*m<=1048576*1048576:=Int.mul_le_mul (by omega) hm2 (by omega) (by omega)
  have b2:0<=sum*m:=Int.mul_nonneg s0 (by omega)
  have b3:n*all<=1048576*1048576:=Int.mul_le_mul (by omega) (by omega) (by omega) (by omega)
  have b4:0<=n*all:=Int.mul_nonneg (by omega) a0
  have q1:IntKind.i64.wrap (sum*m)=sum*m:=i64_id (by omega) (by omega)
  have q2:IntKind.i64.wrap (n*all)=n*all:=i64_id (by omega) (by omega)
  simp[zA,zC,take5 hrc,hrc,hrd] at hc|-
  refine zU hc (by simp[hrd,hrs]) ?_
  simp[oneB,q1,q2,hsum,hall]
end Go.Ab.Tab
/- The reference's evaluation: Set,prepare. -/
namespace Go.Ab.Tab
open Go Go.Ab
inductive Rx where
 | im (b:List Bool)
 | ow (x:Rw)
def Rx.B:Rx->List Bool
 | .im b=>b
 | .ow x=>x.b
def Rx.A (d:Nat):Rx->AV
 | .im b=>zV b
 | .ow x=>rowA d x
def Rx.M (d:Nat):Rx->List (Nat×Nat×Ent)
 | .im _=>[]
 | .ow x=>[rowM d x]
inductive VA where
 | im (l:List (List Bool))
 | ow (d o g:Nat) (R:List Rx)
def VA.B:VA->List (List Bool)
 | .im l=>l
 | .ow _ _ _ R=>R.map Rx.B
def VA.A:VA->AV
 | .im l=> .sl 1 (l.map zV) .no
 | .ow d o g R=> .own d o g 0 R.length 1 false
def VA.M:VA->List (Nat×Nat×Ent)
 | .im l=>[]
 | .ow d o g R=>(d,o,(g,.cells (R.map (Rx.A d))))::R.flatMap (Rx.M d)
@[simp] theorem VA.A_dem (V:VA):V.A.dem=V.A:=by cases V<;>rfl
@[simp] theorem VA.A_strip (V:VA):V.A.strip=V.A:=by cases V<;>rfl
@[simp] theorem VA.A_var1 (V:VA):V.A.var1=V.A:=by cases V<;>rfl
def VA.dp:VA->Nat->Prop
 | .im _,_=>True
 | .ow d _ _ _,D=>d < D
theorem VA.dp_succ {V:VA} {D:Nat} (h:V.dp D):V.dp (D+1):=by
 cases V with
 | im l=>trivial
 | ow d o g R=>exact Nat.lt_succ_of_lt h
theorem memN {M:List (Nat×Nat×Ent)} {D n:Nat} {S:Nat->Nat->Ent} {τ:Nat->AV} {ω:Nat->Ent} (hS:∀m∈M,m.1 < D/\S m.1 m.2.1=m.2.2):∀m∈M,m.1<=D/\(m.1=D->m.2.1 < n)/\(stF n D τ ω S).look m.1 m.2.1=m.2.2:=by
 intro m hm
 obtain ⟨h1,h2⟩:=hS m hm
 refine ⟨Nat.le_of_lt h1,fun e=>absurd e (Nat.ne_of_lt h1),?_⟩
 rw[yB,if_neg (Nat.ne_of_lt h1)];exact h2
def fillN (R:List Bool) (i:Nat):List Bool:=R.take i++List.replicate (R.length - i) false
theorem fillN_len (R:List Bool) (i:Nat) (h:i<=R.length):(fillN R i).length=R.length:=by simp[fillN];omega
theorem fillN_zero (R:List Bool):fillN R 0=List.replicate R.length false:=by simp[fillN]
theorem fillN_end (R:List Bool):fillN R R.length=R:=by simp[fillN]
theorem set_mid' {α β:Type} (f:α->β) {P:List α} {k:Nat} (h:P.length=k) (b c:α) (B:List α):List.take k ((P++b::B).map f)++f c::List.drop (k+1) ((P++b::B).map f)=(P++c::B).map f:=by
 subst h
 rw[List.map_append,List.map_cons,List.map_append,List.map_cons,List.take_append_of_le_length (by simp),List.take_of_length_le (by simp),<-List.length_map (f:=f),List.drop_length_add_append]
 rfl
theorem fillN_step {R:List Bool} {i:Nat} (h:i < R.length):List.take i ((fillN R i).map AV.bool)++AV.bool R[i]::List.drop (i+1) ((fillN R i).map AV.bool)=(fillN R (i+1)).map AV.bool:=by
 have e:R.length - i=(R.length - (i+1))+1:=by omega
 unfold fillN
 rw[e,List.replicate_succ,set_mid' AV.bool (by simp;omega) false R[i],List.take_succ_eq_append_getElem h,List.append_assoc]
 rfl
section
variable {D n:Nat} {S:Nat->Nat->Ent} {K:List AI}
theorem l22a (X:List Bool) (hX:X.length=n) (hn:n < 2^31):∀(j i:Nat) (τ ω),i+j=n->τ 7= .own D 19 1 0 n 1 false->ω 19=(1,.cells ((fillN (X.map not) i).map AV.bool))->
  τ 40=zV X->τ 41= .int .i64 n->τ 42= .int .i64 i->
  Rd (Loc Pg Gl) .im (RetM [.tmp 6] (zV (X.map not)) D S []) (.lp c22_l0:: .blk 1:: .c c22_k0::K) (stF 119 D τ ω S):=by
 intro j
 induction j with
 | zero=>
  intro i τ ω hi t7 w t40 t41 t42
  refine zK c22_l0.eq_1 ?_
  obtain rfl:i=n:=by omega
  have hfr:∀τ,frz (stF 119 D τ ω S) frzD (.own D 19 1 0 i 1 false)=some (zV (X.map not),[(D,19)]):=fun τ=>frz_bools (by decide) (by simpa using hX) (by rw[w];congr 3;have:=fillN_end (X.map not);rw[List.length_map,hX] at this;exact this)
  simp[t7,t40,t41,t42,c22_k0,hfr,upds]
  rfl
 | succ j ih=>
  intro i τ ω hi t7 w t40 t41 t42
  refine zK c22_l0.eq_1 ?_
  have hlt:i < n:=by omega
  have hlt':(i:Int) < n:=by omega
  have hwr:IntKind.i64.wrap ((i:Int)+1)=((i+1:Nat):Int):=by rw[<-zE (n:=i+1) (by omega)];rfl
  have hstep:=fillN_step (R:=X.map not) (i:=i) (by simp[hX];exact hlt)
  have hl:=fillN_len (X.map not) i (by simp[hX];omega)
  have ih1:=ih (i+1)
  rw[List.length_map,hX] at hl
  simp only[List.getElem_map] at hstep
  rw[<-hstep] at ih1
  generalize fillN (X.map not) i=F at*
  have t40':=t40
  unfold zV at t40
  simp[t7,t40,t41,t42,w,hX,hlt,hlt',hwr,show i+1<=F.length by omega]
  refine ih1 _ _ (by omega) ?_ ?_ ?_ ?_ ?_
  all_goals simp[t7,t40',t41]
theorem l22b (X Y:List Bool) (hX:X.length=n) (hY:Y.length=n) (hn:n < 2^31):∀(j i:Nat) (τ ω),i+j=n->τ 7= .own D 19 1 0 n 1 false->ω 19=(1,.cells ((fillN (List.zipWith and X Y) i).map AV.bool))->
  τ 10=zV X->τ 11=zV Y->τ 71= .int .i64 n->τ 72= .int .i64 i->
  Rd (Loc Pg Gl) .im (RetM [.tmp 6] (zV (List.zipWith and X Y)) D S []) (.lp c22_l1:: .blk 3:: .c c22_k1::K) (stF 119 D τ ω S):=by
 have hZ:(List.zipWith and X Y).length=n:=by simp[hX,hY]
 intro j
 induction j with
 | zero=>
  intro i τ ω hi t7 w t10 t11 t71 t72
  refine zK c22_l1.eq_1 ?_
  obtain rfl:i=n:=by omega
  have hfr:∀τ,frz (stF 119 D τ ω S) frzD (.own D 19 1 0 i 1 false)=some (zV (List.zipWith and X Y),[(D,19)]):=fun τ=>frz_bools (by decide) hZ (by rw[w];congr 3;have:=fillN_end (List.zipWith and X Y);rw[hZ] at this;exact this)
  simp[t7,t71,t72,c22_k1,hfr,upds]
  rfl
 | succ j ih=>
  intro i τ ω hi t7 w t10 t11 t71 t72
  refine zK c22_l1.eq_1 ?_
  have hlt:i < n:=by omega
  have hlt':(i:Int) < n:=by omega
  have hwr:IntKind.i64.wrap ((i:Int)+1)=((i+1:Nat):Int):=by rw[<-zE (n:=i+1) (by omega)];rfl
  have hstep:=fillN_step (R:=List.zipWith and X Y) (i:=i) (by rw[hZ];exact hlt)
  have hl:=fillN_len (List.zipWith and X Y) i (by rw[hZ];omega)
  have ih1:=ih (i+1)
  rw[hZ] at hl
  simp only[List.getElem_zipWith] at hstep
  rw[<-hstep] at ih1
  generalize fillN (List.zipWith and X Y) i=F at*
  have t10':=t10
  have t11':=t11
  unfold zV at t10 t11
  cases hXi:X[i]
  ·rw[hXi] at ih1
   simp[t7,t10,t11,t71,t72,w,hX,hY,hlt,hlt',hwr,hXi,show i+1<=F.length by omega]
   refine ih1 _ _ (by omega) ?_ ?_ ?_ ?_ ?_ ?_
   all_goals simp[t7,t10',t11',t71]
  ·rw[hXi] at ih1
   simp[t7,t10,t11,t71,t72,w,hX,hY,hlt,hlt',hwr,hXi,show i+1<=F.length by omega]
   refine ih1 _ _ (by omega) ?_ ?_ ?_ ?_ ?_ ?_
   all_goals simp[t7,t10',t11',t71]
theorem l22c (s:Sy) (hsh:zI s.f=true) (hn:s.m.length=n) (hn2:n < 2^31) (rc rc':List AV) (hR:RC rc) (h5:rc'.length=5) (hd5:rc'.map AV.dem1=rc) (φ:Va->Bool) (hcall:∀D u,u∈s.m->Go.Ab.Loc Pg Gl D 68 [encF s.f,encV u,.agg rc] [] (.bool (φ u)) []):∀(j i:Nat) (τ ω),i+j=n->τ 7= .own D 19 1 0 n 1 false->ω 19=(1,.cells ((fillN (s.m.map φ) i).map AV.bool))->
  τ 3= .ptr D 3 1 0->ω 3=(1,.cells [.int .i64 s.f.k,.int .i64 s.f.n,.sl 3 (s.f.gs.map encF) .no,.sl 3 (s.m.map encV) .no])->τ 13= .ptr D 13 1 0->ω 13=(1,.cells rc')->
  τ 102= .sl 3 (s.m.map encV) .no->τ 103= .int .i64 n->τ 104= .int .i64 i->
  Rd (Loc Pg Gl) .im (RetM [.tmp 6] (zV (s.m.map φ)) D S []) (.lp c22_l2:: .blk 5:: .c c22_k2::K) (stF 119 D τ ω S):=by
 have hZ:(s.m.map φ).length=n:=by simp[hn]
 obtain ⟨hrc,hrd,hrs,hrv,hro⟩:=hR.facts
 intro j
 induction j with
 | zero=>
  intro i τ ω hi t7 w t3 w3 t13 w13 t102 t103 t104
  refine zK c22_l2.eq_1 ?_
  obtain rfl:i=n:=by omega
  have hfr:∀τ,frz (stF 119 D τ ω S) frzD (.own D 19 1 0 i 1 false)=some (zV (s.m.map φ),[(D,19)]):=fun τ=>frz_bools (by decide) hZ (by rw[w];congr 3;have:=fillN_end (s.m.map φ);rw[hZ] at this;exact this)
  simp[t7,t103,t104,c22_k2,hfr,upds]
  rfl
 | succ j ih=>
  intro i τ ω hi t7 w t3 w3 t13 w13 t102 t103 t104
  refine zK c22_l2.eq_1 ?_
  have hlt:i < n:=by omega
  have hlm:i < s.m.length:=by omega
  have hlt':(i:Int) < s.m.length:=by omega
  have hwr:IntKind.i64.wrap ((i:Int)+1)=((i+1:Nat):Int):=by rw[<-zE (n:=i+1) (by omega)];rfl
  have hstep:=fillN_step (R:=s.m.map φ) (i:=i) (by rw[hZ];exact hlt)
  have hl:=fillN_len (s.m.map φ) i (by rw[hZ];omega)
  have ih1:=ih (i+1)
  rw[hZ] at hl
  simp only[List.getElem_map] at hstep
  rw[<-hstep] at ih1
  generalize fillN (s.m.map φ) i=F at*
  have hc:=hcall (D+1) s.m[i] (List.getElem_mem hlm)
  simp[t7,t3,w3,t13,w13,t102,t103,t104,w,hlt,hlm,zA s.f,zC s.m[i],take5 h5,h5,hd5] at hc|-
  refine zD hc (by simp[zA s.f,zC s.m[i],hrd,hrs]) ?_
  simp[t7,w,hlt,t104,hwr,show i+1<=F.length by omega]
  refine ih1 _ _ (by omega) ?_ ?_ ?_ ?_ ?_ ?_ ?_ ?_ ?_
  all_goals simp[t7,t3,w3,t13,w13,t102,t103]
end
end Go.Ab.Tab
/- The reference's evaluation: Set and prepare,all formulas. -/
namespace Go.Ab.Tab
open Go Go.Ab
theorem bits_set (nx:List Va) (p:Va->Bool):zY nx.length (setOf p 0 nx)=nx.map p:=by
 apply List.ext_getElem
 ·simp[zY]
 ·intro i h1 h2
  have hi:i < nx.length:=by simpa using h2
  simp only[zY,List.getElem_map,List.getElem_range,setOf_bit]
  rw[Nat.sub_zero,getD_lt hi]
  simp[hi]
theorem bits_allT (nx:List Va):zY nx.length (allT nx.length)=nx.map fun _=>true:=by
 apply List.ext_getElem
 ·simp[zY]
 ·intro i h1 h2
  have hi:i < nx.length:=by simpa using h2
  simp[zY,allT_bit,hi]
theorem bits_and (n X Y:Nat):zY n (X &&& Y)=List.zipWith and (zY n X) (zY n Y):=by
 apply List.ext_getElem
 ·simp[zY]
 ·intro i h1 h2
  simp[zY]
theorem bits_neg (n X:Nat):zY n (allT n ^^^ (allT n &&& X))=(zY n X).map not:=by
 apply List.ext_getElem
 ·simp[zY]
 ·intro i h1 h2
  have hi:i < n:=by simpa[zY] using h1
  simp[zY,allT_bit,hi]
theorem bitsL_len (n X:Nat):(zY n X).length=n:=by simp[zY]
def Sub22 (s:Sy) (e:List Nat) (V:VA) (a:Fm):Prop:=∀D,V.dp D->Go.Ab.Loc Pg Gl D 22 [encY s,encM a,V.A] V.M (zV (zY s.m.length (evS s.m e a))) []
def Sub67 (s:Sy) (e:List Nat) (V:VA) (a:Fm):Prop:=∀D,V.dp D->Go.Ab.Loc Pg Gl D 67 [encY s,encM a,V.A] V.M (rdy s.m e a) []
theorem okEl_bools (bs:List Bool):okEl 1 false (bs.map AV.bool)=true:=by
 unfold okEl
 rw[List.all_eq_true]
 intro v hv
 obtain ⟨b,_,rfl⟩:=List.mem_map.1 hv
 rfl
theorem newC_bools (bs:List Bool):newC (bs.map AV.bool)=bs.map AV.bool:=by
 induction bs with
 | nil=>rfl
 | cons b bs ih=>simp only[newC,List.map_cons,List.flatMap_cons,List.map_append] at ih|-;rw[ih];rfl
theorem var22 (s:Sy) (hn:s.m.length < 2^31) (V:VA) (n m:Int) (k:Nat) (hk:n=k) (bs:List Bool) (hV:V.B[k]?=some bs) (hbl:bs.length=s.m.length) (D:Nat) (hD:V.dp D):
  Go.Ab.Loc Pg Gl D 22 [encY s,encM (.mk 14 n m []),V.A] V.M (zV bs) []:=by
 subst hk
 refine zX zF tok rfl rfl fun S hS=> ?_
 have hn2:(s.m.length:Int)<=1099511627776:=by omega
 have hok:=okEl_bools bs
 have hnc:=newC_bools bs
 have hrow':List.replicate s.m.length (AV.bool false)=(List.replicate s.m.length false).map AV.bool:=by simp
 have htk:List.take s.m.length (bs.map AV.bool)=bs.map AV.bool:=List.take_of_length_le (by simp[hbl])
 have hfr:∀τ ω,frz (stF 119 D τ (upd ω 19 (1,.cells (bs.map AV.bool))) S) frzD (.own D 19 1 0 s.m.length 1 false)=some (.sl 1 (bs.map AV.bool) .no,[(D,19)]):=fun τ ω=>frz_bools (by decide) hbl (by rw[upd_at,if_pos rfl])
 cases V with
 | im L=>
  have hV':L[k]?=some bs:=hV
  obtain ⟨hkl,hke⟩:=List.getElem?_eq_some_iff.1 hV'
  have hkl':(k:Int) < L.length:=by omega
  unfold c22
  simp[zL,encY,VA.A,hn2,hkl,hkl',hke,zV]
  simp[htk,hok,hnc,hbl,hfr,upds]
 | ow d o g R=>
  have hdD:d < D:=hD
  have hne:¬d=D:=by omega
  have hO:=(hS _ (List.mem_cons_self ..)).2
  simp only at hO
  have hV':(R.map Rx.B)[k]?=some bs:=hV
  rw[List.getElem?_map,Option.map_eq_some_iff] at hV'
  obtain ⟨x,hx,rfl⟩:=hV'
  obtain ⟨hkl,hke⟩:=List.getElem?_eq_some_iff.1 hx
  have hkl':(k:Int) < R.length:=by omega
  cases x with
  | im b=>
   unfold c22
   simp[zL,encY,VA.A,hn2,hne,hO,hkl,hkl',hke,Rx.A,zV]
   simp only[Rx.B] at htk hok hnc hbl hfr
   simp[htk,hok,hnc,hbl,hfr,upds,Rx.B]
  | ow x=>
   have hr:=(hS (rowM d x) (List.mem_cons_of_mem _ (List.mem_flatMap.2 ⟨.ow x,by rw[<-hke];exact List.getElem_mem hkl,by simp[Rx.M]⟩))).2
   simp only[rowM,rowE] at hr
   simp only[Rx.B] at htk hok hnc hbl hfr
   have hg:groups 1 false x.b.length (x.b.map AV.bool)=x.b.map AV.bool:=groups_bools x.b
   have hst:(x.b.map AV.bool).map AV.strip1=x.b.map AV.bool:=by rw[List.map_map];exact List.map_congr_left fun _ _=>rfl
   have hcl:(x.b.map AV.bool).all (AV.clean 20)=true/\(x.b.map AV.bool).all AV.one=true:=by
    constructor<;>(rw[List.all_eq_true];intro v hv;obtain ⟨b,_,rfl⟩:=List.mem_map.1 hv;rfl)
   have hel:∀τ ω,yL (stF 119 D τ ω S) 1 (.own d x.s x.g 0 x.b.length 1 false)=some (x.b.map AV.bool,[(d,x.s)]):=fun τ ω=>by
    simp only[yL,if_true,yB,if_neg hne,hr]
    rw[if_pos ⟨trivial,by simp,hcl.1,.inr trivial,hcl.2⟩,List.drop_zero,Nat.mul_one,List.take_of_length_le (by simp),hst,hg]
   unfold c22
   simp[zL,encY,VA.A,hn2,hne,hO,hkl,hkl',hke,Rx.A,rowA,hel]
   simp[htk,hok,hnc,hbl,hfr,upds,Rx.B]
   rfl
end Go.Ab.Tab
/- The reference's evaluation: Set and prepare. -/
namespace Go.Ab.Tab
open Go Go.Ab
theorem rdyC_st (nx e a):stcL (rdyC nx e a)=rdyC nx e a/\∀D,∀x∈rdyC nx e a,AV.upto D 19 x=true:=by
 unfold rdyC
 by_cases h:a.o=4
 ·simp only[if_pos h]
  refine ⟨rfl,fun D x hx=> ?_⟩
  simp only[List.mem_cons,List.not_mem_nil,or_false] at hx
  rcases hx with rfl | rfl | rfl | rfl | rfl<;>rfl
 ·simp only[if_neg h]
  refine ⟨rfl,fun D x hx=> ?_⟩
  simp only[List.mem_cons,List.not_mem_nil,or_false] at hx
  rcases hx with rfl | rfl | rfl | rfl | rfl<;>rfl
section
variable (s:Sy) (hsh:zI s.f=true) (hn:s.m.length < 2^31) (hnx:∀v∈s.m,valN s.m.length v s.f=true/\zG v<=2000) (e:List Nat) (V:VA)
include hn
theorem not22 (b:Fm) (n m:Int) (hb:Sub22 s e V b):Sub22 s e V (.mk 1 n m [b]):=by
 intro D hD
 refine zX zF tok rfl rfl fun S hS=> ?_
 have hn2:(s.m.length:Int)<=1099511627776:=by omega
 have hc:=hb (D+1) (VA.dp_succ hD)
 have hr:zY s.m.length (evS s.m e (.mk 1 n m [b]))=(zY s.m.length (evS s.m e b)).map not:=by
  rw[evS_mk,if_neg (by omega),if_neg (by omega),if_pos rfl,yV,List.getD_cons_zero,bits_neg]
 rw[hr]
 generalize hX:zY s.m.length (evS s.m e b)=X at*
 have hXl:X.length=s.m.length:=by rw[<-hX];exact bitsL_len _ _
 generalize hres:zV (X.map not)=r
 unfold c22
 simp[zL,encY,hn2,zB b] at hc|-
 refine zJ hc (by simp) (memN hS) (by simp) ?_
 simp[zV,hXl]
 rw[<-hres]
 refine l22a X hXl hn s.m.length 0 _ _ (by omega) ?_ ?_ ?_ ?_ ?_
 case refine_2=>simp[fillN_zero,hXl]
 all_goals simp[zV]
theorem and22 (b b':Fm) (n m:Int) (hb:Sub22 s e V b) (hb':Sub22 s e V b'):Sub22 s e V (.mk 2 n m [b,b']):=by
 intro D hD
 refine zX zF tok rfl rfl fun S hS=> ?_
 have hn2:(s.m.length:Int)<=1099511627776:=by omega
 have hc:=hb (D+1) (VA.dp_succ hD)
 have hc':=hb' (D+1) (VA.dp_succ hD)
 have hr:zY s.m.length (evS s.m e (.mk 2 n m [b,b']))=List.zipWith and (zY s.m.length (evS s.m e b)) (zY s.m.length (evS s.m e b')):=by
  rw[evS_mk,if_neg (by omega),if_neg (by omega),if_neg (by omega),if_pos rfl,<-bits_and]
  simp only[yV,List.getD_cons_zero,List.getD_cons_succ]
 rw[hr]
 generalize hX:zY s.m.length (evS s.m e b)=X at*
 generalize hY:zY s.m.length (evS s.m e b')=Y at*
 have hXl:X.length=s.m.length:=by rw[<-hX];exact bitsL_len _ _
 have hYl:Y.length=s.m.length:=by rw[<-hY];exact bitsL_len _ _
 generalize hres:zV (List.zipWith and X Y)=r
 unfold c22
 simp[zL,encY,hn2,zB b,zB b'] at hc hc'|-
 refine zJ hc (by simp) (memN hS) (by simp) ?_
 simp[zB b']
 refine zJ hc' (by simp) (memN hS) (by simp) ?_
 simp[zV]
 rw[<-hres]
 refine l22b X Y hXl hYl hn s.m.length 0 _ _ (by omega) ?_ ?_ ?_ ?_ ?_ ?_
 case refine_2=>simp[fillN_zero,hXl,hYl]
 all_goals simp[zV]
include hsh hnx
theorem top22 (n m:Int):Sub22 s e V (.mk 0 n m []):=by
 intro D hD
 refine zX zF tok rfl rfl fun S hS=> ?_
 have hn2:(s.m.length:Int)<=1099511627776:=by omega
 have hr:zY s.m.length (evS s.m e (.mk 0 n m []))=s.m.map (prB s.m e (.mk 0 0 0 [])):=by
  rw[evS_mk,if_pos rfl,bits_allT,prB_mk,if_pos rfl]
 rw[hr]
 unfold c22
 simp[zL,encY,hn2,c22_k3,c22_j0]
 refine l22c s hsh rfl hn (rdyC s.m e (.mk 0 0 0 [])) [.int .i64 0,.int .i64 0,.int .i64 0,.sl 5 [] .tip,.sl 1 [] .tip] (rdyC_RC _ _ _) rfl ?_ (prB s.m e (.mk 0 0 0 [])) (fun D u hu=>truth_all (f:=s.f) (vars:=0) (.mk 0 0 0 []) s.f false hsh (by rw[yW];rfl) D u (hnx u hu).1 (hnx u hu).2) s.m.length 0 _ _ (by omega) ?_ ?_ ?_ ?_ ?_ ?_ ?_ ?_ ?_
 case refine_1=>rw[rdyC_mk (by omega)];rfl
 case refine_3=>simp[fillN_zero]
 all_goals simp
theorem step22 {vars:Int} (b:Fm) (n m:Int) {odd:Bool} (hv:valM s.f vars (some s.f) odd b=true) (hb:Sub67 s e V b):Sub22 s e V (.mk 3 n m [b]):=by
 intro D hD
 refine zX zF tok rfl rfl fun S hS=> ?_
 have hn2:(s.m.length:Int)<=1099511627776:=by omega
 have hc:=hb (D+1) (VA.dp_succ hD)
 rw[rdy_eta] at hc
 have hr:zY s.m.length (evS s.m e (.mk 3 n m [b]))=s.m.map (prB s.m e b):=by
  rw[evS_mk,if_neg (by omega),if_neg (by omega),if_neg (by omega),if_neg (by omega),yU,List.getD_cons_zero,bits_set]
 rw[hr]
 have hT:=truth_all (nx:=s.m) (e:=e) b s.f odd hsh hv
 have hR:=rdyC_RC s.m e b
 obtain ⟨hrc,hrd,hrs,hrv,hro⟩:=hR.facts
 obtain ⟨hst,hup⟩:=rdyC_st s.m e b
 have hone:∀x∈rdyC s.m e b,x.one=true:=fun x hx=>(hR.2 x hx).1
 unfold Sub68 at hT
 generalize rdyC s.m e b=rc at*
 generalize prB s.m e b=φ at*
 generalize hres:zV (s.m.map φ)=r
 unfold c22
 simp[zL,encY,hn2,zB b] at hc|-
 simp[c22_k3]
 refine zJ hc (by simp) (memN hS) (by simp) ?_
 simp[c22_j0,hrc,hrd]
 rw[if_pos ⟨hup D,hone⟩]
 have hd5:List.drop (stcL rc).length [AV.int IntKind.i64 0,AV.int IntKind.i64 0,AV.int IntKind.i64 0,AV.sl 5 [] Tip.tip,AV.sl 1 [] Tip.tip]= []:=by rw[hst,hrc];rfl
 rw[hd5,hst,List.append_nil]
 simp
 rw[<-hres]
 refine l22c s hsh rfl hn rc rc hR hrc hrd φ (fun D u hu=>hT D u (hnx u hu).1 (hnx u hu).2) s.m.length 0 _ _ (by omega) ?_ ?_ ?_ ?_ ?_ ?_ ?_ ?_ ?_
 case refine_2=>simp[fillN_zero]
 all_goals simp
end
end Go.Ab.Tab
/- The reference's evaluation: prepare; all formulas. -/
namespace Go.Ab.Tab
open Go Go.Ab
theorem rdyC_frz (nx e a) (σ:St):frz σ frzD (.agg (rdyC nx e a))=some (.agg (rdyC nx e a),[]):=by
 unfold rdyC
 by_cases h:a.o=4
 ·simp only[if_pos h];rfl
 ·simp only[if_neg h];rfl
section
variable (s:Sy) (e:List Nat) (V:VA)
theorem state67 (b:Fm) (n m:Int) (hb:Sub22 s e V b):Sub67 s e V (.mk 4 n m [b]):=by
 intro D hD
 refine zX zF tok rfl rfl fun S hS=> ?_
 have hc:=hb (D+1) (VA.dp_succ hD)
 have hr:rdy s.m e (.mk 4 n m [b])= .agg [.int .i64 4,.int .i64 n,.int .i64 m,.sl 5 [] .no,zV (zY s.m.length (evS s.m e b))]:=by
  rw[rdy,if_pos rfl,yV,List.getD_cons_zero]
 rw[hr]
 generalize zY s.m.length (evS s.m e b)=X at*
 unfold c67
 simp[zL,encY,zB b] at hc|-
 refine zJ hc (by simp) (memN hS) (by simp) ?_
 simp[zV,upds]
theorem l67 (o n m:Int) (ar:List Fm) (hlen:ar.length<=2^30) (hrec:∀a∈ar,Sub67 s e V a) {D:Nat} (hD:V.dp D) (S:Nat->Nat->Ent) (hS:∀m∈V.M,m.1 < D/\S m.1 m.2.1=m.2.2):∀(j k:Nat) (acc:List AV) (tp:Tip) (τ ω),k+j=ar.length->(tp= .tip\/tp= .nil)->acc=(ar.take k).map (rdy s.m e)->
  τ 2=V.A->τ 3= .ptr D 3 1 0->τ 6= .ptr D 6 1 0->τ 7= .ptr D 7 1 0->τ 30= .sl 4 (ar.map encM) .no->τ 31= .int .i64 ar.length->τ 32= .int .i64 k->
  ω 3=(1,.cells [.int .i64 s.f.k,.int .i64 s.f.n,.sl 3 (s.f.gs.map encF) .no,.sl 3 (s.m.map encV) .no])->ω 6=(1,.cells [.int .i64 0,.int .i64 0,.int .i64 0,.sl 5 [] .tip,.sl 1 [] .tip])->ω 7=(1,.cells [.int .i64 o,.int .i64 n,.int .i64 m,.sl 5 acc tp,.sl 1 [] .tip])->
  Rd (Loc Pg Gl) .im (RetM [.cell 6 true 5] (.agg [.int .i64 o,.int .i64 n,.int .i64 m,.sl 5 (ar.map (rdy s.m e)) .no,.sl 1 [] .no]) D S []) [.lp c67_l0,.blk 0,.c c67_k0] (stF 47 D τ ω S):=by
 intro j
 induction j with
 | zero=>
  intro k acc tp τ ω hk htp hacc t2 t3 t6 t7 t30 t31 t32 w3 w6 w7
  refine zK c67_l0.eq_1 ?_
  obtain rfl:k=ar.length:=by omega
  rw[List.take_of_length_le (Nat.le_refl _)] at hacc
  subst hacc
  rcases htp with rfl | rfl<;>simp[t6,t7,t30,t31,t32,w6,w7,c67_k0,upds]
 | succ j ih=>
  intro k acc tp τ ω hk htp hacc t2 t3 t6 t7 t30 t31 t32 w3 w6 w7
  refine zK c67_l0.eq_1 ?_
  have hlt:k < ar.length:=by omega
  have hwr:=z6 hlt (by unfold maxLen;omega)
  have hal:acc.length=k:=by rw[hacc];simp;omega
  have hle:(k+1)*72<=1099511627776:=by omega
  have hc:=hrec ar[k] (List.getElem_mem hlt) (D+1) (VA.dp_succ hD)
  rw[rdy_eta] at hc
  have hnx:=ih (k+1) (acc++[rdy s.m e ar[k]]) .tip
  have hacc':acc++[rdy s.m e ar[k]]=(ar.take (k+1)).map (rdy s.m e):=by rw[hacc,List.take_succ_eq_append_getElem hlt,List.map_append];rfl
  have hR:=rdyC_RC s.m e ar[k]
  obtain ⟨hrc,hrd,hrs,hrv,hro⟩:=hR.facts
  have hone:∀x∈rdyC s.m e ar[k],x.one=true:=fun x hx=>(hR.2 x hx).1
  obtain ⟨hst,hup⟩:=rdyC_st s.m e ar[k]
  have hfz:=rdyC_frz s.m e ar[k]
  rw[rdy_eta] at hnx hacc'
  generalize rdyC s.m e ar[k]=rc at*
  have htp':(tp= .nil\/tp= .tip)=True:=by simp;exact htp.symm
  simp[t2,t3,t6,t7,t30,t31,t32,w3,w6,w7,hlt,hwr,zB ar[k],encY] at hc|-
  refine zJ hc (by simp[t2]) (memN hS) (by simp) ?_
  simp[t2,t3,t6,t7,w3,w6,w7,htp,htp',hal,hle,t32,hwr,hrc,hrd,hone,hfz,hrs]
  rw[if_pos hone]
  simp[t2,t3,t6,t7,w3,w6,w7,htp,htp',hal,hle,t32,hwr,hrc,hrd]
  refine ⟨fun a a1 a2 b hm=> .inl fun h=>by have:=(hS _ hm).1;simp only at this;omega,?_⟩
  refine hnx _ _ (by omega) (.inl rfl) hacc' ?_ ?_ ?_ ?_ ?_ ?_ ?_ ?_ ?_ ?_
  all_goals simp[t2,t3,t6,t7,t30,t31,w3,w6,encY]
theorem list67 (o n m:Int) (ho:o≠4) (ar:List Fm) (hlen:ar.length<=2^30) (hrec:∀a∈ar,Sub67 s e V a):Sub67 s e V (.mk o n m ar):=by
 intro D hD
 refine zX zF tok rfl rfl fun S hS=> ?_
 have hr:rdy s.m e (.mk o n m ar)= .agg [.int .i64 o,.int .i64 n,.int .i64 m,.sl 5 (ar.map (rdy s.m e)) .no,.sl 1 [] .no]:=by
  rw[rdy,if_neg ho,rdys_map]
 rw[hr]
 have hd:decide (o=4)=false:=decide_eq_false ho
 unfold c67
 simp[zL,encY,hd]
 refine l67 s e V o n m ar hlen hrec hD S hS ar.length 0 [] .tip _ _ (by omega) (.inl rfl) rfl ?_ ?_ ?_ ?_ ?_ ?_ ?_ ?_ ?_ ?_
 all_goals simp
end
theorem set_all (s:Sy) (hsh:zI s.f=true) (hn:s.m.length < 2^31) (hnx:∀v∈s.m,valN s.m.length v s.f=true/\zG v<=2000) (e:List Nat) (V:VA) {vars:Nat} (hE:∀i:Nat,i < vars->V.B[i]?=some (zY s.m.length (e.getD i 0))):∀a:Fm,zZ a<=2^30->
  (∀odd,valM s.f vars none odd a=true->Sub22 s e V a)/\(∀g odd,valM s.f vars (some g) odd a=true->Sub67 s e V a):=by
 refine Fm.ind' fun o n m ar ih hsz=> ?_
 rw[zZ] at hsz
 have hlen:ar.length<=2^30:=by have:=nodesMs_len ar;omega
 have hsub:∀b∈ar,zZ b<=2^30:=fun b hb=>by have:=nodesMs_le hb;omega
 have one:∀{md odd},ar.length=1->y5 s.f vars md odd ar=true->∃b,ar= [b]/\valM s.f vars md odd b=true:=by
  intro md odd hl h
  rcases ar with _ | ⟨b,_ | ⟨c,l⟩⟩<;>simp at hl
  simp only[y5,Bool.and_true] at h
  exact ⟨b,rfl,h⟩
 have two:∀{md odd},ar.length=2->y5 s.f vars md odd ar=true->∃b b',ar= [b,b']/\valM s.f vars md odd b=true/\valM s.f vars md odd b'=true:=by
  intro md odd hl h
  rcases ar with _ | ⟨b,_ | ⟨c,_ | ⟨x,l⟩⟩⟩<;>simp at hl
  simp only[y5,Bool.and_true,Bool.and_eq_true] at h
  exact ⟨b,c,rfl,h⟩
 have mem67:∀g odd,y5 s.f vars (some g) odd ar=true->∀b∈ar,Sub67 s e V b:=by
  intro g odd h
  have:∀l:List Fm,(∀b∈l,b∈ar)->y5 s.f vars (some g) odd l=true->∀b∈l,Sub67 s e V b:=by
   intro l
   induction l with
   | nil=>intro _ _ b hb;cases hb
   | cons c l ihl=>
    intro hm h b hb
    rw[y5,Bool.and_eq_true] at h
    rcases List.mem_cons.1 hb with rfl | hb
    ·exact (ih b (hm b (by simp)) (hsub b (hm b (by simp)))).2 g odd h.1
    ·exact ihl (fun x hx=>hm x (by simp[hx])) h.2 b hb
  exact this ar (fun _ h=>h) h
 constructor
 ·intro odd h
  by_cases o0:o=0
  ·subst o0
   rw[yW,if_pos rfl] at h
   simp only[Bool.and_eq_true] at h
   have:ar= []:=by simpa using h.1.1
   subst this
   exact top22 s hsh hn hnx e V n m
  by_cases o1:o=1
  ·subst o1
   rw[yW,if_neg o0,if_pos rfl] at h
   simp only[Bool.and_eq_true,decide_eq_true_eq] at h
   obtain ⟨b,rfl,hb⟩:=one h.1.2 h.2
   exact not22 s hn e V b n m ((ih b (by simp) (hsub b (by simp))).1 _ hb)
  by_cases o2:o=2
  ·subst o2
   rw[yW,if_neg o0,if_neg o1,if_pos rfl] at h
   simp only[Bool.and_eq_true,decide_eq_true_eq] at h
   obtain ⟨b,b',rfl,hb,hb'⟩:=two h.1.2 h.2
   exact and22 s hn e V b b' n m ((ih b (by simp) (hsub b (by simp))).1 _ hb) ((ih b' (by simp) (hsub b' (by simp))).1 _ hb')
  have hcm:comM o=false:=by simp[comM,o0,o1,o2]
  rw[valM_common _ _ _ _ _ _ _ _ hcm] at h
  simp only at h
  by_cases o3:o=3
  ·subst o3
   rw[if_pos rfl] at h
   simp only[Bool.and_eq_true,decide_eq_true_eq] at h
   obtain ⟨b,rfl,hb⟩:=one h.1.2 h.2
   exact step22 s hsh hn hnx e V b n m hb ((ih b (by simp) (hsub b (by simp))).2 _ _ hb)
  ·rw[if_neg o3] at h
   by_cases o14:o=14
   ·subst o14
    rw[if_pos rfl] at h
    simp only[Bool.and_eq_true,decide_eq_true_eq] at h
    have har:ar= []:=by simpa using h.1.1.1.1
    subst har
    have hV:=hE n.toNat (by omega)
    intro D hD
    have:=var22 s hn V n m n.toNat (by omega) _ hV (bitsL_len _ _) D hD
    rw[evS_mk,if_neg (by omega),if_pos rfl]
    exact this
   ·rw[if_neg o14] at h;cases h
 ·intro g odd h
  by_cases o0:o=0
  ·subst o0
   rw[yW,if_pos rfl] at h
   simp only[Bool.and_eq_true] at h
   have:ar= []:=by simpa using h.1.1
   subst this
   exact list67 s e V 0 n m (by omega) [] (by simp) (by simp)
  by_cases o1:o=1
  ·subst o1
   rw[yW,if_neg o0,if_pos rfl] at h
   simp only[Bool.and_eq_true] at h
   exact list67 s e V 1 n m (by omega) ar hlen (mem67 _ _ h.2)
  by_cases o2:o=2
  ·subst o2
   rw[yW,if_neg o0,if_neg o1,if_pos rfl] at h
   simp only[Bool.and_eq_true] at h
   exact list67 s e V 2 n m (by omega) ar hlen (mem67 _ _ h.2)
  have hcm:comM o=false:=by simp[comM,o0,o1,o2]
  rw[valM_some _ _ _ _ _ _ _ _ hcm] at h
  by_cases o4:o=4
  ·subst o4
   rw[if_pos rfl] at h
   simp only[Bool.and_eq_true,decide_eq_true_eq] at h
   obtain ⟨b,rfl,hb⟩:=one h.1.2.1 h.2
   exact state67 s e V b n m ((ih b (by simp) (hsub b (by simp))).1 _ hb)
  ·rw[if_neg o4] at h
   by_cases o5:o=5
   ·subst o5
    rw[if_pos rfl] at h
    simp only[Bool.and_eq_true] at h
    have:ar= []:=by simpa using h.1.2
    subst this
    exact list67 s e V 5 n m (by omega) [] (by simp) (by simp)
   ·rw[if_neg o5] at h
    simp only[Bool.and_eq_true] at h
    exact list67 s e V o n m o4 ar hlen (mem67 _ _ h.2)
end Go.Ab.Tab
/- The reference's solution: same,from. -/
namespace Go.Ab.Tab
open Go Go.Ab
theorem l123 {D d0:Nat} (hd:d0 < D) (a:List Bool) (x:Rx) (hl:a.length=x.B.length) (hn:a.length < 2^31) {S:Nat->Nat->Ent} (hS:∀m∈x.M d0,m.1 < D/\S m.1 m.2.1=m.2.2):∀(j i:Nat) (τ ω),i+j=a.length->
  τ 0=zV a->τ 1=x.A d0->τ 7= .int .i64 a.length->τ 8= .int .i64 i->
  Rd (Loc Pg Gl) .im (RetM [.tmp 4] (.bool (decide (a.drop i=x.B.drop i))) D S []) [.lp c123_l0,.blk 0,.c c123_k0] (stF 21 D τ ω S):=by
 have hne:¬d0=D:=by omega
 intro j
 induction j with
 | zero=>
  intro i τ ω hi t0 t1 t7 t8
  refine zK c123_l0.eq_1 ?_
  obtain rfl:i=a.length:=by omega
  rw[List.drop_length,hl,List.drop_length]
  simp[t7,t8,c123_k0,upds]
 | succ j ih=>
  intro i τ ω hi t0 t1 t7 t8
  refine zK c123_l0.eq_1 ?_
  have hlt:i < a.length:=by omega
  have hlt2:i < x.B.length:=by omega
  have hwr:IntKind.i64.wrap ((i:Int)+1)=((i+1:Nat):Int):=by rw[<-zE (n:=i+1) (by omega)];rfl
  have t0':=t0
  unfold zV at t0
  rw[List.drop_eq_getElem_cons hlt,List.drop_eq_getElem_cons hlt2]
  have hdec:decide (a[i]::a.drop (i+1)=x.B[i]::x.B.drop (i+1))=(a[i]==x.B[i]&&decide (a.drop (i+1)=x.B.drop (i+1))):=by
   rw[Bool.eq_iff_iff];simp only[decide_eq_true_eq,Bool.and_eq_true,beq_iff_eq,List.cons.injEq]
  rw[hdec]
  have nxt:∀τ1,τ1 0=τ 0->τ1 1=τ 1->τ1 7=τ 7->τ1 8= .int .i64 ((i+1:Nat):Int)->Rd (Loc Pg Gl) .im (RetM [.tmp 4] (.bool (decide (a.drop (i+1)=x.B.drop (i+1)))) D S []) [.lp c123_l0,.blk 0,.c c123_k0] (stF 21 D τ1 ω S):=fun τ1 a0 a1 a7 a8=>
   ih (i+1) τ1 ω (by omega) (a0.trans t0') (a1.trans t1) (a7.trans t7) a8
  cases x with
  | im b=>
   have hlb:i < b.length:=hlt2
   have hlb':(i:Int) < b.length:=by omega
   simp only[Rx.A,zV] at t1
   simp only[Rx.B] at nxt|-
   by_cases h1:a[i]=b[i]
   ·simp[t0,t1,t7,t8,hlt,hlb,hlb',hwr,h1]
    refine nxt _ ?_ ?_ ?_ ?_
    all_goals simp
   ·have h2:(a[i]==b[i])=false:=by simpa using h1
    simp[t0,t1,t7,t8,hlt,hlb,hlb',hwr,h2,upds]
  | ow x=>
   have hlb:i < x.b.length:=hlt2
   have hlb':(i:Int) < x.b.length:=by omega
   have h0:=(hS (rowM d0 x) (by simp[Rx.M])).2
   simp only[rowM,rowE] at h0
   simp only[Rx.A,rowA] at t1
   simp only[Rx.B] at nxt|-
   by_cases h1:a[i]=x.b[i]
   ·simp[t0,t1,t7,t8,hne,h0,hlt,hlb,hlb',hwr,h1]
    refine nxt _ ?_ ?_ ?_ ?_
    all_goals simp
   ·have h2:(a[i]==x.b[i])=false:=by simpa using h1
    simp[t0,t1,t7,t8,hne,h0,hlt,hlb,hlb',hwr,h2,upds]
theorem spec123 (D d0:Nat) (hd:d0 < D) (a:List Bool) (x:Rx) (hl:a.length=x.B.length) (hn:a.length < 2^31):Go.Ab.Loc Pg Gl D 123 [zV a,x.A d0] (x.M d0) (.bool (decide (a=x.B))) []:=by
 refine zX zF tok rfl rfl fun S hS=> ?_
 have h:=l123 hd a x hl hn hS a.length 0
 simp only[List.drop_zero] at h
 unfold c123
 simp[zV]
 refine h _ _ (by omega) ?_ ?_ ?_ ?_
 case refine_2=>cases x<;>rfl
 all_goals simp[zV]
theorem bitsL_inj {n X Y:Nat} (hX:sub X (allT n)) (hY:sub Y (allT n)):zY n X=zY n Y↔X=Y:=by
 refine ⟨fun h=> ?_,fun h=>by rw[h]⟩
 apply Nat.eq_of_testBit_eq;intro i
 by_cases hi:i < n
 ·have:=congrArg (fun l=>l[i]?) h
  simpa[zY,hi] using this
 ·have key:∀Z,sub Z (allT n)->Z.testBit i=false:=fun Z hZ=>by
   cases hz:Z.testBit i
   ·rfl
   ·have:=hZ i hz;rw[allT_bit] at this;simp[hi] at this
  rw[key X hX,key Y hY]
end Go.Ab.Tab
/- The reference's solution: from. -/
namespace Go.Ab.Tab
open Go Go.Ab
theorem upS {n D:Nat} {τ:Nat->AV} {ω:Nat->Ent}:∀(dl:List (Nat×Nat×Ent)) (S:Nat->Nat->Ent),(∀u∈dl,u.1≠D)->dl.foldl St.up (stF n D τ ω S)=stF n D τ ω (upds S dl)
 | [],S,_=>rfl
 | u::dl,S,h=>by
  obtain ⟨d,i,e⟩:=u
  have hd:¬d=D:=h (d,i,e) (by simp)
  rw[List.foldl_cons,stF_up,if_neg hd,upS dl _ fun v hv=>h v (by simp[hv])]
  rfl
def outE (d0 g:Nat) (R:List Rx) (J:List AV):Ent:=(g,.cells (R.map (Rx.A d0)++J))
def slM (d0 base k N:Nat) (E:Nat->Ent):List (Nat×Nat×Ent):=(List.range (N - k)).map fun i=>(d0,base+k+i,E (base+k+i))
def fromM (d0 o g base k N:Nat) (R:List Rx) (J:List AV) (E:Nat->Ent):List (Nat×Nat×Ent):=(d0,o,outE d0 g R J)::(R.flatMap (Rx.M d0)++slM d0 base k N E)
def fromD (d0 o g base k N:Nat) (R X:List Rx) (E:Nat->Ent):List (Nat×Nat×Ent):=(d0,o,outE d0 g (R++X) [])::slM d0 base k N E
def Sf (S:Nat->Nat->Ent) (d0 o base k N:Nat) (ent:Ent) (E:Nat->Ent):Nat->Nat->Ent:=fun d t=>
 if d=d0/\t=o then ent else if d=d0/\base+k<=t/\t < base+N then E t else S d t
theorem upds_cons (S:Nat->Nat->Ent) (u:Nat×Nat×Ent) (dl:List (Nat×Nat×Ent)):upds S (u::dl)=upds (updS S u.1 u.2.1 u.2.2) dl:=rfl
theorem Sf_upds {S:Nat->Nat->Ent} {d0 o g base k N:Nat} {R X:List Rx} {E:Nat->Ent} (ho:o < base) (hk:k<=N):upds S (fromD d0 o g base k N R X E)=Sf S d0 o base k N (outE d0 g (R++X) []) E:=by
 unfold fromD slM
 rw[upds_cons,upds_rows (d0:=d0) (base:=base+k) (fun i=>E (base+k+i)) (N - k)]
 funext d t
 unfold Sf updS
 by_cases h1:d=d0/\t=o
 ·have h2:¬(d=d0/\base+k<=t/\t < base+k+(N - k)):=fun h=>by have:=h1.2;have:=h.2.1;omega
  simp only[if_neg h2,if_pos h1]
 ·by_cases h2:d=d0/\base+k<=t/\t < base+N
  ·have h3:d=d0/\base+k<=t/\t < base+k+(N - k):=⟨h2.1,h2.2.1,by have:=h2.2.2;omega⟩
   simp only[if_neg h1,if_pos h2,if_pos h3]
   congr 1;omega
  ·have h3:¬(d=d0/\base+k<=t/\t < base+k+(N - k)):=fun h=>h2 ⟨h.1,h.2.1,by have:=h.2.2;omega⟩
   simp only[if_neg h1,if_neg h2,if_neg h3]
theorem Sf_o {S:Nat->Nat->Ent} {d0 o base k N:Nat} {ent:Ent} {E:Nat->Ent}:Sf S d0 o base k N ent E d0 o=ent:=if_pos ⟨rfl,rfl⟩
theorem Sf_sl {S:Nat->Nat->Ent} {d0 o base k N t:Nat} {ent:Ent} {E:Nat->Ent} (ho:o < base) (h1:base+k<=t) (h2:t < base+N):Sf S d0 o base k N ent E d0 t=E t:=by
 unfold Sf;rw[if_neg (by omega),if_pos ⟨rfl,h1,h2⟩]
theorem Sf_lo {S:Nat->Nat->Ent} {d0 o base k N t:Nat} {ent:Ent} {E:Nat->Ent} (h0:t≠o) (h1:t < base+k):Sf S d0 o base k N ent E d0 t=S d0 t:=by
 unfold Sf;rw[if_neg (by omega),if_neg (by omega)]
theorem Sf_uo {S:Nat->Nat->Ent} {d0 o base k N:Nat} {ent e2:Ent} {E:Nat->Ent}:updS (Sf S d0 o base k N ent E) d0 o e2=Sf S d0 o base k N e2 E:=by
 funext d t
 unfold updS Sf
 by_cases h1:d=d0/\t=o
 ·rw[if_pos h1,if_pos h1]
 ·rw[if_neg h1,if_neg h1,if_neg h1]
def Em (base k N:Nat) (E E3:Nat->Ent):Nat->Ent:=fun t=>if base+k+1<=t/\t < base+N then E3 t else E t
theorem Sf_in {S:Nat->Nat->Ent} {d0 o base k N:Nat} {ent e2:Ent} {E E3:Nat->Ent}:Sf (Sf S d0 o base k N ent E) d0 o base (k+1) N e2 E3=Sf S d0 o base k N e2 (Em base k N E E3):=by
 funext d t
 unfold Sf Em
 by_cases h1:d=d0/\t=o
 ·simp only[if_pos h1]
 ·by_cases h2:d=d0/\base+(k+1)<=t/\t < base+N
  ·have h3:d=d0/\base+k<=t/\t < base+N:=⟨h2.1,by have:=h2.2.1;omega,h2.2.2⟩
   have h4:base+k+1<=t/\t < base+N:=⟨by have:=h2.2.1;omega,h2.2.2⟩
   simp only[if_neg h1,if_pos h2,if_pos h3,if_pos h4]
  ·by_cases h3:d=d0/\base+k<=t/\t < base+N
   ·have h4:¬(base+k+1<=t/\t < base+N):=fun h=>h2 ⟨h3.1,by have:=h.1;omega,h.2⟩
    simp only[if_neg h1,if_neg h2,if_pos h3,if_neg h4]
   ·simp only[if_neg h1,if_neg h2,if_neg h3]
def plR (base:Nat) (R:List Rx):Prop:=∀i (h:i < R.length) x,R[i]= .ow x->x.s=base+i
def Spec93 (s:Sy) (l:List Eqn) (d0 o g base:Nat) (k:Nat):Prop:=∀(D:Nat) (R:List Rx) (J:List AV) (E:Nat->Ent) (e:Nat->Nat),d0 < D->R.length=k->J.length=l.length - k->plR base R->yR s.m e->(∀i (h:i < R.length),R[i].B=zY s.m.length (e i))->
 ∃(X:List Rx) (E':Nat->Ent),X.length=l.length - k/\(∀j (h:j < X.length),X[j].B=zY s.m.length (sol s.m (l.drop k) k e (k+j)))/\(∀j (h:j < X.length) x,X[j]= .ow x->x.s=base+k+j/\E' (base+k+j)=rowE x)/\
  (∀t,base+k<=t->t < base+l.length->(E' t).2≠ .dead)/\Go.Ab.Loc Pg Gl D 93 [encY s,encL l,.own d0 o g 0 l.length 1 false,.int .i64 k] (fromM d0 o g base k l.length R J E) (.tup []) (fromD d0 o g base k l.length R X E')
theorem l93a {D d0 o g base k gk:Nat} (hd:d0 < D) {l:List Eqn} (hk:k < l.length) (ho:o < base) {R:List Rx} (hR:R.length=k) {J:List AV} {n:Nat} (hn:n < 2^31) {S2:Nat->Nat->Ent} {b0:List Bool} (hb0:b0.length=n) (hSo:S2 d0 o=outE d0 g (R++[.ow ⟨base+k,gk,b0⟩]) J) {Q:St->Prop} {K:List AI}:
  ∀(j i:Nat) (τ ω),i+j=n->τ 1=encL l->τ 2= .own d0 o g 0 l.length 1 false->τ 3= .int .i64 k->τ 25= .int .i64 n->τ 26= .int .i64 i->
  (∀τ',τ' 1=τ 1->τ' 2=τ 2->τ' 3=τ 3->τ' 4=τ 4->Rd (Loc Pg Gl) .pl Q K (stF 65 D τ' ω (updS S2 d0 (base+k) (gk,.cells ((List.replicate n l[k].gr).map AV.bool)))))->
  Rd (Loc Pg Gl) .pl Q (.lp c93_l0:: .blk 0::K) (stF 65 D τ ω (updS S2 d0 (base+k) (gk,.cells ((fillN (List.replicate n l[k].gr) i).map AV.bool)))):=by
 have hne:¬d0=D:=by omega
 have hkk:(k:Int) < l.length:=by omega
 have hne2:o≠base+k:=by omega
 have hRk:(R++[Rx.ow ⟨base+k,gk,b0⟩]).length=k+1:=by simp[hR]
 have hck:((R++[Rx.ow ⟨base+k,gk,b0⟩]).map (Rx.A d0)++J)[k]?=some (.own d0 (base+k) gk 0 n 1 false):=by
  rw[List.getElem?_append_left (by simp[hR]),List.getElem?_map,List.getElem?_append_right (by omega),hR,Nat.sub_self]
  simp[Rx.A,rowA,hb0]
 unfold outE at hSo
 generalize hC:(R++[Rx.ow ⟨base+k,gk,b0⟩]).map (Rx.A d0)++J=C at*
 obtain ⟨hkC,hCk⟩:=List.getElem?_eq_some_iff.1 hck
 intro j
 induction j with
 | zero=>
  intro i τ ω hi t1 t2 t3 t25 t26 hK
  refine zK c93_l0.eq_1 ?_
  obtain rfl:i=n:=by omega
  have hf:=fillN_end (List.replicate i l[k].gr)
  rw[List.length_replicate] at hf
  rw[hf]
  simp[t25,t26]
  have:=hK
  simp at this
  refine this _ ?_ ?_ ?_ ?_
  all_goals simp
 | succ j ih=>
  intro i τ ω hi t1 t2 t3 t25 t26 hK
  refine zK c93_l0.eq_1 ?_
  have hlt:i < n:=by omega
  have hlt':(i:Int) < n:=by omega
  have hwr:IntKind.i64.wrap ((i:Int)+1)=((i+1:Nat):Int):=by rw[<-zE (n:=i+1) (by omega)];rfl
  have hstep:=fillN_step (R:=List.replicate n l[k].gr) (i:=i) (by simpa using hlt)
  have hl:=fillN_len (List.replicate n l[k].gr) i (by simp;omega)
  have ih1:=ih (i+1)
  rw[List.length_replicate] at hl
  simp only[List.getElem_replicate] at hstep
  rw[<-hstep] at ih1
  have t1':=t1
  unfold encL at t1
  generalize fillN (List.replicate n l[k].gr) i=F at*
  simp[t1,t2,t3,t25,t26,hne,yA hne2,hSo,hkC,hCk,hlt,hlt',hk,hkk,encE,hwr,show i+1<=F.length by omega]
  refine ih1 _ ω (by omega) ?_ ?_ ?_ ?_ ?_ fun τ' a1 a2 a3 a4=>hK τ' (a1.trans ?_) (a2.trans ?_) (a3.trans ?_) (a4.trans ?_)
  all_goals simp[t1',t2,t3,t25]
end Go.Ab.Tab
/- The reference's solution: from,Solve. -/
namespace Go.Ab.Tab
open Go Go.Ab
theorem sol_rec (nx:List Va) {l:List Eqn} {k:Nat} (hk:k < l.length) (e:Nat->Nat):sol nx (l.drop k) k e=sol nx (l.drop (k+1)) (k+1) (updE e k (fixT nx.length l[k].gr fun X=>bodE nx l[k] (sol nx (l.drop (k+1)) (k+1) (updE e k X)))):=by
 rw[List.drop_eq_getElem_cons hk,sol_cons];rfl
theorem set_mid2 {P:List AV} {k:Nat} (h:P.length=k) (b c:AV) (B:List AV):List.take k (P++b::B)++c::List.drop (k+1) (P++b::B)=P++c::B:=by
 have:=set_mid' (fun x:AV=>x) h b c B
 simpa using this
section
variable {s:Sy} (hsh:zI s.f=true) (hn:s.m.length < 2^31) (hnx:∀v∈s.m,valN s.m.length v s.f=true/\zG v<=2000) {l:List Eqn} (hl4:l.length<=4) (hlk:eqOk s.f l.length l) (hsz:∀x∈l,zZ x.body<=2^30) {d0 o g base k:Nat} (ho:o < base) (hk:k < l.length) (hin:Spec93 s l d0 o g base (k+1))
include hsh hn hnx hl4 hlk hsz ho hk hin
theorem l93b {D:Nat} (hD:d0 < D) {R:List Rx} (hR:R.length=k) (hpl:plR base R) {e:Nat->Nat} (he:yR s.m e) (hRb:∀i (h:i < R.length),R[i].B=zY s.m.length (e i)) {H:Nat->Nat} (hH:H=fun X=>bodE s.m l[k] (sol s.m (l.drop (k+1)) (k+1) (updE e k X))) {F:Nat}:
  ∀(m X:Nat) (cur:Rx) (J:List AV) (E:Nat->Ent),sub X (allT s.m.length)->(if l[k].gr then X < m else 2^s.m.length<=X+m)->leB l[k].gr X (H X)->itN H m X=F->cur.B=zY s.m.length X->(∀x,cur= .ow x->x.s=base+k/\E (base+k)=rowE x)->(E (base+k)).2≠ .dead->J.length=l.length - (k+1)->
  ∃(X':List Rx) (E':Nat->Ent),X'.length=l.length - k/\(∀j (h:j < X'.length),X'[j].B=zY s.m.length (sol s.m (l.drop (k+1)) (k+1) (updE e k F) (k+j)))/\(∀j (h:j < X'.length) x,X'[j]= .ow x->x.s=base+k+j/\E' (base+k+j)=rowE x)/\
   (∀t,base+k<=t->t < base+l.length->(E' t).2≠ .dead)/\∀(S:Nat->Nat->Ent),(∀m∈R.flatMap (Rx.M d0),m.1 < D/\S m.1 m.2.1=m.2.2)->∀τ ω,τ 1=encL l->τ 2= .own d0 o g 0 l.length 1 false->τ 3= .int .i64 k->τ 4= .ptr D 4 1 0->
    ω 4=(1,.cells [.int .i64 s.f.k,.int .i64 s.f.n,.sl 3 (s.f.gs.map encF) .no,.sl 3 (s.m.map encV) .no])->
    Rd (Loc Pg Gl) .pl (RetM [] (.tup []) D S (fromD d0 o g base k l.length R X' E')) [.lp c93_l1,.blk 2] (stF 65 D τ ω (Sf S d0 o base k l.length (outE d0 g (R++[cur]) J) E)):=by
 have hne:¬d0=D:=by omega
 have hnx':∀v∈s.m,valN s.m.length v s.f=true:=fun v hv=>(hnx v hv).1
 have hlk':eqOk s.f l.length (l.drop (k+1)):=fun y hy=>hlk y (List.mem_of_mem_drop hy)
 have hmo:=sol_mono hsh hnx' (l.drop (k+1)) (k+1) hlk'
 have hHs:∀X,sub X (allT s.m.length)->sub (H X) (allT s.m.length):=fun X hX=>by rw[hH];exact bod_all _ (hmo.1 _ (yM s.m he hX))
 have hHm:∀X Y,sub X (allT s.m.length)->sub Y (allT s.m.length)->leB l[k].gr X Y->leB l[k].gr (H X) (H Y):=fun X Y hX hY hXY=>by
  rw[hH]
  refine bod_mono hsh hnx' (hlk _ (List.getElem_mem hk)) _ fun i=>hmo.2 _ _ _ (yM s.m he hX) (yM s.m he hY) (fun i _=> ?_) i
  by_cases hik:i=k
  ·rw[hik,z5,z5];exact hXY
  ·rw[yN hik,yN hik];exact leB_refl ..
 intro m
 induction m with
 | zero=>
  intro X cur J E hX hms
  have:=sub_allT.1 hX
  cases hg:l[k].gr<;>rw[hg] at hms<;>simp at hms
  omega
 | succ m ih=>
  intro X cur J E hX hms hle hit hcB hcur hdead hJ
  have hea:=yM s.m he hX (k:=k)
  have hRk:(R++[cur]).length=k+1:=by simp[hR]
  obtain ⟨X3,E3,x1,x2,x3,x4,h93⟩:=hin (D+1) (R++[cur]) J E (updE e k X) (by omega) hRk hJ (fun i h x hx=>by
    by_cases hik:i < k
    ·rw[List.getElem_append_left (by omega)] at hx;exact hpl i (by omega) x hx
    ·have:i=k:=by omega
     subst this
     rw[List.getElem_append_right (by omega)] at hx
     simp[hR] at hx
     exact (hcur x hx).1) hea (fun i h=>by
    by_cases hik:i < k
    ·rw[List.getElem_append_left (by omega),yN (by omega)];exact hRb i (by omega)
    ·have:i=k:=by omega
     subst this
     rw[List.getElem_append_right (by omega),z5]
     simp[hR];exact hcB)
  have hHX:H X=bodE s.m l[k] (sol s.m (l.drop (k+1)) (k+1) (updE e k X)):=by rw[hH]
  generalize he1:sol s.m (l.drop (k+1)) (k+1) (updE e k X)=e1 at*
  have hNl:(R++cur::X3).length=l.length:=by simp[hR,x1];omega
  have hVB:∀i:Nat,i < l.length->(VA.ow d0 o g (R++cur::X3)).B[i]?=some (zY s.m.length ((e4 e1).getD i 0)):=by
   intro i hi
   rw[e4_get,if_pos (by omega)]
   show ((R++cur::X3).map Rx.B)[i]?=_
   rw[List.getElem?_map,List.getElem?_eq_getElem (by omega)]
   simp only[Option.map_some]
   congr 1
   by_cases hik:i < k
   ·rw[List.getElem_append_left (by omega),hRb i (by omega),<-he1,sol_lt _ _ _ _ _ (by omega),yN (by omega)]
   ·rw[List.getElem_append_right (by omega)]
    by_cases hik2:i=k
    ·subst hik2
     simp only[hR,Nat.sub_self,List.getElem_cons_zero]
     rw[hcB,<-he1,sol_lt _ _ _ _ _ (by omega),z5]
    ·obtain ⟨j,rfl⟩:∃j,i=k+1+j:=⟨i - (k+1),by omega⟩
     have e2:k+1+j - R.length=j+1:=by omega
     simp only[e2,List.getElem_cons_succ]
     rw[x2 j (by omega)]
  have h22:=((set_all s hsh hn hnx (e4 e1) (.ow d0 o g (R++cur::X3)) hVB l[k].body (hsz _ (List.getElem_mem hk))).1 false (hlk _ (List.getElem_mem hk))) (D+1) (show d0 < D+1 by omega)
  have hbe:evS s.m (e4 e1) l[k].body=H X:=by rw[hHX];rfl
  rw[hbe] at h22
  have hbl:=bitsL_len s.m.length (H X)
  have h123:=spec123 (D+1) d0 (by omega) (zY s.m.length (H X)) cur (by rw[hbl,hcB,bitsL_len]) (by omega)
  have hdec:decide (zY s.m.length (H X)=cur.B)=decide (H X=X):=by rw[hcB];exact decide_eq_decide.2 (bitsL_inj (hHs X hX) hX)
  rw[hdec] at h123
  have hkk:(k:Int) < l.length:=by omega
  have hwr:IntKind.i64.wrap ((k:Int)+1)=((k+1:Nat):Int):=by rw[<-zE (n:=k+1) (by omega)];rfl
  have hRM:∀i (h:i < R.length) x,R[i]= .ow x->rowM d0 x∈R.flatMap (Rx.M d0):=fun i h x hx=>List.mem_flatMap.2 ⟨R[i],List.getElem_mem h,by rw[hx];simp[Rx.M]⟩
  have hoe:outE d0 g ((R++[cur])++X3) []=outE d0 g (R++[cur]) (X3.map (Rx.A d0)):=by unfold outE;simp
  have hoe2:outE d0 g (R++(cur::X3)) []=outE d0 g (R++[cur]) (X3.map (Rx.A d0)):=by unfold outE;simp
  -- what holds of the objects
  have hMem:∀(S:Nat->Nat->Ent) (τ ω) (J:List AV) (E:Nat->Ent),(∀m∈R.flatMap (Rx.M d0),m.1 < D/\S m.1 m.2.1=m.2.2)->(∀x,cur= .ow x->x.s=base+k/\E (base+k)=rowE x)->∀m∈(R++[cur]).flatMap (Rx.M d0),m.1<=D/\(m.1=D->m.2.1 < 65)/\(stF 65 D τ ω (Sf S d0 o base k l.length (outE d0 g (R++[cur]) J) E)).look m.1 m.2.1=m.2.2:=by
   intro S τ ω J E hS hc m hm
   obtain ⟨y,hy,hmy⟩:=List.mem_flatMap.1 hm
   cases y with
   | im b=>simp[Rx.M] at hmy
   | ow x=>
    simp only[Rx.M,List.mem_singleton] at hmy
    subst hmy
    refine ⟨Nat.le_of_lt hD,fun h=>absurd h hne,?_⟩
    rw[yB,if_neg (show¬(rowM d0 x).1=D from hne)]
    rcases List.mem_append.1 hy with hy | hy
    ·obtain ⟨i,hi,hix⟩:=List.getElem_of_mem hy
     have:=hpl i hi x hix
     show Sf S d0 o base k l.length _ E d0 x.s=rowE x
     rw[Sf_lo (by omega) (by omega)]
     exact (hS _ (hRM i hi x hix)).2
    ·rw[List.mem_singleton] at hy
     obtain ⟨c1,c2⟩:=hc x hy.symm
     show Sf S d0 o base k l.length _ E d0 x.s=rowE x
     rw[c1,Sf_sl ho (by omega) (by omega)];exact c2
  have hEmk:∀E,Em base k l.length E E3 (base+k)=E (base+k):=fun E=>by unfold Em;rw[if_neg (by omega)]
  have hEmd:∀t,base+k<=t->t < base+l.length->(Em base k l.length E E3 t).2≠ .dead:=fun t h1 h2=>by
   unfold Em
   by_cases h:base+k+1<=t
   ·rw[if_pos ⟨h,h2⟩];exact x4 t (by omega) h2
   ·rw[if_neg (fun hh=>h hh.1),show t=base+k by omega];exact hdead
  have hMemV:∀(S:Nat->Nat->Ent) (τ ω),(∀m∈R.flatMap (Rx.M d0),m.1 < D/\S m.1 m.2.1=m.2.2)->∀m∈(VA.ow d0 o g (R++cur::X3)).M,m.1<=D/\(m.1=D->m.2.1 < 65)/\(stF 65 D τ ω (Sf S d0 o base k l.length (outE d0 g (R++[cur]) (X3.map (Rx.A d0))) (Em base k l.length E E3))).look m.1 m.2.1=m.2.2:=by
   intro S τ ω hS m hm
   rcases List.mem_cons.1 hm with rfl | hm
   ·refine ⟨Nat.le_of_lt hD,fun h=>absurd h hne,?_⟩
    rw[yB,if_neg hne]
    refine Sf_o.trans ?_
    unfold outE;simp
   ·have e:R++cur::X3=(R++[cur])++X3:=by simp
    rw[e,List.flatMap_append] at hm
    rcases List.mem_append.1 hm with hm | hm
    ·exact hMem S τ ω _ _ hS (fun x hx=>by rw[hEmk];exact hcur x hx) m hm
    ·obtain ⟨y,hy,hmy⟩:=List.mem_flatMap.1 hm
     cases y with
     | im b=>simp[Rx.M] at hmy
     | ow x=>
      simp only[Rx.M,List.mem_singleton] at hmy
      subst hmy
      obtain ⟨j,hj,hjx⟩:=List.getElem_of_mem hy
      obtain ⟨c1,c2⟩:=x3 j hj x hjx
      refine ⟨Nat.le_of_lt hD,fun h=>absurd h hne,?_⟩
      rw[yB,if_neg (show¬(rowM d0 x).1=D from hne)]
      show Sf S d0 o base k l.length _ _ d0 x.s=rowE x
      rw[c1,Sf_sl ho (by omega) (by omega)]
      unfold Em
      rw[if_pos ⟨by omega,by omega⟩];exact c2
  have run:∀(S:Nat->Nat->Ent),(∀m∈R.flatMap (Rx.M d0),m.1 < D/\S m.1 m.2.1=m.2.2)->∀{Q:St->Prop} τ ω,τ 1=encL l->τ 2= .own d0 o g 0 l.length 1 false->τ 3= .int .i64 k->τ 4= .ptr D 4 1 0->
    ω 4=(1,.cells [.int .i64 s.f.k,.int .i64 s.f.n,.sl 3 (s.f.gs.map encF) .no,.sl 3 (s.m.map encV) .no])->
    (∀τ',τ' 1=encL l->τ' 2= .own d0 o g 0 l.length 1 false->τ' 3= .int .i64 k->τ' 4= .ptr D 4 1 0->τ' 9=zV (zY s.m.length (H X))->
     Rd (Loc Pg Gl) .pl Q [.c (sel (decide (H X=X)) .ret .skip),.c (.region [⟨some 61,.mov false (.t 2),none⟩,⟨some 62,.mov false (.t 3),none⟩,⟨some 63,.mov false (.t 9),none⟩,⟨some 64,.iaddrS 1 (.t 61) (.t 62),none⟩,⟨none,.store 1 (.t 64) (.t 63),none⟩] none),.blk 3,.lp c93_l1,.blk 2]
      (stF 65 D τ' ω (Sf S d0 o base k l.length (outE d0 g (R++[cur]) (X3.map (Rx.A d0))) (Em base k l.length E E3))))->
    Rd (Loc Pg Gl) .pl Q [.lp c93_l1,.blk 2] (stF 65 D τ ω (Sf S d0 o base k l.length (outE d0 g (R++[cur]) J) E)):=by
   intro S hS Q τ ω t1 t2 t3 t4 w4 hK
   refine zK c93_l1.eq_1 ?_
   simp[t1,t2,t3,t4,w4,hwr]
   refine zR h93 (by simp[encY,encL]) ?_ ?_ ?_
   ·intro m hm
    rcases List.mem_cons.1 hm with rfl | hm
    ·refine ⟨Nat.le_of_lt hD,fun h=>absurd h hne,?_⟩
     rw[yB,if_neg hne];exact Sf_o
    ·rcases List.mem_append.1 hm with hm | hm
     ·exact hMem S _ ω J E hS hcur m hm
     ·obtain ⟨i,hi,rfl⟩:=List.mem_map.1 hm
      have hi:=List.mem_range.1 hi
      refine ⟨Nat.le_of_lt hD,fun h=>absurd h hne,?_⟩
      rw[yB,if_neg hne];exact Sf_sl (t:=base+(k+1)+i) ho (by omega) (by omega)
   ·intro u hu
    rcases List.mem_cons.1 hu with rfl | hu
    ·exact ⟨List.mem_map.2 ⟨_,List.mem_cons_self ..,rfl⟩,by simp[outE]⟩
    ·obtain ⟨i,hi,rfl⟩:=List.mem_map.1 hu
     have hi':=List.mem_range.1 hi
     refine ⟨List.mem_map.2 ⟨(d0,base+(k+1)+i,E (base+(k+1)+i)),List.mem_cons_of_mem _ (List.mem_append.2 (.inr (List.mem_map.2 ⟨i,hi,rfl⟩))),rfl⟩,?_⟩
     exact x4 (base+(k+1)+i) (by omega) (by omega)
   rw[upS _ _ (fun u hu=>by
    rcases List.mem_cons.1 hu with rfl | hu
    ·exact hne
    ·obtain ⟨i,hi,rfl⟩:=List.mem_map.1 hu;exact hne),Sf_upds ho (by omega),Sf_in,hoe]
   have hcl:(R.map (Rx.A d0)++cur.A d0::X3.map (Rx.A d0)).length=l.length:=by simp[hR,x1];omega
   have hcg:∀h:k < (R.map (Rx.A d0)++cur.A d0::X3.map (Rx.A d0)).length,(R.map (Rx.A d0)++cur.A d0::X3.map (Rx.A d0))[k]=cur.A d0:=fun h=>by
    rw[List.getElem_append_right (by simp[hR])]
    simp[hR]
   have hoe3:outE d0 g (R++[cur]) (X3.map (Rx.A d0))=(g,.cells (R.map (Rx.A d0)++cur.A d0::X3.map (Rx.A d0))):=by unfold outE;simp
   have hkC:k < (R.map (Rx.A d0)++cur.A d0::X3.map (Rx.A d0)).length:=by omega
   have hAd:(cur.A d0).dem=cur.A d0/\(cur.A d0).strip=cur.A d0/\(cur.A d0).var1=cur.A d0:=by cases cur<;>exact ⟨rfl,rfl,rfl⟩
   simp[zB l[k].body,VA.A,hNl,encY] at h22
   simp[t1,t2,t3,t4,w4,hk,hkk,encL,encE]
   refine zJ h22 (by simp) (hMemV S _ ω hS) (by simp) ?_
   have hMc:=fun τ m hm=>hMemV S τ ω hS m hm
   have hcm:∀m∈cur.M d0,m∈(VA.ow d0 o g (R++cur::X3)).M:=fun m hm=>List.mem_cons_of_mem _ (List.mem_flatMap.2 ⟨cur,by simp,hm⟩)
   have hbd:(zV (zY s.m.length (H X))).dem=zV (zY s.m.length (H X))/\(zV (zY s.m.length (H X))).strip=zV (zY s.m.length (H X)):=⟨rfl,rfl⟩
   rw[hoe3] at hK hMc|-
   generalize R.map (Rx.A d0)++cur.A d0::X3.map (Rx.A d0)=C at*
   simp[t2,t3,hne,Sf_o,hkC,hkk,hcg]
   refine zR h123 (by simp[hAd.1,hAd.2.1,hbd.1,hbd.2]) (fun m hm=>hMc _ m (hcm m hm)) (by simp) ?_
   simp
   refine hK _ ?_ ?_ ?_ ?_ ?_
   all_goals simp[t1,t2,t3,t4,hbd.1,encL]
  by_cases hfix:H X=X
  ·rw[itN,if_pos hfix] at hit
   subst hit
   refine ⟨cur::X3,Em base k l.length E E3,by simp[x1];omega,fun j h=> ?_,fun j h x hx=> ?_,hEmd,fun S hS τ ω t1 t2 t3 t4 w4=> ?_⟩
   ·rw[he1]
    rcases j with _ | j
    ·simp only[List.getElem_cons_zero]
     rw[hcB,<-he1,sol_lt _ _ _ _ _ (by omega),Nat.add_zero,z5]
    ·simp only[List.getElem_cons_succ]
     rw[x2 j (by simpa using h),show k+1+j=k+(j+1) by omega]
   ·rcases j with _ | j
    ·simp only[List.getElem_cons_zero] at hx
     obtain ⟨c1,c2⟩:=hcur x hx
     rw[Nat.add_zero,hEmk]
     exact ⟨c1,c2⟩
    ·simp only[List.getElem_cons_succ] at hx
     have hj:j < X3.length:=by simpa using h
     obtain ⟨c1,c2⟩:=x3 j hj x hx
     refine ⟨by omega,?_⟩
     unfold Em
     rw[if_pos ⟨by omega,by omega⟩,show base+k+(j+1)=base+(k+1)+j by omega];exact c2
   ·refine run S hS τ ω t1 t2 t3 t4 w4 fun τ' a1 a2 a3 a4 a9=> ?_
    have hd:decide (H X=X)=true:=decide_eq_true hfix
    simp[hd]
    intro d i hdi
    show _=upds S (fromD d0 o g base k l.length R (cur::X3) (Em base k l.length E E3)) d i
    rw[Sf_upds ho (by omega),hoe2]
  ·rw[itN,if_neg hfix] at hit
   obtain ⟨X',E',p1,p2,p3,p4,p5⟩:=ih (H X) (.im (zY s.m.length (H X))) (X3.map (Rx.A d0)) (Em base k l.length E E3) (hHs X hX) (by
     cases hg:l[k].gr
     ·rw[hg] at hle hms
      have:=sub_lt (a:=X) (b:=H X) hle (Ne.symm hfix)
      simp only[Bool.false_eq_true,if_false] at hms|-
      omega
     ·rw[hg] at hle hms
      have:=sub_lt (a:=H X) (b:=X) hle hfix
      simp only[if_true] at hms|-
      omega) (hHm _ _ hX (hHs X hX) hle) hit rfl (fun x hx=>by cases hx) (by rw[hEmk];exact hdead) (by simp[x1])
   refine ⟨X',E',p1,p2,p3,p4,fun S hS τ ω t1 t2 t3 t4 w4=> ?_⟩
   refine run S hS τ ω t1 t2 t3 t4 w4 fun τ' a1 a2 a3 a4 a9=> ?_
   have hd:decide (H X=X)=false:=decide_eq_false hfix
   have hoe3:outE d0 g (R++[cur]) (X3.map (Rx.A d0))=(g,.cells (R.map (Rx.A d0)++cur.A d0::X3.map (Rx.A d0))):=by unfold outE;simp
   have hoe4:outE d0 g (R++[.im (zY s.m.length (H X))]) (X3.map (Rx.A d0))=(g,.cells (R.map (Rx.A d0)++zV (zY s.m.length (H X))::X3.map (Rx.A d0))):=by unfold outE;simp[Rx.A]
   have hcl:(R.map (Rx.A d0)++cur.A d0::X3.map (Rx.A d0)).length=l.length:=by simp[hR,x1];omega
   have hset:=set_mid2 (P:=R.map (Rx.A d0)) (k:=k) (by simp[hR]) (cur.A d0) (zV (zY s.m.length (H X))) (X3.map (Rx.A d0))
   rw[hoe4] at p5
   rw[<-hset] at p5
   rw[hoe3]
   have hv:(zV (zY s.m.length (H X))).dem=zV (zY s.m.length (H X))/\(zV (zY s.m.length (H X))).var1=zV (zY s.m.length (H X))/\(zV (zY s.m.length (H X))).cells= [zV (zY s.m.length (H X))]/\(zV (zY s.m.length (H X))).stc= [zV (zY s.m.length (H X))]/\AV.upto d0 20 (zV (zY s.m.length (H X)))=true/\(zV (zY s.m.length (H X))).one=true:=⟨rfl,rfl,rfl,rfl,rfl,rfl⟩
   obtain ⟨v1,v2,v3,v4,v5,v6⟩:=hv
   generalize zV (zY s.m.length (H X))=nv at*
   generalize R.map (Rx.A d0)++cur.A d0::X3.map (Rx.A d0)=C at*
   simp[v1,v2,v3,v4,v5,v6,a2,a3,a9,hd,show k+1<=l.length by omega,hne,Sf_o,hkk,hcl]
   rw[Sf_uo]
   refine p5 S hS _ ω ?_ ?_ ?_ ?_ w4
   all_goals simp[a1,a2,a3,a4]
end
end Go.Ab.Tab
/- The reference's solution: from,all; Solve. -/
namespace Go.Ab
open Go
section
variable {P:Program} {G:Nat->Option (List AV)} {L:Lends} {T:FuncId->Option FnC}
theorem loc_rdMp (hm:PGood P) (hT:TOk P G L T) {f n:Nat} {ac:AC} {rs:List RV} {own:Bool} (hc:T f=some ⟨n,ac,rs,own⟩) {args:List AV} {M dl:List (Nat×Nat×Ent)} {r:AV} {D:Nat} (hl:Nat.ble args.length n=true)
  (h:∀S,(∀m∈M,m.1 < D/\S m.1 m.2.1=m.2.2)->Rd (Loc P G) .pl (RetM rs r D S dl) [.c ac] (stF n D (argsT 0 args) (fun _=>(0,.dead)) S)):Loc P G D f args M r dl:=by
 obtain ⟨fn,code,t1,t2,t3,t4,t5,t6⟩:=hT f _ hc
 refine loc_of_run (L:=L) hm t1 t2 t3 t4 t5 fun S hS=> ?_
 rw[t6,start_stF _ _ _ _ (Nat.le_of_ble_eq_true hl)]
 exact (h S hS).run
end
namespace Tab
theorem updS_comm {S:Nat->Nat->Ent} {d i j:Nat} {a b:Ent} (h:i≠j):updS (updS S d i a) d j b=updS (updS S d j b) d i a:=by
 funext x t
 unfold updS
 by_cases h1:x=d/\t=j
 ·have h2:¬(x=d/\t=i):=fun e=>h (e.2.symm.trans h1.2)
  simp only[if_pos h1,if_neg h2]
 ·simp only[if_neg h1]
theorem bits_start (n:Nat) (g:Bool):zY n (startT n g)=List.replicate n g:=by
 apply List.ext_getElem
 ·simp[zY]
 ·intro i h1 h2
  have hi:i < n:=by simpa using h2
  cases g
  ·simp[zY,startT]
  ·simp[zY,startT,allT_bit,hi]
section
variable {s:Sy} (hsh:zI s.f=true) (hn:s.m.length < 2^31) (hnx:∀v∈s.m,valN s.m.length v s.f=true/\zG v<=2000) {l:List Eqn} (hl4:l.length<=4) (hlk:eqOk s.f l.length l) (hsz:∀x∈l,zZ x.body<=2^30) {d0 o g base:Nat} (ho:o < base)
include hsh hn hnx hl4 hlk hsz ho
theorem spec93:∀(m k:Nat),k+m=l.length->Spec93 s l d0 o g base k:=by
 intro m
 induction m with
 | zero=>
  intro k hk D R J E e hD hR hJ hpl he hRb
  obtain rfl:k=l.length:=by omega
  have hJ0:J= []:=List.eq_nil_of_length_eq_zero (by omega)
  subst hJ0
  refine ⟨[],E,by simp,fun j h=>by simp at h,fun j h=>by simp at h,fun t h1 h2=>by omega,?_⟩
  refine zX zF tok rfl rfl fun S hS=> ?_
  have h0:=(hS _ (List.mem_cons_self ..)).2
  simp only at h0
  have hup:∀d i,S d i=upds S (fromD d0 o g base l.length l.length R [] E) d i:=fun d i=>by
   rw[Sf_upds ho (Nat.le_refl _),List.append_nil]
   unfold Sf
   by_cases h1:d=d0/\i=o
   ·rw[if_pos h1,h1.1,h1.2];exact h0
   ·rw[if_neg h1,if_neg (by omega)]
  unfold c93
  simp[encY,encL]
  exact fun d i _=>hup d i
 | succ m ih=>
  intro k hk D R J E e hD hR hJ hpl he hRb
  have hkl:k < l.length:=by omega
  have hkk:(k:Int) < l.length:=by omega
  have hne:¬d0=D:=by omega
  have hnx':∀v∈s.m,valN s.m.length v s.f=true:=fun v hv=>(hnx v hv).1
  obtain ⟨j0,J1,rfl⟩:∃j0 J1,J=j0::J1:=by
   cases J with
   | nil=>simp at hJ;omega
   | cons a b=>exact ⟨a,b,rfl⟩
  have hJ1:J1.length=l.length - (k+1):=by simp at hJ;omega
  have hlk':eqOk s.f l.length (l.drop (k+1)):=fun y hy=>hlk y (List.mem_of_mem_drop hy)
  have hmo:=sol_mono hsh hnx' (l.drop (k+1)) (k+1) hlk'
  have hs0:=Go.Ab.Tab.start_sub s.m.length l[k].gr
  have hms:if l[k].gr=true then startT s.m.length l[k].gr < 2^s.m.length else 2^s.m.length<=startT s.m.length l[k].gr+2^s.m.length:=by
   have:=sub_allT.1 hs0
   cases hg:l[k].gr
   ·simp
   ·rw[hg] at this;simpa using this
  generalize hgk:(E (base+k)).1+1=gk
  obtain ⟨X',E',p1,p2,p3,p4,p5⟩:=l93b hsh hn hnx hl4 hlk hsz ho hkl (ih (k+1) (by omega)) hD hR hpl he hRb (H:=fun X=>bodE s.m l[k] (sol s.m (l.drop (k+1)) (k+1) (updE e k X))) rfl (F:=fixT s.m.length l[k].gr fun X=>bodE s.m l[k] (sol s.m (l.drop (k+1)) (k+1) (updE e k X)))
   (2^s.m.length) (startT s.m.length l[k].gr) (.ow ⟨base+k,gk,List.replicate s.m.length l[k].gr⟩) J1 (fun t=>if t=base+k then (gk,.cells ((List.replicate s.m.length l[k].gr).map AV.bool)) else E t) hs0 hms (start_le _ (bod_all _ (hmo.1 _ (yM s.m he hs0)))) rfl (bits_start _ _).symm
   (fun x hx=>by
    injection hx with hx;subst hx
    exact ⟨rfl,if_pos rfl⟩) (by simp) hJ1
  refine ⟨X',E',p1,fun j h=> ?_,p3,p4,?_⟩
  ·rw[sol_rec s.m hkl];exact p2 j h
  refine loc_rdMp zF tok rfl rfl fun S hS=> ?_
  have h0:=(hS _ (List.mem_cons_self ..)).2
  simp only[outE] at h0
  have hsl:∀t,base+k<=t->t < base+l.length->S d0 t=E t:=fun t h1 h2=>by
   have:=(hS (d0,t,E t) (List.mem_cons_of_mem _ (List.mem_append.2 (.inr (List.mem_map.2 ⟨t - (base+k),List.mem_range.2 (by omega),by rw[show base+k+(t - (base+k))=t by omega]⟩))))).2
   exact this
  have hSk:S d0 (base+k)=E (base+k):=hsl _ (by omega) (by omega)
  have hSR:∀m∈R.flatMap (Rx.M d0),m.1 < D/\S m.1 m.2.1=m.2.2:=fun m hm=>hS m (List.mem_cons_of_mem _ (List.mem_append.2 (.inl hm)))
  have hn2:(s.m.length:Int)<=1099511627776:=by omega
  have hkd:decide ((k:Int)=l.length)=false:=decide_eq_false (by omega)
  have hset:=set_mid2 (P:=R.map (Rx.A d0)) (k:=k) (by simp[hR]) j0 (.own d0 (base+k) gk 0 s.m.length 1 false) J1
  have hCl:(R.map (Rx.A d0)++j0::J1).length=l.length:=by simp[hR,hJ1];omega
  have hC2:outE d0 g (R++[.ow ⟨base+k,gk,List.replicate s.m.length l[k].gr⟩]) J1=(g,.cells (R.map (Rx.A d0)++ .own d0 (base+k) gk 0 s.m.length 1 false::J1)):=by
   unfold outE;simp[Rx.A,rowA]
  rw[<-hset] at hC2
  generalize hr:fromD d0 o g base k l.length R X' E'=dl at*
  generalize R.map (Rx.A d0)++j0::J1=C at*
  unfold c93
  simp[encY,encL,hkd]
  refine Rd_boxH (by decide) (by simp) ?_
  simp[hkd]
  refine Rd_mksliceP (kx:= .i64) (ky:= .i64) (m:=s.m.length) d0 (base+k) hD (by simp) (by simp) (by simp[z0,hn2]) ?_
  rw[hSk,hgk]
  have hob:o≠base+k:=by omega
  have hkC:k+1<=C.length:=by omega
  have hck:(List.take k C++AV.own d0 (base+k) gk 0 s.m.length 1 false::List.drop (k+1) C)[k]?=some (AV.own d0 (base+k) gk 0 s.m.length 1 false):=by
   rw[List.getElem?_append_right (by rw[List.length_take];exact Nat.min_le_left ..)]
   simp[show min k C.length=k by omega]
  simp[hne,hkk,hkl,yA hob,yA hob.symm,h0,hCl,show k+1<=l.length by omega,hck]
  rw[updS_comm hob.symm,<-hC2]
  have hrow:(List.replicate s.m.length (AV.bool false))=(fillN (List.replicate s.m.length l[k].gr) 0).map AV.bool:=by rw[fillN_zero];simp
  rw[hrow]
  refine l93a (S2:=updS S d0 o (outE d0 g (R++[.ow ⟨base+k,gk,List.replicate s.m.length l[k].gr⟩]) J1)) hD hkl ho hR (J:=J1) hn (b0:=List.replicate s.m.length l[k].gr) (by simp) (updS_same ..) s.m.length 0 _ _ (by omega) ?_ ?_ ?_ ?_ ?_ fun τ' a1 a2 a3 a4=> ?_
  case refine_6=>
   have hSe:updS (updS S d0 o (outE d0 g (R++[.ow ⟨base+k,gk,List.replicate s.m.length l[k].gr⟩]) J1)) d0 (base+k) (gk,.cells ((List.replicate s.m.length l[k].gr).map AV.bool))=
     Sf S d0 o base k l.length (outE d0 g (R++[.ow ⟨base+k,gk,List.replicate s.m.length l[k].gr⟩]) J1) (fun t=>if t=base+k then (gk,.cells ((List.replicate s.m.length l[k].gr).map AV.bool)) else E t):=by
    funext d t
    unfold updS Sf
    by_cases h1:d=d0/\t=o
    ·have h2:¬(d=d0/\t=base+k):=fun h=>by have:=h1.2;have:=h.2;omega
     simp only[if_pos h1,if_neg h2]
    ·by_cases h2:d=d0/\t=base+k
     ·have h3:d=d0/\base+k<=t/\t < base+l.length:=⟨h2.1,by have:=h2.2;omega,by have:=h2.2;omega⟩
      simp only[if_neg h1,if_pos h2,if_pos h3,if_pos h2.2]
     ·by_cases h3:d=d0/\base+k<=t/\t < base+l.length
      ·have h4:¬t=base+k:=fun h=>h2 ⟨h3.1,h⟩
       simp only[if_neg h1,if_neg h2,if_pos h3,if_neg h4]
       rw[h3.1];exact hsl t h3.2.1 h3.2.2
      ·simp only[if_neg h1,if_neg h2,if_neg h3]
   rw[hSe]
   simp at a1 a2 a3 a4
   unfold c93_k0
   refine .block (.loop ?_)
   refine p5 S hSR τ' _ ?_ a2 a3 a4 ?_
   ·rw[a1];rfl
   ·simp
  all_goals simp[encL]
end
end Tab
end Go.Ab
/- The reference's solution: Solve; sets as values against lists. -/
namespace Go.Ab.Tab
open Go Go.Ab
section
variable {n D:Nat} {τ:Nat->AV} {ω:Nat->Ent} {S:Nat->Nat->Ent}
theorem frz_row (k:Nat) {y:Rw} (h:(stF n D τ ω S).look D y.s=rowE y):frz (stF n D τ ω S) (k+2) (rowA D y)=some (zV y.b,[(D,y.s)]):=by
 unfold rowA
 rw[show k+2=(k+1)+1 from rfl,frz]
 have h2:(y.b.map AV.bool).all AV.one=true:=by
  rw[List.all_eq_true];intro v hv;obtain ⟨i,_,rfl⟩:=List.mem_map.1 hv;rfl
 rw[h]
 simp only[rowE]
 rw[if_pos ⟨trivial,rfl,by simp,.inr trivial,h2⟩]
 rw[List.drop_zero,Nat.mul_one,List.take_of_length_le (by simp),mapM_bools]
 simp only[List.map_map]
 have e:groups 1 false y.b.length (y.b.map ((fun x:AV×List (Nat×Nat)=>x.1.strip1)∘fun b=>(AV.bool b,[])))=y.b.map AV.bool:=by
  have e':y.b.map ((fun x:AV×List (Nat×Nat)=>x.1.strip1)∘fun b=>(AV.bool b,[]))=y.b.map AV.bool:=List.map_congr_left fun b _=>rfl
  rw[e'];exact groups_bools y.b
 have e2:∀bs:List Bool,(bs.map ((fun x:AV×List (Nat×Nat)=>x.2)∘fun b=>(AV.bool b,[]))).flatten= []:=fun bs=>by
  induction bs<;>simp_all
 rw[e,e2]
 rfl
theorem frz_rx (k:Nat):∀(X:List Rx),(∀x∈X,∀y,x= .ow y->(stF n D τ ω S).look D y.s=rowE y)->∃l:List (AV×List (Nat×Nat)),(X.map (Rx.A D)).mapM (frz (stF n D τ ω S) (k+2))=some l/\l.map (fun x=>x.1.strip1)=X.map fun x=>zV x.B
 | [],_=>⟨[],rfl,rfl⟩
 | x::X,h=>by
  obtain ⟨l,h1,h2⟩:=frz_rx k X fun y hy=>h y (by simp[hy])
  have hx:∃p,frz (stF n D τ ω S) (k+2) (x.A D)=some (zV x.B,p):=by
   cases x with
   | im b=>exact ⟨_,rfl⟩
   | ow y=>exact ⟨_,frz_row k (h _ (by simp) y rfl)⟩
  obtain ⟨p,hp⟩:=hx
  refine ⟨(zV x.B,p)::l,?_,?_⟩
  ·rw[List.map_cons,List.mapM_cons,hp,h1];rfl
  ·rw[List.map_cons,h2];rfl
theorem groups_enc:∀L:List (List Bool),groups 1 false L.length (L.map zV)=L.map zV
 | []=>rfl
 | b::L=>by rw[List.length_cons,List.map_cons,groups];simp[groups_enc L]
theorem frz_lst {o g:Nat} {X:List Rx} (ho:(stF n D τ ω S).look D o=(g,.cells (X.map (Rx.A D)))) (h:∀x∈X,∀y,x= .ow y->(stF n D τ ω S).look D y.s=rowE y):∃l,frz (stF n D τ ω S) frzD (.own D o g 0 X.length 1 false)=some (.sl 1 (X.map fun x=>zV x.B) .no,l):=by
 obtain ⟨l,h1,h2⟩:=frz_rx 17 X h
 have h3:(X.map (Rx.A D)).all AV.one=true:=by
  rw[List.all_eq_true];intro v hv;obtain ⟨x,_,rfl⟩:=List.mem_map.1 hv;cases x<;>rfl
 refine ⟨(D,o)::(l.map (·.2)).flatten,?_⟩
 rw[show frzD=19+1 from rfl,frz,ho]
 simp only
 rw[if_pos ⟨trivial,rfl,by simp,.inr trivial,h3⟩,List.drop_zero,Nat.mul_one,List.take_of_length_le (by simp)]
 rw[h1]
 simp only
 rw[h2]
 have e:(X.map fun x=>zV x.B)=(X.map Rx.B).map zV:=by rw[List.map_map];rfl
 have e2:X.length=(X.map Rx.B).length:=by simp
 rw[e,e2,groups_enc]
end
theorem spec37 (s:Sy) (l:List Eqn) (hy:isY s=true) (hll:isL s.f l=true) (hsz:∀x∈l,zZ x.body<=2^30) (D:Nat):Go.Ab.Loc Pg Gl D 37 [encY s,encL l] [] (.sl 1 ((List.range l.length).map fun i=>zV (zY s.m.length (solS s l i))) .no) []:=by
 obtain ⟨y1,y2,y3⟩:=isY_ok hy
 obtain ⟨l1,l2,l3⟩:=isL_ok hll
 obtain ⟨X,E',p1,p2,p3,p4,h93⟩:=spec93 (s:=s) (l:=l) (d0:=D) (o:=8) (g:=1) (base:=9) y1 (by omega) y3 l2 l3 hsz (by omega) l.length 0 (by omega) (D+1) [] (List.replicate l.length (.sl 1 [] .nil)) (fun _=>(0,.dead)) (startE s.m.length l l.length) (by omega) rfl (by simp) (fun i h=>by simp at h) (startE_all s l _) (fun i h=>by simp at h)
 rw[Nat.sub_zero] at p1
 simp only[List.drop_zero,Nat.zero_add] at p2
 have hres:((List.range l.length).map fun i=>zV (zY s.m.length (solS s l i)))=X.map fun x=>zV x.B:=by
  apply List.ext_getElem
  ·simp[p1]
  ·intro i h1 h2
   have hi:i < X.length:=by simpa using h2
   simp only[List.getElem_map,List.getElem_range]
   rw[p2 i hi];rfl
 rw[hres]
 generalize hr:AV.sl 1 (X.map fun x=>zV x.B) .no=r
 refine zX zF tok rfl rfl fun S hS=> ?_
 unfold c37
 simp[encY,encL] at h93|-
 simp[show (l.length:Int)<=1099511627776 by omega,show (l.length:Int)*24<=1099511627776 by omega]
 refine zR h93 (by simp) (fun m hm=> ?_) (fun u hu=> ?_) ?_
 ·rcases List.mem_cons.1 hm with rfl | hm
  ·simp[outE]
  ·simp only[List.flatMap_nil,List.nil_append] at hm
   obtain ⟨i,hi,rfl⟩:=List.mem_map.1 hm
   have hi:=List.mem_range.1 hi
   have h1:9+0+i < 14:=by omega
   have h2:¬9+i=2:=by omega
   have h3:¬9+i=8:=by omega
   simp[show 9+i < 14 by omega,h2,h3]
 ·rcases List.mem_cons.1 hu with rfl | hu
  ·exact ⟨List.mem_map.2 ⟨_,List.mem_cons_self ..,rfl⟩,by simp[outE]⟩
  ·obtain ⟨i,hi,rfl⟩:=List.mem_map.1 hu
   have hi':=List.mem_range.1 hi
   refine ⟨List.mem_map.2 ⟨(D,9+0+i,(0,.dead)),List.mem_cons_of_mem _ (List.mem_append.2 (.inr (List.mem_map.2 ⟨i,hi,rfl⟩))),rfl⟩,?_⟩
   exact p4 (9+0+i) (by omega) (by omega)
 have hdD:∀u∈fromD D 8 1 9 0 l.length [] X E',u.1=D:=fun u hu=>by
  rcases List.mem_cons.1 hu with rfl | hu
  ·rfl
  ·obtain ⟨i,hi,rfl⟩:=List.mem_map.1 hu;rfl
 have hnd:((fromD D 8 1 9 0 l.length [] X E').map fun u=>u.2.1).Nodup:=by
  unfold fromD slM
  rw[List.map_cons,List.map_map,List.nodup_cons]
  refine ⟨fun h=> ?_,?_⟩
  ·obtain ⟨i,_,hi2⟩:=List.mem_map.1 h
   simp only[Function.comp] at hi2
   omega
  ·rw[List.nodup_iff_pairwise_ne,List.pairwise_iff_getElem]
   intro i j hi hj hij
   simp
   omega
 rw[upL _ _ hdD]
 generalize hω:updL _ (fromD D 8 1 9 0 l.length [] X E')=ω1
 have hw8:ω1 8=(1,.cells (X.map (Rx.A D))):=by
  rw[<-hω]
  have:=updL_mem (fromD D 8 1 9 0 l.length [] X E') (upd (upd (fun x=>((0,.dead):Ent)) 2 (1,.cells [.int .i64 s.f.k,.int .i64 s.f.n,.sl 3 (s.f.gs.map encF) .no,.sl 3 (s.m.map encV) .no])) 8 (1,.cells (List.replicate l.length (.sl 1 [] .nil)))) hnd _ (List.mem_cons_self ..)
  simpa[outE] using this
 have hwr:∀x∈X,∀y,x= .ow y->y.s < 14/\ω1 y.s=rowE y:=by
  intro x hx y hxy
  subst hxy
  obtain ⟨i,hi,hix⟩:=List.getElem_of_mem hx
  obtain ⟨c1,c2⟩:=p3 i hi y hix
  refine ⟨by omega,?_⟩
  rw[<-hω,c1,<-c2]
  exact updL_mem _ _ hnd (D,9+0+i,E' (9+0+i)) (List.mem_cons_of_mem _ (List.mem_map.2 ⟨i,List.mem_range.2 (by omega),rfl⟩))
 have hfr:∀τ,∃L,frz (stF 14 D τ ω1 S) frzD (.own D 8 1 0 l.length 1 false)=some (r,L):=fun τ=>by
  rw[<-p1,<-hr]
  refine frz_lst (by rw[yB,if_pos rfl,if_pos (by omega)];exact hw8) fun x hx y hxy=> ?_
  obtain ⟨h1,h2⟩:=hwr x hx y hxy
  rw[yB,if_pos rfl,if_pos h1];exact h2
 obtain ⟨L,hL⟩:=Classical.axiomOfChoice hfr
 simp[hL,<-hr]
theorem l72i (D:Nat) (b:List Bool) (hx:b.length < 2^31) {S:Nat->Nat->Ent}:∀(j i:Nat) (acc:List Nat) (τ ω) (r:AV),i+j=b.length->acc.length<=i->
  τ 3= .sl 1 (acc.map encN) .tip->τ 6=zV b->τ 7= .int .i64 b.length->τ 8= .int .i64 i->r= .sl 1 ((acc++(List.range' i j).filter fun i=>b.getD i false).map encN) .no->
  Rd (Loc Pg Gl) .im (RetS [.tmp 2] r D S []) [.lp c72_l0,.blk 0,.c c72_k0] (stF 20 D τ ω S):=by
 unfold zV
 intro j
 induction j with
 | zero=>
  intro i acc τ ω r hi ha t3 t6 t7 t8 hr
  refine zK c72_l0.eq_1 ?_
  obtain rfl:i=b.length:=by omega
  simp at hr
  simp[t3,t6,t7,t8,c72_k0,hr,upds]
 | succ j ih=>
  intro i acc τ ω r hi ha t3 t6 t7 t8 hr
  refine zK c72_l0.eq_1 ?_
  have hlt:i < b.length:=by omega
  have hlt':(i:Int) < b.length:=by omega
  have hwr:IntKind.i64.wrap ((i:Int)+1)=((i+1:Nat):Int):=by rw[<-zE (n:=i+1) (by omega)];rfl
  rw[List.range'_succ,List.filter_cons] at hr
  have hg:b.getD i false=b[i]:=getD_lt hlt
  rw[hg] at hr
  have hle:(acc.length+1)*8<=1099511627776:=by omega
  cases hb:b[i]
  ·rw[hb] at hr
   simp[t3,t6,t7,t8,hlt,hlt',hb,hwr]
   refine ih (i+1) acc _ ω r (by omega) (by omega) ?_ ?_ ?_ ?_ hr
   all_goals simp[t3,t6,t7]
  ·rw[hb] at hr
   simp[t3,t6,t7,t8,hlt,hlt',hb,hwr,hle]
   refine ih (i+1) (acc++[i]) _ ω r (by omega) (by simp;omega) ?_ ?_ ?_ ?_ (by rw[hr];simp)
   all_goals simp[t3,t6,t7,encN]
theorem spec72i (D:Nat) (b:List Bool) (hx:b.length < 2^31):Go.Ab.Loc Pg Gl D 72 [zV b] [] (.sl 1 ((elemsL b).map encN) .no) []:=by
 refine loc_rdS zF tok rfl rfl fun S hS=> ?_
 generalize hr:AV.sl 1 ((elemsL b).map encN) .no=r
 unfold c72
 simp[zV]
 refine l72i D b hx b.length 0 [] _ _ r (by omega) (by simp) ?_ ?_ ?_ ?_ (by rw[<-hr,elemsL,List.range_eq_range'];simp)
 all_goals simp[zV]
theorem l24i (D:Nat) (R:List (List Bool)) (hR:R.length < 2^31) (hb:∀x∈R,x.length < 2^31) (L:List (List Int)) (hL:L=R.map fun x=>toZ (elemsL x)) {S:Nat->Nat->Ent}:∀(j i:Nat) (τ ω),i+j=R.length->
  τ 0= .sl 1 (L.map encI) .no->τ 1= .sl 1 (R.map zV) .no->τ 15= .sl 1 (R.map zV) .no->τ 16= .int .i64 R.length->τ 17= .int .i64 i->
  Rd (Loc Pg Gl) .im (RetM [.tmp 4] (.bool true) D S []) [.lp c24_l1,.blk 0,.c c24_k1] (stF 50 D τ ω S):=by
 intro j
 induction j with
 | zero=>
  intro i τ ω hi t0 t1 t15 t16 t17
  refine zK c24_l1.eq_1 ?_
  obtain rfl:i=R.length:=by omega
  simp[t0,t1,t15,t16,t17,c24_k1,upds]
 | succ j ih=>
  intro i τ ω hi t0 t1 t15 t16 t17
  refine zK c24_l1.eq_1 ?_
  have hlt:i < R.length:=by omega
  have hlt':(i:Int) < R.length:=by omega
  have hwr:IntKind.i64.wrap ((i:Int)+1)=((i+1:Nat):Int):=by rw[<-zE (n:=i+1) (by omega)];rfl
  have hLl:L.length=R.length:=by rw[hL];simp
  have hiL:i < L.length:=by omega
  have hiL':(i:Int) < L.length:=by omega
  have hLi:L[i]=toZ (elemsL R[i]):=by simp only[hL];simp
  have hel:(elemsL R[i]).length<=R[i].length:=by unfold elemsL;exact Nat.le_trans (List.length_filter_le _ _) (by simp)
  have hbi:=hb R[i] (List.getElem_mem hlt)
  have h72:=spec72i (D+1) R[i] hbi
  have hLlen:L[i].length=(elemsL R[i]).length:=by rw[hLi,toZ_len]
  simp[t0,t1,t15,t16,t17,hlt,hlt',zV] at h72|-
  refine zR h72 (by simp) (by simp) (by simp) ?_
  simp[t0,t17,hiL,hiL',encI,hLlen]
  refine l24a (L:=L) (i:=i) hiL hLi.symm (by omega) (elemsL R[i]).length 0 _ ω (by omega) ?_ ?_ ?_ ?_ ?_ fun τ' a0 a1 a15 a16 a17=> ?_
  case refine_6=>
   simp at a0 a1 a15 a16 a17
   simp[c24_k0,a17,t17,hwr]
   refine ih (i+1) _ ω (by omega) ?_ ?_ ?_ ?_ ?_
   all_goals simp[a0,a1,a15,a16,t0,t1,t15,t16]
  all_goals simp[t0,encI]
theorem spec24i (D:Nat) (R:List (List Bool)) (hR:R.length < 2^31) (hb:∀x∈R,x.length < 2^31) (L:List (List Int)) (hL:L=R.map fun x=>toZ (elemsL x)):Go.Ab.Loc Pg Gl D 24 [.sl 1 (L.map encI) .no,.sl 1 (R.map zV) .no] [] (.bool true) []:=by
 refine zX zF tok rfl rfl fun S hS=> ?_
 have hLl:L.length=R.length:=by rw[hL];simp
 unfold c24
 simp[hLl]
 refine l24i D R hR hb L hL R.length 0 _ _ (by omega) ?_ ?_ ?_ ?_ ?_
 all_goals simp
end Go.Ab.Tab
/- Law 7: Check,Solve and Apply against the reference. -/
namespace Go.Ab.Tab
open Go Go.Ab
theorem spec35 (D:Nat) (f:Fu) (hf:fitF f) (l:List Eqn) (hl:fitL l):Go.Ab.Loc Pg Gl D 35 [encF f,encL l] [] (.int .i64 (asksN f l)) []:=by
 refine zS zF tok rfl rfl fun S=> ?_
 have h87:=spec87 (D+1) f hf l hl
 unfold c35
 simp[zA f,encL] at h87|-
 refine zD h87 (by simp) ?_
 simp
theorem setsR_eq (n:Nat):∀(vs:List (List Int)) (acc:List (List Bool)),setsR n vs acc=if vs.all (okX n)=true then some (acc++vs.map (setX (List.replicate n false))) else none
 | [],acc=>by simp[setsR]
 | x::vs,acc=>by
  rw[setsR,List.all_cons]
  by_cases h:okX n x=true
  ·rw[if_pos h,setsR_eq n vs,h,Bool.true_and]
   by_cases h2:vs.all (okX n)=true
   ·rw[if_pos h2,if_pos h2];simp
   ·rw[if_neg h2,if_neg h2]
  ·rw[if_neg h]
   have:okX n x=false:=by simpa using h
   rw[this,Bool.false_and,if_neg (by simp)]
theorem setT_bit:∀(x:List Int) (N i:Nat),(∀y∈x,0<=y)->(setT N x).testBit i=(N.testBit i || x.contains (i:Int))
 | [],N,i,_=>by simp[setT]
 | y::x,N,i,h=>by
  have e:setT N (y::x)=setT (N ||| 2^y.toNat) x:=rfl
  have hy:=h y (by simp)
  rw[e,setT_bit x _ i fun z hz=>h z (by simp[hz]),Nat.testBit_or,Nat.testBit_two_pow,List.contains_cons,Bool.or_assoc]
  congr 2
  by_cases hi:y=i
  ·have:y.toNat=i:=by omega
   simp[hi]
  ·have h1:¬y.toNat=i:=by omega
   have h2:¬(i:Int)=y:=fun e=>hi e.symm
   simp[h1,h2]
theorem setX_bits (n:Nat) (x:List Int) (h:okX n x=true):setX (List.replicate n false) x=zY n (setT 0 x):=by
 have hm:=okX_mem h
 apply List.ext_getElem?
 intro i
 by_cases hi:i < n
 ·rw[setX_get _ _ i (by simpa using hi) fun y hy=>(hm y hy).1]
  simp only[zY,List.getElem?_map,List.getElem?_range hi,Option.map_some]
  rw[setT_bit x 0 i fun y hy=>(hm y hy).1]
  simp[List.getD_eq_getElem?_getD,hi]
 ·rw[List.getElem?_eq_none (by rw[setX_len];simp;omega),List.getElem?_eq_none (by simp[zY];omega)]
theorem l7a {D:Nat} (s:Sy) (l:List Eqn) (hl:l.length < 2^20) (V:VA) (hV:V.M= []) (hdp:∀D,V.dp D) (vA:Nat->List Bool) (hcall:∀D i (h:i < l.length),Go.Ab.Loc Pg Gl D 22 [encY s,encM l[i].body,V.A] [] (zV (vA i)) []) {S:Nat->Nat->Ent} {r:AV} {K:List AI}:∀(j i:Nat) (acc:List AV) (τ ω),i+j=l.length->acc=(List.range i).map (fun i=>zV (vA i))->
  τ 3= .ptr D 3 1 0->τ 11=V.A->τ 13= .sl 1 acc .tip->τ 90=encL l->τ 91= .int .i64 l.length->τ 92= .int .i64 i->
  ω 3=(1,.cells [.int .i64 s.f.k,.int .i64 s.f.n,.sl 3 (s.f.gs.map encF) .no,.sl 3 (s.m.map encV) .no])->
  (∀τ' ω',τ' 1=τ 1->τ' 3=τ 3->τ' 8=τ 8->τ' 9=τ 9->τ' 13= .sl 1 ((List.range l.length).map fun i=>zV (vA i)) .tip->ω' 3=ω 3->Rd (Loc Pg Gl) .im (RetQ [.tmp 6] r S) K (stF 152 D τ' ω' S))->
  Rd (Loc Pg Gl) .im (RetQ [.tmp 6] r S) (.lp c7_l0:: .blk 1::K) (stF 152 D τ ω S):=by
 intro j
 induction j with
 | zero=>
  intro i acc τ ω hi hacc t3 t11 t13 t90 t91 t92 w3 hK
  refine zK c7_l0.eq_1 ?_
  obtain rfl:i=l.length:=by omega
  subst hacc
  simp[t90,t91,t92]
  refine hK _ _ ?_ ?_ ?_ ?_ ?_ ?_
  all_goals simp[t13]
 | succ j ih=>
  intro i acc τ ω hi hacc t3 t11 t13 t90 t91 t92 w3 hK
  refine zK c7_l0.eq_1 ?_
  have hlt:i < l.length:=by omega
  have hwr:IntKind.i64.wrap ((i:Int)+1)=((i+1:Nat):Int):=by rw[<-zE (n:=i+1) (by omega)];rfl
  have hal:acc.length=i:=by rw[hacc];simp
  have hle:(acc.length+1)*24<=1099511627776:=by omega
  have hc:=hcall (D+1) i hlt
  have hbf:∀σ:St,frz σ frzD (zV (vA i))=some (zV (vA i),[]):=fun _=>rfl
  have hbc:(zV (vA i)).dem=zV (vA i)/\(zV (vA i)).cells= [zV (vA i)]/\(zV (vA i)).one=true/\(zV (vA i)).strip=zV (vA i):=⟨rfl,rfl,rfl,rfl⟩
  obtain ⟨b1,b2,b3,b4⟩:=hbc
  have hnx:=ih (i+1) (acc++[zV (vA i)])
  have t90':=t90
  unfold encL at t90
  generalize hnb:zV (vA i)=nb at*
  simp[t3,w3,t11,t13,t90,t91,t92,hlt,encE,zB l[i].body,encY] at hc|-
  refine zD hc (by simp[t11]) ?_
  simp[b1,b2,b3,b4,hbf,hle,t92,hwr]
  refine hnx _ _ (by omega) (by rw[hacc,List.range_succ,List.map_append,<-hnb];rfl) ?_ ?_ ?_ ?_ ?_ ?_ ?_ fun τ' ω' a1 a3 a8 a9 a13 c3=>hK τ' ω' (a1.trans ?_) (a3.trans ?_) (a8.trans ?_) (a9.trans ?_) a13 (c3.trans ?_)
  all_goals simp[t3,w3,t11,t90',t91]
theorem law7 (haw:∀D,Go.Ab.Loc Pg Gl D 12 [] [] (.bool true) []) (s:Sy) (hs:fitY s) (l:List Eqn) (hl:fitL l) (vs:List (List Int)) (hvl:vs.length < 2^63) (hvx:∀x∈vs,x.length < 2^63) (D:Nat):Go.Ab.Loc Pg Gl D 7 [encY s,encL l,.sl 1 (vs.map encI) .no] [] (.bool true) []:=by
 refine zS zF tok rfl rfl fun S=> ?_
 have h10:=spec10 s hs l hl (D+1) 200 (by omega)
 unfold c7
 simp[encY,encL] at h10|-
 refine zD h10 (by simp) ?_
 cases hlook:lookB 200 s l
 ·simp
  refine zD (haw _) (by simp) ?_
  simp
 have hb:=look_nodes hlook
 have hm:s.m.length<=400:=by have:=nodesVs_le_len s.m;omega
 have hll20:l.length<=20:=by
  unfold lookB at hlook
  simp only[Bool.and_eq_true,decide_eq_true_eq] at hlook
  exact hlook.2.2
 have hsz:∀x∈l,zZ x.body<=2^30:=fun x hx=>by
  unfold lookB at hlook
  simp only[Bool.and_eq_true,List.all_eq_true,decide_eq_true_eq] at hlook
  have:=hlook.2.1 x hx
  omega
 simp
 by_cases h20:(20:Int) < vs.length
 ·simp[h20]
  refine zD (haw _) (by simp) ?_
  simp
 have h20':decide ((20:Int) < vs.length)=false:=decide_eq_false h20
 have hv20:vs.length<=20:=by omega
 have h35:=spec35 (D+1) s.f hs.1 l hl
 have h27:=spec27 s.f hs.1 (D+1)
 have h33:=spec33 s hs (by omega) l hl vs (by omega) hvx (D+1)
 have h11:=spec11 s hs (by omega) l hl (D+1)
 have h13:=spec13 s hs (by omega) l hl (D+1)
 have h14:=spec14 (D+1) s (by omega) vs (by omega) hvx
 -- the last part
 have tail:∀τ ω,τ 1=encL l->τ 3= .ptr D 3 1 0->ω 3=(1,.cells [.int .i64 s.f.k,.int .i64 s.f.n,.sl 3 (s.f.gs.map encF) .no,.sl 3 (s.m.map encV) .no])->Rd (Loc Pg Gl) .im (RetQ [.tmp 6] (.bool true) S) [.c c7_k1] (stF 152 D τ ω S):=by
  intro τ ω t1 t3 w3
  unfold encL at t1
  unfold c7_k1
  simp[t1,t3,w3]
  by_cases h8:(8:Int) < s.m.length
  ·simp[h8]
   refine zD (haw _) (by simp) ?_
   simp
  have h8':decide ((8:Int) < s.m.length)=false:=decide_eq_false h8
  unfold solR at h13
  by_cases hf:faultN s l=0
  ·obtain ⟨hy,hll⟩:isY s=true/\isL s.f l=true:=by
    unfold faultN at hf
    cases h1:isY s<;>cases h2:isL s.f l<;>simp[h1,h2] at hf|-
   rw[if_pos hf] at h13
   rw[hf] at h11
   have h37:=spec37 s l hy hll hsz (D+1)
   have h24:=spec24i (D+1) ((List.range l.length).map fun i=>zY s.m.length (solS s l i)) (by simp;omega) (fun x hx=>by
    obtain ⟨i,_,rfl⟩:=List.mem_map.1 hx
    rw[bitsL_len];omega) ((List.range l.length).map fun i=>toZ (elemsT (solS s l i) s.m.length)) (by
    rw[List.map_map];exact List.map_congr_left fun i _=>by simp only[Function.comp];rw[elemsL_bits])
   rw[List.map_map,List.map_map] at h24
   have e1:(List.range l.length).map (encI∘fun i=>toZ (elemsT (solS s l i) s.m.length))=(List.range l.length).map fun i=>listT s.m.length (solS s l i):=List.map_congr_left fun i _=>by
    simp only[Function.comp];rw[<-toZ_enc];rfl
   have e2:(List.range l.length).map (zV∘fun i=>zY s.m.length (solS s l i))=(List.range l.length).map fun i=>zV (zY s.m.length (solS s l i)):=rfl
   rw[e1,e2] at h24
   generalize ((List.range l.length).map fun i=>listT s.m.length (solS s l i))=A at*
   generalize ((List.range l.length).map fun i=>zV (zY s.m.length (solS s l i)))=B at*
   simp[encY,encL] at h11 h13 h37
   simp[h8',t1,t3,w3]
   refine zD h13 (by simp) ?_
   simp[t1,t3,w3]
   refine zD h11 (by simp) ?_
   simp[t1,t3,w3]
   refine zD h37 (by simp) ?_
   simp
   refine zD h24 (by simp) ?_
   simp
   refine zD (haw _) (by simp) ?_
   simp
  ·rw[if_neg hf] at h13
   have hf':decide (faultN s l=0)=false:=decide_eq_false hf
   simp[encY,encL] at h11 h13
   simp[h8',t1,t3,w3]
   refine zD h13 (by simp) ?_
   simp[t1,t3,w3]
   refine zD h11 (by simp) ?_
   simp[hf']
   refine zD (haw _) (by simp) ?_
   simp
 -- the check
 unfold encL at tail
 have body:∀τ ω,τ 1= .sl 5 (l.map encE) .no->τ 2= .sl 1 (vs.map encI) .no->τ 3= .ptr D 3 1 0->ω 3=(1,.cells [.int .i64 s.f.k,.int .i64 s.f.n,.sl 3 (s.f.gs.map encF) .no,.sl 3 (s.m.map encV) .no])->Rd (Loc Pg Gl) .im (RetQ [.tmp 6] (.bool true) S) [.c c7_j1] (stF 152 D τ ω S):=by
  intro τ ω t1 t2 t3 w3
  unfold c7_j1
  rw[setsR_eq] at h14
  unfold appR at h33
  by_cases hf:faultN s l=0
  ·obtain ⟨hy,hll⟩:isY s=true/\isL s.f l=true:=by
    unfold faultN at hf
    cases h1:isY s<;>cases h2:isL s.f l<;>simp[h1,h2] at hf|-
   obtain ⟨y1,y2,y3⟩:=isY_ok hy
   obtain ⟨l1,l2,l3⟩:=isL_ok hll
   rw[if_pos hf] at h33
   rw[hf] at h11
   by_cases hgood:vs.length=l.length/\vs.all (okX s.m.length)=true
   ·obtain ⟨hlen,hok⟩:=hgood
    rw[if_pos ⟨hlen,hok⟩] at h33
    rw[if_pos hok,List.nil_append] at h14
    have hokx:∀x∈vs,okX s.m.length x=true:=List.all_eq_true.1 hok
    have hE:=envV_all (l:=l) hok vs.length
    have hrows:vs.map (setX (List.replicate s.m.length false))=vs.map fun x=>zY s.m.length (setT 0 x):=List.map_congr_left fun x hx=>setX_bits _ _ (hokx x hx)
    rw[hrows] at h14
    generalize hEv:envV s.m.length l vs vs.length=E at*
    have hEg:∀i,i < l.length->E i=setT 0 (vs.getD i []):=fun i hi=>by rw[<-hEv,envV,if_pos (by omega)]
    have h22:∀D i (h:i < l.length),Go.Ab.Loc Pg Gl D 22 [encY s,encM l[i].body,(VA.im (vs.map fun x=>zY s.m.length (setT 0 x))).A] [] (zV (zY s.m.length (if h:i < l.length then evS s.m (e4 E) l[i].body else 0))) []:=fun D i h=>by
     rw[dif_pos h]
     refine ((set_all s y1 (by omega) y3 (e4 E) (.im (vs.map fun x=>zY s.m.length (setT 0 x))) (vars:=l.length) (fun j hj=> ?_) l[i].body (hsz _ (List.getElem_mem h))).1 false (l3 _ (List.getElem_mem h))) D trivial
     show (vs.map fun x=>zY s.m.length (setT 0 x))[j]?=_
     rw[e4_get,if_pos (by omega),List.getElem?_map,List.getElem?_eq_getElem (by omega),hEg j hj,getD_lt (by omega)];rfl
    have h24:=spec24i (D+1) ((List.range l.length).map fun i=>zY s.m.length (if h:i < l.length then evS s.m (e4 E) l[i].body else 0)) (by simp;omega) (fun x hx=>by
     obtain ⟨i,_,rfl⟩:=List.mem_map.1 hx
     rw[bitsL_len];omega) ((List.range l.length).map fun i=>toZ (elemsT (if h:i < l.length then evS s.m (e4 E) l[i].body else 0) s.m.length)) (by
     rw[List.map_map];exact List.map_congr_left fun i _=>by simp only[Function.comp];rw[elemsL_bits])
    rw[List.map_map,List.map_map] at h24
    have e1:(List.range l.length).map (encI∘fun i=>toZ (elemsT (if h:i < l.length then evS s.m (e4 E) l[i].body else 0) s.m.length))=(List.range l.length).map fun i=>listT s.m.length (if h:i < l.length then evS s.m (e4 E) l[i].body else 0):=List.map_congr_left fun i _=>by
     simp only[Function.comp];rw[<-toZ_enc];rfl
    have e2:(List.range l.length).map (zV∘fun i=>zY s.m.length (if h:i < l.length then evS s.m (e4 E) l[i].body else 0))=(List.range l.length).map fun i=>zV (zY s.m.length (if h:i < l.length then evS s.m (e4 E) l[i].body else 0)):=rfl
    rw[e1,e2] at h24
    have h7a:=l7a (D:=D) (S:=S) s l (by omega) (.im (vs.map fun x=>zY s.m.length (setT 0 x))) rfl (fun _=>trivial) (fun i=>zY s.m.length (if h:i < l.length then evS s.m (e4 E) l[i].body else 0)) h22 (r:= .bool true) (K:=[.c c7_k0,.c c7_k1]) l.length 0 []
    have hld:decide ((vs.length:Int)=l.length)=true:=decide_eq_true (by omega)
    simp only[VA.A] at h7a
    unfold setsV at h14
    generalize ((List.range l.length).map fun i=>listT s.m.length (if h:i < l.length then evS s.m (e4 E) l[i].body else 0))=A at*
    generalize ((List.range l.length).map fun i=>zV (zY s.m.length (if h:i < l.length then evS s.m (e4 E) l[i].body else 0)))=B at*
    simp[encY,encL] at h11 h33 h14
    simp[t1,t2,t3,w3]
    refine zD h33 (by simp) ?_
    simp[t1,t2,t3,w3]
    refine zD h11 (by simp) ?_
    simp[t1,t2,t3,w3]
    refine zD h14 (by simp) ?_
    simp[t1,t2,t3,w3,hld,c7_j0]
    refine h7a _ _ (by omega) rfl ?_ ?_ ?_ ?_ ?_ ?_ w3 fun τ' ω' a1 a3 a8 a9 a13 c3=> ?_
    case refine_7=>
     simp at a1 a3 a8 a9
     unfold c7_k0
     simp[a8,a9,a13]
     refine zD h24 (by simp) ?_
     simp
     refine tail _ _ ?_ ?_ (c3.trans w3)
     ·simp[a1,t1]
     ·simp[a3,t3]
    all_goals simp[t1,t2,t3,encL]
   ·rw[if_neg hgood] at h33
    obtain ⟨xs,b,hxb,hbb⟩:∃xs b,setsV (if vs.all (okX s.m.length)=true then some ([]++vs.map (setX (List.replicate s.m.length false))) else none)= .tup [.sl 1 xs .no,.bool b]/\(vs.length=l.length->b=false):=by
     by_cases h:vs.all (okX s.m.length)=true
     ·rw[if_pos h];exact ⟨_,_,rfl,fun e=>absurd ⟨e,h⟩ hgood⟩
     ·rw[if_neg h];exact ⟨_,_,rfl,fun _=>rfl⟩
    rw[hxb] at h14
    simp[encY,encL] at h11 h33 h14
    simp[t1,t2,t3,w3]
    refine zD h33 (by simp) ?_
    simp[t1,t2,t3,w3]
    refine zD h11 (by simp) ?_
    simp[t1,t2,t3,w3]
    refine zD h14 (by simp) ?_
    by_cases hlen:vs.length=l.length
    ·have hld:decide ((vs.length:Int)=l.length)=true:=decide_eq_true (by omega)
     rw[hbb hlen]
     simp[t1,t2,t3,w3,hld,c7_j0]
     refine tail _ _ ?_ ?_ w3
     all_goals simp[t1,t3]
    ·have hld:decide ((vs.length:Int)=l.length)=false:=decide_eq_false (by omega)
     simp[t1,t2,t3,w3,hld,c7_j0]
     refine tail _ _ ?_ ?_ w3
     all_goals simp[t1,t3]
  ·have hf':decide (faultN s l=0)=false:=decide_eq_false hf
   obtain ⟨xs,b,hxb⟩:∃xs b,setsV (if vs.all (okX s.m.length)=true then some ([]++vs.map (setX (List.replicate s.m.length false))) else none)= .tup [.sl 1 xs .no,.bool b]:=by
    split
    ·exact ⟨_,_,rfl⟩
    ·exact ⟨_,_,rfl⟩
   rw[hxb] at h14
   rw[if_neg hf] at h33
   simp[encY,encL] at h11 h33 h14
   simp[t1,t2,t3,w3]
   refine zD h33 (by simp) ?_
   simp[t1,t2,t3,w3]
   refine zD h11 (by simp) ?_
   simp[t1,t2,t3,w3]
   refine zD h14 (by simp) ?_
   simp[t1,t2,t3,w3,hf',c7_j0]
   refine tail _ _ ?_ ?_ w3
   all_goals simp[t1,t3]
 -- the errors of Check
 have hfs:isF s.f=true->zI s.f=true:=isF_shaped
 have h36:isF s.f=true->Go.Ab.Loc Pg Gl (D+1) 36 [encF s.f,encL l] [] (.bool (isL s.f l)) []:=fun h=>spec36 (D+1) s.f (hfs h) l hl
 unfold asksN at h35
 simp[zA s.f,encL] at h35 h27 h36
 simp[h20']
 refine zD h35 (by simp) ?_
 cases hF:isF s.f
 ·rw[hF] at h27
  simp
  refine zD h27 (by simp) ?_
  simp
  refine body _ _ ?_ ?_ ?_ ?_
  all_goals simp
 ·rw[hF] at h27
  have h36:=h36 hF
  cases hL:isL s.f l
  ·rw[hL] at h36
   simp
   refine zD h27 (by simp) ?_
   simp
   refine zD h36 (by simp) ?_
   simp
   refine body _ _ ?_ ?_ ?_ ?_
   all_goals simp
  ·rw[hL] at h36
   simp
   refine zD h27 (by simp) ?_
   simp
   refine zD h36 (by simp) ?_
   simp
   refine body _ _ ?_ ?_ ?_ ?_
   all_goals simp
end Go.Ab.Tab
