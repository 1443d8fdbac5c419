/- awake: calls that do not depend on the input. -/
import Derived.Test.YtkjbakmlonpdjaaGreatDoorOperatorsH
import Derived.Test.YtkjbakmlonpdjaaGreatDoorOperatorsB4
set_option linter.unusedVariables false
set_option linter.unusedSimpArgs false
set_option maxRecDepth 100000
namespace Go.Ab.Tab
open Go Go.Ab
def chF:Fu:= .mk 2 0 [.mk 1 2 [],.mk 7 0 [.mk 0 0 []]]
def chM:List Va:=[.mk 0 [.mk 0 [] [],.mk 0 [.mk 1 [] [],.mk 2 [] []] [1,2]] [],.mk 0 [.mk 1 [] [],.mk 0 [.mk 1 [] []] [1]] [],.mk 0 [.mk 1 [] [],.mk 0 [.mk 2 [] []] [1]] []]
def chS:Sy:=⟨chF,chM⟩
def chA:Fm:= .mk 3 0 0 [.mk 6 0 0 [.mk 5 1 0 []]]
theorem spec44 (D:Nat):Go.Ab.Loc Pg Gl D 44 [] [] (.tup [encY chS,encM chA]) []:=by
 refine zW zH tok rfl rfl fun S=> ?_
 have h1:=spec101 (D+1) 1 2 []
 have h2:=spec101 (D+1) 0 0 []
 have h3:=spec101 (D+1) 7 0 [.mk 0 0 []]
 have h4:=spec101 (D+1) 2 0 [.mk 1 2 [],.mk 7 0 [.mk 0 0 []]]
 have h5:=spec81 (D+1) 5 1 0 []
 have h6:=spec81 (D+1) 6 0 0 [.mk 5 1 0 []]
 have h7:=spec81 (D+1) 3 0 0 [.mk 6 0 0 [.mk 5 1 0 []]]
 simp[zN,zC] at h1 h2 h3 h4 h5 h6 h7
 simp[encY,chS,chF,chM,chA,zN,zX,zC,Fu.k,Fu.n,Fu.gs]
 unfold c44
 simp
 refine zE h1 (by simp) ?_
 refine zE h2 (by simp) ?_
 simp
 refine zE h3 (by simp) ?_
 simp
 refine zE h4 (by simp) ?_
 simp
 refine zI h5 (by simp) ?_
 simp
 refine zI h6 (by simp) ?_
 simp
 refine zI h7 (by simp) ?_
 simp
def xA:Eqn:=⟨true,alwM chA chF⟩
def xP:Eqn:=⟨false,posM chA chF⟩
theorem chain_facts:fineN chF chA=0/\isL chF [xA]=true/\isL chF [xP]=true/\zF (alwM chA chF)<=1000/\zF (posM chA chF)<=1000/\
  faultN chS [xA]=0/\faultN chS [xP]=0/\elemsT (solS chS [xA] 0) 3= [1,2]/\elemsT (solS chS [xP] 0) 3= [0,1,2]/\zS chM<=100:=by
 refine ⟨by rfl,by rfl,by rfl,by decide,by decide,by rfl,by rfl,by rfl,by rfl,by decide⟩
theorem fit_ch:fitY chS:=by
 refine ⟨?_,?_,?_⟩
 ·simp[chS,chF,fitF,fitFs,maxLen]
 ·simp[chS,chM,maxLen]
 ·simp[chS,chM,fitV,fitVs,maxLen]
theorem sing_ok {f:Fu} {x:Eqn} (h:isL f [x]=true):singR f x= .tup [.sl 5 [encE x] .no,.int .i64 0]:=by unfold singR;rw[if_pos h]
theorem fitL_one {x:Eqn} (h:zF x.body<=maxLen):fitL [x]:=⟨by simp[maxLen],fun y hy=>by rw[List.mem_singleton] at hy;subst hy;exact fitM_of _ h⟩
theorem sol_one {x:Eqn} (h0:faultN chS [x]=0):solR chS [x]= .tup [.sl 1 [listT 3 (solS chS [x] 0)] .no,.int .i64 0]:=by
 unfold solR;rw[if_pos h0];rfl
theorem spec12 (D:Nat):Go.Ab.Loc Pg Gl D 12 [] [] (.bool true) []:=by
 obtain ⟨f1,f4,f5,f6,f7,f8,f9,f10,f11,f12⟩:=chain_facts
 have n6:zF xA.body<=maxLen:=by unfold maxLen;exact Nat.le_trans f6 (by decide)
 have n7:zF xP.body<=maxLen:=by unfold maxLen;exact Nat.le_trans f7 (by decide)
 have h44:=spec44 (D+1)
 have h20:=spec20 (D+1) chF fit_ch.1 chA
 have h21:=spec21 (D+1) chF fit_ch.1 chA
 unfold alwaysR at h20
 unfold possR at h21
 rw[if_pos f1] at h20 h21
 have e20:singR chF ⟨true,alwM chA chF⟩= .tup [.sl 5 [encE xA] .no,.int .i64 0]:=sing_ok f4
 have e21:singR chF ⟨false,posM chA chF⟩= .tup [.sl 5 [encE xP] .no,.int .i64 0]:=sing_ok f5
 rw[e20] at h20
 rw[e21] at h21
 have hsh:zG chF=true:=by rfl
 have h36a:=spec36 (D+1) chF hsh [xA] (fitL_one n6)
 have h36p:=spec36 (D+1) chF hsh [xP] (fitL_one n7)
 rw[f4] at h36a
 rw[f5] at h36p
 have h13a:=spec13 chS fit_ch (by show zS chM<=_;omega) [xA] (fitL_one n6) (D+1)
 have h13p:=spec13 chS fit_ch (by show zS chM<=_;omega) [xP] (fitL_one n7) (D+1)
 rw[sol_one f8,listT,f10] at h13a
 rw[sol_one f9,listT,f11] at h13p
 have h34:=spec34e (D+1) (.mk (-1) 0 []) (by simp[fitF,fitFs,maxLen]) [] ⟨by simp[maxLen],by simp⟩ (by decide)
 have e34:asksN (.mk (-1) 0 []) []=10:=by rfl
 rw[e34] at h34
 rw[zN] at h34
 have eY:encY chS= .agg [.int .i64 2,.int .i64 0,.sl 3 (chF.gs.map encF) .no,.sl 3 (chM.map encV) .no]:=rfl
 have eF:encF chF= .agg [.int .i64 2,.int .i64 0,.sl 3 (chF.gs.map encF) .no]:=by rw[zB];rfl
 have eA:encM chA= .agg [.int .i64 3,.int .i64 0,.int .i64 0,.sl 4 (chA.ar.map encM) .no]:=by rw[zA];rfl
 have eLA:encL [xA]= .sl 5 [encE xA] .no:=rfl
 have eLP:encL [xP]= .sl 5 [encE xP] .no:=rfl
 have eL0:encL []= .sl 5 [] .no:=rfl
 rw[eY] at h44 h13a h13p
 rw[eA] at h44 h20 h21
 rw[eF] at h20 h21 h36a h36p
 rw[eLA] at h36a h13a
 rw[eLP] at h36p h13p
 rw[eL0] at h34
 generalize chF.gs.map encF=gF at*
 generalize chM.map encV=gM at*
 generalize chA.ar.map encM=gA at*
 generalize encE xA=EA' at*
 generalize encE xP=EP' at*
 refine zW zH tok rfl rfl fun S=> ?_
 unfold c12
 simp
 refine zE h44 (by simp) ?_
 simp
 refine zE h20 (by simp) ?_
 simp
 refine zE h21 (by simp) ?_
 simp
 refine zE h36a (by simp) ?_
 simp
 refine zE h36p (by simp) ?_
 simp
 refine zE h13a (by simp) ?_
 simp
 refine zE h13p (by simp) ?_
 simp
 refine zE h34 (by simp) ?_
 simp[encN]
end Go.Ab.Tab
/- Arguments as data. -/
namespace Go.Ab
open Go
section
variable {P:Program} {t:TypeId} {n:Nat} {cs:List AV}
theorem ty_int {k:IntKind} (hu:P.underlying t=some (.int k)) (h:tyOk P n t cs):∃i,cs= [.int k i]/\(Lit.int k i).wf=true:=by
 cases n with
 | zero=>cases h
 | succ n=>simpa only[tyOk,hu] using h
def fieldsOf (P:Program) (t:TypeId):List (TypeId×Nat):=match P.underlying t with
 | some (.struct fs)=>fs.toList.map fun f=>(f.type,f.offset)
 | _=>[]
def isStruct (P:Program) (t:TypeId):Bool:=match P.underlying t with
 | some (.struct _)=>true
 | _=>false
theorem map_exists {α β:Type} (f:α->β) (q:α->Prop):∀(l:List β),(∀x∈l,∃a,x=f a/\q a)->∃bs:List α,l=bs.map f/\∀a∈bs,q a
 | [],_=>⟨[],rfl,by simp⟩
 | x::l,h=>by
  obtain ⟨a,h1,h2⟩:=h x (by simp)
  obtain ⟨bs,h3,h4⟩:=map_exists f q l fun y hy=>h y (by simp[hy])
  exact ⟨a::bs,by simp[h1,h3],fun b hb=>by rcases List.mem_cons.1 hb with rfl | hb;exact h2;exact h4 b hb⟩
theorem mkV_agg (h:isAggT P t=true):mkV P t cs= .agg cs:=by unfold mkV;rw[h];rfl
end
namespace Tab
theorem u3:Pg.underlying 3=some (.int .i64):=by kernel_rfl
theorem z3:Pg.cellsOf 3=1:=by kernel_rfl
theorem g3:isAggT Pg 3=false:=by kernel_rfl
theorem u22:Pg.underlying 22=some (.slice 24):=by kernel_rfl
theorem s24:isStruct Pg 24=true:=by kernel_rfl
theorem f24:fieldsOf Pg 24= [(3,0),(3,1),(22,2)]:=by kernel_rfl
theorem z24:Pg.cellsOf 24=3:=by kernel_rfl
theorem z22:Pg.cellsOf 22=1:=by kernel_rfl
theorem g24:isAggT Pg 24=true:=by kernel_rfl
theorem ty_slice' {P:Program} {t e:TypeId} {n:Nat} {cs:List AV} (hu:P.underlying t=some (.slice e)) (h:tyOk P (n+1) t cs):∃xs,cs= [.sl (P.cellsOf e) xs .no]/\xs.length<=maxLen/\∀x∈xs,∃c,x=mkV P e c/\tyOk P n e c:=by
 simp only[tyOk,hu] at h
 exact h
theorem ty_struct' {P:Program} {t:TypeId} {n:Nat} {cs:List AV} (hs:isStruct P t=true) (h:tyOk P (n+1) t cs):cs.length=P.cellsOf t/\∀f∈fieldsOf P t,tyOk P n f.1 ((cs.drop f.2).take (P.cellsOf f.1)):=by
 unfold isStruct at hs
 unfold fieldsOf
 cases hu:P.underlying t with
 | none=>rw[hu] at hs;cases hs
 | some d=>
  rw[hu] at hs
  cases d with
  | struct fs=>
   simp only[tyOk,hu] at h
   refine ⟨h.1,fun f hf=> ?_⟩
   obtain ⟨g,hg,rfl⟩:=List.mem_map.1 hf
   exact h.2 g hg
  | _=>cases hs
theorem fitFs_of:∀{l:List Fu},(∀a∈l,fitF a)->fitFs l
 | [],_=>by rw[fitFs];trivial
 | a::l,h=>by rw[fitFs];exact ⟨h a (by simp),fitFs_of fun b hb=>h b (by simp[hb])⟩
theorem three {cs:List AV} (h:cs.length=3):∃a b c,cs= [a,b,c]:=by
 match cs,h with
 | [a,b,c],_=>exact ⟨a,b,c,rfl⟩
theorem ty24:∀(n:Nat) {cs:List AV},tyOk Pg n 24 cs->∃f:Fu,cs= [.int .i64 f.k,.int .i64 f.n,.sl 3 (f.gs.map encF) .no]/\fitF f:=by
 intro n
 induction n using Nat.strongRecOn with
 | ind n ih=>
  intro cs h
  cases n with
  | zero=>cases h
  | succ n=>
   obtain ⟨hl,hf⟩:=ty_struct' s24 h
   rw[f24] at hf
   rw[z24] at hl
   obtain ⟨a,b,c,rfl⟩:=three hl
   have k0:=hf (3,0) (by simp)
   have k1:=hf (3,1) (by simp)
   have k2:=hf (22,2) (by simp)
   rw[z3] at k0 k1
   rw[z22] at k2
   obtain ⟨i,e0,_⟩:=ty_int u3 k0
   obtain ⟨j,e1,_⟩:=ty_int u3 k1
   simp at e0 e1
   subst e0;subst e1
   cases n with
   | zero=>cases k2
   | succ n=>
    obtain ⟨xs,e2,h2,h3⟩:=ty_slice' u22 k2
    obtain ⟨gs,hgs,hfit⟩:=map_exists encF fitF xs fun x hx=>by
     obtain ⟨c',rfl,hc⟩:=h3 x hx
     obtain ⟨f,rfl,hff⟩:=ih n (by omega) hc
     exact ⟨f,by rw[mkV_agg g24,zB],hff⟩
    subst hgs
    rw[z24] at e2
    simp at e2
    subst e2
    refine ⟨.mk i j gs,rfl,?_⟩
    rw[fitF]
    exact ⟨by simpa using h2,fitFs_of hfit⟩
theorem arg24 {a:AV} (h:Arg Pg 24 a):∃f:Fu,a=encF f/\fitF f:=by
 obtain ⟨fuel,cs,h1,h2,rfl⟩:=h
 obtain ⟨f,rfl,hf⟩:=ty24 _ h1
 exact ⟨f,by rw[mkV_agg g24,zB],hf⟩
theorem four {cs:List AV} (h:cs.length=4):∃a b c d,cs= [a,b,c,d]:=by
 match cs,h with
 | [a,b,c,d],_=>exact ⟨a,b,c,d,rfl⟩
theorem u43:Pg.underlying 43=some (.slice 45):=by kernel_rfl
theorem s45:isStruct Pg 45=true:=by kernel_rfl
theorem f45:fieldsOf Pg 45= [(3,0),(3,1),(3,2),(43,3)]:=by kernel_rfl
theorem z45:Pg.cellsOf 45=4:=by kernel_rfl
theorem z43:Pg.cellsOf 43=1:=by kernel_rfl
theorem z4:Pg.cellsOf 4=1:=by kernel_rfl
theorem g45:isAggT Pg 45=true:=by kernel_rfl
theorem fitMs_of:∀{l:List Fm},(∀a∈l,fitM a)->fitMs l
 | [],_=>by rw[fitMs];trivial
 | a::l,h=>by rw[fitMs];exact ⟨h a (by simp),fitMs_of fun b hb=>h b (by simp[hb])⟩
theorem ty45:∀(n:Nat) {cs:List AV},tyOk Pg n 45 cs->∃f:Fm,cs= [.int .i64 f.o,.int .i64 f.n,.int .i64 f.m,.sl 4 (f.ar.map encM) .no]/\fitM f:=by
 intro n
 induction n using Nat.strongRecOn with
 | ind n ih=>
  intro cs h
  cases n with
  | zero=>cases h
  | succ n=>
   obtain ⟨hl,hf⟩:=ty_struct' s45 h
   rw[f45] at hf
   rw[z45] at hl
   obtain ⟨a,b,c,d,rfl⟩:=four hl
   have k0:=hf (3,0) (by simp)
   have k1:=hf (3,1) (by simp)
   have k2:=hf (3,2) (by simp)
   have k3:=hf (43,3) (by simp)
   rw[z3] at k0 k1 k2
   rw[z43] at k3
   obtain ⟨i,e0,_⟩:=ty_int u3 k0
   obtain ⟨j,e1,_⟩:=ty_int u3 k1
   obtain ⟨l,e2,_⟩:=ty_int u3 k2
   simp at e0 e1 e2
   subst e0;subst e1;subst e2
   cases n with
   | zero=>cases k3
   | succ n=>
    obtain ⟨xs,e3,h2,h3⟩:=ty_slice' u43 k3
    obtain ⟨gs,hgs,hfit⟩:=map_exists encM fitM xs fun x hx=>by
     obtain ⟨c',rfl,hc⟩:=h3 x hx
     obtain ⟨f,rfl,hff⟩:=ih n (by omega) hc
     exact ⟨f,by rw[mkV_agg g45,zA],hff⟩
    subst hgs
    rw[z45] at e3
    simp at e3
    subst e3
    refine ⟨.mk i j l gs,rfl,?_⟩
    rw[fitM]
    exact ⟨by simpa using h2,fitMs_of hfit⟩
theorem arg45 {a:AV} (h:Arg Pg 45 a):∃f:Fm,a=encM f/\fitM f:=by
 obtain ⟨fuel,cs,h1,h2,rfl⟩:=h
 obtain ⟨f,rfl,hf⟩:=ty45 _ h1
 exact ⟨f,by rw[mkV_agg g45,zA],hf⟩
end Tab
end Go.Ab
/- The reference's Same,Copy,Not,SameAll,Formula. -/
namespace Go.Ab.Tab
open Go Go.Ab
mutual
def eqM:Fm->Fm->Bool
 | .mk o n m ar,b=>decide (o=b.o)&&decide (n=b.n)&&decide (m=b.m)&&decide (ar.length=b.ar.length)&&eqMs ar b.ar
def eqMs:List Fm->List Fm->Bool
 | [],_=>true
 | a::l,k=>eqM a (k.getD 0 (.mk 0 0 0 []))&&eqMs l (k.drop 1)
end
theorem eqM_iff:∀a b:Fm,eqM a b=true↔a=b:=by
 refine Fm.ind' fun o n m ar ih b=> ?_
 obtain ⟨o',n',m',ar'⟩:=b
 have:∀l:List Fm,(∀x∈l,x∈ar)->∀k:List Fm,l.length=k.length->(eqMs l k=true↔l=k):=by
  intro l
  induction l with
  | nil=>intro _ k hk;rw[eqMs];simp[List.eq_nil_of_length_eq_zero hk.symm]
  | cons x l ihl=>
   intro h k hk
   cases k with
   | nil=>simp at hk
   | cons y k=>
    rw[eqMs,Bool.and_eq_true,List.getD_cons_zero,ih x (h x (by simp)),List.drop_one,List.tail_cons,ihl (fun z hz=>h z (by simp[hz])) k (by simpa using hk),List.cons.injEq]
 rw[eqM]
 show (decide (o=o')&&decide (n=n')&&decide (m=m')&&decide (ar.length=ar'.length)&&eqMs ar ar')=true↔_
 simp only[Bool.and_eq_true,decide_eq_true_eq,Fm.mk.injEq]
 constructor
 ·rintro ⟨⟨⟨⟨h1,h2⟩,h3⟩,h4⟩,h5⟩
  exact ⟨h1,h2,h3,(this ar (fun _ h=>h) ar' h4).1 h5⟩
 ·rintro ⟨h1,h2,h3,h4⟩
  exact ⟨⟨⟨⟨h1,h2⟩,h3⟩,by rw[h4]⟩,(this ar (fun _ h=>h) ar' (by rw[h4])).2 h4⟩
theorem l28 (D:Nat) (a b:Fm) (hlen:a.ar.length<=maxLen) (hbl:a.ar.length=b.ar.length) (hrec:∀x∈a.ar,∀(y:Fm) (D:Nat),Go.Ab.Loc Pg Gl D 28 [encM x,encM y] [] (.bool (eqM x y)) []) (S):∀(j i:Nat) (τ ω) (r:AV),i+j=a.ar.length->
  τ 3= .ptr D 3 1 0->τ 36= .sl 4 (a.ar.map encM) .no->τ 37= .int .i64 a.ar.length->τ 38= .int .i64 i->ω 3=(1,.cells [.int .i64 b.o,.int .i64 b.n,.int .i64 b.m,.sl 4 (b.ar.map encM) .no])->r= .bool (eqMs (a.ar.drop i) (b.ar.drop i))->
  Rd (Loc Pg Gl) .im (RetQ [.tmp 4] r S) [.lp c28_l0,.blk 0,.c c28_k0] (stF 52 D τ ω S):=by
 intro j
 induction j with
 | zero=>
  intro i τ ω r hi t3 t36 t37 t38 w3 hr
  refine zU c28_l0.eq_1 ?_
  obtain rfl:i=a.ar.length:=by omega
  rw[List.drop_length,eqMs] at hr
  simp[t36,t37,t38,c28_k0,hr]
 | succ j ih=>
  intro i τ ω r hi t3 t36 t37 t38 w3 hr
  refine zU c28_l0.eq_1 ?_
  have hlt:i < a.ar.length:=by omega
  have hlt2:i < b.ar.length:=by omega
  have hwr:=yC hlt hlen
  rw[List.drop_eq_getElem_cons hlt,List.drop_eq_getElem_cons hlt2,eqMs,List.getD_cons_zero,List.drop_one,List.tail_cons] at hr
  have h1:=hrec a.ar[i] (List.getElem_mem hlt) b.ar[i] (D+1)
  simp[t3,t36,t37,t38,w3,hlt,hlt2,zA a.ar[i],zA b.ar[i]]
  refine zI h1 (by simp[zA a.ar[i],zA b.ar[i]]) ?_
  cases h:eqM a.ar[i] b.ar[i] with
  | false=>rw[h] at hr;simp[hr]
  | true=>
   rw[h,Bool.true_and] at hr
   simp[t38,hwr]
   refine ih (i+1) _ _ r (by omega) ?_ ?_ ?_ ?_ ?_ hr
   all_goals simp[t3,t36,t37,w3]
theorem spec28:∀(a:Fm),fitM a->∀(b:Fm) (D:Nat),Go.Ab.Loc Pg Gl D 28 [encM a,encM b] [] (.bool (eqM a b)) []:=by
 refine Fm.ind' fun o n m ar ih=> ?_
 intro hfit b D
 rw[fitM] at hfit
 refine zW zH tok rfl rfl fun S=> ?_
 unfold c28
 rw[eqM,zC,zA b]
 generalize hr:AV.bool _=r
 by_cases h1:o=b.o
 ·by_cases h2:n=b.n
  ·by_cases h3:m=b.m
   ·by_cases h4:ar.length=b.ar.length
    ·simp[h1,h2,h3,h4] at hr|-
     refine l28 D (.mk o n m ar) b hfit.1 h4 (fun x hx y D=>ih x hx (fitMs_mem hfit.2 x hx) y D) S ar.length 0 _ _ r (by simp[Fm.ar]) ?_ ?_ ?_ ?_ ?_ (by rw[<-hr];rfl)
     all_goals simp[Fm.ar,h4]
    ·have h4':¬(ar.length:Int)=b.ar.length:=by omega
     simp[h1,h2,h3,h4,h4'] at hr|-
     simp[hr]
   ·simp[h1,h2,h3] at hr|-
    simp[hr]
  ·simp[h1,h2] at hr|-
   simp[hr]
 ·simp[h1] at hr|-
  simp[hr]
theorem l83 (D:Nat) (o n m:Int) (ar:List Fm) (hlen:ar.length<=2^30) (hrec:∀a∈ar,∀D,Go.Ab.Loc Pg Gl D 83 [encM a] [] (encM a) []) (S:Nat->Nat->Ent):∀(j k:Nat) (tp:Tip) (τ ω) (r:AV),k+j=ar.length->(tp= .tip\/tp= .nil)->
  τ 2= .ptr D 2 1 0->τ 3= .ptr D 3 1 0->τ 14= .sl 4 (ar.map encM) .no->τ 15= .int .i64 ar.length->τ 16= .int .i64 k->
  ω 2=(1,.cells [.int .i64 0,.int .i64 0,.int .i64 0,.sl 4 [] .tip])->ω 3=(1,.cells [.int .i64 o,.int .i64 n,.int .i64 m,.sl 4 ((ar.take k).map encM) tp])->r=encM (.mk o n m ar)->
  Rd (Loc Pg Gl) .im (RetQ [.cell 2 true 4] r S) [.lp c83_l0,.blk 0,.c c83_k0] (stF 29 D τ ω S):=by
 intro j
 induction j with
 | zero=>
  intro k tp τ ω r hk htp t2 t3 t14 t15 t16 w2 w3 hr
  refine zU c83_l0.eq_1 ?_
  obtain rfl:k=ar.length:=by omega
  rw[List.take_of_length_le (Nat.le_refl _)] at w3
  rw[zC] at hr
  rcases htp with rfl | rfl<;>simp[t2,t3,t14,t15,t16,w2,w3,c83_k0,hr]
 | succ j ih=>
  intro k tp τ ω r hk htp t2 t3 t14 t15 t16 w2 w3 hr
  refine zU c83_l0.eq_1 ?_
  have hlt:k < ar.length:=by omega
  have hwr:=yC hlt (by unfold maxLen;omega)
  have hal:((ar.take k).map encM).length=k:=by simp;omega
  have hle:(k+1)*48<=1099511627776:=by omega
  have htp':(tp= .nil\/tp= .tip)=True:=by simp;exact htp.symm
  have htk:(ar.take (k+1)).map encM=(ar.take k).map encM++[encM ar[k]]:=by rw[List.take_succ_eq_append_getElem hlt,List.map_append];rfl
  have hmin:min k ar.length=k:=by omega
  simp[t2,t3,t14,t15,t16,w2,w3,hlt,hwr,zA ar[k]]
  refine zI (hrec ar[k] (List.getElem_mem hlt) (D+1)) (by simp[zA ar[k]]) ?_
  simp[t2,t3,t16,w2,w3,htp,htp',zA ar[k],hmin,hle,hwr]
  refine ih (k+1) .tip _ _ r (by omega) (.inl rfl) ?_ ?_ ?_ ?_ ?_ ?_ ?_ hr
  all_goals simp[t2,t3,t14,t15,w2,htk,zA ar[k]]
theorem spec83:∀(a:Fm),zF a<=2^30->∀D,Go.Ab.Loc Pg Gl D 83 [encM a] [] (encM a) []:=by
 refine Fm.ind' fun o n m ar ih hn D=> ?_
 rw[zF] at hn
 have:=nodesMs_len ar
 refine zW zH tok rfl rfl fun S=> ?_
 unfold c83
 generalize hQ:RetQ [RV.cell 2 true 4] (encM (.mk o n m ar)) S=Q
 rw[zC]
 simp
 rw[<-hQ]
 refine l83 D o n m ar (by omega) (fun a ha=>ih a ha (by have:=nodesMs_le ha;omega)) S ar.length 0 .tip _ _ _ (by simp) (.inl rfl) ?_ ?_ ?_ ?_ ?_ ?_ ?_ rfl
 all_goals simp
theorem spec84 (a:Fm) (D:Nat):Go.Ab.Loc Pg Gl D 84 [encM a] [] (encM (notM a)) []:=by
 refine zW zH tok rfl rfl fun S=> ?_
 have h:=spec81 (D+1) 1 0 0 [a]
 unfold c84 notM
 rw[zC] at h|-
 simp[zA a]
 refine zE h (by simp[zA a]) ?_
 simp[zA a]
def eqEs:List Eqn->List Eqn->Bool
 | [],_=>true
 | x::l,[]=>false
 | x::l,y::k=>decide (x.gr=y.gr)&&eqM x.body y.body&&eqEs l k
theorem eqEs_iff:∀l k:List Eqn,l.length=k.length->(eqEs l k=true↔l=k)
 | [],[],_=>by simp[eqEs]
 | x::l,y::k,h=>by
  obtain ⟨g,b⟩:=x
  obtain ⟨g',b'⟩:=y
  rw[eqEs,Bool.and_eq_true,Bool.and_eq_true,decide_eq_true_eq,eqM_iff,eqEs_iff l k (by simpa using h),List.cons.injEq,Eqn.mk.injEq]
theorem l41 (D:Nat) (l k:List Eqn) (hl:fitL l) (hk:l.length=k.length) (S):∀(j i:Nat) (τ ω) (r:AV),i+j=l.length->
  τ 1=encL k->τ 12=encL l->τ 13= .int .i64 l.length->τ 14= .int .i64 i->r= .bool (eqEs (l.drop i) (k.drop i))->
  Rd (Loc Pg Gl) .im (RetQ [.tmp 4] r S) [.lp c41_l0,.blk 0,.c c41_k0] (stF 39 D τ ω S):=by
 intro j
 induction j with
 | zero=>
  intro i τ ω r hi t1 t12 t13 t14 hr
  refine zU c41_l0.eq_1 ?_
  obtain rfl:i=l.length:=by omega
  rw[List.drop_length,eqEs] at hr
  simp[t12,t13,t14,c41_k0,hr]
 | succ j ih=>
  intro i τ ω r hi t1 t12 t13 t14 hr
  refine zU c41_l0.eq_1 ?_
  have hlt:i < l.length:=by omega
  have hlt2:i < k.length:=by omega
  have hwr:=yC hlt hl.1
  have h1:=spec28 l[i].body (hl.2 _ (List.getElem_mem hlt)) k[i].body (D+1)
  rw[List.drop_eq_getElem_cons hlt,List.drop_eq_getElem_cons hlt2,eqEs] at hr
  generalize hx:l[i]=x at*
  generalize hy:k[i]=y at*
  obtain ⟨gx,bx⟩:=x
  obtain ⟨gy,by'⟩:=y
  cases gx<;>cases gy
  all_goals simp[t1,t12,t13,t14,hlt,hlt2,encL,encE,hx,hy] at hr|-
  all_goals first
   | (simp[hr];done)
   | (
     refine zI h1 (by simp[zA bx,zA by']) ?_
     cases h:eqM bx by' with
     | false=>rw[h] at hr;simp[hr]
     | true=>
      rw[h,Bool.true_and] at hr
      simp[t14,hwr]
      refine ih (i+1) _ _ r (by omega) ?_ ?_ ?_ ?_ hr
      all_goals simp[t1,t12,t13,encL])
theorem spec41 (D:Nat) (l k:List Eqn) (hl:fitL l):Go.Ab.Loc Pg Gl D 41 [encL l,encL k] [] (.bool (decide (l.length=k.length)&&eqEs l k)) []:=by
 refine zW zH tok rfl rfl fun S=> ?_
 unfold c41
 by_cases h:l.length=k.length
 ·generalize hr:AV.bool _=r
  simp[encL,h] at hr|-
  refine l41 D l k hl h S l.length 0 _ _ r (by simp) ?_ ?_ ?_ ?_ (by rw[<-hr];rfl)
  all_goals simp[encL,h]
 ·have h':¬(l.length:Int)=k.length:=by omega
  simp[encL,h,h']
theorem spec19 (D:Nat) (f:Fu) (hf:zG f=true) (a:Fm) (ha:fitM a):Go.Ab.Loc Pg Gl D 19 [encF f,encM a] [] (.bool (isFm f a)) []:=by
 refine zW zH tok rfl rfl fun S=> ?_
 have h17:=spec17 a ha (D+1) 2000 (by omega)
 unfold c19
 unfold isFm
 simp[zB f,zA a]
 refine zE h17 (by simp[zA a]) ?_
 by_cases h:zF a<=2000
 ·have h55:=(chk_all f hf 0 a ha).1
  have h56:=spec56 a ha (by omega) (D+1)
  simp[h]
  refine zE (h55 (D+1) false) (by simp[encC,zA a]) ?_
  cases hv:valM f 0 none false a with
  | false=>simp
  | true=>
   simp
   refine zE h56 (by simp[zA a]) ?_
   have e:decide ((depthM a:Int)<=100)=decide (depthM a<=100):=decide_eq_decide.2 (by omega)
   simp[e]
 ·simp[h]
end Go.Ab.Tab
/- The reference's Every,Always,Possible. -/
namespace Go.Ab.Tab
open Go Go.Ab
mutual
def lvF:Fu->Nat
 | .mk k n gs=>if k=0 then 1 else if k=1 then 0 else min (if k=4 then n.toNat*lvFs gs else lvFs gs) 100000
def lvFs:List Fu->Nat
 | []=>0
 | g::l=>lvF g+lvFs l
end
theorem lvF_le (f:Fu):lvF f<=100000:=by
 obtain ⟨k,n,gs⟩:=f
 rw[lvF]
 split
 ·omega
 ·split
  ·omega
  ·omega
theorem l80 (D:Nat) (f:Fu) (gs:List Fu) (hlen:gs.length<=2) (hn4:f.k=4->1<=f.n/\f.n<=4) (hk:f.k≠0/\f.k≠1) (hgs:f.gs=gs) (hrec:∀a∈gs,∀D,Go.Ab.Loc Pg Gl D 80 [encF a] [] (.int .i64 (lvF a)) []) (S):∀(j i m:Nat) (τ ω) (r:AV),i+j=gs.length->m<=i*100000->
  τ 1= .ptr D 1 1 0->τ 3= .int .i64 m->τ 13= .sl 3 (gs.map encF) .no->τ 14= .int .i64 gs.length->τ 15= .int .i64 i->ω 1=(1,.cells [.int .i64 f.k,.int .i64 f.n,.sl 3 (f.gs.map encF) .no])->
  r= .int .i64 ((min (if f.k=4 then f.n.toNat*(m+lvFs (gs.drop i)) else m+lvFs (gs.drop i)) 100000:Nat):Int)->
  Rd (Loc Pg Gl) .im (RetQ [.tmp 2] r S) [.lp c80_l0,.blk 1,.c c80_k0] (stF 33 D τ ω S):=by
 intro j
 induction j with
 | zero=>
  intro i m τ ω r hi hm t1 t3 t13 t14 t15 w1 hr
  refine zU c80_l0.eq_1 ?_
  obtain rfl:i=gs.length:=by omega
  rw[List.drop_length,lvFs,Nat.add_zero] at hr
  by_cases h4:f.k=4
  ·obtain ⟨n1,n2⟩:=hn4 h4
   obtain ⟨N,hN⟩:∃N:Nat,f.n=N:=⟨f.n.toNat,by omega⟩
   rw[if_pos h4,hN,Int.toNat_natCast] at hr
   have hb:N*m<=4*200000:=Nat.mul_le_mul (by omega) (by omega)
   have hw:IntKind.i64.wrap ((N:Int)*(m:Int))=((N*m:Nat):Int):=by rw[<-zK (n:=N*m) (by omega)];push_cast;rfl
   have hmin:(if (100000:Int) < ((N*m:Nat):Int) then (100000:Int) else ((N*m:Nat):Int))=((min (N*m) 100000:Nat):Int):=by split<;>omega
   rw[<-hmin] at hr
   simp[t1,t3,t13,t14,t15,w1,h4,hN,c80_k0,hw,hr]
   try (split<;>simp_all)
  ·rw[if_neg h4] at hr
   have hmin:(if (100000:Int) < (m:Int) then (100000:Int) else (m:Int))=((min m 100000:Nat):Int):=by split<;>omega
   rw[<-hmin] at hr
   simp[t1,t3,t13,t14,t15,w1,h4,c80_k0,hr]
   try (split<;>simp_all)
 | succ j ih=>
  intro i m τ ω r hi hm t1 t3 t13 t14 t15 w1 hr
  refine zU c80_l0.eq_1 ?_
  have hlt:i < gs.length:=by omega
  have hwr:=yC hlt (by unfold maxLen;omega)
  rw[List.drop_eq_getElem_cons hlt,lvFs] at hr
  have hle:=lvF_le gs[i]
  have hw:IntKind.i64.wrap ((m:Int)+(lvF gs[i]:Int))=((m+lvF gs[i]:Nat):Int):=by rw[<-zK (n:=m+lvF gs[i]) (by omega)];rfl
  simp[t1,t3,t13,t14,t15,w1,hlt,zB gs[i]]
  refine zE (hrec gs[i] (List.getElem_mem hlt) (D+1)) (by simp[zB gs[i]]) ?_
  simp[t1,t3,t15,hw,hwr]
  refine ih (i+1) (m+lvF gs[i]) _ _ r (by omega) (by omega) ?_ ?_ ?_ ?_ ?_ ?_ (by rw[hr,Nat.add_assoc])
  all_goals simp[t1,t13,t14,w1]
theorem gs_len {k n:Int} {gs:List Fu} (hf:zG (.mk k n gs)=true):gs.length<=2/\(k=4->1<=n/\n<=4)/\∀a∈gs,zG a=true:=by
 refine ⟨?_,?_,?_⟩
 ·rw[zG] at hf
  simp only[Bool.and_eq_true,decide_eq_true_eq] at hf
  have h1:=hf.1
  unfold arK at h1
  repeat (split at h1<;>try omega)
 ·rintro rfl
  rw[zG] at hf
  simp only[Bool.and_eq_true,decide_eq_true_eq] at hf
  have e:mostK 4=4:=rfl
  have:=hf.2
  rw[e] at this
  omega
 ·intro a ha
  rw[zG] at hf
  simp only[Bool.and_eq_true] at hf
  have:∀{l:List Fu},yT l=true->∀a∈l,zG a=true:=by
   intro l
   induction l with
   | nil=>intro _ a ha;cases ha
   | cons f l ihl=>
    intro h a ha
    rw[yT,Bool.and_eq_true] at h
    rcases List.mem_cons.1 ha with rfl | ha
    ·exact h.1
    ·exact ihl h.2 a ha
  exact this hf.2.2.2 a ha
theorem spec80:∀f:Fu,zG f=true->∀D,Go.Ab.Loc Pg Gl D 80 [encF f] [] (.int .i64 (lvF f)) []:=by
 refine Fu.ind' fun k n gs ih hf D=> ?_
 obtain ⟨h2,h4,hgs⟩:=gs_len hf
 refine zW zH tok rfl rfl fun S=> ?_
 unfold c80
 rw[zN]
 by_cases k0:k=0
 ·rw[lvF,if_pos k0];simp[k0]
 by_cases k1:k=1
 ·rw[lvF,if_neg k0,if_pos k1];simp[k1]
 rw[lvF,if_neg k0,if_neg k1]
 generalize hr:AV.int .i64 _=r
 simp[k0,k1]
 refine l80 D (.mk k n gs) gs h2 h4 ⟨k0,k1⟩ rfl (fun a ha D=>ih a ha (hgs a ha) D) S gs.length 0 0 _ _ r (by simp) (by simp) ?_ ?_ ?_ ?_ ?_ ?_ (by rw[<-hr];simp[Fu.k,Fu.n])
 all_goals simp[Fu.k,Fu.n,Fu.gs]
theorem lv_ev (c:Nat):∀f:Fu,zG f=true->lvF f*c<=evC c f:=by
 refine Fu.ind' fun k n gs ih hf=> ?_
 obtain ⟨h2,h4,hgs⟩:=gs_len hf
 have one:∀x,gs= [x]->lvFs gs*c<=(evCs c gs).getD 0 0:=by
  rintro x rfl
  have:=ih x (by simp) (hgs x (by simp))
  simpa[lvFs,evCs] using this
 have two:∀x y,gs= [x,y]->lvFs gs*c<=(evCs c gs).getD 0 0+(evCs c gs).getD 1 0:=by
  rintro x y rfl
  have h1:=ih x (by simp) (hgs x (by simp))
  have h2:=ih y (by simp) (hgs y (by simp))
  simp only[lvFs,evCs,List.getD_cons_zero,Nat.add_zero,Nat.add_mul]
  have e:(evC c x::[evC c y]).getD 1 0=evC c y:=rfl
  rw[e];omega
 rw[lvF,evC]
 by_cases k0:k=0
 ·rw[if_pos k0,if_pos k0];omega
 rw[if_neg k0,if_neg k0]
 by_cases k1:k=1
 ·rw[if_pos k1,if_pos k1];omega
 rw[if_neg k1,if_neg k1]
 refine Nat.le_trans (Nat.mul_le_mul_right c (Nat.min_le_left _ _)) ?_
 by_cases k2:k=2
 ·rw[if_neg (by omega),if_pos k2]
  obtain ⟨x,y,e⟩:=shape2 hf (.inl k2)
  have:=two x y e;omega
 by_cases k3:k=3
 ·rw[if_neg (by omega),if_neg k2,if_pos k3]
  obtain ⟨x,y,e⟩:=shape2 hf (.inr k3)
  have:=two x y e;omega
 have hk:k=4\/k=5\/k=6\/k=7:=by
  have:=hf
  rw[zG] at this
  simp only[Bool.and_eq_true,decide_eq_true_eq] at this
  have h1:=this.1
  unfold arK at h1
  repeat (split at h1<;>try omega)
 obtain ⟨x,e⟩:=shape1 hf hk
 have e1:=one x e
 by_cases k4:k=4
 ·rw[if_pos k4,if_neg k2,if_neg k3,if_pos k4,Nat.mul_assoc]
  obtain ⟨n1,n2⟩:=h4 k4
  obtain ⟨j,hj⟩:∃j:Nat,n.toNat=j+1:=⟨n.toNat - 1,by omega⟩
  rw[hj,Nat.succ_mul,Nat.add_sub_cancel]
  have:=Nat.mul_le_mul_left j e1
  have h3:j*(2+(evCs c gs).getD 0 0)=j*2+j*(evCs c gs).getD 0 0:=Nat.mul_add _ _ _
  rw[h3];omega
 rw[if_neg k4,if_neg k2,if_neg k3,if_neg k4]
 by_cases k5:k=5
 ·rw[if_pos k5];omega
 rw[if_neg k5]
 by_cases k6:k=6
 ·rw[if_pos k6];omega
 rw[if_neg k6];omega
def Sub82 (A:Fm) (f:Fu):Prop:=zG f=true->∀D,Go.Ab.Loc Pg Gl D 82 [encF f,encM A] [] (encM (evM A f)) []
theorem l82 {A:Fm} {x:Fu} (hx:Sub82 A x) (hsx:zG x=true) {n:Int} (hn4:n<=4) (D:Nat) (S:Nat->Nat->Ent):∀(j k g5:Nat) (out:Fm) (τ ω) (r:AV),(k:Int)+j=n->
  τ 2= .ptr D 2 1 0->τ 3= .ptr D 3 1 0->τ 4= .ptr D 4 1 0->τ 5= .ptr D 5 g5 0->τ 6= .int .i64 k->ω 2=(1,.cells [.int .i64 4,.int .i64 n,.sl 3 [encF x] .no])->ω 3=(1,.cells (yZ A))->
  ω 4=(1,.cells [.int .i64 0,.int .i64 0,.int .i64 0,.sl 4 [] .tip])->ω 5=(g5,.cells [.int .i64 out.o,.int .i64 out.n,.int .i64 out.m,.sl 4 (out.ar.map encM) .no])->r=encM (expM (evM A x) out k j)->
  Rd (Loc Pg Gl) .im (RetQ [.cell 4 true 4] r S) [.lp c82_l0,.blk 1,.c c82_k0] (stF 122 D τ ω S):=by
 intro j
 induction j with
 | zero=>
  intro k g5 out τ ω r hk t2 t3 t4 t5 t6 w2 w3 w4 w5 hr
  refine zU c82_l0.eq_1 ?_
  have hkn:¬(k:Int) < n:=by omega
  rw[expM,zA] at hr
  have hkd:decide ((k:Int) < n)=false:=decide_eq_false hkn
  simp[t2,t4,t5,t6,w2,w4,w5,hkd,c82_k0,hr]
 | succ j ih=>
  intro k g5 out τ ω r hk t2 t3 t4 t5 t6 w2 w3 w4 w5 hr
  refine zU c82_l0.eq_1 ?_
  have hkn:(k:Int) < n:=by omega
  have hwr:IntKind.i64.wrap ((k:Int)+1)=((k+1:Nat):Int):=by rw[<-zK (n:=k+1) (by omega)];rfl
  have h1:=hx hsx (D+1)
  have h2:=spec81 (D+1) 10 k 0 [evM A x]
  have h3:=spec81 (D+1) 2 0 0 [out,.mk 10 k 0 [evM A x]]
  simp only[zC] at h2 h3
  rw[expM] at hr
  generalize hex:evM A x=ex at*
  simp only[yZ] at w3
  simp[t2,t3,t4,t5,t6,w2,w3,w4,w5,hkn,zB x]
  refine zI h1 (by simp[zB x,zA A]) ?_
  simp[zA ex,t6]
  refine zI h2 (by simp[zA ex]) ?_
  simp[t5]
  refine zI h3 (by simp[zC,zA ex,zA out]) ?_
  simp[t5,w5,t6,hwr]
  refine ih (k+1) g5 (.mk 2 0 0 [out,.mk 10 k 0 [ex]]) _ _ r (by omega) ?_ ?_ ?_ ?_ ?_ ?_ ?_ ?_ ?_ hr
  all_goals simp[t2,t3,t4,t5,w2,w3,w4,yZ,Fm.o,Fm.n,Fm.m,Fm.ar]
theorem spec82_of {A:Fm} (hA:zF A<=2^30) (k n:Int) (gs:List Fu) (ih:∀a∈gs,Sub82 A a):Sub82 A (.mk k n gs):=by
 intro hf D
 obtain ⟨_,hn4,hgs⟩:=gs_len hf
 refine zW zH tok rfl rfl fun S=> ?_
 unfold c82
 rw[zN]
 by_cases k0:k=0
 ·subst k0
  have e2:evM A (.mk 0 n gs)= .mk 4 0 0 [A]:=by rw[evM];rfl
  rw[e2]
  have h83:=spec83 A hA (D+1)
  have h81:=spec81 (D+1) 4 0 0 [A]
  rw[zC] at h81|-
  simp[zA A]
  refine zE h83 (by simp[zA A]) ?_
  simp[zA A]
  refine zE h81 (by simp[zA A]) ?_
  simp[zA A]
 by_cases k1:k=1
 ·subst k1
  have e2:evM A (.mk 1 n gs)= .mk 0 0 0 []:=by rw[evM];rfl
  rw[e2]
  have h81:=spec81 (D+1) 0 0 0 []
  rw[zC] at h81|-
  simp[zA A]
  refine zE h81 (by simp) ?_
  simp
 by_cases k2:k=2
 ·subst k2
  obtain ⟨x,y,rfl⟩:=shape2 hf (.inl rfl)
  have e2:evM A (.mk 2 n [x,y])= .mk 2 0 0 [.mk 6 0 0 [evM A x],.mk 7 0 0 [evM A y]]:=by rw[evM];simp[evMs]
  rw[e2]
  have hx:=ih x (by simp) (hgs x (by simp)) (D+1)
  have h1:=spec81 (D+1) 6 0 0 [evM A x]
  have hy:=ih y (by simp) (hgs y (by simp)) (D+1)
  have h2:=spec81 (D+1) 7 0 0 [evM A y]
  have h3:=spec81 (D+1) 2 0 0 [.mk 6 0 0 [evM A x],.mk 7 0 0 [evM A y]]
  rw[zC] at h1 h2 h3|-
  generalize hex:evM A x=ex at*
  generalize hey:evM A y=ey at*
  simp[zB x,zA A]
  refine zI hx (by simp[zB x,zA A]) ?_
  simp[zA ex]
  refine zI h1 (by simp[zA ex]) ?_
  simp[zB y]
  refine zI hy (by simp[zB y,zA A]) ?_
  simp[zA ey]
  refine zI h2 (by simp[zA ey]) ?_
  simp
  refine zI h3 (by simp[zC,zA ex,zA ey]) ?_
  simp[zC,zA ex,zA ey]
 by_cases k3:k=3
 ·subst k3
  obtain ⟨x,y,rfl⟩:=shape2 hf (.inr rfl)
  have e2:evM A (.mk 3 n [x,y])=notM (.mk 2 0 0 [notM (.mk 8 0 0 [evM A x]),notM (.mk 9 0 0 [evM A y])]):=by rw[evM];simp[evMs]
  rw[e2]
  have hx:=ih x (by simp) (hgs x (by simp)) (D+1)
  have h1:=spec81 (D+1) 8 0 0 [evM A x]
  have h2:=spec84 (.mk 8 0 0 [evM A x]) (D+1)
  have hy:=ih y (by simp) (hgs y (by simp)) (D+1)
  have h3:=spec81 (D+1) 9 0 0 [evM A y]
  have h4:=spec84 (.mk 9 0 0 [evM A y]) (D+1)
  have h5:=spec81 (D+1) 2 0 0 [notM (.mk 8 0 0 [evM A x]),notM (.mk 9 0 0 [evM A y])]
  have h6:=spec84 (.mk 2 0 0 [notM (.mk 8 0 0 [evM A x]),notM (.mk 9 0 0 [evM A y])]) (D+1)
  simp only[notM,zC] at h1 h2 h3 h4 h5 h6|-
  generalize hex:evM A x=ex at*
  generalize hey:evM A y=ey at*
  simp[zB x,zA A]
  refine zI hx (by simp[zB x,zA A]) ?_
  simp[zA ex]
  refine zI h1 (by simp[zA ex]) ?_
  simp
  refine zI h2 (by simp[zC,zA ex]) ?_
  simp[zB y]
  refine zI hy (by simp[zB y,zA A]) ?_
  simp[zA ey]
  refine zI h3 (by simp[zA ey]) ?_
  simp
  refine zI h4 (by simp[zC,zA ey]) ?_
  simp
  refine zI h5 (by simp[notM,zC,zA ex,zA ey]) ?_
  simp
  refine zI h6 (by simp[notM,zC,zA ex,zA ey]) ?_
  simp[notM,zC,zA ex,zA ey]
 by_cases k5:k=5
 ·subst k5
  obtain ⟨x,rfl⟩:=shape1 hf (by simp)
  have e2:evM A (.mk 5 n [x])=notM (.mk 11 0 0 [notM (evM A x)]):=by rw[evM];simp[evMs]
  rw[e2]
  have hx:=ih x (by simp) (hgs x (by simp)) (D+1)
  have h1:=spec84 (evM A x) (D+1)
  have h2:=spec81 (D+1) 11 0 0 [notM (evM A x)]
  have h3:=spec84 (.mk 11 0 0 [notM (evM A x)]) (D+1)
  simp only[notM,zC] at h1 h2 h3|-
  generalize hex:evM A x=ex at*
  simp[zB x,zA A]
  refine zI hx (by simp[zB x,zA A]) ?_
  simp[zA ex]
  refine zI h1 (by simp[zA ex]) ?_
  simp
  refine zI h2 (by simp[notM,zC,zA ex]) ?_
  simp
  refine zI h3 (by simp[notM,zC,zA ex]) ?_
  simp[notM,zC,zA ex]
 by_cases k6:k=6
 ·subst k6
  obtain ⟨x,rfl⟩:=shape1 hf (by simp)
  have e2:evM A (.mk 6 n [x])=notM (.mk 12 1 0 [notM (evM A x)]):=by rw[evM];simp[evMs]
  rw[e2]
  have hx:=ih x (by simp) (hgs x (by simp)) (D+1)
  have h1:=spec84 (evM A x) (D+1)
  have h2:=spec81 (D+1) 12 1 0 [notM (evM A x)]
  have h3:=spec84 (.mk 12 1 0 [notM (evM A x)]) (D+1)
  simp only[notM,zC] at h1 h2 h3|-
  generalize hex:evM A x=ex at*
  simp[zB x,zA A]
  refine zI hx (by simp[zB x,zA A]) ?_
  simp[zA ex]
  refine zI h1 (by simp[zA ex]) ?_
  simp
  refine zI h2 (by simp[notM,zC,zA ex]) ?_
  simp
  refine zI h3 (by simp[notM,zC,zA ex]) ?_
  simp[notM,zC,zA ex]
 by_cases k4:k=4
 ·subst k4
  obtain ⟨x,rfl⟩:=shape1 hf (by simp)
  obtain ⟨n1,n2⟩:=hn4 rfl
  obtain ⟨j,hj⟩:∃j:Nat,n=1+(j:Int):=⟨(n - 1).toNat,by omega⟩
  have hnj:n.toNat - 1=j:=by omega
  have e2:evM A (.mk 4 n [x])=expM (evM A x) (.mk 10 0 0 [evM A x]) 1 j:=by rw[evM];simp[evMs,hnj]
  rw[e2]
  have h1:=ih x (by simp) (hgs x (by simp)) (D+1)
  have h2:=spec81 (D+1) 10 0 0 [evM A x]
  simp only[zC] at h2
  generalize hr:encM (expM (evM A x) (.mk 10 0 0 [evM A x]) 1 j)=r
  generalize hex:evM A x=ex at*
  simp[zB x,zA A]
  refine zI h1 (by simp[zB x,zA A]) ?_
  simp[zA ex]
  refine zI h2 (by simp[zA ex]) ?_
  simp
  refine l82 (ih x (by simp)) (hgs x (by simp)) n2 D S j 1 1 (.mk 10 0 0 [ex]) _ _ r (by omega) ?_ ?_ ?_ ?_ ?_ ?_ ?_ ?_ ?_ (by rw[hex,<-hr])
  all_goals simp[Fm.o,Fm.n,Fm.m,Fm.ar,zB x,yZ]
 ·have k7:k=7:=by
   have:=hf
   rw[zG] at this
   simp only[Bool.and_eq_true,decide_eq_true_eq] at this
   have h1:=this.1
   unfold arK at h1
   repeat (split at h1<;>try omega)
  subst k7
  obtain ⟨x,rfl⟩:=shape1 hf (by simp)
  have e2:evM A (.mk 7 n [x])= .mk 13 1 1 [evM A x]:=by rw[evM];simp[evMs]
  rw[e2]
  have hx:=ih x (by simp) (hgs x (by simp)) (D+1)
  have h1:=spec81 (D+1) 13 1 1 [evM A x]
  rw[zC] at h1|-
  generalize hex:evM A x=ex at*
  simp[zB x,zA A]
  refine zI hx (by simp[zB x,zA A]) ?_
  simp[zA ex]
  refine zI h1 (by simp[zA ex]) ?_
  simp[zC,zA ex]
theorem spec82 {A:Fm} (hA:zF A<=2^30):∀f,Sub82 A f:=Fu.ind' fun k n gs ih=>spec82_of hA k n gs ih
end Go.Ab.Tab
/- The reference's Every,Always,Possible; law 5 (FixOperators). -/
namespace Go.Ab.Tab
open Go Go.Ab
theorem fit1 {o n m:Int} {a:Fm} (h:fitM a):fitM (.mk o n m [a]):=by rw[fitM];exact ⟨by simp[maxLen],h,trivial⟩
theorem fit2 {o n m:Int} {a b:Fm} (h:fitM a) (h':fitM b):fitM (.mk o n m [a,b]):=by rw[fitM];exact ⟨by simp[maxLen],h,h',trivial⟩
theorem fit0 {o n m:Int}:fitM (.mk o n m []):=by rw[fitM];exact ⟨by simp[maxLen],trivial⟩
theorem fit_exp {e:Fm} (he:fitM e):∀(j i:Nat) (out:Fm),fitM out->fitM (expM e out i j)
 | 0,i,out,h=>by rw[expM];exact h
 | j+1,i,out,h=>by rw[expM];exact fit_exp he j _ _ (fit2 h (fit1 he))
theorem fit_ev {A:Fm} (hA:fitM A):∀f:Fu,fitM (evM A f):=by
 refine Fu.ind' fun k n gs ih=> ?_
 have get:∀i,fitM ((evMs A gs).getD i A):=by
  have:∀(l:List Fu),(∀x∈l,x∈gs)->∀i,fitM ((evMs A l).getD i A):=by
   intro l
   induction l with
   | nil=>intro _ i;rw[evMs];exact hA
   | cons x l ihl=>
    intro h i
    rw[evMs]
    cases i with
    | zero=>exact ih x (h x (by simp))
    | succ i=>simpa using ihl (fun y hy=>h y (by simp[hy])) i
  exact this gs fun _ h=>h
 rw[evM]
 unfold notM
 split
 ·exact fit1 hA
 split
 ·exact fit0
 split
 ·exact fit2 (fit1 (get 0)) (fit1 (get 1))
 split
 ·exact fit1 (fit2 (fit1 (fit1 (get 0))) (fit1 (fit1 (get 1))))
 split
 ·exact fit_exp (get 0) _ _ _ (fit1 (get 0))
 split
 ·exact fit1 (fit1 (fit1 (get 0)))
 split
 ·exact fit1 (fit1 (fit1 (get 0)))
 ·exact fit1 (get 0)
def refEv (f:Fu) (a:Fm):Fm:=if lvF f*zF a<=2000 then .mk 3 0 0 [evM a f] else .mk 0 0 0 []
theorem spec29 (D:Nat) (f:Fu) (hf:zG f=true) (a:Fm) (ha:fitM a) (hn:zF a<=2500):Go.Ab.Loc Pg Gl D 29 [encF f,encM a] [] (.tup [encM (refEv f a),.bool (decide (lvF f*zF a<=2000))]) []:=by
 refine zW zH tok rfl rfl fun S=> ?_
 have h56:=spec56 a ha (by omega) (D+1)
 have h80:=spec80 f hf (D+1)
 have h82:=spec82 (A:=a) (by omega) f hf (D+1)
 have h81:=spec81 (D+1) 3 0 0 [evM a f]
 have hlv:=lvF_le f
 have hb:lvF f*zF a<=100000*2500:=Nat.mul_le_mul hlv hn
 have hw:IntKind.i64.wrap ((lvF f:Int)*(zF a:Int))=((lvF f*zF a:Nat):Int):=by rw[<-zK (n:=lvF f*zF a) (by omega)];push_cast;rfl
 have hP:(lvF f:Int)*(zF a:Int)=((lvF f*zF a:Nat):Int):=by push_cast;rfl
 unfold refEv
 generalize hex:evM a f=ex at*
 rw[zC] at h81
 unfold c29
 simp[zB f,zA a]
 refine zE h56 (by simp[zA a]) ?_
 simp
 refine zE h80 (by simp[zB f]) ?_
 by_cases hc:lvF f*zF a<=2000
 ·have hc':¬(2000:Int) < (lvF f:Int)*(zF a:Int):=by rw[hP];omega
  rw[if_pos hc]
  simp[hw,hc',hc]
  refine zE h82 (by simp[zB f,zA a]) ?_
  simp[zA ex]
  refine zE h81 (by simp[zA ex]) ?_
  simp[zC,zA ex]
 ·have hc':(2000:Int) < (lvF f:Int)*(zF a:Int):=by rw[hP];omega
  rw[if_neg hc]
  simp[hw,hc',hc,zC]
def refAlw (f:Fu) (a:Fm):Eqn:=⟨true,.mk 2 0 0 [a,refEv f varM]⟩
theorem spec30 (D:Nat) (f:Fu) (hf:zG f=true) (a:Fm) (hn:zF a<=2500):Go.Ab.Loc Pg Gl D 30 [encF f,encM a] [] (.tup [.sl 5 [encE (refAlw f a)] .no,.bool (decide (lvF f<=2000))]) []:=by
 refine zW zH tok rfl rfl fun S=> ?_
 have hv1:zF varM=1:=by simp[varM,zF,zV]
 have h81:=spec81 (D+1) 14 0 0 []
 have h29:=spec29 (D+1) f hf varM fit0 (by omega)
 rw[hv1,Nat.mul_one] at h29
 have h83:=spec83 a (by omega) (D+1)
 have h81':=spec81 (D+1) 2 0 0 [a,refEv f varM]
 have e14:encM (.mk 14 0 0 [])=encM varM:=rfl
 rw[e14] at h81
 unfold refAlw encE
 generalize refEv f varM=ex at*
 rw[zC] at h81'
 rw[zA varM] at h81 h29
 unfold c30
 simp[zB f,zA a]
 refine zI h81 (by simp) ?_
 simp
 refine zI h29 (by simp[zB f]) ?_
 simp[zA ex]
 refine zI h83 (by simp[zA a]) ?_
 simp[zA a]
 refine zI h81' (by simp[zA ex,zA a]) ?_
 simp[Fm.o,Fm.n,Fm.m,Fm.ar,zA ex,zA a]
def refPos (f:Fu) (a:Fm):Eqn:=⟨false,notM (.mk 2 0 0 [notM a,refEv f (notM varM)])⟩
theorem spec31 (D:Nat) (f:Fu) (hf:zG f=true) (a:Fm) (hn:zF a<=2500):Go.Ab.Loc Pg Gl D 31 [encF f,encM a] [] (.tup [.sl 5 [encE (refPos f a)] .no,.bool (decide (lvF f*2<=2000))]) []:=by
 refine zW zH tok rfl rfl fun S=> ?_
 have hv1:zF (notM varM)=2:=by simp[notM,varM,zF,zV]
 have h81:=spec81 (D+1) 14 0 0 []
 have h84:=spec84 varM (D+1)
 have h29:=spec29 (D+1) f hf (notM varM) (fit1 fit0) (by omega)
 rw[hv1] at h29
 have h83:=spec83 a (by omega) (D+1)
 have h84a:=spec84 a (D+1)
 have h81':=spec81 (D+1) 2 0 0 [notM a,refEv f (notM varM)]
 have h84b:=spec84 (.mk 2 0 0 [notM a,refEv f (notM varM)]) (D+1)
 have e14:encM (.mk 14 0 0 [])=encM varM:=rfl
 rw[e14] at h81
 unfold refPos encE
 generalize refEv f (notM varM)=ex at*
 rw[zA varM] at h81 h84
 rw[zA (notM varM)] at h84 h29
 generalize notM varM=nv at*
 simp only[notM,zC] at h84a h81' h84b|-
 unfold c31
 simp[zB f,zA a]
 refine zI h81 (by simp) ?_
 simp
 refine zI h84 (by simp) ?_
 simp
 refine zI h29 (by simp[zB f]) ?_
 simp[zA ex]
 refine zI h83 (by simp[zA a]) ?_
 simp[zA a]
 refine zI h84a (by simp[zA a]) ?_
 simp
 refine zI h81' (by simp[zC,notM,zA ex,zA a]) ?_
 simp
 refine zI h84b (by simp[zC,notM,zA ex,zA a]) ?_
 simp[Fm.o,Fm.n,Fm.m,Fm.ar,notM,zC,zA ex,zA a]
theorem spec32 (D:Nat) (f:Fu) (hf:zG f=true) (l want:List Eqn) (hl:fitL l) (hw:fitL want) (e:Int) (fits:Bool):
  Go.Ab.Loc Pg Gl D 32 [encF f,encL l,encL want,.int .i64 e,.bool fits] [] (.bool (if fits&&isL f want then decide (e=0)&&((l.all fun x=>decide (zF x.body<=2500))&&decide (l.length<=20))&&(decide (l.length=want.length)&&eqEs l want) else decide (e=2)&&decide (l.length=0))) []:=by
 refine zW zH tok rfl rfl fun S=> ?_
 have h36:=spec36 (D+1) f hf want hw
 have h38:=spec38 (D+1) 2500 (by omega) l hl
 have h41:=spec41 (D+1) l want hl
 have el:encL l= .sl 5 (l.map encE) .no:=rfl
 have ew:encL want= .sl 5 (want.map encE) .no:=rfl
 have e0:decide ((l.map encE).length=0)=decide (l.length=0):=by simp
 have e1:decide (((l.length:Nat):Int)=0)=decide (l.length=0):=decide_eq_decide.2 (by omega)
 rw[el] at h38 h41
 rw[ew] at h36 h41
 rw[el,ew]
 generalize ((l.all fun x=>decide (zF x.body<=2500))&&decide (l.length<=20))=b1 at*
 generalize (decide (l.length=want.length)&&eqEs l want)=b2 at*
 unfold c32
 cases fits with
 | false=>
  simp[zB f]
  by_cases h2:e=2
  ·simp[h2,e1]
  ·simp[h2]
 | true=>
  simp[zB f]
  refine zE h36 (by simp[zB f]) ?_
  cases isL f want with
  | false=>
   simp
   by_cases h2:e=2
   ·simp[h2,e1]
   ·simp[h2]
  | true=>
   simp
   by_cases h2:e=0
   ·simp[h2]
    refine zE h38 (by simp) ?_
    cases b1 with
    | false=>simp
    | true=>
     simp
     refine zE h41 (by simp) ?_
     simp
   ·simp[h2]
end Go.Ab.Tab
