/- awake: calls that do not depend on the input. -/
import Derived.Test.YtkjbakmlonpdjaaGreatDoorFormsH
import Derived.Test.YtkjbakmlonpdjaaGreatDoorFormsB4
set_option linter.unusedVariables false
set_option linter.unusedSimpArgs false
set_option maxRecDepth 100000
namespace Go.Ab.Tab
open Go Go.Ab
def chF:Fu:= .mk 2 0 [.mk 1 2 [],.mk 7 0 [.mk 0 0 []]]
def chM:List Va:=[.mk 0 [.mk 0 [] [],.mk 0 [.mk 1 [] [],.mk 2 [] []] [1,2]] [],.mk 0 [.mk 1 [] [],.mk 0 [.mk 1 [] []] [1]] [],.mk 0 [.mk 1 [] [],.mk 0 [.mk 2 [] []] [1]] []]
def chS:Sy:=⟨chF,chM⟩
def chA:Fm:= .mk 3 0 0 [.mk 6 0 0 [.mk 5 1 0 []]]
theorem spec44 (D:Nat):Go.Ab.Loc Pg Gl D 44 [] [] (.tup [encY chS,encM chA]) []:=by
 refine zW zH tok rfl rfl fun S=> ?_
 have h1:=spec101 (D+1) 1 2 []
 have h2:=spec101 (D+1) 0 0 []
 have h3:=spec101 (D+1) 7 0 [.mk 0 0 []]
 have h4:=spec101 (D+1) 2 0 [.mk 1 2 [],.mk 7 0 [.mk 0 0 []]]
 have h5:=spec81 (D+1) 5 1 0 []
 have h6:=spec81 (D+1) 6 0 0 [.mk 5 1 0 []]
 have h7:=spec81 (D+1) 3 0 0 [.mk 6 0 0 [.mk 5 1 0 []]]
 simp[zO,zF] at h1 h2 h3 h4 h5 h6 h7
 simp[encY,chS,chF,chM,chA,zO,zV,zF,Fu.k,Fu.n,Fu.gs]
 unfold c44
 simp
 refine zE h1 (by simp) ?_
 refine zE h2 (by simp) ?_
 simp
 refine zE h3 (by simp) ?_
 simp
 refine zE h4 (by simp) ?_
 simp
 refine zZ h5 (by simp) ?_
 simp
 refine zZ h6 (by simp) ?_
 simp
 refine zZ h7 (by simp) ?_
 simp
def xA:Eqn:=⟨true,alwM chA chF⟩
def xP:Eqn:=⟨false,posM chA chF⟩
theorem chain_facts:fineN chF chA=0/\isL chF [xA]=true/\isL chF [xP]=true/\zC (alwM chA chF)<=1000/\zC (posM chA chF)<=1000/\
  faultN chS [xA]=0/\faultN chS [xP]=0/\elemsT (solS chS [xA] 0) 3= [1,2]/\elemsT (solS chS [xP] 0) 3= [0,1,2]/\zT chM<=100:=by
 refine ⟨by rfl,by rfl,by rfl,by decide,by decide,by rfl,by rfl,by rfl,by rfl,by decide⟩
theorem fit_ch:fitY chS:=by
 refine ⟨?_,?_,?_⟩
 ·simp[chS,chF,fitF,fitFs,maxLen]
 ·simp[chS,chM,maxLen]
 ·simp[chS,chM,fitV,fitVs,maxLen]
theorem sing_ok {f:Fu} {x:Eqn} (h:isL f [x]=true):singR f x= .tup [.sl 5 [encE x] .no,.int .i64 0]:=by unfold singR;rw[if_pos h]
theorem fitL_one {x:Eqn} (h:zC x.body<=maxLen):fitL [x]:=⟨by simp[maxLen],fun y hy=>by rw[List.mem_singleton] at hy;subst hy;exact fitM_of _ h⟩
theorem sol_one {x:Eqn} (h0:faultN chS [x]=0):solR chS [x]= .tup [.sl 1 [listT 3 (solS chS [x] 0)] .no,.int .i64 0]:=by
 unfold solR;rw[if_pos h0];rfl
theorem spec12 (D:Nat):Go.Ab.Loc Pg Gl D 12 [] [] (.bool true) []:=by
 obtain ⟨f1,f4,f5,f6,f7,f8,f9,f10,f11,f12⟩:=chain_facts
 have n6:zC xA.body<=maxLen:=by unfold maxLen;exact Nat.le_trans f6 (by decide)
 have n7:zC xP.body<=maxLen:=by unfold maxLen;exact Nat.le_trans f7 (by decide)
 have h44:=spec44 (D+1)
 have h20:=spec20 (D+1) chF fit_ch.1 chA
 have h21:=spec21 (D+1) chF fit_ch.1 chA
 unfold alwaysR at h20
 unfold possR at h21
 rw[if_pos f1] at h20 h21
 have e20:singR chF ⟨true,alwM chA chF⟩= .tup [.sl 5 [encE xA] .no,.int .i64 0]:=sing_ok f4
 have e21:singR chF ⟨false,posM chA chF⟩= .tup [.sl 5 [encE xP] .no,.int .i64 0]:=sing_ok f5
 rw[e20] at h20
 rw[e21] at h21
 have hsh:zJ chF=true:=by rfl
 have h36a:=spec36 (D+1) chF hsh [xA] (fitL_one n6)
 have h36p:=spec36 (D+1) chF hsh [xP] (fitL_one n7)
 rw[f4] at h36a
 rw[f5] at h36p
 have h13a:=spec13 chS fit_ch (by show zT chM<=_;omega) [xA] (fitL_one n6) (D+1)
 have h13p:=spec13 chS fit_ch (by show zT chM<=_;omega) [xP] (fitL_one n7) (D+1)
 rw[sol_one f8,listT,f10] at h13a
 rw[sol_one f9,listT,f11] at h13p
 have h34:=spec34e (D+1) (.mk (-1) 0 []) (by simp[fitF,fitFs,maxLen]) [] ⟨by simp[maxLen],by simp⟩ (by decide)
 have e34:asksN (.mk (-1) 0 []) []=10:=by rfl
 rw[e34] at h34
 rw[zO] at h34
 have eY:encY chS= .agg [.int .i64 2,.int .i64 0,.sl 3 (chF.gs.map encF) .no,.sl 3 (chM.map encV) .no]:=rfl
 have eF:encF chF= .agg [.int .i64 2,.int .i64 0,.sl 3 (chF.gs.map encF) .no]:=by rw[zB];rfl
 have eA:encM chA= .agg [.int .i64 3,.int .i64 0,.int .i64 0,.sl 4 (chA.ar.map encM) .no]:=by rw[zA];rfl
 have eLA:encL [xA]= .sl 5 [encE xA] .no:=rfl
 have eLP:encL [xP]= .sl 5 [encE xP] .no:=rfl
 have eL0:encL []= .sl 5 [] .no:=rfl
 rw[eY] at h44 h13a h13p
 rw[eA] at h44 h20 h21
 rw[eF] at h20 h21 h36a h36p
 rw[eLA] at h36a h13a
 rw[eLP] at h36p h13p
 rw[eL0] at h34
 generalize chF.gs.map encF=gF at*
 generalize chM.map encV=gM at*
 generalize chA.ar.map encM=gA at*
 generalize encE xA=EA' at*
 generalize encE xP=EP' at*
 refine zW zH tok rfl rfl fun S=> ?_
 unfold c12
 simp
 refine zE h44 (by simp) ?_
 simp
 refine zE h20 (by simp) ?_
 simp
 refine zE h21 (by simp) ?_
 simp
 refine zE h36a (by simp) ?_
 simp
 refine zE h36p (by simp) ?_
 simp
 refine zE h13a (by simp) ?_
 simp
 refine zE h13p (by simp) ?_
 simp
 refine zE h34 (by simp) ?_
 simp[encN]
end Go.Ab.Tab
/- Arguments as data. -/
namespace Go.Ab
open Go
section
variable {P:Program} {t:TypeId} {n:Nat} {cs:List AV}
theorem ty_int {k:IntKind} (hu:P.underlying t=some (.int k)) (h:tyOk P n t cs):∃i,cs= [.int k i]/\(Lit.int k i).wf=true:=by
 cases n with
 | zero=>cases h
 | succ n=>simpa only[tyOk,hu] using h
theorem ty_slice {e:TypeId} (hu:P.underlying t=some (.slice e)) (h:tyOk P n t cs):∃xs n',cs= [.sl (P.cellsOf e) xs .no]/\xs.length<=maxLen/\∀x∈xs,∃c,x=mkV P e c/\tyOk P n' e c:=by
 cases n with
 | zero=>cases h
 | succ n=>
  simp only[tyOk,hu] at h
  obtain ⟨xs,h1,h2,h3⟩:=h
  exact ⟨xs,n,h1,h2,h3⟩
def fieldsOf (P:Program) (t:TypeId):List (TypeId×Nat):=match P.underlying t with
 | some (.struct fs)=>fs.toList.map fun f=>(f.type,f.offset)
 | _=>[]
def isStruct (P:Program) (t:TypeId):Bool:=match P.underlying t with
 | some (.struct _)=>true
 | _=>false
theorem map_exists {α β:Type} (f:α->β) (q:α->Prop):∀(l:List β),(∀x∈l,∃a,x=f a/\q a)->∃bs:List α,l=bs.map f/\∀a∈bs,q a
 | [],_=>⟨[],rfl,by simp⟩
 | x::l,h=>by
  obtain ⟨a,h1,h2⟩:=h x (by simp)
  obtain ⟨bs,h3,h4⟩:=map_exists f q l fun y hy=>h y (by simp[hy])
  exact ⟨a::bs,by simp[h1,h3],fun b hb=>by rcases List.mem_cons.1 hb with rfl | hb;exact h2;exact h4 b hb⟩
theorem mkV_one (h:isAggT P t=false) (c:AV):mkV P t [c]=c:=by unfold mkV;rw[h];rfl
theorem mkV_agg (h:isAggT P t=true):mkV P t cs= .agg cs:=by unfold mkV;rw[h];rfl
end
namespace Tab
theorem u3:Pg.underlying 3=some (.int .i64):=by kernel_rfl
theorem z3:Pg.cellsOf 3=1:=by kernel_rfl
theorem g3:isAggT Pg 3=false:=by kernel_rfl
theorem arg3 {a:AV} (h:Arg Pg 3 a):∃n:Int,a= .int .i64 n:=by
 obtain ⟨fuel,cs,h1,h2,rfl⟩:=h
 obtain ⟨i,rfl,_⟩:=ty_int u3 h1
 exact ⟨i,mkV_one g3 _⟩
theorem u22:Pg.underlying 22=some (.slice 24):=by kernel_rfl
theorem s24:isStruct Pg 24=true:=by kernel_rfl
theorem f24:fieldsOf Pg 24= [(3,0),(3,1),(22,2)]:=by kernel_rfl
theorem z24:Pg.cellsOf 24=3:=by kernel_rfl
theorem z22:Pg.cellsOf 22=1:=by kernel_rfl
theorem g24:isAggT Pg 24=true:=by kernel_rfl
theorem ty_slice' {P:Program} {t e:TypeId} {n:Nat} {cs:List AV} (hu:P.underlying t=some (.slice e)) (h:tyOk P (n+1) t cs):∃xs,cs= [.sl (P.cellsOf e) xs .no]/\xs.length<=maxLen/\∀x∈xs,∃c,x=mkV P e c/\tyOk P n e c:=by
 simp only[tyOk,hu] at h
 exact h
theorem ty_struct' {P:Program} {t:TypeId} {n:Nat} {cs:List AV} (hs:isStruct P t=true) (h:tyOk P (n+1) t cs):cs.length=P.cellsOf t/\∀f∈fieldsOf P t,tyOk P n f.1 ((cs.drop f.2).take (P.cellsOf f.1)):=by
 unfold isStruct at hs
 unfold fieldsOf
 cases hu:P.underlying t with
 | none=>rw[hu] at hs;cases hs
 | some d=>
  rw[hu] at hs
  cases d with
  | struct fs=>
   simp only[tyOk,hu] at h
   refine ⟨h.1,fun f hf=> ?_⟩
   obtain ⟨g,hg,rfl⟩:=List.mem_map.1 hf
   exact h.2 g hg
  | _=>cases hs
theorem fitFs_of:∀{l:List Fu},(∀a∈l,fitF a)->fitFs l
 | [],_=>by rw[fitFs];trivial
 | a::l,h=>by rw[fitFs];exact ⟨h a (by simp),fitFs_of fun b hb=>h b (by simp[hb])⟩
theorem three {cs:List AV} (h:cs.length=3):∃a b c,cs= [a,b,c]:=by
 match cs,h with
 | [a,b,c],_=>exact ⟨a,b,c,rfl⟩
theorem ty24:∀(n:Nat) {cs:List AV},tyOk Pg n 24 cs->∃f:Fu,cs= [.int .i64 f.k,.int .i64 f.n,.sl 3 (f.gs.map encF) .no]/\fitF f:=by
 intro n
 induction n using Nat.strongRecOn with
 | ind n ih=>
  intro cs h
  cases n with
  | zero=>cases h
  | succ n=>
   obtain ⟨hl,hf⟩:=ty_struct' s24 h
   rw[f24] at hf
   rw[z24] at hl
   obtain ⟨a,b,c,rfl⟩:=three hl
   have k0:=hf (3,0) (by simp)
   have k1:=hf (3,1) (by simp)
   have k2:=hf (22,2) (by simp)
   rw[z3] at k0 k1
   rw[z22] at k2
   obtain ⟨i,e0,_⟩:=ty_int u3 k0
   obtain ⟨j,e1,_⟩:=ty_int u3 k1
   simp at e0 e1
   subst e0;subst e1
   cases n with
   | zero=>cases k2
   | succ n=>
    obtain ⟨xs,e2,h2,h3⟩:=ty_slice' u22 k2
    obtain ⟨gs,hgs,hfit⟩:=map_exists encF fitF xs fun x hx=>by
     obtain ⟨c',rfl,hc⟩:=h3 x hx
     obtain ⟨f,rfl,hff⟩:=ih n (by omega) hc
     exact ⟨f,by rw[mkV_agg g24,zB],hff⟩
    subst hgs
    rw[z24] at e2
    simp at e2
    subst e2
    refine ⟨.mk i j gs,rfl,?_⟩
    rw[fitF]
    exact ⟨by simpa using h2,fitFs_of hfit⟩
theorem arg24 {a:AV} (h:Arg Pg 24 a):∃f:Fu,a=encF f/\fitF f:=by
 obtain ⟨fuel,cs,h1,h2,rfl⟩:=h
 obtain ⟨f,rfl,hf⟩:=ty24 _ h1
 exact ⟨f,by rw[mkV_agg g24,zB],hf⟩
theorem four {cs:List AV} (h:cs.length=4):∃a b c d,cs= [a,b,c,d]:=by
 match cs,h with
 | [a,b,c,d],_=>exact ⟨a,b,c,d,rfl⟩
theorem ty_bool {P:Program} {t:TypeId} {n:Nat} {cs:List AV} (hu:P.underlying t=some .bool) (h:tyOk P n t cs):∃b,cs= [.bool b]:=by
 cases n with
 | zero=>cases h
 | succ n=>simpa only[tyOk,hu] using h
theorem u4:Pg.underlying 4=some .bool:=by kernel_rfl
theorem u43:Pg.underlying 43=some (.slice 45):=by kernel_rfl
theorem u28:Pg.underlying 28=some (.slice 71):=by kernel_rfl
theorem s45:isStruct Pg 45=true:=by kernel_rfl
theorem s71:isStruct Pg 71=true:=by kernel_rfl
theorem f45:fieldsOf Pg 45= [(3,0),(3,1),(3,2),(43,3)]:=by kernel_rfl
theorem f71:fieldsOf Pg 71= [(4,0),(45,1)]:=by kernel_rfl
theorem z45:Pg.cellsOf 45=4:=by kernel_rfl
theorem z71:Pg.cellsOf 71=5:=by kernel_rfl
theorem z43:Pg.cellsOf 43=1:=by kernel_rfl
theorem z4:Pg.cellsOf 4=1:=by kernel_rfl
theorem g45:isAggT Pg 45=true:=by kernel_rfl
theorem g71:isAggT Pg 71=true:=by kernel_rfl
theorem g28:isAggT Pg 28=false:=by kernel_rfl
theorem fitMs_of:∀{l:List Fm},(∀a∈l,fitM a)->fitMs l
 | [],_=>by rw[fitMs];trivial
 | a::l,h=>by rw[fitMs];exact ⟨h a (by simp),fitMs_of fun b hb=>h b (by simp[hb])⟩
theorem ty45:∀(n:Nat) {cs:List AV},tyOk Pg n 45 cs->∃f:Fm,cs= [.int .i64 f.o,.int .i64 f.n,.int .i64 f.m,.sl 4 (f.ar.map encM) .no]/\fitM f:=by
 intro n
 induction n using Nat.strongRecOn with
 | ind n ih=>
  intro cs h
  cases n with
  | zero=>cases h
  | succ n=>
   obtain ⟨hl,hf⟩:=ty_struct' s45 h
   rw[f45] at hf
   rw[z45] at hl
   obtain ⟨a,b,c,d,rfl⟩:=four hl
   have k0:=hf (3,0) (by simp)
   have k1:=hf (3,1) (by simp)
   have k2:=hf (3,2) (by simp)
   have k3:=hf (43,3) (by simp)
   rw[z3] at k0 k1 k2
   rw[z43] at k3
   obtain ⟨i,e0,_⟩:=ty_int u3 k0
   obtain ⟨j,e1,_⟩:=ty_int u3 k1
   obtain ⟨l,e2,_⟩:=ty_int u3 k2
   simp at e0 e1 e2
   subst e0;subst e1;subst e2
   cases n with
   | zero=>cases k3
   | succ n=>
    obtain ⟨xs,e3,h2,h3⟩:=ty_slice' u43 k3
    obtain ⟨gs,hgs,hfit⟩:=map_exists encM fitM xs fun x hx=>by
     obtain ⟨c',rfl,hc⟩:=h3 x hx
     obtain ⟨f,rfl,hff⟩:=ih n (by omega) hc
     exact ⟨f,by rw[mkV_agg g45,zA],hff⟩
    subst hgs
    rw[z45] at e3
    simp at e3
    subst e3
    refine ⟨.mk i j l gs,rfl,?_⟩
    rw[fitM]
    exact ⟨by simpa using h2,fitMs_of hfit⟩
theorem ty71 {n:Nat} {cs:List AV} (h:tyOk Pg n 71 cs):∃x:Eqn,mkV Pg 71 cs=encE x/\fitM x.body:=by
 cases n with
 | zero=>cases h
 | succ n=>
  obtain ⟨hl,hf⟩:=ty_struct' s71 h
  rw[f71] at hf
  rw[z71] at hl
  obtain ⟨a,b,c,d,e,rfl⟩:∃a b c d e,cs= [a,b,c,d,e]:=by
   match cs,hl with
   | [a,b,c,d,e],_=>exact ⟨a,b,c,d,e,rfl⟩
  have k0:=hf (4,0) (by simp)
  have k1:=hf (45,1) (by simp)
  rw[z4] at k0
  rw[z45] at k1
  obtain ⟨g,e0⟩:=ty_bool u4 k0
  obtain ⟨f,e1,hff⟩:=ty45 _ k1
  simp at e0 e1
  obtain ⟨rfl,rfl,rfl,rfl⟩:=e1
  subst e0
  exact ⟨⟨g,f⟩,by rw[mkV_agg g71];rfl,hff⟩
theorem arg28 {a:AV} (h:Arg Pg 28 a):∃l:List Eqn,a=encL l/\fitL l:=by
 obtain ⟨fuel,cs,h1,h2,rfl⟩:=h
 obtain ⟨xs,n',rfl,h2,h3⟩:=ty_slice u28 h1
 obtain ⟨l,hl,hfit⟩:=map_exists encE (fun x=>fitM x.body) xs fun x hx=>by
  obtain ⟨c,rfl,hc⟩:=h3 x hx
  exact ty71 hc
 subst hl
 exact ⟨l,by rw[mkV_one g28,z71];rfl,by simpa using h2,hfit⟩
end Tab
end Go.Ab
/- The reference's Same,Copy,Not,SameAll,Formula. -/
namespace Go.Ab.Tab
open Go Go.Ab
mutual
def eqM:Fm->Fm->Bool
 | .mk o n m ar,b=>decide (o=b.o)&&decide (n=b.n)&&decide (m=b.m)&&decide (ar.length=b.ar.length)&&eqMs ar b.ar
def eqMs:List Fm->List Fm->Bool
 | [],_=>true
 | a::l,k=>eqM a (k.getD 0 (.mk 0 0 0 []))&&eqMs l (k.drop 1)
end
theorem eqM_iff:∀a b:Fm,eqM a b=true↔a=b:=by
 refine Fm.ind' fun o n m ar ih b=> ?_
 obtain ⟨o',n',m',ar'⟩:=b
 have:∀l:List Fm,(∀x∈l,x∈ar)->∀k:List Fm,l.length=k.length->(eqMs l k=true↔l=k):=by
  intro l
  induction l with
  | nil=>intro _ k hk;rw[eqMs];simp[List.eq_nil_of_length_eq_zero hk.symm]
  | cons x l ihl=>
   intro h k hk
   cases k with
   | nil=>simp at hk
   | cons y k=>
    rw[eqMs,Bool.and_eq_true,List.getD_cons_zero,ih x (h x (by simp)),List.drop_one,List.tail_cons,ihl (fun z hz=>h z (by simp[hz])) k (by simpa using hk),List.cons.injEq]
 rw[eqM]
 show (decide (o=o')&&decide (n=n')&&decide (m=m')&&decide (ar.length=ar'.length)&&eqMs ar ar')=true↔_
 simp only[Bool.and_eq_true,decide_eq_true_eq,Fm.mk.injEq]
 constructor
 ·rintro ⟨⟨⟨⟨h1,h2⟩,h3⟩,h4⟩,h5⟩
  exact ⟨h1,h2,h3,(this ar (fun _ h=>h) ar' h4).1 h5⟩
 ·rintro ⟨h1,h2,h3,h4⟩
  exact ⟨⟨⟨⟨h1,h2⟩,h3⟩,by rw[h4]⟩,(this ar (fun _ h=>h) ar' (by rw[h4])).2 h4⟩
theorem l28 (D:Nat) (a b:Fm) (hlen:a.ar.length<=maxLen) (hbl:a.ar.length=b.ar.length) (hrec:∀x∈a.ar,∀(y:Fm) (D:Nat),Go.Ab.Loc Pg Gl D 28 [encM x,encM y] [] (.bool (eqM x y)) []) (S):∀(j i:Nat) (τ ω) (r:AV),i+j=a.ar.length->
  τ 3= .ptr D 3 1 0->τ 36= .sl 4 (a.ar.map encM) .no->τ 37= .int .i64 a.ar.length->τ 38= .int .i64 i->ω 3=(1,.cells [.int .i64 b.o,.int .i64 b.n,.int .i64 b.m,.sl 4 (b.ar.map encM) .no])->r= .bool (eqMs (a.ar.drop i) (b.ar.drop i))->
  Rd (Loc Pg Gl) .im (RetQ [.tmp 4] r S) [.lp c28_l0,.blk 0,.c c28_k0] (stF 52 D τ ω S):=by
 intro j
 induction j with
 | zero=>
  intro i τ ω r hi t3 t36 t37 t38 w3 hr
  refine zL c28_l0.eq_1 ?_
  obtain rfl:i=a.ar.length:=by omega
  rw[List.drop_length,eqMs] at hr
  simp[t36,t37,t38,c28_k0,hr]
 | succ j ih=>
  intro i τ ω r hi t3 t36 t37 t38 w3 hr
  refine zL c28_l0.eq_1 ?_
  have hlt:i < a.ar.length:=by omega
  have hlt2:i < b.ar.length:=by omega
  have hwr:=yC hlt hlen
  rw[List.drop_eq_getElem_cons hlt,List.drop_eq_getElem_cons hlt2,eqMs,List.getD_cons_zero,List.drop_one,List.tail_cons] at hr
  have h1:=hrec a.ar[i] (List.getElem_mem hlt) b.ar[i] (D+1)
  simp[t3,t36,t37,t38,w3,hlt,hlt2,zA a.ar[i],zA b.ar[i]]
  refine zZ h1 (by simp[zA a.ar[i],zA b.ar[i]]) ?_
  cases h:eqM a.ar[i] b.ar[i] with
  | false=>rw[h] at hr;simp[hr]
  | true=>
   rw[h,Bool.true_and] at hr
   simp[t38,hwr]
   refine ih (i+1) _ _ r (by omega) ?_ ?_ ?_ ?_ ?_ hr
   all_goals simp[t3,t36,t37,w3]
theorem spec28:∀(a:Fm),fitM a->∀(b:Fm) (D:Nat),Go.Ab.Loc Pg Gl D 28 [encM a,encM b] [] (.bool (eqM a b)) []:=by
 refine Fm.ind' fun o n m ar ih=> ?_
 intro hfit b D
 rw[fitM] at hfit
 refine zW zH tok rfl rfl fun S=> ?_
 unfold c28
 rw[eqM,zF,zA b]
 generalize hr:AV.bool _=r
 by_cases h1:o=b.o
 ·by_cases h2:n=b.n
  ·by_cases h3:m=b.m
   ·by_cases h4:ar.length=b.ar.length
    ·simp[h1,h2,h3,h4] at hr|-
     refine l28 D (.mk o n m ar) b hfit.1 h4 (fun x hx y D=>ih x hx (fitMs_mem hfit.2 x hx) y D) S ar.length 0 _ _ r (by simp[Fm.ar]) ?_ ?_ ?_ ?_ ?_ (by rw[<-hr];rfl)
     all_goals simp[Fm.ar,h4]
    ·have h4':¬(ar.length:Int)=b.ar.length:=by omega
     simp[h1,h2,h3,h4,h4'] at hr|-
     simp[hr]
   ·simp[h1,h2,h3] at hr|-
    simp[hr]
  ·simp[h1,h2] at hr|-
   simp[hr]
 ·simp[h1] at hr|-
  simp[hr]
theorem l83 (D:Nat) (o n m:Int) (ar:List Fm) (hlen:ar.length<=2^30) (hrec:∀a∈ar,∀D,Go.Ab.Loc Pg Gl D 83 [encM a] [] (encM a) []) (S:Nat->Nat->Ent):∀(j k:Nat) (tp:Tip) (τ ω) (r:AV),k+j=ar.length->(tp= .tip\/tp= .nil)->
  τ 2= .ptr D 2 1 0->τ 3= .ptr D 3 1 0->τ 14= .sl 4 (ar.map encM) .no->τ 15= .int .i64 ar.length->τ 16= .int .i64 k->
  ω 2=(1,.cells [.int .i64 0,.int .i64 0,.int .i64 0,.sl 4 [] .tip])->ω 3=(1,.cells [.int .i64 o,.int .i64 n,.int .i64 m,.sl 4 ((ar.take k).map encM) tp])->r=encM (.mk o n m ar)->
  Rd (Loc Pg Gl) .im (RetQ [.cell 2 true 4] r S) [.lp c83_l0,.blk 0,.c c83_k0] (stF 29 D τ ω S):=by
 intro j
 induction j with
 | zero=>
  intro k tp τ ω r hk htp t2 t3 t14 t15 t16 w2 w3 hr
  refine zL c83_l0.eq_1 ?_
  obtain rfl:k=ar.length:=by omega
  rw[List.take_of_length_le (Nat.le_refl _)] at w3
  rw[zF] at hr
  rcases htp with rfl | rfl<;>simp[t2,t3,t14,t15,t16,w2,w3,c83_k0,hr]
 | succ j ih=>
  intro k tp τ ω r hk htp t2 t3 t14 t15 t16 w2 w3 hr
  refine zL c83_l0.eq_1 ?_
  have hlt:k < ar.length:=by omega
  have hwr:=yC hlt (by unfold maxLen;omega)
  have hal:((ar.take k).map encM).length=k:=by simp;omega
  have hle:(k+1)*48<=1099511627776:=by omega
  have htp':(tp= .nil\/tp= .tip)=True:=by simp;exact htp.symm
  have htk:(ar.take (k+1)).map encM=(ar.take k).map encM++[encM ar[k]]:=by rw[List.take_succ_eq_append_getElem hlt,List.map_append];rfl
  have hmin:min k ar.length=k:=by omega
  simp[t2,t3,t14,t15,t16,w2,w3,hlt,hwr,zA ar[k]]
  refine zZ (hrec ar[k] (List.getElem_mem hlt) (D+1)) (by simp[zA ar[k]]) ?_
  simp[t2,t3,t16,w2,w3,htp,htp',zA ar[k],hmin,hle,hwr]
  refine ih (k+1) .tip _ _ r (by omega) (.inl rfl) ?_ ?_ ?_ ?_ ?_ ?_ ?_ hr
  all_goals simp[t2,t3,t14,t15,w2,htk,zA ar[k]]
theorem spec83:∀(a:Fm),zC a<=2^30->∀D,Go.Ab.Loc Pg Gl D 83 [encM a] [] (encM a) []:=by
 refine Fm.ind' fun o n m ar ih hn D=> ?_
 rw[zC] at hn
 have:=nodesMs_len ar
 refine zW zH tok rfl rfl fun S=> ?_
 unfold c83
 generalize hQ:RetQ [RV.cell 2 true 4] (encM (.mk o n m ar)) S=Q
 rw[zF]
 simp
 rw[<-hQ]
 refine l83 D o n m ar (by omega) (fun a ha=>ih a ha (by have:=nodesMs_le ha;omega)) S ar.length 0 .tip _ _ _ (by simp) (.inl rfl) ?_ ?_ ?_ ?_ ?_ ?_ ?_ rfl
 all_goals simp
theorem spec84 (a:Fm) (D:Nat):Go.Ab.Loc Pg Gl D 84 [encM a] [] (encM (notM a)) []:=by
 refine zW zH tok rfl rfl fun S=> ?_
 have h:=spec81 (D+1) 1 0 0 [a]
 unfold c84 notM
 rw[zF] at h|-
 simp[zA a]
 refine zE h (by simp[zA a]) ?_
 simp[zA a]
def eqEs:List Eqn->List Eqn->Bool
 | [],_=>true
 | x::l,[]=>false
 | x::l,y::k=>decide (x.gr=y.gr)&&eqM x.body y.body&&eqEs l k
theorem eqEs_iff:∀l k:List Eqn,l.length=k.length->(eqEs l k=true↔l=k)
 | [],[],_=>by simp[eqEs]
 | x::l,y::k,h=>by
  obtain ⟨g,b⟩:=x
  obtain ⟨g',b'⟩:=y
  rw[eqEs,Bool.and_eq_true,Bool.and_eq_true,decide_eq_true_eq,eqM_iff,eqEs_iff l k (by simpa using h),List.cons.injEq,Eqn.mk.injEq]
theorem l41 (D:Nat) (l k:List Eqn) (hl:fitL l) (hk:l.length=k.length) (S):∀(j i:Nat) (τ ω) (r:AV),i+j=l.length->
  τ 1=encL k->τ 12=encL l->τ 13= .int .i64 l.length->τ 14= .int .i64 i->r= .bool (eqEs (l.drop i) (k.drop i))->
  Rd (Loc Pg Gl) .im (RetQ [.tmp 4] r S) [.lp c41_l0,.blk 0,.c c41_k0] (stF 39 D τ ω S):=by
 intro j
 induction j with
 | zero=>
  intro i τ ω r hi t1 t12 t13 t14 hr
  refine zL c41_l0.eq_1 ?_
  obtain rfl:i=l.length:=by omega
  rw[List.drop_length,eqEs] at hr
  simp[t12,t13,t14,c41_k0,hr]
 | succ j ih=>
  intro i τ ω r hi t1 t12 t13 t14 hr
  refine zL c41_l0.eq_1 ?_
  have hlt:i < l.length:=by omega
  have hlt2:i < k.length:=by omega
  have hwr:=yC hlt hl.1
  have h1:=spec28 l[i].body (hl.2 _ (List.getElem_mem hlt)) k[i].body (D+1)
  rw[List.drop_eq_getElem_cons hlt,List.drop_eq_getElem_cons hlt2,eqEs] at hr
  generalize hx:l[i]=x at*
  generalize hy:k[i]=y at*
  obtain ⟨gx,bx⟩:=x
  obtain ⟨gy,by'⟩:=y
  cases gx<;>cases gy
  all_goals simp[t1,t12,t13,t14,hlt,hlt2,encL,encE,hx,hy] at hr|-
  all_goals first
   | (simp[hr];done)
   | (
     refine zZ h1 (by simp[zA bx,zA by']) ?_
     cases h:eqM bx by' with
     | false=>rw[h] at hr;simp[hr]
     | true=>
      rw[h,Bool.true_and] at hr
      simp[t14,hwr]
      refine ih (i+1) _ _ r (by omega) ?_ ?_ ?_ ?_ hr
      all_goals simp[t1,t12,t13,encL])
theorem spec41 (D:Nat) (l k:List Eqn) (hl:fitL l):Go.Ab.Loc Pg Gl D 41 [encL l,encL k] [] (.bool (decide (l.length=k.length)&&eqEs l k)) []:=by
 refine zW zH tok rfl rfl fun S=> ?_
 unfold c41
 by_cases h:l.length=k.length
 ·generalize hr:AV.bool _=r
  simp[encL,h] at hr|-
  refine l41 D l k hl h S l.length 0 _ _ r (by simp) ?_ ?_ ?_ ?_ (by rw[<-hr];rfl)
  all_goals simp[encL,h]
 ·have h':¬(l.length:Int)=k.length:=by omega
  simp[encL,h,h']
end Go.Ab.Tab
/- Dual,the reference's put and Dual. -/
namespace Go.Ab.Tab
open Go Go.Ab
theorem nodes_neg (n:Int):zC (negV n)=2:=by simp[negV,notM,zC,zQ]
theorem dual_nodes (x:Eqn):zC (dualQ x).body=costM (fun _=>2) x.body+1:=by
 have h:=cost_nodes (P:=fun _=>True) (φ:=negV) (c:=fun _=>2) (fun n _=>(nodes_neg n).symm) x.body (okVar_true _)
 unfold dualQ notM
 simp only[zC,zQ,h];omega
theorem isL_bigL {f:Fu} {l:List Eqn} {x:Eqn} (hx:x∈l) (h:2000 < zC x.body):isL f l=false:=by
 cases hl:isL f l with
 | false=>rfl
 | true=>
  unfold isL at hl
  simp only[Bool.and_eq_true,List.all_eq_true] at hl
  have:=hl.1.2 x hx
  unfold okE at this
  simp only[Bool.and_eq_true,decide_eq_true_eq] at this
  omega
def dualR (f:Fu) (l:List Eqn):AV:=if isL f (l.map dualQ) then .tup [.sl 5 ((l.map dualQ).map encE) .no,.int .i64 0] else .tup [.sl 5 [] .no,.int .i64 2]
theorem l34 (D:Nat) (f:Fu) (hf:zJ f=true) (l:List Eqn) (hl:l.length<=2^20) (hsz:∀x∈l,zC x.body<=2^30) (S:Nat->Nat->Ent):∀(j i:Nat) (acc:List Eqn) (τ ω),i+j=l.length->acc=(l.take i).map dualQ->(∀y∈acc,zC y.body<=2000)->
  τ 2= .ptr D 2 1 0->τ 7= .sl 5 (acc.map encE) .tip->τ 18= .sl 5 (l.map encE) .no->τ 19= .int .i64 l.length->τ 20= .int .i64 i->ω 2=(1,.cells (cellsF f))->
  Rd (Loc Pg Gl) .im (RetQ [.tmp 4,.tmp 5] (dualR f l) S) [.lp c34_l0,.blk 0,.c c34_k0] (stF 45 D τ ω S):=by
 intro j
 induction j with
 | zero=>
  intro i acc τ ω hi ha hac t2 t7 t18 t19 t20 w2
  refine zL c34_l0.eq_1 ?_
  obtain rfl:i=l.length:=by omega
  rw[List.take_of_length_le (Nat.le_refl _)] at ha
  subst ha
  have h92:=spec92 (D+1) f hf (l.map dualQ) ⟨by simp[maxLen];omega,fun x hx=>fitM_of _ (by have:=hac x hx;unfold maxLen;omega)⟩
  unfold dualR
  simp[encL] at h92
  simp[cellsF] at w2
  simp[t2,t7,t18,t19,t20,w2,c34_k0]
  refine zE h92 (by simp[zB f]) ?_
  cases isL f (l.map dualQ)<;>simp[t7]
 | succ j ih=>
  intro i acc τ ω hi ha hac t2 t7 t18 t19 t20 w2
  refine zL c34_l0.eq_1 ?_
  have hlt:i < l.length:=by omega
  have hwr:IntKind.i64.wrap ((i:Int)+1)=((i+1:Nat):Int):=by rw[<-zG (n:=i+1) (by omega)];rfl
  have hsz1:=hsz _ (List.getElem_mem hlt)
  have hacc:acc.length<=i:=by rw[ha];simp;omega
  have hle:(acc.length+1)*56<=1099511627776:=by omega
  have h88:=spec88 (D:=D+1+1) (d:=D+1) (i:=7) (g:=1) (dx:=D) (gx:=(ω 9).1+1) (by omega) (by omega) (by omega) l[i] (by omega) (left:=2000) (by unfold Bg;omega)
  simp only[cl_cl] at h88
  have h74:=spec74 (D:=D+1) (F:=88) (caps:=[.ptr D 9 ((ω 9).1+1) 0]) (by decide) rfl (by simp) h88
  have hnod:=dual_nodes l[i]
  unfold builtR at h74
  by_cases hc:costM (fun _=>2) l[i].body+1<=2000
  ·rw[if_pos hc,zA] at h74
   simp[t2,t7,t18,t19,t20,hlt,encE]
   refine zP h74 (by simp) (by simp[cellsE]) (by simp) ?_
   simp[t7,hle,t20,hwr,cellsE]
   refine ih (i+1) (acc++[dualQ l[i]]) _ _ (by omega) (by rw[ha,List.take_succ_eq_append_getElem hlt,List.map_append];rfl) ?_ ?_ ?_ ?_ ?_ ?_ ?_
   ·intro y hy
    rcases List.mem_append.1 hy with hy | hy
    ·exact hac y hy
    ·rw[List.mem_singleton] at hy;subst hy;omega
   all_goals simp[t2,t18,t19,w2,encE,dualQ]
  ·rw[if_neg hc,zF] at h74
   have hbig:isL f (l.map dualQ)=false:=isL_bigL (List.mem_map.2 ⟨l[i],List.getElem_mem hlt,rfl⟩) (by omega)
   unfold dualR
   rw[hbig]
   simp[t2,t7,t18,t19,t20,hlt,encE]
   refine zP h74 (by simp) (by simp[cellsE]) (by simp) ?_
   simp[t7,hle,t20,hwr,cellsE]
def dualA (f:Fu) (l:List Eqn):AV:=if asksN f l=0 then dualR f l else .tup [.sl 5 [] .no,.int .i64 (asksN f l)]
theorem asks0 {f:Fu} {l:List Eqn} (h0:asksN f l=0):isF f=true/\isL f l=true:=by
 unfold asksN at h0
 cases h1:isF f with
 | false=>rw[h1] at h0;simp at h0
 | true=>
  refine ⟨rfl,?_⟩
  cases h2:isL f l with
  | false=>rw[h1,h2] at h0;simp at h0
  | true=>rfl
theorem spec34 (D:Nat) (f:Fu) (hf:fitF f) (l:List Eqn) (hl:fitL l):Go.Ab.Loc Pg Gl D 34 [encF f,encL l] [] (dualA f l) []:=by
 unfold dualA
 by_cases h0:asksN f l=0
 ·rw[if_pos h0]
  refine zW zH tok rfl rfl fun S=> ?_
  obtain ⟨g1,g2⟩:=asks0 h0
  obtain ⟨l1,l2,_⟩:=isL_ok g2
  have hsz:∀x∈l,zC x.body<=2^30:=fun x hx=>by
   by_cases h:zC x.body<=2000
   ·omega
   ·rw[isL_bigL (f:=f) hx (by omega)] at g2;cases g2
  have h87:=spec87 (D+1) f hf l hl
  rw[h0] at h87
  generalize hr:dualR f l=r
  unfold c34
  simp[zB f,encL] at h87|-
  refine zE h87 (by simp[zB f]) ?_
  simp
  rw[<-hr]
  refine l34 D f (isF_shaped g1) l (by omega) hsz S l.length 0 [] _ _ (by omega) rfl (by simp) ?_ ?_ ?_ ?_ ?_ ?_
  all_goals simp[cellsF]
 ·rw[if_neg h0]
  exact spec34e D f hf l hl h0
def byM (by':List Fm) (n:Int):Fm:=by'.getD n.toNat (.mk 0 0 0 [])
def Sub97 (by':List Fm) (a:Fm):Prop:=yR (fun n=>0<=n/\n < by'.length) a->∀D,Go.Ab.Loc Pg Gl D 97 [encM a,.sl 4 (by'.map encM) .no] [] (encM (subM (byM by') a)) []
theorem l97 (D:Nat) (by':List Fm) (o n m:Int) (ar:List Fm) (hlen:ar.length<=2^30) (hv:yM (fun n=>0<=n/\n < by'.length) ar) (hrec:∀a∈ar,Sub97 by' a) (S:Nat->Nat->Ent):∀(j k:Nat) (tp:Tip) (τ ω) (r:AV),k+j=ar.length->(tp= .tip\/tp= .nil)->
  τ 1= .sl 4 (by'.map encM) .no->τ 4= .ptr D 4 1 0->τ 5= .ptr D 5 1 0->τ 25= .sl 4 (ar.map encM) .no->τ 26= .int .i64 ar.length->τ 27= .int .i64 k->
  ω 4=(1,.cells [.int .i64 0,.int .i64 0,.int .i64 0,.sl 4 [] .tip])->ω 5=(1,.cells [.int .i64 o,.int .i64 n,.int .i64 m,.sl 4 (((subMs (byM by') ar).take k).map encM) tp])->r=encM (.mk o n m (subMs (byM by') ar))->
  Rd (Loc Pg Gl) .im (RetQ [.cell 4 true 4] r S) [.lp c97_l0,.blk 0,.c c97_k0] (stF 41 D τ ω S):=by
 have hsl:(subMs (byM by') ar).length=ar.length:=by rw[subMs_eq,List.length_map]
 intro j
 induction j with
 | zero=>
  intro k tp τ ω r hk htp t1 t4 t5 t25 t26 t27 w4 w5 hr
  refine zL c97_l0.eq_1 ?_
  obtain rfl:k=ar.length:=by omega
  rw[List.take_of_length_le (by omega)] at w5
  rw[zF] at hr
  rcases htp with rfl | rfl<;>simp[t4,t5,t25,t26,t27,w4,w5,c97_k0,hr]
 | succ j ih=>
  intro k tp τ ω r hk htp t1 t4 t5 t25 t26 t27 w4 w5 hr
  refine zL c97_l0.eq_1 ?_
  have hlt:k < ar.length:=by omega
  have hlt2:k < (subMs (byM by') ar).length:=by omega
  have hwr:=yC hlt (by unfold maxLen;omega)
  have hle:(k+1)*48<=1099511627776:=by omega
  have htp':(tp= .nil\/tp= .tip)=True:=by simp;exact htp.symm
  have hge:(subMs (byM by') ar)[k]=subM (byM by') ar[k]:=by simp[subMs_eq]
  have htk:((subMs (byM by') ar).take (k+1)).map encM=((subMs (byM by') ar).take k).map encM++[encM (subM (byM by') ar[k])]:=by rw[List.take_succ_eq_append_getElem hlt2,List.map_append,hge];rfl
  have hmin:min k (subMs (byM by') ar).length=k:=by omega
  have h1:=hrec ar[k] (List.getElem_mem hlt) (okVars_get hlt hv) (D+1)
  generalize subM (byM by') ar[k]=ex at*
  simp[t1,t4,t5,t25,t26,t27,w4,w5,hlt,hwr,zA ar[k]]
  refine zZ h1 (by simp[zA ar[k]]) ?_
  simp[t4,t5,t27,w4,w5,htp,htp',zA ex,hmin,hle,hwr]
  refine ih (k+1) .tip _ _ r (by omega) (.inl rfl) ?_ ?_ ?_ ?_ ?_ ?_ ?_ ?_ hr
  all_goals simp[t1,t4,t5,t25,t26,w4,htk,zA ex]
theorem spec97 (by':List Fm) (hby:∀b∈by',zC b<=2^30):∀a:Fm,zC a<=2^30->Sub97 by' a:=by
 refine Fm.ind' fun o n m ar ih=> ?_
 intro hn hv D
 rw[zC] at hn
 have:=nodesMs_len ar
 refine zW zH tok rfl rfl fun S=> ?_
 rw[yR] at hv
 unfold c97
 by_cases ho:o=14
 ·subst ho
  rw[if_pos rfl] at hv
  obtain ⟨k,rfl⟩:∃k:Nat,n=k:=⟨n.toNat,by omega⟩
  have hk:k < by'.length:=by omega
  have e:subM (byM by') (.mk 14 k m ar)=by'[k]:=by
   rw[subM,if_pos rfl];unfold byM;simp[List.getElem?_eq_getElem hk]
  have h83:=spec83 by'[k] (hby _ (List.getElem_mem hk)) (D+1)
  rw[e]
  generalize hb:by'[k]=b at*
  simp[zF,hk,hb,zA b]
  refine zE h83 (by simp[zA b]) ?_
  simp[zA b]
 ·rw[if_neg ho] at hv
  have e:subM (byM by') (.mk o n m ar)= .mk o n m (subMs (byM by') ar):=by rw[subM,if_neg ho]
  rw[e]
  generalize hr:encM (.mk o n m (subMs (byM by') ar))=r
  simp[zF,ho]
  refine l97 D by' o n m ar (by omega) hv (fun a ha=>ih a ha (by have:=nodesMs_le ha;omega)) S ar.length 0 .tip _ _ r (by simp) (.inl rfl) ?_ ?_ ?_ ?_ ?_ ?_ ?_ ?_ hr.symm
  all_goals simp
theorem subM_congr {P:Int->Prop} {φ ψ:Int->Fm} (h:∀n,P n->φ n=ψ n):∀a:Fm,yR P a->subM φ a=subM ψ a:=by
 refine Fm.ind' fun o n m ar ih=> ?_
 rw[yR,subM,subM]
 split
 ·exact h n
 ·have:∀l:List Fm,(∀b∈l,b∈ar)->yM P l->subMs φ l=subMs ψ l:=by
   intro l
   induction l with
   | nil=>intro _ _;rw[subMs,subMs]
   | cons b l ihl=>intro hl q;rw[yM] at q;rw[subMs,subMs,ih b (hl b (by simp)) q.1,ihl (fun c hc=>hl c (by simp[hc])) q.2]
  intro q
  rw[this ar (fun _ h=>h) q]
def negs (n:Nat):List Fm:=(List.range n).map fun (k:Nat)=>negV k
theorem negs_get {n k:Nat} (h:k < n):(negs n).getD k (.mk 0 0 0 [])=negV k:=by
 unfold negs;simp[List.getElem?_range h]
theorem l40a (D:Nat) (l:List Eqn) (hl:l.length<=2^20) (S:Nat->Nat->Ent) (Q:St->Prop) (K:List AI) (hK:∀τ ω,τ 0=encL l->τ 3= .sl 4 ((negs l.length).map encM) .tip->Rd (Loc Pg Gl) .im Q K (stF 40 D τ ω S)):∀(j i:Nat) (τ ω),i+j=l.length->
  τ 0=encL l->τ 3= .sl 4 ((negs i).map encM) .tip->τ 9= .int .i64 l.length->τ 10= .int .i64 i->
  Rd (Loc Pg Gl) .im Q (.lp c40_l0:: .blk 0::K) (stF 40 D τ ω S):=by
 intro j
 induction j with
 | zero=>
  intro i τ ω hi t0 t3 t9 t10
  refine zL c40_l0.eq_1 ?_
  obtain rfl:i=l.length:=by omega
  simp[t9,t10]
  exact hK _ _ (by simp[t0]) (by simp[t3])
 | succ j ih=>
  intro i τ ω hi t0 t3 t9 t10
  refine zL c40_l0.eq_1 ?_
  have hlt:i < l.length:=by omega
  have hwr:IntKind.i64.wrap ((i:Int)+1)=((i+1:Nat):Int):=by rw[<-zG (n:=i+1) (by omega)];rfl
  have h81:=spec81 (D+1) 14 i 0 []
  have h84:=spec84 (.mk 14 i 0 []) (D+1)
  have e84:notM (.mk 14 i 0 [])=negV i:=rfl
  rw[e84] at h84
  rw[zF] at h81 h84
  have hle:(i+1)*48<=1099511627776:=by omega
  have hne:(negs (i+1)).map encM=(negs i).map encM++[encM (negV i)]:=by unfold negs;rw[List.range_succ,List.map_append,List.map_append];rfl
  have hnl:(negs i).length=i:=by unfold negs;simp
  generalize negV (i:Int)=ng at*
  simp[t3,t9,t10,hlt]
  refine zE h81 (by simp) ?_
  simp
  refine zE h84 (by simp) ?_
  simp[zA ng,hle,hnl,t10,hwr]
  refine ih (i+1) _ _ (by omega) ?_ ?_ ?_ ?_
  all_goals simp[t0,t9,hne,zA ng]
theorem l40b (D:Nat) (l:List Eqn) (hl:l.length<=2^20) (hsz:∀x∈l,zC x.body<=2^30) (hv:∀x∈l,yR (fun n=>0<=n/\n < l.length) x.body) (S:Nat->Nat->Ent):∀(j i:Nat) (acc:List AV) (τ ω) (r:AV),i+j=l.length->acc=((l.take i).map dualQ).map encE->r=encL (l.map dualQ)->
  τ 3= .sl 4 ((negs l.length).map encM) .tip->τ 5= .sl 5 acc .tip->τ 20=encL l->τ 21= .int .i64 l.length->τ 22= .int .i64 i->
  Rd (Loc Pg Gl) .im (RetS [.tmp 2] r D S []) [.lp c40_l1,.blk 2,.c c40_k0] (stF 40 D τ ω S):=by
 intro j
 induction j with
 | zero=>
  intro i acc τ ω r hi ha hr t3 t5 t20 t21 t22
  refine zL c40_l1.eq_1 ?_
  obtain rfl:i=l.length:=by omega
  rw[List.take_of_length_le (Nat.le_refl _)] at ha
  have hr2:r= .sl 5 acc .no:=by rw[hr,ha];rfl
  simp[t5,t20,t21,t22,c40_k0,hr2,upds]
 | succ j ih=>
  intro i acc τ ω r hi ha hr t3 t5 t20 t21 t22
  refine zL c40_l1.eq_1 ?_
  have hlt:i < l.length:=by omega
  have hwr:IntKind.i64.wrap ((i:Int)+1)=((i+1:Nat):Int):=by rw[<-zG (n:=i+1) (by omega)];rfl
  have hnn:(negs l.length).length=l.length:=by unfold negs;simp
  have h97:=spec97 (negs l.length) (fun b hb=>by
   unfold negs at hb
   obtain ⟨k,_,rfl⟩:=List.mem_map.1 hb
   rw[nodes_neg];omega) l[i].body (hsz _ (List.getElem_mem hlt)) (by rw[hnn];exact hv _ (List.getElem_mem hlt)) (D+1)
  have e97:subM (byM (negs l.length)) l[i].body=subM negV l[i].body:=subM_congr (P:=fun n=>0<=n/\n < l.length) (fun n hn=>by
   unfold byM
   rw[negs_get (by omega),Int.toNat_of_nonneg hn.1]) _ (hv _ (List.getElem_mem hlt))
  rw[e97] at h97
  have h84:=spec84 (subM negV l[i].body) (D+1)
  have e84:notM (subM negV l[i].body)=(dualQ l[i]).body:=rfl
  rw[e84] at h84
  have hle:(i+1)*56<=1099511627776:=by omega
  have hal:acc.length=i:=by rw[ha];simp;omega
  have htk:((l.take (i+1)).map dualQ).map encE=acc++[encE (dualQ l[i])]:=by rw[ha,List.take_succ_eq_append_getElem hlt,List.map_append,List.map_append];rfl
  have eE:encE (dualQ l[i])= .agg [.bool !l[i].gr,.int .i64 (dualQ l[i]).body.o,.int .i64 (dualQ l[i]).body.n,.int .i64 (dualQ l[i]).body.m,.sl 4 ((dualQ l[i]).body.ar.map encM) .no]:=rfl
  rw[eE] at htk
  generalize subM negV l[i].body=sb at*
  generalize (dualQ l[i]).body=db at*
  simp[t3,t5,t20,t21,t22,hlt,encL,encE]
  refine zZ h97 (by simp[zA l[i].body]) ?_
  simp
  refine zZ h84 (by simp[zA sb]) ?_
  simp[t5,t22,zA db,hle,hal,hwr]
  refine ih (i+1) _ _ _ r (by omega) htk.symm hr ?_ ?_ ?_ ?_ ?_
  all_goals simp[t3,t20,t21,encL]
theorem spec40 (D:Nat) (l:List Eqn) (hl:l.length<=2^20) (hsz:∀x∈l,zC x.body<=2^30) (hv:∀x∈l,yR (fun n=>0<=n/\n < l.length) x.body):Go.Ab.Loc Pg Gl D 40 [encL l] [] (encL (l.map dualQ)) []:=by
 refine loc_rdS zH tok rfl rfl fun S hS=> ?_
 unfold c40
 simp[encL]
 refine l40a D l hl S _ _ (fun τ ω t0 t3=> ?_) l.length 0 _ _ (by simp) ?_ ?_ ?_ ?_
 ·unfold c40_k1
  simp[t0,encL]
  refine l40b D l hl hsz hv S l.length 0 [] _ _ _ (by simp) (by simp) (by simp[encL]) ?_ ?_ ?_ ?_ ?_
  all_goals simp[t3,encL]
 all_goals simp[encL,negs]
end Go.Ab.Tab
/- Rounds. -/
namespace Go.Ab.Tab
open Go Go.Ab
def noE:Eqn:=⟨false,.mk 0 0 0 []⟩
def topM (gr:Bool):Fm:=if gr then .mk 0 0 0 [] else notM (.mk 0 0 0 [])
def rndM (l:List Eqn):Nat->Nat->Fm
 | 0,i=>topM (l.getD i noE).gr
 | k+1,i=>subM (fun n=>rndM l k n.toNat) (l.getD i noE).body
def inV (l:List Eqn) (n:Int):Prop:=0<=n/\n < l.length
def M3 (l:List Eqn) (dB dL d i g:Nat):List (Nat×Nat×Ent):=[(dB,4,(1,.cells [.ptr d i g 0])),(dL,4,(1,.cells [.sl 5 (l.map encE) .no])),(dB,6,(1,.cells [.fn 95 [.ptr dB 4 1 0,.ptr dL 4 1 0,.ptr dB 6 1 0]]))]
def Sub95 (l:List Eqn) (dB dL d i g k:Nat):Prop:=∀(D x:Nat) (left:Int),d < D->dB < D->dL < D->x < l.length->Bg left->
 LB d i g D 95 [.int .i64 x,.int .i64 k,.ptr dB 4 1 0,.ptr dL 4 1 0,.ptr dB 6 1 0] (Bd d i g left::M3 l dB dL d i g) (encM (rndM l k x)) [Bd d i g (cl left (zC (rndM l k x)))]
theorem hM4 {D:Nat} {S:Nat->Nat->Ent} {m1 m2 m3 m4:Nat×Nat×Ent} (h:∀m∈[m1,m2,m3,m4],m.1 < D/\S m.1 m.2.1=m.2.2):(m1.1 < D/\S m1.1 m1.2.1=m1.2.2)/\(m2.1 < D/\S m2.1 m2.2.1=m2.2.2)/\(m3.1 < D/\S m3.1 m3.2.1=m3.2.2)/\(m4.1 < D/\S m4.1 m4.2.1=m4.2.2):=
 ⟨h _ (by simp),h _ (by simp),h _ (by simp),h _ (by simp)⟩
section
variable {l:List Eqn} {dB dL d i g:Nat}
theorem spec96 (hB:dB≠d) (hL:dL≠d) {k dK:Nat} (hk:k<=100) (h95:Sub95 l dB dL d i g k) {D x:Nat} {left:Int} (hd:d < D) (hdB:dB < D) (hdL:dL < D) (hdK:dK < D) (hx:x < l.length) (hl:Bg left):
  LB d i g D 96 [.int .i64 x,.ptr dB 6 1 0,.ptr dK 6 1 0] (Bd d i g left::(M3 l dB dL d i g++[(dK,6,(1,.cells [.int .i64 (k+1:Nat)]))])) (encM (rndM l k x)) [Bd d i g (cl left (zC (rndM l k x)))]:=by
 have hne2:¬dB=D:=by omega
 have hne3:¬dK=D:=by omega
 have hne:¬d=D:=by omega
 refine locB_rd zH tok rfl (cB d i g) [4] .im rfl (by simp) mem_Bd hd (cl_neg hl _) fun S hS=> ?_
 have h0:=(hS (Bd d i g left) (List.mem_cons_self ..)).2
 have hS3:∀m∈M3 l dB dL d i g,S m.1 m.2.1=m.2.2:=fun m hm=>(hS m (List.mem_cons_of_mem _ (List.mem_append.2 (.inl hm)))).2
 have hK:=(hS (dK,6,(1,.cells [.int .i64 (k+1:Nat)])) (by simp)).2
 have hR:=hS3 (dB,6,(1,.cells [.fn 95 [.ptr dB 4 1 0,.ptr dL 4 1 0,.ptr dB 6 1 0]])) (by simp[M3])
 simp only at h0 hK hR
 have hw:IntKind.i64.wrap (((k+1:Nat):Int) - 1)=(k:Int):=by rw[show ((k+1:Nat):Int) - 1=(k:Int) by omega];exact i64_id (by omega) (by omega)
 have hw':IntKind.i64.wrap ((k:Int)+1 - 1)=(k:Int):=by rw[show (k:Int)+1 - 1=(k:Int) by omega];exact i64_id (by omega) (by omega)
 have hw0:IntKind.i64.wrap (k:Int)=(k:Int):=i64_id (by omega) (by omega)
 have h1:=h95 (D+1) x left (by omega) (by omega) (by omega) hx hl
 generalize rndM l k x=r at*
 unfold c96
 simp[hne2,hne3,hK,hR]
 refine z8 (cap:=[.ptr dB 4 1 0,.ptr dL 4 1 0,.ptr dB 6 1 0]) h1 (by simp) (by simp[hw,hw',hw0]) ?_ (by simp) ?_
 ·refine bdM0 hd ?_ hS3 _ h0
  intro m hm
  simp only[M3,List.mem_cons,List.not_mem_nil,or_false] at hm
  rcases hm with rfl | rfl | rfl<;>assumption
 simp[Cnt.e,cB,hne,upds,zA r]
theorem getE {x:Nat} (hx:x < l.length):l.getD x noE=l[x]:=by simp[List.getElem?_eq_getElem hx]
theorem sub95 (hB:dB≠d) (hL:dL≠d) (hsz:∀e∈l,zC e.body<=2^30) (hv:∀e∈l,yR (inV l) e.body):∀k,k<=100->Sub95 l dB dL d i g k:=by
 intro k
 induction k with
 | zero=>
  intro _ D x left hd hdB hdL hx hl
  have hne:¬d=D:=by omega
  have hne2:¬dB=D:=by omega
  have hne3:¬dL=D:=by omega
  refine locB_rd zH tok rfl (cB d i g) [7] .im rfl (by simp) mem_Bd hd (cl_neg hl _) fun S hS=> ?_
  have h0:=(hS (Bd d i g left) (List.mem_cons_self ..)).2
  have hS3:∀m∈M3 l dB dL d i g,S m.1 m.2.1=m.2.2:=fun m hm=>(hS m (List.mem_cons_of_mem _ hm)).2
  have hb:=hS3 (dB,4,(1,.cells [.ptr d i g 0])) (by simp[M3])
  have hll:=hS3 (dL,4,(1,.cells [.sl 5 (l.map encE) .no])) (by simp[M3])
  simp only at h0 hb hll
  rw[rndM,getE hx]
  have h1:=spec60 (D+1) (d:=d) (i:=i) (g:=g) (by omega) hl 0 []
  have h2:=spec60 (D+1) (d:=d) (i:=i) (g:=g) (by omega) (hl.cl 1) 1 [.mk 0 0 0 []]
  have hu:∀e,updS S d i e dB 4=S dB 4:=fun e=>by unfold updS;rw[if_neg];rintro ⟨e1,_⟩;exact hB e1
  rw[zF] at h1 h2
  generalize hge:l[x]=e
  unfold c95
  cases hgr:e.gr with
  | true=>
   have e1:topM true= .mk 0 0 0 []:=rfl
   rw[e1,zF]
   simp[hne2,hne3,hb,hll,hx,hge,encE,hgr]
   refine zP h1 (by simp) (bdN0 hd _ h0) (by simp) ?_
   simp[Cnt.e,cB,hne,upds,zC,zQ]
  | false=>
   have e1:topM false= .mk 1 0 0 [.mk 0 0 0 []]:=rfl
   rw[e1,zF]
   simp[hne2,hne3,hb,hll,hx,hge,encE,hgr]
   refine zI h1 (by simp) (bdN0 hd _ h0) (by simp) ?_
   simp[hne,hne2,hu,hb]
   refine zI h2 (by simp[zF]) (bdN hd _) (by simp) ?_
   have e2:zC (.mk 1 0 0 [.mk 0 0 0 []])=2:=by simp[zC,zQ]
   simp[Cnt.e,cB,hne,upds,e2,cl_cl]
   exact .inl fun e=>hB e.symm
 | succ k ih=>
  intro hk D x left hd hdB hdL hx hl
  have h95:=ih (by omega)
  have hne:¬d=D:=by omega
  have hne':¬D=d:=by omega
  have hne2:¬dB=D:=by omega
  have hne3:¬dL=D:=by omega
  have hcost:costM (fun n=>zC (rndM l k n.toNat)) l[x].body=zC (rndM l (k+1) x):=by
   rw[rndM,getE hx]
   exact cost_nodes (P:=inV l) (φ:=fun n=>rndM l k n.toNat) (fun _ _=>rfl) _ (hv _ (List.getElem_mem hx))
  have hvc:VarC d i g 96 [.ptr dB 6 1 0,.ptr D 6 1 0] (M3 l dB dL d i g++[(D,6,(1,.cells [.int .i64 (k+1:Nat)]))]) (fun n=>rndM l k n.toNat) (fun n=>zC (rndM l k n.toNat)) (inV l):=by
   refine ⟨by decide,rfl,fun D' n left' hd' hM' hn hl'=> ?_⟩
   obtain ⟨y,rfl⟩:∃y:Nat,n=y:=⟨n.toNat,by have:=hn.1;omega⟩
   exact spec96 hB hL (by omega) h95 hd' (hM' (dB,4,(1,.cells [.ptr d i g 0])) (by simp[M3])) (hM' (dL,4,(1,.cells [.sl 5 (l.map encE) .no])) (by simp[M3])) (hM' (D,6,(1,.cells [.int .i64 (k+1:Nat)])) (by simp)) (by have:=hn.2;omega) hl'
  refine locB_rd zH tok rfl (cB d i g) [7] .im rfl (by simp) mem_Bd hd (cl_neg hl _) fun S hS=> ?_
  have h0:=(hS (Bd d i g left) (List.mem_cons_self ..)).2
  have hS3:∀m∈M3 l dB dL d i g,S m.1 m.2.1=m.2.2:=fun m hm=>(hS m (List.mem_cons_of_mem _ hm)).2
  have hb:=hS3 (dB,4,(1,.cells [.ptr d i g 0])) (by simp[M3])
  have hll:=hS3 (dL,4,(1,.cells [.sl 5 (l.map encE) .no])) (by simp[M3])
  simp only at h0 hb hll
  have hdis:∀m∈M3 l dB dL d i g++[(D,6,(1,Ob.cells [.int .i64 (k+1:Nat)]))],¬(m.1=d/\m.2.1=i):=by
   intro m hm
   simp only[M3,List.mem_append,List.mem_cons,List.not_mem_nil,or_false] at hm
   rcases hm with (rfl | rfl | rfl) | rfl
   ·exact fun e=>hB e.1
   ·exact fun e=>hL e.1
   ·exact fun e=>hB e.1
   ·exact fun e=>hne' e.1
  have h89:=spec89 hvc hdis l[x].body (hsz _ (List.getElem_mem hx)) (hv _ (List.getElem_mem hx)) (D+1) left (by omega) (by
   intro m hm
   simp only[M3,List.mem_append,List.mem_cons,List.not_mem_nil,or_false] at hm
   rcases hm with (rfl | rfl | rfl) | rfl<;>simp only<;>omega) hl
  rw[hcost] at h89
  have e1:subM (fun n=>rndM l k n.toNat) l[x].body=rndM l (k+1) x:=by rw[rndM,getE hx]
  rw[e1] at h89
  generalize rndM l (k+1) x=r at*
  have hkp:(0:Int) < ((k+1:Nat):Int):=by omega
  have hkp':(0:Int) < (k:Int)+1:=by omega
  generalize hge:l[x]=e at*
  unfold c95
  simp[hne2,hne3,hb,hll,hx,hge,encE,hkp']
  refine zI h89 (by simp[zA e.body]) ?_ (by simp) ?_
  ·intro m hm
   rcases List.mem_cons.1 hm with rfl | hm
   ·exact bdN0 hd _ h0 _ (by simp)
   ·rcases List.mem_append.1 hm with hm | hm
    ·have h1:m.1 < D:=by
      simp only[M3,List.mem_cons,List.not_mem_nil,or_false] at hm
      rcases hm with rfl | rfl | rfl<;>assumption
     refine ⟨Nat.le_of_lt h1,fun e=>absurd e (Nat.ne_of_lt h1),?_⟩
     rw[yX,if_neg (Nat.ne_of_lt h1)]
     exact hS3 m hm
    ·rw[List.mem_singleton] at hm
     subst hm
     simp
  simp[Cnt.e,cB,hne,hne',upds,zA r]
theorem spec94 {gx k:Nat} (hL:dL < d) (hk:k<=100) (hsz:∀e∈l,zC e.body<=2^30) (hv:∀e∈l,yR (inV l) e.body) {D x:Nat} {left:Int} (hd:d < D) (hx:x < l.length) (hl:Bg left):
  LB d i g D 94 [.ptr d i g 0,.ptr dL 4 1 0,.ptr dL 10 gx 0,.ptr dL 5 1 0] (Bd d i g left::[(dL,4,(1,.cells [.sl 5 (l.map encE) .no])),(dL,10,(gx,.cells [.int .i64 x])),(dL,5,(1,.cells [.int .i64 k]))]) (encM (rndM l k x)) [Bd d i g (cl left (zC (rndM l k x)))]:=by
 have hne:¬d=D:=by omega
 have hne':¬D=d:=by omega
 have hne2:¬dL=D:=by omega
 refine locB_rd zH tok rfl (cB d i g) [5,6] .im rfl (by simp) mem_Bd hd (cl_neg hl _) fun S hS=> ?_
 obtain ⟨⟨_,h0⟩,⟨_,h4⟩,⟨_,h10⟩,⟨_,h5⟩⟩:=hM4 hS
 simp only at h0 h4 h10 h5
 have h1:=sub95 (l:=l) (dB:=D) (dL:=dL) (d:=d) (i:=i) (g:=g) hne' (by omega) hsz hv k hk (D+1) x left (by omega) (by omega) (by omega) hx hl
 generalize rndM l k x=r at*
 have hle':dL<=D:=by omega
 unfold c94
 simp[hne2,h4,h10,h5,hle']
 refine z8 (cap:=[.ptr D 4 1 0,.ptr dL 4 1 0,.ptr D 6 1 0]) h1 (by simp) (by simp) ?_ (by simp) ?_
 ·intro m hm
  rcases List.mem_cons.1 hm with rfl | hm
  ·exact bdN0 hd _ h0 _ (by simp)
  ·simp only[M3,List.mem_cons,List.not_mem_nil,or_false] at hm
   rcases hm with rfl | rfl | rfl
   ·simp
   ·refine ⟨by simp only;omega,fun e=>absurd e hne2,?_⟩
    rw[yX,if_neg hne2];exact h4
   ·simp
 simp[Cnt.e,cB,hne,hne',upds,zA r]
end
def rndR (f:Fu) (l:List Eqn) (k:Nat):AV:=if (List.range l.length).all (fun i=>isFm f (rndM l k i)) then .tup [.sl 4 ((List.range l.length).map fun i=>encM (rndM l k i)) .no,.int .i64 0] else .tup [.sl 4 [] .no,.int .i64 2]
theorem l39r (D:Nat) (f:Fu) (hf:zJ f=true) (l:List Eqn) (hl:l.length<=1000) (hsz:∀e∈l,zC e.body<=2^30) (hv:∀e∈l,yR (inV l) e.body) (k:Nat) (hk:k<=100) (S:Nat->Nat->Ent):∀(j i:Nat) (acc:List AV) (τ ω),i+j=l.length->acc=(List.range i).map (fun i=>encM (rndM l k i))->(List.range i).all (fun i=>isFm f (rndM l k i))=true->
  τ 3= .ptr D 3 1 0->τ 4= .ptr D 4 1 0->τ 5= .ptr D 5 1 0->τ 9= .sl 4 acc .tip->τ 26= .int .i64 l.length->τ 27= .int .i64 i->ω 3=(1,.cells (cellsF f))->ω 4=(1,.cells [.sl 5 (l.map encE) .no])->ω 5=(1,.cells [.int .i64 k])->
  Rd (Loc Pg Gl) .im (RetS [.tmp 6,.tmp 7] (rndR f l k) D S []) [.lp c39_l0,.blk 0,.c c39_k0] (stF 49 D τ ω S):=by
 intro j
 induction j with
 | zero=>
  intro i acc τ ω hi ha hall t3 t4 t5 t9 t26 t27 w3 w4 w5
  refine zL c39_l0.eq_1 ?_
  obtain rfl:i=l.length:=by omega
  unfold rndR
  rw[if_pos hall,<-ha]
  simp[t9,t26,t27,c39_k0,upds]
 | succ j ih=>
  intro i acc τ ω hi ha hall t3 t4 t5 t9 t26 t27 w3 w4 w5
  refine zL c39_l0.eq_1 ?_
  have hlt:i < l.length:=by omega
  have hwr:IntKind.i64.wrap ((i:Int)+1)=((i+1:Nat):Int):=by rw[<-zG (n:=i+1) (by omega)];rfl
  have la:acc.length=i:=by rw[ha];simp
  have hle:(i+1)*48<=1099511627776:=by omega
  have h94:=spec94 (l:=l) (d:=D+1) (i:=7) (g:=1) (dL:=D) (gx:=(ω 10).1+1) (k:=k) (D:=D+1+1) (x:=i) (left:=2000) (by omega) hk hsz hv (by omega) hlt (by unfold Bg;omega)
  have h74:=spec74 (D:=D+1) (F:=94) (caps:=[.ptr D 4 1 0,.ptr D 10 ((ω 10).1+1) 0,.ptr D 5 1 0]) (by decide) rfl (by simp) h94
  have h77:=spec77 (D+1) f hf (rndM l k i)
  have hna:isFm f (rndM l k i)=false->rndR f l k= .tup [.sl 4 [] .no,.int .i64 2]:=fun h=>by
   unfold rndR
   rw[if_neg]
   rw[Bool.not_eq_true,List.all_eq_false];exact ⟨i,List.mem_range.2 hlt,by simp[h]⟩
  have hta:(List.range (i+1)).map (fun i=>encM (rndM l k i))=acc++[encM (rndM l k i)]:=by rw[List.range_succ,List.map_append,<-ha];rfl
  have htall:isFm f (rndM l k i)=true->(List.range (i+1)).all (fun i=>isFm f (rndM l k i))=true:=fun h=>by rw[List.range_succ,List.all_append,hall];simp[h]
  generalize hR:rndM l k i=R at*
  unfold builtR at h74
  simp only[cellsF] at w3
  simp[t3,t4,t5,t9,t26,t27,w3,w4,w5,hlt]
  by_cases hc:zC R<=2000
  ·rw[if_pos hc,zA] at h74
   refine zP h74 (by simp) (by simp[w4,w5]) (by simp) ?_
   simp[t3,w3]
   refine zE h77 (by simp[zB f,zA R]) ?_
   cases hx:isFm f R with
   | false=>
    rw[hna hx]
    simp[upds]
   | true=>
    simp[t9,t27,la,hle,hwr]
    refine ih (i+1) _ _ _ (by omega) hta.symm (htall hx) ?_ ?_ ?_ ?_ ?_ ?_ ?_ ?_ ?_
    all_goals simp[t3,t4,t5,t26,w3,w4,w5,cellsF,zA R]
  ·rw[if_neg hc,zF] at h74
   rw[hna (isFm_big (by omega))]
   refine zP h74 (by simp) (by simp[w4,w5]) (by simp) ?_
   simp[upds]
def rndA (f:Fu) (l:List Eqn) (k:Int):AV:=if asksN f l=0 then (if k < 0\/100 < k then .tup [.sl 4 [] .no,.int .i64 1] else rndR f l k.toNat) else .tup [.sl 4 [] .no,.int .i64 (asksN f l)]
theorem spec39 (D:Nat) (f:Fu) (hf:fitF f) (l:List Eqn) (hl:fitL l) (k:Int):Go.Ab.Loc Pg Gl D 39 [encF f,encL l,.int .i64 k] [] (rndA f l k) []:=by
 refine loc_rdS zH tok rfl rfl fun S hS=> ?_
 have h87:=spec87 (D+1) f hf l hl
 unfold rndA
 by_cases h0:asksN f l=0
 ·rw[if_pos h0]
  rw[h0] at h87
  obtain ⟨g1,g2⟩:=asks0 h0
  obtain ⟨l1,l2,hq⟩:=isL_ok g2
  have hsz:∀x∈l,zC x.body<=2^30:=fun x hx=>by
   by_cases h:zC x.body<=2000
   ·omega
   ·rw[isL_bigL (f:=f) hx (by omega)] at g2;cases g2
  have hv:∀e∈l,yR (inV l) e.body:=fun e he=>okVar_of f l.length e.body _ _ (hq e he)
  by_cases hk:k < 0\/100 < k
  ·rw[if_pos hk]
   unfold c39
   simp[zB f,encL] at h87|-
   refine zE h87 (by simp[zB f]) ?_
   by_cases hk0:k < 0
   ·simp[hk0,upds]
   ·have hk1:100 < k:=by omega
    simp[hk0,hk1,upds]
  ·rw[if_neg hk]
   obtain ⟨n,rfl⟩:∃n:Nat,k=n:=⟨k.toNat,by omega⟩
   have hk0:¬(n:Int) < 0:=by omega
   have hk1:¬(100:Int) < n:=by omega
   rw[Int.toNat_natCast]
   unfold c39
   simp[zB f,encL] at h87|-
   refine zE h87 (by simp[zB f]) ?_
   simp[hk0,hk1]
   refine l39r D f (isF_shaped g1) l (by omega) hsz hv n (by omega) S l.length 0 [] _ _ (by simp) (by simp) (by simp) ?_ ?_ ?_ ?_ ?_ ?_ ?_ ?_ ?_
   all_goals simp[cellsF]
 ·rw[if_neg h0]
  have hd:decide (asksN f l=0)=false:=decide_eq_false h0
  unfold c39
  simp[zB f,encL] at h87|-
  refine zE h87 (by simp[zB f]) ?_
  simp[hd,upds]
end Go.Ab.Tab
/- The reference's grown and Rounds. -/
namespace Go.Ab.Tab
open Go Go.Ab
def capN (n:Nat):Nat:=min n 100000
mutual
def gN (c:Int->Nat):Fm->Nat
 | .mk o n _ ar=>if o=14 then c n else gNs c 1 ar
def gNs (c:Int->Nat):Nat->List Fm->Nat
 | acc,[]=>acc
 | acc,a::l=>gNs c (capN (acc+gN c a)) l
end
mutual
def gD (c:Int->Nat):Fm->Nat
 | .mk o n _ ar=>if o=14 then c n else capN (gDs c 0 ar+1)
def gDs (c:Int->Nat):Nat->List Fm->Nat
 | acc,[]=>acc
 | acc,a::l=>gDs c (max acc (gD c a)) l
end
theorem gNs_cap {c:Int->Nat}:∀(l:List Fm) (acc:Nat),acc<=100000->gNs c acc l<=100000
 | [],acc,h=>by rw[gNs];exact h
 | a::l,acc,_=>by rw[gNs];exact gNs_cap l _ (Nat.min_le_right _ _)
theorem g_le {c:Int->Nat} {P:Int->Prop} (hc:∀n,P n->c n<=100000) (a:Fm) (ha:yR P a):gN c a<=100000/\gD c a<=100000:=by
 obtain ⟨o,n,m,ar⟩:=a
 rw[yR] at ha
 rw[gN,gD]
 split
 ·rename_i h;rw[if_pos h] at ha;exact ⟨hc n ha,hc n ha⟩
 ·exact ⟨gNs_cap ar 1 (by omega),Nat.min_le_right _ _⟩
def tabN (l:List Nat) (n:Int):Nat:=l.getD n.toNat 0
def nI (n:Nat):AV:= .int .i64 n
@[simp] theorem nI_eq (n:Nat):nI n= .int .i64 n:=rfl
def encNs (l:List Nat):AV:= .sl 1 (l.map nI) .no
def Sub98 (ns ds:List Nat) (a:Fm):Prop:=yR (fun n=>0<=n/\n < ns.length) a->∀D,Go.Ab.Loc Pg Gl D 98 [encM a,encNs ns,encNs ds] [] (.tup [.int .i64 (gN (tabN ns) a),.int .i64 (gD (tabN ds) a)]) []
theorem l98 (D:Nat) (ns ds:List Nat) (hns:∀x∈ns,x<=100000) (hds:∀x∈ds,x<=100000) (hlen2:ns.length=ds.length) (ar:List Fm) (hlen:ar.length<=2^30) (hv:yM (fun n=>0<=n/\n < ns.length) ar) (hrec:∀a∈ar,Sub98 ns ds a) (S:Nat->Nat->Ent):∀(j k p q:Nat) (τ ω) (r:AV),k+j=ar.length->p<=100000->q<=100000->
  τ 1=encNs ns->τ 2=encNs ds->τ 6= .int .i64 p->τ 7= .int .i64 q->τ 26= .sl 4 (ar.map encM) .no->τ 27= .int .i64 ar.length->τ 28= .int .i64 k->
  r= .tup [.int .i64 (gNs (tabN ns) p (ar.drop k)),.int .i64 ((capN (gDs (tabN ds) q (ar.drop k)+1):Nat):Int)]->
  Rd (Loc Pg Gl) .im (RetQ [.tmp 6,.tmp 7] r S) [.lp c98_l0,.blk 0,.c c98_k0] (stF 51 D τ ω S):=by
 have tn:∀(l:List Nat) n,(∀x∈l,x<=100000)->tabN l n<=100000:=by
  intro l n hl
  unfold tabN
  by_cases h:n.toNat < l.length
  ·rw[List.getD_eq_getElem?_getD,List.getElem?_eq_getElem h];exact hl _ (List.getElem_mem h)
  ·rw[List.getD_eq_getElem?_getD,List.getElem?_eq_none (by omega)];exact Nat.zero_le _
 intro j
 induction j with
 | zero=>
  intro k p q τ ω r hk hp hq t1 t2 t6 t7 t26 t27 t28 hr
  refine zL c98_l0.eq_1 ?_
  obtain rfl:k=ar.length:=by omega
  rw[List.drop_length,gNs,gDs] at hr
  have hw:IntKind.i64.wrap ((q:Int)+1)=((q+1:Nat):Int):=by rw[<-zG (n:=q+1) (by omega)];rfl
  have hm:(if (100000:Int) < ((q+1:Nat):Int) then (100000:Int) else ((q+1:Nat):Int))=((capN (q+1):Nat):Int):=by unfold capN;split<;>omega
  rw[<-hm] at hr
  simp[t6,t7,t26,t27,t28,c98_k0,hw,hr]
  try (split<;>simp_all)
 | succ j ih=>
  intro k p q τ ω r hk hp hq t1 t2 t6 t7 t26 t27 t28 hr
  refine zL c98_l0.eq_1 ?_
  have hlt:k < ar.length:=by omega
  have hwr:=yC hlt (by unfold maxLen;omega)
  rw[List.drop_eq_getElem_cons hlt,gNs,gDs] at hr
  have hva:=okVars_get hlt hv
  have h1:=hrec ar[k] (List.getElem_mem hlt) hva (D+1)
  have hg1:=(g_le (c:=tabN ns) (P:=fun n=>0<=n/\n < ns.length) (fun n _=>tn ns n hns) ar[k] hva).1
  have hg2:=(g_le (c:=tabN ds) (P:=fun n=>0<=n/\n < ns.length) (fun n _=>tn ds n hds) ar[k] hva).2
  generalize gN (tabN ns) ar[k]=x at*
  generalize gD (tabN ds) ar[k]=y at*
  have hw:IntKind.i64.wrap ((p:Int)+(x:Int))=((p+x:Nat):Int):=by rw[<-zG (n:=p+x) (by omega)];rfl
  have hm1:(if (100000:Int) < ((p+x:Nat):Int) then (100000:Int) else ((p+x:Nat):Int))=((capN (p+x):Nat):Int):=by unfold capN;split<;>omega
  have hm2:(if (q:Int) < (y:Int) then (y:Int) else (q:Int))=((max q y:Nat):Int):=by split<;>omega
  simp[t1,t2,t6,t7,t26,t27,t28,hlt,zA ar[k],encNs]
  refine zE h1 (by simp[zA ar[k],encNs]) ?_
  simp[t6,t7,t28,hw,hwr]
  refine ih (k+1) (capN (p+x)) (max q y) _ _ r (by omega) (Nat.min_le_right _ _) (Nat.max_le.2 ⟨hq,hg2⟩) ?_ ?_ ?_ ?_ ?_ ?_ ?_ hr
  all_goals simp[t1,t2,t26,t27,encNs]
  ·rw[<-hm1];simp
  ·rw[<-hm2];simp
theorem spec98 (ns ds:List Nat) (hns:∀x∈ns,x<=100000) (hds:∀x∈ds,x<=100000) (hlen2:ns.length=ds.length):∀a:Fm,zC a<=2^30->Sub98 ns ds a:=by
 refine Fm.ind' fun o n m ar ih=> ?_
 intro hn hv D
 rw[zC] at hn
 have:=nodesMs_len ar
 refine zW zH tok rfl rfl fun S=> ?_
 rw[yR] at hv
 rw[gN,gD]
 unfold c98
 by_cases ho:o=14
 ·rw[if_pos ho] at hv
  rw[if_pos ho,if_pos ho]
  obtain ⟨k,rfl⟩:∃k:Nat,n=k:=⟨n.toNat,by omega⟩
  have hk:k < ns.length:=by omega
  have hk2:k < ds.length:=by omega
  have e1:tabN ns k=ns[k]:=by unfold tabN;simp[List.getElem?_eq_getElem hk]
  have e2:tabN ds k=ds[k]:=by unfold tabN;simp[List.getElem?_eq_getElem hk2]
  rw[e1,e2]
  simp[zF,ho,encNs,hk,hk2]
 ·rw[if_neg ho] at hv
  rw[if_neg ho,if_neg ho]
  generalize hr:AV.tup _=r
  simp[zF,ho,encNs]
  refine l98 D ns ds hns hds hlen2 ar (by omega) hv (fun a ha=>ih a ha (by have:=nodesMs_le ha;omega)) S ar.length 0 1 0 _ _ r (by simp) (by omega) (by omega) ?_ ?_ ?_ ?_ ?_ ?_ ?_ (by rw[<-hr];rfl)
  all_goals simp[encNs]
theorem capN_add (a b:Nat):capN (capN a+capN b)=capN (a+b):=by unfold capN;omega
theorem gN_sub {P:Int->Prop} {φ:Int->Fm} {c:Int->Nat} (h:∀n,P n->c n=capN (zC (φ n))):∀a:Fm,yR P a->gN c a=capN (zC (subM φ a)):=by
 refine Fm.ind' fun o n m ar ih=> ?_
 rw[yR,gN,subM]
 split
 ·exact h n
 ·have:∀l:List Fm,(∀b∈l,b∈ar)->yM P l->∀acc,gNs c (capN acc) l=capN (acc+zQ (subMs φ l)):=by
   intro l
   induction l with
   | nil=>intro _ _ acc;rw[gNs,subMs,zQ,Nat.add_zero]
   | cons b l ihl=>
    intro hl q acc
    rw[yM] at q
    rw[gNs,subMs,zQ,ih b (hl b (by simp)) q.1,capN_add,ihl (fun c hc=>hl c (by simp[hc])) q.2,Nat.add_assoc]
  intro q
  have h1:(1:Nat)=capN 1:=by unfold capN;omega
  rw[zC,h1,this ar (fun _ h=>h) q]
  have h2:capN 1=1:=by unfold capN;omega
  rw[h2]
theorem gD_sub {P:Int->Prop} {φ:Int->Fm} {c:Int->Nat} (h:∀n,P n->c n=capN (yG (φ n))):∀a:Fm,yR P a->gD c a=capN (yG (subM φ a)):=by
 refine Fm.ind' fun o n m ar ih=> ?_
 rw[yR,gD,subM]
 split
 ·exact h n
 ·have:∀l:List Fm,(∀b∈l,b∈ar)->yM P l->∀acc,gDs c (capN acc) l=capN (max acc (y9 (subMs φ l))):=by
   intro l
   induction l with
   | nil=>intro _ _ acc;rw[gDs,subMs,y9,Nat.max_zero]
   | cons b l ihl=>
    intro hl q acc
    rw[yM] at q
    have e:max (capN acc) (capN (yG (subM φ b)))=capN (max acc (yG (subM φ b))):=by unfold capN;omega
    rw[gDs,subMs,y9,ih b (hl b (by simp)) q.1,e,ihl (fun c hc=>hl c (by simp[hc])) q.2,Nat.max_assoc]
  intro q
  have h0:(0:Nat)=capN 0:=by unfold capN;omega
  rw[yG,h0,this ar (fun _ h=>h) q,Nat.zero_max]
  unfold capN;omega
end Go.Ab.Tab
/- The reference's Rounds. -/
namespace Go.Ab.Tab
open Go Go.Ab
theorem sub_small {P:Int->Prop} {φ:Int->Fm} {B:Nat}:∀a:Fm,yR P a->zC (subM φ a)<=B->yR (fun n=>P n/\zC (φ n)<=B) a:=by
 refine Fm.ind' fun o n m ar ih=> ?_
 rw[yR,yR,subM]
 split
 ·exact fun h1 h2=>⟨h1,h2⟩
 ·have:∀l:List Fm,(∀b∈l,b∈ar)->yM P l->zQ (subMs φ l)<=B->yM (fun n=>P n/\zC (φ n)<=B) l:=by
   intro l
   induction l with
   | nil=>intro _ _ _;rw[yM];trivial
   | cons b l ihl=>
    intro hl q h
    rw[yM] at q
    rw[subMs,zQ] at h
    rw[yM]
    exact ⟨ih b (hl b (by simp)) q.1 (by omega),ihl (fun c hc=>hl c (by simp[hc])) q.2 (by omega)⟩
  intro q h
  rw[zC] at h
  exact this ar (fun _ h=>h) q (by omega)
section
variable (l:List Eqn)
def nsK (k:Nat):List Nat:=(List.range l.length).map fun i=>capN (zC (rndM l k i))
def dsK (k:Nat):List Nat:=(List.range l.length).map fun i=>capN (yG (rndM l k i))
def outF (k i:Nat):Fm:=if zC (rndM l k i)<=2000 then rndM l k i else .mk 0 0 0 []
def outK (k:Nat):List Fm:=(List.range l.length).map (outF l k)
def okK (k i:Nat):Bool:=decide (zC (rndM l k i)<=2000)&&decide (yG (rndM l k i)<=100)
end
section
variable {l:List Eqn}
theorem nsK_len (k:Nat):(nsK l k).length=l.length/\(dsK l k).length=l.length/\(outK l k).length=l.length:=by unfold nsK dsK outK;simp
theorem nsK_get {k i:Nat} (h:i < l.length):tabN (nsK l k) i=capN (zC (rndM l k i))/\tabN (dsK l k) i=capN (yG (rndM l k i))/\byM (outK l k) i=outF l k i:=by
 unfold tabN byM nsK dsK outK
 simp[List.getElem?_range h]
theorem nsK_le (k:Nat):(∀x∈nsK l k,x<=100000)/\(∀x∈dsK l k,x<=100000)/\∀b∈outK l k,zC b<=2000:=by
 refine ⟨fun x hx=> ?_,fun x hx=> ?_,fun x hx=> ?_⟩
 ·obtain ⟨i,_,rfl⟩:=List.mem_map.1 hx;exact Nat.min_le_right _ _
 ·obtain ⟨i,_,rfl⟩:=List.mem_map.1 hx;exact Nat.min_le_right _ _
 ·obtain ⟨i,_,rfl⟩:=List.mem_map.1 hx
  unfold outF
  split
  ·assumption
  ·simp only[zC,zQ];omega
theorem grow_eq (k:Nat) {i:Nat} (hi:i < l.length) (hv:yR (fun n=>0<=n/\n < l.length) l[i].body):
  gN (tabN (nsK l k)) l[i].body=capN (zC (rndM l (k+1) i))/\gD (tabN (dsK l k)) l[i].body=capN (yG (rndM l (k+1) i))/\(zC (rndM l (k+1) i)<=2000->subM (byM (outK l k)) l[i].body=rndM l (k+1) i):=by
 have e:rndM l (k+1) i=subM (fun n=>rndM l k n.toNat) l[i].body:=by rw[rndM,getE hi]
 have tn:∀n:Int,0<=n/\n < l.length->n=((n.toNat:Nat):Int)/\n.toNat < l.length:=fun n hn=>⟨by omega,by omega⟩
 refine ⟨?_,?_,fun h=> ?_⟩
 ·rw[e]
  exact gN_sub (P:=fun n=>0<=n/\n < l.length) (fun n hn=>by
   obtain ⟨e1,e2⟩:=tn n hn
   rw[e1,(nsK_get e2).1,Int.toNat_natCast]) _ hv
 ·rw[e]
  exact gD_sub (P:=fun n=>0<=n/\n < l.length) (fun n hn=>by
   obtain ⟨e1,e2⟩:=tn n hn
   rw[e1,(nsK_get e2).2.1,Int.toNat_natCast]) _ hv
 ·rw[e] at h|-
  exact subM_congr (P:=fun n=>(0<=n/\n < l.length)/\zC (rndM l k n.toNat)<=2000) (fun n hn=>by
   obtain ⟨e1,e2⟩:=tn n hn.1
   rw[e1,(nsK_get e2).2.2,Int.toNat_natCast]
   unfold outF
   rw[if_pos hn.2]) _ (sub_small _ hv h)
theorem top_sz (gr:Bool):zC (topM gr)=(if gr then 1 else 2)/\yG (topM gr)=(if gr then 1 else 2):=by
 cases gr<;>simp[topM,notM,zC,zQ,yG,y9]
theorem l42a (D:Nat) (hl:l.length<=1000) (S:Nat->Nat->Ent) (Q:St->Prop) (K:List AI) (t1v:AV) (hK:∀τ ω,τ 0=encL l->τ 1=t1v->τ 6= .sl 1 ((nsK l 0).map nI) .tip->τ 7= .sl 1 ((dsK l 0).map nI) .tip->τ 8= .sl 4 ((outK l 0).map encM) .tip->Rd (Loc Pg Gl) .im Q K (stF 114 D τ ω S)):
  ∀(j i:Nat) (a b c:List AV) (τ ω),i+j=l.length->a=((nsK l 0).take i).map nI->b=((dsK l 0).take i).map nI->c=((outK l 0).take i).map encM->
  τ 0=encL l->τ 1=t1v->τ 6= .sl 1 a .tip->τ 7= .sl 1 b .tip->τ 8= .sl 4 c .tip->τ 22=encL l->τ 23= .int .i64 l.length->τ 24= .int .i64 i->
  Rd (Loc Pg Gl) .im Q (.lp c42_l0:: .blk 0::K) (stF 114 D τ ω S):=by
 obtain ⟨n1,n2,n3⟩:=nsK_len (l:=l) 0
 intro j
 induction j with
 | zero=>
  intro i a b c τ ω hi ha hb hc t0 t1 t6 t7 t8 t22 t23 t24
  refine zL c42_l0.eq_1 ?_
  obtain rfl:i=l.length:=by omega
  rw[List.take_of_length_le (by omega)] at ha hb hc
  subst ha;subst hb;subst hc
  simp[t22,t23,t24]
  exact hK _ _ (by simp[t0]) (by simp[t1]) (by simp[t6]) (by simp[t7]) (by simp[t8])
 | succ j ih=>
  intro i a b c τ ω hi ha hb hc t0 t1 t6 t7 t8 t22 t23 t24
  refine zL c42_l0.eq_1 ?_
  have hlt:i < l.length:=by omega
  have hwr:IntKind.i64.wrap ((i:Int)+1)=((i+1:Nat):Int):=by rw[<-zG (n:=i+1) (by omega)];rfl
  have la:a.length=i:=by rw[ha];simp;omega
  have lb:b.length=i:=by rw[hb];simp;omega
  have lc:c.length=i:=by rw[hc];simp;omega
  have hle1:(i+1)*8<=1099511627776:=by omega
  have hle2:(i+1)*48<=1099511627776:=by omega
  have e0:rndM l 0 i=topM l[i].gr:=by rw[rndM,getE hlt]
  obtain ⟨z1,z2⟩:=top_sz l[i].gr
  have c1:capN (if l[i].gr then 1 else 2)=if l[i].gr then 1 else 2:=by unfold capN;split<;>omega
  have xa:(nsK l 0)[i]'(by omega)=if l[i].gr then 1 else 2:=by unfold nsK;simp only[List.getElem_map,List.getElem_range];rw[e0,z1,c1]
  have xb:(dsK l 0)[i]'(by omega)=if l[i].gr then 1 else 2:=by unfold dsK;simp only[List.getElem_map,List.getElem_range];rw[e0,z2,c1]
  have xc:(outK l 0)[i]'(by omega)=topM l[i].gr:=by
   unfold outK outF;simp only[List.getElem_map,List.getElem_range];rw[e0,z1,if_pos (by split<;>omega)]
  have ta:((nsK l 0).take (i+1)).map nI=a++[.int .i64 ((if l[i].gr then 1 else 2:Nat):Int)]:=by rw[List.take_succ_eq_append_getElem (by omega),List.map_append,ha,xa];rfl
  have tb:((dsK l 0).take (i+1)).map nI=b++[.int .i64 ((if l[i].gr then 1 else 2:Nat):Int)]:=by rw[List.take_succ_eq_append_getElem (by omega),List.map_append,hb,xb];rfl
  have tc:((outK l 0).take (i+1)).map encM=c++[encM (topM l[i].gr)]:=by rw[List.take_succ_eq_append_getElem (by omega),List.map_append,hc,xc];rfl
  have h81:=spec81 (D+1) 0 0 0 []
  have h84:=spec84 (.mk 0 0 0 []) (D+1)
  have h56:=spec56 (topM l[i].gr) (by unfold topM;split;exact fitM_of _ (by simp[zC,zQ,maxLen]);exact fitM_of _ (by simp[notM,zC,zQ,maxLen])) (by rw[z1];split<;>omega) (D+1)
  rw[z1,z2] at h56
  rw[zF] at h81 h84
  generalize hge:l[i]=e at*
  cases hgr:e.gr with
  | true=>
   rw[hgr] at ta tb tc h56
   have et:topM true= .mk 0 0 0 []:=rfl
   rw[et,zF] at tc h56
   simp[t22,t23,t24,hlt,encL,encE,hge,hgr]
   refine zE h81 (by simp) ?_
   simp[hgr,c42_j0]
   refine zE h56 (by simp) ?_
   simp[t6,t7,t8,la,lb,lc,hle1,hle2,t24,hwr]
   refine ih (i+1) _ _ _ _ _ (by omega) ta.symm tb.symm tc.symm ?_ ?_ ?_ ?_ ?_ ?_ ?_ ?_
   all_goals simp[t0,t1,t22,t23,encL]
  | false=>
   rw[hgr] at ta tb tc h56
   have et:topM false=notM (.mk 0 0 0 []):=rfl
   rw[et] at tc h56
   generalize notM (.mk 0 0 0 [])=nt at*
   simp[t22,t23,t24,hlt,encL,encE,hge,hgr]
   refine zE h81 (by simp) ?_
   simp[hgr]
   refine zE h84 (by simp) ?_
   simp[zA nt,c42_j0]
   refine zE h56 (by simp[zA nt]) ?_
   simp[t6,t7,t8,la,lb,lc,hle1,hle2,t24,hwr]
   refine ih (i+1) _ _ _ _ _ (by omega) ta.symm tb.symm tc.symm ?_ ?_ ?_ ?_ ?_ ?_ ?_ ?_
   all_goals simp[t0,t1,t22,t23,encL,zA nt]
theorem l42b (D:Nat) (hl:l.length<=1000) (hsz:∀e∈l,zC e.body<=2^30) (hv:∀e∈l,yR (fun n=>0<=n/\n < l.length) e.body) (S:Nat->Nat->Ent) (Q:St->Prop) (K:List AI) (k:Nat) (t52v t53v:AV)
  (hK:∀τ ω,τ 0=encL l->τ 52=t52v->τ 53=t53v->τ 14= .sl 1 ((nsK l (k+1)).map nI) .tip->τ 15= .sl 1 ((dsK l (k+1)).map nI) .tip->τ 16= .sl 4 ((outK l (k+1)).map encM) .tip->Rd (Loc Pg Gl) .im Q K (stF 114 D τ ω S)) (tp6 tp7 tp8:Tip) (d6:tp6.dem= .no) (d7:tp7.dem= .no) (d8:tp8.dem= .no):
  ∀(j i:Nat) (a b c:List AV) (τ ω),i+j=l.length->a=((nsK l (k+1)).take i).map nI->b=((dsK l (k+1)).take i).map nI->c=((outK l (k+1)).take i).map encM->
  τ 0=encL l->τ 52=t52v->τ 53=t53v->τ 6= .sl 1 ((nsK l k).map nI) tp6->τ 7= .sl 1 ((dsK l k).map nI) tp7->τ 8= .sl 4 ((outK l k).map encM) tp8->
  τ 14= .sl 1 a .tip->τ 15= .sl 1 b .tip->τ 16= .sl 4 c .tip->τ 55=encL l->τ 56= .int .i64 l.length->τ 57= .int .i64 i->
  Rd (Loc Pg Gl) .im Q (.lp c42_l1:: .blk 4::K) (stF 114 D τ ω S):=by
 obtain ⟨n1,n2,n3⟩:=nsK_len (l:=l) (k+1)
 obtain ⟨m1,m2,m3⟩:=nsK_len (l:=l) k
 obtain ⟨b1,b2,b3⟩:=nsK_le (l:=l) k
 intro j
 induction j with
 | zero=>
  intro i a b c τ ω hi ha hb hc t0 t52 t53 t6 t7 t8 t14 t15 t16 t55 t56 t57
  refine zL c42_l1.eq_1 ?_
  obtain rfl:i=l.length:=by omega
  rw[List.take_of_length_le (by omega)] at ha hb hc
  subst ha;subst hb;subst hc
  simp[t55,t56,t57]
  exact hK _ _ (by simp[t0]) (by simp[t52]) (by simp[t53]) (by simp[t14]) (by simp[t15]) (by simp[t16])
 | succ j ih=>
  intro i a b c τ ω hi ha hb hc t0 t52 t53 t6 t7 t8 t14 t15 t16 t55 t56 t57
  refine zL c42_l1.eq_1 ?_
  have hlt:i < l.length:=by omega
  have hwr:IntKind.i64.wrap ((i:Int)+1)=((i+1:Nat):Int):=by rw[<-zG (n:=i+1) (by omega)];rfl
  have la:a.length=i:=by rw[ha];simp;omega
  have lb:b.length=i:=by rw[hb];simp;omega
  have lc:c.length=i:=by rw[hc];simp;omega
  have hle1:(i+1)*8<=1099511627776:=by omega
  have hle2:(i+1)*48<=1099511627776:=by omega
  obtain ⟨g1,g2,g3⟩:=grow_eq k hlt (hv _ (List.getElem_mem hlt))
  have h98:=spec98 (nsK l k) (dsK l k) b1 b2 (by omega) l[i].body (hsz _ (List.getElem_mem hlt)) (by rw[m1];exact hv _ (List.getElem_mem hlt)) (D+1)
  rw[g1,g2] at h98
  have h97:=spec97 (outK l k) (fun x hx=>by have:=b3 x hx;omega) l[i].body (hsz _ (List.getElem_mem hlt)) (by rw[m3];exact hv _ (List.getElem_mem hlt)) (D+1)
  have xa:(nsK l (k+1))[i]'(by omega)=capN (zC (rndM l (k+1) i)):=by unfold nsK;simp only[List.getElem_map,List.getElem_range]
  have xb:(dsK l (k+1))[i]'(by omega)=capN (yG (rndM l (k+1) i)):=by unfold dsK;simp only[List.getElem_map,List.getElem_range]
  have xc:(outK l (k+1))[i]'(by omega)=outF l (k+1) i:=by unfold outK;simp only[List.getElem_map,List.getElem_range]
  have ta:((nsK l (k+1)).take (i+1)).map nI=a++[.int .i64 (capN (zC (rndM l (k+1) i)))]:=by rw[List.take_succ_eq_append_getElem (by omega),List.map_append,ha,xa];rfl
  have tb:((dsK l (k+1)).take (i+1)).map nI=b++[.int .i64 (capN (yG (rndM l (k+1) i)))]:=by rw[List.take_succ_eq_append_getElem (by omega),List.map_append,hb,xb];rfl
  have tc:((outK l (k+1)).take (i+1)).map encM=c++[encM (outF l (k+1) i)]:=by rw[List.take_succ_eq_append_getElem (by omega),List.map_append,hc,xc];rfl
  have hcap:capN (zC (rndM l (k+1) i))<=2000↔zC (rndM l (k+1) i)<=2000:=by unfold capN;omega
  unfold outF at tc
  simp only[encNs] at h98
  generalize hN:capN (zC (rndM l (k+1) i))=N at*
  generalize capN (yG (rndM l (k+1) i))=DD at*
  generalize hge:l[i]=e at*
  by_cases hb:N<=2000
  ·have hb':(N:Int)<=2000:=by omega
   rw[if_pos (hcap.1 hb)] at tc
   rw[g3 (hcap.1 hb)] at h97
   generalize rndM l (k+1) i=R at*
   simp[d6,d7,d8,t0,t6,t7,t8,t55,t56,t57,hlt,encL,encE,hge]
   refine zE h98 (by simp[zA e.body]) ?_
   simp[d8,t8,t14,t15,t16,la,lb,hle1,hb']
   refine zE h97 (by simp[zA e.body]) ?_
   simp[t16,lc,hle2,t57,hwr,zA R]
   refine ih (i+1) _ _ _ _ _ (by omega) ta.symm tb.symm tc.symm ?_ ?_ ?_ ?_ ?_ ?_ ?_ ?_ ?_ ?_ ?_ ?_
   all_goals simp[d6,d7,d8,t0,t52,t53,t6,t7,t8,t55,t56,encL,zA R]
  ·have hb':¬(N:Int)<=2000:=by omega
   rw[if_neg (fun h=>hb (hcap.2 h)),zF] at tc
   simp[d6,d7,d8,t0,t6,t7,t8,t55,t56,t57,hlt,encL,encE,hge]
   refine zE h98 (by simp[zA e.body]) ?_
   simp[d8,t8,t14,t15,t16,la,lb,hle1,hb',lc,hle2,t57,hwr]
   refine ih (i+1) _ _ _ _ _ (by omega) ta.symm tb.symm tc.symm ?_ ?_ ?_ ?_ ?_ ?_ ?_ ?_ ?_ ?_ ?_ ?_
   all_goals simp[d6,d7,d8,t0,t52,t53,t6,t7,t8,t55,t56,encL]
def refR (l:List Eqn) (k:Nat):AV:=if (List.range l.length).all (okK l k) then .tup [.sl 4 ((outK l k).map encM) .no,.bool true] else .tup [.sl 4 [] .no,.bool false]
theorem l42d (D:Nat) (hl:l.length<=1000) (S:Nat->Nat->Ent) (k:Nat) (tp6 tp7 tp8:Tip) (d6:tp6.dem= .no) (d7:tp7.dem= .no) (d8:tp8.dem= .no):∀(j i:Nat) (τ ω),i+j=l.length->(List.range i).all (okK l k)=true->
  τ 6= .sl 1 ((nsK l k).map nI) tp6->τ 7= .sl 1 ((dsK l k).map nI) tp7->τ 8= .sl 4 ((outK l k).map encM) tp8->τ 96= .int .i64 l.length->τ 97= .int .i64 i->
  Rd (Loc Pg Gl) .im (RetS [.tmp 4,.tmp 5] (refR l k) D S []) [.lp c42_l3,.blk 6,.c c42_k2] (stF 114 D τ ω S):=by
 obtain ⟨m1,m2,m3⟩:=nsK_len (l:=l) k
 intro j
 induction j with
 | zero=>
  intro i τ ω hi hall t6 t7 t8 t96 t97
  refine zL c42_l3.eq_1 ?_
  obtain rfl:i=l.length:=by omega
  unfold refR
  rw[if_pos hall]
  simp[d8,t8,t96,t97,c42_k2,upds]
 | succ j ih=>
  intro i τ ω hi hall t6 t7 t8 t96 t97
  refine zL c42_l3.eq_1 ?_
  have hlt:i < l.length:=by omega
  have hwr:IntKind.i64.wrap ((i:Int)+1)=((i+1:Nat):Int):=by rw[<-zG (n:=i+1) (by omega)];rfl
  have xa:(nsK l k)[i]'(by omega)=capN (zC (rndM l k i)):=by unfold nsK;simp only[List.getElem_map,List.getElem_range]
  have xb:(dsK l k)[i]'(by omega)=capN (yG (rndM l k i)):=by unfold dsK;simp only[List.getElem_map,List.getElem_range]
  have hi1:i < (nsK l k).length:=by omega
  have hi2:i < (dsK l k).length:=by omega
  have hna:okK l k i=false->(List.range l.length).all (okK l k)=false:=fun h=>by
   rw[List.all_eq_false];exact ⟨i,List.mem_range.2 hlt,by rw[h];simp⟩
  have hc1:((2000:Int) < (capN (zC (rndM l k i)):Nat))↔¬zC (rndM l k i)<=2000:=by unfold capN;omega
  have hc2:((100:Int) < (capN (yG (rndM l k i)):Nat))↔¬yG (rndM l k i)<=100:=by unfold capN;omega
  by_cases h1:zC (rndM l k i)<=2000
  ·by_cases h2:yG (rndM l k i)<=100
   ·have q1:¬(2000:Int) < (capN (zC (rndM l k i)):Nat):=fun h=>hc1.1 h h1
    have q2:¬(100:Int) < (capN (yG (rndM l k i)):Nat):=fun h=>hc2.1 h h2
    simp[d6,d7,t6,t7,t96,t97,hlt,hi1,hi2,xa,xb,q1,q2,hwr,m1,m2]
    refine ih (i+1) _ _ (by omega) (by rw[List.range_succ,List.all_append,hall];simp[okK,h1,h2]) ?_ ?_ ?_ ?_ ?_
    all_goals simp[d6,d7,d8,t6,t7,t8,t96]
   ·have q1:¬(2000:Int) < (capN (zC (rndM l k i)):Nat):=fun h=>hc1.1 h h1
    have q2:(100:Int) < (capN (yG (rndM l k i)):Nat):=hc2.2 h2
    unfold refR
    rw[hna (by unfold okK;simp[h2])]
    simp[d6,d7,t6,t7,t96,t97,hlt,hi1,hi2,xa,xb,q1,q2,m1,m2,upds]
  ·have q1:(2000:Int) < (capN (zC (rndM l k i)):Nat):=hc1.2 h1
   unfold refR
   rw[hna (by unfold okK;simp[h1])]
   simp[d6,d7,t6,t7,t96,t97,hlt,hi1,hi2,xa,xb,q1,m1,m2,upds]
theorem l42c (D:Nat) (hl:l.length<=1000) (hsz:∀e∈l,zC e.body<=2^30) (hv:∀e∈l,yR (fun n=>0<=n/\n < l.length) e.body) (S:Nat->Nat->Ent) (k:Nat) (hk:k<=1000):∀(j r:Nat) (tp6 tp7 tp8:Tip) (τ ω),r+j=k->tp6.dem= .no->tp7.dem= .no->tp8.dem= .no->τ 0=encL l->
  τ 6= .sl 1 ((nsK l r).map nI) tp6->τ 7= .sl 1 ((dsK l r).map nI) tp7->τ 8= .sl 4 ((outK l r).map encM) tp8->τ 52= .int .i64 k->τ 53= .int .i64 r->
  Rd (Loc Pg Gl) .im (RetS [.tmp 4,.tmp 5] (refR l k) D S []) [.lp c42_l2,.blk 2,.c c42_k3] (stF 114 D τ ω S):=by
 intro j
 induction j with
 | zero=>
  intro r tp6 tp7 tp8 τ ω hr d6 d7 d8 t0 t6 t7 t8 t52 t53
  refine zL c42_l2.eq_1 ?_
  obtain rfl:r=k:=by omega
  simp[d6,t52,t53,c42_k3,t6]
  refine l42d D hl S r tp6 tp7 tp8 d6 d7 d8 l.length 0 _ _ (by simp) (by simp) ?_ ?_ ?_ ?_ ?_
  all_goals simp[t6,t7,t8,(nsK_len (l:=l) r).1]
 | succ j ih=>
  intro r tp6 tp7 tp8 τ ω hr d6 d7 d8 t0 t6 t7 t8 t52 t53
  refine zL c42_l2.eq_1 ?_
  have hlt:(r:Int) < k:=by omega
  have hwr:IntKind.i64.wrap ((r:Int)+1)=((r+1:Nat):Int):=by rw[<-zG (n:=r+1) (by omega)];rfl
  simp[t0,t52,t53,hlt,encL]
  refine l42b D hl hsz hv S _ _ r (.int .i64 k) (.int .i64 r) (fun τ' ω' u0 u52 u53 u14 u15 u16=> ?_) tp6 tp7 tp8 d6 d7 d8 l.length 0 [] [] [] _ _ (by simp) (by simp) (by simp) (by simp) ?_ ?_ ?_ ?_ ?_ ?_ ?_ ?_ ?_ ?_ ?_ ?_
  ·unfold c42_k0 c42_k1
   simp[u14,u15,u16,u53,hwr]
   refine ih (r+1) .no .no .no _ _ (by omega) rfl rfl rfl ?_ ?_ ?_ ?_ ?_ ?_
   all_goals simp[u0,u52]
  all_goals simp[t0,t6,t7,t8,t52,t53,encL]
theorem spec42 (D:Nat) (hl:l.length<=1000) (hsz:∀e∈l,zC e.body<=2^30) (hv:∀e∈l,yR (fun n=>0<=n/\n < l.length) e.body) (k:Nat) (hk:k<=1000):Go.Ab.Loc Pg Gl D 42 [encL l,.int .i64 k] [] (refR l k) []:=by
 refine loc_rdS zH tok rfl rfl fun S hS=> ?_
 unfold c42
 simp[encL]
 refine l42a D hl S _ _ (.int .i64 k) (fun τ ω t0 t1 t6 t7 t8=> ?_) l.length 0 [] [] [] _ _ (by simp) (by simp) (by simp) (by simp) ?_ ?_ ?_ ?_ ?_ ?_ ?_ ?_
 ·unfold c42_k4
  simp[t1]
  refine l42c D hl hsz hv S k hk k 0 .tip .tip .tip _ _ (by simp) rfl rfl rfl ?_ ?_ ?_ ?_ ?_ ?_
  all_goals simp[t0,t6,t7,t8]
 all_goals simp[encL]
end
end Go.Ab.Tab
