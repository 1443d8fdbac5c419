/- awake: calls that do not depend on the input. -/
import Derived.Test.YtkjbakmlonpdjaaGreatDoorRoundsH
import Derived.Test.YtkjbakmlonpdjaaGreatDoorRoundsB4
import Derived.Test.YtkjbakmlonpdjaaGreatDoorRoundsG
open Bool renaming and_eq_true->yOB
open List renaming mem_cons->yOC, getElem_mem->yOD, range->yOE, not_mem_nil->yOF, mem_append->yOG, mem_cons_self->yOI, mem_cons_of_mem->yOJ, mem_singleton->yOK, range_succ->yOL
open Nat renaming le_refl->yOH
set_option linter.unusedVariables false
set_option linter.unusedSimpArgs false
set_option maxRecDepth 100000
namespace Go.Ab.Tab
open Go Go.Ab
def chF:Fu:= .mk 2 0 [.mk 1 2 [],.mk 7 0 [.mk 0 0 []]]
def chM:List Va:=[.mk 0 [.mk 0 [] [],.mk 0 [.mk 1 [] [],.mk 2 [] []] [1,2]] [],.mk 0 [.mk 1 [] [],.mk 0 [.mk 1 [] []] [1]] [],.mk 0 [.mk 1 [] [],.mk 0 [.mk 2 [] []] [1]] []]
def chS:Sy:=⟨chF,chM⟩
def chA:Fm:= .mk 3 0 0 [.mk 6 0 0 [.mk 5 1 0 []]]
theorem yBC (D:Nat):Go.Ab.Loc Pg Gl D 44 [] [] (.tup [encY chS,encM chA]) []:=by
 refine zP zF tok rfl rfl fun S=> ?_;have h1:=gR (D+1) 1 2 [];have h2:=gR (D+1) 0 0 [];have h3:=gR (D+1) 7 0 [.mk 0 0 []];have h4:=gR (D+1) 2 0 [.mk 1 2 [],.mk 7 0 [.mk 0 0 []]];have h5:=zGP (D+1) 5 1 0 [];have h6:=zGP (D+1) 6 0 0 [.mk 5 1 0 []];have h7:=zGP (D+1) 3 0 0 [.mk 6 0 0 [.mk 5 1 0 []]];simp[zU,zG] at h1 h2 h3 h4 h5 h6 h7;simp[encY,chS,chF,chM,chA,zU,zT,zG,Fu.k,Fu.n,Fu.gs];unfold c44;simp;refine zE h1 (by simp) ?_;refine zE h2 (by simp) ?_;simp;refine zE h3 (by simp) ?_;simp;refine zE h4 (by simp) ?_;simp;refine zW h5 (by simp) ?_;simp;refine zW h6 (by simp) ?_;simp;refine zW h7 (by simp) ?_;simp
def xA:Eqn:=⟨true,alwM chA chF⟩
def xP:Eqn:=⟨false,posM chA chF⟩
theorem aW:nO chF chA=0/\isL chF [xA]=true/\isL chF [xP]=true/\zK (alwM chA chF)<=1000/\zK (posM chA chF)<=1000/\
  uX chS [xA]=0/\uX chS [xP]=0/\uY (solS chS [xA] 0) 3= [1,2]/\uY (solS chS [xP] 0) 3= [0,1,2]/\zI chM<=100:=by
 refine ⟨by rfl,by rfl,by rfl,by decide,by decide,by rfl,by rfl,by rfl,by rfl,by decide⟩
theorem zCP:fitY chS:=by
 refine ⟨?_,?_,?_⟩
 ·simp[chS,chF,fitF,fR,maxLen]
 ·simp[chS,chM,maxLen]
 ·simp[chS,chM,fitV,iB,maxLen]
theorem zHS {f:Fu} {x:Eqn} (h:isL f [x]=true):jY f x= .tup [.sl 5 [encE x] .no,.int .i64 0]:=by unfold jY;rw[yRO h]
theorem mZ {x:Eqn} (h:zK x.body<=maxLen):fitL [x]:=⟨by simp[maxLen],fun y hy=>by rw[yOK] at hy;subst hy;exact zJD _ h⟩
theorem zHQ {x:Eqn} (h0:uX chS [x]=0):solR chS [x]= .tup [.sl 1 [nJ 3 (solS chS [x] 0)] .no,.int .i64 0]:=by
 unfold solR;rw[yRO h0];rfl
theorem yBL (D:Nat):Go.Ab.Loc Pg Gl D 12 [] [] (.bool true) []:=by
 obtain ⟨f1,f4,f5,f6,f7,f8,f9,f10,f11,f12⟩:=aW;have n6:zK xA.body<=maxLen:=by unfold maxLen;exact Nat.le_trans f6 (by decide)
 have n7:zK xP.body<=maxLen:=by unfold maxLen;exact Nat.le_trans f7 (by decide)
 have h44:=yBC (D+1);have h20:=yBI (D+1) chF zCP.1 chA;have h21:=yBH (D+1) chF zCP.1 chA;unfold zAK at h20;unfold zTE at h21;rw[yRO f1] at h20 h21;have e20:jY chF ⟨true,alwM chA chF⟩= .tup [.sl 5 [encE xA] .no,.int .i64 0]:=zHS f4;have e21:jY chF ⟨false,posM chA chF⟩= .tup [.sl 5 [encE xP] .no,.int .i64 0]:=zHS f5;rw[e20] at h20;rw[e21] at h21;have hsh:zH chF=true:=by rfl
 have h36a:=zGS (D+1) chF hsh [xA] (mZ n6);have h36p:=zGS (D+1) chF hsh [xP] (mZ n7);rw[f4] at h36a;rw[f5] at h36p;have h13a:=zHG chS zCP (by show zI chM<=_;omega) [xA] (mZ n6) (D+1);have h13p:=zHG chS zCP (by show zI chM<=_;omega) [xP] (mZ n7) (D+1);rw[zHQ f8,nJ,f10] at h13a;rw[zHQ f9,nJ,f11] at h13p;have h34:=zRT (D+1) (.mk (-1) 0 []) (by simp[fitF,fR,maxLen]) [] ⟨by simp[maxLen],by simp⟩ (by decide);have e34:oS (.mk (-1) 0 []) []=10:=by rfl
 rw[e34] at h34;rw[zU] at h34;have eY:encY chS= .agg [.int .i64 2,.int .i64 0,.sl 3 (chF.gs.map encF) .no,.sl 3 (chM.map encV) .no]:=rfl;have eF:encF chF= .agg [.int .i64 2,.int .i64 0,.sl 3 (chF.gs.map encF) .no]:=by rw[zB];rfl
 have eA:encM chA= .agg [.int .i64 3,.int .i64 0,.int .i64 0,.sl 4 (chA.ar.map encM) .no]:=by rw[zA];rfl
 have eLA:encL [xA]= .sl 5 [encE xA] .no:=rfl;have eLP:encL [xP]= .sl 5 [encE xP] .no:=rfl;have eL0:encL []= .sl 5 [] .no:=rfl;rw[eY] at h44 h13a h13p;rw[eA] at h44 h20 h21;rw[eF] at h20 h21 h36a h36p;rw[eLA] at h36a h13a;rw[eLP] at h36p h13p;rw[eL0] at h34;generalize chF.gs.map encF=gF at*;generalize chM.map encV=gM at*;generalize chA.ar.map encM=gA at*;generalize encE xA=EA' at*;generalize encE xP=EP' at*;refine zP zF tok rfl rfl fun S=> ?_;unfold c12;simp;refine zE h44 (by simp) ?_;simp;refine zE h20 (by simp) ?_;simp;refine zE h21 (by simp) ?_;simp;refine zE h36a (by simp) ?_;simp;refine zE h36p (by simp) ?_;simp;refine zE h13a (by simp) ?_;simp;refine zE h13p (by simp) ?_;simp;refine zE h34 (by simp) ?_;simp[encN]
end Go.Ab.Tab
/- Arguments as data. -/
namespace Go.Ab
open Go
section
variable {P:Program} {t:TypeId} {n:Nat} {cs:List AV}
theorem lH {k:IntKind} (hu:P.underlying t=some (.int k)) (h:tyOk P n t cs):∃i,cs= [.int k i]/\(Lit.int k i).wf=true:=by
 cases n with
 | zero=>cases h
 | succ n=>simpa only[tyOk,hu] using h
theorem zBD {e:TypeId} (hu:P.underlying t=some (.slice e)) (h:tyOk P n t cs):∃xs n',cs= [.sl (P.cellsOf e) xs .no]/\xs.length<=maxLen/\∀x∈xs,∃c,x=mkV P e c/\tyOk P n' e c:=by
 cases n with
 | zero=>cases h
 | succ n=>
  simp only[tyOk,hu] at h;obtain ⟨xs,h1,h2,h3⟩:=h;exact ⟨xs,n,h1,h2,h3⟩
def sI (P:Program) (t:TypeId):List (TypeId×Nat):=match P.underlying t with
 | some (.struct fs)=>fs.toList.map fun f=>(f.type,f.offset)
 | _=>[]
def sE (P:Program) (t:TypeId):Bool:=match P.underlying t with
 | some (.struct _)=>true
 | _=>false
theorem vO {α β:Type} (f:α->β) (q:α->Prop):∀(l:List β),(∀x∈l,∃a,x=f a/\q a)->∃bs:List α,l=bs.map f/\∀a∈bs,q a
 | [],_=>⟨[],rfl,by simp⟩
 | x::l,h=>by
  obtain ⟨a,h1,h2⟩:=h x (by simp);obtain ⟨bs,h3,h4⟩:=vO f q l fun y hy=>h y (by simp[hy]);exact ⟨a::bs,by simp[h1,h3],fun b hb=>by rcases yOC.1 hb with rfl | hb;exact h2;exact h4 b hb⟩
theorem zIQ (h:tO P t=false) (c:AV):mkV P t [c]=c:=by unfold mkV;rw[h];rfl
theorem nH (h:tO P t=true):mkV P t cs= .agg cs:=by unfold mkV;rw[h];rfl
end
namespace Tab
theorem u3:Pg.underlying 3=some (.int .i64):=by kernel_rfl
theorem u40:Pg.underlying 40=some (.slice 3):=by kernel_rfl
theorem z3:Pg.cellsOf 3=1:=by kernel_rfl
theorem z40:Pg.cellsOf 40=1:=by kernel_rfl
theorem g3:tO Pg 3=false:=by kernel_rfl
theorem ty40 {n:Nat} {cs:List AV} (h:tyOk Pg n 40 cs):∃l:List Int,cs= [encI l]/\l.length<=maxLen:=by
 obtain ⟨xs,n',rfl,h2,h3⟩:=zBD u40 h;obtain ⟨l,rfl,_⟩:=vO (AV.int .i64) (fun _=>True) xs fun x hx=>by
  obtain ⟨c,rfl,hc⟩:=h3 x hx;obtain ⟨i,rfl,_⟩:=lH u3 hc;exact ⟨i,zIQ g3 _,trivial⟩
 exact ⟨l,by rw[z3];rfl,by simpa using h2⟩
theorem u22:Pg.underlying 22=some (.slice 24):=by kernel_rfl
theorem u25:Pg.underlying 25=some (.slice 102):=by kernel_rfl
theorem s24:sE Pg 24=true:=by kernel_rfl
theorem s102:sE Pg 102=true:=by kernel_rfl
theorem s27:sE Pg 27=true:=by kernel_rfl
theorem f24:sI Pg 24= [(3,0),(3,1),(22,2)]:=by kernel_rfl
theorem f102:sI Pg 102= [(3,0),(25,1),(40,2)]:=by kernel_rfl
theorem f27:sI Pg 27= [(24,0),(25,3)]:=by kernel_rfl
theorem z24:Pg.cellsOf 24=3:=by kernel_rfl
theorem z102:Pg.cellsOf 102=3:=by kernel_rfl
theorem z27:Pg.cellsOf 27=4:=by kernel_rfl
theorem z22:Pg.cellsOf 22=1:=by kernel_rfl
theorem z25:Pg.cellsOf 25=1:=by kernel_rfl
theorem g24:tO Pg 24=true:=by kernel_rfl
theorem g102:tO Pg 102=true:=by kernel_rfl
theorem g27:tO Pg 27=true:=by kernel_rfl
theorem pL {P:Program} {t e:TypeId} {n:Nat} {cs:List AV} (hu:P.underlying t=some (.slice e)) (h:tyOk P (n+1) t cs):∃xs,cs= [.sl (P.cellsOf e) xs .no]/\xs.length<=maxLen/\∀x∈xs,∃c,x=mkV P e c/\tyOk P n e c:=by
 simp only[tyOk,hu] at h;exact h
theorem tF {P:Program} {t:TypeId} {n:Nat} {cs:List AV} (hs:sE P t=true) (h:tyOk P (n+1) t cs):cs.length=P.cellsOf t/\∀f∈sI P t,tyOk P n f.1 ((cs.drop f.2).take (P.cellsOf f.1)):=by
 unfold sE at hs;unfold sI;cases hu:P.underlying t with
 | none=>rw[hu] at hs;cases hs
 | some d=>
  rw[hu] at hs;cases d with
  | struct fs=>
   simp only[tyOk,hu] at h;refine ⟨h.1,fun f hf=> ?_⟩;obtain ⟨g,hg,rfl⟩:=List.mem_map.1 hf;exact h.2 g hg
  | _=>cases hs
theorem zCR:∀{l:List Fu},(∀a∈l,fitF a)->fR l
 | [],_=>by rw[fR];trivial
 | a::l,h=>by rw[fR];exact ⟨h a (by simp),zCR fun b hb=>h b (by simp[hb])⟩
theorem zZM {cs:List AV} (h:cs.length=3):∃a b c,cs= [a,b,c]:=by
 match cs,h with
 | [a,b,c],_=>exact ⟨a,b,c,rfl⟩
theorem ty24:∀(n:Nat) {cs:List AV},tyOk Pg n 24 cs->∃f:Fu,cs= [.int .i64 f.k,.int .i64 f.n,.sl 3 (f.gs.map encF) .no]/\fitF f:=by
 intro n
 induction n using Nat.strongRecOn with
 | ind n ih=>
  intro cs h;cases n with
  | zero=>cases h
  | succ n=>
   obtain ⟨hl,hf⟩:=tF s24 h;rw[f24] at hf;rw[z24] at hl;obtain ⟨a,b,c,rfl⟩:=zZM hl;have k0:=hf (3,0) (by simp);have k1:=hf (3,1) (by simp);have k2:=hf (22,2) (by simp);rw[z3] at k0 k1;rw[z22] at k2;obtain ⟨i,e0,_⟩:=lH u3 k0;obtain ⟨j,e1,_⟩:=lH u3 k1;simp at e0 e1;subst e0;subst e1;cases n with
   | zero=>cases k2
   | succ n=>
    obtain ⟨xs,e2,h2,h3⟩:=pL u22 k2;obtain ⟨gs,hgs,hfit⟩:=vO encF fitF xs fun x hx=>by
     obtain ⟨c',rfl,hc⟩:=h3 x hx;obtain ⟨f,rfl,hff⟩:=ih n (by omega) hc;exact ⟨f,by rw[nH g24,zB],hff⟩
    subst hgs;rw[z24] at e2;simp at e2;subst e2;refine ⟨.mk i j gs,rfl,?_⟩;rw[fitF];exact ⟨by simpa using h2,zCR hfit⟩
theorem yJN:∀(n:Nat) {cs:List AV},tyOk Pg n 102 cs->∃v:Va,cs= [.int .i64 v.n,.sl 3 (v.gs.map encV) .no,.sl 1 (v.ws.map (AV.int .i64)) .no]/\fitV v:=by
 intro n
 induction n using Nat.strongRecOn with
 | ind n ih=>
  intro cs h;cases n with
  | zero=>cases h
  | succ n=>
   obtain ⟨hl,hf⟩:=tF s102 h;rw[f102] at hf;rw[z102] at hl;obtain ⟨a,b,c,rfl⟩:=zZM hl;have k0:=hf (3,0) (by simp);have k1:=hf (25,1) (by simp);have k2:=hf (40,2) (by simp);rw[z3] at k0;rw[z25] at k1;rw[z40] at k2;obtain ⟨i,e0,_⟩:=lH u3 k0;obtain ⟨ws,e2,hws⟩:=ty40 k2;simp at e0 e2;subst e0;subst e2;cases n with
   | zero=>cases k1
   | succ n=>
    obtain ⟨xs,e1,h2,h3⟩:=pL u25 k1;obtain ⟨gs,hgs,hfit⟩:=vO encV fitV xs fun x hx=>by
     obtain ⟨c',rfl,hc⟩:=h3 x hx;obtain ⟨f,rfl,hff⟩:=ih n (by omega) hc;exact ⟨f,by rw[nH g102,zC],hff⟩
    subst hgs;rw[z102] at e1;simp at e1;subst e1;refine ⟨.mk i gs ws,rfl,?_⟩;rw[fitV];exact ⟨⟨by simpa using h2,hws⟩,fQ hfit⟩
theorem yMS {a:AV} (h:Arg Pg 27 a):∃s:Sy,a=encY s/\fitF s.f/\s.m.length<=maxLen/\∀v∈s.m,fitV v:=by
 obtain ⟨fuel,cs,h1,h2,rfl⟩:=h;cases fuel with
 | zero=>cases h1
 | succ n=>
  obtain ⟨hl,hf⟩:=tF s27 h1;rw[f27] at hf;rw[z27] at hl;obtain ⟨a,b,c,d,rfl⟩:∃a b c d,cs= [a,b,c,d]:=by
   match cs,hl with
   | [a,b,c,d],_=>exact ⟨a,b,c,d,rfl⟩
  have k0:=hf (24,0) (by simp);have k1:=hf (25,3) (by simp);rw[z24] at k0;rw[z25] at k1;obtain ⟨f,e0,hff⟩:=ty24 _ k0;simp at e0;obtain ⟨rfl,rfl,rfl⟩:=e0;cases n with
  | zero=>cases k1
  | succ n=>
   obtain ⟨xs,e1,h2',h3⟩:=pL u25 k1;obtain ⟨m,hm,hfit⟩:=vO encV fitV xs fun x hx=>by
    obtain ⟨c',rfl,hc⟩:=h3 x hx;obtain ⟨v,rfl,hvv⟩:=yJN _ hc;exact ⟨v,by rw[nH g102,zC],hvv⟩
   subst hm;rw[z102] at e1;simp at e1;subst e1;refine ⟨⟨f,m⟩,by rw[nH g27];rfl,hff,by simpa using h2',hfit⟩
theorem four {cs:List AV} (h:cs.length=4):∃a b c d,cs= [a,b,c,d]:=by
 match cs,h with
 | [a,b,c,d],_=>exact ⟨a,b,c,d,rfl⟩
theorem zQY {P:Program} {t:TypeId} {n:Nat} {cs:List AV} (hu:P.underlying t=some .bool) (h:tyOk P n t cs):∃b,cs= [.bool b]:=by
 cases n with
 | zero=>cases h
 | succ n=>simpa only[tyOk,hu] using h
theorem u4:Pg.underlying 4=some .bool:=by kernel_rfl
theorem u43:Pg.underlying 43=some (.slice 45):=by kernel_rfl
theorem u28:Pg.underlying 28=some (.slice 71):=by kernel_rfl
theorem s45:sE Pg 45=true:=by kernel_rfl
theorem s71:sE Pg 71=true:=by kernel_rfl
theorem f45:sI Pg 45= [(3,0),(3,1),(3,2),(43,3)]:=by kernel_rfl
theorem f71:sI Pg 71= [(4,0),(45,1)]:=by kernel_rfl
theorem z45:Pg.cellsOf 45=4:=by kernel_rfl
theorem z71:Pg.cellsOf 71=5:=by kernel_rfl
theorem z43:Pg.cellsOf 43=1:=by kernel_rfl
theorem z4:Pg.cellsOf 4=1:=by kernel_rfl
theorem g45:tO Pg 45=true:=by kernel_rfl
theorem g71:tO Pg 71=true:=by kernel_rfl
theorem g28:tO Pg 28=false:=by kernel_rfl
theorem zCQ:∀{l:List Fm},(∀a∈l,fitM a)->iC l
 | [],_=>by rw[iC];trivial
 | a::l,h=>by rw[iC];exact ⟨h a (by simp),zCQ fun b hb=>h b (by simp[hb])⟩
theorem ty45:∀(n:Nat) {cs:List AV},tyOk Pg n 45 cs->∃f:Fm,cs= [.int .i64 f.o,.int .i64 f.n,.int .i64 f.m,.sl 4 (f.ar.map encM) .no]/\fitM f:=by
 intro n
 induction n using Nat.strongRecOn with
 | ind n ih=>
  intro cs h;cases n with
  | zero=>cases h
  | succ n=>
   obtain ⟨hl,hf⟩:=tF s45 h;rw[f45] at hf;rw[z45] at hl;obtain ⟨a,b,c,d,rfl⟩:=four hl;have k0:=hf (3,0) (by simp);have k1:=hf (3,1) (by simp);have k2:=hf (3,2) (by simp);have k3:=hf (43,3) (by simp);rw[z3] at k0 k1 k2;rw[z43] at k3;obtain ⟨i,e0,_⟩:=lH u3 k0;obtain ⟨j,e1,_⟩:=lH u3 k1;obtain ⟨l,e2,_⟩:=lH u3 k2;simp at e0 e1 e2;subst e0;subst e1;subst e2;cases n with
   | zero=>cases k3
   | succ n=>
    obtain ⟨xs,e3,h2,h3⟩:=pL u43 k3;obtain ⟨gs,hgs,hfit⟩:=vO encM fitM xs fun x hx=>by
     obtain ⟨c',rfl,hc⟩:=h3 x hx;obtain ⟨f,rfl,hff⟩:=ih n (by omega) hc;exact ⟨f,by rw[nH g45,zA],hff⟩
    subst hgs;rw[z45] at e3;simp at e3;subst e3;refine ⟨.mk i j l gs,rfl,?_⟩;rw[fitM];exact ⟨by simpa using h2,zCQ hfit⟩
theorem ty71 {n:Nat} {cs:List AV} (h:tyOk Pg n 71 cs):∃x:Eqn,mkV Pg 71 cs=encE x/\fitM x.body:=by
 cases n with
 | zero=>cases h
 | succ n=>
  obtain ⟨hl,hf⟩:=tF s71 h;rw[f71] at hf;rw[z71] at hl;obtain ⟨a,b,c,d,e,rfl⟩:∃a b c d e,cs= [a,b,c,d,e]:=by
   match cs,hl with
   | [a,b,c,d,e],_=>exact ⟨a,b,c,d,e,rfl⟩
  have k0:=hf (4,0) (by simp);have k1:=hf (45,1) (by simp);rw[z4] at k0;rw[z45] at k1;obtain ⟨g,e0⟩:=zQY u4 k0;obtain ⟨f,e1,hff⟩:=ty45 _ k1;simp at e0 e1;obtain ⟨rfl,rfl,rfl,rfl⟩:=e1;subst e0;exact ⟨⟨g,f⟩,by rw[nH g71];rfl,hff⟩
theorem yMR {a:AV} (h:Arg Pg 28 a):∃l:List Eqn,a=encL l/\fitL l:=by
 obtain ⟨fuel,cs,h1,h2,rfl⟩:=h;obtain ⟨xs,n',rfl,h2,h3⟩:=zBD u28 h1;obtain ⟨l,hl,hfit⟩:=vO encE (fun x=>fitM x.body) xs fun x hx=>by
  obtain ⟨c,rfl,hc⟩:=h3 x hx;exact ty71 hc
 subst hl;exact ⟨l,by rw[zIQ g28,z71];rfl,by simpa using h2,hfit⟩
theorem yEI {a:AV} (h:Arg Pg 27 a):∃s:Sy,a=encY s/\fitY s:=by
 obtain ⟨s,rfl,h1,h2,h3⟩:=yMS h;exact ⟨s,rfl,h1,h2,h3⟩
end Tab
end Go.Ab
/- The reference's Same,Copy,Not,SameAll,Formula. -/
namespace Go.Ab.Tab
open Go Go.Ab
end Go.Ab.Tab
/- Dual,the reference's put and Dual. -/
namespace Go.Ab.Tab
open Go Go.Ab
theorem zND {f:Fu} {l:List Eqn} {x:Eqn} (hx:x∈l) (h:2000 < zK x.body):isL f l=false:=by
 cases hl:isL f l with
 | false=>rfl
 | true=>
  unfold isL at hl;simp only[yOB,List.all_eq_true] at hl;have:=hl.1.2 x hx;unfold okE at this;simp only[yOB,yRP] at this;omega
theorem yMQ {f:Fu} {l:List Eqn} (h0:oS f l=0):isF f=true/\isL f l=true:=by
 unfold oS at h0;cases h1:isF f with
 | false=>rw[h1] at h0;simp at h0
 | true=>
  refine ⟨rfl,?_⟩;cases h2:isL f l with
  | false=>rw[h1,h2] at h0;simp at h0
  | true=>rfl
end Go.Ab.Tab
/- Rounds. -/
namespace Go.Ab.Tab
open Go Go.Ab
def noE:Eqn:=⟨false,.mk 0 0 0 []⟩
def topM (gr:Bool):Fm:=if gr then .mk 0 0 0 [] else notM (.mk 0 0 0 [])
def rndM (l:List Eqn):Nat->Nat->Fm
 | 0,i=>topM (l.getD i noE).gr
 | k+1,i=>subM (fun n=>rndM l k n.toNat) (l.getD i noE).body
def inV (l:List Eqn) (n:Int):Prop:=0<=n/\n < l.length
def M3 (l:List Eqn) (dB dL d i g:Nat):List (Nat×Nat×Ent):=[(dB,4,(1,.cells [.ptr d i g 0])),(dL,4,(1,.cells [.sl 5 (l.map encE) .no])),(dB,6,(1,.cells [.fn 95 [.ptr dB 4 1 0,.ptr dL 4 1 0,.ptr dB 6 1 0]]))]
def yEJ (l:List Eqn) (dB dL d i g k:Nat):Prop:=∀(D x:Nat) (left:Int),d < D->dB < D->dL < D->x < l.length->Bg left->
 LB d i g D 95 [.int .i64 x,.int .i64 k,.ptr dB 4 1 0,.ptr dL 4 1 0,.ptr dB 6 1 0] (Bd d i g left::M3 l dB dL d i g) (encM (rndM l k x)) [Bd d i g (cl left (zK (rndM l k x)))]
theorem hM4 {D:Nat} {S:Nat->Nat->Ent} {m1 m2 m3 m4:Nat×Nat×Ent} (h:∀m∈[m1,m2,m3,m4],m.1 < D/\S m.1 m.2.1=m.2.2):(m1.1 < D/\S m1.1 m1.2.1=m1.2.2)/\(m2.1 < D/\S m2.1 m2.2.1=m2.2.2)/\(m3.1 < D/\S m3.1 m3.2.1=m3.2.2)/\(m4.1 < D/\S m4.1 m4.2.1=m4.2.2):=
 ⟨h _ (by simp),h _ (by simp),h _ (by simp),h _ (by simp)⟩
section
variable {l:List Eqn} {dB dL d i g:Nat}
theorem yAL (hB:dB≠d) (hL:dL≠d) {k dK:Nat} (hk:k<=100) (h95:yEJ l dB dL d i g k) {D x:Nat} {left:Int} (hd:d < D) (hdB:dB < D) (hdL:dL < D) (hdK:dK < D) (hx:x < l.length) (hl:Bg left):
  LB d i g D 96 [.int .i64 x,.ptr dB 6 1 0,.ptr dK 6 1 0] (Bd d i g left::(M3 l dB dL d i g++[(dK,6,(1,.cells [.int .i64 (k+1:Nat)]))])) (encM (rndM l k x)) [Bd d i g (cl left (zK (rndM l k x)))]:=by
 have hne2:¬dB=D:=by omega
 have hne3:¬dK=D:=by omega
 have hne:¬d=D:=by omega
 refine wF zF tok rfl (cB d i g) [4] .im rfl (by simp) v7 hd (vK hl _) fun S hS=> ?_;have h0:=(hS (Bd d i g left) (yOI ..)).2;have hS3:∀m∈M3 l dB dL d i g,S m.1 m.2.1=m.2.2:=fun m hm=>(hS m (yOJ _ (yOG.2 (.inl hm)))).2;have hK:=(hS (dK,6,(1,.cells [.int .i64 (k+1:Nat)])) (by simp)).2;have hR:=hS3 (dB,6,(1,.cells [.fn 95 [.ptr dB 4 1 0,.ptr dL 4 1 0,.ptr dB 6 1 0]])) (by simp[M3]);simp only at h0 hK hR;have hw:IntKind.i64.wrap (((k+1:Nat):Int) - 1)=(k:Int):=by rw[show ((k+1:Nat):Int) - 1=(k:Int) by omega];exact vE (by omega) (by omega)
 have hw':IntKind.i64.wrap ((k:Int)+1 - 1)=(k:Int):=by rw[show (k:Int)+1 - 1=(k:Int) by omega];exact vE (by omega) (by omega)
 have hw0:IntKind.i64.wrap (k:Int)=(k:Int):=vE (by omega) (by omega);have h1:=h95 (D+1) x left (by omega) (by omega) (by omega) hx hl;generalize rndM l k x=r at*;unfold c96;simp[hne2,hne3,hK,hR];refine zZ (cap:=[.ptr dB 4 1 0,.ptr dL 4 1 0,.ptr dB 6 1 0]) h1 (by simp) (by simp[hw,hw',hw0]) ?_ (by simp) ?_
 ·refine bdM0 hd ?_ hS3 _ h0;intro m hm;simp only[M3,yOC,yOF,or_false] at hm;rcases hm with rfl | rfl | rfl<;>assumption
 simp[Cnt.e,cB,hne,upds,zA r]
theorem getE {x:Nat} (hx:x < l.length):l.getD x noE=l[x]:=by simp[List.getElem?_eq_getElem hx]
theorem yJP (hB:dB≠d) (hL:dL≠d) (hsz:∀e∈l,zK e.body<=2^30) (hv:∀e∈l,uK (inV l) e.body):∀k,k<=100->yEJ l dB dL d i g k:=by
 intro k
 induction k with
 | zero=>
  intro _ D x left hd hdB hdL hx hl;have hne:¬d=D:=by omega
  have hne2:¬dB=D:=by omega
  have hne3:¬dL=D:=by omega
  refine wF zF tok rfl (cB d i g) [7] .im rfl (by simp) v7 hd (vK hl _) fun S hS=> ?_;have h0:=(hS (Bd d i g left) (yOI ..)).2;have hS3:∀m∈M3 l dB dL d i g,S m.1 m.2.1=m.2.2:=fun m hm=>(hS m (yOJ _ hm)).2;have hb:=hS3 (dB,4,(1,.cells [.ptr d i g 0])) (by simp[M3]);have hll:=hS3 (dL,4,(1,.cells [.sl 5 (l.map encE) .no])) (by simp[M3]);simp only at h0 hb hll;rw[rndM,getE hx];have h1:=wH (D+1) (d:=d) (i:=i) (g:=g) (by omega) hl 0 [];have h2:=wH (D+1) (d:=d) (i:=i) (g:=g) (by omega) (hl.cl 1) 1 [.mk 0 0 0 []];have hu:∀e,updS S d i e dB 4=S dB 4:=fun e=>by unfold updS;rw[yRN];rintro ⟨e1,_⟩;exact hB e1
  rw[zG] at h1 h2;generalize hge:l[x]=e;unfold c95;cases hgr:e.gr with
  | true=>
   have e1:topM true= .mk 0 0 0 []:=rfl;rw[e1,zG];simp[hne2,hne3,hb,hll,hx,hge,encE,hgr];refine zR h1 (by simp) (bdN0 hd _ h0) (by simp) ?_;simp[Cnt.e,cB,hne,upds,zK,zO]
  | false=>
   have e1:topM false= .mk 1 0 0 [.mk 0 0 0 []]:=rfl;rw[e1,zG];simp[hne2,hne3,hb,hll,hx,hge,encE,hgr];refine zM h1 (by simp) (bdN0 hd _ h0) (by simp) ?_;simp[hne,hne2,hu,hb];refine zM h2 (by simp[zG]) (bdN hd _) (by simp) ?_;have e2:zK (.mk 1 0 0 [.mk 0 0 0 []])=2:=by simp[zK,zO]
   simp[Cnt.e,cB,hne,upds,e2,r7];exact .inl fun e=>hB e.symm
 | succ k ih=>
  intro hk D x left hd hdB hdL hx hl;have h95:=ih (by omega);have hne:¬d=D:=by omega
  have hne':¬D=d:=by omega
  have hne2:¬dB=D:=by omega
  have hne3:¬dL=D:=by omega
  have hcost:jJ (fun n=>zK (rndM l k n.toNat)) l[x].body=zK (rndM l (k+1) x):=by
   rw[rndM,getE hx];exact hJ (P:=inV l) (φ:=fun n=>rndM l k n.toNat) (fun _ _=>rfl) _ (hv _ (yOD hx))
  have hvc:VarC d i g 96 [.ptr dB 6 1 0,.ptr D 6 1 0] (M3 l dB dL d i g++[(D,6,(1,.cells [.int .i64 (k+1:Nat)]))]) (fun n=>rndM l k n.toNat) (fun n=>zK (rndM l k n.toNat)) (inV l):=by
   refine ⟨by decide,rfl,fun D' n left' hd' hM' hn hl'=> ?_⟩;obtain ⟨y,rfl⟩:∃y:Nat,n=y:=⟨n.toNat,by have:=hn.1;omega⟩;exact yAL hB hL (by omega) h95 hd' (hM' (dB,4,(1,.cells [.ptr d i g 0])) (by simp[M3])) (hM' (dL,4,(1,.cells [.sl 5 (l.map encE) .no])) (by simp[M3])) (hM' (D,6,(1,.cells [.int .i64 (k+1:Nat)])) (by simp)) (by have:=hn.2;omega) hl'
  refine wF zF tok rfl (cB d i g) [7] .im rfl (by simp) v7 hd (vK hl _) fun S hS=> ?_;have h0:=(hS (Bd d i g left) (yOI ..)).2;have hS3:∀m∈M3 l dB dL d i g,S m.1 m.2.1=m.2.2:=fun m hm=>(hS m (yOJ _ hm)).2;have hb:=hS3 (dB,4,(1,.cells [.ptr d i g 0])) (by simp[M3]);have hll:=hS3 (dL,4,(1,.cells [.sl 5 (l.map encE) .no])) (by simp[M3]);simp only at h0 hb hll;have hdis:∀m∈M3 l dB dL d i g++[(D,6,(1,Ob.cells [.int .i64 (k+1:Nat)]))],¬(m.1=d/\m.2.1=i):=by
   intro m hm;simp only[M3,yOG,yOC,yOF,or_false] at hm;rcases hm with (rfl | rfl | rfl) | rfl
   ·exact fun e=>hB e.1
   ·exact fun e=>hL e.1
   ·exact fun e=>hB e.1
   ·exact fun e=>hne' e.1
  have h89:=zPG hvc hdis l[x].body (hsz _ (yOD hx)) (hv _ (yOD hx)) (D+1) left (by omega) (by
   intro m hm;simp only[M3,yOG,yOC,yOF,or_false] at hm;rcases hm with (rfl | rfl | rfl) | rfl<;>simp only<;>omega) hl
  rw[hcost] at h89;have e1:subM (fun n=>rndM l k n.toNat) l[x].body=rndM l (k+1) x:=by rw[rndM,getE hx]
  rw[e1] at h89;generalize rndM l (k+1) x=r at*;have hkp:(0:Int) < ((k+1:Nat):Int):=by omega
  have hkp':(0:Int) < (k:Int)+1:=by omega
  generalize hge:l[x]=e at*;unfold c95;simp[hne2,hne3,hb,hll,hx,hge,encE,hkp'];refine zM h89 (by simp[zA e.body]) ?_ (by simp) ?_
  ·intro m hm;rcases yOC.1 hm with rfl | hm
   ·exact bdN0 hd _ h0 _ (by simp)
   ·rcases yOG.1 hm with hm | hm
    ·have h1:m.1 < D:=by
      simp only[M3,yOC,yOF,or_false] at hm;rcases hm with rfl | rfl | rfl<;>assumption
     refine ⟨Nat.le_of_lt h1,fun e=>absurd e (Nat.ne_of_lt h1),?_⟩;rw[yD,yRN (Nat.ne_of_lt h1)];exact hS3 m hm
    ·rw[yOK] at hm;subst hm;simp
  simp[Cnt.e,cB,hne,hne',upds,zA r]
theorem yAM {gx k:Nat} (hL:dL < d) (hk:k<=100) (hsz:∀e∈l,zK e.body<=2^30) (hv:∀e∈l,uK (inV l) e.body) {D x:Nat} {left:Int} (hd:d < D) (hx:x < l.length) (hl:Bg left):
  LB d i g D 94 [.ptr d i g 0,.ptr dL 4 1 0,.ptr dL 10 gx 0,.ptr dL 5 1 0] (Bd d i g left::[(dL,4,(1,.cells [.sl 5 (l.map encE) .no])),(dL,10,(gx,.cells [.int .i64 x])),(dL,5,(1,.cells [.int .i64 k]))]) (encM (rndM l k x)) [Bd d i g (cl left (zK (rndM l k x)))]:=by
 have hne:¬d=D:=by omega
 have hne':¬D=d:=by omega
 have hne2:¬dL=D:=by omega
 refine wF zF tok rfl (cB d i g) [5,6] .im rfl (by simp) v7 hd (vK hl _) fun S hS=> ?_;obtain ⟨⟨_,h0⟩,⟨_,h4⟩,⟨_,h10⟩,⟨_,h5⟩⟩:=hM4 hS;simp only at h0 h4 h10 h5;have h1:=yJP (l:=l) (dB:=D) (dL:=dL) (d:=d) (i:=i) (g:=g) hne' (by omega) hsz hv k hk (D+1) x left (by omega) (by omega) (by omega) hx hl;generalize rndM l k x=r at*;have hle':dL<=D:=by omega
 unfold c94;simp[hne2,h4,h10,h5,hle'];refine zZ (cap:=[.ptr D 4 1 0,.ptr dL 4 1 0,.ptr D 6 1 0]) h1 (by simp) (by simp) ?_ (by simp) ?_
 ·intro m hm;rcases yOC.1 hm with rfl | hm
  ·exact bdN0 hd _ h0 _ (by simp)
  ·simp only[M3,yOC,yOF,or_false] at hm;rcases hm with rfl | rfl | rfl
   ·simp
   ·refine ⟨by simp only;omega,fun e=>absurd e hne2,?_⟩;rw[yD,yRN hne2];exact h4
   ·simp
 simp[Cnt.e,cB,hne,hne',upds,zA r]
end
def rndR (f:Fu) (l:List Eqn) (k:Nat):AV:=if (yOE l.length).all (fun i=>isFm f (rndM l k i)) then .tup [.sl 4 ((yOE l.length).map fun i=>encM (rndM l k i)) .no,.int .i64 0] else .tup [.sl 4 [] .no,.int .i64 2]
theorem l39r (D:Nat) (f:Fu) (hf:zH f=true) (l:List Eqn) (hl:l.length<=1000) (hsz:∀e∈l,zK e.body<=2^30) (hv:∀e∈l,uK (inV l) e.body) (k:Nat) (hk:k<=100) (S:Nat->Nat->Ent):∀(j i:Nat) (acc:List AV) (τ ω),i+j=l.length->acc=(yOE i).map (fun i=>encM (rndM l k i))->(yOE i).all (fun i=>isFm f (rndM l k i))=true->
  τ 3= .ptr D 3 1 0->τ 4= .ptr D 4 1 0->τ 5= .ptr D 5 1 0->τ 9= .sl 4 acc .tip->τ 26= .int .i64 l.length->τ 27= .int .i64 i->ω 3=(1,.cells (sT f))->ω 4=(1,.cells [.sl 5 (l.map encE) .no])->ω 5=(1,.cells [.int .i64 k])->
  Rd (Loc Pg Gl) .im (RetS [.tmp 6,.tmp 7] (rndR f l k) D S []) [.lp c39_l0,.blk 0,.c zKN] (stF 49 D τ ω S):=by
 intro j
 induction j with
 | zero=>
  intro i acc τ ω hi ha hall t3 t4 t5 t9 t26 t27 w3 w4 w5;refine zN c39_l0.eq_1 ?_;obtain rfl:i=l.length:=by omega
  unfold rndR;rw[yRO hall,<-ha];simp[t9,t26,t27,zKN,upds]
 | succ j ih=>
  intro i acc τ ω hi ha hall t3 t4 t5 t9 t26 t27 w3 w4 w5;refine zN c39_l0.eq_1 ?_;have hlt:i < l.length:=by omega
  have hwr:IntKind.i64.wrap ((i:Int)+1)=((i+1:Nat):Int):=by rw[<-zL (n:=i+1) (by omega)];rfl
  have la:acc.length=i:=by rw[ha];simp
  have hle:(i+1)*48<=1099511627776:=by omega
  have h94:=yAM (l:=l) (d:=D+1) (i:=7) (g:=1) (dL:=D) (gx:=(ω 10).1+1) (k:=k) (D:=D+1+1) (x:=i) (left:=2000) (by omega) hk hsz hv (by omega) hlt (by unfold Bg;omega);have h74:=zPK (D:=D+1) (F:=94) (caps:=[.ptr D 4 1 0,.ptr D 10 ((ω 10).1+1) 0,.ptr D 5 1 0]) (by decide) rfl (by simp) h94;have h77:=zPJ (D+1) f hf (rndM l k i);have hna:isFm f (rndM l k i)=false->rndR f l k= .tup [.sl 4 [] .no,.int .i64 2]:=fun h=>by
   unfold rndR;rw[yRN];rw[Bool.not_eq_true,List.all_eq_false];exact ⟨i,List.mem_range.2 hlt,by simp[h]⟩
  have hta:(yOE (i+1)).map (fun i=>encM (rndM l k i))=acc++[encM (rndM l k i)]:=by rw[yOL,List.map_append,<-ha];rfl
  have htall:isFm f (rndM l k i)=true->(yOE (i+1)).all (fun i=>isFm f (rndM l k i))=true:=fun h=>by rw[yOL,List.all_append,hall];simp[h]
  generalize hR:rndM l k i=R at*;unfold zDJ at h74;simp only[sT] at w3;simp[t3,t4,t5,t9,t26,t27,w3,w4,w5,hlt];by_cases hc:zK R<=2000
  ·rw[yRO hc,zA] at h74;refine zR h74 (by simp) (by simp[w4,w5]) (by simp) ?_;simp[t3,w3];refine zE h77 (by simp[zB f,zA R]) ?_;cases hx:isFm f R with
   | false=>
    rw[hna hx];simp[upds]
   | true=>
    simp[t9,t27,la,hle,hwr];refine ih (i+1) _ _ _ (by omega) hta.symm (htall hx) ?_ ?_ ?_ ?_ ?_ ?_ ?_ ?_ ?_;all_goals simp[t3,t4,t5,t26,w3,w4,w5,sT,zA R]
  ·rw[yRN hc,zG] at h74;rw[hna (zNE (by omega))];refine zR h74 (by simp) (by simp[w4,w5]) (by simp) ?_;simp[upds]
def rndA (f:Fu) (l:List Eqn) (k:Int):AV:=if oS f l=0 then (if k < 0\/100 < k then .tup [.sl 4 [] .no,.int .i64 1] else rndR f l k.toNat) else .tup [.sl 4 [] .no,.int .i64 (oS f l)]
theorem yBE (D:Nat) (f:Fu) (hf:fitF f) (l:List Eqn) (hl:fitL l) (k:Int):Go.Ab.Loc Pg Gl D 39 [encF f,encL l,.int .i64 k] [] (rndA f l k) []:=by
 refine fD zF tok rfl rfl fun S hS=> ?_;have h87:=zPH (D+1) f hf l hl;unfold rndA;by_cases h0:oS f l=0
 ·rw[yRO h0];rw[h0] at h87;obtain ⟨g1,g2⟩:=yMQ h0;obtain ⟨l1,l2,hq⟩:=zCD g2;have hsz:∀x∈l,zK x.body<=2^30:=fun x hx=>by
   by_cases h:zK x.body<=2000
   ·omega
   ·rw[zND (f:=f) hx (by omega)] at g2;cases g2
  have hv:∀e∈l,uK (inV l) e.body:=fun e he=>zBV f l.length e.body _ _ (hq e he);by_cases hk:k < 0\/100 < k
  ·rw[yRO hk];unfold c39;simp[zB f,encL] at h87|-;refine zE h87 (by simp[zB f]) ?_;by_cases hk0:k < 0
   ·simp[hk0,upds]
   ·have hk1:100 < k:=by omega
    simp[hk0,hk1,upds]
  ·rw[yRN hk];obtain ⟨n,rfl⟩:∃n:Nat,k=n:=⟨k.toNat,by omega⟩;have hk0:¬(n:Int) < 0:=by omega
   have hk1:¬(100:Int) < n:=by omega
   rw[Int.toNat_natCast];unfold c39;simp[zB f,encL] at h87|-;refine zE h87 (by simp[zB f]) ?_;simp[hk0,hk1];refine l39r D f (wV g1) l (by omega) hsz hv n (by omega) S l.length 0 [] _ _ (by simp) (by simp) (by simp) ?_ ?_ ?_ ?_ ?_ ?_ ?_ ?_ ?_;all_goals simp[sT]
 ·rw[yRN h0];have hd:decide (oS f l=0)=false:=decide_eq_false h0;unfold c39;simp[zB f,encL] at h87|-;refine zE h87 (by simp[zB f]) ?_;simp[hd,upds]
end Go.Ab.Tab
/- Plain law of rounds: rounds reach the solution. -/
namespace Go.Ab.Tab
open Go Go.Ab
theorem zHR {f:Fu} {nx:List Va} (hf:zH f=true) (hnx:∀v∈nx,valN nx.length v f=true) {vars:Int}:∀(l:List Eqn) (k:Nat) (e:Nat->Nat),eqOk f vars l->yR nx e->∀(j:Nat) (h:j < l.length),bodE nx l[j] (sol nx l k e)=sol nx l k e (k+j)
 | [],_,_,_,_,j,h=>by simp at h
 | x::l,k,e,hl,he,j,h=>by
  obtain ⟨s1,s2,_⟩:=uG hf hnx hl he (k:=k);rcases j with _ | j
  ·rw[wC];have:sol nx l (k+1) (updE e k (solX nx x l k e)) (k+0)=solX nx x l k e:=by rw[<-wC];exact iF nx x l k e
   rw[this];exact s2
  ·rw[wC];have:=zHR hf hnx l (k+1) (updE e k (solX nx x l k e)) (fun y hy=>hl y (by simp[hy])) (yZ nx he s1) j (by simpa using h);rw[show k+(j+1)=k+1+j by omega];exact this
theorem zUR {f:Fu} {nx:List Va} {vars:Int} {φ:Int->Fm} {e e':List Nat} (hφ:∀n:Int,0<=n->n < vars->evS nx e' (φ n)=e.getD n.toNat 0):∀a:Fm,
  (∀odd,valM f vars none odd a=true->evS nx e' (subM φ a)=evS nx e a)/\(∀g odd,valM f vars (some g) odd a=true->prB nx e' (subM φ a)=prB nx e a):=by
 refine Fm.ind' fun o n m ar ih=> ?_;have hS:∀odd,y6 f vars none odd ar=true->evSs nx e' (sU φ ar)=evSs nx e ar:=by
  intro odd h;have:∀l:List Fm,(∀b∈l,b∈ar)->y6 f vars none odd l=true->evSs nx e' (sU φ l)=evSs nx e l:=by
   intro l
   induction l with
   | nil=>intro _ _;rw[sU,evSs,evSs]
   | cons b l ihl=>
    intro hm h;rw[y6,yOB] at h;rw[sU,yP,yP,(ih b (hm b (by simp))).1 odd h.1,ihl (fun c hc=>hm c (by simp[hc])) h.2]
  exact this ar (fun _ h=>h) h
 have hP:∀g odd,y6 f vars (some g) odd ar=true->prBs nx e' (sU φ ar)=prBs nx e ar:=by
  intro g odd h;have:∀l:List Fm,(∀b∈l,b∈ar)->y6 f vars (some g) odd l=true->prBs nx e' (sU φ l)=prBs nx e l:=by
   intro l
   induction l with
   | nil=>intro _ _;rw[sU,prBs,prBs]
   | cons b l ihl=>
    intro hm h;rw[y6,yOB] at h;rw[sU,yL,yL,(ih b (hm b (by simp))).2 g odd h.1,ihl (fun c hc=>hm c (by simp[hc])) h.2]
  exact this ar (fun _ h=>h) h
 constructor
 ·intro odd h;rw[subM];by_cases o14:o=14
  ·rw[yRO o14];subst o14;rw[xX _ _ _ _ _ _ _ _ (by rfl)] at h;simp at h;rw[hφ n h.1.1.2 h.1.2,xF,yRN (by omega),yRO rfl]
  rw[yRN o14,xF,xF];by_cases o0:o=0
  ·rw[yRO o0,yRO o0]
  rw[yRN o0,yRN o0,yRN o14,yRN o14];by_cases o1:o=1
  ·rw[y9,yRN o0,yRO o1] at h;simp only[yOB] at h;rw[yRO o1,yRO o1,hS _ h.2]
  rw[yRN o1,yRN o1];by_cases o2:o=2
  ·rw[y9,yRN o0,yRN o1,yRO o2] at h;simp only[yOB] at h;rw[yRO o2,yRO o2,hS _ h.2]
  have hcm:comM o=false:=by simp[comM,o0,o1,o2]
  rw[xX _ _ _ _ _ _ _ _ hcm] at h;simp only at h;rw[yRN o2,yRN o2];by_cases o3:o=3
  ·rw[yRO o3] at h;simp only[yOB] at h;rw[hP _ _ h.2]
  ·rw[yRN o3,yRN o14] at h;cases h
 ·intro g odd h;rw[subM];by_cases o14:o=14
  ·subst o14;rw[sW _ _ _ _ _ _ _ _ (by rfl)] at h;rw[yRN (by omega),yRN (by omega)] at h;have hi:inOk g 14 n m=false:=by simp[inOk]
   rw[hi] at h;simp at h
  rw[yRN o14,xN,xN];by_cases o0:o=0
  ·rw[yRO o0,yRO o0]
  rw[yRN o0,yRN o0];by_cases o5:o=5
  ·rw[yRO o5,yRO o5]
  rw[yRN o5,yRN o5];by_cases o1:o=1
  ·rw[y9,yRN o0,yRO o1] at h;simp only[yOB] at h;rw[hP _ _ h.2];have o4:¬o=4:=by omega
   have o2:¬o=2:=by omega
   rw[yRN o4,yRN o4]
  by_cases o2:o=2
  ·rw[y9,yRN o0,yRN o1,yRO o2] at h;simp only[yOB] at h;rw[hP _ _ h.2];have o4:¬o=4:=by omega
   rw[yRN o4,yRN o4]
  have hcm:comM o=false:=by simp[comM,o0,o1,o2]
  rw[sW _ _ _ _ _ _ _ _ hcm] at h;by_cases o4:o=4
  ·rw[yRO o4] at h;simp only[yOB] at h;rw[yRO o4,yRO o4,hS _ h.2]
  ·rw[yRN o4,yRN o5] at h;simp only[yOB] at h;rw[hP _ _ h.2,yRN o4,yRN o4]
def cntB (g:Bool):Nat->Nat->Nat
 | 0,_=>0
 | n+1,X=>(if X.testBit n != g then 1 else 0)+cntB g n X
theorem zIV {g:Bool} {X Y:Nat} (h:leB g X Y) (i:Nat) (hx:(X.testBit i != g)=true):(Y.testBit i != g)=true:=by
 cases g
 ·have:=h i;simp at hx|-;exact this hx
 ·have:=h i;simp at hx|-;cases hy:Y.testBit i
  ·rfl
  ·rw[this hy] at hx;cases hx
theorem eB {g:Bool} {X Y:Nat} (h:leB g X Y):∀n,cntB g n X<=cntB g n Y
 | 0=>yOH _
 | n+1=>by
  rw[cntB,cntB];have:=eB h n;have:=zIV h n;by_cases hx:(X.testBit n != g)=true
  ·rw[yRO hx,yRO (this hx)];omega
  ·rw[yRN hx];omega
theorem zJW {g:Bool} {X Y:Nat} (h:leB g X Y):∀n,cntB g n Y<=cntB g n X->∀i,i < n->X.testBit i=Y.testBit i
 | 0,_,i,hi=>by omega
 | n+1,he,i,hi=>by
  rw[cntB,cntB] at he;have h1:=eB h n;have h2:=zIV h n;have h3:cntB g n Y<=cntB g n X/\X.testBit n=Y.testBit n:=by
   by_cases hx:(X.testBit n != g)=true
   ·have hy:=h2 hx;rw[yRO hx,yRO hy] at he;refine ⟨by omega,?_⟩;cases g<;>simp at hx hy<;>rw[hx,hy]
   ·by_cases hy:(Y.testBit n != g)=true
    ·rw[yRN hx,yRO hy] at he;omega
    ·rw[yRN hx,yRN hy] at he;refine ⟨by omega,?_⟩;cases g<;>simp at hx hy<;>rw[hx,hy]
  by_cases hin:i=n
  ·subst hin;exact h3.2
  ·exact zJW h n h3.1 i (by omega)
theorem zDF (g:Bool) (X:Nat):∀n,cntB g n X<=n
 | 0=>yOH _
 | n+1=>by rw[cntB];have:=zDF g X n;split<;>omega
theorem zRA {n X Y:Nat} (hX:sub X (allT n)) (hY:sub Y (allT n)) (h:∀i,i < n->X.testBit i=Y.testBit i):X=Y:=by
 apply Nat.eq_of_testBit_eq;intro i;by_cases hi:i < n
 ·exact h i hi
 ·have h1:=hX i;have h2:=hY i;rw[sP] at h1 h2;simp[hi] at h1 h2;rw[h1,h2]
section
variable {f:Fu} {nx:List Va} (hf:zH f=true) (hnx:∀v∈nx,valN nx.length v f=true) {l:List Eqn} {g:Bool} (hg:∀x∈l,x.gr=g) {vars:Int} (hl:eqOk f vars l) {E:Nat->Nat} (hE:yR nx E)
def rK (nx:List Va) (l:List Eqn) (g:Bool) (E:Nat->Nat):Nat->Nat->Nat
 | 0,i=>if i < l.length then wT nx.length g else E i
 | t+1,i=>if h:i < l.length then bodE nx l[i] (rK nx l g E t) else E i
include hE in
theorem e8:∀t,yR nx (rK nx l g E t)
 | 0=>fun i=>by rw[rK];split;exact start_sub _ _;exact hE i
 | t+1=>fun i=>by
  rw[rK];split
  ·exact pF _ (e8 t)
  ·exact hE i
include hf hnx hl hE in
theorem gW:∀t i,leB g (rK nx l g E t i) (rK nx l g E (t+1) i)
 | 0,i=>by
  by_cases h:i < l.length
  ·have e:rK nx l g E 0 i=wT nx.length g:=by rw[rK,yRO h]
   rw[e];exact uB g (e8 hE 1 i)
  ·rw[rK,rK,yRN h,dif_neg h];exact xE ..
 | t+1,i=>by
  by_cases h:i < l.length
  ·rw[rK,rK,dif_pos h,dif_pos h];exact tA hf hnx (hl _ (yOD h)) g (gW t)
  ·rw[rK,rK,dif_neg h,dif_neg h];exact xE ..
theorem zHZ {t i:Nat} (h:¬i < l.length):rK nx l g E t i=E i:=by
 cases t
 ·rw[rK,yRN h]
 ·rw[rK,dif_neg h]
def sumK (n:Nat) (g:Bool) (e:Nat->Nat):Nat->Nat
 | 0=>0
 | N+1=>cntB g n (e N)+sumK n g e N
theorem bC {n:Nat} {e e':Nat->Nat} (h:∀i,leB g (e i) (e' i)):∀N,sumK n g e N<=sumK n g e' N
 | 0=>yOH _
 | N+1=>by rw[sumK,sumK];have:=eB (h N) n;have:=bC (n:=n) h N;omega
theorem zGJ {n:Nat} {e e':Nat->Nat} (h:∀i,leB g (e i) (e' i)) (hs:∀i,sub (e i) (allT n)) (hs':∀i,sub (e' i) (allT n)):∀N,sumK n g e' N<=sumK n g e N->∀i,i < N->e i=e' i
 | 0,_,i,hi=>by omega
 | N+1,he,i,hi=>by
  rw[sumK,sumK] at he;have h1:=eB (h N) n;have h2:=bC (n:=n) h N;by_cases hin:i=N
  ·subst hin;exact zRA (hs i) (hs' i) (zJW (h i) n (by omega))
  ·exact zGJ h hs hs' N (by omega) i (by omega)
theorem zBH (n:Nat) (e:Nat->Nat):∀N,sumK n g e N<=n*N
 | 0=>Nat.zero_le _
 | N+1=>by rw[sumK,Nat.mul_succ];have:=zDF g (e N) n;have:=zBH n e N;omega
theorem bV {t:Nat} (h:rK nx l g E (t+1)=rK nx l g E t):∀d,rK nx l g E (t+d)=rK nx l g E t
 | 0=>rfl
 | d+1=>by
  have ih:=bV h d;rw[<-Nat.add_assoc]
  funext i
  rw[rK,ih,<-h]
  conv=>rhs;rw[rK]
  split
  ·rw[h]
  ·rfl
include hf hnx hl hE in
theorem yBR:rK nx l g E (nx.length*l.length+1)=rK nx l g E (nx.length*l.length):=by
 have key:∃t,t<=nx.length*l.length/\rK nx l g E (t+1)=rK nx l g E t:=by
  apply Classical.byContradiction;intro hno;have hgrow:∀t,t<=nx.length*l.length+1->t<=sumK nx.length g (rK nx l g E t) l.length:=by
   intro t
   induction t with
   | zero=>intro _;exact Nat.zero_le _
   | succ t ih=>
    intro ht;have h1:=ih (by omega);have h2:=bC (n:=nx.length) (gW hf hnx hl hE (g:=g) t) l.length;have h3:¬sumK nx.length g (rK nx l g E (t+1)) l.length<=sumK nx.length g (rK nx l g E t) l.length:=fun h=>by
     refine hno ⟨t,by omega,?_⟩
     funext i
     by_cases hi:i < l.length
     ·exact (zGJ (gW hf hnx hl hE (g:=g) t) (e8 hE t) (e8 hE (t+1)) l.length h i hi).symm
     ·rw[zHZ hi,zHZ hi]
    omega
  have h1:=hgrow _ (yOH _);have h2:=zBH (g:=g) nx.length (rK nx l g E (nx.length*l.length+1)) l.length;omega
 obtain ⟨t,ht,he⟩:=key;obtain ⟨d,hd⟩:∃d,nx.length*l.length=t+d:=⟨_,(Nat.add_sub_of_le ht).symm⟩;rw[hd,Nat.add_assoc,bV he,bV he]
include hf hnx in
theorem bN:∀(l:List Eqn) (k:Nat) (e Y:Nat->Nat),eqOk f vars l->(∀x∈l,x.gr=g)->yR nx e->yR nx Y->(∀i,i < k\/k+l.length<=i->leB g (e i) (Y i))->(∀j (h:j < l.length),leB g (bodE nx l[j] Y) (Y (k+j)))->∀i,leB g (sol nx l k e i) (Y i)
 | [],k,e,Y,_,_,_,_,h,_,i=>h i (by simp;omega)
 | x::l,k,e,Y,hl,hg,he,hY,h,hp,i=>by
  obtain ⟨s1,_,s3⟩:=uG hf hnx hl he (k:=k);have hgx:x.gr=g:=hg x (by simp);have hl':eqOk f vars l:=fun y hy=>hl y (by simp[hy]);have hg':∀y∈l,y.gr=g:=fun y hy=>hg y (by simp[hy]);have hpl:∀j (h:j < l.length),leB g (bodE nx l[j] Y) (Y (k+1+j)):=fun j hj=>by
   have:=hp (j+1) (by simp;omega);rw[show k+(j+1)=k+1+j by omega] at this;simpa using this
  have hout:∀X,leB g X (Y k)->∀i,i < k+1\/k+1+l.length<=i->leB g (updE e k X i) (Y i):=fun X hX i hi=>by
   by_cases hk:i=k
   ·rw[hk,yK];exact hX
   ·rw[xH hk];exact h i (by simp;omega)
  have hXk:leB g (solX nx x l k e) (Y k):=by
   have:=s3 (Y k) (hY k) (by
    rw[hgx];have h1:=bN l (k+1) (updE e k (Y k)) Y hl' hg' (yZ nx he (hY k)) hY (hout _ (xE ..)) hpl;have h2:=hp 0 (by simp);exact l5 (tA hf hnx (hl x (by simp)) g h1) h2)
   rw[hgx] at this;exact this
  rw[wC];exact bN l (k+1) _ Y hl' hg' (yZ nx he s1) hY (hout _ hXk) hpl i
include hf hnx hg hl hE in
theorem zEF (i:Nat) (hi:i < l.length):rK nx l g E (nx.length*l.length) i=sol nx l 0 E i:=by
 have hfix:=yBR hf hnx hl hE (g:=g);have hZ:=e8 (l:=l) (g:=g) hE (nx.length*l.length);have hso:=(uC hf hnx l 0 hl).1 E hE;have h1:∀i,leB g (sol nx l 0 E i) (rK nx l g E (nx.length*l.length) i):=by
  refine bN hf hnx l 0 E _ hl hg hE hZ (fun i hi=> ?_) (fun j hj=> ?_)
  ·rw[zHZ (by omega)];exact xE ..
  ·rw[Nat.zero_add]
   conv=>arg 3;rw[<-hfix,rK,dif_pos hj]
   exact xE ..
 have h2:∀t i,leB g (rK nx l g E t i) (sol nx l 0 E i):=by
  intro t
  induction t with
  | zero=>
   intro i;rw[rK];split
   ·exact uB g (hso i)
   ·rw[iE nx l 0 E i (by omega)];exact xE ..
  | succ t ih=>
   intro i;rw[rK];split
   ·rename_i h;have:=zHR hf hnx l 0 E hl hE i h;rw[Nat.zero_add] at this;rw[<-this];exact tA hf hnx (hl _ (yOD h)) g ih
   ·rw[iE nx l 0 E i (by omega)];exact xE ..
 exact mF (h2 _ i) (h1 i)
end
theorem zHX {f:Fu} {nx:List Va} {l:List Eqn} {g:Bool} (hg:∀x∈l,x.gr=g) (h4:l.length<=4) (hl:eqOk f l.length l) (E:Nat->Nat) (e':List Nat):∀t i,i < l.length->evS nx e' (rndM l t i)=rK nx l g E t i:=by
 intro t
 induction t with
 | zero=>
  intro i hi;rw[rndM,getE hi,hg _ (yOD hi),rK,yRO hi];unfold topM wT notM;cases g
  ·rw[yRN (by simp),yRN (by simp),xF,yRN (by omega),yRN (by omega),yRO rfl,yP,xF,yRO rfl];simp
  ·rw[yRO rfl,yRO rfl,xF,yRO rfl]
 | succ t ih=>
  intro i hi;rw[rndM,getE hi,rK,dif_pos hi];unfold bodE;refine (zUR (f:=f) (vars:=l.length) (e:=e4 (rK nx l g E t)) (fun n h0 h1=> ?_) l[i].body).1 false (hl _ (yOD hi));rw[ih _ (by omega),zDC,yRO (by omega)]
end Go.Ab.Tab
