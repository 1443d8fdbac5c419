/- awake: calls that do not depend on the input. -/
import Derived.Test.YtkjbakmlonpdjaaGreatDoorReachH
import Derived.Test.YtkjbakmlonpdjaaGreatDoorReachB4
set_option linter.unusedVariables false
set_option linter.unusedSimpArgs false
set_option maxRecDepth 100000
namespace Go.Ab.Tab
open Go Go.Ab
def chF:Fu:= .mk 2 0 [.mk 1 2 [],.mk 7 0 [.mk 0 0 []]]
def chM:List Va:=[.mk 0 [.mk 0 [] [],.mk 0 [.mk 1 [] [],.mk 2 [] []] [1,2]] [],.mk 0 [.mk 1 [] [],.mk 0 [.mk 1 [] []] [1]] [],.mk 0 [.mk 1 [] [],.mk 0 [.mk 2 [] []] [1]] []]
def chS:Sy:=⟨chF,chM⟩
def chA:Fm:= .mk 3 0 0 [.mk 6 0 0 [.mk 5 1 0 []]]
theorem yCB (D:Nat):Go.Ab.Loc Pg Gl D 44 [] [] (.tup [encY chS,encM chA]) []:=by
 refine zU zI tok rfl rfl fun S=> ?_;have h1:=fL (D+1) 1 2 [];have h2:=fL (D+1) 0 0 [];have h3:=fL (D+1) 7 0 [.mk 0 0 []];have h4:=fL (D+1) 2 0 [.mk 1 2 [],.mk 7 0 [.mk 0 0 []]];have h5:=zHJ (D+1) 5 1 0 [];have h6:=zHJ (D+1) 6 0 0 [.mk 5 1 0 []];have h7:=zHJ (D+1) 3 0 0 [.mk 6 0 0 [.mk 5 1 0 []]];simp[zS,zL] at h1 h2 h3 h4 h5 h6 h7;simp[encY,chS,chF,chM,chA,zS,zR,zL,Fu.k,Fu.n,Fu.gs];unfold c44;simp;refine zE h1 (by simp) ?_;refine zE h2 (by simp) ?_;simp;refine zE h3 (by simp) ?_;simp;refine zE h4 (by simp) ?_;simp;refine zX h5 (by simp) ?_;simp;refine zX h6 (by simp) ?_;simp;refine zX h7 (by simp) ?_;simp
def xA:Eqn:=⟨true,alwM chA chF⟩
def xP:Eqn:=⟨false,posM chA chF⟩
theorem zAQ:pL chF chA=0/\isL chF [xA]=true/\isL chF [xP]=true/\zO (alwM chA chF)<=1000/\zO (posM chA chF)<=1000/\
  uY chS [xA]=0/\uY chS [xP]=0/\oW (solS chS [xA] 0) 3= [1,2]/\oW (solS chS [xP] 0) 3= [0,1,2]/\zJ chM<=100:=by
 refine ⟨by rfl,by rfl,by rfl,by decide,by decide,by rfl,by rfl,by rfl,by rfl,by decide⟩
theorem zDK:fitY chS:=by
 refine ⟨?_,?_,?_⟩
 ·simp[chS,chF,fitF,eP,maxLen]
 ·simp[chS,chM,maxLen]
 ·simp[chS,chM,fitV,iR,maxLen]
theorem zHZ {f:Fu} {x:Eqn} (h:isL f [x]=true):mW f x= .tup [.sl 5 [encE x] .no,.int .i64 0]:=by unfold mW;rw[if_pos h]
theorem lJ {x:Eqn} (h:zO x.body<=maxLen):fitL [x]:=⟨by simp[maxLen],fun y hy=>by rw[List.mem_singleton] at hy;subst hy;exact eO _ h⟩
theorem zHY {x:Eqn} (h0:uY chS [x]=0):solR chS [x]= .tup [.sl 1 [mY 3 (solS chS [x] 0)] .no,.int .i64 0]:=by
 unfold solR;rw[if_pos h0];rfl
theorem yCH (D:Nat):Go.Ab.Loc Pg Gl D 12 [] [] (.bool true) []:=by
 obtain ⟨f1,f4,f5,f6,f7,f8,f9,f10,f11,f12⟩:=zAQ;have n6:zO xA.body<=maxLen:=by unfold maxLen;exact Nat.le_trans f6 (by decide)
 have n7:zO xP.body<=maxLen:=by unfold maxLen;exact Nat.le_trans f7 (by decide)
 have h44:=yCB (D+1);have h20:=zQQ (D+1) chF zDK.1 chA;have h21:=zQP (D+1) chF zDK.1 chA;unfold dM at h20;unfold zNJ at h21;rw[if_pos f1] at h20 h21;have e20:mW chF ⟨true,alwM chA chF⟩= .tup [.sl 5 [encE xA] .no,.int .i64 0]:=zHZ f4;have e21:mW chF ⟨false,posM chA chF⟩= .tup [.sl 5 [encE xP] .no,.int .i64 0]:=zHZ f5;rw[e20] at h20;rw[e21] at h21;have hsh:zH chF=true:=by rfl
 have h36a:=zQN (D+1) chF hsh [xA] (lJ n6);have h36p:=zQN (D+1) chF hsh [xP] (lJ n7);rw[f4] at h36a;rw[f5] at h36p;have h13a:=zCH chS zDK (by show zJ chM<=_;omega) [xA] (lJ n6) (D+1);have h13p:=zCH chS zDK (by show zJ chM<=_;omega) [xP] (lJ n7) (D+1);rw[zHY f8,mY,f10] at h13a;rw[zHY f9,mY,f11] at h13p;have h34:=zSV (D+1) (.mk (-1) 0 []) (by simp[fitF,eP,maxLen]) [] ⟨by simp[maxLen],by simp⟩ (by decide);have e34:zGK (.mk (-1) 0 []) []=10:=by rfl
 rw[e34] at h34;rw[zS] at h34;have eY:encY chS= .agg [.int .i64 2,.int .i64 0,.sl 3 (chF.gs.map encF) .no,.sl 3 (chM.map encV) .no]:=rfl;have eF:encF chF= .agg [.int .i64 2,.int .i64 0,.sl 3 (chF.gs.map encF) .no]:=by rw[zA];rfl
 have eA:encM chA= .agg [.int .i64 3,.int .i64 0,.int .i64 0,.sl 4 (chA.ar.map encM) .no]:=by rw[zB];rfl
 have eLA:encL [xA]= .sl 5 [encE xA] .no:=rfl;have eLP:encL [xP]= .sl 5 [encE xP] .no:=rfl;have eL0:encL []= .sl 5 [] .no:=rfl;rw[eY] at h44 h13a h13p;rw[eA] at h44 h20 h21;rw[eF] at h20 h21 h36a h36p;rw[eLA] at h36a h13a;rw[eLP] at h36p h13p;rw[eL0] at h34;generalize chF.gs.map encF=gF at*;generalize chM.map encV=gM at*;generalize chA.ar.map encM=gA at*;generalize encE xA=EA' at*;generalize encE xP=EP' at*;refine zU zI tok rfl rfl fun S=> ?_;unfold c12;simp;refine zE h44 (by simp) ?_;simp;refine zE h20 (by simp) ?_;simp;refine zE h21 (by simp) ?_;simp;refine zE h36a (by simp) ?_;simp;refine zE h36p (by simp) ?_;simp;refine zE h13a (by simp) ?_;simp;refine zE h13p (by simp) ?_;simp;refine zE h34 (by simp) ?_;simp[encN]
end Go.Ab.Tab
/- Arguments as data. -/
namespace Go.Ab
open Go
section
variable {P:Program} {t:TypeId} {n:Nat} {cs:List AV}
theorem lS {k:IntKind} (hu:P.underlying t=some (.int k)) (h:tyOk P n t cs):∃i,cs= [.int k i]/\(Lit.int k i).wf=true:=by
 cases n with
 | zero=>cases h
 | succ n=>simpa only[tyOk,hu] using h
theorem zMU {e:TypeId} (hu:P.underlying t=some (.slice e)) (h:tyOk P n t cs):∃xs n',cs= [.sl (P.cellsOf e) xs .no]/\xs.length<=maxLen/\∀x∈xs,∃c,x=mkV P e c/\tyOk P n' e c:=by
 cases n with
 | zero=>cases h
 | succ n=>
  simp only[tyOk,hu] at h;obtain ⟨xs,h1,h2,h3⟩:=h;exact ⟨xs,n,h1,h2,h3⟩
def r9 (P:Program) (t:TypeId):List (TypeId×Nat):=match P.underlying t with
 | some (.struct fs)=>fs.toList.map fun f=>(f.type,f.offset)
 | _=>[]
def r7 (P:Program) (t:TypeId):Bool:=match P.underlying t with
 | some (.struct _)=>true
 | _=>false
theorem uC {α β:Type} (f:α->β) (q:α->Prop):∀(l:List β),(∀x∈l,∃a,x=f a/\q a)->∃bs:List α,l=bs.map f/\∀a∈bs,q a
 | [],_=>⟨[],rfl,by simp⟩
 | x::l,h=>by
  obtain ⟨a,h1,h2⟩:=h x (by simp);obtain ⟨bs,h3,h4⟩:=uC f q l fun y hy=>h y (by simp[hy]);exact ⟨a::bs,by simp[h1,h3],fun b hb=>by rcases List.mem_cons.1 hb with rfl | hb;exact h2;exact h4 b hb⟩
theorem zUM (h:rF P t=false) (c:AV):mkV P t [c]=c:=by unfold mkV;rw[h];rfl
theorem nP (h:rF P t=true):mkV P t cs= .agg cs:=by unfold mkV;rw[h];rfl
end
namespace Tab
theorem u3:Pg.underlying 3=some (.int .i64):=by kernel_rfl
theorem u40:Pg.underlying 40=some (.slice 3):=by kernel_rfl
theorem z3:Pg.cellsOf 3=1:=by kernel_rfl
theorem z40:Pg.cellsOf 40=1:=by kernel_rfl
theorem g3:rF Pg 3=false:=by kernel_rfl
theorem ty40 {n:Nat} {cs:List AV} (h:tyOk Pg n 40 cs):∃l:List Int,cs= [encI l]/\l.length<=maxLen:=by
 obtain ⟨xs,n',rfl,h2,h3⟩:=zMU u40 h;obtain ⟨l,rfl,_⟩:=uC (AV.int .i64) (fun _=>True) xs fun x hx=>by
  obtain ⟨c,rfl,hc⟩:=h3 x hx;obtain ⟨i,rfl,_⟩:=lS u3 hc;exact ⟨i,zUM g3 _,trivial⟩
 exact ⟨l,by rw[z3];rfl,by simpa using h2⟩
theorem u22:Pg.underlying 22=some (.slice 24):=by kernel_rfl
theorem u25:Pg.underlying 25=some (.slice 102):=by kernel_rfl
theorem s24:r7 Pg 24=true:=by kernel_rfl
theorem s102:r7 Pg 102=true:=by kernel_rfl
theorem s27:r7 Pg 27=true:=by kernel_rfl
theorem f24:r9 Pg 24= [(3,0),(3,1),(22,2)]:=by kernel_rfl
theorem f102:r9 Pg 102= [(3,0),(25,1),(40,2)]:=by kernel_rfl
theorem f27:r9 Pg 27= [(24,0),(25,3)]:=by kernel_rfl
theorem z24:Pg.cellsOf 24=3:=by kernel_rfl
theorem z102:Pg.cellsOf 102=3:=by kernel_rfl
theorem z27:Pg.cellsOf 27=4:=by kernel_rfl
theorem z22:Pg.cellsOf 22=1:=by kernel_rfl
theorem z25:Pg.cellsOf 25=1:=by kernel_rfl
theorem g24:rF Pg 24=true:=by kernel_rfl
theorem g102:rF Pg 102=true:=by kernel_rfl
theorem g27:rF Pg 27=true:=by kernel_rfl
theorem pX {P:Program} {t e:TypeId} {n:Nat} {cs:List AV} (hu:P.underlying t=some (.slice e)) (h:tyOk P (n+1) t cs):∃xs,cs= [.sl (P.cellsOf e) xs .no]/\xs.length<=maxLen/\∀x∈xs,∃c,x=mkV P e c/\tyOk P n e c:=by
 simp only[tyOk,hu] at h;exact h
theorem rV {P:Program} {t:TypeId} {n:Nat} {cs:List AV} (hs:r7 P t=true) (h:tyOk P (n+1) t cs):cs.length=P.cellsOf t/\∀f∈r9 P t,tyOk P n f.1 ((cs.drop f.2).take (P.cellsOf f.1)):=by
 unfold r7 at hs;unfold r9;cases hu:P.underlying t with
 | none=>rw[hu] at hs;cases hs
 | some d=>
  rw[hu] at hs;cases d with
  | struct fs=>
   simp only[tyOk,hu] at h;refine ⟨h.1,fun f hf=> ?_⟩;obtain ⟨g,hg,rfl⟩:=List.mem_map.1 hf;exact h.2 g hg
  | _=>cases hs
theorem zDM:∀{l:List Fu},(∀a∈l,fitF a)->eP l
 | [],_=>by rw[eP];trivial
 | a::l,h=>by rw[eP];exact ⟨h a (by simp),zDM fun b hb=>h b (by simp[hb])⟩
theorem yAI {cs:List AV} (h:cs.length=3):∃a b c,cs= [a,b,c]:=by
 match cs,h with
 | [a,b,c],_=>exact ⟨a,b,c,rfl⟩
theorem ty24:∀(n:Nat) {cs:List AV},tyOk Pg n 24 cs->∃f:Fu,cs= [.int .i64 f.k,.int .i64 f.n,.sl 3 (f.gs.map encF) .no]/\fitF f:=by
 intro n
 induction n using Nat.strongRecOn with
 | ind n ih=>
  intro cs h;cases n with
  | zero=>cases h
  | succ n=>
   obtain ⟨hl,hf⟩:=rV s24 h;rw[f24] at hf;rw[z24] at hl;obtain ⟨a,b,c,rfl⟩:=yAI hl;have k0:=hf (3,0) (by simp);have k1:=hf (3,1) (by simp);have k2:=hf (22,2) (by simp);rw[z3] at k0 k1;rw[z22] at k2;obtain ⟨i,e0,_⟩:=lS u3 k0;obtain ⟨j,e1,_⟩:=lS u3 k1;simp at e0 e1;subst e0;subst e1;cases n with
   | zero=>cases k2
   | succ n=>
    obtain ⟨xs,e2,h2,h3⟩:=pX u22 k2;obtain ⟨gs,hgs,hfit⟩:=uC encF fitF xs fun x hx=>by
     obtain ⟨c',rfl,hc⟩:=h3 x hx;obtain ⟨f,rfl,hff⟩:=ih n (by omega) hc;exact ⟨f,by rw[nP g24,zA],hff⟩
    subst hgs;rw[z24] at e2;simp at e2;subst e2;refine ⟨.mk i j gs,rfl,?_⟩;rw[fitF];exact ⟨by simpa using h2,zDM hfit⟩
theorem yJZ:∀(n:Nat) {cs:List AV},tyOk Pg n 102 cs->∃v:Va,cs= [.int .i64 v.n,.sl 3 (v.gs.map encV) .no,.sl 1 (v.ws.map (AV.int .i64)) .no]/\fitV v:=by
 intro n
 induction n using Nat.strongRecOn with
 | ind n ih=>
  intro cs h;cases n with
  | zero=>cases h
  | succ n=>
   obtain ⟨hl,hf⟩:=rV s102 h;rw[f102] at hf;rw[z102] at hl;obtain ⟨a,b,c,rfl⟩:=yAI hl;have k0:=hf (3,0) (by simp);have k1:=hf (25,1) (by simp);have k2:=hf (40,2) (by simp);rw[z3] at k0;rw[z25] at k1;rw[z40] at k2;obtain ⟨i,e0,_⟩:=lS u3 k0;obtain ⟨ws,e2,hws⟩:=ty40 k2;simp at e0 e2;subst e0;subst e2;cases n with
   | zero=>cases k1
   | succ n=>
    obtain ⟨xs,e1,h2,h3⟩:=pX u25 k1;obtain ⟨gs,hgs,hfit⟩:=uC encV fitV xs fun x hx=>by
     obtain ⟨c',rfl,hc⟩:=h3 x hx;obtain ⟨f,rfl,hff⟩:=ih n (by omega) hc;exact ⟨f,by rw[nP g102,zC],hff⟩
    subst hgs;rw[z102] at e1;simp at e1;subst e1;refine ⟨.mk i gs ws,rfl,?_⟩;rw[fitV];exact ⟨⟨by simpa using h2,hws⟩,eN hfit⟩
theorem yMW {a:AV} (h:Arg Pg 27 a):∃s:Sy,a=encY s/\fitF s.f/\s.m.length<=maxLen/\∀v∈s.m,fitV v:=by
 obtain ⟨fuel,cs,h1,h2,rfl⟩:=h;cases fuel with
 | zero=>cases h1
 | succ n=>
  obtain ⟨hl,hf⟩:=rV s27 h1;rw[f27] at hf;rw[z27] at hl;obtain ⟨a,b,c,d,rfl⟩:∃a b c d,cs= [a,b,c,d]:=by
   match cs,hl with
   | [a,b,c,d],_=>exact ⟨a,b,c,d,rfl⟩
  have k0:=hf (24,0) (by simp);have k1:=hf (25,3) (by simp);rw[z24] at k0;rw[z25] at k1;obtain ⟨f,e0,hff⟩:=ty24 _ k0;simp at e0;obtain ⟨rfl,rfl,rfl⟩:=e0;cases n with
  | zero=>cases k1
  | succ n=>
   obtain ⟨xs,e1,h2',h3⟩:=pX u25 k1;obtain ⟨m,hm,hfit⟩:=uC encV fitV xs fun x hx=>by
    obtain ⟨c',rfl,hc⟩:=h3 x hx;obtain ⟨v,rfl,hvv⟩:=yJZ _ hc;exact ⟨v,by rw[nP g102,zC],hvv⟩
   subst hm;rw[z102] at e1;simp at e1;subst e1;refine ⟨⟨f,m⟩,by rw[nP g27];rfl,hff,by simpa using h2',hfit⟩
theorem four {cs:List AV} (h:cs.length=4):∃a b c d,cs= [a,b,c,d]:=by
 match cs,h with
 | [a,b,c,d],_=>exact ⟨a,b,c,d,rfl⟩
theorem u4:Pg.underlying 4=some .bool:=by kernel_rfl
theorem u43:Pg.underlying 43=some (.slice 45):=by kernel_rfl
theorem s45:r7 Pg 45=true:=by kernel_rfl
theorem f45:r9 Pg 45= [(3,0),(3,1),(3,2),(43,3)]:=by kernel_rfl
theorem z45:Pg.cellsOf 45=4:=by kernel_rfl
theorem z43:Pg.cellsOf 43=1:=by kernel_rfl
theorem z4:Pg.cellsOf 4=1:=by kernel_rfl
theorem g45:rF Pg 45=true:=by kernel_rfl
theorem zDL:∀{l:List Fm},(∀a∈l,fitM a)->iS l
 | [],_=>by rw[iS];trivial
 | a::l,h=>by rw[iS];exact ⟨h a (by simp),zDL fun b hb=>h b (by simp[hb])⟩
theorem ty45:∀(n:Nat) {cs:List AV},tyOk Pg n 45 cs->∃f:Fm,cs= [.int .i64 f.o,.int .i64 f.n,.int .i64 f.m,.sl 4 (f.ar.map encM) .no]/\fitM f:=by
 intro n
 induction n using Nat.strongRecOn with
 | ind n ih=>
  intro cs h;cases n with
  | zero=>cases h
  | succ n=>
   obtain ⟨hl,hf⟩:=rV s45 h;rw[f45] at hf;rw[z45] at hl;obtain ⟨a,b,c,d,rfl⟩:=four hl;have k0:=hf (3,0) (by simp);have k1:=hf (3,1) (by simp);have k2:=hf (3,2) (by simp);have k3:=hf (43,3) (by simp);rw[z3] at k0 k1 k2;rw[z43] at k3;obtain ⟨i,e0,_⟩:=lS u3 k0;obtain ⟨j,e1,_⟩:=lS u3 k1;obtain ⟨l,e2,_⟩:=lS u3 k2;simp at e0 e1 e2;subst e0;subst e1;subst e2;cases n with
   | zero=>cases k3
   | succ n=>
    obtain ⟨xs,e3,h2,h3⟩:=pX u43 k3;obtain ⟨gs,hgs,hfit⟩:=uC encM fitM xs fun x hx=>by
     obtain ⟨c',rfl,hc⟩:=h3 x hx;obtain ⟨f,rfl,hff⟩:=ih n (by omega) hc;exact ⟨f,by rw[nP g45,zB],hff⟩
    subst hgs;rw[z45] at e3;simp at e3;subst e3;refine ⟨.mk i j l gs,rfl,?_⟩;rw[fitM];exact ⟨by simpa using h2,zDL hfit⟩
theorem yMV {a:AV} (h:Arg Pg 45 a):∃f:Fm,a=encM f/\fitM f:=by
 obtain ⟨fuel,cs,h1,h2,rfl⟩:=h;obtain ⟨f,rfl,hf⟩:=ty45 _ h1;exact ⟨f,by rw[nP g45,zB],hf⟩
theorem yEX {a:AV} (h:Arg Pg 27 a):∃s:Sy,a=encY s/\fitY s:=by
 obtain ⟨s,rfl,h1,h2,h3⟩:=yMW h;exact ⟨s,rfl,h1,h2,h3⟩
end Tab
end Go.Ab
/- The reference's Same,Copy,Not,SameAll,Formula. -/
namespace Go.Ab.Tab
open Go Go.Ab
theorem yCE (D:Nat) (f:Fu) (hf:zH f=true) (a:Fm) (ha:fitM a):Go.Ab.Loc Pg Gl D 19 [encF f,encM a] [] (.bool (isFm f a)) []:=by
 refine zU zI tok rfl rfl fun S=> ?_;have h17:=zHO a ha (D+1) 2000 (by omega);unfold c19;unfold isFm;simp[zA f,zB a];refine zE h17 (by simp[zB a]) ?_;by_cases h:zO a<=2000
 ·have h55:=(zKH f hf 0 a ha).1;have h56:=zQL a ha (by omega) (D+1);simp[h];refine zE (h55 (D+1) false) (by simp[encC,zB a]) ?_;cases hv:valM f 0 none false a with
  | false=>simp
  | true=>
   simp;refine zE h56 (by simp[zB a]) ?_;have e:decide ((wF a:Int)<=100)=decide (wF a<=100):=decide_eq_decide.2 (by omega);simp[e]
 ·simp[h]
end Go.Ab.Tab
