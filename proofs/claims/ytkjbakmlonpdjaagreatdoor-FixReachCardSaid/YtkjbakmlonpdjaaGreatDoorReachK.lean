/- The reference's Index, Insert and States. -/
import Derived.Test.YtkjbakmlonpdjaaGreatDoorReachG
import Derived.Test.YtkjbakmlonpdjaaGreatDoorReachH
import Derived.Test.YtkjbakmlonpdjaaGreatDoorReachJ
import Derived.Test.YtkjbakmlonpdjaaGreatDoorReachI
open Bool renaming and_eq_true->yOG, eq_iff_iff->yOM, and_assoc->yPI, or_eq_true->yPL
open Int renaming toNat_natCast->yOJ
open List renaming getElem_mem->yOH, all_eq_true->yOI, getD_cons_zero->yOK, mem_append->yOL, mem_singleton->yON, drop_eq_getElem_cons->yOO, any_eq_true->yOP, drop_length->yOQ, all_cons->yOR, getElem?_eq_none->yOS, mem_cons->yOT, getElem?_eq_getElem->yOW, ext_getElem?->yOX, drop_zero->yOY, length_eq_zero_iff->yOZ, eq_nil_or_concat->yPA, concat_eq_append->yPB, getLast?_append->yPC, getLast?_singleton->yPD, dropLast_concat->yPF, length_append->yPG, range'_succ->yPH, mem_range'->yPJ, getD_cons_succ->yPK, set_eq_take_append_cons_drop->yPM, getElem?_set->yPN
open Nat renaming le_refl->yOU, testBit_and->yOV
open Option renaming some_or->yPE
set_option linter.unusedVariables false
set_option linter.unusedSimpArgs false
set_option maxRecDepth 10000
namespace Go.Ab
open Go
section
variable {C:zP} {own:Md} {Q:St->Prop} {k:List AI} {n D:Nat} {τ:Nat->AV} {ω:Nat->Ent} {S:Nat->Nat->Ent} {l:List AOper} {d:Nat}
theorem pS {f args r args' ps es} (h:C (D+1) f args' [] r []) (ha:args.map (fun x=>((stF n D τ ω S).evr x).keep)=args')
  (hk:Rd C own Q (.dr ps l (es++[{val:=r,ups:=[],dem:=args.flatMap Opd.tmp,rd:=[]}])::k) ((stF n D τ ω S).app (some d) {val:=r,ups:=[],dem:=args.flatMap Opd.tmp,rd:=[]}))
  (hf:f≠yid:=by decide) (hn:(args.flatMap Opd.tmp).Nodup:=by decide):Rd C own Q (.dr ps (⟨some d,.callL f args,none⟩::l) es::k) (stF n D τ ω S):=
 .drCall rfl (.callL (M:=[]) (dl:=[]) (r:=r) hf hn (by rw[ha];exact h) (by simp) (by simp)) hk
end
end Go.Ab
namespace Go.Ab.Tab
open Go Go.Ab
abbrev iI:Int->AV:=AV.int .i64
def insI:List Int->Int->List Int
 | [],n=>[n]
 | x::l,n=>if x=n then x::l else if x > n then n::x::l else x::insI l n
theorem vE {y n:Int}:∀{l:List Int},y∈insI l n↔y=n\/y∈l
 | []=>by simp[insI]
 | x::l=>by
  rw[insI];by_cases h:x=n
  ·rw[if_pos h];simp;intro e;exact .inl (e.trans h.symm)
  ·rw[if_neg h];by_cases h2:x > n
   ·rw[if_pos h2];simp
   ·rw[if_neg h2,yOT,vE,yOT];constructor
    ·rintro (h | h | h)<;>simp[h]
    ·rintro (h | h | h)<;>simp[h]
theorem lG (n:Int):∀l:List Int,(insI l n).length<=l.length+1
 | []=>by simp[insI]
 | x::l=>by
  rw[insI];have:=lG n l;split
  ·simp
  ·split
   ·simp
   ·simp;omega
def idxI (n:Int):List Int->Nat->Int
 | [],_=> -1
 | x::l,i=>if x=n then i else idxI n l (i+1)
theorem lH (n:Int):∀(l:List Int) (i:Nat),idxI n l i < 0↔n∉l
 | [],i=>by simp[idxI]
 | x::l,i=>by
  rw[idxI];by_cases h:x=n
  ·rw[if_pos h];simp[h]
  ·rw[if_neg h,lH n l (i+1)];simp;intro _ e;exact h e.symm
theorem l69 (D:Nat) (xs:List Int) (hx:xs.length<=2^40) (n:Int) (S:Nat->Nat->Ent):∀(j i:Nat) (τ ω) (r:AV),i+j=xs.length->r=iI (idxI n (xs.drop i) i)->τ 1=iI n->τ 7= .sl 1 (xs.map iI) .no->τ 8=iI xs.length->τ 9=iI i->
  Rd (Loc Pg Gl) .im (RetQ [.tmp 4] r S) [.lp c69_l0,.blk 0,.c zKP] (stF 19 D τ ω S):=by
 intro j
 induction j with
 | zero=>
  intro i τ ω r hi hr t1 t7 t8 t9;refine zM c69_l0.eq_1 ?_;obtain rfl:i=xs.length:=by omega
  rw[yOQ,idxI] at hr;simp[t8,t9,zKP,hr]
 | succ j ih=>
  intro i τ ω r hi hr t1 t7 t8 t9;refine zM c69_l0.eq_1 ?_;have hlt:i < xs.length:=by omega
  have hwr:IntKind.i64.wrap ((i:Int)+1)=((i+1:Nat):Int):=by rw[<-zF (n:=i+1) (by omega)];rfl
  rw[yOO hlt,idxI] at hr;generalize hge:xs[i]=e at*;by_cases h:e=n
  ·rw[if_pos h] at hr;simp[t1,t7,t8,t9,hlt,hge,h,hr]
  ·rw[if_neg h] at hr;simp[t1,t7,t8,t9,hlt,hge,h,hwr];refine ih (i+1) _ _ _ (by omega) hr ?_ ?_ ?_ ?_;all_goals simp[t1,t7,t8]
theorem yBP (D:Nat) (xs:List Int) (hx:xs.length<=2^40) (n:Int):Go.Ab.Loc Pg Gl D 69 [.sl 1 (xs.map iI) .no,iI n] [] (iI (idxI n xs 0)) []:=by
 refine zU zI tok rfl rfl fun S=> ?_;unfold c69;generalize hr:iI (idxI n xs 0)=r;simp;refine l69 D xs hx n S xs.length 0 _ _ _ (by simp) (by rw[yOY];exact hr.symm) ?_ ?_ ?_ ?_;all_goals simp
theorem l70 (D:Nat) (xs:List Int) (hx:xs.length<=2^30) (n:Int) (tp tp7:Tip) (htp:tp= .tip\/(tp= .nil/\xs= [])) (S:Nat->Nat->Ent):∀(j i:Nat) (τ ω) (r:AV),i+j=xs.length->r= .sl 1 ((xs.take i++insI (xs.drop i) n).map iI) .tip->τ 0= .sl 1 (xs.map iI) tp->τ 1=iI n->τ 7= .sl 1 (xs.map iI) tp7->τ 8=iI xs.length->τ 9=iI i->
  Rd (Loc Pg Gl) .im (RetQ [.tmp 4] r S) [.lp c70_l0,.blk 0,.c zEC] (stF 37 D τ ω S):=by
 intro j
 induction j with
 | zero=>
  intro i τ ω r hi hr t0 t1 t7 t8 t9;refine zM c70_l0.eq_1 ?_;obtain rfl:i=xs.length:=by omega
  rw[yOQ,List.take_length,insI] at hr;have hle:(xs.length+1)*8<=1099511627776:=by omega
  rcases htp with rfl | ⟨rfl,rfl⟩
  ·simp[t0,t1,t8,t9,zEC,hr,hle]
  ·simp[t0,t1,t8,t9,zEC,hr]
 | succ j ih=>
  intro i τ ω r hi hr t0 t1 t7 t8 t9;obtain rfl:tp= .tip:=by
   rcases htp with h | ⟨_,rfl⟩
   ·exact h
   ·simp at hi
  refine zM c70_l0.eq_1 ?_;have hlt:i < xs.length:=by omega
  have hwr:IntKind.i64.wrap ((i:Int)+1)=((i+1:Nat):Int):=by rw[<-zF (n:=i+1) (by omega)];rfl
  have hdr:=yOO hlt;rw[hdr,insI] at hr;generalize hge:xs[i]=e at*;by_cases h:e=n
  ·rw[if_pos h,<-hdr,List.take_append_drop] at hr;simp[t0,t1,t7,t8,t9,hlt,hge,h,hr]
  ·rw[if_neg h] at hr;by_cases h2:e > n
   ·rw[if_pos h2,<-hdr] at hr;have h2':n < e:=h2;have hle1:i*8<=1099511627776:=by omega
    have hle2:(i+1)*8<=1099511627776:=by omega
    have hle3:(i+1+(xs.length - i))*8<=1099511627776:=by omega
    have hmin:min i xs.length=i:=by omega
    have hil:i<=xs.length:=by omega
    simp[t0,t1,t7,t8,t9,hlt,hge,h,h2',hr,hle1,hle2,hle3,hmin,hil]
   ·rw[if_neg h2] at hr;have h2':¬n < e:=h2;simp[t0,t1,t7,t8,t9,hlt,hge,h,h2',hwr];refine ih (i+1) _ _ _ (by omega) ?_ ?_ ?_ ?_ ?_ ?_
    ·rw[hr,List.take_succ_eq_append_getElem hlt,hge];simp
    all_goals simp[t0,t1,t7,t8]
theorem zQF (D:Nat) (xs:List Int) (hx:xs.length<=2^30) (n:Int) (tp:Tip) (htp:tp= .tip\/(tp= .nil/\xs= [])):Go.Ab.Loc Pg Gl D 70 [.sl 1 (xs.map iI) tp,iI n] [] (.sl 1 ((insI xs n).map iI) .tip) []:=by
 refine zU zI tok rfl rfl fun S=> ?_;unfold c70;generalize hr:AV.sl 1 ((insI xs n).map iI) .tip=r;rcases htp with rfl | ⟨rfl,rfl⟩
 ·simp;refine l70 D xs hx n .tip .no (.inl rfl) S xs.length 0 _ _ _ (by simp) (by simpa using hr.symm) ?_ ?_ ?_ ?_ ?_;all_goals simp
 ·simp;refine l70 D [] hx n .nil .tip (.inr ⟨rfl,rfl⟩) S 0 0 _ _ _ (by simp) (by simpa using hr.symm) ?_ ?_ ?_ ?_ ?_;all_goals simp
mutual
def stV:Va->Fu->List Int->List Int
 | .mk a gs ws,f,l=>if f.k=0 then insI l a else stVs gs (zN f (.mk a gs ws)) l
def stVs:List Va->List Fu->List Int->List Int
 | [],_,l=>l
 | _::_,[],l=>l
 | v::gs,f::fs,l=>stVs gs fs (stV v f l)
end
mutual
def lvV:Va->Fu->List Int
 | .mk a gs ws,f=>if f.k=0 then [a] else lvVs gs (zN f (.mk a gs ws))
def lvVs:List Va->List Fu->List Int
 | [],_=>[]
 | _::_,[]=>[]
 | v::l,f::fs=>lvV v f++lvVs l fs
end
theorem zSQ (v:Va) (f:Fu) (l):stV v f l=if f.k=0 then insI l v.n else stVs v.gs (zN f v) l:=by cases v;rw[stV];rfl
theorem zUN (v:Va) (f:Fu):lvV v f=if f.k=0 then [v.n] else lvVs v.gs (zN f v):=by cases v;rw[lvV];rfl
mutual
theorem jF {y:Int}:∀(v:Va) (f:Fu) (l:List Int),y∈stV v f l↔y∈l\/y∈lvV v f
 | .mk a gs ws,f,l=>by
  rw[stV,lvV];split
  ·rw[vE];simp;exact Or.comm
  ·exact zCT gs _ l
theorem zCT {y:Int}:∀(gs:List Va) (fs:List Fu) (l:List Int),y∈stVs gs fs l↔y∈l\/y∈lvVs gs fs
 | [],_,l=>by rw[stVs,lvVs];simp
 | _::_,[],l=>by rw[stVs,lvVs];simp
 | v::gs,f::fs,l=>by rw[stVs,lvVs,zCT gs fs,jF v f,yOL,or_assoc]
end
mutual
theorem fI:∀(v:Va) (f:Fu) (l:List Int),(stV v f l).length<=l.length+zG v
 | .mk a gs ws,f,l=>by
  rw[stV,zG];split
  ·have:=lG a l;omega
  ·have:=zCF gs (zN f (.mk a gs ws)) l;omega
theorem zCF:∀(gs:List Va) (fs:List Fu) (l:List Int),(stVs gs fs l).length<=l.length+zJ gs
 | [],_,l=>by rw[stVs];omega
 | _::_,[],l=>by rw[stVs];omega
 | v::gs,f::fs,l=>by
  rw[stVs,zJ];have:=zCF gs fs (stV v f l);have:=fI v f l;omega
end
theorem l71 (D:Nat) (f:Fu) (v:Va) (hvl:v.gs.length<=2^30) (hpl:(zN f v).length=v.gs.length) (N:Nat) (hN:N<=2^30)
  (hrec:∀(i:Nat) (h1:i < v.gs.length) (h2:i < (zN f v).length),∀(D:Nat) (ls:List Int),ls.length+zG v.gs[i]<=N->
   Go.Ab.Loc Pg Gl D 71 [encF (zN f v)[i],encV v.gs[i],.sl 1 (ls.map iI) .tip] [] (.sl 1 ((stV v.gs[i] (zN f v)[i] ls).map iI) .tip) [])
  (S) (r:AV):
  ∀(j i:Nat) (ls:List Int) (τ ω),i+j=v.gs.length->ls.length+zJ (v.gs.drop i)<=N->
  (τ 2= .sl 1 (ls.map iI) .tip\/(τ 2= .sl 1 [] .nil/\ls= []))->τ 7= .sl 3 ((zN f v).map encF) .no->τ 25= .sl 3 (v.gs.map encV) .no->τ 26=iI v.gs.length->τ 27=iI i->
  r= .sl 1 ((stVs (v.gs.drop i) ((zN f v).drop i) ls).map iI) .tip->
  Rd (Loc Pg Gl) .im (RetQ [.tmp 6] r S) [.lp c71_l0,.blk 0,.c zKO] (stF 41 D τ ω S):=by
 intro j
 induction j with
 | zero=>
  intro i ls τ ω hi hn t2 t7 t25 t26 t27 hr;refine zM c71_l0.eq_1 ?_;obtain rfl:i=v.gs.length:=by omega
  rw[yOQ,stVs] at hr;rcases t2 with t2 | ⟨t2,rfl⟩<;>simp[t2,t26,t27,zKO,hr]
 | succ j ih=>
  intro i ls τ ω hi hn t2 t7 t25 t26 t27 hr;refine zM c71_l0.eq_1 ?_;have hlt:i < v.gs.length:=by omega
  have hlp:i < (zN f v).length:=by omega
  have hwr:IntKind.i64.wrap ((i:Int)+1)=((i+1:Nat):Int):=by rw[<-zF (n:=i+1) (by omega)];rfl
  rw[yOO hlt,zJ] at hn;rw[yOO hlt,yOO hlp,stVs] at hr;have hc:=hrec i hlt hlp (D+1) ls (by omega);have hlen:=fI v.gs[i] (zN f v)[i] ls;generalize hgv:v.gs[i]=u at*;generalize hgf:(zN f v)[i]=g at*;rcases t2 with t2 | ⟨t2,rfl⟩
  ·simp[t2,t7,t25,t26,t27,hlt,hlp,hgv,hgf,zC u,zA g];refine pS hc (by simp[zC u,zA g]) ?_;simp[t27,hwr];refine ih (i+1) _ _ _ (by omega) ?_ (.inl ?_) ?_ ?_ ?_ ?_ hr
   ·omega
   all_goals simp[t7,t25,t26]
  ·simp[t2,t7,t25,t26,t27,hlt,hlp,hgv,hgf,zC u,zA g];refine pS hc (by simp[zC u,zA g]) ?_;simp[t27,hwr];refine ih (i+1) _ _ _ (by omega) ?_ (.inl ?_) ?_ ?_ ?_ ?_ hr
   ·omega
   all_goals simp[t7,t25,t26]
theorem yBO (N:Nat) (hN:N<=2^30):∀(v:Va),zG v<=2^30->∀(f:Fu),zH f=true->ptV v f->∀(D:Nat) (ls:List Int) (tp:Tip),(tp= .tip\/(tp= .nil/\ls= []))->ls.length+zG v<=N->
  Go.Ab.Loc Pg Gl D 71 [encF f,encV v,.sl 1 (ls.map iI) tp] [] (.sl 1 ((stV v f ls).map iI) .tip) []:=by
 refine Va.ind' fun a gs ws hrec=> ?_;intro hnod f hf hv D ls tp htp hn;obtain ⟨hpl,hvs⟩:=(zII _ _).1 hv;rw[zG] at hnod hn;refine zU zI tok rfl rfl fun S=> ?_;generalize hv':Va.mk a gs ws=v at*;have ev:v.gs=gs:=by rw[<-hv'];rfl
 rw[zSQ];unfold c71;rw[zA f,zC v];by_cases k0:f.k=0
 ·rw[if_pos k0];have h70:=zQF (D+1) ls (by omega) v.n .tip (.inl rfl);rcases htp with rfl | ⟨rfl,rfl⟩
  ·simp[k0];refine iL h70 (by simp) ?_;simp
  ·simp[k0];refine iL h70 (by simp) ?_;simp
 ·rw[if_neg k0];have h118:=fK (D+1) f hf v (by have:=wN gs;rw[ev];omega);generalize hr:AV.sl 1 ((stVs v.gs (zN f v) ls).map iI) .tip=r;have hrec':∀(i:Nat) (h1:i < v.gs.length) (h2:i < (zN f v).length),∀(D:Nat) (ls:List Int) (tp:Tip),(tp= .tip\/(tp= .nil/\ls= []))->ls.length+zG v.gs[i]<=N->
    Go.Ab.Loc Pg Gl D 71 [encF (zN f v)[i],encV v.gs[i],.sl 1 (ls.map iI) tp] [] (.sl 1 ((stV v.gs[i] (zN f v)[i] ls).map iI) .tip) []:=by
   intro i h1 h2 D ls tp htp hls;have hm:v.gs[i]∈gs:=by rw[<-ev];exact yOH h1
   exact hrec _ hm (by have:=wC hm;omega) _ (vC hf v _ (yOH h2)) (oL hvs i h1 h2) D ls tp htp hls
  simp[k0];refine zE h118 (by simp[zA f,zC v]) ?_;simp[k8];refine l71 D f v (by have:=wN gs;rw[ev];omega) hpl N hN (fun i h1 h2 D ls hls=>hrec' i h1 h2 D ls .tip (.inl rfl) hls) S r v.gs.length 0 ls _ _ (by omega) (by rw[yOY,ev];omega) ?_ ?_ ?_ ?_ ?_ (by simpa using hr.symm)
  case refine_1=>rcases htp with rfl | ⟨rfl,rfl⟩<;>simp
  all_goals simp
end Go.Ab.Tab
/- The reference's Reached. -/
namespace Go.Ab
open Go
section
variable {C:zP} {Q:St->Prop} {k:List AI} {n D:Nat} {τ:Nat->AV} {ω:Nat->Ent} {S:Nat->Nat->Ent} {l:List AOper} {d:Nat} {ys:List AV} {z bytes:Nat} {x y:Opd} {r:List (Nat×Nat)}
theorem zWS {slot:Nat} {z':Nat} {y0:AV} (hs:slot < n) (hx:(stF n D τ ω S).evr x= .sl z' [] .nil) (hy:yM (stF n D τ ω S) z ((stF n D τ ω S).ev y)=some (y0::ys,r)) (hok:okEl z (!y0.one) (y0::ys)=true) (hb:(ys.length+1)*bytes<=zY)
  (hk:Rd C .fr Q (.ops l::k) (stF n D (upd τ d (.own D slot ((ω slot).1+1) 0 (ys.length+1) z (!y0.one))) (upd ω slot ((ω slot).1+1,.cells (newC (y0::ys)))) S)):Rd C .fr Q (.ops (⟨some d,.append z bytes x y,none⟩::l)::k) (stF n D τ ω S):=by
 refine yFI (e:={val:= .own D slot ((ω slot).1+1) 0 (ys.length+1) z (!y0.one),ups:=[(D,slot,((ω slot).1+1,.cells (newC (y0::ys))))],rd:=r}) (.inr ⟨some slot,?_⟩) ?_
 ·simp only[opfO,hx,hy,qI,if_pos hs,fJ];exact if_pos ⟨hok,hb⟩
 ·simpa[z9] using hk
end
end Go.Ab
namespace Go.Ab.Tab
open Go Go.Ab
def rchF (nx:Int->List Int):Nat->List Int->List Int->List Int
 | 0,out,_=>out
 | m+1,out,w=>match w.getLast? with
  | none=>out
  | some x=>if idxI x out 0 < 0 then rchF nx m (insI out x) (w.dropLast++nx x) else rchF nx m out w.dropLast
def uQ (s:Sy) (x:Int):List Int:=stV (s.m.getD x.toNat v0) s.f []
theorem oP (l:List Int):newC (l.map iI)=l.map iI:=by
 induction l with
 | nil=>rfl
 | cons b bs ih=>simp only[newC,List.map_cons,List.flatMap_cons,List.map_append] at ih|-;rw[ih];rfl
def cntI:Nat->List Int->Nat
 | 0,_=>0
 | n+1,out=>(if (n:Int)∈out then 0 else 1)+cntI n out
theorem zKB (x:Int):∀(n:Nat) (out:List Int),cntI n (insI out x)<=cntI n out
 | 0,_=>yOU _
 | n+1,out=>by
  rw[cntI,cntI];have:=zKB x n out;by_cases h:(n:Int)∈out
  ·rw[if_pos h,if_pos (vE.2 (.inr h))];omega
  ·rw[if_neg h];split<;>omega
theorem zAM {x:Int}:∀(n:Nat) (out:List Int),0<=x->x < n->x∉out->cntI n (insI out x)+1<=cntI n out
 | 0,_,h0,h1,_=>by omega
 | n+1,out,h0,h1,hx=>by
  rw[cntI,cntI];by_cases h:x=n
  ·subst h;rw[if_neg hx,if_pos (vE.2 (.inl rfl))];have:=zKB (n:Int) n out;omega
  ·have:=zAM (x:=x) n out h0 (by omega) hx;have e:(n:Int)∈insI out x↔(n:Int)∈out:=by
    rw[vE];exact ⟨fun h'=>h'.resolve_left fun e=>h e.symm,.inr⟩
   by_cases h2:(n:Int)∈out
   ·rw[if_pos h2,if_pos (e.2 h2)];omega
   ·rw[if_neg h2,if_neg (fun h'=>h2 (e.1 h'))];omega
theorem lK:∀n:Nat,cntI n []=n
 | 0=>rfl
 | n+1=>by rw[cntI,lK n];simp;omega
section
variable {D:Nat} {s:Sy}
theorem l23 (hsh:zH s.f=true) (hm:∀v∈s.m,ptV v s.f/\zG v<=2000) (hin:∀v∈s.m,∀y∈lvV v s.f,0<=y/\y < s.m.length) (hN:s.m.length<=1000) (S:Nat->Nat->Ent) (r:AV):∀(m:Nat) (out w:List Int) (g:Nat) (cs:List AV) (τ ω),
  cntI s.m.length out*2001+w.length<=m->m<=2^30->out.length+cntI s.m.length out<=s.m.length->(∀y∈w,0<=y/\y < s.m.length)->r= .sl 1 ((rchF (uQ s) m out w).map iI) .no->
  τ 2= .ptr D 2 1 0->τ 5= .sl 1 (out.map iI) .tip->τ 6= .own D 9 g 0 w.length 1 false->ω 2=(1,.cells [.int .i64 s.f.k,.int .i64 s.f.n,.sl 3 (s.f.gs.map encF) .no,.sl 3 (s.m.map encV) .no])->ω 9=(g,.cells cs)->cs.take w.length=w.map iI->
  Rd (Loc Pg Gl) .fr (RetQ [.tmp 4] r S) [.lp c23_l0,.blk 0,.c zED] (stF 42 D τ ω S):=by
 intro m
 induction m with
 | zero=>
  intro out w g cs τ ω hm1 hm2 ho hw hr t2 t5 t6 w2 w9 hcs;obtain rfl:w= []:=yOZ.1 (by omega);refine zM c23_l0.eq_1 ?_;rw[rchF] at hr;simp at t6;simp[t5,t6,zED,hr]
 | succ m ih=>
  intro out w g cs τ ω hm1 hm2 ho hw hr t2 t5 t6 w2 w9 hcs;refine zM c23_l0.eq_1 ?_;rcases yPA w with rfl | ⟨u,x,rfl⟩
  ·rw[rchF] at hr;simp at t6 hr;simp[t5,t6,zED,hr]
  ·rw[yPB] at*;rw[rchF] at hr;simp only[yPC,yPD,yPE,yPF] at hr;obtain ⟨hx0,hx1⟩:=hw x (by simp);obtain ⟨n,rfl⟩:∃n:Nat,x=n:=⟨x.toNat,by omega⟩;have hn:n < s.m.length:=by omega
   have hlen:(u++[(n:Int)]).length=u.length+1:=by simp
   rw[hlen] at t6 hcs hm1;have hw1:IntKind.i64.wrap (((u.length+1:Nat):Int) - 1)=(u.length:Int):=by rw[show ((u.length+1:Nat):Int) - 1=(u.length:Int) by omega];exact uM (by omega) (by omega)
   have hw1':IntKind.i64.wrap ((u.length:Int)+1 - 1)=(u.length:Int):=by rw[show (u.length:Int)+1 - 1=(u.length:Int) by omega];exact uM (by omega) (by omega)
   have hcl:u.length+1<=cs.length:=by
    have:=congrArg List.length hcs;rw[List.length_take,List.length_map,hlen] at this;omega
   have hcx:cs[u.length]?=some (iI n):=by
    have h1:(cs.take (u.length+1))[u.length]?=some (iI n):=by rw[hcs];simp
    rwa [List.getElem?_take,if_pos (by omega)] at h1
   have hcu:cs.take u.length=u.map iI:=by
    have h1:=congrArg (List.take u.length) hcs;rw[List.take_take,show min u.length (u.length+1)=u.length by omega] at h1;rw[h1];simp
   have hw2:IntKind.i64.wrap (u.length:Int)=(u.length:Int):=uM (by omega) (by omega);have hlt1:(u.length:Int) < (u.length:Int)+1:=by omega
   have hpos:(0:Int) < (u.length:Int)+1:=by omega
   have h69:=yBP (D+1) out (by omega) n;have h70:=zQF (D+1) out (by omega) n .tip (.inl rfl);have hwu:∀y∈u,0<=y/\y < s.m.length:=fun y hy=>hw y (by simp[hy]);have hvm:=hm s.m[n] (yOH hn);have h71:=yBO (2^30) (yOU _) s.m[n] (by omega) s.f hsh hvm.1 (D+1) [] .nil (.inr ⟨rfl,rfl⟩) (by simp;omega);have esu:uQ s n=stV s.m[n] s.f []:=by unfold uQ;rw[yOJ,y6 hn]
   rw[esu] at hr;have hyl:=fI s.m[n] s.f [];have hys:∀y∈stV s.m[n] s.f [],0<=y/\y < s.m.length:=fun y hy=>by
    rw[jF] at hy;exact hin _ (yOH hn) y (hy.resolve_left (by simp))
   generalize hge:s.m[n]=v at*;have hle1:(u.length:Int)<=(u.length:Int)+1:=by omega
   simp[t6,hpos,hw1',hw2,hlt1,hle1,w9,hcx,t5];refine zE h69 (by simp) ?_;by_cases hi:idxI (n:Int) out 0 < 0
   ·rw[if_pos hi] at hr;have hxo:=(lH _ out 0).1 hi;have hc1:=zAM s.m.length out hx0 hx1 hxo;have hol:=lG (n:Int) out;simp[hi,t5];refine iL h70 (by simp) ?_;simp[t2,w2,hn,hge,zA s.f,zC v];refine pS h71 (by simp[zA s.f,zC v]) ?_;simp at hyl;generalize stV v s.f []=ys at*;simp;cases ys with
    | nil=>
     refine qC (d':=D) (i:=9) (g:=g) (off:=0) (len:=u.length) (ea:=false) (r:=[]) (by simp) (by simp) ?_;simp;rw[List.append_nil] at hr;refine ih (insI out n) u g cs _ _ (by omega) (by omega) (by omega) hwu hr ?_ ?_ ?_ ?_ ?_ hcu;all_goals simp[t2,w2,w9]
    | cons y0 ys=>
     refine fE (i:=9) (cs:=cs) (ys:=(y0::ys).map iI) (r:=[]) (by omega) (g:=g) (len:=u.length) (ea:=false) (by simp) (by simp) (by simp) (by simp[w9]) (by omega) (by simp[okEl]) (by simp[zY];simp at hyl;omega) ?_;simp;have e1:(AV.strip1∘AV.int IntKind.i64)=AV.int .i64:=rfl;refine ih (insI out n) (u++(y0::ys)) (g+1) ((u++(y0::ys)).map iI) _ _ ?_ (by omega) (by omega) ?_ hr ?_ ?_ ?_ ?_ ?_ ?_
     ·rw[yPG];simp at hyl|-;omega
     ·intro a ha;rcases yOL.1 ha with ha | ha
      ·exact hwu a ha
      ·exact hys a ha
     case refine_7=>
      have e2:(cs.map AV.strip1).take u.length=u.map iI:=by rw[<-List.map_take,hcu,List.map_map,e1]
      have e3:newC ((y0::ys).map iI)=(y0::ys).map iI:=oP _;simp at e3;simp[e2,e3]
     case refine_8=>rw[List.take_of_length_le (by simp)]
     all_goals simp[t2,w2]
   ·rw[if_neg hi] at hr;simp[hi];refine ih out u g cs _ _ (by omega) (by omega) (by omega) hwu hr ?_ ?_ ?_ ?_ ?_ hcu;all_goals simp[t2,t5,w2,w9]
theorem yCD (hsh:zH s.f=true) (hm:∀v∈s.m,ptV v s.f/\zG v<=2000) (hin:∀v∈s.m,∀y∈lvV v s.f,0<=y/\y < s.m.length) (hN:s.m.length<=100) (z:Nat) (hz:z < s.m.length) (D:Nat):
  Go.Ab.Loc Pg Gl D 23 [encY s,.sl 1 [iI z] .no] [] (.sl 1 ((rchF (uQ s) 300000 [] [(z:Int)]).map iI) .no) []:=by
 obtain ⟨fn,code,t1,t2,t3,t4,t5,t6⟩:=tok 23 _ (rfl:T 23=some ⟨42,c23,[.tmp 4],false⟩);refine rY zI t1 t2 t3 t4 t5 fun S hS=> ?_;rw[t6,xW _ _ _ _ (show [encY s,.sl 1 [iI z] .no].length<=42 by simp)];generalize hr:AV.sl 1 ((rchF (uQ s) 300000 [] [(z:Int)]).map iI) .no=r;have key:Rd (Loc Pg Gl) .fr (RetQ [.tmp 4] r S) [.c c23] (stF 42 D (vM 0 [encY s,.sl 1 [iI z] .no]) (fun _=>(0,.dead)) S):=by
  unfold c23;simp[encY];refine zWS (slot:=9) (z':=1) (z:=1) (bytes:=8) (y0:=iI z) (ys:=[]) (r:=[]) (by omega) (by simp) (by simp) (by simp[okEl]) (by simp[zY]) ?_;simp;refine l23 hsh hm hin (by omega) S r 300000 [] [(z:Int)] 1 [iI z] _ _ (by rw[lK];simp;omega) (by omega) (by rw[lK];simp) ?_ hr.symm ?_ ?_ ?_ ?_ ?_ ?_
  ·intro y hy;rw[yON] at hy;subst hy;omega
  all_goals simp
  rfl
 exact key.run.imp fun s' ⟨h1,h2⟩=>⟨h1,fun d i _=>by rw[h2];rfl⟩
end
end Go.Ab.Tab
/- Plain law of reaching: the truth of the formula of every successor. -/
namespace Go.Ab.Tab
open Go Go.Ab
section
variable (nx:List Va) (e:List Nat)
theorem pC (X:Fm) (v:Va):prB nx e (notM X) v= !prB nx e X v:=by
 unfold notM;rw[y5,if_neg (by omega),if_neg (by omega),if_neg (by omega),if_neg (by omega),yB];simp[oneB]
theorem aO (X Y:Fm) (v:Va):prB nx e (.mk 2 0 0 [X,Y]) v=(prB nx e X v&&prB nx e Y v):=by
 rw[y5,if_neg (by omega),if_neg (by omega),if_neg (by omega),if_pos rfl,yB,yB];simp
theorem sB {o n m:Int} (h0:o≠0) (h5:o≠5) (h4:o≠4) (h2:o≠2) (X:Fm):prB nx e (.mk o n m [X])=oneB o n m (prB nx e X):=by
 rw[y5,if_neg h0,if_neg h5,if_neg h4,if_neg h2,yB];rfl
theorem zIJ (E:Fm) (v:Va):∀(j i:Nat) (out:Fm),prB nx e (expM E out i j) v=(prB nx e out v&&(List.range' i j).all fun t=>prB nx e E (v.gs.getD t v0))
 | 0,i,out=>by rw[expM];simp
 | j+1,i,out=>by
  rw[expM,zIJ E v j (i+1),aO,sB _ _ (by omega) (by omega) (by omega) (by omega),yPH,yOR,yPI];simp[oneB]
end
theorem zBU {p:Va->Bool}:∀(l:List Va) (ws:List Int),ws.length=l.length->(∀w∈ws,1<=w)->(wSum (fun _=>true) l ws<=wSum p l ws↔l.all p=true)/\(1<=wSum (fun v=> !p v) l ws↔¬l.all p=true)/\wSum p l ws<=wSum (fun _=>true) l ws/\0<=wSum (fun v=> !p v) l ws
 | [],ws,_,_=>by simp[wSum]
 | v::l,[],h,_=>by simp at h
 | v::l,w::ws,h,hw=>by
  obtain ⟨h1,h2,h3,h4⟩:=zBU (p:=p) l ws (by simpa using h) fun x hx=>hw x (by simp[hx]);have:=hw w (by simp);rw[wSum,wSum,wSum,yOR];cases hp:p v
  ·simp;omega
  ·simp at h1 h2 h3 h4|-;refine ⟨?_,?_,by omega,by omega⟩
   ·rw[<-h1];first | done | omega
   ·rw[<-h2];first | done | omega
theorem eB {P:Int->Bool} (x:Fu):∀(gs:List Va) (n:Nat),gs.length<=n->(lvVs gs (List.replicate n x)).all P=gs.all fun v=>(lvV v x).all P
 | [],n,_=>by rw[lvVs];rfl
 | v::gs,0,h=>by simp at h
 | v::gs,n+1,h=>by
  rw[List.replicate_succ,lvVs,List.all_append,eB x gs n (by simpa using h),yOR]
theorem zLS {q:Va->Bool} (gs:List Va) (h:1<=gs.length):(q (gs.getD 0 v0)&&(List.range' 1 (gs.length - 1)).all fun t=>q (gs.getD t v0))=gs.all q:=by
 rw[yOM,yOG,yOI,yOI];constructor
 ·rintro ⟨h0,h1⟩ v hv;obtain ⟨i,hi,rfl⟩:=List.mem_iff_getElem.1 hv;by_cases hz:i=0
  ·subst hz;rwa [y6 hi] at h0
  ·have:=h1 i (yPJ.2 ⟨i - 1,by omega,by omega⟩);rwa [y6 hi] at this
 ·intro h1;refine ⟨by rw[y6 (show 0 < gs.length by omega)];exact h1 _ (yOH _),fun i hi=> ?_⟩;obtain ⟨j,hj,rfl⟩:=yPJ.1 hi;rw[y6 (show 1+1*j < gs.length by omega)];exact h1 _ (yOH _)
theorem zDP (nx:List Va) (e:List Nat) (A:Fm):∀g:Fu,zH g=true->∀v,valN nx.length v g=true->prB nx e (evM A g) v=(lvV v g).all fun y=>(evS nx e A).testBit y.toNat:=by
 refine Fu.ind' fun k n gs ih hf v hv=> ?_;have hgs:∀a∈gs,zH a=true:=by
  intro a ha;have:=hf;rw[zH] at this;simp only[yOG] at this;have hh:∀{l:List Fu},xB l=true->∀a∈l,zH a=true:=by
   intro l
   induction l with
   | nil=>intro _ a ha;cases ha
   | cons f l ihl=>
    intro h a ha;rw[xB,yOG] at h;rcases yOT.1 ha with rfl | ha
    ·exact h.1
    ·exact ihl h.2 a ha
  exact hh this.2.2.2 a ha
 have hany:=pW hf hv;simp only[Fu.k,Fu.n,Fu.gs] at hany;rw[evM,zUN];rcases hany with ⟨rfl,h0,h1⟩ | rfl | ⟨rfl,a,b,g1,g2,e1,rfl,v1,v2⟩ | ⟨rfl,a,g1,g2,e1,rfl,hc⟩ | ⟨rfl,hl,x,rfl,hx⟩ | ⟨hk,⟨x,rfl,hx⟩,hw1,hw2⟩
 ·rw[if_pos rfl,if_pos (show (Fu.mk 0 n gs).k=0 from rfl),y5,if_neg (by omega),if_neg (by omega),if_pos rfl,yC];simp
 ·rw[if_neg (by omega),if_pos rfl,if_neg (by simp[Fu.k]),y5,if_pos rfl];have:zN (.mk 1 n gs) v= []:=by unfold zN;rw[if_pos (by simp[Fu.k])]
  rw[this];cases v.gs<;>simp[lvVs]
 ·rw[if_neg (by omega),if_neg (by omega),if_pos rfl,if_neg (by simp[Fu.k]),aO,sB _ _ (by omega) (by omega) (by omega) (by omega),sB _ _ (by omega) (by omega) (by omega) (by omega)];have:zN (.mk 2 n [g1,g2]) v= [g1,g2]:=by unfold zN;simp[Fu.k,Fu.gs]
  rw[this,e1,lvVs,lvVs,lvVs,evMs,evMs,evMs];simp only[oneB,e1];simp[ih g1 (by simp) (hgs g1 (by simp)) a v1,ih g2 (by simp) (hgs g2 (by simp)) b v2]
 ·rw[if_neg (by omega),if_neg (by omega),if_neg (by omega),if_pos rfl,if_neg (by simp[Fu.k]),pC,aO,pC,pC,sB _ _ (by omega) (by omega) (by omega) (by omega),sB _ _ (by omega) (by omega) (by omega) (by omega),evMs,evMs,evMs];rcases hc with ⟨hn,v1⟩ | ⟨hn,v1⟩
  ·have:zN (.mk 3 n [g1,g2]) v= [g1]:=by unfold zN;simp[Fu.k,Fu.gs,hn]
   rw[this,e1,lvVs,lvVs];simp[oneB,e1,hn,ih g1 (by simp) (hgs g1 (by simp)) a v1]
  ·have:zN (.mk 3 n [g1,g2]) v= [g2]:=by unfold zN;simp[Fu.k,Fu.gs,hn]
   rw[this,e1,lvVs,lvVs];simp[oneB,e1,hn,ih g2 (by simp) (hgs g2 (by simp)) a v1]
 ·rw[if_neg (by omega),if_neg (by omega),if_neg (by omega),if_neg (by omega),if_pos rfl,if_neg (by simp[Fu.k]),zIJ,sB _ _ (by omega) (by omega) (by omega) (by omega),evMs,evMs];have hn1:1<=n:=by
   obtain ⟨_,h1,h2,_⟩:=tH hf;have e:wJ 4=4:=rfl;rw[e] at h1 h2;omega
  have:zN (.mk 4 n [x]) v=List.replicate n.toNat x:=by unfold zN;simp[Fu.k,Fu.gs,Fu.n]
  rw[this,eB x _ _ (by omega)];have h2:=zLS (q:=prB nx e (evM A x)) v.gs (by omega);rw[hl] at h2;simp only[oneB];simp only[yOK];simp only[if_false,show¬((10:Int)=1) by omega,show¬((10:Int)=6) by omega,show¬((10:Int)=7) by omega,show¬((10:Int)=8) by omega,show¬((10:Int)=9) by omega,if_true];rw[show (0:Int).toNat=0 from rfl,h2];rw[yOM,yOI,yOI];exact forall_congr' fun u=>forall_congr' fun hu=>by rw[ih x (by simp) (hgs x (by simp)) u (hx u hu)]
 ·have hpt:zN (.mk k n [x]) v=List.replicate v.gs.length x:=by unfold zN;rw[if_neg (by simp only[Fu.k];omega),if_neg (by simp only[Fu.k];omega),if_neg (by simp only[Fu.k];omega),if_neg (by simp only[Fu.k];omega)];rfl
  have hal:(lvVs v.gs (List.replicate v.gs.length x)).all (fun y=>(evS nx e A).testBit y.toNat)=v.gs.all (prB nx e (evM A x)):=by
   rw[eB x _ _ (yOU _),yOM,yOI,yOI];exact forall_congr' fun u=>forall_congr' fun hu=>by rw[ih x (by simp) (hgs x (by simp)) u (hx u hu)]
  rw[if_neg (by omega),if_neg (by omega),if_neg (by omega),if_neg (by omega),if_neg (by omega),if_neg (show¬(Fu.mk k n [x]).k=0 by show¬k=0;omega),hpt,hal,evMs,evMs];simp only[yOK];by_cases k5:k=5
  ·rw[if_pos k5,pC,sB _ _ (by omega) (by omega) (by omega) (by omega)];have:prB nx e (notM (evM A x))=fun v=> !prB nx e (evM A x) v:=funext fun v=>pC ..;rw[this];simp[oneB];exact (List.not_all_eq_any_not ..).symm
  ·rw[if_neg k5];obtain ⟨hw3,hw4⟩:=hw2 k5;obtain ⟨a1,a2,_,_⟩:=zBU (p:=prB nx e (evM A x)) v.gs v.ws hw3 (fG (by omega) hw4).1;by_cases k6:k=6
   ·rw[if_pos k6,pC,sB _ _ (by omega) (by omega) (by omega) (by omega)];have:prB nx e (notM (evM A x))=fun v=> !prB nx e (evM A x) v:=funext fun v=>pC ..;rw[this];simp only[oneB];simp only[if_false,show¬((12:Int)=1) by omega,show¬((12:Int)=6) by omega,show¬((12:Int)=7) by omega,show¬((12:Int)=8) by omega,show¬((12:Int)=9) by omega,show¬((12:Int)=10) by omega,if_true];rw[yOM,Bool.not_eq_true',decide_eq_false_iff_not,a2,Classical.not_not]
   ·rw[if_neg k6,sB _ _ (by omega) (by omega) (by omega) (by omega)];simp only[oneB];simp only[if_false,show¬((13:Int)=1) by omega,show¬((13:Int)=6) by omega,show¬((13:Int)=7) by omega,show¬((13:Int)=8) by omega,show¬((13:Int)=9) by omega,show¬((13:Int)=10) by omega,show¬((13:Int)=12) by omega,if_true];rw[yOM,decide_eq_true_eq,Int.one_mul,Int.mul_one,a1]
end Go.Ab.Tab
/- Plain law of reaching. -/
namespace Go.Ab.Tab
open Go Go.Ab
def mkT (p:Nat->Bool):Nat->Nat
 | 0=>0
 | n+1=>(if p n then 2^n else 0) ||| mkT p n
theorem sI (p:Nat->Bool):∀(n i:Nat),(mkT p n).testBit i=(decide (i < n)&&p i)
 | 0,i=>by simp[mkT]
 | n+1,i=>by
  rw[mkT,Nat.testBit_or,sI p n i];have e:(if p n then 2^n else 0).testBit i=(decide (n=i)&&p i):=by
   by_cases hp:p n=true
   ·rw[if_pos hp,Nat.testBit_two_pow];by_cases hi:n=i
    ·subst hi;simp[hp]
    ·simp[hi]
   ·rw[if_neg hp];by_cases hi:n=i
    ·subst hi;simp at hp;simp[hp]
    ·simp[hi]
  rw[e];by_cases h1:n=i
  ·subst h1;simp
  ·by_cases h2:i < n
   ·simp[h1,h2,show i < n+1 by omega]
   ·simp[h1,h2,show¬i < n+1 by omega]
inductive Rch (s:Sy):Int->Int->Prop
 | refl (z:Int):Rch s z z
 | step {z x y:Int}:Rch s z x->y∈uQ s x->Rch s z y
theorem Rch.head {s:Sy} {z y x:Int} (h:y∈uQ s z) (k:Rch s y x):Rch s z x:=by
 induction k with
 | refl=>exact .step (.refl z) h
 | step _ h2 ih=>exact .step ih h2
theorem Rch.in' {s:Sy} (hin:∀v∈s.m,∀y∈lvV v s.f,0<=y/\y < s.m.length) {z x:Int} (h:Rch s z x) (hz:0<=z/\z < s.m.length):0<=x/\x < s.m.length:=by
 induction h with
 | refl=>exact hz
 | step _ h2 ih=>
  unfold uQ at h2;rw[jF,y6 (show _ < s.m.length by omega)] at h2;exact hin _ (yOH _) _ (h2.resolve_left (by simp))
theorem zUA {s:Sy} (hin:∀v∈s.m,∀y∈lvV v s.f,0<=y/\y < s.m.length) (hnd:∀v∈s.m,zG v<=2000) (z:Int) (hz:0<=z/\z < s.m.length):∀(m:Nat) (out w:List Int),cntI s.m.length out*2001+w.length<=m->
  (∀y∈out,Rch s z y)->(∀y∈w,Rch s z y)->(∀x∈out,∀y∈uQ s x,y∈out\/y∈w)->(z∈out\/z∈w)->∀y,y∈rchF (uQ s) m out w↔Rch s z y:=by
 intro m
 induction m with
 | zero=>
  intro out w hm ho hw hc h0 y;obtain rfl:w= []:=yOZ.1 (by omega);rw[rchF];refine ⟨ho y,fun h=> ?_⟩
  induction h with
  | refl=>exact h0.resolve_right (by simp)
  | step _ h2 ih=>exact (hc _ ih _ h2).resolve_right (by simp)
 | succ m ih=>
  intro out w hm ho hw hc h0 y;rw[rchF];rcases yPA w with rfl | ⟨u,x,rfl⟩
  ·simp only[List.getLast?_nil];refine ⟨ho y,fun h=> ?_⟩
   induction h with
   | refl=>exact h0.resolve_right (by simp)
   | step _ h2 ih=>exact (hc _ ih _ h2).resolve_right (by simp)
  ·rw[yPB] at*;simp only[yPC,yPD,yPE,yPF];have hx:=hw x (by simp);have hxi:=hx.in' hin hz;have hlen:(u++[x]).length=u.length+1:=by simp
   rw[hlen] at hm;by_cases hi:idxI x out 0 < 0
   ·rw[if_pos hi];have hxo:=(lH x out 0).1 hi;have h1:=zAM s.m.length out hxi.1 hxi.2 hxo;have h2:(uQ s x).length<=2000:=by
     unfold uQ;have:=fI (s.m.getD x.toNat v0) s.f [];rw[y6 (show x.toNat < s.m.length by omega)] at this|-;have:=hnd _ (yOH (show x.toNat < s.m.length by omega));simp at *; omega
    refine ih (insI out x) (u++uQ s x) (by rw[yPG];omega) ?_ ?_ ?_ ?_ y
    ·intro a ha;rcases vE.1 ha with rfl | ha
     ·exact hx
     ·exact ho a ha
    ·intro a ha;rcases yOL.1 ha with ha | ha
     ·exact hw a (by simp[ha])
     ·exact .step hx ha
    ·intro a ha b hb;rcases vE.1 ha with rfl | ha
     ·exact .inr (by simp[hb])
     ·rcases hc a ha b hb with h | h
      ·exact .inl (vE.2 (.inr h))
      ·rcases yOL.1 h with h | h
       ·exact .inr (by simp[h])
       ·rw[yON] at h;exact .inl (vE.2 (.inl h))
    ·rcases h0 with h | h
     ·exact .inl (vE.2 (.inr h))
     ·rcases yOL.1 h with h | h
      ·exact .inr (by simp[h])
      ·rw[yON] at h;exact .inl (vE.2 (.inl h))
   ·rw[if_neg hi];have hxo:x∈out:=Classical.byContradiction fun h=>hi ((lH x out 0).2 h);refine ih out u (by omega) ho (fun a ha=>hw a (by simp[ha])) ?_ ?_ y
    ·intro a ha b hb;rcases hc a ha b hb with h | h
     ·exact .inl h
     ·rcases yOL.1 h with h | h
      ·exact .inr h
      ·rw[yON] at h;subst h;exact .inl hxo
    ·rcases h0 with h | h
     ·exact .inl h
     ·rcases yOL.1 h with h | h
      ·exact .inr h
      ·rw[yON] at h;subst h;exact .inl hxo
def outS (s:Sy) (z:Int):List Int:=rchF (uQ s) 300000 [] [z]
theorem zNL {s:Sy} (hn:s.m.length<=100) (hin:∀v∈s.m,∀y∈lvV v s.f,0<=y/\y < s.m.length) (hnd:∀v∈s.m,zG v<=2000) (z:Int) (hz:0<=z/\z < s.m.length) (y:Int):y∈outS s z↔Rch s z y:=
 zUA hin hnd z hz 300000 [] [z] (by rw[lK];simp;omega) (by simp) (fun a ha=>by rw[yON] at ha;subst ha;exact .refl _) (by simp) (.inr (by simp)) y
theorem cX (nx:List Va) (e e':List Nat):∀a:Fm,uR (fun _=>False) a->evS nx e a=evS nx e' a/\prB nx e a=prB nx e' a:=by
 refine Fm.ind' fun o n m ar ih h=> ?_;rw[uR] at h;by_cases h14:o=14
 ·rw[if_pos h14] at h;exact h.elim
 rw[if_neg h14] at h;have hl:∀l:List Fm,(∀b∈l,b∈ar)->wG (fun _=>False) l->evSs nx e l=evSs nx e' l/\prBs nx e l=prBs nx e' l:=by
  intro l
  induction l with
  | nil=>intro _ _;exact ⟨by rw[evSs,evSs],by rw[prBs,prBs]⟩
  | cons b l ihl=>
   intro hm h;rw[wG] at h;obtain ⟨h1,h2⟩:=ih b (hm b (by simp)) h.1;obtain ⟨h3,h4⟩:=ihl (fun c hc=>hm c (by simp[hc])) h.2;rw[yC,yC,yB,yB,h1,h2,h3,h4];exact ⟨rfl,rfl⟩
 obtain ⟨h1,h2⟩:=hl ar (fun _ h=>h) h;rw[y7,y7,y5,y5,h1,h2,if_neg h14,if_neg h14];exact ⟨rfl,rfl⟩
theorem yLD {N:Nat}:∀g:Fu,zH g=true->∀v,valN N v g=true->∀y∈lvV v g,0<=y/\y < N:=by
 have hv:∀(v:Va) (g:Fu),zH g=true->valN N v g=true->∀y∈lvV v g,0<=y/\y < (N:Int):=by
  refine Va.ind' fun a gs ws ih g hg h y hy=> ?_;rw[lvV] at hy;rw[valN] at h;simp only[yOG] at h;obtain ⟨hok,_,hvs⟩:=h;by_cases k0:g.k=0
  ·rw[if_pos k0,yON] at hy;subst hy;unfold okV pD at hok;simp only[yOG,decide_eq_true_eq] at hok;have h1:=hok.2.1.1;have h2:=hok.2.1.2;rw[if_pos k0] at h2;simp only[Va.n] at h1 h2;exact ⟨h1,by omega⟩
  ·rw[if_neg k0] at hy;have hsh:=vC hg (.mk a gs ws);generalize zN g (.mk a gs ws)=fs at*;have:∀(l:List Va),(∀v∈l,v∈gs)->∀fs:List Fu,(∀a∈fs,zH a=true)->wV N l fs=true->y∈lvVs l fs->0<=y/\y < (N:Int):=by
    intro l
    induction l with
    | nil=>intro _ fs _ _ hy;rw[lvVs] at hy;simp at hy
    | cons v l ihl=>
     intro hm fs hfs h hy;cases fs with
     | nil=>rw[lvVs] at hy;simp at hy
     | cons f fs=>
      rw[wV,yOG] at h;rw[lvVs,yOL] at hy;rcases hy with hy | hy
      ·exact ih v (hm v (by simp)) f (hfs f (by simp)) h.1 y hy
      ·exact ihl (fun w hw=>hm w (by simp[hw])) fs (fun a ha=>hfs a (by simp[ha])) h.2 hy
   exact this gs (fun _ h=>h) fs hsh hvs hy
 exact fun g hg v h y hy=>hv v g hg h y hy
section
variable {s:Sy} (hy:isY s=true) {a:Fm} (hv:uR (fun _=>False) a)
include hy
theorem zHD:∀v∈s.m,∀y∈lvV v s.f,0<=y/\y < s.m.length:=by
 obtain ⟨y1,y2,y3⟩:=mK hy;exact fun v hv=>yLD s.f y1 v (y3 v hv).1
theorem rE (z:Nat) (hz:z < s.m.length) (y:Int):y∈outS s z↔Rch s z y:=by
 obtain ⟨y1,y2,y3⟩:=mK hy;exact zNL y2 (zHD hy) (fun v hv=>(y3 v hv).2) z (by omega) y
include hv
theorem zLR (hl:isL s.f [⟨true,alwM a s.f⟩]=true) (z:Nat) (hz:z < s.m.length):(solS s [⟨true,alwM a s.f⟩] 0).testBit z=(outS s z).all fun y=>(evS s.m [] a).testBit y.toNat:=by
 obtain ⟨y1,y2,y3⟩:=mK hy;obtain ⟨_,_,l3⟩:=zCZ hl;have hnx:∀v∈s.m,valN s.m.length v s.f=true:=fun v hv=>(y3 v hv).1;have hin:=zHD hy;have hst:∀(z:Nat) (h:z < s.m.length) y,y∈uQ s z↔y∈lvV s.m[z] s.f:=fun z h y=>by
  unfold uQ;rw[yOJ,y6 h,jF];simp
 generalize hE:wX s.m.length [⟨true,alwM a s.f⟩] [(⟨true,alwM a s.f⟩:Eqn)].length=E;have hEa:yX s.m E:=by rw[<-hE];exact tF s _ _
 have hS:solS s [⟨true,alwM a s.f⟩] 0=solX s.m ⟨true,alwM a s.f⟩ [] 0 E:=by unfold solS;rw[hE,lZ]
 obtain ⟨x1,x2,x3⟩:=uG y1 hnx l3 (k:=0) hEa;rw[hS];generalize solX s.m ⟨true,alwM a s.f⟩ [] 0 E=X at*;have hH:∀(Y z:Nat),(bodE s.m ⟨true,alwM a s.f⟩ (sol s.m [] (0+1) (updE E 0 Y))).testBit z=((evS s.m [] a).testBit z&&(decide (z < s.m.length)&&(lvV (s.m.getD z v0) s.f).all fun y=>Y.testBit y.toNat)):=by
  intro Y z;rw[show sol s.m [] (0+1) (updE E 0 Y)=updE E 0 Y from rfl];unfold bodE alwM;rw[(zNZ hv).1,y7,if_neg (by omega),if_neg (by omega),if_neg (by omega),if_pos rfl,yC,yC];rw[yOK,yPK,yOK,yOV,(cX s.m (e4 (updE E 0 Y)) [] a hv).1];congr 1;rw[y7,if_neg (by omega),if_neg (by omega),if_neg (by omega),if_neg (by omega),yB,yOK,uH];by_cases h:z < s.m.length
  ·have h':0<=z/\z < 0+s.m.length:=by omega
   have hvz:valN s.m.length (s.m.getD z v0) s.f=true:=by rw[y6 h];exact hnx _ (yOH h)
   rw[decide_eq_true h,decide_eq_true h',Nat.sub_zero,zDP s.m _ varM s.f y1 _ hvz];have hvar:evS s.m (e4 (updE E 0 Y)) varM=Y:=by
    unfold varM;rw[y7,if_neg (by omega),if_pos rfl]
    show (e4 (updE E 0 Y)).getD 0 0=Y
    rw[bB,if_pos (by omega),yK]
   rw[hvar]
  ·have h':¬(0<=z/\z < 0+s.m.length):=by omega
   rw[decide_eq_false h,decide_eq_false h'];simp
 rw[yOM,yOI];constructor
 ·intro hX y hyo;rw[rE hy z hz] at hyo;have hstep:∀t:Nat,X.testBit t=true->(evS s.m [] a).testBit t=true/\∀y∈uQ s t,X.testBit y.toNat=true:=by
   intro t ht;rw[<-x2,hH] at ht;simp only[yOG,decide_eq_true_eq,yOI] at ht;refine ⟨ht.1,fun y hy'=>ht.2.2 y ?_⟩;rw[y6 ht.2.1];exact (hst t ht.2.1 y).1 hy'
  have:∀x,Rch s z x->X.testBit x.toNat=true:=by
   intro x hx
   induction hx with
   | refl=>rw[yOJ];exact hX
   | @step x y hx h2 ih=>
    have hi:=hx.in' hin (show 0<=(z:Int)/\(z:Int) < s.m.length by omega);obtain ⟨n,rfl⟩:∃n:Nat,x=n:=⟨x.toNat,by omega⟩;rw[yOJ] at ih;exact (hstep n ih).2 y h2
  exact (hstep _ (this y hyo)).1
 ·intro hall
  let P:Nat->Bool:=fun t=>(outS s t).all fun y=>(evS s.m [] a).testBit y.toNat
  have hY:=x3 (mkT P s.m.length) (fun i hi=>by rw[sI] at hi;rw[uA];simp only[yOG] at hi;exact hi.1) (by
   show sub (mkT P s.m.length) _
   intro t ht;rw[sI] at ht;simp only[yOG,decide_eq_true_eq] at ht;obtain ⟨ht,hP⟩:=ht;have hP':∀y,Rch s t y->(evS s.m [] a).testBit y.toNat=true:=fun y hr=>yOI.1 hP y ((rE hy t ht y).2 hr);rw[hH];simp only[yOG,decide_eq_true_eq,yOI];have h1:=hP' t (.refl _);rw[yOJ] at h1;refine ⟨h1,ht,fun y hyl=> ?_⟩;rw[y6 ht] at hyl;have hyr:=hin _ (yOH ht) y hyl;obtain ⟨n,rfl⟩:∃n:Nat,y=n:=⟨y.toNat,by omega⟩;rw[yOJ,sI];have hn:n < s.m.length:=by omega
   simp only[yOG,decide_eq_true_eq];refine ⟨hn,yOI.2 fun x hx=>hP' x (.head ((hst t ht n).2 hyl) ((rE hy n hn x).1 hx))⟩)
  refine hY z ?_;rw[sI];simp only[yOG,decide_eq_true_eq];exact ⟨hz,yOI.2 hall⟩
theorem zIK (hl:isL s.f [⟨false,posM a s.f⟩]=true) (z:Nat) (hz:z < s.m.length):(solS s [⟨false,posM a s.f⟩] 0).testBit z=(outS s z).any fun y=>(evS s.m [] a).testBit y.toNat:=by
 obtain ⟨y1,y2,y3⟩:=mK hy;obtain ⟨_,_,l3⟩:=zCZ hl;have hnx:∀v∈s.m,valN s.m.length v s.f=true:=fun v hv=>(y3 v hv).1;have hin:=zHD hy;have hst:∀(z:Nat) (h:z < s.m.length) y,y∈uQ s z↔y∈lvV s.m[z] s.f:=fun z h y=>by
  unfold uQ;rw[yOJ,y6 h,jF];simp
 generalize hE:wX s.m.length [⟨false,posM a s.f⟩] [(⟨false,posM a s.f⟩:Eqn)].length=E;have hEa:yX s.m E:=by rw[<-hE];exact tF s _ _
 have hS:solS s [⟨false,posM a s.f⟩] 0=solX s.m ⟨false,posM a s.f⟩ [] 0 E:=by unfold solS;rw[hE,lZ]
 obtain ⟨x1,x2,x3⟩:=uG y1 hnx l3 (k:=0) hEa;rw[hS];generalize solX s.m ⟨false,posM a s.f⟩ [] 0 E=X at*;have hbn:∀(e:List Nat) (b:Fm) (i:Nat),(evS s.m e (notM b)).testBit i=(decide (i < s.m.length)&& !(evS s.m e b).testBit i):=fun e b i=>by
  unfold notM;rw[y7,if_neg (by omega),if_neg (by omega),if_pos rfl,yC,yOK,Nat.testBit_xor,yOV,uA];cases decide (i < s.m.length)<;>simp
 have hH:∀(Y z:Nat),(bodE s.m ⟨false,posM a s.f⟩ (sol s.m [] (0+1) (updE E 0 Y))).testBit z=(decide (z < s.m.length)&&((evS s.m [] a).testBit z || (lvV (s.m.getD z v0) s.f).any fun y=>Y.testBit y.toNat)):=by
  intro Y z;rw[show sol s.m [] (0+1) (updE E 0 Y)=updE E 0 Y from rfl];unfold bodE posM;rw[hbn,(zNZ hv).1,y7,if_neg (by omega),if_neg (by omega),if_neg (by omega),if_pos rfl,yC,yC];rw[yOK,yPK,yOK,yOV,hbn,(cX s.m (e4 (updE E 0 Y)) [] a hv).1];rw[y7,if_neg (by omega),if_neg (by omega),if_neg (by omega),if_neg (by omega),yB,yOK,uH];by_cases h:z < s.m.length
  ·have h':0<=z/\z < 0+s.m.length:=by omega
   have hvz:valN s.m.length (s.m.getD z v0) s.f=true:=by rw[y6 h];exact hnx _ (yOH h)
   rw[decide_eq_true h,decide_eq_true h',Nat.sub_zero,zDP s.m _ (notM varM) s.f y1 _ hvz];have hvar:evS s.m (e4 (updE E 0 Y)) varM=Y:=by
    unfold varM;rw[y7,if_neg (by omega),if_pos rfl]
    show (e4 (updE E 0 Y)).getD 0 0=Y
    rw[bB,if_pos (by omega),yK]
   have hlz:=hin _ (yOH h);rw[y6 h];have e1:((lvV s.m[z] s.f).all fun y=>(evS s.m (e4 (updE E 0 Y)) (notM varM)).testBit y.toNat)= !((lvV s.m[z] s.f).any fun y=>Y.testBit y.toNat):=by
    rw[List.not_any_eq_all_not,yOM,yOI,yOI];refine forall_congr' fun y=>forall_congr' fun hyl=> ?_;have:=hlz y hyl;rw[hbn,hvar,decide_eq_true (show y.toNat < s.m.length by omega),Bool.true_and]
   rw[e1];cases (evS s.m [] a).testBit z<;>simp
  ·rw[decide_eq_false h];simp
 rw[yOM,yOP];constructor
 ·intro hX
  let P:Nat->Bool:=fun t=>(outS s t).any fun y=>(evS s.m [] a).testBit y.toNat
  have hY:=x3 (mkT P s.m.length) (fun i hi=>by rw[sI] at hi;rw[uA];simp only[yOG] at hi;exact hi.1) (by
   show sub _ (mkT P s.m.length)
   intro t ht;rw[hH] at ht;simp only[yOG,decide_eq_true_eq,yPL,yOP] at ht;obtain ⟨ht,hc⟩:=ht;rw[sI];simp only[yOG,decide_eq_true_eq];refine ⟨ht,yOP.2 ?_⟩;rcases hc with hc | ⟨y,hyl,hyY⟩
   ·exact ⟨t,(rE hy t ht t).2 (.refl _),by rw[yOJ];exact hc⟩
   ·rw[y6 ht] at hyl;have hyr:=hin _ (yOH ht) y hyl;obtain ⟨n,rfl⟩:∃n:Nat,y=n:=⟨y.toNat,by omega⟩;rw[yOJ,sI] at hyY;simp only[yOG,decide_eq_true_eq] at hyY;obtain ⟨x,hx,hxb⟩:=yOP.1 hyY.2;exact ⟨x,(rE hy t ht x).2 (.head ((hst t ht n).2 hyl) ((rE hy n hyY.1 x).1 hx)),hxb⟩)
  have:=hY z hX;rw[sI] at this;simp only[yOG,decide_eq_true_eq] at this;exact yOP.1 this.2
 ·rintro ⟨y,hyo,hyb⟩;rw[rE hy z hz] at hyo;have hback:∀t:Nat,t < s.m.length->((evS s.m [] a).testBit t=true\/∃y∈uQ s t,X.testBit y.toNat=true)->X.testBit t=true:=by
   intro t ht hc;rw[<-x2,hH];simp only[yOG,decide_eq_true_eq,yPL,yOP];refine ⟨ht,hc.imp_right ?_⟩;rintro ⟨y,hy',hyX⟩;exact ⟨y,by rw[y6 ht];exact (hst t ht y).1 hy',hyX⟩
  have hyi:=hyo.in' hin (show 0<=(z:Int)/\(z:Int) < s.m.length by omega);have hyX:X.testBit y.toNat=true:=hback _ (by omega) (.inl hyb);have:∀x,Rch s z x->X.testBit x.toNat=true->X.testBit z=true:=by
   intro x hx
   induction hx with
   | refl=>intro h;rwa [yOJ] at h
   | @step x y hx h2 ih=>
    intro h;have hi:=hx.in' hin (show 0<=(z:Int)/\(z:Int) < s.m.length by omega);obtain ⟨n,rfl⟩:∃n:Nat,x=n:=⟨x.toNat,by omega⟩;exact ih (by rw[yOJ];exact hback n (by omega) (.inr ⟨y,h2,h⟩))
  exact this y hyo hyX
end
end Go.Ab.Tab
/- The reference's List,and same: of one set that is a value. Law 4's loops. -/
namespace Go.Ab.Tab
open Go Go.Ab
theorem l72i (D:Nat) (b:List Bool) (hx:b.length < 2^31) {S:Nat->Nat->Ent}:∀(j i:Nat) (acc:List Nat) (τ ω) (r:AV),i+j=b.length->acc.length<=i->
  τ 3= .sl 1 (acc.map encN) .tip->τ 6= .sl 1 (b.map AV.bool) .no->τ 7= .int .i64 b.length->τ 8= .int .i64 i->r= .sl 1 ((acc++(List.range' i j).filter fun i=>b.getD i false).map encN) .no->
  Rd (Loc Pg Gl) .im (RetS [.tmp 2] r D S []) [.lp c72_l0,.blk 0,.c zKN] (stF 20 D τ ω S):=by
 intro j
 induction j with
 | zero=>
  intro i acc τ ω r hi ha t3 t6 t7 t8 hr;refine zM c72_l0.eq_1 ?_;obtain rfl:i=b.length:=by omega
  simp at hr;simp[t3,t6,t7,t8,zKN,hr,upds]
 | succ j ih=>
  intro i acc τ ω r hi ha t3 t6 t7 t8 hr;refine zM c72_l0.eq_1 ?_;have hlt:i < b.length:=by omega
  have hlt':(i:Int) < b.length:=by omega
  have hwr:IntKind.i64.wrap ((i:Int)+1)=((i+1:Nat):Int):=by rw[<-zF (n:=i+1) (by omega)];rfl
  rw[yPH,List.filter_cons] at hr;have hg:b.getD i false=b[i]:=y6 hlt;rw[hg] at hr;have hle:(acc.length+1)*8<=1099511627776:=by omega
  cases hb:b[i]
  ·rw[hb] at hr;simp[t3,t6,t7,t8,hlt,hlt',hb,hwr];refine ih (i+1) acc _ ω r (by omega) (by omega) ?_ ?_ ?_ ?_ hr;all_goals simp[t3,t6,t7]
  ·rw[hb] at hr;simp[t3,t6,t7,t8,hlt,hlt',hb,hwr,hle];refine ih (i+1) (acc++[i]) _ ω r (by omega) (by simp;omega) ?_ ?_ ?_ ?_ (by rw[hr];simp);all_goals simp[t3,t6,t7,encN]
theorem zST (D:Nat) (b:List Bool) (hx:b.length < 2^31):Go.Ab.Loc Pg Gl D 72 [.sl 1 (b.map AV.bool) .no] [] (.sl 1 ((vV b).map encN) .no) []:=by
 refine zJB zI tok rfl rfl fun S hS=> ?_;generalize hr:AV.sl 1 ((vV b).map encN) .no=r;unfold c72;simp;refine l72i D b hx b.length 0 [] _ _ r (by omega) (by simp) ?_ ?_ ?_ ?_ (by rw[<-hr,vV,List.range_eq_range'];simp);all_goals simp
theorem zHM (D:Nat) (b:List Bool) (hx:b.length < 2^31):Go.Ab.Loc Pg Gl D 24 [.sl 1 [encI (toZ (vV b))] .no,.sl 1 [.sl 1 (b.map AV.bool) .no] .no] [] (.bool true) []:=by
 refine yD zI tok rfl rfl fun S hS=> ?_;have h72:=zST (D+1) b hx;have hel:(vV b).length<=b.length:=by unfold vV;exact Nat.le_trans (List.length_filter_le _ _) (by simp)
 have hzl:(toZ (vV b)).length=(vV b).length:=zHB _;unfold c24;simp;refine zM c24_l1.eq_1 ?_;simp;refine zE h72 (by simp) ?_;simp[encI,hzl];refine l24a (L:=[toZ (vV b)]) (i:=0) (by simp) (x:=vV b) rfl (by omega) (vV b).length 0 _ _ (by omega) ?_ ?_ ?_ ?_ ?_ fun τ' a0 a1 a15 a16 a17=> ?_
 case refine_6=>
  simp at a0 a1 a15 a16 a17;simp[zRC,a17,show IntKind.i64.wrap 1=1 from rfl];refine zM c24_l1.eq_1 ?_;simp[a16,zRB,upds]
 all_goals simp[encI]
theorem l4a (D n:Nat) (I:List Bool) (hI:I.length=n) (q:Int->Bool) (hq:∀t:Nat,t < n->I[t]?=some (q t)) (out:List Int) (hol:out.length<=2^40) (hor:∀y∈out,0<=y/\y < n) (A B:List Bool) (hA:A.length=n) (hB:B.length=n) (z:Nat) (hz:z < n) (gA gB:Nat) (S) (Q:St->Prop) (K:List AI) (τ0:Nat->AV) (ω0:Nat->Ent) (ra rb:Bool)
  (t13:τ0 13= .sl 1 (I.map AV.bool) .no) (t14:τ0 14= .own D 101 gA 0 n 1 false) (t15:τ0 15= .own D 105 gB 0 n 1 false) (t16:τ0 16=iI z)
  (hK:∀τ ω,(∀i,(i < 18\/i=106\/i=107\/i=108\/i=109)->τ i=τ0 i)->(∀i,i≠101->i≠105->ω i=ω0 i)->ω 101=(gA,.cells ((A.set z ra).map AV.bool))->ω 105=(gB,.cells ((B.set z rb).map AV.bool))->Rd (Loc Pg Gl) .im Q K (stF 173 D τ ω S)):
  ∀(j k:Nat) (va vb:Bool) (τ ω),k+j=out.length->(va&&(out.drop k).all q)=ra->(vb || (out.drop k).any q)=rb->
  (∀i,(i < 18\/i=106\/i=107\/i=108\/i=109)->τ i=τ0 i)->(∀i,i≠101->i≠105->ω i=ω0 i)->ω 101=(gA,.cells ((A.set z va).map AV.bool))->ω 105=(gB,.cells ((B.set z vb).map AV.bool))->
  τ 118= .sl 1 (out.map iI) .no->τ 119=iI out.length->τ 120=iI k->
  Rd (Loc Pg Gl) .im Q (.lp c4_l0:: .blk 2::K) (stF 173 D τ ω S):=by
 intro j
 induction j with
 | zero=>
  intro k va vb τ ω hk ha hb hτ hω w101 w105 t118 t119 t120;refine zM c4_l0.eq_1 ?_;obtain rfl:k=out.length:=by omega
  rw[yOQ] at ha hb;simp at ha hb;simp[t119,t120];refine hK _ _ (fun i hi=> ?_) hω ?_ ?_
  ·rw[<-hτ i hi];simp only[upd];rw[if_neg (by omega)]
  ·rw[w101,<-ha]
  ·rw[w105,<-hb]
 | succ j ih=>
  intro k va vb τ ω hk ha hb hτ hω w101 w105 t118 t119 t120;refine zM c4_l0.eq_1 ?_;have hlt:k < out.length:=by omega
  have hwr:IntKind.i64.wrap ((k:Int)+1)=((k+1:Nat):Int):=by rw[<-zF (n:=k+1) (by omega)];rfl
  have u13:=(hτ 13 (by omega)).trans t13;have u14:=(hτ 14 (by omega)).trans t14;have u15:=(hτ 15 (by omega)).trans t15;have u16:=(hτ 16 (by omega)).trans t16;rw[yOO hlt] at ha hb;obtain ⟨hy0,hy1⟩:=hor _ (yOH hlt);generalize hge:out[k]=y at*;obtain ⟨t,rfl⟩:∃t:Nat,y=t:=⟨y.toNat,by omega⟩;rw[yOR,<-yPI] at ha;rw[List.any_cons,<-Bool.or_assoc] at hb;have ht:t < I.length:=by omega
  have htn:t < n:=by omega
  have hqt:=hq t htn;have hIt:I[t]=q t:=by rw[yOW ht] at hqt;exact Option.some.inj hqt
  have fA:∀(L:List Bool) (v:Bool),L.length=n->((L.set z v).map AV.bool).length=n/\((L.set z v).map AV.bool)[z]?=some (.bool v)/\∀c:Bool,List.take z ((L.set z v).map AV.bool)++AV.bool c::List.drop (z+1) ((L.set z v).map AV.bool)=(L.set z c).map AV.bool:=fun L v hL=>by
   refine ⟨by simp[hL],by simp[hL,hz],fun c=> ?_⟩;have h:=yPM (l:=(L.set z v).map AV.bool) (i:=z) (a:=AV.bool c);rw[if_pos (by simp[hL,hz])] at h;rw[<-h,<-List.map_set,List.set_set]
  obtain ⟨a1,a2,a3⟩:=fA A va hA;obtain ⟨b1,b2,b3⟩:=fA B vb hB;generalize (A.set z va).map AV.bool=cA at*;generalize (B.set z vb).map AV.bool=cB at*;have hz1:z+1<=n:=hz;have a2g:∀h:z < cA.length,cA[z]= .bool va:=fun h=>by rw[yOW h] at a2;exact Option.some.inj a2
  have b2g:∀h:z < cB.length,cB[z]= .bool vb:=fun h=>by rw[yOW h] at b2;exact Option.some.inj b2
  have fin:∀τ' ω',(∀i,(i < 18\/i=106\/i=107\/i=108\/i=109)->τ' i=τ i)->(∀i,i≠101->i≠105->ω' i=ω i)->ω' 101=(gA,.cells ((A.set z (va&&q t)).map AV.bool))->ω' 105=(gB,.cells ((B.set z (vb || q t)).map AV.bool))->τ' 118= .sl 1 (out.map iI) .no->τ' 119=iI out.length->τ' 120=iI ((k+1:Nat):Int)->Rd (Loc Pg Gl) .im Q (.lp c4_l0:: .blk 2::K) (stF 173 D τ' ω' S):=
   fun τ' ω' h1 h2 h3 h4 h5 h6 h7=>ih (k+1) _ _ τ' ω' (by omega) ha hb (fun i hi=>(h1 i hi).trans (hτ i hi)) (fun i hi hi'=>(h2 i hi hi').trans (hω i hi hi')) h3 h4 h5 h6 h7
  cases va<;>cases vb<;>cases hqv:q t<;>rw[hqv] at hIt fin<;>
  ·simp[t118,t119,t120,u13,u14,u15,u16,w101,w105,hlt,hge,hz,hz1,a1,a2g,a3,b1,b2g,b3,ht,htn,hIt,hI,hwr];refine fin _ _ (fun i hi=> ?_) (fun i hi hi'=> ?_) ?_ ?_ ?_ ?_ ?_
   case refine_1=>simp only[upd];repeat rw[if_neg (by omega)]
   case refine_2=>simp only[upd];repeat rw[if_neg (by omega)]
   all_goals simp[t118,t119]
end Go.Ab.Tab
/- Law 4 (FixReach). -/
namespace Go.Ab.Tab
open Go Go.Ab
mutual
theorem zQB {n:Nat}:∀(v:Va) (f:Fu),valN n v f=true->ptV v f
 | .mk a gs ws,f,h=>by
  rw[valN] at h;rw[ptV];unfold okV xX at h;simp only[yOG,decide_eq_true_eq] at h;exact ⟨h.1.1.2,zGZ gs _ h.2.2⟩
theorem zGZ {n:Nat}:∀(l:List Va) (fs:List Fu),wV n l fs=true->ptVs l fs
 | [],_,_=>by rw[ptVs];trivial
 | v::l,[],h=>by rw[wV] at h;cases h
 | v::l,f::fs,h=>by
  rw[wV,yOG] at h;rw[ptVs];exact ⟨zQB v f h.1,zGZ l fs h.2⟩
end
theorem fR (nx:Int->List Int):∀(m:Nat) (out w:List Int),(rchF nx m out w).length<=out.length+m
 | 0,out,w=>by rw[rchF];omega
 | m+1,out,w=>by
  rw[rchF];split
  ·omega
  ·rename_i x _;split
   ·have:=fR nx m (insI out x) (w.dropLast++nx x);have:=lG x out;omega
   ·have:=fR nx m out w.dropLast;omega
def AZ (r:Nat->Bool) (n z:Nat):List Bool:=(List.range n).map fun i=>decide (i < z)&&r i
theorem sV (r n z):(AZ r n z).length=n:=by simp[AZ]
theorem bY {r:Nat->Bool} {n z i:Nat} (h:i < n):(AZ r n z)[i]?=some (decide (i < z)&&r i):=by unfold AZ;rw[List.getElem?_map,List.getElem?_range h];rfl
theorem zMQ (r:Nat->Bool) (n:Nat):AZ r n 0=List.replicate n false:=by
 apply yOX;intro i;by_cases h:i < n
 ·rw[bY h,List.getElem?_replicate,if_pos h];simp
 ·rw[yOS (by rw[sV];omega),yOS (by simp;omega)]
theorem zRI (r:Nat->Bool) {n z:Nat} (h:z < n):(AZ r n z).set z (r z)=AZ r n (z+1):=by
 apply yOX;intro i;rw[yPN];by_cases hi:i < n
 ·rw[bY hi,bY hi];by_cases e:z=i
  ·subst e;rw[if_pos rfl,if_pos (by rw[sV];omega)];simp
  ·rw[if_neg e];by_cases h2:i < z
   ·simp[h2,show i < z+1 by omega]
   ·simp[h2,show¬i < z+1 by omega]
 ·rw[yOS (by rw[sV];omega:(AZ r n (z+1)).length<=i),if_neg (by omega),yOS (by rw[sV];omega)]
theorem zXF (r:Nat->Bool) {n z:Nat} (h:z < n):(AZ r n z).set z false=AZ r n z:=by
 apply yOX;intro i;rw[yPN];by_cases e:z=i
 ·subst e;rw[if_pos rfl,if_pos (by rw[sV];omega),bY h];simp
 ·rw[if_neg e]
theorem zDW {r:Nat->Bool} {n X:Nat} (h:∀z,z < n->X.testBit z=r z):vV (AZ r n n)=oW X n:=by
 unfold vV oW;rw[sV];refine List.filter_congr fun i hi=> ?_;rw[List.mem_range] at hi;rw[List.getD_eq_getElem?_getD,bY hi,h i hi];simp[hi]
def sgL (f:Fu) (x:Eqn):List Eqn:=if isL f [x] then [x] else []
def sgE (f:Fu) (x:Eqn):Int:=if isL f [x] then 0 else 2
theorem zNB (f:Fu) (x:Eqn):mW f x= .tup [encL (sgL f x),.int .i64 (sgE f x)]:=by
 unfold mW sgL sgE;cases isL f [x]<;>rfl
section
variable {D:Nat}
theorem l4b (haw:∀D,Go.Ab.Loc Pg Gl D 12 [] [] (.bool true) []) (s:Sy) (hy:isY s=true) (hn60:s.m.length<=60) (hnod:zJ s.m<=2^20) (I:List Bool) (hI:I.length=s.m.length) (q:Int->Bool) (hq:∀t:Nat,t < s.m.length->I[t]?=some (q t)) (xa xb:List Int)
  (hxa:xa=toZ (vV (AZ (fun z=>(outS s z).all q) s.m.length s.m.length))) (hxb:xb=toZ (vV (AZ (fun z=>(outS s z).any q) s.m.length s.m.length))) (S):∀(j z:Nat) (τ ω),z+j=s.m.length->
  τ 2= .ptr D 2 1 0->τ 9= .sl 1 [encI xa] .no->τ 10=iI 0->τ 11= .sl 1 [encI xb] .no->τ 12=iI 0->τ 13= .sl 1 (I.map AV.bool) .no->τ 14= .own D 101 1 0 s.m.length 1 false->τ 15= .own D 105 1 0 s.m.length 1 false->τ 108=iI s.m.length->τ 109=iI z->
  ω 2=(1,.cells [.int .i64 s.f.k,.int .i64 s.f.n,.sl 3 (s.f.gs.map encF) .no,.sl 3 (s.m.map encV) .no])->ω 101=(1,.cells ((AZ (fun z=>(outS s z).all q) s.m.length z).map AV.bool))->ω 105=(1,.cells ((AZ (fun z=>(outS s z).any q) s.m.length z).map AV.bool))->
  Rd (Loc Pg Gl) .im (RetQ [.tmp 4] (.bool true) S) [.lp c4_l1,.blk 0,.c zVT] (stF 173 D τ ω S):=by
 have haw1:=haw (D+1);obtain ⟨y1,y2,y3⟩:=mK hy;have hmm:∀v∈s.m,ptV v s.f/\zG v<=2000:=fun v hv=>⟨zQB v s.f (y3 v hv).1,(y3 v hv).2⟩;intro j
 induction j with
 | zero=>
  intro z τ ω hz t2 t9 t10 t11 t12 t13 t14 t15 t108 t109 w2 w101 w105;refine zM c4_l1.eq_1 ?_;obtain rfl:z=s.m.length:=by omega
  have h24a:=zHM (D+1) (AZ (fun z=>(outS s z).all q) s.m.length s.m.length) (by rw[sV];omega);have h24b:=zHM (D+1) (AZ (fun z=>(outS s z).any q) s.m.length s.m.length) (by rw[sV];omega);rw[<-hxa] at h24a;rw[<-hxb] at h24b;have hfA:∀τ,frz (stF 173 D τ ω S) frzD (.own D 101 1 0 s.m.length 1 false)=some (xU (AZ (fun z=>(outS s z).all q) s.m.length s.m.length),[(D,101)]):=fun τ=>tS (by decide) (sV ..) w101;have hfB:∀τ ω,ω 105=(1,.cells ((AZ (fun z=>(outS s z).any q) s.m.length s.m.length).map AV.bool))->frz (stF 173 D τ ω S) frzD (.own D 105 1 0 s.m.length 1 false)=some (xU (AZ (fun z=>(outS s z).any q) s.m.length s.m.length),[(D,105)]):=fun τ ω w=>tS (by decide) (sV ..) w;generalize AZ (fun z=>(outS s z).all q) s.m.length s.m.length=A at*;generalize AZ (fun z=>(outS s z).any q) s.m.length s.m.length=B at*;simp[t108,t109,zVT,t9,t10,t11,t12,t14,t15,hfA,xU];refine zE h24a (by simp) ?_
  simp[t11,t12,t15,hfB,w105,xU];refine zE h24b (by simp) ?_;simp;refine zE haw1 (by simp) ?_;simp
 | succ j ih=>
  intro z τ ω hz t2 t9 t10 t11 t12 t13 t14 t15 t108 t109 w2 w101 w105;refine zM c4_l1.eq_1 ?_;have hlt:z < s.m.length:=by omega
  have hlt1:z+1<=s.m.length:=by omega
  have hwr:IntKind.i64.wrap ((z:Int)+1)=((z+1:Nat):Int):=by rw[<-zF (n:=z+1) (by omega)];rfl
  have h23:=yCD y1 hmm (zHD hy) y2 z hlt (D+1);have e23:rchF (uQ s) 300000 [] [(z:Int)]=outS s z:=rfl;rw[e23] at h23;have hor:∀y∈outS s z,0<=y/\y < s.m.length:=fun y hyo=>((rE hy z hlt y).1 hyo).in' (zHD hy) (by omega);have hol:(outS s z).length<=2^40:=by have:=fR (uQ s) 300000 [] [(z:Int)];unfold outS;simp at this;omega
  have hAl:(AZ (fun z=>(outS s z).all q) s.m.length z).length=s.m.length:=sV ..;have hBl:(AZ (fun z=>(outS s z).any q) s.m.length z).length=s.m.length:=sV ..;have hA2:=zRI (fun z=>(outS s z).all q) hlt;have hB2:=zRI (fun z=>(outS s z).any q) hlt;have hB0:=zXF (fun z=>(outS s z).any q) hlt;have hA0:List.take z ((AZ (fun z=>(outS s z).all q) s.m.length z).map AV.bool)++AV.bool true::List.drop (z+1) ((AZ (fun z=>(outS s z).all q) s.m.length z).map AV.bool)=((AZ (fun z=>(outS s z).all q) s.m.length z).set z true).map AV.bool:=by
   have h:=yPM (l:=(AZ (fun z=>(outS s z).all q) s.m.length z).map AV.bool) (i:=z) (a:=AV.bool true);rw[if_pos (by simp[hAl,hlt])] at h;rw[<-h,<-List.map_set]
  generalize hR:AZ (fun z=>(outS s z).all q) s.m.length (z+1)=A2 at*;generalize hR':AZ (fun z=>(outS s z).any q) s.m.length (z+1)=B2 at*;generalize AZ (fun z=>(outS s z).all q) s.m.length z=A at*;generalize AZ (fun z=>(outS s z).any q) s.m.length z=B at*;generalize outS s z=out at*;simp[encY] at h23;simp[t2,t14,t108,t109,w2,w101,hlt,hlt1,hAl,hA0];refine zE h23 (by simp) ?_;simp;refine l4a D s.m.length I hI q hq out hol hor A B hAl hBl z hlt 1 1 S _ _ (upd τ 16 (iI z)) ω (out.all q) (out.any q) (by simp[t13]) (by simp[t14]) (by simp[t15]) (by simp) (fun τ' ω' u1 u2 u3 u4=> ?_) out.length 0 true false _ _ (by simp) (by simp) (by simp) ?_ ?_ ?_ ?_ ?_ ?_ ?_
  ·have v2:=u1 2 (by omega);have v9:=u1 9 (by omega);have v10:=u1 10 (by omega);have v11:=u1 11 (by omega);have v12:=u1 12 (by omega);have v13:=u1 13 (by omega);have v14:=u1 14 (by omega);have v15:=u1 15 (by omega);have v108:=u1 108 (by omega);have v109:=u1 109 (by omega);have x2:=u2 2 (by omega) (by omega);simp at v2 v9 v10 v11 v12 v13 v14 v15 v108 v109;rw[hA2] at u3;rw[hB2] at u4;simp[yEU,v109,t109,hwr];refine ih (z+1) _ _ (by omega) ?_ ?_ ?_ ?_ ?_ ?_ ?_ ?_ ?_ ?_ ?_ ?_ ?_
   case refine_12=>rw[hR];exact u3
   case refine_13=>rw[hR'];exact u4
   all_goals simp[v2,v9,v10,v11,v12,v13,v14,v15,v108,x2,t2,t9,t10,t11,t12,t13,t14,t15,t108,w2]
  ·intro i hi;simp only[upd];by_cases h16:i=16
   ·subst h16;rfl
   ·simp only[if_neg h16];repeat rw[if_neg (by omega)]
  ·intro i hi hi';simp only[upd];rw[if_neg hi]
  ·simp
  ·simp[w105,hB0]
  all_goals simp
end
end Go.Ab.Tab
