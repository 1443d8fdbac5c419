/- Law 8 (FixForms). -/
import Derived.Test.YtkjbakmlonpdjaaGreatDoorFormsI
import Derived.Test.YtkjbakmlonpdjaaGreatDoorFormsB4
import Derived.Test.YtkjbakmlonpdjaaGreatDoorCards
import Derived.Test.YtkjbakmlonpdjaaGreatDoorTie
import Derived.LaidLaws
import Derived.Handed
import Derived.SevenTiedAt
set_option linter.unusedVariables false
set_option linter.unusedSimpArgs false
set_option maxRecDepth 10000
namespace Go.Ab.Tab
open Go Go.Ab
theorem val_sub (f:Fu) {N:Int} {φ:Int->Fm} (hφ:∀n,0<=n->n < N->valM f 0 none false (φ n)=true):∀(a:Fm) (md:Option Fu) (odd:Bool),valM f N md odd a=true->valM f 0 md odd (subM φ a)=true:=by
 refine Fm.ind' fun o n m ar ih md odd h=> ?_
 have hs:∀(md:Option Fu) (odd:Bool),valMs f N md odd ar=true->valMs f 0 md odd (ar.map (subM φ))=true:=by
  intro md odd h
  rw[valMs_all,List.all_eq_true] at h|-
  intro b hb
  obtain ⟨c,hc,rfl⟩:=List.mem_map.1 hb
  exact ih c hc md odd (h c hc)
 have nil:ar.isEmpty=true->(ar.map (subM φ)).isEmpty=true:=fun h=>by rw[List.isEmpty_iff.1 h];rfl
 have hln:(ar.map (subM φ)).length=ar.length:=by simp
 rw[y6] at h
 rw[subM,subMs_eq]
 by_cases h14:o=14
 ·subst h14
  rw[if_neg (by omega),if_neg (by omega),if_neg (by omega)] at h
  rw[if_pos rfl]
  cases md with
  | none=>
   simp at h
   rw[h.2]
   exact hφ n h.1.1.2 h.1.2
  | some g=>
   simp only at h
   by_cases k0:g.k=0
   ·rw[if_pos k0] at h;simp at h
   rw[if_neg k0] at h
   by_cases k1:g.k=1
   ·rw[if_pos k1] at h;simp at h
   rw[if_neg k1] at h
   simp only[Bool.and_eq_true] at h
   have:=h.1.1
   unfold inOk at this
   exfalso
   revert this
   simp
 rw[if_neg h14,y6,hln]
 by_cases h0:o=0
 ·subst h0;rw[if_pos rfl] at h|-;simp only[Bool.and_eq_true] at h|-;exact ⟨⟨nil h.1.1,h.1.2⟩,h.2⟩
 rw[if_neg h0] at h|-
 by_cases h1:o=1
 ·subst h1;rw[if_pos rfl] at h|-;simp only[Bool.and_eq_true] at h|-;exact ⟨h.1,hs _ _ h.2⟩
 rw[if_neg h1] at h|-
 by_cases h2:o=2
 ·subst h2;rw[if_pos rfl] at h|-;simp only[Bool.and_eq_true] at h|-;exact ⟨h.1,hs _ _ h.2⟩
 rw[if_neg h2] at h|-
 cases md with
 | none=>
  simp only at h|-
  by_cases h3:o=3
  ·subst h3;rw[if_pos rfl] at h|-;simp only[Bool.and_eq_true] at h|-;exact ⟨h.1,hs _ _ h.2⟩
  rw[if_neg h3,if_neg h14] at h
  cases h
 | some g=>
  simp only at h|-
  by_cases k0:g.k=0
  ·rw[if_pos k0] at h|-;simp only[Bool.and_eq_true] at h|-;exact ⟨h.1,hs _ _ h.2⟩
  rw[if_neg k0] at h|-
  by_cases k1:g.k=1
  ·rw[if_pos k1] at h|-;simp only[Bool.and_eq_true] at h|-;exact ⟨h.1,nil h.2⟩
  rw[if_neg k1] at h|-
  simp only[Bool.and_eq_true] at h|-;exact ⟨h.1,hs _ _ h.2⟩
theorem rnd_val {f:Fu} {l:List Eqn} (hq:∀x∈l,valM f l.length none false x.body=true):∀k i,i < l.length->valM f 0 none false (rndM l k i)=true:=by
 intro k
 induction k with
 | zero=>
  intro i hi
  rw[rndM]
  unfold topM notM
  split
  ·rw[y6,if_pos rfl];rfl
  ·rw[y6,if_neg (by omega),if_pos rfl,valMs,valMs,y6,if_pos rfl];rfl
 | succ k ih=>
  intro i hi
  rw[rndM,getE hi]
  exact val_sub f (fun n h0 h1=>ih _ (by omega)) _ _ _ (hq _ (List.getElem_mem hi))
theorem rnd_ok {f:Fu} {l:List Eqn} (hq:∀x∈l,valM f l.length none false x.body=true) (k i:Nat) (hi:i < l.length):isFm f (rndM l k i)=okK l k i:=by
 unfold isFm okK
 rw[rnd_val hq k i hi];rfl
theorem cost2:∀a:Fm,costM (fun _=>2) a<=2*zC a:=by
 refine Fm.ind' fun o n m ar ih=> ?_
 rw[costM,zC]
 have:∀l:List Fm,(∀b∈l,b∈ar)->costMs (fun _=>2) l<=2*zQ l:=by
  intro l
  induction l with
  | nil=>intro _;rw[costMs];omega
  | cons b l ihl=>intro hl;rw[costMs,zQ];have:=ih b (hl b (by simp));have:=ihl fun c hc=>hl c (by simp[hc]);omega
 have:=this ar fun _ h=>h
 split<;>omega
theorem rnd_cases {f:Fu} {l:List Eqn} (hq:∀x∈l,valM f l.length none false x.body=true) (k:Nat):
  (∃a:List Fm,rndR f l k= .tup [.sl 4 (a.map encM) .no,.int .i64 0]/\refR l k= .tup [.sl 4 (a.map encM) .no,.bool true]/\a.length=l.length/\∀x∈a,zC x<=2000)\/(rndR f l k= .tup [.sl 4 [] .no,.int .i64 2]/\refR l k= .tup [.sl 4 [] .no,.bool false]):=by
 have e:(List.range l.length).all (fun i=>isFm f (rndM l k i))=(List.range l.length).all (okK l k):=by
  rw[Bool.eq_iff_iff,List.all_eq_true,List.all_eq_true]
  constructor
  ·intro h x hx;rw[<-rnd_ok hq k x (List.mem_range.1 hx)];exact h x hx
  ·intro h x hx;rw[rnd_ok hq k x (List.mem_range.1 hx)];exact h x hx
 unfold rndR refR
 rw[e]
 by_cases h:(List.range l.length).all (okK l k)=true
 ·left
  have hk:∀i,i < l.length->zC (rndM l k i)<=2000:=fun i hi=>by
   have:=List.all_eq_true.1 h i (List.mem_range.2 hi)
   unfold okK at this
   simp only[Bool.and_eq_true,decide_eq_true_eq] at this
   exact this.1
  have ho:outK l k=(List.range l.length).map (rndM l k):=by
   unfold outK
   refine List.map_congr_left fun i hi=> ?_
   unfold outF
   rw[if_pos (hk i (List.mem_range.1 hi))]
  refine ⟨(List.range l.length).map (rndM l k),?_,?_,by simp,?_⟩
  ·rw[if_pos h,List.map_map];rfl
  ·rw[if_pos h,ho]
  ·intro x hx
   obtain ⟨i,hi,rfl⟩:=List.mem_map.1 hx
   exact hk i (List.mem_range.1 hi)
 ·right
  rw[if_neg h,if_neg h]
  exact ⟨rfl,rfl⟩
section
variable {D:Nat}
theorem l8 (haw:∀D,Go.Ab.Loc Pg Gl D 12 [] [] (.bool true) []) (a:List Fm) (ha:∀x∈a,zC x<=2000) (hl:a.length<=4) (S) (Q:St->Prop) (K:List AI) (hK:∀τ ω,Rd (Loc Pg Gl) .im Q K (stF 159 D τ ω S)):∀(j i:Nat) (τ ω),i+j=a.length->τ 13= .sl 4 (a.map encM) .no->τ 138= .sl 4 (a.map encM) .no->τ 139= .int .i64 a.length->τ 140= .int .i64 i->
  Rd (Loc Pg Gl) .im Q (.lp c8_l0:: .blk 1::K) (stF 159 D τ ω S):=by
 intro j
 induction j with
 | zero=>
  intro i τ ω hi t13 t138 t139 t140
  refine zL c8_l0.eq_1 ?_
  obtain rfl:i=a.length:=by omega
  simp[t138,t139,t140]
  exact hK _ _
 | succ j ih=>
  intro i τ ω hi t13 t138 t139 t140
  refine zL c8_l0.eq_1 ?_
  have hlt:i < a.length:=by omega
  have hwr:IntKind.i64.wrap ((i:Int)+1)=((i+1:Nat):Int):=by rw[<-zG (n:=i+1) (by omega)];rfl
  have hn:=ha _ (List.getElem_mem hlt)
  have hfit:fitM a[i]:=fitM_of _ (by unfold maxLen;omega)
  have h17:=spec17 a[i] hfit (D+1) 2500 (by omega)
  have h28:=spec28 a[i] hfit a[i] (D+1)
  rw[(eqM_iff _ _).2 rfl] at h28
  generalize hge:a[i]=e at*
  have hn2:zC e<=2500:=by omega
  simp[t138,t139,t140,hlt,hge,zA e]
  refine zZ h17 (by simp[zA e]) ?_
  simp[hn2,t13,hlt,hge,zA e]
  refine zZ h28 (by simp[zA e]) ?_
  simp[t140,hwr]
  refine ih (i+1) _ _ (by omega) ?_ ?_ ?_ ?_
  all_goals simp[t13,t138,t139]
theorem law8_j0 (haw:∀D,Go.Ab.Loc Pg Gl D 12 [] [] (.bool true) []) (f:Fu) (l:List Eqn) (hl:l.length<=4) (hsz:∀e∈l,zC e.body<=2^30) (hq:∀x∈l,valM f l.length none false x.body=true) (hv:∀e∈l,yR (fun n=>0<=n/\n < l.length) e.body) (k:Int) (a:List Fm) (g:Int)
  (hr:(if k < 0\/100 < k then AV.tup [.sl 4 [] .no,.int .i64 1] else rndR f l k.toNat)= .tup [.sl 4 (a.map encM) .no,.int .i64 g]) (S) (τ ω) (K:List AI)
  (t1:τ 1= .sl 5 (l.map encE) .no) (t2:τ 2= .int .i64 k) (t9:τ 9= .sl 4 (a.map encM) .no) (t10:τ 10= .int .i64 g):Rd (Loc Pg Gl) .im (RetQ [.tmp 6] (.bool true) S) (.c c8_j0::K) (stF 159 D τ ω S):=by
 have haw1:=haw (D+1)
 unfold c8_j0
 by_cases hk:k < 0\/100 < k
 ·rw[if_pos hk] at hr
  injection hr with hr
  simp at hr
  obtain ⟨rfl,rfl⟩:=hr
  simp at t9
  by_cases hk0:k < 0
  ·simp[t2,hk0,t9,t10]
   refine zE haw1 (by simp) ?_
   simp
  ·have hk1:100 < k:=by omega
   simp[t2,hk0,hk1,t9,t10]
   refine zE haw1 (by simp) ?_
   simp
 rw[if_neg hk] at hr
 obtain ⟨n,rfl⟩:∃n:Nat,k=n:=⟨k.toNat,by omega⟩
 have hk0:¬(n:Int) < 0:=by omega
 have hk1:¬(100:Int) < n:=by omega
 rw[Int.toNat_natCast] at hr
 have h42:=spec42 (D+1) (by omega:l.length<=1000) hsz hv n (by omega)
 have el:∀l,encL l= .sl 5 (l.map encE) .no:=fun _=>rfl
 rw[el] at h42
 rcases rnd_cases hq n with ⟨b,e1,e2,e3,e4⟩ | ⟨e1,e2⟩
 ·rw[e1] at hr
  rw[e2] at h42
  injection hr with hr
  simp only[List.cons.injEq,and_true,AV.sl.injEq,true_and,AV.int.injEq] at hr
  obtain ⟨hb,rfl⟩:=hr
  rw[<-hb] at t9
  have hbl:a.length=b.length:=by have:=congrArg List.length hb;simpa using this.symm
  simp[t1,t2,hk0,hk1]
  refine zE h42 (by simp) ?_
  simp[t9,t10]
  refine l8 haw b e4 (by omega) S _ _ (fun τ ω=> ?_) b.length 0 _ _ (by simp) ?_ ?_ ?_ ?_
  ·unfold c8_k0
   simp
   refine zE haw1 (by simp) ?_
   simp
  all_goals simp
 ·rw[e1] at hr
  rw[e2] at h42
  injection hr with hr
  simp at hr
  obtain ⟨rfl,rfl⟩:=hr
  simp at t9
  simp[t1,t2,hk0,hk1]
  refine zE h42 (by simp) ?_
  simp[t9,t10]
  refine zE haw1 (by simp) ?_
  simp
theorem law8 (haw:∀D,Go.Ab.Loc Pg Gl D 12 [] [] (.bool true) []) (f:Fu) (hf:fitF f) (l:List Eqn) (hl:fitL l) (k:Int) (D:Nat):Go.Ab.Loc Pg Gl D 8 [encF f,encL l,.int .i64 k] [] (.bool true) []:=by
 refine zW zH tok rfl rfl fun S=> ?_
 have h25:=spec25 f hf (D+1) 400 (by omega)
 have h38:=spec38 (D+1) 2500 (by omega) l hl
 have h34:=spec34 (D+1) f hf l hl
 have h39:=spec39 (D+1) f hf l hl k
 have h27:=spec27 f hf (D+1)
 have haw1:=haw (D+1)
 have hw0:IntKind.i64.wrap 0=0:=by rfl
 have el:∀l,encL l= .sl 5 (l.map encE) .no:=fun _=>rfl
 unfold c8
 simp[zB f,el] at h25 h38 h34 h39 h27|-
 refine zE h25 (by simp[zB f]) ?_
 by_cases b1:yF f<=400
 rotate_left
 ·simp[b1]
  refine zE haw1 (by simp) ?_
  simp
 simp[b1]
 refine zE h38 (by simp) ?_
 generalize ((l.all fun x=>decide (zC x.body<=2500))&&decide (l.length<=20))=b2
 cases b2 with
 | false=>
  simp
  refine zE haw1 (by simp) ?_
  simp
 | true=>
 simp
 unfold dualA at h34
 unfold rndA at h39
 by_cases h0:asksN f l=0
 ·rw[if_pos h0] at h34 h39
  obtain ⟨g1,g2⟩:=asks0 h0
  obtain ⟨l1,l2,hq⟩:=isL_ok g2
  have hfs:=isF_shaped g1
  have hsz0:∀x∈l,zC x.body<=2000:=fun x hx=>by
   by_cases h:zC x.body<=2000
   ·omega
   ·rw[isL_bigL (f:=f) hx (by omega)] at g2;cases g2
  have hsz:∀x∈l,zC x.body<=2^30:=fun x hx=>by have:=hsz0 x hx;omega
  have hv:∀e∈l,yR (inV l) e.body:=fun e he=>okVar_of f l.length e.body _ _ (hq e he)
  have hfitd:fitL (l.map dualQ):=⟨by unfold maxLen;simp;omega,fun y hy=>by
   obtain ⟨x,hx,rfl⟩:=List.mem_map.1 hy
   refine fitM_of _ ?_
   rw[dual_nodes]
   have:=cost2 x.body
   have:=hsz0 x hx
   unfold maxLen;omega⟩
  have h36:=spec36 (D+1) f hfs l hl
  have h40:=spec40 (D+1) l (by omega) hsz hv
  have h36d:=spec36 (D+1) f hfs (l.map dualQ) hfitd
  have h38d:=spec38 (D+1) 2500 (by omega) (l.map dualQ) hfitd
  have h41:=spec41 (D+1) (l.map dualQ) (l.map dualQ) hfitd
  rw[(eqEs_iff _ _ rfl).2 rfl] at h41
  rw[g2] at h36
  rw[g1] at h27
  unfold dualR at h34
  have hdl:(l.map dualQ).length=l.length:=by simp
  have hbig:isL f (l.map dualQ)=true->((l.map dualQ).all fun x=>decide (zC x.body<=2500))=true:=fun h=>by
   rw[List.all_eq_true]
   intro x hx
   refine decide_eq_true ?_
   by_cases h':zC x.body<=2000
   ·omega
   ·rw[isL_bigL (f:=f) hx (by omega)] at h;cases h
  generalize hdd:l.map dualQ=d at*
  obtain ⟨a,g,hag⟩:∃(a:List Fm) (g:Int),(if k < 0\/100 < k then AV.tup [.sl 4 [] .no,.int .i64 1] else rndR f l k.toNat)= .tup [.sl 4 (a.map encM) .no,.int .i64 g]:=by
   split
   ·exact ⟨[],1,rfl⟩
   ·unfold rndR
    split
    ·exact ⟨(List.range l.length).map (rndM l k.toNat),0,by rw[List.map_map];rfl⟩
    ·exact ⟨[],2,rfl⟩
  rw[hag] at h39
  simp[zB f,el] at h36 h40 h36d h38d h41
  cases g3:isL f d with
  | true=>
   rw[g3] at h36d h34
   have hall:=hbig g3
   rw[hall] at h38d
   have hd20:d.length<=20:=by omega
   simp[hd20] at h38d h34
   refine zE h34 (by simp[zB f]) ?_
   simp
   refine zE h39 (by simp[zB f]) ?_
   simp
   refine zE h27 (by simp[zB f]) ?_
   simp
   refine zE h36 (by simp[zB f]) ?_
   simp[c8_j1]
   refine zE h40 (by simp) ?_
   simp
   refine zE h36d (by simp[zB f]) ?_
   simp
   refine zE h38d (by simp) ?_
   simp
   refine zE h41 (by simp) ?_
   simp
   refine law8_j0 haw f l l2 hsz hq hv k a g hag S _ _ _ ?_ ?_ ?_ ?_<;>simp[el]
  | false=>
   rw[g3] at h36d h34
   simp at h34
   refine zE h34 (by simp[zB f]) ?_
   simp
   refine zE h39 (by simp[zB f]) ?_
   simp
   refine zE h27 (by simp[zB f]) ?_
   simp
   refine zE h36 (by simp[zB f]) ?_
   simp[c8_j1]
   refine zE h40 (by simp) ?_
   simp
   refine zE h36d (by simp[zB f]) ?_
   simp
   refine law8_j0 haw f l l2 hsz hq hv k a g hag S _ _ _ ?_ ?_ ?_ ?_<;>simp[el]
 ·rw[if_neg h0] at h34 h39
  have hfn:asksN f l=if isF f then (if isL f l then 0 else 90) else 10:=rfl
  refine zE h34 (by simp[zB f]) ?_
  simp
  refine zE h39 (by simp[zB f]) ?_
  simp
  refine zE h27 (by simp[zB f]) ?_
  cases g1:isF f with
  | false=>
   rw[g1] at hfn
   simp at hfn
   simp[c8_j1,hfn,hw0]
   refine zE haw1 (by simp) ?_
   simp
  | true=>
   have h36:=spec36 (D+1) f (isF_shaped g1) l hl
   rw[g1] at hfn
   cases g2:isL f l with
   | true=>rw[g2] at hfn;exact absurd hfn h0
   | false=>
    rw[g2] at hfn h36
    simp at hfn
    simp[zB f,el] at h36
    simp
    refine zE h36 (by simp[zB f]) ?_
    simp[c8_j1,hfn,hw0]
    refine zE haw1 (by simp) ?_
    simp
theorem law8_arg:∀a0 a1 a2,Arg Pg 24 a0->Arg Pg 28 a1->Arg Pg 3 a2->Go.Ab.Loc Pg Gl 0 8 [a0,a1,a2] [] (.bool true) []:=by
 intro a0 a1 a2 h0 h1 h2
 obtain ⟨f,rfl,hf⟩:=arg24 h0
 obtain ⟨l,rfl,hl⟩:=arg28 h1
 obtain ⟨k,rfl⟩:=arg3 h2
 exact law8 spec12 f hf l hl k 0
end
end Go.Ab.Tab
namespace Go.Proofs.YtkjbakmlonpdjaaGreatDoor
open Go.ChangeShapes Go.WideShapes Go.ChangeAt Go.RowKit Go.Ab Go.Ab.Tab
theorem Tryz.own:ownKnob Tryz.prog.godebug=none:=by kernel_rfl
theorem Tryz.laidOut:laidOutB Tryz.prog=true:=by kernel_rfl
theorem formsN : Tryz.prog.globalNamed "ectype/functor.forms" = some 0 := by kernel_rfl
theorem formsType:(Tryz.prog.globals[0]?).map (·.type)=some 205:=by kernel_rfl
def ints:List Int:=[0,0,16,0,0,2,0,2,4,1,0,1,0,1,0,1]
theorem flatOk:flatTys Tryz.prog [205,204,3]=true:=by kernel_rfl
theorem glob_ok {W:World} (h:laidMet Tryz.prog Rows.fixFormsRow.laid W):∀g cs,Gl g=some cs->∀(j:Nat) (c:AV),cs[j]?=some c->∃v,allImm W g j=some v/\RelI (allImm W) c v:=by
 intro g cs hg j c hc
 unfold Gl at hg
 split at hg
 ·rename_i hg0;subst hg0
  injection hg with hg;subst hg
  obtain ⟨ps,⟨g,t,cs,fuel,p,q,hg,ht,hvar,hd,_,_⟩,_⟩:=h
  obtain rfl:=Option.some.inj (formsN.symm.trans hg)
  obtain rfl:=Option.some.inj (formsType.symm.trans ht)
  have hf:=trod_flat flatOk fuel 5 205 cs.toList (ints.map (Value.int .i64)) _ (by simp) hd rfl
  unfold forms at hc
  rw[List.getElem?_map,Option.map_eq_some_iff] at hc
  obtain ⟨n,hn,rfl⟩:=hc
  have hcell:=World.var?_cell hg hvar j
  have hcs:cs[j]?=some (.int .i64 n):=by
   rw[<-Array.getElem?_toList,hf,List.getElem?_map]
   have:ints[j]?=some n:=hn
   rw[this];rfl
  rw[hcs] at hcell
  refine ⟨.int .i64 n,?_,.int _ _⟩
  simp only[allImm]
  have e:W.cell? ⟨0,j,none⟩=some (.int .i64 n):=by simpa using hcell
  simp[e,Value.oneCell']
 ·cases hg
noncomputable def laidWorld (os:Os):World:=
 let w0:=World.holding Tryz.prog os ⟨#[],#[],[]⟩
 {w0 with heap:=w0.heap.modify 0 fun
   | .cells _ t frozen=> .cells (ints.map (Value.int .i64)).toArray t frozen
   | o=>o}
theorem laid_met (os:Os) (args:Array Value):laidMet Tryz.prog Rows.fixFormsRow.laid ((laidWorld os).forCall (fun _ _=>0) ⟨#[],args,[]⟩).memory:=
 laidMet_of_run' 8 (by kernel_rfl) (by kernel_rfl)
theorem closedOk:closedTys Tryz.prog [27,24,25,102,22,3,40,33,28,71,45,43,4]=true:=by kernel_rfl
theorem below_of {W W':World} (h:Stands W W'):Below W.heap.size W W':=⟨h.os,h.tape,h.output,h.size,h.heap⟩
section
variable {H:Type} {enc:TypeId×Value->H} {P:Program} {w:World} {base:Nat} {spare:Nat->Bool} {held:Bool}
theorem trodAll_n {t0 t1 t2:TypeId} {args:Array Value} {ds:List (DataW H)} {ps:List MemPlace} (h:DataW.TrodAll enc P w base spare held [t0,t1,t2] args.toList ds ps):
  ∃v0 v1 v2 d0 d1 d2 p0 p1 p2,args= #[v0,v1,v2]/\ds= [d0,d1,d2]/\ps=p0++p1++p2/\DataW.Trod enc P w base spare held t0 v0 d0 p0/\DataW.Trod enc P w base spare held t1 v1 d1 p1/\DataW.Trod enc P w base spare held t2 v2 d2 p2:=by
 obtain ⟨v0,vs0,d0,ds0,p0,q0,hargs,rfl,rfl,h0,r0⟩:=trodAll_cons h
 obtain ⟨v1,vs1,d1,ds1,p1,q1,rfl,rfl,rfl,h1,r1⟩:=trodAll_cons r0
 obtain ⟨v2,vs2,d2,ds2,p2,q2,rfl,rfl,rfl,h2,r2⟩:=trodAll_cons r1
 obtain ⟨rfl,rfl,rfl⟩:=trodAll_nil r2
 exact ⟨v0,v1,v2,d0,d1,d2,p0,p1,p2,by cases args;simp_all,rfl,by simp,h0,h1,h2⟩
theorem trodAll_mkn {t0 t1 t2:TypeId} {v0 v1 v2:Value} {d0 d1 d2:DataW H} {p0 p1 p2:List MemPlace} (h0:DataW.Trod enc P w base spare held t0 v0 d0 p0) (h1:DataW.Trod enc P w base spare held t1 v1 d1 p1) (h2:DataW.Trod enc P w base spare held t2 v2 d2 p2):DataW.TrodAll enc P w base spare held [t0,t1,t2] [v0,v1,v2] [d0,d1,d2] (p0++(p1++p2)):=
 ⟨p0,_,h0,⟨p1,_,h1,trodAll_mk1 h2,rfl⟩,rfl⟩
end
set_option maxRecDepth 100000 in
theorem law_lifted (hlaw:∀a0 a1 a2,Arg Tryz.prog 24 a0->Arg Tryz.prog 28 a1->Arg Tryz.prog 3 a2->Go.Ab.Loc Tryz.prog Gl 0 8 [a0,a1,a2] [] (.bool true) [])
  (os:Os) (started:os.Started) (H:Type) (enc:TypeId×Value->H):
  ReturnsInHanded {} Tryz.checked os 8 .any (fun w args=>(Rows.fixFormsSpec.pre enc Tryz.prog Tryz.f8 Rows.fixFormsRow.domain false w args/\laidMet Tryz.prog Rows.fixFormsRow.laid w)/\sizedMet enc Tryz.prog Tryz.f8 (OpenSpec.ofChange Rows.fixFormsSpec) false w args)
   (Rows.fixFormsSpec.post enc Tryz.prog Tryz.f8 false true false false):=by
 refine returnsInHanded_of_change_and (C:=Tryz.checked) (X:=fun w _=>laidMet Tryz.prog Rows.fixFormsRow.laid w) (fun _ _ _ hh h=>h.of_heap hh) Tryz.own started (by kernel_rfl) Tryz.func8
  (ChangeSpec.witness_at (enc:=enc) (C:=Tryz.checked) (os:=os) (X:=fun w _=>laidMet Tryz.prog Rows.fixFormsRow.laid w) false (laidWorld os) #[.agg #[.int .i64 0,.int .i64 0,.slice none 0 0],.slice none 0 0,.int .i64 0] 8 rfl (by kernel_rfl) (by kernel_rfl) (by kernel_rfl) (by kernel_rfl) (by kernel_rfl) (laid_met os _)) ?_
 intro W base args ds gs before hval0 hW hcnd0 _ hL _
 have hval:∀(j:Nat) t v,Tryz.f8.params[j]?=some t->args[j]?=some v->Value.okWide Tryz.prog W .any base t v:=hval0
 have hW':=hW
 obtain ⟨p,q,hA0,hV,rfl,hfz,hnd⟩:=hW
 have hA:DataW.TrodAll enc Tryz.prog W 0 (fun _=>true) true Tryz.f8.params.toList args.toList ds p:=hA0
 rw[Tryz.params8] at hA hval
 obtain ⟨v0,v1,v2,d0,d1,d2,p0,p1,p2,rfl,rfl,rfl,h0,h1,h2⟩:=trodAll_n hA
 obtain ⟨rfl,rfl⟩:=trodVars_none hV
 obtain ⟨a0,t0,r0,n0⟩:=arg_rel closedOk (by simp) (hval 0 24 v0 rfl rfl) h0
 obtain ⟨a1,t1,r1,n1⟩:=arg_rel closedOk (by simp) (hval 1 28 v1 rfl rfl) h1
 obtain ⟨a2,t2,r2,n2⟩:=arg_rel closedOk (by simp) (hval 2 3 v2 rfl rfl) h2
 refine (law_calls (hlaw a0 a1 a2 t0 t1 t2) (W:=W) (vs:= #[v0,v1,v2]) rfl (fun i b v hb hv=> ?_) (fun b hb=> ?_) (glob_ok hL)).mono fun e W' ⟨he,hs⟩=> ?_
 ·match i,hb,hv with
  | 0,hb,hv=>simp at hb hv;subst hb;subst hv;exact r0
  | 1,hb,hv=>simp at hb hv;subst hb;subst hv;exact r1
  | 2,hb,hv=>simp at hb hv;subst hb;subst hv;exact r2
  | n+3,hb,hv=>simp at hb
 ·simp at hb
  rcases hb with rfl | rfl | rfl<;>assumption
 subst he
 have hB:=below_of hs
 simp only[List.append_nil] at hW'
 have hlt:∀x∈p0++p1++p2,x.block < W.heap.size:=fun x hx=>by
  have:=hW'.lt x (by simpa using hx)
  simpa using this
 refine ⟨_,rfl,_,_,_,[],(p0++(p1++p2)),[],hW',?_,?_,rfl,hB.frame _,fun h=>by cases h⟩
 ·exact trodAll_mk1 (shut_bool (by kernel_rfl) true)
 ·refine trodAll_mkn (Below.trod Tryz.laidOut (by kernel_rfl) (of_decide_eq_true (by kernel_rfl)) h0 hB fun x hx=>hlt x (by simp[hx])) (Below.trod Tryz.laidOut (by kernel_rfl) (of_decide_eq_true (by kernel_rfl)) h1 hB fun x hx=>hlt x (by simp[hx])) (Below.trod Tryz.laidOut (by kernel_rfl) (of_decide_eq_true (by kernel_rfl)) h2 hB fun x hx=>hlt x (by simp[hx]))
theorem row_holds (hlaw:∀a0 a1 a2,Arg Tryz.prog 24 a0->Arg Tryz.prog 28 a1->Arg Tryz.prog 3 a2->Go.Ab.Loc Tryz.prog Gl 0 8 [a0,a1,a2] [] (.bool true) []):Rows.FixFormsSaid:=
 OpenClaim.holds_of_wide 8 Tryz.f8 rfl rfl rfl rfl rfl rfl rfl ⟨rfl,rfl,rfl,rfl,rfl⟩ rfl rfl rfl rfl rfl (by kernel_rfl) Tryz.func8 (by kernel_rfl)
  (of_decide_eq_true (by kernel_rfl)) (by unfold Func.isWrapper;first | (rw[if_pos (by decide+kernel)];kernel_rfl) | (rw[if_neg (by decide+kernel)];exact ⟨rfl,rfl⟩))
  (fun os started H enc _=>law_lifted hlaw os started H enc)
theorem card_holds (hlaw:∀a0 a1 a2,Arg Tryz.prog 24 a0->Arg Tryz.prog 28 a1->Arg Tryz.prog 3 a2->Go.Ab.Loc Tryz.prog Gl 0 8 [a0,a1,a2] [] (.bool true) []):Rows.FixFormsCardSaid:=
 Claim7.holds_tied_plain_at .later [] [.data] true (true,"c1d4ddd4f3cb4e43dffdcf47013e0f9a8dbe1fcf753834db3f30a4dc6b8cde4b") true
  (row_holds hlaw) (fun _ h=>by cases h) (by kernel_rfl) (fun _ h=>by cases h) fixForms_row_tie rfl ⟨rfl,rfl⟩ (by kernel_rfl) rfl
  (fun f fn hf hfn=>by
   obtain rfl : f = 8 := Option.some.inj ((show Tryz.prog.funcNamed "ectype/ectypelaw09.FixForms" = some 8 by kernel_rfl).symm.trans hf) |>.symm
   obtain rfl:fn=Tryz.f8:=(Option.some.inj (Tryz.func8.symm.trans hfn)).symm
   exact ⟨by kernel_rfl,fun j t ht=>by
    rw[Tryz.params8] at ht
    have h3:t∈[3,24,28]:=by
     match j,ht with
     | 0,ht=>simp at ht;simp[<-ht]
     | 1,ht=>simp at ht;simp[<-ht]
     | 2,ht=>simp at ht;simp[<-ht]
     | n+3,ht=>simp at ht
    have:([3,24,28].all fun t=>Tryz.prog.wantsStandIn t==false)=true:=by kernel_rfl
    have:=List.all_eq_true.1 this t h3
    have e:Tryz.prog.wantsStandIn t=false:=by simpa using this
    exact e⟩)
  (by kernel_rfl)
theorem forms:Rows.FixFormsCardSaid:=card_holds law8_arg
end Go.Proofs.YtkjbakmlonpdjaaGreatDoor
