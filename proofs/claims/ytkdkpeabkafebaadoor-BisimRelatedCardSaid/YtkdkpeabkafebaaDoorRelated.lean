/- Arguments as data; law 3 for the arguments of a row. -/
import Derived.Test.YtkdkpeabkafebaaDoorRelatedH
import Derived.Test.YtkdkpeabkafebaaDoorRelatedB4
import Derived.Test.YtkdkpeabkafebaaDoorCards
import Derived.Test.YtkdkpeabkafebaaDoorTie
import Derived.LaidLaws
import Derived.Handed
import Derived.SevenTiedAt
open List renaming getElem?_map->yGT
set_option linter.unusedVariables false
set_option linter.unusedSimpArgs false
set_option maxRecDepth 10000
namespace Go.Ab
open Go
section
variable {P:Program} {t:TypeId} {n:Nat} {cs:List AV}
theorem ty_int {k:IntKind} (hu:P.underlying t=some (.int k)) (h:tyOk P n t cs):∃i,cs= [.int k i]/\(Lit.int k i).wf=true:=by
 cases n with
 | zero=>cases h
 | succ n=>simpa only[tyOk,hu] using h
theorem ty_slice {e:TypeId} (hu:P.underlying t=some (.slice e)) (h:tyOk P n t cs):∃xs n',cs= [.sl (P.cellsOf e) xs .no]/\xs.length<=maxLen/\∀x∈xs,∃c,x=mkV P e c/\tyOk P n' e c:=by
 cases n with
 | zero=>cases h
 | succ n=>
  simp only[tyOk,hu] at h;obtain ⟨xs,h1,h2,h3⟩:=h;exact ⟨xs,n,h1,h2,h3⟩
def fieldsOf (P:Program) (t:TypeId):List (TypeId×Nat):=match P.underlying t with
 | some (.struct fs)=>fs.toList.map fun f=>(f.type,f.offset)
 | _=>[]
def isStruct (P:Program) (t:TypeId):Bool:=match P.underlying t with
 | some (.struct _)=>true
 | _=>false
theorem ty_struct (hs:isStruct P t=true) (h:tyOk P n t cs):cs.length=P.cellsOf t/\∃n',∀f∈fieldsOf P t,tyOk P n' f.1 ((cs.drop f.2).take (P.cellsOf f.1)):=by
 unfold isStruct at hs;unfold fieldsOf;cases n with
 | zero=>cases h
 | succ n=>
  cases hu:P.underlying t with
  | none=>rw[hu] at hs;cases hs
  | some d=>
   rw[hu] at hs;cases d with
   | struct fs=>
    simp only[tyOk,hu] at h;refine ⟨h.1,n,fun f hf=> ?_⟩;obtain ⟨g,hg,rfl⟩:=List.mem_map.1 hf;exact h.2 g hg
   | _=>cases hs
theorem map_exists {α β:Type} (f:α->β) (q:α->Prop):∀(l:List β),(∀x∈l,∃a,x=f a/\q a)->∃bs:List α,l=bs.map f/\∀a∈bs,q a
 | [],_=>⟨[],rfl,by simp⟩
 | x::l,h=>by
  obtain ⟨a,h1,h2⟩:=h x (by simp);obtain ⟨bs,h3,h4⟩:=map_exists f q l fun y hy=>h y (by simp[hy]);exact ⟨a::bs,by simp[h1,h3],fun b hb=>by rcases List.mem_cons.1 hb with rfl | hb;exact h2;exact h4 b hb⟩
theorem mkV_one (h:wU P t=false) (c:AV):mkV P t [c]=c:=by unfold mkV;rw[h];rfl
theorem mkV_agg (h:wU P t=true):mkV P t cs= .agg cs:=by unfold mkV;rw[h];rfl
end
namespace Tab
theorem u3:Pg.underlying 3=some (.int .i64):=by kernel_rfl
theorem u26:Pg.underlying 26=some (.slice 3):=by kernel_rfl
theorem z3:Pg.cellsOf 3=1:=by kernel_rfl
theorem z26:Pg.cellsOf 26=1:=by kernel_rfl
theorem g3:wU Pg 3=false:=by kernel_rfl
theorem g26:wU Pg 26=false:=by kernel_rfl
theorem ty26 {n:Nat} {cs:List AV} (h:tyOk Pg n 26 cs):∃l:List Int,cs= [encI l]/\l.length<=maxLen:=by
 obtain ⟨xs,n',rfl,h2,h3⟩:=ty_slice u26 h;obtain ⟨l,rfl,_⟩:=map_exists (AV.int .i64) (fun _=>True) xs fun x hx=>by
  obtain ⟨c,rfl,hc⟩:=h3 x hx;obtain ⟨i,rfl,_⟩:=ty_int u3 hc;exact ⟨i,mkV_one g3 _,trivial⟩
 exact ⟨l,by rw[z3];rfl,by simpa using h2⟩
theorem arg3 {a:AV} (h:Arg Pg 3 a):∃n:Int,a= .int .i64 n:=by
 obtain ⟨fuel,cs,h1,h2,rfl⟩:=h;obtain ⟨i,rfl,_⟩:=ty_int u3 h1;exact ⟨i,mkV_one g3 _⟩
theorem arg26 {a:AV} (h:Arg Pg 26 a):∃l:List Int,a=encI l/\l.length<=maxLen:=by
 obtain ⟨fuel,cs,h1,h2,rfl⟩:=h;obtain ⟨l,rfl,hl⟩:=ty26 h1;exact ⟨l,mkV_one g26 _,hl⟩
theorem u22:Pg.underlying 22=some (.slice 24):=by kernel_rfl
theorem u25:Pg.underlying 25=some (.slice 28):=by kernel_rfl
theorem s24:isStruct Pg 24=true:=by kernel_rfl
theorem s28:isStruct Pg 28=true:=by kernel_rfl
theorem f24:fieldsOf Pg 24= [(3,0),(3,1),(22,2)]:=by kernel_rfl
theorem f28:fieldsOf Pg 28= [(3,0),(25,1),(26,2)]:=by kernel_rfl
theorem z24:Pg.cellsOf 24=3:=by kernel_rfl
theorem z28:Pg.cellsOf 28=3:=by kernel_rfl
theorem z22:Pg.cellsOf 22=1:=by kernel_rfl
theorem z25:Pg.cellsOf 25=1:=by kernel_rfl
theorem g24:wU Pg 24=true:=by kernel_rfl
theorem g28:wU Pg 28=true:=by kernel_rfl
theorem g22:wU Pg 22=false:=by kernel_rfl
theorem g25:wU Pg 25=false:=by kernel_rfl
theorem ty_slice' {P:Program} {t e:TypeId} {n:Nat} {cs:List AV} (hu:P.underlying t=some (.slice e)) (h:tyOk P (n+1) t cs):∃xs,cs= [.sl (P.cellsOf e) xs .no]/\xs.length<=maxLen/\∀x∈xs,∃c,x=mkV P e c/\tyOk P n e c:=by
 simp only[tyOk,hu] at h;exact h
theorem ty_struct' {P:Program} {t:TypeId} {n:Nat} {cs:List AV} (hs:isStruct P t=true) (h:tyOk P (n+1) t cs):cs.length=P.cellsOf t/\∀f∈fieldsOf P t,tyOk P n f.1 ((cs.drop f.2).take (P.cellsOf f.1)):=by
 unfold isStruct at hs;unfold fieldsOf;cases hu:P.underlying t with
 | none=>rw[hu] at hs;cases hs
 | some d=>
  rw[hu] at hs;cases d with
  | struct fs=>
   simp only[tyOk,hu] at h;refine ⟨h.1,fun f hf=> ?_⟩;obtain ⟨g,hg,rfl⟩:=List.mem_map.1 hf;exact h.2 g hg
  | _=>cases hs
theorem fitFs_of:∀{l:List Fu},(∀a∈l,fitF a)->hJ l
 | [],_=>by rw[hJ];trivial
 | a::l,h=>by rw[hJ];exact ⟨h a (by simp),fitFs_of fun b hb=>h b (by simp[hb])⟩
theorem three {cs:List AV} (h:cs.length=3):∃a b c,cs= [a,b,c]:=by
 match cs,h with
 | [a,b,c],_=>exact ⟨a,b,c,rfl⟩
theorem ty24:∀(n:Nat) {cs:List AV},tyOk Pg n 24 cs->∃f:Fu,cs= [.int .i64 f.k,.int .i64 f.n,.sl 3 (f.gs.map encF) .no]/\fitF f:=by
 intro n
 induction n using Nat.strongRecOn with
 | ind n ih=>
  intro cs h;cases n with
  | zero=>cases h
  | succ n=>
   obtain ⟨hl,hf⟩:=ty_struct' s24 h;rw[f24] at hf;rw[z24] at hl;obtain ⟨a,b,c,rfl⟩:=three hl;have k0:=hf (3,0) (by simp);have k1:=hf (3,1) (by simp);have k2:=hf (22,2) (by simp);rw[z3] at k0 k1;rw[z22] at k2;obtain ⟨i,e0,_⟩:=ty_int u3 k0;obtain ⟨j,e1,_⟩:=ty_int u3 k1;simp at e0 e1;subst e0;subst e1;cases n with
   | zero=>cases k2
   | succ n=>
    obtain ⟨xs,e2,h2,h3⟩:=ty_slice' u22 k2;obtain ⟨gs,hgs,hfit⟩:=map_exists encF fitF xs fun x hx=>by
     obtain ⟨c',rfl,hc⟩:=h3 x hx;obtain ⟨f,rfl,hff⟩:=ih n (by omega) hc;exact ⟨f,by rw[mkV_agg g24,zB],hff⟩
    subst hgs;rw[z24] at e2;simp at e2;subst e2;refine ⟨.mk i j gs,rfl,?_⟩;rw[fitF];exact ⟨by simpa using h2,fitFs_of hfit⟩
theorem ty28:∀(n:Nat) {cs:List AV},tyOk Pg n 28 cs->∃v:Va,cs= [.int .i64 v.n,.sl 3 (v.gs.map encV) .no,.sl 1 (v.ws.map (AV.int .i64)) .no]/\fitV v:=by
 intro n
 induction n using Nat.strongRecOn with
 | ind n ih=>
  intro cs h;cases n with
  | zero=>cases h
  | succ n=>
   obtain ⟨hl,hf⟩:=ty_struct' s28 h;rw[f28] at hf;rw[z28] at hl;obtain ⟨a,b,c,rfl⟩:=three hl;have k0:=hf (3,0) (by simp);have k1:=hf (25,1) (by simp);have k2:=hf (26,2) (by simp);rw[z3] at k0;rw[z25] at k1;rw[z26] at k2;obtain ⟨i,e0,_⟩:=ty_int u3 k0;obtain ⟨ws,e2,hws⟩:=ty26 k2;simp at e0 e2;subst e0;subst e2;cases n with
   | zero=>cases k1
   | succ n=>
    obtain ⟨xs,e1,h2,h3⟩:=ty_slice' u25 k1;obtain ⟨gs,hgs,hfit⟩:=map_exists encV fitV xs fun x hx=>by
     obtain ⟨c',rfl,hc⟩:=h3 x hx;obtain ⟨f,rfl,hff⟩:=ih n (by omega) hc;exact ⟨f,by rw[mkV_agg g28,zA],hff⟩
    subst hgs;rw[z28] at e1;simp at e1;subst e1;refine ⟨.mk i gs ws,rfl,?_⟩;rw[fitV];exact ⟨⟨by simpa using h2,hws⟩,pQ hfit⟩
theorem arg24 {a:AV} (h:Arg Pg 24 a):∃f:Fu,a=encF f/\fitF f:=by
 obtain ⟨fuel,cs,h1,h2,rfl⟩:=h;obtain ⟨f,rfl,hf⟩:=ty24 _ h1;exact ⟨f,by rw[mkV_agg g24,zB],hf⟩
theorem arg28 {a:AV} (h:Arg Pg 28 a):∃v:Va,a=encV v/\fitV v:=by
 obtain ⟨fuel,cs,h1,h2,rfl⟩:=h;obtain ⟨v,rfl,hf⟩:=ty28 _ h1;exact ⟨v,by rw[mkV_agg g28,zA],hf⟩
theorem ty_arr {P:Program} {t:TypeId} {k:Nat} {e:TypeId} {n:Nat} {cs:List AV} (hu:P.underlying t=some (.array k e)) (h:tyOk P (n+1) t cs):cs.length=P.cellsOf t/\∀i,i < k->tyOk P n e ((cs.drop (i*P.cellsOf e)).take (P.cellsOf e)):=by
 simp only[tyOk,hu] at h;exact h
theorem u29:Pg.underlying 29=some (.slice 63):=by kernel_rfl
theorem u63:Pg.underlying 63=some (.array 2 3):=by kernel_rfl
theorem z63:Pg.cellsOf 63=2:=by kernel_rfl
theorem g29:wU Pg 29=false:=by kernel_rfl
theorem g63:wU Pg 63=true:=by kernel_rfl
theorem ty63 {n:Nat} {cs:List AV} (h:tyOk Pg n 63 cs):∃p:PI,mkV Pg 63 cs=encP p:=by
 cases n with
 | zero=>cases h
 | succ n=>
  obtain ⟨hl,hf⟩:=ty_arr u63 h;rw[z63] at hl;rw[z3] at hf;obtain ⟨a,b,rfl⟩:∃a b,cs= [a,b]:=by
   match cs,hl with
   | [a,b],_=>exact ⟨a,b,rfl⟩
  have k0:=hf 0 (by omega);have k1:=hf 1 (by omega);obtain ⟨i,e0,_⟩:=ty_int u3 k0;obtain ⟨j,e1,_⟩:=ty_int u3 k1;simp at e0 e1;subst e0;subst e1;exact ⟨(i,j),by rw[mkV_agg g63];rfl⟩
theorem arg29 {a:AV} (h:Arg Pg 29 a):∃rs:List PI,a=encR rs/\rs.length<=maxLen:=by
 obtain ⟨fuel,cs,h1,h2,rfl⟩:=h;obtain ⟨xs,n',rfl,h3,h4⟩:=ty_slice u29 h1;obtain ⟨l,rfl,_⟩:=map_exists encP (fun _=>True) xs fun x hx=>by
  obtain ⟨c,rfl,hc⟩:=h4 x hx;obtain ⟨p,hp⟩:=ty63 hc;exact ⟨p,hp,trivial⟩
 exact ⟨l,by rw[mkV_one g29,z63];rfl,by simpa using h3⟩
theorem law3_arg:∀a0 a1 a2 a3 a4 a5,Arg Pg 24 a0->Arg Pg 3 a1->Arg Pg 3 a2->Arg Pg 28 a3->Arg Pg 28 a4->Arg Pg 29 a5->Go.Ab.Loc Pg Gl 0 3 [a0,a1,a2,a3,a4,a5] [] (.bool true) []:=by
 intro a0 a1 a2 a3 a4 a5 h0 h1 h2 h3 h4 h5;obtain ⟨f,rfl,hf⟩:=arg24 h0;obtain ⟨n,rfl⟩:=arg3 h1;obtain ⟨m,rfl⟩:=arg3 h2;obtain ⟨u,rfl,hu⟩:=arg28 h3;obtain ⟨v,rfl,hv⟩:=arg28 h4;obtain ⟨rs,rfl,hr⟩:=arg29 h5;exact law3 f hf n m u v hu hv rs hr
end Tab
end Go.Ab
namespace Go.Proofs.YtkdkpeabkafebaaDoor
open Go.ChangeShapes Go.WideShapes Go.ChangeAt Go.RowKit Go.Ab Go.Ab.Tab
theorem Tryd.own:ownKnob Tryd.prog.godebug=none:=by kernel_rfl
theorem Tryd.laidOut:laidOutB Tryd.prog=true:=by kernel_rfl
theorem formsN : Tryd.prog.globalNamed "ectype/functor.forms" = some 0 := by kernel_rfl
theorem formsType:(Tryd.prog.globals[0]?).map (·.type)=some 123:=by kernel_rfl
def ints:List Int:=[0,0,16,0,0,2,0,2,4,1,0,1,0,1,0,1]
theorem flatOk:zCB Tryd.prog [123,122,3]=true:=by kernel_rfl
theorem glob_ok {W:World} (h:laidMet Tryd.prog Rows.bisimRelatedRow.laid W):∀g cs,Gl g=some cs->∀(j:Nat) (c:AV),cs[j]?=some c->∃v,xQ W g j=some v/\RelI (xQ W) c v:=by
 intro g cs hg j c hc;unfold Gl at hg;split at hg
 ·rename_i hg0;subst hg0;injection hg with hg;subst hg;obtain ⟨ps,⟨g,t,cs,fuel,p,q,hg,ht,hvar,hd,_,_⟩,_⟩:=h;obtain rfl:=Option.some.inj (formsN.symm.trans hg);obtain rfl:=Option.some.inj (formsType.symm.trans ht);have hf:=pU flatOk fuel 5 123 cs.toList (ints.map (Value.int .i64)) _ (by simp) hd rfl;unfold forms at hc;rw[yGT,Option.map_eq_some_iff] at hc;obtain ⟨n,hn,rfl⟩:=hc;have hcell:=World.var?_cell hg hvar j;have hcs:cs[j]?=some (.int .i64 n):=by
   rw[<-Array.getElem?_toList,hf,yGT];have:ints[j]?=some n:=hn;rw[this];rfl
  rw[hcs] at hcell;refine ⟨.int .i64 n,?_,.int _ _⟩;simp only[xQ];have e:W.cell? ⟨0,j,none⟩=some (.int .i64 n):=by simpa using hcell
  simp[e,Value.oneCell']
 ·cases hg
noncomputable def laidWorld (os:Os):World:=
 let w0:=World.holding Tryd.prog os ⟨#[],#[],[]⟩
 {w0 with heap:=w0.heap.modify 0 fun
   | .cells _ t frozen=> .cells (ints.map (Value.int .i64)).toArray t frozen
   | o=>o}
theorem laid_met (os:Os) (args:Array Value):laidMet Tryd.prog Rows.bisimRelatedRow.laid ((laidWorld os).forCall (fun _ _=>0) ⟨#[],args,[]⟩).memory:=
 laidMet_of_run' 8 (by kernel_rfl) (by kernel_rfl)
theorem closedOk:y9 Tryd.prog [24,22,3,28,25,26,29,63,42]=true:=by kernel_rfl
theorem below_of {W W':World} (h:Stands W W'):Below W.heap.size W W':=⟨h.os,h.tape,h.output,h.size,h.heap⟩
section
variable {H:Type} {enc:TypeId×Value->H} {P:Program} {w:World} {base:Nat} {spare:Nat->Bool} {held:Bool}
theorem trodAll_n {t0 t1 t2 t3 t4 t5:TypeId} {args:Array Value} {ds:List (DataW H)} {ps:List MemPlace} (h:DataW.TrodAll enc P w base spare held [t0,t1,t2,t3,t4,t5] args.toList ds ps):
  ∃v0 v1 v2 v3 v4 v5 d0 d1 d2 d3 d4 d5 p0 p1 p2 p3 p4 p5,args= #[v0,v1,v2,v3,v4,v5]/\ds= [d0,d1,d2,d3,d4,d5]/\ps=p0++p1++p2++p3++p4++p5/\DataW.Trod enc P w base spare held t0 v0 d0 p0/\DataW.Trod enc P w base spare held t1 v1 d1 p1/\DataW.Trod enc P w base spare held t2 v2 d2 p2/\DataW.Trod enc P w base spare held t3 v3 d3 p3/\DataW.Trod enc P w base spare held t4 v4 d4 p4/\DataW.Trod enc P w base spare held t5 v5 d5 p5:=by
 obtain ⟨v0,vs0,d0,ds0,p0,q0,hargs,rfl,rfl,h0,r0⟩:=trodAll_cons h;obtain ⟨v1,vs1,d1,ds1,p1,q1,rfl,rfl,rfl,h1,r1⟩:=trodAll_cons r0;obtain ⟨v2,vs2,d2,ds2,p2,q2,rfl,rfl,rfl,h2,r2⟩:=trodAll_cons r1;obtain ⟨v3,vs3,d3,ds3,p3,q3,rfl,rfl,rfl,h3,r3⟩:=trodAll_cons r2;obtain ⟨v4,vs4,d4,ds4,p4,q4,rfl,rfl,rfl,h4,r4⟩:=trodAll_cons r3;obtain ⟨v5,vs5,d5,ds5,p5,q5,rfl,rfl,rfl,h5,r5⟩:=trodAll_cons r4;obtain ⟨rfl,rfl,rfl⟩:=trodAll_nil r5;exact ⟨v0,v1,v2,v3,v4,v5,d0,d1,d2,d3,d4,d5,p0,p1,p2,p3,p4,p5,by cases args;simp_all,rfl,by simp,h0,h1,h2,h3,h4,h5⟩
theorem trodAll_mkn {t0 t1 t2 t3 t4 t5:TypeId} {v0 v1 v2 v3 v4 v5:Value} {d0 d1 d2 d3 d4 d5:DataW H} {p0 p1 p2 p3 p4 p5:List MemPlace} (h0:DataW.Trod enc P w base spare held t0 v0 d0 p0) (h1:DataW.Trod enc P w base spare held t1 v1 d1 p1) (h2:DataW.Trod enc P w base spare held t2 v2 d2 p2) (h3:DataW.Trod enc P w base spare held t3 v3 d3 p3) (h4:DataW.Trod enc P w base spare held t4 v4 d4 p4) (h5:DataW.Trod enc P w base spare held t5 v5 d5 p5):DataW.TrodAll enc P w base spare held [t0,t1,t2,t3,t4,t5] [v0,v1,v2,v3,v4,v5] [d0,d1,d2,d3,d4,d5] (p0++(p1++(p2++(p3++(p4++p5))))):=
 ⟨p0,_,h0,⟨p1,_,h1,⟨p2,_,h2,⟨p3,_,h3,⟨p4,_,h4,trodAll_mk1 h5,rfl⟩,rfl⟩,rfl⟩,rfl⟩,rfl⟩
end
set_option maxRecDepth 100000 in
theorem law_lifted (hlaw:∀a0 a1 a2 a3 a4 a5,Arg Tryd.prog 24 a0->Arg Tryd.prog 3 a1->Arg Tryd.prog 3 a2->Arg Tryd.prog 28 a3->Arg Tryd.prog 28 a4->Arg Tryd.prog 29 a5->Go.Ab.Loc Tryd.prog Gl 0 3 [a0,a1,a2,a3,a4,a5] [] (.bool true) [])
  (os:Os) (started:os.Started) (H:Type) (enc:TypeId×Value->H):
  ReturnsInHanded {} Tryd.checked os 3 .any (fun w args=>(Rows.bisimRelatedSpec.pre enc Tryd.prog Tryd.f3 Rows.bisimRelatedRow.domain false w args/\laidMet Tryd.prog Rows.bisimRelatedRow.laid w)/\sizedMet enc Tryd.prog Tryd.f3 (OpenSpec.ofChange Rows.bisimRelatedSpec) false w args)
   (Rows.bisimRelatedSpec.post enc Tryd.prog Tryd.f3 false true false false):=by
 refine returnsInHanded_of_change_and (C:=Tryd.checked) (X:=fun w _=>laidMet Tryd.prog Rows.bisimRelatedRow.laid w) (fun _ _ _ hh h=>h.of_heap hh) Tryd.own started (by kernel_rfl) Tryd.func3
  (ChangeSpec.witness_at (enc:=enc) (C:=Tryd.checked) (os:=os) (X:=fun w _=>laidMet Tryd.prog Rows.bisimRelatedRow.laid w) false (laidWorld os) #[.agg #[.int .i64 0,.int .i64 0,.slice none 0 0],.int .i64 0,.int .i64 0,.agg #[.int .i64 0,.slice none 0 0,.slice none 0 0],.agg #[.int .i64 0,.slice none 0 0,.slice none 0 0],.slice none 0 0] 8 rfl (by kernel_rfl) (by kernel_rfl) (by kernel_rfl) (by kernel_rfl) (by kernel_rfl) (laid_met os _)) ?_
 intro W base args ds gs before hval0 hW hcnd0 _ hL _;have hval:∀(j:Nat) t v,Tryd.f3.params[j]?=some t->args[j]?=some v->Value.okWide Tryd.prog W .any base t v:=hval0;have hW':=hW;obtain ⟨p,q,hA0,hV,rfl,hfz,hnd⟩:=hW;have hA:DataW.TrodAll enc Tryd.prog W 0 (fun _=>true) true Tryd.f3.params.toList args.toList ds p:=hA0;rw[Tryd.params3] at hA hval;obtain ⟨v0,v1,v2,v3,v4,v5,d0,d1,d2,d3,d4,d5,p0,p1,p2,p3,p4,p5,rfl,rfl,rfl,h0,h1,h2,h3,h4,h5⟩:=trodAll_n hA;obtain ⟨rfl,rfl⟩:=trodVars_none hV;obtain ⟨a0,t0,r0,n0⟩:=qL closedOk (by simp) (hval 0 24 v0 rfl rfl) h0;obtain ⟨a1,t1,r1,n1⟩:=qL closedOk (by simp) (hval 1 3 v1 rfl rfl) h1;obtain ⟨a2,t2,r2,n2⟩:=qL closedOk (by simp) (hval 2 3 v2 rfl rfl) h2;obtain ⟨a3,t3,r3,n3⟩:=qL closedOk (by simp) (hval 3 28 v3 rfl rfl) h3;obtain ⟨a4,t4,r4,n4⟩:=qL closedOk (by simp) (hval 4 28 v4 rfl rfl) h4
 obtain ⟨a5,t5,r5,n5⟩:=qL closedOk (by simp) (hval 5 29 v5 rfl rfl) h5;refine (zBV (hlaw a0 a1 a2 a3 a4 a5 t0 t1 t2 t3 t4 t5) (W:=W) (vs:= #[v0,v1,v2,v3,v4,v5]) rfl (fun i b v hb hv=> ?_) (fun b hb=> ?_) (glob_ok hL)).mono fun e W' ⟨he,hs⟩=> ?_
 ·match i,hb,hv with
  | 0,hb,hv=>simp at hb hv;subst hb;subst hv;exact r0
  | 1,hb,hv=>simp at hb hv;subst hb;subst hv;exact r1
  | 2,hb,hv=>simp at hb hv;subst hb;subst hv;exact r2
  | 3,hb,hv=>simp at hb hv;subst hb;subst hv;exact r3
  | 4,hb,hv=>simp at hb hv;subst hb;subst hv;exact r4
  | 5,hb,hv=>simp at hb hv;subst hb;subst hv;exact r5
  | n+6,hb,hv=>simp at hb
 ·simp at hb;rcases hb with rfl | rfl | rfl | rfl | rfl | rfl<;>assumption
 subst he;have hB:=below_of hs;simp only[List.append_nil] at hW';have hlt:∀x∈p0++p1++p2++p3++p4++p5,x.block < W.heap.size:=fun x hx=>by
  have:=hW'.lt x (by simpa using hx);simpa using this
 refine ⟨_,rfl,_,_,_,[],(p0++(p1++(p2++(p3++(p4++p5))))),[],hW',?_,?_,rfl,hB.frame _,fun h=>by cases h⟩
 ·exact trodAll_mk1 (shut_bool (by kernel_rfl) true)
 ·refine trodAll_mkn (Below.trod Tryd.laidOut (by kernel_rfl) (of_decide_eq_true (by kernel_rfl)) h0 hB fun x hx=>hlt x (by simp[hx])) (Below.trod Tryd.laidOut (by kernel_rfl) (of_decide_eq_true (by kernel_rfl)) h1 hB fun x hx=>hlt x (by simp[hx])) (Below.trod Tryd.laidOut (by kernel_rfl) (of_decide_eq_true (by kernel_rfl)) h2 hB fun x hx=>hlt x (by simp[hx])) (Below.trod Tryd.laidOut (by kernel_rfl) (of_decide_eq_true (by kernel_rfl)) h3 hB fun x hx=>hlt x (by simp[hx])) (Below.trod Tryd.laidOut (by kernel_rfl) (of_decide_eq_true (by kernel_rfl)) h4 hB fun x hx=>hlt x (by simp[hx])) (Below.trod Tryd.laidOut (by kernel_rfl) (of_decide_eq_true (by kernel_rfl)) h5 hB fun x hx=>hlt x (by simp[hx]))
theorem row_holds (hlaw:∀a0 a1 a2 a3 a4 a5,Arg Tryd.prog 24 a0->Arg Tryd.prog 3 a1->Arg Tryd.prog 3 a2->Arg Tryd.prog 28 a3->Arg Tryd.prog 28 a4->Arg Tryd.prog 29 a5->Go.Ab.Loc Tryd.prog Gl 0 3 [a0,a1,a2,a3,a4,a5] [] (.bool true) []):Rows.BisimRelatedSaid:=
 OpenClaim.holds_of_wide 3 Tryd.f3 rfl rfl rfl rfl rfl rfl rfl ⟨rfl,rfl,rfl,rfl,rfl⟩ rfl rfl rfl rfl rfl (by kernel_rfl) Tryd.func3 (by kernel_rfl)
  (of_decide_eq_true (by kernel_rfl)) (by unfold Func.isWrapper;first | (rw[if_pos (by decide+kernel)];kernel_rfl) | (rw[if_neg (by decide+kernel)];exact ⟨rfl,rfl⟩))
  (fun os started H enc _=>law_lifted hlaw os started H enc)
theorem card_holds (hlaw:∀a0 a1 a2 a3 a4 a5,Arg Tryd.prog 24 a0->Arg Tryd.prog 3 a1->Arg Tryd.prog 3 a2->Arg Tryd.prog 28 a3->Arg Tryd.prog 28 a4->Arg Tryd.prog 29 a5->Go.Ab.Loc Tryd.prog Gl 0 3 [a0,a1,a2,a3,a4,a5] [] (.bool true) []):Rows.BisimRelatedCardSaid:=
 Claim7.holds_tied_plain_at .later [] [.data] true (true,"d1c919432fbd3883085654766cd62111a6679f7fc4247e6e0fa16e618b634b39") false
  (row_holds hlaw) (fun _ h=>by cases h) (by kernel_rfl) (fun _ h=>by cases h) bisimRelated_row_tie rfl ⟨rfl,rfl⟩ (by kernel_rfl) rfl
  (fun f fn hf hfn=>by
   obtain rfl : f = 3 := Option.some.inj ((show Tryd.prog.funcNamed "ectype/ectypelaw06.BisimRelated" = some 3 by kernel_rfl).symm.trans hf) |>.symm
   obtain rfl:fn=Tryd.f3:=(Option.some.inj (Tryd.func3.symm.trans hfn)).symm;exact ⟨by kernel_rfl,fun j t ht=>by
    rw[Tryd.params3] at ht;have h3:t∈[3,24,28,29]:=by
     match j,ht with
     | 0,ht=>simp at ht;simp[<-ht]
     | 1,ht=>simp at ht;simp[<-ht]
     | 2,ht=>simp at ht;simp[<-ht]
     | 3,ht=>simp at ht;simp[<-ht]
     | 4,ht=>simp at ht;simp[<-ht]
     | 5,ht=>simp at ht;simp[<-ht]
     | n+6,ht=>simp at ht
    have:([3,24,28,29].all fun t=>Tryd.prog.wantsStandIn t==false)=true:=by kernel_rfl
    have:=List.all_eq_true.1 this t h3;have e:Tryd.prog.wantsStandIn t=false:=by simpa using this
    exact e⟩)
  (by kernel_rfl)
theorem related:Rows.BisimRelatedCardSaid:=card_holds law3_arg
end Go.Proofs.YtkdkpeabkafebaaDoor
