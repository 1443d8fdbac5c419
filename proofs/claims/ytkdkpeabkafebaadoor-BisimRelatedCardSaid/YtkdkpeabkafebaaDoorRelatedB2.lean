/- Each operation does what its effect says: cuts, makes, literals, function values. -/
import Derived.Test.YtkdkpeabkafebaaDoorRelatedB1
import Derived.Conc.LoneCalls
import Derived.MapKept
import Derived.RangeFuncRecord
import Derived.AtR
open Array renaming getElem?_eq_getElem->yHK, getD_eq_getD_getElem?->yHP, getElem?_eq_some_iff->yIR, getElem?_append_left->yIW, getElem?_push->yIX, getElem?_toList->yJD, size_append->yJG, getElem?_append_right->yJI, getElem_of_mem->yJJ, getElem?_setIfInBounds_ne->yJT, append_assoc->yKB, eq_empty_of_size_eq_zero->yKE
open Bool renaming false_eq_true->yHI, not_false->yIE, and_eq_true->yIP
open Int renaming toNat_of_nonneg->yIO, toNat_natCast->yJN
open List renaming range->yGU, getElem?_eq_some_iff->yGW, getElem?_eq_getElem->yGY, foldl_nil->yGZ, getElem?_toArray->yHA, all_eq_true->yHB, getElem?_map->yHD, foldl_cons->yHG, mem_map->yHJ, map_cons->yHL, length_append->yHO, replicate->yHR, getElem?_cons_succ->yHS, map_nil->yHU, size_toArray->yHV, mem_cons->yHW, getElem?_take_of_lt->yHX, getElem?_cons_zero->yHZ, map_toArray->yIA, getElem?_append_left->yIB, mem_of_mem_take->yIC, getElem?_of_mem->yID, getElem?_append_right->yIG, length_cons->yIH, length_take->yII, getElem_mem->yIJ, mem_of_mem_drop->yIL, getElem?_drop->yIM, flatten_cons->yIN, zipIdx_cons->yIS, length_nil->yIU, length_map->yIV, flatMap_cons->yIY, length_drop->yJA, mem_flatten->yJB, append_nil->yJC, getD_eq_getElem?_getD->yJE, eq_nil_of_length_eq_zero->yJF, length_range->yJH, length_eq_zero_iff->yJK, drop_succ_cons->yJL, take_append_drop->yJM, replicate_succ->yJO, getElem?_eq_none->yJS, mapM_cons->yJU, mem_append->yJV, getElem?_append->yJW, foldlM_cons->yKC, foldlM_nil->yKD
open Nat renaming le_refl->yHH, zero_le->yHM, add_mul->yHN, succ_mul->yHQ, zero_add->yHT, mul_le_mul_right->yHY, zero_mul->yIF, add_zero->yIK, mod_lt->yIQ, add_comm->yIZ, mod_eq_of_lt->yJP, add_mod_right->yJQ, add_one_sub_one->yJR, eq_zero_or_pos->yJX, div_lt_iff_lt_mul->yJY, div_add_mod->yJZ, le_mul_of_pos_right->yKA
open Option renaming map_eq_some_iff->yHC, map_some->yHE, getD_some->yHF, isSome_iff_exists->yIT
open Go.Result renaming andThen_ok->yGV
open Go.Sem renaming run_bind->yGT, run_pure->yGX
set_option linter.unusedVariables false
set_option linter.unusedSimpArgs false
namespace Go.Ab
open Go
theorem lB:∀{xs:List AV} {z:Nat} (l:Nat),(∀x∈xs,x.cells.length=z)->yC (xs.drop l)=(yC xs).drop (l*z)
 | xs,z,0,h=>by simp
 | [],z,l+1,h=>by simp[yC]
 | x::xs,z,l+1,h=>by
  have h1:=h x (by simp);have:=lB (xs:=xs) (z:=z) l fun y hy=>h y (by simp[hy]);simp only[yJL,this];simp only[yC,yIY];rw[yHQ,yIZ,<-List.drop_drop,<-h1,List.drop_left]
theorem w9 {xs:List AV} {h:Nat} {i:Nat} {c:AV} (hc:(yC (xs.take h))[i]?=some c):(yC xs)[i]?=some c:=by
 have:yC xs=yC (xs.take h)++yC (xs.drop h):=by rw[<-uR,yJM]
 rw[this,yIB (yGW.1 hc).1];exact hc
theorem jD {xs:List AV} {h l:Nat} {x:AV} (hx:x∈(xs.take h).drop l):x∈xs:=yIC (yIL hx)
section
variable {P:Program} {G:Nat->Option (List AV)} {prot:Nat->Prop} {w0:World} {E0 E:GE} {w:World} {s:St} {a:Act}
theorem wF (len cap:Nat) (lo hi:Option Value) (l h:Nat) (hl:(∃k,lo=some (.int k (l:Int)))\/(lo=none/\l=0)) (hh:(∃k,hi=some (.int k (h:Int)))\/(hi=none/\h=len))
  (h1:l<=h) (h2:h<=cap) (w:World):(Instr.sliceBounds true len cap lo hi none).run P w= .ok (l,h,cap) w:=by
 have sb:∀k (n y:Nat) c,n<=y->(Instr.sliceBound (.int k (n:Int)) y c).run P w= .ok n w:=by
  intro k n y c hn;unfold Instr.sliceBound;simp[asIntOf,hn]
 unfold Instr.sliceBounds;rcases hl with ⟨k,rfl⟩ | ⟨rfl,rfl⟩<;>rcases hh with ⟨k',rfl⟩ | ⟨rfl,rfl⟩<;>simp[sb _ _ _ _ h1,sb _ _ _ _ h2,sb _ _ _ _ (yHH _)]
theorem mH {imm} {z xs t v} (hr:RelI imm (.sl z xs t) v) {l h:Nat} (h1:l<=h) (h2:h<=xs.length) (t':Tip) (ht:t'= .nil->t= .nil):
  ∃b cap,v= .slice b xs.length cap/\xs.length<=cap/\RelI imm (.sl z ((xs.take h).drop l) t') (.slice (if cap=l then b else b.map (·.add (l*z))) (h - l) (cap - l)):=by
 cases hr with
 | slE _ _ b cap k1 k2=>
  refine ⟨b,cap,rfl,yHM _,?_⟩;simp at h2;have hh:h=0:=by omega
  subst hh;have hl:l=0:=by omega
  subst hl;simp only[List.take_nil,List.drop_nil,Nat.sub_zero,yIF];refine .slE _ _ _ _ (fun e=>by rw[k1 (ht e)];split<;>rfl) (fun e=> ?_)
  by_cases hc:cap=0
  ·exact hc
  ·rw[if_neg hc] at e;cases b with
   | none=>exact k2 rfl
   | some x=>simp at e
 | slN _ _ _ b o cap vs k1 k2 k3 k4 k5 k6=>
  refine ⟨_,cap,rfl,k2,?_⟩;by_cases he:l=h
  ·subst he;have:(xs.take l).drop l= []:=List.drop_eq_nil_of_le (by simp;omega);rw[this,Nat.sub_self];refine .slE _ _ _ _ (fun e=>absurd (ht e) k3) (fun e=> ?_);by_cases hc:cap=l
   ·rw[if_pos hc] at e;cases e
   ·rw[if_neg hc] at e;simp at e
  ·have hc:cap≠l:=by omega
   rw[if_neg hc];simp only[yHE,yW];have hlen:((xs.take h).drop l).length=h - l:=by simp;omega
   have hz:∀x∈xs.take h,x.cells.length=z:=fun x hx=>k4 x (yIC hx);have hget:∀i c,(yC ((xs.take h).drop l))[i]?=some c->(yC xs)[l*z+i]?=some c:=by
    intro i c hi;rw[lB l hz,yIM] at hi;exact w9 hi
   have:=RelI.slN (imm:=imm) z ((xs.take h).drop l) t' b (o+l*z) (cap - l) (fun i=>vs (l*z+i)) (by intro e;rw[e] at hlen;simp at hlen;omega) (by rw[hlen];omega)
    (fun e=>k3 (ht e)) (fun x hx=>k4 x (jD hx)) (fun i c hi=>k5 _ c (hget i c hi))
    (fun i hi=>by
     have hc:=hget i _ (yGY hi);rw[Nat.add_assoc];exact k6 _ (yGW.1 hc).1)
   rw[hlen] at this;exact this
theorem jI {b v n} (h:Rel E b v) (hi:b.idx=some n):∃k,v= .int k n:=by
 cases b<;>simp[AV.idx] at hi
 subst hi;exact ⟨_,h.int_inv⟩
theorem aI (h:Ok G prot w0 E0 E w s a.tmps) (dst:Option Nat) {t el x xo lo hi lo' hi' inf take e} (hu:P.underlying t=some (.slice el)) (hi0:P.info? el=some inf) (hx:opd P G t x=some xo)
  (hlo:optO P G lo=some lo') (hhi:optO P G hi=some hi') (he:opf s dst (.slice inf.size take xo lo' hi')=some e):
  Done G prot w0 E0 E s a dst e ((do pure (Next.value (<-Instr.sliceAt t (a.eval x) (lo.map a.eval) (hi.map a.eval) none)):Sem Next).run P w):=by
 have hr:=h.evr (s:=s) hx;simp only[opf] at he;split at he
 ·cases he
 ·rename_i l hl;split at he
  ·rename_i z' xs tp hev;split at he
   ·rename_i hv hh;split at he
    ·rename_i hc;obtain ⟨hz,h0,h1,h2⟩:=hc;rw[hev] at hr;obtain ⟨_,_,_,hri⟩:=hr.sl_inv;have hlV:(∃k,lo.map a.eval=some (.int k (l.toNat:Int)))\/(lo.map a.eval=none/\l.toNat=0):=by
      cases lo with
      | none=>simp[optO] at hlo;subst hlo;simp[optI] at hl;exact .inr ⟨rfl,by omega⟩
      | some o=>
       simp only[optO,yHC] at hlo;obtain ⟨o',ho,rfl⟩:=hlo;obtain ⟨k,hk⟩:=jI (h.ev (s:=s) ho) hl;refine .inl ⟨k,?_⟩;simp[hk,yIO h0]
     have hhV:(∃k,hi.map a.eval=some (.int k (hv.toNat:Int)))\/(hi.map a.eval=none/\hv.toNat=xs.length):=by
      cases hi with
      | none=>simp[optO] at hhi;subst hhi;simp[optI] at hh;exact .inr ⟨rfl,by omega⟩
      | some o=>
       simp only[optO,yHC] at hhi;obtain ⟨o',ho,rfl⟩:=hhi;obtain ⟨k,hk⟩:=jI (h.ev (s:=s) ho) hh;refine .inl ⟨k,?_⟩;simp[hk,yIO (by omega:0<=hv)]
     have g1:l.toNat<=hv.toNat:=by omega
     have g2:hv.toNat<=xs.length:=by omega
     have hrun:∀b cap,a.eval x= .slice b xs.length cap->xs.length<=cap->(Instr.sliceAt t (a.eval x) (lo.map a.eval) (hi.map a.eval) none).run P w=
       .ok (.slice (if cap=l.toNat then b else b.map (·.add (l.toNat*z'))) (hv.toNat - l.toNat) (cap - l.toNat)) w:=by
      intro b cap hb hcap;unfold Instr.sliceAt;rw[yGT,run_underlying hu,yGV];simp only[hb,Instr.slice,yGT,run_underlying hu,yGV,wF xs.length cap _ _ _ _ hlV hhV g1 (by omega),run_sizeOf w hi0,Program.cellsOf,hi0,yHE,yHF,
       yGX,hz]
     split at he
     ·rename_i htake;injection he with he;subst he;have hnone:hi'=none:=by simp[yIP,Option.isNone_iff_eq_none] at htake;exact htake.2
      subst hnone;simp[optI] at hh;subst hh;obtain ⟨b,cap,e1,e2,e3⟩:=mH hri g1 g2 tp id;simp only[yJN,List.take_length] at e3;rw[yB _ (hrun b cap e1 e2)];obtain ⟨s1,hs1,o1,hl1,hD1,hos1,htip⟩:=dP h hx;refine ⟨_,_,w,E,rfl,.inl rfl,GE.leD_refl _ _,?_⟩;simp only[St.app,yGZ,<-hs1];simp only[yJN];refine o1.putS dst (.imm _ _ (hz▸e3)) (by simp) fun z xs2 ad cap2 eq hvv hlt=> ?_;injection eq with q1 q2 q3;subst q1;subst q2;subst q3;injection hvv with p1 p2 p3;have hlen:(xs.drop l.toNat).length=xs.length - l.toNat:=by simp
      rw[hlen] at hlt p2;have hlc:cap≠l.toNat:=by omega
      rw[if_neg hlc] at p1;cases b with
      | none=>simp at p1
      | some ad0=>
       simp at p1;obtain ⟨t1,t2⟩:=htip z' xs ad0 cap hev e1 (by omega);have hsp:=t1.spot;have hadd:ad0.add (l.toNat*z')=⟨ad0.block,ad0.off+l.toNat*z',none⟩:=by
        have:ad0=⟨ad0.block,ad0.off,none⟩:=by cases ad0;simp at hsp;subst hsp;rfl
        rw[this];exact yW _ _ _
       rw[hadd] at p1;subst p1;have m1:l.toNat*z'+(xs.length - l.toNat)*z'=xs.length*z':=by rw[<-yHN];congr 1;omega
       have m2:l.toNat*z'+(cap - l.toNat)*z'=cap*z':=by rw[<-yHN];congr 1;omega
       obtain ⟨arr,el',r1,r2⟩:=t1.room;rw[<-hz,hlen,<-p3];refine ⟨⟨rfl,⟨arr,el',r1,by simp only;omega⟩,fun p hp=>t1.free p (by simp only at hp;omega),t1.notp,t1.noob⟩,fun lc ad' z'' n' cap' _ hh'=>t2 lc ad' z'' n' cap' hh'⟩
     ·injection he with he;subst he;obtain ⟨b,cap,e1,e2,e3⟩:=mH hri g1 g2 .no (by simp);rw[yB _ (hrun b cap e1 e2)];exact zO h dst (.imm _ _ (hz▸e3)) trivial
    ·cases he
   ·cases he
  ·cases he
theorem fV {z:List Value}:∀{n j:Nat},j < n*z.length->(yHR n z).flatten[j]?=z[j % z.length]?
 | 0,j,h=>by simp at h
 | n+1,j,h=>by
  rw[yJO,yIN];by_cases hj:j < z.length
  ·rw[yIB hj,yJP hj]
  ·rw[yIG (by omega),fV (by rw[yHQ] at h;omega)];congr 1;have:j=(j - z.length)+z.length:=by omega
   rw[this,yJQ];simp
theorem l7 {z:List AV}:∀{n j:Nat},j < n*z.length->(yHR n z).flatten[j]?=z[j % z.length]?
 | 0,j,h=>by simp at h
 | n+1,j,h=>by
  rw[yJO,yIN];by_cases hj:j < z.length
  ·rw[yIB hj,yJP hj]
  ·rw[yIG (by omega),l7 (by rw[yHQ] at h;omega)];congr 1;have:j=(j - z.length)+z.length:=by omega
   rw[this,yJQ];simp
theorem zUY {n:Int} (h0: -9223372036854775808<=n) (h1:n < 9223372036854775808):IntKind.i64.wrap n=n:=by
 have e1:(2:Int)^64=18446744073709551616:=by decide
 have e2:(2:Int)^63=9223372036854775808:=by decide
 unfold IntKind.wrap;simp only[IntKind.bits,IntKind.signed,Bool.true_and,decide_eq_true_eq,e1,e2,yJR,show 64 - 1=63 from rfl];split<;>omega
theorem oC {imm:Nat->Nat->Option Value} {w:World} {t el ti z kl kc} {n:Int} (hu:P.underlying t=some (.slice el)) (ht:tinf P el=some ti) (hz:xF P el=some z)
  (k0:0<=n) (k2:n<=zD) (k3:n*ti.bytes<=zD) (k4:z.length=ti.size) (k5:0 < ti.size):∃arr:Array Value,
   (Instr.makeSlice t (.int kl n) (.int kc n)).run P w= .ok (.slice (some ⟨w.heap.size,0,none⟩) n.toNat n.toNat) {w with heap:=w.heap.push (.cells arr el)}/\arr.size=n.toNat*z.length/\
   ∀(j:Nat) (c:AV) (u:Value),(yHR n.toNat z).flatten[j]?=some c->arr[j]?=some u->RelI imm c u/\c.one=true/\u.oneCell'=true:=by
 obtain ⟨inf,v,h1,h2,h3,h4,h5⟩:=yH hz;obtain ⟨inf',h1',_,hs,hby,_⟩:=z8 ht;have:inf'=inf:=by rw[h1] at h1';exact (Option.some.inj h1').symm
 subst this;have hbig:n<=1099511627776:=by unfold zD at k2;simpa using k2
 have hbb:n*(ti.bytes:Int)<=1099511627776:=by unfold zD at k3;simpa using k3
 have hw:IntKind.i64.wrap n=n:=zUY (by omega) (by omega);have hzs:v.cells.size=ti.size:=by omega
 have hbytes:¬((inf'.bytes:Int)*n > 2^48):=by rw[hby,Int.mul_comm];omega
 refine ⟨(yHR n.toNat v.cells.toList).flatten.toArray,?_,by simp[h4],?_⟩
 ·unfold Instr.makeSlice;simp only[yGT,run_underlying hu,yGV,asInt,asIntOf,pure_bind,yGX,run_typeInfo w h1,hw];have hfalse:(decide (n < 0) || decide ((inf'.bytes:Int)*n > 2^48))=false:=by
   simp only[Bool.or_eq_false_iff,decide_eq_false_iff_not];exact ⟨by omega,hbytes⟩
  simp only[hfalse,yHI,false_or];rw[if_neg (by simp;omega)];simp only[yGT,run_askRoom,yGV,run_sizeOf w h1,Program.cellsOf,h1,yHE,yHF,yGX];have hcells:∀k:Nat,k=n.toNat*inf'.size->((Array.range k).map (v.cells[· % v.cells.size]!))=(yHR n.toNat v.cells.toList).flatten.toArray:=by
   intro k hk;apply Array.ext_getElem?;intro j;simp only[Array.getElem?_map,yHA];by_cases hj:j < k
   ·rw[fV (by simp;rw[hzs,<-hs,<-hk];exact hj)];have hp:0 < v.cells.size:=by omega
    have hm:j % v.cells.size < v.cells.size:=yIQ _ hp;simp[hj,hm]
   ·have:(yHR n.toNat v.cells.toList).flatten.length=k:=by simp[hzs,<-hs,hk]
    rw[yJS (by omega)];simp[hj]
  by_cases hn0:n.toNat*inf'.size=0
  ·have hn00:n.toNat=0:=by
    rcases Nat.mul_eq_zero.1 hn0 with e | e
    ·exact e
    ·omega
   simp[hn0,hn00,newRow,show Array.range 0= #[] from rfl]
  ·rw[if_neg hn0];simp only[yGT,yZ h1 h2,yGV,yGX,hcells _ rfl];simp[newRow]
 ·intro j c u hc hu;have hj:j < n.toNat*z.length:=by have:=(yGW.1 hc).1;simpa using this
  rw[l7 hj] at hc;rw[yHA,fV (by simp;rw[<-h4];exact hj)] at hu;rw[show v.cells.toList.length=z.length by simp[h4]] at hu;exact h5 _ _ c u hc (by simpa using hu)
theorem d8 {n:Nat} {el z} (hz:xF P el=some z) {j:Nat} {z' xs} (hc:(yHR n z).flatten[j]?=some (.sl z' xs .tip)):False:=by
 have hj:j < n*z.length:=by have:=(yGW.1 hc).1;simpa using this
 rw[l7 hj] at hc;exact AV.dull_ne (rX hz _ (zP hc)) rfl
theorem gI (h:Ok G prot w0 E0 E w s a.tmps) (dst:Option Nat) {t el l c lo co ti z e} (hu:P.underlying t=some (.slice el)) (ht:tinf P el=some ti) (hz:xF P el=some z)
  (hl:opd P G 0 l=some lo) (hc:opd P G 0 c=some co) (he:opf s dst (.mkslice ti.size ti.bytes (aggD ti.desc) z lo co)=some e):
  Done G prot w0 E0 E s a dst e ((do pure (Next.value (<-Instr.makeSlice t (a.eval l) (a.eval c))):Sem Next).run P w):=by
 have hrl:=h.ev (s:=s) hl;have hrc:=h.ev (s:=s) hc;simp only[opf] at he;split at he
 ·rename_i d kl n kc m e1 e2;split at he
  ·rename_i e0 he0;split at he
   ·rename_i hcond;obtain ⟨k0,k1,k2,k3,k4,k5⟩:=hcond;injection he with he;subst he;subst k1;rw[e1] at hrl;rw[e2] at hrc;rw[hrl.int_inv,hrc.int_inv];obtain ⟨arr,hrun,hsz,hr⟩:=oC (imm:=E.imm) (w:=w) (kl:=kl) (kc:=kc) hu ht hz k0 k2 k3 k4 k5;rw[yB _ hrun];refine v7 h he0 (by simp[hsz]) ?_ (fun j c u hc hu=> .imm _ _ (hr j c u hc hu).1)
     (fun j z' xs ad cap hc _=>(d8 hz hc).elim)
     (fun E' _ hl hro=> .own _ _ _ _ _ _ _ _ _ hl (yHH _) (by rw[hro,hsz];simp[k4])) trivial
    intro j u hu;have hlt:j < (yHR n.toNat z).flatten.length:=by
     have:=(yIR.1 hu).1;simpa[hsz] using this
    exact (hr j _ u (yGY hlt) hu).2.2
   ·cases he
  ·cases he
 ·cases he
theorem wS (h:Ok G prot w0 E0 E w s a.tmps):∀{ts xs os},opds P G ts xs=some os->os.length=xs.length/\∀(i:Nat) o x,os[i]?=some o->xs[i]?=some x->∃t,opd P G t x=some o
 | _,[],os,hx=>by simp[opds] at hx;subst hx;simp
 | ts,x::xs,os,hx=>by
  simp only[opds] at hx;split at hx
  ·rename_i o l h1 h2;injection hx with hx;subst hx;obtain ⟨q1,q2⟩:=wS h h2;refine ⟨by simp[q1],fun i o' x' ho hx'=> ?_⟩;cases i with
   | zero=>simp at ho hx';subst ho;subst hx';exact ⟨_,h1⟩
   | succ i=>exact q2 i o' x' (by simpa using ho) (by simpa using hx')
  ·cases hx
theorem zCP (h:Ok G prot w0 E0 E w s a.tmps) (dst:Option Nat) {f ts cap cs e} (hx:opds P G ts cap=some cs) (he:opf s dst (.mkfn f cs)=some e):
  Done G prot w0 E0 E s a dst e ((do pure (Next.value (<-Instr.makeFunc (.func f) #[] (cap.toArray.map a.eval))):Sem Next).run P w):=by
 simp only[opf] at he;injection he with he;subst he;simp only[Instr.makeFunc,pure_bind,yGX];obtain ⟨q1,q2⟩:=wS h hx;refine zO h dst ?_ trivial;have:=Rel.fn (E:=E) f (cs.map fun x=>(s.ev x).strip) (cap.map a.eval) (by simp[q1]) (by
  intro i c v hc hv;simp only[yHD,yHC] at hc hv;obtain ⟨o,ho,rfl⟩:=hc;obtain ⟨x,hx',rfl⟩:=hv;obtain ⟨t,ht⟩:=q2 i o x ho hx';exact (h.ev ht).strip)
 simpa using this
theorem eK (h:Ok G prot w0 E0 E w s a.tmps) (dst:Option Nat) {f ts cap cs e} (hx:opds P G ts cap=some cs) (he:opf s dst (.mkmeth f cs)=some e):
  Done G prot w0 E0 E s a dst e ((do pure (Next.value (<-Instr.makeFunc (.func f) (cap.toArray.map a.eval) #[])):Sem Next).run P w):=by
 simp only[opf] at he;injection he with he;subst he;simp only[Instr.makeFunc,pure_bind,yGX];obtain ⟨q1,q2⟩:=wS h hx;refine zO h dst ?_ trivial;have:=Rel.meth (E:=E) f (cs.map fun x=>(s.ev x).strip) (cap.map a.eval) (by simp[q1]) (by
  intro i c v hc hv;simp only[yHD,yHC] at hc hv;obtain ⟨o,ho,rfl⟩:=hc;obtain ⟨x,hx',rfl⟩:=hv;obtain ⟨t,ht⟩:=q2 i o x ho hx';exact (h.ev ht).strip)
 simpa using this
end
end Go.Ab
/- Each operation does what its effect says: literals of structs,arrays and slices; freezing. -/
namespace Go.Ab
open Go
theorem uO (off:Nat):∀(l:List Value) (k:Nat) (cells:Array Value),((l.zipIdx k).foldl (fun cs (p:Value×Nat)=>cs.setIfInBounds (off+p.2) p.1) cells).size=cells.size
 | [],k,cells=>by simp
 | v::l,k,cells=>by simp[yIS,uO off l]
theorem sG (off:Nat):∀(l:List Value) (k:Nat) (cells:Array Value) (j:Nat),off+k+l.length<=cells.size->
  ((l.zipIdx k).foldl (fun cs (p:Value×Nat)=>cs.setIfInBounds (off+p.2) p.1) cells)[j]?=if off+k<=j/\j < off+k+l.length then l[j - (off+k)]? else cells[j]?
 | [],k,cells,j,_=>by simp;intro h1 h2;omega
 | v::l,k,cells,j,h=>by
  simp only[yIH] at h;simp only[yIS,yHG,yIH];rw[sG off l (k+1) _ j (by simp;omega)];by_cases h1:off+(k+1)<=j/\j < off+(k+1)+l.length
  ·rw[if_pos h1,if_pos (by omega)];have:j - (off+k)=(j - (off+(k+1)))+1:=by omega
   rw[this,yHS]
  ·rw[if_neg h1];by_cases h2:j=off+k
   ·subst h2;rw[if_pos (by omega),Array.getElem?_setIfInBounds_self_of_lt (by omega)];simp
   ·rw[if_neg (by omega),yJT (by omega)]
theorem hY {place:Nat->Option (Nat×Nat)} {cells:Array Value} {i:Nat} {v:Value} {rest:List (Nat×Value)} {off size:Nat} (hp:place i=some (off,size)) (hv:v.cells.size=size) (hle:off+v.cells.size<=cells.size):
  Instr.fill place cells ((i,v)::rest)=Instr.fill place ((v.cells.toList.zipIdx 0).foldl (fun cs (p:Value×Nat)=>cs.setIfInBounds (off+p.2) p.1) cells) rest:=by
 simp only[Instr.fill,hp,hv];rw[if_neg (by simp;omega)];congr 1;rw[<-Array.foldl_toList,Array.toList_zipIdx]
theorem jO {E:GE} {place:Nat->Option (Nat×Nat)}:∀(ps:List (Nat×Value)) (qs:List (Nat×Nat×AV)) (cells:Array Value) (cs cs':List AV),ps.length=qs.length->
  (∀(i:Nat) p q,ps[i]?=some p->qs[i]?=some q->place p.1=some (q.1,q.2.1)/\Rel E q.2.2 p.2)->cs.length=cells.size->
  (∀(j:Nat) c v,cs[j]?=some c->cells[j]?=some v->Rel E c v)->aA cs qs=some cs'->
  ∃cells',Instr.fill place cells ps=some cells'/\cs'.length=cells'.size/\∀(j:Nat) c v,cs'[j]?=some c->cells'[j]?=some v->Rel E c v
 | [],[],cells,cs,cs',_,_,hl,hr,he=>by simp[aA] at he;subst he;exact ⟨cells,rfl,hl,hr⟩
 | [],q::qs,_,_,_,hlen,_,_,_,_=>by simp at hlen
 | p::ps,[],_,_,_,hlen,_,_,_,_=>by simp at hlen
 | (i,v)::ps,(off,n,b)::qs,cells,cs,cs',hlen,hpq,hl,hr,he=>by
  simp only[aA] at he;split at he
  ·rename_i hc;obtain ⟨h1,h2⟩:=hpq 0 _ _ rfl rfl;simp only at h1 h2;obtain ⟨k1,k2⟩:=h2.cells;have hv:v.cells.size=n:=by rw[<-k1];exact hc.1
   have hle:off+v.cells.size<=cells.size:=by rw[hv,<-hl];exact hc.2
   have hput:∀j,(putC cs off b.cells)[j]?=if off<=j/\j < off+b.cells.length then b.cells[j - off]? else cs[j]?:=fun j=>k9 (by rw[hc.1];exact hc.2) j
   have hset:∀j,((v.cells.toList.zipIdx 0).foldl (fun cs (p:Value×Nat)=>cs.setIfInBounds (off+p.2) p.1) cells)[j]?=if off<=j/\j < off+v.cells.size then v.cells[j - off]? else cells[j]?:=by
    intro j;rw[sG off v.cells.toList 0 cells j (by simpa using hle)];simp
   rw[hY h1 hv hle];refine jO ps qs _ _ cs' (by simpa using hlen) (fun i p q hp hq=>hpq (i+1) p q (by simpa using hp) (by simpa using hq)) ?_ ?_ he
   ·rw[uO];simp only[putC,yHO,yII,yJA,hc.1];omega
   ·intro j c u hj hu;rw[hput] at hj;rw[hset] at hu;rw[k1] at hj;split at hj
    ·rename_i hin;rw[if_pos hin] at hu;exact k2 _ c u hj hu
    ·rename_i hin;rw[if_neg hin] at hu;exact hr j c u hj hu
  ·cases he
section
variable {P:Program} {G:Nat->Option (List AV)} {prot:Nat->Prop} {w0:World} {E0 E:GE} {w:World} {s:St} {a:Act}
theorem bK {cs:List AV} {arr:Array Value} (hl:cs.length=arr.size) (hr:∀(j:Nat) (c:AV) (v:Value),cs[j]?=some c->arr[j]?=some v->Rel E c v):Rel E (.agg (cs.map AV.dem1)) (.agg arr):=by
 have:=Rel.agg (E:=E) (cs.map AV.dem1) arr.toList (by simpa using hl) (Rel.mapc (fun _ _=>Rel.dem1) (fun i c v hc hv=>hr i c v hc (by simpa using hv)));simpa using this
theorem mL (h:Ok G prot w0 E0 E w s a.tmps) {fs:Array Field}:∀{ps qs},mM P G fs ps=some qs->
  ps.length=qs.length/\∀(i:Nat) p q,ps[i]?=some p->qs[i]?=some q->∃f,fs[p.1]?=some f/\q.1=f.offset/\q.2.1=P.cellsOf f.type/\Rel E (s.ev q.2.2) (a.eval p.2)
 | [],qs,hx=>by simp[mM] at hx;subst hx;simp
 | (i,x)::ps,qs,hx=>by
  simp only[mM] at hx;split at hx
  ·rename_i f l hf hps;split at hx
   ·rename_i o ho;injection hx with hx;subst hx;obtain ⟨q1,q2⟩:=mL h hps;refine ⟨by simp[q1],fun j p q hp hq=> ?_⟩;cases j with
    | zero=>simp at hp hq;subst hp;subst hq;exact ⟨f,hf,rfl,rfl,h.ev ho⟩
    | succ j=>exact q2 j p q (by simpa using hp) (by simpa using hq)
   ·cases hx
  ·cases hx
theorem mN (h:Ok G prot w0 E0 E w s a.tmps) {el:TypeId}:∀{ps qs},mO P G el ps=some qs->
  ps.length=qs.length/\∀(i:Nat) p q,ps[i]?=some p->qs[i]?=some q->q.1=p.1*P.cellsOf el/\q.2.1=P.cellsOf el/\Rel E (s.ev q.2.2) (a.eval p.2)
 | [],qs,hx=>by simp[mO] at hx;subst hx;simp
 | (i,x)::ps,qs,hx=>by
  simp only[mO] at hx;split at hx
  ·rename_i o l ho hps;injection hx with hx;subst hx;obtain ⟨q1,q2⟩:=mN h hps;refine ⟨by simp[q1],fun j p q hp hq=> ?_⟩;cases j with
   | zero=>simp at hp hq;subst hp;subst hq;exact ⟨rfl,rfl,h.ev ho⟩
   | succ j=>exact q2 j p q (by simpa using hp) (by simpa using hq)
  ·cases hx
theorem rC {α β:Type} (f:α->Sem β) (g:α->β):∀(l:List α),(∀x∈l,∀w,(f x).run P w= .ok (g x) w)->∀w,(l.mapM f).run P w= .ok (l.map g) w
 | [],_,w=>by simp
 | x::l,h,w=>by
  rw[yJU];simp[h x (by simp) w,rC f g l (fun y hy=>h y (by simp[hy])) w]
theorem bR {fs:Array Field} (hf:fs.all (fun f=>(P.info? f.type).isSome)=true) (w:World):
  (fs.mapM fun (f:Field)=>(do pure (f.offset,<-sizeOf f.type):Sem (Nat×Nat))).run P w= .ok (fs.map fun f=>(f.offset,P.cellsOf f.type)) w:=by
 rw[Array.mapM_eq_mapM_toList];have:=rC (P:=P) (fun f:Field=>do pure (f.offset,<-sizeOf f.type)) (fun f=>(f.offset,P.cellsOf f.type)) fs.toList (fun f hf' w=>by
  have:(P.info? f.type).isSome=true:=by
   rw[Array.all_eq_true_iff_forall_mem] at hf;exact hf f (by simpa using hf')
  obtain ⟨i,hi⟩:=yIT.1 this;simp[run_sizeOf w hi]) w
 rw[Sem.run_map,this,yGV];congr 1;apply Array.ext';simp
theorem tI {ps:Array (Nat×Operand)} {ρ:Operand->Value}:(ps.map fun (i,x)=>(i,ρ x)).toList=ps.toList.map fun p=>(p.1,ρ p.2):=by simp
theorem eO (h:Ok G prot w0 E0 E w s a.tmps) (dst:Option Nat) {t fs z qs e} {ps:Array (Nat×Operand)} (hu:P.underlying t=some (.struct fs)) (hz:xF P t=some z)
  (hf:fs.all (fun f=>(P.info? f.type).isSome)=true) (hq:mM P G fs ps.toList=some qs) (he:opf s dst (.build z qs)=some e):
  Done G prot w0 E0 E s a dst e ((do pure (Next.value (<-Instr.build t (ps.map fun (i,x)=>(i,a.eval x)))):Sem Next).run P w):=by
 obtain ⟨inf,v,h1,h2,h3,h4,h5⟩:=yH hz;simp only[opf] at he;split at he
 ·rename_i cs hcs;injection he with he;subst he;obtain ⟨q1,q2⟩:=mL h hq;obtain ⟨cells',hc1,hc2,hc3⟩:=jO (E:=E) (place:=fun i=>(fs.map fun f=>(f.offset,P.cellsOf f.type))[i]?) (ps.toList.map fun p=>(p.1,a.eval p.2)) (qs.map fun (o,n,x)=>(o,n,s.ev x)) v.cells z cs
   (by simpa using q1) (by
    intro i p q hp hq';simp only[yHD,yHC] at hp hq';obtain ⟨p0,hp0,rfl⟩:=hp;obtain ⟨q0,hq0,rfl⟩:=hq';obtain ⟨f,k1,k2,k3,k4⟩:=q2 i p0 q0 hp0 hq0;refine ⟨?_,k4⟩;simp[k1,k2,k3]) h4 (fun j c u hc hu'=> .imm _ _ (h5 _ j c u hc hu').1) hcs
  have hrun:(Instr.build t (ps.map fun (i,x)=>(i,a.eval x))).run P w= .ok (.agg cells') w:=by
   unfold Instr.build;simp only[yGT,yZ h1 h2,yGV,run_underlying hu,bR hf,tI];rw[hc1];rfl
  rw[yB _ hrun];exact zO h dst (bK hc2 hc3) (AV.dull_dem (.agg cs))
 ·cases he
theorem eP (h:Ok G prot w0 E0 E w s a.tmps) (dst:Option Nat) {t n el z qs e} {ps:Array (Nat×Operand)} (hu:P.underlying t=some (.array n el)) (hz:xF P t=some z)
  (hf:(P.info? el).isSome=true) (hq:mO P G el ps.toList=some qs) (he:opf s dst (.build z qs)=some e):
  Done G prot w0 E0 E s a dst e ((do pure (Next.value (<-Instr.build t (ps.map fun (i,x)=>(i,a.eval x)))):Sem Next).run P w):=by
 obtain ⟨inf,v,h1,h2,h3,h4,h5⟩:=yH hz;obtain ⟨i0,hi0⟩:=yIT.1 hf;simp only[opf] at he;split at he
 ·rename_i cs hcs;injection he with he;subst he;obtain ⟨q1,q2⟩:=mN h hq;obtain ⟨cells',hc1,hc2,hc3⟩:=jO (E:=E) (place:=fun i=>some (i*P.cellsOf el,P.cellsOf el)) (ps.toList.map fun p=>(p.1,a.eval p.2)) (qs.map fun (o,n,x)=>(o,n,s.ev x)) v.cells z cs
   (by simpa using q1) (by
    intro i p q hp hq';simp only[yHD,yHC] at hp hq';obtain ⟨p0,hp0,rfl⟩:=hp;obtain ⟨q0,hq0,rfl⟩:=hq';obtain ⟨k2,k3,k4⟩:=q2 i p0 q0 hp0 hq0;refine ⟨?_,k4⟩;simp[k2,k3]) h4 (fun j c u hc hu'=> .imm _ _ (h5 _ j c u hc hu').1) hcs
  have hrun:(Instr.build t (ps.map fun (i,x)=>(i,a.eval x))).run P w= .ok (.agg cells') w:=by
   unfold Instr.build;simp only[yGT,yZ h1 h2,yGV,run_underlying hu,run_sizeOf w hi0,tI];rw[hc1];rfl
  rw[yB _ hrun];exact zO h dst (bK hc2 hc3) (AV.dull_dem (.agg cs))
 ·cases he
theorem vM {α β:Type} {f:α->Option β}:∀{l:List α} {m:List β},l.mapM f=some m->m.length=l.length/\∀(j:Nat) x,l[j]?=some x->∃y,m[j]?=some y/\f x=some y
 | [],m,h=>by simp at h;subst h;simp
 | x::l,m,h=>by
  rw[yJU] at h;simp only[bind,Option.bind_eq_some_iff,pure,Option.some.injEq] at h;obtain ⟨y,hy,m',hm,rfl⟩:=h;obtain ⟨h1,h2⟩:=vM hm;refine ⟨by simp[h1],fun j z hz=> ?_⟩;cases j with
  | zero=>simp at hz;subst hz;exact ⟨y,rfl,hy⟩
  | succ j=>exact h2 j z (by simpa using hz)
theorem vY {z:Nat} {ea:Bool}:∀{n:Nat} {cs:List AV},cs.length=n*z->(ea=true\/z=1)->cs.all AV.one=true->
  yC (wJ z ea n cs)=cs/\(wJ z ea n cs).length=n/\∀x∈wJ z ea n cs,x.cells.length=z
 | 0,cs,hl,_,_=>by simp at hl;subst hl;simp[wJ,yC]
 | n+1,cs,hl,hz,ho=>by
  rw[yHQ] at hl;obtain ⟨h1,h2,h3⟩:=vY (z:=z) (ea:=ea) (n:=n) (cs:=cs.drop z) (by simp;omega) hz (by
   rw[yHB] at ho|-;exact fun x hx=>ho x (yIL hx))
  cases ea with
  | true=>
   simp only[wJ,if_true,yC,yIY,AV.cells] at h1 h2 h3|-;refine ⟨by rw[h1,yJM],by simp[h2],?_⟩;intro x hx;rcases yHW.1 hx with rfl | hx
   ·simp;omega
   ·exact h3 x hx
  | false=>
   have hz1:z=1:=by simpa using hz
   subst hz1;cases cs with
   | nil=>simp at hl
   | cons c cs=>
    have hc:c.one=true:=by rw[yHB] at ho;exact ho c (by simp)
    have hcc:c.cells= [c]:=AV.cells_one (fun l e=>by subst e;simp[AV.one] at hc);simp only[wJ,yHI,if_false,List.headD_cons,yJL,List.drop_zero,yC,yIY] at h1 h2 h3|-;refine ⟨by rw[hcc,h1];rfl,by simp[h2],?_⟩;intro x hx;rcases yHW.1 hx with rfl | hx
    ·rw[hcc];rfl
    ·exact h3 x hx
theorem mP (c:AV):c.strip1.one=c.one:=by cases c<;>rfl
theorem tT {cs:List AV} (h:cs.all AV.one=true):(cs.map AV.strip1).all AV.one=true:=by
 rw[yHB] at h|-;intro x hx;obtain ⟨y,hy,rfl⟩:=yHJ.1 hx;rw[mP];exact h y hy
def Full (E E':GE) (w:World) (s:St) (p:Nat×Nat):Prop:=
 ∀g cs B arr el,s.look p.1 p.2=(g,.cells cs)->E.loc p.1 p.2 g=some B->w.heap[B]?=some (.cells arr el (0,0))->∀(o:Nat) v,arr[o]?=some v->E'.imm B o=some v
theorem zLY:∀n {b b' l},frz s n b=some (b',l)->b.one=true->b'.one=true
 | 0,b,b',l,h,_=>by simp[frz] at h
 | n+1,b,b',l,h,ho=>by
  cases b<;>simp only[frz] at h<;>first | (simp[AV.one] at ho;done) | skip
  all_goals first
   | (injection h with h;injection h with h _;subst h;rfl)
   | (repeat' (split at h))<;>first | (injection h with h;injection h with h _;subst h;rfl) | cases h
theorem qE (h:Ok G prot w0 E0 E w s a.tmps) {E':GE} (hle:∀b o v,E.imm b o=some v->E'.imm b o=some v):∀n {b b' l v},frz s n b=some (b',l)->Rel E b v->(∀p∈l,Full E E' w s p)->RelI E'.imm b' v
 | 0,b,b',l,v,hf,_,_=>by simp[frz] at hf
 | n+1,b,b',l,v,hf,hr,hfull=>by
  have many:∀{cs:List AV} {m:List (AV×List (Nat×Nat))} {us:List Value},cs.mapM (frz s n)=some m->cs.length=us.length->(∀(i:Nat) (c:AV) (u:Value),cs[i]?=some c->us[i]?=some u->Rel E c u)->
    (∀p∈(m.map (·.2)).flatten,Full E E' w s p)->m.length=us.length/\∀(i:Nat) x (u:Value),m[i]?=some x->us[i]?=some u->RelI E'.imm x.1 u:=by
   intro cs m us hm hl hc hp;obtain ⟨k1,k2⟩:=vM hm;refine ⟨by omega,fun i x u hx hu=> ?_⟩;have hlt:i < cs.length:=by have:=(yGW.1 hx).1;omega
   obtain ⟨y,hy,hfy⟩:=k2 i _ (yGY hlt);have:y=x:=by rw[hy] at hx;exact Option.some.inj hx
   subst this;refine qE h hle n (b:=cs[i]) (b':=y.1) (l:=y.2) hfy (hc i _ u (yGY hlt) hu) (fun p hpp=>hp p ?_);exact yJB.2 ⟨y.2,yHJ.2 ⟨y,zP hy,rfl⟩,hpp⟩
  have manym:∀{f:AV->AV} {cs:List AV} {m:List (AV×List (Nat×Nat))} {us:List Value},(∀c u,RelI E'.imm c u->RelI E'.imm (f c) u)->cs.mapM (frz s n)=some m->cs.length=us.length->(∀(i:Nat) (c:AV) (u:Value),cs[i]?=some c->us[i]?=some u->Rel E c u)->
    (∀p∈(m.map (·.2)).flatten,Full E E' w s p)->(m.map fun x=>f x.1).length=us.length/\∀(i:Nat) (c:AV) (u:Value),(m.map fun x=>f x.1)[i]?=some c->us[i]?=some u->RelI E'.imm c u:=by
   intro f cs m us hff hm hl hc hp;obtain ⟨k1,k2⟩:=many hm hl hc hp;refine ⟨by simpa using k1,fun i c u hci hu=> ?_⟩;simp only[yHD,yHC] at hci;obtain ⟨x,hx,rfl⟩:=hci;exact hff _ _ (k2 i x u hx hu)
  cases b with
  | own d i g off len z ea=>
   simp only[frz] at hf;split at hf
   ·rename_i g' cs hlk;split at hf
    ·rename_i hc;obtain ⟨hg,hD,hle2,hz,hone⟩:=hc;subst hg;split at hf
     ·rename_i m hm;injection hf with hf;injection hf with hf hf2;subst hf;subst hf2;obtain ⟨B,cap,hb,hcap,rfl⟩:=hr.own_inv;obtain ⟨hlive,⟨arr,el,hB,hsz,hone2,hcr⟩,himm,hnp⟩:=wH h hlk (by simp) hb;have hfull0:=hfull (d,i) (by simp) g' cs B arr el hlk hb hB
      let us:List Value:=((arr.toList.drop off).take (len*z))
      have hlu:((cs.drop off).take (len*z)).length=us.length:=by simp[us];omega
      have hlen:us.length=len*z:=by simp[us];omega
      obtain ⟨k1,k2⟩:=manym (f:=AV.strip1) (us:=us) (fun c u=>RelI.strip1) hm hlu (fun i c u hc hu=>by
       have hi:i < len*z:=by have:=(yGW.1 hu).1;omega
       simp only[us] at hu;rw[yHX hi,yIM] at hc hu;exact (hcr _ c u hc (by simpa using hu)).mono (GE.to_le E d)) (fun p hp=>hfull p (by simp only[yHW];exact .inr hp))
      have hone3:(m.map fun x=>x.1.strip1).all AV.one=true:=by
       rw[yHB];intro x hx;obtain ⟨y,hy,rfl⟩:=yHJ.1 hx;obtain ⟨j,hj⟩:=yID hy;obtain ⟨q1,q2⟩:=vM hm;have hlt:j < ((cs.drop off).take (len*z)).length:=by have:=(yGW.1 hj).1;omega
       obtain ⟨y',hy',hfy⟩:=q2 j _ (yGY hlt);have:y'=y:=by rw[hy'] at hj;exact Option.some.inj hj
       subst this;rw[mP];refine zLY n hfy ?_;rw[yHB] at hone;exact hone _ (yIL (yIC (yIJ hlt)))
      obtain ⟨g1,g2,g3⟩:=vY (z:=z) (ea:=ea) (n:=len) (by rw[k1];exact hlen) hz hone3;by_cases h0:len=0
      ·subst h0;simp only[wJ];exact .slE _ _ _ _ (by simp) (by simp)
      ·have:=RelI.slN (imm:=E'.imm) z (wJ z ea len (m.map fun x=>x.1.strip1)) .no B off cap (fun i=>arr.getD (off+i) undef) (by intro e;rw[e] at g2;simp at g2;omega) (by rw[g2];exact hcap) (by simp) g3
        (fun i c hc=>by
         rw[g1] at hc;have hi:i < len*z:=by have:=(yGW.1 hc).1;omega
         have hlt:off+i < arr.size:=by omega
         refine k2 i c _ hc ?_;simp only[us];rw[yHX hi,yIM];simp[yHP,yHK hlt])
        (fun i hi=>by
         rw[g1,k1,hlen] at hi;have hlt:off+i < arr.size:=by omega
         exact hfull0 (off+i) _ (by simp[yHP,yHK hlt]))
       rw[g2] at this;exact this
     ·cases hf
    ·cases hf
   ·cases hf
  | ptr d i g off=>
   simp only[frz] at hf;split at hf
   ·rename_i g' cs hlk;split at hf
    ·rename_i hc;obtain ⟨hg,hD,hone⟩:=hc;subst hg;split at hf
     ·rename_i m hm;injection hf with hf;injection hf with hf hf2;subst hf;subst hf2;obtain ⟨B,hb,rfl⟩:=hr.ptr_inv;obtain ⟨hlive,⟨arr,el,hB,hsz,hone2,hcr⟩,himm,hnp⟩:=wH h hlk (by simp) hb;have hfull0:=hfull (d,i) (by simp) g' cs B arr el hlk hb hB;have htk:∀(i:Nat) (u:Value),(arr.toList.take cs.length)[i]?=some u->arr[i]?=some u:=by
       intro i u hu;have hi:i < cs.length:=by have:=(yGW.1 hu).1;simp at this;omega
       rw[yHX hi] at hu;simpa using hu
      obtain ⟨k1,k2⟩:=manym (f:=AV.strip1) (us:=arr.toList.take cs.length) (fun c u=>RelI.strip1) hm (by simp;omega) (fun i c u hc hu=>(hcr _ c u hc (htk i u hu)).mono (GE.to_le E d))
       (fun p hp=>hfull p (by simp only[yHW];exact .inr hp))
      have:=RelI.box (imm:=E'.imm) (m.map fun x=>x.1.strip1) off B 0 (fun i=>arr.getD i undef) (fun i c hc=>by
        have hi':i < cs.length:=by have:=(yGW.1 hc).1;simp at k1;simp at this;omega
        have hi:i < arr.size:=by omega
        exact k2 i c _ hc (by rw[yHX hi'];simp[yHP,yHK hi]))
       (fun i hi=>by
        rw[k1] at hi;have hi:i < arr.size:=by simp at hi;omega
        rw[yHT];exact hfull0 i _ (by simp[yHP,yHK hi]))
      simpa using this
     ·cases hf
    ·cases hf
   ·cases hf
  | mp d i g=>simp[frz] at hf
  | ch d i g=>simp[frz] at hf
  | yl d i g=>simp[frz] at hf
  | meth f cs=>simp[frz] at hf
  | bx k cs off=>simp[frz] at hf
  | agg cs=>
   simp only[frz] at hf;split at hf
   ·rename_i m hm;injection hf with hf;injection hf with hf hf2;subst hf;subst hf2;obtain ⟨us,rfl,hl,hc⟩:=hr.agg_inv;obtain ⟨k1,k2⟩:=manym (f:=id) (us:=us) (fun _ _ h=>h) hm hl hc hfull;exact .agg _ us k1 k2
   ·cases hf
  | tup cs=>
   simp only[frz] at hf;split at hf
   ·rename_i m hm;injection hf with hf;injection hf with hf hf2;subst hf;subst hf2;obtain ⟨us,rfl,hl,hc⟩:=hr.tup_inv;obtain ⟨k1,k2⟩:=manym (f:=id) (us:=us) (fun _ _ h=>h) hm hl hc hfull;exact .tup _ us k1 k2
   ·cases hf
  | fn f cs=>
   simp only[frz] at hf;split at hf
   ·rename_i m hm;injection hf with hf;injection hf with hf hf2;subst hf;subst hf2;obtain ⟨us,rfl,hl,hc⟩:=hr.fn_inv;obtain ⟨k1,k2⟩:=manym (f:=id) (us:=us) (fun _ _ h=>h) hm hl hc hfull;exact .fn _ _ us k1 k2
   ·cases hf
  | ifc t b=>
   simp only[frz] at hf;split at hf
   ·rename_i v' l' hv;injection hf with hf;injection hf with hf hf2;subst hf;subst hf2;cases hr with
    | imm _ _ hr=>cases hr with | ifc _ _ u hu=>exact .ifc _ _ _ (qE h hle n hv (.imm _ _ hu) hfull)
    | ifc _ _ u hu=>exact .ifc _ _ _ (qE h hle n hv hu hfull)
   ·cases hf
  | _=>
   simp only[frz] at hf;injection hf with hf;injection hf with hf hf2;subst hf;cases hr with | imm _ _ hr=>exact hr.mono hle
end
end Go.Ab
/- Freezing objects; literals of slices; append. -/
namespace Go.Ab
open Go
section
variable {P:Program} {G:Nat->Option (List AV)} {prot:Nat->Prop} {w0:World} {E0 E:GE} {w:World} {s:St} {a:Act} {vs:Array Value}
theorem Ok.look_congr (h:Ok G prot w0 E0 E w s vs) {s':St} (hl:∀d i,s'.look d i=s.look d i) (hD:s'.D=s.D) (ht:s'.ts=s.ts):Ok G prot w0 E0 E w s' vs:=by
 have hh:∀l ad z n cap,Hold E w s' vs l ad z n cap->Hold E w s vs l ad z n cap:=by
  intro l ad z n cap hh;cases hh with
  | t i a v ad z n cap h1 h2 h3=>exact .t i a v ad z n cap (ht▸h1) h2 h3
  | o d i j g cs z xs B arr el ad cap h1 h2 h3 h4 h5 h6=>exact .o d i j g cs z xs B arr el ad cap (by rw[<-hl];exact h1) h2 h3 h4 h5 h6
 exact h.tmps hl hD (by rw[ht];exact h.size) (by rw[ht];exact h.rel) (fun l ad z n cap k=>h.tips _ _ _ _ _ (hh _ _ _ _ _ k))
  (fun l l' ad ad' z z' n n' cap cap' k k' hb=>h.tinj _ _ _ _ _ _ _ _ _ _ (hh _ _ _ _ _ k) (hh _ _ _ _ _ k') hb)
theorem Ok.killAll (h:Ok G prot w0 E0 E w s vs) (l:List (Nat×Nat)) (hl:∀p∈l,∃g cs,s.look p.1 p.2=(g,.cells cs)):
  ∃E',Ok G prot w0 E0 E' w ((kill s l).foldl St.up s) vs/\E.le E'/\E'.loc=E.loc/\(∀p∈l,Full E E' w s p)/\((kill s l).foldl St.up s).ts=s.ts/\((kill s l).foldl St.up s).D=s.D:=by
 suffices H:∀(l:List (Nat×Nat)) (s1:St) (E1:GE),(∀p∈l,∃g cs,s.look p.1 p.2=(g,.cells cs))->Ok G prot w0 E0 E1 w s1 vs->s1.D=s.D->s1.ts=s.ts->s1.os.length=s.os.length->
   E.le E1->E1.loc=E.loc->(∀d i,s1.look d i=s.look d i\/(s1.look d i=((s.look d i).1,.dead)/\Full E E1 w s (d,i)))->
   ∃E',Ok G prot w0 E0 E' w ((kill s l).foldl St.up s1) vs/\E1.le E'/\E'.loc=E.loc/\(∀p∈l,Full E E' w s p)/\((kill s l).foldl St.up s1).ts=s.ts/\((kill s l).foldl St.up s1).D=s.D by
  obtain ⟨E',h1,h2,h3⟩:=H l s E hl h rfl rfl rfl E.le_refl rfl (fun _ _=> .inl rfl);exact ⟨E',h1,h2,h3⟩
 intro l
 induction l with
 | nil=>intro s1 E1 _ h1 hD ht _ _ hloc _;exact ⟨E1,h1,E1.le_refl,hloc,by simp,ht,hD⟩
 | cons p l ih=>
  intro s1 E1 hl h1 hD ht hos hle hloc hinv;obtain ⟨g,cs,hlk⟩:=hl p (by simp);have hne:(s.look p.1 p.2).2≠ .dead:=by rw[hlk];simp
  have hin:p.1=s1.D->p.2 < s1.os.length:=fun e=>by rw[hos];exact s.look_lt hne (e.trans hD)
  have hlook:=St.look_up s1 (p.1,p.2,((s.look p.1 p.2).1,.dead)) hin;simp only at hlook;have mono:∀{Ea Eb:GE} {q},Ea.le Eb->Full E Ea w s q->Full E Eb w s q:=fun hab hf g cs B arr el k1 k2 k3 o v k4=>hab.1 _ _ _ (hf g cs B arr el k1 k2 k3 o v k4);simp only[kill,yHL,yHG];change∃E',Ok G prot w0 E0 E' w ((kill s l).foldl St.up (s1.up (p.1,p.2,((s.look p.1 p.2).1,.dead)))) vs/\_;have next:∃E2,Ok G prot w0 E0 E2 w (s1.up (p.1,p.2,((s.look p.1 p.2).1,.dead))) vs/\E1.le E2/\E2.loc=E.loc/\Full E E2 w s p:=by
   rcases hinv p.1 p.2 with he | ⟨he,hf⟩
   ·obtain ⟨B,hb,hat,himm,hnp⟩:=h1.objs p.1 p.2 (by rw[he];exact hne);have hlive:Live E1 s1 p.1 p.2 B:=⟨by rw[he];exact hne,hb⟩;obtain ⟨d1,d2,d3⟩:=h1.drop hlive;rw[he] at d1 d2 d3 hat;rw[hlk] at hat;obtain ⟨arr,el,hB,hsz,hone,hcr⟩:=hat;obtain ⟨a1,a2⟩:=d1.addImm (lo:=0) (hi:=arr.size) hB (fun j v _ _ hv=>hone j v hv) (fun q _=>himm q) hnp d2 (fun l' ad z n cap hh e=>(h1.tips _ _ _ _ _ (d3 _ _ _ _ _ hh)).noob p.1 p.2 (e▸hlive));refine ⟨_,a1,a2,hloc,?_⟩;intro g' cs' B' arr' el' k1 k2 k3 o v k4;have e1:E.loc p.1 p.2 g'=some B:=by
     rw[hlk] at k1;injection k1 with k1 _;subst k1;rw[he,hlk] at hb;simp only at hb;rw[hloc] at hb;exact hb
    have e2:B'=B:=by rw[e1] at k2;exact (Option.some.inj k2).symm
    subst e2;rw[hB] at k3;injection k3 with k3;injection k3 with k3 _ _;subst k3;have:o < arr.size:=(yIR.1 k4).1;simp only[GE.addImm];rw[if_pos (by first | exact ⟨rfl,yHM _,this⟩ | exact ⟨trivial,yHM _,this⟩)];exact k4
   ·refine ⟨E1,h1.look_congr (fun d i=> ?_) (by simp) (by simp),E1.le_refl,hloc,hf⟩;rw[hlook];split
    ·rename_i hc;rw[hc.1,hc.2,he]
    ·rfl
  obtain ⟨E2,n1,n2,n3,n4⟩:=next
  obtain ⟨E3,r1,r2,r3,r4,r5⟩:=ih (s1.up (p.1,p.2,((s.look p.1 p.2).1,.dead))) E2 (fun q hq=>hl q (by simp[hq])) n1 (by simpa using hD) (by simpa using ht) (by rw[St.up_oslen];exact hos)
   (GE.le_trans hle n2) n3 (fun d i=>by
    rw[hlook];split
    ·rename_i hc;right;rw[hc.1,hc.2];refine ⟨?_,n4⟩;first | rfl | trivial
    ·rcases hinv d i with e | ⟨e,hf⟩
     ·exact .inl e
     ·exact .inr ⟨e,mono n2 hf⟩)
  refine ⟨E3,r1,GE.le_trans n2 r2,r3,?_,r5⟩;intro q hq;rcases yHW.1 hq with rfl | hq
  ·exact mono r2 n4
  ·exact r4 q hq
theorem qF:∀n {b b' l},frz s n b=some (b',l)->∀p∈l,∃g cs,s.look p.1 p.2=(g,.cells cs)
 | 0,b,b',l,h=>by simp[frz] at h
 | n+1,b,b',l,h=>by
  have many:∀{cs:List AV} {m:List (AV×List (Nat×Nat))},cs.mapM (frz s n)=some m->∀p∈(m.map (·.2)).flatten,∃g cs,s.look p.1 p.2=(g,.cells cs):=by
   intro cs m hm p hp;obtain ⟨l,hl,hpl⟩:=yJB.1 hp;obtain ⟨y,hy,rfl⟩:=yHJ.1 hl;obtain ⟨j,hj⟩:=yID hy;obtain ⟨q1,q2⟩:=vM hm;have hlt:j < cs.length:=by have:=(yGW.1 hj).1;omega
   obtain ⟨y',hy',hfy⟩:=q2 j _ (yGY hlt);have:y'=y:=by rw[hy'] at hj;exact Option.some.inj hj
   subst this;exact qF n (b:=cs[j]) (b':=y'.1) (l:=y'.2) hfy p hpl
  cases b with
  | own d i g off len z ea=>
   simp only[frz] at h;split at h
   ·rename_i g' cs hlk;split at h
    ·split at h
     ·rename_i m hm;injection h with h;injection h with h h2;subst h2;intro p hp;rcases yHW.1 hp with rfl | hp
      ·exact ⟨g',cs,hlk⟩
      ·exact many hm p hp
     ·cases h
    ·cases h
   ·cases h
  | ptr d i g off=>
   simp only[frz] at h;split at h
   ·rename_i g' cs hlk;split at h
    ·split at h
     ·rename_i m hm;injection h with h;injection h with h h2;subst h2;intro p hp;rcases yHW.1 hp with rfl | hp
      ·exact ⟨g',cs,hlk⟩
      ·exact many hm p hp
     ·cases h
    ·cases h
   ·cases h
  | mp d i g=>simp[frz] at h
  | ch d i g=>simp[frz] at h
  | yl d i g=>simp[frz] at h
  | meth f cs=>simp[frz] at h
  | bx k cs off=>simp[frz] at h
  | agg cs=>simp only[frz] at h;split at h;(rename_i m hm;injection h with h;injection h with h h2;subst h2;exact many hm);cases h
  | tup cs=>simp only[frz] at h;split at h;(rename_i m hm;injection h with h;injection h with h h2;subst h2;exact many hm);cases h
  | fn f cs=>simp only[frz] at h;split at h;(rename_i m hm;injection h with h;injection h with h h2;subst h2;exact many hm);cases h
  | ifc t b=>
   simp only[frz] at h;split at h
   ·rename_i v' l' hv;injection h with h;injection h with h h2;subst h2;exact qF n hv
   ·cases h
  | _=>simp only[frz] at h;injection h with h;injection h with h h2;subst h2;simp
theorem rK:∀{bs bs':List AV} {l:List (Nat×Nat)},frzL s bs=some (bs',l)->bs'.length=bs.length/\(∀(i:Nat) b,bs[i]?=some b->∃b' l',bs'[i]?=some b'/\frz s frzD b=some (b',l')/\∀p∈l',p∈l)/\
  ∀p∈l,∃g cs,s.look p.1 p.2=(g,.cells cs)
 | [],bs',l,h=>by simp[frzL] at h;obtain ⟨rfl,rfl⟩:=h;simp
 | b::bs,bs',l,h=>by
  simp only[frzL] at h;split at h
  ·rename_i v' l1 vs' l2 h1 h2;injection h with h;injection h with h h';subst h;subst h';obtain ⟨q1,q2,q3⟩:=rK h2;refine ⟨by simp[q1],fun i c hc=> ?_,fun p hp=> ?_⟩
   ·cases i with
    | zero=>simp at hc;subst hc;exact ⟨v',l1,rfl,h1,fun p hp=>by simp[hp]⟩
    | succ i=>
     obtain ⟨b',l',k1,k2,k3⟩:=q2 i c (by simpa using hc);exact ⟨b',l',by simpa using k1,k2,fun p hp=>by simp[k3 p hp]⟩
   ·rcases yJV.1 hp with hp | hp
    ·exact qF _ h1 p hp
    ·exact q3 p hp
  ·cases h
theorem sH {α:Type}:∀{L:List (List α)} {z q r:Nat} {l:List α},(∀l∈L,l.length=z)->L[q]?=some l->r < z->L.flatten[q*z+r]?=l[r]?
 | [],z,q,r,l,_,h,_=>by simp at h
 | m::L,z,q,r,l,hz,h,hr=>by
  have h1:=hz m (by simp);rw[yIN];cases q with
  | zero=>simp at h;subst h;rw[yIF,yHT,yIB (by omega)]
  | succ q=>
   rw[yIG (by rw[h1,yHQ];omega),h1,show (q+1)*z+r - z=q*z+r by rw[yHQ];omega];exact sH (fun y hy=>hz y (by simp[hy])) (by simpa using h) hr
theorem vZ {α:Type}:∀{L:List (List α)} {z:Nat},(∀l∈L,l.length=z)->L.flatten.length=L.length*z
 | [],z,_=>by simp
 | m::L,z,hz=>by
  rw[yIN,yHO,hz m (by simp),vZ (fun y hy=>hz y (by simp[hy])),yIH,yHQ];omega
theorem nE {size:Nat}:∀(vals:List Value) (k:Nat) (cells:Array Value),(∀v∈vals,v.cells.size=size)->cells.size=(k+vals.length)*size->
  Instr.fill (fun i=>some (i*size,size)) cells ((vals.zipIdx k).map fun p=>(p.2,p.1))=some ((cells.toList.take (k*size)++(vals.map fun v=>v.cells.toList).flatten).toArray)
 | [],k,cells,_,hl=>by
  simp only[List.zipIdx_nil,yHU,Instr.fill,List.flatten_nil,yJC];simp only[yIU,yIK] at hl;rw[List.take_of_length_le (by simp[hl])]
 | v::vals,k,cells,hv,hl=>by
  have h1:=hv v (by simp);simp only[yIS,yHL];have hle:k*size+v.cells.size<=cells.size:=by
   rw[hl,h1,yIH];have:(k+1)*size<=(k+(vals.length+1))*size:=yHY _ (by omega);rw[yHQ] at this;exact this
  rw[hY rfl h1 hle];rw[nE vals (k+1) _ (fun u hu=>hv u (by simp[hu])) (by rw[uO,hl,yIH];congr 1;omega)];congr 2;rw[yIN,<-List.append_assoc];congr 1;apply List.ext_getElem?;intro j;have hs:(k+1)*size=k*size+v.cells.size:=by rw[yHQ,h1]
  have hget:∀j,((v.cells.toList.zipIdx 0).foldl (fun cs (p:Value×Nat)=>cs.setIfInBounds (k*size+p.2) p.1) cells)[j]?=if k*size<=j/\j < k*size+v.cells.size then v.cells[j - k*size]? else cells[j]?:=by
   intro j;rw[sG _ _ 0 _ _ (by simpa using hle)];simp
  rw[List.getElem?_take];rw[yJW,yII,Nat.min_eq_left (by simp;omega)];rw[yJD,hget];by_cases c1:j < k*size
  ·rw[if_pos (by omega),if_neg (by omega),if_pos c1,yHX c1,yJD]
  ·by_cases c2:j < k*size+v.cells.size
   ·rw[if_pos (by omega),if_pos ⟨by omega,c2⟩,if_neg c1,yJD]
   ·rw[if_neg (by omega),if_neg c1,yJS (by simp;omega)]
theorem RelI.strip {imm} {b v} (h:RelI imm b v):RelI imm b.strip v:=by
 have mapc:∀{cs:List AV} {us:List Value},(∀(i:Nat) (c:AV) (v:Value),cs[i]?=some c->us[i]?=some v->RelI imm c v)->∀(i:Nat) (c:AV) (v:Value),(cs.map AV.strip1)[i]?=some c->us[i]?=some v->RelI imm c v:=by
  intro cs us h i c v hc hv;rw[yHD,yHC] at hc;obtain ⟨c0,h0,rfl⟩:=hc;exact (h i c0 v h0 hv).strip1
 cases h with
 | slE z t a cap h1 h2=>exact (RelI.slE z t a cap h1 h2).sl_tip (by simp)
 | slN z xs t b o cap vs h1 h2 h3 h4 h5 h6=>exact (RelI.slN z xs t b o cap vs h1 h2 h3 h4 h5 h6).sl_tip (by simp)
 | agg cs us h1 h2=>exact .agg _ us (by simpa using h1) (mapc h2)
 | tup cs us h1 h2=>exact .tup _ us (by simpa using h1) (mapc h2)
 | bool b=>exact .bool b
 | ub b=>exact .ub b
 | slq a n cap=>exact .slq a n cap
 | int k n=>exact .int k n
 | str s=>exact .str s
 | nilp=>exact .nilp
 | nilf=>exact .nilf
 | nili=>exact .nili
 | nilm=>exact .nilm
 | box cs off b o vs h1 h2=>exact .box cs off b o vs h1 h2
 | ifc t a v h=>exact .ifc t a v h
 | fn f cs vs h1 h2=>exact .fn f cs vs h1 h2
theorem RelI.cells {imm} {b v} (h:RelI imm b v):b.cells.length=v.cells.size/\∀(i:Nat) c u,b.cells[i]?=some c->v.cells[i]?=some u->RelI imm c u:=by
 cases h with
 | agg cs us h1 h2=>exact ⟨by simpa[AV.cells,Value.cells] using h1,fun i c u hc hu=>h2 i c u hc (by simpa[Value.cells] using hu)⟩
 | _=>
  refine ⟨rfl,fun i c u hc hu=> ?_⟩;cases i with
  | zero=>
   simp[AV.cells,Value.cells] at hc hu;subst hc;subst hu;first
    | exact .bool _ | exact .ub _ | exact .int _ _ | exact .str _ | exact .nilp | exact .nilf | exact .nili | exact .nilm
    | (apply RelI.slE<;>assumption) | (apply RelI.slN<;>assumption) | (apply RelI.box<;>assumption) | (apply RelI.tup<;>assumption) | (apply RelI.ifc;assumption) | (apply RelI.fn<;>assumption) | exact RelI.slq _ _ _
  | succ i=>simp[AV.cells] at hc
theorem rA (b:AV):b.strip.cells.length=b.cells.length:=by cases b<;>simp[AV.strip,AV.cells]
theorem zTH {imm} {z B o cap:Nat} {xs:List AV} {vals:List Value} {t:Tip} (ht:t≠ .nil) (hl:xs.length=vals.length) (hne:xs≠[]) (hcap:xs.length<=cap)
  (hr:∀(i:Nat) x v,xs[i]?=some x->vals[i]?=some v->RelI imm x v) (hz:∀x∈xs,x.cells.length=z)
  (him:∀(j:Nat) u,(vals.map fun v=>v.cells.toList).flatten[j]?=some u->imm B (o+j)=some u):
  RelI imm (.sl z xs t) (.slice (some ⟨B,o,none⟩) xs.length cap):=by
 have hvz:∀l∈vals.map (fun v=>v.cells.toList),l.length=z:=by
  intro l hl';obtain ⟨v,hv,rfl⟩:=yHJ.1 hl';obtain ⟨i,hi⟩:=yID hv;have hlt:i < xs.length:=by have:=(yGW.1 hi).1;omega
  have:=(hr i _ v (yGY hlt) hi).cells.1;rw[hz _ (yIJ hlt)] at this;simpa using this.symm
 have hlen:(vals.map fun v=>v.cells.toList).flatten.length=xs.length*z:=by rw[vZ hvz];simp[hl]
 refine .slN z xs t B o cap (fun i=>(vals.map fun v=>v.cells.toList).flatten.getD i undef) hne hcap ht hz ?_ ?_
 ·intro i c hc;have hi:i < xs.length*z:=by have:=(yGW.1 hc).1;rw[zU hz] at this;exact this
  have hz0:0 < z:=by
   rcases yJX z with e | e
   ·subst e;simp at hi
   ·exact e
  have hq:i / z < xs.length:=(yJY hz0).2 hi;have hrr:i % z < z:=yIQ _ hz0;have hdec:i / z*z+i % z=i:=by rw[Nat.mul_comm];exact yJZ i z
  have hx:=yGY hq;have hv:vals[i / z]?=some (vals[i / z]'(by omega)):=yGY (by omega);have e1:=uQ hz hx hrr;rw[hdec,hc] at e1;have e2:=sH (q:=i / z) (l:=(vals[i / z]'(by omega)).cells.toList) hvz (by rw[yHD,hv];rfl) hrr;rw[hdec] at e2;rw[yJE,e2];have hrel:=(hr _ _ _ hx hv).cells;have hlt:i % z < (vals[i / z]'(by omega)).cells.size:=by rw[<-hrel.1,hz _ (yIJ hq)];exact hrr
  have hu:(vals[i / z]'(by omega)).cells.toList[i % z]?=some ((vals[i / z]'(by omega)).cells[i % z]):=by simp[hlt]
  rw[hu];exact hrel.2 _ c _ e1.symm (by simp[hlt])
 ·intro i hi;rw[zU hz,<-hlen] at hi;refine him i _ ?_;rw[yJE,yGY hi];rfl
theorem r7 (h:Ok G prot w0 E0 E w s a.tmps) {el:TypeId}:∀{k ps qs},rE P G el k ps=some qs->
  ps.length=qs.length/\(ps.map fun p=>(p.1,a.eval p.2))=(((ps.map fun p=>a.eval p.2).zipIdx k).map fun p=>(p.2,p.1))/\∀(i:Nat) p q,ps[i]?=some p->qs[i]?=some q->Rel E (s.ev q) (a.eval p.2)
 | k,[],qs,hx=>by simp[rE] at hx;subst hx;simp
 | k,(i,x)::ps,qs,hx=>by
  simp only[rE] at hx;split at hx
  ·rename_i o l ho hps;split at hx
   ·rename_i hik;subst hik;injection hx with hx;subst hx;obtain ⟨q1,q2,q3⟩:=r7 h hps;refine ⟨by simp[q1],by simp[yIS,q2],fun j p q hp hq=> ?_⟩;cases j with
    | zero=>simp at hp hq;subst hp;subst hq;exact h.ev ho
    | succ j=>exact q3 j p q (by simpa using hp) (by simpa using hq)
   ·cases hx
  ·cases hx
theorem eQ (h:Ok G prot w0 E0 E w s a.tmps) (dst:Option Nat) {t el n qs ti z e} {ps:Array (Nat×Operand)} (hu:P.underlying t=some (.slice el)) (ht:tinf P el=some ti) (hz:xF P el=some z)
  (hq:rE P G el 0 ps.toList=some qs) (hn:qs.length=n) (hs0:0 < ti.size) (hmax:n*ti.size<=2^24) (he:opf s dst (.bslice ti.size (aggD ti.desc) qs)=some e):
  Done G prot w0 E0 E s a dst e ((do pure (Next.value (<-Instr.buildSlice t n (ps.map fun (i,x)=>(i,a.eval x)))):Sem Next).run P w):=by
 obtain ⟨inf,v0,h1,h2,h3,h4,h5⟩:=yH hz;obtain ⟨inf',h1',_,hs,_,_⟩:=z8 ht;have:inf'=inf:=by rw[h1] at h1';exact (Option.some.inj h1').symm
 subst this;simp only[opf] at he;split at he
 ·rename_i bs l hfl;split at he
  ·rename_i hall;injection he with he;subst he;obtain ⟨p1,p2,p3⟩:=r7 h hq;obtain ⟨f1,f2,f3⟩:=rK hfl;obtain ⟨E1,o1,le1,loc1,full1,ts1,D1⟩:=h.killAll l f3
   let vals:List Value:=ps.toList.map fun p=>a.eval p.2
   have hvl:vals.length=n:=by simp[vals];rw[<-hn,<-p1];simp
   have hbl:bs.length=vals.length:=by rw[f1,hvl,<-hn];simp
   have hrel:∀(i:Nat) x v,bs[i]?=some x->vals[i]?=some v->RelI E1.imm x v:=by
    intro i x v hx hv;simp only[vals,yHD,yHC] at hv;obtain ⟨p,hp,rfl⟩:=hv;have hlt:i < qs.length:=by rw[<-p1];exact (yGW.1 hp).1
    obtain ⟨b',l',k1,k2,k3⟩:=f2 i (s.ev qs[i]) (by rw[yHD,yGY hlt];rfl);have:b'=x:=by rw[k1] at hx;exact Option.some.inj hx
    subst this;exact qE h le1.1 _ k2 (p3 i p _ hp (yGY hlt)) (fun q hq=>full1 q (k3 q hq))
   have hallc:∀x∈bs,x.cells.length=ti.size/\x.cells.all AV.one=true:=by
    intro x hx;rw[yHB] at hall;have:=hall x hx;simp only[yIP,beq_iff_eq] at this;exact ⟨this.1.1,this.1.2⟩
   have hvsz:∀v∈vals,v.cells.size=ti.size:=by
    intro v hv;obtain ⟨i,hi⟩:=yID hv;have hlt:i < bs.length:=by have:=(yGW.1 hi).1;omega
    rw[<-(hrel i _ v (yGY hlt) hi).cells.1];exact (hallc _ (yIJ hlt)).1
   have hflen:(vals.map fun v=>v.cells.toList).flatten.length=n*ti.size:=by
    rw[vZ (z:=ti.size) (by intro l hl;obtain ⟨v,hv,rfl⟩:=yHJ.1 hl;simpa using hvsz v hv)];simp[hvl]
   have hrun:(Instr.buildSlice t n (ps.map fun (i,x)=>(i,a.eval x))).run P w= .ok (.slice (some ⟨w.heap.size,0,none⟩) n n)
     {w with heap:=w.heap.push (.cells (vals.map fun v=>v.cells.toList).flatten.toArray el)}:=by
    unfold Instr.buildSlice;simp only[yGT,run_underlying hu,yGV,run_sizeOf w h1,Program.cellsOf,h1,yHE,yHF,hs];rw[if_neg (by omega)];simp only[yGT,tI];have hpl:(ps.toList.map fun p=>(p.1,a.eval p.2))=(vals.zipIdx 0).map fun p=>(p.2,p.1):=p2;have hfill:∀arr:Array Value,arr.size=n*ti.size->Instr.fill (fun i=>some (i*ti.size,ti.size)) arr ((vals.zipIdx 0).map fun p=>(p.2,p.1))=some ((vals.map fun v=>v.cells.toList).flatten.toArray):=by
     intro arr harr;rw[nE vals 0 arr hvsz (by rw[harr,hvl];simp)];simp
    by_cases h0:n*ti.size=0
    ·simp only[h0,if_true,pure_bind];rw[hpl,hfill _ (by simp[h0])];simp[newRow]
    ·rw[if_neg h0];simp only[yGT,yZ h1 h2,yGV,yGX];rw[hpl,hfill _ (by simp)];simp[newRow]
   rw[yB _ hrun];obtain ⟨o2,hfr,hB⟩:=o1.push (.cells (vals.map fun v=>v.cells.toList).flatten.toArray el) rfl;have hcells1:∀(j:Nat) u,(vals.map fun v=>v.cells.toList).flatten[j]?=some u->u.oneCell'=true:=by
    intro j u hj;obtain ⟨l,hl,hul⟩:=yJB.1 (zP hj);obtain ⟨v,hv,rfl⟩:=yHJ.1 hl;obtain ⟨i,hi⟩:=yID hv;have hlt:i < bs.length:=by have:=(yGW.1 hi).1;omega
    obtain ⟨k,hk⟩:=yID hul;exact vL (.imm (E:=E1) _ _ (hrel i _ v (yGY hlt) hi)) (hallc _ (yIJ hlt)).2 k u (by simpa using hk)
   obtain ⟨o3,le3⟩:=o2.addImm (lo:=0) (hi:=n*ti.size) hB (fun j v _ _ hv=>hcells1 j v (by simpa using hv)) (fun p _=>hfr.imm p) hfr.notp (fun d i hl=>hfr.loc _ _ _ hl.2) hfr.hold;refine ⟨_,_,_,_,rfl,.inl rfl,⟨GE.le_trans le1 le3,fun d i g B hb=> .inr (by simp only[GE.addImm] at hb;rw[loc1] at hb;exact hb)⟩,?_⟩;simp only[St.app,yGZ];have hrv:RelI (E1.addImm w.heap.size 0 (n*ti.size) (vals.map fun v=>v.cells.toList).flatten.toArray).imm (.sl ti.size (bs.map AV.strip) .tip) (.slice (some ⟨w.heap.size,0,none⟩) n n):=by
    by_cases hn0:n=0
    ·have:bs= []:=yJF (by omega);subst this;subst hn0;exact .slE _ _ _ _ (by simp) (by simp)
    ·have hbn:(bs.map AV.strip).length=n:=by simp;omega
     have:=zTH (imm:=(E1.addImm w.heap.size 0 (n*ti.size) (vals.map fun v=>v.cells.toList).flatten.toArray).imm) (z:=ti.size) (B:=w.heap.size) (o:=0) (cap:=n) (xs:=bs.map AV.strip) (vals:=vals) (t:= .tip) (by simp)
      (by simp[hbl]) (by intro e;have:=congrArg List.length e;simp at this;subst this;simp at hbn;omega) (by omega)
      (fun i x v hx hv=>by
       rw[yHD,yHC] at hx;obtain ⟨x0,hx0,rfl⟩:=hx;exact ((hrel i x0 v hx0 hv).mono le3.1).strip)
      (fun x hx=>by obtain ⟨y,hy,rfl⟩:=yHJ.1 hx;rw[rA];exact (hallc y hy).1)
      (fun j u hj=>by
       have:j < n*ti.size:=by have:=(yGW.1 hj).1;omega
       simp only[GE.addImm,yHT];rw[if_pos (by first | exact ⟨rfl,yHM _,this⟩ | exact ⟨trivial,yHM _,this⟩)];simpa using hj)
     rw[hbn] at this;exact this
   refine o3.putS dst (.imm _ _ hrv) (by simp) fun z' xs ad cap e hv hlt=> ?_;injection e with e1 e2 e3;injection hv with v1 v2 v3;omega
  ·cases he
 ·cases he
end
end Go.Ab
/- append. -/
namespace Go.Ab
open Go
theorem i7 (n:Nat):∀r c,c<=2*n+256->Builtin.growBy n r c<=2*n+256
 | 0,c,h=>h
 | r+1,c,h=>by
  simp only[Builtin.growBy];split
  ·exact h
  ·exact i7 n r _ (by omega)
theorem mV {n c:Nat} (h:c < n):Builtin.nextslicecap n c<=2*n+256:=by
 unfold Builtin.nextslicecap;split
 ·omega
 ·split
  ·omega
  ·exact i7 _ _ _ (by omega)
section
variable {P:Program} {G:Nat->Option (List AV)} {prot:Nat->Prop} {w0:World} {E0 E:GE} {w:World} {s:St} {a:Act}
theorem Rel.clean {b v} (r:Rel E b v):∀n,b.clean n=true->RelI E.imm b v:=by
 induction r with
 | imm a v r=>intro n _;exact r
 | ptr d' i g off B hb=>intro n hn;cases n<;>simp[AV.clean] at hn
 | own d' i g off len z ea B cap hb hc=>intro n hn;cases n<;>simp[AV.clean] at hn
 | mp d' i g B hb=>intro n hn;cases n<;>simp[AV.clean] at hn
 | ch d' i g B hb=>intro n hn;cases n<;>simp[AV.clean] at hn
 | yl d' i g B hb=>intro n hn;cases n<;>simp[AV.clean] at hn
 | agg cs vs h1 h2 ih=>
  intro n hn;cases n with
  | zero=>simp[AV.clean] at hn
  | succ n=>simp only[AV.clean,yHB] at hn;exact .agg cs vs h1 fun i c v hc hv=>ih i c v hc hv n (hn c (zP hc))
 | tup cs vs h1 h2 ih=>
  intro n hn;cases n with
  | zero=>simp[AV.clean] at hn
  | succ n=>simp only[AV.clean,yHB] at hn;exact .tup cs vs h1 fun i c v hc hv=>ih i c v hc hv n (hn c (zP hc))
 | ifc t a v _ ih=>
  intro n hn;cases n with
  | zero=>simp[AV.clean] at hn
  | succ n=>simp only[AV.clean] at hn;exact .ifc t a v (ih n hn)
 | fn f cs vs h1 h2 ih=>
  intro n hn;cases n with
  | zero=>simp[AV.clean] at hn
  | succ n=>simp only[AV.clean,yHB] at hn;exact .fn f cs vs h1 fun i c v hc hv=>ih i c v hc hv n (hn c (zP hc))
 | meth=>intro n hn;cases n<;>simp[AV.clean] at hn
 | bx=>intro n hn;cases n<;>simp[AV.clean] at hn
theorem nJ (h:Ok G prot w0 E0 E w s a.tmps) {z y ys l v} (he:zX s z y=some (ys,l)) (hr:Rel E y v):
  ∃base cap,v= .slice base ys.length cap/\ys.length<=cap/\(∀x∈ys,x.cells.length=z)/\
   (ys≠[]->∃b o,∃f:Nat->Value,base=some ⟨b,o,none⟩/\(∀(i:Nat) c,(yC ys)[i]?=some c->RelI E.imm c (f i))/\
    ∀i,i < (yC ys).length->w.cell? ⟨b,o+i,none⟩=some (f i)/\(f i).oneCell'=true):=by
 unfold zX at he;split at he
 ·rename_i z' ys' t;split at he
  ·rename_i hz;subst hz;injection he with he;injection he with he _;subst he;obtain ⟨_,_,_,hri⟩:=hr.sl_inv;cases hri with
   | slE _ _ b cap _ _=>exact ⟨b,cap,rfl,yHM _,by simp,fun e=>absurd rfl e⟩
   | slN _ _ _ b o cap vs h1 h2 h3 h4 h5 h6=>
    refine ⟨_,cap,rfl,h2,h4,fun _=>⟨b,o,vs,rfl,h5,fun i hi=> ?_⟩⟩;obtain ⟨arr,el,fz,k1,k2,k3⟩:=h.imm _ _ _ (h6 i hi);exact ⟨uA k1 k2,k3⟩
  ·cases he
 ·rename_i d i g off len z' ea;split at he
  ·rename_i hz;subst hz;split at he
   ·rename_i g' cs hlk;split at he
    ·rename_i hc;obtain ⟨hg,hle,hcl,hea,hone⟩:=hc;subst hg;injection he with he;injection he with he _;subst he;obtain ⟨B,cap,hb,hcap,rfl⟩:=hr.own_inv;obtain ⟨hlive,⟨arr,el,hB,hsz,hone2,hcr⟩,himm,hnp⟩:=wH h hlk (by simp) hb;have hlen:(((cs.drop off).take (len*z')).map AV.strip1).length=len*z':=by simp;omega
     have hone3:(((cs.drop off).take (len*z')).map AV.strip1).all AV.one=true:=tT (by
      rw[yHB] at hone|-;exact fun x hx=>hone x (yIL (yIC hx)))
     obtain ⟨g1,g2,g3⟩:=vY (z:=z') (ea:=ea) (n:=len) hlen hea hone3;refine ⟨_,cap,by rw[g2],by rw[g2];exact hcap,g3,fun _=>⟨B,off,fun i=>arr.getD (off+i) undef,rfl,?_,?_⟩⟩
     ·intro i c hc;rw[g1,yHD,yHC] at hc;obtain ⟨c0,h0,rfl⟩:=hc;have hi:i < len*z':=by have:=(yGW.1 h0).1;simp at this;omega
      rw[yHX hi,yIM] at h0;have hlt:off+i < arr.size:=by omega
      have hv:arr[off+i]?=some (arr.getD (off+i) undef):=by simp[yHP,yHK hlt]
      have hrel:=(hcr _ c0 _ h0 hv).mono (GE.to_le E d);rw[yHB] at hcl;exact (hrel.clean 20 (hcl c0 (zP h0))).strip1
     ·intro i hi;rw[g1,hlen] at hi;have hlt:off+i < arr.size:=by omega
      have hv:arr[off+i]?=some (arr.getD (off+i) undef):=by simp[yHP,yHK hlt]
      exact ⟨uA hB hv,hone2 _ _ hv⟩
    ·cases he
   ·cases he
  ·cases he
 ·cases he
theorem uW {w w':World} (h:w'.heap=w.heap) (ad:Addr):w'.cell? ad=w.cell? ad:=by simp[World.cell?,h]
theorem z7 {z n : Nat} {base : Option Addr} {cap : Nat} {f : Nat -> Value} {w1 : World} (hf : 0 < n * z -> ∃ b o,base = some ⟨b,o,none⟩ /\ ∀ i,i < n * z -> w1.cell? ⟨b,o + i,none⟩ = some (f i))  :
  (Builtin.firstCells z n (.slice base n cap)).run P w1= .ok ((yGU (n*z)).map f).toArray w1:=by
 by_cases h0:n*z=0
 ·unfold Builtin.firstCells;cases base with
  | none=>simp[h0]
  | some ad=>rw[h0];exact run_loadCells w1 ad 0 f (by simp)
 ·obtain ⟨b,o,rfl,hc⟩:=hf (by omega);unfold Builtin.firstCells;exact run_loadCells w1 _ (n*z) f (fun j hj=>by rw[yW];exact hc j hj)
theorem cN {E':GE} {w1:World} {s1:St} {vs:Array Value} (hl:E'.loc=E.loc) {l ad z n cap} (h:Hold E' w1 s1 vs l ad z n cap):Hold E w1 s1 vs l ad z n cap:=by
 cases h with
 | t i a v ad z n cap h1 h2 h3=>exact .t i a v ad z n cap h1 h2 h3
 | o d i j g cs z xs B arr el ad cap h1 h2 h3 h4 h5 h6=>exact .o d i j g cs z xs B arr el ad cap h1 h2 (by rw[<-hl];exact h3) h4 h5 h6
theorem cD {E':GE} {s1:St} (hl:E'.loc=E.loc) {d i B} (h:Live E' s1 d i B):Live E s1 d i B:=by
 simp only[Live,hl] at h|-;exact h
set_option maxHeartbeats 1000000 in
theorem eR (h:Ok G prot w0 E0 E w s a.tmps) (dst:Option Nat) {t u el el' x y xo yo ti zz ty e} (hu:P.underlying t=some (.slice el)) (hu':P.underlying u=some (.slice el')) (ht:tinf P el=some ti)
  (hz:xF P el=some zz) (hx:opd P G t x=some xo) (hy:opd P G u y=some yo) (hs0:0 < ti.size) (hb0:0 < ti.bytes) (hbm:ti.bytes<=2^20) (he:opf s dst (.append ti.size ti.bytes xo yo)=some e):
  Done G prot w0 E0 E s a dst e ((do pure (Next.value (<-Builtin.append_ #[t,u] ty #[a.eval x,a.eval y])):Sem Next).run P w):=by
 obtain ⟨inf,v0,i1,i2,i3,i4,i5⟩:=yH hz;obtain ⟨inf',i1',_,hs,hby,_⟩:=z8 ht;have:inf'=inf:=by rw[i1] at i1';exact (Option.some.inj i1').symm
 subst this;have hrx:=h.evr (s:=s) hx;have hry:=h.ev (s:=s) hy;simp only[opf] at he;split at he
 ·rename_i z' xs tp ys l hxe hye;split at he
  ·rename_i hc;obtain ⟨hzz,hmax,htp⟩:=hc;injection he with he;subst he;rw[hxe] at hrx;obtain ⟨xb,xcap,hvx,hrxi⟩:=hrx.sl_inv;obtain ⟨yb,ycap,hvy,hycap,hyz,hyf⟩:=nJ h hye hry
   -- x as a slice of elements of this size
   have hrxz:RelI E.imm (.sl ti.size xs .tip) (.slice xb xs.length xcap):=by
    rw[hvx] at hrxi;rcases hzz with rfl | rfl
    ·exact hrxi.sl_tip (by simp)
    ·cases hrxi with
     | slE _ _ _ _ k1 k2=>exact .slE _ _ _ _ (by simp) k2
     | slN _ _ _ _ _ _ _ _ _ k3=>exact absurd rfl k3
   have hxlen:xs.length<=xcap:=by cases hrxz<;>first | assumption | simp
   have hxf:0 < xs.length*ti.size->∃b o,xb=some ⟨b,o,none⟩/\∃f:Nat->Value,(∀(i:Nat) c,(yC xs)[i]?=some c->RelI E.imm c (f i))/\(∀i,i < (yC xs).length->E.imm b (o+i)=some (f i))/\(∀y∈xs,y.cells.length=ti.size):=by
    intro h0;cases hrxz with
    | slE=>simp at h0
    | slN _ _ _ b o _ vs k1 k2 k3 k4 k5 k6=>exact ⟨b,o,rfl,vs,k5,k6,k4⟩
   have hxz:∀y∈xs,y.cells.length=ti.size:=by
    by_cases h0:0 < xs.length
    ·obtain ⟨_,_,_,_,_,_,k⟩:=hxf (Nat.mul_pos h0 hs0);exact k
    ·have:xs= []:=yJF (by omega);subst this;simp
   have hflx:=zU hxz;have hfly:=zU hyz
   -- the new cells
   obtain ⟨f,hf1,hf2,hf3⟩:∃f:Nat->Value,(∀(i:Nat) c,(yC ys)[i]?=some c->RelI E.imm c (f i))/\(∀i,i < ys.length*ti.size->(f i).oneCell'=true)/\
     ∀w1:World,w1.heap=w.heap->(0 < ys.length*ti.size->∃b o,yb=some ⟨b,o,none⟩/\∀i,i < ys.length*ti.size->w1.cell? ⟨b,o+i,none⟩=some (f i)):=by
    by_cases h0:ys= []
    ·subst h0;exact ⟨fun _=>undef,by simp[yC],by simp,by simp⟩
    ·obtain ⟨b,o,f,k1,k2,k3⟩:=hyf h0;rw[hfly] at k3;exact ⟨f,k2,fun i hi=>(k3 i hi).2,fun w1 hw1 _=>⟨b,o,k1,fun i hi=>by rw[uW hw1];exact (k3 i hi).1⟩⟩
   have hfy:∀w1:World,w1.heap=w.heap->(Builtin.firstCells ti.size ys.length (.slice yb ys.length ycap)).run P w1= .ok ((yGU (ys.length*ti.size)).map f).toArray w1:=fun w1 hw1=>z7 (hf3 w1 hw1);have hwslen:((yGU (ys.length*ti.size)).map f).length=ys.length*ti.size:=by simp
   have hwsget:∀i,i < ys.length*ti.size->((yGU (ys.length*ti.size)).map f)[i]?=some (f i):=by intro i hi;simp[hi]
   have hone:∀v∈(yGU (ys.length*ti.size)).map f,v.oneCell'=true:=by
    intro v hv;obtain ⟨i,hi,rfl⟩:=yHJ.1 hv;exact hf2 i (by simpa using hi)
   obtain ⟨s1,hs1,o1,hl1,hD1,hos1,htip⟩:=dP h hx;have hmul:(xs.length+ys.length)*ti.size=xs.length*ti.size+ys.length*ti.size:=yHN _ _ _;have hgen:∀{E':GE} {b o cap:Nat},E.le E'->(∀i,i < xs.length*ti.size->∀v,(∃f':Nat->Value,(∀(i:Nat) c,(yC xs)[i]?=some c->RelI E.imm c (f' i))/\v=f' i)->True)->
     xs++ys≠[]->xs.length+ys.length<=cap->
     (∃g:Nat->Value,(∀(i:Nat) c,(yC xs)[i]?=some c->RelI E'.imm c (g i))/\(∀i,i < xs.length*ti.size->E'.imm b (o+i)=some (g i)))->
     (∀i,i < ys.length*ti.size->E'.imm b (o+xs.length*ti.size+i)=some (f i))->
     RelI E'.imm (.sl ti.size (xs++ys) .tip) (.slice (some ⟨b,o,none⟩) (xs.length+ys.length) cap):=by
    intro E' b o cap hle _ hne hcap ⟨g,hg1,hg2⟩ hnew;have:=RelI.slN (imm:=E'.imm) ti.size (xs++ys) .tip b o cap (fun i=>if i < xs.length*ti.size then g i else f (i - xs.length*ti.size)) hne (by simpa using hcap) (by simp)
     (fun y hy=>by rcases yJV.1 hy with hy | hy;exact hxz y hy;exact hyz y hy)
     (fun i c hc=>by
      rw[uR,yJW,hflx] at hc;split at hc
      ·rename_i hi;simp only[if_pos hi];exact hg1 i c hc
      ·rename_i hi;simp only[if_neg hi];exact (hf1 _ c hc).mono hle.1)
     (fun i hi=>by
      rw[uR,yHO,hflx,hfly] at hi;by_cases hi':i < xs.length*ti.size
      ·simp only[if_pos hi'];exact hg2 i hi'
      ·simp only[if_neg hi'];have:=hnew (i - xs.length*ti.size) (by omega);rw[show o+xs.length*ti.size+(i - xs.length*ti.size)=o+i by omega] at this;exact this)
    simpa using this
   by_cases hroom:xs.length+ys.length<=xcap
   ·-- in place
    have hrunS:∀ad,xb=some ad->(Builtin.append_ #[t,u] ty #[a.eval x,a.eval y]).run P w=
      ((storeCells (ad.add (xs.length*ti.size)) ((yGU (ys.length*ti.size)).map f)).run P w).andThen fun _ w'=> .ok (Value.slice xb (xs.length+ys.length) xcap) w':=by
     intro ad had;unfold Builtin.append_;rw[hvx,hvy,had];simp only[yHA,yHZ,yHS,yGT,run_underlying hu,run_underlying hu',yGV,run_sizeOf w i1,Program.cellsOf,i1,yHE,yHF,
      hs,yGX,yHI,if_false,Builtin.lenOf,hroom,if_true,yIE,hfy w rfl]
    have hrunN:xb=none->(Builtin.append_ #[t,u] ty #[a.eval x,a.eval y]).run P w= .ok (Value.slice xb (xs.length+ys.length) xcap) w:=by
     intro had;unfold Builtin.append_;rw[hvx,hvy,had];simp only[yHA,yHZ,yHS,yGT,run_underlying hu,run_underlying hu',yGV,run_sizeOf w i1,Program.cellsOf,i1,yHE,yHF,
      hs,yGX,yHI,if_false,Builtin.lenOf,hroom,if_true,yIE,hfy w rfl]
    by_cases hn:ys.length=0
    ·have hys:ys= []:=yJF hn;subst hys;have hrun:(Builtin.append_ #[t,u] ty #[a.eval x,a.eval y]).run P w= .ok (.slice xb xs.length xcap) w:=by
      cases xb with
      | none=>rw[hrunN rfl];simp
      | some ad=>rw[hrunS ad rfl];simp[storeCells]
     rw[yB _ hrun];refine ⟨_,_,w,E,rfl,.inl rfl,GE.leD_refl _ _,?_⟩;simp only[St.app,yGZ,<-hs1,yJC];refine o1.putS dst (.imm _ _ hrxz) (by simp) fun z2 xs2 ad cap2 eq hvv hlt=> ?_;injection eq with q1 q2 q3;subst q1;subst q2;injection hvv with p1 p2 p3;subst p1;subst p3;rcases htp with rfl | rfl
     ·rcases hzz with rfl | hx0
      ·obtain ⟨t1,t2⟩:=htip _ xs ad xcap hxe hvx hlt;exact ⟨t1,fun lc ad' z'' n' cap' _ hh'=>t2 lc ad' z'' n' cap' hh'⟩
      ·cases hx0
     ·rw[hvx] at hrxi;cases hrxi with
      | slE _ _ _ _ k1 k2=>have:=k2 (k1 rfl);subst this;simp at hlt
      | slN _ _ _ _ _ _ _ _ _ k3=>exact absurd rfl k3
    ·-- written behind
     have htip':tp= .tip:=by
      rcases htp with e | e
      ·exact e
      ·subst e;rw[hvx] at hrxi;cases hrxi with
       | slE _ _ _ _ k1 k2=>have:=k2 (k1 rfl);omega
       | slN _ _ _ _ _ _ _ _ _ k3=>exact absurd rfl k3
     subst htip';have hz':z'=ti.size:=by
      rcases hzz with e | e
      ·exact e
      ·cases e
     subst hz';have hxb:∃ad,xb=some ad:=by
      cases xb with
      | some ad=>exact ⟨ad,rfl⟩
      | none=>cases hrxz with | slE _ _ _ _ k1 k2=>have:=k2 rfl;omega
     obtain ⟨ad,rfl⟩:=hxb;obtain ⟨t1,t2⟩:=htip _ xs ad xcap hxe hvx (by omega);have hsp:=t1.spot;obtain ⟨b,o,sp⟩:=ad;simp only at hsp;subst hsp;obtain ⟨arr,el2,r1,r2⟩:=t1.room;simp only at r1 r2;have hcapm:xs.length*ti.size+ys.length*ti.size<=xcap*ti.size:=by rw[<-hmul];exact yHY _ hroom
     have hst:=run_storeCells_at P b (o+xs.length*ti.size) el2 ((yGU (ys.length*ti.size)).map f) 0 arr w r1 (by rw[hwslen];omega) hone;have hrun:(Builtin.append_ #[t,u] ty #[a.eval x,a.eval y]).run P w= .ok (.slice (some ⟨b,o,none⟩) (xs.length+ys.length) xcap)
       (w.setRow b (arr.toList.take (o+xs.length*ti.size+0)++(yGU (ys.length*ti.size)).map f++arr.toList.drop (o+xs.length*ti.size+0+((yGU (ys.length*ti.size)).map f).length)).toArray):=by
      rw[hrunS _ rfl];simp only[yW,hst,yGV]
     rw[yB _ hrun];simp only[yIK] at hst|-;have hT:Turned w (w.setRow b (arr.toList.take (o+xs.length*ti.size)++(yGU (ys.length*ti.size)).map f++arr.toList.drop (o+xs.length*ti.size+((yGU (ys.length*ti.size)).map f).length)).toArray) b _:=xU r1;generalize harr':(arr.toList.take (o+xs.length*ti.size)++(yGU (ys.length*ti.size)).map f++arr.toList.drop (o+xs.length*ti.size+((yGU (ys.length*ti.size)).map f).length))=l' at hT|-;have hl'get:∀j,l'[j]?=if o+xs.length*ti.size<=j/\j < o+xs.length*ti.size+ys.length*ti.size then ((yGU (ys.length*ti.size)).map f)[j - (o+xs.length*ti.size)]? else arr.toList[j]?:=by
      intro j;rw[<-harr'];have:=pJ (cs:=arr.toList) (vs:=(yGU (ys.length*ti.size)).map f) (off:=o+xs.length*ti.size) (by rw[hwslen];simp;omega) j;rw[hwslen] at this|-;exact this
     have hl'len:l'.length=arr.size:=by rw[<-harr',hwslen];simp;omega
     obtain ⟨o2,hh2⟩:=o1.turnFree (lo:=o+xs.length*ti.size) r1 hT (fun p hp=>by
      rw[yHA,hl'get,if_neg (by omega)];simp) (by simp[hl'len]) t1.free t1.notp t1.noob t2
     obtain ⟨o3,le3⟩:=o2.addImm (lo:=o+xs.length*ti.size) (hi:=o+xs.length*ti.size+ys.length*ti.size) hT.here (fun j v hlo hhi hv=>by
       rw[yHA,hl'get,if_pos ⟨hlo,hhi⟩] at hv;exact hone v (zP hv)) t1.free t1.notp t1.noob (fun lc ad' z2 n2 c2 hh=>t2 _ _ _ _ _ (hh2 _ _ _ _ _ hh))
     have himm:∀i,i < ys.length*ti.size->(E.addImm b (o+xs.length*ti.size) (o+xs.length*ti.size+ys.length*ti.size) l'.toArray).imm b (o+xs.length*ti.size+i)=some (f i):=by
      intro i hi;simp only[GE.addImm];rw[if_pos ⟨trivial,by omega,by omega⟩,yHA,hl'get,if_pos ⟨by omega,by omega⟩,<-hwsget i hi];congr 1;omega
     have hrv:=hgen (E':=E.addImm b (o+xs.length*ti.size) (o+xs.length*ti.size+ys.length*ti.size) l'.toArray) (b:=b) (o:=o) (cap:=xcap) le3 (fun _ _ _ _=>trivial)
      (by intro e;have:=congrArg List.length e;rw[yHO,yIU] at this;omega) hroom (by
       by_cases h0:0 < xs.length*ti.size
       ·obtain ⟨b',o',e1,g,g1,g2,_⟩:=hxf h0;injection e1 with e1;injection e1 with e1 e2 _;subst e1;subst e2;rw[hflx] at g2;exact ⟨g,fun i c hc=>(g1 i c hc).mono le3.1,fun i hi=>le3.1 _ _ _ (g2 i hi)⟩
       ·exact ⟨fun _=>undef,fun i c hc=>by have:=(yGW.1 hc).1;omega,fun i hi=>by omega⟩) himm
     refine ⟨_,_,_,_,rfl,.inl rfl,GE.leD_addImm le3,?_⟩;simp only[St.app,yGZ,<-hs1];refine o3.putS dst (.imm _ _ hrv) (by simp) fun z2 xs2 ad cap2 eq hvv hlt=> ?_;injection eq with q1 q2 q3;subst q1;subst q2;injection hvv with p1 p2 p3;injection p1 with p1;subst p1;subst p3;refine ⟨⟨rfl,⟨l'.toArray,el2,hT.here,by simp only[yHV,hl'len];exact r2⟩,fun p hp=> ?_,t1.notp,fun d i hl=>t1.noob d i (cD (E:=E) (by rfl) hl)⟩,
      fun lc ad' z2 n2 c2 _ hh=>t2 _ _ _ _ _ (hh2 _ _ _ _ _ (cN (E:=E) (by rfl) hh))⟩
     simp only[yHO,hmul] at hp;simp only[GE.addImm];rw[if_neg (by omega)];exact t1.free p (by simp only;omega)
   ·-- a new array
    have hneed:xcap < xs.length+ys.length:=by omega
    have hmaxv:(xs.length+ys.length)*ti.bytes<=1099511627776:=by unfold zD at hmax;simpa using hmax
    have hlen1:xs.length+ys.length<=1099511627776:=Nat.le_trans (yKA _ hb0) hmaxv;have hnc:Builtin.nextslicecap (xs.length+ys.length) xcap*ti.bytes<=2^48:=by
     have h1:=yHY ti.bytes (mV hneed);have h2:(2*(xs.length+ys.length)+256)*ti.bytes=2*((xs.length+ys.length)*ti.bytes)+256*ti.bytes:=by rw[yHN,Nat.mul_assoc]
     omega
    let q:Question:= .appendCap (xs.length+ys.length) xcap el
    let newCap:Nat:=q.cut (w.tape w.drawn q)
    have hncap:xs.length+ys.length<=newCap:=by simp only[newCap,q,Question.cut];omega
    let w1:World:={w with drawn:=w.drawn+1}
    have hfx:∃g:Nat->Value,(∀(i:Nat) c,(yC xs)[i]?=some c->RelI E.imm c (g i))/\(∀i,i < xs.length*ti.size->(g i).oneCell'=true)/\
      (Builtin.firstCells ti.size xs.length (.slice xb xs.length xcap)).run P w1= .ok ((yGU (xs.length*ti.size)).map g).toArray w1:=by
     by_cases h0:0 < xs.length*ti.size
     ·obtain ⟨b',o',e1,g,g1,g2,_⟩:=hxf h0;rw[hflx] at g2;refine ⟨g,g1,fun i hi=> ?_,z7 fun _=>⟨b',o',e1,fun i hi=> ?_⟩⟩
      ·obtain ⟨arr,el2,fz,k1,k2,k3⟩:=h.imm _ _ _ (g2 i hi);exact k3
      ·rw[uW (w:=w) (w':=w1) rfl];exact h.cellAt (g2 i hi)
     ·exact ⟨fun _=>undef,fun i c hc=>by have:=(yGW.1 hc).1;omega,fun i hi=>by omega,z7 fun h1=>absurd h1 h0⟩
    obtain ⟨g,g1,g2,g3⟩:=hfx
    let rest:Array Value:=Builtin.zeroCells v0.cells (newCap - (xs.length+ys.length))
    have hrests:rest.size=(newCap - (xs.length+ys.length))*ti.size:=by simp[rest,Builtin.zeroCells,i3,hs]
    let cells:Array Value:=((yGU (xs.length*ti.size)).map g).toArray++((yGU (ys.length*ti.size)).map f).toArray++rest
    have hcs:cells.size=newCap*ti.size:=by
     simp only[cells,yJG,yHV,yIV,yJH,hrests];rw[<-hmul,<-yHN];congr 1;omega
    have hcget:∀i,i < xs.length*ti.size->cells[i]?=some (g i):=by
     intro i hi;simp only[cells,yKB];rw[yIW (by simpa using hi)];simp[hi]
    have hcget2:∀i,i < ys.length*ti.size->cells[xs.length*ti.size+i]?=some (f i):=by
     intro i hi;simp only[cells];rw[yIW (by simp;omega),yJI (by simp)];simp[hi]
    have hrun:(Builtin.append_ #[t,u] ty #[a.eval x,a.eval y]).run P w= .ok (.slice (some ⟨w.heap.size,0,none⟩) (xs.length+ys.length) newCap) {w1 with heap:=w1.heap.push (.cells cells el)}:=by
     unfold Builtin.append_;rw[hvx,hvy];simp only[yHA,yHZ,yHS,yGT,run_underlying hu,run_underlying hu',yGV,run_sizeOf w i1,Program.cellsOf,i1,yHE,yHF,
      hs,yGX,yHI,if_false,Builtin.lenOf,hroom,if_true,yIE,run_typeInfo w i1,hby]
     have c1:¬(((xs.length+ys.length:Nat):Int) > IntKind.i64.max/\(False\/ti.bytes=0)):=by
      have hmx:IntKind.i64.max=9223372036854775807:=by decide
      rw[hmx];omega
     rw[if_neg c1];simp only[yGT,run_typeInfo w i1,yGV,hby];rw[if_neg (by omega)];simp only[yGT,run_choose,Question.forced,yHI,if_false,yGV,run_askRoom,run_typeInfo {w with drawn:=w.drawn+1} i1];change ((Builtin.firstCells ti.size xs.length (.slice xb xs.length xcap)).run P w1).andThen _=_;rw[g3];simp only[yGV,hfy w1 rfl,yZ i1 i2,yGT,yGX];rfl
    rw[yB _ hrun];obtain ⟨o2,hfr,hB⟩:=(o1.world (w':=w1) (fun _ _=>rfl) (yHH _) ⟨rfl,rfl,rfl⟩).push (.cells cells el) rfl;obtain ⟨o3,le3⟩:=o2.addImm (lo:=0) (hi:=(xs.length+ys.length)*ti.size) hB (fun j v _ hj hv=>by
      by_cases hjx:j < xs.length*ti.size
      ·rw[hcget j hjx] at hv;injection hv with hv;subst hv;exact g2 j hjx
      ·have hj':j - xs.length*ti.size < ys.length*ti.size:=by omega
       have:=hcget2 _ hj';rw[show xs.length*ti.size+(j - xs.length*ti.size)=j by omega] at this;rw[this] at hv;injection hv with hv;subst hv;exact hf2 _ hj') (fun p _=>hfr.imm p) hfr.notp (fun d i hl=>hfr.loc _ _ _ hl.2) hfr.hold
    have hne:xs++ys≠[]:=by intro e;have:=congrArg List.length e;rw[yHO,yIU] at this;omega
    have himm1:∀i,i < xs.length*ti.size->(E.addImm w1.heap.size 0 ((xs.length+ys.length)*ti.size) cells).imm w1.heap.size (0+i)=some (g i):=by
     intro i hi;simp only[GE.addImm,yHT];rw[if_pos ⟨trivial,by omega,by omega⟩];exact hcget i hi
    have himm2:∀i,i < ys.length*ti.size->(E.addImm w1.heap.size 0 ((xs.length+ys.length)*ti.size) cells).imm w1.heap.size (0+xs.length*ti.size+i)=some (f i):=by
     intro i hi;simp only[GE.addImm,yHT];rw[if_pos ⟨trivial,by omega,by omega⟩];exact hcget2 i hi
    have hrv:=hgen (E':=E.addImm w1.heap.size 0 ((xs.length+ys.length)*ti.size) cells) (b:=w1.heap.size) (o:=0) (cap:=newCap) le3 (fun _ _ _ _=>trivial) hne hncap ⟨g,fun i c hc=>(g1 i c hc).mono le3.1,himm1⟩ himm2;refine ⟨_,_,_,_,rfl,.inl rfl,GE.leD_addImm le3,?_⟩;simp only[St.app,yGZ,<-hs1];refine o3.putS dst (.imm _ _ hrv) (by simp) fun z2 xs2 ad cap2 eq hvv hlt=> ?_;injection eq with q1 q2 q3;subst q1;subst q2;injection hvv with p1 p2 p3;injection p1 with p1;subst p1;subst p3;refine ⟨⟨rfl,⟨cells,el,hB,by simp only[hcs];omega⟩,fun p hp=> ?_,hfr.notp,fun d i hl=>hfr.loc _ _ _ (cD (E:=E) (by rfl) hl).2⟩,
     fun lc ad' z2 n2 c2 _ hh=>hfr.hold _ _ _ _ _ (cN (E:=E) (by rfl) hh)⟩
    simp only[yHO] at hp;simp only[GE.addImm];rw[if_neg (by omega)];exact hfr.imm p
  ·cases he
 ·cases he
end
end Go.Ab
/- The other choice: slices that lie in an object of the frame. -/
namespace Go.Ab
open Go
section
variable {P:Program} {G:Nat->Option (List AV)} {prot:Nat->Prop} {w0:World} {E0 E:GE} {w:World} {s:St} {a:Act}
theorem zCN (h:Ok G prot w0 E0 E w s a.tmps) (dst:Option Nat) {t x o take e} (hx:opd P G t x=some o) (he:opfO s dst (.mov take o)=some e):
  Done G prot w0 E0 E s a dst e ((pure (.value (a.eval x)):Sem Next).run P w):=by
 rw[yGX];simp only[opfO] at he;split at he
 ·injection he with he;subst he;obtain ⟨s1,hs1,o1,hl1,hD1,hos1,htip⟩:=sX h hx;refine ⟨_,_,w,E,rfl,.inl rfl,GE.leD_refl _ _,?_⟩;simp only[St.app,yGZ,<-hs1];refine o1.put dst (h.evr hx) fun z n ad cap e=> ?_;obtain ⟨t1,t2⟩:=htip z n ad cap e;exact ⟨t1,fun l ad' z' n' cap' _ hh=>t2 l ad' z' n' cap' hh⟩
 ·injection he with he;subst he;refine ⟨_,_,w,E,rfl,.inl rfl,GE.leD_refl _ _,?_⟩;simp only[St.app,yGZ];exact h.putd dst (h.ev hx) (jQ hx)
theorem eI (h:Ok G prot w0 E0 E w s a.tmps) (dst:Option Nat) {t el x xo lo hi lo' hi' inf take e} (hu:P.underlying t=some (.slice el)) (hi0:P.info? el=some inf) (hx:opd P G t x=some xo)
  (hlo:optO P G lo=some lo') (hhi:optO P G hi=some hi') (he:opfO s dst (.slice inf.size take xo lo' hi')=some e):
  Done G prot w0 E0 E s a dst e ((do pure (Next.value (<-Instr.sliceAt t (a.eval x) (lo.map a.eval) (hi.map a.eval) none)):Sem Next).run P w):=by
 have hr:=h.ev (s:=s) hx;simp only[opfO] at he;split at he
 ·cases he
 ·rename_i l hl;split at he
  ·rename_i d i g off len z' ea hev;split at he
   ·rename_i hv hh;split at he
    ·rename_i hc;obtain ⟨hz,h0,h1,h2⟩:=hc;subst hz;rw[hev] at hr;obtain ⟨B,cap,hb,hcap,hro,hval⟩:=hr.own_inv';have hlV:(∃k,lo.map a.eval=some (.int k (l.toNat:Int)))\/(lo.map a.eval=none/\l.toNat=0):=by
      cases lo with
      | none=>simp[optO] at hlo;subst hlo;simp[optI] at hl;exact .inr ⟨rfl,by omega⟩
      | some o=>
       simp only[optO,yHC] at hlo;obtain ⟨o',ho,rfl⟩:=hlo;obtain ⟨k,hk⟩:=jI (h.ev (s:=s) ho) hl;refine .inl ⟨k,?_⟩;simp[hk,yIO h0]
     have hhV:(∃k,hi.map a.eval=some (.int k (hv.toNat:Int)))\/(hi.map a.eval=none/\hv.toNat=len):=by
      cases hi with
      | none=>simp[optO] at hhi;subst hhi;simp[optI] at hh;exact .inr ⟨rfl,by omega⟩
      | some o=>
       simp only[optO,yHC] at hhi;obtain ⟨o',ho,rfl⟩:=hhi;obtain ⟨k,hk⟩:=jI (h.ev (s:=s) ho) hh;refine .inl ⟨k,?_⟩;simp[hk,yIO (by omega:0<=hv)]
     have g1:l.toNat<=hv.toNat:=by omega
     have g2:hv.toNat<=len:=by omega
     split at he
     ·rename_i h3;injection he with he;subst he;have hrun:(Instr.sliceAt t (a.eval x) (lo.map a.eval) (hi.map a.eval) none).run P w=
        .ok (.slice (some ⟨B,off+l.toNat*inf.size,none⟩) (hv.toNat - l.toNat) (cap - l.toNat)) w:=by
       unfold Instr.sliceAt;rw[yGT,run_underlying hu,yGV];simp only[hval,Instr.slice,yGT,run_underlying hu,yGV,wF len cap _ _ _ _ hlV hhV g1 (by omega),run_sizeOf w hi0,Program.cellsOf,hi0,yHE,yHF,
        yGX,yW]
       split
       ·rename_i hcl;have:l=0:=by rcases h3 with e | e<;>omega
        subst this;simp
       ·rfl
      rw[yB _ hrun];have hm:l.toNat*inf.size+(cap - l.toNat)*inf.size=cap*inf.size:=by rw[<-yHN];congr 1;omega
      exact zO h dst (.own d i g (off+l.toNat*inf.size) (hv.toNat - l.toNat) inf.size ea B (cap - l.toNat) hb (by omega) (by omega)) trivial
     ·rename_i h3;injection he with he;subst he;have e0:hv.toNat - l.toNat=0:=by omega
      have hrun:∃ad,(Instr.sliceAt t (a.eval x) (lo.map a.eval) (hi.map a.eval) none).run P w= .ok (.slice (some ad) 0 (cap - l.toNat)) w:=by
       unfold Instr.sliceAt;rw[yGT,run_underlying hu,yGV];simp only[hval,Instr.slice,yGT,run_underlying hu,yGV,wF len cap _ _ _ _ hlV hhV g1 (by omega),run_sizeOf w hi0,Program.cellsOf,hi0,yHE,yHF,
        yGX,yW,e0]
       split
       ·exact ⟨_,rfl⟩
       ·exact ⟨_,rfl⟩
      obtain ⟨ad,hrun⟩:=hrun;rw[yB _ hrun];exact zO h dst (.imm _ _ (.slE _ _ _ _ (by simp) (by simp))) trivial
    ·cases he
   ·cases he
  ·cases he
end
end Go.Ab
/- Appends to a slice that lies in an object of the frame. -/
namespace Go.Ab
open Go
section
variable {P:Program} {G:Nat->Option (List AV)} {prot:Nat->Prop} {w0:World} {E0 E:GE} {w:World} {s:St} {a:Act}
theorem tL {t u el el' ty:TypeId} {inf:TypeInfo} {v0:Value} {xv yv:Value} {xb yb:Option Addr} {nx ny xcap ycap:Nat} {g f:Nat->Value}
  (hu:P.underlying t=some (.slice el)) (hu':P.underlying u=some (.slice el')) (i1:P.info? el=some inf) (i2:inf.zero=some v0) (i3:v0.cells.size=inf.size)
  (hx:xv= .slice xb nx xcap) (hy:yv= .slice yb ny ycap) (hb0:0 < inf.bytes) (hbm:inf.bytes<=2^20) (hmax:(nx+ny)*inf.bytes<=zD) (hneed:xcap < nx+ny)
  (hg:∀w1:World,w1.heap=w.heap->(Builtin.firstCells inf.size nx (.slice xb nx xcap)).run P w1= .ok ((yGU (nx*inf.size)).map g).toArray w1)
  (hf:∀w1:World,w1.heap=w.heap->(Builtin.firstCells inf.size ny (.slice yb ny ycap)).run P w1= .ok ((yGU (ny*inf.size)).map f).toArray w1):
  ∃(newCap:Nat) (rest:Array Value),nx+ny<=newCap/\rest.size=(newCap - (nx+ny))*inf.size/\(∀v∈rest,v∈v0.cells)/\
   (Builtin.append_ #[t,u] ty #[xv,yv]).run P w= .ok (.slice (some ⟨w.heap.size,0,none⟩) (nx+ny) newCap)
    {w with drawn:=w.drawn+1,heap:=w.heap.push (.cells (((yGU (nx*inf.size)).map g).toArray++((yGU (ny*inf.size)).map f).toArray++rest) el)}:=by
 subst hx;subst hy;have hmaxv:(nx+ny)*inf.bytes<=1099511627776:=by unfold zD at hmax;simpa using hmax
 have hlen1:nx+ny<=1099511627776:=Nat.le_trans (yKA _ hb0) hmaxv;have hnc:Builtin.nextslicecap (nx+ny) xcap*inf.bytes<=2^48:=by
  have h1:=yHY inf.bytes (mV hneed);have h2:(2*(nx+ny)+256)*inf.bytes=2*((nx+ny)*inf.bytes)+256*inf.bytes:=by rw[yHN,Nat.mul_assoc]
  omega
 let q:Question:= .appendCap (nx+ny) xcap el
 let newCap:Nat:=q.cut (w.tape w.drawn q)
 have hncap:nx+ny<=newCap:=by simp only[newCap,q,Question.cut];omega
 let rest:Array Value:=Builtin.zeroCells v0.cells (newCap - (nx+ny))
 refine ⟨newCap,rest,hncap,by simp[rest,Builtin.zeroCells,i3],?_,?_⟩
 ·intro v hv;simp only[rest,Builtin.zeroCells] at hv;obtain ⟨j,hj,rfl⟩:=yJJ hv;have hj':j < (newCap - (nx+ny))*v0.cells.size:=by simpa using hj
  have hpos:0 < v0.cells.size:=by
   rcases yJX v0.cells.size with h0 | h0
   ·rw[h0,Nat.mul_zero] at hj';omega
   ·exact h0
  simp only[Array.getElem_map,Array.getElem_range];rw[getElem!_pos v0.cells _ (yIQ _ hpos)];exact Array.getElem_mem _
 ·unfold Builtin.append_;have hroom:¬nx+ny<=xcap:=by omega
  simp only[yHA,yHZ,yHS,yGT,run_underlying hu,run_underlying hu',yGV,run_sizeOf w i1,Program.cellsOf,i1,yHE,yHF,
   yGX,yHI,if_false,Builtin.lenOf,hroom,if_true,yIE,run_typeInfo w i1]
  have c1:¬(((nx+ny:Nat):Int) > IntKind.i64.max/\(False\/inf.bytes=0)):=by
   have hmx:IntKind.i64.max=9223372036854775807:=by decide
   rw[hmx];omega
  rw[if_neg c1];simp only[yGT,run_typeInfo w i1,yGV];rw[if_neg (by omega)];simp only[yGT,run_choose,Question.forced,yHI,if_false,yGV,run_askRoom,run_typeInfo {w with drawn:=w.drawn+1} i1];change ((Builtin.firstCells inf.size nx (.slice xb nx xcap)).run P {w with drawn:=w.drawn+1}).andThen _=_;rw[hg {w with drawn:=w.drawn+1} rfl];simp only[yGV,hf {w with drawn:=w.drawn+1} rfl,yZ i1 i2,yGT,yGX];rfl
theorem cat1 (g f:Nat->Value) (n m:Nat) (rest:Array Value) {i:Nat} (hi:i < n):(((yGU n).map g).toArray++((yGU m).map f).toArray++rest)[i]?=some (g i):=by
 rw[yKB,yIW (by simpa using hi)];simp[hi]
theorem cat2 (g f:Nat->Value) (n m:Nat) (rest:Array Value) {i:Nat} (hi:i < m):(((yGU n).map g).toArray++((yGU m).map f).toArray++rest)[n+i]?=some (f i):=by
 rw[yIW (by simp;omega),yJI (by simp)];simp[hi]
theorem cat3 (g f:Nat->Value) (n m:Nat) (rest:Array Value) {j:Nat} {v:Value} (hj:n+m<=j) (hv:(((yGU n).map g).toArray++((yGU m).map f).toArray++rest)[j]?=some v):v∈rest:=by
 rw[yJI (by simpa using hj)] at hv;exact Array.mem_of_getElem? hv
theorem nK (h:Ok G prot w0 E0 E w s a.tmps) {z y ys l v} (he:zX s z y=some (ys,l)) (hr:Rel E y v):
  ∃base cap,v= .slice base ys.length cap/\ys.length<=cap/\(∀x∈ys,x.cells.length=z)/\∃f:Nat->Value,(∀(i:Nat) c,(yC ys)[i]?=some c->RelI E.imm c (f i))/\(∀i,i < ys.length*z->(f i).oneCell'=true)/\
   ∀w1:World,w1.heap=w.heap->(Builtin.firstCells z ys.length (.slice base ys.length cap)).run P w1= .ok ((yGU (ys.length*z)).map f).toArray w1:=by
 obtain ⟨yb,ycap,hvy,hycap,hyz,hyf⟩:=nJ h he hr;have hfly:=zU hyz;refine ⟨yb,ycap,hvy,hycap,hyz,?_⟩;by_cases h0:ys= []
 ·subst h0;exact ⟨fun _=>undef,by simp[yC],by simp,fun w1 hw1=>z7 (by simp)⟩
 ·obtain ⟨b,o,f,k1,k2,k3⟩:=hyf h0;rw[hfly] at k3;exact ⟨f,k2,fun i hi=>(k3 i hi).2,fun w1 hw1=>z7 fun _=>⟨b,o,k1,fun i hi=>by rw[uW hw1];exact (k3 i hi).1⟩⟩
theorem vW {ys:List AV} {i:Nat} {c:AV} (h:(newC ys)[i]?=some c):∃c0,(yC ys)[i]?=some c0/\c=c0.strip1:=by
 unfold newC at h;rw[yHD,yHC] at h;obtain ⟨c0,h0,rfl⟩:=h;exact ⟨c0,h0,rfl⟩
theorem vV (ys:List AV):(newC ys).length=(yC ys).length:=by simp[newC,yC]
theorem wP (b:AV) {z xs}:b.strip1≠ .sl z xs .tip:=by
 intro e;cases b<;>simp[AV.strip1] at e
theorem zRE (s:St) {d i:Nat} {e e':Ent}:(s.up (d,i,e)).up (d,i,e')=s.up (d,i,e'):=by
 unfold St.up;by_cases hd:d=s.D
 ·simp[hd,List.set_set]
 ·simp only[if_neg hd];congr 1
  funext a b
  unfold updS;split<;>rfl
theorem AV.clean_upto {d:Nat}:∀n {b:AV},b.clean n=true->b.upto d n=true
 | 0,b,h=>by simp[AV.clean] at h
 | n+1,b,h=>by
  cases b with
  | agg cs=>simp only[AV.upto,AV.clean,yHB] at h|-;exact fun c hc=>AV.clean_upto n (h c hc)
  | tup cs=>simp only[AV.upto,AV.clean,yHB] at h|-;exact fun c hc=>AV.clean_upto n (h c hc)
  | fn f cs=>simp only[AV.upto,AV.clean,yHB] at h|-;exact fun c hc=>AV.clean_upto n (h c hc)
  | ifc t v=>simp only[AV.upto,AV.clean] at h|-;exact AV.clean_upto n h
  | _=>first | rfl | (simp[AV.clean] at h)
theorem gG {s:St} {d z y r} (h:zX s z y=some r):uT s d z y=some r:=by
 unfold zX at h;unfold uT;split at h
 ·exact h
 ·split at h
  ·rename_i hz;split at h
   ·rename_i hlk;split at h
    ·rename_i hc;obtain ⟨c1,c2,c3,c4,c5⟩:=hc;rw[if_pos hz,if_pos ⟨c1,c2,by rw[yHB] at c3|-;exact fun c hc=>AV.clean_upto 20 (c3 c hc),c4,c5⟩];exact h
    ·cases h
   ·cases h
  ·cases h
 ·cases h
theorem aG (h:Ok G prot w0 E0 E w s a.tmps) {d z y ys l v} (he:uT s d z y=some (ys,l)) (hr:Rel E y v):
  ∃base cap,v= .slice base ys.length cap/\ys.length<=cap/\(∀x∈ys,x.cells.length=z)/\
   (ys≠[]->∃b o,∃f:Nat->Value,base=some ⟨b,o,none⟩/\(∀(i:Nat) c,(yC ys)[i]?=some c->Rel (E.to d) c (f i))/\
    ∀i,i < (yC ys).length->w.cell? ⟨b,o+i,none⟩=some (f i)/\(f i).oneCell'=true):=by
 unfold uT at he;split at he
 ·rename_i z' ys' t;split at he
  ·rename_i hz;subst hz;injection he with he;injection he with he _;subst he;obtain ⟨_,_,_,hri⟩:=hr.sl_inv;cases hri with
   | slE _ _ b cap _ _=>exact ⟨b,cap,rfl,yHM _,by simp,fun e=>absurd rfl e⟩
   | slN _ _ _ b o cap vs h1 h2 h3 h4 h5 h6=>
    refine ⟨_,cap,rfl,h2,h4,fun _=>⟨b,o,vs,rfl,fun i c hc=> .imm _ _ (h5 i c hc),fun i hi=> ?_⟩⟩;obtain ⟨arr,el,fz,k1,k2,k3⟩:=h.imm _ _ _ (h6 i hi);exact ⟨uA k1 k2,k3⟩
  ·cases he
 ·rename_i d1 i g off len z' ea;split at he
  ·rename_i hz;subst hz;split at he
   ·rename_i g' cs hlk;split at he
    ·rename_i hc;obtain ⟨hg,hle,hcl,hea,hone⟩:=hc;subst hg;injection he with he;injection he with he _;subst he;obtain ⟨B,cap,hb,hcap,rfl⟩:=hr.own_inv;obtain ⟨hlive,⟨arr,el,hB,hsz,hone2,hcr⟩,himm,hnp⟩:=wH h hlk (by simp) hb;have hlen:(((cs.drop off).take (len*z')).map AV.strip1).length=len*z':=by simp;omega
     have hone3:(((cs.drop off).take (len*z')).map AV.strip1).all AV.one=true:=tT (by
      rw[yHB] at hone|-;exact fun x hx=>hone x (yIL (yIC hx)))
     obtain ⟨g1,g2,g3⟩:=vY (z:=z') (ea:=ea) (n:=len) hlen hea hone3;refine ⟨_,cap,by rw[g2],by rw[g2];exact hcap,g3,fun _=>⟨B,off,fun i=>arr.getD (off+i) undef,rfl,?_,?_⟩⟩
     ·intro i c hc;rw[g1,yHD,yHC] at hc;obtain ⟨c0,h0,rfl⟩:=hc;have hi:i < len*z':=by have:=(yGW.1 h0).1;simp at this;omega
      rw[yHX hi,yIM] at h0;have hlt:off+i < arr.size:=by omega
      have hv:arr[off+i]?=some (arr.getD (off+i) undef):=by simp[yHP,yHK hlt]
      have hrel:=(hcr _ c0 _ h0 hv).mono (GE.to_le E d1);rw[yHB] at hcl;exact (hrel.upto 20 (hcl c0 (zP h0))).strip1
     ·intro i hi;rw[g1,hlen] at hi;have hlt:off+i < arr.size:=by omega
      have hv:arr[off+i]?=some (arr.getD (off+i) undef):=by simp[yHP,yHK hlt]
      exact ⟨uA hB hv,hone2 _ _ hv⟩
    ·cases he
   ·cases he
  ·cases he
 ·cases he
theorem qW (h:Ok G prot w0 E0 E w s a.tmps) {d z y ys l v} (he:uT s d z y=some (ys,l)) (hr:Rel E y v):
  ∃base cap,v= .slice base ys.length cap/\ys.length<=cap/\(∀x∈ys,x.cells.length=z)/\∃f:Nat->Value,(∀(i:Nat) c,(yC ys)[i]?=some c->Rel (E.to d) c (f i))/\(∀i,i < ys.length*z->(f i).oneCell'=true)/\
   ∀w1:World,w1.heap=w.heap->(Builtin.firstCells z ys.length (.slice base ys.length cap)).run P w1= .ok ((yGU (ys.length*z)).map f).toArray w1:=by
 obtain ⟨yb,ycap,hvy,hycap,hyz,hyf⟩:=aG h he hr;have hfly:=zU hyz;refine ⟨yb,ycap,hvy,hycap,hyz,?_⟩;by_cases h0:ys= []
 ·subst h0;exact ⟨fun _=>undef,by simp[yC],by simp,fun w1 hw1=>z7 (by simp)⟩
 ·obtain ⟨b,o,f,k1,k2,k3⟩:=hyf h0;rw[hfly] at k3;exact ⟨f,k2,fun i hi=>(k3 i hi).2,fun w1 hw1=>z7 fun _=>⟨b,o,k1,fun i hi=>by rw[uW hw1];exact (k3 i hi).1⟩⟩
theorem tW {s:St} {d i:Nat} {e:Ent} (h:xT s d i=some e):s.look d i=e/\d<=s.D/\(d=s.D->i < s.os.length):=by
 unfold xT at h;split at h
 ·rename_i hd;refine ⟨?_,Nat.le_of_eq hd,fun _=>(yGW.1 h).1⟩;unfold St.look;rw[if_pos hd,yJE,h];rfl
 ·rename_i hd;split at h
  ·rename_i hlt;injection h with h;exact ⟨by unfold St.look;rw[if_neg hd];exact h,Nat.le_of_lt hlt,fun e=>absurd e hd⟩
  ·cases h
theorem zFM {s:St} {i:Nat}:xT s s.D i=s.os[i]?:=by simp[xT]
set_option maxHeartbeats 1000000 in
theorem uU (h:Ok G prot w0 E0 E w s a.tmps) (dst:Option Nat) {t u el el' x y xo yo ti zz ty e} {dd slt:Nat} (hu:P.underlying t=some (.slice el)) (hu':P.underlying u=some (.slice el')) (ht:tinf P el=some ti)
  (hz:xF P el=some zz) (hx:opd P G t x=some xo) (hy:opd P G u y=some yo) (hs0:0 < ti.size) (hb0:0 < ti.bytes) (hbm:ti.bytes<=2^20) (he:opfP s dd slt (.append ti.size ti.bytes xo yo)=some e):
  Done G prot w0 E0 E s a dst e ((do pure (Next.value (<-Builtin.append_ #[t,u] ty #[a.eval x,a.eval y])):Sem Next).run P w):=by
 obtain ⟨inf,v0,i1,i2,i3,i4,i5⟩:=yH hz;obtain ⟨inf',i1',_,hs,hby,_⟩:=z8 ht;have:inf'=inf:=by rw[i1] at i1';exact (Option.some.inj i1').symm
 subst this;rw[<-hby] at hb0 hbm he;rw[<-hs] at hs0 he;have hrx:=h.evr (s:=s) hx;have hry:=h.ev (s:=s) hy;have hzone:∀v∈v0.cells,v.oneCell'=true:=by
  intro v hv;obtain ⟨j,hj,rfl⟩:=yJJ hv;have hj':j < zz.length:=by rw[i4];exact hj
  exact (i5 (fun _ _=>none) j _ _ (yGY hj') (yHK hj)).2.2
 simp only[opfP] at he;split at he
 ·rename_i z' y0 ys r hxe hye;rw[hxe] at hrx;obtain ⟨yb,ycap,hvy,hycap,hyz,f,hf1,hf2,hf3⟩:=qW (P:=P) h hye hry;have hxv:∃xb,a.eval x= .slice xb 0 0:=by
   generalize a.eval x=vx at hrx;cases hrx with
   | imm _ _ hr=>cases hr with
    | slE _ _ b cap k1 k2=>rw[k2 (k1 rfl)];exact ⟨b,rfl⟩
    | slN _ _ _ _ _ _ _ k1=>exact absurd rfl k1
  obtain ⟨xb,hxv⟩:=hxv
  ·split at he
   ·rename_i e0 he0;obtain ⟨hlk0,hdd,hin⟩:=tW he0;split at he
    ·rename_i hc;obtain ⟨hok,hmax⟩:=hc;injection he with he;subst he;have hfly:=zU hyz;obtain ⟨newCap,rest,q1,q2,q3,hrun⟩:=tL (ty:=ty) (w:=w) (nx:=0) (xcap:=0) (g:=fun _=>undef) hu hu' i1 i2 i3 hxv hvy hb0 hbm (by simpa[yIZ] using hmax) (by simp) (fun w1 _=>z7 (by simp)) hf3;rw[yB _ hrun]
     let cells:Array Value:=((yGU (0*inf'.size)).map fun _=>undef).toArray++((yGU ((y0::ys).length*inf'.size)).map f).toArray++rest
     have hget:∀i,i < (y0::ys).length*inf'.size->cells[i]?=some (f i):=by
      intro i hi;have:=cat2 (fun _=>undef) f (0*inf'.size) ((y0::ys).length*inf'.size) rest hi;simp only[yIF,yHT] at this;simp only[cells,yIF];exact this
     have hcs:cells.size=newCap*inf'.size:=by
      simp only[cells,yJG,yHV,yIV,yJH,q2,yIF,yHT];rw[<-yHN];congr 1;omega
     have hge:(y0::ys).length*inf'.size<=newCap*inf'.size:=yHY _ (by omega);have o0:Ok G prot w0 E0 E {w with drawn:=w.drawn+1} s a.tmps:=h.world (fun _ _=>rfl) (yHH _) ⟨rfl,rfl,rfl⟩;have hone:∀(j:Nat) (v:Value),cells[j]?=some v->v.oneCell'=true:=by
      intro j v hv;by_cases hj:j < (y0::ys).length*inf'.size
      ·rw[hget j hj] at hv;injection hv with hv;subst hv;exact hf2 j hj
      ·exact hzone v (q3 v (cat3 (fun _=>undef) f (0*inf'.size) ((y0::ys).length*inf'.size) rest (by omega) hv))
     obtain ⟨o1,hf,hb⟩:=o0.push (.cells cells el) rfl;obtain ⟨o2,hle⟩:=o1.newobjD hf (by simp) hlk0 hdd hin (o:= .cells (newC (y0::ys))) (by simp)
      ⟨cells,el,hb,by rw[vV,hfly,hcs];exact hge,hone,fun j c v hcj hv=>by
       obtain ⟨c0,k1,rfl⟩:=vW hcj;have hj:j < (y0::ys).length*inf'.size:=by rw[<-hfly];exact (yGW.1 k1).1
       rw[hget j hj] at hv;injection hv with hv;subst hv;exact (hf1 j c0 k1).strip1⟩
      (fun cs' e arr' el' hb' j z xs ad cap hcj _=>by
       injection e with e;subst e;obtain ⟨c0,k1,k2⟩:=vW hcj;exact absurd k2.symm (wP _)) cells.size
      (fun arr' el' fz' hb'=>by rw[hb] at hb';injection hb' with hb';injection hb' with hb' _ _;subst hb';exact yHH _)
     refine ⟨_,_,_,_,rfl,.inl rfl,GE.leD_addLocD hdd hle,?_⟩;simp only[St.app,yGZ,yHG];refine o2.putd dst ?_ trivial;have:=Rel.own (E:=E.addLoc dd slt (e0.1+1) w.heap.size cells.size) dd slt (e0.1+1) 0 (0+(y0::ys).length) inf'.size (!y0.one) w.heap.size newCap (by simp[GE.addLoc]) q1 (by simp[GE.addLoc,hcs]);simpa using this
    ·cases he
   ·cases he
 ·rename_i d i g off len z' ea ys r hxe hye;rw[hxe] at hrx;obtain ⟨B,cap,hb,hcap,hro,hxv⟩:=hrx.own_inv';obtain ⟨yb,ycap,hvy,hycap,hyz,f,hf1,hf2,hf3⟩:=qW (P:=P) h hye hry;have hfly:=zU hyz;split at he
  ·rename_i g' cs hlk;split at he
   ·rename_i hc;obtain ⟨rfl,rfl,rfl,rfl,rfl,hlen,hne,hok,hmax⟩:=hc;injection he with he;subst he;obtain ⟨hlive,⟨arr,el2,hB,hsz,hone,hcr⟩,himm,hnp⟩:=wH h hlk (by simp) hb;have hdd:=(h.locs _ _ _ _ hb).1;have hrm:=h.rooms _ _ _ _ hb _ _ _ hB;have hmul:(len+ys.length)*inf'.size=len*inf'.size+ys.length*inf'.size:=yHN _ _ _;have hcslen:((cs.take (len*inf'.size)).map AV.strip1++newC ys).length=len*inf'.size+ys.length*inf'.size:=by
     simp only[yHO,yIV,yII,vV,hfly];omega
    have hcsget:∀j c,((cs.take (len*inf'.size)).map AV.strip1++newC ys)[j]?=some c->(∃c0,j < len*inf'.size/\cs[j]?=some c0/\c=c0.strip1)\/(∃c0,len*inf'.size<=j/\(yC ys)[j - len*inf'.size]?=some c0/\c=c0.strip1):=by
     intro j c hj;have hl1:((cs.take (len*inf'.size)).map AV.strip1).length=len*inf'.size:=by simp;omega
     by_cases hlt:j < len*inf'.size
     ·rw[yIB (by rw[hl1];exact hlt),yHD,yHC] at hj;obtain ⟨c0,h0,rfl⟩:=hj;rw[yHX hlt] at h0;exact .inl ⟨c0,hlt,h0,rfl⟩
     ·rw[yIG (by rw[hl1];omega),hl1] at hj;obtain ⟨c0,k1,k2⟩:=vW hj;exact .inr ⟨c0,by omega,k1,k2⟩
    have hnotip:∀(j:Nat) z xs,((cs.take (len*inf'.size)).map AV.strip1++newC ys)[j]?=some (.sl z xs .tip)->False:=by
     intro j z xs hj;rcases hcsget j _ hj with ⟨c0,_,_,e⟩ | ⟨c0,_,_,e⟩<;>exact wP _ e.symm
    by_cases hroom:len+ys.length<=cap
    ·-- in place
     have hcapm:len*inf'.size+ys.length*inf'.size<=cap*inf'.size:=by rw[<-hmul];exact yHY _ hroom
     have hwslen:((yGU (ys.length*inf'.size)).map f).length=ys.length*inf'.size:=by simp
     have hwsget:∀i,i < ys.length*inf'.size->((yGU (ys.length*inf'.size)).map f)[i]?=some (f i):=by intro i hi;simp[hi]
     have hone1:∀v∈(yGU (ys.length*inf'.size)).map f,v.oneCell'=true:=by
      intro v hv;obtain ⟨i,hi,rfl⟩:=yHJ.1 hv;exact hf2 i (by simpa using hi)
     have hst:=run_storeCells_at P B (0+len*inf'.size) el2 ((yGU (ys.length*inf'.size)).map f) 0 arr w hB (by rw[hwslen];omega) hone1;have hrun:(Builtin.append_ #[t,u] ty #[a.eval x,a.eval y]).run P w= .ok (.slice (some ⟨B,0,none⟩) (len+ys.length) cap)
       (w.setRow B (arr.toList.take (0+len*inf'.size+0)++(yGU (ys.length*inf'.size)).map f++arr.toList.drop (0+len*inf'.size+0+((yGU (ys.length*inf'.size)).map f).length)).toArray):=by
      unfold Builtin.append_;rw[hxv,hvy];simp only[yHA,yHZ,yHS,yGT,run_underlying hu,run_underlying hu',yGV,run_sizeOf w i1,Program.cellsOf,i1,yHE,yHF,
       yGX,yHI,if_false,Builtin.lenOf,hroom,if_true,yIE,hf3 w rfl,yW,hst]
     rw[yB _ hrun];simp only[yIK,yHT] at hst|-;have hT:Turned w (w.setRow B (arr.toList.take (len*inf'.size)++(yGU (ys.length*inf'.size)).map f++arr.toList.drop (len*inf'.size+((yGU (ys.length*inf'.size)).map f).length)).toArray) B _:=xU hB;generalize harr':(arr.toList.take (len*inf'.size)++(yGU (ys.length*inf'.size)).map f++arr.toList.drop (len*inf'.size+((yGU (ys.length*inf'.size)).map f).length))=l' at hT|-;have hl'get:∀j,l'[j]?=if len*inf'.size<=j/\j < len*inf'.size+ys.length*inf'.size then ((yGU (ys.length*inf'.size)).map f)[j - len*inf'.size]? else arr.toList[j]?:=by
      intro j;rw[<-harr'];have:=pJ (cs:=arr.toList) (vs:=(yGU (ys.length*inf'.size)).map f) (off:=len*inf'.size) (by rw[hwslen];simp;omega) j;rw[hwslen] at this|-;exact this
     have hl'len:l'.length=arr.size:=by rw[<-harr',hwslen];simp;omega
     have hat:obAt E (w.setRow B l'.toArray) d B (.cells ((cs.take (len*inf'.size)).map AV.strip1++newC ys)):=by
      refine ⟨l'.toArray,el2,hT.here,by rw[hcslen];simp only[yHV,hl'len];omega,fun j v hv=> ?_,fun j c v hc hv=> ?_⟩
      ·rw[yHA,hl'get] at hv;split at hv
       ·exact hone1 v (zP hv)
       ·exact hone j v (by simpa using hv)
      ·rw[yHA,hl'get] at hv;rcases hcsget j c hc with ⟨c0,k1,k2,rfl⟩ | ⟨c0,k1,k2,rfl⟩
       ·rw[if_neg (by omega)] at hv;exact (hcr j c0 v k2 (by simpa using hv)).strip1
       ·have hj:j - len*inf'.size < ys.length*inf'.size:=by rw[<-hfly];exact (yGW.1 k2).1
        rw[if_pos ⟨k1,by omega⟩,hwsget _ hj] at hv;injection hv with hv;subst hv;exact (hf1 _ _ k2).strip1
     have o1:=h.setobj hlive hT (by simp) hat (fun cs' e arr' el' hb' j z xs ad cap hc hv hlt=>by
      injection e with e;subst e;exact (hnotip j z xs hc).elim) (fun arr' el' fz' e=>by injection e with e1 _ _;subst e1;simp only[yHV,hl'len];exact hrm)
     rw[hlk] at o1;simp only at o1;have hi:d=s.D->i < s.os.length:=s.look_lt hlive.1;have hlk1:(s.up (d,i,(g',.cells ((cs.take (len*inf'.size)).map AV.strip1++newC ys)))).look d i=(g',.cells ((cs.take (len*inf'.size)).map AV.strip1++newC ys)):=by
      rw[St.look_up _ _ hi];simp
     obtain ⟨o2,hle⟩:=o1.regenD hlk1 (by simp) (by simpa using hb);rw[zRE] at o2;refine ⟨_,_,_,_,rfl,.inl rfl,GE.leD_addLocD hdd hle,?_⟩;simp only[St.app,yGZ,yHG];exact o2.putd dst (.own d i (g'+1) 0 (len+ys.length) inf'.size ea B cap (by simp[GE.addLoc]) hroom (by simp[GE.addLoc];simpa using hro)) trivial
    ·-- a new array
     have hxget:∀j,j < len*inf'.size->arr[j]?=some (arr.getD j undef):=fun j hj=>by
      have:j < arr.size:=by omega
      simp[yHP,yHK this]
     obtain ⟨newCap,rest,q1,q2,q3,hrun⟩:=tL (ty:=ty) (w:=w) (nx:=len) (xcap:=cap) (g:=fun j=>arr.getD j undef) hu hu' i1 i2 i3 hxv hvy hb0 hbm hmax (by omega)
      (fun w1 hw1=>z7 fun _=>⟨B,0,rfl,fun j hj=>by rw[uW hw1,yHT];exact uA hB (hxget j hj)⟩) hf3
     rw[yB _ hrun]
     let cells:Array Value:=((yGU (len*inf'.size)).map fun j=>arr.getD j undef).toArray++((yGU (ys.length*inf'.size)).map f).toArray++rest
     have hcs:cells.size=newCap*inf'.size:=by
      simp only[cells,yJG,yHV,yIV,yJH,q2];rw[<-hmul,<-yHN];congr 1;omega
     have hge:(len+ys.length)*inf'.size<=newCap*inf'.size:=yHY _ q1;have o0:Ok G prot w0 E0 E {w with drawn:=w.drawn+1} s a.tmps:=h.world (fun _ _=>rfl) (yHH _) ⟨rfl,rfl,rfl⟩;have hget1:∀j,j < len*inf'.size->cells[j]?=some (arr.getD j undef):=fun j hj=>cat1 _ f _ _ rest hj;have hget2:∀j,j < ys.length*inf'.size->cells[len*inf'.size+j]?=some (f j):=fun j hj=>cat2 (fun j=>arr.getD j undef) f _ _ rest hj;have honec:∀(j:Nat) (v:Value),cells[j]?=some v->v.oneCell'=true:=by
      intro j v hv;by_cases hj:j < len*inf'.size
      ·rw[hget1 j hj,<-hxget j hj] at hv;exact hone j v hv
      ·by_cases hj2:j < len*inf'.size+ys.length*inf'.size
       ·have:=hget2 (j - len*inf'.size) (by omega);rw[show len*inf'.size+(j - len*inf'.size)=j by omega] at this;rw[this] at hv;injection hv with hv;subst hv;exact hf2 _ (by omega)
       ·exact hzone v (q3 v (cat3 (fun j=>arr.getD j undef) f (len*inf'.size) (ys.length*inf'.size) rest (by omega) hv))
     obtain ⟨o1,hf,hbb⟩:=o0.push (.cells cells el) rfl;have hi:d=s.D->i < s.os.length:=s.look_lt hlive.1;obtain ⟨o2,hle⟩:=o1.newobjD hf (by simp) hlk hdd hi (o:= .cells ((cs.take (len*inf'.size)).map AV.strip1++newC ys)) (by simp)
      ⟨cells,el,hbb,by rw[hcslen,hcs];omega,honec,fun j c v hcj hv=>by
       rcases hcsget j c hcj with ⟨c0,k1,k2,rfl⟩ | ⟨c0,k1,k2,rfl⟩
       ·rw[hget1 j k1,<-hxget j k1] at hv;exact (hcr j c0 v k2 hv).strip1
       ·have hj:j - len*inf'.size < ys.length*inf'.size:=by rw[<-hfly];exact (yGW.1 k2).1
        have:=hget2 _ hj;rw[show len*inf'.size+(j - len*inf'.size)=j by omega] at this;rw[this] at hv;injection hv with hv;subst hv;exact (hf1 _ _ k2).strip1⟩
      (fun cs' e arr' el' hb' j z xs ad cap hcj _=>by injection e with e;subst e;exact (hnotip j z xs hcj).elim) cells.size
      (fun arr' el' fz' hb'=>by rw[hbb] at hb';injection hb' with hb';injection hb' with hb' _ _;subst hb';exact yHH _)
     refine ⟨_,_,_,_,rfl,.inl rfl,GE.leD_addLocD hdd hle,?_⟩;simp only[St.app,yGZ,yHG];exact o2.putd dst (.own d i (g'+1) 0 (len+ys.length) inf'.size ea w.heap.size newCap (by simp[GE.addLoc]) q1 (by simp[GE.addLoc,hcs])) trivial
   ·cases he
  ·cases he
 ·cases he
set_option maxHeartbeats 1000000 in
theorem gK (h:Ok G prot w0 E0 E w s a.tmps) (dst slot:Option Nat) {t u el el' x y xo yo ti zz ty e} (hu:P.underlying t=some (.slice el)) (hu':P.underlying u=some (.slice el')) (ht:tinf P el=some ti)
  (hz:xF P el=some zz) (hx:opd P G t x=some xo) (hy:opd P G u y=some yo) (hs0:0 < ti.size) (hb0:0 < ti.bytes) (hbm:ti.bytes<=2^20) (he:opfO s slot (.append ti.size ti.bytes xo yo)=some e):
  Done G prot w0 E0 E s a dst e ((do pure (Next.value (<-Builtin.append_ #[t,u] ty #[a.eval x,a.eval y])):Sem Next).run P w):=by
 have hs0':=hs0;have hb0':=hb0;have hbm':=hbm;have he':=he;obtain ⟨inf,v0,i1,i2,i3,i4,i5⟩:=yH hz;obtain ⟨inf',i1',_,hs,hby,_⟩:=z8 ht;have:inf'=inf:=by rw[i1] at i1';exact (Option.some.inj i1').symm
 subst this;rw[<-hby] at hb0 hbm he;rw[<-hs] at hs0 he;have hrx:=h.evr (s:=s) hx;have hry:=h.ev (s:=s) hy;have hzone:∀v∈v0.cells,v.oneCell'=true:=by
  intro v hv;obtain ⟨j,hj,rfl⟩:=yJJ hv;have hj':j < zz.length:=by rw[i4];exact hj
  exact (i5 (fun _ _=>none) j _ _ (yGY hj') (yHK hj)).2.2
 have zero:∀{base:Option Addr} {n cap:Nat} {yb:Option Addr} {ycap:Nat},a.eval x= .slice base n cap->n<=cap->a.eval y= .slice yb 0 ycap->(Builtin.append_ #[t,u] ty #[a.eval x,a.eval y]).run P w= .ok (.slice base n cap) w:=by
  intro base n cap yb ycap hxv hcap hvy;have hroom:n+0<=cap:=by omega
  have hf3:(Builtin.firstCells inf'.size 0 (.slice yb 0 ycap)).run P w= .ok ((yGU (0*inf'.size)).map fun _=>undef).toArray w:=z7 (by simp);unfold Builtin.append_;rw[hxv,hvy];cases base with
  | none=>
   simp only[yHA,yHZ,yHS,yGT,run_underlying hu,run_underlying hu',yGV,run_sizeOf w i1,Program.cellsOf,i1,yHE,yHF,
    yGX,yHI,if_false,Builtin.lenOf,hroom,hcap,if_true,yIE,hf3,yIK]
  | some ad=>
   simp only[yHA,yHZ,yHS,yGT,run_underlying hu,run_underlying hu',yGV,run_sizeOf w i1,Program.cellsOf,i1,yHE,yHF,
    yGX,yHI,if_false,Builtin.lenOf,hroom,hcap,if_true,yIE,hf3,yIK]
   simp[storeCells]
 simp only[opfO] at he;split at he
 ·rename_i z' r hxe hye;injection he with he;subst he;rw[hxe] at hrx;obtain ⟨yb,ycap,hvy,_,_,_⟩:=nK (P:=P) h hye hry;have hxv:a.eval x= .slice none 0 0:=by
   generalize a.eval x=vx at hrx;cases hrx with
   | imm _ _ hr=>cases hr with
    | slE _ _ b cap k1 k2=>rw[k2 (k1 rfl),k1 rfl]
    | slN _ _ _ _ _ _ _ k1=>exact absurd rfl k1
  rw[yB _ (zero hxv (yHH _) hvy)];refine ⟨_,_,w,E,rfl,.inl rfl,GE.leD_refl _ _,?_⟩;simp only[St.app,yGZ];exact h.putd dst (.imm _ _ (.slE _ _ _ _ (fun _=>rfl) (by simp))) trivial
 ·rename_i d i g off len z' ea r hxe hye;rw[hxe] at hrx;obtain ⟨B,cap,hb,hcap,hro,hxv⟩:=hrx.own_inv';obtain ⟨yb,ycap,hvy,_,_,_⟩:=nK (P:=P) h hye hry;split at he
  ·rename_i hz';injection he with he;subst he;rw[yB _ (zero hxv hcap hvy)];refine ⟨_,_,w,E,rfl,.inl rfl,GE.leD_refl _ _,?_⟩;simp only[St.app,yGZ];subst hz';exact h.putd dst (.own d i g off len _ ea B cap hb hcap hro) trivial
  ·cases he
 ·rename_i z' y0 ys r hxe hye;split at he
  ·rename_i d;refine uU h dst hu hu' ht hz hx hy hs0' hb0' hbm' (dd:=s.D) (slt:=d) (e:=e) ?_;rw[<-hs,<-hby];simp only[opfP,hxe,gG hye,zFM];exact he
  ·cases he
 ·rename_i d i g off len z' ea ys r _ hxe hye;refine uU h dst hu hu' ht hz hx hy hs0' hb0' hbm' (dd:=s.D) (slt:=i) (e:=e) ?_;rw[<-hs,<-hby];simp only[opfP,hxe,gG hye];split at he
  ·rename_i g' cs hlk;split at he
   ·rename_i hc;obtain ⟨rfl,rfl,rfl,rfl,hlen,hne,hok,hmax⟩:=hc;rw[if_pos ⟨rfl,trivial,rfl,rfl,rfl,hlen,hne,hok,hmax⟩];exact he
   ·cases he
  ·cases he
 ·cases he
end
end Go.Ab
/- Channels: made,their length; a send,a receive,at the machine of one. -/
namespace Go.Ab
open Go
section
variable {P:Program} {G:Nat->Option (List AV)} {prot:Nat->Prop} {w0:World} {E0 E:GE} {w:World} {s:St} {a:Act}
theorem Rel.ch_inv {v:Value} {d i g} (h:Rel E (.ch d i g) v):∃B,E.loc d i g=some B/\v= .chan (some B):=by
 cases h with
 | imm _ _ h=>cases h
 | ch _ _ _ B hb=>exact ⟨B,hb,rfl⟩
theorem eL (h:Ok G prot w0 E0 E w s a.tmps) (dst:Option Nat) {t el dir n no inf e} (hu:P.underlying t=some (.chan dir el)) (hi:P.info? el=some inf) (hn:opd P G 0 n=some no)
  (he:opf s dst (.mkchan inf.bytes no)=some e):
  Done G prot w0 E0 E s a dst e ((do pure (Next.value (<-Instr.makeChan t (a.eval n))):Sem Next).run P w):=by
 have hr:=h.ev (s:=s) hn;simp only[opf] at he;split at he
 ·rename_i d k m hev;split at he
  ·rename_i e0 he0;split at he
   ·rename_i hc;obtain ⟨h0,h1,h2⟩:=hc;injection he with he;subst he;rw[hev] at hr;rw[hr.int_inv];obtain ⟨n',rfl⟩:=Int.eq_ofNat_of_zero_le h0;rw[yB _ (Go.Conc.run_makeChan hu hi k n' h1 h2)];obtain ⟨o1,hf,hb⟩:=h.push (.chan n' #[] false 0 0 false) (w':=w.alloc (.chan n' #[] false 0 0 false)) rfl;have hsz:w.heap.size < (w.alloc (.chan n' #[] false 0 0 false)).heap.size:=by
     have:=yU hb;exact this
    obtain ⟨o2,hle⟩:=o1.newobj hf hsz he0 (o:= .ch n' []) (by simp) ⟨#[],0,0,hb,rfl,by simp⟩ (by simp) 0 (fun _ _ _ _=>yHM _);refine ⟨_,_,_,_,rfl,.inl rfl,GE.leD_addLoc hle,?_⟩;simp only[St.app,yGZ,yHG];exact o2.putd (some d) (.ch _ _ _ _ (by simp[GE.addLoc])) trivial
   ·cases he
  ·cases he
 ·cases he
theorem eV (h:Ok G prot w0 E0 E w s a.tmps) {d i g B cap buf} (hlk:s.look d i=(g,.ch cap buf)) (hb:E.loc d i g=some B):
  Live E s d i B/\(∃arr sent rcvd,w.heap[B]?=some (.chan cap arr false sent rcvd false)/\arr.size=buf.length/\∀(j:Nat) (c:AV) (v:Value),buf[j]?=some c->arr[j]?=some v->RelI E.imm c v):=by
 obtain ⟨h1,h2,_,_⟩:=wH h hlk (by simp) hb;exact ⟨h1,h2⟩
theorem zCQ (h:Ok G prot w0 E0 E w s a.tmps) (dst:Option Nat) {t dir el x o ty e} (hu:P.underlying t=some (.chan dir el)) (hx:opd P G t x=some o) (he:opf s dst (.lenc o)=some e):
  Done G prot w0 E0 E s a dst e ((do pure (Next.value (<-Builtin.len_ #[t] ty #[a.eval x])):Sem Next).run P w):=by
 have hr:=h.ev (s:=s) hx;simp only[opf] at he;split at he
 ·rename_i d i g hev;split at he
  ·rename_i g' cap buf hlk;split at he
   ·rename_i hg;subst hg;injection he with he;subst he;rw[hev] at hr;obtain ⟨B,hb,hv⟩:=hr.ch_inv;obtain ⟨hl,arr,sent,rcvd,h1,h2,h3⟩:=eV h hlk hb;have hrun:(Builtin.len_ #[t] ty #[a.eval x]).run P w= .ok (.int .i64 buf.length) w:=by
     unfold Builtin.len_;rw[hv];have hg:(getObj B).run P w= .ok (.chan cap arr false sent rcvd false) w:=by
      unfold getObj;simp[Sem.run,h1]
     simp[run_underlying hu,goInt,hg,h2]
    rw[yB _ hrun];exact zO h dst (.imm _ _ (.int _ _)) trivial
   ·cases he
  ·cases he
 ·cases he
theorem b5:∀(l:List (Nat×Nat)) (s s0:St),(∀p∈l,p.1=s.D->p.2 < s.os.length)->∀d i,(d,i)∉l->((l.map fun (p:Nat×Nat)=>(p.1,p.2,((s0.look p.1 p.2).1,Ob.dead))).foldl St.up s).look d i=s.look d i:=by
 intro l
 induction l with
 | nil=>intro s s0 _ d i _;rfl
 | cons p l ih=>
  intro s s0 hb d i hd;simp only[yHL,yHG];rw[ih _ _ (fun q hq hq2=>by rw[St.up_oslen];exact hb q (by simp[hq]) (by simpa using hq2)) d i (fun hm=>hd (by simp[hm]))];rw[St.look_up _ _ (hb p (by simp)),if_neg];rintro ⟨e1,e2⟩;exact hd (by rw[e1,e2];simp)
end
end Go.Ab
/- Maps whose keys are arrays of numbers. -/
namespace Go.Ab
open Go
theorem sW {w:World} {B:Nat} {o o':Obj} (hb:w.heap[B]?=some o):Turned w (w.putObj B o') B o':=
 ⟨World.putObj_heap_same (yU hb),fun b hne=>World.putObj_heap_other hne,World.putObj_size,⟨rfl,rfl,rfl⟩⟩
section
variable {P:Program} {G:Nat->Option (List AV)} {prot:Nat->Prop} {w0:World} {E0 E E':GE} {w:World} {s:St} {a:Act}
def zIC (E:GE):Option AV->Option (Nat×Value)->Prop
 | none,r=>r=none
 | some u,r=>∃j x,r=some (j,x)/\Rel E u x
theorem gF {t:TypeId} {n:Nat} {l m:List AV} {b:Bool} {v v':Value} (hk:eqk P t= .arr n) (hr:Rel E (.agg l) v) (hr':Rel E (.agg m) v') (h1:l.length=n) (h2:m.length=n) (hb:yP l m=some b):(Op.equal t v v').run P w= .ok b w:=by
 obtain ⟨el,k,i,hu,hk,hi,hs⟩:=jS hk;obtain ⟨us,e1,hl1,hc1⟩:=hr.agg_inv;obtain ⟨us',e2,hl2,hc2⟩:=hr'.agg_inv;rw[e1,e2];have hce:P.cellsOf el=1:=by simp[Program.cellsOf,hi,hs]
 have hitems:=tY (P:=P) (E:=E) (w:=w) 9998 hk us us' 0 hb (fun i c u hc hu'=>hc1 i c u hc (by simpa using hu')) (fun i c u hc hu'=>hc2 i c u hc (by simpa using hu')) (by omega) (by omega)
 show (Op.equalIn 10000 t (.agg us.toArray) (.agg us'.toArray)).run P w= .ok b w
 rw[run_equalIn_array w 9999 _ _ hu hi,hce,List.range_eq_range',<-h1];exact hitems
theorem gO {t:TypeId} {n:Nat} {l:List AV} {v:Value} (hk:eqk P t= .arr n) (hr:Rel E (.agg l) v) (h1:l.length=n) (em:Bool):(Instr.checkKey em 10000 t v).run P w= .ok () w:=by
 obtain ⟨el,k,i,hu,hk,hi,hs⟩:=jS hk;obtain ⟨us,e1,hl1,hc1⟩:=hr.agg_inv;rw[e1];rw[show 10000=9998+1+1 from rfl,Instr.checkKey];simp only[yGT,run_underlying hu,yGV];simp only[Std.Legacy.Range.forIn_eq_forIn_range',Std.Legacy.Range.size,Nat.sub_zero,yJR,Nat.div_one];have hall:∀j∈List.range' 0 n,∃u,us.toArray[j]?=some u:=by
  intro j hj;have:j < us.length:=by have:=List.mem_range'.1 hj;omega
  exact ⟨us[j],by simp[this]⟩
 have hce:P.cellsOf el=1:=by simp[Program.cellsOf,hi,hs]
 generalize List.range' 0 n=is at hall;have hns:(isAgg el).run P w= .ok false w:=by simp[isAgg,run_underlying hk,yGT,Result.andThen]
 induction is with
 | nil=>simp
 | cons j is ih=>
  obtain ⟨u,hu'⟩:=hall j (by simp);have p1:(Go.part el us.toArray (j*P.cellsOf el)).run P w= .ok u w:=by
   rw[hce,Nat.mul_one];simp only[Go.part,yGT,hns,yGV,yHI,if_false,hu',yGX]
  have p2:(Instr.checkKey em (9998+1) el u).run P w= .ok () w:=by
   rw[Instr.checkKey];simp[yGT,run_underlying hk,Result.andThen]
  simp only[List.forIn_cons,yGT,run_sizeOf w hi,yGV,p1,p2,yGX];exact ih (fun y hy=>hall y (by simp[hy]))
theorem tP {t:TypeId} {n:Nat} {kk:List AV} {v:Value} (hk:eqk P t= .arr n) (hn0:n≠0) (hr:Rel E (.agg kk) v) (h1:kk.length=n):∀(es:List (AV×AV)) (ents:List MapEntry) (i:Nat) {o:Option AV},wZ n kk es=some o->ents.length=es.length->
  (∀(j:Nat) p m,es[j]?=some p->ents[j]?=some m->Rel E p.1 m.key/\Rel E' p.2 m.val)->∃res,(Instr.findAsking t v ents i).run P w= .ok res w/\zIC E' o res
 | [],ents,i,o,h,hl,_=>by
  obtain rfl:ents= []:=yJK.1 hl;simp only[wZ,Option.some.injEq] at h;subst h;exact ⟨none,rfl,rfl⟩
 | (p,u)::es,[],i,o,h,hl,_=>by simp at hl
 | (p,u)::es,m::ents,i,o,h,hl,hrel=>by
  cases p with
  | agg l=>
   simp only[wZ,keyC] at h;by_cases hln0:l.length=n/\n≠0
   ·have hln:=hln0.1;rw[if_pos hln0] at h;simp only[] at h;obtain ⟨r1,r2⟩:=hrel 0 _ _ rfl rfl;split at h
    ·rename_i hc;injection h with h;subst h;have he:=gF (w:=w) hk hr r1 h1 hln hc;exact ⟨some (i,m.val),by simp only[Instr.findAsking,yGT,he,yGV,if_true,yGX],i,m.val,rfl,r2⟩
    ·rename_i hc;have he:=gF (w:=w) hk hr r1 h1 hln hc;obtain ⟨res,q1,q2⟩:=tP hk hn0 hr h1 es ents (i+1) h (by simpa using hl) (fun j p m hp hm=>hrel (j+1) p m (by simpa using hp) (by simpa using hm));exact ⟨res,by simp only[Instr.findAsking,yGT,he,yGV,yHI,if_false];exact q1,q2⟩
    ·cases h
   ·rw[if_neg hln0] at h;cases h
  | int k j=>simp only[wZ,keyC,if_neg hn0] at h;cases h
  | _=>simp[wZ,keyC] at h
theorem eG {t:TypeId} {n:Nat} {kk:List AV} {v:Value} (hk:eqk P t= .arr n) (hn0:n≠0) (hr:Rel E (.agg kk) v) (h1:kk.length=n) (es:List (AV×AV)) (ents:List MapEntry) {o:Option AV} (h:wZ n kk es=some o) (hl:ents.length=es.length)
  (hrel:∀(j:Nat) p m,es[j]?=some p->ents[j]?=some m->Rel E p.1 m.key/\Rel E' p.2 m.val):∃res,(Instr.findKey t v ents).run P w= .ok res w/\zIC E' o res:=by
 obtain ⟨el,k,i,hu,_⟩:=jS hk;cases ents with
 | nil=>
  obtain rfl:es= []:=yJK.1 hl.symm;simp only[wZ,Option.some.injEq] at h;subst h;exact ⟨none,by simp[Instr.findKey,yGT,run_underlying hu,Result.andThen,Instr.findNow],rfl⟩
 | cons m ents=>
  obtain ⟨res,q1,q2⟩:=tP (w:=w) hk hn0 hr h1 es (m::ents) 0 h hl hrel;refine ⟨res,?_,q2⟩;simp only[Instr.findKey,yGT,run_underlying hu,yGV,Instr.findNow,Instr.sameNow];exact q1
theorem nC {ik k:IntKind} {j:Int}:∀(es:List (AV×AV)) (ents:List MapEntry) (i:Nat) {o:Option AV},wZ 0 [.int k j] es=some o->ents.length=es.length->
  (∀(j:Nat) p m,es[j]?=some p->ents[j]?=some m->Rel E p.1 m.key/\Rel E' p.2 m.val)->∃res,Instr.findNow (.int ik) (.int k j) ents i=some res/\zIC E' o res
 | [],ents,i,o,h,hl,_=>by
  obtain rfl:ents= []:=yJK.1 hl;simp only[wZ,Option.some.injEq] at h;subst h;exact ⟨none,rfl,rfl⟩
 | (p,u)::es,[],i,o,h,hl,_=>by simp at hl
 | (p,u)::es,m::ents,i,o,h,hl,hrel=>by
  obtain ⟨r1,r2⟩:=hrel 0 _ _ rfl rfl;have ih:=fun {o} (h:wZ 0 [.int k j] es=some o)=>nC (ik:=ik) (k:=k) (j:=j) es ents (i+1) (o:=o) h (by simpa using hl) (fun j p m hp hm=>hrel (j+1) p m (by simpa using hp) (by simpa using hm));cases p with
  | int k' i'=>
   have hmk:=r1.int_inv;simp only[wZ,keyC,if_true,yP] at h;by_cases e1:k=k'
   ·subst e1;by_cases e2:j=i'
    ·subst e2;simp only[if_true,Option.some.injEq] at h;subst h;exact ⟨some (i,m.val),by simp[Instr.findNow,Instr.sameNow,hmk],i,m.val,rfl,r2⟩
    ·simp only[if_true,e2,if_false] at h;obtain ⟨res,q1,q2⟩:=ih h;exact ⟨res,by simp[Instr.findNow,Instr.sameNow,hmk,q1,beq_false_of_ne e2],q2⟩
   ·simp only[e1,if_false] at h;cases h
  | agg l=>simp[wZ,keyC] at h
  | _=>simp[wZ,keyC] at h
def KeyT (P:Program) (t:TypeId) (n:Nat):Prop:=(eqk P t= .arr n/\n≠0)\/(n=0/\∃ik,P.underlying t=some (.int ik))
theorem oX {t:TypeId} {n:Nat} (h:keyN P t=some n):KeyT P t n:=by
 unfold keyN at h;split at h
 ·rename_i m hm;split at h
  ·cases h
  ·injection h with h;subst h;exact .inl ⟨hm,by assumption⟩
 ·split at h
  ·rename_i ik hu;injection h with h;subst h;exact .inr ⟨rfl,ik,hu⟩
  ·cases h
theorem qY {t:TypeId} {n:Nat} {a:AV} {kk:List AV} {v:Value} (hk:KeyT P t n) (hr:Rel E a v) (hc:keyC n a=some kk) (em:Bool):(Instr.checkKey em 10000 t v).run P w= .ok () w:=by
 rcases hk with ⟨hk,hn⟩ | ⟨rfl,ik,hu⟩
 ·cases a with
  | agg l=>
   simp only[keyC] at hc;by_cases hl:l.length=n/\n≠0
   ·exact gO hk hr hl.1 em
   ·rw[if_neg hl] at hc;cases hc
  | int k j=>simp only[keyC,if_neg hn] at hc;cases hc
  | _=>simp[keyC] at hc
 ·rw[show 10000=9999+1 from rfl,Instr.checkKey];simp[run_underlying hu,yGT,Result.andThen]
theorem nD {t:TypeId} {n:Nat} {a:AV} {kk:List AV} {v:Value} (hk:KeyT P t n) (hr:Rel E a v) (hc:keyC n a=some kk) (es:List (AV×AV)) (ents:List MapEntry) {o:Option AV} (h:wZ n kk es=some o) (hl:ents.length=es.length)
  (hrel:∀(j:Nat) p m,es[j]?=some p->ents[j]?=some m->Rel E p.1 m.key/\Rel E' p.2 m.val):∃res,(Instr.findKey t v ents).run P w= .ok res w/\zIC E' o res:=by
 rcases hk with ⟨hk,hn⟩ | ⟨rfl,ik,hu⟩
 ·cases a with
  | agg l=>
   simp only[keyC] at hc;by_cases hl0:l.length=n/\n≠0
   ·rw[if_pos hl0] at hc;injection hc with hc;subst hc;exact eG hk hn hr hl0.1 es ents h hl hrel
   ·rw[if_neg hl0] at hc;cases hc
  | int k j=>simp only[keyC,if_neg hn] at hc;cases hc
  | _=>simp[keyC] at hc
 ·cases a with
  | int k j=>
   simp only[keyC,if_true,Option.some.injEq] at hc;subst hc;have hv:=hr.int_inv;subst hv;obtain ⟨res,q1,q2⟩:=nC (ik:=ik) es ents 0 h hl hrel;exact ⟨res,by simp[Instr.findKey,yGT,run_underlying hu,Result.andThen,q1],q2⟩
  | agg l=>simp[keyC] at hc
  | _=>simp[keyC] at hc
theorem zGD {n:Nat} {a:AV} {kk:List AV} {v:Value} {imm} (hc:keyC n a=some kk) (hp:kk.all AV.plain1=true) (hr:Rel E a v) (hi:E.imm=imm):RelI imm a v:=by
 subst hi;cases a with
 | agg l=>
  simp only[keyC] at hc;split at hc
  ·injection hc with hc;subst hc;obtain ⟨us,e1,hl1,hc1⟩:=hr.agg_inv;rw[e1];refine .agg _ _ hl1 fun i c u hc hu=> ?_;have hp1:=(yHB.1 hp) c (zP hc);have hr1:=hc1 i c u hc hu;cases c with
   | bool b=>cases hr1 with | imm _ _ h=>cases h;exact .bool _
   | int k n=>cases hr1 with | imm _ _ h=>cases h;exact .int _ _
   | _=>cases hp1
  ·cases hc
 | int k j=>cases hr with | imm _ _ h=>exact h
 | _=>simp[keyC] at hc
theorem Rel.mp_inv {v:Value} {d i g} (h:Rel E (.mp d i g) v):∃B,E.loc d i g=some B/\v= .map (some B):=by
 cases h with
 | imm _ _ h=>cases h
 | mp _ _ _ B hb=>exact ⟨B,hb,rfl⟩
theorem zIQ (h:Ok G prot w0 E0 E w s a.tmps) {d i g B es} (hlk:s.look d i=(g,.mp es)) (hb:E.loc d i g=some B):
  Live E s d i B/\∃ents clk,w.heap[B]?=some (.map ents clk)/\ents.size=es.length/\∀(j:Nat) p m,es[j]?=some p->ents[j]?=some m->RelI E.imm p.1 m.key/\Rel (E.to d) p.2 m.val:=by
 have hl:Live E s d i B:=⟨by rw[hlk];simp,by rw[hlk];exact hb⟩;obtain ⟨B',h1,h2,_,_⟩:=h.objs d i hl.1;have:B'=B:=by have:=hl.2;rw[h1] at this;exact Option.some.inj this
 subst this;rw[hlk] at h2;exact ⟨hl,h2⟩
theorem aK (h:Ok G prot w0 E0 E w s a.tmps) (dst:Option Nat) {t e} (he:opf s dst .mkmap=some e):
  Done G prot w0 E0 E s a dst e ((do pure (Next.value (<-Instr.makeMap t none)):Sem Next).run P w):=by
 simp only[opf] at he;split at he
 ·rename_i d;split at he
  ·rename_i e0 he0;injection he with he;subst he;have hrun:(Instr.makeMap t none).run P w= .ok (.map (some w.heap.size)) (w.alloc (.map #[] 0)):=by
    simp[Instr.makeMap,yGT,run_newObj_alloc,Result.andThen]
   rw[yB _ hrun];obtain ⟨o1,hf,hb⟩:=h.push (.map #[] 0) (w':=w.alloc (.map #[] 0)) rfl;have hsz:w.heap.size < (w.alloc (.map #[] 0)).heap.size:=by
    have:=yU hb;exact this
   obtain ⟨o2,hle⟩:=o1.newobj hf hsz he0 (o:= .mp []) (by simp) ⟨#[],0,hb,rfl,by simp⟩ (by simp) 0 (fun _ _ _ _=>yHM _);refine ⟨_,_,_,_,rfl,.inl rfl,GE.leD_addLoc hle,?_⟩;simp only[St.app,yGZ,yHG];exact o2.putd (some d) (.mp _ _ _ _ (by simp[GE.addLoc])) trivial
  ·cases he
 ·cases he
theorem pW {u:AV} (h:u.still2=true):u.dull:=by
 cases u with
 | sl z xs t=>cases t<;>first | trivial | cases h
 | _=>first | trivial | cases h
theorem fR {u:AV} {v:Value} (h:u.still2=true) (hr:Rel E u v):RelI E.imm u v:=by
 cases u with
 | bool b=>cases hr with | imm _ _ h=>exact h
 | int k n=>cases hr with | imm _ _ h=>exact h
 | sl z xs t=>cases hr with | imm _ _ h=>exact h
 | _=>cases h
theorem dO {u:AV} {b:Bool} (h:u.dull):(AV.tup [u,.bool b]).dull:=by
 intro c hc;simp only[yHW,List.mem_nil_iff,or_false] at hc;rcases hc with rfl | rfl
 ·exact h.d1
 ·trivial
theorem bO {el:TypeId} {z:AV} (hz:zFE P el=some z):∃inf v0,P.info? el=some inf/\inf.zero=some v0/\(∀imm,RelI imm z v0)/\z.dull:=by
 unfold zFE at hz;split at hz
 ·rename_i ti hti;obtain ⟨inf,i1,_,_,_,i5⟩:=z8 hti;split at hz
  ·rename_i k n hzz;injection hz with hz;subst hz;exact ⟨inf,_,i1,i5.trans hzz,fun _=> .int _ _,trivial⟩
  ·rename_i b hzz;injection hz with hz;subst hz;exact ⟨inf,_,i1,i5.trans hzz,fun _=> .bool _,trivial⟩
  ·rename_i hzz;injection hz with hz;subst hz;exact ⟨inf,_,i1,i5.trans hzz,fun _=> .slE _ _ _ _ (fun _=>rfl) (fun _=>rfl),trivial⟩
  ·cases hz
 ·cases hz
theorem aJ (h:Ok G prot w0 E0 E w s a.tmps) (dst:Option Nat) {t kt el x k xo ko n z cok e} (hu:P.underlying t=some (.map kt el)) (hk:KeyT P kt n) (hz:zFE P el=some z) (hx:opd P G t x=some xo) (hko:opd P G kt k=some ko)
  (he:opf s dst (.mlook n cok z xo ko)=some e):
  Done G prot w0 E0 E s a dst e ((do pure (Next.value (<-Instr.lookup t (a.eval x) (a.eval k) cok)):Sem Next).run P w):=by
 have hrx:=h.ev (s:=s) hx;have hrk:=h.ev (s:=s) hko;simp only[opf] at he;split at he
 ·rename_i d i g kk h1 h2;split at he
  ·rename_i g' es hlk;split at he
   ·rename_i hc;subst hc;rw[h1] at hrx;obtain ⟨B,hB,hxv⟩:=hrx.mp_inv;obtain ⟨hl,ents,clk,q1,q2,q3⟩:=zIQ h hlk hB;have hck:=qY (w:=w) hk hrk h2 ents.isEmpty;obtain ⟨inf,v0,i1,i2,i3,hzp⟩:=bO hz;have hkey:∀(r:Result Value),r=(do
      let (v,ok)<-match<-Instr.findKey kt (a.eval k) ents.toList with
       | some (_,v)=>pure (v,true)
       | none=>pure (<-zeroValue el,false)
      pure (if cok then .tuple #[v,.bool ok] else v):Sem Value).run P w->(Instr.lookup t (a.eval x) (a.eval k) cok).run P w=r:=by
     intro r hr;rw[hr,hxv];simp only[Instr.lookup,yGT,run_underlying hu,yGV,MapKept.run_getObj_map q1,yGX,hck];rfl
    have hfk:=fun {o} (hm:wZ n kk es=some o)=>nD (w:=w) (E':=E) hk hrk h2 es ents.toList hm (by simpa using q2) (fun j p m hp hm'=>by
     obtain ⟨r1,r2⟩:=q3 j p m hp (by simpa using hm');exact ⟨.imm _ _ r1,r2.mono (GE.to_le _ _)⟩)
    split at he
    ·rename_i v hm;split at he
     ·rename_i hvp;injection he with he;subst he;obtain ⟨res,f1,j,xv,rfl,f2⟩:=hfk hm;have hrun:=hkey _ rfl;simp only[yGT,f1,yGV,yGX] at hrun;rw[yB _ hrun];refine zO h dst ?_ ?_
      ·cases cok
       ·exact f2
       ·exact .tup [v,.bool true] [xv,.bool true] rfl fun i c u hc hu=>by
         rcases i with _ | _ | i
         ·simp at hc hu;subst hc;subst hu;exact f2
         ·simp at hc hu;subst hc;subst hu;exact .imm _ _ (.bool _)
         ·simp at hc
      ·cases cok
       ·exact pW hvp
       ·exact dO (pW hvp)
     ·cases he
    ·rename_i hm;injection he with he;subst he;obtain ⟨res,f1,f2⟩:=hfk hm;obtain rfl:res=none:=f2;have hrun:=hkey _ rfl;simp only[yGT,f1,yGV,yGX,yZ i1 i2] at hrun;rw[yB _ hrun];refine zO h dst ?_ ?_
     ·cases cok
      ·exact .imm _ _ (i3 _)
      ·exact .tup [z,.bool false] [v0,.bool false] rfl fun i c u hc hu=>by
        rcases i with _ | _ | i
        ·simp at hc hu;subst hc;subst hu;exact .imm _ _ (i3 _)
        ·simp at hc hu;subst hc;subst hu;exact .imm _ _ (.bool _)
        ·simp at hc
     ·cases cok
      ·exact hzp
      ·exact dO hzp
    ·cases he
   ·cases he
  ·cases he
 ·cases he
theorem gH (h:Ok G prot w0 E0 E w s a.tmps) (dst:Option Nat) {t kt el x k v xo ko vo n e} (hu:P.underlying t=some (.map kt el)) (hk:KeyT P kt n) (hx:opd P G t x=some xo) (hko:opd P G kt k=some ko) (hv:opd P G el v=some vo)
  (he:opf s dst (.mupd n xo ko vo)=some e):
  Done G prot w0 E0 E s a dst e ((do Instr.mapUpdate t (a.eval x) (a.eval k) (a.eval v);pure Next.skip:Sem Next).run P w):=by
 have hrx:=h.ev (s:=s) hx;have hrk:=h.ev (s:=s) hko;have hrv:=h.ev (s:=s) hv;simp only[opf] at he;split at he
 ·rename_i d i g kk h1 h2;split at he
  ·rename_i g' es hlk;split at he
   ·rename_i hc;obtain ⟨rfl,hkp,hvp⟩:=hc;split at he
    ·rename_i hm;injection he with he;subst he;rw[h1] at hrx;obtain ⟨B,hB,hxv⟩:=hrx.mp_inv;obtain ⟨hl,ents,clk,q1,q2,q3⟩:=zIQ h hlk hB;have hck:=qY (w:=w) hk hrk h2 false;obtain ⟨res,f1,f2⟩:=nD (w:=w) (E':=E) hk hrk h2 es ents.toList hm (by simpa using q2) (fun j p m hp hm'=>by
      obtain ⟨r1,r2⟩:=q3 j p m hp (by simpa using hm');exact ⟨.imm _ _ r1,r2.mono (GE.to_le _ _)⟩)
     obtain rfl:res=none:=f2;have hT:=sW (o':= .map (ents.push {key:=a.eval k,val:=a.eval v,born:=clk}) (clk+1)) q1;have hrun:(Instr.mapUpdate t (a.eval x) (a.eval k) (a.eval v)).run P w= .ok () (w.putObj B (.map (ents.push {key:=a.eval k,val:=a.eval v,born:=clk}) (clk+1))):=by
      rw[hxv];simp only[Instr.mapUpdate,yGT,run_underlying hu,yGV,MapKept.run_getObj_map q1,yGX,hck,f1];rw[MapKept.run_setObj_map _ q1];rfl
     have hki:RelI E.imm (s.ev ko) (a.eval k):=zGD h2 hkp hrk rfl;have hvi:RelI E.imm (s.ev vo) (a.eval v):=fR hvp hrv;have o2:=h.setobj hl hT (o:= .mp (es++[(s.ev ko,s.ev vo)])) (by simp) ⟨_,_,hT.here,by simp[q2],fun j p m hp hm'=>by
      by_cases hj:j < es.length
      ·rw[yIB hj] at hp;rw[yIX,if_neg (by omega)] at hm';exact q3 j p m hp hm'
      ·have hj':j=es.length:=by
        have:=(yGW.1 hp).1;simp at this;omega
       subst hj';rw[yIG (yHH _)] at hp;rw[yIX,if_pos q2.symm] at hm';simp at hp hm';subst hp;subst hm';exact ⟨hki,.imm _ _ hvi⟩⟩ (by simp) (by simp)
     rw[hlk] at o2;refine ⟨.skip,undef,w.putObj B (.map (ents.push {key:=a.eval k,val:=a.eval v,born:=clk}) (clk+1)),E,?_,.inr ⟨rfl,rfl⟩,GE.leD_refl _ _,?_⟩
     ·simp only[yGT,hrun,yGV,yGX]
     ·simp only[St.app,yGZ,yHG];exact o2.putd dst mD lV
    ·cases he
   ·cases he
  ·cases he
 ·cases he
end
end Go.Ab
/- copy. -/
namespace Go.Ab
open Go
section
variable {P:Program} {G:Nat->Option (List AV)} {prot:Nat->Prop} {w0:World} {E0 E:GE} {w:World} {s:St} {a:Act}
theorem pE (h:Ok G prot w0 E0 E w s a.tmps) {z y ys l v} (m:Nat) (he:zX s z y=some (ys,l)) (hr:Rel E y v):
  ∃base cap,v= .slice base ys.length cap/\(∀x∈ys,x.cells.length=z)/\∃f:Nat->Value,(∀(i:Nat) c,(yC (ys.take m))[i]?=some c->RelI E.imm c (f i))/\(∀i,i < (ys.take m).length*z->(f i).oneCell'=true)/\
   (Builtin.firstCells z (ys.take m).length (.slice base ys.length cap)).run P w= .ok ((yGU ((ys.take m).length*z)).map f).toArray w:=by
 obtain ⟨yb,ycap,hvy,hycap,hyz,hyf⟩:=nJ h he hr;have hz':∀x∈ys.take m,x.cells.length=z:=fun x hx=>hyz x (yIC hx);have hfly:=zU hz';refine ⟨yb,ycap,hvy,hyz,?_⟩;by_cases h0:ys= []
 ·subst h0;refine ⟨fun _=>undef,by simp[yC],by simp,?_⟩;cases yb with
  | none=>simp[Builtin.firstCells]
  | some ad=>simp only[Builtin.firstCells,List.take_nil,yIU,yIF];exact run_loadCells w ad 0 _ (by simp)
 ·obtain ⟨b,o,f,k1,k2,k3⟩:=hyf h0;have hlt:∀i,i < (ys.take m).length*z->i < (yC ys).length:=by
   intro i hi;have:(yC (ys.take m))[i]?=some ((yC (ys.take m))[i]'(by omega)):=yGY _;exact (yGW.1 (w9 this)).1
  refine ⟨f,fun i c hc=>k2 i c (w9 hc),fun i hi=>(k3 i (hlt i hi)).2,?_⟩;subst k1;unfold Builtin.firstCells;exact run_loadCells w _ _ f (fun j hj=>by rw[yW];exact (k3 j (hlt j hj)).1)
set_option maxHeartbeats 1000000 in
theorem zCS (h:Ok G prot w0 E0 E w s a.tmps) (dst:Option Nat) {t u el x y xo yo ti ty e} (hu:P.underlying t=some (.slice el)) (ht:tinf P el=some ti)
  (hx:opd P G t x=some xo) (hy:opd P G u y=some yo) (he:opf s dst (.copy ti.size xo yo)=some e):
  Done G prot w0 E0 E s a dst e ((do pure (Next.value (<-Builtin.copy_ #[t,u] ty #[a.eval x,a.eval y])):Sem Next).run P w):=by
 obtain ⟨inf,hi,_,hs,_,_⟩:=z8 ht;have hrx:=h.ev (s:=s) hx;have hry:=h.ev (s:=s) hy;simp only[opf] at he;split at he
 ·rename_i d i g off len z' ea ys r hxe hye;rw[hxe] at hrx;obtain ⟨B,cap,hb,hcap,hro,hxv⟩:=hrx.own_inv';obtain ⟨yb,ycap,hvy,hyz,f,hf1,hf2,hf3⟩:=pE (P:=P) h len hye hry;split at he
  ·rename_i g' cs hlk;split at he
   ·rename_i hc;obtain ⟨rfl,rfl,hle,hok⟩:=hc;injection he with he;subst he;obtain ⟨hlive,⟨arr,el2,hB,hsz,hone,hcr⟩,himm,hnp⟩:=wH h hlk (by simp) hb;have hzz:∀x∈ys.take len,x.cells.length=ti.size:=fun x hx=>hyz x (yIC hx);have hfl:=zU hzz;generalize hzs:ys.take len=zs at hf1 hf2 hf3 hfl hzz hok;have hzl:zs.length<=len:=by rw[<-hzs];simp;omega
    have hmin:Nat.min ys.length len=zs.length:=by rw[<-hzs,yII];exact Nat.min_comm _ _
    generalize hL:(yGU (zs.length*ti.size)).map f=L at hf3;have hLl:L.length=zs.length*ti.size:=by rw[<-hL];simp
    have hLg:∀j,j < zs.length*ti.size->L[j]?=some (f j):=by intro j hj;rw[<-hL];simp[hj]
    have hmul:zs.length*ti.size<=len*ti.size:=yHY _ hzl;have hLone:∀v∈L,v.oneCell'=true:=by
     intro v hv;rw[<-hL] at hv;obtain ⟨j,hj,rfl⟩:=yHJ.1 hv;exact hf2 j (by simpa using hj)
    have hst:=run_storeCells_at P B off el2 L 0 arr w hB (by rw[hLl];omega) hLone;have hrun:(Builtin.copy_ #[t,u] ty #[a.eval x,a.eval y]).run P w= .ok (goInt zs.length) (w.setRow B (arr.toList.take (off+0)++L++arr.toList.drop (off+0+L.length)).toArray):=by
     unfold Builtin.copy_;rw[hxv,hvy];have hoff:({block:=B,off:=off,spot:=none}:Addr)=⟨B,off+0,none⟩:=rfl;simp only[yHA,yHZ,yHS,yGT,run_underlying hu,yGV,run_sizeOf w hi,Program.cellsOf,hi,yHE,yHF,
      yGX,Builtin.lenOf,hmin,<-hs] at hf3|-
     rw[hf3];simp only[yGV,yGT];first
      | (rw[hst];simp only[yGV,yGX])
      | (simp only[hst,yGV,yGX])
    rw[yB _ hrun];have hT:Turned w (w.setRow B (arr.toList.take (off+0)++L++arr.toList.drop (off+0+L.length)).toArray) B
      (.cells (arr.toList.take (off+0)++L++arr.toList.drop (off+0+L.length)).toArray el2 (0,0)):=xU hB
    simp only[yIK] at hT|-;generalize harr':(arr.toList.take off++L++arr.toList.drop (off+L.length))=l' at hT|-;have hl'get:∀j,l'[j]?=if off<=j/\j < off+L.length then L[j - off]? else arr.toList[j]?:=by
     intro j;rw[<-harr'];exact pJ (by rw[hLl];simp;omega) j
    have hl'len:l'.length=arr.size:=by
     rw[<-harr'];simp only[yHO,yII,yJA,hLl,Array.length_toList];omega
    have hNl:(newC zs).length=L.length:=by rw[vV,hfl,hLl]
    have hcget:∀j,(putC cs off (newC zs))[j]?=if off<=j/\j < off+(newC zs).length then (newC zs)[j - off]? else cs[j]?:=
     fun j=>k9 (by rw[hNl,hLl];omega) j
    have hone':∀(j:Nat) (v:Value),l'.toArray[j]?=some v->v.oneCell'=true:=by
     intro j v hj;simp only[yHA,hl'get] at hj;split at hj
     ·exact hLone v (zP hj)
     ·exact hone j v (by simpa using hj)
    have hat:obAt E (w.setRow B l'.toArray) d B (.cells (putC cs off (newC zs))):=by
     refine ⟨l'.toArray,el2,hT.here,?_,hone',?_⟩
     ·simp only[yHV,hl'len,putC,yHO,yII,yJA,hNl,hLl];omega
     ·intro j c v hc hv;rw[hcget,hNl] at hc;simp only[yHA,hl'get] at hv;split at hc
      ·rename_i hj;rw[if_pos hj] at hv;obtain ⟨c0,q1,rfl⟩:=vW hc;rw[hLg _ (by rw[hLl] at hj;omega)] at hv;injection hv with hv;subst hv;exact .imm _ _ (hf1 _ c0 q1).strip1
      ·rename_i hj;rw[if_neg hj] at hv;exact hcr j c v hc (by simpa using hv)
    have h2:=h.setobj hlive hT (by simp) hat (fun cs' e arr' el' hb' j z xs ad cap hc hv hlt=>by
     injection e with e;subst e;rw[hT.here] at hb';injection hb' with hb';injection hb' with hb' _ _;subst hb';rw[hcget,hNl] at hc;simp only[yHA,hl'get] at hv;split at hc
     ·obtain ⟨c0,q1,q2⟩:=vW hc;exact absurd q2.symm (wP _)
     ·rename_i hj;rw[if_neg hj] at hv;exact .inl (.o d i j _ cs z xs B arr el2 ad cap hlk hc hb hB (by simpa using hv) hlt)) (fun arr' el' fz' e=>by
     injection e with e1 _ _;subst e1;simp only[yHV,hl'len];exact h.rooms _ _ _ _ hb _ _ _ hB)
    rw[hlk] at h2;refine ⟨_,_,_,E,rfl,.inl rfl,GE.leD_refl _ _,?_⟩;simp only[St.app,yHG,yGZ];refine h2.putd dst ?_ trivial;exact .imm _ _ (.int _ _)
   ·cases he
  ·cases he
 ·cases he
end
end Go.Ab
/- Each compiled operation that is no call does what its effect says. -/
namespace Go.Ab
open Go
section
variable {P:Program} {G:Nat->Option (List AV)} {L:xA} {prot:Nat->Prop} {w0:World} {E0 E:GE} {w:World} {s:St} {a:Act}
theorem map_some {α β:Type} {f:α->β} {o:Option α} {b:β} (h:o.map f=some b):∃x,o=some x/\f x=b:=by
 rw[yHC] at h;exact h
theorem zLF (h:Ok G prot w0 E0 E w s a.tmps) {ops:Array Oper} {o:Oper} {ao:AOp} (hc:yL P G L ops o=some ao) {e:Eff} (he:opf s o.dst ao=some e):
  Done G prot w0 E0 E s a o.dst e ((execOp a.eval o).run P w):=by
 unfold yL at hc;split at hc
 ·rename_i x hop;obtain ⟨xo,hx,rfl⟩:=map_some hc;simp only[execOp,hop];exact cT h o.dst hx he
 ·rename_i x hop;obtain ⟨xo,hx,rfl⟩:=map_some hc;simp only[execOp,hop];exact cT h o.dst hx he
 ·rename_i c x y hop;split at hc
  ·rename_i c' x' y' h1 h2 h3;injection hc with hc;subst hc;simp only[execOp,hop];exact zCM h o.dst h1 h2 h3 he
  ·cases hc
 ·rename_i el hop;obtain ⟨z,hz,rfl⟩:=map_some hc;simp only[execOp,hop];exact aN h o.dst hz he
 ·rename_i el x hop;split at hc
  ·rename_i i xo h1 h2;injection hc with hc;subst hc;simp only[execOp,hop];exact zGQ h o.dst h2 he
  ·cases hc
 ·rename_i t ps hop;split at hc
  ·rename_i i fs z hi hz;split at hc
   ·rename_i hf;obtain ⟨qs,hq,rfl⟩:=map_some hc;obtain ⟨inf,_,hu,_,_,_⟩:=z8 hi;simp only[execOp,hop];exact eO h o.dst hu hz hf hq he
   ·cases hc
  ·rename_i i n el z hi hz;split at hc
   ·rename_i hf;obtain ⟨qs,hq,rfl⟩:=map_some hc;obtain ⟨inf,_,hu,_,_,_⟩:=z8 hi;simp only[execOp,hop];exact eP h o.dst hu hz hf hq he
   ·cases hc
  ·cases hc
 ·rename_i t n ps hop;split at hc
  ·rename_i i el hi;obtain ⟨inf,_,hu,_,_,_⟩:=z8 hi;split at hc
   ·rename_i ti qs ht hq;split at hc
    ·rename_i hcond;obtain ⟨c1,c2,c3,c4⟩:=hcond;obtain ⟨z,hz⟩:=yIT.1 c4;injection hc with hc;subst hc;simp only[execOp,hop];exact eQ h o.dst hu ht hz hq c1 c2 c3 he
    ·cases hc
   ·cases hc
  ·cases hc
 ·rename_i t x hop;split at hc
  ·rename_i i xo hi hx;split at hc
   ·rename_i hcond;injection hc with hc;subst hc;simp only[execOp,hop];exact gJ h o.dst hi hcond hx he
   ·cases hc
  ·cases hc
 ·rename_i t p x hop;split at hc
  ·rename_i i po xo hi hp hx;injection hc with hc;subst hc;simp only[execOp,hop];exact aH h o.dst hi hp hx he
  ·cases hc
 ·rename_i x hop;obtain ⟨xo,hx,rfl⟩:=map_some hc;exact eJ h o.dst o hop hx he
 ·rename_i op t x y u hop;split at hc
  ·rename_i hcond;obtain ⟨xo,hx,rfl⟩:=map_some hc;simp only[yIP,beq_iff_eq] at hcond;obtain ⟨⟨c1,c2⟩,rfl⟩:=hcond;simp only[execOp,hop];exact aL h o.dst hx c1 c2 he
  split at hc
  ·rename_i xo yo hx hy;injection hc with hc;subst hc;simp only[execOp,hop];exact zGR h o.dst hx hy he
  ·cases hc
 ·rename_i op t x hop;obtain ⟨xo,hx,rfl⟩:=map_some hc;simp only[execOp,hop];exact zMG h o.dst hx he
 ·rename_i src dt x hop;split at hc
  ·rename_i k' k xo hs hd hx;injection hc with hc;subst hc;simp only[execOp,hop];exact zCT h o.dst hs hd hx he
  ·cases hc
 ·rename_i t x fi hop;split at hc
  ·rename_i fs xo hu hx;split at hc
   ·rename_i fd hf;split at hc
    ·rename_i i hi;split at hc
     ·cases hc
     ·rename_i h0;injection hc with hc;subst hc;simp only[execOp,hop];exact aM h o.dst hu hf hi h0 hx he
    ·cases hc
   ·cases hc
  ·cases hc
 ·rename_i t x ix hop;split at hc
  ·rename_i n el xo io hu hx hix;split at hc
   ·rename_i j hj;injection hc with hc;subst hc;simp only[execOp,hop];exact eN h o.dst hu hj hx hix he
   ·cases hc
  ·rename_i el xo io hu hx hix;split at hc
   ·rename_i j hj;injection hc with hc;subst hc;simp only[execOp,hop];exact eM h o.dst hu hj hx hix he
   ·cases hc
  ·cases hc
 ·rename_i x i hop;obtain ⟨xo,hx,rfl⟩:=map_some hc;simp only[execOp,hop];exact zCR h o.dst hx he
 ·rename_i f args ats hop;split at hc
  ·rename_i l hl;split at hc
   ·rename_i f';injection hc with hc;subst hc;split at he<;>simp[opf] at he
   ·obtain ⟨_,_,rfl⟩:=map_some hc;simp[opf] at he
  ·cases hc
 ·rename_i b args ats hop;split at hc
  ·rename_i t x hats hargs;split at hc
   ·rename_i el xo hu hx;injection hc with hc;subst hc;have e1:ats= #[t]:=Array.ext' (by simpa using hats);have e2:args= #[x]:=Array.ext' (by simpa using hargs);subst e1;subst e2;simp only[execOp,hop,resolve,pure_bind,invoke,builtin,yIA,yHL,yHU];exact zGO h o.dst hu hx he
   ·rename_i dir el xo hu hx;injection hc with hc;subst hc;have e1:ats= #[t]:=Array.ext' (by simpa using hats);have e2:args= #[x]:=Array.ext' (by simpa using hargs);subst e1;subst e2;simp only[execOp,hop,resolve,pure_bind,invoke,builtin,yIA,yHL,yHU];exact zCQ h o.dst hu hx he
   ·cases hc
  ·rename_i t u x y hats hargs;split at hc
   ·rename_i el el' xo yo hu hu' hx hy;split at hc
    ·rename_i i z hi hz;split at hc
     ·rename_i hcond;obtain ⟨c1,c2,c3⟩:=hcond;injection hc with hc;subst hc;have e1:ats= #[t,u]:=Array.ext' (by simpa using hats);have e2:args= #[x,y]:=Array.ext' (by simpa using hargs);subst e1;subst e2;simp only[execOp,hop,resolve,pure_bind,invoke,builtin,yIA,yHL,yHU];exact eR h o.dst hu hu' hi hz hx hy c1 c2 c3 he
     ·cases hc
    ·cases hc
   ·cases hc
  ·rename_i t u x y hats hargs;split at hc
   ·rename_i xo yo hx hy;injection hc with hc;subst hc;have e1:ats= #[t,u]:=Array.ext' (by simpa using hats);have e2:args= #[x,y]:=Array.ext' (by simpa using hargs);subst e1;subst e2;simp only[execOp,hop,resolve,pure_bind,invoke,builtin,Builtin.max_,yIA,yHL,yHU,yKC,yKD,bind_pure];have:=zCO h o.dst hx hy he;simpa using this
   ·cases hc
  ·rename_i t u x y hats hargs;split at hc
   ·rename_i xo yo hx hy;injection hc with hc;subst hc;have e1:ats= #[t,u]:=Array.ext' (by simpa using hats);have e2:args= #[x,y]:=Array.ext' (by simpa using hargs);subst e1;subst e2;simp only[execOp,hop,resolve,pure_bind,invoke,builtin,Builtin.min_,yIA,yHL,yHU,yKC,yKD,bind_pure];have:=zCO h o.dst hx hy he;simpa using this
   ·cases hc
  ·rename_i t u x y hats hargs;split at hc
   ·rename_i el xo yo hu hx hy;split at hc
    ·rename_i i hi;injection hc with hc;subst hc;have e1:ats= #[t,u]:=Array.ext' (by simpa using hats);have e2:args= #[x,y]:=Array.ext' (by simpa using hargs);subst e1;subst e2;simp only[execOp,hop,resolve,pure_bind,invoke,builtin,yIA,yHL,yHU];exact zCS h o.dst hu hi hx hy he
    ·cases hc
   ·cases hc
  ·cases hc
 ·rename_i t l c hop;split at hc
  ·rename_i el lo co hu hl hcc;split at hc
   ·rename_i i z hi hz;split at hc
    ·injection hc with hc;subst hc;simp only[execOp,hop];exact gI h o.dst hu hi hz hl hcc he
    ·cases hc
   ·cases hc
  ·cases hc
 ·rename_i t x lo hi hop;split at hc
  ·rename_i el xo lo' hi' hu hx hlo hhi;split at hc
   ·rename_i i hi0;injection hc with hc;subst hc;simp only[execOp,hop];exact aI h o.dst hu hi0 hx hlo hhi he
   ·cases hc
  ·cases hc
 ·rename_i t n hop;split at hc
  ·rename_i dir el no hu hn;split at hc
   ·rename_i i hi;injection hc with hc;subst hc;simp only[execOp,hop];exact eL h o.dst hu hi hn he
   ·cases hc
  ·cases hc
 ·split at hc
  ·injection hc with hc;subst hc;simp[opf] at he
  ·cases hc
 ·split at hc
  ·split at hc
   ·injection hc with hc;subst hc;simp[opf] at he
   ·cases hc
  ·cases hc
 ·rename_i f p cap hop;split at hc
  ·rename_i hp;have hp':p= #[]:=yKE hp;subst hp';obtain ⟨cs,hcs,rfl⟩:=map_some hc;simp only[execOp,hop];have:=zCP h o.dst hcs he;simpa using this
  ·split at hc
   ·rename_i hp;have hp':cap= #[]:=yKE hp;subst hp';obtain ⟨cs,hcs,rfl⟩:=map_some hc;simp only[execOp,hop];have:=eK h o.dst hcs he;simpa using this
   ·cases hc
 ·rename_i t hop;split at hc
  ·injection hc with hc;subst hc;simp only[execOp,hop];exact aK h o.dst he
  ·cases hc
 ·rename_i t x k cok hop;split at hc
  ·rename_i kt el hu;split at hc
   ·rename_i n z xo ko hk hz hx hko;injection hc with hc;subst hc;simp only[execOp,hop];exact aJ h o.dst hu (oX hk) hz hx hko he
   ·cases hc
  ·cases hc
 ·rename_i t x k v hop;split at hc
  ·rename_i kt el hu;split at hc
   ·rename_i n xo ko vo hk hx hko hv;injection hc with hc;subst hc;simp only[execOp,hop];exact gH h o.dst hu (oX hk) hx hko hv he
   ·cases hc
  ·cases hc
 ·rename_i t x k v hop;split at hc
  ·rename_i kt el hu;split at hc
   ·rename_i n xo ko vo hk hx hko hv;injection hc with hc;subst hc;simp only[execOp,hop];exact gH h o.dst hu (oX hk) hx hko hv he
   ·cases hc
  ·cases hc
 ·rename_i t x k hop;split at hc
  ·rename_i xo ko hu hx hko;injection hc with hc;subst hc;simp only[execOp,hop];exact zCL h o.dst hu hx hko he
  ·cases hc
 ·injection hc with hc;subst hc;simp[opf] at he
 ·injection hc with hc;subst hc;simp[opf] at he
 ·cases hc
end
end Go.Ab
/- The other choice of an operation does what its effect says. -/
namespace Go.Ab
open Go
section
variable {P:Program} {G:Nat->Option (List AV)} {L:xA} {prot:Nat->Prop} {w0:World} {E0 E:GE} {w:World} {s:St} {a:Act}
theorem zFY (h:Ok G prot w0 E0 E w s a.tmps) {ops:Array Oper} {o:Oper} {ao:AOp} (hc:yL P G L ops o=some ao) {e:Eff} {slot:Option Nat} (he:opfO s slot ao=some e):
  Done G prot w0 E0 E s a o.dst e ((execOp a.eval o).run P w):=by
 cases ao with
 | mov take x=>
  have:∃gx,(o.op= .move gx\/o.op= .assign gx)/\opd P G o.type gx=some x:=by
   unfold yL at hc
   repeat' (split at hc)
   all_goals first | (cases hc;done) | skip
   all_goals first | (obtain ⟨_,hy,hx⟩:=map_some hc;first | (cases hx;done) | (injection hx with e1 e2;subst e1;subst e2;first | exact ⟨_,.inl (by assumption),hy⟩ | exact ⟨_,.inr (by assumption),hy⟩)) | skip
   all_goals (injection hc with hc;first | (cases hc;done) | skip)
  obtain ⟨gx,hop,hx⟩:=this;rcases hop with hop | hop<;>(simp only[execOp,hop];exact zCN h o.dst hx he)
 | append z bytes x y=>
  have:∃t u gx gy,o.op= .call {callee:= .builtin .append,args:= #[gx,gy],argTypes:= #[t,u]}/\∃el el' i zz,P.underlying t=some (.slice el)/\P.underlying u=some (.slice el')/\opd P G t gx=some x/\opd P G u gy=some y/\
    tinf P el=some i/\xF P el=some zz/\0 < i.size/\0 < i.bytes/\i.bytes<=2^20/\z=i.size/\bytes=i.bytes:=by
   unfold yL at hc;split at hc;all_goals first | (cases hc;done) | (obtain ⟨_,_,hx⟩:=map_some hc;cases hx;done) | skip
   all_goals first | ((repeat' (split at hc))<;>first | (cases hc;done) | (injection hc with hc;cases hc;done) | (obtain ⟨_,_,hx⟩:=map_some hc;cases hx;done);done) | skip
   rename_i b args ats hop;split at hc
   ·(repeat' (split at hc))<;>first | (cases hc;done) | (injection hc with hc;cases hc;done)
   ·rename_i t u x y hats hargs;split at hc
    ·rename_i el el' xo yo hu hu' hx hy;split at hc
     ·rename_i i z hi hz;split at hc
      ·rename_i hcond;obtain ⟨c1,c2,c3⟩:=hcond;injection hc with hc;injection hc with e3 e4 e5 e6;subst e3;subst e4;subst e5;subst e6;have e1:ats= #[t,u]:=Array.ext' (by simpa using hats);have e2:args= #[x,y]:=Array.ext' (by simpa using hargs);subst e1;subst e2;exact ⟨t,u,x,y,hop,el,el',i,z,hu,hu',hx,hy,hi,hz,c1,c2,c3,rfl,rfl⟩
      ·cases hc
     ·cases hc
    ·cases hc
   ·(repeat' (split at hc))<;>first | (cases hc;done) | (injection hc with hc;cases hc;done)
   ·(repeat' (split at hc))<;>first | (cases hc;done) | (injection hc with hc;cases hc;done)
   ·(repeat' (split at hc))<;>first | (cases hc;done) | (injection hc with hc;cases hc;done)
   ·cases hc
  obtain ⟨t,u,gx,gy,hop,el,el',i,zz,hu,hu',hx,hy,hi,hz,c1,c2,c3,rfl,rfl⟩:=this;simp only[execOp,hop,resolve,pure_bind,invoke,builtin,yIA,yHL,yHU];exact gK h o.dst slot hu hu' hi hz hx hy c1 c2 c3 he
 | slice z take x lo hi=>
  have:∃t gx glo ghi el i,o.op= .slice t gx glo ghi none/\P.underlying t=some (.slice el)/\P.info? el=some i/\opd P G t gx=some x/\optO P G glo=some lo/\optO P G ghi=some hi/\z=i.size:=by
   unfold yL at hc
   repeat' (split at hc)
   all_goals first | (cases hc;done) | skip
   all_goals first | (obtain ⟨_,_,hx⟩:=map_some hc;cases hx;done) | skip
   all_goals (injection hc with hc;first | (cases hc;done) | skip)
   all_goals (injection hc with e1 e2 e3 e4 e5;subst e1;subst e2;subst e3;subst e4;subst e5)
   all_goals exact ⟨_,_,_,_,_,_,by assumption,by assumption,by assumption,by assumption,by assumption,by assumption,rfl⟩
  obtain ⟨t,gx,glo,ghi,el,i,hop,hu,hi0,hx,hlo,hhi,rfl⟩:=this;simp only[execOp,hop];exact eI (take:=take) h o.dst hu hi0 hx hlo hhi he
 | load ag n take p=>
  have:∃t gx i,o.op= .load t gx/\tinf P t=some i/\(aggD i.desc || decide (i.size=1))=true/\opd P G 0 gx=some p/\ag=aggD i.desc/\n=i.size:=by
   unfold yL at hc
   repeat' (split at hc)
   all_goals first | (cases hc;done) | skip
   all_goals first | (obtain ⟨_,_,hx⟩:=map_some hc;cases hx;done) | skip
   all_goals (injection hc with hc;first | (cases hc;done) | skip)
   all_goals (injection hc with e1 e2 e3 e4;subst e1;subst e2;subst e4)
   all_goals exact ⟨_,_,_,by assumption,by assumption,by assumption,by assumption,rfl,rfl⟩
  obtain ⟨t,gx,i,hop,hi,hcond,hx,rfl,rfl⟩:=this;simp only[execOp,hop];exact gJ (take:=false) h o.dst hi hcond hx he
 | _=>simp[opfO] at he
end
end Go.Ab
/- New objects at any place. -/
namespace Go.Ab
open Go
section
variable {P:Program} {G:Nat->Option (List AV)} {L:xA} {prot:Nat->Prop} {w0:World} {E0 E:GE} {w:World} {s:St} {a:Act}
theorem wW (h:Ok G prot w0 E0 E w s a.tmps) (dst:Option Nat) {dd d:Nat} {e0:Ent} {cs:List AV} {arr:Array Value} {el:TypeId} {val:AV} {v:Value} (he:xT s dd d=some e0)
  (hsz:arr.size=cs.length) (hone:∀(j:Nat) (v:Value),arr[j]?=some v->v.oneCell'=true)
  (hrel:∀(j:Nat) (c:AV) (v:Value),cs[j]?=some c->arr[j]?=some v->Rel (E.to dd) c v)
  (hn:∀(j:Nat) z xs ad cap,cs[j]?=some (.sl z xs .tip)->arr[j]?=some (.slice (some ad) xs.length cap)->¬xs.length < cap)
  (hval:∀E':GE,E.le E'->E'.loc dd d (e0.1+1)=some w.heap.size->E'.room w.heap.size=arr.size->Rel E' val v) (hd:val.dull):
  Done G prot w0 E0 E s a dst {val:=val,ups:=[(dd,d,(e0.1+1,.cells cs))]} (.ok (.value v) {w with heap:=w.heap.push (.cells arr el)}):=by
 obtain ⟨hlk,hdd,hin⟩:=tW he;obtain ⟨h1,hf,hb⟩:=h.push (.cells arr el) rfl;have hB:w.heap.size < ({w with heap:=w.heap.push (.cells arr el)}:World).heap.size:=by simp
 have hat:obAt E {w with heap:=w.heap.push (.cells arr el)} dd w.heap.size (.cells cs):=
  ⟨arr,el,hb,Nat.le_of_eq hsz.symm,hone,hrel⟩
 obtain ⟨h2,hle⟩:=h1.newobjD hf hB hlk hdd hin (by simp) hat (fun cs' e arr' el' hb' j z xs ad cap hc hv=>by
  injection e with e;subst e;rw[hb] at hb';injection hb' with hb';injection hb' with hb' _ _;subst hb';exact hn j z xs ad cap hc hv) arr.size (fun arr' el' fz' hb'=>by
  rw[hb] at hb';injection hb' with hb';injection hb' with hb' _ _;subst hb';exact yHH _)
 refine ⟨_,v,_,_,rfl,.inl rfl,GE.leD_addLocD hdd hle,?_⟩;simp only[St.app,yGZ,yHG];exact h2.putd dst (hval _ hle (by simp[GE.addLoc]) (by simp[GE.addLoc])) hd
theorem Rel.cellsTo {d:Nat} {b:AV} {v:Value} (hr:Rel E b v) (hu:b.upto d 20=true) (j:Nat) (c:AV) (u:Value) (hc:b.cells[j]?=some c) (hv:v.cells[j]?=some u):Rel (E.to d) c u:=
 (hr.upto 20 hu).cells.2 j c u hc hv
theorem zFX (h:Ok G prot w0 E0 E w s a.tmps) {ops:Array Oper} {o:Oper} {ao:AOp} (hc:yL P G L ops o=some ao) {e:Eff} {dd slt:Nat} (he:opfP s dd slt ao=some e):
  Done G prot w0 E0 E s a o.dst e ((execOp a.eval o).run P w):=by
 cases ao with
 | alloc z=>
  have:∃el,o.op= .alloc el/\xF P el=some z:=by
   unfold yL at hc
   repeat' (split at hc)
   all_goals first | (cases hc;done) | skip
   all_goals first | (obtain ⟨_,hy,hx⟩:=map_some hc;first | (cases hx;done) | (injection hx with e1;subst e1;exact ⟨_,by assumption,hy⟩)) | skip
   all_goals (injection hc with hc;first | (cases hc;done) | skip)
  obtain ⟨el,hop,hz⟩:=this;simp only[execOp,hop];obtain ⟨inf,v,h1,h2,h3,h4,h5⟩:=yH hz;have hrun:(Instr.alloc el true (.tuple #[])).run P w= .ok (.pointer (some ⟨w.heap.size,0,none⟩)) {w with heap:=w.heap.push (.cells v.cells el)}:=by
   unfold Instr.alloc;rw[yGT,yZ h1 h2];simp[newVar,newRow]
  rw[yB _ hrun];simp only[opfP] at he;split at he
  ·rename_i e0 he0;injection he with he;subst he;have hr:∀(j:Nat) (c:AV) (u:Value),z[j]?=some c->v.cells[j]?=some u->Rel E c u:=fun j c u hc hu=> .imm _ _ (h5 _ j c u hc hu).1;have hr2:∀(j:Nat) (c:AV) (u:Value),z[j]?=some c->v.cells[j]?=some u->Rel (E.to dd) c u:=fun j c u hc hu=> .imm _ _ (h5 _ j c u hc hu).1;refine wW h o.dst he0 (by simp[h4]) ?_ (l8 hr2) (r9 hr fun j c hc=>(rX hz c (zP hc)).d1) (fun E' _ hl _=>jA hl) trivial;intro j u hu;have hlt:j < v.cells.size:=(yIR.1 hu).1;exact (h5 E.imm j _ u (yGY (by omega)) hu).2.2
  ·cases he
 | box n x=>
  have:∃el gx t,o.op= .box el gx/\opd P G t gx=some x:=by
   unfold yL at hc
   repeat' (split at hc)
   all_goals first | (cases hc;done) | skip
   all_goals first | (obtain ⟨_,_,hx⟩:=map_some hc;cases hx;done) | skip
   all_goals (injection hc with hc;first | (cases hc;done) | skip)
   all_goals (injection hc with e1 e2;subst e1;subst e2)
   all_goals exact ⟨_,_,_,by assumption,by assumption⟩
  obtain ⟨el,gx,t,hop,hx⟩:=this;simp only[execOp,hop];have hrun:(Instr.box el (a.eval gx)).run P w= .ok (.pointer (some ⟨w.heap.size,0,none⟩)) {w with heap:=w.heap.push (.cells (a.eval gx).cells el)}:=by
   simp[Instr.box,newVar,newRow]
  rw[yB _ hrun];have hr:=h.ev (s:=s) hx;simp only[opfP] at he;split at he
  ·rename_i e0 he0;split at he
   ·rename_i hc;injection he with he;subst he;obtain ⟨hl,hr'⟩:=hr.cells;exact wW h o.dst he0 (by simp[hl]) (vL hr hc.2.1) (hr.cellsTo hc.2.2) (fun j z xs ad cap hcj _=>(AV.dull1_ne (rP hx j _ hcj) rfl).elim) (fun E' _ hl _=>jA hl) trivial
   ·cases he
  ·cases he
 | append z bytes x y=>
  have:∃t u gx gy,o.op= .call {callee:= .builtin .append,args:= #[gx,gy],argTypes:= #[t,u]}/\∃el el' i zz,P.underlying t=some (.slice el)/\P.underlying u=some (.slice el')/\opd P G t gx=some x/\opd P G u gy=some y/\
    tinf P el=some i/\xF P el=some zz/\0 < i.size/\0 < i.bytes/\i.bytes<=2^20/\z=i.size/\bytes=i.bytes:=by
   unfold yL at hc;split at hc;all_goals first | (cases hc;done) | (obtain ⟨_,_,hx⟩:=map_some hc;cases hx;done) | skip
   all_goals first | ((repeat' (split at hc))<;>first | (cases hc;done) | (injection hc with hc;cases hc;done) | (obtain ⟨_,_,hx⟩:=map_some hc;cases hx;done);done) | skip
   rename_i b args ats hop;split at hc
   ·(repeat' (split at hc))<;>first | (cases hc;done) | (injection hc with hc;cases hc;done)
   ·rename_i t u x y hats hargs;split at hc
    ·rename_i el el' xo yo hu hu' hx hy;split at hc
     ·rename_i i z hi hz;split at hc
      ·rename_i hcond;obtain ⟨c1,c2,c3⟩:=hcond;injection hc with hc;injection hc with e3 e4 e5 e6;subst e3;subst e4;subst e5;subst e6;have e1:ats= #[t,u]:=Array.ext' (by simpa using hats);have e2:args= #[x,y]:=Array.ext' (by simpa using hargs);subst e1;subst e2;exact ⟨t,u,x,y,hop,el,el',i,z,hu,hu',hx,hy,hi,hz,c1,c2,c3,rfl,rfl⟩
      ·cases hc
     ·cases hc
    ·cases hc
   ·(repeat' (split at hc))<;>first | (cases hc;done) | (injection hc with hc;cases hc;done)
   ·(repeat' (split at hc))<;>first | (cases hc;done) | (injection hc with hc;cases hc;done)
   ·(repeat' (split at hc))<;>first | (cases hc;done) | (injection hc with hc;cases hc;done)
   ·cases hc
  obtain ⟨t,u,gx,gy,hop,el,el',i,zz,hu,hu',hx,hy,hi,hz,c1,c2,c3,rfl,rfl⟩:=this;simp only[execOp,hop,resolve,pure_bind,invoke,builtin,yIA,yHL,yHU];exact uU h o.dst hu hu' hi hz hx hy c1 c2 c3 he
 | bslice z ea ps=>
  have:∃t n qs el i zz,o.op= .buildSlice t n qs/\P.underlying t=some (.slice el)/\tinf P el=some i/\xF P el=some zz/\rE P G el 0 qs.toList=some ps/\ps.length=n/\0 < i.size/\n*i.size<=2^24/\z=i.size/\ea=aggD i.desc:=by
   unfold yL at hc
   repeat' (split at hc)
   all_goals first | (cases hc;done) | skip
   all_goals first | (obtain ⟨_,_,hx⟩:=map_some hc;cases hx;done) | skip
   all_goals (injection hc with hc;first | (cases hc;done) | skip)
   rename_i el hi _ _ ti ps' ht hq hcond;injection hc with e1 e2 e3;subst e1;subst e2;subst e3;obtain ⟨c1,c2,c3,c4⟩:=hcond;obtain ⟨zz,hz⟩:=yIT.1 c4;obtain ⟨inf,_,hu,_,_,_⟩:=z8 hi;exact ⟨_,_,_,_,_,zz,by assumption,hu,ht,hz,hq,c1,c2,c3,rfl,rfl⟩
  obtain ⟨t,n,qs,el,ti,zz,hop,hu,ht,hz,hq,hn,hs0,hmax,rfl,rfl⟩:=this;simp only[execOp,hop];obtain ⟨inf,v0,h1,h2,h3,h4,h5⟩:=yH hz;obtain ⟨inf',h1',_,hs,_,_⟩:=z8 ht;have:inf'=inf:=by rw[h1] at h1';exact (Option.some.inj h1').symm
  subst this;simp only[opfP] at he;split at he
  ·rename_i e0 he0;split at he
   ·rename_i hcond;injection he with he;subst he;obtain ⟨hok,hup⟩:=hcond;obtain ⟨p1,p2,p3⟩:=r7 h hq
    let vals:List Value:=qs.toList.map fun p=>a.eval p.2
    have hvl:vals.length=n:=by simp[vals];rw[<-hn,<-p1];simp
    have hpl0:(ps.map s.ev).length=vals.length:=by rw[hvl,<-hn];simp
    have hrel:∀(i:Nat) x v,(ps.map s.ev)[i]?=some x->vals[i]?=some v->Rel E x v:=by
     intro i x v hx hv;simp only[vals,yHD,yHC] at hx hv;obtain ⟨p,hp,rfl⟩:=hv;obtain ⟨q,hq',rfl⟩:=hx;exact p3 i p _ hp hq'
    have hallc:∀x∈ps.map s.ev,x.cells.length=ti.size/\x.cells.all AV.one=true:=by
     intro x hx;unfold okEl at hok;rw[yHB] at hok;have:=hok x hx;simp only[yIP,beq_iff_eq] at this;exact ⟨this.1.1,this.1.2⟩
    have hvsz:∀v∈vals,v.cells.size=ti.size:=by
     intro v hv;obtain ⟨i,hi⟩:=yID hv;have hlt:i < (ps.map s.ev).length:=by have:=(yGW.1 hi).1;omega
     rw[<-(hrel i _ v (yGY hlt) hi).cells.1];exact (hallc _ (yIJ hlt)).1
    have hvz:∀l∈vals.map (fun v=>v.cells.toList),l.length=ti.size:=by intro l hl;obtain ⟨v,hv,rfl⟩:=yHJ.1 hl;simpa using hvsz v hv
    have hflen:(vals.map fun v=>v.cells.toList).flatten.length=n*ti.size:=by
     rw[vZ (z:=ti.size) hvz];simp[hvl]
    have hrun:(Instr.buildSlice t n (qs.map fun (i,x)=>(i,a.eval x))).run P w= .ok (.slice (some ⟨w.heap.size,0,none⟩) n n)
      {w with heap:=w.heap.push (.cells (vals.map fun v=>v.cells.toList).flatten.toArray el)}:=by
     unfold Instr.buildSlice;simp only[yGT,run_underlying hu,yGV,run_sizeOf w h1,Program.cellsOf,h1,yHE,yHF,hs];rw[if_neg (by omega)];simp only[yGT,tI];have hpl:(qs.toList.map fun p=>(p.1,a.eval p.2))=(vals.zipIdx 0).map fun p=>(p.2,p.1):=p2;have hfill:∀arr:Array Value,arr.size=n*ti.size->Instr.fill (fun i=>some (i*ti.size,ti.size)) arr ((vals.zipIdx 0).map fun p=>(p.2,p.1))=some ((vals.map fun v=>v.cells.toList).flatten.toArray):=by
      intro arr harr;rw[nE vals 0 arr hvsz (by rw[harr,hvl];simp)];simp
     by_cases h0:n*ti.size=0
     ·simp only[h0,if_true,pure_bind];rw[hpl,hfill _ (by simp[h0])];simp[newRow]
     ·rw[if_neg h0];simp only[yGT,yZ h1 h2,yGV,yGX];rw[hpl,hfill _ (by simp)];simp[newRow]
    rw[yB _ hrun];have hxz:∀x∈ps.map s.ev,x.cells.length=ti.size:=fun x hx=>(hallc x hx).1;have hpos:∀{j:Nat},j < n*ti.size->j / ti.size < n/\j % ti.size < ti.size/\j / ti.size*ti.size+j % ti.size=j:=by
     intro j hj;exact ⟨(yJY hs0).2 hj,yIQ _ hs0,by rw[Nat.mul_comm];exact yJZ j _⟩
    have hget:∀(j:Nat) c u,(yC (ps.map s.ev))[j]?=some c->(vals.map fun v=>v.cells.toList).flatten[j]?=some u->∃(i:Nat) (x:AV) (v:Value) (k:Nat),(ps.map s.ev)[i]?=some x/\vals[i]?=some v/\x.cells[k]?=some c/\v.cells[k]?=some u:=by
     intro j c u hcj huj;have hj:j < n*ti.size:=by have:=(yGW.1 huj).1;omega
     obtain ⟨d1,d2,d3⟩:=hpos hj;have hx:=yGY (l:=ps.map s.ev) (i:=j / ti.size) (by omega);have hv:=yGY (l:=vals) (i:=j / ti.size) (by omega);have e1:=uQ hxz hx d2;rw[d3,hcj] at e1;have e2:=sH (q:=j / ti.size) (l:=(vals[j / ti.size]'(by omega)).cells.toList) hvz (by rw[yHD,hv];rfl) d2;rw[d3,huj] at e2;exact ⟨_,_,_,j % ti.size,hx,hv,e1.symm,by simpa using e2.symm⟩
    refine wW h o.dst he0 (by rw[vV,zU hxz,yHV,hflen];simp[hn]) (fun j v hv=> ?_) (fun j c v hcj hv=> ?_)
     (fun j z xs ad cap hcj _=>by obtain ⟨c0,k1,k2⟩:=vW hcj;exact absurd k2.symm (wP _))
     (fun E' _ hl hro=>by
      have:=Rel.own (E:=E') dd slt (e0.1+1) 0 n ti.size (aggD ti.desc) _ n hl (yHH _) (by rw[hro];simp[hflen]);rw[hn];exact this) trivial
    ·rw[yHA] at hv;have hj:j < n*ti.size:=by have:=(yGW.1 hv).1;omega
     have hlt:j < (yC (ps.map s.ev)).length:=by rw[zU hxz];simpa[hn] using hj
     obtain ⟨i,x,v',k,q1,q2,q3,q4⟩:=hget j _ v (yGY hlt) hv;exact vL (hrel i x v' q1 q2) (hallc x (zP q1)).2 k v q4
    ·obtain ⟨c0,k1,rfl⟩:=vW hcj;rw[yHA] at hv;obtain ⟨i,x,v',k,q1,q2,q3,q4⟩:=hget j c0 v k1 hv;rw[yHB] at hup;exact ((hrel i x v' q1 q2).cellsTo (hup x (zP q1)) k c0 v q3 q4).strip1
   ·cases he
  ·cases he
 | mkslice z bytes ea zero l c=>
  have:∃t gl gc el ti,o.op= .makeSlice t gl gc/\P.underlying t=some (.slice el)/\tinf P el=some ti/\xF P el=some zero/\opd P G 0 gl=some l/\opd P G 0 gc=some c/\z=ti.size/\bytes=ti.bytes/\ea=aggD ti.desc:=by
   unfold yL at hc
   repeat' (split at hc)
   all_goals first | (cases hc;done) | skip
   all_goals first | (obtain ⟨_,_,hx⟩:=map_some hc;cases hx;done) | skip
   all_goals (injection hc with hc;first | (cases hc;done) | skip)
   injection hc with e1 e2 e3 e4 e5 e6;subst e1;subst e2;subst e3;subst e4;subst e5;subst e6;exact ⟨_,_,_,_,_,by assumption,by assumption,by assumption,by assumption,by assumption,by assumption,rfl,rfl,rfl⟩
  obtain ⟨t,gl,gc,el,ti,hop,hu,ht,hz,hl,hcc,rfl,rfl,rfl⟩:=this;simp only[execOp,hop];have hrl:=h.ev (s:=s) hl;have hrc:=h.ev (s:=s) hcc;simp only[opfP] at he;split at he
  ·rename_i e0 kl n kc m he0 e1 e2;split at he
   ·rename_i hcond;obtain ⟨k0,k1,k2,k3,k4,k5⟩:=hcond;injection he with he;subst he;subst k1;rw[e1] at hrl;rw[e2] at hrc;rw[hrl.int_inv,hrc.int_inv];obtain ⟨arr,hrun,hsz,hr⟩:=oC (imm:=E.imm) (w:=w) (kl:=kl) (kc:=kc) hu ht hz k0 k2 k3 k4 k5;rw[yB _ hrun];refine wW h o.dst he0 (by simp[hsz]) ?_ (fun j c u hc hu=> .imm _ _ (hr j c u hc hu).1)
     (fun j z' xs ad cap hc _=>(d8 hz hc).elim)
     (fun E' _ hl hro=> .own _ _ _ _ _ _ _ _ _ hl (yHH _) (by rw[hro,hsz];simp[k4])) trivial
    intro j u hu;have hlt:j < (yHR n.toNat zero).flatten.length:=by
     have:=(yIR.1 hu).1;simpa[hsz] using this
    exact (hr j _ u (yGY hlt) hu).2.2
   ·cases he
  ·cases he
 | mkmap=>
  have:∃t,o.op= .makeMap t none:=by
   unfold yL at hc
   repeat' (split at hc)
   all_goals first | (cases hc;done) | skip
   all_goals first | (obtain ⟨_,_,hx⟩:=map_some hc;cases hx;done) | skip
   all_goals first | (injection hc with hc;first | (cases hc;done) | skip) | skip
   all_goals exact ⟨_,by assumption⟩
  obtain ⟨t,hop⟩:=this;simp only[execOp,hop,Option.map_none];simp only[opfP] at he;split at he
  ·rename_i e0 he0;injection he with he;subst he;obtain ⟨hlk,hdd,hin⟩:=tW he0;have hrun:(Instr.makeMap t none).run P w= .ok (.map (some w.heap.size)) (w.alloc (.map #[] 0)):=by
    simp[Instr.makeMap,yGT,run_newObj_alloc,Result.andThen]
   rw[yB _ hrun];obtain ⟨o1,hf,hb⟩:=h.push (.map #[] 0) (w':=w.alloc (.map #[] 0)) rfl;have hsz:w.heap.size < (w.alloc (.map #[] 0)).heap.size:=by
    have:=yU hb;exact this
   obtain ⟨o2,hle⟩:=o1.newobjD hf hsz hlk hdd hin (o:= .mp []) (by simp) ⟨#[],0,hb,rfl,by simp⟩ (by simp) 0 (fun _ _ _ _=>yHM _);refine ⟨_,_,_,_,rfl,.inl rfl,GE.leD_addLocD hdd hle,?_⟩;simp only[St.app,yGZ,yHG];exact o2.putd o.dst (.mp _ _ _ _ (by simp[GE.addLoc])) trivial
  ·cases he
 | _=>simp[opfP] at he
end
end Go.Ab
/- A send,a receive,at the machine of one. -/
namespace Go.Ab
open Go
def OpS (P:Program) (ops:Array Oper) (i:Nat) (a:Act) (w:World) (K:Act->World->Prop):Prop:=
 ∀b:Frame,b.kind≠ .early->∀(k:List Item) (cs:List Frame) (rest:List Nat),∃a' w',K a' w'/\Steps P (lone (b.atR a (.inRegion ops (i::rest)::k)) cs w) (lone (b.atR a' (.inRegion ops rest::k)) cs w')
theorem OpS.mono {P:Program} {ops:Array Oper} {i:Nat} {a:Act} {w:World} {K K':Act->World->Prop} (h:OpS P ops i a w K) (hk:∀a w,K a w->K' a w):OpS P ops i a w K':=
 fun b hb k cs rest=>let ⟨a',w',q,r⟩:=h b hb k cs rest;⟨a',w',hk _ _ q,r⟩
theorem zBK {P:Program} {ops:Array Oper} {i:Nat} {o:Oper} {a:Act} {w:World} {K:Act->World->Prop} (ho:ops[i]?=some o) (hw:Region.wanted o (yielded ops a.tmps)=true)
  (hnd:∀c,o.op≠ .defer c) (h:o.wp P a w K (fun _ _ _=>False)):OpS P ops i a w K:=by
 intro b hb k cs rest;simp only[Oper.wp,Oper.upon] at h;have hg:=stepGR_op (P:=P) (b:=b) (k:=k) (cs:=cs) (w:=w) (rest:=rest) ho hw;rw[Oper.semAt_eq _ _ _ hnd] at hg;have hfin:∀v,(b.atR a (.inRegion ops (i::rest)::k)).finish v=b.atR (a.put o.dst v) (.inRegion ops rest::k):=by
  intro v;rw[Frame.finish_atR,ho];rfl
 split at h
 ·rename_i v w' hr;refine ⟨_,_,h,.one (step_lone_go ?_)⟩;rw[hg,<-hfin];simp[stepG.apply,hr]
 ·rename_i w' hr;refine ⟨_,_,h,.one (step_lone_go ?_)⟩;rw[hg,<-hfin];simp[stepG.apply,hr]
 ·rename_i d w' hr;refine ⟨_,_,h,.one (step_lone_go ?_)⟩;have:({b.atR a (.inRegion ops (i::rest)::k) with defers:=d::a.defers}:Frame).finish undef=
    b.atR ({a with defers:=d::a.defers}.put o.dst undef) (.inRegion ops rest::k):=by
   have:=Frame.finish_atR b {a with defers:=d::a.defers} ops i rest k undef;rw[ho] at this;exact this
  rw[hg];simp only[stepG.apply,Sem.runT_eq,hr,GStep.bare_after];exact congrArg (fun fr=>GStep.go {frame:=fr,callers:=cs,status:= .running,dying:=none} w') this
 ·rename_i f args w' hr;obtain ⟨e,w'',fr,hR,hsteps,_,hleave⟩:=h (b.atR a (.inRegion ops (i::rest)::k)::cs);have henter:step P (lone (b.atR a (.inRegion ops (i::rest)::k)) cs w)=
    .next (lone (Frame.enter P f args .normal) (b.atR a (.inRegion ops (i::rest)::k)::cs) w'):=
   step_lone_go (by rw[hg];simp[stepG.apply,hr,Frame.atR])
  cases e with
  | returned v=>
   refine ⟨_,_,hR,.head henter (hsteps.trans (.one ?_))⟩;rw[<-hfin];exact step_leave_returned hleave
  | panicked chain=>exact hR.elim
  | outgrown=>obtain ⟨_,_,hq⟩:=hR;exact hq.elim
 ·rename_i row args w' hr;obtain ⟨v,w'',hR,hsteps⟩:=h (b.atR a (.inRegion ops (i::rest)::k)) cs;have henter:step P (lone (b.atR a (.inRegion ops (i::rest)::k)) cs w)=
    .next (lone (Frame.ofRow P row args .normal) (b.atR a (.inRegion ops (i::rest)::k)::cs) w'):=
   step_lone_go (by rw[hg];simp[stepG.apply,hr,Frame.atR])
  refine ⟨_,_,hR,.head henter ?_⟩;rw[<-hfin];exact hsteps
 ·exact h.elim
 ·exact h.elim
theorem pX {P:Program} {main:Bool} {b:Frame} {a:Act} {k:List Item} {cs:List Frame} {w:World} {ops:Array Oper} {i:Nat} {rest:List Nat} {o:Oper} {cases:Array CommCase} {blocking:Bool} {shape:CommShape} {w':World} (ho:ops[i]?=some o) (hw:Region.wanted o (yielded ops a.tmps)=true)
  (hnd:∀c,o.op≠ .defer c) (hk:b.kind≠ .early) (hr:(execOp a.eval o).run P w= .ok (.comm cases blocking shape) w'):
  ∃es,stepG P true (Go.Conc.G (b.atR a (.inRegion ops (i::rest)::k)) cs) w= .comm (Go.Conc.G (b.atR a (.inRegion ops (i::rest)::k)) cs) cases blocking shape w' es:=by
 have hk':(b.kind==CallKind.early)=false:=by simpa using hk
 have hg:=stepGR_op (P:=P) (b:=b) (k:=k) (cs:=cs) (w:=w) (rest:=rest) ho hw;rw[Oper.semAt_eq _ _ _ hnd] at hg;refine ⟨Go.Conc.listed P b.fn a o w,?_⟩
 show stepG P true {frame:=b.atR a (.inRegion ops (i::rest)::k),callers:=cs,status:= .running,dying:=none} w=_
 rw[hg];simp[stepG.apply,hr,Go.Conc.G,Frame.atR,hk',GStep.after,Go.Conc.listed]
section
variable {P:Program} {G:Nat->Option (List AV)} {prot:Nat->Prop} {w0:World} {E0 E:GE} {w:World} {s:St} {a:Act} {gops:Array Oper}
theorem tK {w:World} {B cap:Nat} {buf:Array Value} {s r:Nat} {o:Obj} (hb:w.heap[B]?=some o):
  Turned w (w.setChan B cap buf false s r false) B (.chan cap buf false s r false):=
 ⟨Go.Conc.heap_setChan w B cap buf false s r false (yU hb),fun b hne=>by simp[World.setChan,yJT (fun e=>hne e.symm)],Go.Conc.size_setChan ..,rfl,rfl,rfl⟩
theorem zAT (h:Ok G prot w0 E0 E w s a.tmps) {i:Nat} {o:Oper} (ho:gops[i]?=some o) (hw:Region.wanted o (yielded gops a.tmps)=true) {gc gx co xo} (hop:o.op= .send gc gx) (hc:opd P G 0 gc=some co) (hx:opd P G 0 gx=some xo)
  {e:Eff} (he:opfC s (.send co xo)=some e):
  OpS P gops i a w fun a' w'=>∃E',E.leD s.D E'/\Ok G prot w0 E0 E' w' (s.app o.dst e) a'.tmps/\a'.defers=a.defers:=by
 have hrc:=h.ev (s:=s) hc;have hrx:=h.ev (s:=s) hx;simp only[opfC] at he;split at he
 ·rename_i d i' g v l hev hfz;split at he
  ·rename_i g' cap buf hlk;split at he
   ·rename_i hcnd;obtain ⟨hg,hroom⟩:=hcnd;subst hg;injection he with he;subst he;rw[hev] at hrc;obtain ⟨B,hb,hv⟩:=hrc.ch_inv;obtain ⟨hl,arr,sent,rcvd,h1,h2,h3⟩:=eV h hlk hb;have hl0:frzL s [s.ev xo]=some ([v],l++[]):=by simp[frzL,hfz]
    obtain ⟨_,_,hcl⟩:=rK hl0;rw[yJC] at hcl;obtain ⟨E1,o1,le1,loc1,full1,ts1,D1⟩:=h.killAll l hcl;have hri:=qE h le1.1 _ hfz hrx full1;have hnin:(d,i')∉l:=by
     intro hm;obtain ⟨g2,cs2,e2⟩:=hcl _ hm;rw[hlk] at e2;cases e2
    have hlk1:((kill s l).foldl St.up s).look d i'=(g',.ch cap buf):=by
     rw[<-hlk];refine b5 l s s (fun p hp e=> ?_) d i' hnin;obtain ⟨g2,cs2,e2⟩:=hcl _ hp;exact s.look_lt (d:=p.1) (i:=p.2) (by rw[e2];simp) e
    have hl1:Live E1 ((kill s l).foldl St.up s) d i' B:=⟨by rw[hlk1];simp,by rw[hlk1,loc1];exact hb⟩;have hT:=tK (cap:=cap) (buf:=arr.push (a.eval gx)) (s:=sent+1) (r:=rcvd) h1;have o2:=o1.setobj hl1 hT (o:= .ch cap (buf++[v.strip])) (by simp)
     ⟨_,_,_,hT.here,by simp[h2],fun j c u hcj huj=>by
      by_cases hj:j < buf.length
      ·rw[yIB hj] at hcj;rw[yIX,if_neg (by omega)] at huj;exact (h3 j c u hcj huj).mono le1.1
      ·have hj':j=buf.length:=by
        have:=(yGW.1 hcj).1;simp at this;omega
       subst hj';rw[yIG (yHH _)] at hcj;rw[yIX,if_pos h2.symm] at huj;simp at hcj huj;subst hcj;subst huj;exact hri.strip⟩ (by simp) (by simp)
    rw[hlk1] at o2;intro b hbk k cs rest;obtain ⟨es,hcomm⟩:=pX (P:=P) (main:=true) (b:=b) (k:=k) (cs:=cs) (rest:=rest) (w:=w) (w':=w) (cases:= #[Go.Conc.scase B (a.eval gx) (.tuple #[])]) (blocking:=true) (shape:= .send) ho hw (by simp[hop]) hbk
     (by simp[execOp,hop,hv,Go.Conc.scase])
    have hstep:=Go.Conc.step_lone_send_room hcomm h1 (by omega);rw[Frame.finish_atR,ho] at hstep;refine ⟨_,_,⟨E1,⟨le1,fun d i g B hb=> .inr (by rw[<-loc1];exact hb)⟩,?_,?_⟩,.one hstep⟩
    ·have:=o2.putd o.dst mD lV;simp only[St.app,yGZ,List.foldl_append,yHG];cases hd:o.dst<;>simpa[hd,Act.put,putV] using this
    ·cases hd:o.dst<;>simp[Act.put,hd]
   ·cases he
  ·cases he
 ·cases he
theorem zBA (h:Ok G prot w0 E0 E w s a.tmps) {i:Nat} {o:Oper} (ho:gops[i]?=some o) (hw:Region.wanted o (yielded gops a.tmps)=true) {t dir el gc co zz} (hop:o.op= .recv t gc false) (hu:P.underlying t=some (.chan dir el)) (hz:xF P el=some zz)
  (hc:opd P G 0 gc=some co) {e:Eff} (he:opfC s (.recv co)=some e):
  OpS P gops i a w fun a' w'=>∃E',E.leD s.D E'/\Ok G prot w0 E0 E' w' (s.app o.dst e) a'.tmps/\a'.defers=a.defers:=by
 have hrc:=h.ev (s:=s) hc;obtain ⟨inf,v0,i1,i2,i3,i4,i5⟩:=yH hz;simp only[opfC] at he;split at he
 ·rename_i d i' g hev;split at he
  ·rename_i g' cap v buf hlk;split at he
   ·rename_i hg;subst hg;injection he with he;subst he;rw[hev] at hrc;obtain ⟨B,hb,hv⟩:=hrc.ch_inv;obtain ⟨hl,arr,sent,rcvd,h1,h2,h3⟩:=eV h hlk hb;simp only[yIH] at h2;have hT:=tK (cap:=cap) (buf:=arr.extract 1 arr.size) (s:=sent) (r:=rcvd+1) h1;have o2:=h.setobj hl hT (o:= .ch cap buf) (by simp)
     ⟨_,_,_,hT.here,by simp;omega,fun j c u hcj huj=>by
      have hj:j < buf.length:=(yGW.1 hcj).1;refine h3 (j+1) c u (by simpa using hcj) ?_;have:(arr.extract 1 arr.size)[j]?=arr[j+1]?:=by
       rw[Array.getElem?_extract,if_pos (by omega),yIZ]
      rw[<-this];exact huj⟩ (by simp) (by simp)
    rw[hlk] at o2;have hv0:arr[0]?=some (arr.getD 0 undef):=by
     have:0 < arr.size:=by omega
     simp[yHP,yHK this]
    have hri:=(h3 0 v _ rfl hv0).strip;intro b hbk k cs rest;obtain ⟨es,hcomm⟩:=pX (P:=P) (main:=true) (b:=b) (k:=k) (cs:=cs) (rest:=rest) (w:=w) (w':=w) (cases:= #[Go.Conc.rcase B v0]) (blocking:=true) (shape:= .recv false) ho hw (by simp[hop]) hbk
     (by simp[execOp,hop,hv,Go.Conc.rcase,run_underlying hu,yZ i1 i2])
    have hstep:=Go.Conc.step_lone_recv_buf false hcomm h1 (by omega);rw[Frame.finish_atR,ho] at hstep;refine ⟨_,_,⟨E,GE.leD_refl _ _,?_,?_⟩,.one hstep⟩
    ·have:=o2.putd o.dst (Rel.imm _ _ hri) (AV.dull_strip _);simp only[St.app,yGZ,yHG];cases hd:o.dst<;>simpa[hd,Act.put,putV,Go.Conc.got] using this
    ·cases hd:o.dst<;>simp[Act.put,hd]
   ·cases he
  ·cases he
 ·cases he
end
end Go.Ab
