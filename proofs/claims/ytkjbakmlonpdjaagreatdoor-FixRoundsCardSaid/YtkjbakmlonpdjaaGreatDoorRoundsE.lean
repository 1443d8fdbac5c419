/- Values: the contract of the reference's Merged. -/
import Derived.Test.YtkjbakmlonpdjaaGreatDoorRoundsD
open Bool renaming true_and->yOB, false_and->yOC, and_eq_true->yOG, or_eq_true->yOQ, false_or->yOS, not_true->yOX, true_or->yPG, and_true->yPJ, not_eq_true'->yPS, not_false->yPV
open Int renaming natCast_add->yOT, eq_ofNat_of_zero_le->yPR, natCast_emod->yPT
open List renaming getElem_mem->yOD, map_cons->yOE, drop_eq_getElem_cons->yOF, replicate->yOH, drop_length->yOI, mem_map->yOJ, mem_cons->yOK, mem_cons_of_mem->yOL, drop_zero->yOM, mem_singleton->yON, mem_cons_self->yOO, length_eq_zero_iff->yOR, length_zip->yOU, map_nil->yOV, length_cons->yOW, nil_append->yOY, length_drop->yPA, of_mem_zip->yPB, length_map->yPC, replicate_succ->yPE, length_replicate->yPF, all_cons->yPI, mem_replicate->yPK, append_nil->yPM, mem_append->yPN, getElem_of_mem->yPO, getElem_replicate->yPP, map_append->yPQ
open Nat renaming le_refl->yOP, add_assoc->yOZ, le_trans->yPD, add_zero->yPH, add_sub_cancel->yPU
open Option renaming map_some->yPL
set_option linter.unusedVariables false
set_option linter.unusedSimpArgs false
set_option maxRecDepth 10000
namespace Go.Ab.Tab
open Go Go.Ab
theorem zUJ {n D:Nat} {τ:Nat->AV} {ω:Nat->Ent} {S:Nat->Nat->Ent} {A g:Nat} {l:List Int} (a:Int) (xs:List AV) (t:Tip) (hA:A < n) (hw:ω A=(g,.cells (l.map (AV.int .i64)))):
  frz (stF n D τ ω S) frzD (.agg [.int .i64 a,.sl 3 xs t,.own D A g 0 l.length 1 false])=some (.agg [.int .i64 a,.sl 3 xs t,.sl 1 (l.map (AV.int .i64)) .no],([[],[],(D,A)::(l.map fun _=>([]:List (Nat×Nat))).flatten]:List (List (Nat×Nat))).flatten):=by
 have h:frz (stF n D τ ω S) 19 (.own D A g 0 l.length 1 false)=_:=dU (n:=n) (D:=D) (τ:=τ) (S:=S) 17 hA hw (yOP _);rw[List.take_of_length_le (yOP _)] at h
 show frz (stF n D τ ω S) 20 _=_
 rw[frz];simp only[List.mapM_cons,List.mapM_nil,h,zUL,yDA,Option.pure_def,Option.bind_eq_bind,Option.bind_some,yOE,yOV]
theorem uW (l:List Int):wP 0 l=gcdW l:=rfl
theorem qW:∀(l:List Int) (g:Nat),wP g l∣g
 | [],g=>Nat.dvd_refl _
 | a::l,g=>Nat.dvd_trans (qW l (Nat.gcd g a.toNat)) (Nat.gcd_dvd_left _ _)
theorem mY {l:List Int} (hne:l≠[]) (h:∀w∈l,1<=w):0 < gcdW l:=by
 cases l with
 | nil=>exact absurd rfl hne
 | cons a l=>
  have h1:gcdW (a::l)=wP (Nat.gcd 0 a.toNat) l:=rfl;rw[h1,Nat.gcd_zero_left];have:=qW l a.toNat;have ha:=h a (by simp);exact Nat.pos_of_dvd_of_pos this (by omega)
theorem k9:∀(l acc:List (Va×Int)),(∀p∈l,1<=p.2)->(∀p∈acc,1<=p.2)->∀p∈xV l acc,1<=p.2
 | [],acc,_,h=>h
 | a::l,acc,h1,h2=>by
  refine k9 l (insP a.1 a.2 acc) (fun p hp=>h1 p (by simp[hp])) fun p hp=> ?_;have ha:=h1 a (by simp);rcases fF _ _ _ _ hp with e | hp | ⟨b,hb,e⟩
  ·omega
  ·exact h2 p hp
  ·have:=h2 b hb;omega
theorem fP:∀(l acc:List (Va×Int)),(l≠[]\/acc≠[])->xV l acc≠[]
 | [],acc,h=>by rcases h with h | h;exact absurd rfl h;exact h
 | a::l,acc,_=>fP l _ (.inr (zUA _ _ _))
theorem oI:∀(l acc:List (Va×Int)),(xV l acc).length<=l.length+acc.length
 | [],acc=>by simp[xV]
 | a::l,acc=>by
  have:=oI l (insP a.1 a.2 acc);have:=fG a.1 a.2 acc;have e:xV (a::l) acc=xV l (insP a.1 a.2 acc):=rfl;rw[e,yOW];omega
theorem zSO (D:Nat) (kd:Int) (v:Va) (hgl:v.gs.length<=2^32) (hgf:∀a∈v.gs,fitV a) (hw:wtd kd=true->v.ws.length=v.gs.length/\(∀w∈v.ws,1<=w)/\sumW v.ws<=1048576) (h7:kd=7->v.gs≠[]):
  Go.Ab.Loc Pg Gl D 136 [.int .i64 kd,encV v] [] (encV (xY kd v)) []:=by
 refine zTO zF tok rfl rfl fun S=> ?_;unfold c136;generalize hr:encV (xY kd v)=r;rw[zC v];simp;refine yCG D kd v.gs hgl hgf v.ws (fun hk=>(hw hk).1) v.n _ S ?_ v.gs.length 0 [] _ _ (.sl 1 [] .tip) (by simp) (by simp) (by simp) ?_ ?_ ?_ ?_ ?_ ?_ ?_ ?_ ?_ ?_ ?_ ?_
 case refine_2=>
  intro hk;obtain ⟨_,h2,h3⟩:=hw hk;exact ⟨fun w hw=>by have:=h2 w (by simpa using hw);omega,by simpa using h3,by simp⟩
 case refine_13=>split;exact .inl ⟨rfl,rfl⟩;rfl
 case refine_1=>
  intro acc τ ω W hacc h0 h4 h5 w4 w5 hW hfit;have hr2:r=encV (.mk v.n (acc.map (·.1)) (if wtd kd then divW kd (acc.map (·.2)) else [])):=by rw[<-hr,xY,hacc]
  have haccC:(acc.map (·.1)).map encV=accC acc:=by simp[accC]
  rw[zT,haccC] at hr2;have done:∀(τ':Nat->AV) (ω':Nat->Ent) (W':AV) (sites),τ' 4= .ptr D 4 1 0->τ' 5= .ptr D 5 1 0->ω' 4=(1,.cells [.int .i64 0,.sl 3 [] .tip,.sl 1 [] .tip])->ω' 5=(1,.cells [.int .i64 v.n,.sl 3 (accC acc) .tip,W'])->
    ((W'= .sl 1 [] .tip/\(if wtd kd then divW kd (acc.map (·.2)) else [])= [])\/∃A g,A < 2/\W'= .own D A g 0 (if wtd kd then divW kd (acc.map (·.2)) else []).length 1 false/\ω' A=(g,.cells ((if wtd kd then divW kd (acc.map (·.2)) else []).map (AV.int .i64))))->sites=([]:List (Nat×Nat))->
    Rd (Loc Pg Gl) .fr (RetQ [.cell 4 true 3] r S) [.c zAA] (stF 130 D τ' ω' S):=by
   intro τ' ω' W' _ g4 g5 v4 v5 hWW _;generalize (if wtd kd then divW kd (acc.map (·.2)) else [])=wl at hWW hr2
   unfold zAA;rcases hWW with ⟨rfl,rfl⟩ | ⟨A,g,hA,rfl,vA⟩
   ·simp[g4,g5,v4,v5,hr2]
   ·have hA4:¬A=4:=by omega
    simp[g4,g5,v4,v5];rw[zUJ v.n (accC acc) .no (show A < 130 by omega) (show _=(g,Ob.cells (wl.map (AV.int .i64))) by simp[hA4,vA])];simp[hr2]
  unfold jR;cases hkd:wtd kd with
  | false=>
   rw[hkd] at hW hr2 done;simp only[Bool.false_eq_true,if_false] at hW hr2 done;subst hW;have h7':¬kd=7:=by intro e;subst e;cases hkd
   simp[h0,h7'];refine done _ ω (.sl 1 [] .tip) [] ?_ ?_ w4 w5 (.inl ⟨rfl,trivial⟩) rfl
   ·simp[h4]
   ·simp[h5]
  | true=>
   rw[hkd] at hW hr2 done;simp only[if_true] at hW hr2 done;by_cases h7':kd=7
   ·have hne:v.gs≠[]:=h7 h7';obtain ⟨hwl,hw1,hws⟩:=hw hkd;have hz:zipW kd v.gs v.ws≠[]:=by
     rw[xW hkd];intro e;have:=congrArg List.length e;rw[yOU,hwl] at this;simp at this;exact hne this
    have hane:acc≠[]:=by rw[hacc];exact fP _ _ (.inl hz)
    have hpos:∀p∈acc,1<=p.2:=by
     rw[hacc];refine k9 _ _ (fun p hp=> ?_) (by simp);rw[xW hkd] at hp;exact hw1 _ (yPB hp).2
    have hal:acc.length<=2^32:=by
     have:=oI (zipW kd v.gs v.ws) [];rw[<-hacc,xW hkd,yOU] at this;simp at this;omega
    have hfit:=(hfit hkd).2.2;obtain ⟨nw,hnw⟩:∃nw,acc.map (·.2)=nw:=⟨_,rfl⟩
    have hnl:nw.length=acc.length:=by rw[<-hnw];simp
    have hnn:nw≠[]:=by rw[<-hnw];simpa using hane
    have hn1:∀w∈nw,1<=w:=by
     intro w hw;rw[<-hnw] at hw;obtain ⟨p,hp,rfl⟩:=yOJ.1 hw;exact hpos p hp
    have hn2:∀w∈nw,w<=1048576:=by
     intro w hw;rw[<-hnw] at hw;obtain ⟨p,hp,rfl⟩:=yOJ.1 hw;have:=(hfit p hp).2;simp[sumW] at this;exact this
    rcases hW with ⟨e,_⟩ | ⟨_,A,g,hA,rfl,wA⟩
    ·exact absurd e hane
    ·rw[hnw] at wA done;rw[<-hnl] at w5;have hdv:divW kd nw=nw.map fun w=>w.tdiv (gcdW nw):=by unfold divW;rw[yRO h7']
     rw[hdv] at done;have hA4:¬A=4:=by omega
     have hA5:¬A=5:=by omega
     simp[h0,h7',h5,w5];refine yCF D A g hA nw (fun w hw=>by have:=hn1 w hw;omega) (by omega) (.sl 3 (accC acc) .tip) v.n _ _ S ω wA nw.length 0 0 _ (by simp) ?_ ?_ ?_ ?_ ?_
     case refine_5=>
      intro τ2 q1 q2;have g4:=q1 4 (.inl rfl);have g5:=q1 5 (.inr rfl);simp[h4] at g4;simp[h5] at g5;rw[yOM,uW] at q2;unfold zKU;simp[g5,w5];refine yCE D A g hA (gcdW nw) (mY hnn hn1) nw (fun w hw=>by have:=hn1 w hw;have:=hn2 w hw;omega) (by omega) (.sl 3 (accC acc) .tip) v.n _ _ S nw.length 0 _ ω (by simp) ?_ ?_ ?_ ?_ w5 (by simpa using wA) ?_
      case refine_5=>
       intro τ3 ω3 k1 k2 k3;refine done τ3 ω3 _ [] ?_ ?_ (by rw[k2 4 (by omega)];exact w4) (by rw[k2 5 (by omega)];exact w5) (.inr ⟨A,g,hA,by simp,k3⟩) rfl
       ·rw[k1 4 (.inl rfl)];simp[g4]
       ·rw[k1 5 (.inr rfl)];simp[g5]
      all_goals simp[g5,q2]
     all_goals simp
   ·have hdv:divW kd (acc.map (·.2))=acc.map (·.2):=by unfold divW;rw[yRN h7']
    rw[hdv] at done;simp[h0,h7'];refine done _ ω W [] ?_ ?_ w4 w5 ?_ rfl
    ·simp[h4]
    ·simp[h5]
    ·rcases hW with ⟨rfl,e⟩ | ⟨hne,A,g,hA,e,wA⟩
     ·exact .inl ⟨e,rfl⟩
     ·exact .inr ⟨A,g,hA,by rw[yPC];exact e,wA⟩
 all_goals simp[uR,accC]
end Go.Ab.Tab
/- Values: the reference's normal,wide,Normal,Is. -/
namespace Go.Ab.Tab
open Go Go.Ab
def putV (f:Fu) (v:Va) (gs:List Va):Va:=if sets f.k then xY f.k (.mk v.n gs v.ws) else .mk v.n gs v.ws
def okV (n:Nat) (f:Fu) (v:Va):Bool:=wE f v&&(oD f n v&&yU f.k v)
mutual
def wI (n:Nat):Va->Fu->Option Va
 | .mk a gs ws,f=>if okV n f (.mk a gs ws) then (yM n gs (zY f (.mk a gs ws))).map (putV f (.mk a gs ws)) else none
def yM (n:Nat):List Va->List Fu->Option (List Va)
 | [],_=>some []
 | v::l,[]=>none
 | v::l,f::fs=>match wI n v f with
  | none=>none
  | some u=>(yM n l fs).map (u:: ·)
end
def v0:Va:= .mk 0 [] []
def nC (o:Option Va):AV:= .tup [encV (o.getD v0),.bool o.isSome]
theorem pZ (k n:Int) (gs:List Fu) (v:Va):zY (.mk k n gs) v=if k=0\/k=1 then [] else if k=2 then gs else if k=3 then (if v.n < 0\/1 < v.n then [] else (gs.drop v.n.toNat).take 1) else
 if k=4 then yOH n.toNat (gs.headD (.mk 0 0 [])) else yOH v.gs.length (gs.headD (.mk 0 0 [])):=rfl
theorem tZ {f:Fu} (hf:zH f=true) (v:Va):∀a∈zY f v,zH a=true:=by
 cases f with
 | mk k n gs=>
 obtain ⟨hl,_,_,hg⟩:=sZ hf;rw[pZ];have hd:(k=4\/k=5\/k=6\/k=7)->gs.headD (.mk 0 0 [])∈gs:=by
  intro h;have:arK k=1:=by unfold arK;rw[yRN (by omega),yRO h]
  match gs,hl with
  | [],hl=>rw[this] at hl;simp at hl
  | a::_,_=>simp
 have hk:k=0\/k=1\/k=2\/k=3\/k=4\/k=5\/k=6\/k=7:=by
  apply Classical.byContradiction;intro h;have:arK k= -1:=by unfold arK;repeat rw[yRN (by omega)]
  omega
 intro a ha;by_cases h0:k=0\/k=1
 ·rw[yRO h0] at ha;cases ha
 by_cases h2:k=2
 ·rw[yRN h0,yRO h2] at ha;exact hg a ha
 by_cases h3:k=3
 ·rw[yRN h0,yRN h2,yRO h3] at ha;by_cases h5:v.n < 0\/1 < v.n
  ·rw[yRO h5] at ha;cases ha
  ·rw[yRN h5] at ha;exact hg a (List.mem_of_mem_drop (List.mem_of_mem_take ha))
 by_cases h4:k=4
 ·rw[yRN h0,yRN h2,yRN h3,yRO h4] at ha;rw[(yPK.1 ha).2];exact hg _ (hd (by omega))
 ·rw[yRN h0,yRN h2,yRN h3,yRN h4] at ha;rw[(yPK.1 ha).2];exact hg _ (hd (by omega))
theorem zEC {f:Fu} (hf:zH f=true):f.k=1->1<=f.n/\f.n<=16:=by
 cases f with
 | mk k n gs=>
 obtain ⟨_,h1,h2,_⟩:=sZ hf;intro h;simp only[Fu.k] at h;subst h;have e:wO 1=16:=rfl;rw[e] at h1 h2;simp only[Fu.n];omega
theorem bA:∀{l:List Int} {s:Int},s<=1048576->wOk s l=true->(∀w∈l,1<=w)/\s+sumW l<=1048576
 | [],s,hs,_=>by simp[sumW];exact hs
 | w::l,s,hs,h=>by
  rw[wOk] at h;simp only[yOG,yRP] at h;obtain ⟨h1,h2⟩:=bA (by omega) h.2.2;refine ⟨fun x hx=> ?_,?_⟩
  ·rcases yOK.1 hx with rfl | hx
   ·exact h.1
   ·exact h1 x hx
  ·rw[sumW];omega
theorem rS {k:Int} {v:Va} (h:yU k v=true):(wtd k=true->v.ws.length=v.gs.length/\(∀w∈v.ws,1<=w)/\sumW v.ws<=1048576)/\(k=7->v.gs≠[])/\(wtd k=false->v.ws= []):=by
 unfold yU at h;split at h
 ·rename_i hw;simp only[yOG,yRP,yOQ] at h;obtain ⟨h1,h2⟩:=bA (by omega) h.1;refine ⟨fun _=>⟨h.2.1,h1,by omega⟩,fun h7 e=> ?_,fun h=>absurd h (by simp[hw])⟩;have:=h.2.2;rw[e] at this;rcases this with h | h
  ·omega
  ·simp at h
 ·rename_i hw;refine ⟨fun h=>absurd h hw,fun h7=> ?_,fun _=>yOR.1 (by simpa using h)⟩;subst h7;exact absurd rfl hw
theorem zTC (f:Fu) (v:Va) (gs:List Va):(putV f v gs).gs.length<=gs.length:=by
 unfold putV;split
 ·unfold xY;simp only[Va.gs,yPC];have:=oI (zipW f.k gs v.ws) [];have e:(zipW f.k gs v.ws).length<=gs.length:=by
   cases h:wtd f.k with
   | true=>rw[xW h,yOU];omega
   | false=>rw[vM h];simp
  simp only[Va.gs,Va.ws] at*;simp at this;omega
 ·exact yOP _
theorem zIN (v:Va):zJ v=1+zI v.gs:=by cases v;rw[zJ];rfl
theorem pA (v:Va):fitV v↔(v.gs.length<=maxLen/\v.ws.length<=maxLen)/\iB v.gs:=by cases v;rw[fitV];exact Iff.rfl
theorem fQ:∀{l:List Va},(∀a∈l,fitV a)->iB l
 | [],_=>by rw[iB];trivial
 | a::l,h=>by rw[iB];exact ⟨h a (by simp),fQ fun b hb=>h b (by simp[hb])⟩
theorem fH (u:Va) (w:Int):∀(l:List (Va×Int)) (a:Va×Int),a∈insP u w l->a.1=u\/∃b∈l,a.1=b.1
 | [],a,h=>by
  rw[insP,yON] at h;subst h;exact .inl rfl
 | (b,x)::l,a,h=>by
  rw[insP] at h;by_cases h1:0 < cmpV u b
  ·rw[yRO h1] at h;rcases yOK.1 h with rfl | h
   ·exact .inr ⟨_,yOO ..,rfl⟩
   ·rcases fH u w l a h with h | ⟨c,hc,e⟩
    ·exact .inl h
    ·exact .inr ⟨c,yOL _ hc,e⟩
  rw[yRN h1] at h;by_cases h2:cmpV u b=0
  ·rw[yRO h2] at h;rcases yOK.1 h with rfl | h
   ·exact .inr ⟨_,yOO ..,rfl⟩
   ·exact .inr ⟨a,yOL _ h,rfl⟩
  ·rw[yRN h2] at h;rcases yOK.1 h with rfl | h
   ·exact .inl rfl
   ·exact .inr ⟨a,h,rfl⟩
theorem dX:∀(l acc:List (Va×Int)) (a:Va×Int),a∈xV l acc->(∃b∈l,a.1=b.1)\/∃b∈acc,a.1=b.1
 | [],acc,a,h=> .inr ⟨a,h,rfl⟩
 | p::l,acc,a,h=>by
  rcases dX l (insP p.1 p.2 acc) a h with ⟨b,hb,e⟩ | ⟨b,hb,e⟩
  ·exact .inl ⟨b,yOL _ hb,e⟩
  ·rcases fH _ _ _ _ hb with e' | ⟨c,hc,e'⟩
   ·exact .inl ⟨p,yOO ..,e.trans e'⟩
   ·exact .inr ⟨c,hc,e.trans e'⟩
theorem gX (f:Fu) (v:Va) (gs:List Va):∀a∈(putV f v gs).gs,a∈gs:=by
 unfold putV;split
 ·unfold xY;intro a ha;simp only[Va.gs] at ha;obtain ⟨p,hp,rfl⟩:=yOJ.1 ha;rcases dX _ _ _ hp with ⟨b,hb,e⟩ | ⟨b,hb,e⟩
  ·rw[e];cases h:wtd f.k with
   | true=>rw[xW h] at hb;exact (yPB hb).1
   | false=>
    rw[vM h] at hb;obtain ⟨c,hc,rfl⟩:=yOJ.1 hb;exact hc
  ·cases hb
 ·exact fun a ha=>ha
theorem zMB (k:Int) (gs:List Va) (ws:List Int):(zipW k gs ws).length<=gs.length:=by
 cases h:wtd k with
 | true=>rw[xW h,yOU];omega
 | false=>rw[vM h];simp
theorem zEJ (k:Int) (a:Int) (gs:List Va) (ws:List Int):(xY k (.mk a gs ws)).ws.length<=gs.length:=by
 have h1:=oI (zipW k gs ws) [];have h2:=zMB k gs ws;have h3:(xY k (.mk a gs ws)).ws=if wtd k then divW k ((xV (zipW k gs ws) []).map (·.2)) else []:=rfl
 rw[h3,];simp at h1;cases wtd k with
 | false=>simp
 | true=>
  rw[yRO rfl];unfold divW;by_cases h7:k=7
  ·rw[yRO h7];simp;omega
  ·rw[yRN h7];simp;omega
theorem zTB (f:Fu) (v:Va) (gs:List Va):(putV f v gs).ws.length<=max gs.length v.ws.length:=by
 unfold putV;split
 ·exact yPD (zEJ _ _ _ _) (Nat.le_max_left _ _)
 ·exact Nat.le_max_right _ _
theorem rV {n:Nat}:∀{l:List Va} {fs:List Fu} {gs:List Va},yM n l fs=some gs->gs.length=l.length
 | [],_,gs,h=>by rw[yM] at h;injection h with h;subst h;rfl
 | v::l,[],gs,h=>by rw[yM] at h;cases h
 | v::l,f::fs,gs,h=>by
  rw[yM] at h;cases h1:wI n v f with
  | none=>rw[h1] at h;cases h
  | some u=>
   rw[h1] at h;cases h2:yM n l fs with
   | none=>rw[h2] at h;cases h
   | some q=>
    rw[h2] at h;injection h with h;subst h;rw[yOW,rV h2,yOW]
theorem iR {n:Nat}:∀{l:List Va} {fs:List Fu} {gs:List Va},(∀v∈l,∀f u,wI n v f=some u->fitV u)->yM n l fs=some gs->∀a∈gs,fitV a
 | [],_,gs,_,h=>by rw[yM] at h;injection h with h;subst h;intro a ha;cases ha
 | v::l,[],gs,_,h=>by rw[yM] at h;cases h
 | v::l,f::fs,gs,hv,h=>by
  rw[yM] at h;cases h1:wI n v f with
  | none=>rw[h1] at h;cases h
  | some u=>
   rw[h1] at h;cases h2:yM n l fs with
   | none=>rw[h2] at h;cases h
   | some q=>
    rw[h2] at h;injection h with h;subst h;intro a ha;rcases yOK.1 ha with rfl | ha
    ·exact hv v (yOO ..) f a h1
    ·exact iR (fun w hw=>hv w (yOL _ hw)) h2 a ha
theorem zMN (f:Fu) (v:Va) (gs:List Va) (hv:fitV v) (hl:gs.length=v.gs.length) (hg:∀a∈gs,fitV a):fitV (putV f v gs):=by
 rw[pA] at hv|-;have h1:=zTC f v gs;have h2:=zTB f v gs;refine ⟨⟨by omega,by have:=Nat.max_le.2 ⟨(by omega:gs.length<=maxLen),hv.1.2⟩;omega⟩,fQ fun a ha=>hg a (gX f v gs a ha)⟩
theorem lV {n:Nat}:∀(v:Va),fitV v->∀f u,wI n v f=some u->fitV u:=by
 refine Va.ind' fun a gs ws hrec=> ?_;intro hv f u h;rw[wI] at h;split at h
 ·cases h1:yM n gs (zY f (.mk a gs ws)) with
  | none=>rw[h1] at h;cases h
  | some q=>
   rw[h1] at h;injection h with h;subst h;have hf:=(pA _).1 hv;exact zMN f _ q hv (rV h1) (iR (fun v hv'=>hrec v hv' (y8 hf.2 v hv')) h1)
 ·cases h
theorem l121 (D:Nat) (f:Fu) (hf:zH f=true) (nn:Nat) (v:Va) (hv:fitV v) (hvl:v.gs.length<=2000) (hok:okV nn f v=true)
  (hrec:∀a∈v.gs,∀(f:Fu),zH f=true->∀(D:Nat),Go.Ab.Loc Pg Gl D 138 [encF f,.int .i64 nn,encV a] [] (nC (wI nn a f)) []) (S):
  ∀(j i:Nat) (acc:List Va) (tp:Tip) (τ ω) (r:AV),i+j=v.gs.length->(tp= .tip\/tp= .nil)->acc.length=i->(∀a∈acc,fitV a)->
  τ 1= .int .i64 nn->τ 3= .ptr D 3 1 0->τ 5= .ptr D 5 1 0->τ 6= .ptr D 6 1 0->τ 8= .sl 3 ((zY f v).map encF) .no->τ 10= .ptr D 10 1 0->τ 45= .sl 3 (v.gs.map encV) .no->τ 46= .int .i64 v.gs.length->τ 47= .int .i64 i->
  ω 3=(1,.cells [.int .i64 f.k,.int .i64 f.n,.sl 3 (f.gs.map encF) .no])->ω 6=(1,.cells [.int .i64 0,.sl 3 [] .tip,.sl 1 [] .tip])->
  ω 10=(1,.cells [.int .i64 v.n,.sl 3 (acc.map encV) tp,.sl 1 (v.ws.map (AV.int .i64)) .no])->
  r=nC ((yM nn (v.gs.drop i) ((zY f v).drop i)).map fun q=>putV f v (acc++q))->
  Rd (Loc Pg Gl) .im (RetQ [.cell 6 true 3,.tmp 7] r S) [.lp c138_l0,.blk 0,.c a9] (stF 80 D τ ω S):=by
 intro j
 induction j with
 | zero=>
  intro i acc tp τ ω r hi htp hal haf h1 h3 h5 h6 h8 h10 h45 h46 h47 w3 w6 w10 hr;refine zN c138_l0.eq_1 ?_;obtain rfl:i=v.gs.length:=by omega
  rw[yOI,yM] at hr;simp[h1,h3,h5,h6,h8,h10,h45,h46,h47,w3,w6,w10,a9];refine zE (zHE _ f.k) (by simp) ?_;have hok':=hok;unfold okV at hok';simp only[yOG] at hok';obtain ⟨hw1,hw2,hw3⟩:=rS hok'.2.2;simp only[yPL,yPM,putV] at hr;cases hs:sets f.k with
  | false=>
   rw[hs] at hr;simp at hr;rw[nC] at hr;simp[zT] at hr;simp[h3,h6,h10,w3,w6,w10];rcases htp with rfl | rfl<;>simp[hr]
  | true=>
   rw[hs] at hr;simp at hr;simp[h3,h6,h10,w3,w6,w10];refine zE (zSO _ f.k (.mk v.n acc v.ws) (by show acc.length<=_;omega) haf (fun h=>by have:=hw1 h;exact ⟨by show v.ws.length=acc.length;omega,this.2⟩) (fun h e=>by have:=hw2 h;have e:acc= []:=e;rw[e] at hal;exact this (yOR.1 hal.symm))) (by rcases htp with rfl | rfl<;>simp[zT]) ?_
   rw[nC] at hr;rw[zC] at hr;simp at hr;rw[zC];simp[h3,h6,h10,w3,w6,w10];simp[hr]
 | succ j ih=>
  intro i acc tp τ ω r hi htp hal haf h1 h3 h5 h6 h8 h10 h45 h46 h47 w3 w6 w10 hr;refine zN c138_l0.eq_1 ?_;have hlt:i < v.gs.length:=by omega
  have hwr:=yA hlt (by unfold maxLen;omega);have hpl:(zY f v).length=v.gs.length:=by
   unfold okV wE at hok;simp only[yOG,yRP] at hok;exact hok.1.2
  have hlp:i < (zY f v).length:=by omega
  have hle:(i+1)*56<=1099511627776:=by omega
  simp[h1,h3,h5,h6,h8,h10,h45,h46,h47,w3,w6,w10,hlt,hlp,hwr,zC v.gs[i],zB (zY f v)[i]];rw[yOF hlt,yOF hlp,yM] at hr;refine zW (hrec v.gs[i] (yOD hlt) (zY f v)[i] (tZ hf v _ (yOD hlp)) _) (by simp[zC v.gs[i],zB (zY f v)[i]]) ?_;cases hu:wI nn v.gs[i] (zY f v)[i] with
  | none=>
   rw[hu] at hr;simp[nC,v0,zT] at hr;simp[nC,v0,zT,h6,w6];simp[hr]
  | some u=>
   rw[hu] at hr;simp only[Option.map_map] at hr;have htp':(tp= .nil\/tp= .tip)=True:=by simp;exact htp.symm
   simp[nC,htp,htp',zC u,h10,w10,hal,hle,h47,hwr];refine ih (i+1) (acc++[u]) .tip _ _ r (by omega) (.inl rfl) (by simp[hal]) ?_ ?_ ?_ ?_ ?_ ?_ ?_ ?_ ?_ ?_ ?_ ?_ ?_ ?_
   case refine_1=>
    intro b hb;rcases yPN.1 hb with hb | hb
    ·exact haf b hb
    ·rw[yON.1 hb];exact lV _ (y8 ((pA _).1 hv).2 _ (yOD hlt)) _ _ hu
   case refine_14=>
    rw[hr];congr 2
    funext q
    simp
   all_goals simp[h1,h3,h5,h6,h8,h10,h45,h46,h47,w3,w6,zC u]
theorem zSN (nn:Nat) (hn:nn<=100):∀(v:Va),fitV v->zJ v<=2000->∀(f:Fu),zH f=true->∀(D:Nat),Go.Ab.Loc Pg Gl D 138 [encF f,.int .i64 nn,encV v] [] (nC (wI nn v f)) []:=by
 refine Va.ind' fun a gs ws hrec=> ?_;intro hv hnod f hf D;have hfv:=(pA _).1 hv;rw[zJ] at hnod;have hgl:gs.length<=2000:=by have:=uM gs;omega
 refine zP zF tok rfl rfl fun S=> ?_;unfold c138;generalize hr:nC (wI nn (.mk a gs ws) f)=r;rw[wI] at hr;generalize hv':Va.mk a gs ws=v at*;have ev:v.gs=gs:=by rw[<-hv'];rfl
 have ew:v.ws=ws:=by rw[<-hv'];rfl
 rw[zB f,zC v];simp;refine zE (bK _ f hf v (by rw[ev];omega)) (by simp[zB f,zC v]) ?_;simp[iI];cases h1:wE f v with
 | false=>
  simp;rw[<-hr,yRN (by simp[okV,h1, *])];simp[nC,v0,zT]
 | true=>
 simp;refine zE (zSE _ f nn hn (zEC hf) v) (by simp[zB f,zC v]) ?_;cases h2:oD f nn v with
 | false=>
  simp;rw[<-hr,yRN (by simp[okV,h1, *])];simp[nC,v0,zT]
 | true=>
 simp;refine zE (zSD _ f.k v hfv.1.2) (by simp[zB f,zC v]) ?_;cases h3:yU f.k v with
 | false=>
  simp;rw[<-hr,yRN (by simp[okV,h1, *])];simp[nC,v0,zT]
 | true=>
 have hok:okV nn f v=true:=by simp[okV,h1,h2,h3]
 obtain ⟨hw1,_,hw2⟩:=rS h3;have hwl:v.ws.length*8<=1099511627776:=by
  cases h:wtd f.k with
  | true=>have:=(hw1 h).1;rw[ev] at this;omega
  | false=>rw[hw2 h];simp
 simp[hwl];refine l121 D f hf nn v hv (by rw[ev];exact hgl) hok (fun b hb f hf D=>hrec b (by rw[ev] at hb;exact hb) (y8 hfv.2 b hb) (by have:=wU hb;rw[ev] at this;omega) f hf D) S v.gs.length 0 [] .tip _ _ r (by omega) (.inl rfl) rfl (by simp) ?_ ?_ ?_ ?_ ?_ ?_ ?_ ?_ ?_ ?_ ?_ ?_ ?_
 case refine_13=>rw[<-hr,yRO hok,ev];simp
 all_goals simp
end Go.Ab.Tab
/- Values: the reference's wide,Normal,Is. -/
namespace Go.Ab.Tab
open Go Go.Ab
mutual
def qL:Va->Fu->Bool
 | .mk a gs ws,f=>(sets f.k&&decide (100 < gs.length)) || pK gs (zY f (.mk a gs ws))
def pK:List Va->List Fu->Bool
 | [],_=>false
 | v::l,[]=>false
 | v::l,f::fs=>qL v f || pK l fs
end
mutual
def ptV:Va->Fu->Prop
 | .mk a gs ws,f=>(zY f (.mk a gs ws)).length=gs.length/\ptVs gs (zY f (.mk a gs ws))
def ptVs:List Va->List Fu->Prop
 | [],_=>True
 | v::l,[]=>True
 | v::l,f::fs=>ptV v f/\ptVs l fs
end
theorem mU:∀{l:List Va} {fs:List Fu},ptVs l fs->∀(i:Nat) (h1:i < l.length) (h2:i < fs.length),ptV l[i] fs[i]
 | [],_,_,i,h1,_=>absurd h1 (by simp)
 | v::l,[],_,i,_,h2=>absurd h2 (by simp)
 | v::l,f::fs,h,i,h1,h2=>by
  rw[ptVs] at h;cases i with
  | zero=>exact h.1
  | succ i=>exact mU h.2 i (by simpa using h1) (by simpa using h2)
theorem zBS {g:Fu}:∀{l:List Va} (m:Nat),(∀a∈l,ptV a g)->ptVs l (yOH m g)
 | [],m,_=>by rw[ptVs];trivial
 | v::l,0,_=>by rw[List.replicate_zero,ptVs];trivial
 | v::l,m+1,h=>by rw[yPE,ptVs];exact ⟨h v (by simp),zBS m fun a ha=>h a (by simp[ha])⟩
theorem dG {n:Nat}:∀{l:List Va} {fs:List Fu} {gs:List Va},(∀v∈l,∀f u,wI n v f=some u->ptV u f)->yM n l fs=some gs->ptVs gs fs
 | [],_,gs,_,h=>by rw[yM] at h;injection h with h;subst h;rw[ptVs];trivial
 | v::l,[],gs,_,h=>by rw[yM] at h;cases h
 | v::l,f::fs,gs,hv,h=>by
  rw[yM] at h;cases h1:wI n v f with
  | none=>rw[h1] at h;cases h
  | some u=>
   rw[h1] at h;cases h2:yM n l fs with
   | none=>rw[h2] at h;cases h
   | some q=>
    rw[h2] at h;injection h with h;subst h;rw[ptVs];exact ⟨hv v (yOO ..) f u h1,dG (fun w hw=>hv w (yOL _ hw)) h2⟩
theorem zHT {k:Int} (h:sets k=true):k=5\/k=6\/k=7:=by
 unfold sets wtd at h;simpa only[yOQ,yRP] using h
theorem sA {f:Fu} (h:sets f.k=true) (v:Va):zY f v=yOH v.gs.length (f.gs.headD (.mk 0 0 [])):=by
 cases f with
 | mk k n gs=>
 rw[pZ];have:k=5\/k=6\/k=7:=zHT h;rw[yRN (by omega),yRN (by omega),yRN (by omega),yRN (by omega)];rfl
theorem mA {f:Fu} (v u:Va) (h1:v.n=u.n) (h2:v.gs.length=u.gs.length):zY f v=zY f u:=by
 cases f with
 | mk k n gs=>rw[pZ,pZ,h1,h2]
theorem zTD (v:Va) (f:Fu):ptV v f↔(zY f v).length=v.gs.length/\ptVs v.gs (zY f v):=by
 cases v;rw[ptV];exact Iff.rfl
theorem zMW {n:Nat}:∀(v:Va) (f u),wI n v f=some u->ptV u f:=by
 refine Va.ind' fun a gs ws hrec=> ?_;intro f u h;rw[wI] at h;split at h
 ·rename_i hok;cases h1:yM n gs (zY f (.mk a gs ws)) with
  | none=>rw[h1] at h;cases h
  | some q=>
   rw[h1] at h;injection h with h;subst h;have hp:=dG (fun v hv=>hrec v hv) h1;have hl:=rV h1;rw[zTD];cases hs:sets f.k with
   | true=>
    rw[sA hs];rw[sA hs] at hp;refine ⟨by simp,zBS _ fun b hb=> ?_⟩;have hb:=gX f _ q b hb;obtain ⟨i,hi,rfl⟩:=yPO hb;have:=mU hp i hi (by rw[yPF];show i < gs.length;omega);rwa [yPP] at this
   | false=>
    have e:putV f (.mk a gs ws) q= .mk a q ws:=by unfold putV;rw[hs];rfl
    rw[e];have e2:zY f (.mk a q ws)=zY f (.mk a gs ws):=mA _ _ rfl hl;rw[e2];refine ⟨?_,hp⟩;unfold okV wE at hok;simp only[yOG,yRP] at hok;exact hok.1.2.trans hl.symm
 ·cases h
theorem l122 (D:Nat) (f:Fu) (hf:zH f=true) (v:Va) (hvl:v.gs.length<=maxLen) (hpl:(zY f v).length=v.gs.length)
  (hrec:∀(i:Nat) (h1:i < v.gs.length) (h2:i < (zY f v).length),∀(D:Nat),Go.Ab.Loc Pg Gl D 139 [encF (zY f v)[i],encV v.gs[i]] [] (.bool (qL v.gs[i] (zY f v)[i])) []) (S):
  ∀(j i:Nat) (τ ω) (r:AV),i+j=v.gs.length->
  τ 5= .sl 3 ((zY f v).map encF) .no->τ 25= .sl 3 (v.gs.map encV) .no->τ 26= .int .i64 v.gs.length->τ 27= .int .i64 i->
  r= .bool (pK (v.gs.drop i) ((zY f v).drop i))->
  Rd (Loc Pg Gl) .im (RetQ [.tmp 4] r S) [.lp c139_l0,.blk 0,.c a8] (stF 39 D τ ω S):=by
 intro j
 induction j with
 | zero=>
  intro i τ ω r hi h5 h25 h26 h27 hr;refine zN c139_l0.eq_1 ?_;obtain rfl:i=v.gs.length:=by omega
  rw[yOI,pK] at hr;simp[h5,h25,h26,h27,a8,hr]
 | succ j ih=>
  intro i τ ω r hi h5 h25 h26 h27 hr;refine zN c139_l0.eq_1 ?_;have hlt:i < v.gs.length:=by omega
  have hwr:=yA hlt hvl;have hlp:i < (zY f v).length:=by omega
  rw[yOF hlt,yOF hlp,pK] at hr;simp[h5,h25,h26,h27,hlt,hlp,hwr,zC v.gs[i],zB (zY f v)[i]];refine zW (hrec i hlt hlp _) (by simp[zC v.gs[i],zB (zY f v)[i]]) ?_;cases hb:qL v.gs[i] (zY f v)[i] with
  | true=>
   rw[hb,yPG] at hr;simp[hr]
  | false=>
   rw[hb,yOS] at hr;simp[h27,hwr];refine ih (i+1) _ _ r (by omega) ?_ ?_ ?_ ?_ hr;all_goals simp[h5,h25,h26,h27]
theorem zSM:∀(v:Va),fitV v->zJ v<=2^32->∀(f:Fu),zH f=true->ptV v f->∀(D:Nat),Go.Ab.Loc Pg Gl D 139 [encF f,encV v] [] (.bool (qL v f)) []:=by
 refine Va.ind' fun a gs ws hrec=> ?_;intro hv hnod f hf hp D;have hfv:=(pA _).1 hv;rw[zJ] at hnod;rw[ptV] at hp;have hgl:gs.length<=2^32:=by have:=uM gs;omega
 refine zP zF tok rfl rfl fun S=> ?_;unfold c139;generalize hr:AV.bool (qL (.mk a gs ws) f)=r;rw[qL] at hr;rw[zB f,zT];simp;refine zE (zHE _ f.k) (by simp) ?_;have hw:(sets f.k&&decide (100 < gs.length))=true\/(sets f.k&&decide (100 < gs.length))=false:=by cases (sets f.k&&decide (100 < gs.length))<;>simp
 have hsn:v0.n=0:=rfl;rcases hw with hw | hw
 ·rw[hw,yPG] at hr;simp only[yOG,yRP] at hw;have h100:100 < (gs.length:Int):=by have:=hw.2;omega
  simp[hw.1,h100,<-hr]
 rw[hw,yOS] at hr;have hl:(Va.mk a gs ws).gs.length=gs.length:=rfl;cases hs:sets f.k
 case false=>
  simp;refine zE (bK _ f hf (.mk a gs ws) (by rw[hl];exact hgl)) (by simp[zB f,zT]) ?_;simp[iI];refine l122 D f hf (.mk a gs ws) hfv.1.1 hp.1 (fun i h1 h2 D=>hrec _ (yOD h1) (y8 hfv.2 _ (yOD h1)) (by have:=wU (yOD h1);show zJ gs[i]<=_;have:zJ gs[i]<=zI gs:=this;omega) _ (tZ hf _ _ (yOD h2)) (mU hp.2 i h1 h2) D) S gs.length 0 _ _ r (by rw[hl];omega) ?_ ?_ ?_ ?_ hr.symm;all_goals simp
  all_goals rfl
 case true=>
  have h100:¬100 < (gs.length:Int):=by rw[hs] at hw;simp at hw;omega
  simp[h100];refine zE (bK _ f hf (.mk a gs ws) (by rw[hl];exact hgl)) (by simp[zB f,zT]) ?_;simp[iI];refine l122 D f hf (.mk a gs ws) hfv.1.1 hp.1 (fun i h1 h2 D=>hrec _ (yOD h1) (y8 hfv.2 _ (yOD h1)) (by have:=wU (yOD h1);show zJ gs[i]<=_;have:zJ gs[i]<=zI gs:=this;omega) _ (tZ hf _ _ (yOD h2)) (mU hp.2 i h1 h2) D) S gs.length 0 _ _ r (by rw[hl];omega) ?_ ?_ ?_ ?_ hr.symm;all_goals simp
  all_goals rfl
def oE (f:Fu) (n:Nat) (v:Va):Option Va×Int:=
 if 2000 < zJ v then (none,20) else match wI n v f with
  | none=>(none,20)
  | some u=>if qL u f then (none,2) else (some u,0)
def qS (p:Option Va×Int):AV:= .tup [encV (p.1.getD v0),.int .i64 p.2]
theorem zCY:encV v0= .agg [.int .i64 0,.sl 3 [] .no,.sl 1 [] .no]:=by rw[v0,zT];rfl
theorem zSU (f:Fu) (hf:zH f=true) (n:Nat) (hn:n<=100) (v:Va) (hv:fitV v) (hb:∀u,wI n v f=some u->zJ u<=2^32) (D:Nat):Go.Ab.Loc Pg Gl D 111 [encF f,.int .i64 n,encV v] [] (qS (oE f n v)) []:=by
 refine zP zF tok rfl rfl fun S=> ?_;unfold c111;generalize hr:qS (oE f n v)=r;unfold oE at hr;rw[zB f,zC v];simp;refine zE (zHN v hv _ 2001 (by omega) (by omega)) (by simp[zC v]) ?_;by_cases hz:2000 < zJ v
 ·have e:((2001 - zJ v:Nat):Int)=0:=by omega
  rw[yRO hz] at hr;simp[qS,zCY] at hr;rw[e];simp[hr]
 ·rw[yRN hz] at hr;have e:¬((2001 - zJ v:Nat):Int)=0:=by omega
  generalize ((2001 - zJ v:Nat):Int)=q at e;simp[e];refine zE (zSN n hn v hv (by omega) f hf _) (by simp[zC v,zB f]) ?_;simp[nC];cases hu:wI n v f with
  | none=>
   rw[hu] at hr;simp[qS,zCY] at hr;simp[zCY,hr]
  | some u=>
   rw[hu] at hr;simp only at hr;simp[zC u];refine zE (zSM u (lV v hv f u hu) (hb u hu) f hf (zMW v f u hu) _) (by simp[zC u,zB f]) ?_;cases hw:qL u f with
   | true=>
    rw[hw] at hr;simp[qS,zCY] at hr;simp[hr]
   | false=>
    rw[hw] at hr;simp[qS,zC u] at hr;simp[hr]
def isV (f:Fu) (n:Nat) (v:Va):Bool:=decide ((oE f n v).2=0)&&decide (cmpV ((oE f n v).1.getD v0) v=0)
theorem yAU (f:Fu) (hf:zH f=true) (n:Nat) (hn:n<=100) (v:Va) (hv:fitV v) (hb:∀u,wI n v f=some u->zJ u<=2^32) (D:Nat):Go.Ab.Loc Pg Gl D 54 [encF f,.int .i64 n,encV v] [] (.bool (isV f n v)) []:=by
 refine zP zF tok rfl rfl fun S=> ?_;unfold c54;generalize hr:AV.bool (isV f n v)=r;unfold isV at hr;rw[zB f,zC v];simp;refine zE (zSU f hf n hn v hv hb _) (by simp[zC v,zB f]) ?_;simp[qS];have hfu:fitV ((oE f n v).1.getD v0):=by
  have h0:fitV v0:=by unfold v0;rw[fitV,iB];simp
  unfold oE;split
  ·exact h0
  ·cases hu:wI n v f with
   | none=>exact h0
   | some u=>
    simp only;split
    ·exact h0
    ·exact lV v hv f u hu
 generalize (oE f n v).1.getD v0=u at hr hfu;generalize (oE f n v).2=c at hr;rw[zC u];by_cases hc:c=0
 ·simp[hc] at hr;simp[hc];refine zE (zSW u v hfu _) (by simp[zC u,zC v]) ?_;simp[<-hr]
 ·simp[hc] at hr;have hd:decide (c=0)=false:=decide_eq_false hc;simp[hc,<-hr,hd]
end Go.Ab.Tab
/- Values in normal form: the plain law between the reference's normal and a local criterion. -/
namespace Go.Ab.Tab
open Go Go.Ab
def incr:List Va->Bool
 | []=>true
 | [_]=>true
 | a::b::l=>decide (cmpV a b < 0)&&incr (b::l)
theorem uO {a:Va} {l:List Va}:incr (a::l)=true↔(∀b∈l,ltV a b)/\incr l=true:=by
 induction l generalizing a with
 | nil=>simp[incr]
 | cons b l ih=>
  rw[incr,yOG,yRP];constructor
  ·intro ⟨h1,h2⟩;refine ⟨fun c hc=> ?_,h2⟩;rcases yOK.1 hc with rfl | hc
   ·exact h1
   ·exact ltV.trans h1 ((ih.1 h2).1 c hc)
  ·intro ⟨h1,h2⟩;exact ⟨h1 b (by simp),h2⟩
theorem l7 {l m:List Va}:incr (l++m)=true↔incr l=true/\incr m=true/\∀a∈l,∀b∈m,ltV a b:=by
 induction l with
 | nil=>simp[incr]
 | cons a l ih=>
  rw[List.cons_append,uO,uO,ih];constructor
  ·intro ⟨h1,h2,h3,h4⟩;refine ⟨⟨fun b hb=>h1 b (by simp[hb]),h2⟩,h3,fun x hx b hb=> ?_⟩;rcases yOK.1 hx with rfl | hx
   ·exact h1 b (by simp[hb])
   ·exact h4 x hx b hb
  ·intro ⟨⟨h1,h2⟩,h3,h4⟩;refine ⟨fun b hb=> ?_,h2,h3,fun x hx b hb=>h4 x (by simp[hx]) b hb⟩;rcases yPN.1 hb with hb | hb
   ·exact h1 b hb
   ·exact h4 a (by simp) b hb
theorem dR (u:Va) (w:Int):∀(l:List (Va×Int)),incr (l.map (·.1))=true->incr ((insP u w l).map (·.1))=true
 | [],_=>by simp[insP,incr]
 | (a,x)::l,h=>by
  rw[yOE,uO] at h;rw[insP];by_cases h1:0 < cmpV u a
  ·rw[yRO h1,yOE,uO];refine ⟨fun b hb=> ?_,dR u w l h.2⟩;obtain ⟨p,hp,rfl⟩:=yOJ.1 hb;rcases fH u w l p hp with e | ⟨q,hq,e⟩
   ·rw[e];exact zDG.1 h1
   ·rw[e];exact h.1 _ (yOJ.2 ⟨q,hq,rfl⟩)
  rw[yRN h1];by_cases h2:cmpV u a=0
  ·rw[yRO h2,yOE,uO];exact h
  ·rw[yRN h2,yOE,uO];have hua:ltV u a:=by unfold ltV;omega
   refine ⟨fun b hb=> ?_,?_⟩
   ·rw[yOE] at hb;rcases yOK.1 hb with rfl | hb
    ·exact hua
    ·exact ltV.trans hua (h.1 b hb)
   ·rw[yOE,uO];exact h
theorem i8:∀(l acc:List (Va×Int)),incr (acc.map (·.1))=true->incr ((xV l acc).map (·.1))=true
 | [],acc,h=>h
 | p::l,acc,h=>i8 l _ (dR p.1 p.2 acc h)
theorem zCI (u:Va) (w:Int):∀(l:List (Va×Int)),(∀a∈l,ltV a.1 u)->insP u w l=l++[(u,w)]
 | [],_=>rfl
 | (a,x)::l,h=>by
  rw[insP,yRO (show 0 < cmpV u a from zDG.2 (h (a,x) (by simp))),zCI u w l fun b hb=>h b (by simp[hb])];rfl
theorem rG:∀(l acc:List (Va×Int)),incr ((acc++l).map (·.1))=true->xV l acc=acc++l
 | [],acc,_=>by simp[xV]
 | p::l,acc,h=>by
  have e:xV (p::l) acc=xV l (insP p.1 p.2 acc):=rfl;rw[e];rw[yPQ,l7] at h;rw[zCI p.1 p.2 acc fun a ha=>h.2.2 a.1 (yOJ.2 ⟨a,ha,rfl⟩) p.1 (by simp)];rw[rG l (acc++[(p.1,p.2)]) ?_]
  ·simp
  ·rw[List.append_assoc,yPQ,l7];exact h
theorem zPD:∀{l:List Int} {s:Int},s+sumW l<=1048576->(∀w∈l,1<=w)->wOk s l=true
 | [],s,_,_=>rfl
 | w::l,s,hs,h=>by
  rw[sumW] at hs;have h1:=h w (by simp);have h2:0<=sumW l:=tW fun x hx=>by have:=h x (by simp[hx]);omega
  rw[wOk,decide_eq_true h1,decide_eq_true (show w<=1048576 - s by omega),zPD (by omega) fun x hx=>h x (by simp[hx])];rfl
theorem zCF (u:Va) (w:Int):∀(l:List (Va×Int)),sumW ((insP u w l).map (·.2))=w+sumW (l.map (·.2))
 | []=>by simp[insP,sumW]
 | (a,x)::l=>by
  rw[insP];by_cases h1:0 < cmpV u a
  ·rw[yRO h1,yOE,sumW,zCF u w l,yOE,sumW];omega
  rw[yRN h1];by_cases h2:cmpV u a=0
  ·rw[yRO h2];simp only[yOE,sumW];omega
  ·rw[yRN h2];simp only[yOE,sumW]
theorem dW:∀(l acc:List (Va×Int)),sumW ((xV l acc).map (·.2))=sumW (l.map (·.2))+sumW (acc.map (·.2))
 | [],acc=>by simp[xV,sumW]
 | p::l,acc=>by
  have e:xV (p::l) acc=xV l (insP p.1 p.2 acc):=rfl;rw[e,dW l,zCF,yOE,sumW];omega
theorem i6 (u:Va) (w:Int):∀(l:List (Va×Int)),zI ((insP u w l).map (·.1))<=zJ u+zI (l.map (·.1))
 | []=>by simp[insP,zI]
 | (a,x)::l=>by
  rw[insP];by_cases h1:0 < cmpV u a
  ·have:=i6 u w l;rw[yRO h1,yOE,zI,yOE,zI];omega
  rw[yRN h1];by_cases h2:cmpV u a=0
  ·rw[yRO h2];simp only[yOE,zI];omega
  ·rw[yRN h2];simp only[yOE,zI];omega
theorem jA:∀(l acc:List (Va×Int)),zI ((xV l acc).map (·.1))<=zI (l.map (·.1))+zI (acc.map (·.1))
 | [],acc=>by simp[xV,zI]
 | p::l,acc=>by
  have e:xV (p::l) acc=xV l (insP p.1 p.2 acc):=rfl;have h1:=jA l (insP p.1 p.2 acc);have h2:=i6 p.1 p.2 acc;rw[e,yOE,zI];omega
theorem uP:∀(l:List Int) (g:Nat),∀w∈l,wP g l∣w.toNat
 | [],_,w,hw=>by cases hw
 | a::l,g,w,hw=>by
  rcases yOK.1 hw with rfl | hw
  ·exact Nat.dvd_trans (qW l _) (Nat.gcd_dvd_right _ _)
  ·exact uP l _ w hw
theorem l8 (d:Nat) (hd:0 < d):∀(l:List Int) (g:Nat),(∀w∈l,0<=w/\(d:Int)∣w)->wP (d*g) l=d*wP g (l.map fun w=>w.tdiv d)
 | [],g,_=>rfl
 | a::l,g,h=>by
  have e1:wP (d*g) (a::l)=wP (Nat.gcd (d*g) a.toNat) l:=rfl;have e2:wP g ((a::l).map fun w=>w.tdiv d)=wP (Nat.gcd g (a.tdiv d).toNat) (l.map fun w=>w.tdiv d):=rfl;obtain ⟨h0,h1⟩:=h a (by simp);have e3:a.toNat=d*(a.tdiv d).toNat:=by
   obtain ⟨c,rfl⟩:=h1;have hc:0<=c:=by
    apply Classical.byContradiction;intro hc;have:(d:Int)*c < 0:=Int.mul_neg_of_pos_of_neg (by omega) (by omega);omega
   obtain ⟨c,rfl⟩:=yPR hc;rw[Int.mul_tdiv_cancel_left _ (by omega)]
   show ((d:Int)*(c:Int)).toNat=d*c
   rw[<-Int.natCast_mul];rfl
  rw[e1,e2,e3,Nat.gcd_mul_left,l8 d hd l _ fun w hw=>h w (by simp[hw])]
theorem zNH {l:List Int} (hne:l≠[]) (h:∀w∈l,1<=w):gcdW (l.map fun w=>w.tdiv (gcdW l))=1:=by
 have hp:=mY hne h;have hm:=l8 (gcdW l) hp l 0 fun w hw=>⟨by have:=h w hw;omega,by
  have h1:=uP l 0 w hw;have h2:=h w hw;have:((gcdW l:Nat):Int)∣((w.toNat:Nat):Int):=Int.natCast_dvd_natCast.2 h1;rwa [Int.toNat_of_nonneg (by omega)] at this⟩
 rw[Nat.mul_zero,uW] at hm;have:gcdW l*gcdW (l.map fun w=>w.tdiv (gcdW l))=gcdW l*1:=by
  rw[Nat.mul_one];exact hm.symm
 exact Nat.eq_of_mul_eq_mul_left hp this
end Go.Ab.Tab
/- Values in normal form: a value is its own normal form just if it meets a local criterion. -/
namespace Go.Ab.Tab
open Go Go.Ab
def qP (k:Int) (v:Va):Bool:= !(sets k) || (incr v.gs&&(!(decide (k=7)) || decide (gcdW v.ws=1)))
mutual
def valN (n:Nat):Va->Fu->Bool
 | .mk a gs ws,f=>okV n f (.mk a gs ws)&&(qP f.k (.mk a gs ws)&&vZ n gs (zY f (.mk a gs ws)))
def vZ (n:Nat):List Va->List Fu->Bool
 | [],_=>true
 | v::l,[]=>false
 | v::l,f::fs=>valN n v f&&vZ n l fs
end
theorem zBB (n:Nat) (v:Va) (f:Fu):valN n v f=(okV n f v&&(qP f.k v&&vZ n v.gs (zY f v))):=by
 cases v;rw[valN];rfl
theorem lE {n:Nat}:∀{l:List Va} {fs:List Fu},vZ n l fs=true->∀(i:Nat) (h1:i < l.length) (h2:i < fs.length),valN n l[i] fs[i]=true
 | [],_,_,i,h1,_=>absurd h1 (by simp)
 | v::l,[],h,_,_,_=>by rw[vZ] at h;cases h
 | v::l,f::fs,h,i,h1,h2=>by
  rw[vZ,yOG] at h;cases i with
  | zero=>exact h.1
  | succ i=>exact lE h.2 i (by simpa using h1) (by simpa using h2)
theorem eV {n:Nat} {g:Fu}:∀{l:List Va},(∀a∈l,valN n a g=true)->∀(m:Nat),l.length<=m->vZ n l (yOH m g)=true
 | [],_,m,_=>by rw[vZ]
 | v::l,h,0,hm=>absurd hm (by simp)
 | v::l,h,m+1,hm=>by
  rw[yPE,vZ,h v (by simp),eV (fun a ha=>h a (by simp[ha])) m (by simpa using hm)];rfl
theorem lU {n:Nat}:∀{l:List Va} {fs:List Fu},(∀v∈l,∀f,valN n v f=true->wI n v f=some v)->vZ n l fs=true->yM n l fs=some l
 | [],_,_,_=>by rw[yM]
 | v::l,[],_,h=>by rw[vZ] at h;cases h
 | v::l,f::fs,hv,h=>by
  rw[vZ,yOG] at h;rw[yM,hv v (by simp) f h.1];simp only;rw[lU (fun w hw=>hv w (yOL _ hw)) h.2];rfl
theorem cZ:∀{l:List Va} {ws:List Int},l.length=ws.length->(l.zip ws).map (·.1)=l/\(l.zip ws).map (·.2)=ws
 | [],[],_=>⟨rfl,rfl⟩
 | [],_::_,h=>by simp at h
 | _::_,[],h=>by simp at h
 | a::l,w::ws,h=>by
  obtain ⟨h1,h2⟩:=cZ (l:=l) (ws:=ws) (by simpa using h);simp[h1,h2]
theorem zNV {l:List Int} (k:Int) (h:k=7->gcdW l=1):divW k l=l:=by
 unfold divW;by_cases h7:k=7
 ·rw[yRO h7,h h7];have:(fun w:Int=>w.tdiv ((1:Nat):Int))=fun w=>w:=by funext w;exact Int.tdiv_one w
  rw[this];simp
 ·rw[yRN h7]
theorem dJ {n:Int} {k:Int} {gs:List Va} {ws:List Int} (hw:yU k (.mk n gs ws)=true) (hs:sets k=true) (h:qP k (.mk n gs ws)=true):xY k (.mk n gs ws)= .mk n gs ws:=by
 obtain ⟨h1,_,h2⟩:=rS hw;have h1:wtd k=true->ws.length=gs.length/\(∀w∈ws,1<=w)/\sumW ws<=1048576:=h1;have h2:wtd k=false->ws= []:=h2;unfold qP at h;rw[hs] at h;simp only[yOX,yOS,yOG,yOQ,yPS,decide_eq_false_iff_not,yRP] at h;have hi:incr gs=true:=h.1;have hg:k=7->gcdW ws=1:=fun h7=>h.2.resolve_left fun q=>q h7;have e:xY k (.mk n gs ws)= .mk n ((xV (zipW k gs ws) []).map (·.1)) (if wtd k then divW k ((xV (zipW k gs ws) []).map (·.2)) else []):=rfl
 rw[e];cases hk:wtd k with
 | true=>
  obtain ⟨z1,z2⟩:=cZ (h1 hk).1.symm;rw[xW hk,rG _ [] (by rw[yOY,z1];exact hi),yOY,z1,z2,yRO rfl,zNV k hg]
 | false=>
  have z:(zipW k gs ws).map (·.1)=gs:=by rw[vM hk,List.map_map];exact List.map_id' _
  rw[rG _ [] (by rw[yOY,z];exact hi),yOY,z,h2 hk];rfl
theorem nG {n:Nat}:∀(v:Va) (f:Fu),valN n v f=true->wI n v f=some v:=by
 refine Va.ind' fun a gs ws hrec=> ?_;intro f h;rw[valN] at h;simp only[yOG] at h;rw[wI,yRO h.1,lU hrec h.2.2];have hok:=h.1;unfold okV at hok;simp only[yOG] at hok;have:putV f (.mk a gs ws) gs= .mk a gs ws:=by
  unfold putV;cases hs:sets f.k with
  | true=>rw[yRO rfl];exact dJ hok.2.2 hs h.2.1
  | false=>rfl
 rw[yPL,this]
theorem iQ {n:Nat}:∀{l:List Va} {fs:List Fu} {gs:List Va},(∀v∈l,∀f u,wI n v f=some u->valN n u f=true)->yM n l fs=some gs->vZ n gs fs=true
 | [],_,gs,_,h=>by rw[yM] at h;injection h with h;subst h;rw[vZ]
 | v::l,[],gs,_,h=>by rw[yM] at h;cases h
 | v::l,f::fs,gs,hv,h=>by
  rw[yM] at h;cases h1:wI n v f with
  | none=>rw[h1] at h;cases h
  | some u=>
   rw[h1] at h;cases h2:yM n l fs with
   | none=>rw[h2] at h;cases h
   | some q=>
    rw[h2] at h;injection h with h;subst h;rw[vZ,hv v (yOO ..) f u h1,iQ (fun w hw=>hv w (yOL _ hw)) h2];rfl
theorem zEK {n:Int} {k:Int} {gs:List Va} {ws:List Int} (hs:sets k=true) (hw:yU k (.mk n gs ws)=true):yU k (xY k (.mk n gs ws))=true/\qP k (xY k (.mk n gs ws))=true:=by
 obtain ⟨h1,h7,h2⟩:=rS hw;have h1:wtd k=true->ws.length=gs.length/\(∀w∈ws,1<=w)/\sumW ws<=1048576:=h1;have h7:k=7->gs≠[]:=h7;have e:xY k (.mk n gs ws)= .mk n ((xV (zipW k gs ws) []).map (·.1)) (if wtd k then divW k ((xV (zipW k gs ws) []).map (·.2)) else []):=rfl
 rw[e];have hinc:incr ((xV (zipW k gs ws) []).map (·.1))=true:=i8 _ _ (by rfl)
 cases hk:wtd k with
 | false=>
  have hk7:¬k=7:=by intro q;subst q;cases hk
  constructor
  ·unfold yU;rw[hk];rfl
  ·unfold qP;simp[hs,hk7];exact hinc
 | true=>
  obtain ⟨q1,q2,q3⟩:=h1 hk;rw[yRO rfl];rw[xW hk] at hinc|-;obtain ⟨z1,z2⟩:=cZ q1.symm;have hpos:∀w∈(xV (gs.zip ws) []).map (·.2),1<=w:=by
   intro w hw;obtain ⟨p,hp,rfl⟩:=yOJ.1 hw;exact k9 _ _ (fun p hp=>q2 _ (yPB hp).2) (by simp) p hp
  have hsum:=dW (gs.zip ws) [];rw[z2] at hsum;simp only[yOV,sumW] at hsum;have hne:k=7->(xV (gs.zip ws) [])≠[]:=by
   intro q;refine fP _ _ (.inl fun e=> ?_);have:=congrArg List.length e;rw[yOU,q1] at this;simp at this;exact h7 q this
  have hlen:(divW k ((xV (gs.zip ws) []).map (·.2))).length=((xV (gs.zip ws) []).map (·.1)).length:=by
   unfold divW;split<;>simp
  generalize xV (gs.zip ws) []=F at*;generalize hW:F.map (·.2)=W at*
  have hWp:∀w∈divW k W,1<=w:=by
   unfold divW;by_cases q:k=7
   ·rw[yRO q];intro w hw;obtain ⟨x,hx,rfl⟩:=yOJ.1 hw;have hx1:=hpos x hx;have hWne:W≠[]:=by intro e;rw[e] at hx;cases hx
    have hg:=mY hWne hpos;have hd:=uP W 0 x hx;have hle:=Nat.le_of_dvd (by omega) hd;rw[uW] at hle;rw[Int.tdiv_eq_ediv_of_nonneg (by omega)];exact (Int.le_ediv_iff_mul_le (by omega)).2 (by omega)
   ·rw[yRN q];exact hpos
  have hle:∀(l:List Int),(∀w∈l,1<=w)->∀g:Nat,0 < g->sumW (l.map fun w=>w.tdiv g)<=sumW l:=by
   intro l hl g hg
   induction l with
   | nil=>exact Int.le_refl _
   | cons a l ih=>
    rw[yOE,sumW,sumW];have:=ih fun w hw=>hl w (by simp[hw]);have ha:=hl a (by simp);have:a.tdiv g<=a:=Int.tdiv_le_self _ (by omega);omega
  have hWs:sumW (divW k W)<=1048576:=by
   unfold divW;by_cases q:k=7
   ·rw[yRO q];have hWne:W≠[]:=by rw[<-hW];simpa using hne q
    have:=hle W hpos (gcdW W) (mY hWne hpos);omega
   ·rw[yRN q];omega
  constructor
  ·unfold yU;rw[hk,yRO rfl]
   show (wOk 0 (divW k W)&&(decide ((divW k W).length=(F.map (·.1)).length)&&(decide (k=6) || decide (0 < (F.map (·.1)).length))))=true
   rw[zPD (by omega) hWp,decide_eq_true hlen];simp only[yOB,yOQ,yRP];have hk':k=6\/k=7:=by unfold wtd at hk;simpa only[yOQ,yRP] using hk
   rcases hk' with q | q
   ·exact .inl q
   ·refine .inr ?_;rw[yPC];exact List.length_pos_iff.2 (hne q)
  ·unfold qP;rw[hs];simp only[yOX,yOS,yOG,yOQ,yPS,decide_eq_false_iff_not,yRP];refine ⟨hinc,?_⟩;by_cases q:k=7
   ·refine .inr ?_
    show gcdW (divW k W)=1
    unfold divW;rw[yRO q];exact zNH (by rw[<-hW];simpa using hne q) hpos
   ·exact .inl q
theorem zIM {n:Nat}:∀(v:Va) (f:Fu) (u:Va),wI n v f=some u->valN n u f=true:=by
 refine Va.ind' fun a gs ws hrec=> ?_;intro f u h;rw[wI] at h;split at h
 ·rename_i hok;cases h1:yM n gs (zY f (.mk a gs ws)) with
  | none=>rw[h1] at h;cases h
  | some q=>
   rw[h1] at h;injection h with h;have hv:=iQ hrec h1;have hl:=rV h1;have hok':=hok;unfold okV at hok';simp only[yOG] at hok';obtain ⟨p1,p2,p3⟩:=hok';have hwq:yU f.k (.mk a q ws)=true:=by
    rw[<-p3]
    show (if wtd f.k then wOk 0 ws&&(decide (ws.length=q.length)&&(decide (f.k=6) || decide (0 < q.length))) else _)=_
    rw[hl];rfl
   cases hs:sets f.k with
   | false=>
    have e:putV f (.mk a gs ws) q= .mk a q ws:=by unfold putV;rw[hs];rfl
    rw[e] at h;subst h;have e2:zY f (.mk a q ws)=zY f (.mk a gs ws):=mA _ _ rfl hl;rw[valN,e2,hv];have e3:qP f.k (.mk a q ws)=true:=by unfold qP;rw[hs];rfl
    have e4:wE f (.mk a q ws)=true:=by
     rw[<-p1];unfold wE;rw[e2]
     show (_&&decide (_=q.length))=(_&&decide (_=gs.length))
     rw[hl];rfl
    have e5:oD f n (.mk a q ws)=true:=p2;unfold okV;rw[e3,e4,e5,hwq];rfl
   | true=>
    have e:putV f (.mk a gs ws) q=xY f.k (.mk a q ws):=by unfold putV;rw[hs];rfl
    rw[e] at h;obtain ⟨m1,m2⟩:=zEK hs hwq;have hmem:∀b∈u.gs,b∈q:=by rw[<-h,<-e];exact gX f _ q
    have hn:u.n=a:=by rw[<-h];rfl
    rw[h] at m1 m2;rw[zBB,m2];have hp:=sA hs u;have e4:wE f u=true:=by
     unfold wE;rw[hp,yPF];have:¬f.k=3:=by have:=zHT hs;omega
     simp[this]
    have e5:oD f n u=true:=by
     rw[<-p2];unfold oD;rw[hn];rfl
    have e6:vZ n u.gs (zY f u)=true:=by
     rw[hp];refine eV (fun b hb=> ?_) _ (yOP _);obtain ⟨i,hi,rfl⟩:=yPO (hmem b hb);rw[sA hs] at hv;have:=lE hv i hi (by rw[yPF];show i < gs.length;omega);rwa [yPP] at this
    unfold okV;rw[e4,e5,m1,e6];rfl
 ·cases h
theorem fB (k a:Int) (gs:List Va) (ws:List Int):zI (xY k (.mk a gs ws)).gs<=zI gs:=by
 have h1:=jA (zipW k gs ws) [];have h3:(xY k (.mk a gs ws)).gs=(xV (zipW k gs ws) []).map (·.1):=rfl
 rw[h3];refine yPD h1 ?_;simp only[yOV,zI,yPH];cases h:wtd k with
 | false=>rw[vM h,List.map_map];exact Nat.le_of_eq (congrArg zI (List.map_id' _))
 | true=>
  rw[xW h];clear h1 h3 h
  induction gs generalizing ws with
  | nil=>simp[zI]
  | cons b l ih=>
   cases ws with
   | nil=>simp[zI]
   | cons w ws=>
    have:=ih ws;rw[List.zip_cons_cons,yOE,zI,zI]
    show zJ b+_<=_
    omega
theorem mC {n:Nat}:∀{l:List Va} {fs:List Fu} {gs:List Va},(∀v∈l,∀f u,wI n v f=some u->zJ u<=zJ v)->yM n l fs=some gs->zI gs<=zI l
 | [],_,gs,_,h=>by rw[yM] at h;injection h with h;subst h;exact yOP _
 | v::l,[],gs,_,h=>by rw[yM] at h;cases h
 | v::l,f::fs,gs,hv,h=>by
  rw[yM] at h;cases h1:wI n v f with
  | none=>rw[h1] at h;cases h
  | some u=>
   rw[h1] at h;cases h2:yM n l fs with
   | none=>rw[h2] at h;cases h
   | some q=>
    rw[h2] at h;injection h with h;subst h;have a1:=hv v (yOO ..) f u h1;have a2:=mC (fun w hw=>hv w (yOL _ hw)) h2;rw[zI,zI];omega
theorem aA {n:Nat}:∀(v:Va) (f:Fu) (u:Va),wI n v f=some u->zJ u<=zJ v:=by
 refine Va.ind' fun a gs ws hrec=> ?_;intro f u h;rw[wI] at h;split at h
 ·cases h1:yM n gs (zY f (.mk a gs ws)) with
  | none=>rw[h1] at h;cases h
  | some q=>
   rw[h1] at h;injection h with h;subst h;have:=mC hrec h1;rw[zIN,zJ];unfold putV;cases sets f.k with
   | true=>rw[yRO rfl];have:=fB f.k a q ws;show 1+zI (xY f.k (.mk a q ws)).gs<=_;omega
   | false=>show 1+zI q<=_;omega
 ·cases h
def valV (f:Fu) (n:Nat) (v:Va):Bool:=decide (zJ v<=2000)&&(valN n v f&& !(qL v f))
theorem zCC {f:Fu} {n:Nat} {v:Va} {p:Option Va×Int} (h:oE f n v=p):isV f n v=(decide (p.2=0)&&decide (cmpV (p.1.getD v0) v=0)):=by subst h;rfl
theorem zTX (f:Fu) (n:Nat) (v:Va):isV f n v=valV f n v:=by
 unfold valV;by_cases hn:2000 < zJ v
 ·rw[zCC (p:=(none,20)) (by unfold oE;rw[yRO hn]),decide_eq_false (show¬zJ v<=2000 by omega)];rfl
 rw[decide_eq_true (show zJ v<=2000 by omega),yOB];cases hu:wI n v f with
 | none=>
  have:valN n v f=false:=by
   cases h:valN n v f with
   | false=>rfl
   | true=>rw[nG v f h] at hu;cases hu
  rw[zCC (p:=(none,20)) (by unfold oE;rw[yRN hn,hu]),this];rfl
 | some u=>
  have huv:=zIM v f u hu;by_cases hw:qL u f=true
  ·rw[zCC (p:=(none,2)) (by unfold oE;rw[yRN hn,hu];exact yRO hw)];cases h:valN n v f with
   | false=>rfl
   | true=>
    rw[nG v f h] at hu;injection hu with hu;subst hu;rw[hw];rfl
  ·rw[zCC (p:=(some u,0)) (by unfold oE;rw[yRN hn,hu];exact yRN hw)];have hw:qL u f=false:=by simpa using hw
   show (decide ((0:Int)=0)&&decide (cmpV u v=0))=_
   rw[decide_eq_true rfl,yOB];by_cases e:u=v
   ·subst e;rw[huv,hw,decide_eq_true ((rO u u).2 rfl)];rfl
   ·rw[decide_eq_false (fun q=>e ((rO u v).1 q))];cases h:valN n v f with
    | false=>rfl
    | true=>
     rw[nG v f h] at hu;injection hu with hu;exact absurd hu.symm e
theorem zRS (f:Fu) (hf:zH f=true) (n:Nat) (hn:n<=100) (v:Va) (hv:fitV v) (hnod:zJ v<=2^32) (D:Nat):Go.Ab.Loc Pg Gl D 54 [encF f,.int .i64 n,encV v] [] (.bool (valV f n v)) []:=by
 rw[<-zTX];exact yAU f hf n hn v hv (fun u hu=>yPD (aA v f u hu) hnod) D
end Go.Ab.Tab
/- Systems: the reference's Few and Is. -/
namespace Go.Ab.Tab
open Go Go.Ab
structure Sy where
 f:Fu
 m:List Va
def encY (s:Sy):AV:= .agg [.int .i64 s.f.k,.int .i64 s.f.n,.sl 3 (s.f.gs.map encF) .no,.sl 3 (s.m.map encV) .no]
def fewL (n:Nat):Nat->List Va->Bool
 | _,[]=>true
 | t,v::l=>(decide (zJ v<=n)&&qE n v)&&(decide (t+zJ v<=n)&&fewL n (t+zJ v) l)
def fewY (n:Nat) (s:Sy):Bool:=decide (s.m.length<=n)&&(decide (yG s.f<=n)&&fewL n 0 s.m)
theorem l30 (D:Nat) (n:Nat) (hn:n < 2^60) (l:List Va) (hll:l.length<=maxLen) (hl:∀v∈l,fitV v) (S):∀(j i t:Nat) (τ ω) (r:AV),i+j=l.length->t<=n->
  τ 1= .int .i64 n->τ 5= .int .i64 t->τ 21= .sl 3 (l.map encV) .no->τ 22= .int .i64 l.length->τ 23= .int .i64 i->r= .bool (fewL n t (l.drop i))->
  Rd (Loc Pg Gl) .im (RetQ [.tmp 4] r S) [.lp c16_l0,.blk 0,.c zKS] (stF 39 D τ ω S):=by
 intro j
 induction j with
 | zero=>
  intro i t τ ω r hi ht h1 h5 h21 h22 h23 hr;refine zN c16_l0.eq_1 ?_;obtain rfl:i=l.length:=by omega
  rw[yOI,fewL] at hr;simp[h1,h5,h21,h22,h23,zKS,hr]
 | succ j ih=>
  intro i t τ ω r hi ht h1 h5 h21 h22 h23 hr;refine zN c16_l0.eq_1 ?_;have hlt:i < l.length:=by omega
  have hwr:=yA hlt hll;have hd:l.drop i=l[i]::l.drop (i+1):=yOF hlt;rw[hd,fewL] at hr;simp[h1,h5,h21,h22,h23,hlt,zC l[i]];refine zE (yAW l[i] (hl _ (yOD hlt)) _ n (by omega)) (by simp[zC l[i]]) ?_;cases hb:(decide (zJ l[i]<=n)&&qE n l[i]) with
  | false=>
   rw[hb,yOC] at hr;simp[hr]
  | true=>
   rw[hb,yOB] at hr;simp only[yOG,yRP] at hb;simp[h5];refine zE (zPQ l[i] (by omega) _) (by simp[zC l[i]]) ?_;have hwt:IntKind.i64.wrap ((t:Int)+(zJ l[i]:Int))=((t+zJ l[i]:Nat):Int):=by rw[<-zL (n:=t+zJ l[i]) (by omega)];rfl
   by_cases hle:t+zJ l[i]<=n
   ·rw[decide_eq_true hle,yOB] at hr;have hle':¬n < t+zJ l[i]:=by omega
    simp[h1,h5,h23,hwt,hwr,hle',-yOT];refine ih (i+1) (t+zJ l[i]) _ _ r (by omega) hle ?_ ?_ ?_ ?_ ?_ hr;all_goals simp[h1,h5,h21,h22,h23]
   ·rw[decide_eq_false hle,yOC] at hr;have hle':n < t+zJ l[i]:=by omega
    simp[h1,h5,h23,hwt,hwr,hle',hr,-yOT]
theorem yBK (s:Sy) (hf:fitF s.f) (hl:s.m.length<=maxLen) (hv:∀v∈s.m,fitV v) (D n:Nat) (hn:n < 2^60):Go.Ab.Loc Pg Gl D 16 [encY s,.int .i64 n] [] (.bool (fewY n s)) []:=by
 refine zP zF tok rfl rfl fun S=> ?_;unfold c16;generalize hr:AV.bool (fewY n s)=r;unfold fewY at hr;unfold encY;by_cases h1:s.m.length<=n
 ·rw[decide_eq_true h1,yOB] at hr;have h1':¬n < s.m.length:=by omega
  simp[h1'];refine zE (zPR s.f hf _ n (by omega)) (by simp[zB s.f]) ?_;by_cases h2:yG s.f<=n
  ·rw[decide_eq_true h2,yOB] at hr;simp[h2];refine l30 D n hn s.m hl hv S s.m.length 0 0 _ _ r (by omega) (by omega) ?_ ?_ ?_ ?_ ?_ hr.symm;all_goals simp
  ·rw[decide_eq_false h2,yOC] at hr;simp[h2,<-hr]
 ·rw[decide_eq_false h1,yOC] at hr;have h1':n < s.m.length:=by omega
  simp[h1',<-hr]
theorem zCT {n:Nat}:∀{l:List Va} {t:Nat},t<=n->fewL n t l=true->t+zI l<=n
 | [],t,ht,_=>by rw[zI];omega
 | a::l,t,ht,h=>by
  rw[fewL] at h;simp only[yOG,yRP] at h;have:=zCT h.2.1 h.2.2;rw[zI];omega
def isY (s:Sy):Bool:=isF s.f&&(decide (s.m.length<=100)&&(s.m.all (fun v=>valV s.f s.m.length v)&&decide (zI s.m<=20000)))
theorem l39 (D:Nat) (s:Sy) (hsh:zH s.f=true) (hl:s.m.length<=100) (hv:∀v∈s.m,fitV v) (hb:zI s.m<=2^32) (S):∀(j i t:Nat) (τ ω) (r:AV),i+j=s.m.length->t+zI (s.m.drop i)<=2^33->
  τ 1= .ptr D 1 1 0->τ 3= .int .i64 t->τ 17= .sl 3 (s.m.map encV) .no->τ 18= .int .i64 s.m.length->τ 19= .int .i64 i->
  ω 1=(1,.cells [.int .i64 s.f.k,.int .i64 s.f.n,.sl 3 (s.f.gs.map encF) .no,.sl 3 (s.m.map encV) .no])->
  r= .bool ((s.m.drop i).all (fun v=>valV s.f s.m.length v)&&decide (t+zI (s.m.drop i)<=20000))->
  Rd (Loc Pg Gl) .im (RetQ [.tmp 2] r S) [.lp c18_l0,.blk 0,.c zKR] (stF 38 D τ ω S):=by
 intro j
 induction j with
 | zero=>
  intro i t τ ω r hi ht h1 h3 h17 h18 h19 w1 hr;refine zN c18_l0.eq_1 ?_;obtain rfl:i=s.m.length:=by omega
  rw[yOI,zI,yPH] at hr;simp at hr;simp[h1,h3,h17,h18,h19,w1,zKR,hr];omega
 | succ j ih=>
  intro i t τ ω r hi ht h1 h3 h17 h18 h19 w1 hr;refine zN c18_l0.eq_1 ?_;have hlt:i < s.m.length:=by omega
  have hwr:=yA hlt (by unfold maxLen;omega);have hd:s.m.drop i=s.m[i]::s.m.drop (i+1):=yOF hlt;have hnm:=wU (yOD hlt);rw[hd,yPI,zI,<-yOZ] at hr;rw[hd,zI,<-yOZ] at ht;simp[h1,h3,h17,h18,h19,w1,hlt,zC s.m[i]];refine zE (zRS s.f hsh s.m.length hl s.m[i] (hv _ (yOD hlt)) (by omega) _) (by simp[zC s.m[i],zB s.f]) ?_;cases hb:valV s.f s.m.length s.m[i] with
  | false=>
   rw[hb] at hr;simp at hr;simp[hr]
  | true=>
   rw[hb,yOB] at hr;simp[h3];refine zE (zPQ s.m[i] (by omega) _) (by simp[zC s.m[i]]) ?_;have hwt:IntKind.i64.wrap ((t:Int)+(zJ s.m[i]:Int))=((t+zJ s.m[i]:Nat):Int):=by rw[<-zL (n:=t+zJ s.m[i]) (by omega)];rfl
   simp[h3,h19,hwt,hwr,-yOT];refine ih (i+1) (t+zJ s.m[i]) _ _ r (by omega) (by omega) ?_ ?_ ?_ ?_ ?_ ?_ hr;all_goals simp[h1,h3,h17,h18,h19,w1]
theorem yBJ (s:Sy) (hf:fitF s.f) (hl:s.m.length<=maxLen) (hv:∀v∈s.m,fitV v) (hb:zI s.m<=2^32) (D:Nat):Go.Ab.Loc Pg Gl D 18 [encY s] [] (.bool (isY s)) []:=by
 refine zP zF tok rfl rfl fun S=> ?_;unfold c18;generalize hr:AV.bool (isY s)=r;unfold isY at hr;unfold encY;simp;refine zE (yBG s.f hf _) (by simp[zB s.f]) ?_;cases h1:isF s.f with
 | false=>
  rw[h1,yOC] at hr;simp[<-hr]
 | true=>
  rw[h1,yOB] at hr;by_cases h2:s.m.length<=100
  ·rw[decide_eq_true h2,yOB] at hr;have h2':¬100 < (s.m.length:Int):=by omega
   simp[h2'];refine l39 D s (wV h1) h2 hv hb S s.m.length 0 0 _ _ r (by omega) (by rw[yOM];omega) ?_ ?_ ?_ ?_ ?_ ?_ (by rw[<-hr];simp);all_goals simp
  ·rw[decide_eq_false h2,yOC] at hr;have h2':100 < (s.m.length:Int):=by omega
   simp[h2',<-hr]
end Go.Ab.Tab
/- Values: the program's order,gcd,weighed,Nodes. -/
namespace Go.Ab
open Go
section
variable {C:zQ} {own:Md} {Q:St->Prop} {k:List AI} {n D:Nat} {τ:Nat->AV} {ω:Nat->Ent} {S:Nat->Nat->Ent} {l:List AOper} {d:Nat}
theorem zDS {f args r args' x} (hx:(stF n D τ ω S).ev x= .fn f []) (h:C (D+1) f args' [] r []) (ha:args.map (fun x=>((stF n D τ ω S).ev x).strip)=args')
  (hk:Rd C own Q (.ops l::k) (stF n D (upd τ d r) ω S)) (hf:f≠yid:=by decide):Rd C own Q (.ops (⟨some d,.callv x args,none⟩::l)::k) (stF n D τ ω S):=by
 refine .opsCall rfl (.callv (M:=[]) (dl:=[]) (r:=r) hf hx (by rw[ha,yOV,yPM];exact h) (by simp) (by simp)) ?_;simpa[yC,yE] using hk
end
end Go.Ab
namespace Go.Ab.Tab
open Go Go.Ab
theorem zGT (D:Nat) (a b:Int):Go.Ab.Loc Pg Gl D 193 [.int .i64 a,.int .i64 b] [] (.int .i64 (ordI a b)) []:=by
 refine zP zF tok rfl rfl fun S=> ?_;unfold c193;unfold ordI;by_cases h1:a < b
 ·simp[h1]
 ·by_cases h2:b < a
  ·simp[h1,h2]
  ·simp[h1,h2]
theorem zIE (a:Int):ordI a a=0:=by simp[ordI]
theorem zID {a b:Int} (h:a≠b):ordI a b≠0:=fun e=>h (lS.1 e)
theorem l141 (D:Nat) (ws xs:List Int) (h1:ws.length<=maxLen) (S):∀(j i:Nat) (τ ω) (r:AV),i+j=ws.length->i<=xs.length->
  τ 0= .sl 1 (ws.map (AV.int .i64)) .no->τ 1= .sl 1 (xs.map (AV.int .i64)) .no->τ 2= .fn 193 []->τ 11= .sl 1 (ws.map (AV.int .i64)) .no->τ 12= .int .i64 ws.length->τ 13= .int .i64 i->r= .int .i64 (xO (ws.drop i) (xs.drop i))->
  Rd (Loc Pg Gl) .im (RetQ [.tmp 6] r S) [.lp c197_l0,.blk 0,.c eG] (stF 39 D τ ω S):=by
 intro j
 induction j with
 | zero=>
  intro i τ ω r hi hx g0 g1 g2 g11 g12 g13 hr;refine zN c197_l0.eq_1 ?_;obtain rfl:i=ws.length:=by omega
  rw[yOI,qH,yPA] at hr;by_cases h:ws.length < xs.length
  ·have e:ordI 0 ((xs.length - ws.length:Nat):Int)= -1:=by unfold ordI;rw[yRO (by omega)]
   rw[e] at hr;simp[g0,g1,g2,g11,g12,g13,eG,h,hr]
  ·have e:ordI 0 ((xs.length - ws.length:Nat):Int)=0:=by unfold ordI;rw[yRN (by omega),yRN (by omega)]
   rw[e] at hr;simp[g0,g1,g2,g11,g12,g13,eG,h,hr]
 | succ j ih=>
  intro i τ ω r hi hx g0 g1 g2 g11 g12 g13 hr;refine zN c197_l0.eq_1 ?_;have hlt:i < ws.length:=by omega
  have hwr:=yA hlt h1;rw[yOF hlt] at hr;by_cases hx2:i < xs.length
  ·have hx3:¬xs.length<=i:=by omega
   rw[yOF hx2,xO] at hr;simp[g0,g1,g2,g11,g12,g13,hlt,hx2,hx3];refine zDS (by simp[g2]) (zGT _ ws[i] xs[i]) (by simp) ?_;by_cases he:ws[i]=xs[i]
   ·rw[yRO he] at hr;rw[he,zIE];simp[g13,hwr];refine ih (i+1) _ _ r (by omega) (by omega) ?_ ?_ ?_ ?_ ?_ ?_ hr;all_goals simp[g0,g1,g2,g11,g12,g13]
   ·rw[yRN he] at hr;have hne:=zID he;generalize ordI ws[i] xs[i]=c at hr hne;simp[hne,hr]
  ·obtain rfl:i=xs.length:=by omega
   rw[yOI,xO] at hr;simp[g0,g1,g2,g11,g12,g13,hlt,hr]
theorem zRU (D:Nat) (ws xs:List Int) (h1:ws.length<=maxLen):Go.Ab.Loc Pg Gl D 197 [.sl 1 (ws.map (AV.int .i64)) .no,.sl 1 (xs.map (AV.int .i64)) .no,.fn 193 []] [] (.int .i64 (xO ws xs)) []:=by
 refine zP zF tok rfl rfl fun S=> ?_;unfold c197;generalize hr:AV.int .i64 (xO ws xs)=r;simp;refine l141 D ws xs h1 S ws.length 0 _ _ r (by simp) (by simp) ?_ ?_ ?_ ?_ ?_ ?_ (by rw[<-hr];simp);all_goals simp
theorem zRV (D:Nat) (ws xs:List Int) (h1:ws.length<=maxLen):Go.Ab.Loc Pg Gl D 195 [.sl 1 (ws.map (AV.int .i64)) .no,.sl 1 (xs.map (AV.int .i64)) .no,.fn 193 []] [] (.int .i64 (xO ws xs)) []:=by
 refine zP zF tok rfl rfl fun S=> ?_;unfold c195;simp;refine zE (zRU _ ws xs h1) (by simp) ?_;simp
theorem l140 (D:Nat) (gs hs:List Va) (h1:gs.length<=maxLen) (hrec:∀a∈gs,∀b (D:Nat),Go.Ab.Loc Pg Gl D 192 [encV a,encV b] [] (.int .i64 (cmpV a b)) []) (S):∀(j i:Nat) (τ ω) (r:AV),i+j=gs.length->i<=hs.length->
  τ 0= .sl 3 (gs.map encV) .no->τ 1= .sl 3 (hs.map encV) .no->τ 2= .fn 192 []->τ 11= .sl 3 (gs.map encV) .no->τ 12= .int .i64 gs.length->τ 13= .int .i64 i->r= .int .i64 (yY (gs.drop i) (hs.drop i))->
  Rd (Loc Pg Gl) .im (RetQ [.tmp 6] r S) [.lp c196_l0,.blk 0,.c eH] (stF 39 D τ ω S):=by
 intro j
 induction j with
 | zero=>
  intro i τ ω r hi hx g0 g1 g2 g11 g12 g13 hr;refine zN c196_l0.eq_1 ?_;obtain rfl:i=gs.length:=by omega
  rw[yOI,qG,yPA] at hr;by_cases h:gs.length < hs.length
  ·have e:ordI 0 ((hs.length - gs.length:Nat):Int)= -1:=by unfold ordI;rw[yRO (by omega)]
   rw[e] at hr;simp[g0,g1,g2,g11,g12,g13,eH,h,hr]
  ·have e:ordI 0 ((hs.length - gs.length:Nat):Int)=0:=by unfold ordI;rw[yRN (by omega),yRN (by omega)]
   rw[e] at hr;simp[g0,g1,g2,g11,g12,g13,eH,h,hr]
 | succ j ih=>
  intro i τ ω r hi hx g0 g1 g2 g11 g12 g13 hr;refine zN c196_l0.eq_1 ?_;have hlt:i < gs.length:=by omega
  have hwr:=yA hlt h1;rw[yOF hlt] at hr;by_cases hx2:i < hs.length
  ·have hx3:¬hs.length<=i:=by omega
   rw[yOF hx2,yY] at hr;simp[g0,g1,g2,g11,g12,g13,hlt,hx2,hx3,zC gs[i],zC hs[i]];refine zDS (by simp[g2]) (hrec gs[i] (yOD hlt) hs[i] _) (by simp[zC gs[i],zC hs[i]]) ?_;by_cases he:cmpV gs[i] hs[i]=0
   ·rw[yRO he] at hr;rw[he];simp[g13,hwr];refine ih (i+1) _ _ r (by omega) (by omega) ?_ ?_ ?_ ?_ ?_ ?_ hr;all_goals simp[g0,g1,g2,g11,g12,g13]
   ·rw[yRN he] at hr;generalize cmpV gs[i] hs[i]=c at hr he;simp[he,hr]
  ·obtain rfl:i=hs.length:=by omega
   rw[yOI,yY] at hr;simp[g0,g1,g2,g11,g12,g13,hlt,hr,zC gs[hs.length]]
theorem zRW:∀(u:Va),fitV u->∀(v:Va) (D:Nat),Go.Ab.Loc Pg Gl D 192 [encV u,encV v] [] (.int .i64 (cmpV u v)) []:=by
 refine Va.ind' fun n gs ws hrec=> ?_;intro hfit v D;rw[fitV] at hfit;cases v with
 | mk n' hs xs=>
 have spec196:∀D,Go.Ab.Loc Pg Gl D 196 [.sl 3 (gs.map encV) .no,.sl 3 (hs.map encV) .no,.fn 192 []] [] (.int .i64 (yY gs hs)) []:=by
  intro D;refine zP zF tok rfl rfl fun S=> ?_;unfold c196;generalize hr:AV.int .i64 (yY gs hs)=r;simp;refine l140 D gs hs hfit.1.1 (fun a ha b D=>hrec a ha (y8 hfit.2 a ha) b D) S gs.length 0 _ _ r (by simp) (by simp) ?_ ?_ ?_ ?_ ?_ ?_ (by rw[<-hr];simp);all_goals simp
 have spec194:∀D,Go.Ab.Loc Pg Gl D 194 [.sl 3 (gs.map encV) .no,.sl 3 (hs.map encV) .no,.fn 192 []] [] (.int .i64 (yY gs hs)) []:=by
  intro D;refine zP zF tok rfl rfl fun S=> ?_;unfold c194;simp;refine zE (spec196 _) (by simp) ?_;simp
 refine zP zF tok rfl rfl fun S=> ?_;unfold c192;generalize hr:AV.int .i64 (cmpV (.mk n gs ws) (.mk n' hs xs))=r;rw[cmpV] at hr;rw[zT,zT];simp;refine zE (zGT _ n n') (by simp) ?_;by_cases h1:n=n'
 ·rw[yRO h1] at hr;rw[h1,zIE];simp;refine zE (spec194 _) (by simp) ?_;by_cases h2:yY gs hs=0
  ·rw[yRO h2] at hr;rw[h2];simp;refine zE (zRV _ ws xs hfit.1.2) (by simp) ?_;simp[<-hr]
  ·rw[yRN h2] at hr;generalize yY gs hs=c at hr h2;simp[h2,<-hr]
 ·rw[yRN h1] at hr;have hne:=zID h1;generalize ordI n n'=c at hr hne;simp[hne,<-hr]
end Go.Ab.Tab
/- Values: the program's Nodes,weighed,gcd. -/
namespace Go.Ab.Tab
open Go Go.Ab
theorem l116 (D:Nat) (gs:List Va) (hlen:gs.length < 2^62) (hrec:∀a∈gs,∀(D:Nat),Go.Ab.Loc Pg Gl D 127 [encV a] [] (.int .i64 (zJ a)) []) (S):∀(j i m:Nat) (τ ω) (r:AV),i+j=gs.length->m+zI (gs.drop i) < 2^62->
  τ 3= .int .i64 m->τ 7= .sl 3 (gs.map encV) .no->τ 8= .int .i64 gs.length->τ 9= .int .i64 i->r= .int .i64 ((m+zI (gs.drop i):Nat):Int)->
  Rd (Loc Pg Gl) .im (RetQ [.tmp 2] r S) [.lp c127_l0,.blk 0,.c zAD] (stF 19 D τ ω S):=by
 intro j
 induction j with
 | zero=>
  intro i m τ ω r hi hm h3 h7 h8 h9 hr;refine zN c127_l0.eq_1 ?_;obtain rfl:i=gs.length:=by omega
  rw[yOI,zI] at hr;simp[h3,h7,h8,h9,zAD];simp[hr]
 | succ j ih=>
  intro i m τ ω r hi hm h3 h7 h8 h9 hr;refine zN c127_l0.eq_1 ?_;have hlt:i < gs.length:=by omega
  have hwi:IntKind.i64.wrap ((i:Int)+1)=((i+1:Nat):Int):=by rw[<-zL (n:=i+1) (by omega)];rfl
  have hd:gs.drop i=gs[i]::gs.drop (i+1):=yOF hlt;rw[hd,zI] at hr hm;have hwr:IntKind.i64.wrap ((m:Int)+(zJ gs[i]:Int))=((m+zJ gs[i]:Nat):Int):=by rw[<-zL (n:=m+zJ gs[i]) (by omega)];rfl
  simp[h3,h7,h8,h9,hlt,zC gs[i]];refine zE (hrec gs[i] (yOD hlt) _) (by simp[zC gs[i]]) ?_;simp[h3,h9,hwr,hwi];refine ih (i+1) (m+zJ gs[i]) _ _ r (by omega) (by omega) ?_ ?_ ?_ ?_ (by rw[hr];congr 2;omega);all_goals simp[h3,h7,h8,h9]
theorem zSP:∀(v:Va),zJ v < 2^62->∀(D:Nat),Go.Ab.Loc Pg Gl D 127 [encV v] [] (.int .i64 (zJ v)) []:=by
 refine Va.ind' fun n gs ws hrec=> ?_;intro hn D;rw[zJ] at hn;refine zP zF tok rfl rfl fun S=> ?_;unfold c127;generalize hr:AV.int .i64 (zJ (.mk n gs ws))=r;rw[zT];simp;refine l116 D gs (by have:=uM gs;omega) (fun a ha D=>hrec a ha (by have:=wU ha;omega) D) S gs.length 0 1 _ _ r (by simp) (by simpa using hn) ?_ ?_ ?_ ?_ (by rw[<-hr,zJ];simp);all_goals simp
theorem l134 (D:Nat) (ws:List Int) (hlen:ws.length<=maxLen) (S):∀(j i:Nat) (s:Int) (τ ω) (r:AV),i+j=ws.length->0<=s->s<=1048576->
  τ 3= .int .i64 s->τ 6= .sl 1 (ws.map (AV.int .i64)) .no->τ 7= .int .i64 ws.length->τ 8= .int .i64 i->r= .bool (wOk s (ws.drop i))->
  Rd (Loc Pg Gl) .im (RetQ [.tmp 2] r S) [.lp c190_l0,.blk 0,.c aY] (stF 24 D τ ω S):=by
 intro j
 induction j with
 | zero=>
  intro i s τ ω r hi hs0 hs1 h3 h6 h7 h8 hr;refine zN c190_l0.eq_1 ?_;obtain rfl:i=ws.length:=by omega
  rw[yOI,wOk] at hr;simp[h3,h6,h7,h8,aY,hr]
 | succ j ih=>
  intro i s τ ω r hi hs0 hs1 h3 h6 h7 h8 hr;refine zN c190_l0.eq_1 ?_;have hlt:i < ws.length:=by omega
  have hwr:=yA hlt hlen;obtain ⟨w,hw⟩:∃w,ws[i]=w:=⟨_,rfl⟩;rw[yOF hlt,hw,wOk] at hr;by_cases h1:w < 1
  ·rw[decide_eq_false (show¬1<=w by omega),yOC] at hr;simp[h3,h6,h7,h8,hlt,hw,h1,hr]
  rw[decide_eq_true (show 1<=w by omega),yOB] at hr;by_cases h2:1048576 < w
  ·rw[decide_eq_false (show¬w<=1048576 - s by omega),yOC] at hr;simp[h3,h6,h7,h8,hlt,hw,h1,h2,hr]
  have hwa:IntKind.i64.wrap (s+w)=s+w:=by simp[IntKind.wrap,IntKind.bits,IntKind.signed];omega
  by_cases h4:1048576 < s+w
  ·rw[decide_eq_false (show¬w<=1048576 - s by omega),yOC] at hr;simp[h3,h6,h7,h8,hlt,hw,h1,h2,hwa,h4,hr]
  rw[decide_eq_true (show w<=1048576 - s by omega),yOB] at hr;simp[h3,h6,h7,h8,hlt,hw,h1,h2,hwa,h4,hwr];refine ih (i+1) (s+w) _ _ r (by omega) (by omega) (by omega) ?_ ?_ ?_ ?_ hr;all_goals simp[h3,h6,h7,h8]
theorem zRY (D:Nat) (ws:List Int) (hlen:ws.length<=maxLen):Go.Ab.Loc Pg Gl D 190 [.sl 1 (ws.map (AV.int .i64)) .no] [] (.bool (wOk 0 ws)) []:=by
 refine zP zF tok rfl rfl fun S=> ?_;unfold c190;generalize hr:AV.bool (wOk 0 ws)=r;simp;refine l134 D ws hlen S ws.length 0 0 _ _ r (by simp) (by omega) (by omega) ?_ ?_ ?_ ?_ (by rw[<-hr];simp);all_goals simp
theorem yCD (D:Nat) (Q:St->Prop) (k:List AI) (S) (ω):∀(m a b:Nat) (τ:Nat->AV),b<=m->
  τ 3= .int .i64 a->τ 5= .int .i64 b->
  (∀τ':Nat->AV,τ' 3= .int .i64 (Nat.gcd a b)->τ' 6=τ 6->τ' 7=τ 7->τ' 8=τ 8->Rd (Loc Pg Gl) .im Q k (stF 20 D τ' ω S))->
  Rd (Loc Pg Gl) .im Q (.lp c191_l0:: .blk 2::k) (stF 20 D τ ω S):=by
 intro m
 induction m with
 | zero=>
  intro a b τ hb h3 h5 hk;refine zN c191_l0.eq_1 ?_;obtain rfl:b=0:=by omega
  simp[h3,h5];refine hk _ ?_ ?_ ?_ ?_;all_goals simp[h3]
 | succ m ih=>
  intro a b τ hb h3 h5 hk;refine zN c191_l0.eq_1 ?_;by_cases hb0:b=0
  ·subst hb0;simp[h3,h5];refine hk _ ?_ ?_ ?_ ?_;all_goals simp[h3]
  ·have e:(a:Int).tmod b=((a % b:Nat):Int):=by rw[Int.tmod_eq_emod_of_nonneg (by omega)];exact (yPT a b).symm
   have hlt:=Nat.mod_lt a (show 0 < b by omega);simp[h3,h5,hb0,e,-yPT];refine ih b (a % b) _ (by omega) ?_ ?_ fun τ' q3 q6 q7 q8=>hk τ' ?_ ?_ ?_ ?_
   case refine_3=>rw[q3,Nat.gcd_comm a b,Nat.gcd_rec b a,Nat.gcd_comm]
   all_goals first | simp[q6,q7,q8] | simp
theorem yCC (D:Nat) (ws:List Int) (hlen:ws.length<=maxLen) (hpos:∀w∈ws,0<=w) (S):∀(j i a:Nat) (τ ω) (r:AV),i+j=ws.length->
  τ 3= .int .i64 a->τ 6= .sl 1 (ws.map (AV.int .i64)) .no->τ 7= .int .i64 ws.length->τ 8= .int .i64 i->r= .int .i64 (wP a (ws.drop i))->
  Rd (Loc Pg Gl) .im (RetQ [.tmp 2] r S) [.lp c191_l1,.blk 0,.c aX] (stF 20 D τ ω S):=by
 intro j
 induction j with
 | zero=>
  intro i a τ ω r hi h3 h6 h7 h8 hr;refine zN c191_l1.eq_1 ?_;obtain rfl:i=ws.length:=by omega
  rw[yOI] at hr;simp[h3,h6,h7,h8,aX];simp[hr,wP]
 | succ j ih=>
  intro i a τ ω r hi h3 h6 h7 h8 hr;refine zN c191_l1.eq_1 ?_;have hlt:i < ws.length:=by omega
  have hwr:=yA hlt hlen;obtain ⟨w,hw⟩:∃w:Nat,ws[i]=w:=yPR (hpos _ (yOD hlt));rw[yOF hlt,hw] at hr;have hr:r= .int .i64 (wP (Nat.gcd a w) (ws.drop (i+1))):=hr;simp[h3,h6,h7,h8,hlt,hw];refine yCD D _ _ S _ w a w _ (yOP _) ?_ ?_ fun τ' q3 q6 q7 q8=> ?_
  case refine_3=>
   simp[h6] at q6;simp[h7] at q7;simp[h8] at q8;simp[zKQ,q8,hwr];refine ih (i+1) (Nat.gcd a w) _ _ r (by omega) ?_ ?_ ?_ ?_ hr;all_goals simp[q3,q6,q7]
  all_goals simp[h3]
theorem zRX (D:Nat) (ws:List Int) (hlen:ws.length<=maxLen) (hpos:∀w∈ws,0<=w):Go.Ab.Loc Pg Gl D 191 [.sl 1 (ws.map (AV.int .i64)) .no] [] (.int .i64 (gcdW ws)) []:=by
 refine zP zF tok rfl rfl fun S=> ?_;unfold c191;generalize hr:AV.int .i64 (gcdW ws)=r;simp;refine yCC D ws hlen hpos S ws.length 0 0 _ _ r (by simp) ?_ ?_ ?_ ?_ (by rw[<-hr,yOM,uW]);all_goals simp
end Go.Ab.Tab
/- Values: the program's elements. -/
namespace Go.Ab.Tab
open Go Go.Ab
def setP (k:Int) (v:Va):Bool:=(decide (k=5) || (decide (v.ws.length=v.gs.length)&&wOk 0 v.ws))&&(!(decide (k=7)&&decide (v.gs.length=0))&&(decide (v.gs.length<=100)&&((!(decide (k=7)) || decide (gcdW v.ws=1))&&incr v.gs)))
theorem l133 (D:Nat) (gs:List Va) (hlen:gs.length<=maxLen) (hfit:∀a∈gs,fitV a) (n:Int) (W:AV) (d' o:Nat) (hd:¬d'=D) (S) (Q:St->Prop) (b:Bool) (hQ:∀τ ω,τ 6= .bool b->Q (stF 76 D τ ω S)):∀(j i:Nat) (τ ω),1<=i->gs.length<=i+j->
  τ 5= .ptr D 5 1 0->τ 7= .int .i64 i->ω 5=(1,.cells [.int .i64 n,.sl 3 (gs.map encV) .no,W])->b=incr (gs.drop (i - 1))->
  Rd (Loc Pg Gl) .im Q [.lp c187_l0,.blk 0,.c eI] (stF 76 D τ ω S):=by
 intro j
 induction j with
 | zero=>
  intro i τ ω h1 hi h5 h7 w5 hb;refine zN c187_l0.eq_1 ?_;have hx:incr (gs.drop (i - 1))=true:=by
   have:(gs.drop (i - 1)).length<=1:=by rw[yPA];omega
   match gs.drop (i - 1),this with
   | [],_=>rfl
   | [_],_=>rfl
  have hle:¬i < gs.length:=by omega
  simp[h5,h7,w5,hle,eI];refine hQ _ _ ?_;simp[hb,hx]
 | succ j ih=>
  intro i τ ω h1 hi h5 h7 w5 hb;refine zN c187_l0.eq_1 ?_;by_cases hlt:i < gs.length
  ·have hwr:=yA hlt hlen;obtain ⟨p,rfl⟩:∃p,i=p+1:=⟨i - 1,by omega⟩;have hp:p < gs.length:=by omega
   have hml:=hlen;unfold maxLen at hml;have hws:IntKind.i64.wrap (((p+1:Nat):Int) - 1)=(p:Int):=by simp[IntKind.wrap,IntKind.bits,IntKind.signed];omega
   rw[yPU,yOF hp,yOF hlt,incr] at hb;simp[h5,h7,w5,hlt,hp,hws,zC gs[p],zC gs[p+1],-yOT];refine zW (zRW gs[p] (hfit _ (yOD hp)) gs[p+1] _) (by simp[zC gs[p],zC gs[p+1]]) ?_;by_cases hc:cmpV gs[p] gs[p+1] < 0
   ·rw[decide_eq_true hc,yOB] at hb;have hc':¬0<=cmpV gs[p] gs[p+1]:=by omega
    simp[hc',h7,hwr,-yOT];refine ih (p+1+1) _ _ (by omega) (by omega) ?_ ?_ w5 ?_
    case refine_3=>rw[hb,yPU,yOF hlt]
    all_goals simp[h5]
   ·rw[decide_eq_false hc,yOC] at hb;have hc':0<=cmpV gs[p] gs[p+1]:=by omega
    simp[hc'];refine hQ _ _ ?_;simp[hb]
  ·have hx:incr (gs.drop (i - 1))=true:=by
    have:(gs.drop (i - 1)).length<=1:=by rw[yPA];omega
    match gs.drop (i - 1),this with
    | [],_=>rfl
    | [_],_=>rfl
   simp[h5,h7,w5,hlt,eI];refine hQ _ _ ?_;simp[hb,hx]
theorem bG (D:Nat) (f:Fu) (n:Nat) (left:Int) (v:Va) (hv:fitV v) (d' o g:Nat) (hd:d' < D):Go.Ab.Loc Pg Gl D 187 [.ptr d' o g 0,encF f,encV v] [(d',o,(g,.cells [.int .i64 n,.int .i64 left,.bool false]))] (.bool (setP f.k v)) []:=by
 have hDd:¬d'=D:=by omega
 refine yH zF tok rfl rfl fun S hS=> ?_;have hS:=(hS _ (yON.2 rfl)).2;simp only at hS;have hfv:=(pA v).1 hv;unfold c187;generalize hr:setP f.k v=b;unfold setP at hr;rw[zB f,zC v];have h100:(100 < (v.gs.length:Int))↔¬v.gs.length<=100:=by omega
 by_cases h5:f.k=5
 ·simp[h5] at hr;by_cases hl:v.gs.length<=100
  ·rw[decide_eq_true hl,yOB] at hr;simp[h5,hDd,hS,h100,hl];refine l133 D v.gs hfv.1.1 (y8 hfv.2) v.n (.sl 1 (v.ws.map (AV.int .i64)) .no) d' o hDd S _ b ?_ v.gs.length 1 _ _ (by omega) (by omega) ?_ ?_ ?_ ?_
   case refine_5=>rw[<-hr];rfl
   case refine_1=>intro τ ω h;simp[h]
   all_goals simp
  ·rw[decide_eq_false hl,yOC] at hr;simp[h5,hDd,hS,h100,hl,<-hr]
 rw[decide_eq_false h5,yOS] at hr;by_cases hw:v.ws.length=v.gs.length
 case neg=>
  have hw':¬(v.ws.length:Int)=v.gs.length:=by omega
  rw[decide_eq_false hw,yOC,yOC] at hr;simp[h5,hDd,hS,hw',hw,<-hr]
 rw[decide_eq_true hw,yOB] at hr;simp[h5,hDd,hS,hw];refine zE (zRY _ v.ws hfv.1.2) (by simp) ?_;cases hk:wOk 0 v.ws with
 | false=>
  rw[hk,yOC] at hr;simp[<-hr]
 | true=>
 have hpos:∀w∈v.ws,0<=w:=fun w hw=>by have:=(bA (by omega) hk).1 w hw;omega
 rw[hk,yOB] at hr;by_cases h7:f.k=7
 ·rw[decide_eq_true h7,yOB,yOX,yOS] at hr;by_cases h0:v.gs.length=0
  ·rw[decide_eq_true h0,yOX,yOC] at hr;have h0':v.gs= []:=yOR.1 h0;simp[h7,h0',<-hr]
  ·rw[decide_eq_false h0,yPV,yOB] at hr;have h0':¬v.gs= []:=fun e=>h0 (by rw[e];rfl);by_cases hl:v.gs.length<=100
   ·rw[decide_eq_true hl,yOB] at hr;simp[h7,h0',hDd,hS,h100,hl];refine zE (zRX _ v.ws hfv.1.2 hpos) (by simp) ?_;by_cases hg:gcdW v.ws=1
    ·rw[decide_eq_true hg,yOB] at hr;simp[hg];refine l133 D v.gs hfv.1.1 (y8 hfv.2) v.n (.sl 1 (v.ws.map (AV.int .i64)) .no) d' o hDd S _ b ?_ v.gs.length 1 _ _ (by omega) (by omega) ?_ ?_ ?_ ?_
     case refine_5=>rw[<-hr];rfl
     case refine_1=>intro τ ω h;simp[h]
     all_goals simp
    ·rw[decide_eq_false hg,yOC] at hr;have hg':¬(gcdW v.ws:Int)=1:=by omega
     simp[hg',hg,<-hr]
   ·rw[decide_eq_false hl,yOC] at hr;simp[h7,h0',hDd,hS,h100,hl,<-hr]
 ·rw[decide_eq_false h7,yOC,yPV,yOB,yPG,yOB] at hr;by_cases hl:v.gs.length<=100
  ·rw[decide_eq_true hl,yOB] at hr;simp[h7,hDd,hS,h100,hl];refine l133 D v.gs hfv.1.1 (y8 hfv.2) v.n (.sl 1 (v.ws.map (AV.int .i64)) .no) d' o hDd S _ b ?_ v.gs.length 1 _ _ (by omega) (by omega) ?_ ?_ ?_ ?_
   case refine_5=>rw[<-hr];rfl
   case refine_1=>intro τ ω h;simp[h]
   all_goals simp
  ·rw[decide_eq_false hl,yOC] at hr;simp[h7,hDd,hS,h100,hl,<-hr]
end Go.Ab.Tab
/- Values: the program's checker.valid and value.Valid. -/
namespace Go.Ab.Tab
open Go Go.Ab
def locP (n:Nat) (f:Fu) (v:Va):Bool:=okV n f v&&(qP f.k v&& !(sets f.k&&decide (100 < v.gs.length)))
mutual
def valP (n:Nat):Va->Fu->Bool
 | .mk a gs ws,f=>locP n f (.mk a gs ws)&&rZ n gs (zY f (.mk a gs ws))
def rZ (n:Nat):List Va->List Fu->Bool
 | [],_=>true
 | v::l,[]=>false
 | v::l,f::fs=>valP n v f&&rZ n l fs
end
theorem zGG (n:Nat) (a:Int) (gs:List Va) (ws:List Int) (f:Fu):valP n (.mk a gs ws) f=(locP n f (.mk a gs ws)&&rZ n gs (zY f (.mk a gs ws))):=by rw[valP]
theorem eU (n:Nat) (g:Fu):∀(l:List Va),rZ n l (yOH l.length g)=l.all (fun v=>valP n v g)
 | []=>by rw[rZ];rfl
 | v::l=>by rw[yOW,yPE,rZ,eU n g l];rfl
theorem zBA {n:Nat}:∀{l:List Va} {fs:List Fu},(∀v∈l,∀f,valP n v f=(valN n v f&& !(qL v f)))->rZ n l fs=(vZ n l fs&& !(pK l fs))
 | [],_,_=>by rw[rZ,vZ,pK];rfl
 | v::l,[],_=>by rw[rZ,vZ];rfl
 | v::l,f::fs,h=>by
  rw[rZ,vZ,pK,h v (by simp) f,zBA fun w hw=>h w (yOL _ hw)];cases valN n v f<;>cases qL v f<;>cases vZ n l fs<;>rfl
theorem zQK {n:Nat}:∀(v:Va) (f:Fu),valP n v f=(valN n v f&& !(qL v f)):=by
 refine Va.ind' fun a gs ws hrec=> ?_;intro f;rw[valP,valN,qL,zBA hrec,locP];have e:(Va.mk a gs ws).gs=gs:=rfl;rw[e];cases okV n f (.mk a gs ws)<;>cases qP f.k (.mk a gs ws)<;>cases (sets f.k&&decide (100 < gs.length))<;>cases vZ n gs (zY f (.mk a gs ws))<;>cases pK gs (zY f (.mk a gs ws))<;>rfl
def okC (n:Nat) (f:Fu) (v:Va) (left:Nat):Bool:=decide (zJ v<=left)&&valP n v f
def okCr (n:Nat) (g:Fu) (l:List Va) (left:Nat):Bool:=decide (zI l<=left)&&l.all (fun v=>valP n v g)
theorem zIK (n:Nat) (g:Fu) (v:Va) (l:List Va) (left:Nat):okCr n g (v::l) left=(okC n g v left&&okCr n g l (left - zJ v)):=by
 unfold okCr okC;rw[zI,yPI];by_cases h1:zJ v+zI l<=left
 ·rw[decide_eq_true h1,decide_eq_true (show zJ v<=left by omega),decide_eq_true (show zI l<=left - zJ v by omega)];simp
 ·rw[decide_eq_false h1];by_cases h3:zJ v<=left
  ·rw[decide_eq_false (show¬zI l<=left - zJ v by omega)];simp
  ·rw[decide_eq_false h3];simp
def zAM (n:Nat) (v:Va):Prop:=∀(f:Fu),zH f=true->∀(D left d' o g:Nat),d' < D->left < 2^40->∃left':Int,(okC n f v left=true->left'=((left - zJ v:Nat):Int))/\
  Go.Ab.Loc Pg Gl D 152 [.ptr d' o g 0,encF f,encV v] [(d',o,(g,.cells [.int .i64 n,.int .i64 left,.bool false]))] (.bool (okC n f v left)) [(d',o,(g,.cells [.int .i64 n,.int .i64 left',.bool false]))]
theorem l128 (D:Nat) (n:Nat) (k m:Int) (gf:Fu) (hgf:zH gf=true) (gs:List Va) (hlen:gs.length<=maxLen) (d' o g:Nat) (hd:d' < D)
  (hrec:∀a∈gs,zAM n a)
  :∀(j i left:Nat) (b:Bool),i+j=gs.length->left < 2^40->b=okCr n gf (gs.drop i) left->
  ∃left':Int,(b=true->left'=((left - zI (gs.drop i):Nat):Int))/\∀(S0:Nat->Nat->Ent) (τ:Nat->AV) (ω:Nat->Ent),τ 0= .ptr d' o g 0->τ 4= .ptr D 4 1 0->τ 153= .sl 3 (gs.map encV) .no->τ 154= .int .i64 gs.length->τ 155= .int .i64 i->
   ω 4=(1,.cells [.int .i64 k,.int .i64 m,.sl 3 [encF gf] .no])->
   Rd (Loc Pg Gl) .im (RetM [.tmp 6] (.bool b) D S0 [(d',o,(g,.cells [.int .i64 n,.int .i64 left',.bool false]))]) [.lp c152_l0,.blk 1,.c a7] (stF 168 D τ ω (updS S0 d' o (g,.cells [.int .i64 n,.int .i64 left,.bool false]))):=by
 have hDd:¬d'=D:=by omega
 intro j
 induction j with
 | zero=>
  intro i left b hi hl hb;obtain rfl:i=gs.length:=by omega
  rw[yOI] at hb;refine ⟨left,fun _=>by simp[zI],?_⟩;intro S0 τ ω h0 h4 h153 h154 h155 w4;refine zN c152_l0.eq_1 ?_;simp[h0,h4,h153,h154,h155,w4,a7];rw[hb];simp[okCr,zI]
 | succ j ih=>
  intro i left b hi hl hb;have hlt:i < gs.length:=by omega
  have hwr:=yA hlt hlen;have e:gs.drop i=gs[i]::gs.drop (i+1):=yOF hlt;rw[e,zIK] at hb;obtain ⟨l1,hl1,hloc⟩:=hrec gs[i] (yOD hlt) gf hgf (D+1) left d' o g (by omega) hl;have hM:∀(S0:Nat->Nat->Ent) (τ':Nat->AV) (ω':Nat->Ent),∀m∈[(d',o,((g,Ob.cells [.int .i64 n,.int .i64 left,.bool false]):Ent))],m.1<=D/\(m.1=D->m.2.1 < 168)/\(stF 168 D τ' ω' (updS S0 d' o (g,.cells [.int .i64 n,.int .i64 left,.bool false]))).look m.1 m.2.1=m.2.2:=by
   intro S0 τ' ω' m hm;rw[yON] at hm;subst hm;refine ⟨by simp;omega,fun e=>absurd e hDd,?_⟩;rw[yD,yRN hDd,uF]
  cases hok:okC n gf gs[i] left with
  | false=>
   rw[hok,yOC] at hb;subst hb;rw[hok] at hloc;refine ⟨l1,by simp,?_⟩;intro S0 τ ω h0 h4 h153 h154 h155 w4;refine zN c152_l0.eq_1 ?_;simp[h0,h4,h153,h154,h155,w4,hlt,zC gs[i],zB gf];refine zM hloc (by simp[zC gs[i],zB gf,h0]) (hM _ _ _) (by simp) ?_;simp[hDd]
  | true=>
   rw[hok,yOB] at hb;rw[hok] at hloc;obtain rfl:=hl1 hok;have hn:zJ gs[i]<=left:=by simp[okC] at hok;exact hok.1
   obtain ⟨l2,hl2,hrd⟩:=ih (i+1) (left - zJ gs[i]) b (by omega) (by omega) hb;refine ⟨l2,fun hbt=>by rw[e,zI,hl2 hbt];congr 1;omega,?_⟩;intro S0 τ ω h0 h4 h153 h154 h155 w4;refine zN c152_l0.eq_1 ?_;simp[h0,h4,h153,h154,h155,w4,hlt,zC gs[i],zB gf];refine zM hloc (by simp[zC gs[i],zB gf,h0]) (hM _ _ _) (by simp) ?_;simp[hDd,h155,hwr];refine hrd _ _ _ ?_ ?_ ?_ ?_ ?_ ?_;all_goals simp[h0,h4,h153,h154,h155,w4]
end Go.Ab.Tab
/- Values: the program's checker.valid and value.Valid. -/
namespace Go.Ab.Tab
open Go Go.Ab
theorem zS {n:Nat} {f:Fu} {a:Int} {gs:List Va} {ws:List Int} {left:Nat} (h:locP n f (.mk a gs ws)=false):okC n f (.mk a gs ws) left=false:=by
 unfold okC;rw[zGG,h];simp
theorem b9 {n:Nat} {f:Fu} {a:Int} {gs:List Va} {ws:List Int} {left:Nat} (h:locP n f (.mk a gs ws)=true):okC n f (.mk a gs ws) (left+1)=(decide (zI gs<=left)&&rZ n gs (zY f (.mk a gs ws))):=by
 unfold okC;rw[zGG,h,zJ,yOB];congr 1;exact decide_eq_decide.2 (by omega)
theorem zTW {k m:Int} {gs:List Fu} (h:zH (.mk k m gs)=true):k=0\/k=1\/k=2\/k=3\/k=4\/k=5\/k=6\/k=7:=by
 obtain ⟨hl,_⟩:=sZ h;apply Classical.byContradiction;intro h;have:arK k= -1:=by unfold arK;repeat rw[yRN (by omega)]
 omega
theorem tN (n:Nat) (k m:Int) (fg:List Fu) (a:Int) (gs:List Va) (ws:List Int):locP n (.mk k m fg) (.mk a gs ws)=
  ((wE (.mk k m fg) (.mk a gs ws)&&(oD (.mk k m fg) n (.mk a gs ws)&&yU k (.mk a gs ws)))&&(qP k (.mk a gs ws)&& !(sets k&&decide (100 < gs.length)))):=rfl
theorem uL (n:Nat) (k m:Int) (fg:List Fu) (a:Int) (gs:List Va) (ws:List Int):oD (.mk k m fg) n (.mk a gs ws)=(decide (0<=a)&&decide (a<=if k=0 then (n:Int) - 1 else if k=1 then m - 1 else if k=3 then 1 else 0)):=rfl
theorem vB (k m:Int) (fg:List Fu) (a:Int) (gs:List Va) (ws:List Int):wE (.mk k m fg) (.mk a gs ws)=(!(decide (k=3)&&(decide (a < 0) || decide (1 < a)))&&decide ((zY (.mk k m fg) (.mk a gs ws)).length=gs.length)):=rfl
theorem uD (k:Int) (a:Int) (gs:List Va) (ws:List Int):yU k (.mk a gs ws)=(if wtd k then wOk 0 ws&&(decide (ws.length=gs.length)&&(decide (k=6) || decide (0 < gs.length))) else decide (ws.length=0)):=rfl
theorem lO (k:Int) (a:Int) (gs:List Va) (ws:List Int):qP k (.mk a gs ws)=(!(sets k) || (incr gs&&(!(decide (k=7)) || decide (gcdW ws=1)))):=rfl
theorem xJ (k m:Int) (fg:List Fu) (a:Int) (gs:List Va) (ws:List Int):zY (.mk k m fg) (.mk a gs ws)=if k=0\/k=1 then [] else if k=2 then fg else if k=3 then (if a < 0\/1 < a then [] else (fg.drop a.toNat).take 1) else
 if k=4 then yOH m.toNat (fg.headD (.mk 0 0 [])) else yOH gs.length (fg.headD (.mk 0 0 [])):=rfl
def okP (n:Nat) (l:List Va) (fs:List Fu) (left:Nat):Bool:=decide (zI l<=left)&&rZ n l fs
theorem b8 (n:Nat) (fs:List Fu) (left:Nat):okP n [] fs left=true:=by unfold okP;rw[zI,rZ];simp
theorem mX (n:Nat) (v:Va) (l:List Va) (f:Fu) (fs:List Fu) (left:Nat):okP n (v::l) (f::fs) left=(okC n f v left&&okP n l fs (left - zJ v)):=by
 unfold okP okC;rw[zI,rZ];by_cases h1:zJ v+zI l<=left
 ·rw[decide_eq_true h1,decide_eq_true (show zJ v<=left by omega),decide_eq_true (show zI l<=left - zJ v by omega)];simp
 ·rw[decide_eq_false h1];by_cases h3:zJ v<=left
  ·rw[decide_eq_false (show¬zI l<=left - zJ v by omega)];simp
  ·rw[decide_eq_false h3];simp
theorem fA (n:Nat) (l:List Va) (g:Fu) (left:Nat):okP n l (yOH l.length g) left=okCr n g l left:=by
 unfold okP okCr;rw[eU]
theorem sB {n:Nat} {f:Fu} {a:Int} {gs:List Va} {ws:List Int} {left:Nat} (h:locP n f (.mk a gs ws)=true):okC n f (.mk a gs ws) (left+1)=okP n gs (zY f (.mk a gs ws)) left:=b9 h
theorem zIL {n:Nat} {f:Fu} {v:Va} {left:Nat} (h:okC n f v left=true):zJ v<=left:=by
 unfold okC at h;simp at h;exact h.1
theorem bO {k:Int} (hs:sets k=true) (v:Va) (h5:k=5->v.ws= []):setP k v=(yU k v&&(qP k v&& !(decide (100 < v.gs.length)))):=by
 unfold setP yU qP;have hd:(!(decide (100 < v.gs.length)))=decide (v.gs.length<=100):=by
  by_cases h:v.gs.length<=100
  ·rw[decide_eq_true h,decide_eq_false (by omega)];rfl
  ·rw[decide_eq_false h,decide_eq_true (by omega)];rfl
 rw[hs,hd];rcases zHT hs with rfl | rfl | rfl
 ·rw[h5 rfl];simp[wtd];exact Bool.and_comm _ _
 ·simp[wtd];rw[Bool.and_comm (wOk 0 v.ws)];cases decide (v.ws.length=v.gs.length)<;>cases wOk 0 v.ws<;>cases decide (v.gs.length<=100)<;>cases incr v.gs<;>rfl
 ·have h0:decide (v.gs.length=0)= !(decide (0 < v.gs.length)):=by
   by_cases h:v.gs.length=0
   ·rw[decide_eq_true h,decide_eq_false (by omega)];rfl
   ·rw[decide_eq_false h,decide_eq_true (by omega)];rfl
  have e1:wtd 7=true:=rfl;rw[e1,yRO rfl,h0];have e2:decide ((7:Int)=5)=false:=rfl;have e3:decide ((7:Int)=7)=true:=rfl;have e4:decide ((7:Int)=6)=false:=rfl;rw[e2,e3,e4];cases decide (v.ws.length=v.gs.length)<;>cases wOk 0 v.ws<;>cases decide (v.gs.length<=100)<;>cases incr v.gs<;>cases decide (gcdW v.ws=1)<;>cases decide (0 < v.gs.length)<;>rfl
theorem zSH (n:Nat) (hn:n<=2000):∀(v:Va),fitV v->zAM n v:=by
 refine Va.ind' fun a gs ws hrec=> ?_;intro hfit f hf D left d' o g hd hl;have hfv:=(pA _).1 hfit;have hgl:gs.length<=maxLen:=hfv.1.1;have hrec:∀a∈gs,zAM n a:=fun b hb=>hrec b hb (y8 hfv.2 b hb);have hDd:¬d'=D:=by omega
 have hw:IntKind.i64.wrap ((left:Int) - 1)=(left:Int) - 1:=by
  simp[IntKind.wrap,IntKind.bits,IntKind.signed];omega
 cases f with
 | mk k m fg=>
 have hk:=zTW hf;obtain ⟨hfl,hm1,hm2,hfg⟩:=sZ hf;have hM:∀(l:Int) (S0:Nat->Nat->Ent) (τ':Nat->AV) (ω':Nat->Ent),∀q∈[(d',o,((g,Ob.cells [.int .i64 n,.int .i64 l,.bool false]):Ent))],q.1<=D/\(q.1=D->q.2.1 < 168)/\(stF 168 D τ' ω' (updS S0 d' o (g,.cells [.int .i64 n,.int .i64 l,.bool false]))).look q.1 q.2.1=q.2.2:=by
  intro l S0 τ' ω' q hq;rw[yON] at hq;subst hq;refine ⟨by simp;omega,fun e=>absurd e hDd,?_⟩;rw[yD,yRN hDd,uF]
 -- a way that ends
 have go:∀(left':Int) (b:Bool),okC n (.mk k m fg) (.mk a gs ws) left=b->(b=true->left'=((left - zJ (.mk a gs ws):Nat):Int))->
   (∀S0,S0 d' o=(g,.cells [.int .i64 n,.int .i64 left,.bool false])->Rd (Loc Pg Gl) .im (RetM [.tmp 6] (.bool b) D S0 [(d',o,(g,.cells [.int .i64 n,.int .i64 left',.bool false]))]) [.c c152] (stF 168 D (vH 0 [.ptr d' o g 0,encF (.mk k m fg),encV (.mk a gs ws)]) (fun _=>(0,.dead)) S0))->
   ∃left':Int,(okC n (.mk k m fg) (.mk a gs ws) left=true->left'=((left - zJ (.mk a gs ws):Nat):Int))/\Go.Ab.Loc Pg Gl D 152 [.ptr d' o g 0,encF (.mk k m fg),encV (.mk a gs ws)] [(d',o,(g,.cells [.int .i64 n,.int .i64 left,.bool false]))] (.bool (okC n (.mk k m fg) (.mk a gs ws) left)) [(d',o,(g,.cells [.int .i64 n,.int .i64 left',.bool false]))]:=by
  intro left' b hok hb h;refine ⟨left',by rw[hok];exact hb,?_⟩;rw[hok];refine yH zF tok rfl rfl fun S hS=> ?_;exact h S (hS _ (yON.2 rfl)).2
 have fin:∀(left':Int),okC n (.mk k m fg) (.mk a gs ws) left=false->
   (∀S0,S0 d' o=(g,.cells [.int .i64 n,.int .i64 left,.bool false])->Rd (Loc Pg Gl) .im (RetM [.tmp 6] (.bool false) D S0 [(d',o,(g,.cells [.int .i64 n,.int .i64 left',.bool false]))]) [.c c152] (stF 168 D (vH 0 [.ptr d' o g 0,encF (.mk k m fg),encV (.mk a gs ws)]) (fun _=>(0,.dead)) S0))->_:=
  fun left' h1 h2=>go left' false h1 (by simp) h2
 have hw1:IntKind.i64.wrap (-1)= -1:=by decide
 by_cases h1:left=0
 ·refine fin (-1) (by simp[okC];have:=iS (.mk a gs ws);omega) fun S0 hS=> ?_;subst h1;unfold c152;rw[zU,zT];simp[hDd,hS,hw1]
 obtain ⟨L,hL⟩:∃L,left=L+1:=⟨left - 1,by omega⟩;have hwL:IntKind.i64.wrap ((left:Int) - 1)=(L:Int):=by rw[hw];omega
 rcases hk with rfl | rfl | rfl | rfl | rfl | rfl | rfl | rfl
 ·-- 0
  have hloc:=tN n 0 m fg a gs ws;simp[uL,vB,uD,lO,xJ,sets,wtd] at hloc;by_cases hws:ws= []
  case neg=>
   refine fin L (zS (by rw[hloc];simp[hws])) fun S0 hS=> ?_;unfold c152;rw[zU,zT];simp[hDd,hS,hwL,hws]
  by_cases hgs:gs= []
  case neg=>
   refine fin L (zS (by rw[hloc];simp[show¬0=gs.length from fun e=>hgs (yOR.1 e.symm)])) fun S0 hS=> ?_;unfold c152;rw[zU,zT];simp[hDd,hS,hwL,hws,hgs]
  subst hws hgs;simp at hloc;by_cases ha:0<=a
  case neg=>
   refine fin L (zS (by rw[hloc];simp[ha])) fun S0 hS=> ?_;unfold c152;rw[zU,zT];simp[hDd,hS,hwL,ha]
  refine go L (decide (a < n)) ?_ ?_ fun S0 hS=> ?_
  ·by_cases hb:a < n
   ·rw[hL,b9 (by rw[hloc];simp[ha];omega),xJ];simp[zI,rZ,hb]
   ·rw[zS (by rw[hloc];simp[ha];omega)];simp[hb]
  ·intro _;rw[zJ,zI,hL];simp
  ·unfold c152;rw[zU,zT];simp[hDd,hS,hwL,ha]
 ·-- 1
  have hloc:=tN n 1 m fg a gs ws;simp[uL,vB,uD,lO,xJ,sets,wtd] at hloc;by_cases hws:ws= []
  case neg=>
   refine fin L (zS (by rw[hloc];simp[hws])) fun S0 hS=> ?_;unfold c152;rw[zU,zT];simp[hDd,hS,hwL,hws]
  by_cases hgs:gs= []
  case neg=>
   refine fin L (zS (by rw[hloc];simp[show¬0=gs.length from fun e=>hgs (yOR.1 e.symm)])) fun S0 hS=> ?_;unfold c152;rw[zU,zT];simp[hDd,hS,hwL,hws,hgs]
  subst hws hgs;simp at hloc;by_cases ha:0<=a
  case neg=>
   refine fin L (zS (by rw[hloc];simp[ha])) fun S0 hS=> ?_;unfold c152;rw[zU,zT];simp[hDd,hS,hwL,ha]
  refine go L (decide (a < m)) ?_ ?_ fun S0 hS=> ?_
  ·by_cases hb:a < m
   ·rw[hL,b9 (by rw[hloc];simp[ha];omega),xJ];simp[zI,rZ,hb]
   ·rw[zS (by rw[hloc];simp[ha];omega)];simp[hb]
  ·intro _;rw[zJ,zI,hL];simp
  ·unfold c152;rw[zU,zT];simp[hDd,hS,hwL,ha]
 ·-- 2
  have hloc:=tN n 2 m fg a gs ws;simp[uL,vB,uD,lO,xJ,sets,wtd] at hloc;by_cases hws:ws= []
  case neg=>
   refine fin L (zS (by rw[hloc];simp[hws])) fun S0 hS=> ?_;unfold c152;rw[zU,zT];simp[hDd,hS,hwL,hws]
  by_cases ha:a=0
  case neg=>
   refine fin L (zS (by rw[hloc];simp[hws];omega)) fun S0 hS=> ?_;unfold c152;rw[zU,zT];simp[hDd,hS,hwL,hws,ha]
  subst ha;subst hws;obtain ⟨f0,f1,rfl⟩:∃f0 f1,fg= [f0,f1]:=by
   match fg,hfl with
   | [a,b],_=>exact ⟨a,b,rfl⟩
  simp at hloc;by_cases hg:gs.length=2
  case neg=>
   have hg':¬(gs.length:Int)=2:=by omega
   refine fin L (zS (by rw[hloc];simp;omega)) fun S0 hS=> ?_;unfold c152;rw[zU,zT];simp[hDd,hS,hwL,hg']
  obtain ⟨v0,v1,rfl⟩:∃v0 v1,gs= [v0,v1]:=by
   match gs,hg with
   | [a,b],_=>exact ⟨a,b,rfl⟩
  simp at hloc;have hP:zY (.mk 2 m [f0,f1]) (.mk 0 [v0,v1] [])= [f0,f1]:=by rw[xJ];rfl
  have hok:=sB (left:=L) hloc;rw[hP,mX,mX,b8,yPJ] at hok;rw[<-hL] at hok;obtain ⟨l1,hl1,hloc1⟩:=hrec v0 (by simp) f0 (hfg f0 (by simp)) (D+1) L d' o g (by omega) (by omega);cases hb0:okC n f0 v0 L with
  | false=>
   rw[hb0] at hloc1;refine go l1 false (by rw[hok,hb0];rfl) (by simp) fun S0 hS=> ?_;unfold c152;rw[zU,zT];simp[hDd,hS,hwL,zB f0,zC v0];refine zM hloc1 (by simp[zC v0,zB f0]) (hM _ _ _ _) (by simp) ?_;simp[hDd]
  | true=>
   rw[hb0] at hloc1;obtain rfl:=hl1 hb0;have hn0:=zIL hb0;obtain ⟨l2,hl2,hloc2⟩:=hrec v1 (by simp) f1 (hfg f1 (by simp)) (D+1) (L - zJ v0) d' o g (by omega) (by omega);generalize hb1:okC n f1 v1 (L - zJ v0)=b1 at*;refine go l2 b1 (by rw[hok,hb0];rfl) ?_ fun S0 hS=> ?_
   ·intro e;have e1:zJ (.mk 0 [v0,v1] [])=1+(zJ v0+(zJ v1+0)):=by rw[zJ,zI,zI,zI]
    rw[hl2 e,e1];congr 1;omega
   unfold c152;rw[zU,zT];simp[hDd,hS,hwL,zB f0,zC v0];refine zM hloc1 (by simp[zC v0,zB f0]) (hM _ _ _ _) (by simp) ?_;simp[hDd,zB f1,zC v1];refine zM hloc2 (by simp[zC v1,zB f1]) (hM _ _ _ _) (by simp) ?_;simp[hDd]
 ·-- 3
  have hloc:=tN n 3 m fg a gs ws;simp[uL,vB,uD,lO,xJ,sets,wtd] at hloc;by_cases hws:ws= []
  case neg=>
   refine fin L (zS (by rw[hloc];simp[hws])) fun S0 hS=> ?_;unfold c152;rw[zU,zT];simp[hDd,hS,hwL,hws]
  subst hws;obtain ⟨f0,f1,rfl⟩:∃f0 f1,fg= [f0,f1]:=by
   match fg,hfl with
   | [a,b],_=>exact ⟨a,b,rfl⟩
  by_cases hg:gs.length=1
  case neg=>
   have hg':¬(gs.length:Int)=1:=by omega
   refine fin L (zS (by
    rw[tN,vB,xJ];by_cases hr:a < 0\/1 < a
    ·simp[hr];omega
    ·simp[hr];omega)) fun S0 hS=> ?_
   unfold c152;rw[zU,zT];simp[hDd,hS,hwL,hg']
  obtain ⟨v0,rfl⟩:∃v0,gs= [v0]:=by
   match gs,hg with
   | [a],_=>exact ⟨a,rfl⟩
  by_cases ha:a=0
  ·subst ha;have hP:zY (.mk 3 m [f0,f1]) (.mk 0 [v0] [])= [f0]:=by rw[xJ];rfl
   have hloc2:locP n (.mk 3 m [f0,f1]) (.mk 0 [v0] [])=true:=by rw[hloc];simp
   have hok:=sB (left:=L) hloc2;rw[hP,mX,b8,yPJ] at hok;rw[<-hL] at hok;obtain ⟨l1,hl1,hloc1⟩:=hrec v0 (by simp) f0 (hfg f0 (by simp)) (D+1) L d' o g (by omega) (by omega);generalize hb1:okC n f0 v0 L=b1 at*;refine go l1 b1 hok ?_ fun S0 hS=> ?_
   ·intro e;have e1:zJ (.mk 0 [v0] [])=1+(zJ v0+0):=by rw[zJ,zI,zI]
    rw[hl1 e,e1];congr 1;omega
   unfold c152;rw[zU,zT];simp[hDd,hS,hwL,zB f0,zC v0];refine zM hloc1 (by simp[zC v0,zB f0]) (hM _ _ _ _) (by simp) ?_;simp[hDd]
  by_cases ha1:a=1
  ·subst ha1;have hP:zY (.mk 3 m [f0,f1]) (.mk 1 [v0] [])= [f1]:=by rw[xJ];rfl
   have hloc2:locP n (.mk 3 m [f0,f1]) (.mk 1 [v0] [])=true:=by rw[hloc];simp
   have hok:=sB (left:=L) hloc2;rw[hP,mX,b8,yPJ] at hok;rw[<-hL] at hok;obtain ⟨l1,hl1,hloc1⟩:=hrec v0 (by simp) f1 (hfg f1 (by simp)) (D+1) L d' o g (by omega) (by omega);generalize hb1:okC n f1 v0 L=b1 at*;refine go l1 b1 hok ?_ fun S0 hS=> ?_
   ·intro e;have e1:zJ (.mk 1 [v0] [])=1+(zJ v0+0):=by rw[zJ,zI,zI]
    rw[hl1 e,e1];congr 1;omega
   unfold c152;rw[zU,zT];simp[hDd,hS,hwL,zB f1,zC v0];refine zM hloc1 (by simp[zC v0,zB f1]) (hM _ _ _ _) (by simp) ?_;simp[hDd]
  ·refine fin L (zS (by rw[hloc];simp;omega)) fun S0 hS=> ?_;unfold c152;rw[zU,zT];simp[hDd,hS,hwL,ha,ha1]
 ·-- 4
  have hloc:=tN n 4 m fg a gs ws;simp[uL,vB,uD,lO,xJ,sets,wtd] at hloc;by_cases hws:ws= []
  case neg=>
   refine fin L (zS (by rw[hloc];simp[hws])) fun S0 hS=> ?_;unfold c152;rw[zU,zT];simp[hDd,hS,hwL,hws]
  by_cases ha:a=0
  case neg=>
   refine fin L (zS (by rw[hloc];simp[hws];omega)) fun S0 hS=> ?_;unfold c152;rw[zU,zT];simp[hDd,hS,hwL,hws,ha]
  subst ha;subst hws;obtain ⟨f0,rfl⟩:∃f0,fg= [f0]:=by
   match fg,hfl with
   | [a],_=>exact ⟨a,rfl⟩
  by_cases hg:(gs.length:Int)=m
  case neg=>
   refine fin L (zS (by
    have e4:wO 4=4:=rfl;rw[e4] at hm1;rw[hloc];simp;omega)) fun S0 hS=> ?_
   unfold c152;rw[zU,zT];simp[hDd,hS,hwL,hg]
  subst hg;simp at hloc;have hP:zY (.mk 4 gs.length [f0]) (.mk 0 gs [])=yOH gs.length f0:=by rw[xJ];simp
  have hok:=sB (left:=L) hloc;rw[hP,fA,<-hL] at hok;obtain ⟨l1,hl1,hrd⟩:=l128 D n 4 gs.length f0 (hfg f0 (by simp)) gs hgl d' o g hd hrec gs.length 0 L (okCr n f0 gs L) (by omega) (by omega) (by simp);generalize hb1:okCr n f0 gs L=b1 at*;refine go l1 b1 hok ?_ fun S0 hS=> ?_
  ·intro e;rw[hl1 e,zJ,yOM];congr 1;omega
  unfold c152;rw[zU,zT];simp[hDd,hS,hwL,jQ];refine hrd S0 _ _ ?_ ?_ ?_ ?_ ?_ ?_;all_goals simp
 ·-- 5
  by_cases hws:ws= []
  case neg=>
   refine fin L (zS (by rw[tN,uD,yRN (by simp[wtd]),decide_eq_false (fun e=>hws (yOR.1 e))];simp)) fun S0 hS=> ?_;unfold c152;rw[zU,zT];simp[hDd,hS,hwL,hws]
  by_cases ha:a=0
  case neg=>
   refine fin L (zS (by rw[tN,uL];simp;omega)) fun S0 hS=> ?_;unfold c152;rw[zU,zT];simp[hDd,hS,hwL,ha,hws]
  subst ha;obtain ⟨f0,rfl⟩:∃f0,fg= [f0]:=by
   match fg,hfl with
   | [a],_=>exact ⟨a,rfl⟩
  have hP:zY (.mk 5 m [f0]) (.mk 0 gs ws)=yOH gs.length f0:=by rw[xJ];rfl
  have hloc:locP n (.mk 5 m [f0]) (.mk 0 gs ws)=setP 5 (.mk 0 gs ws):=by
   rw[bO (show sets 5=true from rfl) (.mk 0 gs ws) (fun _=>hws)];have e1:wE (.mk 5 m [f0]) (.mk 0 gs ws)=true:=by rw[vB,hP];simp
   have e2:oD (.mk 5 m [f0]) n (.mk 0 gs ws)=true:=by rw[uL];rfl
   rw[tN,e1,e2,yOB,yOB];rfl
  have h133:=bG (D+1) (.mk 5 m [f0]) n L (.mk 0 gs ws) hfit d' o g (by omega);have hkk:(Fu.mk 5 m [f0]).k=5:=rfl;rw[hkk] at h133;cases hsp:setP 5 (.mk 0 gs ws) with
  | false=>
   rw[hsp] at h133;refine fin L (zS (by rw[hloc,hsp])) fun S0 hS=> ?_;unfold c152;rw[zU,zT];simp[hDd,hS,hwL,hws];refine zR h133 (by simp[zU,zT,hws]) (hM _ _ _ _) (by simp) ?_;simp[hDd]
  | true=>
   rw[hsp] at h133 hloc;have hok:=sB (left:=L) hloc;rw[hP,fA,<-hL] at hok;obtain ⟨l1,hl1,hrd⟩:=l128 D n 5 m f0 (hfg f0 (by simp)) gs hgl d' o g hd hrec gs.length 0 L (okCr n f0 gs L) (by omega) (by omega) (by simp);generalize hb1:okCr n f0 gs L=b1 at*;refine go l1 b1 hok ?_ fun S0 hS=> ?_
   ·intro e;rw[hl1 e,zJ,yOM];congr 1;omega
   unfold c152;rw[zU,zT];simp[hDd,hS,hwL,hws];refine zR h133 (by simp[zU,zT,hws]) (hM _ _ _ _) (by simp) ?_;simp[hDd,jQ];refine hrd S0 _ _ ?_ ?_ ?_ ?_ ?_ ?_;all_goals simp
 ·-- 6
  by_cases ha:a=0
  case neg=>
   refine fin L (zS (by rw[tN,uL];simp;omega)) fun S0 hS=> ?_;unfold c152;rw[zU,zT];simp[hDd,hS,hwL,ha]
  subst ha;obtain ⟨f0,rfl⟩:∃f0,fg= [f0]:=by
   match fg,hfl with
   | [a],_=>exact ⟨a,rfl⟩
  have hP:zY (.mk 6 m [f0]) (.mk 0 gs ws)=yOH gs.length f0:=by rw[xJ];rfl
  have hloc:locP n (.mk 6 m [f0]) (.mk 0 gs ws)=setP 6 (.mk 0 gs ws):=by
   rw[bO (show sets 6=true from rfl) (.mk 0 gs ws) (fun h=>absurd h (by omega))];have e1:wE (.mk 6 m [f0]) (.mk 0 gs ws)=true:=by rw[vB,hP];simp
   have e2:oD (.mk 6 m [f0]) n (.mk 0 gs ws)=true:=by rw[uL];rfl
   rw[tN,e1,e2,yOB,yOB];rfl
  have h133:=bG (D+1) (.mk 6 m [f0]) n L (.mk 0 gs ws) hfit d' o g (by omega);have hkk:(Fu.mk 6 m [f0]).k=6:=rfl;rw[hkk] at h133;cases hsp:setP 6 (.mk 0 gs ws) with
  | false=>
   rw[hsp] at h133;refine fin L (zS (by rw[hloc,hsp])) fun S0 hS=> ?_;unfold c152;rw[zU,zT];simp[hDd,hS,hwL];refine zR h133 (by simp[zU,zT]) (hM _ _ _ _) (by simp) ?_;simp[hDd]
  | true=>
   rw[hsp] at h133 hloc;have hok:=sB (left:=L) hloc;rw[hP,fA,<-hL] at hok;obtain ⟨l1,hl1,hrd⟩:=l128 D n 6 m f0 (hfg f0 (by simp)) gs hgl d' o g hd hrec gs.length 0 L (okCr n f0 gs L) (by omega) (by omega) (by simp);generalize hb1:okCr n f0 gs L=b1 at*;refine go l1 b1 hok ?_ fun S0 hS=> ?_
   ·intro e;rw[hl1 e,zJ,yOM];congr 1;omega
   unfold c152;rw[zU,zT];simp[hDd,hS,hwL];refine zR h133 (by simp[zU,zT]) (hM _ _ _ _) (by simp) ?_;simp[hDd,jQ];refine hrd S0 _ _ ?_ ?_ ?_ ?_ ?_ ?_;all_goals simp
 ·-- 7
  by_cases ha:a=0
  case neg=>
   refine fin L (zS (by rw[tN,uL];simp;omega)) fun S0 hS=> ?_;unfold c152;rw[zU,zT];simp[hDd,hS,hwL,ha]
  subst ha;obtain ⟨f0,rfl⟩:∃f0,fg= [f0]:=by
   match fg,hfl with
   | [a],_=>exact ⟨a,rfl⟩
  have hP:zY (.mk 7 m [f0]) (.mk 0 gs ws)=yOH gs.length f0:=by rw[xJ];rfl
  have hloc:locP n (.mk 7 m [f0]) (.mk 0 gs ws)=setP 7 (.mk 0 gs ws):=by
   rw[bO (show sets 7=true from rfl) (.mk 0 gs ws) (fun h=>absurd h (by omega))];have e1:wE (.mk 7 m [f0]) (.mk 0 gs ws)=true:=by rw[vB,hP];simp
   have e2:oD (.mk 7 m [f0]) n (.mk 0 gs ws)=true:=by rw[uL];rfl
   rw[tN,e1,e2,yOB,yOB];rfl
  have h133:=bG (D+1) (.mk 7 m [f0]) n L (.mk 0 gs ws) hfit d' o g (by omega);have hkk:(Fu.mk 7 m [f0]).k=7:=rfl;rw[hkk] at h133;cases hsp:setP 7 (.mk 0 gs ws) with
  | false=>
   rw[hsp] at h133;refine fin L (zS (by rw[hloc,hsp])) fun S0 hS=> ?_;unfold c152;rw[zU,zT];simp[hDd,hS,hwL];refine zR h133 (by simp[zU,zT]) (hM _ _ _ _) (by simp) ?_;simp[hDd]
  | true=>
   rw[hsp] at h133 hloc;have hok:=sB (left:=L) hloc;rw[hP,fA,<-hL] at hok;obtain ⟨l1,hl1,hrd⟩:=l128 D n 7 m f0 (hfg f0 (by simp)) gs hgl d' o g hd hrec gs.length 0 L (okCr n f0 gs L) (by omega) (by omega) (by simp);generalize hb1:okCr n f0 gs L=b1 at*;refine go l1 b1 hok ?_ fun S0 hS=> ?_
   ·intro e;rw[hl1 e,zJ,yOM];congr 1;omega
   unfold c152;rw[zU,zT];simp[hDd,hS,hwL];refine zR h133 (by simp[zU,zT]) (hM _ _ _ _) (by simp) ?_;simp[hDd,jQ];refine hrd S0 _ _ ?_ ?_ ?_ ?_ ?_ ?_;all_goals simp
theorem zSQ (f:Fu) (hf:zH f=true) (n:Nat) (hn:n<=2000) (v:Va) (hv:fitV v) (D:Nat):Go.Ab.Loc Pg Gl D 126 [encF f,.int .i64 n,encV v] [] (.bool (valV f n v)) []:=by
 have he:valV f n v=okC n f v 2000:=by unfold valV okC;rw[zQK]
 rw[he];refine zP zF tok rfl rfl fun S=> ?_;unfold c126;obtain ⟨l',_,hloc⟩:=zSH n hn v hv f hf (D+1) 2000 D 10 1 (by omega) (by omega);rw[zB f,zC v];simp;refine zR hloc (by simp[zB f,zC v]) ?_ (by simp) ?_
 ·intro m hm;rw[yON] at hm;subst hm;simp
 simp
end Go.Ab.Tab
/- Systems: the program's Valid. -/
namespace Go.Ab.Tab
open Go Go.Ab
theorem l95 (D:Nat) (s:Sy) (hsh:zH s.f=true) (hl:s.m.length<=100) (hv:∀v∈s.m,fitV v) (hb:zI s.m<=2^32) (S):∀(j i t:Nat) (τ ω) (r:AV),i+j=s.m.length->t+zI (s.m.drop i)<=2^33->
  τ 1= .ptr D 1 1 0->τ 3= .int .i64 t->τ 17= .sl 3 (s.m.map encV) .no->τ 18= .int .i64 s.m.length->τ 19= .int .i64 i->
  ω 1=(1,.cells [.int .i64 s.f.k,.int .i64 s.f.n,.sl 3 (s.f.gs.map encF) .no,.sl 3 (s.m.map encV) .no])->
  r= .bool ((s.m.drop i).all (fun v=>valV s.f s.m.length v)&&decide (t+zI (s.m.drop i)<=20000))->
  Rd (Loc Pg Gl) .im (RetQ [.tmp 2] r S) [.lp c102_l0,.blk 0,.c zAJ] (stF 38 D τ ω S):=by
 intro j
 induction j with
 | zero=>
  intro i t τ ω r hi ht h1 h3 h17 h18 h19 w1 hr;refine zN c102_l0.eq_1 ?_;obtain rfl:i=s.m.length:=by omega
  rw[yOI,zI,yPH] at hr;simp at hr;simp[h1,h3,h17,h18,h19,w1,zAJ,hr];omega
 | succ j ih=>
  intro i t τ ω r hi ht h1 h3 h17 h18 h19 w1 hr;refine zN c102_l0.eq_1 ?_;have hlt:i < s.m.length:=by omega
  have hwr:=yA hlt (by unfold maxLen;omega);have hd:s.m.drop i=s.m[i]::s.m.drop (i+1):=yOF hlt;have hnm:=wU (yOD hlt);rw[hd,yPI,zI,<-yOZ] at hr;rw[hd,zI,<-yOZ] at ht;simp[h1,h3,h17,h18,h19,w1,hlt,zC s.m[i]];refine zE (zSQ s.f hsh s.m.length (by omega) s.m[i] (hv _ (yOD hlt)) _) (by simp[zC s.m[i],zB s.f]) ?_;cases hb:valV s.f s.m.length s.m[i] with
  | false=>
   rw[hb] at hr;simp at hr;simp[hr]
  | true=>
   rw[hb,yOB] at hr;simp[h3];refine zE (zSP s.m[i] (by omega) _) (by simp[zC s.m[i]]) ?_;have hwt:IntKind.i64.wrap ((t:Int)+(zJ s.m[i]:Int))=((t+zJ s.m[i]:Nat):Int):=by rw[<-zL (n:=t+zJ s.m[i]) (by omega)];rfl
   simp[h3,h19,hwt,hwr,-yOT];refine ih (i+1) (t+zJ s.m[i]) _ _ r (by omega) (by omega) ?_ ?_ ?_ ?_ ?_ ?_ hr;all_goals simp[h1,h3,h17,h18,h19,w1]
theorem zHP (s:Sy) (hf:fitF s.f) (hl:s.m.length<=maxLen) (hv:∀v∈s.m,fitV v) (hb:zI s.m<=2^32) (D:Nat):Go.Ab.Loc Pg Gl D 102 [encY s] [] (.bool (isY s)) []:=by
 refine zP zF tok rfl rfl fun S=> ?_;unfold c102;generalize hr:AV.bool (isY s)=r;unfold isY at hr;unfold encY;simp;refine zE (bL s.f hf _) (by simp[zB s.f]) ?_;cases h1:isF s.f with
 | false=>
  rw[h1,yOC] at hr;simp[<-hr]
 | true=>
  rw[h1,yOB] at hr;by_cases h2:s.m.length<=100
  ·rw[decide_eq_true h2,yOB] at hr;have h2':¬100 < (s.m.length:Int):=by omega
   simp[h2'];refine l95 D s (wV h1) h2 hv hb S s.m.length 0 0 _ _ r (by omega) (by rw[yOM];omega) ?_ ?_ ?_ ?_ ?_ ?_ (by rw[<-hr];simp);all_goals simp
  ·rw[decide_eq_false h2,yOC] at hr;have h2':100 < (s.m.length:Int):=by omega
   simp[h2',<-hr]
end Go.Ab.Tab
/- Numbers of states as numbers of the program. -/
namespace Go.Ab.Tab
open Go Go.Ab
def toZ (l:List Nat):List Int:=l.map fun (x:Nat)=>(x:Int)
theorem zGH (l:List Nat):AV.sl 1 (l.map encN) .no=encI (toZ l):=by simp[toZ,encI,encN]
theorem zQZ (l:List Nat):(toZ l).length=l.length:=by simp[toZ]
end Go.Ab.Tab
