/- Values: the contract of the reference's Merged. -/
import Derived.Test.YtkdkpeabkafebaaDoorRelatedD
open Bool renaming true_and->yGT, and_eq_true->yGW, false_and->yGY, or_eq_true->yHI, false_or->yHK, not_true->yHO, true_or->yHW, and_true->yHX, not_eq_true'->yIG, not_false->yIK
open Int renaming eq_ofNat_of_zero_le->yIF, natCast_emod->yIH, natCast_add->yIJ
open List renaming map_cons->yGU, getElem_mem->yGV, drop_eq_getElem_cons->yGX, replicate->yGZ, mem_map->yHA, mem_cons->yHB, mem_cons_of_mem->yHC, drop_length->yHD, mem_singleton->yHE, mem_cons_self->yHF, drop_zero->yHH, length_eq_zero_iff->yHJ, length_zip->yHL, map_nil->yHM, length_cons->yHN, nil_append->yHP, length_drop->yHQ, of_mem_zip->yHR, length_map->yHS, replicate_succ->yHU, length_replicate->yHV, mem_replicate->yHY, append_nil->yIA, mem_append->yIB, getElem_of_mem->yIC, getElem_replicate->yID, map_append->yIE
open Nat renaming le_refl->yHG, le_trans->yHT, add_sub_cancel->yII
open Option renaming map_some->yHZ
set_option linter.unusedVariables false
set_option linter.unusedSimpArgs false
set_option maxRecDepth 10000
namespace Go.Ab.Tab
open Go Go.Ab
theorem zLX {n D:Nat} {τ:Nat->AV} {ω:Nat->Ent} {S:Nat->Nat->Ent} {A g:Nat} {l:List Int} (a:Int) (xs:List AV) (t:Tip) (hA:A < n) (hw:ω A=(g,.cells (l.map (AV.int .i64)))):
  frz (stF n D τ ω S) frzD (.agg [.int .i64 a,.sl 3 xs t,.own D A g 0 l.length 1 false])=some (.agg [.int .i64 a,.sl 3 xs t,.sl 1 (l.map (AV.int .i64)) .no],([[],[],(D,A)::(l.map fun _=>([]:List (Nat×Nat))).flatten]:List (List (Nat×Nat))).flatten):=by
 have h:frz (stF n D τ ω S) 19 (.own D A g 0 l.length 1 false)=_:=i8 (n:=n) (D:=D) (τ:=τ) (S:=S) 17 hA hw (yHG _);rw[List.take_of_length_le (yHG _)] at h
 show frz (stF n D τ ω S) 20 _=_
 rw[frz];simp only[List.mapM_cons,List.mapM_nil,h,zLZ,zUZ,Option.pure_def,Option.bind_eq_bind,Option.bind_some,yGU,yHM]
theorem wV (l:List Int):xC 0 l=gcdW l:=rfl
theorem sF:∀(l:List Int) (g:Nat),xC g l∣g
 | [],g=>Nat.dvd_refl _
 | a::l,g=>Nat.dvd_trans (sF l (Nat.gcd g a.toNat)) (Nat.gcd_dvd_left _ _)
theorem pO {l:List Int} (hne:l≠[]) (h:∀w∈l,1<=w):0 < gcdW l:=by
 cases l with
 | nil=>exact absurd rfl hne
 | cons a l=>
  have h1:gcdW (a::l)=xC (Nat.gcd 0 a.toNat) l:=rfl;rw[h1,Nat.gcd_zero_left];have:=sF l a.toNat;have ha:=h a (by simp);exact Nat.pos_of_dvd_of_pos this (by omega)
theorem nA:∀(l acc:List (Va×Int)),(∀p∈l,1<=p.2)->(∀p∈acc,1<=p.2)->∀p∈yX l acc,1<=p.2
 | [],acc,_,h=>h
 | a::l,acc,h1,h2=>by
  refine nA l (insP a.1 a.2 acc) (fun p hp=>h1 p (by simp[hp])) fun p hp=> ?_;have ha:=h1 a (by simp);rcases jF _ _ _ _ hp with e | hp | ⟨b,hb,e⟩
  ·omega
  ·exact h2 p hp
  ·have:=h2 b hb;omega
theorem jN:∀(l acc:List (Va×Int)),(l≠[]\/acc≠[])->yX l acc≠[]
 | [],acc,h=>by rcases h with h | h;exact absurd rfl h;exact h
 | a::l,acc,_=>jN l _ (.inr (zLR _ _ _))
theorem rL:∀(l acc:List (Va×Int)),(yX l acc).length<=l.length+acc.length
 | [],acc=>by simp[yX]
 | a::l,acc=>by
  have:=rL l (insP a.1 a.2 acc);have:=jG a.1 a.2 acc;have e:yX (a::l) acc=yX l (insP a.1 a.2 acc):=rfl;rw[e,yHN];omega
theorem zSC (D:Nat) (kd:Int) (v:Va) (hgl:v.gs.length<=2^32) (hgf:∀a∈v.gs,fitV a) (hw:wtd kd=true->v.ws.length=v.gs.length/\(∀w∈v.ws,1<=w)/\sumW v.ws<=1048576) (h7:kd=7->v.gs≠[]):
  Go.Ab.Loc Pg Gl D 92 [.int .i64 kd,encV v] [] (encV (y2 kd v)) []:=by
 refine zLN zR tok rfl rfl fun S=> ?_;unfold c92;generalize hr:encV (y2 kd v)=r;rw[zA v];simp;refine zUF D kd v.gs hgl hgf v.ws (fun hk=>(hw hk).1) v.n _ S ?_ v.gs.length 0 [] _ _ (.sl 1 [] .tip) (by simp) (by simp) (by simp) ?_ ?_ ?_ ?_ ?_ ?_ ?_ ?_ ?_ ?_ ?_ ?_
 case refine_2=>
  intro hk;obtain ⟨_,h2,h3⟩:=hw hk;exact ⟨fun w hw=>by have:=h2 w (by simpa using hw);omega,by simpa using h3,by simp⟩
 case refine_13=>split;exact .inl ⟨rfl,rfl⟩;rfl
 case refine_1=>
  intro acc τ ω W hacc h0 h4 h5 w4 w5 hW hfit;have hr2:r=encV (.mk v.n (acc.map (·.1)) (if wtd kd then divW kd (acc.map (·.2)) else [])):=by rw[<-hr,y2,hacc]
  have haccC:(acc.map (·.1)).map encV=accC acc:=by simp[accC]
  rw[zG,haccC] at hr2;have done:∀(τ':Nat->AV) (ω':Nat->Ent) (W':AV) (sites),τ' 4= .ptr D 4 1 0->τ' 5= .ptr D 5 1 0->ω' 4=(1,.cells [.int .i64 0,.sl 3 [] .tip,.sl 1 [] .tip])->ω' 5=(1,.cells [.int .i64 v.n,.sl 3 (accC acc) .tip,W'])->
    ((W'= .sl 1 [] .tip/\(if wtd kd then divW kd (acc.map (·.2)) else [])= [])\/∃A g,A < 2/\W'= .own D A g 0 (if wtd kd then divW kd (acc.map (·.2)) else []).length 1 false/\ω' A=(g,.cells ((if wtd kd then divW kd (acc.map (·.2)) else []).map (AV.int .i64))))->sites=([]:List (Nat×Nat))->
    Rd (Loc Pg Gl) .fr (RetQ [.cell 4 true 3] r S) [.c zDB] (stF 130 D τ' ω' S):=by
   intro τ' ω' W' _ g4 g5 v4 v5 hWW _;generalize (if wtd kd then divW kd (acc.map (·.2)) else [])=wl at hWW hr2
   unfold zDB;rcases hWW with ⟨rfl,rfl⟩ | ⟨A,g,hA,rfl,vA⟩
   ·simp[g4,g5,v4,v5,hr2]
   ·have hA4:¬A=4:=by omega
    simp[g4,g5,v4,v5];rw[zLX v.n (accC acc) .no (show A < 130 by omega) (show _=(g,Ob.cells (wl.map (AV.int .i64))) by simp[hA4,vA])];simp[hr2]
  unfold gS;cases hkd:wtd kd with
  | false=>
   rw[hkd] at hW hr2 done;simp only[Bool.false_eq_true,if_false] at hW hr2 done;subst hW;have h7':¬kd=7:=by intro e;subst e;cases hkd
   simp[h0,h7'];refine done _ ω (.sl 1 [] .tip) [] ?_ ?_ w4 w5 (.inl ⟨rfl,trivial⟩) rfl
   ·simp[h4]
   ·simp[h5]
  | true=>
   rw[hkd] at hW hr2 done;simp only[if_true] at hW hr2 done;by_cases h7':kd=7
   ·have hne:v.gs≠[]:=h7 h7';obtain ⟨hwl,hw1,hws⟩:=hw hkd;have hz:zipW kd v.gs v.ws≠[]:=by
     rw[yY hkd];intro e;have:=congrArg List.length e;rw[yHL,hwl] at this;simp at this;exact hne this
    have hane:acc≠[]:=by rw[hacc];exact jN _ _ (.inl hz)
    have hpos:∀p∈acc,1<=p.2:=by
     rw[hacc];refine nA _ _ (fun p hp=> ?_) (by simp);rw[yY hkd] at hp;exact hw1 _ (yHR hp).2
    have hal:acc.length<=2^32:=by
     have:=rL (zipW kd v.gs v.ws) [];rw[<-hacc,yY hkd,yHL] at this;simp at this;omega
    have hfit:=(hfit hkd).2.2;obtain ⟨nw,hnw⟩:∃nw,acc.map (·.2)=nw:=⟨_,rfl⟩
    have hnl:nw.length=acc.length:=by rw[<-hnw];simp
    have hnn:nw≠[]:=by rw[<-hnw];simpa using hane
    have hn1:∀w∈nw,1<=w:=by
     intro w hw;rw[<-hnw] at hw;obtain ⟨p,hp,rfl⟩:=yHA.1 hw;exact hpos p hp
    have hn2:∀w∈nw,w<=1048576:=by
     intro w hw;rw[<-hnw] at hw;obtain ⟨p,hp,rfl⟩:=yHA.1 hw;have:=(hfit p hp).2;simp[sumW] at this;exact this
    rcases hW with ⟨e,_⟩ | ⟨_,A,g,hA,rfl,wA⟩
    ·exact absurd e hane
    ·rw[hnw] at wA done;rw[<-hnl] at w5;have hdv:divW kd nw=nw.map fun w=>w.tdiv (gcdW nw):=by unfold divW;rw[if_pos h7']
     rw[hdv] at done;have hA4:¬A=4:=by omega
     have hA5:¬A=5:=by omega
     simp[h0,h7',h5,w5];refine zUE D A g hA nw (fun w hw=>by have:=hn1 w hw;omega) (by omega) (.sl 3 (accC acc) .tip) v.n _ _ S ω wA nw.length 0 0 _ (by simp) ?_ ?_ ?_ ?_ ?_
     case refine_5=>
      intro τ2 q1 q2;have g4:=q1 4 (.inl rfl);have g5:=q1 5 (.inr rfl);simp[h4] at g4;simp[h5] at g5;rw[yHH,wV] at q2;unfold zIV;simp[g5,w5];refine zUD D A g hA (gcdW nw) (pO hnn hn1) nw (fun w hw=>by have:=hn1 w hw;have:=hn2 w hw;omega) (by omega) (.sl 3 (accC acc) .tip) v.n _ _ S nw.length 0 _ ω (by simp) ?_ ?_ ?_ ?_ w5 (by simpa using wA) ?_
      case refine_5=>
       intro τ3 ω3 k1 k2 k3;refine done τ3 ω3 _ [] ?_ ?_ (by rw[k2 4 (by omega)];exact w4) (by rw[k2 5 (by omega)];exact w5) (.inr ⟨A,g,hA,by simp,k3⟩) rfl
       ·rw[k1 4 (.inl rfl)];simp[g4]
       ·rw[k1 5 (.inr rfl)];simp[g5]
      all_goals simp[g5,q2]
     all_goals simp
   ·have hdv:divW kd (acc.map (·.2))=acc.map (·.2):=by unfold divW;rw[if_neg h7']
    rw[hdv] at done;simp[h0,h7'];refine done _ ω W [] ?_ ?_ w4 w5 ?_ rfl
    ·simp[h4]
    ·simp[h5]
    ·rcases hW with ⟨rfl,e⟩ | ⟨hne,A,g,hA,e,wA⟩
     ·exact .inl ⟨e,rfl⟩
     ·exact .inr ⟨A,g,hA,by rw[yHS];exact e,wA⟩
 all_goals simp[wM,accC]
end Go.Ab.Tab
/- Values: the reference's normal,wide,Normal,Is. -/
namespace Go.Ab.Tab
open Go Go.Ab
def putV (f:Fu) (v:Va) (gs:List Va):Va:=if sets f.k then y2 f.k (.mk v.n gs v.ws) else .mk v.n gs v.ws
def okV (n:Nat) (f:Fu) (v:Va):Bool:=xB f v&&(r8 f n v&&yI f.k v)
mutual
def y6 (n:Nat):Va->Fu->Option Va
 | .mk a gs ws,f=>if okV n f (.mk a gs ws) then (z9 n gs (zQ f (.mk a gs ws))).map (putV f (.mk a gs ws)) else none
def z9 (n:Nat):List Va->List Fu->Option (List Va)
 | [],_=>some []
 | v::l,[]=>none
 | v::l,f::fs=>match y6 n v f with
  | none=>none
  | some u=>(z9 n l fs).map (u:: ·)
end
def v0:Va:= .mk 0 [] []
def rZ (o:Option Va):AV:= .tup [encV (o.getD v0),.bool o.isSome]
theorem rF (k n:Int) (gs:List Fu) (v:Va):zQ (.mk k n gs) v=if k=0\/k=1 then [] else if k=2 then gs else if k=3 then (if v.n < 0\/1 < v.n then [] else (gs.drop v.n.toNat).take 1) else
 if k=4 then yGZ n.toNat (gs.headD (.mk 0 0 [])) else yGZ v.gs.length (gs.headD (.mk 0 0 [])):=rfl
theorem xW {f:Fu} (hf:zT f=true) (v:Va):∀a∈zQ f v,zT a=true:=by
 cases f with
 | mk k n gs=>
 obtain ⟨hl,_,_,hg⟩:=xH hf;rw[rF];have hd:(k=4\/k=5\/k=6\/k=7)->gs.headD (.mk 0 0 [])∈gs:=by
  intro h;have:arK k=1:=by unfold arK;rw[if_neg (by omega),if_pos h]
  match gs,hl with
  | [],hl=>rw[this] at hl;simp at hl
  | a::_,_=>simp
 have hk:k=0\/k=1\/k=2\/k=3\/k=4\/k=5\/k=6\/k=7:=by
  apply Classical.byContradiction;intro h;have:arK k= -1:=by unfold arK;repeat rw[if_neg (by omega)]
  omega
 intro a ha;by_cases h0:k=0\/k=1
 ·rw[if_pos h0] at ha;cases ha
 by_cases h2:k=2
 ·rw[if_neg h0,if_pos h2] at ha;exact hg a ha
 by_cases h3:k=3
 ·rw[if_neg h0,if_neg h2,if_pos h3] at ha;by_cases h5:v.n < 0\/1 < v.n
  ·rw[if_pos h5] at ha;cases ha
  ·rw[if_neg h5] at ha;exact hg a (List.mem_of_mem_drop (List.mem_of_mem_take ha))
 by_cases h4:k=4
 ·rw[if_neg h0,if_neg h2,if_neg h3,if_pos h4] at ha;rw[(yHY.1 ha).2];exact hg _ (hd (by omega))
 ·rw[if_neg h0,if_neg h2,if_neg h3,if_neg h4] at ha;rw[(yHY.1 ha).2];exact hg _ (hd (by omega))
theorem bQ {f:Fu} (hf:zT f=true):f.k=1->1<=f.n/\f.n<=16:=by
 cases f with
 | mk k n gs=>
 obtain ⟨_,h1,h2,_⟩:=xH hf;intro h;simp only[Fu.k] at h;subst h;have e:y7 1=16:=rfl;rw[e] at h1 h2;simp only[Fu.n];omega
theorem fL:∀{l:List Int} {s:Int},s<=1048576->wOk s l=true->(∀w∈l,1<=w)/\s+sumW l<=1048576
 | [],s,hs,_=>by simp[sumW];exact hs
 | w::l,s,hs,h=>by
  rw[wOk] at h;simp only[yGW,decide_eq_true_eq] at h;obtain ⟨h1,h2⟩:=fL (by omega) h.2.2;refine ⟨fun x hx=> ?_,?_⟩
  ·rcases yHB.1 hx with rfl | hx
   ·exact h.1
   ·exact h1 x hx
  ·rw[sumW];omega
theorem vD {k:Int} {v:Va} (h:yI k v=true):(wtd k=true->v.ws.length=v.gs.length/\(∀w∈v.ws,1<=w)/\sumW v.ws<=1048576)/\(k=7->v.gs≠[])/\(wtd k=false->v.ws= []):=by
 unfold yI at h;split at h
 ·rename_i hw;simp only[yGW,decide_eq_true_eq,yHI] at h;obtain ⟨h1,h2⟩:=fL (by omega) h.1;refine ⟨fun _=>⟨h.2.1,h1,by omega⟩,fun h7 e=> ?_,fun h=>absurd h (by simp[hw])⟩;have:=h.2.2;rw[e] at this;rcases this with h | h
  ·omega
  ·simp at h
 ·rename_i hw;refine ⟨fun h=>absurd h hw,fun h7=> ?_,fun _=>yHJ.1 (by simpa using h)⟩;subst h7;exact absurd rfl hw
theorem zKY (f:Fu) (v:Va) (gs:List Va):(putV f v gs).gs.length<=gs.length:=by
 unfold putV;split
 ·unfold y2;simp only[Va.gs,yHS];have:=rL (zipW f.k gs v.ws) [];have e:(zipW f.k gs v.ws).length<=gs.length:=by
   cases h:wtd f.k with
   | true=>rw[yY h,yHL];omega
   | false=>rw[xK h];simp
  simp only[Va.gs,Va.ws] at*;simp at this;omega
 ·exact yHG _
theorem zBP (v:Va):zM v=1+zJ v.gs:=by cases v;rw[zM];rfl
theorem sI (v:Va):fitV v↔(v.gs.length<=maxLen/\v.ws.length<=maxLen)/\nY v.gs:=by cases v;rw[fitV];exact Iff.rfl
theorem pQ:∀{l:List Va},(∀a∈l,fitV a)->nY l
 | [],_=>by rw[nY];trivial
 | a::l,h=>by rw[nY];exact ⟨h a (by simp),pQ fun b hb=>h b (by simp[hb])⟩
theorem jH (u:Va) (w:Int):∀(l:List (Va×Int)) (a:Va×Int),a∈insP u w l->a.1=u\/∃b∈l,a.1=b.1
 | [],a,h=>by
  rw[insP,yHE] at h;subst h;exact .inl rfl
 | (b,x)::l,a,h=>by
  rw[insP] at h;by_cases h1:0 < cmpV u b
  ·rw[if_pos h1] at h;rcases yHB.1 h with rfl | h
   ·exact .inr ⟨_,yHF ..,rfl⟩
   ·rcases jH u w l a h with h | ⟨c,hc,e⟩
    ·exact .inl h
    ·exact .inr ⟨c,yHC _ hc,e⟩
  rw[if_neg h1] at h;by_cases h2:cmpV u b=0
  ·rw[if_pos h2] at h;rcases yHB.1 h with rfl | h
   ·exact .inr ⟨_,yHF ..,rfl⟩
   ·exact .inr ⟨a,yHC _ h,rfl⟩
  ·rw[if_neg h2] at h;rcases yHB.1 h with rfl | h
   ·exact .inl rfl
   ·exact .inr ⟨a,h,rfl⟩
theorem hE:∀(l acc:List (Va×Int)) (a:Va×Int),a∈yX l acc->(∃b∈l,a.1=b.1)\/∃b∈acc,a.1=b.1
 | [],acc,a,h=> .inr ⟨a,h,rfl⟩
 | p::l,acc,a,h=>by
  rcases hE l (insP p.1 p.2 acc) a h with ⟨b,hb,e⟩ | ⟨b,hb,e⟩
  ·exact .inl ⟨b,yHC _ hb,e⟩
  ·rcases jH _ _ _ _ hb with e' | ⟨c,hc,e'⟩
   ·exact .inl ⟨p,yHF ..,e.trans e'⟩
   ·exact .inr ⟨c,hc,e.trans e'⟩
theorem k8 (f:Fu) (v:Va) (gs:List Va):∀a∈(putV f v gs).gs,a∈gs:=by
 unfold putV;split
 ·unfold y2;intro a ha;simp only[Va.gs] at ha;obtain ⟨p,hp,rfl⟩:=yHA.1 ha;rcases hE _ _ _ hp with ⟨b,hb,e⟩ | ⟨b,hb,e⟩
  ·rw[e];cases h:wtd f.k with
   | true=>rw[yY h] at hb;exact (yHR hb).1
   | false=>
    rw[xK h] at hb;obtain ⟨c,hc,rfl⟩:=yHA.1 hb;exact hc
  ·cases hb
 ·exact fun a ha=>ha
theorem zFD (k:Int) (gs:List Va) (ws:List Int):(zipW k gs ws).length<=gs.length:=by
 cases h:wtd k with
 | true=>rw[yY h,yHL];omega
 | false=>rw[xK h];simp
theorem bY (k:Int) (a:Int) (gs:List Va) (ws:List Int):(y2 k (.mk a gs ws)).ws.length<=gs.length:=by
 have h1:=rL (zipW k gs ws) [];have h2:=zFD k gs ws;have h3:(y2 k (.mk a gs ws)).ws=if wtd k then divW k ((yX (zipW k gs ws) []).map (·.2)) else []:=rfl
 rw[h3,];simp at h1;cases wtd k with
 | false=>simp
 | true=>
  rw[if_pos rfl];unfold divW;by_cases h7:k=7
  ·rw[if_pos h7];simp;omega
  ·rw[if_neg h7];simp;omega
theorem zKX (f:Fu) (v:Va) (gs:List Va):(putV f v gs).ws.length<=max gs.length v.ws.length:=by
 unfold putV;split
 ·exact yHT (bY _ _ _ _) (Nat.le_max_left _ _)
 ·exact Nat.le_max_right _ _
theorem tD {n:Nat}:∀{l:List Va} {fs:List Fu} {gs:List Va},z9 n l fs=some gs->gs.length=l.length
 | [],_,gs,h=>by rw[z9] at h;injection h with h;subst h;rfl
 | v::l,[],gs,h=>by rw[z9] at h;cases h
 | v::l,f::fs,gs,h=>by
  rw[z9] at h;cases h1:y6 n v f with
  | none=>rw[h1] at h;cases h
  | some u=>
   rw[h1] at h;cases h2:z9 n l fs with
   | none=>rw[h2] at h;cases h
   | some q=>
    rw[h2] at h;injection h with h;subst h;rw[yHN,tD h2,yHN]
theorem mR {n:Nat}:∀{l:List Va} {fs:List Fu} {gs:List Va},(∀v∈l,∀f u,y6 n v f=some u->fitV u)->z9 n l fs=some gs->∀a∈gs,fitV a
 | [],_,gs,_,h=>by rw[z9] at h;injection h with h;subst h;intro a ha;cases ha
 | v::l,[],gs,_,h=>by rw[z9] at h;cases h
 | v::l,f::fs,gs,hv,h=>by
  rw[z9] at h;cases h1:y6 n v f with
  | none=>rw[h1] at h;cases h
  | some u=>
   rw[h1] at h;cases h2:z9 n l fs with
   | none=>rw[h2] at h;cases h
   | some q=>
    rw[h2] at h;injection h with h;subst h;intro a ha;rcases yHB.1 ha with rfl | ha
    ·exact hv v (yHF ..) f a h1
    ·exact mR (fun w hw=>hv w (yHC _ hw)) h2 a ha
theorem zFS (f:Fu) (v:Va) (gs:List Va) (hv:fitV v) (hl:gs.length=v.gs.length) (hg:∀a∈gs,fitV a):fitV (putV f v gs):=by
 rw[sI] at hv|-;have h1:=zKY f v gs;have h2:=zKX f v gs;refine ⟨⟨by omega,by have:=Nat.max_le.2 ⟨(by omega:gs.length<=maxLen),hv.1.2⟩;omega⟩,pQ fun a ha=>hg a (k8 f v gs a ha)⟩
theorem oS {n:Nat}:∀(v:Va),fitV v->∀f u,y6 n v f=some u->fitV u:=by
 refine Va.ind' fun a gs ws hrec=> ?_;intro hv f u h;rw[y6] at h;split at h
 ·cases h1:z9 n gs (zQ f (.mk a gs ws)) with
  | none=>rw[h1] at h;cases h
  | some q=>
   rw[h1] at h;injection h with h;subst h;have hf:=(sI _).1 hv;exact zFS f _ q hv (tD h1) (mR (fun v hv'=>hrec v hv' (yJ hf.2 v hv')) h1)
 ·cases h
theorem l121 (D:Nat) (f:Fu) (hf:zT f=true) (nn:Nat) (v:Va) (hv:fitV v) (hvl:v.gs.length<=2000) (hok:okV nn f v=true)
  (hrec:∀a∈v.gs,∀(f:Fu),zT f=true->∀(D:Nat),Go.Ab.Loc Pg Gl D 73 [encF f,.int .i64 nn,encV a] [] (rZ (y6 nn a f)) []) (S):
  ∀(j i:Nat) (acc:List Va) (tp:Tip) (τ ω) (r:AV),i+j=v.gs.length->(tp= .tip\/tp= .nil)->acc.length=i->(∀a∈acc,fitV a)->
  τ 1= .int .i64 nn->τ 3= .ptr D 3 1 0->τ 5= .ptr D 5 1 0->τ 6= .ptr D 6 1 0->τ 8= .sl 3 ((zQ f v).map encF) .no->τ 10= .ptr D 10 1 0->τ 45= .sl 3 (v.gs.map encV) .no->τ 46= .int .i64 v.gs.length->τ 47= .int .i64 i->
  ω 3=(1,.cells [.int .i64 f.k,.int .i64 f.n,.sl 3 (f.gs.map encF) .no])->ω 6=(1,.cells [.int .i64 0,.sl 3 [] .tip,.sl 1 [] .tip])->
  ω 10=(1,.cells [.int .i64 v.n,.sl 3 (acc.map encV) tp,.sl 1 (v.ws.map (AV.int .i64)) .no])->
  r=rZ ((z9 nn (v.gs.drop i) ((zQ f v).drop i)).map fun q=>putV f v (acc++q))->
  Rd (Loc Pg Gl) .im (RetQ [.cell 6 true 3,.tmp 7] r S) [.lp c73_l0,.blk 0,.c zDG] (stF 80 D τ ω S):=by
 intro j
 induction j with
 | zero=>
  intro i acc tp τ ω r hi htp hal haf h1 h3 h5 h6 h8 h10 h45 h46 h47 w3 w6 w10 hr;refine zC c73_l0.eq_1 ?_;obtain rfl:i=v.gs.length:=by omega
  rw[yHD,z9] at hr;simp[h1,h3,h5,h6,h8,h10,h45,h46,h47,w3,w6,w10,zDG];refine zE (dS _ f.k) (by simp) ?_;have hok':=hok;unfold okV at hok';simp only[yGW] at hok';obtain ⟨hw1,hw2,hw3⟩:=vD hok'.2.2;simp only[yHZ,yIA,putV] at hr;cases hs:sets f.k with
  | false=>
   rw[hs] at hr;simp at hr;rw[rZ] at hr;simp[zG] at hr;simp[h3,h6,h10,w3,w6,w10];rcases htp with rfl | rfl<;>simp[hr]
  | true=>
   rw[hs] at hr;simp at hr;simp[h3,h6,h10,w3,w6,w10];refine zE (zSC _ f.k (.mk v.n acc v.ws) (by show acc.length<=_;omega) haf (fun h=>by have:=hw1 h;exact ⟨by show v.ws.length=acc.length;omega,this.2⟩) (fun h e=>by have:=hw2 h;have e:acc= []:=e;rw[e] at hal;exact this (yHJ.1 hal.symm))) (by rcases htp with rfl | rfl<;>simp[zG]) ?_
   rw[rZ] at hr;rw[zA] at hr;simp at hr;rw[zA];simp[h3,h6,h10,w3,w6,w10];simp[hr]
 | succ j ih=>
  intro i acc tp τ ω r hi htp hal haf h1 h3 h5 h6 h8 h10 h45 h46 h47 w3 w6 w10 hr;refine zC c73_l0.eq_1 ?_;have hlt:i < v.gs.length:=by omega
  have hwr:=zF hlt (by unfold maxLen;omega);have hpl:(zQ f v).length=v.gs.length:=by
   unfold okV xB at hok;simp only[yGW,decide_eq_true_eq] at hok;exact hok.1.2
  have hlp:i < (zQ f v).length:=by omega
  have hle:(i+1)*56<=1099511627776:=by omega
  simp[h1,h3,h5,h6,h8,h10,h45,h46,h47,w3,w6,w10,hlt,hlp,hwr,zA v.gs[i],zB (zQ f v)[i]];rw[yGX hlt,yGX hlp,z9] at hr;refine zZ (hrec v.gs[i] (yGV hlt) (zQ f v)[i] (xW hf v _ (yGV hlp)) _) (by simp[zA v.gs[i],zB (zQ f v)[i]]) ?_;cases hu:y6 nn v.gs[i] (zQ f v)[i] with
  | none=>
   rw[hu] at hr;simp[rZ,v0,zG] at hr;simp[rZ,v0,zG,h6,w6];simp[hr]
  | some u=>
   rw[hu] at hr;simp only[Option.map_map] at hr;have htp':(tp= .nil\/tp= .tip)=True:=by simp;exact htp.symm
   simp[rZ,htp,htp',zA u,h10,w10,hal,hle,h47,hwr];refine ih (i+1) (acc++[u]) .tip _ _ r (by omega) (.inl rfl) (by simp[hal]) ?_ ?_ ?_ ?_ ?_ ?_ ?_ ?_ ?_ ?_ ?_ ?_ ?_ ?_
   case refine_1=>
    intro b hb;rcases yIB.1 hb with hb | hb
    ·exact haf b hb
    ·rw[yHE.1 hb];exact oS _ (yJ ((sI _).1 hv).2 _ (yGV hlt)) _ _ hu
   case refine_14=>
    rw[hr];congr 2
    funext q
    simp
   all_goals simp[h1,h3,h5,h6,h8,h10,h45,h46,h47,w3,w6,zA u]
theorem zSI (nn:Nat) (hn:nn<=100):∀(v:Va),fitV v->zM v<=2000->∀(f:Fu),zT f=true->∀(D:Nat),Go.Ab.Loc Pg Gl D 73 [encF f,.int .i64 nn,encV v] [] (rZ (y6 nn v f)) []:=by
 refine Va.ind' fun a gs ws hrec=> ?_;intro hv hnod f hf D;have hfv:=(sI _).1 hv;rw[zM] at hnod;have hgl:gs.length<=2000:=by have:=sB gs;omega
 refine z0 zR tok rfl rfl fun S=> ?_;unfold c73;generalize hr:rZ (y6 nn (.mk a gs ws) f)=r;rw[y6] at hr;generalize hv':Va.mk a gs ws=v at*;have ev:v.gs=gs:=by rw[<-hv'];rfl
 have ew:v.ws=ws:=by rw[<-hv'];rfl
 rw[zB f,zA v];simp;refine zE (dR _ f hf v (by rw[ev];omega)) (by simp[zB f,zA v]) ?_;simp[oI];cases h1:xB f v with
 | false=>
  simp;rw[<-hr,if_neg (by simp[okV,h1, *])];simp[rZ,v0,zG]
 | true=>
 simp;refine zE (zSE _ f nn hn (bQ hf) v) (by simp[zB f,zA v]) ?_;cases h2:r8 f nn v with
 | false=>
  simp;rw[<-hr,if_neg (by simp[okV,h1, *])];simp[rZ,v0,zG]
 | true=>
 simp;refine zE (zSD _ f.k v hfv.1.2) (by simp[zB f,zA v]) ?_;cases h3:yI f.k v with
 | false=>
  simp;rw[<-hr,if_neg (by simp[okV,h1, *])];simp[rZ,v0,zG]
 | true=>
 have hok:okV nn f v=true:=by simp[okV,h1,h2,h3]
 obtain ⟨hw1,_,hw2⟩:=vD h3;have hwl:v.ws.length*8<=1099511627776:=by
  cases h:wtd f.k with
  | true=>have:=(hw1 h).1;rw[ev] at this;omega
  | false=>rw[hw2 h];simp
 simp[hwl];refine l121 D f hf nn v hv (by rw[ev];exact hgl) hok (fun b hb f hf D=>hrec b (by rw[ev] at hb;exact hb) (yJ hfv.2 b hb) (by have:=tE hb;rw[ev] at this;omega) f hf D) S v.gs.length 0 [] .tip _ _ r (by omega) (.inl rfl) rfl (by simp) ?_ ?_ ?_ ?_ ?_ ?_ ?_ ?_ ?_ ?_ ?_ ?_ ?_
 case refine_13=>rw[<-hr,if_pos hok,ev];simp
 all_goals simp
end Go.Ab.Tab
/- Values: the reference's wide,Normal,Is. -/
namespace Go.Ab.Tab
open Go Go.Ab
mutual
def tU:Va->Fu->Bool
 | .mk a gs ws,f=>(sets f.k&&decide (100 < gs.length)) || sT gs (zQ f (.mk a gs ws))
def sT:List Va->List Fu->Bool
 | [],_=>false
 | v::l,[]=>false
 | v::l,f::fs=>tU v f || sT l fs
end
mutual
def ptV:Va->Fu->Prop
 | .mk a gs ws,f=>(zQ f (.mk a gs ws)).length=gs.length/\ptVs gs (zQ f (.mk a gs ws))
def ptVs:List Va->List Fu->Prop
 | [],_=>True
 | v::l,[]=>True
 | v::l,f::fs=>ptV v f/\ptVs l fs
end
theorem pK:∀{l:List Va} {fs:List Fu},ptVs l fs->∀(i:Nat) (h1:i < l.length) (h2:i < fs.length),ptV l[i] fs[i]
 | [],_,_,i,h1,_=>absurd h1 (by simp)
 | v::l,[],_,i,_,h2=>absurd h2 (by simp)
 | v::l,f::fs,h,i,h1,h2=>by
  rw[ptVs] at h;cases i with
  | zero=>exact h.1
  | succ i=>exact pK h.2 i (by simpa using h1) (by simpa using h2)
theorem dY {g:Fu}:∀{l:List Va} (m:Nat),(∀a∈l,ptV a g)->ptVs l (yGZ m g)
 | [],m,_=>by rw[ptVs];trivial
 | v::l,0,_=>by rw[List.replicate_zero,ptVs];trivial
 | v::l,m+1,h=>by rw[yHU,ptVs];exact ⟨h v (by simp),dY m fun a ha=>h a (by simp[ha])⟩
theorem iT {n:Nat}:∀{l:List Va} {fs:List Fu} {gs:List Va},(∀v∈l,∀f u,y6 n v f=some u->ptV u f)->z9 n l fs=some gs->ptVs gs fs
 | [],_,gs,_,h=>by rw[z9] at h;injection h with h;subst h;rw[ptVs];trivial
 | v::l,[],gs,_,h=>by rw[z9] at h;cases h
 | v::l,f::fs,gs,hv,h=>by
  rw[z9] at h;cases h1:y6 n v f with
  | none=>rw[h1] at h;cases h
  | some u=>
   rw[h1] at h;cases h2:z9 n l fs with
   | none=>rw[h2] at h;cases h
   | some q=>
    rw[h2] at h;injection h with h;subst h;rw[ptVs];exact ⟨hv v (yHF ..) f u h1,iT (fun w hw=>hv w (yHC _ hw)) h2⟩
theorem zAS {k:Int} (h:sets k=true):k=5\/k=6\/k=7:=by
 unfold sets wtd at h;simpa only[yHI,decide_eq_true_eq] using h
theorem vT {f:Fu} (h:sets f.k=true) (v:Va):zQ f v=yGZ v.gs.length (f.gs.headD (.mk 0 0 [])):=by
 cases f with
 | mk k n gs=>
 rw[rF];have:k=5\/k=6\/k=7:=zAS h;rw[if_neg (by omega),if_neg (by omega),if_neg (by omega),if_neg (by omega)];rfl
theorem qR {f:Fu} (v u:Va) (h1:v.n=u.n) (h2:v.gs.length=u.gs.length):zQ f v=zQ f u:=by
 cases f with
 | mk k n gs=>rw[rF,rF,h1,h2]
theorem zKZ (v:Va) (f:Fu):ptV v f↔(zQ f v).length=v.gs.length/\ptVs v.gs (zQ f v):=by
 cases v;rw[ptV];exact Iff.rfl
theorem zFZ {n:Nat}:∀(v:Va) (f u),y6 n v f=some u->ptV u f:=by
 refine Va.ind' fun a gs ws hrec=> ?_;intro f u h;rw[y6] at h;split at h
 ·rename_i hok;cases h1:z9 n gs (zQ f (.mk a gs ws)) with
  | none=>rw[h1] at h;cases h
  | some q=>
   rw[h1] at h;injection h with h;subst h;have hp:=iT (fun v hv=>hrec v hv) h1;have hl:=tD h1;rw[zKZ];cases hs:sets f.k with
   | true=>
    rw[vT hs];rw[vT hs] at hp;refine ⟨by simp,dY _ fun b hb=> ?_⟩;have hb:=k8 f _ q b hb;obtain ⟨i,hi,rfl⟩:=yIC hb;have:=pK hp i hi (by rw[yHV];show i < gs.length;omega);rwa [yID] at this
   | false=>
    have e:putV f (.mk a gs ws) q= .mk a q ws:=by unfold putV;rw[hs];rfl
    rw[e];have e2:zQ f (.mk a q ws)=zQ f (.mk a gs ws):=qR _ _ rfl hl;rw[e2];refine ⟨?_,hp⟩;unfold okV xB at hok;simp only[yGW,decide_eq_true_eq] at hok;exact hok.1.2.trans hl.symm
 ·cases h
theorem l122 (D:Nat) (f:Fu) (hf:zT f=true) (v:Va) (hvl:v.gs.length<=maxLen) (hpl:(zQ f v).length=v.gs.length)
  (hrec:∀(i:Nat) (h1:i < v.gs.length) (h2:i < (zQ f v).length),∀(D:Nat),Go.Ab.Loc Pg Gl D 74 [encF (zQ f v)[i],encV v.gs[i]] [] (.bool (tU v.gs[i] (zQ f v)[i])) []) (S):
  ∀(j i:Nat) (τ ω) (r:AV),i+j=v.gs.length->
  τ 5= .sl 3 ((zQ f v).map encF) .no->τ 25= .sl 3 (v.gs.map encV) .no->τ 26= .int .i64 v.gs.length->τ 27= .int .i64 i->
  r= .bool (sT (v.gs.drop i) ((zQ f v).drop i))->
  Rd (Loc Pg Gl) .im (RetQ [.tmp 4] r S) [.lp c74_l0,.blk 0,.c zDF] (stF 39 D τ ω S):=by
 intro j
 induction j with
 | zero=>
  intro i τ ω r hi h5 h25 h26 h27 hr;refine zC c74_l0.eq_1 ?_;obtain rfl:i=v.gs.length:=by omega
  rw[yHD,sT] at hr;simp[h5,h25,h26,h27,zDF,hr]
 | succ j ih=>
  intro i τ ω r hi h5 h25 h26 h27 hr;refine zC c74_l0.eq_1 ?_;have hlt:i < v.gs.length:=by omega
  have hwr:=zF hlt hvl;have hlp:i < (zQ f v).length:=by omega
  rw[yGX hlt,yGX hlp,sT] at hr;simp[h5,h25,h26,h27,hlt,hlp,hwr,zA v.gs[i],zB (zQ f v)[i]];refine zZ (hrec i hlt hlp _) (by simp[zA v.gs[i],zB (zQ f v)[i]]) ?_;cases hb:tU v.gs[i] (zQ f v)[i] with
  | true=>
   rw[hb,yHW] at hr;simp[hr]
  | false=>
   rw[hb,yHK] at hr;simp[h27,hwr];refine ih (i+1) _ _ r (by omega) ?_ ?_ ?_ ?_ hr;all_goals simp[h5,h25,h26,h27]
theorem zSH:∀(v:Va),fitV v->zM v<=2^32->∀(f:Fu),zT f=true->ptV v f->∀(D:Nat),Go.Ab.Loc Pg Gl D 74 [encF f,encV v] [] (.bool (tU v f)) []:=by
 refine Va.ind' fun a gs ws hrec=> ?_;intro hv hnod f hf hp D;have hfv:=(sI _).1 hv;rw[zM] at hnod;rw[ptV] at hp;have hgl:gs.length<=2^32:=by have:=sB gs;omega
 refine z0 zR tok rfl rfl fun S=> ?_;unfold c74;generalize hr:AV.bool (tU (.mk a gs ws) f)=r;rw[tU] at hr;rw[zB f,zG];simp;refine zE (dS _ f.k) (by simp) ?_;have hw:(sets f.k&&decide (100 < gs.length))=true\/(sets f.k&&decide (100 < gs.length))=false:=by cases (sets f.k&&decide (100 < gs.length))<;>simp
 have hsn:v0.n=0:=rfl;rcases hw with hw | hw
 ·rw[hw,yHW] at hr;simp only[yGW,decide_eq_true_eq] at hw;have h100:100 < (gs.length:Int):=by have:=hw.2;omega
  simp[hw.1,h100,<-hr]
 rw[hw,yHK] at hr;have hl:(Va.mk a gs ws).gs.length=gs.length:=rfl;cases hs:sets f.k
 case false=>
  simp;refine zE (dR _ f hf (.mk a gs ws) (by rw[hl];exact hgl)) (by simp[zB f,zG]) ?_;simp[oI];refine l122 D f hf (.mk a gs ws) hfv.1.1 hp.1 (fun i h1 h2 D=>hrec _ (yGV h1) (yJ hfv.2 _ (yGV h1)) (by have:=tE (yGV h1);show zM gs[i]<=_;have:zM gs[i]<=zJ gs:=this;omega) _ (xW hf _ _ (yGV h2)) (pK hp.2 i h1 h2) D) S gs.length 0 _ _ r (by rw[hl];omega) ?_ ?_ ?_ ?_ hr.symm;all_goals simp
  all_goals rfl
 case true=>
  have h100:¬100 < (gs.length:Int):=by rw[hs] at hw;simp at hw;omega
  simp[h100];refine zE (dR _ f hf (.mk a gs ws) (by rw[hl];exact hgl)) (by simp[zB f,zG]) ?_;simp[oI];refine l122 D f hf (.mk a gs ws) hfv.1.1 hp.1 (fun i h1 h2 D=>hrec _ (yGV h1) (yJ hfv.2 _ (yGV h1)) (by have:=tE (yGV h1);show zM gs[i]<=_;have:zM gs[i]<=zJ gs:=this;omega) _ (xW hf _ _ (yGV h2)) (pK hp.2 i h1 h2) D) S gs.length 0 _ _ r (by rw[hl];omega) ?_ ?_ ?_ ?_ hr.symm;all_goals simp
  all_goals rfl
def rG (f:Fu) (n:Nat) (v:Va):Option Va×Int:=
 if 2000 < zM v then (none,20) else match y6 n v f with
  | none=>(none,20)
  | some u=>if tU u f then (none,2) else (some u,0)
def sA (p:Option Va×Int):AV:= .tup [encV (p.1.getD v0),.int .i64 p.2]
theorem cQ:encV v0= .agg [.int .i64 0,.sl 3 [] .no,.sl 1 [] .no]:=by rw[v0,zG];rfl
theorem zST (f:Fu) (hf:zT f=true) (n:Nat) (hn:n<=100) (v:Va) (hv:fitV v) (hb:∀u,y6 n v f=some u->zM u<=2^32) (D:Nat):Go.Ab.Loc Pg Gl D 40 [encF f,.int .i64 n,encV v] [] (sA (rG f n v)) []:=by
 refine z0 zR tok rfl rfl fun S=> ?_;unfold c40;generalize hr:sA (rG f n v)=r;unfold rG at hr;rw[zB f,zA v];simp;refine zE (zIP v hv _ 2001 (by omega) (by omega)) (by simp[zA v]) ?_;by_cases hz:2000 < zM v
 ·have e:((2001 - zM v:Nat):Int)=0:=by omega
  rw[if_pos hz] at hr;simp[sA,cQ] at hr;rw[e];simp[hr]
 ·rw[if_neg hz] at hr;have e:¬((2001 - zM v:Nat):Int)=0:=by omega
  generalize ((2001 - zM v:Nat):Int)=q at e;simp[e];refine zE (zSI n hn v hv (by omega) f hf _) (by simp[zA v,zB f]) ?_;simp[rZ];cases hu:y6 n v f with
  | none=>
   rw[hu] at hr;simp[sA,cQ] at hr;simp[cQ,hr]
  | some u=>
   rw[hu] at hr;simp only at hr;simp[zA u];refine zE (zSH u (oS v hv f u hu) (hb u hu) f hf (zFZ v f u hu) _) (by simp[zA u,zB f]) ?_;cases hw:tU u f with
   | true=>
    rw[hw] at hr;simp[sA,cQ] at hr;simp[hr]
   | false=>
    rw[hw] at hr;simp[sA,zA u] at hr;simp[hr]
def isV (f:Fu) (n:Nat) (v:Va):Bool:=decide ((rG f n v).2=0)&&decide (cmpV ((rG f n v).1.getD v0) v=0)
theorem zTE (f:Fu) (hf:zT f=true) (n:Nat) (hn:n<=100) (v:Va) (hv:fitV v) (hb:∀u,y6 n v f=some u->zM u<=2^32) (D:Nat):Go.Ab.Loc Pg Gl D 11 [encF f,.int .i64 n,encV v] [] (.bool (isV f n v)) []:=by
 refine z0 zR tok rfl rfl fun S=> ?_;unfold c11;generalize hr:AV.bool (isV f n v)=r;unfold isV at hr;rw[zB f,zA v];simp;refine zE (zST f hf n hn v hv hb _) (by simp[zA v,zB f]) ?_;simp[sA];have hfu:fitV ((rG f n v).1.getD v0):=by
  have h0:fitV v0:=by unfold v0;rw[fitV,nY];simp
  unfold rG;split
  ·exact h0
  ·cases hu:y6 n v f with
   | none=>exact h0
   | some u=>
    simp only;split
    ·exact h0
    ·exact oS v hv f u hu
 generalize (rG f n v).1.getD v0=u at hr hfu;generalize (rG f n v).2=c at hr;rw[zA u];by_cases hc:c=0
 ·simp[hc] at hr;simp[hc];refine zE (zSS u v hfu _) (by simp[zA u,zA v]) ?_;simp[<-hr]
 ·simp[hc] at hr;have hd:decide (c=0)=false:=decide_eq_false hc;simp[hc,<-hr,hd]
end Go.Ab.Tab
/- Values in normal form: the plain law between the reference's normal and a local criterion. -/
namespace Go.Ab.Tab
open Go Go.Ab
def incr:List Va->Bool
 | []=>true
 | [_]=>true
 | a::b::l=>decide (cmpV a b < 0)&&incr (b::l)
theorem wI {a:Va} {l:List Va}:incr (a::l)=true↔(∀b∈l,ltV a b)/\incr l=true:=by
 induction l generalizing a with
 | nil=>simp[incr]
 | cons b l ih=>
  rw[incr,yGW,decide_eq_true_eq];constructor
  ·intro ⟨h1,h2⟩;refine ⟨fun c hc=> ?_,h2⟩;rcases yHB.1 hc with rfl | hc
   ·exact h1
   ·exact ltV.trans h1 ((ih.1 h2).1 c hc)
  ·intro ⟨h1,h2⟩;exact ⟨h1 b (by simp),h2⟩
theorem oZ {l m:List Va}:incr (l++m)=true↔incr l=true/\incr m=true/\∀a∈l,∀b∈m,ltV a b:=by
 induction l with
 | nil=>simp[incr]
 | cons a l ih=>
  rw[List.cons_append,wI,wI,ih];constructor
  ·intro ⟨h1,h2,h3,h4⟩;refine ⟨⟨fun b hb=>h1 b (by simp[hb]),h2⟩,h3,fun x hx b hb=> ?_⟩;rcases yHB.1 hx with rfl | hx
   ·exact h1 b (by simp[hb])
   ·exact h4 x hx b hb
  ·intro ⟨⟨h1,h2⟩,h3,h4⟩;refine ⟨fun b hb=> ?_,h2,h3,fun x hx b hb=>h4 x (by simp[hx]) b hb⟩;rcases yIB.1 hb with hb | hb
   ·exact h1 b hb
   ·exact h4 a (by simp) b hb
theorem iZ (u:Va) (w:Int):∀(l:List (Va×Int)),incr (l.map (·.1))=true->incr ((insP u w l).map (·.1))=true
 | [],_=>by simp[insP,incr]
 | (a,x)::l,h=>by
  rw[yGU,wI] at h;rw[insP];by_cases h1:0 < cmpV u a
  ·rw[if_pos h1,yGU,wI];refine ⟨fun b hb=> ?_,iZ u w l h.2⟩;obtain ⟨p,hp,rfl⟩:=yHA.1 hb;rcases jH u w l p hp with e | ⟨q,hq,e⟩
   ·rw[e];exact cV.1 h1
   ·rw[e];exact h.1 _ (yHA.2 ⟨q,hq,rfl⟩)
  rw[if_neg h1];by_cases h2:cmpV u a=0
  ·rw[if_pos h2,yGU,wI];exact h
  ·rw[if_neg h2,yGU,wI];have hua:ltV u a:=by unfold ltV;omega
   refine ⟨fun b hb=> ?_,?_⟩
   ·rw[yGU] at hb;rcases yHB.1 hb with rfl | hb
    ·exact hua
    ·exact ltV.trans hua (h.1 b hb)
   ·rw[yGU,wI];exact h
theorem lA:∀(l acc:List (Va×Int)),incr (acc.map (·.1))=true->incr ((yX l acc).map (·.1))=true
 | [],acc,h=>h
 | p::l,acc,h=>lA l _ (iZ p.1 p.2 acc h)
theorem cK (u:Va) (w:Int):∀(l:List (Va×Int)),(∀a∈l,ltV a.1 u)->insP u w l=l++[(u,w)]
 | [],_=>rfl
 | (a,x)::l,h=>by
  rw[insP,if_pos (show 0 < cmpV u a from cV.2 (h (a,x) (by simp))),cK u w l fun b hb=>h b (by simp[hb])];rfl
theorem uP:∀(l acc:List (Va×Int)),incr ((acc++l).map (·.1))=true->yX l acc=acc++l
 | [],acc,_=>by simp[yX]
 | p::l,acc,h=>by
  have e:yX (p::l) acc=yX l (insP p.1 p.2 acc):=rfl;rw[e];rw[yIE,oZ] at h;rw[cK p.1 p.2 acc fun a ha=>h.2.2 a.1 (yHA.2 ⟨a,ha,rfl⟩) p.1 (by simp)];rw[uP l (acc++[(p.1,p.2)]) ?_]
  ·simp
  ·rw[List.append_assoc,yIE,oZ];exact h
theorem zIF:∀{l:List Int} {s:Int},s+sumW l<=1048576->(∀w∈l,1<=w)->wOk s l=true
 | [],s,_,_=>rfl
 | w::l,s,hs,h=>by
  rw[sumW] at hs;have h1:=h w (by simp);have h2:0<=sumW l:=wE fun x hx=>by have:=h x (by simp[hx]);omega
  rw[wOk,decide_eq_true h1,decide_eq_true (show w<=1048576 - s by omega),zIF (by omega) fun x hx=>h x (by simp[hx])];rfl
theorem cH (u:Va) (w:Int):∀(l:List (Va×Int)),sumW ((insP u w l).map (·.2))=w+sumW (l.map (·.2))
 | []=>by simp[insP,sumW]
 | (a,x)::l=>by
  rw[insP];by_cases h1:0 < cmpV u a
  ·rw[if_pos h1,yGU,sumW,cH u w l,yGU,sumW];omega
  rw[if_neg h1];by_cases h2:cmpV u a=0
  ·rw[if_pos h2];simp only[yGU,sumW];omega
  ·rw[if_neg h2];simp only[yGU,sumW]
theorem i9:∀(l acc:List (Va×Int)),sumW ((yX l acc).map (·.2))=sumW (l.map (·.2))+sumW (acc.map (·.2))
 | [],acc=>by simp[yX,sumW]
 | p::l,acc=>by
  have e:yX (p::l) acc=yX l (insP p.1 p.2 acc):=rfl;rw[e,i9 l,cH,yGU,sumW];omega
theorem mZ (u:Va) (w:Int):∀(l:List (Va×Int)),zJ ((insP u w l).map (·.1))<=zM u+zJ (l.map (·.1))
 | []=>by simp[insP,zJ]
 | (a,x)::l=>by
  rw[insP];by_cases h1:0 < cmpV u a
  ·have:=mZ u w l;rw[if_pos h1,yGU,zJ,yGU,zJ];omega
  rw[if_neg h1];by_cases h2:cmpV u a=0
  ·rw[if_pos h2];simp only[yGU,zJ];omega
  ·rw[if_neg h2];simp only[yGU,zJ];omega
theorem nB:∀(l acc:List (Va×Int)),zJ ((yX l acc).map (·.1))<=zJ (l.map (·.1))+zJ (acc.map (·.1))
 | [],acc=>by simp[yX,zJ]
 | p::l,acc=>by
  have e:yX (p::l) acc=yX l (insP p.1 p.2 acc):=rfl;have h1:=nB l (insP p.1 p.2 acc);have h2:=mZ p.1 p.2 acc;rw[e,yGU,zJ];omega
theorem wK:∀(l:List Int) (g:Nat),∀w∈l,xC g l∣w.toNat
 | [],_,w,hw=>by cases hw
 | a::l,g,w,hw=>by
  rcases yHB.1 hw with rfl | hw
  ·exact Nat.dvd_trans (sF l _) (Nat.gcd_dvd_right _ _)
  ·exact wK l _ w hw
theorem o8 (d:Nat) (hd:0 < d):∀(l:List Int) (g:Nat),(∀w∈l,0<=w/\(d:Int)∣w)->xC (d*g) l=d*xC g (l.map fun w=>w.tdiv d)
 | [],g,_=>rfl
 | a::l,g,h=>by
  have e1:xC (d*g) (a::l)=xC (Nat.gcd (d*g) a.toNat) l:=rfl;have e2:xC g ((a::l).map fun w=>w.tdiv d)=xC (Nat.gcd g (a.tdiv d).toNat) (l.map fun w=>w.tdiv d):=rfl;obtain ⟨h0,h1⟩:=h a (by simp);have e3:a.toNat=d*(a.tdiv d).toNat:=by
   obtain ⟨c,rfl⟩:=h1;have hc:0<=c:=by
    apply Classical.byContradiction;intro hc;have:(d:Int)*c < 0:=Int.mul_neg_of_pos_of_neg (by omega) (by omega);omega
   obtain ⟨c,rfl⟩:=yIF hc;rw[Int.mul_tdiv_cancel_left _ (by omega)]
   show ((d:Int)*(c:Int)).toNat=d*c
   rw[<-Int.natCast_mul];rfl
  rw[e1,e2,e3,Nat.gcd_mul_left,o8 d hd l _ fun w hw=>h w (by simp[hw])]
theorem zGG {l:List Int} (hne:l≠[]) (h:∀w∈l,1<=w):gcdW (l.map fun w=>w.tdiv (gcdW l))=1:=by
 have hp:=pO hne h;have hm:=o8 (gcdW l) hp l 0 fun w hw=>⟨by have:=h w hw;omega,by
  have h1:=wK l 0 w hw;have h2:=h w hw;have:((gcdW l:Nat):Int)∣((w.toNat:Nat):Int):=Int.natCast_dvd_natCast.2 h1;rwa [Int.toNat_of_nonneg (by omega)] at this⟩
 rw[Nat.mul_zero,wV] at hm;have:gcdW l*gcdW (l.map fun w=>w.tdiv (gcdW l))=gcdW l*1:=by
  rw[Nat.mul_one];exact hm.symm
 exact Nat.eq_of_mul_eq_mul_left hp this
end Go.Ab.Tab
/- Values in normal form: a value is its own normal form just if it meets a local criterion. -/
namespace Go.Ab.Tab
open Go Go.Ab
def tX (k:Int) (v:Va):Bool:= !(sets k) || (incr v.gs&&(!(decide (k=7)) || decide (gcdW v.ws=1)))
mutual
def valN (n:Nat):Va->Fu->Bool
 | .mk a gs ws,f=>okV n f (.mk a gs ws)&&(tX f.k (.mk a gs ws)&&wN n gs (zQ f (.mk a gs ws)))
def wN (n:Nat):List Va->List Fu->Bool
 | [],_=>true
 | v::l,[]=>false
 | v::l,f::fs=>valN n v f&&wN n l fs
end
theorem zFG (n:Nat) (v:Va) (f:Fu):valN n v f=(okV n f v&&(tX f.k v&&wN n v.gs (zQ f v))):=by
 cases v;rw[valN];rfl
theorem iG {n:Nat}:∀{l:List Va} {fs:List Fu},wN n l fs=true->∀(i:Nat) (h1:i < l.length) (h2:i < fs.length),valN n l[i] fs[i]=true
 | [],_,_,i,h1,_=>absurd h1 (by simp)
 | v::l,[],h,_,_,_=>by rw[wN] at h;cases h
 | v::l,f::fs,h,i,h1,h2=>by
  rw[wN,yGW] at h;cases i with
  | zero=>exact h.1
  | succ i=>exact iG h.2 i (by simpa using h1) (by simpa using h2)
theorem iF {n:Nat} {g:Fu}:∀{l:List Va},(∀a∈l,valN n a g=true)->∀(m:Nat),l.length<=m->wN n l (yGZ m g)=true
 | [],_,m,_=>by rw[wN]
 | v::l,h,0,hm=>absurd hm (by simp)
 | v::l,h,m+1,hm=>by
  rw[yHU,wN,h v (by simp),iF (fun a ha=>h a (by simp[ha])) m (by simpa using hm)];rfl
theorem oQ {n:Nat}:∀{l:List Va} {fs:List Fu},(∀v∈l,∀f,valN n v f=true->y6 n v f=some v)->wN n l fs=true->z9 n l fs=some l
 | [],_,_,_=>by rw[z9]
 | v::l,[],_,h=>by rw[wN] at h;cases h
 | v::l,f::fs,hv,h=>by
  rw[wN,yGW] at h;rw[z9,hv v (by simp) f h.1];simp only;rw[oQ (fun w hw=>hv w (yHC _ hw)) h.2];rfl
theorem fK:∀{l:List Va} {ws:List Int},l.length=ws.length->(l.zip ws).map (·.1)=l/\(l.zip ws).map (·.2)=ws
 | [],[],_=>⟨rfl,rfl⟩
 | [],_::_,h=>by simp at h
 | _::_,[],h=>by simp at h
 | a::l,w::ws,h=>by
  obtain ⟨h1,h2⟩:=fK (l:=l) (ws:=ws) (by simpa using h);simp[h1,h2]
theorem zGS {l:List Int} (k:Int) (h:k=7->gcdW l=1):divW k l=l:=by
 unfold divW;by_cases h7:k=7
 ·rw[if_pos h7,h h7];have:(fun w:Int=>w.tdiv ((1:Nat):Int))=fun w=>w:=by funext w;exact Int.tdiv_one w
  rw[this];simp
 ·rw[if_neg h7]
theorem iV {n:Int} {k:Int} {gs:List Va} {ws:List Int} (hw:yI k (.mk n gs ws)=true) (hs:sets k=true) (h:tX k (.mk n gs ws)=true):y2 k (.mk n gs ws)= .mk n gs ws:=by
 obtain ⟨h1,_,h2⟩:=vD hw;have h1:wtd k=true->ws.length=gs.length/\(∀w∈ws,1<=w)/\sumW ws<=1048576:=h1;have h2:wtd k=false->ws= []:=h2;unfold tX at h;rw[hs] at h;simp only[yHO,yHK,yGW,yHI,yIG,decide_eq_false_iff_not,decide_eq_true_eq] at h;have hi:incr gs=true:=h.1;have hg:k=7->gcdW ws=1:=fun h7=>h.2.resolve_left fun q=>q h7;have e:y2 k (.mk n gs ws)= .mk n ((yX (zipW k gs ws) []).map (·.1)) (if wtd k then divW k ((yX (zipW k gs ws) []).map (·.2)) else []):=rfl
 rw[e];cases hk:wtd k with
 | true=>
  obtain ⟨z1,z2⟩:=fK (h1 hk).1.symm;rw[yY hk,uP _ [] (by rw[yHP,z1];exact hi),yHP,z1,z2,if_pos rfl,zGS k hg]
 | false=>
  have z:(zipW k gs ws).map (·.1)=gs:=by rw[xK hk,List.map_map];exact List.map_id' _
  rw[uP _ [] (by rw[yHP,z];exact hi),yHP,z,h2 hk];rfl
theorem qA {n:Nat}:∀(v:Va) (f:Fu),valN n v f=true->y6 n v f=some v:=by
 refine Va.ind' fun a gs ws hrec=> ?_;intro f h;rw[valN] at h;simp only[yGW] at h;rw[y6,if_pos h.1,oQ hrec h.2.2];have hok:=h.1;unfold okV at hok;simp only[yGW] at hok;have:putV f (.mk a gs ws) gs= .mk a gs ws:=by
  unfold putV;cases hs:sets f.k with
  | true=>rw[if_pos rfl];exact iV hok.2.2 hs h.2.1
  | false=>rfl
 rw[yHZ,this]
theorem mQ {n:Nat}:∀{l:List Va} {fs:List Fu} {gs:List Va},(∀v∈l,∀f u,y6 n v f=some u->valN n u f=true)->z9 n l fs=some gs->wN n gs fs=true
 | [],_,gs,_,h=>by rw[z9] at h;injection h with h;subst h;rw[wN]
 | v::l,[],gs,_,h=>by rw[z9] at h;cases h
 | v::l,f::fs,gs,hv,h=>by
  rw[z9] at h;cases h1:y6 n v f with
  | none=>rw[h1] at h;cases h
  | some u=>
   rw[h1] at h;cases h2:z9 n l fs with
   | none=>rw[h2] at h;cases h
   | some q=>
    rw[h2] at h;injection h with h;subst h;rw[wN,hv v (yHF ..) f u h1,mQ (fun w hw=>hv w (yHC _ hw)) h2];rfl
theorem bZ {n:Int} {k:Int} {gs:List Va} {ws:List Int} (hs:sets k=true) (hw:yI k (.mk n gs ws)=true):yI k (y2 k (.mk n gs ws))=true/\tX k (y2 k (.mk n gs ws))=true:=by
 obtain ⟨h1,h7,h2⟩:=vD hw;have h1:wtd k=true->ws.length=gs.length/\(∀w∈ws,1<=w)/\sumW ws<=1048576:=h1;have h7:k=7->gs≠[]:=h7;have e:y2 k (.mk n gs ws)= .mk n ((yX (zipW k gs ws) []).map (·.1)) (if wtd k then divW k ((yX (zipW k gs ws) []).map (·.2)) else []):=rfl
 rw[e];have hinc:incr ((yX (zipW k gs ws) []).map (·.1))=true:=lA _ _ (by rfl)
 cases hk:wtd k with
 | false=>
  have hk7:¬k=7:=by intro q;subst q;cases hk
  constructor
  ·unfold yI;rw[hk];rfl
  ·unfold tX;simp[hs,hk7];exact hinc
 | true=>
  obtain ⟨q1,q2,q3⟩:=h1 hk;rw[if_pos rfl];rw[yY hk] at hinc|-;obtain ⟨z1,z2⟩:=fK q1.symm;have hpos:∀w∈(yX (gs.zip ws) []).map (·.2),1<=w:=by
   intro w hw;obtain ⟨p,hp,rfl⟩:=yHA.1 hw;exact nA _ _ (fun p hp=>q2 _ (yHR hp).2) (by simp) p hp
  have hsum:=i9 (gs.zip ws) [];rw[z2] at hsum;simp only[yHM,sumW] at hsum;have hne:k=7->(yX (gs.zip ws) [])≠[]:=by
   intro q;refine jN _ _ (.inl fun e=> ?_);have:=congrArg List.length e;rw[yHL,q1] at this;simp at this;exact h7 q this
  have hlen:(divW k ((yX (gs.zip ws) []).map (·.2))).length=((yX (gs.zip ws) []).map (·.1)).length:=by
   unfold divW;split<;>simp
  generalize yX (gs.zip ws) []=F at*;generalize hW:F.map (·.2)=W at*
  have hWp:∀w∈divW k W,1<=w:=by
   unfold divW;by_cases q:k=7
   ·rw[if_pos q];intro w hw;obtain ⟨x,hx,rfl⟩:=yHA.1 hw;have hx1:=hpos x hx;have hWne:W≠[]:=by intro e;rw[e] at hx;cases hx
    have hg:=pO hWne hpos;have hd:=wK W 0 x hx;have hle:=Nat.le_of_dvd (by omega) hd;rw[wV] at hle;rw[Int.tdiv_eq_ediv_of_nonneg (by omega)];exact (Int.le_ediv_iff_mul_le (by omega)).2 (by omega)
   ·rw[if_neg q];exact hpos
  have hle:∀(l:List Int),(∀w∈l,1<=w)->∀g:Nat,0 < g->sumW (l.map fun w=>w.tdiv g)<=sumW l:=by
   intro l hl g hg
   induction l with
   | nil=>exact Int.le_refl _
   | cons a l ih=>
    rw[yGU,sumW,sumW];have:=ih fun w hw=>hl w (by simp[hw]);have ha:=hl a (by simp);have:a.tdiv g<=a:=Int.tdiv_le_self _ (by omega);omega
  have hWs:sumW (divW k W)<=1048576:=by
   unfold divW;by_cases q:k=7
   ·rw[if_pos q];have hWne:W≠[]:=by rw[<-hW];simpa using hne q
    have:=hle W hpos (gcdW W) (pO hWne hpos);omega
   ·rw[if_neg q];omega
  constructor
  ·unfold yI;rw[hk,if_pos rfl]
   show (wOk 0 (divW k W)&&(decide ((divW k W).length=(F.map (·.1)).length)&&(decide (k=6) || decide (0 < (F.map (·.1)).length))))=true
   rw[zIF (by omega) hWp,decide_eq_true hlen];simp only[yGT,yHI,decide_eq_true_eq];have hk':k=6\/k=7:=by unfold wtd at hk;simpa only[yHI,decide_eq_true_eq] using hk
   rcases hk' with q | q
   ·exact .inl q
   ·refine .inr ?_;rw[yHS];exact List.length_pos_iff.2 (hne q)
  ·unfold tX;rw[hs];simp only[yHO,yHK,yGW,yHI,yIG,decide_eq_false_iff_not,decide_eq_true_eq];refine ⟨hinc,?_⟩;by_cases q:k=7
   ·refine .inr ?_
    show gcdW (divW k W)=1
    unfold divW;rw[if_pos q];exact zGG (by rw[<-hW];simpa using hne q) hpos
   ·exact .inl q
theorem zBO {n:Nat}:∀(v:Va) (f:Fu) (u:Va),y6 n v f=some u->valN n u f=true:=by
 refine Va.ind' fun a gs ws hrec=> ?_;intro f u h;rw[y6] at h;split at h
 ·rename_i hok;cases h1:z9 n gs (zQ f (.mk a gs ws)) with
  | none=>rw[h1] at h;cases h
  | some q=>
   rw[h1] at h;injection h with h;have hv:=mQ hrec h1;have hl:=tD h1;have hok':=hok;unfold okV at hok';simp only[yGW] at hok';obtain ⟨p1,p2,p3⟩:=hok';have hwq:yI f.k (.mk a q ws)=true:=by
    rw[<-p3]
    show (if wtd f.k then wOk 0 ws&&(decide (ws.length=q.length)&&(decide (f.k=6) || decide (0 < q.length))) else _)=_
    rw[hl];rfl
   cases hs:sets f.k with
   | false=>
    have e:putV f (.mk a gs ws) q= .mk a q ws:=by unfold putV;rw[hs];rfl
    rw[e] at h;subst h;have e2:zQ f (.mk a q ws)=zQ f (.mk a gs ws):=qR _ _ rfl hl;rw[valN,e2,hv];have e3:tX f.k (.mk a q ws)=true:=by unfold tX;rw[hs];rfl
    have e4:xB f (.mk a q ws)=true:=by
     rw[<-p1];unfold xB;rw[e2]
     show (_&&decide (_=q.length))=(_&&decide (_=gs.length))
     rw[hl];rfl
    have e5:r8 f n (.mk a q ws)=true:=p2;unfold okV;rw[e3,e4,e5,hwq];rfl
   | true=>
    have e:putV f (.mk a gs ws) q=y2 f.k (.mk a q ws):=by unfold putV;rw[hs];rfl
    rw[e] at h;obtain ⟨m1,m2⟩:=bZ hs hwq;have hmem:∀b∈u.gs,b∈q:=by rw[<-h,<-e];exact k8 f _ q
    have hn:u.n=a:=by rw[<-h];rfl
    rw[h] at m1 m2;rw[zFG,m2];have hp:=vT hs u;have e4:xB f u=true:=by
     unfold xB;rw[hp,yHV];have:¬f.k=3:=by have:=zAS hs;omega
     simp[this]
    have e5:r8 f n u=true:=by
     rw[<-p2];unfold r8;rw[hn];rfl
    have e6:wN n u.gs (zQ f u)=true:=by
     rw[hp];refine iF (fun b hb=> ?_) _ (yHG _);obtain ⟨i,hi,rfl⟩:=yIC (hmem b hb);rw[vT hs] at hv;have:=iG hv i hi (by rw[yHV];show i < gs.length;omega);rwa [yID] at this
    unfold okV;rw[e4,e5,m1,e6];rfl
 ·cases h
theorem jC (k a:Int) (gs:List Va) (ws:List Int):zJ (y2 k (.mk a gs ws)).gs<=zJ gs:=by
 have h1:=nB (zipW k gs ws) [];have h3:(y2 k (.mk a gs ws)).gs=(yX (zipW k gs ws) []).map (·.1):=rfl
 rw[h3];refine yHT h1 ?_;simp only[yHM,zJ,Nat.add_zero];cases h:wtd k with
 | false=>rw[xK h,List.map_map];exact Nat.le_of_eq (congrArg zJ (List.map_id' _))
 | true=>
  rw[yY h];clear h1 h3 h
  induction gs generalizing ws with
  | nil=>simp[zJ]
  | cons b l ih=>
   cases ws with
   | nil=>simp[zJ]
   | cons w ws=>
    have:=ih ws;rw[List.zip_cons_cons,yGU,zJ,zJ]
    show zM b+_<=_
    omega
theorem qT {n:Nat}:∀{l:List Va} {fs:List Fu} {gs:List Va},(∀v∈l,∀f u,y6 n v f=some u->zM u<=zM v)->z9 n l fs=some gs->zJ gs<=zJ l
 | [],_,gs,_,h=>by rw[z9] at h;injection h with h;subst h;exact yHG _
 | v::l,[],gs,_,h=>by rw[z9] at h;cases h
 | v::l,f::fs,gs,hv,h=>by
  rw[z9] at h;cases h1:y6 n v f with
  | none=>rw[h1] at h;cases h
  | some u=>
   rw[h1] at h;cases h2:z9 n l fs with
   | none=>rw[h2] at h;cases h
   | some q=>
    rw[h2] at h;injection h with h;subst h;have a1:=hv v (yHF ..) f u h1;have a2:=qT (fun w hw=>hv w (yHC _ hw)) h2;rw[zJ,zJ];omega
theorem f8 {n:Nat}:∀(v:Va) (f:Fu) (u:Va),y6 n v f=some u->zM u<=zM v:=by
 refine Va.ind' fun a gs ws hrec=> ?_;intro f u h;rw[y6] at h;split at h
 ·cases h1:z9 n gs (zQ f (.mk a gs ws)) with
  | none=>rw[h1] at h;cases h
  | some q=>
   rw[h1] at h;injection h with h;subst h;have:=qT hrec h1;rw[zBP,zM];unfold putV;cases sets f.k with
   | true=>rw[if_pos rfl];have:=jC f.k a q ws;show 1+zJ (y2 f.k (.mk a q ws)).gs<=_;omega
   | false=>show 1+zJ q<=_;omega
 ·cases h
def valV (f:Fu) (n:Nat) (v:Va):Bool:=decide (zM v<=2000)&&(valN n v f&& !(tU v f))
theorem cG {f:Fu} {n:Nat} {v:Va} {p:Option Va×Int} (h:rG f n v=p):isV f n v=(decide (p.2=0)&&decide (cmpV (p.1.getD v0) v=0)):=by subst h;rfl
theorem zLQ (f:Fu) (n:Nat) (v:Va):isV f n v=valV f n v:=by
 unfold valV;by_cases hn:2000 < zM v
 ·rw[cG (p:=(none,20)) (by unfold rG;rw[if_pos hn]),decide_eq_false (show¬zM v<=2000 by omega)];rfl
 rw[decide_eq_true (show zM v<=2000 by omega),yGT];cases hu:y6 n v f with
 | none=>
  have:valN n v f=false:=by
   cases h:valN n v f with
   | false=>rfl
   | true=>rw[qA v f h] at hu;cases hu
  rw[cG (p:=(none,20)) (by unfold rG;rw[if_neg hn,hu]),this];rfl
 | some u=>
  have huv:=zBO v f u hu;by_cases hw:tU u f=true
  ·rw[cG (p:=(none,2)) (by unfold rG;rw[if_neg hn,hu];exact if_pos hw)];cases h:valN n v f with
   | false=>rfl
   | true=>
    rw[qA v f h] at hu;injection hu with hu;subst hu;rw[hw];rfl
  ·rw[cG (p:=(some u,0)) (by unfold rG;rw[if_neg hn,hu];exact if_neg hw)];have hw:tU u f=false:=by simpa using hw
   show (decide ((0:Int)=0)&&decide (cmpV u v=0))=_
   rw[decide_eq_true rfl,yGT];by_cases e:u=v
   ·subst e;rw[huv,hw,decide_eq_true ((uV u u).2 rfl)];rfl
   ·rw[decide_eq_false (fun q=>e ((uV u v).1 q))];cases h:valN n v f with
    | false=>rfl
    | true=>
     rw[qA v f h] at hu;injection hu with hu;exact absurd hu.symm e
theorem zAQ (f:Fu) (hf:zT f=true) (n:Nat) (hn:n<=100) (v:Va) (hv:fitV v) (hnod:zM v<=2^32) (D:Nat):Go.Ab.Loc Pg Gl D 11 [encF f,.int .i64 n,encV v] [] (.bool (valV f n v)) []:=by
 rw[<-zLQ];exact zTE f hf n hn v hv (fun u hu=>yHT (f8 v f u hu) hnod) D
end Go.Ab.Tab
/- Systems: the reference's Few and Is. -/
namespace Go.Ab.Tab
open Go Go.Ab
end Go.Ab.Tab
/- Values: the program's order,gcd,weighed,Nodes. -/
namespace Go.Ab
open Go
section
variable {C:zL} {own:Md} {Q:St->Prop} {k:List AI} {n D:Nat} {τ:Nat->AV} {ω:Nat->Ent} {S:Nat->Nat->Ent} {l:List AOper} {d:Nat}
theorem bM {f args r args' x} (hx:(stF n D τ ω S).ev x= .fn f []) (h:C (D+1) f args' [] r []) (ha:args.map (fun x=>((stF n D τ ω S).ev x).strip)=args')
  (hk:Rd C own Q (.ops l::k) (stF n D (upd τ d r) ω S)) (hf:f≠yid:=by decide):Rd C own Q (.ops (⟨some d,.callv x args,none⟩::l)::k) (stF n D τ ω S):=by
 refine .opsCall rfl (.callv (M:=[]) (dl:=[]) (r:=r) hf hx (by rw[ha,yHM,yIA];exact h) (by simp) (by simp)) ?_;simpa[zV,z5] using hk
end
end Go.Ab
namespace Go.Ab.Tab
open Go Go.Ab
theorem zAR (D:Nat) (a b:Int):Go.Ab.Loc Pg Gl D 117 [.int .i64 a,.int .i64 b] [] (.int .i64 (ordI a b)) []:=by
 refine z0 zR tok rfl rfl fun S=> ?_;unfold c117;unfold ordI;by_cases h1:a < b
 ·simp[h1]
 ·by_cases h2:b < a
  ·simp[h1,h2]
  ·simp[h1,h2]
theorem zBI (a:Int):ordI a a=0:=by simp[ordI]
theorem zBH {a b:Int} (h:a≠b):ordI a b≠0:=fun e=>h (oK.1 e)
theorem l141 (D:Nat) (ws xs:List Int) (h1:ws.length<=maxLen) (S):∀(j i:Nat) (τ ω) (r:AV),i+j=ws.length->i<=xs.length->
  τ 0= .sl 1 (ws.map (AV.int .i64)) .no->τ 1= .sl 1 (xs.map (AV.int .i64)) .no->τ 2= .fn 117 []->τ 11= .sl 1 (ws.map (AV.int .i64)) .no->τ 12= .int .i64 ws.length->τ 13= .int .i64 i->r= .int .i64 (yS (ws.drop i) (xs.drop i))->
  Rd (Loc Pg Gl) .im (RetQ [.tmp 6] r S) [.lp c122_l0,.blk 0,.c jZ] (stF 39 D τ ω S):=by
 intro j
 induction j with
 | zero=>
  intro i τ ω r hi hx g0 g1 g2 g11 g12 g13 hr;refine zC c122_l0.eq_1 ?_;obtain rfl:i=ws.length:=by omega
  rw[yHD,tR,yHQ] at hr;by_cases h:ws.length < xs.length
  ·have e:ordI 0 ((xs.length - ws.length:Nat):Int)= -1:=by unfold ordI;rw[if_pos (by omega)]
   rw[e] at hr;simp[g0,g1,g2,g11,g12,g13,jZ,h,hr]
  ·have e:ordI 0 ((xs.length - ws.length:Nat):Int)=0:=by unfold ordI;rw[if_neg (by omega),if_neg (by omega)]
   rw[e] at hr;simp[g0,g1,g2,g11,g12,g13,jZ,h,hr]
 | succ j ih=>
  intro i τ ω r hi hx g0 g1 g2 g11 g12 g13 hr;refine zC c122_l0.eq_1 ?_;have hlt:i < ws.length:=by omega
  have hwr:=zF hlt h1;rw[yGX hlt] at hr;by_cases hx2:i < xs.length
  ·have hx3:¬xs.length<=i:=by omega
   rw[yGX hx2,yS] at hr;simp[g0,g1,g2,g11,g12,g13,hlt,hx2,hx3];refine bM (by simp[g2]) (zAR _ ws[i] xs[i]) (by simp) ?_;by_cases he:ws[i]=xs[i]
   ·rw[if_pos he] at hr;rw[he,zBI];simp[g13,hwr];refine ih (i+1) _ _ r (by omega) (by omega) ?_ ?_ ?_ ?_ ?_ ?_ hr;all_goals simp[g0,g1,g2,g11,g12,g13]
   ·rw[if_neg he] at hr;have hne:=zBH he;generalize ordI ws[i] xs[i]=c at hr hne;simp[hne,hr]
  ·obtain rfl:i=xs.length:=by omega
   rw[yHD,yS] at hr;simp[g0,g1,g2,g11,g12,g13,hlt,hr]
theorem zKM (D:Nat) (ws xs:List Int) (h1:ws.length<=maxLen):Go.Ab.Loc Pg Gl D 122 [.sl 1 (ws.map (AV.int .i64)) .no,.sl 1 (xs.map (AV.int .i64)) .no,.fn 117 []] [] (.int .i64 (yS ws xs)) []:=by
 refine z0 zR tok rfl rfl fun S=> ?_;unfold c122;generalize hr:AV.int .i64 (yS ws xs)=r;simp;refine l141 D ws xs h1 S ws.length 0 _ _ r (by simp) (by simp) ?_ ?_ ?_ ?_ ?_ ?_ (by rw[<-hr];simp);all_goals simp
theorem zKN (D:Nat) (ws xs:List Int) (h1:ws.length<=maxLen):Go.Ab.Loc Pg Gl D 119 [.sl 1 (ws.map (AV.int .i64)) .no,.sl 1 (xs.map (AV.int .i64)) .no,.fn 117 []] [] (.int .i64 (yS ws xs)) []:=by
 refine z0 zR tok rfl rfl fun S=> ?_;unfold c119;simp;refine zE (zKM _ ws xs h1) (by simp) ?_;simp
theorem l140 (D:Nat) (gs hs:List Va) (h1:gs.length<=maxLen) (hrec:∀a∈gs,∀b (D:Nat),Go.Ab.Loc Pg Gl D 108 [encV a,encV b] [] (.int .i64 (cmpV a b)) []) (S):∀(j i:Nat) (τ ω) (r:AV),i+j=gs.length->i<=hs.length->
  τ 0= .sl 3 (gs.map encV) .no->τ 1= .sl 3 (hs.map encV) .no->τ 2= .fn 108 []->τ 11= .sl 3 (gs.map encV) .no->τ 12= .int .i64 gs.length->τ 13= .int .i64 i->r= .int .i64 (yF (gs.drop i) (hs.drop i))->
  Rd (Loc Pg Gl) .im (RetQ [.tmp 6] r S) [.lp c121_l0,.blk 0,.c j0] (stF 39 D τ ω S):=by
 intro j
 induction j with
 | zero=>
  intro i τ ω r hi hx g0 g1 g2 g11 g12 g13 hr;refine zC c121_l0.eq_1 ?_;obtain rfl:i=gs.length:=by omega
  rw[yHD,tQ,yHQ] at hr;by_cases h:gs.length < hs.length
  ·have e:ordI 0 ((hs.length - gs.length:Nat):Int)= -1:=by unfold ordI;rw[if_pos (by omega)]
   rw[e] at hr;simp[g0,g1,g2,g11,g12,g13,j0,h,hr]
  ·have e:ordI 0 ((hs.length - gs.length:Nat):Int)=0:=by unfold ordI;rw[if_neg (by omega),if_neg (by omega)]
   rw[e] at hr;simp[g0,g1,g2,g11,g12,g13,j0,h,hr]
 | succ j ih=>
  intro i τ ω r hi hx g0 g1 g2 g11 g12 g13 hr;refine zC c121_l0.eq_1 ?_;have hlt:i < gs.length:=by omega
  have hwr:=zF hlt h1;rw[yGX hlt] at hr;by_cases hx2:i < hs.length
  ·have hx3:¬hs.length<=i:=by omega
   rw[yGX hx2,yF] at hr;simp[g0,g1,g2,g11,g12,g13,hlt,hx2,hx3,zA gs[i],zA hs[i]];refine bM (by simp[g2]) (hrec gs[i] (yGV hlt) hs[i] _) (by simp[zA gs[i],zA hs[i]]) ?_;by_cases he:cmpV gs[i] hs[i]=0
   ·rw[if_pos he] at hr;rw[he];simp[g13,hwr];refine ih (i+1) _ _ r (by omega) (by omega) ?_ ?_ ?_ ?_ ?_ ?_ hr;all_goals simp[g0,g1,g2,g11,g12,g13]
   ·rw[if_neg he] at hr;generalize cmpV gs[i] hs[i]=c at hr he;simp[he,hr]
  ·obtain rfl:i=hs.length:=by omega
   rw[yHD,yF] at hr;simp[g0,g1,g2,g11,g12,g13,hlt,hr,zA gs[hs.length]]
theorem zKQ:∀(u:Va),fitV u->∀(v:Va) (D:Nat),Go.Ab.Loc Pg Gl D 108 [encV u,encV v] [] (.int .i64 (cmpV u v)) []:=by
 refine Va.ind' fun n gs ws hrec=> ?_;intro hfit v D;rw[fitV] at hfit;cases v with
 | mk n' hs xs=>
 have spec121:∀D,Go.Ab.Loc Pg Gl D 121 [.sl 3 (gs.map encV) .no,.sl 3 (hs.map encV) .no,.fn 108 []] [] (.int .i64 (yF gs hs)) []:=by
  intro D;refine z0 zR tok rfl rfl fun S=> ?_;unfold c121;generalize hr:AV.int .i64 (yF gs hs)=r;simp;refine l140 D gs hs hfit.1.1 (fun a ha b D=>hrec a ha (yJ hfit.2 a ha) b D) S gs.length 0 _ _ r (by simp) (by simp) ?_ ?_ ?_ ?_ ?_ ?_ (by rw[<-hr];simp);all_goals simp
 have spec118:∀D,Go.Ab.Loc Pg Gl D 118 [.sl 3 (gs.map encV) .no,.sl 3 (hs.map encV) .no,.fn 108 []] [] (.int .i64 (yF gs hs)) []:=by
  intro D;refine z0 zR tok rfl rfl fun S=> ?_;unfold c118;simp;refine zE (spec121 _) (by simp) ?_;simp
 refine z0 zR tok rfl rfl fun S=> ?_;unfold c108;generalize hr:AV.int .i64 (cmpV (.mk n gs ws) (.mk n' hs xs))=r;rw[cmpV] at hr;rw[zG,zG];simp;refine zE (zAR _ n n') (by simp) ?_;by_cases h1:n=n'
 ·rw[if_pos h1] at hr;rw[h1,zBI];simp;refine zE (spec118 _) (by simp) ?_;by_cases h2:yF gs hs=0
  ·rw[if_pos h2] at hr;rw[h2];simp;refine zE (zKN _ ws xs hfit.1.2) (by simp) ?_;simp[<-hr]
  ·rw[if_neg h2] at hr;generalize yF gs hs=c at hr h2;simp[h2,<-hr]
 ·rw[if_neg h1] at hr;have hne:=zBH h1;generalize ordI n n'=c at hr hne;simp[hne,<-hr]
end Go.Ab.Tab
/- Values: the program's Nodes,weighed,gcd. -/
namespace Go.Ab.Tab
open Go Go.Ab
theorem l134 (D:Nat) (ws:List Int) (hlen:ws.length<=maxLen) (S):∀(j i:Nat) (s:Int) (τ ω) (r:AV),i+j=ws.length->0<=s->s<=1048576->
  τ 3= .int .i64 s->τ 6= .sl 1 (ws.map (AV.int .i64)) .no->τ 7= .int .i64 ws.length->τ 8= .int .i64 i->r= .bool (wOk s (ws.drop i))->
  Rd (Loc Pg Gl) .im (RetQ [.tmp 2] r S) [.lp c106_l0,.blk 0,.c eY] (stF 24 D τ ω S):=by
 intro j
 induction j with
 | zero=>
  intro i s τ ω r hi hs0 hs1 h3 h6 h7 h8 hr;refine zC c106_l0.eq_1 ?_;obtain rfl:i=ws.length:=by omega
  rw[yHD,wOk] at hr;simp[h3,h6,h7,h8,eY,hr]
 | succ j ih=>
  intro i s τ ω r hi hs0 hs1 h3 h6 h7 h8 hr;refine zC c106_l0.eq_1 ?_;have hlt:i < ws.length:=by omega
  have hwr:=zF hlt hlen;obtain ⟨w,hw⟩:∃w,ws[i]=w:=⟨_,rfl⟩;rw[yGX hlt,hw,wOk] at hr;by_cases h1:w < 1
  ·rw[decide_eq_false (show¬1<=w by omega),yGY] at hr;simp[h3,h6,h7,h8,hlt,hw,h1,hr]
  rw[decide_eq_true (show 1<=w by omega),yGT] at hr;by_cases h2:1048576 < w
  ·rw[decide_eq_false (show¬w<=1048576 - s by omega),yGY] at hr;simp[h3,h6,h7,h8,hlt,hw,h1,h2,hr]
  have hwa:IntKind.i64.wrap (s+w)=s+w:=by simp[IntKind.wrap,IntKind.bits,IntKind.signed];omega
  by_cases h4:1048576 < s+w
  ·rw[decide_eq_false (show¬w<=1048576 - s by omega),yGY] at hr;simp[h3,h6,h7,h8,hlt,hw,h1,h2,hwa,h4,hr]
  rw[decide_eq_true (show w<=1048576 - s by omega),yGT] at hr;simp[h3,h6,h7,h8,hlt,hw,h1,h2,hwa,h4,hwr];refine ih (i+1) (s+w) _ _ r (by omega) (by omega) (by omega) ?_ ?_ ?_ ?_ hr;all_goals simp[h3,h6,h7,h8]
theorem zKS (D:Nat) (ws:List Int) (hlen:ws.length<=maxLen):Go.Ab.Loc Pg Gl D 106 [.sl 1 (ws.map (AV.int .i64)) .no] [] (.bool (wOk 0 ws)) []:=by
 refine z0 zR tok rfl rfl fun S=> ?_;unfold c106;generalize hr:AV.bool (wOk 0 ws)=r;simp;refine l134 D ws hlen S ws.length 0 0 _ _ r (by simp) (by omega) (by omega) ?_ ?_ ?_ ?_ (by rw[<-hr];simp);all_goals simp
theorem zUC (D:Nat) (Q:St->Prop) (k:List AI) (S) (ω):∀(m a b:Nat) (τ:Nat->AV),b<=m->
  τ 3= .int .i64 a->τ 5= .int .i64 b->
  (∀τ':Nat->AV,τ' 3= .int .i64 (Nat.gcd a b)->τ' 6=τ 6->τ' 7=τ 7->τ' 8=τ 8->Rd (Loc Pg Gl) .im Q k (stF 20 D τ' ω S))->
  Rd (Loc Pg Gl) .im Q (.lp c107_l0:: .blk 2::k) (stF 20 D τ ω S):=by
 intro m
 induction m with
 | zero=>
  intro a b τ hb h3 h5 hk;refine zC c107_l0.eq_1 ?_;obtain rfl:b=0:=by omega
  simp[h3,h5];refine hk _ ?_ ?_ ?_ ?_;all_goals simp[h3]
 | succ m ih=>
  intro a b τ hb h3 h5 hk;refine zC c107_l0.eq_1 ?_;by_cases hb0:b=0
  ·subst hb0;simp[h3,h5];refine hk _ ?_ ?_ ?_ ?_;all_goals simp[h3]
  ·have e:(a:Int).tmod b=((a % b:Nat):Int):=by rw[Int.tmod_eq_emod_of_nonneg (by omega)];exact (yIH a b).symm
   have hlt:=Nat.mod_lt a (show 0 < b by omega);simp[h3,h5,hb0,e,-yIH];refine ih b (a % b) _ (by omega) ?_ ?_ fun τ' q3 q6 q7 q8=>hk τ' ?_ ?_ ?_ ?_
   case refine_3=>rw[q3,Nat.gcd_comm a b,Nat.gcd_rec b a,Nat.gcd_comm]
   all_goals first | simp[q6,q7,q8] | simp
theorem zUB (D:Nat) (ws:List Int) (hlen:ws.length<=maxLen) (hpos:∀w∈ws,0<=w) (S):∀(j i a:Nat) (τ ω) (r:AV),i+j=ws.length->
  τ 3= .int .i64 a->τ 6= .sl 1 (ws.map (AV.int .i64)) .no->τ 7= .int .i64 ws.length->τ 8= .int .i64 i->r= .int .i64 (xC a (ws.drop i))->
  Rd (Loc Pg Gl) .im (RetQ [.tmp 2] r S) [.lp c107_l1,.blk 0,.c eX] (stF 20 D τ ω S):=by
 intro j
 induction j with
 | zero=>
  intro i a τ ω r hi h3 h6 h7 h8 hr;refine zC c107_l1.eq_1 ?_;obtain rfl:i=ws.length:=by omega
  rw[yHD] at hr;simp[h3,h6,h7,h8,eX];simp[hr,xC]
 | succ j ih=>
  intro i a τ ω r hi h3 h6 h7 h8 hr;refine zC c107_l1.eq_1 ?_;have hlt:i < ws.length:=by omega
  have hwr:=zF hlt hlen;obtain ⟨w,hw⟩:∃w:Nat,ws[i]=w:=yIF (hpos _ (yGV hlt));rw[yGX hlt,hw] at hr;have hr:r= .int .i64 (xC (Nat.gcd a w) (ws.drop (i+1))):=hr;simp[h3,h6,h7,h8,hlt,hw];refine zUC D _ _ S _ w a w _ (yHG _) ?_ ?_ fun τ' q3 q6 q7 q8=> ?_
  case refine_3=>
   simp[h6] at q6;simp[h7] at q7;simp[h8] at q8;simp[zDX,q8,hwr];refine ih (i+1) (Nat.gcd a w) _ _ r (by omega) ?_ ?_ ?_ ?_ hr;all_goals simp[q3,q6,q7]
  all_goals simp[h3]
theorem zKR (D:Nat) (ws:List Int) (hlen:ws.length<=maxLen) (hpos:∀w∈ws,0<=w):Go.Ab.Loc Pg Gl D 107 [.sl 1 (ws.map (AV.int .i64)) .no] [] (.int .i64 (gcdW ws)) []:=by
 refine z0 zR tok rfl rfl fun S=> ?_;unfold c107;generalize hr:AV.int .i64 (gcdW ws)=r;simp;refine zUB D ws hlen hpos S ws.length 0 0 _ _ r (by simp) ?_ ?_ ?_ ?_ (by rw[<-hr,yHH,wV]);all_goals simp
end Go.Ab.Tab
/- Values: the program's elements. -/
namespace Go.Ab.Tab
open Go Go.Ab
def setP (k:Int) (v:Va):Bool:=(decide (k=5) || (decide (v.ws.length=v.gs.length)&&wOk 0 v.ws))&&(!(decide (k=7)&&decide (v.gs.length=0))&&(decide (v.gs.length<=100)&&((!(decide (k=7)) || decide (gcdW v.ws=1))&&incr v.gs)))
theorem l133 (D:Nat) (gs:List Va) (hlen:gs.length<=maxLen) (hfit:∀a∈gs,fitV a) (n:Int) (W:AV) (d' o:Nat) (hd:¬d'=D) (S) (Q:St->Prop) (b:Bool) (hQ:∀τ ω,τ 6= .bool b->Q (stF 76 D τ ω S)):∀(j i:Nat) (τ ω),1<=i->gs.length<=i+j->
  τ 5= .ptr D 5 1 0->τ 7= .int .i64 i->ω 5=(1,.cells [.int .i64 n,.sl 3 (gs.map encV) .no,W])->b=incr (gs.drop (i - 1))->
  Rd (Loc Pg Gl) .im Q [.lp c86_l0,.blk 0,.c bA] (stF 76 D τ ω S):=by
 intro j
 induction j with
 | zero=>
  intro i τ ω h1 hi h5 h7 w5 hb;refine zC c86_l0.eq_1 ?_;have hx:incr (gs.drop (i - 1))=true:=by
   have:(gs.drop (i - 1)).length<=1:=by rw[yHQ];omega
   match gs.drop (i - 1),this with
   | [],_=>rfl
   | [_],_=>rfl
  have hle:¬i < gs.length:=by omega
  simp[h5,h7,w5,hle,bA];refine hQ _ _ ?_;simp[hb,hx]
 | succ j ih=>
  intro i τ ω h1 hi h5 h7 w5 hb;refine zC c86_l0.eq_1 ?_;by_cases hlt:i < gs.length
  ·have hwr:=zF hlt hlen;obtain ⟨p,rfl⟩:∃p,i=p+1:=⟨i - 1,by omega⟩;have hp:p < gs.length:=by omega
   have hml:=hlen;unfold maxLen at hml;have hws:IntKind.i64.wrap (((p+1:Nat):Int) - 1)=(p:Int):=by simp[IntKind.wrap,IntKind.bits,IntKind.signed];omega
   rw[yII,yGX hp,yGX hlt,incr] at hb;simp[h5,h7,w5,hlt,hp,hws,zA gs[p],zA gs[p+1],-yIJ];refine zZ (zKQ gs[p] (hfit _ (yGV hp)) gs[p+1] _) (by simp[zA gs[p],zA gs[p+1]]) ?_;by_cases hc:cmpV gs[p] gs[p+1] < 0
   ·rw[decide_eq_true hc,yGT] at hb;have hc':¬0<=cmpV gs[p] gs[p+1]:=by omega
    simp[hc',h7,hwr,-yIJ];refine ih (p+1+1) _ _ (by omega) (by omega) ?_ ?_ w5 ?_
    case refine_3=>rw[hb,yII,yGX hlt]
    all_goals simp[h5]
   ·rw[decide_eq_false hc,yGY] at hb;have hc':0<=cmpV gs[p] gs[p+1]:=by omega
    simp[hc'];refine hQ _ _ ?_;simp[hb]
  ·have hx:incr (gs.drop (i - 1))=true:=by
    have:(gs.drop (i - 1)).length<=1:=by rw[yHQ];omega
    match gs.drop (i - 1),this with
    | [],_=>rfl
    | [_],_=>rfl
   simp[h5,h7,w5,hlt,bA];refine hQ _ _ ?_;simp[hb,hx]
theorem zAM (D:Nat) (f:Fu) (n:Nat) (left:Int) (v:Va) (hv:fitV v) (d' o g:Nat) (hd:d' < D):Go.Ab.Loc Pg Gl D 86 [.ptr d' o g 0,encF f,encV v] [(d',o,(g,.cells [.int .i64 n,.int .i64 left,.bool false]))] (.bool (setP f.k v)) []:=by
 have hDd:¬d'=D:=by omega
 refine y4 zR tok rfl rfl fun S hS=> ?_;have hS:=(hS _ (yHE.2 rfl)).2;simp only at hS;have hfv:=(sI v).1 hv;unfold c86;generalize hr:setP f.k v=b;unfold setP at hr;rw[zB f,zA v];have h100:(100 < (v.gs.length:Int))↔¬v.gs.length<=100:=by omega
 by_cases h5:f.k=5
 ·simp[h5] at hr;by_cases hl:v.gs.length<=100
  ·rw[decide_eq_true hl,yGT] at hr;simp[h5,hDd,hS,h100,hl];refine l133 D v.gs hfv.1.1 (yJ hfv.2) v.n (.sl 1 (v.ws.map (AV.int .i64)) .no) d' o hDd S _ b ?_ v.gs.length 1 _ _ (by omega) (by omega) ?_ ?_ ?_ ?_
   case refine_5=>rw[<-hr];rfl
   case refine_1=>intro τ ω h;simp[h]
   all_goals simp
  ·rw[decide_eq_false hl,yGY] at hr;simp[h5,hDd,hS,h100,hl,<-hr]
 rw[decide_eq_false h5,yHK] at hr;by_cases hw:v.ws.length=v.gs.length
 case neg=>
  have hw':¬(v.ws.length:Int)=v.gs.length:=by omega
  rw[decide_eq_false hw,yGY,yGY] at hr;simp[h5,hDd,hS,hw',hw,<-hr]
 rw[decide_eq_true hw,yGT] at hr;simp[h5,hDd,hS,hw];refine zE (zKS _ v.ws hfv.1.2) (by simp) ?_;cases hk:wOk 0 v.ws with
 | false=>
  rw[hk,yGY] at hr;simp[<-hr]
 | true=>
 have hpos:∀w∈v.ws,0<=w:=fun w hw=>by have:=(fL (by omega) hk).1 w hw;omega
 rw[hk,yGT] at hr;by_cases h7:f.k=7
 ·rw[decide_eq_true h7,yGT,yHO,yHK] at hr;by_cases h0:v.gs.length=0
  ·rw[decide_eq_true h0,yHO,yGY] at hr;have h0':v.gs= []:=yHJ.1 h0;simp[h7,h0',<-hr]
  ·rw[decide_eq_false h0,yIK,yGT] at hr;have h0':¬v.gs= []:=fun e=>h0 (by rw[e];rfl);by_cases hl:v.gs.length<=100
   ·rw[decide_eq_true hl,yGT] at hr;simp[h7,h0',hDd,hS,h100,hl];refine zE (zKR _ v.ws hfv.1.2 hpos) (by simp) ?_;by_cases hg:gcdW v.ws=1
    ·rw[decide_eq_true hg,yGT] at hr;simp[hg];refine l133 D v.gs hfv.1.1 (yJ hfv.2) v.n (.sl 1 (v.ws.map (AV.int .i64)) .no) d' o hDd S _ b ?_ v.gs.length 1 _ _ (by omega) (by omega) ?_ ?_ ?_ ?_
     case refine_5=>rw[<-hr];rfl
     case refine_1=>intro τ ω h;simp[h]
     all_goals simp
    ·rw[decide_eq_false hg,yGY] at hr;have hg':¬(gcdW v.ws:Int)=1:=by omega
     simp[hg',hg,<-hr]
   ·rw[decide_eq_false hl,yGY] at hr;simp[h7,h0',hDd,hS,h100,hl,<-hr]
 ·rw[decide_eq_false h7,yGY,yIK,yGT,yHW,yGT] at hr;by_cases hl:v.gs.length<=100
  ·rw[decide_eq_true hl,yGT] at hr;simp[h7,hDd,hS,h100,hl];refine l133 D v.gs hfv.1.1 (yJ hfv.2) v.n (.sl 1 (v.ws.map (AV.int .i64)) .no) d' o hDd S _ b ?_ v.gs.length 1 _ _ (by omega) (by omega) ?_ ?_ ?_ ?_
   case refine_5=>rw[<-hr];rfl
   case refine_1=>intro τ ω h;simp[h]
   all_goals simp
  ·rw[decide_eq_false hl,yGY] at hr;simp[h7,hDd,hS,h100,hl,<-hr]
end Go.Ab.Tab
/- Values: the program's checker.valid and value.Valid. -/
namespace Go.Ab.Tab
open Go Go.Ab
def locP (n:Nat) (f:Fu) (v:Va):Bool:=okV n f v&&(tX f.k v&& !(sets f.k&&decide (100 < v.gs.length)))
mutual
def valP (n:Nat):Va->Fu->Bool
 | .mk a gs ws,f=>locP n f (.mk a gs ws)&&vP n gs (zQ f (.mk a gs ws))
def vP (n:Nat):List Va->List Fu->Bool
 | [],_=>true
 | v::l,[]=>false
 | v::l,f::fs=>valP n v f&&vP n l fs
end
theorem fM (n:Nat) (a:Int) (gs:List Va) (ws:List Int) (f:Fu):valP n (.mk a gs ws) f=(locP n f (.mk a gs ws)&&vP n gs (zQ f (.mk a gs ws))):=by rw[valP]
theorem iD (n:Nat) (g:Fu):∀(l:List Va),vP n l (yGZ l.length g)=l.all (fun v=>valP n v g)
 | []=>by rw[vP];rfl
 | v::l=>by rw[yHN,yHU,vP,iD n g l];rfl
theorem dL {n:Nat}:∀{l:List Va} {fs:List Fu},(∀v∈l,∀f,valP n v f=(valN n v f&& !(tU v f)))->vP n l fs=(wN n l fs&& !(sT l fs))
 | [],_,_=>by rw[vP,wN,sT];rfl
 | v::l,[],_=>by rw[vP,wN];rfl
 | v::l,f::fs,h=>by
  rw[vP,wN,sT,h v (by simp) f,dL fun w hw=>h w (yHC _ hw)];cases valN n v f<;>cases tU v f<;>cases wN n l fs<;>rfl
theorem zAE {n:Nat}:∀(v:Va) (f:Fu),valP n v f=(valN n v f&& !(tU v f)):=by
 refine Va.ind' fun a gs ws hrec=> ?_;intro f;rw[valP,valN,tU,dL hrec,locP];have e:(Va.mk a gs ws).gs=gs:=rfl;rw[e];cases okV n f (.mk a gs ws)<;>cases tX f.k (.mk a gs ws)<;>cases (sets f.k&&decide (100 < gs.length))<;>cases wN n gs (zQ f (.mk a gs ws))<;>cases sT gs (zQ f (.mk a gs ws))<;>rfl
def okC (n:Nat) (f:Fu) (v:Va) (left:Nat):Bool:=decide (zM v<=left)&&valP n v f
def okCr (n:Nat) (g:Fu) (l:List Va) (left:Nat):Bool:=decide (zJ l<=left)&&l.all (fun v=>valP n v g)
theorem zBM (n:Nat) (g:Fu) (v:Va) (l:List Va) (left:Nat):okCr n g (v::l) left=(okC n g v left&&okCr n g l (left - zM v)):=by
 unfold okCr okC;rw[zJ,List.all_cons];by_cases h1:zM v+zJ l<=left
 ·rw[decide_eq_true h1,decide_eq_true (show zM v<=left by omega),decide_eq_true (show zJ l<=left - zM v by omega)];simp
 ·rw[decide_eq_false h1];by_cases h3:zM v<=left
  ·rw[decide_eq_false (show¬zJ l<=left - zM v by omega)];simp
  ·rw[decide_eq_false h3];simp
def eZ (n:Nat) (v:Va):Prop:=∀(f:Fu),zT f=true->∀(D left d' o g:Nat),d' < D->left < 2^40->∃left':Int,(okC n f v left=true->left'=((left - zM v:Nat):Int))/\
  Go.Ab.Loc Pg Gl D 67 [.ptr d' o g 0,encF f,encV v] [(d',o,(g,.cells [.int .i64 n,.int .i64 left,.bool false]))] (.bool (okC n f v left)) [(d',o,(g,.cells [.int .i64 n,.int .i64 left',.bool false]))]
theorem l128 (D:Nat) (n:Nat) (k m:Int) (gf:Fu) (hgf:zT gf=true) (gs:List Va) (hlen:gs.length<=maxLen) (d' o g:Nat) (hd:d' < D)
  (hrec:∀a∈gs,eZ n a)
  :∀(j i left:Nat) (b:Bool),i+j=gs.length->left < 2^40->b=okCr n gf (gs.drop i) left->
  ∃left':Int,(b=true->left'=((left - zJ (gs.drop i):Nat):Int))/\∀(S0:Nat->Nat->Ent) (τ:Nat->AV) (ω:Nat->Ent),τ 0= .ptr d' o g 0->τ 4= .ptr D 4 1 0->τ 153= .sl 3 (gs.map encV) .no->τ 154= .int .i64 gs.length->τ 155= .int .i64 i->
   ω 4=(1,.cells [.int .i64 k,.int .i64 m,.sl 3 [encF gf] .no])->
   Rd (Loc Pg Gl) .im (RetM [.tmp 6] (.bool b) D S0 [(d',o,(g,.cells [.int .i64 n,.int .i64 left',.bool false]))]) [.lp c67_l0,.blk 1,.c zDI] (stF 168 D τ ω (updS S0 d' o (g,.cells [.int .i64 n,.int .i64 left,.bool false]))):=by
 have hDd:¬d'=D:=by omega
 intro j
 induction j with
 | zero=>
  intro i left b hi hl hb;obtain rfl:i=gs.length:=by omega
  rw[yHD] at hb;refine ⟨left,fun _=>by simp[zJ],?_⟩;intro S0 τ ω h0 h4 h153 h154 h155 w4;refine zC c67_l0.eq_1 ?_;simp[h0,h4,h153,h154,h155,w4,zDI];rw[hb];simp[okCr,zJ]
 | succ j ih=>
  intro i left b hi hl hb;have hlt:i < gs.length:=by omega
  have hwr:=zF hlt hlen;have e:gs.drop i=gs[i]::gs.drop (i+1):=yGX hlt;rw[e,zBM] at hb;obtain ⟨l1,hl1,hloc⟩:=hrec gs[i] (yGV hlt) gf hgf (D+1) left d' o g (by omega) hl;have hM:∀(S0:Nat->Nat->Ent) (τ':Nat->AV) (ω':Nat->Ent),∀m∈[(d',o,((g,Ob.cells [.int .i64 n,.int .i64 left,.bool false]):Ent))],m.1<=D/\(m.1=D->m.2.1 < 168)/\(stF 168 D τ' ω' (updS S0 d' o (g,.cells [.int .i64 n,.int .i64 left,.bool false]))).look m.1 m.2.1=m.2.2:=by
   intro S0 τ' ω' m hm;rw[yHE] at hm;subst hm;refine ⟨by simp;omega,fun e=>absurd e hDd,?_⟩;rw[zS,if_neg hDd,sU]
  cases hok:okC n gf gs[i] left with
  | false=>
   rw[hok,yGY] at hb;subst hb;rw[hok] at hloc;refine ⟨l1,by simp,?_⟩;intro S0 τ ω h0 h4 h153 h154 h155 w4;refine zC c67_l0.eq_1 ?_;simp[h0,h4,h153,h154,h155,w4,hlt,zA gs[i],zB gf];refine zY hloc (by simp[zA gs[i],zB gf,h0]) (hM _ _ _) (by simp) ?_;simp[hDd]
  | true=>
   rw[hok,yGT] at hb;rw[hok] at hloc;obtain rfl:=hl1 hok;have hn:zM gs[i]<=left:=by simp[okC] at hok;exact hok.1
   obtain ⟨l2,hl2,hrd⟩:=ih (i+1) (left - zM gs[i]) b (by omega) (by omega) hb;refine ⟨l2,fun hbt=>by rw[e,zJ,hl2 hbt];congr 1;omega,?_⟩;intro S0 τ ω h0 h4 h153 h154 h155 w4;refine zC c67_l0.eq_1 ?_;simp[h0,h4,h153,h154,h155,w4,hlt,zA gs[i],zB gf];refine zY hloc (by simp[zA gs[i],zB gf,h0]) (hM _ _ _) (by simp) ?_;simp[hDd,h155,hwr];refine hrd _ _ _ ?_ ?_ ?_ ?_ ?_ ?_;all_goals simp[h0,h4,h153,h154,h155,w4]
end Go.Ab.Tab
/- Values: the program's checker.valid and value.Valid. -/
namespace Go.Ab.Tab
open Go Go.Ab
theorem zN {n:Nat} {f:Fu} {a:Int} {gs:List Va} {ws:List Int} {left:Nat} (h:locP n f (.mk a gs ws)=false):okC n f (.mk a gs ws) left=false:=by
 unfold okC;rw[fM,h];simp
theorem f7 {n:Nat} {f:Fu} {a:Int} {gs:List Va} {ws:List Int} {left:Nat} (h:locP n f (.mk a gs ws)=true):okC n f (.mk a gs ws) (left+1)=(decide (zJ gs<=left)&&vP n gs (zQ f (.mk a gs ws))):=by
 unfold okC;rw[fM,h,zM,yGT];congr 1;exact decide_eq_decide.2 (by omega)
theorem oY {k m:Int} {gs:List Fu} (h:zT (.mk k m gs)=true):k=0\/k=1\/k=2\/k=3\/k=4\/k=5\/k=6\/k=7:=by
 obtain ⟨hl,_⟩:=xH h;apply Classical.byContradiction;intro h;have:arK k= -1:=by unfold arK;repeat rw[if_neg (by omega)]
 omega
theorem wT (n:Nat) (k m:Int) (fg:List Fu) (a:Int) (gs:List Va) (ws:List Int):locP n (.mk k m fg) (.mk a gs ws)=
  ((xB (.mk k m fg) (.mk a gs ws)&&(r8 (.mk k m fg) n (.mk a gs ws)&&yI k (.mk a gs ws)))&&(tX k (.mk a gs ws)&& !(sets k&&decide (100 < gs.length)))):=rfl
theorem xR (n:Nat) (k m:Int) (fg:List Fu) (a:Int) (gs:List Va) (ws:List Int):r8 (.mk k m fg) n (.mk a gs ws)=(decide (0<=a)&&decide (a<=if k=0 then (n:Int) - 1 else if k=1 then m - 1 else if k=3 then 1 else 0)):=rfl
theorem y5 (k m:Int) (fg:List Fu) (a:Int) (gs:List Va) (ws:List Int):xB (.mk k m fg) (.mk a gs ws)=(!(decide (k=3)&&(decide (a < 0) || decide (1 < a)))&&decide ((zQ (.mk k m fg) (.mk a gs ws)).length=gs.length)):=rfl
theorem xY (k:Int) (a:Int) (gs:List Va) (ws:List Int):yI k (.mk a gs ws)=(if wtd k then wOk 0 ws&&(decide (ws.length=gs.length)&&(decide (k=6) || decide (0 < gs.length))) else decide (ws.length=0)):=rfl
theorem oA (k:Int) (a:Int) (gs:List Va) (ws:List Int):tX k (.mk a gs ws)=(!(sets k) || (incr gs&&(!(decide (k=7)) || decide (gcdW ws=1)))):=rfl
theorem zK (k m:Int) (fg:List Fu) (a:Int) (gs:List Va) (ws:List Int):zQ (.mk k m fg) (.mk a gs ws)=if k=0\/k=1 then [] else if k=2 then fg else if k=3 then (if a < 0\/1 < a then [] else (fg.drop a.toNat).take 1) else
 if k=4 then yGZ m.toNat (fg.headD (.mk 0 0 [])) else yGZ gs.length (fg.headD (.mk 0 0 [])):=rfl
def okP (n:Nat) (l:List Va) (fs:List Fu) (left:Nat):Bool:=decide (zJ l<=left)&&vP n l fs
theorem fZ (n:Nat) (fs:List Fu) (left:Nat):okP n [] fs left=true:=by unfold okP;rw[zJ,vP];simp
theorem pN (n:Nat) (v:Va) (l:List Va) (f:Fu) (fs:List Fu) (left:Nat):okP n (v::l) (f::fs) left=(okC n f v left&&okP n l fs (left - zM v)):=by
 unfold okP okC;rw[zJ,vP];by_cases h1:zM v+zJ l<=left
 ·rw[decide_eq_true h1,decide_eq_true (show zM v<=left by omega),decide_eq_true (show zJ l<=left - zM v by omega)];simp
 ·rw[decide_eq_false h1];by_cases h3:zM v<=left
  ·rw[decide_eq_false (show¬zJ l<=left - zM v by omega)];simp
  ·rw[decide_eq_false h3];simp
theorem jB (n:Nat) (l:List Va) (g:Fu) (left:Nat):okP n l (yGZ l.length g) left=okCr n g l left:=by
 unfold okP okCr;rw[iD]
theorem vU {n:Nat} {f:Fu} {a:Int} {gs:List Va} {ws:List Int} {left:Nat} (h:locP n f (.mk a gs ws)=true):okC n f (.mk a gs ws) (left+1)=okP n gs (zQ f (.mk a gs ws)) left:=f7 h
theorem zBN {n:Nat} {f:Fu} {v:Va} {left:Nat} (h:okC n f v left=true):zM v<=left:=by
 unfold okC at h;simp at h;exact h.1
theorem fT {k:Int} (hs:sets k=true) (v:Va) (h5:k=5->v.ws= []):setP k v=(yI k v&&(tX k v&& !(decide (100 < v.gs.length)))):=by
 unfold setP yI tX;have hd:(!(decide (100 < v.gs.length)))=decide (v.gs.length<=100):=by
  by_cases h:v.gs.length<=100
  ·rw[decide_eq_true h,decide_eq_false (by omega)];rfl
  ·rw[decide_eq_false h,decide_eq_true (by omega)];rfl
 rw[hs,hd];rcases zAS hs with rfl | rfl | rfl
 ·rw[h5 rfl];simp[wtd];exact Bool.and_comm _ _
 ·simp[wtd];rw[Bool.and_comm (wOk 0 v.ws)];cases decide (v.ws.length=v.gs.length)<;>cases wOk 0 v.ws<;>cases decide (v.gs.length<=100)<;>cases incr v.gs<;>rfl
 ·have h0:decide (v.gs.length=0)= !(decide (0 < v.gs.length)):=by
   by_cases h:v.gs.length=0
   ·rw[decide_eq_true h,decide_eq_false (by omega)];rfl
   ·rw[decide_eq_false h,decide_eq_true (by omega)];rfl
  have e1:wtd 7=true:=rfl;rw[e1,if_pos rfl,h0];have e2:decide ((7:Int)=5)=false:=rfl;have e3:decide ((7:Int)=7)=true:=rfl;have e4:decide ((7:Int)=6)=false:=rfl;rw[e2,e3,e4];cases decide (v.ws.length=v.gs.length)<;>cases wOk 0 v.ws<;>cases decide (v.gs.length<=100)<;>cases incr v.gs<;>cases decide (gcdW v.ws=1)<;>cases decide (0 < v.gs.length)<;>rfl
theorem zSN (n:Nat) (hn:n<=2000):∀(v:Va),fitV v->eZ n v:=by
 refine Va.ind' fun a gs ws hrec=> ?_;intro hfit f hf D left d' o g hd hl;have hfv:=(sI _).1 hfit;have hgl:gs.length<=maxLen:=hfv.1.1;have hrec:∀a∈gs,eZ n a:=fun b hb=>hrec b hb (yJ hfv.2 b hb);have hDd:¬d'=D:=by omega
 have hw:IntKind.i64.wrap ((left:Int) - 1)=(left:Int) - 1:=by
  simp[IntKind.wrap,IntKind.bits,IntKind.signed];omega
 cases f with
 | mk k m fg=>
 have hk:=oY hf;obtain ⟨hfl,hm1,hm2,hfg⟩:=xH hf;have hM:∀(l:Int) (S0:Nat->Nat->Ent) (τ':Nat->AV) (ω':Nat->Ent),∀q∈[(d',o,((g,Ob.cells [.int .i64 n,.int .i64 l,.bool false]):Ent))],q.1<=D/\(q.1=D->q.2.1 < 168)/\(stF 168 D τ' ω' (updS S0 d' o (g,.cells [.int .i64 n,.int .i64 l,.bool false]))).look q.1 q.2.1=q.2.2:=by
  intro l S0 τ' ω' q hq;rw[yHE] at hq;subst hq;refine ⟨by simp;omega,fun e=>absurd e hDd,?_⟩;rw[zS,if_neg hDd,sU]
 -- a way that ends
 have go:∀(left':Int) (b:Bool),okC n (.mk k m fg) (.mk a gs ws) left=b->(b=true->left'=((left - zM (.mk a gs ws):Nat):Int))->
   (∀S0,S0 d' o=(g,.cells [.int .i64 n,.int .i64 left,.bool false])->Rd (Loc Pg Gl) .im (RetM [.tmp 6] (.bool b) D S0 [(d',o,(g,.cells [.int .i64 n,.int .i64 left',.bool false]))]) [.c c67] (stF 168 D (uY 0 [.ptr d' o g 0,encF (.mk k m fg),encV (.mk a gs ws)]) (fun _=>(0,.dead)) S0))->
   ∃left':Int,(okC n (.mk k m fg) (.mk a gs ws) left=true->left'=((left - zM (.mk a gs ws):Nat):Int))/\Go.Ab.Loc Pg Gl D 67 [.ptr d' o g 0,encF (.mk k m fg),encV (.mk a gs ws)] [(d',o,(g,.cells [.int .i64 n,.int .i64 left,.bool false]))] (.bool (okC n (.mk k m fg) (.mk a gs ws) left)) [(d',o,(g,.cells [.int .i64 n,.int .i64 left',.bool false]))]:=by
  intro left' b hok hb h;refine ⟨left',by rw[hok];exact hb,?_⟩;rw[hok];refine y4 zR tok rfl rfl fun S hS=> ?_;exact h S (hS _ (yHE.2 rfl)).2
 have fin:∀(left':Int),okC n (.mk k m fg) (.mk a gs ws) left=false->
   (∀S0,S0 d' o=(g,.cells [.int .i64 n,.int .i64 left,.bool false])->Rd (Loc Pg Gl) .im (RetM [.tmp 6] (.bool false) D S0 [(d',o,(g,.cells [.int .i64 n,.int .i64 left',.bool false]))]) [.c c67] (stF 168 D (uY 0 [.ptr d' o g 0,encF (.mk k m fg),encV (.mk a gs ws)]) (fun _=>(0,.dead)) S0))->_:=
  fun left' h1 h2=>go left' false h1 (by simp) h2
 have hw1:IntKind.i64.wrap (-1)= -1:=by decide
 by_cases h1:left=0
 ·refine fin (-1) (by simp[okC];have:=mS (.mk a gs ws);omega) fun S0 hS=> ?_;subst h1;unfold c67;rw[zI,zG];simp[hDd,hS,hw1]
 obtain ⟨L,hL⟩:∃L,left=L+1:=⟨left - 1,by omega⟩;have hwL:IntKind.i64.wrap ((left:Int) - 1)=(L:Int):=by rw[hw];omega
 rcases hk with rfl | rfl | rfl | rfl | rfl | rfl | rfl | rfl
 ·-- 0
  have hloc:=wT n 0 m fg a gs ws;simp[xR,y5,xY,oA,zK,sets,wtd] at hloc;by_cases hws:ws= []
  case neg=>
   refine fin L (zN (by rw[hloc];simp[hws])) fun S0 hS=> ?_;unfold c67;rw[zI,zG];simp[hDd,hS,hwL,hws]
  by_cases hgs:gs= []
  case neg=>
   refine fin L (zN (by rw[hloc];simp[show¬0=gs.length from fun e=>hgs (yHJ.1 e.symm)])) fun S0 hS=> ?_;unfold c67;rw[zI,zG];simp[hDd,hS,hwL,hws,hgs]
  subst hws hgs;simp at hloc;by_cases ha:0<=a
  case neg=>
   refine fin L (zN (by rw[hloc];simp[ha])) fun S0 hS=> ?_;unfold c67;rw[zI,zG];simp[hDd,hS,hwL,ha]
  refine go L (decide (a < n)) ?_ ?_ fun S0 hS=> ?_
  ·by_cases hb:a < n
   ·rw[hL,f7 (by rw[hloc];simp[ha];omega),zK];simp[zJ,vP,hb]
   ·rw[zN (by rw[hloc];simp[ha];omega)];simp[hb]
  ·intro _;rw[zM,zJ,hL];simp
  ·unfold c67;rw[zI,zG];simp[hDd,hS,hwL,ha]
 ·-- 1
  have hloc:=wT n 1 m fg a gs ws;simp[xR,y5,xY,oA,zK,sets,wtd] at hloc;by_cases hws:ws= []
  case neg=>
   refine fin L (zN (by rw[hloc];simp[hws])) fun S0 hS=> ?_;unfold c67;rw[zI,zG];simp[hDd,hS,hwL,hws]
  by_cases hgs:gs= []
  case neg=>
   refine fin L (zN (by rw[hloc];simp[show¬0=gs.length from fun e=>hgs (yHJ.1 e.symm)])) fun S0 hS=> ?_;unfold c67;rw[zI,zG];simp[hDd,hS,hwL,hws,hgs]
  subst hws hgs;simp at hloc;by_cases ha:0<=a
  case neg=>
   refine fin L (zN (by rw[hloc];simp[ha])) fun S0 hS=> ?_;unfold c67;rw[zI,zG];simp[hDd,hS,hwL,ha]
  refine go L (decide (a < m)) ?_ ?_ fun S0 hS=> ?_
  ·by_cases hb:a < m
   ·rw[hL,f7 (by rw[hloc];simp[ha];omega),zK];simp[zJ,vP,hb]
   ·rw[zN (by rw[hloc];simp[ha];omega)];simp[hb]
  ·intro _;rw[zM,zJ,hL];simp
  ·unfold c67;rw[zI,zG];simp[hDd,hS,hwL,ha]
 ·-- 2
  have hloc:=wT n 2 m fg a gs ws;simp[xR,y5,xY,oA,zK,sets,wtd] at hloc;by_cases hws:ws= []
  case neg=>
   refine fin L (zN (by rw[hloc];simp[hws])) fun S0 hS=> ?_;unfold c67;rw[zI,zG];simp[hDd,hS,hwL,hws]
  by_cases ha:a=0
  case neg=>
   refine fin L (zN (by rw[hloc];simp[hws];omega)) fun S0 hS=> ?_;unfold c67;rw[zI,zG];simp[hDd,hS,hwL,hws,ha]
  subst ha;subst hws;obtain ⟨f0,f1,rfl⟩:∃f0 f1,fg= [f0,f1]:=by
   match fg,hfl with
   | [a,b],_=>exact ⟨a,b,rfl⟩
  simp at hloc;by_cases hg:gs.length=2
  case neg=>
   have hg':¬(gs.length:Int)=2:=by omega
   refine fin L (zN (by rw[hloc];simp;omega)) fun S0 hS=> ?_;unfold c67;rw[zI,zG];simp[hDd,hS,hwL,hg']
  obtain ⟨v0,v1,rfl⟩:∃v0 v1,gs= [v0,v1]:=by
   match gs,hg with
   | [a,b],_=>exact ⟨a,b,rfl⟩
  simp at hloc;have hP:zQ (.mk 2 m [f0,f1]) (.mk 0 [v0,v1] [])= [f0,f1]:=by rw[zK];rfl
  have hok:=vU (left:=L) hloc;rw[hP,pN,pN,fZ,yHX] at hok;rw[<-hL] at hok;obtain ⟨l1,hl1,hloc1⟩:=hrec v0 (by simp) f0 (hfg f0 (by simp)) (D+1) L d' o g (by omega) (by omega);cases hb0:okC n f0 v0 L with
  | false=>
   rw[hb0] at hloc1;refine go l1 false (by rw[hok,hb0];rfl) (by simp) fun S0 hS=> ?_;unfold c67;rw[zI,zG];simp[hDd,hS,hwL,zB f0,zA v0];refine zY hloc1 (by simp[zA v0,zB f0]) (hM _ _ _ _) (by simp) ?_;simp[hDd]
  | true=>
   rw[hb0] at hloc1;obtain rfl:=hl1 hb0;have hn0:=zBN hb0;obtain ⟨l2,hl2,hloc2⟩:=hrec v1 (by simp) f1 (hfg f1 (by simp)) (D+1) (L - zM v0) d' o g (by omega) (by omega);generalize hb1:okC n f1 v1 (L - zM v0)=b1 at*;refine go l2 b1 (by rw[hok,hb0];rfl) ?_ fun S0 hS=> ?_
   ·intro e;have e1:zM (.mk 0 [v0,v1] [])=1+(zM v0+(zM v1+0)):=by rw[zM,zJ,zJ,zJ]
    rw[hl2 e,e1];congr 1;omega
   unfold c67;rw[zI,zG];simp[hDd,hS,hwL,zB f0,zA v0];refine zY hloc1 (by simp[zA v0,zB f0]) (hM _ _ _ _) (by simp) ?_;simp[hDd,zB f1,zA v1];refine zY hloc2 (by simp[zA v1,zB f1]) (hM _ _ _ _) (by simp) ?_;simp[hDd]
 ·-- 3
  have hloc:=wT n 3 m fg a gs ws;simp[xR,y5,xY,oA,zK,sets,wtd] at hloc;by_cases hws:ws= []
  case neg=>
   refine fin L (zN (by rw[hloc];simp[hws])) fun S0 hS=> ?_;unfold c67;rw[zI,zG];simp[hDd,hS,hwL,hws]
  subst hws;obtain ⟨f0,f1,rfl⟩:∃f0 f1,fg= [f0,f1]:=by
   match fg,hfl with
   | [a,b],_=>exact ⟨a,b,rfl⟩
  by_cases hg:gs.length=1
  case neg=>
   have hg':¬(gs.length:Int)=1:=by omega
   refine fin L (zN (by
    rw[wT,y5,zK];by_cases hr:a < 0\/1 < a
    ·simp[hr];omega
    ·simp[hr];omega)) fun S0 hS=> ?_
   unfold c67;rw[zI,zG];simp[hDd,hS,hwL,hg']
  obtain ⟨v0,rfl⟩:∃v0,gs= [v0]:=by
   match gs,hg with
   | [a],_=>exact ⟨a,rfl⟩
  by_cases ha:a=0
  ·subst ha;have hP:zQ (.mk 3 m [f0,f1]) (.mk 0 [v0] [])= [f0]:=by rw[zK];rfl
   have hloc2:locP n (.mk 3 m [f0,f1]) (.mk 0 [v0] [])=true:=by rw[hloc];simp
   have hok:=vU (left:=L) hloc2;rw[hP,pN,fZ,yHX] at hok;rw[<-hL] at hok;obtain ⟨l1,hl1,hloc1⟩:=hrec v0 (by simp) f0 (hfg f0 (by simp)) (D+1) L d' o g (by omega) (by omega);generalize hb1:okC n f0 v0 L=b1 at*;refine go l1 b1 hok ?_ fun S0 hS=> ?_
   ·intro e;have e1:zM (.mk 0 [v0] [])=1+(zM v0+0):=by rw[zM,zJ,zJ]
    rw[hl1 e,e1];congr 1;omega
   unfold c67;rw[zI,zG];simp[hDd,hS,hwL,zB f0,zA v0];refine zY hloc1 (by simp[zA v0,zB f0]) (hM _ _ _ _) (by simp) ?_;simp[hDd]
  by_cases ha1:a=1
  ·subst ha1;have hP:zQ (.mk 3 m [f0,f1]) (.mk 1 [v0] [])= [f1]:=by rw[zK];rfl
   have hloc2:locP n (.mk 3 m [f0,f1]) (.mk 1 [v0] [])=true:=by rw[hloc];simp
   have hok:=vU (left:=L) hloc2;rw[hP,pN,fZ,yHX] at hok;rw[<-hL] at hok;obtain ⟨l1,hl1,hloc1⟩:=hrec v0 (by simp) f1 (hfg f1 (by simp)) (D+1) L d' o g (by omega) (by omega);generalize hb1:okC n f1 v0 L=b1 at*;refine go l1 b1 hok ?_ fun S0 hS=> ?_
   ·intro e;have e1:zM (.mk 1 [v0] [])=1+(zM v0+0):=by rw[zM,zJ,zJ]
    rw[hl1 e,e1];congr 1;omega
   unfold c67;rw[zI,zG];simp[hDd,hS,hwL,zB f1,zA v0];refine zY hloc1 (by simp[zA v0,zB f1]) (hM _ _ _ _) (by simp) ?_;simp[hDd]
  ·refine fin L (zN (by rw[hloc];simp;omega)) fun S0 hS=> ?_;unfold c67;rw[zI,zG];simp[hDd,hS,hwL,ha,ha1]
 ·-- 4
  have hloc:=wT n 4 m fg a gs ws;simp[xR,y5,xY,oA,zK,sets,wtd] at hloc;by_cases hws:ws= []
  case neg=>
   refine fin L (zN (by rw[hloc];simp[hws])) fun S0 hS=> ?_;unfold c67;rw[zI,zG];simp[hDd,hS,hwL,hws]
  by_cases ha:a=0
  case neg=>
   refine fin L (zN (by rw[hloc];simp[hws];omega)) fun S0 hS=> ?_;unfold c67;rw[zI,zG];simp[hDd,hS,hwL,hws,ha]
  subst ha;subst hws;obtain ⟨f0,rfl⟩:∃f0,fg= [f0]:=by
   match fg,hfl with
   | [a],_=>exact ⟨a,rfl⟩
  by_cases hg:(gs.length:Int)=m
  case neg=>
   refine fin L (zN (by
    have e4:y7 4=4:=rfl;rw[e4] at hm1;rw[hloc];simp;omega)) fun S0 hS=> ?_
   unfold c67;rw[zI,zG];simp[hDd,hS,hwL,hg]
  subst hg;simp at hloc;have hP:zQ (.mk 4 gs.length [f0]) (.mk 0 gs [])=yGZ gs.length f0:=by rw[zK];simp
  have hok:=vU (left:=L) hloc;rw[hP,jB,<-hL] at hok;obtain ⟨l1,hl1,hrd⟩:=l128 D n 4 gs.length f0 (hfg f0 (by simp)) gs hgl d' o g hd hrec gs.length 0 L (okCr n f0 gs L) (by omega) (by omega) (by simp);generalize hb1:okCr n f0 gs L=b1 at*;refine go l1 b1 hok ?_ fun S0 hS=> ?_
  ·intro e;rw[hl1 e,zM,yHH];congr 1;omega
  unfold c67;rw[zI,zG];simp[hDd,hS,hwL,gX];refine hrd S0 _ _ ?_ ?_ ?_ ?_ ?_ ?_;all_goals simp
 ·-- 5
  by_cases hws:ws= []
  case neg=>
   refine fin L (zN (by rw[wT,xY,if_neg (by simp[wtd]),decide_eq_false (fun e=>hws (yHJ.1 e))];simp)) fun S0 hS=> ?_;unfold c67;rw[zI,zG];simp[hDd,hS,hwL,hws]
  by_cases ha:a=0
  case neg=>
   refine fin L (zN (by rw[wT,xR];simp;omega)) fun S0 hS=> ?_;unfold c67;rw[zI,zG];simp[hDd,hS,hwL,ha,hws]
  subst ha;obtain ⟨f0,rfl⟩:∃f0,fg= [f0]:=by
   match fg,hfl with
   | [a],_=>exact ⟨a,rfl⟩
  have hP:zQ (.mk 5 m [f0]) (.mk 0 gs ws)=yGZ gs.length f0:=by rw[zK];rfl
  have hloc:locP n (.mk 5 m [f0]) (.mk 0 gs ws)=setP 5 (.mk 0 gs ws):=by
   rw[fT (show sets 5=true from rfl) (.mk 0 gs ws) (fun _=>hws)];have e1:xB (.mk 5 m [f0]) (.mk 0 gs ws)=true:=by rw[y5,hP];simp
   have e2:r8 (.mk 5 m [f0]) n (.mk 0 gs ws)=true:=by rw[xR];rfl
   rw[wT,e1,e2,yGT,yGT];rfl
  have h133:=zAM (D+1) (.mk 5 m [f0]) n L (.mk 0 gs ws) hfit d' o g (by omega);have hkk:(Fu.mk 5 m [f0]).k=5:=rfl;rw[hkk] at h133;cases hsp:setP 5 (.mk 0 gs ws) with
  | false=>
   rw[hsp] at h133;refine fin L (zN (by rw[hloc,hsp])) fun S0 hS=> ?_;unfold c67;rw[zI,zG];simp[hDd,hS,hwL,hws];refine yE h133 (by simp[zI,zG,hws]) (hM _ _ _ _) (by simp) ?_;simp[hDd]
  | true=>
   rw[hsp] at h133 hloc;have hok:=vU (left:=L) hloc;rw[hP,jB,<-hL] at hok;obtain ⟨l1,hl1,hrd⟩:=l128 D n 5 m f0 (hfg f0 (by simp)) gs hgl d' o g hd hrec gs.length 0 L (okCr n f0 gs L) (by omega) (by omega) (by simp);generalize hb1:okCr n f0 gs L=b1 at*;refine go l1 b1 hok ?_ fun S0 hS=> ?_
   ·intro e;rw[hl1 e,zM,yHH];congr 1;omega
   unfold c67;rw[zI,zG];simp[hDd,hS,hwL,hws];refine yE h133 (by simp[zI,zG,hws]) (hM _ _ _ _) (by simp) ?_;simp[hDd,gX];refine hrd S0 _ _ ?_ ?_ ?_ ?_ ?_ ?_;all_goals simp
 ·-- 6
  by_cases ha:a=0
  case neg=>
   refine fin L (zN (by rw[wT,xR];simp;omega)) fun S0 hS=> ?_;unfold c67;rw[zI,zG];simp[hDd,hS,hwL,ha]
  subst ha;obtain ⟨f0,rfl⟩:∃f0,fg= [f0]:=by
   match fg,hfl with
   | [a],_=>exact ⟨a,rfl⟩
  have hP:zQ (.mk 6 m [f0]) (.mk 0 gs ws)=yGZ gs.length f0:=by rw[zK];rfl
  have hloc:locP n (.mk 6 m [f0]) (.mk 0 gs ws)=setP 6 (.mk 0 gs ws):=by
   rw[fT (show sets 6=true from rfl) (.mk 0 gs ws) (fun h=>absurd h (by omega))];have e1:xB (.mk 6 m [f0]) (.mk 0 gs ws)=true:=by rw[y5,hP];simp
   have e2:r8 (.mk 6 m [f0]) n (.mk 0 gs ws)=true:=by rw[xR];rfl
   rw[wT,e1,e2,yGT,yGT];rfl
  have h133:=zAM (D+1) (.mk 6 m [f0]) n L (.mk 0 gs ws) hfit d' o g (by omega);have hkk:(Fu.mk 6 m [f0]).k=6:=rfl;rw[hkk] at h133;cases hsp:setP 6 (.mk 0 gs ws) with
  | false=>
   rw[hsp] at h133;refine fin L (zN (by rw[hloc,hsp])) fun S0 hS=> ?_;unfold c67;rw[zI,zG];simp[hDd,hS,hwL];refine yE h133 (by simp[zI,zG]) (hM _ _ _ _) (by simp) ?_;simp[hDd]
  | true=>
   rw[hsp] at h133 hloc;have hok:=vU (left:=L) hloc;rw[hP,jB,<-hL] at hok;obtain ⟨l1,hl1,hrd⟩:=l128 D n 6 m f0 (hfg f0 (by simp)) gs hgl d' o g hd hrec gs.length 0 L (okCr n f0 gs L) (by omega) (by omega) (by simp);generalize hb1:okCr n f0 gs L=b1 at*;refine go l1 b1 hok ?_ fun S0 hS=> ?_
   ·intro e;rw[hl1 e,zM,yHH];congr 1;omega
   unfold c67;rw[zI,zG];simp[hDd,hS,hwL];refine yE h133 (by simp[zI,zG]) (hM _ _ _ _) (by simp) ?_;simp[hDd,gX];refine hrd S0 _ _ ?_ ?_ ?_ ?_ ?_ ?_;all_goals simp
 ·-- 7
  by_cases ha:a=0
  case neg=>
   refine fin L (zN (by rw[wT,xR];simp;omega)) fun S0 hS=> ?_;unfold c67;rw[zI,zG];simp[hDd,hS,hwL,ha]
  subst ha;obtain ⟨f0,rfl⟩:∃f0,fg= [f0]:=by
   match fg,hfl with
   | [a],_=>exact ⟨a,rfl⟩
  have hP:zQ (.mk 7 m [f0]) (.mk 0 gs ws)=yGZ gs.length f0:=by rw[zK];rfl
  have hloc:locP n (.mk 7 m [f0]) (.mk 0 gs ws)=setP 7 (.mk 0 gs ws):=by
   rw[fT (show sets 7=true from rfl) (.mk 0 gs ws) (fun h=>absurd h (by omega))];have e1:xB (.mk 7 m [f0]) (.mk 0 gs ws)=true:=by rw[y5,hP];simp
   have e2:r8 (.mk 7 m [f0]) n (.mk 0 gs ws)=true:=by rw[xR];rfl
   rw[wT,e1,e2,yGT,yGT];rfl
  have h133:=zAM (D+1) (.mk 7 m [f0]) n L (.mk 0 gs ws) hfit d' o g (by omega);have hkk:(Fu.mk 7 m [f0]).k=7:=rfl;rw[hkk] at h133;cases hsp:setP 7 (.mk 0 gs ws) with
  | false=>
   rw[hsp] at h133;refine fin L (zN (by rw[hloc,hsp])) fun S0 hS=> ?_;unfold c67;rw[zI,zG];simp[hDd,hS,hwL];refine yE h133 (by simp[zI,zG]) (hM _ _ _ _) (by simp) ?_;simp[hDd]
  | true=>
   rw[hsp] at h133 hloc;have hok:=vU (left:=L) hloc;rw[hP,jB,<-hL] at hok;obtain ⟨l1,hl1,hrd⟩:=l128 D n 7 m f0 (hfg f0 (by simp)) gs hgl d' o g hd hrec gs.length 0 L (okCr n f0 gs L) (by omega) (by omega) (by simp);generalize hb1:okCr n f0 gs L=b1 at*;refine go l1 b1 hok ?_ fun S0 hS=> ?_
   ·intro e;rw[hl1 e,zM,yHH];congr 1;omega
   unfold c67;rw[zI,zG];simp[hDd,hS,hwL];refine yE h133 (by simp[zI,zG]) (hM _ _ _ _) (by simp) ?_;simp[hDd,gX];refine hrd S0 _ _ ?_ ?_ ?_ ?_ ?_ ?_;all_goals simp
theorem zIN (f:Fu) (hf:zT f=true) (n:Nat) (hn:n<=2000) (v:Va) (hv:fitV v) (D:Nat):Go.Ab.Loc Pg Gl D 34 [encF f,.int .i64 n,encV v] [] (.bool (valV f n v)) []:=by
 have he:valV f n v=okC n f v 2000:=by unfold valV okC;rw[zAE]
 rw[he];refine z0 zR tok rfl rfl fun S=> ?_;unfold c34;obtain ⟨l',_,hloc⟩:=zSN n hn v hv f hf (D+1) 2000 D 10 1 (by omega) (by omega);rw[zB f,zA v];simp;refine yE hloc (by simp[zB f,zA v]) ?_ (by simp) ?_
 ·intro m hm;rw[yHE] at hm;subst hm;simp
 simp
end Go.Ab.Tab
