/- Layer 12's program: what its texts lean on. -/
import Derived.Test.YtkjbakmlonpdjaaGreatDoorFormsB5
import Derived.Test.YtkjbakmlonpdjaaGreatDoorFormsB
set_option linter.unusedVariables false
set_option linter.unusedSimpArgs false
set_option maxRecDepth 10000
namespace Go.Ab.Tab
open Go Go.Ab
theorem zH:PGood Pg:=⟨by kernel_rfl,Nat.le_of_ble_eq_true (by kernel_rfl)⟩
theorem wrap_u64_nat {n:Nat} (h:n < 2^64):IntKind.u64.wrap (n:Int)=n:=by
 simp[IntKind.wrap,IntKind.bits,IntKind.signed]
 omega
theorem zG {n:Nat} (h:n < 2^63):IntKind.i64.wrap (n:Int)=n:=by
 simp[IntKind.wrap,IntKind.bits,IntKind.signed]
 omega
theorem yC {i n:Nat} (h:i < n) (hn:n<=maxLen):IntKind.i64.wrap ((i:Int)+1)=((i+1:Nat):Int):=by
 unfold maxLen at hn
 rw[<-zG (n:=i+1) (by omega)];rfl
def encN (n:Nat):AV:= .int .i64 (n:Int)
end Go.Ab.Tab
/- Functors: the data,and the reference's functions of layer 1. -/
namespace Go.Ab.Tab
open Go Go.Ab
inductive Fu where
 | mk (k n:Int) (gs:List Fu)
def Fu.k:Fu->Int | .mk k _ _=>k
def Fu.n:Fu->Int | .mk _ n _=>n
def Fu.gs:Fu->List Fu | .mk _ _ a=>a
theorem Fu.eta (f:Fu):f= .mk f.k f.n f.gs:=by cases f;rfl
mutual
theorem Fu.ind' {P:Fu->Prop} (h:∀k n gs,(∀a∈gs,P a)->P (.mk k n gs)):∀f,P f
 | .mk k n gs=>h k n gs (Fu.inds h gs)
theorem Fu.inds {P:Fu->Prop} (h:∀k n gs,(∀a∈gs,P a)->P (.mk k n gs)):∀(l:List Fu),∀a∈l,P a
 | [],_,ha=>by cases ha
 | b::l,a,ha=>by
  rcases List.mem_cons.1 ha with e | ha
  ·rw[e];exact Fu.ind' h b
  ·exact Fu.inds h l a ha
end
mutual
def encF:Fu->AV
 | .mk k n gs=> .agg [.int .i64 k,.int .i64 n,.sl 3 (encFs gs) .no]
def encFs:List Fu->List AV
 | []=>[]
 | f::l=>encF f::encFs l
end
theorem encFs_eq:∀l,encFs l=l.map encF
 | []=>rfl
 | f::l=>by rw[encFs,encFs_eq l];rfl
theorem zO (k n gs):encF (.mk k n gs)= .agg [.int .i64 k,.int .i64 n,.sl 3 (gs.map encF) .no]:=by rw[encF,encFs_eq]
mutual
def yF:Fu->Nat
 | .mk _ _ gs=>1+yJ gs
def yJ:List Fu->Nat
 | []=>0
 | f::l=>yF f+yJ l
end
mutual
def depthF:Fu->Nat
 | .mk _ _ gs=>1+depthFs gs
def depthFs:List Fu->Nat
 | []=>0
 | f::l=>max (depthF f) (depthFs l)
end
theorem nodesF_mk (k n gs):yF (.mk k n gs)=1+yJ gs:=by rw[yF]
theorem nodesF_pos (f:Fu):1<=yF f:=by cases f;rw[yF];omega
theorem depthF_le:(∀f,depthF f<=yF f):=by
 refine Fu.ind' fun k n gs h=> ?_
 rw[depthF,yF]
 have:depthFs gs<=yJ gs:=by
  induction gs with
  | nil=>simp[depthFs,yJ]
  | cons a l ih=>
   rw[depthFs,yJ]
   have h1:=h a (by simp)
   have h2:=ih fun b hb=>h b (by simp[hb])
   omega
 omega
mutual
def fitF:Fu->Prop
 | .mk _ _ gs=>gs.length<=maxLen/\fitFs gs
def fitFs:List Fu->Prop
 | []=>True
 | f::l=>fitF f/\fitFs l
end
theorem fitFs_mem:∀{l:List Fu},fitFs l->∀a∈l,fitF a
 | [],_,a,ha=>by cases ha
 | b::l,h,a,ha=>by
  rw[fitFs] at h
  rcases List.mem_cons.1 ha with e | ha
  ·rw[e];exact h.1
  ·exact fitFs_mem h.2 a ha
theorem l103 (D:Nat) (k n:Int) (gs:List Fu) (hlen:gs.length<=maxLen) (hrec:∀a∈gs,∀(D m:Nat),1<=m->m < 2^62->Go.Ab.Loc Pg Gl D 73 [encF a,.int .i64 m] [] (.int .i64 ((m - yF a:Nat):Int)) []) (S):∀(j i m:Nat) (τ ω) (r:AV),i+j=gs.length->m < 2^62->
  τ 1= .int .i64 m->τ 2= .ptr D 2 1 0->τ 5= .int .i64 i->ω 2=(1,.cells [.int .i64 k,.int .i64 n,.sl 3 (gs.map encF) .no])->r= .int .i64 ((m - yJ (gs.drop i):Nat):Int)->
  Rd (Loc Pg Gl) .im (RetQ [.tmp 4] r S) [.lp c73_l0,.blk 0,.c c73_k0] (stF 28 D τ ω S):=by
 intro j
 induction j with
 | zero=>
  intro i m τ ω r hi hm h1 h2 h5 w2 hr
  refine zL c73_l0.eq_1 ?_
  obtain rfl:i=gs.length:=by omega
  rw[List.drop_length,yJ] at hr
  have hmx:¬(m:Int) < 0:=by omega
  simp[h1,h2,h5,w2,c73_k0,opf]
  simp[hr]
 | succ j ih=>
  intro i m τ ω r hi hm h1 h2 h5 w2 hr
  refine zL c73_l0.eq_1 ?_
  have hlt:i < gs.length:=by omega
  have hwr:=yC hlt hlen
  have hd:gs.drop i=gs[i]::gs.drop (i+1):=List.drop_eq_getElem_cons hlt
  rw[hd,yJ] at hr
  by_cases h0:0 < m
  ·simp[h1,h2,h5,w2,hlt,h0]
   have hx:=zO gs[i].k gs[i].n gs[i].gs
   rw[<-Fu.eta] at hx
   rw[hx]
   simp[h1,h2,h5,w2,hlt,h0]
   refine zE (hrec gs[i] (List.getElem_mem hlt) _ m h0 hm) (by simp[hx,h1]) ?_
   simp[h1,h2,h5,w2,hwr]
   refine ih (i+1) (m - yF gs[i]) _ ω r (by omega) (by omega) ?_ ?_ ?_ w2 (by rw[hr];congr 2;omega)
   all_goals simp[h1,h2,h5]
  ·have e0:m=0:=by omega
   subst e0
   simp[h1,h2,h5,w2,hlt,c73_k0,opf]
   simp[hr]
theorem spec73:∀(f:Fu),fitF f->∀(D m:Nat),1<=m->m < 2^62->Go.Ab.Loc Pg Gl D 73 [encF f,.int .i64 m] [] (.int .i64 ((m - yF f:Nat):Int)) []:=by
 refine Fu.ind' fun k n gs hrec=> ?_
 intro hfit D m hm hm2
 rw[fitF] at hfit
 refine zW zH tok rfl rfl fun S=> ?_
 unfold c73
 generalize hr:AV.int .i64 ((m - yF (.mk k n gs):Nat):Int)=r
 have hw:IntKind.i64.wrap ((m:Int) - 1)=((m - 1:Nat):Int):=by rw[<-zG (n:=m - 1) (by omega)];congr 1;omega
 rw[zO]
 simp[hw]
 refine l103 D k n gs hfit.1 (fun a ha D m=>hrec a ha (fitFs_mem hfit.2 a ha) D m) S gs.length 0 (m - 1) _ _ r (by simp) (by omega) ?_ ?_ ?_ ?_ (by rw[<-hr,yF];congr 2;simp;omega)
 all_goals simp
theorem spec25 (f:Fu) (hf:fitF f) (D m:Nat) (hm:m < 2^61):Go.Ab.Loc Pg Gl D 25 [encF f,.int .i64 m] [] (.bool (decide (yF f<=m))) []:=by
 refine zW zH tok rfl rfl fun S=> ?_
 unfold c25
 generalize hr:AV.bool (decide (yF f<=m))=r
 have hw:IntKind.i64.wrap ((m:Int)+1)=((m+1:Nat):Int):=by rw[<-zG (n:=m+1) (by omega)];rfl
 have hx:=zO f.k f.n f.gs
 rw[<-Fu.eta] at hx
 rw[hx]
 simp[hw]
 refine zE (spec73 f hf _ (m+1) (by omega) (by omega)) (by simp[hx]) ?_
 simp
 rw[<-hr]
 congr 1
 exact decide_eq_decide.2 (by omega)
end Go.Ab.Tab
/- Functors: Size,Most,Arity,shaped,Is,Same,Of of the reference. -/
namespace Go.Ab.Tab
open Go Go.Ab
theorem zB (f:Fu):encF f= .agg [.int .i64 f.k,.int .i64 f.n,.sl 3 (f.gs.map encF) .no]:=by
 have hx:=zO f.k f.n f.gs
 rwa [<-Fu.eta] at hx
theorem nodesFs_le:∀{l:List Fu} {a:Fu},a∈l->yF a<=yJ l
 | [],a,h=>by cases h
 | b::l,a,h=>by
  rw[yJ]
  rcases List.mem_cons.1 h with e | h
  ·rw[e];omega
  ·have:=nodesFs_le h;omega
theorem nodesFs_len:∀(l:List Fu),l.length<=yJ l
 | []=>by simp
 | b::l=>by rw[yJ,List.length_cons];have:=nodesFs_len l;have:=nodesF_pos b;omega
theorem l107 (D:Nat) (gs:List Fu) (hlen:gs.length < 2^62) (hrec:∀a∈gs,∀(D:Nat),Go.Ab.Loc Pg Gl D 78 [encF a] [] (.tup [.int .i64 (yF a),.int .i64 (depthF a)]) []) (S):∀(j i m d:Nat) (τ ω) (r:AV),i+j=gs.length->m+yJ (gs.drop i) < 2^62->d<=m->
  τ 2= .int .i64 m->τ 3= .int .i64 d->τ 9= .sl 3 (gs.map encF) .no->τ 10= .int .i64 gs.length->τ 11= .int .i64 i->r= .tup [.int .i64 ((m+yJ (gs.drop i):Nat):Int),.int .i64 ((max d (depthFs (gs.drop i))+1:Nat):Int)]->
  Rd (Loc Pg Gl) .im (RetQ [.tmp 2,.tmp 3] r S) [.lp c78_l0,.blk 0,.c c78_k0] (stF 30 D τ ω S):=by
 intro j
 induction j with
 | zero=>
  intro i m d τ ω r hi hm hd h2 h3 h9 h10 h11 hr
  refine zL c78_l0.eq_1 ?_
  obtain rfl:i=gs.length:=by omega
  rw[List.drop_length] at hr hm
  have hw:IntKind.i64.wrap ((d:Int)+1)=((d+1:Nat):Int):=by rw[<-zG (n:=d+1) (by omega)];rfl
  simp[h2,h3,h9,h10,h11,c78_k0,hw]
  simp[hr,yJ,depthFs]
 | succ j ih=>
  intro i m d τ ω r hi hm hd h2 h3 h9 h10 h11 hr
  refine zL c78_l0.eq_1 ?_
  have hlt:i < gs.length:=by omega
  have e:gs.drop i=gs[i]::gs.drop (i+1):=List.drop_eq_getElem_cons hlt
  rw[e,yJ] at hr hm
  rw[depthFs] at hr
  have hln:=nodesFs_len (gs.drop (i+1))
  rw[List.length_drop] at hln
  have hp:=nodesF_pos gs[i]
  have hdp:=depthF_le gs[i]
  have hwr:IntKind.i64.wrap ((m:Int)+(yF gs[i]:Int))=((m+yF gs[i]:Nat):Int):=by rw[<-zG (n:=m+yF gs[i]) (by omega)];rfl
  have hwi:IntKind.i64.wrap ((i:Int)+1)=((i+1:Nat):Int):=by rw[<-zG (n:=i+1) (by omega)];rfl
  simp[h2,h3,h9,h10,h11,hlt,zB gs[i]]
  refine zE (hrec gs[i] (List.getElem_mem hlt) _) (by simp[zB gs[i]]) ?_
  simp[h2,h3,h9,h10,h11,hwr,hwi]
  refine ih (i+1) (m+yF gs[i]) (max d (depthF gs[i])) _ _ r (by omega) (by omega) (by omega) ?_ ?_ ?_ ?_ ?_ ?_
  case refine_2=>simp;split<;>omega
  case refine_6=>rw[hr];congr 4<;>omega
  all_goals simp[h2,h3,h9,h10,h11]
theorem spec78:∀(f:Fu),fitF f->yF f < 2^62->∀(D:Nat),Go.Ab.Loc Pg Gl D 78 [encF f] [] (.tup [.int .i64 (yF f),.int .i64 (depthF f)]) []:=by
 refine Fu.ind' fun k n gs hrec=> ?_
 intro hfit hnod D
 rw[fitF] at hfit
 rw[yF] at hnod
 refine zW zH tok rfl rfl fun S=> ?_
 unfold c78
 generalize hr:AV.tup [.int .i64 (yF (.mk k n gs)),.int .i64 (depthF (.mk k n gs))]=r
 rw[zO]
 simp
 refine l107 D gs (by have:=nodesFs_len gs;omega) (fun a ha D=>hrec a ha (fitFs_mem hfit.2 a ha) (by have:=nodesFs_le ha;omega) D) S gs.length 0 1 0 _ _ r (by simp) (by simpa using hnod) (by omega) ?_ ?_ ?_ ?_ ?_ (by rw[<-hr,yF,depthF];simp;omega)
 all_goals simp
def mostK (k:Int):Int:=if k=1 then 16 else if k=4 then 4 else 0
def arK (k:Int):Int:=if k=0\/k=1 then 0 else if k=4\/k=5\/k=6\/k=7 then 1 else if k=2\/k=3 then 2 else -1
theorem spec121 (D:Nat) (k:Int):Go.Ab.Loc Pg Gl D 121 [.int .i64 k] [] (.int .i64 (mostK k)) []:=by
 refine zW zH tok rfl rfl fun S=> ?_
 unfold c121
 unfold mostK
 by_cases h1:k=1
 ·simp[h1]
 by_cases h4:k=4
 ·simp[h4]
 simp[h1,h4]
theorem spec122 (D:Nat) (k:Int):Go.Ab.Loc Pg Gl D 122 [.int .i64 k] [] (.int .i64 (arK k)) []:=by
 refine zW zH tok rfl rfl fun S=> ?_
 unfold c122 c122_j2 c122_j1 c122_j0
 unfold arK
 by_cases h0:k=0
 ·simp[h0]
 by_cases h1:k=1
 ·simp[h1]
 by_cases h4:k=4
 ·simp[h4]
 by_cases h5:k=5
 ·simp[h5]
 by_cases h6:k=6
 ·simp[h6]
 by_cases h7:k=7
 ·simp[h7]
 by_cases h2:k=2
 ·simp[h2]
 by_cases h3:k=3
 ·simp[h3]
 simp[h0,h1,h2,h3,h4,h5,h6,h7]
mutual
def zJ:Fu->Bool
 | .mk k n gs=>decide ((gs.length:Int)=arK k)&&(decide (min 1 (mostK k)<=n)&&(decide (n<=mostK k)&&y7 gs))
def y7:List Fu->Bool
 | []=>true
 | f::l=>zJ f&&y7 l
end
theorem l108 (D:Nat) (gs:List Fu) (hlen:gs.length<=maxLen) (hrec:∀a∈gs,∀(D:Nat),Go.Ab.Loc Pg Gl D 79 [encF a] [] (.bool (zJ a)) []) (S):∀(j i:Nat) (τ ω) (r:AV),i+j=gs.length->
  τ 32= .sl 3 (gs.map encF) .no->τ 33= .int .i64 gs.length->τ 34= .int .i64 i->r= .bool (y7 (gs.drop i))->
  Rd (Loc Pg Gl) .im (RetQ [.tmp 2] r S) [.lp c79_l0,.blk 0,.c c79_k0] (stF 42 D τ ω S):=by
 intro j
 induction j with
 | zero=>
  intro i τ ω r hi h32 h33 h34 hr
  refine zL c79_l0.eq_1 ?_
  obtain rfl:i=gs.length:=by omega
  rw[List.drop_length,y7] at hr
  simp[h32,h33,h34,c79_k0,hr]
 | succ j ih=>
  intro i τ ω r hi h32 h33 h34 hr
  refine zL c79_l0.eq_1 ?_
  have hlt:i < gs.length:=by omega
  have hwr:=yC hlt hlen
  have e:gs.drop i=gs[i]::gs.drop (i+1):=List.drop_eq_getElem_cons hlt
  rw[e,y7] at hr
  simp[h32,h33,h34,hlt,zB gs[i]]
  refine zE (hrec gs[i] (List.getElem_mem hlt) _) (by simp[zB gs[i]]) ?_
  cases hb:zJ gs[i] with
  | false=>
   rw[hb,Bool.false_and] at hr
   simp[hr]
  | true=>
   rw[hb,Bool.true_and] at hr
   simp[h32,h33,h34,hwr]
   refine ih (i+1) _ _ r (by omega) ?_ ?_ ?_ hr
   all_goals simp[h32,h33,h34]
theorem spec79:∀(f:Fu),fitF f->∀(D:Nat),Go.Ab.Loc Pg Gl D 79 [encF f] [] (.bool (zJ f)) []:=by
 refine Fu.ind' fun k n gs hrec=> ?_
 intro hfit D
 rw[fitF] at hfit
 refine zW zH tok rfl rfl fun S=> ?_
 unfold c79
 generalize hr:AV.bool (zJ (.mk k n gs))=r
 rw[zJ] at hr
 rw[zO]
 simp
 refine zE (spec121 _ k) (by simp) ?_
 simp
 refine zZ (spec122 _ k) (by simp) ?_
 have hmin:(if mostK k < 1 then mostK k else 1)=min 1 (mostK k):=by split<;>omega
 by_cases h1:(gs.length:Int)=arK k
 ·rw[decide_eq_true h1,Bool.true_and] at hr
  by_cases h2:n < min 1 (mostK k)
  ·simp[h1,hmin,h2]
   simp[<-hr,show¬min 1 (mostK k)<=n by omega]
  rw[decide_eq_true (show min 1 (mostK k)<=n by omega),Bool.true_and] at hr
  simp[h1,hmin,h2]
  refine zZ (spec121 _ k) (by simp) ?_
  by_cases h3:mostK k < n
  ·simp[h3]
   simp[<-hr,show¬n<=mostK k by omega]
  rw[decide_eq_true (show n<=mostK k by omega),Bool.true_and] at hr
  simp[h3]
  refine l108 D gs hfit.1 (fun a ha D=>hrec a ha (fitFs_mem hfit.2 a ha) D) S gs.length 0 _ _ r (by simp) ?_ ?_ ?_ (by rw[<-hr];simp)
  all_goals simp[h1]
 ·rw[decide_eq_false h1,Bool.false_and] at hr
  simp[h1,<-hr]
end Go.Ab.Tab
/- Functors: Is,Same,Of of the reference; the program's functor.Valid and det.automaton. -/
namespace Go.Ab.Tab
open Go Go.Ab
def isF (f:Fu):Bool:=decide (yF f<=20)&&(decide (depthF f<=8)&&zJ f)
theorem spec27 (f:Fu) (hf:fitF f) (D:Nat):Go.Ab.Loc Pg Gl D 27 [encF f] [] (.bool (isF f)) []:=by
 refine zW zH tok rfl rfl fun S=> ?_
 unfold c27
 generalize hr:AV.bool (isF f)=r
 unfold isF at hr
 rw[zB f]
 simp
 refine zE (spec25 f hf _ 20 (by omega)) (by simp[zB f]) ?_
 by_cases h1:yF f<=20
 ·rw[decide_eq_true h1,Bool.true_and] at hr
  simp[h1]
  refine zE (spec78 f hf (by omega) _) (by simp[zB f]) ?_
  by_cases h2:depthF f<=8
  ·have h2':(depthF f:Int)<=8:=by omega
   rw[decide_eq_true h2,Bool.true_and] at hr
   simp[h2']
   refine zE (spec79 f hf _) (by simp[zB f]) ?_
   simp[<-hr]
  ·have h2':¬(depthF f:Int)<=8:=by omega
   rw[decide_eq_false h2,Bool.false_and] at hr
   simp[h2',<-hr]
 ·rw[decide_eq_false h1,Bool.false_and] at hr
  simp[h1,<-hr]
theorem spec101 (D:Nat) (k n:Int) (gs:List Fu):Go.Ab.Loc Pg Gl D 101 [.int .i64 k,.int .i64 n,.sl 3 (gs.map encF) .no] [] (encF (.mk k n gs)) []:=by
 refine zW zH tok rfl rfl fun S=> ?_
 unfold c101
 rw[zO]
 simp
end Go.Ab.Tab
/- The program's functor.Valid and det.automaton. -/
namespace Go.Ab.Tab
open Go Go.Ab
def okF (f:Fu) (left deep:Nat):Bool:=decide (yF f<=left)&&(decide (deep+depthF f<=9)&&zJ f)
def okFs (l:List Fu) (left deep:Nat):Bool:=decide (yJ l<=left)&&(decide (deep+depthFs l<=8)&&y7 l)
theorem okFs_cons (a:Fu) (l:List Fu) (left deep:Nat) (hd:deep<=8):okFs (a::l) left deep=(okF a left (deep+1)&&okFs l (left - yF a) deep):=by
 unfold okFs okF
 rw[yJ,depthFs,y7]
 by_cases h1:yF a+yJ l<=left
 ·rw[decide_eq_true h1,decide_eq_true (show yF a<=left by omega),decide_eq_true (show yJ l<=left - yF a by omega)]
  by_cases h2:deep+max (depthF a) (depthFs l)<=8
  ·rw[decide_eq_true h2,decide_eq_true (show deep+1+depthF a<=9 by omega),decide_eq_true (show deep+depthFs l<=8 by omega)]
   simp
  ·rw[decide_eq_false h2]
   by_cases h3:deep+1+depthF a<=9
   ·rw[decide_eq_false (show¬deep+depthFs l<=8 by omega)];simp
   ·rw[decide_eq_false h3];simp
 ·rw[decide_eq_false h1]
  by_cases h3:yF a<=left
  ·rw[decide_eq_false (show¬yJ l<=left - yF a by omega)];simp
  ·rw[decide_eq_false h3];simp
theorem l127 (D:Nat) (gs:List Fu) (hlen:gs.length<=maxLen) (d' o g:Nat) (hd:d' < D) (deep:Nat) (hdp:deep<=8)
  (hrec:∀a∈gs,∀(D left deep d' o g:Nat),d' < D->left < 2^40->deep<=9->∃left':Int,(okF a left deep=true->left'=((left - yF a:Nat):Int))/\Go.Ab.Loc Pg Gl D 141 [encF a,.ptr d' o g 0,.int .i64 deep] [(d',o,(g,.cells [.int .i64 left]))] (.bool (okF a left deep)) [(d',o,(g,.cells [.int .i64 left']))])
  :∀(j i left:Nat) (b:Bool),i+j=gs.length->left < 2^40->b=okFs (gs.drop i) left deep->
  ∃left':Int,(b=true->left'=((left - yJ (gs.drop i):Nat):Int))/\∀(S0:Nat->Nat->Ent) (τ:Nat->AV) (ω:Nat->Ent),τ 1= .ptr d' o g 0->τ 2= .int .i64 deep->τ 61= .sl 3 (gs.map encF) .no->τ 62= .int .i64 gs.length->τ 63= .int .i64 i->
   Rd (Loc Pg Gl) .im (RetM [.tmp 6] (.bool b) D S0 [(d',o,(g,.cells [.int .i64 left']))]) [.lp c141_l0,.blk 0,.c c141_k0] (stF 74 D τ ω (updS S0 d' o (g,.cells [.int .i64 left]))):=by
 have hDd:¬d'=D:=by omega
 intro j
 induction j with
 | zero=>
  intro i left b hi hl hb
  obtain rfl:i=gs.length:=by omega
  rw[List.drop_length] at hb
  refine ⟨left,fun _=>by simp[yJ],?_⟩
  intro S0 τ ω h1 h2 h61 h62 h63
  refine zL c141_l0.eq_1 ?_
  simp[h1,h2,h61,h62,h63,c141_k0]
  rw[hb]
  simp[okFs,yJ,depthFs,y7,hdp]
 | succ j ih=>
  intro i left b hi hl hb
  have hlt:i < gs.length:=by omega
  have hwr:=yC hlt hlen
  have hwd:IntKind.i64.wrap ((deep:Int)+1)=((deep+1:Nat):Int):=by rw[<-zG (n:=deep+1) (by omega)];rfl
  have e:gs.drop i=gs[i]::gs.drop (i+1):=List.drop_eq_getElem_cons hlt
  rw[e,okFs_cons _ _ _ _ hdp] at hb
  obtain ⟨l1,hl1,hloc⟩:=hrec gs[i] (List.getElem_mem hlt) (D+1) left (deep+1) d' o g (by omega) hl (by omega)
  have hM:∀(S0:Nat->Nat->Ent) (τ':Nat->AV) (ω':Nat->Ent),∀m∈[(d',o,((g,Ob.cells [.int .i64 left]):Ent))],m.1<=D/\(m.1=D->m.2.1 < 74)/\(stF 74 D τ' ω' (updS S0 d' o (g,.cells [.int .i64 left]))).look m.1 m.2.1=m.2.2:=by
   intro S0 τ' ω' m hm
   rw[List.mem_singleton] at hm;subst hm
   refine ⟨by simp;omega,fun e=>absurd e hDd,?_⟩
   rw[yX,if_neg hDd,updS_same]
  cases hok:okF gs[i] left (deep+1) with
  | false=>
   rw[hok,Bool.false_and] at hb
   subst hb
   rw[hok] at hloc
   refine ⟨l1,by simp,?_⟩
   intro S0 τ ω h1 h2 h61 h62 h63
   refine zL c141_l0.eq_1 ?_
   simp[h1,h2,h61,h62,h63,hlt,hwd,zB gs[i]]
   refine zP hloc (by simp[zB gs[i],h1]) (hM _ _ _) (by simp) ?_
   simp[hDd]
  | true=>
   rw[hok,Bool.true_and] at hb
   rw[hok] at hloc
   obtain rfl:=hl1 hok
   have hn:yF gs[i]<=left:=by simp[okF] at hok;exact hok.1
   obtain ⟨l2,hl2,hrd⟩:=ih (i+1) (left - yF gs[i]) b (by omega) (by omega) hb
   refine ⟨l2,fun hbt=>by rw[e,yJ,hl2 hbt];congr 1;omega,?_⟩
   intro S0 τ ω h1 h2 h61 h62 h63
   refine zL c141_l0.eq_1 ?_
   simp[h1,h2,h61,h62,h63,hlt,hwd,zB gs[i]]
   refine zP hloc (by simp[zB gs[i],h1]) (hM _ _ _) (by simp) ?_
   simp[hDd,h63,hwr]
   refine hrd _ _ _ ?_ ?_ ?_ ?_ ?_
   all_goals simp[h1,h2,h61,h62,h63]
theorem forms_ar (K:Nat) (h:K<=7):([.int .i64 0,.int .i64 0,.int .i64 16,.int .i64 0,.int .i64 0,.int .i64 2,.int .i64 0,.int .i64 2,.int .i64 4,.int .i64 1,.int .i64 0,.int .i64 1,.int .i64 0,.int .i64 1,.int .i64 0,.int .i64 1]:List AV)[K*2+1]?=some (.int .i64 (arK K)):=by
 have:K=0\/K=1\/K=2\/K=3\/K=4\/K=5\/K=6\/K=7:=by omega
 rcases this with rfl | rfl | rfl | rfl | rfl | rfl | rfl | rfl<;>rfl
theorem forms_most (K:Nat) (h:K<=7):([.int .i64 0,.int .i64 0,.int .i64 16,.int .i64 0,.int .i64 0,.int .i64 2,.int .i64 0,.int .i64 2,.int .i64 4,.int .i64 1,.int .i64 0,.int .i64 1,.int .i64 0,.int .i64 1,.int .i64 0,.int .i64 1]:List AV)[K*2]?=some (.int .i64 (mostK K)):=by
 have:K=0\/K=1\/K=2\/K=3\/K=4\/K=5\/K=6\/K=7:=by omega
 rcases this with rfl | rfl | rfl | rfl | rfl | rfl | rfl | rfl<;>rfl
theorem spec141:∀(f:Fu),fitF f->∀(D left deep d' o g:Nat),d' < D->left < 2^40->deep<=9->∃left':Int,(okF f left deep=true->left'=((left - yF f:Nat):Int))/\
  Go.Ab.Loc Pg Gl D 141 [encF f,.ptr d' o g 0,.int .i64 deep] [(d',o,(g,.cells [.int .i64 left]))] (.bool (okF f left deep)) [(d',o,(g,.cells [.int .i64 left']))]:=by
 refine Fu.ind' fun k n gs hrec=> ?_
 intro hfit D left deep d' o g hd hl hdp
 rw[fitF] at hfit
 have hDd:¬d'=D:=by omega
 have hw:IntKind.i64.wrap ((left:Int) - 1)=(left:Int) - 1:=by
  simp[IntKind.wrap,IntKind.bits,IntKind.signed];omega
 have hnod:=nodesF_mk k n gs
 have hdep:depthF (.mk k n gs)=1+depthFs gs:=by rw[depthF]
 have hsh:zJ (.mk k n gs)=(decide ((gs.length:Int)=arK k)&&(decide (min 1 (mostK k)<=n)&&(decide (n<=mostK k)&&y7 gs))):=by rw[zJ]
 -- the ways that answer false at once
 have fin:∀(left':Int),okF (.mk k n gs) left deep=false->(∀S0,S0 d' o=(g,.cells [.int .i64 left])->Rd (Loc Pg Gl) .im (RetM [.tmp 6] (.bool false) D S0 [(d',o,(g,.cells [.int .i64 left']))]) [.c c141] (stF 74 D (argsT 0 [encF (.mk k n gs),.ptr d' o g 0,.int .i64 deep]) (fun _=>(0,.dead)) S0))->
   ∃left':Int,(okF (.mk k n gs) left deep=true->left'=((left - yF (.mk k n gs):Nat):Int))/\Go.Ab.Loc Pg Gl D 141 [encF (.mk k n gs),.ptr d' o g 0,.int .i64 deep] [(d',o,(g,.cells [.int .i64 left]))] (.bool (okF (.mk k n gs) left deep)) [(d',o,(g,.cells [.int .i64 left']))]:=by
  intro left' hok h
  refine ⟨left',by rw[hok];simp,?_⟩
  rw[hok]
  refine yP zH tok rfl rfl fun S hS=> ?_
  exact h S (hS _ (List.mem_singleton.2 rfl)).2
 have hw1:IntKind.i64.wrap (-1)= -1:=by decide
 by_cases h1:left=0
 ·refine fin (-1) (by simp[okF,hnod];omega) fun S0 hS=> ?_
  subst h1
  unfold c141
  rw[zO]
  simp[hDd,hS,hw1]
 obtain ⟨L,hL⟩:∃L,left=L+1:=⟨left - 1,by omega⟩
 have hwL:IntKind.i64.wrap ((left:Int) - 1)=(L:Int):=by rw[hw];omega
 by_cases h2:deep=9
 ·refine fin L (by simp[okF,hdep];omega) fun S0 hS=> ?_
  subst h2
  unfold c141
  rw[zO]
  simp[hDd,hS,hwL]
 have h2':¬(8:Int) < deep:=by omega
 by_cases h3:k < 0
 ·refine fin L (by
   have:¬(gs.length:Int)=arK k:=by unfold arK;repeat (split;omega);omega
   simp[okF,hsh,this]) fun S0 hS=> ?_
  unfold c141
  rw[zO]
  simp[hDd,hS,hwL,h2',h3]
 by_cases h4:7 < k
 ·refine fin L (by
   have:¬(gs.length:Int)=arK k:=by unfold arK;repeat (split;omega);omega
   simp[okF,hsh,this]) fun S0 hS=> ?_
  unfold c141
  rw[zO]
  simp[hDd,hS,hwL,h2',h3,h4]
 obtain ⟨K,rfl⟩:∃K:Nat,k=K:=⟨k.toNat,by omega⟩
 have h4':¬7 < K:=by omega
 have h4'':(K:Int) < 8:=by omega
 have far:=forms_ar K (by omega)
 have fmo:=forms_most K (by omega)
 by_cases h5:(gs.length:Int)=arK K
 ·have hmin:(if mostK K < 1 then mostK K else 1)=min 1 (mostK K):=by split<;>omega
  by_cases h6:n < min 1 (mostK K)
  ·refine fin L (by simp[okF,hsh,show¬min 1 (mostK K)<=n by omega]) fun S0 hS=> ?_
   unfold c141
   rw[zO]
   simp[hDd,hS,hwL,h2',h3,h4,h4',h4'',far,fmo,h5,hmin,h6]
  by_cases h7:mostK K < n
  ·refine fin L (by simp[okF,hsh,show¬n<=mostK K by omega]) fun S0 hS=> ?_
   unfold c141
   rw[zO]
   simp[hDd,hS,hwL,h2',h3,h4,h4',h4'',far,fmo,h5,hmin,h6,h7]
  have hok:okF (.mk K n gs) left deep=okFs gs L deep:=by
   unfold okF okFs
   rw[hnod,hdep,hsh,decide_eq_true h5,decide_eq_true (show min 1 (mostK K)<=n by omega),decide_eq_true (show n<=mostK K by omega),Bool.true_and,Bool.true_and,Bool.true_and]
   congr 1
   ·exact decide_eq_decide.2 (by omega)
   ·congr 1;exact decide_eq_decide.2 (by omega)
  obtain ⟨l2,hl2,hrd⟩:∃l2:Int,(okFs gs L deep=true->l2=((L - yJ gs:Nat):Int))/\∀S0 (τ:Nat->AV) (ω:Nat->Ent),τ 1= .ptr d' o g 0->τ 2= .int .i64 deep->τ 61= .sl 3 (gs.map encF) .no->τ 62= .int .i64 gs.length->τ 63= .int .i64 ((0:Nat):Int)->
    Rd (Loc Pg Gl) .im (RetM [.tmp 6] (.bool (okFs gs L deep)) D S0 [(d',o,(g,.cells [.int .i64 l2]))]) [.lp c141_l0,.blk 0,.c c141_k0] (stF 74 D τ ω (updS S0 d' o (g,.cells [.int .i64 L]))):=by
   have:=l127 D gs hfit.1 d' o g hd deep (by omega) (fun a ha=>hrec a ha (fitFs_mem hfit.2 a ha)) gs.length 0 L (okFs gs L deep) (by simp) (by omega) (by simp)
   simpa using this
  refine ⟨l2,fun q=>by rw[hok] at q;rw[hl2 q,hnod];congr 1;omega,?_⟩
  rw[hok]
  refine yP zH tok rfl rfl fun S hS=> ?_
  have hS:=(hS _ (List.mem_singleton.2 rfl)).2
  simp only at hS
  unfold c141
  rw[zO]
  simp[hDd,hS,hwL,h2',h3,h4,h4',h4'',far,fmo,h5,hmin,h6,h7]
  refine hrd S _ _ ?_ ?_ ?_ ?_ ?_
  all_goals simp[h5]
 ·refine fin L (by simp[okF,hsh,h5]) fun S0 hS=> ?_
  unfold c141
  rw[zO]
  simp[hDd,hS,hwL,h2',h3,h4,h4',h4'',far,fmo,h5]
theorem okF_top (f:Fu):okF f 20 1=isF f:=by
 unfold okF isF
 congr 2
 exact decide_eq_decide.2 (by omega)
theorem spec114 (f:Fu) (hf:fitF f) (D:Nat):Go.Ab.Loc Pg Gl D 114 [encF f] [] (.bool (isF f)) []:=by
 refine zW zH tok rfl rfl fun S=> ?_
 unfold c114
 obtain ⟨l',_,hloc⟩:=spec141 f hf (D+1) 20 1 D 3 1 (by omega) (by omega) (by omega)
 rw[okF_top] at hloc
 rw[zB f]
 simp
 refine zP hloc (by simp[zB f]) ?_ (by simp) ?_
 ·intro m hm
  rw[List.mem_singleton] at hm;subst hm
  simp
 simp
theorem shaped_mk {k n:Int} {gs:List Fu} (h:zJ (.mk k n gs)=true):(gs.length:Int)=arK k/\min 1 (mostK k)<=n/\n<=mostK k/\∀a∈gs,zJ a=true:=by
 rw[zJ] at h
 simp only[Bool.and_eq_true,decide_eq_true_eq] at h
 refine ⟨h.1,h.2.1,h.2.2.1,?_⟩
 have:=h.2.2.2
 clear h
 induction gs with
 | nil=>intro a ha;cases ha
 | cons b l ih=>
  rw[y7,Bool.and_eq_true] at this
  intro a ha
  rcases List.mem_cons.1 ha with rfl | ha
  ·exact this.1
  ·exact ih this.2 a ha
theorem isF_shaped {f:Fu} (h:isF f=true):zJ f=true:=by
 unfold isF at h
 simp only[Bool.and_eq_true] at h
 exact h.2.2
end Go.Ab.Tab
/- Values: the data; the reference's left,light,Few,Nodes,order,Weighted,Sets,number,Compare,Same. -/
namespace Go.Ab.Tab
open Go Go.Ab
inductive Va where
 | mk (n:Int) (gs:List Va) (ws:List Int)
def Va.n:Va->Int | .mk n _ _=>n
def Va.gs:Va->List Va | .mk _ a _=>a
def Va.ws:Va->List Int | .mk _ _ w=>w
theorem Va.eta (v:Va):v= .mk v.n v.gs v.ws:=by cases v;rfl
mutual
theorem Va.ind' {P:Va->Prop} (h:∀n gs ws,(∀a∈gs,P a)->P (.mk n gs ws)):∀v,P v
 | .mk n gs ws=>h n gs ws (Va.inds h gs)
theorem Va.inds {P:Va->Prop} (h:∀n gs ws,(∀a∈gs,P a)->P (.mk n gs ws)):∀(l:List Va),∀a∈l,P a
 | [],_,ha=>by cases ha
 | b::l,a,ha=>by
  rcases List.mem_cons.1 ha with e | ha
  ·rw[e];exact Va.ind' h b
  ·exact Va.inds h l a ha
end
mutual
def encV:Va->AV
 | .mk n gs ws=> .agg [.int .i64 n,.sl 3 (encVs gs) .no,.sl 1 (ws.map (AV.int .i64)) .no]
def encVs:List Va->List AV
 | []=>[]
 | f::l=>encV f::encVs l
end
theorem encVs_eq:∀l,encVs l=l.map encV
 | []=>rfl
 | f::l=>by rw[encVs,encVs_eq l];rfl
theorem zV (n gs ws):encV (.mk n gs ws)= .agg [.int .i64 n,.sl 3 (gs.map encV) .no,.sl 1 (ws.map (AV.int .i64)) .no]:=by rw[encV,encVs_eq]
theorem zK (v:Va):encV v= .agg [.int .i64 v.n,.sl 3 (v.gs.map encV) .no,.sl 1 (v.ws.map (AV.int .i64)) .no]:=by
 have hx:=zV v.n v.gs v.ws
 rwa [<-Va.eta] at hx
mutual
def zU:Va->Nat
 | .mk _ gs _=>1+zT gs
def zT:List Va->Nat
 | []=>0
 | f::l=>zU f+zT l
end
theorem nodesV_pos (f:Va):1<=zU f:=by cases f;rw[zU];omega
theorem nodesVs_le:∀{l:List Va} {a:Va},a∈l->zU a<=zT l
 | [],a,h=>by cases h
 | b::l,a,h=>by
  rw[zT]
  rcases List.mem_cons.1 h with e | h
  ·rw[e];omega
  ·have:=nodesVs_le h;omega
theorem nodesVs_len:∀(l:List Va),l.length<=zT l
 | []=>by simp
 | b::l=>by rw[zT,List.length_cons];have:=nodesVs_len l;have:=nodesV_pos b;omega
mutual
def fitV:Va->Prop
 | .mk _ gs ws=>(gs.length<=maxLen/\ws.length<=maxLen)/\fitVs gs
def fitVs:List Va->Prop
 | []=>True
 | f::l=>fitV f/\fitVs l
end
theorem fitVs_mem:∀{l:List Va},fitVs l->∀a∈l,fitV a
 | [],_,a,ha=>by cases ha
 | b::l,h,a,ha=>by
  rw[fitVs] at h
  rcases List.mem_cons.1 ha with e | ha
  ·rw[e];exact h.1
  ·exact fitVs_mem h.2 a ha
def ordI (a b:Int):Int:=if a < b then -1 else if b < a then 1 else 0
def wtd (k:Int):Bool:=decide (k=6) || decide (k=7)
def sets (k:Int):Bool:=decide (k=5) || wtd k
def numOk (f:Fu) (n:Nat) (v:Va):Bool:=decide (0<=v.n)&&decide (v.n<=if f.k=0 then (n:Int) - 1 else if f.k=1 then f.n - 1 else if f.k=3 then 1 else 0)
end Go.Ab.Tab
/- Values: the reference's Compare,Same,gcd,weighed. -/
namespace Go.Ab.Tab
open Go Go.Ab
def cmpIs:List Int->List Int->Int
 | [],[]=>0
 | [],_::_=> -1
 | _::_,[]=>1
 | a::l,b::m=>if a=b then cmpIs l m else ordI a b
mutual
def cmpV:Va->Va->Int
 | .mk n gs ws,.mk n' gs' ws'=>if n=n' then (if cmpVs gs gs'=0 then cmpIs ws ws' else cmpVs gs gs') else ordI n n'
def cmpVs:List Va->List Va->Int
 | [],[]=>0
 | [],_::_=> -1
 | _::_,[]=>1
 | a::l,b::m=>if cmpV a b=0 then cmpVs l m else cmpV a b
end
theorem cmpVs_nil_left (m:List Va):cmpVs [] m=ordI 0 m.length:=by
 cases m with
 | nil=>simp[cmpVs,ordI]
 | cons b m=>rw[cmpVs];simp[ordI]
theorem cmpIs_nil_left (m:List Int):cmpIs [] m=ordI 0 m.length:=by
 cases m with
 | nil=>simp[cmpIs,ordI]
 | cons b m=>rw[cmpIs];simp[ordI]
section
variable (D:Nat) (n n':Int) (gs hs:List Va) (ws xs:List Int)
def two (n n':Int) (gs hs:List Va) (ws xs:List Int) (ω:Nat->Ent):Prop:=
 ω 2=(1,.cells [.int .i64 n,.sl 3 (gs.map encV) .no,.sl 1 (ws.map (AV.int .i64)) .no])/\ω 3=(1,.cells [.int .i64 n',.sl 3 (hs.map encV) .no,.sl 1 (xs.map (AV.int .i64)) .no])
end
end Go.Ab.Tab
/- Values: merging,in plain Lean; what the order of values is. -/
namespace Go.Ab.Tab
open Go Go.Ab
theorem ordI_zero {a b:Int}:ordI a b=0↔a=b:=by
 unfold ordI;split
 ·omega
 ·split<;>omega
theorem ordI_neg {a b:Int}:ordI a b < 0↔a < b:=by
 unfold ordI;split
 ·omega
 ·split<;>omega
theorem cmpIs_zero:∀{l m:List Int},cmpIs l m=0↔l=m
 | [],[]=>by simp[cmpIs]
 | [],_::_=>by simp[cmpIs]
 | _::_,[]=>by simp[cmpIs]
 | a::l,b::m=>by
  rw[cmpIs]
  by_cases h:a=b
  ·rw[if_pos h,cmpIs_zero];simp[h]
  ·rw[if_neg h,ordI_zero];simp[h]
theorem cmpIs_trans:∀{l m k:List Int},cmpIs l m < 0->cmpIs m k < 0->cmpIs l k < 0
 | [],[],_,h,_=>by simp[cmpIs] at h
 | [],_::_,[],_,h=>by simp[cmpIs] at h
 | [],_::_,_::_,_,_=>by simp[cmpIs]
 | _::_,[],_,h,_=>by simp[cmpIs] at h
 | _::_,_::_,[],_,h=>by simp[cmpIs] at h
 | a::l,b::m,c::k,h1,h2=>by
  rw[cmpIs] at h1 h2|-
  by_cases e1:a=b
  ·subst e1
   rw[if_pos rfl] at h1
   by_cases e2:a=c
   ·rw[if_pos e2] at h2|-;exact cmpIs_trans h1 h2
   ·rw[if_neg e2] at h2|-;exact h2
  ·rw[if_neg e1,ordI_neg] at h1
   by_cases e2:b=c
   ·subst e2;rw[if_neg e1,ordI_neg];exact h1
   ·rw[if_neg e2,ordI_neg] at h2
    rw[if_neg (by omega),ordI_neg];omega
theorem cmpVs_zero':∀{l m:List Va},(∀a∈l,∀b,cmpV a b=0↔a=b)->(cmpVs l m=0↔l=m)
 | [],[],_=>by simp[cmpVs]
 | [],_::_,_=>by simp[cmpVs]
 | _::_,[],_=>by simp[cmpVs]
 | a::l,b::m,h=>by
  rw[cmpVs]
  have ha:=h a (by simp) b
  by_cases e:cmpV a b=0
  ·rw[if_pos e,cmpVs_zero' fun c hc=>h c (by simp[hc])];simp[ha.1 e]
  ·rw[if_neg e];simp only[e,false_iff];intro q;injection q with q1 q2;exact e (ha.2 q1)
theorem cmpV_zero:∀u v,cmpV u v=0↔u=v:=by
 refine Va.ind' fun n gs ws h v=> ?_
 cases v with
 | mk n' hs xs=>
  rw[cmpV]
  by_cases e1:n=n'
  ·rw[if_pos e1]
   by_cases e2:cmpVs gs hs=0
   ·rw[if_pos e2,cmpIs_zero]
    have:=(cmpVs_zero' h).1 e2
    simp[e1,this]
   ·rw[if_neg e2]
    simp only[e2,false_iff]
    intro q;injection q with _ q _;exact e2 ((cmpVs_zero' h).2 q)
  ·rw[if_neg e1,ordI_zero];simp[e1]
theorem cmpVs_zero {l m:List Va}:cmpVs l m=0↔l=m:=cmpVs_zero' fun a _=>cmpV_zero a
theorem cmpVs_trans':∀{l m k:List Va},(∀a∈l,∀b c,cmpV a b < 0->cmpV b c < 0->cmpV a c < 0)->cmpVs l m < 0->cmpVs m k < 0->cmpVs l k < 0
 | [],[],_,_,h,_=>by simp[cmpVs] at h
 | [],_::_,[],_,_,h=>by simp[cmpVs] at h
 | [],_::_,_::_,_,_,_=>by simp[cmpVs]
 | _::_,[],_,_,h,_=>by simp[cmpVs] at h
 | _::_,_::_,[],_,_,h=>by simp[cmpVs] at h
 | a::l,b::m,c::k,h,h1,h2=>by
  have tr:=h a (by simp) b c
  rw[cmpVs] at h1 h2|-
  by_cases e1:cmpV a b=0
  ·obtain rfl:=(cmpV_zero a b).1 e1
   rw[if_pos e1] at h1
   by_cases e2:cmpV a c=0
   ·rw[if_pos e2] at h2|-;exact cmpVs_trans' (fun d hd=>h d (by simp[hd])) h1 h2
   ·rw[if_neg e2] at h2|-;exact h2
  ·rw[if_neg e1] at h1
   by_cases e2:cmpV b c=0
   ·obtain rfl:=(cmpV_zero b c).1 e2
    rw[if_neg e1];exact h1
   ·rw[if_neg e2] at h2
    have:=tr h1 h2
    rw[if_neg (by omega)];exact this
theorem cmpV_trans:∀a b c,cmpV a b < 0->cmpV b c < 0->cmpV a c < 0:=by
 refine Va.ind' fun n gs ws h v w h1 h2=> ?_
 cases v with
 | mk n' hs xs=>
 cases w with
 | mk n'' ks ys=>
  rw[cmpV] at h1 h2|-
  by_cases e1:n=n'
  ·subst e1
   rw[if_pos rfl] at h1
   by_cases e2:n=n''
   ·subst e2
    rw[if_pos rfl] at h2|-
    by_cases q1:cmpVs gs hs=0
    ·obtain rfl:=cmpVs_zero.1 q1
     rw[if_pos q1] at h1
     by_cases q2:cmpVs gs ks=0
     ·rw[if_pos q2] at h2|-;exact cmpIs_trans h1 h2
     ·rw[if_neg q2] at h2|-;exact h2
    ·rw[if_neg q1] at h1
     by_cases q2:cmpVs hs ks=0
     ·obtain rfl:=cmpVs_zero.1 q2
      rw[if_neg q1];exact h1
     ·rw[if_neg q2] at h2
      have:=cmpVs_trans' h h1 h2
      rw[if_neg (by omega)];exact this
   ·rw[if_neg e2] at h2|-;exact h2
  ·rw[if_neg e1,ordI_neg] at h1
   by_cases e2:n'=n''
   ·subst e2;rw[if_neg e1,ordI_neg];exact h1
   ·rw[if_neg e2,ordI_neg] at h2
    rw[if_neg (by omega),ordI_neg];omega
def ltV (a b:Va):Prop:=cmpV a b < 0
theorem ltV.trans {a b c:Va} (h:ltV a b) (k:ltV b c):ltV a c:=cmpV_trans a b c h k
def insP (u:Va) (w:Int):List (Va×Int)->List (Va×Int)
 | []=>[(u,w)]
 | (a,x)::l=>if 0 < cmpV u a then (a,x)::insP u w l else if cmpV u a=0 then (a,x+w)::l else (u,w)::(a,x)::l
def zipW (k:Int) (gs:List Va) (ws:List Int):List (Va×Int):=if wtd k then gs.zip ws else gs.map fun a=>(a,0)
def foldP (l acc:List (Va×Int)):List (Va×Int):=l.foldl (fun acc p=>insP p.1 p.2 acc) acc
def gcdW (l:List Int):Nat:=l.foldl (fun g w=>Nat.gcd g w.toNat) 0
def divW (k:Int) (l:List Int):List Int:=if k=7 then l.map fun w=>w.tdiv (gcdW l) else l
def mergedR (k:Int) (v:Va):Va:=
 let ps:=foldP (zipW k v.gs v.ws) []
 .mk v.n (ps.map (·.1)) (if wtd k then divW k (ps.map (·.2)) else [])
end Go.Ab.Tab
/- Values: the reference's Merged. -/
namespace Go.Ab.Tab
open Go Go.Ab
end Go.Ab.Tab
/- Values: the reference's gcd,weighed,Parts. -/
namespace Go.Ab.Tab
open Go Go.Ab
def wOk:Int->List Int->Bool
 | _,[]=>true
 | s,w::l=>decide (1<=w)&&(decide (w<=1048576 - s)&&wOk (s+w) l)
def weighedR (k:Int) (v:Va):Bool:=if wtd k then wOk 0 v.ws&&(decide (v.ws.length=v.gs.length)&&(decide (k=6) || decide (0 < v.gs.length))) else decide (v.ws.length=0)
def y4 (f:Fu) (v:Va):List Fu:=
 if f.k=0\/f.k=1 then [] else if f.k=2 then f.gs else if f.k=3 then (if v.n < 0\/1 < v.n then [] else (f.gs.drop v.n.toNat).take 1) else
 if f.k=4 then List.replicate f.n.toNat (f.gs.headD (.mk 0 0 [])) else List.replicate v.gs.length (f.gs.headD (.mk 0 0 []))
def partsOk (f:Fu) (v:Va):Bool:= !(decide (f.k=3)&&(decide (v.n < 0) || decide (1 < v.n)))&&decide ((y4 f v).length=v.gs.length)
end Go.Ab.Tab
/- Values: the reference's Merged,whole. -/
namespace Go.Ab.Tab
open Go Go.Ab
def sumW:List Int->Int
 | []=>0
 | w::l=>w+sumW l
def gcdFrom (g:Nat) (l:List Int):Nat:=l.foldl (fun g w=>Nat.gcd g w.toNat) g
end Go.Ab.Tab
