/- The abstract machine: abstract values, compiled operations, the effect of one operation. Nothing of a program stands here. -/
import Derived.Calls
import Derived.Orders
import Derived.RowKit3
import Derived.Below
import Derived.Laws.Sem
import Derived.AtR
import Derived.Laws.Cells
import Derived.Laws.CopyRow
import Derived.ChangeKeysEq
open Array renaming getD_eq_getD_getElem?->yHP, getElem?_eq_getElem->yHQ, getElem?_eq_some_iff->yHX, getElem?_setIfInBounds_self_of_lt->yIF, getElem?_setIfInBounds_ne->yIG, getElem?_eq_none->yIH, eq_empty_of_size_eq_zero->yIJ, length_toList->yIN
open Bool renaming false_eq_true->yHS, and_eq_true->yIM
open List renaming getElem?_eq_getElem->yGX, getElem?_eq_some_iff->yGY, getD_eq_getElem?_getD->yGZ, all_eq_true->yHA, getElem?_map->yHB, getElem?_set_self->yHC, getElem?_set_ne->yHD, range->yHE, foldl_nil->yHF, length_take->yHG, getElem?_take_of_lt->yHH, getElem?_drop->yHI, getElem?_append->yHJ, foldl_cons->yHL, mem_of_getElem?->yHM, mem_map->yHN, length_append->yHR, length_cons->yHT, getElem?_cons_succ->yHU, replicate->yHW, append_assoc->yIB, length_drop->yID, getElem?_toArray->yIE, getElem?_eq_none->yII, getElem?_range->yIL, size_toArray->yIO, flatMap_cons->yIP
open Nat renaming add_assoc->yHK, lt_or_ge->yHO, succ_mul->yHV, lt_of_lt_of_le->yHY, add_zero->yIA, min_eq_left->yIC
open Option renaming map_eq_some_iff->yGT, getD_some->yHZ, map_some->yIK
open Go.Result renaming andThen_ok->yGV
open Go.Sem renaming run_bind->yGU, run_pure->yGW
set_option linter.unusedVariables false
set_option linter.unusedSimpArgs false
namespace Go.Ab
open Go
inductive Tip where
 | no
 | nil
 | tip
 deriving DecidableEq,Inhabited
inductive AV where
 | bool (b:Bool)
 /-- a truth value that is not known -/
 | ub
 | int (k:IntKind) (n:Int)
 | str (s:ByteArray)
 | nilp
 | nilf
 | nili
 | nilm
 | sl (z:Nat) (xs:List AV) (tp:Tip)
 /-- a slice of which is known only whether it is nil -/
 | slq (b:Bool)
 | box (cs:List AV) (off:Nat)
 | ptr (d s g off:Nat)
 | own (d s g off len z:Nat) (ea:Bool)
 | mp (d s g:Nat)
 | ch (d s g:Nat)
 | yl (d s g:Nat)
 | fn (f:FuncId) (cap:List AV)
 /-- a method of a receiver -/
 | meth (f:FuncId) (bs:List AV)
 /-- a pointer into cells that are never written again,and hold pointers into frames up to depth h -/
 | bx (h:Nat) (cs:List AV) (off:Nat)
 | ifc (t:TypeId) (v:AV)
 | agg (cs:List AV)
 | tup (vs:List AV)
 deriving Inhabited
def ud:AV:= .tup []
def AV.cells:AV->List AV
 | .agg cs=>cs
 | v=>[v]
def Tip.dem:Tip->Tip
 | .tip=> .no
 | t=>t
def AV.dem1:AV->AV
 | .sl z xs t=> .sl z xs t.dem
 | v=>v
def AV.dem:AV->AV
 | .sl z xs t=> .sl z xs t.dem
 | .agg cs=> .agg (cs.map AV.dem1)
 | .tup vs=> .tup (vs.map AV.dem1)
 | v=>v
def AV.strip1:AV->AV
 | .sl z xs _=> .sl z xs .no
 | v=>v
def AV.strip:AV->AV
 | .sl z xs _=> .sl z xs .no
 | .agg cs=> .agg (cs.map AV.strip1)
 | .tup vs=> .tup (vs.map AV.strip1)
 | v=>v
def AV.keep:AV->AV
 | .sl z xs t=> .sl z xs t
 | v=>v.strip
def AV.var1:AV->AV
 | .sl z xs .nil=> .sl z xs .tip
 | v=>v
inductive Ob where
 | dead
 | cells (cs:List AV)
 | mp (es:List (AV×AV))
 | ch (cap:Nat) (buf:List AV)
 | lp (r:Loop) (ts:List AV)
 deriving Inhabited
abbrev Ent:=Nat×Ob
structure St where
 ts:List AV
 os:List Ent
 D:Nat
 S:Nat->Nat->Ent
def St.look (s:St) (d i:Nat):Ent:=if d=s.D then s.os.getD i (0,.dead) else s.S d i
def St.rd (s:St) (t:Nat):AV:=s.ts.getD t ud
def updS (S:Nat->Nat->Ent) (d i:Nat) (e:Ent):Nat->Nat->Ent:=fun d' i'=>if d'=d/\i'=i then e else S d' i'
def St.up (s:St) (u:Nat×Nat×Ent):St:=
 if u.1=s.D then {s with os:=s.os.set u.2.1 u.2.2} else {s with S:=updS s.S u.1 u.2.1 u.2.2}
def St.put (s:St) (dst:Option Nat) (v:AV):St:=
 match dst with
 | some d=>{s with ts:=s.ts.set d v}
 | none=>s
def St.demT (s:St) (t:Nat):St:={s with ts:=s.ts.set t (s.rd t).dem}
inductive Opd where
 | t (i:Nat)
 | c (v:AV)
 deriving Inhabited
def St.ev (s:St):Opd->AV
 | .t i=>(s.rd i).dem
 | .c v=>v
def St.evr (s:St):Opd->AV
 | .t i=>s.rd i
 | .c v=>v
def Opd.tmp:Opd->List Nat
 | .t i=>[i]
 | .c _=>[]
inductive EqK where
 | sc
 | ptr
 | func
 | arr (n:Nat)
 /-- slices: one of them is nil -/
 | nsl
 | other
 deriving DecidableEq,Inhabited
inductive AOp where
 | mov (take:Bool) (x:Opd)
 | pick (c a b:Opd)
 | alloc (z:List AV)
 | box (n:Nat) (x:Opd)
 | build (z:List AV) (ps:List (Nat×Nat×Opd))
 | bslice (z:Nat) (ea:Bool) (ps:List Opd)
 | load (ag:Bool) (n:Nat) (take:Bool) (p:Opd)
 | store (n:Nat) (p x:Opd)
 | nilchk (x:Opd)
 | bin (op:BinOp) (e:EqK) (x y:Opd)
 | un (op:UnOp) (x:Opd)
 | conv (k:IntKind) (x:Opd)
 | faddr (off:Nat) (x:Opd)
 | iaddrA (len z:Nat) (x i:Opd)
 | iaddrS (z:Nat) (x i:Opd)
 | extr (take:Bool) (x:Opd) (i:Nat)
 | copy (z:Nat) (x y:Opd)
 /-- whether a slice is nil -/
 | isnil (x:Opd)
 /-- an operation that is never run -/
 | stuck
 | len (x:Opd)
 /-- a byte of a string -/
 | sidx (x i:Opd)
 | append (z bytes:Nat) (x y:Opd)
 | mm (max:Bool) (x y:Opd)
 | call (f:FuncId) (args:List Opd)
 | callL (f:FuncId) (args:List Opd)
 | callv (x:Opd) (args:List Opd)
 | mkslice (z bytes:Nat) (ea:Bool) (zero:List AV) (l c:Opd)
 | slice (z:Nat) (take:Bool) (x:Opd) (lo hi:Option Opd)
 | mkfn (f:FuncId) (cap:List Opd)
 | mkmeth (f:FuncId) (bs:List Opd)
 | mkchan (bytes:Nat) (n:Opd)
 | lenc (x:Opd)
 | send (c x:Opd)
 | recv (c:Opd)
 | mkmap
 | mlook (n:Nat) (cok:Bool) (zero:AV) (x k:Opd)
 | mupd (n:Nat) (x k v:Opd)
 deriving Inhabited
structure AOper where
 dst:Option Nat
 op:AOp
 guard:Option (Nat×Bool)
 deriving Inhabited
structure Eff where
 val:AV:=ud
 ups:List (Nat×Nat×Ent):=[]
 dem:List Nat:=[]
 rd:List (Nat×Nat):=[]
def St.app (s:St) (dst:Option Nat) (e:Eff):St:=
 (e.ups.foldl St.up (e.dem.foldl St.demT s)).put dst e.val
def wJ (z:Nat) (ea:Bool):Nat->List AV->List AV
 | 0,_=>[]
 | n+1,cs=>(if ea then AV.agg (cs.take z) else cs.headD ud)::wJ z ea n (cs.drop z)
def AV.one:AV->Bool
 | .agg _ | .tup _=>false
 | _=>true
def AV.plain1:AV->Bool
 | .bool _ | .int .. =>true
 | _=>false
def AV.still2:AV->Bool
 | .bool _ | .int .. =>true
 | .sl _ _ t=>match t with
  | .tip=>false
  | _=>true
 | _=>false
def AV.isSl:AV->Bool
 | .sl .. =>true
 | _=>false
def AV.clean:Nat->AV->Bool
 | 0,_=>false
 | n+1,v=>match v with
  | .ptr .. | .own .. | .mp .. | .ch .. | .yl .. | .meth .. | .bx .. =>false
  | .agg cs | .tup cs | .fn _ cs=>cs.all (AV.clean n)
  | .ifc _ v=>v.clean n
  | _=>true
def frz (s:St):Nat->AV->Option (AV×List (Nat×Nat))
 | 0,_=>none
 | n+1,v=>match v with
  | .own d i g off len z ea=>match s.look d i with
   | (g',.cells cs)=>
    if g'=g/\d=s.D/\off+len*z<=cs.length/\(ea=true\/z=1)/\cs.all AV.one=true then
     match (((cs.drop off).take (len*z)).mapM (frz s n)) with
     | some l=>some (.sl z (wJ z ea len (l.map (fun x=>x.1.strip1))) .no,(d,i)::(l.map (·.2)).flatten)
     | none=>none
    else none
   | _=>none
  | .ptr d i g off=>match s.look d i with
   | (g',.cells cs)=>
    if g'=g/\d=s.D/\cs.all AV.one=true then
     match cs.mapM (frz s n) with
     | some l=>some (.box (l.map (fun x=>x.1.strip1)) off,(d,i)::(l.map (·.2)).flatten)
     | none=>none
    else none
   | _=>none
  | .mp .. | .ch .. | .yl .. | .meth .. | .bx .. =>none
  | .agg cs=>match cs.mapM (frz s n) with
   | some l=>some (.agg (l.map (·.1)),(l.map (·.2)).flatten)
   | none=>none
  | .tup cs=>match cs.mapM (frz s n) with
   | some l=>some (.tup (l.map (·.1)),(l.map (·.2)).flatten)
   | none=>none
  | .fn f cs=>match cs.mapM (frz s n) with
   | some l=>some (.fn f (l.map (·.1)),(l.map (·.2)).flatten)
   | none=>none
  | .ifc t v=>match frz s n v with
   | some (v',l)=>some (.ifc t v',l)
   | none=>none
  | v=>some (v,[])
def frzD:Nat:=20
end Go.Ab
/- The effect of each operation but calls,and the run of compiled code. -/
namespace Go.Ab
open Go
def yP:List AV->List AV->Option Bool
 | [],[]=>some true
 | .int k a::l,.int k' b::m=>if k=k' then (if a=b then yP l m else some false) else none
 | _,_=>none
def cmpI (op:BinOp) (a b:Int):Option AV:=
 match op with
 | .eql=>some (.bool (decide (a=b)))
 | .neq=>some (.bool (!decide (a=b)))
 | .lss=>some (.bool (decide (a < b)))
 | .leq=>some (.bool (decide (a<=b)))
 | .gtr=>some (.bool (decide (a > b)))
 | .geq=>some (.bool (decide (a≥b)))
 | _=>none
def j7 (k:IntKind) (f:BitVec k.bits->BitVec k.bits->BitVec k.bits) (a b:Int):AV:=
 .int k (k.wrap (f (BitVec.ofInt k.bits a) (BitVec.ofInt k.bits b)).toNat)
def binI (op:BinOp) (k:IntKind) (a b:Int):Option AV:=
 match op with
 | .add=>some (.int k (k.wrap (a+b)))
 | .sub=>some (.int k (k.wrap (a - b)))
 | .mul=>some (.int k (k.wrap (a*b)))
 | .quo=>if b=0 then none else some (.int k (k.wrap (a.tdiv b)))
 | .rem=>if b=0 then none else some (.int k (a.tmod b))
 | .and=>some (j7 k (· &&& ·) a b)
 | .or=>some (j7 k (· ||| ·) a b)
 | .xor=>some (j7 k (· ^^^ ·) a b)
 | .andNot=>some (j7 k (fun x y=>x &&& ~~~y) a b)
 | .shl | .shr=>none
 | _=>cmpI op a b
def keyC (n:Nat):AV->Option (List AV)
 | .agg l=>if l.length=n/\n≠0 then some l else none
 | .int k i=>if n=0 then some [.int k i] else none
 | _=>none
def wZ (n:Nat) (kk:List AV):List (AV×AV)->Option (Option AV)
 | []=>some none
 | (p,v)::es=>match keyC n p with
  | some l=>match yP kk l with
   | some true=>some (some v)
   | some false=>wZ n kk es
   | none=>none
  | none=>none
def eqN (e:EqK) (x y:AV):Option Bool:=
 match e,x,y with
 | .ptr,.nilp,.nilp=>some true
 | .ptr,.nilp,.box .. =>some false
 | .ptr,.nilp,.ptr .. =>some false
 | .ptr,.box ..,.nilp=>some false
 | .ptr,.ptr ..,.nilp=>some false
 | .func,.nilf,.nilf=>some true
 | .func,.nilf,.fn .. =>some false
 | .func,.fn ..,.nilf=>some false
 | .nsl,.slq b,.sl _ [] .nil=>some b
 | .nsl,.sl _ (_::_) _,.sl _ [] .nil=>some false
 | _,_,_=>none
def binf (op:BinOp) (e:EqK) (x y:AV):Option AV:=
 match op,x,y with
 | .shl,.int k a,.int _ b=>if b < 0 then none else some (.int k (k.wrap (a*2^(min b.toNat k.bits))))
 | .shr,.int k a,.int _ b=>if b < 0 then none else some (.int k (a.fdiv (2^(min b.toNat k.bits))))
 | op,.int k a,.int k' b=>if k=k' then binI op k a b else none
 | .eql,.bool a,.bool b=>if e= .sc then some (.bool (a==b)) else none
 | .neq,.bool a,.bool b=>if e= .sc then some (.bool (!(a==b))) else none
 | .eql,.agg l,.agg m=>match e with
  | .arr n=>if l.length=n/\m.length=n then (yP l m).map .bool else none
  | _=>none
 | .neq,.agg l,.agg m=>match e with
  | .arr n=>if l.length=n/\m.length=n then (yP l m).map (fun b=> .bool (!b)) else none
  | _=>none
 | .eql,x,y=>(eqN e x y).map .bool
 | .neq,x,y=>(eqN e x y).map fun b=> .bool (!b)
 | _,_,_=>none
def unf (op:UnOp) (x:AV):Option AV:=
 match op,x with
 | .neg,.int k n=>some (.int k (k.wrap (0 - n)))
 | .not,.bool b=>some (.bool !b)
 | _,_=>none
def part (ag:Bool) (n:Nat) (cs:List AV) (off:Nat):Option AV:=
 if off+n<=cs.length then
  if ag then some (.agg ((cs.drop off).take n)) else cs[off]?
 else none
def putC (cs:List AV) (off:Nat) (vs:List AV):List AV:=cs.take off++vs++cs.drop (off+vs.length)
def aA (cs:List AV):List (Nat×Nat×AV)->Option (List AV)
 | []=>some cs
 | (off,n,v)::ps=>if v.cells.length=n/\off+n<=cs.length then aA (putC cs off v.cells) ps else none
def stcL:List AV->List AV
 | []=>[]
 | .sl z xs .tip::r=> .sl z xs .tip::r.map fun c=>c.dem1.var1
 | c::r=>c.dem1.var1::stcL r
def AV.stc:AV->List AV
 | .agg cs=>stcL cs
 | v=>[v.var1]
def AV.upto (d:Nat):Nat->AV->Bool
 | 0,_=>false
 | n+1,v=>match v with
  | .ptr d' .. | .own d' .. | .mp d' .. | .ch d' .. | .yl d' .. =>d'<=d
  | .bx h .. =>h<=d
  | .agg cs | .tup cs | .fn _ cs | .meth _ cs=>cs.all (AV.upto d n)
  | .ifc _ v=>v.upto d n
  | _=>true
def zD:Nat:=2^40
def AV.idx:AV->Option Int
 | .int _ n=>some n
 | _=>none
def frzL (s:St):List AV->Option (List AV×List (Nat×Nat))
 | []=>some ([],[])
 | v::vs=>match frz s frzD v,frzL s vs with
  | some (v',l),some (vs',l')=>some (v'::vs',l++l')
  | _,_=>none
def kill (s:St) (l:List (Nat×Nat)):List (Nat×Nat×Ent):=l.map fun (d,i)=>(d,i,((s.look d i).1,.dead))
def zX (s:St) (z:Nat):AV->Option (List AV×List (Nat×Nat))
 | .sl z' ys _=>if z'=z then some (ys,[]) else none
 | .own d i g off len z' ea=>if z'=z then
   match s.look d i with
   | (g',.cells cs)=>if g'=g/\off+len*z<=cs.length/\cs.all (AV.clean 20)=true/\(ea=true\/z=1)/\cs.all AV.one=true then some (wJ z ea len (((cs.drop off).take (len*z)).map AV.strip1),[(d,i)]) else none
   | _=>none
  else none
 | _=>none
def optI (s:St):Option Opd->Option Int->Option Int
 | some o,_=>(s.ev o).idx
 | none,d=>d
def okEl (z:Nat) (ea:Bool) (ys:List AV):Bool:=ys.all fun v=>v.cells.length==z&&v.cells.all AV.one&&(ea== !v.one)
def newC (ys:List AV):List AV:=(ys.flatMap AV.cells).map AV.strip1
def opf (s:St) (dst:Option Nat):AOp->Option Eff
 | .mov take x=>if take then some {val:=(s.evr x).var1,dem:=x.tmp} else some {val:=(s.ev x).var1}
 | .pick c a b=>match s.ev c with
  | .bool t=>some {val:=if t then s.ev a else s.ev b}
  | _=>none
 | .alloc z=>match dst with
  | some d=>match s.os[d]? with
   | some e=>some {val:= .ptr s.D d (e.1+1) 0,ups:=[(s.D,d,(e.1+1,.cells (z.map AV.var1)))]}
   | none=>none
  | none=>none
 | .box n x=>match dst with
  | some d=>match s.os[d]? with
   | some e=>if (s.ev x).cells.length=n/\(s.ev x).cells.all AV.one=true then
     some {val:= .ptr s.D d (e.1+1) 0,ups:=[(s.D,d,(e.1+1,.cells ((s.ev x).cells.map AV.var1)))]}
    else none
   | none=>none
  | none=>none
 | .build z ps=>match aA z (ps.map fun (o,n,x)=>(o,n,s.ev x)) with
  | some cs=>some {val:= .agg (cs.map AV.dem1)}
  | none=>none
 | .bslice z ea ps=>match frzL s (ps.map s.ev) with
  | some (vs,l)=>if vs.all (fun v=>v.cells.length==z&&v.cells.all AV.one&&(ea==(!v.one))) then some {val:= .sl z (vs.map AV.strip) .tip,ups:=kill s l} else none
  | none=>none
 | .load ag n take p=>match s.ev p with
  | .box cs off=>match part ag n cs off with
   | some v=>some {val:=v.dem}
   | none=>none
  | .bx _ cs off=>match part ag n cs off with
   | some v=>some {val:=v.dem}
   | none=>none
  | .ptr d i g off=>match s.look d i with
   | (g',.cells cs)=>if g'=g then
     match part ag n cs off with
     | some v=>if take&&ag then some {val:=v,ups:=[(d,i,(g,.cells (putC cs off (v.cells.map AV.dem1))))]} else if take&&v.isSl then some {val:=v,ups:=[(d,i,(g,.cells (cs.set off v.dem1)))]} else some {val:=v.dem,rd:=[(d,i)]}
     | none=>none
    else none
   | _=>none
  | _=>none
 | .store n p x=>match s.ev p with
  | .ptr d i g off=>match s.look d i with
   | (g',.cells cs)=>
    if g'=g/\(s.evr x).cells.length=n/\off+n<=cs.length/\(s.evr x).upto d 20=true/\(s.evr x).cells.all AV.one=true then
     some {ups:=[(d,i,(g,.cells (putC cs off (s.evr x).stc)))],dem:=x.tmp}
    else none
   | _=>none
  | _=>none
 | .nilchk x=>match s.ev x with
  | .ptr d i g off=>some {val:= .ptr d i g off}
  | .box cs off=>some {val:= .box cs off}
  | .bx h cs off=>some {val:= .bx h cs off}
  | .fn f c=>some {val:= .fn f c}
  | _=>none
 | .bin op e x y=>match binf op e (s.ev x) (s.ev y) with
  | some v=>some {val:=v}
  | none=>none
 | .un op x=>match unf op (s.ev x) with
  | some v=>some {val:=v}
  | none=>none
 | .conv k x=>match s.ev x with
  | .int _ n=>some {val:= .int k (k.wrap n)}
  | _=>none
 | .faddr off x=>match s.ev x with
  | .ptr d i g o=>some {val:= .ptr d i g (o+off)}
  | .box cs o=>some {val:= .box cs (o+off)}
  | .bx h cs o=>some {val:= .bx h cs (o+off)}
  | _=>none
 | .iaddrA len z x i=>match s.ev i with
  | .int _ n=>if 0<=n/\n < len then
    match s.ev x with
    | .ptr d i g o=>some {val:= .ptr d i g (o+n.toNat*z)}
    | .box cs o=>some {val:= .box cs (o+n.toNat*z)}
    | _=>none
   else none
  | _=>none
 | .iaddrS z x i=>match s.ev i with
  | .int _ n=>match s.ev x with
   | .sl z' xs _=>if 0<=n/\n < xs.length/\z'=z then some {val:= .box (xs.getD n.toNat ud).cells 0} else none
   | .own d i g o len z' _=>if 0<=n/\n < len/\z'=z then some {val:= .ptr d i g (o+n.toNat*z)} else none
   | _=>none
  | _=>none
 | .stuck=>none
 | .isnil x=>match s.ev x with
  | .sl _ [] .nil=>some {val:= .bool true}
  | .sl _ [] _=>some {val:= .ub}
  | .sl _ (_::_) _=>some {val:= .bool false}
  | .slq b=>some {val:= .bool b}
  | _=>none
 | .copy z x y=>match s.ev x,zX s z (s.ev y) with
  | .own d i g off len z' ea,some (ys,r)=>match s.look d i with
   | (g',.cells cs)=>if g'=g/\z'=z/\off+len*z<=cs.length/\okEl z ea (ys.take len)=true then
     some {val:= .int .i64 (ys.take len).length,ups:=[(d,i,(g,.cells (putC cs off (newC (ys.take len)))))],rd:=r} else none
   | _=>none
  | _,_=>none
 | .extr false x i=>match s.ev x with
  | .tup vs=>match vs[i]? with
   | some v=>some {val:=v.dem}
   | none=>none
  | _=>none
 | .extr true x i=>match s.evr x with
  | .tup vs=>match vs[i]? with
   | some (.sl z xs .tip)=>some {val:= .sl z xs .tip,dem:=x.tmp}
   | some v=>some {val:=v.dem}
   | none=>none
  | _=>none
 | .len x=>match s.ev x with
  | .sl _ xs _=>some {val:= .int .i64 xs.length}
  | .own _ _ _ _ len _ _=>some {val:= .int .i64 len}
  | _=>none
 | .sidx x i=>match s.ev x,s.ev i with
  | .str b,.int _ n=>if 0<=n then match b[n.toNat]? with
   | some c=>some {val:= .int .u8 c.toNat}
   | none=>none
   else none
  | _,_=>none
 | .append z bytes x y=>match s.evr x,zX s z (s.ev y) with
  | .sl z' xs t,some (ys,r)=>
   if (z'=z\/t= .nil)/\(xs.length+ys.length)*bytes<=zD/\(t= .tip\/t= .nil) then some {val:= .sl z (xs++ys) .tip,dem:=x.tmp,rd:=r} else none
  | _,_=>none
 | .mm max x y=>match s.ev x,s.ev y with
  | .int k a,.int k' b=>if k=k' then some {val:= .int k (if max then (if b > a then b else a) else (if b < a then b else a))} else none
  | _,_=>none
 | .call .. | .callL .. | .callv .. =>none
 | .mkslice z bytes ea zero l c=>match dst,s.ev l,s.ev c with
  | some d,.int _ n,.int _ m=>match s.os[d]? with
   | some e=>
    if 0<=n/\n=m/\n<=zD/\n*bytes<=zD/\zero.length=z/\0 < z then
     some {val:= .own s.D d (e.1+1) 0 n.toNat z ea,ups:=[(s.D,d,(e.1+1,.cells (yHW n.toNat zero).flatten))]}
    else none
   | none=>none
  | _,_,_=>none
 | .slice z take x lo hi=>
  match optI s lo (some 0) with
  | none=>none
  | some l=>match s.evr x with
   | .sl z' xs tp=>
    match optI s hi (some (xs.length:Int)) with
    | some h=>if z'=z/\0<=l/\l<=h/\h<=xs.length then
      if take&&hi.isNone then some {val:= .sl z (xs.drop l.toNat) tp,dem:=x.tmp}
      else some {val:= .sl z ((xs.take h.toNat).drop l.toNat) .no}
     else none
    | none=>none
   | _=>none
 | .mkfn f cap=>some {val:= .fn f (cap.map fun x=>(s.ev x).strip)}
 | .mkmeth f bs=>some {val:= .meth f (bs.map fun x=>(s.ev x).strip)}
 | .mkchan bytes n=>match dst,s.ev n with
  | some d,.int _ k=>match s.os[d]? with
   | some e=>if 0<=k/\k<=9223372036854775807/\bytes*k<=281474976710544 then
     some {val:= .ch s.D d (e.1+1),ups:=[(s.D,d,(e.1+1,.ch k.toNat []))]} else none
   | none=>none
  | _,_=>none
 | .lenc x=>match s.ev x with
  | .ch d i g=>match s.look d i with
   | (g',.ch _ buf)=>if g'=g then some {val:= .int .i64 buf.length,rd:=[(d,i)]} else none
   | _=>none
  | _=>none
 | .mkmap=>match dst with
  | some d=>match s.os[d]? with
   | some e=>some {val:= .mp s.D d (e.1+1),ups:=[(s.D,d,(e.1+1,.mp []))]}
   | none=>none
  | none=>none
 | .mlook n cok zero x k=>match s.ev x,keyC n (s.ev k) with
  | .mp d i g,some kk=>match s.look d i with
   | (g',.mp es)=>if g'=g then (match wZ n kk es with
     | some (some v)=>if v.still2 then some {val:=if cok then .tup [v,.bool true] else v,rd:=[(d,i)]} else none
     | some none=>some {val:=if cok then .tup [zero,.bool false] else zero,rd:=[(d,i)]}
     | none=>none) else none
   | _=>none
  | _,_=>none
 | .mupd n x k v=>match s.ev x,keyC n (s.ev k) with
  | .mp d i g,some kk=>match s.look d i with
   | (g',.mp es)=>if g'=g/\kk.all AV.plain1=true/\(s.ev v).still2=true then (match wZ n kk es with
     | some none=>some {ups:=[(d,i,(g,.mp (es++[(s.ev k,s.ev v)])))]}
     | _=>none) else none
   | _=>none
  | _,_=>none
 | .send .. | .recv .. =>none
def opfC (s:St):AOp->Option Eff
 | .send c x=>match s.ev c,frz s frzD (s.ev x) with
  | .ch d i g,some (v,l)=>match s.look d i with
   | (g',.ch cap buf)=>if g'=g/\buf.length < cap then some {ups:=kill s l++[(d,i,(g,.ch cap (buf++[v.strip])))]} else none
   | _=>none
  | _,_=>none
 | .recv c=>match s.ev c with
  | .ch d i g=>match s.look d i with
   | (g',.ch cap (v::buf))=>if g'=g then some {val:=v.strip,ups:=[(d,i,(g,.ch cap buf))]} else none
   | _=>none
  | _=>none
 | _=>none
def opfO (s:St) (dst:Option Nat):AOp->Option Eff
 | .mov take x=>if take then some {val:=s.evr x,dem:=x.tmp} else some {val:=s.ev x}
 | .append z bytes x y=>match s.evr x,zX s z (s.ev y) with
  | .sl _ [] .nil,some ([],r)=>some {val:= .sl z [] .nil,rd:=r}
  | .own d i g off len z' ea,some ([],r)=>if z'=z then some {val:= .own d i g off len z ea,rd:=r} else none
  | .sl _ [] .nil,some (y0::ys,r)=>match dst with
   | some d=>match s.os[d]? with
    | some e=>if okEl z (!y0.one) (y0::ys)=true/\(ys.length+1)*bytes<=zD then
      some {val:= .own s.D d (e.1+1) 0 (ys.length+1) z (!y0.one),ups:=[(s.D,d,(e.1+1,.cells (newC (y0::ys))))],rd:=r}
     else none
    | none=>none
   | none=>none
  | .own d i g off len z' ea,some (ys,r)=>match s.look d i with
   | (g',.cells cs)=>if g'=g/\d=s.D/\off=0/\z'=z/\len*z<=cs.length/\ys≠[]/\okEl z ea ys=true/\(len+ys.length)*bytes<=zD then
     some {val:= .own d i (g+1) 0 (len+ys.length) z ea,ups:=[(d,i,(g+1,.cells ((cs.take (len*z)).map AV.strip1++newC ys)))],rd:=r}
    else none
   | _=>none
  | _,_=>none
 | .slice z take x lo hi=>
  match optI s lo (some 0) with
  | none=>none
  | some l=>match s.ev x with
   | .own d i g off len z' ea=>
    match optI s hi (some (len:Int)) with
    | some h=>if z'=z/\0<=l/\l<=h/\h<=len then (if l=0\/l < len then some {val:= .own d i g (off+l.toNat*z) (h.toNat - l.toNat) z ea} else some {val:= .sl z [] .no}) else none
    | none=>none
   | _=>none
 | .load ag n take p=>opf s none (.load ag n false p)
 | _=>none
def uT (s:St) (d z:Nat):AV->Option (List AV×List (Nat×Nat))
 | .sl z' ys _=>if z'=z then some (ys,[]) else none
 | .own d' i g off len z' ea=>if z'=z then
   match s.look d' i with
   | (g',.cells cs)=>if g'=g/\off+len*z<=cs.length/\cs.all (AV.upto d 20)=true/\(ea=true\/z=1)/\cs.all AV.one=true then some (wJ z ea len (((cs.drop off).take (len*z)).map AV.strip1),[(d',i)]) else none
   | _=>none
  else none
 | _=>none
def xT (s:St) (d i:Nat):Option Ent:=if d=s.D then s.os[i]? else if d < s.D then some (s.S d i) else none
def opfP (s:St) (d i:Nat):AOp->Option Eff
 | .mkmap=>match xT s d i with
  | some e=>some {val:= .mp d i (e.1+1),ups:=[(d,i,(e.1+1,.mp []))]}
  | none=>none
 | .alloc z=>match xT s d i with
  | some e=>some {val:= .ptr d i (e.1+1) 0,ups:=[(d,i,(e.1+1,.cells (z.map AV.var1)))]}
  | none=>none
 | .box n x=>match xT s d i with
  | some e=>if (s.ev x).cells.length=n/\(s.ev x).cells.all AV.one=true/\(s.ev x).upto d 20=true then
    some {val:= .ptr d i (e.1+1) 0,ups:=[(d,i,(e.1+1,.cells (s.ev x).cells))]}
   else none
  | none=>none
 | .bslice z ea ps=>match xT s d i with
  | some e=>if okEl z ea (ps.map s.ev)=true/\(ps.map s.ev).all (AV.upto d 20)=true then
    some {val:= .own d i (e.1+1) 0 ps.length z ea,ups:=[(d,i,(e.1+1,.cells (newC (ps.map s.ev))))]}
   else none
  | none=>none
 | .mkslice z bytes ea zero l c=>match xT s d i,s.ev l,s.ev c with
  | some e,.int _ n,.int _ m=>
   if 0<=n/\n=m/\n<=zD/\n*bytes<=zD/\zero.length=z/\0 < z then
    some {val:= .own d i (e.1+1) 0 n.toNat z ea,ups:=[(d,i,(e.1+1,.cells (yHW n.toNat zero).flatten))]}
   else none
  | _,_,_=>none
 | .append z bytes x y=>match s.evr x,uT s d z (s.ev y) with
  | .sl _ [] .nil,some (y0::ys,r)=>match xT s d i with
   | some e=>if okEl z (!y0.one) (y0::ys)=true/\(ys.length+1)*bytes<=zD then
     some {val:= .own d i (e.1+1) 0 (ys.length+1) z (!y0.one),ups:=[(d,i,(e.1+1,.cells (newC (y0::ys))))],rd:=r}
    else none
   | none=>none
  | .own d' i' g off len z' ea,some (ys,r)=>match s.look d' i' with
   | (g',.cells cs)=>if d'=d/\i'=i/\g'=g/\off=0/\z'=z/\len*z<=cs.length/\ys≠[]/\okEl z ea ys=true/\(len+ys.length)*bytes<=zD then
     some {val:= .own d i (g+1) 0 (len+ys.length) z ea,ups:=[(d,i,(g+1,.cells ((cs.take (len*z)).map AV.strip1++newC ys)))],rd:=r}
    else none
   | _=>none
  | _,_=>none
 | _=>none
inductive AC where
 | skip
 | region (ops:List AOper) (draw:Option (List (Nat×Nat)))
 | seq (a b:AC)
 | cond (c:Opd) (a b:AC)
 | block (id:Nat) (a:AC)
 | loop (a:AC)
 | exit (id:Nat)
 | ret
 | rangef (x:Opd) (ps:List Nat) (pre body:AC)
 /-- a region in which two stores to one variable come in either order -/
 | either (o0 o1 o2 o3:AOper)
 deriving Inhabited
inductive AI where
 | c (x:AC)
 | blk (id:Nat)
 | lp (body:AC)
 | ops (l:List AOper)
 /-- a region whose order is drawn: the pairs whose order is open,what is left,the effects so far -/
 | dr (pairs:List (Nat×Nat)) (l:List AOper) (done:List Eff)
 deriving Inhabited
def exitTo:Nat->List AI->Option (List AI)
 | id,.blk id'::k=>if id'=id then some k else exitTo id k
 | id,_::k=>exitTo id k
 | _,[]=>none
def Eff.apart (a b:Eff):Prop:=
 (∀u∈a.ups,∀v∈b.ups,(u.1,u.2.1)≠(v.1,v.2.1))/\(∀u∈a.ups,(u.1,u.2.1)∉b.rd)/\(∀v∈b.ups,(v.1,v.2.1)∉a.rd)/\
 (∀t∈a.dem,t∉b.dem)
def gate (s:St):Option (Nat×Bool)->Option Bool
 | none=>some true
 | some (t,w)=>match s.rd t with
  | .bool b=>some (b==w)
  | .ub=>none
  | _=>some false
abbrev zL:=Nat->FuncId->List AV->List (Nat×Nat×Ent)->AV->List (Nat×Nat×Ent)->Prop
def yid:FuncId:=1000000000
inductive OpE (C:zL) (s:St) (dst:Option Nat):AOp->Eff->Prop where
 | op {o:AOp} {e:Eff}:opf s dst o=some e->OpE C s dst o e
 | own {o:AOp} {e:Eff} {slot:Option Nat}:opfO s slot o=some e->OpE C s dst o e
 | plc {o:AOp} {e:Eff} {d i:Nat}:opfP s d i o=some e->OpE C s dst o e
 | comm {o:AOp} {e:Eff}:opfC s o=some e->OpE C s dst o e
 | call {f:FuncId} {args:List Opd} {M dl:List (Nat×Nat×Ent)} {r:AV}:f≠yid->
   C (s.D+1) f (args.map fun x=>(s.ev x).strip) M r dl->(∀m∈M,m.1<=s.D/\(m.1=s.D->m.2.1 < s.os.length)/\s.look m.1 m.2.1=m.2.2)->
   (∀u∈dl,(u.1,u.2.1)∈M.map (fun m=>(m.1,m.2.1))/\u.2.2.2≠ .dead)->
   OpE C s dst (.call f args) {val:=r,ups:=dl,rd:=M.map fun m=>(m.1,m.2.1)}
 | callL {f:FuncId} {args:List Opd} {M dl:List (Nat×Nat×Ent)} {r:AV}:f≠yid->(args.flatMap Opd.tmp).Nodup->
   C (s.D+1) f (args.map fun x=>(s.evr x).keep) M r dl->(∀m∈M,m.1<=s.D/\(m.1=s.D->m.2.1 < s.os.length)/\s.look m.1 m.2.1=m.2.2)->
   (∀u∈dl,(u.1,u.2.1)∈M.map (fun m=>(m.1,m.2.1))/\u.2.2.2≠ .dead)->
   OpE C s dst (.callL f args) {val:=r,ups:=dl,dem:=args.flatMap Opd.tmp,rd:=M.map fun m=>(m.1,m.2.1)}
 | callv {f:FuncId} {cap:List AV} {x:Opd} {args:List Opd} {M dl:List (Nat×Nat×Ent)} {r:AV}:f≠yid->
   s.ev x= .fn f cap->C (s.D+1) f ((args.map fun x=>(s.ev x).strip)++cap.map AV.strip) M r dl->(∀m∈M,m.1<=s.D/\(m.1=s.D->m.2.1 < s.os.length)/\s.look m.1 m.2.1=m.2.2)->
   (∀u∈dl,(u.1,u.2.1)∈M.map (fun m=>(m.1,m.2.1))/\u.2.2.2≠ .dead)->
   OpE C s dst (.callv x args) {val:=r,ups:=dl,rd:=M.map fun m=>(m.1,m.2.1)}
 | callm {f:FuncId} {bs:List AV} {x:Opd} {args:List Opd} {M dl:List (Nat×Nat×Ent)} {r:AV}:f≠yid->
   s.ev x= .meth f bs->C (s.D+1) f (bs.map AV.strip++(args.map fun x=>(s.ev x).strip)) M r dl->(∀m∈M,m.1<=s.D/\(m.1=s.D->m.2.1 < s.os.length)/\s.look m.1 m.2.1=m.2.2)->
   (∀u∈dl,(u.1,u.2.1)∈M.map (fun m=>(m.1,m.2.1))/\u.2.2.2≠ .dead)->
   OpE C s dst (.callv x args) {val:=r,ups:=dl,rd:=M.map fun m=>(m.1,m.2.1)}
 | yld {d i g:Nat} {x:Opd} {args:List Opd} {M dl:List (Nat×Nat×Ent)} {r:AV}:
   s.ev x= .yl d i g->C (s.D+1) yid (.yl d i g::args.map fun x=>(s.ev x).strip) M r dl->(∀m∈M,m.1<=s.D/\(m.1=s.D->m.2.1 < s.os.length)/\s.look m.1 m.2.1=m.2.2)->
   (∀u∈dl,(u.1,u.2.1)∈M.map (fun m=>(m.1,m.2.1))/\u.2.2.2≠ .dead)->
   OpE C s dst (.callv x args) {val:=r,ups:=dl,rd:=M.map fun m=>(m.1,m.2.1)}
 | emp {z:Nat} {ea:Bool} {d:Nat} {ent:Ent}:dst=some d->s.os[d]?=some ent->OpE C s dst (.bslice z ea []) {val:= .own s.D d (ent.1+1) 0 0 z ea,ups:=[(s.D,d,(ent.1+1,.cells []))]}
inductive Way where
 | fall
 | ret
 | exit (id:Nat)
 /-- it comes to a loop over a function -/
 | stop (x:Opd) (ps:List Nat) (pre body:AC) (k:List AI)
inductive RunW (C:zL) (Q:Way->St->Prop):List AI->St->Prop where
 | done {s}:Q .fall s->RunW C Q [] s
 | ret {k s}:Q .ret s->RunW C Q (.c .ret::k) s
 | out {id k s}:exitTo id k=none->Q (.exit id) s->RunW C Q (.c (.exit id)::k) s
 | stop {x ps pre body k s}:Q (.stop x ps pre body k) s->RunW C Q (.c (.rangef x ps pre body)::k) s
 | skip {k s}:RunW C Q k s->RunW C Q (.c .skip::k) s
 | seq {a b k s}:RunW C Q (.c a:: .c b::k) s->RunW C Q (.c (.seq a b)::k) s
 | cond {c a b k s t}:s.ev c= .bool t->RunW C Q (.c (if t then a else b)::k) s->RunW C Q (.c (.cond c a b)::k) s
 | condU {c a b k s}:s.ev c= .ub->RunW C Q (.c a::k) s->RunW C Q (.c b::k) s->RunW C Q (.c (.cond c a b)::k) s
 | block {id a k s}:RunW C Q (.c a:: .blk id::k) s->RunW C Q (.c (.block id a)::k) s
 | blk {id k s}:RunW C Q k s->RunW C Q (.blk id::k) s
 | loop {a k s}:RunW C Q (.c a:: .lp a::k) s->RunW C Q (.c (.loop a)::k) s
 | lp {a k s}:RunW C Q (.c a:: .lp a::k) s->RunW C Q (.lp a::k) s
 | exit {id k k' s}:exitTo id k=some k'->RunW C Q k' s->RunW C Q (.c (.exit id)::k) s
 | region {l k s}:RunW C Q (.ops l::k) s->RunW C Q (.c (.region l none)::k) s
 | opsNil {k s}:RunW C Q k s->RunW C Q (.ops []::k) s
 | opsOn {o l k s e}:gate s o.guard=some true->OpE C s o.dst o.op e->RunW C Q (.ops l::k) (s.app o.dst e)->RunW C Q (.ops (o::l)::k) s
 | opsOff {o l k s}:gate s o.guard=some false->RunW C Q (.ops l::k) (s.put o.dst ud)->RunW C Q (.ops (o::l)::k) s
 | either {o0 o1 o2 o3 k s e0}:gate s o0.guard=some true->OpE C s o0.dst o0.op e0->RunW C Q (.ops [o1,o2,o3]::k) (s.app o0.dst e0)->RunW C Q (.ops [o2,o1,o3]::k) (s.app o0.dst e0)->RunW C Q (.c (.either o0 o1 o2 o3)::k) s
 | draw {l ps k s}:RunW C Q (.dr ps l []::k) s->RunW C Q (.c (.region l (some ps))::k) s
 | drOn {o l ps es k s e}:gate s o.guard=some true->OpE C s o.dst o.op e->RunW C Q (.dr ps l (es++[e])::k) (s.app o.dst e)->RunW C Q (.dr ps (o::l) es::k) s
 | drOff {o l ps es k s}:gate s o.guard=some false->RunW C Q (.dr ps l (es++[({}:Eff)])::k) (s.put o.dst ud)->RunW C Q (.dr ps (o::l) es::k) s
 | drNil {ps es k s}:(∀p∈ps,(es.getD p.1 ({}:Eff)).apart (es.getD p.2 ({}:Eff)))->RunW C Q k s->RunW C Q (.dr ps [] es::k) s
def fnQ (Q:St->Prop):Way->St->Prop
 | .exit _,_=>False
 | .stop ..,_=>False
 | _,s=>Q s
abbrev Run (C:zL) (Q:St->Prop):List AI->St->Prop:=RunW C (fnQ Q)
theorem RunW.imp {C:zL} {Q Q':Way->St->Prop} {k:List AI} {s:St} (hq:∀w s,Q w s->Q' w s) (hr:RunW C Q k s):RunW C Q' k s:=by
 induction hr with
 | done h=>exact .done (hq _ _ h)
 | ret h=>exact .ret (hq _ _ h)
 | out h1 h=>exact .out h1 (hq _ _ h)
 | stop h=>exact .stop (hq _ _ h)
 | skip _ ih=>exact .skip ih
 | seq _ ih=>exact .seq ih
 | cond h _ ih=>exact .cond h ih
 | condU h _ _ ih1 ih2=>exact .condU h ih1 ih2
 | block _ ih=>exact .block ih
 | blk _ ih=>exact .blk ih
 | loop _ ih=>exact .loop ih
 | lp _ ih=>exact .lp ih
 | exit h _ ih=>exact .exit h ih
 | region _ ih=>exact .region ih
 | opsNil _ ih=>exact .opsNil ih
 | opsOn h1 h2 _ ih=>exact .opsOn h1 h2 ih
 | opsOff h _ ih=>exact .opsOff h ih
 | either h1 h2 _ _ ih1 ih2=>exact .either h1 h2 ih1 ih2
 | draw _ ih=>exact .draw ih
 | drOn h1 h2 _ ih=>exact .drOn h1 h2 ih
 | drOff h _ ih=>exact .drOff h ih
 | drNil h _ ih=>exact .drNil h ih
end Go.Ab
/- What an abstract state says of memory. -/
namespace Go.Ab
open Go
structure GE where
 /-- cells that are never written again,and what they hold -/
 imm:Nat->Nat->Option Value
 /-- where an object lies: depth,temporary,generation -/
 loc:Nat->Nat->Nat->Option Nat
 /-- how many cells an object's block has at least -/
 room:Nat->Nat
def GE.to (E:GE) (d:Nat):GE:={imm:=E.imm,loc:=fun d' i g=>if d'<=d then E.loc d' i g else none,room:=E.room}
structure GE.le (E E':GE):Prop where
 imm:∀b o v,E.imm b o=some v->E'.imm b o=some v
 loc:∀d i g B,E.loc d i g=some B->E'.loc d i g=some B
 room:∀d i g B,E.loc d i g=some B->E'.room B=E.room B
theorem GE.le_refl (E:GE):E.le E:=⟨fun _ _ _ h=>h,fun _ _ _ _ h=>h,fun _ _ _ _ _=>rfl⟩
theorem GE.le_trans {A B C:GE} (h:A.le B) (k:B.le C):A.le C:=⟨fun _ _ _ x=>k.1 _ _ _ (h.1 _ _ _ x),fun _ _ _ _ x=>k.2 _ _ _ _ (h.2 _ _ _ _ x),fun _ _ _ _ x=>(k.3 _ _ _ _ (h.2 _ _ _ _ x)).trans (h.3 _ _ _ _ x)⟩
theorem GE.le_to {E E':GE} (h:E.le E') (d:Nat):(E.to d).le (E'.to d):=by
 refine ⟨h.1,fun d' i g B hb=> ?_,fun d' i g B hb=> ?_⟩
 ·simp only[GE.to] at hb|-;split at hb
  ·rename_i hd;rw[if_pos hd];exact h.2 _ _ _ _ hb
  ·simp at hb
 ·simp only[GE.to] at hb|-;split at hb
  ·exact h.3 _ _ _ _ hb
  ·simp at hb
theorem GE.to_le (E:GE) (d:Nat):(E.to d).le E:=by
 refine ⟨fun _ _ _ h=>h,fun d' i g B hb=> ?_,fun _ _ _ _ _=>rfl⟩;simp only[GE.to] at hb;split at hb
 ·exact hb
 ·simp at hb
def yC (xs:List AV):List AV:=xs.flatMap AV.cells
inductive RelI (imm:Nat->Nat->Option Value):AV->Value->Prop where
 | bool (b):RelI imm (.bool b) (.bool b)
 | ub (b):RelI imm .ub (.bool b)
 | int (k n):RelI imm (.int k n) (.int k n)
 | str (s):RelI imm (.str s) (.string s)
 | nilp:RelI imm .nilp (.pointer none)
 | nilf:RelI imm .nilf .nilFunc
 | nili:RelI imm .nili .nilIface
 | nilm:RelI imm .nilm (.map none)
 | slq (a n cap):RelI imm (.slq a.isNone) (.slice a n cap)
 | slE (z t a cap):(t= .nil->a=none)->(a=none->cap=0)->RelI imm (.sl z [] t) (.slice a 0 cap)
 | slN (z:Nat) (xs:List AV) (t:Tip) (b o cap:Nat) (vs:Nat->Value):xs≠[]->xs.length<=cap->t≠ .nil->(∀x∈xs,x.cells.length=z)->
   (∀(i:Nat) (c:AV),(yC xs)[i]?=some c->RelI imm c (vs i))->(∀i,i < (yC xs).length->imm b (o+i)=some (vs i))->
   RelI imm (.sl z xs t) (.slice (some ⟨b,o,none⟩) xs.length cap)
 | box (cs:List AV) (off b o:Nat) (vs:Nat->Value):(∀(i:Nat) (c:AV),cs[i]?=some c->RelI imm c (vs i))->(∀i,i < cs.length->imm b (o+i)=some (vs i))->
   RelI imm (.box cs off) (.pointer (some ⟨b,o+off,none⟩))
 | agg (cs:List AV) (vs:List Value):cs.length=vs.length->(∀(i:Nat) (c:AV) (v:Value),cs[i]?=some c->vs[i]?=some v->RelI imm c v)->RelI imm (.agg cs) (.agg vs.toArray)
 | tup (cs:List AV) (vs:List Value):cs.length=vs.length->(∀(i:Nat) (c:AV) (v:Value),cs[i]?=some c->vs[i]?=some v->RelI imm c v)->RelI imm (.tup cs) (.tuple vs.toArray)
 | ifc (t a v):RelI imm a v->RelI imm (.ifc t a) (.iface t v)
 | fn (f:FuncId) (cs:List AV) (vs:List Value):cs.length=vs.length->(∀(i:Nat) (c:AV) (v:Value),cs[i]?=some c->vs[i]?=some v->RelI imm c v)->RelI imm (.fn f cs) (.func (.func f) #[] vs.toArray)
inductive Rel (E:GE):AV->Value->Prop where
 | imm (a v):RelI E.imm a v->Rel E a v
 | ptr (d i g off B):E.loc d i g=some B->Rel E (.ptr d i g off) (.pointer (some ⟨B,off,none⟩))
 | own (d i g off len z ea B cap):E.loc d i g=some B->len<=cap->off+cap*z<=E.room B->Rel E (.own d i g off len z ea) (.slice (some ⟨B,off,none⟩) len cap)
 | mp (d i g B):E.loc d i g=some B->Rel E (.mp d i g) (.map (some B))
 | ch (d i g B):E.loc d i g=some B->Rel E (.ch d i g) (.chan (some B))
 | yl (d i g B):E.loc d i g=some B->Rel E (.yl d i g) (.func (.yield B) #[] #[])
 | agg (cs:List AV) (vs:List Value):cs.length=vs.length->(∀(i:Nat) (c:AV) (v:Value),cs[i]?=some c->vs[i]?=some v->Rel E c v)->Rel E (.agg cs) (.agg vs.toArray)
 | tup (cs:List AV) (vs:List Value):cs.length=vs.length->(∀(i:Nat) (c:AV) (v:Value),cs[i]?=some c->vs[i]?=some v->Rel E c v)->Rel E (.tup cs) (.tuple vs.toArray)
 | ifc (t a v):Rel E a v->Rel E (.ifc t a) (.iface t v)
 | fn (f:FuncId) (cs:List AV) (vs:List Value):cs.length=vs.length->(∀(i:Nat) (c:AV) (v:Value),cs[i]?=some c->vs[i]?=some v->Rel E c v)->Rel E (.fn f cs) (.func (.func f) #[] vs.toArray)
 | meth (f:FuncId) (cs:List AV) (vs:List Value):cs.length=vs.length->(∀(i:Nat) (c:AV) (v:Value),cs[i]?=some c->vs[i]?=some v->Rel E c v)->Rel E (.meth f cs) (.func (.func f) vs.toArray #[])
 | bx (h:Nat) (cs:List AV) (off b o:Nat) (vs:Nat->Value):(∀(i:Nat) (c:AV),cs[i]?=some c->Rel E c (vs i))->(∀c∈cs,∃n,c.upto h n=true)->(∀i,i < cs.length->E.imm b (o+i)=some (vs i))->
   Rel E (.bx h cs off) (.pointer (some ⟨b,o+off,none⟩))
theorem RelI.mono {imm imm':Nat->Nat->Option Value} (h:∀b o v,imm b o=some v->imm' b o=some v) {a v} (r:RelI imm a v):RelI imm' a v:=by
 induction r with
 | bool b=>exact .bool b
 | ub b=>exact .ub b
 | int k n=>exact .int k n
 | str s=>exact .str s
 | nilp=>exact .nilp
 | nilf=>exact .nilf
 | nili=>exact .nili
 | nilm=>exact .nilm
 | slE z t a cap h1 h2=>exact .slE z t a cap h1 h2
 | slq a n cap=>exact .slq a n cap
 | slN z xs t b o cap vs h1 h2 h3 h4 h5 h6 ih=>exact .slN z xs t b o cap vs h1 h2 h3 h4 ih (fun i hi=>h _ _ _ (h6 i hi))
 | box cs off b o vs h1 h2 ih=>exact .box cs off b o vs ih (fun i hi=>h _ _ _ (h2 i hi))
 | agg cs vs h1 h2 ih=>exact .agg cs vs h1 ih
 | tup cs vs h1 h2 ih=>exact .tup cs vs h1 ih
 | ifc t a v _ ih=>exact .ifc t a v ih
 | fn f cs vs h1 h2 ih=>exact .fn f cs vs h1 ih
theorem Rel.mono {E E':GE} (h:E.le E') {a v} (r:Rel E a v):Rel E' a v:=by
 induction r with
 | imm a v r=>exact .imm a v (r.mono h.1)
 | ptr d i g off B hb=>exact .ptr d i g off B (h.2 _ _ _ _ hb)
 | own d i g off len z ea B cap hb hc hr=>exact .own d i g off len z ea B cap (h.2 _ _ _ _ hb) hc (by rw[h.3 _ _ _ _ hb];exact hr)
 | mp d i g B hb=>exact .mp d i g B (h.2 _ _ _ _ hb)
 | ch d i g B hb=>exact .ch d i g B (h.2 _ _ _ _ hb)
 | yl d i g B hb=>exact .yl d i g B (h.2 _ _ _ _ hb)
 | agg cs vs h1 h2 ih=>exact .agg cs vs h1 ih
 | tup cs vs h1 h2 ih=>exact .tup cs vs h1 ih
 | ifc t a v _ ih=>exact .ifc t a v ih
 | fn f cs vs h1 h2 ih=>exact .fn f cs vs h1 ih
 | meth f cs vs h1 h2 ih=>exact .meth f cs vs h1 ih
 | bx k cs off b o vs h1 h2 h3 ih=>exact .bx k cs off b o vs ih h2 (fun i hi=>h.1 _ _ _ (h3 i hi))
section inv
variable {E:GE} {v:Value}
theorem Rel.bool_inv {b} (h:Rel E (.bool b) v):v= .bool b:=by cases h with | imm _ _ h=>cases h;rfl
theorem Rel.int_inv {k n} (h:Rel E (.int k n) v):v= .int k n:=by cases h with | imm _ _ h=>cases h;rfl
theorem Rel.slq_inv {b} (h:Rel E (.slq b) v):∃a n cap,v= .slice a n cap/\b=a.isNone:=by cases h with | imm _ _ h=>cases h with | slq a n cap=>exact ⟨a,n,cap,rfl,rfl⟩
theorem Rel.str_inv {s} (h:Rel E (.str s) v):v= .string s:=by cases h with | imm _ _ h=>cases h;rfl
theorem Rel.ptr_inv {d i g off} (h:Rel E (.ptr d i g off) v):∃B,E.loc d i g=some B/\v= .pointer (some ⟨B,off,none⟩):=by
 cases h with
 | imm _ _ h=>cases h
 | ptr _ _ _ _ B hb=>exact ⟨B,hb,rfl⟩
theorem Rel.own_inv {d i g off len z ea} (h:Rel E (.own d i g off len z ea) v):∃B cap,E.loc d i g=some B/\len<=cap/\v= .slice (some ⟨B,off,none⟩) len cap:=by
 cases h with
 | imm _ _ h=>cases h
 | own _ _ _ _ _ _ _ B cap hb hc hr=>exact ⟨B,cap,hb,hc,rfl⟩
theorem Rel.own_inv' {d i g off len z ea} (h:Rel E (.own d i g off len z ea) v):∃B cap,E.loc d i g=some B/\len<=cap/\off+cap*z<=E.room B/\v= .slice (some ⟨B,off,none⟩) len cap:=by
 cases h with
 | imm _ _ h=>cases h
 | own _ _ _ _ _ _ _ B cap hb hc hr=>exact ⟨B,cap,hb,hc,hr,rfl⟩
theorem Rel.agg_inv {cs} (h:Rel E (.agg cs) v):∃vs:List Value,v= .agg vs.toArray/\cs.length=vs.length/\∀(i:Nat) (c:AV) (u:Value),cs[i]?=some c->vs[i]?=some u->Rel E c u:=by
 cases h with
 | imm _ _ h=>cases h with | agg _ vs h1 h2=>exact ⟨vs,rfl,h1,fun i c u hc hu=> .imm _ _ (h2 i c u hc hu)⟩
 | agg _ vs h1 h2=>exact ⟨vs,rfl,h1,h2⟩
theorem Rel.tup_inv {cs} (h:Rel E (.tup cs) v):∃vs:List Value,v= .tuple vs.toArray/\cs.length=vs.length/\∀(i:Nat) (c:AV) (u:Value),cs[i]?=some c->vs[i]?=some u->Rel E c u:=by
 cases h with
 | imm _ _ h=>cases h with | tup _ vs h1 h2=>exact ⟨vs,rfl,h1,fun i c u hc hu=> .imm _ _ (h2 i c u hc hu)⟩
 | tup _ vs h1 h2=>exact ⟨vs,rfl,h1,h2⟩
theorem Rel.fn_inv {f cs} (h:Rel E (.fn f cs) v):∃vs:List Value,v= .func (.func f) #[] vs.toArray/\cs.length=vs.length/\∀(i:Nat) (c:AV) (u:Value),cs[i]?=some c->vs[i]?=some u->Rel E c u:=by
 cases h with
 | imm _ _ h=>cases h with | fn _ _ vs h1 h2=>exact ⟨vs,rfl,h1,fun i c u hc hu=> .imm _ _ (h2 i c u hc hu)⟩
 | fn _ _ vs h1 h2=>exact ⟨vs,rfl,h1,h2⟩
theorem Rel.meth_inv {f cs} (h:Rel E (.meth f cs) v):∃vs:List Value,v= .func (.func f) vs.toArray #[]/\cs.length=vs.length/\∀(i:Nat) (c:AV) (u:Value),cs[i]?=some c->vs[i]?=some u->Rel E c u:=by
 cases h with
 | imm _ _ h=>cases h
 | meth _ _ vs h1 h2=>exact ⟨vs,rfl,h1,h2⟩
theorem Rel.bx_inv {k cs off} (h:Rel E (.bx k cs off) v):∃b o,∃vs:Nat->Value,v= .pointer (some ⟨b,o+off,none⟩)/\(∀(i:Nat) (c:AV),cs[i]?=some c->Rel E c (vs i))/\(∀c∈cs,∃n,c.upto k n=true)/\(∀i,i < cs.length->E.imm b (o+i)=some (vs i)):=by
 cases h with
 | imm _ _ h=>cases h
 | bx _ _ _ b o vs h1 h2 h3=>exact ⟨b,o,vs,rfl,h1,h2,h3⟩
theorem Rel.sl_inv {z xs t} (h:Rel E (.sl z xs t) v):∃a cap,v= .slice a xs.length cap/\RelI E.imm (.sl z xs t) v:=by
 cases h with
 | imm _ _ h=>
  have h0:=h;cases h with
  | slE _ _ a cap _ _=>exact ⟨a,cap,rfl,h0⟩
  | slN _ _ _ b o cap _ _ _ _ _ _ _=>exact ⟨_,cap,rfl,h0⟩
theorem Rel.box_inv {cs off} (h:Rel E (.box cs off) v):∃b o,∃vs:Nat->Value,v= .pointer (some ⟨b,o+off,none⟩)/\(∀(i:Nat) (c:AV),cs[i]?=some c->RelI E.imm c (vs i))/\(∀i,i < cs.length->E.imm b (o+i)=some (vs i)):=by
 cases h with
 | imm _ _ h=>cases h with | box _ _ b o vs h1 h2=>exact ⟨b,o,vs,rfl,h1,h2⟩
end inv
theorem RelI.sl_tip {imm} {z xs t t' v} (h:RelI imm (.sl z xs t) v) (ht:t'= .nil->t= .nil):RelI imm (.sl z xs t') v:=by
 cases h with
 | slE _ _ a cap h1 h2=>exact .slE z t' a cap (fun e=>h1 (ht e)) h2
 | slN _ _ _ b o cap vs h1 h2 h3 h4 h5 h6=>exact .slN z xs t' b o cap vs h1 h2 (fun e=>h3 (ht e)) h4 h5 h6
theorem Tip.dem_nil {t:Tip} (h:t.dem= .nil):t= .nil:=by cases t<;>simp_all[Tip.dem]
theorem Rel.sl_tip {E:GE} {z xs t t' v} (h:Rel E (.sl z xs t) v) (ht:t'= .nil->t= .nil):Rel E (.sl z xs t') v:=by
 cases h with | imm _ _ h=>exact .imm _ _ (h.sl_tip ht)
theorem Rel.dem1 {E:GE} {a v} (h:Rel E a v):Rel E a.dem1 v:=by
 cases a<;>first | exact h | exact h.sl_tip Tip.dem_nil
theorem Rel.strip1 {E:GE} {a v} (h:Rel E a v):Rel E a.strip1 v:=by
 cases a<;>first | exact h | exact h.sl_tip (by simp)
theorem Rel.var1 {E:GE} {a v} (h:Rel E a v):Rel E a.var1 v:=by
 cases a with
 | sl z xs t=>cases t<;>first | exact h | exact h.sl_tip (by simp)
 | _=>exact h
theorem RelI.strip1 {imm} {a v} (h:RelI imm a v):RelI imm a.strip1 v:=by
 cases a<;>first | exact h | exact h.sl_tip (by simp)
theorem RelI.dem1 {imm} {a v} (h:RelI imm a v):RelI imm a.dem1 v:=by
 cases a<;>first | exact h | exact h.sl_tip Tip.dem_nil
theorem Rel.mapc {E:GE} {f:AV->AV} (hf:∀a v,Rel E a v->Rel E (f a) v) {cs:List AV} {vs:List Value}
  (h:∀(i:Nat) (c:AV) (v:Value),cs[i]?=some c->vs[i]?=some v->Rel E c v):∀(i:Nat) (c:AV) (v:Value),(cs.map f)[i]?=some c->vs[i]?=some v->Rel E c v:=by
 intro i c v hc hv;rw[yHB,yGT] at hc;obtain ⟨c0,h0,rfl⟩:=hc;exact hf _ _ (h i c0 v h0 hv)
theorem Rel.dem {E:GE} {a v} (h:Rel E a v):Rel E a.dem v:=by
 cases a with
 | sl z xs t=>exact h.sl_tip Tip.dem_nil
 | agg cs=>obtain ⟨vs,rfl,hl,hr⟩:=h.agg_inv;exact .agg _ vs (by simpa using hl) (Rel.mapc (fun _ _=>Rel.dem1) hr)
 | tup cs=>obtain ⟨vs,rfl,hl,hr⟩:=h.tup_inv;exact .tup _ vs (by simpa using hl) (Rel.mapc (fun _ _=>Rel.dem1) hr)
 | _=>exact h
theorem Rel.strip {E:GE} {a v} (h:Rel E a v):Rel E a.strip v:=by
 cases a with
 | sl z xs t=>exact h.sl_tip (by simp)
 | agg cs=>obtain ⟨vs,rfl,hl,hr⟩:=h.agg_inv;exact .agg _ vs (by simpa using hl) (Rel.mapc (fun _ _=>Rel.strip1) hr)
 | tup cs=>obtain ⟨vs,rfl,hl,hr⟩:=h.tup_inv;exact .tup _ vs (by simpa using hl) (Rel.mapc (fun _ _=>Rel.strip1) hr)
 | _=>exact h
theorem Rel.cells {E:GE} {a v} (h:Rel E a v):a.cells.length=v.cells.size/\∀(i:Nat) (c:AV) (u:Value),a.cells[i]?=some c->v.cells[i]?=some u->Rel E c u:=by
 have one:(∀cs,a≠ .agg cs)->a.cells= [a]:=by intro hn;cases a<;>first | rfl | exact absurd rfl (hn _)
 by_cases hagg:∃cs,a= .agg cs
 ·obtain ⟨cs,rfl⟩:=hagg;obtain ⟨vs,rfl,hl,hr⟩:=h.agg_inv;refine ⟨by simpa[AV.cells,Value.cells] using hl,?_⟩;intro i c u hc hu;simp only[AV.cells,Value.cells] at hc hu;exact hr i c u hc (by simpa using hu)
 ·have ha:=one (fun cs e=>hagg ⟨cs,e⟩);have hv:v.cells= #[v]:=by
   cases h with
   | agg cs _ _ _=>exact absurd ⟨cs,rfl⟩ hagg
   | imm _ _ h=>cases h<;>first | rfl | (exact absurd ⟨_,rfl⟩ hagg)
   | _=>rfl
  rw[ha,hv];refine ⟨rfl,?_⟩;intro i c u hc hu;rcases i with _ | i
  ·simp at hc hu;subst hc;subst hu;exact h
  ·simp at hc
inductive Lc where
 | t (i:Nat)
 | o (d i j:Nat)
def obAt (E:GE) (w:World) (d B:Nat):Ob->Prop
 | .dead=>False
 | .cells cs=>∃arr el,w.heap[B]?=some (.cells arr el (0,0))/\cs.length<=arr.size/\(∀(j:Nat) (v:Value),arr[j]?=some v->v.oneCell'=true)/\∀(j:Nat) (c:AV) (v:Value),cs[j]?=some c->arr[j]?=some v->Rel (E.to d) c v
 | .mp es=>∃ents clk,w.heap[B]?=some (.map ents clk)/\ents.size=es.length/\∀(j:Nat) (p:AV×AV) (m:MapEntry),es[j]?=some p->ents[j]?=some m->RelI E.imm p.1 m.key/\Rel (E.to d) p.2 m.val
 | .lp r ts=>w.heap[B]?=some (.loop r)/\r.tmps.size=ts.length/\∀(j:Nat) (c:AV) (v:Value),ts[j]?=some c->r.tmps[j]?=some v->Rel (E.to d) c v
 | .ch cap buf=>∃arr sent rcvd,w.heap[B]?=some (.chan cap arr false sent rcvd false)/\arr.size=buf.length/\∀(j:Nat) (c:AV) (v:Value),buf[j]?=some c->arr[j]?=some v->RelI E.imm c v
def Live (E:GE) (s:St) (d i B:Nat):Prop:=(s.look d i).2≠ .dead/\E.loc d i (s.look d i).1=some B
inductive Tipped:AV->Value->Nat->Nat->Addr->Nat->Prop where
 | sl (z:Nat) (xs:List AV) (ad:Addr) (cap:Nat):xs.length < cap->Tipped (.sl z xs .tip) (.slice (some ad) xs.length cap) z xs.length ad cap
 | agg (as:List AV) (us:Array Value) (j z:Nat) (xs:List AV) (ad:Addr) (cap:Nat):as[j]?=some (.sl z xs .tip)->us[j]?=some (.slice (some ad) xs.length cap)->xs.length < cap->Tipped (.agg as) (.agg us) z xs.length ad cap
 | tup (as:List AV) (us:Array Value) (j z:Nat) (xs:List AV) (ad:Addr) (cap:Nat):as[j]?=some (.sl z xs .tip)->us[j]?=some (.slice (some ad) xs.length cap)->xs.length < cap->Tipped (.tup as) (.tuple us) z xs.length ad cap
inductive Hold (E:GE) (w:World) (s:St) (vs:Array Value):Lc->Addr->Nat->Nat->Nat->Prop where
 | t (i:Nat) (a:AV) (v:Value) (ad:Addr) (z n cap:Nat):s.ts[i]?=some a->vs[i]?=some v->Tipped a v z n ad cap->Hold E w s vs (.t i) ad z n cap
 | o (d i j g cs z xs B arr el ad cap):s.look d i=(g,.cells cs)->cs[j]?=some (.sl z xs .tip)->E.loc d i g=some B->
   w.heap[B]?=some (.cells arr el (0,0))->arr[j]?=some (.slice (some ad) xs.length cap)->xs.length < cap->Hold E w s vs (.o d i j) ad z xs.length cap
structure TipOk (prot:Nat->Prop) (E:GE) (w:World) (s:St) (ad:Addr) (z n cap:Nat):Prop where
 spot:ad.spot=none
 room:∃arr el,w.heap[ad.block]?=some (.cells arr el (0,0))/\ad.off+cap*z<=arr.size
 free:∀p,ad.off+n*z<=p->E.imm ad.block p=none
 notp:¬prot ad.block
 noob:∀d i,¬Live E s d i ad.block
structure Ok (G:Nat->Option (List AV)) (prot:Nat->Prop) (w0:World) (E0 E:GE) (w:World) (s:St) (vs:Array Value):Prop where
 size:vs.size=s.ts.length
 rel:∀(i:Nat) (a:AV) (v:Value),s.ts[i]?=some a->vs[i]?=some v->Rel E a v
 imm:∀b o v,E.imm b o=some v->∃arr el fz,w.heap[b]?=some (.cells arr el fz)/\arr[o]?=some v/\v.oneCell'=true
 locs:∀d i g B,E.loc d i g=some B->d<=s.D/\g<=(s.look d i).1/\B < w.heap.size
 rooms:∀d i g B,E.loc d i g=some B->∀arr el fz,w.heap[B]?=some (.cells arr el fz)->E.room B<=arr.size
 objs:∀d i,(s.look d i).2≠ .dead->∃B,E.loc d i (s.look d i).1=some B/\obAt E w d B (s.look d i).2/\(∀p,E.imm B p=none)/\¬prot B
 inj:∀d i d' i' B,Live E s d i B->Live E s d' i' B->d=d'/\i=i'
 tips:∀l ad z n cap,Hold E w s vs l ad z n cap->TipOk prot E w s ad z n cap
 tinj:∀l l' ad ad' z z' n n' cap cap',Hold E w s vs l ad z n cap->Hold E w s vs l' ad' z' n' cap'->ad.block=ad'.block->l=l'
 glob:∀g cs,G g=some cs->∀(j:Nat) (c:AV),cs[j]?=some c->∃v,E.imm g j=some v/\RelI E.imm c v
 frame:∀b,prot b->b < w0.heap.size/\w.heap[b]?=w0.heap[b]?
 grow:w0.heap.size<=w.heap.size
 same:w.os=w0.os/\w.tape=w0.tape/\w.output=w0.output
 ifr:∀b,prot b->∀o,E.imm b o=E0.imm b o
def upds (S:Nat->Nat->Ent) (dl:List (Nat×Nat×Ent)):Nat->Nat->Ent:=dl.foldl (fun S u=>updS S u.1 u.2.1 u.2.2) S
def zFB (P : Program) (f : FuncId) : Prop := ∃ fn,P.funcs[f]? = some fn ∧ fn.body.isNone = false ∧ (fn.name == "runtime.NumGoroutine") = false
def GE.leC (D:Nat) (E E':GE):Prop:=(∀d i g B,E.loc d i g=some B->E'.loc d i g=some B)/\∀d i g B,E'.loc d i g=some B->d < D\/E.loc d i g=some B
def zOE (G:Nat->Option (List AV)) (prot:Nat->Prop) (w0:World) (E0 E:GE) (D:Nat) (S:Nat->Nat->Ent) (r:AV) (dl:List (Nat×Nat×Ent)) (v:Value) (w':World):Prop:=
 ∃E',(∀b o x,E.imm b o=some x->E'.imm b o=some x)/\GE.leC D E E'/\(∀d i g B,E.loc d i g=some B->E'.room B=E.room B)/\Ok G prot w0 E0 E' w' ⟨[r],[],D,upds S dl⟩ #[v]
def RLoc (P:Program) (G:Nat->Option (List AV)) (D:Nat) (args:List AV) (M:List (Nat×Nat×Ent)) (r:AV) (dl:List (Nat×Nat×Ent)):Prop:=
 ∀(prot:Nat->Prop) (w0:World) (E0 E:GE) (w:World) (S:Nat->Nat->Ent) (B:Nat) (us:List Value),
  Ok G prot w0 E0 E w ⟨args,[],D,S⟩ (.func (.yield B) #[] #[]::us).toArray->(∀m∈M,m.1 < D/\S m.1 m.2.1=m.2.2)->
  ∃(f:FuncId) (tm:Array Value) (asg body:Code),(Instr.yield B us.toArray).run P w= .ok (.round B f tm asg body) w/\
   ∀(c:Frame) (cs:List Frame),∃v w',Steps P (lone (Frame.round B f tm asg body .normal) (c::cs) w) (lone (c.finish v) cs w')/\zOE G prot w0 E0 E D S r dl v w'
def Loc0 (P:Program) (G:Nat->Option (List AV)):zL:=fun D f args M r dl=>
 zFB P f/\∀(prot:Nat->Prop) (w0:World) (E0 E:GE) (w:World) (S:Nat->Nat->Ent) (vs:Array Value),
  Ok G prot w0 E0 E w ⟨args,[],D,S⟩ vs->(∀m∈M,m.1 < D/\S m.1 m.2.1=m.2.2)->
  Calls P f vs w fun e w'=>∃v E',e= .returned v/\(∀b o x,E.imm b o=some x->E'.imm b o=some x)/\GE.leC D E E'/\(∀d i g B,E.loc d i g=some B->E'.room B=E.room B)/\
   Ok G prot w0 E0 E' w' ⟨[r],[],D,upds S dl⟩ #[v]
def Loc (P:Program) (G:Nat->Option (List AV)):zL:=fun D f args M r dl=>(f≠yid/\Loc0 P G D f args M r dl)\/(f=yid/\RLoc P G D args M r dl)
def PGood (P:Program):Prop:=P.follows .mixedOrders=true/\P.funcs.size<=yid
theorem PGood.ne {P:Program} (h:PGood P) {f:FuncId} {fn:Func} (hf:P.funcs[f]?=some fn):f≠yid:=by
 have h1:=(yHX.1 hf).1;have h2:=h.2;intro e;rw[e] at h1;exact Nat.lt_irrefl _ (yHY h1 h2)
theorem Loc.fn {P:Program} {G:Nat->Option (List AV)} {D:Nat} {f:FuncId} {args:List AV} {M dl:List (Nat×Nat×Ent)} {r:AV} (h:Loc P G D f args M r dl) (hf:f≠yid):Loc0 P G D f args M r dl:=(h.resolve_right fun q=>hf q.1).2
end Go.Ab
/- How the invariant is kept: one lemma for each kind of change. -/
namespace Go.Ab
open Go
def putV (vs:Array Value) (dst:Option Nat) (v:Value):Array Value:=
 match dst with
 | some d=>vs.setIfInBounds d v
 | none=>vs
@[simp] theorem St.put_look (s:St) (dst) (a) (d i):(s.put dst a).look d i=s.look d i:=by cases dst<;>rfl
@[simp] theorem St.put_D (s:St) (dst) (a):(s.put dst a).D=s.D:=by cases dst<;>rfl
@[simp] theorem St.put_os (s:St) (dst) (a):(s.put dst a).os=s.os:=by cases dst<;>rfl
@[simp] theorem St.put_S (s:St) (dst) (a):(s.put dst a).S=s.S:=by cases dst<;>rfl
@[simp] theorem St.demT_look (s:St) (t) (d i):(s.demT t).look d i=s.look d i:=rfl
@[simp] theorem St.demT_D (s:St) (t):(s.demT t).D=s.D:=rfl
@[simp] theorem St.demT_os (s:St) (t):(s.demT t).os=s.os:=rfl
theorem tG {E:GE} {s s':St} (h:∀d i,s'.look d i=s.look d i) {d i B}:Live E s' d i B↔Live E s d i B:=by
 simp only[Live,h]
theorem TipOk.congr {prot E w} {s s':St} (h:∀d i,s'.look d i=s.look d i) {ad z n cap} (k:TipOk prot E w s ad z n cap):TipOk prot E w s' ad z n cap:=
 ⟨k.spot,k.room,k.free,k.notp,fun d i hl=>k.noob d i ((tG h).1 hl)⟩
section
variable {G:Nat->Option (List AV)} {prot:Nat->Prop} {w0:World} {E0 E:GE} {w:World} {s:St} {vs:Array Value}
theorem Ok.tmps (h:Ok G prot w0 E0 E w s vs) {s':St} {vs':Array Value} (hl:∀d i,s'.look d i=s.look d i) (hD:s'.D=s.D)
  (size:vs'.size=s'.ts.length) (rel:∀(i:Nat) (a:AV) (v:Value),s'.ts[i]?=some a->vs'[i]?=some v->Rel E a v)
  (hold:∀l ad z n cap,Hold E w s' vs' l ad z n cap->TipOk prot E w s ad z n cap)
  (hinj:∀l l' ad ad' z z' n n' cap cap',Hold E w s' vs' l ad z n cap->Hold E w s' vs' l' ad' z' n' cap'->ad.block=ad'.block->l=l'):
  Ok G prot w0 E0 E w s' vs' where
 size:=size
 rel:=rel
 imm:=h.imm
 locs:=fun d i g B hb=>by rw[hD,hl];exact h.locs d i g B hb
 rooms:=h.rooms
 objs:=fun d i hd=>by rw[hl] at hd|-;exact h.objs d i hd
 inj:=fun d i d' i' B h1 h2=>h.inj d i d' i' B ((tG hl).1 h1) ((tG hl).1 h2)
 tips:=fun l ad z n cap hh=>(hold l ad z n cap hh).congr hl
 tinj:=hinj
 glob:=h.glob
 frame:=h.frame
 grow:=h.grow
 same:=h.same
 ifr:=h.ifr
theorem Hold.obj {s':St} {vs':Array Value} (hl:∀d i,s'.look d i=s.look d i) {d i j ad z n cap} (h:Hold E w s' vs' (.o d i j) ad z n cap):
  Hold E w s vs (.o d i j) ad z n cap:=by
 cases h with
 | o _ _ _ g cs z xs B arr el ad cap h1 h2 h3 h4 h5 h6=>exact .o d i j g cs z xs B arr el ad cap (by rw[<-hl];exact h1) h2 h3 h4 h5 h6
theorem Ok.put (h:Ok G prot w0 E0 E w s vs) (dst:Option Nat) {a:AV} {v:Value} (hr:Rel E a v)
  (ht:∀z n ad cap,Tipped a v z n ad cap->
   TipOk prot E w s ad z n cap/\∀l ad' z' n' cap',(∀d,dst=some d->l≠ .t d)->Hold E w s vs l ad' z' n' cap'->ad'.block≠ad.block):
  Ok G prot w0 E0 E w (s.put dst a) (putV vs dst v):=by
 cases dst with
 | none=>exact h
 | some d=>
  have key:∀l ad z n cap,Hold E w (s.put (some d) a) (putV vs (some d) v) l ad z n cap->
    (l= .t d/\Tipped a v z n ad cap)\/(l≠ .t d/\Hold E w s vs l ad z n cap):=by
   intro l ad z n cap hh;cases hh with
   | t i a' v' ad z n cap h1 h2 h3=>
    by_cases hi:i=d
    ·subst hi;have hlt:i < s.ts.length:=by
      have:=yGY.1 h1;obtain ⟨hx,_⟩:=this;simpa[St.put] using hx
     simp only[St.put,yHC hlt,Option.some.injEq] at h1;have hlt':i < vs.size:=by rw[h.size];exact hlt
     simp only[putV,yIF hlt',Option.some.injEq] at h2;subst h1;subst h2;exact .inl ⟨rfl,h3⟩
    ·refine .inr ⟨fun e=>hi (by injection e),?_⟩;refine .t i a' v' ad z n cap ?_ ?_ h3
     ·simpa[St.put,yHD (fun e=>hi e.symm)] using h1
     ·simpa[putV,yIG (fun e=>hi e.symm)] using h2
   | o d' i j g cs z xs B arr el ad cap h1 h2 h3 h4 h5 h6=>
    exact .inr ⟨by simp,.o d' i j g cs z xs B arr el ad cap (by simpa using h1) h2 h3 h4 h5 h6⟩
  refine h.tmps (fun _ _=>by simp) (by simp) (by simpa[St.put,putV] using h.size) ?_ ?_ ?_
  ·intro i b u hb hu;by_cases hi:i=d
   ·subst hi;have hlt:i < s.ts.length:=by
     have:=yGY.1 hb;obtain ⟨hx,_⟩:=this;simpa[St.put] using hx
    have hlt':i < vs.size:=by rw[h.size];exact hlt
    simp only[St.put,yHC hlt,Option.some.injEq] at hb;simp only[putV,yIF hlt',Option.some.injEq] at hu;subst hb;subst hu;exact hr
   ·refine h.rel i b u ?_ ?_
    ·simpa[St.put,yHD (fun e=>hi e.symm)] using hb
    ·simpa[putV,yIG (fun e=>hi e.symm)] using hu
  ·intro l ad z n cap hh;rcases key l ad z n cap hh with ⟨rfl,h1⟩ | ⟨_,hh⟩
   ·exact (ht z n ad cap h1).1
   ·exact h.tips _ _ _ _ _ hh
  ·intro l l' ad ad' z z' n n' cap cap' hh hh' hb;rcases key l ad z n cap hh with ⟨rfl,h1⟩ | ⟨hn,hh⟩
   ·rcases key l' ad' z' n' cap' hh' with ⟨rfl,h1'⟩ | ⟨hn',hh'⟩
    ·rfl
    ·exact absurd hb.symm ((ht z n ad cap h1).2 l' ad' z' n' cap' (fun d' e=>by cases e;exact hn') hh')
   ·rcases key l' ad' z' n' cap' hh' with ⟨rfl,h1'⟩ | ⟨hn',hh'⟩
    ·exact absurd hb ((ht z' n' ad' cap' h1').2 l ad z n cap (fun d' e=>by cases e;exact hn) hh)
    ·exact h.tinj _ _ _ _ _ _ _ _ _ _ hh hh' hb
def AV.dull1:AV->Prop
 | .sl _ _ .tip=>False
 | _=>True
def AV.dull:AV->Prop
 | .sl _ _ .tip=>False
 | .tup as=>∀a∈as,a.dull1
 | .agg as=>∀a∈as,a.dull1
 | _=>True
theorem AV.dull_ne {a:AV} (h:a.dull) {z xs} (e:a= .sl z xs .tip):False:=by subst e;exact h
theorem AV.dull.d1 {a:AV} (h:a.dull):a.dull1:=by
 cases a with
 | sl z xs t=>cases t<;>exact h
 | _=>trivial
theorem lV:ud.dull:=by intro b hb;cases hb
theorem AV.dull1_ne {a:AV} (h:a.dull1) {z xs} (e:a= .sl z xs .tip):False:=by subst e;exact h
theorem Tipped.dull {a:AV} {v:Value} {z n ad cap} (h:Tipped a v z n ad cap) (hd:a.dull):False:=by
 cases h with
 | sl=>exact hd
 | tup as us j z xs ad cap h1 _ _=>exact AV.dull1_ne (hd _ (yHM h1)) rfl
 | agg as us j z xs ad cap h1 _ _=>exact AV.dull1_ne (hd _ (yHM h1)) rfl
theorem Ok.putS (h:Ok G prot w0 E0 E w s vs) (dst:Option Nat) {a:AV} {v:Value} (hr:Rel E a v) (hnt:∀as,a≠ .tup as/\(a= .agg as->a.dull))
  (ht:∀z xs ad cap,a= .sl z xs .tip->v= .slice (some ad) xs.length cap->xs.length < cap->
   TipOk prot E w s ad z xs.length cap/\∀l ad' z' n' cap',(∀d,dst=some d->l≠ .t d)->Hold E w s vs l ad' z' n' cap'->ad'.block≠ad.block):
  Ok G prot w0 E0 E w (s.put dst a) (putV vs dst v):=h.put dst hr fun z n ad cap ht'=>by
 cases ht' with
 | sl z xs ad cap hc=>exact ht z xs ad cap rfl rfl hc
 | tup as=>exact absurd rfl (hnt as).1
 | agg as us j z xs ad cap h1 _ _=>exact (AV.dull1_ne ((hnt as).2 rfl _ (yHM h1)) rfl).elim
theorem Ok.putd (h:Ok G prot w0 E0 E w s vs) (dst:Option Nat) {a:AV} {v:Value} (hr:Rel E a v) (hd:a.dull):
  Ok G prot w0 E0 E w (s.put dst a) (putV vs dst v):=h.put dst hr fun _ _ _ _ e=>(e.dull hd).elim
theorem AV.dull1_dem1 (a:AV):a.dem1.dull1:=by
 cases a with
 | sl z xs t=>cases t<;>trivial
 | _=>trivial
theorem AV.dull_dem (a:AV):a.dem.dull:=by
 cases a with
 | sl z xs t=>cases t<;>trivial
 | tup as=>intro b hb;obtain ⟨c,_,rfl⟩:=yHN.1 hb;exact AV.dull1_dem1 c
 | agg as=>intro b hb;obtain ⟨c,_,rfl⟩:=yHN.1 hb;exact AV.dull1_dem1 c
 | _=>trivial
theorem AV.dull_strip (a:AV):a.strip.dull:=by
 cases a with
 | tup as=>intro b hb;obtain ⟨c,_,rfl⟩:=yHN.1 hb;cases c<;>trivial
 | agg as=>intro b hb;obtain ⟨c,_,rfl⟩:=yHN.1 hb;cases c<;>trivial
 | _=>trivial
theorem Ok.dem (h:Ok G prot w0 E0 E w s vs) (t:Nat):
  Ok G prot w0 E0 E w (s.demT t) vs/\(∀l ad z n cap,Hold E w (s.demT t) vs l ad z n cap->l≠ .t t/\Hold E w s vs l ad z n cap):=by
 have key:∀l ad z n cap,Hold E w (s.demT t) vs l ad z n cap->l≠ .t t/\Hold E w s vs l ad z n cap:=by
  intro l ad z n cap hh;cases hh with
  | t i a v ad z n cap h1 h2 h3=>
   by_cases hi:i=t
   ·subst hi;have hlt:i < s.ts.length:=by
     have:=yGY.1 h1;obtain ⟨hx,_⟩:=this;simpa[St.demT] using hx
    simp only[St.demT,yHC hlt,Option.some.injEq] at h1;subst h1;exact (h3.dull (AV.dull_dem _)).elim
   ·refine ⟨fun e=>hi (by injection e),.t i a v ad z n cap ?_ h2 h3⟩;simpa[St.demT,yHD (fun e=>hi e.symm)] using h1
  | o d' i j g cs z xs B arr el ad cap h1 h2 h3 h4 h5 h6=>exact ⟨by simp,.o d' i j g cs z xs B arr el ad cap h1 h2 h3 h4 h5 h6⟩
 refine ⟨h.tmps (fun _ _=>rfl) rfl (by simpa[St.demT] using h.size) ?_ (fun l ad z n cap hh=>h.tips _ _ _ _ _ (key _ _ _ _ _ hh).2)
  (fun l l' ad ad' z z' n n' cap cap' hh hh' hb=>h.tinj _ _ _ _ _ _ _ _ _ _ (key _ _ _ _ _ hh).2 (key _ _ _ _ _ hh').2 hb),key⟩
 intro i b u hb hu;by_cases hi:i=t
 ·subst hi;have hlt:i < s.ts.length:=by
   have:=yGY.1 hb;obtain ⟨hx,_⟩:=this;simpa[St.demT] using hx
  simp only[St.demT,yHC hlt,Option.some.injEq] at hb;subst hb;refine (h.rel i (s.rd i) u ?_ hu).dem;rw[St.rd,yGZ,yGX hlt];rfl
 ·exact h.rel i b u (by simpa[St.demT,yHD (fun e=>hi e.symm)] using hb) hu
theorem Hold.world {w':World} (h:Ok G prot w0 E0 E w s vs) (hk:∀b,b < w.heap.size->w'.heap[b]?=w.heap[b]?) {l ad z n cap}
  (hh:Hold E w' s vs l ad z n cap):Hold E w s vs l ad z n cap:=by
 cases hh with
 | t i a v ad z n cap h1 h2 h3=>exact .t i a v ad z n cap h1 h2 h3
 | o d i j g cs z xs B arr el ad cap h1 h2 h3 h4 h5 h6=>
  exact .o d i j g cs z xs B arr el ad cap h1 h2 h3 (by rw[<-hk B (h.locs _ _ _ _ h3).2.2];exact h4) h5 h6
theorem yU {w:World} {b:Nat} {o:Obj} (h:w.heap[b]?=some o):b < w.heap.size:=by
 rcases yHO b w.heap.size with hl | hl
 ·exact hl
 ·rw[yIH hl] at h;simp at h
theorem obAt.world {E:GE} {w w':World} {d B:Nat} {o:Ob} (hk:w'.heap[B]?=w.heap[B]?) (h:obAt E w d B o):obAt E w' d B o:=by
 cases o<;>simp only[obAt] at h|-<;>first | exact h | (rw[hk];exact h)
theorem obAt.mono {E E':GE} (hle:E.le E') {w:World} {d B:Nat} {o:Ob} (h:obAt E w d B o):obAt E' w d B o:=by
 cases o with
 | dead=>exact h
 | cells cs=>obtain ⟨arr,el,h1,h2,h0,h3⟩:=h;exact ⟨arr,el,h1,h2,h0,fun j c v hc hv=>(h3 j c v hc hv).mono (GE.le_to hle d)⟩
 | mp es=>obtain ⟨arr,el,h1,h2,h3⟩:=h;exact ⟨arr,el,h1,h2,fun j c v hc hv=>⟨(h3 j c v hc hv).1.mono hle.1,(h3 j c v hc hv).2.mono (GE.le_to hle d)⟩⟩
 | ch cap buf=>obtain ⟨arr,a,b,h1,h2,h3⟩:=h;exact ⟨arr,a,b,h1,h2,fun j c v hc hv=>(h3 j c v hc hv).mono hle.1⟩
 | lp r ts=>exact ⟨h.1,h.2.1,fun j c v hc hv=>(h.2.2 j c v hc hv).mono (GE.le_to hle d)⟩
theorem Ok.world (h:Ok G prot w0 E0 E w s vs) {w':World} (hk:∀b,b < w.heap.size->w'.heap[b]?=w.heap[b]?) (hg:w.heap.size<=w'.heap.size)
  (hs:w'.os=w.os/\w'.tape=w.tape/\w'.output=w.output):Ok G prot w0 E0 E w' s vs where
 size:=h.size
 rel:=h.rel
 imm:=fun b o v hv=>by
  obtain ⟨arr,el,fz,h1,h2⟩:=h.imm b o v hv;exact ⟨arr,el,fz,by rw[hk b (yU h1)];exact h1,h2⟩
 locs:=fun d i g B hb=>⟨(h.locs d i g B hb).1,(h.locs d i g B hb).2.1,yHY (h.locs d i g B hb).2.2 hg⟩
 rooms:=fun d i g B hb arr el fz ha=>h.rooms d i g B hb arr el fz (by rw[<-hk B (h.locs _ _ _ _ hb).2.2];exact ha)
 objs:=fun d i hd=>by
  obtain ⟨B,h1,h2,h3,h4⟩:=h.objs d i hd;exact ⟨B,h1,h2.world (hk B (h.locs _ _ _ _ h1).2.2),h3,h4⟩
 inj:=h.inj
 tips:=fun l ad z n cap hh=>by
  have k:=h.tips l ad z n cap (hh.world h hk);obtain ⟨arr,el,h1,h2⟩:=k.room;exact ⟨k.spot,⟨arr,el,by rw[hk _ (yU h1)];exact h1,h2⟩,k.free,k.notp,k.noob⟩
 tinj:=fun l l' ad ad' z z' n n' cap cap' hh hh' hb=>h.tinj _ _ _ _ _ _ _ _ _ _ (hh.world h hk) (hh'.world h hk) hb
 glob:=h.glob
 frame:=fun b hb=>⟨(h.frame b hb).1,by rw[hk b (yHY (h.frame b hb).1 h.grow)];exact (h.frame b hb).2⟩
 grow:=Nat.le_trans h.grow hg
 same:=⟨hs.1.trans h.same.1,hs.2.1.trans h.same.2.1,hs.2.2.trans h.same.2.2⟩
 ifr:=h.ifr
structure Fresh (prot:Nat->Prop) (E:GE) (w:World) (s:St) (vs:Array Value) (B:Nat):Prop where
 imm:∀p,E.imm B p=none
 loc:∀d i g,E.loc d i g≠some B
 notp:¬prot B
 hold:∀l ad z n cap,Hold E w s vs l ad z n cap->ad.block≠B
theorem Ok.push (h:Ok G prot w0 E0 E w s vs) (o:Obj) {w':World} (hw:w'={w with heap:=w.heap.push o}):
  Ok G prot w0 E0 E w' s vs/\Fresh prot E w' s vs w.heap.size/\w'.heap[w.heap.size]?=some o:=by
 subst hw;have hk:∀b,b < w.heap.size->(w.heap.push o)[b]?=w.heap[b]?:=fun b hb=>by rw[Array.getElem?_push,if_neg (by omega)]
 refine ⟨h.world hk (by simp) ⟨rfl,rfl,rfl⟩,⟨?_,?_,?_,?_⟩,by simp⟩
 ·intro p;cases hp:E.imm w.heap.size p with
  | none=>rfl
  | some v=>obtain ⟨arr,el,fz,h1,_⟩:=h.imm _ _ _ hp;exact absurd (yU h1) (by omega)
 ·intro d i g e;exact absurd (h.locs _ _ _ _ e).2.2 (by omega)
 ·intro hp;have:=(h.frame _ hp).1;have:=h.grow;omega
 ·intro l ad z n cap hh e;obtain ⟨arr,el,h1,_⟩:=(h.tips _ _ _ _ _ (hh.world h hk)).room;have:=yU h1;omega
end
end Go.Ab
/- How the invariant is kept: objects,frozen blocks,the room behind a slice. -/
namespace Go.Ab
open Go
theorem St.look_up (s:St) (u:Nat×Nat×Ent) (hb:u.1=s.D->u.2.1 < s.os.length) (d i:Nat):
  (s.up u).look d i=if d=u.1/\i=u.2.1 then u.2.2 else s.look d i:=by
 by_cases h:u.1=s.D
 ·have hlt:=hb h;simp only[St.up,if_pos h,St.look];by_cases hd:d=s.D
  ·simp only[hd,if_true,h,true_and];by_cases hi:i=u.2.1
   ·subst hi;simp[yGZ,yHC hlt]
   ·rw[if_neg hi];simp[yGZ,yHD (fun e=>hi e.symm)]
  ·rw[if_neg hd,if_neg (by rw[h];exact fun e=>hd e.1),if_neg hd]
 ·simp only[St.up,if_neg h,St.look,updS];by_cases hd:d=s.D
  ·rw[if_pos hd,if_pos hd,if_neg (fun e=>h (e.1.symm.trans hd))]
  ·rw[if_neg hd,if_neg hd]
@[simp] theorem St.up_D (s:St) (u):(s.up u).D=s.D:=by unfold St.up;split<;>rfl
@[simp] theorem St.up_ts (s:St) (u):(s.up u).ts=s.ts:=by unfold St.up;split<;>rfl
theorem St.up_oslen (s:St) (u):(s.up u).os.length=s.os.length:=by unfold St.up;split<;>simp
theorem St.look_lt (s:St) {d i:Nat} (h:(s.look d i).2≠ .dead):d=s.D->i < s.os.length:=by
 intro hd;rcases yHO i s.os.length with hl | hl
 ·exact hl
 ·exfalso;apply h;simp[St.look,hd,yGZ,yII hl]
def GE.addLoc (E:GE) (d i g B r:Nat):GE:={imm:=E.imm,loc:=fun d' i' g'=>if d'=d/\i'=i/\g'=g then some B else E.loc d' i' g',room:=fun b=>if b=B then r else E.room b}
def GE.addImm (E:GE) (B lo hi:Nat) (arr:Array Value):GE:=
 {imm:=fun b o=>if b=B/\lo<=o/\o < hi then arr[o]? else E.imm b o,loc:=E.loc,room:=E.room}
theorem GE.le_addLoc {E:GE} {d i g B r:Nat} (h:E.loc d i g=none) (hB:∀d i g,E.loc d i g=some B->r=E.room B):E.le (E.addLoc d i g B r):=by
 refine ⟨fun _ _ _ h=>h,fun d' i' g' B' hb=> ?_,fun d' i' g' B' hb=>by
  simp only[GE.addLoc];split
  ·rename_i e;subst e;exact hB _ _ _ hb
  ·rfl⟩
 simp only[GE.addLoc];split
 ·rename_i hc;obtain ⟨rfl,rfl,rfl⟩:=hc;rw[h] at hb;simp at hb
 ·exact hb
theorem GE.le_addImm {E:GE} {B lo hi:Nat} {arr:Array Value} (h:∀p,lo<=p->E.imm B p=none):E.le (E.addImm B lo hi arr):=by
 refine ⟨fun b o v hv=> ?_,fun _ _ _ _ h=>h,fun _ _ _ _ _=>rfl⟩;simp only[GE.addImm];split
 ·rename_i hc;obtain ⟨rfl,h1,h2⟩:=hc;rw[h o h1] at hv;simp at hv
 ·exact hv
theorem GE.le_to_self {E:GE} {D:Nat} (h:∀d i g B,E.loc d i g=some B->d<=D):E.le (E.to D):=
 ⟨fun _ _ _ h=>h,fun d i g B hb=>by simp only[GE.to];rw[if_pos (h d i g B hb)];exact hb,fun _ _ _ _ _=>rfl⟩
structure Turned (w w':World) (B:Nat) (o:Obj):Prop where
 here:w'.heap[B]?=some o
 other:∀b,b≠B->w'.heap[b]?=w.heap[b]?
 size:w'.heap.size=w.heap.size
 same:w'.os=w.os/\w'.tape=w.tape/\w'.output=w.output
section
variable {G:Nat->Option (List AV)} {prot:Nat->Prop} {w0:World} {E0 E:GE} {w:World} {s:St} {vs:Array Value}
theorem Ok.to_self (h:Ok G prot w0 E0 E w s vs):E.le (E.to s.D):=GE.le_to_self fun d i g B hb=>(h.locs d i g B hb).1
theorem Ok.newobjD (h:Ok G prot w0 E0 E w s vs) {B d d0:Nat} {e:Ent} {o:Ob} (hf:Fresh prot E w s vs B) (hB:B < w.heap.size) (hlk:s.look d0 d=e) (hd0:d0<=s.D) (hin:d0=s.D->d < s.os.length) (ho:o≠ .dead)
  (hat:obAt E w d0 B o)
  (hn:∀cs,o= .cells cs->∀arr el,w.heap[B]?=some (.cells arr el (0,0))->∀(j:Nat) z xs ad cap,cs[j]?=some (.sl z xs .tip)->arr[j]?=some (.slice (some ad) xs.length cap)->¬xs.length < cap)
  (r:Nat) (hrm:∀arr el fz,w.heap[B]?=some (.cells arr el fz)->r<=arr.size):
  Ok G prot w0 E0 (E.addLoc d0 d (e.1+1) B r) w (s.up (d0,d,(e.1+1,o))) vs/\E.le (E.addLoc d0 d (e.1+1) B r):=by
 have hnone:E.loc d0 d (e.1+1)=none:=by
  cases hl:E.loc d0 d (e.1+1) with
  | none=>rfl
  | some B'=>have:=(h.locs _ _ _ _ hl).2.1;rw[hlk] at this;omega
 have hle:E.le (E.addLoc d0 d (e.1+1) B r):=GE.le_addLoc hnone (fun d' i' g' hb=>absurd hb (hf.loc _ _ _));have hlook:=St.look_up s (d0,d,(e.1+1,o)) hin;simp only at hlook;have hloc:∀d' i' g' B',(E.addLoc d0 d (e.1+1) B r).loc d' i' g'=some B'->(d'=d0/\i'=d/\g'=e.1+1/\B'=B)\/E.loc d' i' g'=some B':=by
  intro d' i' g' B' hb;simp only[GE.addLoc] at hb;split at hb
  ·rename_i hc;exact .inl ⟨hc.1,hc.2.1,hc.2.2,(Option.some.inj hb).symm⟩
  ·exact .inr hb
 have hlive:∀d' i' B',Live (E.addLoc d0 d (e.1+1) B r) (s.up (d0,d,(e.1+1,o))) d' i' B'->(d'=d0/\i'=d/\B'=B)\/(¬(d'=d0/\i'=d)/\Live E s d' i' B'):=by
  intro d' i' B' ⟨h1,h2⟩;rw[hlook] at h1 h2;by_cases hc:d'=d0/\i'=d
  ·rw[if_pos hc] at h2;rcases hloc _ _ _ _ h2 with hx | hx
   ·exact .inl ⟨hc.1,hc.2,hx.2.2.2⟩
   ·obtain ⟨rfl,rfl⟩:=hc;rw[hnone] at hx;simp at hx
  ·rw[if_neg hc] at h1 h2;rcases hloc _ _ _ _ h2 with hx | hx
   ·exact absurd ⟨hx.1,hx.2.1⟩ hc
   ·exact .inr ⟨hc,h1,hx⟩
 have hhold:∀l ad z n cap,Hold (E.addLoc d0 d (e.1+1) B r) w (s.up (d0,d,(e.1+1,o))) vs l ad z n cap->Hold E w s vs l ad z n cap:=by
  intro l ad z n cap hh;cases hh with
  | t i a0 v0 ad z n cap h1 h2 h3=>exact .t i a0 v0 ad z n cap (by simpa using h1) h2 h3
  | o d' i j g cs z xs B' arr el ad cap h1 h2 h3 h4 h5 h6=>
   rw[hlook] at h1;by_cases hc:d'=d0/\i=d
   ·rw[if_pos hc] at h1;injection h1 with hg ho';obtain ⟨rfl,rfl⟩:=hc;have:B'=B:=by
     rcases hloc _ _ _ _ h3 with hx | hx
     ·exact hx.2.2.2
     ·rw[<-hg,hnone] at hx;simp at hx
    subst this;exact absurd h6 (hn cs ho' arr el h4 j z xs ad cap h2 h5)
   ·rw[if_neg hc] at h1;rcases hloc _ _ _ _ h3 with hx | hx
    ·exact absurd ⟨hx.1,hx.2.1⟩ hc
    ·exact .o d' i j g cs z xs B' arr el ad cap h1 h2 hx h4 h5 h6
 refine ⟨⟨by simpa using h.size,fun i a v ha hv=>(h.rel i a v (by simpa using ha) hv).mono hle,h.imm,?_,?_,?_,?_,?_,fun l l' ad ad' z z' n n' cap cap' hh hh' hb=>h.tinj _ _ _ _ _ _ _ _ _ _ (hhold _ _ _ _ _ hh) (hhold _ _ _ _ _ hh') hb,
  h.glob,h.frame,h.grow,h.same,h.ifr⟩,hle⟩
 ·intro d' i' g' B' hb;rw[hlook];rcases hloc _ _ _ _ hb with ⟨rfl,rfl,rfl,rfl⟩ | hx
  ·exact ⟨by simpa using hd0,by simp,hB⟩
  ·have:=h.locs _ _ _ _ hx;refine ⟨by simpa using this.1,?_,this.2.2⟩;by_cases hc:d'=d0/\i'=d
   ·rw[if_pos hc];obtain ⟨rfl,rfl⟩:=hc;rw[hlk] at this;simp only;omega
   ·rw[if_neg hc];exact this.2.1
 ·intro d' i' g' B' hb arr el fz ha;simp only[GE.addLoc];split
  ·rename_i e;subst e;exact hrm arr el fz ha
  ·rename_i hne;rcases hloc _ _ _ _ hb with hx | hx
   ·exact absurd hx.2.2.2 hne
   ·exact h.rooms _ _ _ _ hx arr el fz ha
 ·intro d' i' hdead;rw[hlook] at hdead|-;by_cases hc:d'=d0/\i'=d
  ·rw[if_pos hc] at hdead|-;obtain ⟨rfl,rfl⟩:=hc;exact ⟨B,by simp[GE.addLoc],hat.mono hle,hf.imm,hf.notp⟩
  ·rw[if_neg hc] at hdead|-;obtain ⟨B',h1,h2,h3,h4⟩:=h.objs d' i' hdead;exact ⟨B',hle.2 _ _ _ _ h1,h2.mono hle,h3,h4⟩
 ·intro d' i' d'' i'' B' h1 h2;rcases hlive _ _ _ h1 with ⟨a1,a2,a3⟩ | ⟨_,k1⟩
  ·rcases hlive _ _ _ h2 with ⟨b1,b2,_⟩ | ⟨_,k2⟩
   ·exact ⟨a1.trans b1.symm,a2.trans b2.symm⟩
   ·exact absurd (a3▸k2.2) (hf.loc _ _ _)
  ·rcases hlive _ _ _ h2 with ⟨_,_,b3⟩ | ⟨_,k2⟩
   ·exact absurd (b3▸k1.2) (hf.loc _ _ _)
   ·exact h.inj _ _ _ _ _ k1 k2
 ·intro l ad z n cap hh;have k:=h.tips _ _ _ _ _ (hhold _ _ _ _ _ hh);refine ⟨k.spot,k.room,k.free,k.notp,fun d' i' hl=> ?_⟩;rcases hlive _ _ _ hl with ⟨_,_,e'⟩ | ⟨_,hl⟩
  ·exact hf.hold _ _ _ _ _ (hhold _ _ _ _ _ hh) e'
  ·exact k.noob _ _ hl
theorem Ok.newobj (h:Ok G prot w0 E0 E w s vs) {B d:Nat} {e:Ent} {o:Ob} (hf:Fresh prot E w s vs B) (hB:B < w.heap.size) (he:s.os[d]?=some e) (ho:o≠ .dead)
  (hat:obAt E w s.D B o)
  (hn:∀cs,o= .cells cs->∀arr el,w.heap[B]?=some (.cells arr el (0,0))->∀(j:Nat) z xs ad cap,cs[j]?=some (.sl z xs .tip)->arr[j]?=some (.slice (some ad) xs.length cap)->¬xs.length < cap)
  (r:Nat) (hrm:∀arr el fz,w.heap[B]?=some (.cells arr el fz)->r<=arr.size):
  Ok G prot w0 E0 (E.addLoc s.D d (e.1+1) B r) w (s.up (s.D,d,(e.1+1,o))) vs/\E.le (E.addLoc s.D d (e.1+1) B r):=
 h.newobjD hf hB (by simp[St.look,yGZ,he]) (Nat.le_refl _) (fun _=>(yGY.1 he).1) ho hat hn r hrm
theorem Ok.setobj (h:Ok G prot w0 E0 E w s vs) {d i B:Nat} {o:Ob} {w':World} {obj:Obj} (hl:Live E s d i B) (ht:Turned w w' B obj) (ho:o≠ .dead)
  (hat:obAt E w' d B o)
  (hn:∀cs,o= .cells cs->∀arr el,w'.heap[B]?=some (.cells arr el (0,0))->∀(j:Nat) z xs ad cap,cs[j]?=some (.sl z xs .tip)->arr[j]?=some (.slice (some ad) xs.length cap)->xs.length < cap->
   Hold E w s vs (.o d i j) ad z xs.length cap\/(TipOk prot E w s ad z xs.length cap/\(∀l ad' z' n' cap',Hold E w s vs l ad' z' n' cap'->ad'.block≠ad.block)/\
    ∀(j':Nat) z' xs' ad' cap',cs[j']?=some (.sl z' xs' .tip)->arr[j']?=some (.slice (some ad') xs'.length cap')->xs'.length < cap'->ad'.block=ad.block->j'=j))
  (hrm:∀arr el fz,obj= .cells arr el fz->E.room B<=arr.size):
  Ok G prot w0 E0 E w' (s.up (d,i,((s.look d i).1,o))) vs:=by
 have hin:d=s.D->i < s.os.length:=s.look_lt hl.1;have hlook:=St.look_up s (d,i,((s.look d i).1,o)) hin;simp only at hlook;have hobjB:∀d' i' B',Live E s d' i' B'->¬(d'=d/\i'=i)->B'≠B:=by
  intro d' i' B' hl' hc e;subst e;exact hc (h.inj _ _ _ _ _ hl' hl)
 have himmB:∀p,E.imm B p=none:=by
  obtain ⟨B',h1,_,h3,_⟩:=h.objs d i hl.1;have:B'=B:=by rw[hl.2] at h1;exact (Option.some.inj h1).symm
  subst this;exact h3
 have hnp:¬prot B:=by
  obtain ⟨B',h1,_,_,h4⟩:=h.objs d i hl.1;have:B'=B:=by rw[hl.2] at h1;exact (Option.some.inj h1).symm
  subst this;exact h4
 have hlive:∀d' i' B',Live E (s.up (d,i,((s.look d i).1,o))) d' i' B'->Live E s d' i' B':=by
  intro d' i' B' ⟨h1,h2⟩;rw[hlook] at h1 h2;by_cases hc:d'=d/\i'=i
  ·rw[if_pos hc] at h2;obtain ⟨rfl,rfl⟩:=hc;exact ⟨hl.1,h2⟩
  ·rw[if_neg hc] at h1 h2;exact ⟨h1,h2⟩
 have hhold:∀l ad z n cap,Hold E w' (s.up (d,i,((s.look d i).1,o))) vs l ad z n cap->
   Hold E w s vs l ad z n cap\/(∃j,l= .o d i j/\TipOk prot E w s ad z n cap/\(∀l ad' z' n' cap',Hold E w s vs l ad' z' n' cap'->ad'.block≠ad.block)/\
    ∀j' ad' z' n' cap',Hold E w' (s.up (d,i,((s.look d i).1,o))) vs (.o d i j') ad' z' n' cap'->ad'.block=ad.block->j'=j):=by
  intro l ad z n cap hh;cases hh with
  | t i a0 v0 ad z n cap h1 h2 h3=>exact .inl (.t i a0 v0 ad z n cap (by simpa using h1) h2 h3)
  | o d' i' j g cs z xs B' arr el ad cap h1 h2 h3 h4 h5 h6=>
   rw[hlook] at h1;by_cases hc:d'=d/\i'=i
   ·rw[if_pos hc] at h1;injection h1 with hg ho';obtain ⟨rfl,rfl⟩:=hc;have:B'=B:=by rw[<-hg] at h3;have:=hl.2;rw[h3] at this;exact Option.some.inj this
    subst this;rcases hn cs ho' arr el h4 j z xs ad cap h2 h5 h6 with hx | ⟨hx1,hx2,hx3⟩
    ·exact .inl hx
    ·refine .inr ⟨j,rfl,hx1,hx2,?_⟩;intro j' ad' z' n' cap' hh' hb;cases hh' with
     | o _ _ _ g2 cs2 z2 xs2 B2 arr2 el2 ad2 cap2 k1 k2 k3 k4 k5 k6=>
      rw[hlook,if_pos ⟨rfl,rfl⟩] at k1;injection k1 with kg ko;have e2:B2=B':=by rw[<-kg] at k3;have:=hl.2;rw[k3] at this;exact Option.some.inj this
      subst e2;rw[ho'] at ko;injection ko with ko;subst ko;rw[h4] at k4;injection k4 with k4;injection k4 with k4 k4';subst k4;exact hx3 j' _ _ _ _ k2 k5 k6 hb
   ·rw[if_neg hc] at h1;have hl':Live E s d' i' B':=⟨by rw[h1];simp,by rw[h1];exact h3⟩;exact .inl (.o d' i' j g cs z xs B' arr el ad cap h1 h2 h3 (by rw[<-ht.other B' (hobjB _ _ _ hl' hc)];exact h4) h5 h6)
 have htip:∀ad z n cap,TipOk prot E w s ad z n cap->TipOk prot E w' (s.up (d,i,((s.look d i).1,o))) ad z n cap:=by
  intro ad z n cap k;have hne:ad.block≠B:=fun e=>k.noob d i (e▸hl);obtain ⟨arr,el,h1,h2⟩:=k.room;exact ⟨k.spot,⟨arr,el,by rw[ht.other _ hne];exact h1,h2⟩,k.free,k.notp,fun d' i' hl'=>k.noob d' i' (hlive _ _ _ hl')⟩
 refine ⟨by simpa using h.size,fun i a v ha hv=>h.rel i a v (by simpa using ha) hv,?_,?_,?_,?_,fun d' i' d'' i'' B' h1 h2=>h.inj _ _ _ _ _ (hlive _ _ _ h1) (hlive _ _ _ h2),?_,?_,
  h.glob,?_,by rw[ht.size];exact h.grow,⟨ht.same.1.trans h.same.1,ht.same.2.1.trans h.same.2.1,ht.same.2.2.trans h.same.2.2⟩,h.ifr⟩
 ·intro b p v hv;have hne:b≠B:=fun e=>by subst e;rw[himmB] at hv;simp at hv
  obtain ⟨arr,el,fz,h1,h2⟩:=h.imm b p v hv;exact ⟨arr,el,fz,by rw[ht.other b hne];exact h1,h2⟩
 ·intro d' i' g' B' hb;rw[hlook,ht.size];have:=h.locs _ _ _ _ hb;refine ⟨by simpa using this.1,?_,this.2.2⟩;by_cases hc:d'=d/\i'=i
  ·rw[if_pos hc];obtain ⟨rfl,rfl⟩:=hc;exact this.2.1
  ·rw[if_neg hc];exact this.2.1
 ·intro d' i' g' B' hb arr el fz ha;by_cases hB:B'=B
  ·subst hB;rw[ht.here] at ha;exact hrm arr el fz (Option.some.inj ha)
  ·rw[ht.other _ hB] at ha;exact h.rooms _ _ _ _ hb arr el fz ha
 ·intro d' i' hdead;rw[hlook] at hdead|-;by_cases hc:d'=d/\i'=i
  ·rw[if_pos hc] at hdead|-;obtain ⟨rfl,rfl⟩:=hc;exact ⟨B,hl.2,hat,himmB,hnp⟩
  ·rw[if_neg hc] at hdead|-;obtain ⟨B',h1,h2,h3,h4⟩:=h.objs d' i' hdead;exact ⟨B',h1,h2.world (ht.other B' (hobjB d' i' B' ⟨hdead,h1⟩ hc)),h3,h4⟩
 ·intro l ad z n cap hh;rcases hhold _ _ _ _ _ hh with hh | ⟨j,_,hx,_⟩
  ·exact htip _ _ _ _ (h.tips _ _ _ _ _ hh)
  ·exact htip _ _ _ _ hx
 ·intro l l' ad ad' z z' n n' cap cap' hh hh' hb;rcases hhold _ _ _ _ _ hh with h1 | ⟨j,rfl,hx,hy,hz⟩
  ·rcases hhold _ _ _ _ _ hh' with h2 | ⟨j,rfl,hx,hy,hz⟩
   ·exact h.tinj _ _ _ _ _ _ _ _ _ _ h1 h2 hb
   ·exact absurd hb (hy _ _ _ _ _ h1)
  ·rcases hhold _ _ _ _ _ hh' with h2 | ⟨j',rfl,hx',hy',hz'⟩
   ·exact absurd hb.symm (hy _ _ _ _ _ h2)
   ·rw[hz j' _ _ _ _ hh' hb.symm]
 ·intro b hb;have hne:b≠B:=fun e=>hnp (e▸hb);exact ⟨(h.frame b hb).1,by rw[ht.other b hne];exact (h.frame b hb).2⟩
theorem Ok.regenD (h:Ok G prot w0 E0 E w s vs) {i B g d0:Nat} {o:Ob} (hlk:s.look d0 i=(g,o)) (ho:o≠ .dead) (hb:E.loc d0 i g=some B):
  Ok G prot w0 E0 (E.addLoc d0 i (g+1) B (E.room B)) w (s.up (d0,i,(g+1,o))) vs/\E.le (E.addLoc d0 i (g+1) B (E.room B)):=by
 have hl:Live E s d0 i B:=⟨by rw[hlk];exact ho,by rw[hlk];exact hb⟩;have hi:d0=s.D->i < s.os.length:=s.look_lt hl.1;have hnone:E.loc d0 i (g+1)=none:=by
  cases hl:E.loc d0 i (g+1) with
  | none=>rfl
  | some B'=>have:=(h.locs _ _ _ _ hl).2.1;rw[hlk] at this;simp only at this;omega
 have hle:E.le (E.addLoc d0 i (g+1) B (E.room B)):=GE.le_addLoc hnone (fun _ _ _ _=>rfl);have hroom:∀b,(E.addLoc d0 i (g+1) B (E.room B)).room b=E.room b:=by
  intro b;simp only[GE.addLoc];split
  ·rename_i e;rw[e]
  ·rfl
 have hlook:=St.look_up s (d0,i,(g+1,o)) hi;simp only at hlook;have hloc:∀d' i' g' B',(E.addLoc d0 i (g+1) B (E.room B)).loc d' i' g'=some B'->(d'=d0/\i'=i/\g'=g+1/\B'=B)\/E.loc d' i' g'=some B':=by
  intro d' i' g' B' hb;simp only[GE.addLoc] at hb;split at hb
  ·rename_i hc;exact .inl ⟨hc.1,hc.2.1,hc.2.2,(Option.some.inj hb).symm⟩
  ·exact .inr hb
 have hlive:∀d' i' B',Live (E.addLoc d0 i (g+1) B (E.room B)) (s.up (d0,i,(g+1,o))) d' i' B'->Live E s d' i' B':=by
  intro d' i' B' ⟨h1,h2⟩;rw[hlook] at h1 h2;by_cases hc:d'=d0/\i'=i
  ·rw[if_pos hc] at h2;obtain ⟨rfl,rfl⟩:=hc;rcases hloc _ _ _ _ h2 with hx | hx
   ·rw[hx.2.2.2];exact hl
   ·rw[hnone] at hx;simp at hx
  ·rw[if_neg hc] at h1 h2;rcases hloc _ _ _ _ h2 with hx | hx
   ·exact absurd ⟨hx.1,hx.2.1⟩ hc
   ·exact ⟨h1,hx⟩
 have hhold:∀l ad z n cap,Hold (E.addLoc d0 i (g+1) B (E.room B)) w (s.up (d0,i,(g+1,o))) vs l ad z n cap->Hold E w s vs l ad z n cap:=by
  intro l ad z n cap hh;cases hh with
  | t i a0 v0 ad z n cap h1 h2 h3=>exact .t i a0 v0 ad z n cap (by simpa using h1) h2 h3
  | o d' i' j g2 cs z xs B' arr el ad cap h1 h2 h3 h4 h5 h6=>
   rw[hlook] at h1;by_cases hc:d'=d0/\i'=i
   ·rw[if_pos hc] at h1;injection h1 with hg ho';obtain ⟨rfl,rfl⟩:=hc;have:B'=B:=by
     rcases hloc _ _ _ _ h3 with hx | hx
     ·exact hx.2.2.2
     ·rw[<-hg,hnone] at hx;simp at hx
    subst this;exact .o d' i' j g cs z xs B' arr el ad cap (by rw[hlk,ho']) h2 hb h4 h5 h6
   ·rw[if_neg hc] at h1;rcases hloc _ _ _ _ h3 with hx | hx
    ·exact absurd ⟨hx.1,hx.2.1⟩ hc
    ·exact .o d' i' j g2 cs z xs B' arr el ad cap h1 h2 hx h4 h5 h6
 refine ⟨⟨by simpa using h.size,fun i a v ha hv=>(h.rel i a v (by simpa using ha) hv).mono hle,h.imm,?_,?_,?_,fun d' i' d'' i'' B' h1 h2=>h.inj _ _ _ _ _ (hlive _ _ _ h1) (hlive _ _ _ h2),?_,
  fun l l' ad ad' z z' n n' cap cap' hh hh' hb=>h.tinj _ _ _ _ _ _ _ _ _ _ (hhold _ _ _ _ _ hh) (hhold _ _ _ _ _ hh') hb,h.glob,h.frame,h.grow,h.same,h.ifr⟩,hle⟩
 ·intro d' i' g' B' hb';rw[hlook];rcases hloc _ _ _ _ hb' with ⟨rfl,rfl,rfl,rfl⟩ | hx
  ·refine ⟨by simpa using (h.locs _ _ _ _ hb).1,by simp,(h.locs _ _ _ _ hb).2.2⟩
  ·have:=h.locs _ _ _ _ hx;refine ⟨by simpa using this.1,?_,this.2.2⟩;by_cases hc:d'=d0/\i'=i
   ·rw[if_pos hc];obtain ⟨rfl,rfl⟩:=hc;rw[hlk] at this;simp only at this|-;omega
   ·rw[if_neg hc];exact this.2.1
 ·intro d' i' g' B' hb' arr el fz ha;rw[hroom];rcases hloc _ _ _ _ hb' with hx | hx
  ·rw[hx.2.2.2] at ha|-;exact h.rooms _ _ _ _ hb arr el fz ha
  ·exact h.rooms _ _ _ _ hx arr el fz ha
 ·intro d' i' hdead;rw[hlook] at hdead|-;by_cases hc:d'=d0/\i'=i
  ·rw[if_pos hc];obtain ⟨rfl,rfl⟩:=hc;obtain ⟨B',h1,h2,h3,h4⟩:=h.objs d' i' hl.1;have:B'=B:=by rw[hl.2] at h1;exact (Option.some.inj h1).symm
   subst this;rw[hlk] at h2;exact ⟨B',by simp[GE.addLoc],h2.mono hle,h3,h4⟩
  ·rw[if_neg hc] at hdead|-;obtain ⟨B',h1,h2,h3,h4⟩:=h.objs d' i' hdead;exact ⟨B',hle.2 _ _ _ _ h1,h2.mono hle,h3,h4⟩
 ·intro l ad z n cap hh;have k:=h.tips _ _ _ _ _ (hhold _ _ _ _ _ hh);exact ⟨k.spot,k.room,k.free,k.notp,fun d' i' hl'=>k.noob _ _ (hlive _ _ _ hl')⟩
theorem Ok.drop (h:Ok G prot w0 E0 E w s vs) {d i B:Nat} (hl:Live E s d i B):
  Ok G prot w0 E0 E w (s.up (d,i,((s.look d i).1,.dead))) vs/\(∀d' i',¬Live E (s.up (d,i,((s.look d i).1,.dead))) d' i' B)/\
   (∀l ad z n cap,Hold E w (s.up (d,i,((s.look d i).1,.dead))) vs l ad z n cap->Hold E w s vs l ad z n cap):=by
 have hin:d=s.D->i < s.os.length:=s.look_lt hl.1;have hlook:=St.look_up s (d,i,((s.look d i).1,.dead)) hin;simp only at hlook;have hlive:∀d' i' B',Live E (s.up (d,i,((s.look d i).1,.dead))) d' i' B'->¬(d'=d/\i'=i)/\Live E s d' i' B':=by
  intro d' i' B' ⟨h1,h2⟩;rw[hlook] at h1 h2;by_cases hc:d'=d/\i'=i
  ·rw[if_pos hc] at h1;exact absurd rfl h1
  ·rw[if_neg hc] at h1 h2;exact ⟨hc,h1,h2⟩
 have hhold:∀l ad z n cap,Hold E w (s.up (d,i,((s.look d i).1,.dead))) vs l ad z n cap->Hold E w s vs l ad z n cap:=by
  intro l ad z n cap hh;cases hh with
  | t i a0 v0 ad z n cap h1 h2 h3=>exact .t i a0 v0 ad z n cap (by simpa using h1) h2 h3
  | o d' i' j g cs z xs B' arr el ad cap h1 h2 h3 h4 h5 h6=>
   rw[hlook] at h1;by_cases hc:d'=d/\i'=i
   ·rw[if_pos hc] at h1;injection h1 with _ h1;cases h1
   ·rw[if_neg hc] at h1;exact .o d' i' j g cs z xs B' arr el ad cap h1 h2 h3 h4 h5 h6
 refine ⟨⟨by simpa using h.size,fun i a v ha hv=>h.rel i a v (by simpa using ha) hv,h.imm,?_,h.rooms,?_,fun d' i' d'' i'' B' h1 h2=>h.inj _ _ _ _ _ (hlive _ _ _ h1).2 (hlive _ _ _ h2).2,?_,
  fun l l' ad ad' z z' n n' cap cap' hh hh' hb=>h.tinj _ _ _ _ _ _ _ _ _ _ (hhold _ _ _ _ _ hh) (hhold _ _ _ _ _ hh') hb,
  h.glob,h.frame,h.grow,h.same,h.ifr⟩,fun d' i' hl'=> ?_,hhold⟩
 ·intro d' i' g' B' hb;rw[hlook];have:=h.locs _ _ _ _ hb;refine ⟨by simpa using this.1,?_,this.2.2⟩;by_cases hc:d'=d/\i'=i
  ·rw[if_pos hc];obtain ⟨rfl,rfl⟩:=hc;exact this.2.1
  ·rw[if_neg hc];exact this.2.1
 ·intro d' i' hdead;rw[hlook] at hdead|-;by_cases hc:d'=d/\i'=i
  ·rw[if_pos hc] at hdead;exact absurd rfl hdead
  ·rw[if_neg hc] at hdead|-;exact h.objs d' i' hdead
 ·intro l ad z n cap hh;have k:=h.tips _ _ _ _ _ (hhold _ _ _ _ _ hh);exact ⟨k.spot,k.room,k.free,k.notp,fun d' i' hl'=>k.noob _ _ (hlive _ _ _ hl').2⟩
 ·have:=hlive _ _ _ hl';exact this.1 (h.inj _ _ _ _ _ this.2 hl)
theorem Ok.addImm (h:Ok G prot w0 E0 E w s vs) {B lo hi:Nat} {arr:Array Value} {el:TypeId} {fz:Nat×Nat} (hb:w.heap[B]?=some (.cells arr el fz))
  (h1c:∀(j:Nat) v,lo<=j->j < hi->arr[j]?=some v->v.oneCell'=true)
  (hfree:∀p,lo<=p->E.imm B p=none) (hnp:¬prot B) (hno:∀d i,¬Live E s d i B) (hnh:∀l ad z n cap,Hold E w s vs l ad z n cap->ad.block≠B):
  Ok G prot w0 E0 (E.addImm B lo hi arr) w s vs/\E.le (E.addImm B lo hi arr):=by
 have hle:=GE.le_addImm (E:=E) (B:=B) (lo:=lo) (hi:=hi) (arr:=arr) hfree;have hne:∀b p,b≠B->(E.addImm B lo hi arr).imm b p=E.imm b p:=fun b p hb=>by simp[GE.addImm,hb]
 have hhold:∀l ad z n cap,Hold (E.addImm B lo hi arr) w s vs l ad z n cap->Hold E w s vs l ad z n cap:=by
  intro l ad z n cap hh;cases hh with
  | t i a0 v0 ad z n cap h1 h2 h3=>exact .t i a0 v0 ad z n cap h1 h2 h3
  | o d' i' j g cs z xs B' arr el ad cap h1 h2 h3 h4 h5 h6=>exact .o d' i' j g cs z xs B' arr el ad cap h1 h2 h3 h4 h5 h6
 refine ⟨⟨h.size,fun i a v ha hv=>(h.rel i a v ha hv).mono hle,?_,h.locs,h.rooms,?_,h.inj,?_,
  fun l l' ad ad' z z' n n' cap cap' hh hh' hb=>h.tinj _ _ _ _ _ _ _ _ _ _ (hhold _ _ _ _ _ hh) (hhold _ _ _ _ _ hh') hb,?_,h.frame,h.grow,h.same,?_⟩,hle⟩
 ·intro b o v hv;simp only[GE.addImm] at hv;split at hv
  ·rename_i hc;obtain ⟨rfl,hlo,hhi⟩:=hc;exact ⟨arr,el,fz,hb,hv,h1c o v hlo hhi hv⟩
  ·exact h.imm b o v hv
 ·intro d i hd;obtain ⟨B',h1,h2,h3,h4⟩:=h.objs d i hd;have:B'≠B:=fun e=>hno d i ⟨hd,e▸h1⟩;exact ⟨B',h1,h2.mono hle,fun p=>by rw[hne _ _ this];exact h3 p,h4⟩
 ·intro l ad z n cap hh;have k:=h.tips _ _ _ _ _ (hhold _ _ _ _ _ hh);exact ⟨k.spot,k.room,fun p hp=>by rw[hne _ _ (hnh _ _ _ _ _ (hhold _ _ _ _ _ hh))];exact k.free p hp,k.notp,k.noob⟩
 ·intro g cs hg j c hc;obtain ⟨v,h1,h2⟩:=h.glob g cs hg j c hc;exact ⟨v,hle.1 _ _ _ h1,h2.mono hle.1⟩
 ·intro b hb' o;have:b≠B:=fun e=>hnp (e▸hb');rw[hne _ _ this];exact h.ifr b hb' o
theorem Ok.turnFree (h:Ok G prot w0 E0 E w s vs) {w':World} {B lo:Nat} {arr arr':Array Value} {el:TypeId} (hb:w.heap[B]?=some (.cells arr el (0,0)))
  (ht:Turned w w' B (.cells arr' el (0,0))) (hlo:∀p,p < lo->arr'[p]?=arr[p]?) (hszz:arr.size<=arr'.size)
  (hfree:∀p,lo<=p->E.imm B p=none) (hnp:¬prot B) (hno:∀d i,¬Live E s d i B) (hnh:∀l ad z n cap,Hold E w s vs l ad z n cap->ad.block≠B):
  Ok G prot w0 E0 E w' s vs/\(∀l ad z n cap,Hold E w' s vs l ad z n cap->Hold E w s vs l ad z n cap):=by
 have hhold:∀l ad z n cap,Hold E w' s vs l ad z n cap->Hold E w s vs l ad z n cap:=by
  intro l ad z n cap hh;cases hh with
  | t i a0 v0 ad z n cap h1 h2 h3=>exact .t i a0 v0 ad z n cap h1 h2 h3
  | o d' i' j g cs z xs B' arr el ad cap h1 h2 h3 h4 h5 h6=>
   have:B'≠B:=fun e=>hno d' i' ⟨by rw[h1];simp,by rw[h1];exact e▸h3⟩;exact .o d' i' j g cs z xs B' arr el ad cap h1 h2 h3 (by rw[<-ht.other _ this];exact h4) h5 h6
 refine ⟨⟨h.size,h.rel,?_,fun d i g B hb=>by rw[ht.size];exact h.locs d i g B hb,?_,?_,h.inj,?_,
  fun l l' ad ad' z z' n n' cap cap' hh hh' hb=>h.tinj _ _ _ _ _ _ _ _ _ _ (hhold _ _ _ _ _ hh) (hhold _ _ _ _ _ hh') hb,h.glob,?_,by rw[ht.size];exact h.grow,
  ⟨ht.same.1.trans h.same.1,ht.same.2.1.trans h.same.2.1,ht.same.2.2.trans h.same.2.2⟩,h.ifr⟩,hhold⟩
 ·intro b o v hv;obtain ⟨arr2,el2,fz2,h1,h2⟩:=h.imm b o v hv;by_cases hbB:b=B
  ·subst hbB;rw[hb] at h1;injection h1 with h1;injection h1 with h1 h1' h1'';subst h1;subst h1';subst h1'';have hlt:o < lo:=by
    rcases yHO o lo with hx | hx
    ·exact hx
    ·rw[hfree o hx] at hv;simp at hv
   exact ⟨arr',_,_,ht.here,by rw[hlo o hlt];exact h2.1,h2.2⟩
  ·exact ⟨arr2,el2,fz2,by rw[ht.other _ hbB];exact h1,h2⟩
 ·intro d i g B' hl arr2 el2 fz2 ha;by_cases hbB:B'=B
  ·subst hbB;rw[ht.here] at ha;injection ha with ha;injection ha with ha _ _;subst ha;exact Nat.le_trans (h.rooms _ _ _ _ hl _ _ _ hb) hszz
  ·rw[ht.other _ hbB] at ha;exact h.rooms _ _ _ _ hl _ _ _ ha
 ·intro d i hd;obtain ⟨B',h1,h2,h3,h4⟩:=h.objs d i hd;have:B'≠B:=fun e=>hno d i ⟨hd,e▸h1⟩;exact ⟨B',h1,h2.world (ht.other _ this),h3,h4⟩
 ·intro l ad z n cap hh;have k:=h.tips _ _ _ _ _ (hhold _ _ _ _ _ hh);have hne:=hnh _ _ _ _ _ (hhold _ _ _ _ _ hh);obtain ⟨arr2,el2,h1,h2⟩:=k.room;exact ⟨k.spot,⟨arr2,el2,by rw[ht.other _ hne];exact h1,h2⟩,k.free,k.notp,k.noob⟩
 ·intro b hb';have hne:b≠B:=fun e=>hnp (e▸hb');exact ⟨(h.frame b hb').1,by rw[ht.other b hne];exact (h.frame b hb').2⟩
end
end Go.Ab
/- From the loaded program's code to compiled code. -/
namespace Go.Ab
open Go
structure TI where
 desc:TypeDesc
 size:Nat
 bytes:Nat
 zero:Option Value
def tinf (P:Program) (t:TypeId):Option TI:=
 match P.info? t,P.underlying t with
 | some i,some d=>some {desc:=d,size:=i.size,bytes:=i.bytes,zero:=i.zero}
 | _,_=>none
def aggD:TypeDesc->Bool
 | .struct _ | .array _ _=>true
 | _=>false
def cv1 (z:Nat):Value->Option AV
 | .bool b=>some (.bool b)
 | .int k n=>some (.int k n)
 | .string s=>some (.str s)
 | .pointer none=>some .nilp
 | .slice none 0 0=>some (.sl z [] .nil)
 | .map none=>some .nilm
 | .nilFunc=>some .nilf
 | .nilIface=>some .nili
 | .func (.func f) p q=>if p.size=0/\q.size=0 then some (.fn f []) else none
 | _=>none
def zDA (P:Program):Nat->TypeId->List Nat
 | 0,_=>[]
 | n+1,t=>match P.underlying t with
  | some (.struct fs)=>fs.toList.flatMap fun f=>zDA P n f.type
  | some (.array k e)=>(yHW k (zDA P n e)).flatten
  | some (.slice e)=>[P.cellsOf e]
  | _=>[0]
def pB:List Nat->List Value->Option (List AV)
 | _,[]=>some []
 | zs,v::vs=>match cv1 (zs.headD 0) v,pB zs.tail vs with
  | some a,some l=>some (a::l)
  | _,_=>none
def cv (P:Program) (t:TypeId) (v:Value):Option AV:=
 match v with
 | .agg cs=>(pB (zDA P 10 t) cs.toList).map .agg
 | v=>cv1 ((zDA P 10 t).headD 0) v
def xF (P:Program) (t:TypeId):Option (List AV):=
 match tinf P t with
 | some i=>match i.zero with
  | some v=>if v.cells.size=i.size then pB (zDA P 10 t) v.cells.toList else none
  | none=>none
 | none=>none
def opd (P:Program) (G:Nat->Option (List AV)) (t:TypeId):Operand->Option Opd
 | .tmp i=>some (.t i)
 | .const v=>(cv P t v).map .c
 | .global g=>(G g).map fun cs=> .c (.box cs 0)
 | .func f=>some (.c (.fn f []))
def opds (P:Program) (G:Nat->Option (List AV)):List TypeId->List Operand->Option (List Opd)
 | _,[]=>some []
 | ts,x::xs=>match opd P G (ts.headD 0) x,opds P G ts.tail xs with
  | some a,some l=>some (a::l)
  | _,_=>none
def zBY (t:Nat):Operand->Bool
 | .tmp i=>i==t
 | _=>false
def takes (L:FuncId->Bool) (ops:Array Oper) (dst:Option Nat):Bool:=
 match dst with
 | none=>false
 | some t=>ops.toList.any fun o=>match o.op with
  | .call {callee:= .builtin .append,args,.. }=>(args.toList.head?.map (zBY t)).getD false
  | .slice _ x _ none none=>zBY t x
  | .call {callee:= .value (.func f),args,.. }=>L f&&args.toList.any (zBY t)
  | .extract x _=>zBY t x
  | .assign x=>L (1000000+o.dst.getD 0*1000+t)&&zBY t x
  | _=>false
def eqk (P:Program) (t:TypeId):EqK:=
 match P.underlying t with
 | some .bool=> .sc
 | some (.pointer _)=> .ptr
 | some (.func _ _ _)=> .func
 | some (.array n e)=>match P.underlying e,P.info? e with
  | some (.int _),some i=>if i.size=1 then .arr n else .other
  | _,_=> .other
 | some (.slice _)=> .nsl
 | _=> .other
def mM (P:Program) (G:Nat->Option (List AV)) (fs:Array Field):List (Nat×Operand)->Option (List (Nat×Nat×Opd))
 | []=>some []
 | (i,x)::ps=>match fs[i]?,mM P G fs ps with
  | some f,some l=>match opd P G f.type x with
   | some a=>some ((f.offset,P.cellsOf f.type,a)::l)
   | none=>none
  | _,_=>none
def mO (P:Program) (G:Nat->Option (List AV)) (e:TypeId):List (Nat×Operand)->Option (List (Nat×Nat×Opd))
 | []=>some []
 | (i,x)::ps=>match opd P G e x,mO P G e ps with
  | some a,some l=>some ((i*P.cellsOf e,P.cellsOf e,a)::l)
  | _,_=>none
def rE (P:Program) (G:Nat->Option (List AV)) (e:TypeId):Nat->List (Nat×Operand)->Option (List Opd)
 | _,[]=>some []
 | k,(i,x)::ps=>match opd P G e x,rE P G e (k+1) ps with
  | some a,some l=>if i=k then some (a::l) else none
  | _,_=>none
def optO (P:Program) (G:Nat->Option (List AV)):Option Operand->Option (Option Opd)
 | none=>some none
 | some x=>(opd P G 0 x).map some
abbrev xA:=FuncId->Bool
def zGE (P:Program) (t:TypeId):Bool:=match P.underlying t with
 | some (.slice _)=>true
 | _=>false
def nilS:Operand->Bool
 | .const (.slice none _ _)=>true
 | _=>false
def zFE (P:Program) (t:TypeId):Option AV:=match tinf P t with
 | some ti=>match ti.zero with
  | some (.int k n)=>some (.int k n)
  | some (.bool b)=>some (.bool b)
  | some (.slice none 0 0)=>some (.sl 1 [] .nil)
  | _=>none
 | none=>none
def keyN (P:Program) (t:TypeId):Option Nat:=match eqk P t with
 | .arr n=>if n=0 then none else some n
 | _=>match P.underlying t with
  | some (.int _)=>some 0
  | _=>none
def yL (P:Program) (G:Nat->Option (List AV)) (L:xA) (ops:Array Oper) (o:Oper):Option AOp:=
 match o.op with
 | .move x=>(opd P G o.type x).map (.mov (takes L ops o.dst))
 | .assign x=>(opd P G o.type x).map (.mov true)
 | .pick c a b=>match opd P G o.type c,opd P G o.type a,opd P G o.type b with
  | some c,some a,some b=>some (.pick c a b)
  | _,_,_=>none
 | .alloc e=>(xF P e).map .alloc
 | .box e x=>match tinf P e,opd P G e x with
  | some i,some x=>some (.box i.size x)
  | _,_=>none
 | .build t ps=>match tinf P t,xF P t with
  | some {desc:= .struct fs,.. },some z=>if fs.all (fun f=>(P.info? f.type).isSome) then (mM P G fs ps.toList).map (.build z) else none
  | some {desc:= .array _ e,.. },some z=>if (P.info? e).isSome then (mO P G e ps.toList).map (.build z) else none
  | _,_=>none
 | .buildSlice t len ps=>match tinf P t with
  | some {desc:= .slice e,.. }=>match tinf P e,rE P G e 0 ps.toList with
   | some i,some l=>if l.length=len/\0 < i.size/\len*i.size<=2^24/\(xF P e).isSome then some (.bslice i.size (aggD i.desc) l) else none
   | _,_=>none
  | _=>none
 | .load t a=>match tinf P t,opd P G 0 a with
  | some i,some a=>if aggD i.desc || i.size=1 then some (.load (aggD i.desc) i.size (if aggD i.desc then L (2000000+o.dst.getD 0*1000+a.tmp.headD 0*10+i.size) else takes L ops o.dst) a) else none
  | _,_=>none
 | .store t a x=>match tinf P t,opd P G 0 a,opd P G t x with
  | some i,some a,some x=>some (.store i.size a x)
  | _,_,_=>none
 | .nilCheck x=>(opd P G o.type x).map .nilchk
 | .binOp op t x y u=>if zGE P t&&nilS y&&op== .eql then (opd P G t x).map .isnil else match opd P G t x,opd P G u y with
  | some x,some y=>some (.bin op (eqk P t) x y)
  | _,_=>none
 | .unOp op t x=>(opd P G t x).map (.un op)
 | .convert src dst x=>match P.underlying src,P.underlying dst,opd P G src x with
  | some (.int _),some (.int k),some x=>some (.conv k x)
  | _,_,_=>none
 | .fieldAddr t x f=>match P.underlying t,opd P G 0 x with
  | some (.struct fs),some x=>match fs[f]? with
   | some fd=>match P.info? fd.type with
    | some i=>if i.size=0 then none else some (.faddr fd.offset x)
    | none=>none
   | none=>none
  | _,_=>none
 | .indexAddr t x i=>match P.underlying t,opd P G t x,opd P G 0 i with
  | some (.array n e),some x,some i=>match P.info? e with
   | some j=>some (.iaddrA n j.size x i)
   | none=>none
  | some (.slice e),some x,some i=>match P.info? e with
   | some j=>some (.iaddrS j.size x i)
   | none=>none
  | _,_,_=>none
 | .extract x i=>(opd P G 0 x).map (.extr (zGE P o.type) · i)
 | .call {callee:= .value f,args,argTypes}=>match opds P G argTypes.toList args.toList with
  | some l=>match f with
   | .func f=>some (if L f then .callL f l else .call f l)
   | f=>(opd P G 0 f).map (.callv · l)
  | none=>none
 | .call {callee:= .builtin b,args,argTypes}=>match b,argTypes.toList,args.toList with
  | .len,[t],[x]=>match P.underlying t,opd P G t x with
   | some (.slice _),some x=>some (.len x)
   | some (.chan _ _),some x=>some (.lenc x)
   | _,_=>none
  | .append,[t,u],[x,y]=>match P.underlying t,P.underlying u,opd P G t x,opd P G u y with
   | some (.slice e),some (.slice _),some x,some y=>match tinf P e,xF P e with
    | some i,some _=>if 0 < i.size/\0 < i.bytes/\i.bytes<=2^20 then some (.append i.size i.bytes x y) else none
    | _,_=>none
   | _,_,_,_=>none
  | .max,[t,u],[x,y]=>match opd P G t x,opd P G u y with
   | some x,some y=>some (.mm true x y)
   | _,_=>none
  | .min,[t,u],[x,y]=>match opd P G t x,opd P G u y with
   | some x,some y=>some (.mm false x y)
   | _,_=>none
  | .copy,[t,u],[x,y]=>match P.underlying t,opd P G t x,opd P G u y with
   | some (.slice e),some x,some y=>match tinf P e with
    | some i=>some (.copy i.size x y)
    | none=>none
   | _,_,_=>none
  | _,_,_=>none
 | .makeSlice t l c=>match P.underlying t,opd P G 0 l,opd P G 0 c with
  | some (.slice e),some l,some c=>match tinf P e,xF P e with
   | some i,some z=>if i.bytes<=2^20 then some (.mkslice i.size i.bytes (aggD i.desc) z l c) else none
   | _,_=>none
  | _,_,_=>none
 | .slice t x lo hi none=>match P.underlying t,opd P G t x,optO P G lo,optO P G hi with
  | some (.slice e),some x,some lo,some hi=>match P.info? e with
   | some i=>some (.slice i.size (takes L ops o.dst || true) x lo hi)
   | none=>none
  | _,_,_,_=>none
 | .makeChan t n=>match P.underlying t,opd P G 0 n with
  | some (.chan _ e),some n=>match P.info? e with
   | some i=>some (.mkchan i.bytes n)
   | none=>none
  | _,_=>none
 | .send c x=>match opd P G 0 c,opd P G 0 x with
  | some c,some x=>some (.send c x)
  | _,_=>none
 | .recv t c false=>match P.underlying t,opd P G 0 c with
  | some (.chan _ e),some c=>if (xF P e).isSome then some (.recv c) else none
  | _,_=>none
 | .makeFunc (.func f) p cap=>if p.size=0 then (opds P G [] cap.toList).map (.mkfn f) else if cap.size=0 then (opds P G [] p.toList).map (.mkmeth f) else none
 | .makeMap t none=>match P.underlying t with
  | some (.map _ _)=>some .mkmap
  | _=>none
 | .lookup t x k cok=>match P.underlying t with
  | some (.map kt el)=>match keyN P kt,zFE P el,opd P G t x,opd P G kt k with
   | some n,some z,some x,some k=>some (.mlook n cok z x k)
   | _,_,_,_=>none
  | _=>none
 | .mapUpdate t x k v=>match P.underlying t with
  | some (.map kt el)=>match keyN P kt,opd P G t x,opd P G kt k,opd P G el v with
   | some n,some x,some k,some v=>some (.mupd n x k v)
   | _,_,_,_=>none
  | _=>none
 | .insert t x k v=>match P.underlying t with
  | some (.map kt el)=>match keyN P kt,opd P G t x,opd P G kt k,opd P G el v with
   | some n,some x,some k,some v=>some (.mupd n x k v)
   | _,_,_,_=>none
  | _=>none
 | .index t x i=>match P.underlying t,opd P G t x,opd P G 0 i with
  | some .string,some x,some i=>some (.sidx x i)
  | _,_,_=>none
 | .panic _=>some .stuck
 | .makeInterface .. =>some .stuck
 | _=>none
def xI (P:Program) (G:Nat->Option (List AV)) (L:xA) (ops:Array Oper) (o:Oper):Option AOper:=
 match yL P G L ops o,o.guard with
 | some a,none=>some {dst:=o.dst,op:=a,guard:=none}
 | some a,some (j,w)=>match (ops[j]?).bind (·.dst) with
  | some t=>some {dst:=o.dst,op:=a,guard:=some (t,w)}
  | none=>none
 | none,_=>none
def yM (P:Program) (G:Nat->Option (List AV)) (L:xA) (ops:Array Oper):List Oper->Option (List AOper)
 | []=>some []
 | o::os=>match xI P G L ops o,yM P G L ops os with
  | some a,some l=>some (a::l)
  | _,_=>none
def AOp.opds:AOp->List Opd
 | .mov _ x | .box _ x | .load _ _ _ x | .nilchk x | .un _ x | .conv _ x | .faddr _ x | .extr _ x _ | .len x | .isnil x | .mkchan _ x | .recv x | .lenc x=>[x]
 | .pick c a b=>[c,a,b]
 | .alloc _=>[]
 | .build _ ps=>ps.map (·.2.2)
 | .bslice _ _ ps=>ps
 | .store _ a x=>[a,x]
 | .send a x=>[a,x]
 | .bin _ _ x y | .iaddrA _ _ x y | .iaddrS _ x y | .append _ _ x y | .copy _ x y | .mm _ x y | .sidx x y | .mkslice _ _ _ _ x y=>[x,y]
 | .call _ l | .callL _ l | .mkfn _ l | .mkmeth _ l=>l
 | .callv x l=>x::l
 | .mkmap | .stuck=>[]
 | .mlook _ _ _ x k=>[x,k]
 | .mupd _ x k v=>[x,k,v]
 | .slice _ _ x lo hi=>x::(lo.toList++hi.toList)
def AOp.takes:AOp->List Nat
 | .mov true x=>x.tmp
 | .store _ _ x=>x.tmp
 | .append _ _ x _=>x.tmp
 | .slice _ true x _ none=>x.tmp
 | .callL _ l=>l.flatMap Opd.tmp
 | .extr true x _=>x.tmp
 | _=>[]
def AOper.names (o:AOper):List Nat:=o.op.opds.flatMap Opd.tmp++(o.guard.toList.map (·.1))
def AOp.ups:AOp->Bool
 | .alloc _ | .box .. | .store .. | .call .. | .callL .. | .callv .. | .mkslice .. | .append .. | .copy .. =>true
 | .bslice .. | .mkchan .. | .send .. | .recv .. | .mkmap | .mupd .. =>true
 | .load _ _ t _=>t
 | _=>false
def AOp.rds:AOp->Bool
 | .load .. | .append .. | .call .. | .callL .. | .callv .. | .lenc .. | .mlook .. | .mupd .. | .copy .. =>true
 | _=>false
def zEC (a b:AOper):Bool:=
 (a.dst.toList.all fun d=> !b.names.contains d&& !b.dst.toList.contains d)&&(b.dst.toList.all fun d=> !a.names.contains d)&&
 (a.op.takes.all fun t=> !b.op.takes.contains t)
def oT (a b:AOper):Bool:=(a.op.ups&&(b.op.ups || b.op.rds)) || (b.op.ups&&a.op.rds)
def vK (o:Oper):List Nat:=(o.after.toList.filter fun e=>Region.binds .any e).map (·.on)
def befs:List (List Nat)->List Nat->List Nat
 | [],acc=>acc
 | p::ps,acc=>befs ps (acc++[p.foldl (fun s q=>s ||| 2^q ||| acc.getD q 0) 0])
def uM:List (List Nat)->Nat->Bool
 | [],_=>true
 | p::ps,k=>p.all (· < k)&&uM ps (k+1)
def oN (b:List Nat) (n:Nat):List (Nat×Nat):=
 (yHE n).flatMap fun j=>((yHE j).filter fun i=> !(b.getD j 0).testBit i).map fun i=>(i,j)
def wY (ops:Array Oper) (l:List AOper):Option (List (Nat×Nat)):=
 let ps:=ops.toList.map vK
 let b:=befs ps []
 let prs:=oN b l.length
 if uM ps 0&&prs.all (fun p=>zEC (l.getD p.1 default) (l.getD p.2 default)) then some (prs.filter fun p=>oT (l.getD p.1 default) (l.getD p.2 default)) else none
def rR:List AOper->List (Nat×Nat)->Option AC
 | [⟨some t,.alloc [.bool false],none⟩,⟨none,.store 1 (.t t1) (.c (.bool true)),none⟩,⟨none,.store 1 (.t t2) (.c (.bool false)),none⟩,⟨some u,.load false 1 tk (.t t3),none⟩],[(1,2)]=>
  if t1=t/\t2=t/\t3=t then some (.either ⟨some t,.alloc [.bool false],none⟩ ⟨none,.store 1 (.t t1) (.c (.bool true)),none⟩ ⟨none,.store 1 (.t t2) (.c (.bool false)),none⟩ ⟨some u,.load false 1 tk (.t t3),none⟩) else none
 | _,_=>none
theorem jT {l:List AOper} {ps:List (Nat×Nat)} {x:AC} (h:rR l ps=some x):∃o0 o1 o2 o3,x= .either o0 o1 o2 o3/\l= [o0,o1,o2,o3]/\ps= [(1,2)]/\o0.op.ups=true/\o1.op.ups=true/\o2.op.ups=true/\o3.op.rds=true:=by
 unfold rR at h;split at h
 ·split at h
  ·injection h with h;subst h;exact ⟨_,_,_,_,rfl,rfl,rfl,rfl,rfl,rfl,rfl⟩
  ·cases h
 ·cases h
def comp (P:Program) (G:Nat->Option (List AV)) (L:xA):Code->Option AC
 | .skip=>some .skip
 | .region _ ops draw=>match yM P G L ops ops.toList with
  | some l=>if draw then (wY ops l).map fun ps=>(rR l ps).getD (.region l (some ps)) else some (.region l none)
  | none=>none
 | .seq a b=>match comp P G L a,comp P G L b with
  | some a,some b=>some (.seq a b)
  | _,_=>none
 | .cond c a b=>match opd P G 0 c,comp P G L a,comp P G L b with
  | some c,some a,some b=>some (.cond c a b)
  | _,_,_=>none
 | .block id a=>(comp P G L a).map (.block id)
 | .loop a=>(comp P G L a).map .loop
 | .exit id=>some (.exit id)
 | .ret=>some .ret
 | .rangeFunc g ps a b=>match opd P G 0 g,comp P G L a,comp P G L b with
  | some x,some a,some b=>some (.rangef x ps.toList a b)
  | _,_,_=>none
 | _=>none
end Go.Ab
/- Each operation does what its effect says: the simple ones. -/
namespace Go.Ab
open Go
def GE.leD (D:Nat) (E E':GE):Prop:=E.le E'/\∀d i g B,E'.loc d i g=some B->d<=D\/E.loc d i g=some B
theorem GE.leD_refl (D:Nat) (E:GE):E.leD D E:=⟨E.le_refl,fun _ _ _ _ h=> .inr h⟩
theorem GE.leD_trans {D:Nat} {A B C:GE} (h:A.leD D B) (k:B.leD D C):A.leD D C:=
 ⟨GE.le_trans h.1 k.1,fun d i g b hb=>by rcases k.2 d i g b hb with e | e;exact .inl e;exact h.2 d i g b e⟩
theorem GE.leD_addImm {D:Nat} {E:GE} {B lo hi:Nat} {arr:Array Value} (h:E.le (E.addImm B lo hi arr)):E.leD D (E.addImm B lo hi arr):=
 ⟨h,fun _ _ _ _ h=> .inr h⟩
theorem GE.leD_addLoc {D:Nat} {E:GE} {i g B r:Nat} (h:E.le (E.addLoc D i g B r)):E.leD D (E.addLoc D i g B r):=
 ⟨h,fun d' i' g' B' hb=>by
  simp only[GE.addLoc] at hb;split at hb
  ·rename_i hc;exact .inl (Nat.le_of_eq hc.1)
  ·exact .inr hb⟩
theorem GE.leD_addLocD {D d0:Nat} {E:GE} {i g B r:Nat} (hd:d0<=D) (h:E.le (E.addLoc d0 i g B r)):E.leD D (E.addLoc d0 i g B r):=
 ⟨h,fun d' i' g' B' hb=>by
  simp only[GE.addLoc] at hb;split at hb
  ·rename_i hc;exact .inl (hc.1▸hd)
  ·exact .inr hb⟩
def Done (G:Nat->Option (List AV)) (prot:Nat->Prop) (w0:World) (E0 E:GE) (s:St) (a:Act) (dst:Option Nat) (e:Eff) (res:Result Next):Prop:=
 ∃nx v w' E',res= .ok nx w'/\(nx= .value v\/(nx= .skip/\v=undef))/\E.leD s.D E'/\Ok G prot w0 E0 E' w' (s.app dst e) (putV a.tmps dst v)
theorem eS {imm z v c} (h:cv1 z v=some c):RelI imm c v/\c.one=true/\v.oneCell'=true:=by
 unfold cv1 at h;split at h
 ·injection h with h;subst h;exact ⟨.bool _,rfl,rfl⟩
 ·injection h with h;subst h;exact ⟨.int _ _,rfl,rfl⟩
 ·injection h with h;subst h;exact ⟨.str _,rfl,rfl⟩
 ·injection h with h;subst h;exact ⟨.nilp,rfl,rfl⟩
 ·injection h with h;subst h;exact ⟨.slE _ _ _ _ (fun _=>rfl) (fun _=>rfl),rfl,rfl⟩
 ·injection h with h;subst h;exact ⟨.nilm,rfl,rfl⟩
 ·injection h with h;subst h;exact ⟨.nilf,rfl,rfl⟩
 ·injection h with h;subst h;exact ⟨.nili,rfl,rfl⟩
 ·rename_i f p q;split at h
  ·rename_i hpq;injection h with h;subst h;obtain ⟨hp,hq⟩:=hpq;have hp':p= #[]:=yIJ hp;have hq':q= #[]:=yIJ hq;subst hp';subst hq';exact ⟨.fn _ [] [] rfl (by simp),rfl,rfl⟩
  ·cases h
 ·cases h
theorem sS {imm}:∀{zs:List Nat} {vs:List Value} {cs:List AV},pB zs vs=some cs->
  cs.length=vs.length/\∀(i:Nat) (c:AV) (v:Value),cs[i]?=some c->vs[i]?=some v->RelI imm c v/\c.one=true/\v.oneCell'=true
 | zs,[],cs,h=>by simp[pB] at h;subst h;simp
 | zs,v::vs,cs,h=>by
  simp only[pB] at h;split at h
  ·rename_i a l h1 h2;injection h with h;subst h;obtain ⟨hl,hr⟩:=sS (imm:=imm) h2;refine ⟨by simp[hl],fun i c u hc hu=> ?_⟩;cases i with
   | zero=>simp at hc hu;subst hc;subst hu;exact eS h1
   | succ i=>exact hr i c u (by simpa using hc) (by simpa using hu)
  ·cases h
theorem zVO {imm P t v c} (h:cv P t v=some c):RelI imm c v:=by
 unfold cv at h;split at h
 ·rename_i cs;rw[yGT] at h;obtain ⟨l,hl,rfl⟩:=h;obtain ⟨h1,h2⟩:=sS (imm:=imm) hl;have:=RelI.agg l cs.toList h1 (fun i c v hc hv=>(h2 i c v hc hv).1);simpa using this
 ·exact (eS h).1
section
variable {P:Program} {G:Nat->Option (List AV)} {prot:Nat->Prop} {w0:World} {E0 E:GE} {w:World} {s:St} {a:Act}
theorem mD:Rel E ud undef:= .imm _ _ (by have:=RelI.tup (imm:=E.imm) [] [] rfl (by simp);simpa[ud,undef] using this)
theorem Ok.rd (h:Ok G prot w0 E0 E w s a.tmps) (i:Nat):Rel E (s.rd i) (a.tmps.getD i undef):=by
 rw[St.rd,yGZ];cases hi:s.ts[i]? with
 | none=>
  have hlen:s.ts.length<=i:=List.getElem?_eq_none_iff.1 hi;have:a.tmps[i]?=none:=yIH (by rw[h.size];exact hlen);simp[yHP,this,mD]
 | some x=>
  have hlt:i < s.ts.length:=(yGY.1 hi).1;have hlt':i < a.tmps.size:=by rw[h.size];exact hlt
  have hv:a.tmps[i]?=some a.tmps[i]:=yHQ hlt';simp only[yHZ,yHP,hv];exact h.rel i x _ hi hv
theorem Ok.evr (h:Ok G prot w0 E0 E w s a.tmps) {t x o} (hx:opd P G t x=some o):Rel E (s.evr o) (a.eval x):=by
 cases x with
 | tmp i=>simp[opd] at hx;subst hx;exact h.rd i
 | const v=>simp only[opd,yGT] at hx;obtain ⟨c,hc,rfl⟩:=hx;exact .imm _ _ (zVO hc)
 | global g=>
  simp only[opd,yGT] at hx;obtain ⟨cs,hc,rfl⟩:=hx;have hg:=h.glob g cs hc;refine .imm _ _ ?_;have:=RelI.box (imm:=E.imm) cs 0 g 0 (fun j=>(E.imm g j).getD undef) (fun j c hj=>by obtain ⟨v,h1,h2⟩:=hg j c hj;rw[h1];exact h2)
   (fun j hj=>by obtain ⟨v,h1,_⟩:=hg j _ (yGX hj);simp[h1])
  simpa[St.evr,Act.eval] using this
 | func f=>
  simp[opd] at hx;subst hx;have:=RelI.fn (imm:=E.imm) f [] [] rfl (by simp);exact .imm _ _ (by simpa[St.evr,Act.eval] using this)
theorem Ok.ev (h:Ok G prot w0 E0 E w s a.tmps) {t x o} (hx:opd P G t x=some o):Rel E (s.ev o) (a.eval x):=by
 have:=h.evr hx;cases o with
 | t i=>exact this.dem
 | c v=>exact this
theorem zCX {z v c} (h:cv1 z v=some c):c.dull1:=by
 unfold cv1 at h;split at h<;>first | (injection h with h;subst h;trivial) | (split at h<;>first | (injection h with h;subst h;trivial) | cases h) | cases h
theorem pR:∀{zs:List Nat} {vs:List Value} {cs:List AV},pB zs vs=some cs->∀c∈cs,c.dull1
 | zs,[],cs,h=>by simp[pB] at h;subst h;simp
 | zs,v::vs,cs,h=>by
  simp only[pB] at h;split at h
  ·rename_i a l h1 h2;injection h with h;subst h;intro c hc;rcases List.mem_cons.1 hc with rfl | hc
   ·exact zCX h1
   ·exact pR h2 c hc
  ·cases h
theorem tC {t x c} (hx:opd P G t x=some (.c c)):c.dull:=by
 cases x with
 | tmp i=>simp[opd] at hx
 | const v=>
  simp only[opd,yGT] at hx;obtain ⟨c',hc,h⟩:=hx;cases h;unfold cv at hc;split at hc
  ·rw[yGT] at hc;obtain ⟨l,hl,rfl⟩:=hc;exact pR hl
  ·unfold cv1 at hc;split at hc<;>first | (injection hc with hc;subst hc;trivial) | (split at hc<;>first | (injection hc with hc;subst hc;trivial) | cases hc) | cases hc
 | global g=>simp only[opd,yGT] at hx;obtain ⟨cs,_,h⟩:=hx;cases h;trivial
 | func f=>simp[opd] at hx;subst hx;trivial
theorem jQ {t x o} (hx:opd P G t x=some o):(s.ev o).dull:=by
 cases o with
 | t i=>exact AV.dull_dem _
 | c v=>exact tC hx
theorem vR {b v} (h:Rel E b v) {z xs ad cap} (e:b.var1= .sl z xs .tip) (hv:v= .slice (some ad) xs.length cap) (hc:xs.length < cap):b= .sl z xs .tip:=by
 cases b with
 | sl z' xs' t=>
  cases t with
  | no=>simp[AV.var1] at e
  | tip=>simpa[AV.var1] using e
  | nil=>
   simp[AV.var1] at e;obtain ⟨rfl,rfl⟩:=e;subst hv;obtain ⟨_,_,_,hr⟩:=h.sl_inv;cases hr with
   | slE _ _ _ cap h1 h2=>exact absurd (h2 (h1 rfl)) (by simp at hc;omega)
   | slN _ _ _ _ _ _ _ _ _ h3=>exact absurd rfl h3
 | _=>simp[AV.var1] at e
theorem tV {b v} (h:Rel E b v) {z n ad cap} (ht:Tipped b.var1 v z n ad cap):Tipped b v z n ad cap:=by
 cases b with
 | sl z' xs' t=>
  generalize hb:(AV.sl z' xs' t).var1=b' at ht;cases ht with
  | sl z xs ad cap hc=>rw[vR h hb rfl hc];exact .sl z xs ad cap hc
  | tup as=>cases t<;>cases hb
  | agg as=>cases t<;>cases hb
 | _=>exact ht
theorem zO (h:Ok G prot w0 E0 E w s a.tmps) (dst:Option Nat) {b:AV} {v:Value} {rd:List (Nat×Nat)} (hr:Rel E b v) (hd:b.dull):
  Done G prot w0 E0 E s a dst {val:=b,rd:=rd} (.ok (.value v) w):=
 ⟨_,v,w,E,rfl,.inl rfl,GE.leD_refl _ _,by simpa[St.app] using h.putd dst hr hd⟩
theorem yB (x:Sem Value) {v:Value} {w':World} (h:x.run P w= .ok v w'):(do pure (Next.value (<-x)):Sem Next).run P w= .ok (.value v) w':=by
 simp[h]
theorem zBZ (h:Ok G prot w0 E0 E w s a.tmps) {t z n ad cap} (ht:Tipped (s.rd t) (a.tmps.getD t undef) z n ad cap):
  Hold E w s a.tmps (.t t) ad z n cap:=by
 have hlt:t < s.ts.length:=by
  rcases yHO t s.ts.length with hl | hl
  ·exact hl
  ·rw[St.rd,yGZ,yII hl] at ht;exact (ht.dull (by intro b hb;cases hb)).elim
 have hlt':t < a.tmps.size:=by rw[h.size];exact hlt
 refine .t t _ _ ad z n cap ?_ ?_ ht
 ·rw[St.rd,yGZ,yGX hlt];rfl
 ·rw[yHP,yHQ hlt'];rfl
theorem zIU (h:Ok G prot w0 E0 E w s a.tmps) (t:Nat):
  Ok G prot w0 E0 E w (s.demT t) a.tmps/\∀z n ad cap,Tipped (s.rd t) (a.tmps.getD t undef) z n ad cap->
   TipOk prot E w (s.demT t) ad z n cap/\∀l ad' z' n' cap',Hold E w (s.demT t) a.tmps l ad' z' n' cap'->ad'.block≠ad.block:=by
 obtain ⟨h1,h2⟩:=h.dem t;refine ⟨h1,fun z n ad cap ht=> ?_⟩;have hh:=zBZ h ht;refine ⟨TipOk.congr (s:=s) (s':=s.demT t) (fun _ _=>rfl) (h.tips _ _ _ _ _ hh),fun l ad' z' n' cap' hl hb=> ?_⟩;have:=h2 _ _ _ _ _ hl;exact this.1 (h.tinj _ _ _ _ _ _ _ _ _ _ this.2 hh hb)
theorem zCK (h:Ok G prot w0 E0 E w s a.tmps) (dst:Option Nat) {t x o} (hx:opd P G t x=some o):
  Done G prot w0 E0 E s a dst {val:=(s.evr o).var1,dem:=o.tmp} (.ok (.value (a.eval x)) w):=by
 have hr:=h.evr (s:=s) hx;refine ⟨_,_,w,E,rfl,.inl rfl,GE.leD_refl _ _,?_⟩;cases o with
 | c v=>
  simp only[St.app,Opd.tmp,yHF];refine h.put dst hr.var1 fun z n ad cap e=> ?_;exact ((tV hr e).dull (tC hx)).elim
 | t i=>
  cases x with
  | tmp j=>
   simp[opd] at hx;subst hx;simp only[St.app,Opd.tmp,yHL,yHF];obtain ⟨h1,h2⟩:=zIU h j;refine h1.put dst hr.var1 fun z n ad cap e=> ?_;have:=h2 z n ad cap (tV hr e);exact ⟨this.1,fun l ad' z' n' cap' _ hl=>this.2 l ad' z' n' cap' hl⟩
  | const v=>simp only[opd,yGT] at hx;obtain ⟨_,_,h⟩:=hx;cases h
  | global g=>simp only[opd,yGT] at hx;obtain ⟨_,_,h⟩:=hx;cases h
  | func f=>simp[opd] at hx
theorem cT (h:Ok G prot w0 E0 E w s a.tmps) (dst:Option Nat) {t x o take e} (hx:opd P G t x=some o) (he:opf s dst (.mov take o)=some e):
  Done G prot w0 E0 E s a dst e ((pure (.value (a.eval x)):Sem Next).run P w):=by
 rw[yGW];simp only[opf] at he;split at he
 ·injection he with he;subst he;exact zCK h dst hx
 ·injection he with he;subst he;have hr:=h.ev (s:=s) hx;refine ⟨_,_,w,E,rfl,.inl rfl,GE.leD_refl _ _,?_⟩;simp only[St.app,yHF];refine h.put dst hr.var1 fun z n ad cap e=> ?_;exact ((tV hr e).dull (jQ hx)).elim
theorem zCM (h:Ok G prot w0 E0 E w s a.tmps) (dst:Option Nat) {t c x y c' x' y' e} (hc:opd P G t c=some c') (hx:opd P G t x=some x') (hy:opd P G t y=some y')
  (he:opf s dst (.pick c' x' y')=some e):
  Done G prot w0 E0 E s a dst e ((do pure (.value (if<-asBool (a.eval c) then a.eval x else a.eval y)):Sem Next).run P w):=by
 simp only[opf] at he;split at he
 ·rename_i b hb;injection he with he;subst he;have hcv:=(h.ev (s:=s) hc);rw[hb] at hcv;rw[hcv.bool_inv];simp only[asBool,pure_bind,yGW];cases b
  ·exact zO h dst (h.ev hy) (jQ hy)
  ·exact zO h dst (h.ev hx) (jQ hx)
 ·cases he
end
end Go.Ab
/- Each operation does what its effect says: memory. -/
namespace Go.Ab
open Go
theorem z8 {P:Program} {t:TypeId} {i:TI} (h:tinf P t=some i):
  ∃inf,P.info? t=some inf/\P.underlying t=some i.desc/\inf.size=i.size/\inf.bytes=i.bytes/\inf.zero=i.zero:=by
 unfold tinf at h;split at h
 ·rename_i inf d h1 h2;injection h with h;subst h;exact ⟨inf,h1,h2,rfl,rfl,rfl⟩
 ·cases h
theorem xU {w:World} {g:Nat} {old cs:Array Value} {t:TypeId} {fr:Nat×Nat} (hg:w.heap[g]?=some (.cells old t fr)):
  Turned w (w.setRow g cs) g (.cells cs t fr):=
 ⟨setRow_heap w g old cs t fr hg,fun b hb=>setRow_other w g b cs hb,setRow_size w g cs,rfl,rfl,rfl⟩
theorem uA {w:World} {b o:Nat} {arr:Array Value} {el:TypeId} {fz:Nat×Nat} {v:Value} (h:w.heap[b]?=some (.cells arr el fz)) (hv:arr[o]?=some v):
  w.cell? ⟨b,o,none⟩=some v:=by
 simp[World.cell?,h,hv]
theorem yW (b o n:Nat):(⟨b,o,none⟩:Addr).add n=⟨b,o+n,none⟩:=by
 unfold Addr.add;split<;>simp_all
section
variable {P:Program} {G:Nat->Option (List AV)} {prot:Nat->Prop} {w0:World} {E0 E:GE} {w:World} {s:St} {a:Act}
theorem bS {t:TypeId} {d:TypeDesc} (h:P.underlying t=some d) (w:World):(isAgg t).run P w= .ok (aggD d) w:=by
 unfold isAgg;rw[yGU,run_underlying h];cases d<;>rfl
theorem yZ {t:TypeId} {inf:TypeInfo} {v:Value} (h:P.info? t=some inf) (hz:inf.zero=some v) (w:World):(zeroValue t).run P w= .ok v w:=by
 unfold zeroValue;rw[yGU,run_typeInfo w h];simp[hz]
theorem Ok.cellAt (h:Ok G prot w0 E0 E w s a.tmps) {b o:Nat} {v:Value} (hv:E.imm b o=some v):w.cell? ⟨b,o,none⟩=some v:=by
 obtain ⟨arr,el,fz,h1,h2,_⟩:=h.imm b o v hv;exact uA h1 h2
theorem v7 (h:Ok G prot w0 E0 E w s a.tmps) {d:Nat} {e0:Ent} {cs:List AV} {arr:Array Value} {el:TypeId} {val:AV} {v:Value} (he:s.os[d]?=some e0)
  (hsz:arr.size=cs.length) (hone:∀(j:Nat) (v:Value),arr[j]?=some v->v.oneCell'=true)
  (hrel:∀(j:Nat) (c:AV) (v:Value),cs[j]?=some c->arr[j]?=some v->Rel E c v)
  (hn:∀(j:Nat) z xs ad cap,cs[j]?=some (.sl z xs .tip)->arr[j]?=some (.slice (some ad) xs.length cap)->¬xs.length < cap)
  (hval:∀E':GE,E.le E'->E'.loc s.D d (e0.1+1)=some w.heap.size->E'.room w.heap.size=arr.size->Rel E' val v) (hd:val.dull):
  Done G prot w0 E0 E s a (some d) {val:=val,ups:=[(s.D,d,(e0.1+1,.cells cs))]} (.ok (.value v) {w with heap:=w.heap.push (.cells arr el)}):=by
 obtain ⟨h1,hf,hb⟩:=h.push (.cells arr el) rfl;have hB:w.heap.size < ({w with heap:=w.heap.push (.cells arr el)}:World).heap.size:=by simp
 have hat:obAt E {w with heap:=w.heap.push (.cells arr el)} s.D w.heap.size (.cells cs):=
  ⟨arr,el,hb,Nat.le_of_eq hsz.symm,hone,fun j c v hc hv=>(hrel j c v hc hv).mono h.to_self⟩
 obtain ⟨h2,hle⟩:=h1.newobj hf hB he (by simp) hat (fun cs' e arr' el' hb' j z xs ad cap hc hv=>by
  injection e with e;subst e;rw[hb] at hb';injection hb' with hb';injection hb' with hb' _ _;subst hb';exact hn j z xs ad cap hc hv) arr.size (fun arr' el' fz' hb'=>by
  rw[hb] at hb';injection hb' with hb';injection hb' with hb' _ _;subst hb';exact Nat.le_refl _)
 refine ⟨_,v,_,_,rfl,.inl rfl,GE.leD_addLoc hle,?_⟩;simp only[St.app,yHF,yHL];exact h2.putd (some d) (hval _ hle (by simp[GE.addLoc]) (by simp[GE.addLoc])) hd
theorem jA {E':GE} {D d g B:Nat} (h:E'.loc D d g=some B):Rel E' (.ptr D d g 0) (.pointer (some ⟨B,0,none⟩)):= .ptr _ _ _ _ _ h
theorem yH {t:TypeId} {z:List AV} (h:xF P t=some z):∃inf v,P.info? t=some inf/\inf.zero=some v/\v.cells.size=inf.size/\
  z.length=v.cells.size/\∀imm (i:Nat) (c:AV) (u:Value),z[i]?=some c->v.cells[i]?=some u->RelI imm c u/\c.one=true/\u.oneCell'=true:=by
 unfold xF at h;split at h
 ·rename_i ti hti;split at h
  ·rename_i v hv;split at h
   ·rename_i hs;obtain ⟨inf,h1,h2,h3,h4,h5⟩:=z8 hti;refine ⟨inf,v,h1,h5.trans hv,by rw[hs];exact h3.symm,?_,?_⟩
    ·have:=(sS (imm:=fun _ _=>none) h).1;simpa using this
    ·intro imm i c u hc hu;exact (sS (imm:=imm) h).2 i c u hc (by simpa using hu)
   ·cases h
  ·cases h
 ·cases h
theorem r9 {cs:List AV} {arr:Array Value} (hr:∀(j:Nat) (c:AV) (v:Value),cs[j]?=some c->arr[j]?=some v->Rel E c v) (hd:∀(j:Nat) c,cs[j]?=some c->c.dull1):
  ∀(j:Nat) z xs ad cap,(cs.map AV.var1)[j]?=some (.sl z xs .tip)->arr[j]?=some (.slice (some ad) xs.length cap)->¬xs.length < cap:=by
 intro j z xs ad cap hc hv hlt;rw[yHB,yGT] at hc;obtain ⟨c0,h0,h1⟩:=hc;exact AV.dull1_ne (hd j c0 h0) (vR (hr j c0 _ h0 hv) h1 rfl hlt)
theorem l8 {cs:List AV} {arr:Array Value} (hr:∀(j:Nat) (c:AV) (v:Value),cs[j]?=some c->arr[j]?=some v->Rel E c v):
  ∀(j:Nat) (c:AV) (v:Value),(cs.map AV.var1)[j]?=some c->arr[j]?=some v->Rel E c v:=by
 intro j c v hc hv;rw[yHB,yGT] at hc;obtain ⟨c0,h0,rfl⟩:=hc;exact (hr j c0 v h0 hv).var1
theorem cU {z v c} (h:cv1 z v=some c):c.dull:=by
 unfold cv1 at h;split at h<;>first | (injection h with h;subst h;trivial) | (split at h<;>first | (injection h with h;subst h;trivial) | cases h) | cases h
theorem rW:∀{zs:List Nat} {vs:List Value} {cs:List AV},pB zs vs=some cs->∀c∈cs,c.dull
 | zs,[],cs,h=>by simp[pB] at h;subst h;simp
 | zs,v::vs,cs,h=>by
  simp only[pB] at h;split at h
  ·rename_i a l h1 h2;injection h with h;subst h;intro c hc;rcases List.mem_cons.1 hc with rfl | hc
   ·exact cU h1
   ·exact rW h2 c hc
  ·cases h
theorem rX {t:TypeId} {z:List AV} (h:xF P t=some z):∀c∈z,c.dull:=by
 unfold xF at h;split at h
 ·split at h
  ·split at h
   ·exact rW h
   ·cases h
  ·cases h
 ·cases h
theorem zP {α:Type} {l:List α} {j:Nat} {c:α} (h:l[j]?=some c):c∈l:=yHM h
theorem aN (h:Ok G prot w0 E0 E w s a.tmps) (dst:Option Nat) {el z e} (hz:xF P el=some z) (he:opf s dst (.alloc z)=some e):
  Done G prot w0 E0 E s a dst e ((do pure (Next.value (<-Instr.alloc el true (.tuple #[]))):Sem Next).run P w):=by
 obtain ⟨inf,v,h1,h2,h3,h4,h5⟩:=yH hz;have hrun:(Instr.alloc el true (.tuple #[])).run P w= .ok (.pointer (some ⟨w.heap.size,0,none⟩)) {w with heap:=w.heap.push (.cells v.cells el)}:=by
  unfold Instr.alloc;rw[yGU,yZ h1 h2];simp[newVar,newRow]
 rw[yB _ hrun];simp only[opf] at he;split at he
 ·rename_i d;split at he
  ·rename_i e0 he0;injection he with he;subst he;have hr:∀(j:Nat) (c:AV) (u:Value),z[j]?=some c->v.cells[j]?=some u->Rel E c u:=fun j c u hc hu=> .imm _ _ (h5 _ j c u hc hu).1;refine v7 h he0 (by simp[h4]) ?_ (l8 hr) (r9 hr fun j c hc=>(rX hz c (zP hc)).d1) (fun E' _ hl _=>jA hl) trivial;intro j u hu;have hlt:j < v.cells.size:=(yHX.1 hu).1;exact (h5 E.imm j _ u (yGX (by omega)) hu).2.2
  ·cases he
 ·cases he
theorem vL {b:AV} {v:Value} (h:Rel E b v) (ho:b.cells.all AV.one=true):∀(j:Nat) (u:Value),v.cells[j]?=some u->u.oneCell'=true:=by
 intro j u hu;obtain ⟨hl,hr⟩:=h.cells;have hlt:j < v.cells.size:=(yHX.1 hu).1;have hc:b.cells[j]?=some b.cells[j]:=yGX (by omega);have:=hr j _ u hc hu;have h1:(b.cells[j]).one=true:=yHA.1 ho _ (List.getElem_mem _);clear hc;generalize b.cells[j]=c at this h1;cases this with
 | imm _ _ h=>cases h<;>first | rfl | (simp_all[AV.one])
 | agg=>simp_all[AV.one]
 | tup=>simp_all[AV.one]
 | _=>rfl
theorem vO (c:AV):c.dem1.dull1:=AV.dull1_dem1 c
theorem rP {t x o} (hx:opd P G t x=some o):∀(j:Nat) c,(s.ev o).cells[j]?=some c->c.dull1:=by
 intro j c hc;cases o with
 | t i=>
  simp only[St.ev] at hc;generalize s.rd i=b at hc;cases b with
  | agg cs=>
   simp only[AV.dem,AV.cells,yHB,yGT] at hc;obtain ⟨c0,_,rfl⟩:=hc;exact vO c0
  | sl z xs t=>cases t<;>(cases j<;>simp[AV.dem,AV.cells,Tip.dem] at hc;subst hc;trivial)
  | _=>cases j<;>simp[AV.dem,AV.cells] at hc;subst hc;trivial
 | c v=>
  simp only[St.ev] at hc;cases x with
  | tmp i=>simp[opd] at hx
  | const u=>
   simp only[opd,yGT] at hx;obtain ⟨c',hc',h⟩:=hx;cases h;unfold cv at hc';split at hc'
   ·rw[yGT] at hc';obtain ⟨l,hl,rfl⟩:=hc';exact (rW hl c (zP hc)).d1
   ·have:=cU hc';cases v with
    | agg cs=>have h1:=(eS (imm:=fun _ _=>none) hc').2.1;simp[AV.one] at h1
    | _=>cases j<;>simp[AV.cells] at hc;subst hc;exact this.d1
  | global g=>simp only[opd,yGT] at hx;obtain ⟨cs,_,h⟩:=hx;cases h;cases j<;>simp[AV.cells] at hc;subst hc;trivial
  | func f=>simp[opd] at hx;subst hx;cases j<;>simp[AV.cells] at hc;subst hc;trivial
theorem zGQ (h:Ok G prot w0 E0 E w s a.tmps) (dst:Option Nat) {el t n x o e} (hx:opd P G t x=some o) (he:opf s dst (.box n o)=some e):
  Done G prot w0 E0 E s a dst e ((do pure (Next.value (<-Instr.box el (a.eval x))):Sem Next).run P w):=by
 have hrun:(Instr.box el (a.eval x)).run P w= .ok (.pointer (some ⟨w.heap.size,0,none⟩)) {w with heap:=w.heap.push (.cells (a.eval x).cells el)}:=by
  simp[Instr.box,newVar,newRow]
 rw[yB _ hrun];have hr:=h.ev (s:=s) hx;simp only[opf] at he;split at he
 ·rename_i d;split at he
  ·rename_i e0 he0;split at he
   ·rename_i hc;injection he with he;subst he;obtain ⟨hl,hr'⟩:=hr.cells;exact v7 h he0 (by simp[hl]) (vL hr hc.2) (l8 hr') (r9 hr' (rP hx)) (fun E' _ hl _=>jA hl) trivial
   ·cases he
  ·cases he
 ·cases he
theorem vG {t:TypeId} {inf:TypeInfo} {d:TypeDesc} (hi:P.info? t=some inf) (hu:P.underlying t=some d) {b o:Nat} {f:Nat->Value}
  (hc:∀j,j < inf.size->w.cell? ⟨b,o+j,none⟩=some (f j)) (h1:aggD d=false->inf.size=1):
  (Instr.loadAt t (.pointer (some ⟨b,o,none⟩))).run P w= .ok (if aggD d then .agg ((yHE inf.size).map f).toArray else f 0) w:=by
 unfold Instr.loadAt;simp only[Instr.sureAddr,pure_bind,loadVar,yGU,bS hu,yGV];cases ha:aggD d
 ·have:=hc 0 (by rw[h1 ha];exact Nat.one_pos);simp only[yIA] at this;simp[this]
 ·simp only[yGU,if_true,run_sizeOf w hi,yGV,Program.cellsOf,hi,yIK,yHZ];rw[run_loadCells w _ inf.size f (fun j hj=>by rw[yW];exact hc j hj)];rfl
theorem pL {E':GE} {ag:Bool} {n off:Nat} {cs:List AV} {u:AV} {f:Nat->Value} (hp:part ag n cs off=some u)
  (hr:∀(j:Nat) (c:AV),j < n->cs[off+j]?=some c->Rel E' c (f j)) (h1:ag=false->n=1):
  Rel E' u (if ag then .agg ((yHE n).map f).toArray else f 0):=by
 unfold part at hp;split at hp
 ·rename_i hle;cases ag
  ·simp at hp;have:=h1 rfl;subst this;exact hr 0 u (by omega) (by simpa using hp)
  ·simp at hp;subst hp;refine .agg _ _ (by simp;omega) ?_;intro i c v hc hv;simp only[yHB,yGT] at hv;obtain ⟨j,hj,rfl⟩:=hv;have hin:i < n:=by
    have:=(yGY.1 hj).1;simpa using this
   have:j=i:=by rw[yIL hin] at hj;exact (Option.some.inj hj).symm
   subst this;refine hr j c hin ?_;rw[yHH hin,yHI] at hc;exact hc
 ·cases hp
theorem zFT {n off:Nat} {cs:List AV} {u:AV} (hp:part false n cs off=some u):cs[off]?=some u/\off+n<=cs.length:=by
 unfold part at hp;split at hp
 ·rename_i h;exact ⟨by simpa using hp,h⟩
 ·cases hp
theorem wH (h:Ok G prot w0 E0 E w s a.tmps) {d i g B:Nat} {o:Ob} (hl:s.look d i=(g,o)) (ho:o≠ .dead) (hb:E.loc d i g=some B):
  Live E s d i B/\obAt E w d B o/\(∀p,E.imm B p=none)/\¬prot B:=by
 obtain ⟨B',h1,h2,h3,h4⟩:=h.objs d i (by rw[hl];exact ho);rw[hl] at h1 h2;simp only at h1 h2;have:B'=B:=by rw[hb] at h1;exact (Option.some.inj h1).symm
 subst this;exact ⟨⟨by rw[hl];exact ho,by rw[hl];exact hb⟩,h2,h3,h4⟩
theorem zBD {cs vs:List AV} {off:Nat} (h:off+vs.length<=cs.length) (j:Nat):
  (putC cs off vs)[j]?=if off<=j/\j < off+vs.length then vs[j - off]? else cs[j]?:=by
 unfold putC;rw[yIB,yHJ];simp only[yHG];rw[yIC (by omega)];split
 ·rename_i hj;rw[if_neg (by omega),yHH hj]
 ·rename_i hj;rw[yHJ];split
  ·rename_i hk;rw[if_pos (by omega)]
  ·rename_i hk;rw[if_neg (by omega),yHI];congr 1;omega
theorem gJ (h:Ok G prot w0 E0 E w s a.tmps) (dst:Option Nat) {t x o i take e} (ht:tinf P t=some i) (hag:(aggD i.desc || decide (i.size=1))=true) (hx:opd P G 0 x=some o)
  (he:opf s dst (.load (aggD i.desc) i.size take o)=some e):
  Done G prot w0 E0 E s a dst e ((do pure (Next.value (<-Instr.loadAt t (a.eval x))):Sem Next).run P w):=by
 obtain ⟨inf,hi,hu,hs,_,_⟩:=z8 ht;have h1:aggD i.desc=false->i.size=1:=fun e=>by simpa[e] using hag
 have hr:=h.ev (s:=s) hx;simp only[opf] at he;split at he
 ·rename_i cs off hev;rw[hev] at hr;obtain ⟨b,o',vs,hv,hrel,himm⟩:=hr.box_inv;rw[hv];split at he
  ·rename_i u hp;injection he with he;subst he;have hle:off+i.size<=cs.length:=by
    unfold part at hp;split at hp
    ·assumption
    ·cases hp
   have hrun:=vG (w:=w) hi hu (b:=b) (o:=o'+off) (f:=fun j=>vs (off+j)) (fun j hj=>by
    rw[yHK];exact h.cellAt (himm (off+j) (by omega))) (fun e=>by rw[hs];exact h1 e)
   rw[yB _ hrun];have hru:Rel E u (if aggD i.desc then .agg ((yHE i.size).map fun j=>vs (off+j)).toArray else vs (off+0)):=
    pL hp (fun j c hj hc=> .imm _ _ (hrel _ _ hc)) h1
   rw[hs];exact zO h dst hru.dem (AV.dull_dem u)
  ·cases he
 ·rename_i hb cs off hev;rw[hev] at hr;obtain ⟨b,o',vs,hv,hrel,_,himm⟩:=hr.bx_inv;rw[hv];split at he
  ·rename_i u hp;injection he with he;subst he;have hle:off+i.size<=cs.length:=by
    unfold part at hp;split at hp
    ·assumption
    ·cases hp
   have hrun:=vG (w:=w) hi hu (b:=b) (o:=o'+off) (f:=fun j=>vs (off+j)) (fun j hj=>by
    rw[yHK];exact h.cellAt (himm (off+j) (by omega))) (fun e=>by rw[hs];exact h1 e)
   rw[yB _ hrun];have hru:Rel E u (if aggD i.desc then .agg ((yHE i.size).map fun j=>vs (off+j)).toArray else vs (off+0)):=
    pL hp (fun j c hj hc=>hrel _ _ hc) h1
   rw[hs];exact zO h dst hru.dem (AV.dull_dem u)
  ·cases he
 ·rename_i d' i' g off hev;rw[hev] at hr;obtain ⟨B,hloc,hv⟩:=hr.ptr_inv;rw[hv];split at he
  ·rename_i g' cs hlk;split at he
   ·rename_i hg;subst hg;obtain ⟨hlive,⟨arr,el,hb,hsz,hone,hcr⟩,himm,hnp⟩:=wH h hlk (by simp) hloc;split at he
    ·rename_i u hp;have hle:off+i.size<=cs.length:=by
      unfold part at hp;split at hp
      ·assumption
      ·cases hp
     have hget:∀j,j < i.size->arr[off+j]?=some (arr.getD (off+j) undef):=fun j hj=>by
      have:off+j < arr.size:=by omega
      simp[yHP,yHQ this]
     have hrun:=vG (w:=w) hi hu (b:=B) (o:=off) (f:=fun j=>arr.getD (off+j) undef) (fun j hj=>uA hb (hget j (by omega))) (fun e=>by rw[hs];exact h1 e);rw[yB _ hrun,hs];have hru:Rel E u (if aggD i.desc then .agg ((yHE i.size).map fun j=>arr.getD (off+j) undef).toArray else arr.getD (off+0) undef):=
      pL hp (fun j c hj hc=>(hcr _ c _ hc (hget j hj)).mono (GE.to_le E d')) h1
     split at he
     ·rename_i htake;injection he with he;subst he;rw[yIM] at htake;have hag1:=htake.2;rw[hag1] at hp hru|-;simp only[if_true] at hru|-;have hu0:u= .agg ((cs.drop off).take i.size):=by
       unfold part at hp;rw[if_pos hle,if_pos rfl] at hp;exact (Option.some.inj hp).symm
      have hcl:(u.cells.map AV.dem1).length=i.size:=by rw[hu0];simp[AV.cells];omega
      have hcell:∀j,j < i.size->u.cells[j]?=cs[off+j]?:=by
       intro j hj;rw[hu0];simp only[AV.cells];rw[yHH hj,yHI]
      have hnew:∀j,(putC cs off (u.cells.map AV.dem1))[j]?=if off<=j/\j < off+i.size then (cs[j]?).map AV.dem1 else cs[j]?:=by
       intro j;have:=zBD (cs:=cs) (off:=off) (vs:=u.cells.map AV.dem1) (by rw[hcl];exact hle) j;rw[this,hcl];split
       ·rename_i hj;rw[yHB,hcell (j - off) (by omega),show off+(j - off)=j by omega]
       ·rfl
      have hnl:(putC cs off (u.cells.map AV.dem1)).length=cs.length:=by
       unfold putC;simp only[yHR,yHG,yID,hcl];omega
      generalize putC cs off (u.cells.map AV.dem1)=cs2 at hnew hnl|-;have hlk':s.look d' i'=((s.look d' i').1,.cells cs):=by rw[hlk]
      have hT:Turned w w B (.cells arr el (0,0)):=⟨hb,fun _ _=>rfl,rfl,rfl,rfl,rfl⟩;have hat:obAt E w d' B (.cells cs2):=⟨arr,el,hb,by rw[hnl];exact hsz,hone,fun j c v hc hv=>by
       rw[hnew] at hc;split at hc
       ·obtain ⟨c0,h0,rfl⟩:=yGT.1 hc;exact (hcr _ _ _ h0 hv).dem1
       ·exact hcr j c v hc hv⟩
      have h2:=h.setobj hlive hT (by simp) hat (fun cs' e arr' el' hb' j z xs ad cap hc hv hlt=>by
       injection e with e;subst e;rw[hb] at hb';injection hb' with hb';injection hb' with hb' _ _;subst hb';rw[hnew] at hc;split at hc
       ·obtain ⟨c0,h0,hc⟩:=yGT.1 hc;exact (AV.dull1_ne (vO c0) hc).elim
       ·exact .inl (.o d' i' j _ cs z xs B arr el ad cap hlk hc hloc hb hv hlt)) (fun arr' el' fz' e=>by
       injection e with e1 _ _;subst e1;exact h.rooms _ _ _ _ hloc _ _ _ hb)
      rw[hlk] at h2;refine ⟨_,_,w,E,rfl,.inl rfl,GE.leD_refl _ _,?_⟩;simp only[St.app,yHF,yHL];have hin:d'=s.D->i' < s.os.length:=s.look_lt hlive.1;have hlook:=St.look_up s (d',i',((s.look d' i').1,.cells cs2)) hin;simp only at hlook;rw[hlk] at hlook;have hback:∀l ad' z' n' cap',Hold E w (s.up (d',i',(g',Ob.cells cs2))) a.tmps l ad' z' n' cap'->(∀j,off<=j->j < off+i.size->l≠ .o d' i' j)/\Hold E w s a.tmps l ad' z' n' cap':=by
       intro l ad' z' n' cap' hh;cases hh with
       | t i2 a2 v2 _ _ _ _ k1 k2 k3=>exact ⟨by simp,.t i2 a2 v2 ad' z' n' cap' (by simpa using k1) k2 k3⟩
       | o d2 i2 j g2 csx _ xs2 B2 arr2 el2 _ _ k1 k2 k3 k4 k5 k6=>
        rw[hlook] at k1;by_cases hc:d2=d'/\i2=i'
        ·rw[if_pos hc] at k1;injection k1 with kg ko;injection ko with ko;subst ko;obtain ⟨rfl,rfl⟩:=hc;rw[hnew] at k2;split at k2
         ·obtain ⟨c0,h0,hc⟩:=yGT.1 k2;exact (AV.dull1_ne (vO c0) hc).elim
         ·rename_i hj;refine ⟨fun j' q1 q2 e=>hj ?_,.o d2 i2 j g2 cs z' xs2 B2 arr2 el2 ad' cap' (by rw[hlk];exact congrArg (·,Ob.cells cs) kg) k2 k3 k4 k5 k6⟩
          injection e with _ _ e;omega
        ·rw[if_neg hc] at k1;exact ⟨fun j' q1 q2 e=>hc (by injection e with e1 e2 e3;exact ⟨e1,e2⟩),.o d2 i2 j g2 csx z' xs2 B2 arr2 el2 ad' cap' k1 k2 k3 k4 k5 k6⟩
      refine h2.put dst hru fun z n ad cap htp=> ?_;rw[hu0] at htp;cases htp with
      | agg as us j z xs ad cap q1 q2 q3=>
       have hjs:j < i.size:=by
        have:=(yGY.1 q1).1;rw[yHG] at this;omega
       rw[yHH hjs,yHI] at q1;have q2':(List.map (fun j=>arr.getD (off+j) undef) (yHE i.size))[j]?=some (.slice (some ad) xs.length cap):=by simpa using q2
       rw[yHB,yIL hjs] at q2';have q2'':arr.getD (off+j) undef= .slice (some ad) xs.length cap:=Option.some.inj q2';have hold:Hold E w s a.tmps (.o d' i' (off+j)) ad z xs.length cap:= .o d' i' (off+j) _ cs z xs B arr el ad cap hlk q1 hloc hb (by rw[hget j hjs,q2'']) q3;refine ⟨?_,fun l ad' z' n' cap' _ hl e=> ?_⟩
       ·have k:=h.tips _ _ _ _ _ hold;refine ⟨k.spot,k.room,k.free,k.notp,fun d2 i2 hl2=> ?_⟩;obtain ⟨p1,p2⟩:=hl2;rw[hlook] at p1 p2;by_cases hc:d2=d'/\i2=i'
        ·rw[if_pos hc] at p2;obtain ⟨rfl,rfl⟩:=hc;exact k.noob d2 i2 ⟨by rw[hlk];simp,by rw[hlk];exact p2⟩
        ·rw[if_neg hc] at p1 p2;exact k.noob d2 i2 ⟨p1,p2⟩
       ·have:=hback _ _ _ _ _ hl;exact this.1 (off+j) (by omega) (by omega) (h.tinj _ _ _ _ _ _ _ _ _ _ this.2 hold e)
     rename_i hnotag;split at he
     ·rename_i htake;injection he with he;subst he;rw[yIM] at htake;have hna:aggD i.desc=false:=by
       cases hh:aggD i.desc with
       | false=>rfl
       | true=>rw[htake.1,hh] at hnotag;simp at hnotag
      have hn1:=h1 hna;rw[hna] at hp hru|-;simp only[yHS,if_false,yIA] at hru|-;obtain ⟨hcu,_⟩:=zFT hp;have harr:arr[off]?=some (arr.getD off undef):=by have:=hget 0 (by omega);simpa using this
      have hlk':s.look d' i'=((s.look d' i').1,.cells cs):=by rw[hlk]
      -- the object's cell loses its right
      have hT:Turned w w B (.cells arr el (0,0)):=⟨hb,fun _ _=>rfl,rfl,rfl,rfl,rfl⟩;have hat:obAt E w d' B (.cells (cs.set off u.dem1)):=⟨arr,el,hb,by simpa using hsz,hone,fun j c v hc hv=>by
       by_cases hj:j=off
       ·rw[hj] at hc hv;rw[yHC (by omega)] at hc;injection hc with hc;subst hc;exact (hcr _ _ _ hcu hv).dem1
       ·rw[yHD (fun e=>hj e.symm)] at hc;exact hcr j c v hc hv⟩
      have h2:=h.setobj hlive hT (by simp) hat (fun cs' e arr' el' hb' j z xs ad cap hc hv hlt=>by
       injection e with e;subst e;rw[hb] at hb';injection hb' with hb';injection hb' with hb' _ _;subst hb';by_cases hj:j=off
       ·rw[hj] at hc;rw[yHC (by omega)] at hc;injection hc with hc;exact (AV.dull1_ne (vO u) hc).elim
       ·rw[yHD (fun e=>hj e.symm)] at hc;exact .inl (.o d' i' j _ cs z xs B arr el ad cap hlk hc hloc hb hv hlt)) (fun arr' el' fz' e=>by
       injection e with e1 _ _;subst e1;exact h.rooms _ _ _ _ hloc _ _ _ hb)
      rw[hlk] at h2;refine ⟨_,_,w,E,rfl,.inl rfl,GE.leD_refl _ _,?_⟩;simp only[St.app,yHF,yHL];refine h2.putS dst hru (fun as=>⟨fun e=>by subst e;exact absurd htake.2 (by simp[AV.isSl]),fun e=>by subst e;exact absurd htake.2 (by simp[AV.isSl])⟩) fun z xs ad cap eu hv hlt=> ?_;subst eu;have hold:Hold E w s a.tmps (.o d' i' off) ad z xs.length cap:= .o d' i' off _ cs z xs B arr el ad cap hlk hcu hloc hb (by rw[harr,hv]) hlt;have hin:d'=s.D->i' < s.os.length:=s.look_lt hlive.1;have hlook:=St.look_up s (d',i',((s.look d' i').1,.cells (cs.set off (AV.sl z xs .tip).dem1))) hin;simp only at hlook;rw[hlk] at hlook;have hback:∀l ad' z' n' cap',Hold E w (s.up (d',i',(g',Ob.cells (cs.set off (AV.sl z xs .tip).dem1)))) a.tmps l ad' z' n' cap'->l≠ .o d' i' off/\Hold E w s a.tmps l ad' z' n' cap':=by
       intro l ad' z' n' cap' hh;cases hh with
       | t i2 a2 v2 _ _ _ _ k1 k2 k3=>exact ⟨by simp,.t i2 a2 v2 ad' z' n' cap' (by simpa using k1) k2 k3⟩
       | o d2 i2 j g2 cs2 _ xs2 B2 arr2 el2 _ _ k1 k2 k3 k4 k5 k6=>
        rw[hlook] at k1;by_cases hc:d2=d'/\i2=i'
        ·rw[if_pos hc] at k1;injection k1 with kg ko;injection ko with ko;subst ko;obtain ⟨rfl,rfl⟩:=hc;by_cases hj:j=off
         ·rw[hj] at k2;rw[yHC (by omega)] at k2;injection k2 with k2;exact (AV.dull1_ne (vO (.sl z xs .tip)) k2).elim
         ·rw[yHD (fun e=>hj e.symm)] at k2;exact ⟨fun e=>hj (by injection e),.o d2 i2 j g2 cs z' xs2 B2 arr2 el2 ad' cap' (by rw[hlk];exact congrArg (·,Ob.cells cs) kg) k2 k3 k4 k5 k6⟩
        ·rw[if_neg hc] at k1;exact ⟨fun e=>hc (by injection e with e1 e2 e3;exact ⟨e1,e2⟩),.o d2 i2 j g2 cs2 z' xs2 B2 arr2 el2 ad' cap' k1 k2 k3 k4 k5 k6⟩
      refine ⟨?_,fun l ad' z' n' cap' _ hl e=> ?_⟩
      ·have k:=h.tips _ _ _ _ _ hold;refine ⟨k.spot,k.room,k.free,k.notp,fun d2 i2 hl2=> ?_⟩;obtain ⟨q1,q2⟩:=hl2;rw[hlook] at q1 q2;by_cases hc:d2=d'/\i2=i'
       ·rw[if_pos hc] at q2;obtain ⟨rfl,rfl⟩:=hc;exact k.noob d2 i2 ⟨by rw[hlk];simp,by rw[hlk];exact q2⟩
       ·rw[if_neg hc] at q1 q2;exact k.noob d2 i2 ⟨q1,q2⟩
      ·have:=hback _ _ _ _ _ hl;exact this.1 (h.tinj _ _ _ _ _ _ _ _ _ _ this.2 hold e)
     ·injection he with he;subst he;exact zO h dst hru.dem (AV.dull_dem u)
    ·cases he
   ·cases he
  ·cases he
 ·cases he
end
end Go.Ab
/- Each operation does what its effect says: stores,addresses,arithmetic. -/
namespace Go.Ab
open Go
theorem AV.upto_mono {d d':Nat} (hd:d<=d'):∀n {b:AV},b.upto d n=true->b.upto d' n=true
 | 0,b,h=>by simp[AV.upto] at h
 | n+1,b,h=>by
  cases b with
  | agg cs=>simp only[AV.upto,yHA] at h|-;exact fun c hc=>AV.upto_mono hd n (h c hc)
  | tup cs=>simp only[AV.upto,yHA] at h|-;exact fun c hc=>AV.upto_mono hd n (h c hc)
  | fn f cs=>simp only[AV.upto,yHA] at h|-;exact fun c hc=>AV.upto_mono hd n (h c hc)
  | meth f cs=>simp only[AV.upto,yHA] at h|-;exact fun c hc=>AV.upto_mono hd n (h c hc)
  | ifc t v=>simp only[AV.upto] at h|-;exact AV.upto_mono hd n h
  | _=>simp only[AV.upto,decide_eq_true_eq] at h|-<;>omega
theorem Rel.upto {E:GE} {d:Nat} {b v} (r:Rel E b v):∀n,b.upto d n=true->Rel (E.to d) b v:=by
 induction r with
 | imm a v r=>intro n _;exact .imm a v r
 | ptr d' i g off B hb=>
  intro n hn;cases n<;>simp[AV.upto] at hn
  exact .ptr _ _ _ _ _ (by simp only[GE.to];rw[if_pos hn];exact hb)
 | own d' i g off len z ea B cap hb hc hro=>
  intro n hn;cases n<;>simp[AV.upto] at hn
  exact .own _ _ _ _ _ _ _ _ _ (by simp only[GE.to];rw[if_pos hn];exact hb) hc hro
 | mp d' i g B hb=>
  intro n hn;cases n<;>simp[AV.upto] at hn
  exact .mp _ _ _ _ (by simp only[GE.to];rw[if_pos hn];exact hb)
 | ch d' i g B hb=>
  intro n hn;cases n<;>simp[AV.upto] at hn
  exact .ch _ _ _ _ (by simp only[GE.to];rw[if_pos hn];exact hb)
 | yl d' i g B hb=>
  intro n hn;cases n<;>simp[AV.upto] at hn
  exact .yl _ _ _ _ (by simp only[GE.to];rw[if_pos hn];exact hb)
 | agg cs vs h1 h2 ih=>
  intro n hn;cases n with
  | zero=>simp[AV.upto] at hn
  | succ n=>simp only[AV.upto,yHA] at hn;exact .agg cs vs h1 fun i c v hc hv=>ih i c v hc hv n (hn c (zP hc))
 | tup cs vs h1 h2 ih=>
  intro n hn;cases n with
  | zero=>simp[AV.upto] at hn
  | succ n=>simp only[AV.upto,yHA] at hn;exact .tup cs vs h1 fun i c v hc hv=>ih i c v hc hv n (hn c (zP hc))
 | ifc t a v _ ih=>
  intro n hn;cases n with
  | zero=>simp[AV.upto] at hn
  | succ n=>simp only[AV.upto] at hn;exact .ifc t a v (ih n hn)
 | fn f cs vs h1 h2 ih=>
  intro n hn;cases n with
  | zero=>simp[AV.upto] at hn
  | succ n=>simp only[AV.upto,yHA] at hn;exact .fn f cs vs h1 fun i c v hc hv=>ih i c v hc hv n (hn c (zP hc))
 | meth f cs vs h1 h2 ih=>
  intro n hn;cases n with
  | zero=>simp[AV.upto] at hn
  | succ n=>simp only[AV.upto,yHA] at hn;exact .meth f cs vs h1 fun i c v hc hv=>ih i c v hc hv n (hn c (zP hc))
 | bx k cs off b o vs h1 h2 h3 ih=>
  intro n hn;cases n with
  | zero=>simp[AV.upto] at hn
  | succ n=>
   simp only[AV.upto,decide_eq_true_eq] at hn;refine .bx k cs off b o vs (fun i c hc=> ?_) h2 h3;obtain ⟨m,hm⟩:=h2 c (zP hc);exact ih i c hc m (AV.upto_mono hn m hm)
theorem AV.cells_one {b:AV} (h:∀cs,b≠ .agg cs):b.cells= [b]:=by cases b<;>first | rfl | exact absurd rfl (h _)
theorem AV.stc_one {b:AV} (h:∀cs,b≠ .agg cs):b.stc= [b.var1]:=by cases b<;>first | rfl | exact absurd rfl (h _)
theorem pY:∀cs:List AV,(stcL cs).length=cs.length
 | []=>rfl
 | c::r=>by
  unfold stcL;split
  ·rename_i h;cases h
  ·rename_i h;injection h with h1 h2;subst h2;simp
  ·rename_i h;injection h with h1 h2;subst h2;rw[yHT,yHT,pY]
theorem AV.stc_length (b:AV):b.stc.length=b.cells.length:=by cases b<;>simp[AV.stc,AV.cells,pY]
theorem dQ:∀cs:List AV,∃p:Nat->Prop,(∀i j,p i->p j->i=j)/\∀(j:Nat) c,(stcL cs)[j]?=some c->∃c0,cs[j]?=some c0/\((c=c0/\p j)\/c=c0.dem1.var1)
 | []=>⟨fun _=>False,fun _ _ h=>h.elim,fun j c h=>by simp[stcL] at h⟩
 | c0::r=>by
  unfold stcL;split
  ·rename_i h;cases h
  ·rename_i z xs r' h;injection h with h1 h2;subst h1;subst h2;refine ⟨fun j=>j=0,fun i j hi hj=>by omega,fun j c hc=> ?_⟩;cases j with
   | zero=>simp at hc;subst hc;exact ⟨_,rfl,.inl ⟨rfl,rfl⟩⟩
   | succ j=>
    rw[yHU,yHB,yGT] at hc;obtain ⟨c1,h1,rfl⟩:=hc;exact ⟨c1,by rw[yHU];exact h1,.inr rfl⟩
  ·rename_i c1 r' _ h;injection h with h1 h2;subst h1;subst h2;obtain ⟨p,hp,hg⟩:=dQ r;refine ⟨fun j=>∃i,j=i+1/\p i,fun i j ⟨a,ha,hpa⟩ ⟨b,hb,hpb⟩=>by have:=hp a b hpa hpb;omega,fun j c hc=> ?_⟩;cases j with
   | zero=>simp at hc;subst hc;exact ⟨_,rfl,.inr rfl⟩
   | succ j=>
    rw[yHU] at hc;obtain ⟨c2,h1,h2⟩:=hg j c hc;refine ⟨c2,by rw[yHU];exact h1,?_⟩;rcases h2 with ⟨h2,h3⟩ | h2
    ·exact .inl ⟨h2,j,rfl,h3⟩
    ·exact .inr h2
theorem Value.cells_one {E:GE} {b:AV} {v:Value} (h:Rel E b v) (hb:∀cs,b≠ .agg cs):v.cells= #[v]:=by
 cases h with
 | agg cs=>exact absurd rfl (hb cs)
 | imm _ _ h=>cases h<;>first | rfl | exact absurd rfl (hb _)
 | _=>rfl
theorem Rel.agg_val {E:GE} {cs:List AV} {v:Value} (h:Rel E (.agg cs) v):v= .agg v.cells:=by
 cases h with
 | imm _ _ h=>cases h;rfl
 | agg=>rfl
theorem zAJ {E:GE} {b:AV} {v:Value} (h:Rel E b v):∃p:Nat->Prop,(∀i j,p i->p j->i=j)/\∀(j:Nat) (c:AV) (u:Value),b.stc[j]?=some c->v.cells[j]?=some u->
  Rel E c u/\∀z xs ad cap,c= .sl z xs .tip->u= .slice (some ad) xs.length cap->xs.length < cap->Tipped b v z xs.length ad cap/\p j:=by
 by_cases hagg:∃cs,b= .agg cs
 ·obtain ⟨cs,rfl⟩:=hagg;obtain ⟨_,hr⟩:=h.cells;obtain ⟨p,hp,hg⟩:=dQ cs;refine ⟨p,hp,fun j c u hc hu=> ?_⟩;obtain ⟨c0,h0,h1⟩:=hg j c hc;have hrel:=hr j c0 u h0 hu;rcases h1 with ⟨rfl,hpj⟩ | rfl
  ·refine ⟨hrel,fun z xs ad cap e hv hlt=>⟨?_,hpj⟩⟩;subst e;subst hv;rw[h.agg_val];exact .agg _ _ j z xs ad cap h0 hu hlt
  ·refine ⟨hrel.dem1.var1,fun z xs ad cap e hv hlt=> ?_⟩;exact (AV.dull1_ne (vO c0) (vR hrel.dem1 e hv hlt)).elim
 ·have hn:∀cs,b≠ .agg cs:=fun cs e=>hagg ⟨cs,e⟩;refine ⟨fun j=>j=0,fun i j hi hj=>by omega,fun j c u hc hu=> ?_⟩;rw[AV.stc_one hn] at hc;rw[Value.cells_one h hn] at hu;cases j with
  | zero=>
   simp at hc hu;subst hc;subst hu;refine ⟨h.var1,fun z xs ad cap e hv hlt=>⟨?_,rfl⟩⟩;rw[vR h e hv hlt,hv];exact .sl z xs ad cap hlt
  | succ j=>simp at hc
theorem k9 {cs vs:List AV} {off:Nat} (h:off+vs.length<=cs.length) (j:Nat):
  (putC cs off vs)[j]?=if off<=j/\j < off+vs.length then vs[j - off]? else cs[j]?:=by
 unfold putC;rw[yIB,yHJ];simp only[yHG];rw[yIC (by omega)];split
 ·rename_i hj;rw[if_neg (by omega),yHH hj]
 ·rename_i hj;rw[yHJ];split
  ·rename_i hk;rw[if_pos (by omega)]
  ·rename_i hk;rw[if_neg (by omega),yHI];congr 1;omega
theorem pJ {cs vs:List Value} {off:Nat} (h:off+vs.length<=cs.length) (j:Nat):
  (cs.take off++vs++cs.drop (off+vs.length))[j]?=if off<=j/\j < off+vs.length then vs[j - off]? else cs[j]?:=by
 rw[yIB,yHJ];simp only[yHG];rw[yIC (by omega)];split
 ·rename_i hj;rw[if_neg (by omega),yHH hj]
 ·rename_i hj;rw[yHJ];split
  ·rename_i hk;rw[if_pos (by omega)]
  ·rename_i hk;rw[if_neg (by omega),yHI];congr 1;omega
section
variable {P:Program} {G:Nat->Option (List AV)} {prot:Nat->Prop} {w0:World} {E0 E:GE} {w:World} {s:St} {a:Act}
theorem yCO (x:Sem Unit) {w':World} (h:x.run P w= .ok () w'):(do x;pure Next.skip:Sem Next).run P w= .ok .skip w':=by
 simp[h]
theorem sX (h:Ok G prot w0 E0 E w s a.tmps) {t x o} (hx:opd P G t x=some o):
  ∃s1,s1=o.tmp.foldl St.demT s/\Ok G prot w0 E0 E w s1 a.tmps/\(∀d i,s1.look d i=s.look d i)/\s1.D=s.D/\s1.os=s.os/\
   ∀z n ad cap,Tipped (s.evr o) (a.eval x) z n ad cap->
    TipOk prot E w s1 ad z n cap/\∀l ad' z' n' cap',Hold E w s1 a.tmps l ad' z' n' cap'->ad'.block≠ad.block:=by
 cases o with
 | c v=>exact ⟨_,rfl,h,fun _ _=>rfl,rfl,rfl,fun z n ad cap e=>(e.dull (tC hx)).elim⟩
 | t i=>
  cases x with
  | tmp j=>
   simp[opd] at hx;subst hx;obtain ⟨h1,h2⟩:=zIU h j;exact ⟨_,rfl,h1,fun _ _=>rfl,rfl,rfl,fun z n ad cap e=>h2 z n ad cap e⟩
  | const v=>simp only[opd,yGT] at hx;obtain ⟨_,_,h⟩:=hx;cases h
  | global g=>simp only[opd,yGT] at hx;obtain ⟨_,_,h⟩:=hx;cases h
  | func f=>simp[opd] at hx
theorem dP (h:Ok G prot w0 E0 E w s a.tmps) {t x o} (hx:opd P G t x=some o):
  ∃s1,s1=o.tmp.foldl St.demT s/\Ok G prot w0 E0 E w s1 a.tmps/\(∀d i,s1.look d i=s.look d i)/\s1.D=s.D/\s1.os=s.os/\
   ∀z xs ad cap,s.evr o= .sl z xs .tip->a.eval x= .slice (some ad) xs.length cap->xs.length < cap->
    TipOk prot E w s1 ad z xs.length cap/\∀l ad' z' n' cap',Hold E w s1 a.tmps l ad' z' n' cap'->ad'.block≠ad.block:=by
 obtain ⟨s1,q1,q2,q3,q4,q5,q6⟩:=sX h hx;exact ⟨s1,q1,q2,q3,q4,q5,fun z xs ad cap e hv hc=>q6 z xs.length ad cap (by rw[e,hv];exact .sl z xs ad cap hc)⟩
theorem aH (h:Ok G prot w0 E0 E w s a.tmps) (dst:Option Nat) {t p x po xo i e} (ht:tinf P t=some i) (hp:opd P G 0 p=some po) (hx:opd P G t x=some xo)
  (he:opf s dst (.store i.size po xo)=some e):
  Done G prot w0 E0 E s a dst e ((do Instr.storeAt t (a.eval p) (a.eval x);pure Next.skip:Sem Next).run P w):=by
 obtain ⟨inf,hi,hu,hs,_,_⟩:=z8 ht;have hr:=h.ev (s:=s) hp;have hxr:=h.evr (s:=s) hx;simp only[opf] at he;split at he
 ·rename_i d' i' g off hev;rw[hev] at hr;obtain ⟨B,hloc,hv⟩:=hr.ptr_inv;rw[hv];split at he
  ·rename_i g' cs hlk;split at he
   ·rename_i hc;obtain ⟨hg,hn,hle,hup,hone1⟩:=hc;subst hg;injection he with he;subst he;obtain ⟨hlive,⟨arr,el,hb,hsz,hone,hcr⟩,himm,hnp⟩:=wH h hlk (by simp) hloc;obtain ⟨hlen,hcells⟩:=hxr.cells;have hstl:(s.evr xo).stc.length=(a.eval x).cells.toList.length:=by rw[AV.stc_length,hlen];simp
    have hvl:(a.eval x).cells.toList.length=i.size:=by rw[yIN,<-hlen,hn]
    have hst:(Instr.storeAt t (.pointer (some ⟨B,off,none⟩)) (a.eval x)).run P w=
      .ok () (w.setRow B (arr.toList.take (off+0)++(a.eval x).cells.toList++arr.toList.drop (off+0+(a.eval x).cells.toList.length)).toArray):=by
     unfold Instr.storeAt;simp only[Instr.sureAddr,pure_bind,storeVar,yGU,run_sizeOf w hi,yGV,Program.cellsOf,hi,yIK,yHZ];rw[if_neg (by rw[<-hlen,hn,hs];simp)];exact run_storeCells_at P B off el _ 0 arr w hb (by rw[hvl];omega) (fun v hv=>by
      obtain ⟨j,hj,rfl⟩:=List.getElem_of_mem hv;exact vL hxr hone1 j _ (by rw[yHQ (by simpa using hj)];simp))
    rw[yCO _ hst];obtain ⟨s1,hs1,h1,hl1,hD1,hos1,htip⟩:=sX h hx;have hlive1:Live E s1 d' i' B:=(tG hl1).2 hlive;have hT:Turned w (w.setRow B (arr.toList.take (off+0)++(a.eval x).cells.toList++arr.toList.drop (off+0+(a.eval x).cells.toList.length)).toArray) B
      (.cells (arr.toList.take (off+0)++(a.eval x).cells.toList++arr.toList.drop (off+0+(a.eval x).cells.toList.length)).toArray el (0,0)):=xU hb
    simp only[yIA] at hT|-;generalize harr':(arr.toList.take off++(a.eval x).cells.toList++arr.toList.drop (off+(a.eval x).cells.toList.length))=l' at hT|-;have hl'get:∀j,l'[j]?=if off<=j/\j < off+(a.eval x).cells.toList.length then (a.eval x).cells.toList[j - off]? else arr.toList[j]?:=by
     intro j;rw[<-harr'];exact pJ (by rw[hvl];simp;omega) j
    have hl'len:l'.length=arr.size:=by
     rw[<-harr'];simp only[yHR,yHG,yID,hvl,yIN];omega
    have hcget:∀j,(putC cs off (s.evr xo).stc)[j]?=if off<=j/\j < off+(s.evr xo).stc.length then (s.evr xo).stc[j - off]? else cs[j]?:=
     fun j=>k9 (by rw[hstl,hvl];exact hle) j
    have hone':∀(j:Nat) (v:Value),l'.toArray[j]?=some v->v.oneCell'=true:=by
     intro j v hj;simp only[yIE,hl'get] at hj;split at hj
     ·exact vL hxr hone1 (j - off) v (by simpa using hj)
     ·exact hone j v (by simpa using hj)
    have hrelD:Rel (E.to d') (s.evr xo) (a.eval x):=hxr.upto _ hup;have hat:obAt E (w.setRow B l'.toArray) d' B (.cells (putC cs off (s.evr xo).stc)):=by
     refine ⟨l'.toArray,el,hT.here,?_,hone',?_⟩
     ·simp only[yIO,hl'len,putC,yHR,yHG,yID,hstl,hvl];omega
     ·intro j c v hc hv;rw[hcget] at hc;simp only[yIE,hl'get] at hv;rw[hstl] at hc;split at hc
      ·rename_i hj;rw[if_pos hj] at hv;obtain ⟨_,_,hst2⟩:=zAJ hrelD;exact (hst2 (j - off) c v hc (by simpa using hv)).1
      ·rename_i hj;rw[if_neg hj] at hv;exact hcr j c v hc (by simpa using hv)
    obtain ⟨pst,hpst,hst1⟩:=zAJ hxr;have key:∀(j:Nat) z xs ad cap,(putC cs off (s.evr xo).stc)[j]?=some (.sl z xs .tip)->l'.toArray[j]?=some (.slice (some ad) xs.length cap)->xs.length < cap->
      Hold E w s1 a.tmps (.o d' i' j) ad z xs.length cap\/(off<=j/\pst (j - off)/\Tipped (s.evr xo) (a.eval x) z xs.length ad cap):=by
     intro j z xs ad cap hc hv hlt;rw[hcget,hstl] at hc;simp only[yIE,hl'get] at hv;split at hc
     ·rename_i hj;rw[if_pos hj] at hv;obtain ⟨k1,k2⟩:=(hst1 (j - off) _ _ hc (by simpa using hv)).2 z xs ad cap rfl rfl hlt;exact .inr ⟨hj.1,k2,k1⟩
     ·rename_i hj;rw[if_neg hj] at hv;exact .inl (.o d' i' j _ cs z xs B arr el ad cap (by rw[hl1];exact hlk) hc hloc hb (by simpa using hv) hlt)
    have h2:=h1.setobj hlive1 hT (by simp) hat (fun cs' e arr' el' hb' j z xs ad cap hc hv hlt=>by
     injection e with e;subst e;rw[hT.here] at hb';injection hb' with hb';injection hb' with hb' _ _;subst hb';rcases key j z xs ad cap hc hv hlt with k | ⟨k0,k1,k2⟩
     ·exact .inl k
     ·obtain ⟨t1,t2⟩:=htip z _ ad cap k2;refine .inr ⟨t1,t2,fun j' z' xs' ad' cap' hc' hv' hlt' hbk=> ?_⟩;rcases key j' z' xs' ad' cap' hc' hv' hlt' with k' | ⟨m0,m1,_⟩
      ·exact absurd hbk (t2 _ _ _ _ _ k')
      ·have:=hpst _ _ k1 m1;omega) (fun arr' el' fz' e=>by
     injection e with e1 _ _;subst e1;simp only[yIO,hl'len];exact h.rooms _ _ _ _ hloc _ _ _ hb)
    rw[hl1,hlk] at h2;refine ⟨_,_,_,E,rfl,.inr ⟨rfl,rfl⟩,GE.leD_refl _ _,?_⟩;simp only[St.app,yHL,yHF,<-hs1];exact h2.putd dst mD lV
   ·cases he
  ·cases he
 ·cases he
theorem eJ (h:Ok G prot w0 E0 E w s a.tmps) (dst:Option Nat) {t x o e} (o':Oper) (ho:o'.op= .nilCheck x) (hx:opd P G t x=some o) (he:opf s dst (.nilchk o)=some e):
  Done G prot w0 E0 E s a dst e ((execOp a.eval o').run P w):=by
 have hr:=h.ev (s:=s) hx;simp only[opf] at he;simp only[execOp,ho];split at he
 ·rename_i d i g off hev;injection he with he;subst he;rw[hev] at hr;obtain ⟨B,hb,hv⟩:=hr.ptr_inv;rw[hv] at hr|-;exact zO h dst hr trivial
 ·rename_i cs off hev;injection he with he;subst he;rw[hev] at hr;obtain ⟨b,o,vs,hv,_,_⟩:=hr.box_inv;rw[hv] at hr|-;exact zO h dst hr trivial
 ·rename_i k cs off hev;injection he with he;subst he;rw[hev] at hr;obtain ⟨b,o,vs,hv,_,_⟩:=hr.bx_inv;rw[hv] at hr|-;exact zO h dst hr trivial
 ·rename_i f cp hev;injection he with he;subst he;rw[hev] at hr;obtain ⟨vs,hv,_,_⟩:=hr.fn_inv;rw[hv] at hr|-;exact zO h dst hr trivial
 ·cases he
theorem zMG (h:Ok G prot w0 E0 E w s a.tmps) (dst:Option Nat) {t x o op e} (hx:opd P G t x=some o) (he:opf s dst (.un op o)=some e):
  Done G prot w0 E0 E s a dst e ((do pure (Next.value (<-Op.unary op (a.eval x))):Sem Next).run P w):=by
 have hr:=h.ev (s:=s) hx;simp only[opf] at he;split at he
 ·rename_i v hv;injection he with he;subst he;unfold unf at hv;split at hv
  ·rename_i k n hev;injection hv with hv;subst hv;rw[hev] at hr;rw[hr.int_inv];simp only[Op.unary,Op.intArith,pure_bind,yGW];exact zO h dst (.imm _ _ (.int _ _)) trivial
  ·rename_i b hev;injection hv with hv;subst hv;rw[hev] at hr;rw[hr.bool_inv];simp only[Op.unary,pure_bind,yGW];exact zO h dst (.imm _ _ (.bool _)) trivial
  ·cases hv
 ·cases he
theorem zCT (h:Ok G prot w0 E0 E w s a.tmps) (dst:Option Nat) {src dt x o k k' e} (hs:P.underlying src=some (.int k')) (hd:P.underlying dt=some (.int k)) (hx:opd P G src x=some o)
  (he:opf s dst (.conv k o)=some e):
  Done G prot w0 E0 E s a dst e ((do pure (Next.value (<-convert src dt (a.eval x))):Sem Next).run P w):=by
 have hr:=h.ev (s:=s) hx;simp only[opf] at he;split at he
 ·rename_i k0 n hev;injection he with he;subst he;rw[hev] at hr;rw[hr.int_inv];have:(convert src dt (.int k0 n)).run P w= .ok (.int k (k.wrap n)) w:=by
   unfold convert;rw[yGU,run_underlying hs,yGV,yGU,run_underlying hd,yGV];rfl
  rw[yB _ this];exact zO h dst (.imm _ _ (.int _ _)) trivial
 ·cases he
theorem aM (h:Ok G prot w0 E0 E w s a.tmps) (dst:Option Nat) {t fs x o fi fd inf e} (hu:P.underlying t=some (.struct fs)) (hf:fs[fi]?=some fd) (hi:P.info? fd.type=some inf) (h0:inf.size≠0)
  (hx:opd P G 0 x=some o) (he:opf s dst (.faddr fd.offset o)=some e):
  Done G prot w0 E0 E s a dst e ((do pure (Next.value (<-Instr.fieldAt t (a.eval x) fi)):Sem Next).run P w):=by
 have hr:=h.ev (s:=s) hx;have hrun:∀b off,(Instr.fieldAt t (.pointer (some ⟨b,off,none⟩)) fi).run P w= .ok (.pointer (some ⟨b,off+fd.offset,none⟩)) w:=by
  intro b off;unfold Instr.fieldAt;rw[yGU,run_underlying hu];simp[hf,Instr.sureAddr,fieldPlace,run_sizeOf w hi,Program.cellsOf,hi,h0,yW]
 simp only[opf] at he;split at he
 ·rename_i d i g off hev;injection he with he;subst he;rw[hev] at hr;obtain ⟨B,hb,hv⟩:=hr.ptr_inv;rw[hv,yB _ (hrun _ _)];exact zO h dst (.ptr _ _ _ _ _ hb) trivial
 ·rename_i cs off hev;injection he with he;subst he;rw[hev] at hr;obtain ⟨b,o,vs,hv,h1,h2⟩:=hr.box_inv;rw[hv,yB _ (hrun _ _),yHK];exact zO h dst (.imm _ _ (.box _ _ _ _ vs h1 h2)) trivial
 ·rename_i k cs off hev;injection he with he;subst he;rw[hev] at hr;obtain ⟨b,o,vs,hv,h1,h2,h3⟩:=hr.bx_inv;rw[hv,yB _ (hrun _ _),yHK];exact zO h dst (.bx _ _ _ _ _ vs h1 h2 h3) trivial
 ·cases he
theorem eN (h:Ok G prot w0 E0 E w s a.tmps) (dst:Option Nat) {t n el x xo ix io inf e} (hu:P.underlying t=some (.array n el)) (hi:P.info? el=some inf)
  (hx:opd P G t x=some xo) (hix:opd P G 0 ix=some io) (he:opf s dst (.iaddrA n inf.size xo io)=some e):
  Done G prot w0 E0 E s a dst e ((do pure (Next.value (<-Instr.indexAt t (a.eval x) (a.eval ix))):Sem Next).run P w):=by
 have hr:=h.ev (s:=s) hx;have hri:=h.ev (s:=s) hix;simp only[opf] at he;split at he
 ·rename_i k m hev;rw[hev] at hri;rw[hri.int_inv];split at he
  ·rename_i hm;have hrun:∀b off,(Instr.indexAt t (.pointer (some ⟨b,off,none⟩)) (.int k m)).run P w= .ok (.pointer (some ⟨b,off+m.toNat*inf.size,none⟩)) w:=by
    intro b off;unfold Instr.indexAt;simp[asIntOf,run_underlying hu,Instr.sureAddr,hm,run_sizeOf w hi,Program.cellsOf,hi,yW]
   split at he
   ·rename_i d i g off hev;injection he with he;subst he;rw[hev] at hr;obtain ⟨B,hb,hv⟩:=hr.ptr_inv;rw[hv,yB _ (hrun _ _)];exact zO h dst (.ptr _ _ _ _ _ hb) trivial
   ·rename_i cs off hev;injection he with he;subst he;rw[hev] at hr;obtain ⟨b,o,vs,hv,h1,h2⟩:=hr.box_inv;rw[hv,yB _ (hrun _ _),yHK];exact zO h dst (.imm _ _ (.box _ _ _ _ vs h1 h2)) trivial
   ·cases he
  ·cases he
 ·cases he
theorem zCR (h:Ok G prot w0 E0 E w s a.tmps) (dst:Option Nat) {t x o i e tk} (hx:opd P G t x=some o) (he:opf s dst (.extr tk o i)=some e):
  Done G prot w0 E0 E s a dst e ((do pure (Next.value (<-Instr.extract (a.eval x) i)):Sem Next).run P w):=by
 cases tk with
 | false=>
  have hr:=h.ev (s:=s) hx;simp only[opf] at he;split at he
  ·rename_i vs hev;rw[hev] at hr;obtain ⟨us,hv,hl,hc⟩:=hr.tup_inv;rw[hv];split at he
   ·rename_i v hvi;injection he with he;subst he;have hlt:i < us.length:=by rw[<-hl];exact (yGY.1 hvi).1
    have hu:us[i]?=some us[i]:=yGX hlt;have:(Instr.extract (.tuple us.toArray) i).run P w= .ok us[i] w:=by
     unfold Instr.extract;simp[hlt]
    rw[yB _ this];exact zO h dst (hc i v _ hvi hu).dem (AV.dull_dem v)
   ·cases he
  ·cases he
 | true=>
 have hr:=h.evr (s:=s) hx;simp only[opf] at he;split at he
 ·rename_i vs hev;rw[hev] at hr;obtain ⟨us,hv,hl,hc⟩:=hr.tup_inv;obtain ⟨s1,hs1,o1,hl1,hD1,hos1,htip⟩:=sX h hx;rw[hev] at htip;rw[hv] at htip|-;have hx:∀(v:AV),vs[i]?=some v->∃u,us[i]?=some u/\(Instr.extract (.tuple us.toArray) i).run P w= .ok u w:=by
   intro v hvi;have hlt:i < us.length:=by rw[<-hl];exact (yGY.1 hvi).1
   exact ⟨us[i],yGX hlt,by unfold Instr.extract;simp[hlt]⟩
  split at he
  ·rename_i z xs hvi;injection he with he;subst he;obtain ⟨u,hu,hrun⟩:=hx _ hvi;rw[yB _ hrun];refine ⟨_,_,w,E,rfl,.inl rfl,GE.leD_refl _ _,?_⟩;simp only[St.app,yHF,<-hs1];refine o1.put dst (hc i _ _ hvi hu) fun z n ad cap e=> ?_;cases e with
   | sl z xs ad cap hlt=>
    obtain ⟨t1,t2⟩:=htip z xs.length ad cap (.tup vs us.toArray i z xs ad cap hvi (by simpa using hu) hlt);exact ⟨t1,fun l ad' z' n' cap' _ hh=>t2 l ad' z' n' cap' hh⟩
  ·rename_i v _ hvi;injection he with he;subst he;obtain ⟨u,hu,hrun⟩:=hx _ hvi;rw[yB _ hrun];exact zO h dst (hc i v _ hvi hu).dem (AV.dull_dem v)
  ·cases he
 ·cases he
end
end Go.Ab
/- Each operation does what its effect says: slices' elements,arithmetic,comparisons. -/
namespace Go.Ab
open Go
theorem zU:∀{xs:List AV} {z:Nat},(∀x∈xs,x.cells.length=z)->(yC xs).length=xs.length*z
 | [],z,_=>by simp[yC]
 | x::xs,z,h=>by
  have h1:=h x (by simp);have h2:=zU (xs:=xs) (z:=z) fun y hy=>h y (by simp[hy]);simp only[yC,yIP,yHR,yHT] at h2|-;rw[h1,h2,yHV];omega
theorem uQ:∀{xs:List AV} {z n k:Nat} {x:AV},(∀x∈xs,x.cells.length=z)->xs[n]?=some x->k < z->(yC xs)[n*z+k]?=x.cells[k]?
 | [],z,n,k,x,_,hx,_=>by simp at hx
 | y::xs,z,n,k,x,h,hx,hk=>by
  have h1:=h y (by simp);simp only[yC,yIP];cases n with
  | zero=>
   simp at hx;subst hx;rw[Nat.zero_mul,Nat.zero_add,List.getElem?_append_left (by omega)]
  | succ n=>
   have:=uQ (xs:=xs) (z:=z) (n:=n) (k:=k) (x:=x) (fun y hy=>h y (by simp[hy])) (by simpa using hx) hk;rw[List.getElem?_append_right (by rw[h1,yHV];omega),h1,show (n+1)*z+k - z=n*z+k by rw[yHV];omega];exact this
theorem uR (xs ys:List AV):yC (xs++ys)=yC xs++yC ys:=by simp[yC]
section
variable {P:Program} {G:Nat->Option (List AV)} {prot:Nat->Prop} {w0:World} {E0 E:GE} {w:World} {s:St} {a:Act}
theorem eM (h:Ok G prot w0 E0 E w s a.tmps) (dst:Option Nat) {t el x xo ix io inf e} (hu:P.underlying t=some (.slice el)) (hi:P.info? el=some inf)
  (hx:opd P G t x=some xo) (hix:opd P G 0 ix=some io) (he:opf s dst (.iaddrS inf.size xo io)=some e):
  Done G prot w0 E0 E s a dst e ((do pure (Next.value (<-Instr.indexAt t (a.eval x) (a.eval ix))):Sem Next).run P w):=by
 have hr:=h.ev (s:=s) hx;have hri:=h.ev (s:=s) hix;simp only[opf] at he;split at he
 ·rename_i k m hev;rw[hev] at hri;rw[hri.int_inv];have hrun:∀b off (len cap:Nat),0<=m/\m < (len:Int)->(Instr.indexAt t (.slice (some ⟨b,off,none⟩) len cap) (.int k m)).run P w= .ok (.pointer (some ⟨b,off+m.toNat*inf.size,none⟩)) w:=by
   intro b off len cap hm;unfold Instr.indexAt;simp[asIntOf,run_underlying hu,hm,run_sizeOf w hi,Program.cellsOf,hi,yW]
  split at he
  ·rename_i z' xs tp hev;split at he
   ·rename_i hc;obtain ⟨h0,hlt,hz⟩:=hc;injection he with he;subst he;subst hz;rw[hev] at hr;obtain ⟨a',cap,hv,hri'⟩:=hr.sl_inv;rw[hv] at hri'|-;cases hri' with
    | slE _ _ _ _ _ _=>simp at hlt;omega
    | slN _ _ _ b o cap vs h1 h2 h3 h4 h5 h6=>
     rw[yB _ (hrun _ _ _ _ ⟨h0,hlt⟩)];have hn:m.toNat < xs.length:=by omega
     have hx':xs[m.toNat]?=some (xs.getD m.toNat ud):=by simp[yGZ,yGX hn]
     have hlen:=h4 _ (zP hx');have:=zU h4;refine zO h dst (.imm _ _ (by
      have:=RelI.box (imm:=E.imm) (xs.getD m.toNat ud).cells 0 b (o+m.toNat*inf.size) (fun k=>vs (m.toNat*inf.size+k))
       (fun k c hk=>h5 _ c (by rw[uQ h4 hx' (by have:=(yGY.1 hk).1;omega)];exact hk))
       (fun k hk=>by
        have:=h6 (m.toNat*inf.size+k) (by
         rw[zU h4];have:(m.toNat+1)*inf.size<=xs.length*inf.size:=Nat.mul_le_mul_right _ (by omega);rw[yHV] at this;omega)
        rw[yHK];exact this)
      simpa using this)) trivial
   ·cases he
  ·rename_i d i g o len z' ea hev;split at he
   ·rename_i hc;injection he with he;subst he;obtain ⟨h0,hlt,hz⟩:=hc;rw[hev] at hr;obtain ⟨B,cap,hb,hcap,hv⟩:=hr.own_inv;rw[hv,yB _ (hrun _ _ _ _ ⟨h0,hlt⟩)];exact zO h dst (.ptr _ _ _ _ _ hb) trivial
   ·cases he
  ·cases he
 ·cases he
theorem zGO (h:Ok G prot w0 E0 E w s a.tmps) (dst:Option Nat) {t el x o ty e} (hu:P.underlying t=some (.slice el)) (hx:opd P G t x=some o) (he:opf s dst (.len o)=some e):
  Done G prot w0 E0 E s a dst e ((do pure (Next.value (<-Builtin.len_ #[t] ty #[a.eval x])):Sem Next).run P w):=by
 have hr:=h.ev (s:=s) hx;have hrun:∀b (len cap:Nat),(Builtin.len_ #[t] ty #[.slice b len cap]).run P w= .ok (.int .i64 len) w:=by
  intro b len cap;unfold Builtin.len_;simp[run_underlying hu,goInt]
 simp only[opf] at he;split at he
 ·rename_i z xs tp hev;injection he with he;subst he;rw[hev] at hr;obtain ⟨a',cap,hv,_⟩:=hr.sl_inv;rw[hv,yB _ (hrun _ _ _)];exact zO h dst (.imm _ _ (.int _ _)) trivial
 ·rename_i d i g o len z ea hev;injection he with he;subst he;rw[hev] at hr;obtain ⟨B,cap,hb,hcap,hv⟩:=hr.own_inv;rw[hv,yB _ (hrun _ _ _)];exact zO h dst (.imm _ _ (.int _ _)) trivial
 ·cases he
theorem zCL (h:Ok G prot w0 E0 E w s a.tmps) (dst:Option Nat) {t u x y xo yo e} (hu:P.underlying t=some .string) (hx:opd P G t x=some xo) (hy:opd P G u y=some yo) (he:opf s dst (.sidx xo yo)=some e):
  Done G prot w0 E0 E s a dst e ((do pure (Next.value (<-Instr.index t (a.eval x) (a.eval y))):Sem Next).run P w):=by
 have hr:=h.ev (s:=s) hx;have hr':=h.ev (s:=s) hy;simp only[opf] at he;split at he
 ·rename_i b k n h1 h2;rw[h1] at hr;rw[h2] at hr';rw[hr.str_inv,hr'.int_inv];split at he
  ·rename_i hn;split at he
   ·rename_i c hc;injection he with he;subst he;have hrun:(Instr.index t (.string b) (.int k n)).run P w= .ok (.int .u8 c.toNat) w:=by
     simp[Instr.index,asIntOf,yGU,run_underlying hu,Result.andThen,hn,hc]
    rw[yB _ hrun];exact zO h dst (.imm _ _ (.int _ _)) trivial
   ·cases he
  ·cases he
 ·cases he
theorem zCO (h:Ok G prot w0 E0 E w s a.tmps) (dst:Option Nat) {t u x y xo yo mx e} (hx:opd P G t x=some xo) (hy:opd P G u y=some yo) (he:opf s dst (.mm mx xo yo)=some e):
  Done G prot w0 E0 E s a dst e ((do pure (Next.value (<-if mx then Builtin.max2 (a.eval x) (a.eval y) else Builtin.min2 (a.eval x) (a.eval y))):Sem Next).run P w):=by
 have hr:=h.ev (s:=s) hx;have hr':=h.ev (s:=s) hy;simp only[opf] at he;split at he
 ·rename_i k p k' q h1 h2;rw[h1] at hr;rw[h2] at hr';rw[hr.int_inv,hr'.int_inv];split at he
  ·rename_i hk;injection he with he;subst he;cases mx
   ·simp only[yHS,if_false,Builtin.min2,pure_bind,yGW];exact zO h dst (.imm _ _ (.int _ _)) trivial
   ·simp only[if_true,Builtin.max2,pure_bind,yGW];exact zO h dst (.imm _ _ (.int _ _)) trivial
  ·cases he
 ·cases he
theorem oD (op:BinOp) (t:TypeId) (x y:Operand) (k k':IntKind) (p q:Int):(eqGuard op t x y (.int k p) (.int k' q)).run P w= .ok () w:=by
 unfold eqGuard;cases op<;>rfl
theorem uD (op:BinOp) (t:TypeId) (x y:Operand) (p q:Bool):(eqGuard op t x y (.bool p) (.bool q)).run P w= .ok () w:=by
 unfold eqGuard;cases op<;>rfl
theorem l5 {op:BinOp} {t:TypeId} {k k':IntKind} {p q:Int} {e:EqK} {v:AV} (hv:binf op e (.int k p) (.int k' q)=some v):
  ∃u,(binOp op t (.int k p) (.int k' q)).run P w= .ok u w/\RelI E.imm v u/\v.dull:=by
 cases op
 case shl=>
  simp only[binf] at hv;split at hv
  ·cases hv
  ·rename_i hq;injection hv with hv;subst hv;exact ⟨_,by simp[binOp,Op.shift,hq],.int _ _,trivial⟩
 case shr=>
  simp only[binf] at hv;split at hv
  ·cases hv
  ·rename_i hq;injection hv with hv;subst hv;exact ⟨_,by simp[binOp,Op.shift,hq],.int _ _,trivial⟩
 all_goals
  simp only[binf] at hv;split at hv
  ·rename_i hk;subst hk;simp only[binI,cmpI,j7] at hv;first
    | (
      injection hv with hv;subst hv;first
      | (refine ⟨_,?_,.int _ _,trivial⟩;(simp only[binOp,ne_eq,not_true,if_false];rfl))
      | (refine ⟨_,?_,.bool _,trivial⟩;(simp only[binOp,ne_eq,not_true,if_false];rfl)))
    | (
      split at hv
      ·cases hv
      ·rename_i hq;injection hv with hv;subst hv;exact ⟨_,by simp[binOp,Op.intDiv,hq],.int _ _,trivial⟩)
    | cases hv
  ·cases hv
theorem tY (d:Nat) {el:TypeId} {k0:IntKind} (hu:P.underlying el=some (.int k0)):∀{l m:List AV} {b:Bool} (xs ys:List Value) (j:Nat),yP l m=some b->
  (∀i c u,l[i]?=some c->xs[j+i]?=some u->Rel E c u)->(∀i c u,m[i]?=some c->ys[j+i]?=some u->Rel E c u)->j+l.length<=xs.length->j+m.length<=ys.length->
  (Op.eqItems (d+1) el 1 xs.toArray ys.toArray (List.range' j l.length)).run P w= .ok b w
 | [],[],b,xs,ys,j,he,_,_,_,_=>by simp[yP] at he;subst he;simp[Op.eqItems]
 | c::l,c'::m,b,xs,ys,j,he,h1,h2,h3,h4=>by
  have q1:j < xs.length:=by simp at h3;omega
  have q2:j < ys.length:=by simp at h4;omega
  cases c<;>cases c'<;>simp only[yP] at he<;>try cases he
  rename_i k p k' q;have e1:=(h1 0 (.int k p) xs[j] rfl (yGX q1)).int_inv;have e2:=(h2 0 (.int k' q) ys[j] rfl (yGX q2)).int_inv;have r1:(Go.part el xs.toArray (j*1)).run P w= .ok (.int k p) w:=by
   simp[Go.part,isAgg,run_underlying hu,yGX q1,e1]
  have r2:(Go.part el ys.toArray (j*1)).run P w= .ok (.int k' q) w:=by
   simp[Go.part,isAgg,run_underlying hu,yGX q2,e2]
  split at he
  ·rename_i hk;subst hk;have r3:=run_equalIn_int w d el k k0 p q hu;simp only[yHT,List.range'_succ,Op.eqItems,yGU,r1,r2,r3,yGV];split at he
   ·rename_i hpq;subst hpq;simp only[beq_self_eq_true,Bool.not_true,yHS,if_false];refine tY d hu xs ys (j+1) he (fun i c u hc hu'=>h1 (i+1) c u (by simpa using hc) (by rw[<-hu'];congr 1;omega))
     (fun i c u hc hu'=>h2 (i+1) c u (by simpa using hc) (by rw[<-hu'];congr 1;omega)) (by simp at h3;omega) (by simp at h4;omega)
   ·rename_i hpq;injection he with he;subst he;have:(p==q)=false:=by simpa using hpq
    simp[this]
  ·cases he
 | [],c::m,b,_,_,_,he,_,_,_,_=>by simp[yP] at he
 | c::l,[],b,_,_,_,he,_,_,_,_=>by cases c<;>simp[yP] at he
theorem jS {t:TypeId} {n:Nat} (h:eqk P t= .arr n):∃el k i,P.underlying t=some (.array n el)/\P.underlying el=some (.int k)/\P.info? el=some i/\i.size=1:=by
 unfold eqk at h;split at h
 ·cases h
 ·cases h
 ·cases h
 ·rename_i n' el hu;split at h
  ·rename_i k i hk hi;split at h
   ·rename_i h1;injection h with h;subst h;exact ⟨el,k,i,hu,hk,hi,h1⟩
   ·cases h
  ·cases h
 ·cases h
 ·cases h
theorem zIS {t:TypeId} (h:eqk P t= .sc):P.underlying t=some .bool:=by
 unfold eqk at h;split at h
 ·assumption
 ·cases h
 ·cases h
 ·split at h
  ·split at h<;>cases h
  ·cases h
 ·cases h
 ·cases h
theorem nH {t:TypeId} (h:eqk P t= .ptr):∃e,P.underlying t=some (.pointer e):=by
 unfold eqk at h;split at h
 ·cases h
 ·exact ⟨_,by assumption⟩
 ·cases h
 ·split at h
  ·split at h<;>cases h
  ·cases h
 ·cases h
 ·cases h
theorem jR {t:TypeId} (h:eqk P t= .func):∃a b c,P.underlying t=some (.func a b c):=by
 unfold eqk at h;split at h
 ·cases h
 ·cases h
 ·exact ⟨_,_,_,by assumption⟩
 ·split at h
  ·split at h<;>cases h
  ·cases h
 ·cases h
 ·cases h
theorem rQ (d:Nat) {t e:TypeId} (hu:P.underlying t=some (.pointer e)):∀(a b:Option Addr),(a=none\/b=none)->(Op.equalIn (d+1) t (.pointer a) (.pointer b)).run P w= .ok (a.isNone&&b.isNone) w
 | none,none,_=>by simp[Op.equalIn,run_underlying hu]
 | none,some b,_=>by simp[Op.equalIn,run_underlying hu]
 | some a,none,_=>by simp[Op.equalIn,run_underlying hu]
 | some a,some b,h=>by simp at h
theorem aE (d:Nat) {t:TypeId} {x y z} (hu:P.underlying t=some (.func x y z)):(Op.equalIn (d+1) t .nilFunc .nilFunc).run P w= .ok true w:=by simp[Op.equalIn,run_underlying hu]
theorem aD (d:Nat) {t:TypeId} {x y z f b c} (hu:P.underlying t=some (.func x y z)):(Op.equalIn (d+1) t .nilFunc (.func f b c)).run P w= .ok false w:=by simp[Op.equalIn,run_underlying hu]
theorem aC (d:Nat) {t:TypeId} {x y z f b c} (hu:P.underlying t=some (.func x y z)):(Op.equalIn (d+1) t (.func f b c) .nilFunc).run P w= .ok false w:=by simp[Op.equalIn,run_underlying hu]
theorem zCJ (d:Nat) {t e:TypeId} (hu:P.underlying t=some (.slice e)):∀(b:Option Addr) (m k n c:Nat),(Op.equalIn (d+1) t (.slice b m k) (.slice none n c)).run P w= .ok b.isNone w
 | none,m,k,n,c=>by simp[Op.equalIn,run_underlying hu]
 | some b,m,k,n,c=>by simp[Op.equalIn,run_underlying hu]
theorem zCH {t:TypeId} (h:eqk P t= .nsl):∃e,P.underlying t=some (.slice e):=by
 unfold eqk at h;split at h
 ·cases h
 ·cases h
 ·cases h
 ·split at h
  ·split at h<;>cases h
  ·cases h
 ·exact ⟨_,by assumption⟩
 ·cases h
theorem zCI {op:BinOp} {t:TypeId} {x y:Operand} {p q:AV} {va vb:Value} {r:Bool} (h:eqN (eqk P t) p q=some r) (hr:Rel E p va) (hr':Rel E q vb):
  (eqGuard op t x y va vb).run P w= .ok () w/\(binOp .eql t va vb).run P w= .ok (.bool r) w/\(binOp .neq t va vb).run P w= .ok (.bool !r) w:=by
 have np:∀{v},Rel E .nilp v->v= .pointer none:=by intro v h;cases h with | imm _ _ h=>cases h;rfl
 have nf:∀{v},Rel E .nilf v->v= .nilFunc:=by intro v h;cases h with | imm _ _ h=>cases h;rfl
 have pp:∀{a b:Option Addr} {r:Bool},(Op.equalIn (9999+1) t (.pointer a) (.pointer b)).run P w= .ok r w->
   (eqGuard op t x y (.pointer a) (.pointer b)).run P w= .ok () w/\(binOp .eql t (.pointer a) (.pointer b)).run P w= .ok (.bool r) w/\(binOp .neq t (.pointer a) (.pointer b)).run P w= .ok (.bool !r) w:=by
  intro a b r h1;refine ⟨by cases op<;>simp[eqGuard],?_,?_⟩<;>simp only[binOp,Op.equal,Op.maxDepth,yGU,h1,yGV,yGW]
 have ff:∀{va vb:Value} {r:Bool},((va= .nilFunc/\vb= .nilFunc)\/(∃f b c,va= .nilFunc/\vb= .func f b c)\/(∃f b c,va= .func f b c/\vb= .nilFunc))->(Op.equalIn (9999+1) t va vb).run P w= .ok r w->
   (eqGuard op t x y va vb).run P w= .ok () w/\(binOp .eql t va vb).run P w= .ok (.bool r) w/\(binOp .neq t va vb).run P w= .ok (.bool !r) w:=by
  intro va vb r hc h1;rcases hc with ⟨rfl,rfl⟩ | ⟨f,b,c,rfl,rfl⟩ | ⟨f,b,c,rfl,rfl⟩<;>
   (refine ⟨by cases op<;>simp[eqGuard],?_,?_⟩<;>simp only[binOp,Op.equal,Op.maxDepth,yGU,h1,yGV,yGW])
 have nl:∀{z v},Rel E (.sl z [] .nil) v->v= .slice none 0 0:=by
  intro z v h;cases h with
  | imm _ _ h=>cases h with
   | slE _ _ a cap h1 h2=>rw[h2 (h1 rfl),h1 rfl]
   | slN _ _ _ _ _ _ _ h1=>exact absurd rfl h1
 have sl:∀{el} (_:P.underlying t=some (.slice el)) (b:Option Addr) (n k:Nat),(eqGuard op t x y (.slice b n k) (.slice none 0 0)).run P w= .ok () w/\(binOp .eql t (.slice b n k) (.slice none 0 0)).run P w= .ok (.bool b.isNone) w/\
   (binOp .neq t (.slice b n k) (.slice none 0 0)).run P w= .ok (.bool !b.isNone) w:=by
  intro el hu b n k;have h1:(Op.equalIn (9999+1) t (.slice b n k) (.slice none 0 0)).run P w= .ok b.isNone w:=zCJ 9999 hu _ _ _ _ _;refine ⟨by cases op<;>simp[eqGuard],?_,?_⟩<;>simp only[binOp,Op.equal,Op.maxDepth,yGU,h1,yGV,yGW]
 unfold eqN at h;split at h
 ·rename_i hk;injection h with h;subst h;obtain ⟨e,hu⟩:=nH hk;rw[np hr,np hr'];exact pp (rQ 9999 hu _ _ (by simp))
 ·rename_i hk;injection h with h;subst h;obtain ⟨e,hu⟩:=nH hk;obtain ⟨b,o,vs,hv,_⟩:=hr'.box_inv;rw[np hr,hv];exact pp (rQ 9999 hu _ _ (by simp))
 ·rename_i hk;injection h with h;subst h;obtain ⟨e,hu⟩:=nH hk;obtain ⟨B,_,hv⟩:=hr'.ptr_inv;rw[np hr,hv];exact pp (rQ 9999 hu _ _ (by simp))
 ·rename_i hk;injection h with h;subst h;obtain ⟨e,hu⟩:=nH hk;obtain ⟨b,o,vs,hv,_⟩:=hr.box_inv;rw[np hr',hv];exact pp (rQ 9999 hu _ _ (by simp))
 ·rename_i hk;injection h with h;subst h;obtain ⟨e,hu⟩:=nH hk;obtain ⟨B,_,hv⟩:=hr.ptr_inv;rw[np hr',hv];exact pp (rQ 9999 hu _ _ (by simp))
 ·rename_i hk;injection h with h;subst h;obtain ⟨_,_,_,hu⟩:=jR hk;rw[nf hr,nf hr'];exact ff (.inl ⟨rfl,rfl⟩) (aE 9999 hu)
 ·rename_i hk;injection h with h;subst h;obtain ⟨_,_,_,hu⟩:=jR hk;obtain ⟨us,hv,_⟩:=hr'.fn_inv;rw[nf hr,hv];exact ff (.inr (.inl ⟨_,_,_,rfl,rfl⟩)) (aD 9999 hu)
 ·rename_i hk;injection h with h;subst h;obtain ⟨_,_,_,hu⟩:=jR hk;obtain ⟨us,hv,_⟩:=hr.fn_inv;rw[nf hr',hv];exact ff (.inr (.inr ⟨_,_,_,rfl,rfl⟩)) (aC 9999 hu)
 ·rename_i hk;injection h with h;subst h;obtain ⟨e,hu⟩:=zCH hk;obtain ⟨b,n,k,hv,rfl⟩:=hr.slq_inv;rw[nl hr',hv];exact sl hu b n k
 ·rename_i hk;injection h with h;subst h;obtain ⟨e,hu⟩:=zCH hk;obtain ⟨b,k,hv,hri⟩:=hr.sl_inv;rw[hv] at hri;rw[nl hr',hv];cases hri with
  | slN _ _ _ b' o _ vs=>exact sl hu (some ⟨b',o,none⟩) _ k
 ·cases h
theorem zME {e k n q}:eqN e (.int k n) q=none:=by cases e<;>rfl
theorem zGL {e b q}:eqN e (.bool b) q=none:=by cases e<;>rfl
theorem nI {t el:TypeId} {n:Nat} {k:IntKind} (hu:P.underlying t=some (.array n el)) (hk:P.underlying el=some (.int k)):P.eqGuardType P.depth t=false:=by
 have:∃m,P.depth=m+2:=⟨2*(P.types.size+Made.depth),rfl⟩;obtain ⟨m,hm⟩:=this;rw[hm];simp[Program.eqGuardType,hu,hk]
theorem zGR (h:Ok G prot w0 E0 E w s a.tmps) (dst:Option Nat) {t u x y xo yo op e} (hx:opd P G t x=some xo) (hy:opd P G u y=some yo)
  (he:opf s dst (.bin op (eqk P t) xo yo)=some e):
  Done G prot w0 E0 E s a dst e ((do pure (Next.value (<-(do eqGuard op t x y (a.eval x) (a.eval y);binOp op t (a.eval x) (a.eval y)))):Sem Next).run P w):=by
 have hr:=h.ev (s:=s) hx;have hr':=h.ev (s:=s) hy;simp only[opf] at he;split at he
 ·rename_i v hv;injection he with he;subst he;generalize s.ev xo=p at hr hv;generalize s.ev yo=q at hr' hv;have arr:∀(neg:Bool) (l m:List AV) (n:Nat) (b:Bool),p= .agg l->q= .agg m->eqk P t= .arr n->l.length=n/\m.length=n->yP l m=some b->op=(if neg then .neq else .eql)->
    v= .bool (if neg then !b else b)->Done G prot w0 E0 E s a dst {val:=v} ((do pure (Next.value (<-(do eqGuard op t x y (a.eval x) (a.eval y);binOp op t (a.eval x) (a.eval y)))):Sem Next).run P w):=by
   intro neg l m n b hp hq ht hlen hb hop hvv;subst hp;subst hq;subst hvv;obtain ⟨el,k,i,hu,hk,hi,h1⟩:=jS ht;obtain ⟨us,e1,hl1,hc1⟩:=hr.agg_inv;obtain ⟨us',e2,hl2,hc2⟩:=hr'.agg_inv;rw[e1,e2];have hce:P.cellsOf el=1:=by simp[Program.cellsOf,hi,h1]
   have hitems:=tY (P:=P) (E:=E) (w:=w) 9998 hk us us' 0 hb (fun i c u hc hu'=>hc1 i c u hc (by simpa using hu')) (fun i c u hc hu'=>hc2 i c u hc (by simpa using hu')) (by omega) (by omega);have heq:(Op.equalIn 10000 t (.agg us.toArray) (.agg us'.toArray)).run P w= .ok b w:=by
    rw[run_equalIn_array w 9999 _ _ hu hi,hce,List.range_eq_range',<-hlen.1];exact hitems
   have hg:=run_eqGuard_agg (P:=P) w op t x y us.toArray us'.toArray (nI hu hk);cases neg
   ·simp only[yHS,if_false] at hop|-;subst hop;simp only[yGU,hg,yGV,run_eql_struct,heq,yGW];exact zO h dst (.imm _ _ (.bool _)) trivial
   ·simp only[if_true] at hop|-;subst hop;simp only[yGU,hg,yGV,run_neq_struct,heq,yGW];exact zO h dst (.imm _ _ (.bool _)) trivial
  by_cases hpi:∃k n,p= .int k n
  ·obtain ⟨k,n,rfl⟩:=hpi;by_cases hqi:∃k n,q= .int k n
   ·obtain ⟨k',n',rfl⟩:=hqi;obtain ⟨r,h1,h2,h3⟩:=l5 (P:=P) (E:=E) (w:=w) (t:=t) hv;rw[hr.int_inv,hr'.int_inv];have:(do eqGuard op t x y (.int k n) (.int k' n');binOp op t (.int k n) (.int k' n'):Sem Value).run P w= .ok r w:=by
     simp[oD,h1]
    rw[yB _ this];exact zO h dst (.imm _ _ h2) h3
   ·exfalso;cases op<;>cases q<;>simp[binf,zME] at hv<;>exact hqi ⟨_,_,rfl⟩
  ·by_cases hpb:∃b,p= .bool b
   ·obtain ⟨b,rfl⟩:=hpb;by_cases hqb:∃b,q= .bool b
    ·obtain ⟨b',rfl⟩:=hqb;rw[hr.bool_inv,hr'.bool_inv];by_cases hop:op= .eql
     ·subst hop;simp only[binf] at hv;split at hv
      ·rename_i hsc;injection hv with hv;subst hv;have h1:=run_equalIn_bool' (P:=P) w 9999 t b b' (zIS hsc);have:(do eqGuard .eql t x y (.bool b) (.bool b');binOp .eql t (.bool b) (.bool b'):Sem Value).run P w= .ok (.bool (b==b')) w:=by
        simp only[yGU,uD,yGV,binOp,Op.equal,Op.maxDepth,h1,yGW]
       rw[yB _ this];exact zO h dst (.imm _ _ (.bool _)) trivial
      ·cases hv
     ·by_cases hop2:op= .neq
      ·subst hop2;simp only[binf] at hv;split at hv
       ·rename_i hsc;injection hv with hv;subst hv;have h1:=run_equalIn_bool' (P:=P) w 9999 t b b' (zIS hsc);have:(do eqGuard .neq t x y (.bool b) (.bool b');binOp .neq t (.bool b) (.bool b'):Sem Value).run P w= .ok (.bool (!(b==b'))) w:=by
         simp only[yGU,uD,yGV,binOp,Op.equal,Op.maxDepth,h1,yGW]
        rw[yB _ this];exact zO h dst (.imm _ _ (.bool _)) trivial
       ·cases hv
      ·exfalso;cases op<;>simp[binf] at hv hop hop2
    ·exfalso;cases op<;>cases q<;>simp[binf,zGL] at hv<;>exact hqb ⟨_,rfl⟩
   ·unfold binf at hv;split at hv
    ·exact absurd ⟨_,_,rfl⟩ hpi
    ·exact absurd ⟨_,_,rfl⟩ hpi
    ·exact absurd ⟨_,_,rfl⟩ hpi
    ·exact absurd ⟨_,rfl⟩ hpb
    ·exact absurd ⟨_,rfl⟩ hpb
    ·rename_i l m;split at hv
     ·rename_i n hn;split at hv
      ·rename_i hlen;rw[yGT] at hv;obtain ⟨b,hb,rfl⟩:=hv;exact arr false _ _ n b rfl rfl hn hlen hb rfl rfl
      ·cases hv
     ·cases hv
    ·rename_i l m;split at hv
     ·rename_i n hn;split at hv
      ·rename_i hlen;rw[yGT] at hv;obtain ⟨b,hb,rfl⟩:=hv;exact arr true _ _ n b rfl rfl hn hlen hb rfl rfl
      ·cases hv
     ·cases hv
    ·rw[yGT] at hv;obtain ⟨b,hb,rfl⟩:=hv;obtain ⟨g1,g2,g3⟩:=zCI (w:=w) (op:= .eql) (x:=x) (y:=y) hb hr hr';simp only[yGU,g1,g2,yGV,yGW];exact zO h dst (.imm _ _ (.bool _)) trivial
    ·rw[yGT] at hv;obtain ⟨b,hb,rfl⟩:=hv;obtain ⟨g1,g2,g3⟩:=zCI (w:=w) (op:= .neq) (x:=x) (y:=y) hb hr hr';simp only[yGU,g1,g3,yGV,yGW];exact zO h dst (.imm _ _ (.bool _)) trivial
    ·cases hv
 ·cases he
theorem aL (h:Ok G prot w0 E0 E w s a.tmps) (dst:Option Nat) {t x y xo e} (hx:opd P G t x=some xo) (ht:zGE P t=true) (hy:nilS y=true) (he:opf s dst (.isnil xo)=some e):
  Done G prot w0 E0 E s a dst e ((do pure (Next.value (<-(do eqGuard .eql t x y (a.eval x) (a.eval y);binOp .eql t (a.eval x) (a.eval y)))):Sem Next).run P w):=by
 obtain ⟨el,hu⟩:∃el,P.underlying t=some (.slice el):=by
  unfold zGE at ht;split at ht
  ·exact ⟨_,by assumption⟩
  ·cases ht
 obtain ⟨n,c,rfl⟩:∃n c,y= .const (.slice none n c):=by
  unfold nilS at hy;split at hy
  ·exact ⟨_,_,rfl⟩
  ·cases hy
 have hyv:a.eval (.const (.slice none n c))= .slice none n c:=rfl;have hr:=h.ev (s:=s) hx;have hrun:∀(b:Option Addr) (m k:Nat),a.eval x= .slice b m k->(do eqGuard .eql t x (.const (.slice none n c)) (a.eval x) (a.eval (.const (.slice none n c)));binOp .eql t (a.eval x) (a.eval (.const (.slice none n c))):Sem Value).run P w= .ok (.bool b.isNone) w:=by
  intro b m k hv;have h1:(Op.equalIn (9999+1) t (.slice b m k) (.slice none n c)).run P w= .ok b.isNone w:=by
   exact zCJ 9999 hu _ _ _ _ _
  rw[hyv,hv];have h2:(eqGuard .eql t x (.const (.slice none n c)) (.slice b m k) (.slice none n c)).run P w= .ok () w:=by simp[eqGuard]
  have h3:(binOp .eql t (.slice b m k) (.slice none n c)).run P w= .ok (.bool b.isNone) w:=by
   simp only[binOp,Op.equal,Op.maxDepth,yGU];refine (congrArg (fun r=>Result.andThen r _) h1).trans ?_;rfl
  simp only[yGU,h2,yGV,h3]
 simp only[opf] at he;split at he
 ·rename_i z hev;injection he with he;subst he;rw[hev] at hr;obtain ⟨b,cap,hv,hri⟩:=hr.sl_inv;rw[hv] at hri;have hb:b=none:=by
   cases hri with
   | slE _ _ _ _ h1 h2=>exact h1 rfl
   | slN _ _ _ _ _ _ _ h1=>exact absurd rfl h1
  subst hb;rw[yB _ (hrun _ _ _ hv)];exact zO h dst (.imm _ _ (.bool _)) trivial
 ·rename_i z tp _ hev;injection he with he;subst he;rw[hev] at hr;obtain ⟨b,cap,hv,_⟩:=hr.sl_inv;rw[yB _ (hrun _ _ _ hv)];exact zO h dst (.imm _ _ (.ub _)) trivial
 ·rename_i z x0 xs tp hev;injection he with he;subst he;rw[hev] at hr;obtain ⟨b,cap,hv,hri⟩:=hr.sl_inv;rw[yB _ (hrun _ _ _ hv)];rw[hv] at hri;cases hri with
  | slN _ _ _ b' o cap' vs=>exact zO h dst (.imm _ _ (.bool _)) trivial
 ·rename_i b0 hev;injection he with he;subst he;rw[hev] at hr;obtain ⟨b,m,cap,hv,hb⟩:=hr.slq_inv;rw[yB _ (hrun _ _ _ hv),hb];exact zO h dst (.imm _ _ (.bool _)) trivial
 ·cases he
end
end Go.Ab
