/- The printed table is what the compiler gives on the loaded program. -/
import Derived.Test.YtkdkpeabkafebaaDoorRelatedA
import Derived.Test.YtkdkpeabkafebaaDoorChecked
import Derived.KernelRfl
namespace Go.Ab.Tab
open Go Go.Ab
set_option maxRecDepth 100000
def forms:List AV:=[0,0,16,0,0,2,0,2,4,1,0,1,0,1,0,1].map (AV.int .i64)
def Gl:Nat->Option (List AV):=fun g=>if g=0 then some forms else none
def Lx:xA:=fun _=>false
noncomputable def cF (P:Program) (k:Nat):Option (Nat×AC×List RV):=match P.funcs[k]? with
 | some fn => if fn.name == "runtime.NumGoroutine" then none else match fn.body with
  | some b=>match comp P Gl Lx b,xX P fn.results.toList with
   | some ac,some rs=>some (fn.ntmps,ac,rs)
   | _,_=>none
  | none=>none
 | none=>none
noncomputable abbrev Pg:Program:=Go.Proofs.Tryd.prog
def AllOk:Nat->List (Option FnC)->Prop
 | _,[]=>True
 | k,none::l=>AllOk (k+1) l
 | k,some c::l=>cF Pg k=some (c.n,c.ac,c.rs)/\AllOk (k+1) l
theorem t3:cF Pg 3=some (100,c3,[(.tmp 12)]):=by kernel_rfl
theorem t6:cF Pg 6=some (10,c6,[(.tmp 4)]):=by kernel_rfl
theorem t7:cF Pg 7=some (15,c7,[(.tmp 4)]):=by kernel_rfl
theorem t8:cF Pg 8=some (102,c8,[(.tmp 0)]):=by kernel_rfl
theorem t9:cF Pg 9=some (54,c9,[(.tmp 12),(.tmp 13)]):=by kernel_rfl
theorem t10:cF Pg 10=some (19,c10,[(.tmp 2)]):=by kernel_rfl
theorem t11:cF Pg 11=some (23,c11,[(.tmp 6)]):=by kernel_rfl
theorem t12:cF Pg 12=some (51,c12,[(.tmp 6)]):=by kernel_rfl
theorem t13:cF Pg 13=some (144,c13,[(.tmp 8)]):=by kernel_rfl
theorem t19:cF Pg 19=some (26,c19,[(.tmp 4)]):=by kernel_rfl
theorem t20:cF Pg 20=some (69,c20,[(.tmp 4)]):=by kernel_rfl
theorem t29:cF Pg 29=some (28,c29,[(.tmp 4)]):=by kernel_rfl
theorem t30:cF Pg 30=some (28,c30,[(.tmp 4)]):=by kernel_rfl
theorem t31:cF Pg 31=some (24,c31,[(.tmp 4)]):=by kernel_rfl
theorem t32:cF Pg 32=some (11,c32,[(.cell 6 .true 3)]):=by kernel_rfl
theorem t33:cF Pg 33=some (6,c33,[(.tmp 2)]):=by kernel_rfl
theorem t34:cF Pg 34=some (15,c34,[(.tmp 6)]):=by kernel_rfl
theorem t35:cF Pg 35=some (51,c35,[(.tmp 6)]):=by kernel_rfl
theorem t36:cF Pg 36=some (17,c36,[(.tmp 2)]):=by kernel_rfl
theorem t37:cF Pg 37=some (168,c37,[(.tmp 8)]):=by kernel_rfl
theorem t38:cF Pg 38=some (30,c38,[(.tmp 2),(.tmp 3)]):=by kernel_rfl
theorem t39:cF Pg 39=some (42,c39,[(.tmp 2)]):=by kernel_rfl
theorem t40:cF Pg 40=some (31,c40,[(.cell 6 .true 3),(.tmp 7)]):=by kernel_rfl
theorem t41:cF Pg 41=some (9,c41,[(.tmp 4)]):=by kernel_rfl
theorem t42:cF Pg 42=some (24,c42,[(.tmp 4)]):=by kernel_rfl
theorem t43:cF Pg 43=some (17,c43,[(.tmp 4)]):=by kernel_rfl
theorem t44:cF Pg 44=some (9,c44,[(.tmp 2)]):=by kernel_rfl
theorem t45:cF Pg 45=some (78,c45,[(.tmp 4),(.tmp 5)]):=by kernel_rfl
theorem t46:cF Pg 46=some (55,c46,[(.tmp 4)]):=by kernel_rfl
theorem t47:cF Pg 47=some (17,c47,[(.tmp 2)]):=by kernel_rfl
theorem t48:cF Pg 48=some (146,c48,[(.tmp 6)]):=by kernel_rfl
theorem t49:cF Pg 49=some (22,c49,[(.tmp 4)]):=by kernel_rfl
theorem t57:cF Pg 57=some (14,c57,[]):=by kernel_rfl
theorem t58:cF Pg 58=some (29,c58,[(.tmp 4)]):=by kernel_rfl
theorem t66:cF Pg 66=some (74,c66,[(.tmp 6)]):=by kernel_rfl
theorem t67:cF Pg 67=some (168,c67,[(.tmp 6)]):=by kernel_rfl
theorem t68:cF Pg 68=some (20,c68,[(.tmp 4)]):=by kernel_rfl
theorem t69:cF Pg 69=some (43,c69,[(.tmp 4)]):=by kernel_rfl
theorem t70:cF Pg 70=some (30,c70,[(.tmp 8)]):=by kernel_rfl
theorem t71:cF Pg 71=some (8,c71,[(.tmp 2)]):=by kernel_rfl
theorem t72:cF Pg 72=some (15,c72,[(.tmp 2)]):=by kernel_rfl
theorem t73:cF Pg 73=some (80,c73,[(.cell 6 .true 3),(.tmp 7)]):=by kernel_rfl
theorem t74:cF Pg 74=some (39,c74,[(.tmp 4)]):=by kernel_rfl
theorem t75:cF Pg 75=some (103,c75,[(.tmp 4)]):=by kernel_rfl
theorem t76:cF Pg 76=some (9,c76,[(.tmp 2)]):=by kernel_rfl
theorem t77:cF Pg 77=some (126,c77,[(.tmp 8)]):=by kernel_rfl
theorem t80:cF Pg 80=some (148,c80,[]):=by kernel_rfl
theorem t81:cF Pg 81=some (8,c81,[(.tmp 2)]):=by kernel_rfl
theorem t86:cF Pg 86=some (76,c86,[(.tmp 6)]):=by kernel_rfl
theorem t87:cF Pg 87=some (9,c87,[(.tmp 4)]):=by kernel_rfl
theorem t88:cF Pg 88=some (109,c88,[(.tmp 10)]):=by kernel_rfl
theorem t89:cF Pg 89=some (17,c89,[(.tmp 2)]):=by kernel_rfl
theorem t90:cF Pg 90=some (30,c90,[(.tmp 6)]):=by kernel_rfl
theorem t91:cF Pg 91=some (51,c91,[(.tmp 4)]):=by kernel_rfl
theorem t92:cF Pg 92=some (130,c92,[(.cell 4 .true 3)]):=by kernel_rfl
theorem t93:cF Pg 93=some (13,c93,[(.tmp 4)]):=by kernel_rfl
theorem t94:cF Pg 94=some (53,c94,[]):=by kernel_rfl
theorem t95:cF Pg 95=some (60,c95,[]):=by kernel_rfl
theorem t96:cF Pg 96=some (67,c96,[]):=by kernel_rfl
theorem t97:cF Pg 97=some (63,c97,[(.tmp 8),(.tmp 9)]):=by kernel_rfl
theorem t98:cF Pg 98=some (34,c98,[]):=by kernel_rfl
theorem t99:cF Pg 99=some (141,c99,[(.tmp 8)]):=by kernel_rfl
theorem t100:cF Pg 100=some (90,c100,[(.tmp 10)]):=by kernel_rfl
theorem t101:cF Pg 101=some (178,c101,[(.tmp 10),(.tmp 11)]):=by kernel_rfl
theorem t102:cF Pg 102=some (19,c102,[(.tmp 2)]):=by kernel_rfl
theorem t103:cF Pg 103=some (25,c103,[(.tmp 2)]):=by kernel_rfl
theorem t106:cF Pg 106=some (24,c106,[(.tmp 2)]):=by kernel_rfl
theorem t107:cF Pg 107=some (20,c107,[(.tmp 2)]):=by kernel_rfl
theorem t108:cF Pg 108=some (28,c108,[(.tmp 4)]):=by kernel_rfl
theorem t109:cF Pg 109=some (19,c109,[(.tmp 4)]):=by kernel_rfl
theorem t110:cF Pg 110=some (112,c110,[(.tmp 9)]):=by kernel_rfl
theorem t111:cF Pg 111=some (12,c111,[(.tmp 4)]):=by kernel_rfl
theorem t112:cF Pg 112=some (82,c112,[]):=by kernel_rfl
theorem t113:cF Pg 113=some (7,c113,[(.tmp 2)]):=by kernel_rfl
theorem t114:cF Pg 114=some (33,c114,[(.tmp 2)]):=by kernel_rfl
theorem t115:cF Pg 115=some (18,c115,[(.tmp 8)]):=by kernel_rfl
theorem t116:cF Pg 116=some (41,c116,[(.tmp 12)]):=by kernel_rfl
theorem t117:cF Pg 117=some (13,c117,[(.tmp 4)]):=by kernel_rfl
theorem t118:cF Pg 118=some (11,c118,[(.tmp 6)]):=by kernel_rfl
theorem t119:cF Pg 119=some (11,c119,[(.tmp 6)]):=by kernel_rfl
theorem t120:cF Pg 120=some (32,c120,[(.tmp 10),(.tmp 11)]):=by kernel_rfl
theorem t121:cF Pg 121=some (39,c121,[(.tmp 6)]):=by kernel_rfl
theorem t122:cF Pg 122=some (39,c122,[(.tmp 6)]):=by kernel_rfl
theorem all:AllOk 0 tab:=⟨t3,t6,t7,t8,t9,t10,t11,t12,t13,t19,t20,t29,t30,t31,t32,t33,t34,t35,t36,t37,t38,t39,t40,t41,t42,t43,t44,t45,t46,t47,t48,t49,t57,t58,t66,t67,t68,t69,t70,t71,t72,t73,t74,t75,t76,t77,t80,t81,t86,t87,t88,t89,t90,t91,t92,t93,t94,t95,t96,t97,t98,t99,t100,t101,t102,t103,t106,t107,t108,t109,t110,t111,t112,t113,t114,t115,t116,t117,t118,t119,t120,t121,t122,trivial⟩
theorem AllOk.get:∀{l:List (Option FnC)} {k:Nat},AllOk k l->∀(i:Nat) c,l[i]?=some (some c)->cF Pg (k+i)=some (c.n,c.ac,c.rs)
 | [],k,_,i,c,h=>by simp at h
 | none::l,k,h,0,c,hc=>by simp at hc
 | none::l,k,h,i+1,c,hc=>by have:=AllOk.get (l:=l) (k:=k+1) h i c (by simpa using hc);rw[show k+(i+1)=k+1+i by omega];exact this
 | some c0::l,k,h,0,c,hc=>by simp at hc;subst hc;exact h.1
 | some c0::l,k,h,i+1,c,hc=>by have:=AllOk.get (l:=l) (k:=k+1) h.2 i c (by simpa using hc);rw[show k+(i+1)=k+1+i by omega];exact this
theorem tok:TOk Pg Gl Lx T:=by
 intro f c h;have hf:tab[f]?=some (some c):=by
  unfold T at h;rw[List.getD_eq_getElem?_getD] at h;cases hx:tab[f]? with
  | none=>rw[hx] at h;cases h
  | some x=>rw[hx] at h;simp at h;rw[h]
 have:=all.get f c hf;rw[Nat.zero_add] at this;unfold cF at this;split at this
 ·rename_i fn hfn;split at this
  ·cases this
  ·rename_i hname;split at this
   ·rename_i b hb;split at this
    ·rename_i ac rs h1 h2;injection this with this;injection this with e1 this;injection this with e2 e3;exact ⟨fn,b,hfn,hb,by simpa using hname,by rw[h1,e2],by rw[h2,e3],e1⟩
    ·cases this
   ·cases this
 ·cases this
end Go.Ab.Tab
