/- The printed table is what the compiler gives on the loaded program. -/
import Derived.Test.YtkjbakmlonpdjaaGreatDoorRoundsA
import Derived.Test.YtkjbakmlonpdjaaGreatDoorChecked
import Derived.KernelRfl
namespace Go.Ab.Tab
open Go Go.Ab
set_option maxRecDepth 100000
def forms:List AV:=[0,0,16,0,0,2,0,2,4,1,0,1,0,1,0,1].map (AV.int .i64)
def Gl:Nat->Option (List AV):=fun g=>if g=0 then some forms else if g=1 then some rules else none
def Lx:xC:=fun f=>f==70 || f==71 || f==1004017 || f==1006040
noncomputable def cF (P:Program) (k:Nat):Option (Nat×AC×List RV):=match P.funcs[k]? with
 | some fn => if fn.name == "runtime.NumGoroutine" then none else match fn.body with
  | some b=>match comp P Gl Lx b,vP P fn.results.toList with
   | some ac,some rs=>some (fn.ntmps,ac,rs)
   | _,_=>none
  | none=>none
 | none=>none
noncomputable abbrev Pg:Program:=Go.Proofs.Tryz.prog
def AllOk:Nat->List (Option FnC)->Prop
 | _,[]=>True
 | k,none::l=>AllOk (k+1) l
 | k,some c::l=>cF Pg k=some (c.n,c.ac,c.rs)/\AllOk (k+1) l
theorem t9:cF Pg 9=some (139,c9,[(.tmp 4)]):=by kernel_rfl
theorem t10:cF Pg 10=some (14,c10,[(.tmp 6)]):=by kernel_rfl
theorem t11:cF Pg 11=some (15,c11,[(.tmp 4)]):=by kernel_rfl
theorem t12:cF Pg 12=some (118,c12,[(.tmp 0)]):=by kernel_rfl
theorem t13:cF Pg 13=some (22,c13,[(.tmp 4),(.tmp 5)]):=by kernel_rfl
theorem t16:cF Pg 16=some (39,c16,[(.tmp 4)]):=by kernel_rfl
theorem t17:cF Pg 17=some (10,c17,[(.tmp 4)]):=by kernel_rfl
theorem t18:cF Pg 18=some (38,c18,[(.tmp 2)]):=by kernel_rfl
theorem t20:cF Pg 20=some (18,c20,[(.tmp 4),(.tmp 5)]):=by kernel_rfl
theorem t21:cF Pg 21=some (18,c21,[(.tmp 4),(.tmp 5)]):=by kernel_rfl
theorem t25:cF Pg 25=some (10,c25,[(.tmp 4)]):=by kernel_rfl
theorem t27:cF Pg 27=some (19,c27,[(.tmp 2)]):=by kernel_rfl
theorem t34:cF Pg 34=some (45,c34,[(.tmp 4),(.tmp 5)]):=by kernel_rfl
theorem t36:cF Pg 36=some (52,c36,[(.tmp 4)]):=by kernel_rfl
theorem t38:cF Pg 38=some (22,c38,[(.tmp 4)]):=by kernel_rfl
theorem t39:cF Pg 39=some (49,c39,[(.tmp 6),(.tmp 7)]):=by kernel_rfl
theorem t43:cF Pg 43=some (32,c43,[(.tmp 4),(.tmp 5)]):=by kernel_rfl
theorem t44:cF Pg 44=some (43,c44,[(.cell 0 .true 4),(.cell 1 .true 4)]):=by kernel_rfl
theorem t45:cF Pg 45=some (15,c45,[(.tmp 4)]):=by kernel_rfl
theorem t46:cF Pg 46=some (41,c46,[(.tmp 4)]):=by kernel_rfl
theorem t47:cF Pg 47=some (82,c47,[]):=by kernel_rfl
theorem t48:cF Pg 48=some (33,c48,[(.tmp 4)]):=by kernel_rfl
theorem t49:cF Pg 49=some (13,c49,[(.cell 3 .true 2)]):=by kernel_rfl
theorem t51:cF Pg 51=some (15,c51,[(.tmp 4)]):=by kernel_rfl
theorem t52:cF Pg 52=some (19,c52,[(.tmp 2)]):=by kernel_rfl
theorem t53:cF Pg 53=some (24,c53,[(.tmp 4)]):=by kernel_rfl
theorem t54:cF Pg 54=some (23,c54,[(.tmp 6)]):=by kernel_rfl
theorem t55:cF Pg 55=some (75,c55,[(.tmp 6)]):=by kernel_rfl
theorem t56:cF Pg 56=some (30,c56,[(.tmp 2),(.tmp 3)]):=by kernel_rfl
theorem t57:cF Pg 57=some (14,c57,[(.tmp 4)]):=by kernel_rfl
theorem t58:cF Pg 58=some (29,c58,[(.tmp 6),(.tmp 7)]):=by kernel_rfl
theorem t59:cF Pg 59=some (16,c59,[(.cell 4 .true 4)]):=by kernel_rfl
theorem t60:cF Pg 60=some (12,c60,[(.cell 6 .true 4)]):=by kernel_rfl
theorem t61:cF Pg 61=some (8,c61,[(.cell 4 .true 4)]):=by kernel_rfl
theorem t62:cF Pg 62=some (14,c62,[(.cell 6 .true 4)]):=by kernel_rfl
theorem t63:cF Pg 63=some (5,c63,[(.cell 2 .true 4)]):=by kernel_rfl
theorem t64:cF Pg 64=some (21,c64,[(.cell 4 .true 4)]):=by kernel_rfl
theorem t65:cF Pg 65=some (8,c65,[(.cell 3 .true 4)]):=by kernel_rfl
theorem t66:cF Pg 66=some (7,c66,[(.cell 2 .true 4)]):=by kernel_rfl
theorem t73:cF Pg 73=some (28,c73,[(.tmp 4)]):=by kernel_rfl
theorem t77:cF Pg 77=some (10,c77,[(.tmp 4)]):=by kernel_rfl
theorem t78:cF Pg 78=some (30,c78,[(.tmp 2),(.tmp 3)]):=by kernel_rfl
theorem t79:cF Pg 79=some (42,c79,[(.tmp 2)]):=by kernel_rfl
theorem t81:cF Pg 81=some (14,c81,[(.cell 8 .true 4)]):=by kernel_rfl
theorem t85:cF Pg 85=some (15,c85,[(.cell 4 .true 2)]):=by kernel_rfl
theorem t87:cF Pg 87=some (14,c87,[(.tmp 4)]):=by kernel_rfl
theorem t88:cF Pg 88=some (12,c88,[(.cell 3 .true 4)]):=by kernel_rfl
theorem t89:cF Pg 89=some (44,c89,[(.cell 6 .true 4)]):=by kernel_rfl
theorem t90:cF Pg 90=some (11,c90,[(.cell 3 .true 4)]):=by kernel_rfl
theorem t91:cF Pg 91=some (16,c91,[]):=by kernel_rfl
theorem t92:cF Pg 92=some (33,c92,[(.tmp 4)]):=by kernel_rfl
theorem t94:cF Pg 94=some (12,c94,[(.cell 5 .true 4)]):=by kernel_rfl
theorem t95:cF Pg 95=some (32,c95,[(.cell 7 .true 4)]):=by kernel_rfl
theorem t96:cF Pg 96=some (10,c96,[(.cell 4 .true 4)]):=by kernel_rfl
theorem t99:cF Pg 99=some (13,c99,[(.tmp 4)]):=by kernel_rfl
theorem t100:cF Pg 100=some (9,c100,[(.tmp 4)]):=by kernel_rfl
theorem t101:cF Pg 101=some (11,c101,[(.cell 6 .true 3)]):=by kernel_rfl
theorem t102:cF Pg 102=some (38,c102,[(.tmp 2)]):=by kernel_rfl
theorem t103:cF Pg 103=some (25,c103,[(.tmp 2)]):=by kernel_rfl
theorem t104:cF Pg 104=some (48,c104,[(.tmp 4)]):=by kernel_rfl
theorem t105:cF Pg 105=some (36,c105,[]):=by kernel_rfl
theorem t106:cF Pg 106=some (21,c106,[(.tmp 4)]):=by kernel_rfl
theorem t108:cF Pg 108=some (9,c108,[(.tmp 4)]):=by kernel_rfl
theorem t109:cF Pg 109=some (28,c109,[(.tmp 4)]):=by kernel_rfl
theorem t110:cF Pg 110=some (24,c110,[(.tmp 4)]):=by kernel_rfl
theorem t111:cF Pg 111=some (31,c111,[(.cell 6 .true 3),(.tmp 7)]):=by kernel_rfl
theorem t112:cF Pg 112=some (68,c112,[(.tmp 10),(.tmp 11)]):=by kernel_rfl
theorem t113:cF Pg 113=some (111,c113,[(.tmp 8)]):=by kernel_rfl
theorem t114:cF Pg 114=some (6,c114,[(.tmp 2)]):=by kernel_rfl
theorem t115:cF Pg 115=some (4,c115,[(.cell 2 .true 4)]):=by kernel_rfl
theorem t116:cF Pg 116=some (161,c116,[(.cell 6 .true 4)]):=by kernel_rfl
theorem t118:cF Pg 118=some (78,c118,[(.tmp 4),(.tmp 5)]):=by kernel_rfl
theorem t120:cF Pg 120=some (61,c120,[(.tmp 10)]):=by kernel_rfl
theorem t121:cF Pg 121=some (8,c121,[(.tmp 2)]):=by kernel_rfl
theorem t122:cF Pg 122=some (15,c122,[(.tmp 2)]):=by kernel_rfl
theorem t124:cF Pg 124=some (12,c124,[(.tmp 4)]):=by kernel_rfl
theorem t125:cF Pg 125=some (112,c125,[(.tmp 4)]):=by kernel_rfl
theorem t126:cF Pg 126=some (15,c126,[(.tmp 6)]):=by kernel_rfl
theorem t127:cF Pg 127=some (19,c127,[(.tmp 2)]):=by kernel_rfl
theorem t128:cF Pg 128=some (6,c128,[(.cell 1 .true 2)]):=by kernel_rfl
theorem t129:cF Pg 129=some (10,c129,[(.cell 2 .true 2)]):=by kernel_rfl
theorem t130:cF Pg 130=some (23,c130,[(.cell 2 .true 2)]):=by kernel_rfl
theorem t131:cF Pg 131=some (20,c131,[(.cell 2 .true 2)]):=by kernel_rfl
theorem t132:cF Pg 132=some (47,c132,[(.tmp 4)]):=by kernel_rfl
theorem t133:cF Pg 133=some (28,c133,[(.cell 2 .true 2)]):=by kernel_rfl
theorem t134:cF Pg 134=some (14,c134,[(.tmp 4)]):=by kernel_rfl
theorem t135:cF Pg 135=some (9,c135,[(.tmp 2)]):=by kernel_rfl
theorem t136:cF Pg 136=some (130,c136,[(.cell 4 .true 3)]):=by kernel_rfl
theorem t137:cF Pg 137=some (103,c137,[(.tmp 4)]):=by kernel_rfl
theorem t138:cF Pg 138=some (80,c138,[(.cell 6 .true 3),(.tmp 7)]):=by kernel_rfl
theorem t139:cF Pg 139=some (39,c139,[(.tmp 4)]):=by kernel_rfl
theorem t140:cF Pg 140=some (177,c140,[(.cell 4 .true 3),(.tmp 5)]):=by kernel_rfl
theorem t141:cF Pg 141=some (74,c141,[(.tmp 6)]):=by kernel_rfl
theorem t142:cF Pg 142=some (8,c142,[(.cell 3 .true 4)]):=by kernel_rfl
theorem t143:cF Pg 143=some (15,c143,[(.cell 6 .true 4)]):=by kernel_rfl
theorem t144:cF Pg 144=some (9,c144,[(.tmp 2)]):=by kernel_rfl
theorem t145:cF Pg 145=some (21,c145,[(.tmp 4)]):=by kernel_rfl
theorem t146:cF Pg 146=some (30,c146,[(.tmp 8)]):=by kernel_rfl
theorem t147:cF Pg 147=some (95,c147,[(.tmp 12)]):=by kernel_rfl
theorem t148:cF Pg 148=some (59,c148,[(.tmp 10)]):=by kernel_rfl
theorem t149:cF Pg 149=some (15,c149,[(.tmp 8)]):=by kernel_rfl
theorem t150:cF Pg 150=some (141,c150,[(.tmp 8)]):=by kernel_rfl
theorem t151:cF Pg 151=some (84,c151,[(.tmp 6)]):=by kernel_rfl
theorem t152:cF Pg 152=some (168,c152,[(.tmp 6)]):=by kernel_rfl
theorem t153:cF Pg 153=some (1,c153,[(.tmp 0)]):=by kernel_rfl
theorem t154:cF Pg 154=some (3,c154,[(.tmp 2)]):=by kernel_rfl
theorem t155:cF Pg 155=some (3,c155,[(.tmp 1)]):=by kernel_rfl
theorem t156:cF Pg 156=some (9,c156,[(.tmp 3)]):=by kernel_rfl
theorem t157:cF Pg 157=some (6,c157,[(.tmp 1)]):=by kernel_rfl
theorem t158:cF Pg 158=some (8,c158,[(.tmp 3)]):=by kernel_rfl
theorem t159:cF Pg 159=some (10,c159,[(.tmp 2)]):=by kernel_rfl
theorem t160:cF Pg 160=some (13,c160,[(.tmp 4)]):=by kernel_rfl
theorem t161:cF Pg 161=some (7,c161,[(.tmp 2)]):=by kernel_rfl
theorem t162:cF Pg 162=some (9,c162,[(.tmp 4)]):=by kernel_rfl
theorem t163:cF Pg 163=some (128,c163,[(.tmp 6)]):=by kernel_rfl
theorem t164:cF Pg 164=some (12,c164,[(.tmp 4)]):=by kernel_rfl
theorem t165:cF Pg 165=some (13,c165,[(.tmp 4)]):=by kernel_rfl
theorem t166:cF Pg 166=some (30,c166,[(.tmp 6)]):=by kernel_rfl
theorem t167:cF Pg 167=some (51,c167,[(.tmp 4)]):=by kernel_rfl
theorem t168:cF Pg 168=some (33,c168,[(.cell 2 .true 4),(.tmp 3)]):=by kernel_rfl
theorem t169:cF Pg 169=some (17,c169,[(.tmp 9)]):=by kernel_rfl
theorem t170:cF Pg 170=some (52,c170,[(.tmp 4)]):=by kernel_rfl
theorem t171:cF Pg 171=some (9,c171,[(.tmp 4)]):=by kernel_rfl
theorem t172:cF Pg 172=some (13,c172,[(.tmp 5)]):=by kernel_rfl
theorem t173:cF Pg 173=some (65,c173,[(.tmp 4)]):=by kernel_rfl
theorem t174:cF Pg 174=some (19,c174,[(.cell 4 .true 3)]):=by kernel_rfl
theorem t175:cF Pg 175=some (3,c175,[(.tmp 2)]):=by kernel_rfl
theorem t176:cF Pg 176=some (8,c176,[(.tmp 3)]):=by kernel_rfl
theorem t177:cF Pg 177=some (13,c177,[(.tmp 4)]):=by kernel_rfl
theorem t178:cF Pg 178=some (9,c178,[(.tmp 3)]):=by kernel_rfl
theorem t179:cF Pg 179=some (9,c179,[(.tmp 3)]):=by kernel_rfl
theorem t180:cF Pg 180=some (10,c180,[(.tmp 3)]):=by kernel_rfl
theorem t181:cF Pg 181=some (10,c181,[(.tmp 3)]):=by kernel_rfl
theorem t182:cF Pg 182=some (19,c182,[(.tmp 4)]):=by kernel_rfl
theorem t183:cF Pg 183=some (13,c183,[(.tmp 4)]):=by kernel_rfl
theorem t184:cF Pg 184=some (8,c184,[(.tmp 3)]):=by kernel_rfl
theorem t185:cF Pg 185=some (9,c185,[(.tmp 4)]):=by kernel_rfl
theorem t186:cF Pg 186=some (51,c186,[(.tmp 4)]):=by kernel_rfl
theorem t187:cF Pg 187=some (76,c187,[(.tmp 6)]):=by kernel_rfl
theorem t188:cF Pg 188=some (19,c188,[(.tmp 4)]):=by kernel_rfl
theorem t189:cF Pg 189=some (19,c189,[(.tmp 4)]):=by kernel_rfl
theorem t190:cF Pg 190=some (24,c190,[(.tmp 2)]):=by kernel_rfl
theorem t191:cF Pg 191=some (20,c191,[(.tmp 2)]):=by kernel_rfl
theorem t192:cF Pg 192=some (28,c192,[(.tmp 4)]):=by kernel_rfl
theorem t193:cF Pg 193=some (13,c193,[(.tmp 4)]):=by kernel_rfl
theorem t194:cF Pg 194=some (11,c194,[(.tmp 6)]):=by kernel_rfl
theorem t195:cF Pg 195=some (11,c195,[(.tmp 6)]):=by kernel_rfl
theorem t196:cF Pg 196=some (39,c196,[(.tmp 6)]):=by kernel_rfl
theorem t197:cF Pg 197=some (39,c197,[(.tmp 6)]):=by kernel_rfl
theorem all:AllOk 0 tab:=⟨t9,t10,t11,t12,t13,t16,t17,t18,t20,t21,t25,t27,t34,t36,t38,t39,t43,t44,t45,t46,t47,t48,t49,t51,t52,t53,t54,t55,t56,t57,t58,t59,t60,t61,t62,t63,t64,t65,t66,t73,t77,t78,t79,t81,t85,t87,t88,t89,t90,t91,t92,t94,t95,t96,t99,t100,t101,t102,t103,t104,t105,t106,t108,t109,t110,t111,t112,t113,t114,t115,t116,t118,t120,t121,t122,t124,t125,t126,t127,t128,t129,t130,t131,t132,t133,t134,t135,t136,t137,t138,t139,t140,t141,t142,t143,t144,t145,t146,t147,t148,t149,t150,t151,t152,t153,t154,t155,t156,t157,t158,t159,t160,t161,t162,t163,t164,t165,t166,t167,t168,t169,t170,t171,t172,t173,t174,t175,t176,t177,t178,t179,t180,t181,t182,t183,t184,t185,t186,t187,t188,t189,t190,t191,t192,t193,t194,t195,t196,t197,trivial⟩
theorem AllOk.get:∀{l:List (Option FnC)} {k:Nat},AllOk k l->∀(i:Nat) c,l[i]?=some (some c)->cF Pg (k+i)=some (c.n,c.ac,c.rs)
 | [],k,_,i,c,h=>by simp at h
 | none::l,k,h,0,c,hc=>by simp at hc
 | none::l,k,h,i+1,c,hc=>by have:=AllOk.get (l:=l) (k:=k+1) h i c (by simpa using hc);rw[show k+(i+1)=k+1+i by omega];exact this
 | some c0::l,k,h,0,c,hc=>by simp at hc;subst hc;exact h.1
 | some c0::l,k,h,i+1,c,hc=>by have:=AllOk.get (l:=l) (k:=k+1) h.2 i c (by simpa using hc);rw[show k+(i+1)=k+1+i by omega];exact this
theorem tok:TOk Pg Gl Lx T:=by
 intro f c h;have hf:tab[f]?=some (some c):=by
  unfold T at h;rw[List.getD_eq_getElem?_getD] at h;cases hx:tab[f]? with
  | none=>rw[hx] at h;cases h
  | some x=>rw[hx] at h;simp at h;rw[h]
 have:=all.get f c hf;rw[Nat.zero_add] at this;unfold cF at this;split at this
 ·rename_i fn hfn;split at this
  ·cases this
  ·rename_i hname;split at this
   ·rename_i b hb;split at this
    ·rename_i ac rs h1 h2;injection this with this;injection this with e1 this;injection this with e2 e3;exact ⟨fn,b,hfn,hb,by simpa using hname,by rw[h1,e2],by rw[h2,e3],e1⟩
    ·cases this
   ·cases this
 ·cases this
end Go.Ab.Tab
