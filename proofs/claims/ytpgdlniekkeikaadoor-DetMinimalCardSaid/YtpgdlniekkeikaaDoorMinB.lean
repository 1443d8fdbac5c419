/- The printed table is what the compiler gives on the loaded program. -/
import Derived.Test.YtpgdlniekkeikaaDoorMinA
import Derived.Test.YtpgdlniekkeikaaDoorChecked
import Derived.KernelRfl
namespace Go.Ab.Tab
open Go Go.Ab
set_option maxRecDepth 100000
def forms : List AV := [0,0,16,0,0,2,0,2,4,1,0,1,0,1,0,1].map (AV.int .i64)
def Gl : Nat → Option (List AV) := fun g => if g = 0 then some forms else none
def Lx : Lends := fun _ => false
noncomputable def cF (P : Program) (k : Nat) : Option (Nat × AC × List RV) := match P.funcs[k]? with
 | some fn => if fn.name == "runtime.NumGoroutine" then none else match fn.body with
  | some b => match comp P Gl Lx b,compR P fn.results.toList with
   | some ac,some rs => some (fn.ntmps,ac,rs)
   | _,_ => none
  | none => none
 | none => none
noncomputable abbrev Pg : Program := Go.Proofs.Tryd.prog
def AllOk : Nat → List (Option FnC) → Prop
 | _,[] => True
 | k,none :: l => AllOk (k + 1) l
 | k,some c :: l => cF Pg k = some (c.n,c.ac,c.rs) ∧ AllOk (k + 1) l
theorem t12 : cF Pg 12 = some (103,c12,[(.tmp 6)]) := by kernel_rfl
theorem t18 : cF Pg 18 = some (35,c18,[(.tmp 4)]) := by kernel_rfl
theorem t19 : cF Pg 19 = some (26,c19,[(.tmp 4)]) := by kernel_rfl
theorem t23 : cF Pg 23 = some (19,c23,[(.tmp 4)]) := by kernel_rfl
theorem t24 : cF Pg 24 = some (76,c24,[(.tmp 0)]) := by kernel_rfl
theorem t25 : cF Pg 25 = some (160,c25,[(.cell 4 .true 4),(.tmp 5),(.tmp 6)]) := by kernel_rfl
theorem t29 : cF Pg 29 = some (27,c29,[(.tmp 4)]) := by kernel_rfl
theorem t30 : cF Pg 30 = some (39,c30,[(.tmp 4)]) := by kernel_rfl
theorem t38 : cF Pg 38 = some (29,c38,[(.tmp 6)]) := by kernel_rfl
theorem t39 : cF Pg 39 = some (38,c39,[(.tmp 2)]) := by kernel_rfl
theorem t41 : cF Pg 41 = some (35,c41,[(.tmp 6),(.tmp 7)]) := by kernel_rfl
theorem t42 : cF Pg 42 = some (38,c42,[(.tmp 6)]) := by kernel_rfl
theorem t43 : cF Pg 43 = some (27,c43,[(.tmp 4)]) := by kernel_rfl
theorem t46 : cF Pg 46 = some (18,c46,[(.tmp 2),(.tmp 3)]) := by kernel_rfl
theorem t48 : cF Pg 48 = some (14,c48,[(.tmp 2)]) := by kernel_rfl
theorem t51 : cF Pg 51 = some (30,c51,[(.tmp 4),(.tmp 5),(.tmp 6)]) := by kernel_rfl
theorem t53 : cF Pg 53 = some (134,c53,[(.cell 4 .true 4),(.tmp 5),(.tmp 6)]) := by kernel_rfl
theorem t55 : cF Pg 55 = some (42,c55,[(.cell 4 .true 4),(.tmp 5)]) := by kernel_rfl
theorem t56 : cF Pg 56 = some (59,c56,[(.cell 4 .true 4)]) := by kernel_rfl
theorem t58 : cF Pg 58 = some (21,c58,[(.tmp 4)]) := by kernel_rfl
theorem t61 : cF Pg 61 = some (18,c61,[(.tmp 2)]) := by kernel_rfl
theorem t65 : cF Pg 65 = some (23,c65,[(.cell 0 .true 4)]) := by kernel_rfl
theorem t66 : cF Pg 66 = some (95,c66,[(.tmp 2),(.tmp 3)]) := by kernel_rfl
theorem t67 : cF Pg 67 = some (26,c67,[(.tmp 4)]) := by kernel_rfl
theorem t68 : cF Pg 68 = some (42,c68,[(.cell 4 .true 2),(.tmp 5)]) := by kernel_rfl
theorem t69 : cF Pg 69 = some (23,c69,[(.tmp 4)]) := by kernel_rfl
theorem t70 : cF Pg 70 = some (33,c70,[(.cell 6 .true 2)]) := by kernel_rfl
theorem t71 : cF Pg 71 = some (46,c71,[(.tmp 4)]) := by kernel_rfl
theorem t72 : cF Pg 72 = some (9,c72,[(.tmp 4)]) := by kernel_rfl
theorem t74 : cF Pg 74 = some (11,c74,[(.cell 6 .true 3)]) := by kernel_rfl
theorem t77 : cF Pg 77 = some (10,c77,[(.tmp 4)]) := by kernel_rfl
theorem t78 : cF Pg 78 = some (15,c78,[(.tmp 4)]) := by kernel_rfl
theorem t79 : cF Pg 79 = some (19,c79,[(.tmp 2)]) := by kernel_rfl
theorem t85 : cF Pg 85 = some (33,c85,[(.cell 6 .true 2),(.tmp 7)]) := by kernel_rfl
theorem t86 : cF Pg 86 = some (19,c86,[(.tmp 2)]) := by kernel_rfl
theorem t87 : cF Pg 87 = some (23,c87,[(.tmp 6)]) := by kernel_rfl
theorem t88 : cF Pg 88 = some (34,c88,[(.tmp 4),(.cell 5 .true 2),(.tmp 6)]) := by kernel_rfl
theorem t89 : cF Pg 89 = some (52,c89,[(.tmp 4)]) := by kernel_rfl
theorem t90 : cF Pg 90 = some (12,c90,[(.cell 2 .true 3)]) := by kernel_rfl
theorem t92 : cF Pg 92 = some (77,c92,[(.tmp 4),(.tmp 5)]) := by kernel_rfl
theorem t94 : cF Pg 94 = some (14,c94,[(.tmp 4)]) := by kernel_rfl
theorem t95 : cF Pg 95 = some (38,c95,[(.tmp 2)]) := by kernel_rfl
theorem t98 : cF Pg 98 = some (16,c98,[(.cell 4 .true 2)]) := by kernel_rfl
theorem t100 : cF Pg 100 = some (49,c100,[(.tmp 2)]) := by kernel_rfl
theorem t101 : cF Pg 101 = some (15,c101,[(.cell 4 .true 2)]) := by kernel_rfl
theorem t102 : cF Pg 102 = some (103,c102,[(.tmp 4)]) := by kernel_rfl
theorem t103 : cF Pg 103 = some (28,c103,[(.tmp 4)]) := by kernel_rfl
theorem t104 : cF Pg 104 = some (28,c104,[(.tmp 4)]) := by kernel_rfl
theorem t105 : cF Pg 105 = some (24,c105,[(.tmp 4)]) := by kernel_rfl
theorem t107 : cF Pg 107 = some (30,c107,[(.tmp 2),(.tmp 3)]) := by kernel_rfl
theorem t108 : cF Pg 108 = some (42,c108,[(.tmp 2)]) := by kernel_rfl
theorem t109 : cF Pg 109 = some (31,c109,[(.cell 6 .true 3),(.tmp 7)]) := by kernel_rfl
theorem t110 : cF Pg 110 = some (62,c110,[(.cell 6 .true 3)]) := by kernel_rfl
theorem t111 : cF Pg 111 = some (8,c111,[(.tmp 6)]) := by kernel_rfl
theorem t112 : cF Pg 112 = some (57,c112,[(.tmp 2)]) := by kernel_rfl
theorem t113 : cF Pg 113 = some (17,c113,[(.tmp 4)]) := by kernel_rfl
theorem t114 : cF Pg 114 = some (6,c114,[(.tmp 2)]) := by kernel_rfl
theorem t115 : cF Pg 115 = some (15,c115,[(.tmp 6)]) := by kernel_rfl
theorem t116 : cF Pg 116 = some (19,c116,[(.tmp 2)]) := by kernel_rfl
theorem t117 : cF Pg 117 = some (13,c117,[(.tmp 4)]) := by kernel_rfl
theorem t119 : cF Pg 119 = some (8,c119,[(.tmp 2)]) := by kernel_rfl
theorem t120 : cF Pg 120 = some (15,c120,[(.tmp 2)]) := by kernel_rfl
theorem t121 : cF Pg 121 = some (80,c121,[(.cell 6 .true 3),(.tmp 7)]) := by kernel_rfl
theorem t122 : cF Pg 122 = some (39,c122,[(.tmp 4)]) := by kernel_rfl
theorem t123 : cF Pg 123 = some (78,c123,[(.tmp 4),(.tmp 5)]) := by kernel_rfl
theorem t124 : cF Pg 124 = some (9,c124,[(.tmp 2)]) := by kernel_rfl
theorem t125 : cF Pg 125 = some (130,c125,[(.cell 4 .true 3)]) := by kernel_rfl
theorem t126 : cF Pg 126 = some (97,c126,[]) := by kernel_rfl
theorem t127 : cF Pg 127 = some (74,c127,[(.tmp 6)]) := by kernel_rfl
theorem t128 : cF Pg 128 = some (168,c128,[(.tmp 6)]) := by kernel_rfl
theorem t129 : cF Pg 129 = some (30,c129,[(.tmp 6)]) := by kernel_rfl
theorem t130 : cF Pg 130 = some (51,c130,[(.tmp 4)]) := by kernel_rfl
theorem t131 : cF Pg 131 = some (9,c131,[(.tmp 2)]) := by kernel_rfl
theorem t132 : cF Pg 132 = some (12,c132,[(.tmp 4)]) := by kernel_rfl
theorem t133 : cF Pg 133 = some (76,c133,[(.tmp 6)]) := by kernel_rfl
theorem t134 : cF Pg 134 = some (24,c134,[(.tmp 2)]) := by kernel_rfl
theorem t135 : cF Pg 135 = some (20,c135,[(.tmp 2)]) := by kernel_rfl
theorem t136 : cF Pg 136 = some (28,c136,[(.tmp 4)]) := by kernel_rfl
theorem t137 : cF Pg 137 = some (13,c137,[(.tmp 4)]) := by kernel_rfl
theorem t138 : cF Pg 138 = some (11,c138,[(.tmp 6)]) := by kernel_rfl
theorem t139 : cF Pg 139 = some (11,c139,[(.tmp 6)]) := by kernel_rfl
theorem t140 : cF Pg 140 = some (39,c140,[(.tmp 6)]) := by kernel_rfl
theorem t141 : cF Pg 141 = some (39,c141,[(.tmp 6)]) := by kernel_rfl
theorem all : AllOk 0 tab := ⟨t12,t18,t19,t23,t24,t25,t29,t30,t38,t39,t41,t42,t43,t46,t48,t51,t53,t55,t56,t58,t61,t65,t66,t67,t68,t69,t70,t71,t72,t74,t77,t78,t79,t85,t86,t87,t88,t89,t90,t92,t94,t95,t98,t100,t101,t102,t103,t104,t105,t107,t108,t109,t110,t111,t112,t113,t114,t115,t116,t117,t119,t120,t121,t122,t123,t124,t125,t126,t127,t128,t129,t130,t131,t132,t133,t134,t135,t136,t137,t138,t139,t140,t141,trivial⟩
theorem AllOk.get : ∀ {l : List (Option FnC)} {k : Nat},AllOk k l → ∀ (i : Nat) c,l[i]? = some (some c) → cF Pg (k + i) = some (c.n,c.ac,c.rs)
 | [],k,_,i,c,h => by simp at h
 | none :: l,k,h,0,c,hc => by simp at hc
 | none :: l,k,h,i + 1,c,hc => by have := AllOk.get (l := l) (k := k + 1) h i c (by simpa using hc); rw [show k + (i + 1) = k + 1 + i by omega]; exact this
 | some c0 :: l,k,h,0,c,hc => by simp at hc; subst hc; exact h.1
 | some c0 :: l,k,h,i + 1,c,hc => by have := AllOk.get (l := l) (k := k + 1) h.2 i c (by simpa using hc); rw [show k + (i + 1) = k + 1 + i by omega]; exact this
theorem tok : TOk Pg Gl Lx T := by
 intro f c h
 have hf : tab[f]? = some (some c) := by
  unfold T at h
  rw [List.getD_eq_getElem?_getD] at h
  cases hx : tab[f]? with
  | none => rw [hx] at h; cases h
  | some x => rw [hx] at h; simp at h; rw [h]
 have := all.get f c hf
 rw [Nat.zero_add] at this
 unfold cF at this
 split at this
 ·rename_i fn hfn
  split at this
  ·cases this
  ·rename_i hname
   split at this
   ·rename_i b hb
    split at this
    ·rename_i ac rs h1 h2
     injection this with this; injection this with e1 this; injection this with e2 e3
     exact ⟨fn,b,hfn,hb,by simpa using hname,by rw [h1,e2],by rw [h2,e3],e1⟩
    ·cases this
   ·cases this
 ·cases this
end Go.Ab.Tab
