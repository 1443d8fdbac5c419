/- The printed table is what the compiler gives on the loaded program. -/
import Derived.Test.YtgfjhhgpgaejmaaGreatDoorApartA
import Derived.Test.YtgfjhhgpgaejmaaGreatDoorChecked
import Derived.KernelRfl
namespace Go.Ab.Tab
open Go Go.Ab
set_option maxRecDepth 100000
def forms : List AV := [0,0,16,0,0,2,0,2,4,1,0,1,0,1,0,1].map (AV.int .i64)
def Gl : Nat → Option (List AV) := fun g => if g = 0 then some forms else none
def Lx : Lends := fun f => f == 69 || f == 110 || f == 1007060 || f == 2025034
noncomputable def cF (P : Program) (k : Nat) : Option (Nat × AC × List RV) := match P.funcs[k]? with
 | some fn => if fn.name == "runtime.NumGoroutine" then none else match fn.body with
  | some b => match comp P Gl Lx b,compR P fn.results.toList with
   | some ac,some rs => some (fn.ntmps,ac,rs)
   | _,_ => none
  | none => none
 | none => none
noncomputable abbrev Pg : Program := Go.Proofs.Tryz.prog
def AllOk : Nat → List (Option FnC) → Prop
 | _,[] => True
 | k,none :: l => AllOk (k + 1) l
 | k,some c :: l => cF Pg k = some (c.n,c.ac,c.rs) ∧ AllOk (k + 1) l
theorem t4 : cF Pg 4 = some (108,c4,[(.tmp 8)]) := by kernel_rfl
theorem t7 : cF Pg 7 = some (10,c7,[(.tmp 4)]) := by kernel_rfl
theorem t8 : cF Pg 8 = some (15,c8,[(.tmp 4)]) := by kernel_rfl
theorem t9 : cF Pg 9 = some (103,c9,[(.tmp 0)]) := by kernel_rfl
theorem t10 : cF Pg 10 = some (20,c10,[(.tmp 2),(.tmp 3)]) := by kernel_rfl
theorem t13 : cF Pg 13 = some (9,c13,[(.tmp 4)]) := by kernel_rfl
theorem t14 : cF Pg 14 = some (103,c14,[(.tmp 4)]) := by kernel_rfl
theorem t15 : cF Pg 15 = some (23,c15,[(.tmp 6)]) := by kernel_rfl
theorem t16 : cF Pg 16 = some (31,c16,[(.cell 6 .true 3),(.tmp 7),(.tmp 8)]) := by kernel_rfl
theorem t17 : cF Pg 17 = some (62,c17,[(.cell 6 .true 3)]) := by kernel_rfl
theorem t18 : cF Pg 18 = some (23,c18,[(.tmp 4)]) := by kernel_rfl
theorem t19 : cF Pg 19 = some (39,c19,[(.tmp 4)]) := by kernel_rfl
theorem t20 : cF Pg 20 = some (168,c20,[(.tmp 8),(.tmp 9),(.tmp 10)]) := by kernel_rfl
theorem t21 : cF Pg 21 = some (38,c21,[(.tmp 2)]) := by kernel_rfl
theorem t22 : cF Pg 22 = some (105,c22,[(.tmp 8),(.tmp 9)]) := by kernel_rfl
theorem t23 : cF Pg 23 = some (26,c23,[(.tmp 4)]) := by kernel_rfl
theorem t24 : cF Pg 24 = some (43,c24,[(.tmp 10)]) := by kernel_rfl
theorem t25 : cF Pg 25 = some (22,c25,[(.tmp 4),(.tmp 5)]) := by kernel_rfl
theorem t28 : cF Pg 28 = some (11,c28,[(.cell 4 .true 3),(.tmp 5)]) := by kernel_rfl
theorem t36 : cF Pg 36 = some (28,c36,[(.tmp 4)]) := by kernel_rfl
theorem t37 : cF Pg 37 = some (28,c37,[(.tmp 4)]) := by kernel_rfl
theorem t38 : cF Pg 38 = some (24,c38,[(.tmp 4)]) := by kernel_rfl
theorem t39 : cF Pg 39 = some (8,c39,[(.cell 0 .true 3)]) := by kernel_rfl
theorem t40 : cF Pg 40 = some (11,c40,[(.cell 6 .true 3)]) := by kernel_rfl
theorem t41 : cF Pg 41 = some (17,c41,[(.tmp 2)]) := by kernel_rfl
theorem t42 : cF Pg 42 = some (34,c42,[(.tmp 2),(.tmp 3)]) := by kernel_rfl
theorem t43 : cF Pg 43 = some (19,c43,[(.tmp 2)]) := by kernel_rfl
theorem t44 : cF Pg 44 = some (7,c44,[(.tmp 2)]) := by kernel_rfl
theorem t47 : cF Pg 47 = some (13,c47,[(.tmp 4)]) := by kernel_rfl
theorem t48 : cF Pg 48 = some (31,c48,[(.cell 6 .true 3),(.tmp 7)]) := by kernel_rfl
theorem t49 : cF Pg 49 = some (11,c49,[(.tmp 6)]) := by kernel_rfl
theorem t50 : cF Pg 50 = some (10,c50,[(.cell 4 .true 3)]) := by kernel_rfl
theorem t51 : cF Pg 51 = some (9,c51,[(.tmp 4)]) := by kernel_rfl
theorem t52 : cF Pg 52 = some (78,c52,[(.tmp 4),(.tmp 5)]) := by kernel_rfl
theorem t53 : cF Pg 53 = some (9,c53,[(.tmp 2)]) := by kernel_rfl
theorem t54 : cF Pg 54 = some (130,c54,[(.cell 4 .true 3)]) := by kernel_rfl
theorem t55 : cF Pg 55 = some (19,c55,[(.tmp 2)]) := by kernel_rfl
theorem t56 : cF Pg 56 = some (19,c56,[(.tmp 4)]) := by kernel_rfl
theorem t57 : cF Pg 57 = some (24,c57,[(.tmp 4)]) := by kernel_rfl
theorem t58 : cF Pg 58 = some (9,c58,[(.tmp 4)]) := by kernel_rfl
theorem t59 : cF Pg 59 = some (28,c59,[]) := by kernel_rfl
theorem t60 : cF Pg 60 = some (38,c60,[(.tmp 2)]) := by kernel_rfl
theorem t61 : cF Pg 61 = some (46,c61,[(.tmp 4)]) := by kernel_rfl
theorem t62 : cF Pg 62 = some (35,c62,[(.cell 4 .true 4)]) := by kernel_rfl
theorem t63 : cF Pg 63 = some (27,c63,[(.tmp 4)]) := by kernel_rfl
theorem t64 : cF Pg 64 = some (20,c64,[(.cell 4 .false 1)]) := by kernel_rfl
theorem t67 : cF Pg 67 = some (11,c67,[(.cell 6 .true 3)]) := by kernel_rfl
theorem t69 : cF Pg 69 = some (61,c69,[(.cell 6 .true 3),(.tmp 7)]) := by kernel_rfl
theorem t74 : cF Pg 74 = some (10,c74,[(.tmp 2),(.tmp 3)]) := by kernel_rfl
theorem t75 : cF Pg 75 = some (146,c75,[(.tmp 2),(.tmp 3)]) := by kernel_rfl
theorem t76 : cF Pg 76 = some (30,c76,[(.tmp 2),(.tmp 3)]) := by kernel_rfl
theorem t77 : cF Pg 77 = some (42,c77,[(.tmp 2)]) := by kernel_rfl
theorem t78 : cF Pg 78 = some (31,c78,[(.tmp 4)]) := by kernel_rfl
theorem t81 : cF Pg 81 = some (80,c81,[(.cell 6 .true 3),(.tmp 7)]) := by kernel_rfl
theorem t82 : cF Pg 82 = some (39,c82,[(.tmp 4)]) := by kernel_rfl
theorem t83 : cF Pg 83 = some (19,c83,[(.tmp 6)]) := by kernel_rfl
theorem t84 : cF Pg 84 = some (6,c84,[(.tmp 1)]) := by kernel_rfl
theorem t85 : cF Pg 85 = some (5,c85,[(.tmp 2)]) := by kernel_rfl
theorem t86 : cF Pg 86 = some (6,c86,[(.tmp 4)]) := by kernel_rfl
theorem t87 : cF Pg 87 = some (9,c87,[(.tmp 2)]) := by kernel_rfl
theorem t88 : cF Pg 88 = some (12,c88,[(.tmp 4)]) := by kernel_rfl
theorem t89 : cF Pg 89 = some (38,c89,[(.tmp 2)]) := by kernel_rfl
theorem t90 : cF Pg 90 = some (32,c90,[(.tmp 6)]) := by kernel_rfl
theorem t91 : cF Pg 91 = some (28,c91,[(.tmp 4)]) := by kernel_rfl
theorem t92 : cF Pg 92 = some (26,c92,[(.cell 2 .true 4)]) := by kernel_rfl
theorem t93 : cF Pg 93 = some (19,c93,[(.tmp 4)]) := by kernel_rfl
theorem t94 : cF Pg 94 = some (52,c94,[(.tmp 4)]) := by kernel_rfl
theorem t95 : cF Pg 95 = some (15,c95,[(.tmp 6)]) := by kernel_rfl
theorem t97 : cF Pg 97 = some (95,c97,[(.cell 6 .true 3)]) := by kernel_rfl
theorem t98 : cF Pg 98 = some (7,c98,[(.cell 3 .true 3)]) := by kernel_rfl
theorem t99 : cF Pg 99 = some (6,c99,[(.tmp 2)]) := by kernel_rfl
theorem t100 : cF Pg 100 = some (15,c100,[(.tmp 4)]) := by kernel_rfl
theorem t101 : cF Pg 101 = some (5,c101,[(.tmp 2)]) := by kernel_rfl
theorem t102 : cF Pg 102 = some (48,c102,[(.tmp 4)]) := by kernel_rfl
theorem t103 : cF Pg 103 = some (8,c103,[(.tmp 2)]) := by kernel_rfl
theorem t104 : cF Pg 104 = some (28,c104,[(.cell 2 .true 3)]) := by kernel_rfl
theorem t105 : cF Pg 105 = some (8,c105,[(.tmp 2)]) := by kernel_rfl
theorem t106 : cF Pg 106 = some (15,c106,[(.tmp 2)]) := by kernel_rfl
theorem t107 : cF Pg 107 = some (30,c107,[(.tmp 6)]) := by kernel_rfl
theorem t108 : cF Pg 108 = some (51,c108,[(.tmp 4)]) := by kernel_rfl
theorem t109 : cF Pg 109 = some (14,c109,[(.tmp 4)]) := by kernel_rfl
theorem t110 : cF Pg 110 = some (13,c110,[(.tmp 4)]) := by kernel_rfl
theorem t111 : cF Pg 111 = some (8,c111,[]) := by kernel_rfl
theorem t112 : cF Pg 112 = some (52,c112,[(.tmp 6)]) := by kernel_rfl
theorem t113 : cF Pg 113 = some (19,c113,[(.tmp 2)]) := by kernel_rfl
theorem t114 : cF Pg 114 = some (13,c114,[(.tmp 4)]) := by kernel_rfl
theorem t115 : cF Pg 115 = some (11,c115,[(.tmp 6)]) := by kernel_rfl
theorem t116 : cF Pg 116 = some (11,c116,[(.tmp 6)]) := by kernel_rfl
theorem t117 : cF Pg 117 = some (27,c117,[(.cell 2 .true 3)]) := by kernel_rfl
theorem t118 : cF Pg 118 = some (28,c118,[(.cell 2 .true 3)]) := by kernel_rfl
theorem t119 : cF Pg 119 = some (168,c119,[(.tmp 6)]) := by kernel_rfl
theorem t121 : cF Pg 121 = some (74,c121,[(.tmp 6)]) := by kernel_rfl
theorem t122 : cF Pg 122 = some (9,c122,[(.tmp 4)]) := by kernel_rfl
theorem t123 : cF Pg 123 = some (7,c123,[(.tmp 3)]) := by kernel_rfl
theorem t124 : cF Pg 124 = some (30,c124,[(.tmp 4),(.tmp 5)]) := by kernel_rfl
theorem t125 : cF Pg 125 = some (8,c125,[(.tmp 2)]) := by kernel_rfl
theorem t126 : cF Pg 126 = some (39,c126,[(.tmp 6)]) := by kernel_rfl
theorem t127 : cF Pg 127 = some (39,c127,[(.tmp 6)]) := by kernel_rfl
theorem t128 : cF Pg 128 = some (76,c128,[(.tmp 6)]) := by kernel_rfl
theorem t131 : cF Pg 131 = some (20,c131,[(.tmp 2)]) := by kernel_rfl
theorem t132 : cF Pg 132 = some (19,c132,[(.tmp 4)]) := by kernel_rfl
theorem t133 : cF Pg 133 = some (17,c133,[(.tmp 4),(.tmp 5)]) := by kernel_rfl
theorem t134 : cF Pg 134 = some (51,c134,[(.tmp 4),(.tmp 5)]) := by kernel_rfl
theorem t135 : cF Pg 135 = some (24,c135,[(.tmp 2)]) := by kernel_rfl
theorem all : AllOk 0 tab := ⟨t4,t7,t8,t9,t10,t13,t14,t15,t16,t17,t18,t19,t20,t21,t22,t23,t24,t25,t28,t36,t37,t38,t39,t40,t41,t42,t43,t44,t47,t48,t49,t50,t51,t52,t53,t54,t55,t56,t57,t58,t59,t60,t61,t62,t63,t64,t67,t69,t74,t75,t76,t77,t78,t81,t82,t83,t84,t85,t86,t87,t88,t89,t90,t91,t92,t93,t94,t95,t97,t98,t99,t100,t101,t102,t103,t104,t105,t106,t107,t108,t109,t110,t111,t112,t113,t114,t115,t116,t117,t118,t119,t121,t122,t123,t124,t125,t126,t127,t128,t131,t132,t133,t134,t135,trivial⟩
theorem AllOk.get : ∀ {l : List (Option FnC)} {k : Nat},AllOk k l → ∀ (i : Nat) c,l[i]? = some (some c) → cF Pg (k + i) = some (c.n,c.ac,c.rs)
 | [],k,_,i,c,h => by simp at h
 | none :: l,k,h,0,c,hc => by simp at hc
 | none :: l,k,h,i + 1,c,hc => by have := AllOk.get (l := l) (k := k + 1) h i c (by simpa using hc); rw [show k + (i + 1) = k + 1 + i by omega]; exact this
 | some c0 :: l,k,h,0,c,hc => by simp at hc; subst hc; exact h.1
 | some c0 :: l,k,h,i + 1,c,hc => by have := AllOk.get (l := l) (k := k + 1) h.2 i c (by simpa using hc); rw [show k + (i + 1) = k + 1 + i by omega]; exact this
theorem tok : TOk Pg Gl Lx T := by
 intro f c h
 have hf : tab[f]? = some (some c) := by
  unfold T at h
  rw [List.getD_eq_getElem?_getD] at h
  cases hx : tab[f]? with
  | none => rw [hx] at h; cases h
  | some x => rw [hx] at h; simp at h; rw [h]
 have := all.get f c hf
 rw [Nat.zero_add] at this
 unfold cF at this
 split at this
 ·rename_i fn hfn
  split at this
  ·cases this
  ·rename_i hname
   split at this
   ·rename_i b hb
    split at this
    ·rename_i ac rs h1 h2
     injection this with this; injection this with e1 this; injection this with e2 e3
     exact ⟨fn,b,hfn,hb,by simpa using hname,by rw [h1,e2],by rw [h2,e3],e1⟩
    ·cases this
   ·cases this
 ·cases this
end Go.Ab.Tab
