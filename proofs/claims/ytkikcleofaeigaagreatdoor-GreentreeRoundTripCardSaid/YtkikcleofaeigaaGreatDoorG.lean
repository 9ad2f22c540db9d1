/- GrnF, GrnX, GrnT, GrnU, GrnA, GrnB, GrnC, GrnD, GrnE -/
import Derived.Test.YtkikcleofaeigaaGreatDoorC
import Derived.Test.YtkikcleofaeigaaGreatDoorB
import Derived.Test.YtkikcleofaeigaaGreatDoorD
import Derived.Test.YtkikcleofaeigaaGreatDoorP
set_option linter.all false

section
set_option maxRecDepth 10000
namespace GrnF
open Go Go.Abs Go.Proofs ParF
-- greentree.equal
noncomputable def F123 (D : Den) (n : Nat) (t0 t1 : AV) (s : Heap) : Ans :=
  oh (aBox false 197 t0 s) fun t2 s =>
  oh (aBox false 197 t1 s) fun t3 s =>
  oh (some ((.bool false), s)) fun t4 s =>
  oh (mp (aAddr 0 t2) s) fun t5 s =>
  oh (aLoad false false 1 t5 s) fun t6 s =>
  oh (mp (aAddr 0 t3) s) fun t7 s =>
  oh (aLoad false false 1 t7 s) fun t8 s =>
  oh (mp (aBin Tryz.prog .eql 3 t6 t8) s) fun t9 s =>
  oh (some (t9.strip, s)) fun t10 s =>
  oh (gd (wA t10 true) s (mp (aAddr 1 t2) s)) fun t11 s =>
  oh (gd (wA t10 true) s (aLoad false false 1 t11 s)) fun t12 s =>
  oh (gd (wA t10 true) s (mp (aAddr 1 t3) s)) fun t13 s =>
  oh (gd (wA t10 true) s (aLoad false false 1 t13 s)) fun t14 s =>
  oh (gd (wA t10 true) s (mp (aBin Tryz.prog .eql 3 t12 t14) s)) fun t15 s =>
  oh (mp (aPick t10 t15 (.bool false)) s) fun t16 s =>
  oh (some (t16.strip, s)) fun t17 s =>
  oh (gd (wA t17 true) s (mp (aAddr 2 t2) s)) fun t18 s =>
  oh (gd (wA t17 true) s (aLoad false false 1 t18 s)) fun t19 s =>
  oh (gd (wA t17 true) s (mp (aAddr 2 t3) s)) fun t20 s =>
  oh (gd (wA t17 true) s (aLoad false false 1 t20 s)) fun t21 s =>
  oh (gd (wA t17 true) s (mp (aBin Tryz.prog .eql 9 t19 t21) s)) fun t22 s =>
  oh (mp (aPick t17 t22 (.bool false)) s) fun t23 s =>
  oh (some (t23.strip, s)) fun t24 s =>
  oh (gd (wA t24 true) s (mp (aAddr 3 t2) s)) fun t25 s =>
  oh (gd (wA t24 true) s (aLoad false false 1 t25 s)) fun t26 s =>
  oh (gd (wA t24 true) s (mp (aAddr 3 t3) s)) fun t27 s =>
  oh (gd (wA t24 true) s (aLoad false false 1 t27 s)) fun t28 s =>
  oh (gd (wA t24 true) s (aCall Tryz.prog D 190 [t26.strip, t28.strip] s)) fun t29 s =>
  oh (mp (aPick t24 t29 (.bool false)) s) fun t30 s =>
  oh (some (t30, s)) fun t4_2 s =>
  some (t4_2, s)
theorem F123_eq (n : Nat) (t0 t1 : AV) (s : Heap) : den C (n + 1) 123 [t0, t1] s = F123 (den C n) n t0 t1 s :=
  (den_body rfl Tryz.func123 _ _).trans (by kernel_rfl)
theorem en123 : enterable Tryz.prog 123 = true := by kernel_rfl
-- slices.Equal   int,int
noncomputable def F190_L0 (D : Den) (n : Nat) (k0 : Env → Heap → Ans) (e : Env) (s : Heap) : Ans :=
  oh (mp (aBin Tryz.prog .lss 3 (e 13) (e 12)) s) fun t14 s =>
  br t14
    (oh (some ((e 13).strip, s)) fun t15 s =>
  oh (some (t15, s)) fun t5 s =>
  oh (some ((e 0).strip, s)) fun t16 s =>
  oh (some (t5.strip, s)) fun t17 s =>
  oh (mp (aIndexAddr Tryz.prog 76 t16 t17) s) fun t18 s =>
  oh (aLoad false false 1 t18 s) fun t19 s =>
  oh (some ((e 1).strip, s)) fun t20 s =>
  oh (some (t5.strip, s)) fun t21 s =>
  oh (mp (aIndexAddr Tryz.prog 76 t20 t21) s) fun t22 s =>
  oh (aLoad false false 1 t22 s) fun t23 s =>
  oh (mp (aBin Tryz.prog .neq 3 t19 t23) s) fun t24 s =>
  drawOK C 190 (regOps Tryz.f190 6) [.silent, .silent, .silent, (kLoad false t18), .silent, .silent, .silent, (kLoad false t22), .silent] <|
  br t24
    (oh (some ((.bool false), s)) fun t4_3 s =>
  some (t4_3, s))
    (oh (mp (aBin Tryz.prog .add 3 (e 13) (.int .i64 1)) s) fun t25 s =>
  oh (some (t25.strip, s)) fun t13_2 s =>
  k0 (upds e [(14, t14), (15, t15), (15, t15.strip), (5, t5), (16, t16), (17, t17), (18, t18), (19, t19), (20, t20), (21, t21), (22, t22), (23, t23), (24, t24), (25, t25), (13, t13_2)]) s))
    (oh (some ((.bool true), s)) fun t4_4 s =>
  some (t4_4, s))
noncomputable def F190 (D : Den) (n : Nat) (t0 t1 : AV) (s : Heap) : Ans :=
  oh (some ((.bool false), s)) fun t4 s =>
  oh (some (t0.strip, s)) fun t6 s =>
  oh (mp (aLen Tryz.prog 76 t6) s) fun t7 s =>
  oh (some (t1.strip, s)) fun t8 s =>
  oh (mp (aLen Tryz.prog 76 t8) s) fun t9 s =>
  oh (mp (aBin Tryz.prog .neq 3 t7 t9) s) fun t10 s =>
  br t10
    (oh (some ((.bool false), s)) fun t4_2 s =>
  some (t4_2, s))
    (oh (some (t0.strip, s)) fun t11 s =>
  oh (mp (aLen Tryz.prog 76 t11) s) fun t12 s =>
  oh (some ((.int .i64 0), s)) fun t13 s =>
  aLoop (F190_L0 D n) n (upds (argEnv [t0, t1]) [(4, t4), (6, t6), (7, t7), (8, t8), (9, t9), (10, t10), (11, t11), (12, t12), (13, t13)]) s)
theorem F190_eq (n : Nat) (t0 t1 : AV) (s : Heap) : den C (n + 1) 190 [t0, t1] s = F190 (den C n) n t0 t1 s :=
  (den_body rfl Tryz.func190 _ _).trans (by kernel_rfl)
theorem d190_6 (x : Ans) : drawOK C 190 (regOps Tryz.f190 6) [.silent, .silent, .silent, .silent, .silent, .silent, .silent, .silent, .silent] x = x := drawOK_ok (by kernel_rfl)
theorem en190 : enterable Tryz.prog 190 = true := by kernel_rfl
-- greentree.isValid 1
noncomputable def F125 (D : Den) (n : Nat) (t0 t1 : AV) (s : Heap) : Ans :=
  oh (aBox false 197 t0 s) fun t2 s =>
  oh (some ((.bool false), s)) fun t3 s =>
  oh (aLoad false true 4 t2 s) fun t4 s =>
  oh (aLoad false true 4 t1 s) fun t5 s =>
  oh (aCall Tryz.prog D 123 [t4.strip, t5.strip] s) fun t6 s =>
  oh (some (t6, s)) fun t3_2 s =>
  some (t3_2, s)
theorem F125_eq (n : Nat) (t0 t1 : AV) (s : Heap) : den C (n + 1) 125 [t0, t1] s = F125 (den C n) n t0 t1 s :=
  (den_body rfl Tryz.func125 _ _).trans (by kernel_rfl)
theorem en125 : enterable Tryz.prog 125 = true := by kernel_rfl
-- greentree.insert 1
noncomputable def F122 (D : Den) (n : Nat) (t0 t1 : AV) (s : Heap) : Ans :=
  oh (aBox false 197 t0 s) fun t2 s =>
  oh (some ((.bool false), s)) fun t3 s =>
  oh (aLoad false true 4 t2 s) fun t4 s =>
  oh (aLoad false true 4 t1 s) fun t5 s =>
  oh (aCall Tryz.prog D 123 [t4.strip, t5.strip] s) fun t6 s =>
  oh (some (t6, s)) fun t3_2 s =>
  some (t3_2, s)
theorem F122_eq (n : Nat) (t0 t1 : AV) (s : Heap) : den C (n + 1) 122 [t0, t1] s = F122 (den C n) n t0 t1 s :=
  (den_body rfl Tryz.func122 _ _).trans (by kernel_rfl)
theorem en122 : enterable Tryz.prog 122 = true := by kernel_rfl
-- slices.IndexFunc   api.GreenNode,api.GreenNode
noncomputable def F121_L0 (D : Den) (n : Nat) (k0 : Env → Heap → Ans) (e : Env) (s : Heap) : Ans :=
  oh (mp (aBin Tryz.prog .lss 3 (e 8) (e 7)) s) fun t9 s =>
  br t9
    (oh (some ((e 8).strip, s)) fun t10 s =>
  oh (some (t10, s)) fun t5 s =>
  oh (some ((e 1).strip, s)) fun t11 s =>
  oh (some ((e 0).strip, s)) fun t12 s =>
  oh (some (t5.strip, s)) fun t13 s =>
  oh (mp (aIndexAddr Tryz.prog 56 t12 t13) s) fun t14 s =>
  oh (aLoad false true 4 t14 s) fun t15 s =>
  oh (aCallV Tryz.prog D t11 [t15] s) fun t16 s =>
  br t16
    (oh (some (t5.strip, s)) fun t17 s =>
  oh (some (t17, s)) fun t4_2 s =>
  some (t4_2, s))
    (oh (mp (aBin Tryz.prog .add 3 (e 8) (.int .i64 1)) s) fun t18 s =>
  oh (some (t18.strip, s)) fun t8_2 s =>
  k0 (upds e [(9, t9), (10, t10), (10, t10.strip), (5, t5), (11, t11), (12, t12), (13, t13), (14, t14), (15, t15), (16, t16), (18, t18), (8, t8_2)]) s))
    (oh (some ((.int .i64 (-1)), s)) fun t4_3 s =>
  some (t4_3, s))
noncomputable def F121 (D : Den) (n : Nat) (t0 t1 : AV) (s : Heap) : Ans :=
  oh (some ((.int .i64 0), s)) fun t4 s =>
  oh (some (t0.strip, s)) fun t6 s =>
  oh (mp (aLen Tryz.prog 56 t6) s) fun t7 s =>
  oh (some ((.int .i64 0), s)) fun t8 s =>
  aLoop (F121_L0 D n) n (upds (argEnv [t0, t1]) [(4, t4), (6, t6), (7, t7), (8, t8)]) s
theorem F121_eq (n : Nat) (t0 t1 : AV) (s : Heap) : den C (n + 1) 121 [t0, t1] s = F121 (den C n) n t0 t1 s :=
  (den_body rfl Tryz.func121 _ _).trans (by kernel_rfl)
theorem en121 : enterable Tryz.prog 121 = true := by kernel_rfl
-- slices.ContainsFunc   api.GreenNode,api.GreenNode
noncomputable def F124 (D : Den) (n : Nat) (t0 t1 : AV) (s : Heap) : Ans :=
  oh (some ((.bool false), s)) fun t4 s =>
  oh (some (t0.strip, s)) fun t5 s =>
  oh (some (t1.strip, s)) fun t6 s =>
  oh (aCall Tryz.prog D 121 [t5.strip, t6.strip] s) fun t7 s =>
  oh (mp (aBin Tryz.prog .geq 3 t7 (.int .i64 0)) s) fun t8 s =>
  oh (some (t8, s)) fun t4_2 s =>
  some (t4_2, s)
theorem F124_eq (n : Nat) (t0 t1 : AV) (s : Heap) : den C (n + 1) 124 [t0, t1] s = F124 (den C n) n t0 t1 s :=
  (den_body rfl Tryz.func124 _ _).trans (by kernel_rfl)
theorem en124 : enterable Tryz.prog 124 = true := by kernel_rfl
-- greentree.isValid
noncomputable def F67_L0 (D : Den) (n : Nat) (k0 : Env → Heap → Ans) (e : Env) (s : Heap) : Ans :=
  oh (mp (aBin Tryz.prog .lss 3 (e 20) (e 19)) s) fun t21 s =>
  br t21
    (oh (mp (aIndexAddr Tryz.prog 76 (e 18) (e 20)) s) fun t22 s =>
  oh (aLoad false false 1 t22 s) fun t23 s =>
  oh (some (t23, s)) fun t8 s =>
  oh (some (t8.strip, s)) fun t24 s =>
  oh (mp (aBin Tryz.prog .lss 3 t24 (.int .i64 0)) s) fun t25 s =>
  oh (some (t25.strip, s)) fun t26 s =>
  oh (gd (wA t26 false) s (some (t8.strip, s))) fun t27 s =>
  oh (gd (wA t26 false) s (some ((e 1).strip, s))) fun t28 s =>
  oh (gd (wA t26 false) s (mp (aBin Tryz.prog .geq 3 t27 t28) s)) fun t29 s =>
  oh (mp (aPick t26 (.bool true) t29) s) fun t30 s =>
  br t30
    (oh (some ((.bool false), s)) fun t4_2 s =>
  some (t4_2, s))
    (oh (some ((e 6).strip, s)) fun t31 s =>
  oh (some ((e 0).strip, s)) fun t32 s =>
  oh (some (t8.strip, s)) fun t33 s =>
  oh (mp (aIndexAddr Tryz.prog 56 t32 t33) s) fun t34 s =>
  oh (mp (aAddr 1 t34) s) fun t35 s =>
  oh (aLoad false false 1 t35 s) fun t36 s =>
  oh (mp (aBin Tryz.prog .add 3 t31 t36) s) fun t37 s =>
  oh (some (t37, s)) fun t6_2 s =>
  oh (mp (aBin Tryz.prog .add 3 (e 20) (.int .i64 1)) s) fun t38 s =>
  oh (some (t38.strip, s)) fun t20_2 s =>
  k0 (upds e [(21, t21), (22, t22), (23, t23), (23, t23.strip), (8, t8), (24, t24), (25, t25), (26, t26), (27, t27), (28, t28), (29, t29), (30, t30), (31, t31), (32, t32), (33, t33), (34, t34), (35, t35), (36, t36), (37, t37), (37, t37.strip), (6, t6_2), (38, t38), (20, t20_2)]) s))
    (oh (mp (aAddr 0 (e 5)) s) fun t39 s =>
  oh (aLoad false false 1 t39 s) fun t40 s =>
  oh (mp (aBin Tryz.prog .geq 3 t40 (.int .i64 100)) s) fun t41 s =>
  oh (some (t41, s)) fun t9 s =>
  oh (mp (aAddr 1 (e 5)) s) fun t42 s =>
  oh (aLoad false false 1 t42 s) fun t43 s =>
  oh (some ((e 6).strip, s)) fun t44 s =>
  oh (mp (aBin Tryz.prog .neq 3 t43 t44) s) fun t45 s =>
  oh (some (t45.strip, s)) fun t46 s =>
  oh (gd (wA t46 false) s (some (t9.strip, s))) fun t47 s =>
  oh (gd (wA t46 false) s (some (t47.strip, s))) fun t48 s =>
  oh (gd (wA t48 true) s (mp (aAddr 3 (e 5)) s)) fun t49 s =>
  oh (gd (wA t48 true) s (aLoad false false 1 t49 s)) fun t50 s =>
  oh (gd (wA t48 true) s (mp (aLen Tryz.prog 76 t50) s)) fun t51 s =>
  oh (gd (wA t48 true) s (mp (aBin Tryz.prog .gtr 3 t51 (.int .i64 0)) s)) fun t52 s =>
  oh (gd (wA t46 false) s (mp (aPick t48 t52 (.bool false)) s)) fun t53 s =>
  oh (mp (aPick t46 (.bool true) t53) s) fun t54 s =>
  oh (some (t54.strip, s)) fun t55 s =>
  oh (gd (wA t55 false) s (some (t9.strip, s))) fun t56 s =>
  oh (gd (wA t55 false) s (mp (aUn .not t56) s)) fun t57 s =>
  oh (gd (wA t55 false) s (some (t57.strip, s))) fun t58 s =>
  oh (gd (wA t58 true) s (mp (aAddr 2 (e 5)) s)) fun t59 s =>
  oh (gd (wA t58 true) s (aLoad false false 1 t59 s)) fun t60 s =>
  oh (gd (wA t58 true) s (mp (aBin Tryz.prog .neq 9 t60 (.str [])) s)) fun t61 s =>
  oh (gd (wA t55 false) s (mp (aPick t58 t61 (.bool false)) s)) fun t62 s =>
  oh (mp (aPick t55 (.bool true) t62) s) fun t63 s =>
  br t63
    (oh (some ((.bool false), s)) fun t4_3 s =>
  some (t4_3, s))
    (oh (some ((e 0).strip, s)) fun t64 s =>
  oh (some ((e 1).strip, s)) fun t65 s =>
  oh (mp (aSl Tryz.prog 56 t64 none (some t65) none) s) fun t66 s =>
  oh (some ((.fn 125 [] [(e 5)]), s)) fun t67 s =>
  oh (aCall Tryz.prog D 124 [t66.strip, t67.strip] s) fun t68 s =>
  oh (mp (aUn .not t68) s) fun t69 s =>
  oh (some (t69, s)) fun t4_4 s =>
  some (t4_4, s)))
noncomputable def F67 (D : Den) (n : Nat) (t0 t1 : AV) (s : Heap) : Ans :=
  oh (some ((.bool false), s)) fun t4 s =>
  oh (some (t0.strip, s)) fun t10 s =>
  oh (some (t1.strip, s)) fun t11 s =>
  oh (mp (aIndexAddr Tryz.prog 56 t10 t11) s) fun t12 s =>
  oh (aLoad false true 4 t12 s) fun t13 s =>
  oh (aAlloc Tryz.prog 197 s) fun t5 s =>
  oh (sto (aStore 4 s t5 t13)) fun _r s =>
  oh (mp (aAddr 2 t5) s) fun t14 s =>
  oh (aLoad false false 1 t14 s) fun t15 s =>
  oh (mp (aLen Tryz.prog 9 t15) s) fun t16 s =>
  oh (some (t16, s)) fun t6 s =>
  oh (mp (aAddr 3 t5) s) fun t17 s =>
  oh (aLoad false false 1 t17 s) fun t18 s =>
  oh (mp (aLen Tryz.prog 76 t18) s) fun t19 s =>
  oh (some ((.int .i64 0), s)) fun t20 s =>
  aLoop (F67_L0 D n) n (upds (argEnv [t0, t1]) [(4, t4), (10, t10), (11, t11), (12, t12), (13, t13), (5, t5), (13, t13.strip), (14, t14), (15, t15), (16, t16), (16, t16.strip), (6, t6), (17, t17), (18, t18), (19, t19), (20, t20)]) s
theorem F67_eq (n : Nat) (t0 t1 : AV) (s : Heap) : den C (n + 1) 67 [t0, t1] s = F67 (den C n) n t0 t1 s :=
  (den_body rfl Tryz.func67 _ _).trans (by kernel_rfl)
theorem en67 : enterable Tryz.prog 67 = true := by kernel_rfl
-- greentree.Validate
noncomputable def F26_L0 (D : Den) (n : Nat) (k0 : Env → Heap → Ans) (e : Env) (s : Heap) : Ans :=
  oh (mp (aBin Tryz.prog .lss 3 (e 11) (e 10)) s) fun t12 s =>
  br t12
    (oh (some ((e 11).strip, s)) fun t13 s =>
  oh (some (t13, s)) fun t3 s =>
  oh (mp (aAddr 0 (e 1)) s) fun t14 s =>
  oh (aLoad false false 1 t14 s) fun t15 s =>
  oh (some (t3.strip, s)) fun t16 s =>
  oh (aCall Tryz.prog D 67 [t15.strip, t16.strip] s) fun t17 s =>
  oh (mp (aUn .not t17) s) fun t18 s =>
  br t18
    (oh (some ((.int .i64 3), s)) fun t2_3 s =>
  some (t2_3, s))
    (oh (mp (aBin Tryz.prog .add 3 (e 11) (.int .i64 1)) s) fun t19 s =>
  oh (some (t19.strip, s)) fun t11_2 s =>
  k0 (upds e [(12, t12), (13, t13), (13, t13.strip), (3, t3), (14, t14), (15, t15), (16, t16), (17, t17), (18, t18), (19, t19), (11, t11_2)]) s))
    (oh (some ((.int .i64 0), s)) fun t2_4 s =>
  some (t2_4, s))
noncomputable def F26 (D : Den) (n : Nat) (t0 : AV) (s : Heap) : Ans :=
  oh (aBox false 58 t0 s) fun t1 s =>
  oh (some ((.int .i64 0), s)) fun t2 s =>
  oh (mp (aAddr 0 t1) s) fun t4 s =>
  oh (aLoad false false 1 t4 s) fun t5 s =>
  oh (mp (aLen Tryz.prog 56 t5) s) fun t6 s =>
  oh (mp (aBin Tryz.prog .gtr 3 t6 (.int .i64 4000)) s) fun t7 s =>
  br t7
    (oh (some ((.int .i64 2), s)) fun t2_2 s =>
  some (t2_2, s))
    (oh (mp (aAddr 0 t1) s) fun t8 s =>
  oh (aLoad false false 1 t8 s) fun t9 s =>
  oh (mp (aLen Tryz.prog 56 t9) s) fun t10 s =>
  oh (some ((.int .i64 0), s)) fun t11 s =>
  aLoop (F26_L0 D n) n (upds (argEnv [t0]) [(1, t1), (2, t2), (4, t4), (5, t5), (6, t6), (7, t7), (8, t8), (9, t9), (10, t10), (11, t11)]) s)
theorem F26_eq (n : Nat) (t0 : AV) (s : Heap) : den C (n + 1) 26 [t0] s = F26 (den C n) n t0 s :=
  (den_body rfl Tryz.func26 _ _).trans (by kernel_rfl)
theorem en26 : enterable Tryz.prog 26 = true := by kernel_rfl
-- greentree.isTree 1
noncomputable def F119 (D : Den) (n : Nat) (t0 : AV) (s : Heap) : Ans :=
  oh (aBox false 52 t0 s) fun t1 s =>
  oh (some ((.bool false), s)) fun t2 s =>
  oh (aLoad false true 3 t1 s) fun t3 s =>
  oh (aCall Tryz.prog D 63 [t3.strip] s) fun t4 s =>
  oh (mp (aUn .not t4) s) fun t5 s =>
  oh (some (t5, s)) fun t2_2 s =>
  some (t2_2, s)
theorem F119_eq (n : Nat) (t0 : AV) (s : Heap) : den C (n + 1) 119 [t0] s = F119 (den C n) n t0 s :=
  (den_body rfl Tryz.func119 _ _).trans (by kernel_rfl)
theorem en119 : enterable Tryz.prog 119 = true := by kernel_rfl
-- greentree.exceeds 1
noncomputable def F118 (D : Den) (n : Nat) (t0 t1 t2 : AV) (s : Heap) : Ans :=
  oh (aBox false 52 t0 s) fun t3 s =>
  oh (some ((.bool false), s)) fun t4 s =>
  oh (aLoad false true 3 t3 s) fun t5 s =>
  oh (aLoad false false 1 t1 s) fun t6 s =>
  oh (mp (aBin Tryz.prog .add 3 t6 (.int .i64 1)) s) fun t7 s =>
  oh (aLoad false false 1 t2 s) fun t8 s =>
  oh (aCall Tryz.prog D 62 [t5.strip, t7.strip, t8.strip] s) fun t9 s =>
  oh (some (t9, s)) fun t4_2 s =>
  some (t4_2, s)
theorem F118_eq (n : Nat) (t0 t1 t2 : AV) (s : Heap) : den C (n + 1) 118 [t0, t1, t2] s = F118 (den C n) n t0 t1 t2 s :=
  (den_body rfl Tryz.func118 _ _).trans (by kernel_rfl)
theorem en118 : enterable Tryz.prog 118 = true := by kernel_rfl
-- slices.IndexFunc   api.SyntaxTree,api.SyntaxTree
noncomputable def F189_L0 (D : Den) (n : Nat) (k0 : Env → Heap → Ans) (e : Env) (s : Heap) : Ans :=
  oh (mp (aBin Tryz.prog .lss 3 (e 8) (e 7)) s) fun t9 s =>
  br t9
    (oh (some ((e 8).strip, s)) fun t10 s =>
  oh (some (t10, s)) fun t5 s =>
  oh (some ((e 1).strip, s)) fun t11 s =>
  oh (some ((e 0).strip, s)) fun t12 s =>
  oh (some (t5.strip, s)) fun t13 s =>
  oh (mp (aIndexAddr Tryz.prog 50 t12 t13) s) fun t14 s =>
  oh (aLoad false true 3 t14 s) fun t15 s =>
  oh (aCallV Tryz.prog D t11 [t15] s) fun t16 s =>
  br t16
    (oh (some (t5.strip, s)) fun t17 s =>
  oh (some (t17, s)) fun t4_2 s =>
  some (t4_2, s))
    (oh (mp (aBin Tryz.prog .add 3 (e 8) (.int .i64 1)) s) fun t18 s =>
  oh (some (t18.strip, s)) fun t8_2 s =>
  k0 (upds e [(9, t9), (10, t10), (10, t10.strip), (5, t5), (11, t11), (12, t12), (13, t13), (14, t14), (15, t15), (16, t16), (18, t18), (8, t8_2)]) s))
    (oh (some ((.int .i64 (-1)), s)) fun t4_3 s =>
  some (t4_3, s))
noncomputable def F189 (D : Den) (n : Nat) (t0 t1 : AV) (s : Heap) : Ans :=
  oh (some ((.int .i64 0), s)) fun t4 s =>
  oh (some (t0.strip, s)) fun t6 s =>
  oh (mp (aLen Tryz.prog 50 t6) s) fun t7 s =>
  oh (some ((.int .i64 0), s)) fun t8 s =>
  aLoop (F189_L0 D n) n (upds (argEnv [t0, t1]) [(4, t4), (6, t6), (7, t7), (8, t8)]) s
theorem F189_eq (n : Nat) (t0 t1 : AV) (s : Heap) : den C (n + 1) 189 [t0, t1] s = F189 (den C n) n t0 t1 s :=
  (den_body rfl Tryz.func189 _ _).trans (by kernel_rfl)
theorem en189 : enterable Tryz.prog 189 = true := by kernel_rfl
-- slices.ContainsFunc   api.SyntaxTree,api.SyntaxTree
noncomputable def F117 (D : Den) (n : Nat) (t0 t1 : AV) (s : Heap) : Ans :=
  oh (some ((.bool false), s)) fun t4 s =>
  oh (some (t0.strip, s)) fun t5 s =>
  oh (some (t1.strip, s)) fun t6 s =>
  oh (aCall Tryz.prog D 189 [t5.strip, t6.strip] s) fun t7 s =>
  oh (mp (aBin Tryz.prog .geq 3 t7 (.int .i64 0)) s) fun t8 s =>
  oh (some (t8, s)) fun t4_2 s =>
  some (t4_2, s)
theorem F117_eq (n : Nat) (t0 t1 : AV) (s : Heap) : den C (n + 1) 117 [t0, t1] s = F117 (den C n) n t0 t1 s :=
  (den_body rfl Tryz.func117 _ _).trans (by kernel_rfl)
theorem en117 : enterable Tryz.prog 117 = true := by kernel_rfl
-- greentree.exceeds
noncomputable def F62 (D : Den) (n : Nat) (t0 t1 t2 : AV) (s : Heap) : Ans :=
  oh (aBox false 52 t0 s) fun t3 s =>
  oh (aBox false 3 t1 s) fun t4 s =>
  oh (aBox false 130 t2 s) fun t5 s =>
  oh (some ((.bool false), s)) fun t6 s =>
  oh (aLoad false false 1 t5 s) fun t7 s =>
  oh (mp (aNilCheck t7) s) fun t8 s =>
  oh (aLoad false false 1 t8 s) fun t9 s =>
  oh (mp (aBin Tryz.prog .sub 3 t9 (.int .i64 1)) s) fun t10 s =>
  oh (mp (aNilCheck t7) s) fun t11 s =>
  oh (sto (aStore 1 s t11 t10)) fun _r s =>
  oh (aLoad false false 1 t5 s) fun t12 s =>
  oh (mp (aNilCheck t12) s) fun t13 s =>
  oh (aLoad false false 1 t13 s) fun t14 s =>
  oh (mp (aBin Tryz.prog .lss 3 t14 (.int .i64 0)) s) fun t15 s =>
  oh (some (t15.strip, s)) fun t16 s =>
  oh (gd (wA t16 false) s (aLoad false false 1 t4 s)) fun t17 s =>
  oh (gd (wA t16 false) s (mp (aBin Tryz.prog .gtr 3 t17 (.int .i64 200)) s)) fun t18 s =>
  oh (mp (aPick t16 (.bool true) t18) s) fun t19 s =>
  br t19
    (oh (some ((.bool true), s)) fun t6_2 s =>
  some (t6_2, s))
    (oh (mp (aAddr 2 t3) s) fun t20 s =>
  oh (aLoad false false 1 t20 s) fun t21 s =>
  oh (some ((.fn 118 [] [t4, t5]), s)) fun t22 s =>
  oh (aCall Tryz.prog D 117 [t21.strip, t22.strip] s) fun t23 s =>
  oh (some (t23, s)) fun t6_3 s =>
  some (t6_3, s))
theorem F62_eq (n : Nat) (t0 t1 t2 : AV) (s : Heap) : den C (n + 1) 62 [t0, t1, t2] s = F62 (den C n) n t0 t1 t2 s :=
  (den_body rfl Tryz.func62 _ _).trans (by kernel_rfl)
theorem en62 : enterable Tryz.prog 62 = true := by kernel_rfl
-- greentree.isTree
noncomputable def F63 (D : Den) (n : Nat) (t0 : AV) (s : Heap) : Ans :=
  oh (aBox false 52 t0 s) fun t1 s =>
  oh (some ((.bool false), s)) fun t2 s =>
  oh (mp (aAddr 0 t1) s) fun t4 s =>
  oh (aLoad false false 1 t4 s) fun t5 s =>
  oh (mp (aBin Tryz.prog .geq 3 t5 (.int .i64 100)) s) fun t6 s =>
  oh (some (t6, s)) fun t3 s =>
  oh (some (t3.strip, s)) fun t7 s =>
  oh (some (t7.strip, s)) fun t8 s =>
  oh (gd (wA t8 true) s (mp (aAddr 2 t1) s)) fun t9 s =>
  oh (gd (wA t8 true) s (aLoad false false 1 t9 s)) fun t10 s =>
  oh (gd (wA t8 true) s (mp (aLen Tryz.prog 50 t10) s)) fun t11 s =>
  oh (gd (wA t8 true) s (mp (aBin Tryz.prog .gtr 3 t11 (.int .i64 0)) s)) fun t12 s =>
  oh (mp (aPick t8 t12 (.bool false)) s) fun t13 s =>
  oh (some (t13.strip, s)) fun t14 s =>
  oh (gd (wA t14 false) s (some (t3.strip, s))) fun t15 s =>
  oh (gd (wA t14 false) s (mp (aUn .not t15) s)) fun t16 s =>
  oh (gd (wA t14 false) s (some (t16.strip, s))) fun t17 s =>
  oh (gd (wA t17 true) s (mp (aAddr 1 t1) s)) fun t18 s =>
  oh (gd (wA t17 true) s (aLoad false false 1 t18 s)) fun t19 s =>
  oh (gd (wA t17 true) s (mp (aBin Tryz.prog .neq 9 t19 (.str [])) s)) fun t20 s =>
  oh (gd (wA t14 false) s (mp (aPick t17 t20 (.bool false)) s)) fun t21 s =>
  oh (mp (aPick t14 (.bool true) t21) s) fun t22 s =>
  br t22
    (oh (some ((.bool false), s)) fun t2_2 s =>
  some (t2_2, s))
    (oh (mp (aAddr 2 t1) s) fun t23 s =>
  oh (aLoad false false 1 t23 s) fun t24 s =>
  oh (aCall Tryz.prog D 117 [t24.strip, (.fn 119 [] [])] s) fun t25 s =>
  oh (mp (aUn .not t25) s) fun t26 s =>
  oh (some (t26, s)) fun t2_3 s =>
  some (t2_3, s))
theorem F63_eq (n : Nat) (t0 : AV) (s : Heap) : den C (n + 1) 63 [t0] s = F63 (den C n) n t0 s :=
  (den_body rfl Tryz.func63 _ _).trans (by kernel_rfl)
theorem en63 : enterable Tryz.prog 63 = true := by kernel_rfl
-- slices.Clone   int,int
noncomputable def F84 (D : Den) (n : Nat) (t0 : AV) (s : Heap) : Ans :=
  oh (some (.nils, s)) fun t2 s =>
  oh (some (t0.strip, s)) fun t3 s =>
  oh (mp (aBin Tryz.prog .eql 76 t3 .nils) s) fun t4 s =>
  br t4
    (oh (some (.nils, s)) fun t2_2 s =>
  some (t2_2, s))
    (oh (mp (aBuildSlice Tryz.prog 76 0 []) s) fun t5 s =>
  oh (some (t0.strip, s)) fun t6 s =>
  oh (mp (aAppend Tryz.prog 76 76 t5 t6) s) fun t7 s =>
  oh (some (t7, s)) fun t2_3 s =>
  some (t2_3, s))
theorem F84_eq (n : Nat) (t0 : AV) (s : Heap) : den C (n + 1) 84 [t0] s = F84 (den C n) n t0 s :=
  (den_body rfl Tryz.func84 _ _).trans (by kernel_rfl)
theorem en84 : enterable Tryz.prog 84 = true := by kernel_rfl
-- greentree.clone
noncomputable def F64_L0 (D : Den) (n : Nat) (k0 : Env → Heap → Ans) (e : Env) (s : Heap) : Ans :=
  oh (mp (aBin Tryz.prog .lss 3 (e 12) (e 11)) s) fun t13 s =>
  br t13
    (oh (some ((e 12).strip, s)) fun t14 s =>
  oh (some (t14, s)) fun t4 s =>
  oh (mp (aAddr 0 (e 3)) s) fun t15 s1 =>
  oh (aLoad false false 1 t15 s1) fun t16 s2 =>
  oh (some (t4.strip, s2)) fun t17 s3 =>
  oh (mp (aAddr 0 (e 3)) s3) fun t18 s4 =>
  oh (aLoad false false 1 t18 s4) fun t19 s5 =>
  oh (some (t4.strip, s5)) fun t20 s6 =>
  oh (mp (aIndexAddr Tryz.prog 56 t19 t20) s6) fun t21 s7 =>
  oh (mp (aAddr 3 t21) s7) fun t22 s8 =>
  oh (aLoad false false 1 t22 s8) fun t23 s9 =>
  oh (aCall Tryz.prog D 84 [t23.strip] s9) fun t24 s10 =>
  oh (mp (aIndexAddr Tryz.prog 56 t16 t17) s10) fun t25 s11 =>
  oh (mp (aAddr 3 t25) s11) fun t26 s12 =>
  oh (sto (aStore 1 s12 t26 t24)) fun _r s13 =>
  drawOK C 64 (regOps Tryz.f64 5) [.silent, (kLoad false t15), .silent, .silent, (kLoad false t18), .silent, .silent, .silent, (kLoad false t22), (dyn (kCall [t23.strip]) s9 s10), .silent, .silent, (kStore t26)] <|
  oh (mp (aBin Tryz.prog .add 3 (e 12) (.int .i64 1)) s13) fun t27 s =>
  oh (some (t27.strip, s)) fun t12_2 s =>
  k0 (upds e [(13, t13), (14, t14), (14, t14.strip), (4, t4), (15, t15), (16, t16), (17, t17), (18, t18), (19, t19), (20, t20), (21, t21), (22, t22), (23, t23), (24, t24), (25, t25), (26, t26), (24, t24.strip), (27, t27), (12, t12_2)]) s)
    (oh (aLoad false true 1 (e 3) s) fun t28 s =>
  oh (sto (aStore 1 s (e 2) t28)) fun _r s =>
  fin1 ((aLoad false true 1 (e 2) s).map (·.1)) s)
noncomputable def F64 (D : Den) (n : Nat) (t0 : AV) (s : Heap) : Ans :=
  oh (aBox false 58 t0 s) fun t1 s =>
  oh (aAlloc Tryz.prog 58 s) fun t2 s =>
  oh (mp (aAddr 0 t1) s) fun t5 s =>
  oh (aLoad false false 1 t5 s) fun t6 s =>
  oh (aCallF Tryz.prog D 120 [t6.strip] s) fun t7 s =>
  oh (mp (aBuild Tryz.prog 58 [(0, t7)]) s) fun t8 s =>
  oh (aAlloc Tryz.prog 58 s) fun t3 s =>
  oh (sto (aStore 1 s t3 t8)) fun _r s =>
  oh (mp (aAddr 0 t3) s) fun t9 s =>
  oh (aLoad false false 1 t9 s) fun t10 s =>
  oh (mp (aLen Tryz.prog 56 t10) s) fun t11 s =>
  oh (some ((.int .i64 0), s)) fun t12 s =>
  aLoop (F64_L0 D n) n (upds (argEnv [t0]) [(1, t1), (2, t2), (5, t5), (6, t6), (7, t7), (8, t8), (3, t3), (8, t8.strip), (9, t9), (10, t10), (11, t11), (12, t12)]) s
theorem F64_eq (n : Nat) (t0 : AV) (s : Heap) : den C (n + 1) 64 [t0] s = F64 (den C n) n t0 s :=
  (den_body rfl Tryz.func64 _ _).trans (by kernel_rfl)
theorem d64_5 {g0 g1 g2 : Nat} (a : Nat) (x : Ans) : drawOK C 64 (regOps Tryz.f64 5) [.silent, .get g0, .silent, .silent, .get g1, .silent, .silent, .silent, .get g2, .silent, .silent, .silent, .put a] x = x := drawOK_both (a := a) (b := a + 1) (ks0 := [.silent, .reader, .silent, .silent, .reader, .silent, .silent, .silent, .reader, .silent, .silent, .silent, .put 0]) (by omega) (by kernel_rfl) rfl
theorem en64 : enterable Tryz.prog 64 = true := by kernel_rfl
-- greentree.insert
noncomputable def F65_L0 (D : Den) (n : Nat) (k0 : Env → Heap → Ans) (e : Env) (s : Heap) : Ans :=
  oh (mp (aBin Tryz.prog .lss 3 (e 21) (e 20)) s) fun t22 s =>
  br t22
    (oh (mp (aIndexAddr Tryz.prog 50 (e 19) (e 21)) s) fun t23 s =>
  oh (aLoad false true 3 t23 s) fun t24 s =>
  oh (aAlloc Tryz.prog 52 s) fun t7 s =>
  oh (sto (aStore 3 s t7 t24)) fun _r s =>
  oh (some ((e 0).strip, s)) fun t25 s =>
  oh (aLoad false true 3 t7 s) fun t26 s =>
  oh (aCall Tryz.prog D 65 [t25.strip, t26.strip] s) fun t27 s =>
  oh (some (t27, s)) fun t8 s =>
  oh (mp (aAddr 3 (e 5)) s) fun t28 s =>
  oh (aLoad true false 1 t28 s) fun t29 s =>
  oh (some (t8.strip, s)) fun t30 s =>
  oh (mp (aBuildSlice Tryz.prog 76 1 [(0, t30)]) s) fun t31 s =>
  oh (mp (aAppend Tryz.prog 76 76 t29 t31) s) fun t32 s =>
  oh (mp (aAddr 3 (e 5)) s) fun t33 s =>
  oh (sto (aStore 1 s t33 t32)) fun _r s =>
  oh (mp (aAddr 1 (e 5)) s) fun t34 s =>
  oh (aLoad false false 1 t34 s) fun t35 s =>
  oh (some ((e 0).strip, s)) fun t36 s =>
  oh (mp (aNilCheck t36) s) fun t37 s =>
  oh (mp (aAddr 0 t37) s) fun t38 s =>
  oh (aLoad false false 1 t38 s) fun t39 s =>
  oh (some (t8.strip, s)) fun t40 s =>
  oh (mp (aIndexAddr Tryz.prog 56 t39 t40) s) fun t41 s =>
  oh (mp (aAddr 1 t41) s) fun t42 s =>
  oh (aLoad false false 1 t42 s) fun t43 s =>
  oh (mp (aBin Tryz.prog .add 3 t35 t43) s) fun t44 s =>
  oh (mp (aAddr 1 (e 5)) s) fun t45 s =>
  oh (sto (aStore 1 s t45 t44)) fun _r s =>
  drawOK C 65 (regOps Tryz.f65 7) [.silent, (kLoad false t34), .silent, .silent, .silent, (kLoad false t38), .silent, .silent, .silent, (kLoad false t42), .silent, .silent, (kStore t45)] <|
  oh (mp (aBin Tryz.prog .add 3 (e 21) (.int .i64 1)) s) fun t46 s =>
  oh (some (t46.strip, s)) fun t21_2 s =>
  k0 (upds e [(22, t22), (23, t23), (24, t24), (7, t7), (24, t24.strip), (25, t25), (26, t26), (27, t27), (27, t27.strip), (8, t8), (28, t28), (29, t29), (30, t30), (31, t31), (29, t29.strip), (32, t32), (33, t33), (32, t32.strip), (34, t34), (35, t35), (36, t36), (37, t37), (38, t38), (39, t39), (40, t40), (41, t41), (42, t42), (43, t43), (44, t44), (45, t45), (44, t44.strip), (46, t46), (21, t21_2)]) s)
    (oh (some ((e 0).strip, s)) fun t47 s =>
  oh (mp (aNilCheck t47) s) fun t48 s =>
  oh (mp (aAddr 0 t48) s) fun t49 s =>
  oh (aLoad false false 1 t49 s) fun t50 s =>
  oh (some ((.fn 122 [] [(e 5)]), s)) fun t51 s =>
  oh (aCall Tryz.prog D 121 [t50.strip, t51.strip] s) fun t52 s =>
  oh (some (t52, s)) fun t9 s =>
  oh (some (t9.strip, s)) fun t53 s =>
  oh (mp (aBin Tryz.prog .geq 3 t53 (.int .i64 0)) s) fun t54 s =>
  br t54
    (oh (some (t9.strip, s)) fun t55 s =>
  oh (some (t55, s)) fun t4_2 s =>
  some (t4_2, s))
    (oh (some ((e 0).strip, s)) fun t56 s1 =>
  oh (some ((e 0).strip, s1)) fun t57 s2 =>
  oh (mp (aNilCheck t57) s2) fun t58 s3 =>
  oh (mp (aAddr 0 t58) s3) fun t59 s4 =>
  oh (aLoad false false 1 t59 s4) fun t60 s5 =>
  oh (aLoad false true 4 (e 5) s5) fun t61 s6 =>
  oh (mp (aBuildSlice Tryz.prog 56 1 [(0, t61)]) s6) fun t62 s7 =>
  oh (aRsAppend Tryz.prog 56 56 t60 t62 s7) fun t63 s8 =>
  oh (mp (aNilCheck t56) s8) fun t64 s9 =>
  oh (mp (aAddr 0 t64) s9) fun t65 s10 =>
  oh (sto (aStore 1 s10 t65 t63.strip)) fun _r s11 =>
  drawOK C 65 (regOps Tryz.f65 12) [.silent, .silent, .silent, .silent, (kLoad false t59), (kLoad false (e 5)), .silent, (dyn (appK t60) s7 s8), .silent, .silent, (kStore t65)] <|
  oh (some ((e 0).strip, s11)) fun t66 s =>
  oh (mp (aNilCheck t66) s) fun t67 s =>
  oh (mp (aAddr 0 t67) s) fun t68 s =>
  oh (aLoad false false 1 t68 s) fun t69 s =>
  oh (mp (aLen Tryz.prog 56 t69) s) fun t70 s =>
  oh (mp (aBin Tryz.prog .sub 3 t70 (.int .i64 1)) s) fun t71 s =>
  oh (some (t71, s)) fun t4_3 s =>
  some (t4_3, s)))
noncomputable def F65 (D : Den) (n : Nat) (t0 t1 : AV) (s : Heap) : Ans :=
  oh (aBox false 52 t1 s) fun t3 s =>
  oh (some ((.int .i64 0), s)) fun t4 s =>
  oh (mp (aAddr 0 t3) s) fun t10 s =>
  oh (aLoad false false 1 t10 s) fun t11 s =>
  oh (mp (aAddr 1 t3) s) fun t12 s =>
  oh (aLoad false false 1 t12 s) fun t13 s =>
  oh (mp (aLen Tryz.prog 9 t13) s) fun t14 s =>
  oh (mp (aAddr 1 t3) s) fun t15 s =>
  oh (aLoad false false 1 t15 s) fun t16 s =>
  oh (mp (aBuild Tryz.prog 197 [(0, t11), (1, t14), (2, t16)]) s) fun t17 s =>
  oh (aAlloc Tryz.prog 197 s) fun t5 s =>
  oh (sto (aStore 4 s t5 t17)) fun _r s =>
  oh (mp (aAddr 2 t3) s) fun t18 s =>
  oh (aLoad false false 1 t18 s) fun t19 s =>
  oh (mp (aLen Tryz.prog 50 t19) s) fun t20 s =>
  oh (some ((.int .i64 0), s)) fun t21 s =>
  aLoop (F65_L0 D n) n (upds (argEnv [t0, t1]) [(3, t3), (4, t4), (10, t10), (11, t11), (12, t12), (13, t13), (14, t14), (15, t15), (16, t16), (17, t17), (5, t5), (17, t17.strip), (18, t18), (19, t19), (20, t20), (21, t21)]) s
theorem F65_eq (n : Nat) (t0 t1 : AV) (s : Heap) : den C (n + 1) 65 [t0, t1] s = F65 (den C n) n t0 t1 s :=
  (den_body rfl Tryz.func65 _ _).trans (by kernel_rfl)
theorem d65_7 {g0 g1 g2 : Nat} (a : Nat) (x : Ans) : drawOK C 65 (regOps Tryz.f65 7) [.silent, .get g0, .silent, .silent, .silent, .get g1, .silent, .silent, .silent, .get g2, .silent, .silent, .put a] x = x := drawOK_both (a := a) (b := a + 1) (ks0 := [.silent, .reader, .silent, .silent, .silent, .reader, .silent, .silent, .silent, .reader, .silent, .silent, .put 0]) (by omega) (by kernel_rfl) rfl
theorem d65_12 {g0 g1 : Nat} {q0 : Option Nat} (a : Nat) (x : Ans) : drawOK C 65 (regOps Tryz.f65 12) [.silent, .silent, .silent, .silent, .get g0, .get g1, .silent, .app q0, .silent, .silent, .put a] x = x := drawOK_both (a := a) (b := a + 1) (ks0 := [.silent, .silent, .silent, .silent, .reader, .reader, .silent, .writer, .silent, .silent, .put 0]) (by omega) (by kernel_rfl) rfl
theorem en65 : enterable Tryz.prog 65 = true := by kernel_rfl
-- greentree.Insert
noncomputable def F23 (D : Den) (n : Nat) (t0 t1 : AV) (s : Heap) : Ans :=
  oh (aBox false 58 t0 s) fun t2 s =>
  oh (aBox false 52 t1 s) fun t3 s =>
  oh (aAlloc Tryz.prog 58 s) fun t4 s =>
  oh (some ((.int .i64 0), s)) fun t5 s =>
  oh (some ((.int .i64 0), s)) fun t6 s =>
  oh (aLoad false true 1 t2 s) fun t11 s =>
  oh (aCall Tryz.prog D 26 [t11.strip] s) fun t12 s =>
  oh (some (t12, s)) fun t7 s =>
  oh (some (t7.strip, s)) fun t13 s =>
  oh (mp (aBin Tryz.prog .neq 24 t13 (.int .i64 0)) s) fun t14 s =>
  br t14
    (oh (mp (aBuild Tryz.prog 58 []) s) fun t15 s =>
  oh (some (t7.strip, s)) fun t16 s =>
  oh (sto (aStore 1 s t4 t15)) fun _r s =>
  oh (some ((.int .i64 0), s)) fun t5_2 s =>
  oh (some (t16, s)) fun t6_2 s =>
  fin1 ((resL [(aLoad false true 1 t4 s).map (·.1), some t5_2, some t6_2]).map .tup) s)
    (oh (aAlloc Tryz.prog 3 s) fun t8 s =>
  oh (sto (aStore 1 s t8 (.int .i64 4000))) fun _r s =>
  oh (aLoad false true 3 t3 s) fun t18 s =>
  oh (aCall Tryz.prog D 62 [t18.strip, (.int .i64 1), t8.strip] s) fun t19 s =>
  oh (some (t19, s)) fun t17 s =>
  br t17
    (oh (mp (aBuild Tryz.prog 58 []) s) fun t20 s =>
  oh (sto (aStore 1 s t4 t20)) fun _r s =>
  oh (some ((.int .i64 0), s)) fun t5_3 s =>
  oh (some ((.int .i64 2), s)) fun t6_3 s =>
  fin1 ((resL [(aLoad false true 1 t4 s).map (·.1), some t5_3, some t6_3]).map .tup) s)
    (oh (aLoad false true 3 t3 s) fun t22 s =>
  oh (aCall Tryz.prog D 63 [t22.strip] s) fun t23 s =>
  oh (mp (aUn .not t23) s) fun t24 s =>
  oh (some (t24, s)) fun t21 s =>
  br t21
    (oh (mp (aBuild Tryz.prog 58 []) s) fun t25 s =>
  oh (sto (aStore 1 s t4 t25)) fun _r s =>
  oh (some ((.int .i64 0), s)) fun t5_4 s =>
  oh (some ((.int .i64 3), s)) fun t6_4 s =>
  fin1 ((resL [(aLoad false true 1 t4 s).map (·.1), some t5_4, some t6_4]).map .tup) s)
    (oh (aLoad false true 1 t2 s) fun t26 s =>
  oh (aCallF Tryz.prog D 64 [t26.strip] s) fun t27 s =>
  oh (aAlloc Tryz.prog 58 s) fun t9 s =>
  oh (sto (aStore 1 s t9 t27.strip)) fun _r s =>
  oh (aLoad false true 3 t3 s) fun t28 s =>
  oh (aCall Tryz.prog D 65 [t9.strip, t28.strip] s) fun t29 s =>
  oh (some (t29, s)) fun t10 s =>
  oh (mp (aAddr 0 t9) s) fun t30 s =>
  oh (aLoad false false 1 t30 s) fun t31 s =>
  oh (mp (aLen Tryz.prog 56 t31) s) fun t32 s =>
  oh (mp (aBin Tryz.prog .gtr 3 t32 (.int .i64 4000)) s) fun t33 s =>
  br t33
    (oh (mp (aBuild Tryz.prog 58 []) s) fun t34 s =>
  oh (sto (aStore 1 s t4 t34)) fun _r s =>
  oh (some ((.int .i64 0), s)) fun t5_5 s =>
  oh (some ((.int .i64 2), s)) fun t6_5 s =>
  fin1 ((resL [(aLoad false true 1 t4 s).map (·.1), some t5_5, some t6_5]).map .tup) s)
    (oh (pubR (aLoad false true 1 t9 s)) fun t35 s =>
  oh (some (t10.strip, s)) fun t36 s =>
  oh (sto (aStore 1 s t4 t35.strip)) fun _r s =>
  oh (some (t36, s)) fun t5_6 s =>
  oh (some ((.int .i64 0), s)) fun t6_6 s =>
  fin1 ((resL [(aLoad false true 1 t4 s).map (·.1), some t5_6, some t6_6]).map .tup) s))))
theorem F23_eq (n : Nat) (t0 t1 : AV) (s : Heap) : den C (n + 1) 23 [t0, t1] s = F23 (den C n) n t0 t1 s :=
  (den_body rfl Tryz.func23 _ _).trans (by kernel_rfl)
theorem en23 : enterable Tryz.prog 23 = true := by kernel_rfl
-- greentree.build
noncomputable def F66_J1 (D : Den) (n : Nat) (k0 : Env → Heap → Ans) (e : Env) (s : Heap) : Ans :=
  oh (mp (aBin Tryz.prog .add 3 (e 29) (.int .i64 1)) s) fun t46 s =>
  oh (some (t46.strip, s)) fun t29_2 s =>
  k0 (upds e [(46, t46), (29, t29_2)]) s
noncomputable def F66_L0 (D : Den) (n : Nat) (k0 : Env → Heap → Ans) (e : Env) (s : Heap) : Ans :=
  oh (mp (aBin Tryz.prog .lss 3 (e 29) (e 28)) s) fun t30 s =>
  br t30
    (oh (mp (aIndexAddr Tryz.prog 76 (e 27) (e 29)) s) fun t31 s =>
  oh (aLoad false false 1 t31 s) fun t32 s =>
  oh (some (t32, s)) fun t10 s =>
  oh (some ((e 2).strip, s)) fun t33 s =>
  oh (mp (aNilCheck t33) s) fun t34 s =>
  oh (aLoad false false 1 t34 s) fun t35 s =>
  oh (mp (aBin Tryz.prog .geq 3 t35 (.int .i64 0)) s) fun t36 s =>
  br t36
    (oh (mp (aAddr 2 (e 8)) s) fun t37 s1 =>
  oh (aLoad false false 1 t37 s1) fun t38 s2 =>
  oh (aLoad false true 1 (e 3) s2) fun t39 s3 =>
  oh (some (t10.strip, s3)) fun t40 s4 =>
  oh (some ((e 2).strip, s4)) fun t41 s5 =>
  oh (aCall Tryz.prog D 66 [t39.strip, t40.strip, t41.strip] s5) fun t42 s6 =>
  oh (mp (aBuildSlice Tryz.prog 50 1 [(0, t42)]) s6) fun t43 s7 =>
  oh (aRsAppend Tryz.prog 50 50 t38 t43 s7) fun t44 s8 =>
  oh (mp (aAddr 2 (e 8)) s8) fun t45 s9 =>
  oh (sto (aStore 1 s9 t45 t44.strip)) fun _r s10 =>
  drawOK C 66 (regOps Tryz.f66 8) [.silent, (kLoad false t37), (kLoad false (e 3)), .silent, .silent, (dyn (kCall [t39.strip, t40.strip, t41.strip]) s5 s6), .silent, (dyn (appK t38) s7 s8), .silent, (kStore t45)] <|
  F66_J1 D n k0 (upds e [(30, t30), (31, t31), (32, t32), (32, t32.strip), (10, t10), (33, t33), (34, t34), (35, t35), (36, t36), (37, t37), (38, t38), (39, t39), (40, t40), (41, t41), (42, t42), (43, t43), (38, t38.strip), (44, t44), (45, t45)]) s10)
    (F66_J1 D n k0 (upds e [(30, t30), (31, t31), (32, t32), (32, t32.strip), (10, t10), (33, t33), (34, t34), (35, t35), (36, t36)]) s))
    (oh (pubR (aLoad false true 3 (e 8) s)) fun t47 s =>
  oh (sto (aStore 3 s (e 6) t47.strip)) fun _r s =>
  fin1 ((aLoad false true 3 (e 6) s).map (·.1)) s)
noncomputable def F66 (D : Den) (n : Nat) (t0 t1 t2 : AV) (s : Heap) : Ans :=
  oh (aBox false 58 t0 s) fun t3 s =>
  oh (aAlloc Tryz.prog 52 s) fun t6 s =>
  oh (some (t2.strip, s)) fun t11 s =>
  oh (mp (aNilCheck t11) s) fun t12 s =>
  oh (aLoad false false 1 t12 s) fun t13 s =>
  oh (mp (aBin Tryz.prog .sub 3 t13 (.int .i64 1)) s) fun t14 s =>
  oh (mp (aNilCheck t11) s) fun t15 s =>
  oh (sto (aStore 1 s t15 t14)) fun _r s =>
  oh (mp (aAddr 0 t3) s) fun t16 s =>
  oh (aLoad false false 1 t16 s) fun t17 s =>
  oh (some (t1.strip, s)) fun t18 s =>
  oh (mp (aIndexAddr Tryz.prog 56 t17 t18) s) fun t19 s =>
  oh (aLoad false true 4 t19 s) fun t20 s =>
  oh (aAlloc Tryz.prog 197 s) fun t7 s =>
  oh (sto (aStore 4 s t7 t20)) fun _r s =>
  oh (mp (aAddr 0 t7) s) fun t21 s =>
  oh (aLoad false false 1 t21 s) fun t22 s =>
  oh (mp (aAddr 2 t7) s) fun t23 s =>
  oh (aLoad false false 1 t23 s) fun t24 s =>
  oh (mp (aBuild Tryz.prog 52 [(0, t22), (1, t24)]) s) fun t25 s =>
  oh (aAlloc Tryz.prog 52 s) fun t8 s =>
  oh (sto (aStore 3 s t8 t25)) fun _r s =>
  oh (mp (aAddr 3 t7) s) fun t26 s =>
  oh (aLoad false false 1 t26 s) fun t27 s =>
  oh (mp (aLen Tryz.prog 76 t27) s) fun t28 s =>
  oh (some ((.int .i64 0), s)) fun t29 s =>
  aLoop (F66_L0 D n) n (upds (argEnv [t0, t1, t2]) [(3, t3), (6, t6), (11, t11), (12, t12), (13, t13), (14, t14), (15, t15), (14, t14.strip), (16, t16), (17, t17), (18, t18), (19, t19), (20, t20), (7, t7), (20, t20.strip), (21, t21), (22, t22), (23, t23), (24, t24), (25, t25), (8, t8), (25, t25.strip), (26, t26), (27, t27), (28, t28), (29, t29)]) s
theorem F66_eq (n : Nat) (t0 t1 t2 : AV) (s : Heap) : den C (n + 1) 66 [t0, t1, t2] s = F66 (den C n) n t0 t1 t2 s :=
  (den_body rfl Tryz.func66 _ _).trans (by kernel_rfl)
theorem d66_8 {g0 : Nat} {q0 : Option Nat} {l0 : List Nat} (a : Nat) (h : ∀ g ∈ [g0], ∀ l ∈ [l0], (l : List Nat).contains g = true) (x : Ans) : drawOK C 66 (regOps Tryz.f66 8) [.silent, .get g0, .silent, .silent, .silent, .call l0, .silent, .app q0, .silent, .put a] x = x := drawOK_call (gs := [g0]) (ls := [l0]) (by kernel_rfl) (by simp) (by simp) h
theorem en66 : enterable Tryz.prog 66 = true := by kernel_rfl
-- greentree.Tree
noncomputable def F24 (D : Den) (n : Nat) (t0 t1 : AV) (s : Heap) : Ans :=
  oh (aBox false 58 t0 s) fun t2 s =>
  oh (aAlloc Tryz.prog 52 s) fun t4 s =>
  oh (some ((.int .i64 0), s)) fun t5 s =>
  oh (aLoad false true 1 t2 s) fun t9 s =>
  oh (aCall Tryz.prog D 26 [t9.strip] s) fun t10 s =>
  oh (some (t10, s)) fun t6 s =>
  oh (some (t6.strip, s)) fun t11 s =>
  oh (mp (aBin Tryz.prog .neq 24 t11 (.int .i64 0)) s) fun t12 s =>
  br t12
    (oh (mp (aBuild Tryz.prog 52 []) s) fun t13 s =>
  oh (some (t6.strip, s)) fun t14 s =>
  oh (sto (aStore 3 s t4 t13)) fun _r s =>
  oh (some (t14, s)) fun t5_2 s =>
  fin1 ((resL [(aLoad false true 3 t4 s).map (·.1), some t5_2]).map .tup) s)
    (oh (some (t1.strip, s)) fun t15 s =>
  oh (mp (aBin Tryz.prog .lss 3 t15 (.int .i64 0)) s) fun t16 s =>
  oh (some (t16.strip, s)) fun t17 s =>
  oh (gd (wA t17 false) s (some (t1.strip, s))) fun t18 s =>
  oh (gd (wA t17 false) s (mp (aAddr 0 t2) s)) fun t19 s =>
  oh (gd (wA t17 false) s (aLoad false false 1 t19 s)) fun t20 s =>
  oh (gd (wA t17 false) s (mp (aLen Tryz.prog 56 t20) s)) fun t21 s =>
  oh (gd (wA t17 false) s (mp (aBin Tryz.prog .geq 3 t18 t21) s)) fun t22 s =>
  oh (mp (aPick t17 (.bool true) t22) s) fun t23 s =>
  br t23
    (oh (mp (aBuild Tryz.prog 52 []) s) fun t24 s =>
  oh (sto (aStore 3 s t4 t24)) fun _r s =>
  oh (some ((.int .i64 5), s)) fun t5_3 s =>
  fin1 ((resL [(aLoad false true 3 t4 s).map (·.1), some t5_3]).map .tup) s)
    (oh (aAlloc Tryz.prog 3 s) fun t7 s =>
  oh (sto (aStore 1 s t7 (.int .i64 4000))) fun _r s =>
  oh (aLoad false true 1 t2 s) fun t25 s =>
  oh (some (t1.strip, s)) fun t26 s =>
  oh (aCall Tryz.prog D 66 [t25.strip, t26.strip, t7.strip] s) fun t27 s =>
  oh (aAlloc Tryz.prog 52 s) fun t8 s =>
  oh (sto (aStore 3 s t8 t27)) fun _r s =>
  oh (aLoad false false 1 t7 s) fun t28 s =>
  oh (mp (aBin Tryz.prog .lss 3 t28 (.int .i64 0)) s) fun t29 s =>
  br t29
    (oh (mp (aBuild Tryz.prog 52 []) s) fun t30 s =>
  oh (sto (aStore 3 s t4 t30)) fun _r s =>
  oh (some ((.int .i64 2), s)) fun t5_4 s =>
  fin1 ((resL [(aLoad false true 3 t4 s).map (·.1), some t5_4]).map .tup) s)
    (oh (aLoad false true 3 t8 s) fun t31 s =>
  oh (sto (aStore 3 s t4 t31)) fun _r s =>
  oh (some ((.int .i64 0), s)) fun t5_5 s =>
  fin1 ((resL [(aLoad false true 3 t4 s).map (·.1), some t5_5]).map .tup) s)))
theorem F24_eq (n : Nat) (t0 t1 : AV) (s : Heap) : den C (n + 1) 24 [t0, t1] s = F24 (den C n) n t0 t1 s :=
  (den_body rfl Tryz.func24 _ _).trans (by kernel_rfl)
theorem en24 : enterable Tryz.prog 24 = true := by kernel_rfl
-- glossatorkeep1.pair
noncomputable def F57 (D : Den) (n : Nat) (s : Heap) : Ans :=
  oh (aAlloc Tryz.prog 52 s) fun t0 s =>
  oh (mp (aBuild Tryz.prog 52 [(0, (.int .i64 103)), (1, (.str [97]))]) s) fun t2 s =>
  oh (aAlloc Tryz.prog 52 s) fun t1 s =>
  oh (sto (aStore 3 s t1 t2)) fun _r s =>
  oh (aLoad false true 3 t1 s) fun t3 s =>
  oh (aLoad false true 3 t1 s) fun t4 s =>
  oh (mp (aBuildSlice Tryz.prog 50 2 [(0, t3), (1, t4)]) s) fun t5 s =>
  oh (mp (aBuild Tryz.prog 52 [(0, (.int .i64 17)), (2, t5)]) s) fun t6 s =>
  oh (sto (aStore 3 s t0 t6)) fun _r s =>
  fin1 ((aLoad false true 3 t0 s).map (·.1)) s
theorem F57_eq (n : Nat) (s : Heap) : den C (n + 1) 57 [] s = F57 (den C n) n s :=
  (den_body rfl Tryz.func57 _ _).trans (by kernel_rfl)
theorem en57 : enterable Tryz.prog 57 = true := by kernel_rfl
-- glossatorkeep1.greenExample
noncomputable def F20 (D : Den) (n : Nat) (s : Heap) : Ans :=
  oh (some ((.bool false), s)) fun t0 s =>
  oh (mp (aBuild Tryz.prog 58 []) s) fun t7 s =>
  oh (aCall Tryz.prog D 57 [] s) fun t8 s =>
  oh (aCall Tryz.prog D 23 [t7.strip, t8.strip] s) fun t9 s =>
  oh (some (t9.strip, s)) fun t6 s =>
  oh (mp (aExtract 0 t6) s) fun t10 s =>
  oh (mp (aExtract 1 t6) s) fun t11 s =>
  oh (mp (aExtract 2 t6) s) fun t12 s =>
  oh (aAlloc Tryz.prog 58 s) fun t1 s =>
  oh (sto (aStore 1 s t1 t10)) fun _r s =>
  oh (some (t11, s)) fun t2 s =>
  oh (some (t12, s)) fun t3 s =>
  oh (aLoad false true 1 t1 s) fun t14 s =>
  oh (some (t2.strip, s)) fun t15 s =>
  oh (aCall Tryz.prog D 24 [t14.strip, t15.strip] s) fun t16 s =>
  oh (some (t16.strip, s)) fun t13 s =>
  oh (mp (aExtract 0 t13) s) fun t17 s =>
  oh (mp (aExtract 1 t13) s) fun t18 s =>
  oh (aAlloc Tryz.prog 52 s) fun t4 s =>
  oh (sto (aStore 3 s t4 t17)) fun _r s =>
  oh (some (t18, s)) fun t5 s =>
  oh (some (t2.strip, s)) fun t19 s1 =>
  oh (mp (aBin Tryz.prog .eql 3 t19 (.int .i64 1)) s1) fun t20 s2 =>
  oh (some (t20.strip, s2)) fun t21 s3 =>
  oh (gd (wA t21 true) s3 (mp (aAddr 0 t1) s3)) fun t22 s4 =>
  oh (gd (wA t21 true) s4 (aLoad false false 1 t22 s4)) fun t23 s5 =>
  oh (gd (wA t21 true) s5 (mp (aLen Tryz.prog 56 t23) s5)) fun t24 s6 =>
  oh (gd (wA t21 true) s6 (mp (aBin Tryz.prog .eql 3 t24 (.int .i64 2)) s6)) fun t25 s7 =>
  oh (mp (aPick t21 t25 (.bool false)) s7) fun t26 s8 =>
  oh (some (t26.strip, s8)) fun t27 s9 =>
  oh (gd (wA t27 true) s9 (some (t3.strip, s9))) fun t28 s10 =>
  oh (gd (wA t27 true) s10 (mp (aBin Tryz.prog .eql 24 t28 (.int .i64 0)) s10)) fun t29 s11 =>
  oh (mp (aPick t27 t29 (.bool false)) s11) fun t30 s12 =>
  oh (some (t30.strip, s12)) fun t31 s13 =>
  oh (gd (wA t31 true) s13 (some (t5.strip, s13))) fun t32 s14 =>
  oh (gd (wA t31 true) s14 (mp (aBin Tryz.prog .eql 24 t32 (.int .i64 0)) s14)) fun t33 s15 =>
  oh (mp (aPick t31 t33 (.bool false)) s15) fun t34 s16 =>
  oh (some (t34.strip, s16)) fun t35 s17 =>
  oh (gd (wA t35 true) s17 (aLoad false true 3 t4 s17)) fun t36 s18 =>
  oh (gd (wA t35 true) s18 (aCall Tryz.prog D 57 [] s18)) fun t37 s19 =>
  oh (gd (wA t35 true) s19 (aCall Tryz.prog D 25 [t36.strip, t37.strip] s19)) fun t38 s20 =>
  oh (mp (aPick t35 t38 (.bool false)) s20) fun t39 s21 =>
  oh (some (t39, s21)) fun t0_2 s22 =>
  drawOK C 20 (regOps Tryz.f20 3) [.silent, .silent, .silent, (kGd (wA t21 true) .silent), (kGd (wA t21 true) (kLoad false t22)), (kGd (wA t21 true) .silent), (kGd (wA t21 true) .silent), .silent, .silent, (kGd (wA t27 true) .silent), (kGd (wA t27 true) .silent), .silent, .silent, (kGd (wA t31 true) .silent), (kGd (wA t31 true) .silent), .silent, .silent, (kGd (wA t35 true) (kLoad false t4)), (kGd (wA t35 true) (dyn (kCall []) s18 s19)), (kGd (wA t35 true) (dyn (kCall [t36.strip, t37.strip]) s19 s20)), .silent, .silent] <|
  some (t0_2, s22)
theorem F20_eq (n : Nat) (s : Heap) : den C (n + 1) 20 [] s = F20 (den C n) n s :=
  (den_body rfl Tryz.func20 _ _).trans (by kernel_rfl)
theorem d20_3 {g0 g1 : Nat} (x : Ans) : drawOK C 20 (regOps Tryz.f20 3) [.silent, .silent, .silent, .silent, .get g0, .silent, .silent, .silent, .silent, .silent, .silent, .silent, .silent, .silent, .silent, .silent, .silent, .get g1, .silent, .silent, .silent, .silent] x = x := drawOK_base (by kernel_rfl)
theorem en20 : enterable Tryz.prog 20 = true := by kernel_rfl
-- glossatorkeep1.GreentreeRoundTrip
noncomputable def F4 (D : Den) (n : Nat) (t0 : AV) (s : Heap) : Ans :=
  oh (some ((.bool false), s)) fun t2 s =>
  oh (aCall Tryz.prog D 20 [] s) fun t13 s =>
  oh (mp (aUn .not t13) s) fun t14 s =>
  br t14
    (oh (some ((.bool false), s)) fun t2_2 s =>
  some (t2_2, s))
    (oh (some (t0.strip, s)) fun t16 s =>
  oh (aCall Tryz.prog D 22 [t16.strip, (.int .i64 80)] s) fun t17 s =>
  oh (aCall Tryz.prog D 21 [t17.strip] s) fun t18 s =>
  oh (some (t18.strip, s)) fun t15 s =>
  oh (mp (aExtract 0 t15) s) fun t19 s =>
  oh (mp (aExtract 1 t15) s) fun t20 s =>
  oh (aAlloc Tryz.prog 52 s) fun t3 s =>
  oh (sto (aStore 3 s t3 t19)) fun _r s =>
  oh (some (t20, s)) fun t4 s =>
  oh (mp (aBuild Tryz.prog 58 []) s) fun t22 s =>
  oh (aLoad false true 3 t3 s) fun t23 s =>
  oh (aCall Tryz.prog D 23 [t22.strip, t23.strip] s) fun t24 s =>
  oh (some (t24.strip, s)) fun t21 s =>
  oh (mp (aExtract 0 t21) s) fun t25 s =>
  oh (mp (aExtract 1 t21) s) fun t26 s =>
  oh (mp (aExtract 2 t21) s) fun t27 s =>
  oh (aAlloc Tryz.prog 58 s) fun t5 s =>
  oh (sto (aStore 1 s t5 t25)) fun _r s =>
  oh (some (t26, s)) fun t6 s =>
  oh (some (t27, s)) fun t7 s =>
  oh (aLoad false true 1 t5 s) fun t29 s =>
  oh (some (t6.strip, s)) fun t30 s =>
  oh (aCall Tryz.prog D 24 [t29.strip, t30.strip] s) fun t31 s =>
  oh (some (t31.strip, s)) fun t28 s =>
  oh (mp (aExtract 0 t28) s) fun t32 s =>
  oh (mp (aExtract 1 t28) s) fun t33 s =>
  oh (aAlloc Tryz.prog 52 s) fun t8 s =>
  oh (sto (aStore 3 s t8 t32)) fun _r s =>
  oh (some (t33, s)) fun t9 s =>
  oh (aLoad false true 1 t5 s) fun t35 s =>
  oh (aLoad false true 3 t3 s) fun t36 s =>
  oh (aCall Tryz.prog D 23 [t35.strip, t36.strip] s) fun t37 s =>
  oh (some (t37.strip, s)) fun t34 s =>
  oh (mp (aExtract 0 t34) s) fun t38 s =>
  oh (mp (aExtract 1 t34) s) fun t39 s =>
  oh (mp (aExtract 2 t34) s) fun t40 s =>
  oh (aAlloc Tryz.prog 58 s) fun t10 s =>
  oh (sto (aStore 1 s t10 t38)) fun _r s =>
  oh (some (t39, s)) fun t11 s =>
  oh (some (t40, s)) fun t12 s =>
  oh (aCall Tryz.prog D 20 [] s) fun t41 s =>
  oh (some (t41.strip, s)) fun t42 s =>
  oh (gd (wA t42 true) s (some (t4.strip, s))) fun t43 s =>
  oh (gd (wA t42 true) s (mp (aBin Tryz.prog .eql 24 t43 (.int .i64 0)) s)) fun t44 s =>
  oh (mp (aPick t42 t44 (.bool false)) s) fun t45 s =>
  oh (some (t45.strip, s)) fun t46 s =>
  oh (gd (wA t46 true) s (some (t7.strip, s))) fun t47 s =>
  oh (gd (wA t46 true) s (mp (aBin Tryz.prog .eql 24 t47 (.int .i64 0)) s)) fun t48 s =>
  oh (mp (aPick t46 t48 (.bool false)) s) fun t49 s =>
  oh (some (t49.strip, s)) fun t50 s =>
  oh (gd (wA t50 true) s (some (t9.strip, s))) fun t51 s =>
  oh (gd (wA t50 true) s (mp (aBin Tryz.prog .eql 24 t51 (.int .i64 0)) s)) fun t52 s =>
  oh (mp (aPick t50 t52 (.bool false)) s) fun t53 s =>
  oh (some (t53.strip, s)) fun t54 s =>
  oh (gd (wA t54 true) s (some (t12.strip, s))) fun t55 s =>
  oh (gd (wA t54 true) s (mp (aBin Tryz.prog .eql 24 t55 (.int .i64 0)) s)) fun t56 s =>
  oh (mp (aPick t54 t56 (.bool false)) s) fun t57 s =>
  oh (some (t57.strip, s)) fun t58 s =>
  oh (gd (wA t58 true) s (aLoad false true 3 t8 s)) fun t59 s =>
  oh (gd (wA t58 true) s (aLoad false true 3 t3 s)) fun t60 s =>
  oh (gd (wA t58 true) s (aCall Tryz.prog D 25 [t59.strip, t60.strip] s)) fun t61 s =>
  oh (mp (aPick t58 t61 (.bool false)) s) fun t62 s =>
  oh (some (t62.strip, s)) fun t63 s =>
  oh (gd (wA t63 true) s (some (t6.strip, s))) fun t64 s =>
  oh (gd (wA t63 true) s (some (t11.strip, s))) fun t65 s =>
  oh (gd (wA t63 true) s (mp (aBin Tryz.prog .eql 3 t64 t65) s)) fun t66 s =>
  oh (mp (aPick t63 t66 (.bool false)) s) fun t67 s =>
  oh (some (t67.strip, s)) fun t68 s =>
  oh (gd (wA t68 true) s (mp (aAddr 0 t10) s)) fun t69 s =>
  oh (gd (wA t68 true) s (aLoad false false 1 t69 s)) fun t70 s =>
  oh (gd (wA t68 true) s (mp (aLen Tryz.prog 56 t70) s)) fun t71 s =>
  oh (gd (wA t68 true) s (mp (aAddr 0 t5) s)) fun t72 s =>
  oh (gd (wA t68 true) s (aLoad false false 1 t72 s)) fun t73 s =>
  oh (gd (wA t68 true) s (mp (aLen Tryz.prog 56 t73) s)) fun t74 s =>
  oh (gd (wA t68 true) s (mp (aBin Tryz.prog .eql 3 t71 t74) s)) fun t75 s =>
  oh (mp (aPick t68 t75 (.bool false)) s) fun t76 s =>
  oh (some (t76.strip, s)) fun t77 s =>
  oh (gd (wA t77 true) s (aLoad false true 1 t5 s)) fun t78 s =>
  oh (gd (wA t77 true) s (aCall Tryz.prog D 26 [t78.strip] s)) fun t79 s =>
  oh (gd (wA t77 true) s (mp (aBin Tryz.prog .eql 24 t79 (.int .i64 0)) s)) fun t80 s =>
  oh (mp (aPick t77 t80 (.bool false)) s) fun t81 s =>
  oh (some (t81, s)) fun t2_3 s =>
  some (t2_3, s))
theorem F4_eq (n : Nat) (t0 : AV) (s : Heap) : den C (n + 1) 4 [t0] s = F4 (den C n) n t0 s :=
  (den_body rfl Tryz.func4 _ _).trans (by kernel_rfl)
theorem en4 : enterable Tryz.prog 4 = true := by kernel_rfl
-- glossatorkeep1.GreentreeIdentity
noncomputable def F5 (D : Den) (n : Nat) (t0 t1 : AV) (s : Heap) : Ans :=
  oh (some ((.bool false), s)) fun t4 s =>
  oh (aCall Tryz.prog D 20 [] s) fun t15 s =>
  oh (mp (aUn .not t15) s) fun t16 s =>
  br t16
    (oh (some ((.bool false), s)) fun t4_2 s =>
  some (t4_2, s))
    (oh (some (t0.strip, s)) fun t18 s =>
  oh (aCall Tryz.prog D 22 [t18.strip, (.int .i64 80)] s) fun t19 s =>
  oh (aCall Tryz.prog D 21 [t19.strip] s) fun t20 s =>
  oh (some (t20.strip, s)) fun t17 s =>
  oh (mp (aExtract 0 t17) s) fun t21 s =>
  oh (mp (aExtract 1 t17) s) fun t22 s =>
  oh (aAlloc Tryz.prog 52 s) fun t5 s =>
  oh (sto (aStore 3 s t5 t21)) fun _r s =>
  oh (some (t22, s)) fun t6 s =>
  oh (some (t1.strip, s)) fun t24 s =>
  oh (aCall Tryz.prog D 22 [t24.strip, (.int .i64 80)] s) fun t25 s =>
  oh (aCall Tryz.prog D 21 [t25.strip] s) fun t26 s =>
  oh (some (t26.strip, s)) fun t23 s =>
  oh (mp (aExtract 0 t23) s) fun t27 s =>
  oh (mp (aExtract 1 t23) s) fun t28 s =>
  oh (aAlloc Tryz.prog 52 s) fun t7 s =>
  oh (sto (aStore 3 s t7 t27)) fun _r s =>
  oh (some (t28, s)) fun t8 s =>
  oh (mp (aBuild Tryz.prog 58 []) s) fun t30 s =>
  oh (aLoad false true 3 t5 s) fun t31 s =>
  oh (aCall Tryz.prog D 23 [t30.strip, t31.strip] s) fun t32 s =>
  oh (some (t32.strip, s)) fun t29 s =>
  oh (mp (aExtract 0 t29) s) fun t33 s =>
  oh (mp (aExtract 1 t29) s) fun t34 s =>
  oh (mp (aExtract 2 t29) s) fun t35 s =>
  oh (aAlloc Tryz.prog 58 s) fun t9 s =>
  oh (sto (aStore 1 s t9 t33)) fun _r s =>
  oh (some (t34, s)) fun t10 s =>
  oh (some (t35, s)) fun t11 s =>
  oh (aLoad false true 1 t9 s) fun t37 s =>
  oh (aLoad false true 3 t7 s) fun t38 s =>
  oh (aCall Tryz.prog D 23 [t37.strip, t38.strip] s) fun t39 s =>
  oh (some (t39.strip, s)) fun t36 s =>
  oh (mp (aExtract 0 t36) s) fun t40 s =>
  oh (mp (aExtract 1 t36) s) fun t41 s =>
  oh (mp (aExtract 2 t36) s) fun t42 s =>
  oh (aAlloc Tryz.prog 58 s) fun t12 s =>
  oh (sto (aStore 1 s t12 t40)) fun _r s =>
  oh (some (t41, s)) fun t13 s =>
  oh (some (t42, s)) fun t14 s =>
  oh (aCall Tryz.prog D 20 [] s) fun t43 s =>
  oh (some (t43.strip, s)) fun t44 s =>
  oh (gd (wA t44 true) s (some (t6.strip, s))) fun t45 s =>
  oh (gd (wA t44 true) s (mp (aBin Tryz.prog .eql 24 t45 (.int .i64 0)) s)) fun t46 s =>
  oh (mp (aPick t44 t46 (.bool false)) s) fun t47 s =>
  oh (some (t47.strip, s)) fun t48 s =>
  oh (gd (wA t48 true) s (some (t8.strip, s))) fun t49 s =>
  oh (gd (wA t48 true) s (mp (aBin Tryz.prog .eql 24 t49 (.int .i64 0)) s)) fun t50 s =>
  oh (mp (aPick t48 t50 (.bool false)) s) fun t51 s =>
  oh (some (t51.strip, s)) fun t52 s =>
  oh (gd (wA t52 true) s (some (t11.strip, s))) fun t53 s =>
  oh (gd (wA t52 true) s (mp (aBin Tryz.prog .eql 24 t53 (.int .i64 0)) s)) fun t54 s =>
  oh (mp (aPick t52 t54 (.bool false)) s) fun t55 s =>
  oh (some (t55.strip, s)) fun t56 s =>
  oh (gd (wA t56 true) s (some (t14.strip, s))) fun t57 s =>
  oh (gd (wA t56 true) s (mp (aBin Tryz.prog .eql 24 t57 (.int .i64 0)) s)) fun t58 s =>
  oh (mp (aPick t56 t58 (.bool false)) s) fun t59 s =>
  oh (some (t59.strip, s)) fun t60 s =>
  oh (gd (wA t60 true) s (some (t10.strip, s))) fun t61 s =>
  oh (gd (wA t60 true) s (some (t13.strip, s))) fun t62 s =>
  oh (gd (wA t60 true) s (mp (aBin Tryz.prog .eql 3 t61 t62) s)) fun t63 s =>
  oh (gd (wA t60 true) s (aLoad false true 3 t5 s)) fun t64 s =>
  oh (gd (wA t60 true) s (aLoad false true 3 t7 s)) fun t65 s =>
  oh (gd (wA t60 true) s (aCall Tryz.prog D 25 [t64.strip, t65.strip] s)) fun t66 s =>
  oh (gd (wA t60 true) s (mp (aBin Tryz.prog .eql 4 t63 t66) s)) fun t67 s =>
  oh (mp (aPick t60 t67 (.bool false)) s) fun t68 s =>
  oh (some (t68, s)) fun t4_3 s =>
  some (t4_3, s))
theorem F5_eq (n : Nat) (t0 t1 : AV) (s : Heap) : den C (n + 1) 5 [t0, t1] s = F5 (den C n) n t0 t1 s :=
  (den_body rfl Tryz.func5 _ _).trans (by kernel_rfl)
theorem en5 : enterable Tryz.prog 5 = true := by kernel_rfl
-- glossatorref1.Mod
noncomputable def F27_J0 (D : Den) (n : Nat) (e : Env) (s : Heap) : Ans :=
  oh (some ((e 5).strip, s)) fun t14 s =>
  oh (some (t14, s)) fun t4_2 s =>
  some (t4_2, s)
noncomputable def F27 (D : Den) (n : Nat) (t0 t1 : AV) (s : Heap) : Ans :=
  oh (some ((.int .i64 0), s)) fun t4 s =>
  oh (some (t0.strip, s)) fun t6 s =>
  oh (some (t1.strip, s)) fun t7 s =>
  oh (mp (aBin Tryz.prog .rem 3 t6 t7) s) fun t8 s =>
  oh (some (t8, s)) fun t5 s =>
  oh (some (t5.strip, s)) fun t9 s =>
  oh (mp (aBin Tryz.prog .lss 3 t9 (.int .i64 0)) s) fun t10 s =>
  br t10
    (oh (some (t5.strip, s)) fun t11 s =>
  oh (some (t1.strip, s)) fun t12 s =>
  oh (mp (aBin Tryz.prog .add 3 t11 t12) s) fun t13 s =>
  oh (some (t13, s)) fun t5_2 s =>
  F27_J0 D n (upds (argEnv [t0, t1]) [(4, t4), (6, t6), (7, t7), (8, t8), (8, t8.strip), (5, t5), (9, t9), (10, t10), (11, t11), (12, t12), (13, t13), (13, t13.strip), (5, t5_2)]) s)
    (F27_J0 D n (upds (argEnv [t0, t1]) [(4, t4), (6, t6), (7, t7), (8, t8), (8, t8.strip), (5, t5), (9, t9), (10, t10)]) s)
theorem F27_eq (n : Nat) (t0 t1 : AV) (s : Heap) : den C (n + 1) 27 [t0, t1] s = F27 (den C n) n t0 t1 s :=
  (den_body rfl Tryz.func27 _ _).trans (by kernel_rfl)
theorem en27 : enterable Tryz.prog 27 = true := by kernel_rfl
-- glossatorref1.Splice
noncomputable def F28 (D : Den) (n : Nat) (t0 t1 : AV) (s : Heap) : Ans :=
  oh (aBox false 67 t1 s) fun t3 s =>
  oh (some ((.str []), s)) fun t4 s =>
  oh (some (t0.strip, s)) fun t5 s =>
  oh (mp (aAddr 0 t3) s) fun t6 s =>
  oh (aLoad false false 1 t6 s) fun t7 s =>
  oh (mp (aSl Tryz.prog 9 t5 none (some t7) none) s) fun t8 s =>
  oh (mp (aAddr 2 t3) s) fun t9 s =>
  oh (aLoad false false 1 t9 s) fun t10 s =>
  oh (mp (aBin Tryz.prog .add 9 t8 t10) s) fun t11 s =>
  oh (some (t0.strip, s)) fun t12 s =>
  oh (mp (aAddr 1 t3) s) fun t13 s =>
  oh (aLoad false false 1 t13 s) fun t14 s =>
  oh (mp (aSl Tryz.prog 9 t12 (some t14) none none) s) fun t15 s =>
  oh (mp (aBin Tryz.prog .add 9 t11 t15) s) fun t16 s =>
  oh (some (t16, s)) fun t4_2 s =>
  drawOK C 28 (regOps Tryz.f28 1) [.silent, .silent, (kLoad false t6), .silent, .silent, (kLoad false t9), .silent, .silent, .silent, (kLoad false t13), .silent, .silent, .silent] <|
  some (t4_2, s)
theorem F28_eq (n : Nat) (t0 t1 : AV) (s : Heap) : den C (n + 1) 28 [t0, t1] s = F28 (den C n) n t0 t1 s :=
  (den_body rfl Tryz.func28 _ _).trans (by kernel_rfl)
theorem d28_1 (x : Ans) : drawOK C 28 (regOps Tryz.f28 1) [.silent, .silent, .silent, .silent, .silent, .silent, .silent, .silent, .silent, .silent, .silent, .silent, .silent] x = x := drawOK_ok (by kernel_rfl)
theorem en28 : enterable Tryz.prog 28 = true := by kernel_rfl
-- glossatorkeep1.GreentreeShares
noncomputable def F6_J2 (D : Den) (n : Nat) (k0 : Env → Heap → Ans) (k1 : Env → Heap → Ans) (e : Env) (s : Heap) : Ans :=
  oh (mp (aBin Tryz.prog .add 3 (e 100) (.int .i64 1)) s) fun t123 s =>
  oh (some (t123.strip, s)) fun t100_2 s =>
  k1 (upds e [(123, t123), (100, t100_2)]) s
noncomputable def F6_L1 (D : Den) (n : Nat) (k0 : Env → Heap → Ans) (k1 : Env → Heap → Ans) (e : Env) (s : Heap) : Ans :=
  oh (mp (aBin Tryz.prog .lss 3 (e 100) (e 99)) s) fun t101 s =>
  br t101
    (oh (mp (aIndexAddr Tryz.prog 50 (e 98) (e 100)) s) fun t102 s =>
  oh (aLoad false true 3 t102 s) fun t103 s =>
  oh (aAlloc Tryz.prog 52 s) fun t18 s =>
  oh (sto (aStore 3 s t18 t103)) fun _r s =>
  oh (aLoad false true 3 (e 16) s) fun t104 s =>
  oh (aLoad false true 3 t18 s) fun t105 s =>
  oh (aCall Tryz.prog D 25 [t104.strip, t105.strip] s) fun t106 s =>
  br t106
    (oh (aLoad false true 1 (e 12) s) fun t108 s =>
  oh (aLoad false true 3 (e 16) s) fun t109 s =>
  oh (aCall Tryz.prog D 23 [t108.strip, t109.strip] s) fun t110 s =>
  oh (some (t110.strip, s)) fun t107 s =>
  oh (mp (aExtract 0 t107) s) fun t111 s =>
  oh (mp (aExtract 1 t107) s) fun t112 s =>
  oh (mp (aExtract 2 t107) s) fun t113 s =>
  oh (aAlloc Tryz.prog 58 s) fun t19 s =>
  oh (sto (aStore 1 s t19 t111)) fun _r s =>
  oh (some (t112, s)) fun t20 s =>
  oh (some (t113, s)) fun t21 s =>
  oh (some (t21.strip, s)) fun t114 s =>
  oh (mp (aBin Tryz.prog .neq 24 t114 (.int .i64 0)) s) fun t115 s =>
  oh (some (t115.strip, s)) fun t116 s =>
  oh (gd (wA t116 false) s (some (t20.strip, s))) fun t117 s =>
  oh (gd (wA t116 false) s (mp (aAddr 0 (e 9)) s)) fun t118 s =>
  oh (gd (wA t116 false) s (aLoad false false 1 t118 s)) fun t119 s =>
  oh (gd (wA t116 false) s (mp (aLen Tryz.prog 56 t119) s)) fun t120 s =>
  oh (gd (wA t116 false) s (mp (aBin Tryz.prog .geq 3 t117 t120) s)) fun t121 s =>
  oh (mp (aPick t116 (.bool true) t121) s) fun t122 s =>
  br t122
    (oh (some ((.bool false), s)) fun t4_4 s =>
  some (t4_4, s))
    (F6_J2 D n k0 k1 (upds e [(101, t101), (102, t102), (103, t103), (18, t18), (103, t103.strip), (104, t104), (105, t105), (106, t106), (108, t108), (109, t109), (110, t110), (107, t107), (111, t111), (112, t112), (113, t113), (19, t19), (111, t111.strip), (112, t112.strip), (20, t20), (113, t113.strip), (21, t21), (114, t114), (115, t115), (116, t116), (117, t117), (118, t118), (119, t119), (120, t120), (121, t121), (122, t122)]) s))
    (F6_J2 D n k0 k1 (upds e [(101, t101), (102, t102), (103, t103), (18, t18), (103, t103.strip), (104, t104), (105, t105), (106, t106)]) s))
    (oh (mp (aBin Tryz.prog .add 3 (e 93) (.int .i64 1)) s) fun t124 s =>
  oh (some (t124.strip, s)) fun t93_2 s =>
  k0 (upds e [(101, t101), (124, t124), (93, t93_2)]) s)
noncomputable def F6_L0 (D : Den) (n : Nat) (k0 : Env → Heap → Ans) (e : Env) (s : Heap) : Ans :=
  oh (mp (aBin Tryz.prog .lss 3 (e 93) (e 92)) s) fun t94 s =>
  br t94
    (oh (mp (aIndexAddr Tryz.prog 50 (e 91) (e 93)) s) fun t95 s =>
  oh (aLoad false true 3 t95 s) fun t96 s =>
  oh (aAlloc Tryz.prog 52 s) fun t16 s =>
  oh (sto (aStore 3 s t16 t96)) fun _r s =>
  oh (mp (aAddr 2 (e 5)) s) fun t97 s =>
  oh (aLoad false false 1 t97 s) fun t98 s =>
  oh (mp (aLen Tryz.prog 50 t98) s) fun t99 s =>
  oh (some ((.int .i64 0), s)) fun t100 s =>
  aLoop (F6_L1 D n k0) n (upds e [(94, t94), (95, t95), (96, t96), (16, t16), (96, t96.strip), (97, t97), (98, t98), (99, t99), (100, t100)]) s)
    (oh (aLoad false true 1 (e 12) s) fun t126 s =>
  oh (some ((e 10).strip, s)) fun t127 s =>
  oh (aCall Tryz.prog D 24 [t126.strip, t127.strip] s) fun t128 s =>
  oh (some (t128.strip, s)) fun t125 s =>
  oh (mp (aExtract 0 t125) s) fun t129 s =>
  oh (mp (aExtract 1 t125) s) fun t130 s =>
  oh (aAlloc Tryz.prog 52 s) fun t22 s =>
  oh (sto (aStore 3 s t22 t129)) fun _r s =>
  oh (some (t130, s)) fun t23 s =>
  oh (aLoad false true 1 (e 12) s) fun t132 s =>
  oh (some ((e 13).strip, s)) fun t133 s =>
  oh (aCall Tryz.prog D 24 [t132.strip, t133.strip] s) fun t134 s =>
  oh (some (t134.strip, s)) fun t131 s =>
  oh (mp (aExtract 0 t131) s) fun t135 s =>
  oh (mp (aExtract 1 t131) s) fun t136 s =>
  oh (aAlloc Tryz.prog 52 s) fun t24 s =>
  oh (sto (aStore 3 s t24 t135)) fun _r s =>
  oh (some (t136, s)) fun t25 s =>
  oh (some (t23.strip, s)) fun t137 s =>
  oh (mp (aBin Tryz.prog .eql 24 t137 (.int .i64 0)) s) fun t138 s =>
  oh (some (t138.strip, s)) fun t139 s =>
  oh (gd (wA t139 true) s (some (t25.strip, s))) fun t140 s =>
  oh (gd (wA t139 true) s (mp (aBin Tryz.prog .eql 24 t140 (.int .i64 0)) s)) fun t141 s =>
  oh (mp (aPick t139 t141 (.bool false)) s) fun t142 s =>
  oh (some (t142.strip, s)) fun t143 s =>
  oh (gd (wA t143 true) s (aLoad false true 3 t22 s)) fun t144 s =>
  oh (gd (wA t143 true) s (aLoad false true 3 (e 5) s)) fun t145 s =>
  oh (gd (wA t143 true) s (aCall Tryz.prog D 25 [t144.strip, t145.strip] s)) fun t146 s =>
  oh (mp (aPick t143 t146 (.bool false)) s) fun t147 s =>
  oh (some (t147.strip, s)) fun t148 s =>
  oh (gd (wA t148 true) s (aLoad false true 3 t24 s)) fun t149 s =>
  oh (gd (wA t148 true) s (aLoad false true 3 (e 7) s)) fun t150 s =>
  oh (gd (wA t148 true) s (aCall Tryz.prog D 25 [t149.strip, t150.strip] s)) fun t151 s =>
  oh (mp (aPick t148 t151 (.bool false)) s) fun t152 s =>
  oh (some (t152, s)) fun t4_5 s =>
  some (t4_5, s))
noncomputable def F6 (D : Den) (n : Nat) (t0 t1 : AV) (s : Heap) : Ans :=
  oh (aBox true 67 t1 s) fun t3 s =>
  oh (some ((.bool false), s)) fun t4 s =>
  oh (aCall Tryz.prog D 20 [] s) fun t26 s =>
  oh (mp (aUn .not t26) s) fun t27 s =>
  br t27
    (oh (some ((.bool false), s)) fun t4_2 s =>
  some (t4_2, s))
    (oh (some (t0.strip, s)) fun t28 s =>
  oh (aCall Tryz.prog D 22 [t28.strip, (.int .i64 60)] s) fun t29 s =>
  oh (some (t29, s)) fun t0_2 s =>
  oh (mp (aAddr 0 t3) s) fun t30 s =>
  oh (aLoad false false 1 t30 s) fun t31 s =>
  oh (some (t0_2.strip, s)) fun t32 s =>
  oh (mp (aLen Tryz.prog 9 t32) s) fun t33 s =>
  oh (mp (aBin Tryz.prog .add 3 t33 (.int .i64 1)) s) fun t34 s =>
  oh (aCall Tryz.prog D 27 [t31.strip, t34.strip] s) fun t35 s =>
  oh (mp (aAddr 0 t3) s) fun t36 s =>
  oh (sto (aStore 1 s t36 t35)) fun _r s =>
  oh (mp (aAddr 0 t3) s) fun t37 s1 =>
  oh (aLoad false false 1 t37 s1) fun t38 s2 =>
  oh (mp (aAddr 1 t3) s2) fun t39 s3 =>
  oh (aLoad false false 1 t39 s3) fun t40 s4 =>
  oh (some (t0_2.strip, s4)) fun t41 s5 =>
  oh (mp (aLen Tryz.prog 9 t41) s5) fun t42 s6 =>
  oh (mp (aAddr 0 t3) s6) fun t43 s7 =>
  oh (aLoad false false 1 t43 s7) fun t44 s8 =>
  oh (mp (aBin Tryz.prog .sub 3 t42 t44) s8) fun t45 s9 =>
  oh (mp (aBin Tryz.prog .add 3 t45 (.int .i64 1)) s9) fun t46 s10 =>
  oh (aCall Tryz.prog D 27 [t40.strip, t46.strip] s10) fun t47 s11 =>
  oh (mp (aBin Tryz.prog .add 3 t38 t47) s11) fun t48 s12 =>
  oh (mp (aAddr 1 t3) s12) fun t49 s13 =>
  oh (sto (aStore 1 s13 t49 t48)) fun _r s14 =>
  drawOK C 6 (regOps Tryz.f6 5) [.silent, (kLoad false t37), .silent, (kLoad false t39), .silent, .silent, .silent, (kLoad false t43), .silent, .silent, (dyn (kCall [t40.strip, t46.strip]) s10 s11), .silent, .silent, (kStore t49)] <|
  oh (mp (aAddr 2 t3) s14) fun t50 s =>
  oh (aLoad false false 1 t50 s) fun t51 s =>
  oh (aCall Tryz.prog D 22 [t51.strip, (.int .i64 20)] s) fun t52 s =>
  oh (mp (aAddr 2 t3) s) fun t53 s =>
  oh (sto (aStore 1 s t53 t52)) fun _r s =>
  oh (some (t0_2.strip, s)) fun t55 s =>
  oh (aCall Tryz.prog D 21 [t55.strip] s) fun t56 s =>
  oh (some (t56.strip, s)) fun t54 s =>
  oh (mp (aExtract 0 t54) s) fun t57 s =>
  oh (mp (aExtract 1 t54) s) fun t58 s =>
  oh (aAlloc Tryz.prog 52 s) fun t5 s =>
  oh (sto (aStore 3 s t5 t57)) fun _r s =>
  oh (some (t58, s)) fun t6 s =>
  oh (some (t0_2.strip, s)) fun t60 s =>
  oh (aLoad false true 3 t3 s) fun t61 s =>
  oh (aCall Tryz.prog D 28 [t60.strip, t61.strip] s) fun t62 s =>
  oh (aCall Tryz.prog D 21 [t62.strip] s) fun t63 s =>
  oh (some (t63.strip, s)) fun t59 s =>
  oh (mp (aExtract 0 t59) s) fun t64 s =>
  oh (mp (aExtract 1 t59) s) fun t65 s =>
  oh (aAlloc Tryz.prog 52 s) fun t7 s =>
  oh (sto (aStore 3 s t7 t64)) fun _r s =>
  oh (some (t65, s)) fun t8 s =>
  oh (mp (aBuild Tryz.prog 58 []) s) fun t67 s =>
  oh (aLoad false true 3 t5 s) fun t68 s =>
  oh (aCall Tryz.prog D 23 [t67.strip, t68.strip] s) fun t69 s =>
  oh (some (t69.strip, s)) fun t66 s =>
  oh (mp (aExtract 0 t66) s) fun t70 s =>
  oh (mp (aExtract 1 t66) s) fun t71 s =>
  oh (mp (aExtract 2 t66) s) fun t72 s =>
  oh (aAlloc Tryz.prog 58 s) fun t9 s =>
  oh (sto (aStore 1 s t9 t70)) fun _r s =>
  oh (some (t71, s)) fun t10 s =>
  oh (some (t72, s)) fun t11 s =>
  oh (aLoad false true 1 t9 s) fun t74 s =>
  oh (aLoad false true 3 t7 s) fun t75 s =>
  oh (aCall Tryz.prog D 23 [t74.strip, t75.strip] s) fun t76 s =>
  oh (some (t76.strip, s)) fun t73 s =>
  oh (mp (aExtract 0 t73) s) fun t77 s =>
  oh (mp (aExtract 1 t73) s) fun t78 s =>
  oh (mp (aExtract 2 t73) s) fun t79 s =>
  oh (aAlloc Tryz.prog 58 s) fun t12 s =>
  oh (sto (aStore 1 s t12 t77)) fun _r s =>
  oh (some (t78, s)) fun t13 s =>
  oh (some (t79, s)) fun t14 s =>
  oh (aCall Tryz.prog D 20 [] s) fun t80 s =>
  oh (mp (aUn .not t80) s) fun t81 s =>
  oh (some (t81.strip, s)) fun t82 s =>
  oh (gd (wA t82 false) s (some (t11.strip, s))) fun t83 s =>
  oh (gd (wA t82 false) s (mp (aBin Tryz.prog .neq 24 t83 (.int .i64 0)) s)) fun t84 s =>
  oh (mp (aPick t82 (.bool true) t84) s) fun t85 s =>
  oh (some (t85.strip, s)) fun t86 s =>
  oh (gd (wA t86 false) s (some (t14.strip, s))) fun t87 s =>
  oh (gd (wA t86 false) s (mp (aBin Tryz.prog .neq 24 t87 (.int .i64 0)) s)) fun t88 s =>
  oh (mp (aPick t86 (.bool true) t88) s) fun t89 s =>
  br t89
    (oh (some ((.bool false), s)) fun t4_3 s =>
  some (t4_3, s))
    (oh (mp (aAddr 2 t7) s) fun t90 s =>
  oh (aLoad false false 1 t90 s) fun t91 s =>
  oh (mp (aLen Tryz.prog 50 t91) s) fun t92 s =>
  oh (some ((.int .i64 0), s)) fun t93 s =>
  aLoop (F6_L0 D n) n (upds (argEnv [t0, t1]) [(3, t3), (4, t4), (26, t26), (27, t27), (28, t28), (29, t29), (29, t29.strip), (0, t0_2), (30, t30), (31, t31), (32, t32), (33, t33), (34, t34), (35, t35), (36, t36), (35, t35.strip), (37, t37), (38, t38), (39, t39), (40, t40), (41, t41), (42, t42), (43, t43), (44, t44), (45, t45), (46, t46), (47, t47), (48, t48), (49, t49), (48, t48.strip), (50, t50), (51, t51), (52, t52), (53, t53), (52, t52.strip), (55, t55), (56, t56), (54, t54), (57, t57), (58, t58), (5, t5), (57, t57.strip), (58, t58.strip), (6, t6), (60, t60), (61, t61), (62, t62), (63, t63), (59, t59), (64, t64), (65, t65), (7, t7), (64, t64.strip), (65, t65.strip), (8, t8), (67, t67), (68, t68), (69, t69), (66, t66), (70, t70), (71, t71), (72, t72), (9, t9), (70, t70.strip), (71, t71.strip), (10, t10), (72, t72.strip), (11, t11), (74, t74), (75, t75), (76, t76), (73, t73), (77, t77), (78, t78), (79, t79), (12, t12), (77, t77.strip), (78, t78.strip), (13, t13), (79, t79.strip), (14, t14), (80, t80), (81, t81), (82, t82), (83, t83), (84, t84), (85, t85), (86, t86), (87, t87), (88, t88), (89, t89), (90, t90), (91, t91), (92, t92), (93, t93)]) s))
theorem F6_eq (n : Nat) (t0 t1 : AV) (s : Heap) : den C (n + 1) 6 [t0, t1] s = F6 (den C n) n t0 t1 s :=
  (den_body rfl Tryz.func6 _ _).trans (by kernel_rfl)
theorem d6_5 {g0 g1 g2 : Nat} (a : Nat) (x : Ans) : drawOK C 6 (regOps Tryz.f6 5) [.silent, .get g0, .silent, .get g1, .silent, .silent, .silent, .get g2, .silent, .silent, .silent, .silent, .silent, .put a] x = x := drawOK_both (a := a) (b := a + 1) (ks0 := [.silent, .reader, .silent, .reader, .silent, .silent, .silent, .reader, .silent, .silent, .silent, .silent, .silent, .put 0]) (by omega) (by kernel_rfl) rfl
theorem en6 : enterable Tryz.prog 6 = true := by kernel_rfl
end GrnF
end

section
namespace GrnF
open Go Go.Abs Go.Proofs ParF
theorem ex20_den : (den C 40 20 [] []).map (·.1) = some (.bool true) := by kernel_rfl
theorem ex20 : AC C 20 [] (.bool true) := by
  have h := ex20_den
  rw [Option.map_eq_some_iff] at h
  obtain ⟨⟨v, s⟩, h1, h2⟩ := h
  cases h2
  exact AC.one en20 rfl rfl h1
end GrnF
end

section
namespace Gt
open Pm
structure N where
  kind : Nat
  width : Nat
  text : Bytes
  cs : List Nat
  deriving DecidableEq, Inhabited
abbrev Ar := List N
def wOf (A : Ar) (js : List Nat) : Nat := (js.map fun j => (A.getD j default).width).sum
mutual
def ins (A : Ar) : Tree → Ar × Nat
  | .mk k x cs =>
    let r := insL A cs
    let n : N := ⟨k, x.length + wOf r.1 r.2, x, r.2⟩
    match r.1.findIdx? (· == n) with
    | some i => (r.1, i)
    | none => (r.1 ++ [n], r.1.length)
def insL (A : Ar) : List Tree → Ar × List Nat
  | [] => (A, [])
  | t :: ts =>
    let r := ins A t
    let q := insL r.1 ts
    (q.1, r.2 :: q.2)
end
mutual
def rd (A : Ar) : Tree → Nat → Prop
  | .mk k x cs, i => ∃ n, A[i]? = some n ∧ n.kind = k ∧ n.text = x ∧ rdL A cs n.cs
def rdL (A : Ar) : List Tree → List Nat → Prop
  | [], js => js = []
  | t :: ts, js => ∃ j r, js = j :: r ∧ rd A t j ∧ rdL A ts r
end
theorem ins_mk (A : Ar) (k : Nat) (x : Bytes) (cs : List Tree) : ins A (.mk k x cs) = match (insL A cs).1.findIdx? (· == (⟨k, x.length + wOf (insL A cs).1 (insL A cs).2, x, (insL A cs).2⟩ : N)) with
    | some i => ((insL A cs).1, i)
    | none => ((insL A cs).1 ++ [⟨k, x.length + wOf (insL A cs).1 (insL A cs).2, x, (insL A cs).2⟩], (insL A cs).1.length) := by rw [ins]
theorem insL_nil (A : Ar) : insL A [] = (A, []) := by rw [insL]
theorem insL_cons (A : Ar) (t : Tree) (ts : List Tree) : insL A (t :: ts) = ((insL (ins A t).1 ts).1, (ins A t).2 :: (insL (ins A t).1 ts).2) := by rw [insL]
theorem rd_mk (A : Ar) (k : Nat) (x : Bytes) (cs : List Tree) (i : Nat) : rd A (.mk k x cs) i ↔ ∃ n, A[i]? = some n ∧ n.kind = k ∧ n.text = x ∧ rdL A cs n.cs := by rw [rd]
theorem rdL_nil (A : Ar) (js : List Nat) : rdL A [] js ↔ js = [] := by rw [rdL]
theorem rdL_cons (A : Ar) (t : Tree) (ts : List Tree) (js : List Nat) : rdL A (t :: ts) js ↔ ∃ j r, js = j :: r ∧ rd A t j ∧ rdL A ts r := by rw [rdL]
def okN (A : Ar) (i : Nat) (n : N) : Prop :=
  (∀ c ∈ n.cs, c < i) ∧ n.width = n.text.length + wOf A n.cs ∧ (if 100 ≤ n.kind then n.cs = [] else n.text = []) ∧ ∀ j, j < i → A[j]? ≠ some n
def Val (A : Ar) : Prop := ∀ i n, A[i]? = some n → okN A i n
theorem val_nil : Val [] := fun i n h => by simp at h
theorem wOf_nil (A : Ar) : wOf A [] = 0 := rfl
theorem wOf_cons (A : Ar) (j : Nat) (js : List Nat) : wOf A (j :: js) = (A.getD j default).width + wOf A js := by simp [wOf]
theorem wOf_app (A B : Ar) : ∀ (js : List Nat), (∀ c ∈ js, c < A.length) → wOf (A ++ B) js = wOf A js
  | [], _ => rfl
  | j :: js, h => by
    rw [wOf_cons, wOf_cons, wOf_app A B js fun c hc => h c (List.mem_cons_of_mem _ hc)]
    congr 2
    rw [List.getD_eq_getElem?_getD, List.getD_eq_getElem?_getD, List.getElem?_append_left (h j (List.mem_cons_self ..))]
mutual
theorem rd_app (A B : Ar) : ∀ (t : Tree) (i : Nat), rd A t i → rd (A ++ B) t i
  | .mk k x cs, i, h => by
    rw [rd_mk] at h ⊢
    obtain ⟨n, h1, h2, h3, h4⟩ := h
    refine ⟨n, ?_, h2, h3, rdL_app A B cs n.cs h4⟩
    rw [List.getElem?_append_left (List.getElem?_eq_some_iff.1 h1).1]; exact h1
theorem rdL_app (A B : Ar) : ∀ (ts : List Tree) (js : List Nat), rdL A ts js → rdL (A ++ B) ts js
  | [], js, h => by rw [rdL_nil] at h ⊢; exact h
  | t :: ts, js, h => by
    rw [rdL_cons] at h ⊢
    obtain ⟨j, r, h1, h2, h3⟩ := h
    exact ⟨j, r, h1, rd_app A B t j h2, rdL_app A B ts r h3⟩
end
theorem rd_lt {A : Ar} {t : Tree} {i : Nat} (h : rd A t i) : i < A.length := by
  cases t with
  | mk k x cs => rw [rd_mk] at h; obtain ⟨n, h1, _⟩ := h; exact (List.getElem?_eq_some_iff.1 h1).1
theorem rdL_lt {A : Ar} : ∀ {ts : List Tree} {js : List Nat}, rdL A ts js → ∀ c ∈ js, c < A.length
  | [], js, h => by rw [rdL_nil] at h; subst h; nofun
  | t :: ts, js, h => by
    rw [rdL_cons] at h
    obtain ⟨j, r, rfl, h2, h3⟩ := h
    intro c hc
    rcases List.mem_cons.1 hc with rfl | hc
    · exact rd_lt h2
    · exact rdL_lt h3 c hc
mutual
theorem rd_fun {A : Ar} : ∀ {t u : Tree} {i : Nat}, rd A t i → rd A u i → t = u
  | .mk k x cs, .mk l y ds, i, h, h' => by
    rw [rd_mk] at h h'
    obtain ⟨n, h1, rfl, rfl, h4⟩ := h
    obtain ⟨m, k1, rfl, rfl, k4⟩ := h'
    rw [h1] at k1; cases k1
    rw [rdL_fun h4 k4]
theorem rdL_fun {A : Ar} : ∀ {ts us : List Tree} {js : List Nat}, rdL A ts js → rdL A us js → ts = us
  | [], [], js, h, h' => rfl
  | [], u :: us, js, h, h' => by
    rw [rdL_nil] at h; rw [rdL_cons] at h'
    obtain ⟨j, r, e, _⟩ := h'; rw [h] at e; cases e
  | t :: ts, [], js, h, h' => by
    rw [rdL_nil] at h'; rw [rdL_cons] at h
    obtain ⟨j, r, e, _⟩ := h; rw [h'] at e; cases e
  | t :: ts, u :: us, js, h, h' => by
    rw [rdL_cons] at h h'
    obtain ⟨j, r, rfl, h2, h3⟩ := h
    obtain ⟨j', r', e, k2, k3⟩ := h'
    cases e
    rw [rd_fun h2 k2, rdL_fun h3 k3]
end
mutual
theorem rd_inj {A : Ar} (hA : Val A) : ∀ {t : Tree} {i j : Nat}, rd A t i → rd A t j → i = j
  | .mk k x cs, i, j, h, h' => by
    rw [rd_mk] at h h'
    obtain ⟨n, h1, rfl, rfl, h4⟩ := h
    obtain ⟨m, k1, k2, k3, k4⟩ := h'
    have e := rdL_inj hA h4 k4
    obtain ⟨a1, a2, a3, a4⟩ := hA i n h1
    obtain ⟨b1, b2, b3, b4⟩ := hA j m k1
    have hnm : n = m := by
      cases n; cases m
      simp only at *
      subst k2; subst k3; subst e
      rw [a2, b2]
    subst hnm
    rcases Nat.lt_trichotomy i j with h | h | h
    · exact absurd h1 (b4 i h)
    · exact h
    · exact absurd k1 (a4 j h)
theorem rdL_inj {A : Ar} (hA : Val A) : ∀ {ts : List Tree} {is js : List Nat}, rdL A ts is → rdL A ts js → is = js
  | [], is, js, h, h' => by rw [rdL_nil] at h h'; rw [h, h']
  | t :: ts, is, js, h, h' => by
    rw [rdL_cons] at h h'
    obtain ⟨i, r, rfl, h2, h3⟩ := h
    obtain ⟨j, r', rfl, k2, k3⟩ := h'
    rw [rd_inj hA h2 k2, rdL_inj hA h3 k3]
end
theorem find_none {A : Ar} {n : N} (h : A.findIdx? (· == n) = none) : n ∉ A := by
  rw [List.findIdx?_eq_none_iff] at h
  intro hm
  have := h n hm
  simp at this
theorem find_some {A : Ar} {n : N} {i : Nat} (h : A.findIdx? (· == n) = some i) : A[i]? = some n := by
  rw [List.findIdx?_eq_some_iff_getElem] at h
  obtain ⟨h1, h2, _⟩ := h
  rw [List.getElem?_eq_getElem h1]
  simpa using h2
theorem val_snoc {A : Ar} (hA : Val A) {n : N} (h1 : ∀ c ∈ n.cs, c < A.length) (h2 : n.width = n.text.length + wOf A n.cs) (h3 : if 100 ≤ n.kind then n.cs = [] else n.text = []) (h4 : n ∉ A) : Val (A ++ [n]) := by
  intro i m hm
  by_cases hi : i < A.length
  · rw [List.getElem?_append_left hi] at hm
    obtain ⟨a1, a2, a3, a4⟩ := hA i m hm
    refine ⟨a1, ?_, a3, fun j hj => ?_⟩
    · rw [wOf_app A [n] m.cs fun c hc => Nat.lt_trans (a1 c hc) hi]; exact a2
    · rw [List.getElem?_append_left (by omega)]; exact a4 j hj
  · rw [List.getElem?_append_right (by omega)] at hm
    have hi' : i - A.length = 0 := by
      have := (List.getElem?_eq_some_iff.1 hm).1
      simp at this; omega
    rw [hi'] at hm
    simp at hm
    subst hm
    have hi2 : i = A.length := by omega
    subst hi2
    refine ⟨h1, by rw [wOf_app A [n] n.cs h1]; exact h2, h3, fun j hj e => ?_⟩
    rw [List.getElem?_append_left hj] at e
    exact h4 (List.mem_of_getElem? e)
theorem okL_of {cs : List Tree} {t : Tree} (h : okL cs = true) (ht : t ∈ cs) : okT t = true := by
  induction cs with
  | nil => cases ht
  | cons c cs ih =>
    rw [okL, Bool.and_eq_true] at h
    rcases List.mem_cons.1 ht with rfl | ht
    · exact h.1
    · exact ih h.2 ht
mutual
theorem ins_ok : ∀ {t : Tree} {A : Ar}, Val A → okT t = true → Val (ins A t).1 ∧ (∃ B, (ins A t).1 = A ++ B ∧ B.length ≤ szT t) ∧ rd (ins A t).1 t (ins A t).2
  | .mk k x cs, A, hA, ho => by
    rw [okT, Bool.and_eq_true] at ho
    obtain ⟨i1, ⟨B, i2, i3⟩, i4⟩ := insL_ok hA ho.2
    rw [ins_mk]
    generalize hr : insL A cs = r at *
    obtain ⟨A', js⟩ := r
    simp only at *
    split
    · rename_i i hf
      have hf := find_some hf
      refine ⟨i1, ⟨B, i2, ?_⟩, ?_⟩
      · rw [szT_mk]; omega
      · rw [rd_mk]; exact ⟨_, hf, rfl, rfl, i4⟩
    · rename_i hf
      have hf := find_none hf
      have hlt := rdL_lt i4
      refine ⟨val_snoc i1 hlt rfl ?_ hf, ⟨B ++ [_], by rw [i2, List.append_assoc], ?_⟩, ?_⟩
      · have h1 := ho.1
        simp only
        split
        · rename_i hk
          rw [if_pos hk] at h1
          have : cs = [] := by simpa using h1
          subst this
          rw [rdL_nil] at i4; exact i4
        · rename_i hk
          rw [if_neg hk] at h1
          simpa using h1
      · rw [List.length_append, szT_mk]; simp; omega
      · rw [rd_mk]
        refine ⟨⟨k, x.length + wOf A' js, x, js⟩, ?_, rfl, rfl, rdL_app _ _ _ _ i4⟩
        rw [List.getElem?_append_right (Nat.le_refl _), Nat.sub_self]; rfl
theorem insL_ok : ∀ {ts : List Tree} {A : Ar}, Val A → okL ts = true → Val (insL A ts).1 ∧ (∃ B, (insL A ts).1 = A ++ B ∧ B.length ≤ szL ts) ∧ rdL (insL A ts).1 ts (insL A ts).2
  | [], A, hA, ho => by
    rw [insL_nil]
    exact ⟨hA, ⟨[], by simp, by simp⟩, by rw [rdL_nil]⟩
  | t :: ts, A, hA, ho => by
    rw [okL, Bool.and_eq_true] at ho
    obtain ⟨i1, ⟨B, i2, i3⟩, i4⟩ := ins_ok hA ho.1
    obtain ⟨k1, ⟨B', k2, k3⟩, k4⟩ := insL_ok i1 ho.2
    rw [insL_cons]
    refine ⟨k1, ⟨B ++ B', by rw [← List.append_assoc, ← i2]; exact k2, by rw [List.length_append, szL]; omega⟩, ?_⟩
    rw [rdL_cons]
    exact ⟨_, _, rfl, by rw [k2]; exact rd_app _ _ _ _ i4, k4⟩
end
mutual
theorem ins_again {A : Ar} (hA : Val A) : ∀ {t : Tree} {i : Nat}, rd A t i → ins A t = (A, i)
  | .mk k x cs, i, h => by
    rw [rd_mk] at h
    obtain ⟨n, h1, rfl, rfl, h4⟩ := h
    rw [ins_mk, insL_again hA h4]
    simp only
    obtain ⟨a1, a2, a3, a4⟩ := hA i n h1
    have e : (⟨n.kind, n.text.length + wOf A n.cs, n.text, n.cs⟩ : N) = n := by rw [← a2]
    rw [e]
    have hi := (List.getElem?_eq_some_iff.1 h1).1
    have : A.findIdx? (· == n) = some i := by
      rw [List.findIdx?_eq_some_iff_getElem]
      refine ⟨hi, ?_, fun j hj => ?_⟩
      · rw [List.getElem?_eq_getElem hi] at h1; cases h1; simp
      · have := a4 j hj
        rw [List.getElem?_eq_getElem (by omega)] at this
        simpa using this
    rw [this]
theorem insL_again {A : Ar} (hA : Val A) : ∀ {ts : List Tree} {js : List Nat}, rdL A ts js → insL A ts = (A, js)
  | [], js, h => by rw [rdL_nil] at h; rw [insL_nil, h]
  | t :: ts, js, h => by
    rw [rdL_cons] at h
    obtain ⟨j, r, rfl, h2, h3⟩ := h
    rw [insL_cons, ins_again hA h2]
    simp only
    rw [insL_again hA h3]
end
theorem rd_child {A : Ar} {k : Nat} {x : Bytes} {cs : List Tree} {i : Nat} (h : rd A (.mk k x cs) i) {c : Tree} (hc : c ∈ cs) : ∃ j, rd A c j := by
  rw [rd_mk] at h
  obtain ⟨n, _, _, _, h4⟩ := h
  have : ∀ {cs : List Tree} {js : List Nat}, rdL A cs js → c ∈ cs → ∃ j, rd A c j := by
    intro cs
    induction cs with
    | nil => intro js _ hc; cases hc
    | cons d cs ih =>
      intro js h hc
      rw [rdL_cons] at h
      obtain ⟨j, r, rfl, h2, h3⟩ := h
      rcases List.mem_cons.1 hc with rfl | hc
      · exact ⟨j, h2⟩
      · exact ih h3 hc
  exact this h4 hc
end Gt
end

section
namespace Gt
open Pm
theorem insL_snoc (A : Ar) (ts : List Tree) (t : Tree) : insL A (ts ++ [t]) = ((ins (insL A ts).1 t).1, (insL A ts).2 ++ [(ins (insL A ts).1 t).2]) := by
  induction ts generalizing A with
  | nil => rw [List.nil_append, insL_cons, insL_nil, insL_nil]; rfl
  | cons x ts ih => rw [List.cons_append, insL_cons, ih, insL_cons]; rfl
theorem insL_len (A : Ar) (ts : List Tree) : (insL A ts).2.length = ts.length := by
  induction ts generalizing A with
  | nil => rw [insL_nil]; rfl
  | cons x ts ih => rw [insL_cons, List.length_cons, ih, List.length_cons]
mutual
theorem rd_width {A : Ar} (hA : Val A) : ∀ {t : Tree} {i : Nat}, rd A t i → (A.getD i default).width = (srcT t).length
  | .mk k x cs, i, h => by
    rw [rd_mk] at h
    obtain ⟨n, h1, rfl, rfl, h4⟩ := h
    rw [List.getD_eq_getElem?_getD, h1]
    have := (hA i n h1).2.1
    show n.width = _
    rw [this, srcT, List.length_append, rdL_width hA h4]
theorem rdL_width {A : Ar} (hA : Val A) : ∀ {ts : List Tree} {js : List Nat}, rdL A ts js → wOf A js = (srcL ts).length
  | [], js, h => by rw [rdL_nil] at h; subst h; rw [srcL]; rfl
  | t :: ts, js, h => by
    rw [rdL_cons] at h
    obtain ⟨j, r, rfl, h2, h3⟩ := h
    rw [wOf_cons, rd_width hA h2, rdL_width hA h3, srcL, List.length_append]
end
def smallA (A : Ar) : Prop := ∀ n ∈ A, n.cs.length < 900000
mutual
theorem ins_small : ∀ {t : Tree} {A : Ar}, smallA A → szT t < 900000 → smallA (ins A t).1
  | .mk k x cs, A, hA, hs => by
    rw [szT_mk] at hs
    have h1 := insL_small (ts := cs) hA (by omega)
    have hl : cs.length ≤ szL cs := by
      clear h1 hs hA
      induction cs with
      | nil => exact Nat.zero_le _
      | cons t cs ih => cases t; rw [List.length_cons, szL, szT_mk]; omega
    rw [ins_mk]
    split
    · exact h1
    · intro n hn
      rcases List.mem_append.1 hn with hn | hn
      · exact h1 n hn
      · rw [List.mem_singleton] at hn; subst hn
        show (insL A cs).2.length < _
        rw [insL_len]; omega
theorem insL_small : ∀ {ts : List Tree} {A : Ar}, smallA A → szL ts < 900000 → smallA (insL A ts).1
  | [], A, hA, hs => by rw [insL_nil]; exact hA
  | t :: ts, A, hA, hs => by
    rw [szL] at hs
    rw [insL_cons]
    exact insL_small (ins_small hA (by omega)) (by omega)
end
theorem szL_app (a b : List Tree) : szL (a ++ b) = szL a + szL b := szL_append a b
theorem szL_take (cs : List Tree) (i : Nat) : szL (cs.take i) ≤ szL cs := by
  have := szL_append (cs.take i) (cs.drop i)
  rw [List.take_append_drop] at this; omega
theorem srcL_take (cs : List Tree) (i : Nat) : (srcL (cs.take i)).length ≤ (srcL cs).length := by
  have := congrArg List.length (srcL_append (cs.take i) (cs.drop i))
  rw [List.take_append_drop, List.length_append] at this; omega
theorem okL_take {cs : List Tree} (h : okL cs = true) (i : Nat) : okL (cs.take i) = true := by
  have := okL_append (cs.take i) (cs.drop i)
  rw [List.take_append_drop, h] at this
  have := this.symm
  rw [Bool.and_eq_true] at this; exact this.1
theorem ins_lt {A : Ar} (hA : Val A) {t : Tree} (ho : okT t = true) : (ins A t).2 < (ins A t).1.length := rd_lt (ins_ok hA ho).2.2
def tailI (A : Ar) (n : N) : Nat := match A.findIdx? (· == n) with | some i => i | none => A.length
def tailA (A : Ar) (n : N) : Ar := match A.findIdx? (· == n) with | some _ => A | none => A ++ [n]
theorem ins_mk2 (A : Ar) (k : Nat) (x : Bytes) (cs : List Tree) : ins A (.mk k x cs) = (tailA (insL A cs).1 ⟨k, x.length + wOf (insL A cs).1 (insL A cs).2, x, (insL A cs).2⟩, tailI (insL A cs).1 ⟨k, x.length + wOf (insL A cs).1 (insL A cs).2, x, (insL A cs).2⟩) := by
  rw [ins_mk, tailA, tailI]
  cases (insL A cs).1.findIdx? (· == (⟨k, x.length + wOf (insL A cs).1 (insL A cs).2, x, (insL A cs).2⟩ : N)) <;> rfl
theorem tail_some {A : Ar} {n : N} {i : Nat} (h : A.findIdx? (· == n) = some i) : tailI A n = i ∧ tailA A n = A := by rw [tailI, tailA, h]; exact ⟨rfl, rfl⟩
theorem tail_none {A : Ar} {n : N} (h : A.findIdx? (· == n) = none) : tailI A n = A.length ∧ tailA A n = A ++ [n] := by rw [tailI, tailA, h]; exact ⟨rfl, rfl⟩
end Gt
end

section
set_option maxRecDepth 100000
set_option maxHeartbeats 1000000
namespace GrnF
open Go Go.Abs Go.Proofs ParF Pm Gt
abbrev ints (zs : List Nat) : List AV := zs.map fun (z : Nat) => I z
def IsI (c : AV) (zs : List Nat) : Prop := c = .sl 3 1 (ints zs) .sh ∨ (zs = [] ∧ c = .nils)
def nodeA (n : N) (c : AV) : AV := .agg [I n.kind, I n.width, .str n.text, c]
def IsN (a : AV) (n : N) : Prop := ∃ c c', a = nodeA n c ∧ c.strip = c' ∧ IsI c' n.cs
def IsRow (rows : List AV) (A : Ar) : Prop := rows.length = A.length ∧ ∀ (i : Nat) (n : N), A[i]? = some n → ∃ a, rows[i]? = some a ∧ IsN a n
def IsA (v : AV) (A : Ar) : Prop := (∃ rows, v = .sl 197 4 rows .sh ∧ IsRow rows A ∧ A ≠ []) ∨ (A = [] ∧ v = .nils)
theorem ints_noRef (xs : List Nat) : noRefL (ints xs) = true := by induction xs with
  | nil => rfl
  | cons x xs ih => show noRefL (I x :: ints xs) = true; rw [noRefL_cons, ih]; rfl
theorem IsI.strip {v : AV} {zs : List Nat} (h : IsI v zs) : v.strip = v ∧ v.noRef = true ∧ plainC v = true := by
  rcases h with rfl | ⟨_, rfl⟩
  · exact ⟨rfl, by rw [noRef_sl, ints_noRef], rfl⟩
  · exact ⟨rfl, rfl, rfl⟩
theorem u76 : Tryz.prog.underlying 76 = some (.slice 3) := by kernel_rfl
theorem u56 : Tryz.prog.underlying 56 = some (.slice 197) := by kernel_rfl
theorem sz3 : szOf Tryz.prog 3 = some 1 := by kernel_rfl
theorem sz197 : szOf Tryz.prog 197 = some 4 := by kernel_rfl
theorem IsI.len {v : AV} {zs : List Nat} (h : IsI v zs) : aLen Tryz.prog 76 v = some (I zs.length) := by
  rcases h with rfl | ⟨rfl, rfl⟩
  · simp [aLen, u76]
  · simp [aLen, u76]
theorem IsI.at {v : AV} {zs : List Nat} (h : IsI v zs) {i x : Nat} (hx : zs[i]? = some x) : aIndexAddr Tryz.prog 76 v (I i) = some (.box [I x] 0) := by
  rcases h with rfl | ⟨rfl, rfl⟩
  · simp [aIndexAddr, u76, sz3, hx, AV.cells]
  · simp at hx
theorem strip_noRef (c : AV) : c.strip.noRef = c.noRef ∧ plainC c.strip = plainC c := by
  cases c with
  | sl t z xs f => cases f <;> simp [AV.strip, AV.noRef, plainC]
  | _ => exact ⟨rfl, rfl⟩
theorem IsN.facts {a : AV} {n : N} (h : IsN a n) : a.strip = a ∧ a.noRef = true ∧ a.cells.length = 4 ∧ a.cells.all plainC = true ∧ a = .agg a.cells ∧ a.solid = true := by
  obtain ⟨c, c', rfl, rfl, h⟩ := h
  obtain ⟨h1, h2, h3⟩ := h.strip
  rw [(strip_noRef c).1] at h2
  rw [(strip_noRef c).2] at h3
  refine ⟨rfl, ?_, rfl, ?_, rfl, rfl⟩
  · rw [nodeA, noRef_agg, noRefL_cons, noRefL_cons, noRefL_cons, noRefL_cons, noRefL_nil, noRef_int, noRef_str, h2]; rfl
  · show (true && (true && (true && (plainC c && true)))) = true; rw [h3]; rfl
theorem eqI_loop {c d : AV} {zs ws : List Nat} (hc : IsI c zs) (hd : IsI d ws) (hl : zs.length = ws.length) (hb : zs.length < 900000) (D : Den) (n' : Nat) : ∀ (k i : Nat), zs.length - i = k → i ≤ zs.length →
    ∀ m, k < m → ∀ e s, e 13 = I i → e 12 = I zs.length → e 0 = c → e 1 = d → ∃ s', aLoop (F190_L0 D n') m e s = some (.bool (decide (zs.drop i = ws.drop i)), s') := by
  obtain ⟨c1, c2, c3⟩ := hc.strip
  obtain ⟨d1, d2, d3⟩ := hd.strip
  intro k
  induction k with
  | zero =>
    intro i hk hi m hm e s h13 h12 h0 h1
    obtain ⟨m, rfl⟩ : ∃ j, m = j + 1 := ⟨m - 1, by omega⟩
    have c : ¬ i < zs.length := by omega
    rw [List.drop_of_length_le (by omega), List.drop_of_length_le (by omega)]
    refine ⟨s, ?_⟩
    rw [aLoop, F190_L0]
    simp -implicitDefEqProofs only [sL, h13, h12, c, decide_false]
  | succ k ih =>
    intro i hk hi m hm e s h13 h12 h0 h1
    obtain ⟨m, rfl⟩ : ∃ j, m = j + 1 := ⟨m - 1, by omega⟩
    have c : i < zs.length := by omega
    have c' : i < ws.length := by omega
    have e1 := hc.at (List.getElem?_eq_getElem c)
    have e2 := hd.at (List.getElem?_eq_getElem c')
    have e3 := ParF.wadd1 (a := i) (by omega)
    rw [List.drop_eq_getElem_cons c, List.drop_eq_getElem_cons c']
    rw [aLoop, F190_L0]
    by_cases hz : zs[i] = ws[i]
    · have z : ((zs[i] : Int) != (ws[i] : Int)) = false := by simp [hz]
      simp -implicitDefEqProofs only [sL, h13, h12, h0, h1, c, c1, d1, e1, e2, z, e3, d190_6]
      rw [show decide (zs[i] :: zs.drop (i + 1) = ws[i] :: ws.drop (i + 1)) = decide (zs.drop (i + 1) = ws.drop (i + 1)) from decide_eq_decide.2 (by rw [List.cons.injEq]; exact ⟨fun h => h.2, fun h => ⟨hz, h⟩⟩)]
      exact ih (i + 1) (by omega) (by omega) m (by omega) _ _ (by simp only [upds_at, upds_nil, upd_at, if_true]) ((upds_get _ _ _ rfl).trans h12) ((upds_get _ _ _ rfl).trans h0) ((upds_get _ _ _ rfl).trans h1)
    · have z : ((zs[i] : Int) != (ws[i] : Int)) = true := by simp; omega
      refine ⟨s, ?_⟩
      rw [show decide (zs[i] :: zs.drop (i + 1) = ws[i] :: ws.drop (i + 1)) = false from decide_eq_false (by rw [List.cons.injEq]; exact fun h => hz h.1)]
      simp -implicitDefEqProofs only [sL, h13, h12, h0, h1, c, c1, d1, e1, e2, z, e3, d190_6]
theorem eqI_run {c d : AV} {zs ws : List Nat} (hc : IsI c zs) (hd : IsI d ws) (hb : zs.length < 900000) : AC C 190 [c, d] (.bool (decide (zs = ws))) := by
  obtain ⟨c1, c2, c3⟩ := hc.strip
  obtain ⟨d1, d2, d3⟩ := hd.strip
  refine .intro en190 (by rw [noRefL_cons, noRefL_cons, noRefL_nil, c2, d2]; rfl) rfl ⟨zs.length + 1, fun n hn => ?_⟩
  rw [F190_eq, F190]
  by_cases hl : zs.length = ws.length
  · have z : ((zs.length : Int) != (ws.length : Int)) = false := by simp [hl]
    obtain ⟨s', q⟩ := eqI_loop hc hd hl hb (den C n) n zs.length 0 (by omega) (by omega) n (by omega) (upds (argEnv [c, d]) [(4, .bool false), (6, c), (7, I zs.length), (8, d), (9, I ws.length), (10, .bool false), (11, c), (12, I zs.length), (13, I 0)]) [] rfl rfl rfl rfl
    rw [List.drop_zero, List.drop_zero] at q
    refine ⟨s', ?_⟩
    simp -implicitDefEqProofs only [sL, c1, d1, hc.len, hd.len, z]
    exact q
  · have z : ((zs.length : Int) != (ws.length : Int)) = true := by simp; omega
    refine ⟨[], ?_⟩
    rw [show decide (zs = ws) = false by simp; intro e; rw [e] at hl; exact hl rfl]
    simp -implicitDefEqProofs only [sL, c1, d1, hc.len, hd.len, z]
theorem eqN_run {a b : AV} {n m : N} (ha : IsN a n) (hb : IsN b m) (hl : n.cs.length < 900000) : AC C 123 [a, b] (.bool (decide (n = m))) := by
  have na := ha.facts.2.1
  have nb := hb.facts.2.1
  obtain ⟨c, c', rfl, ec, hc⟩ := ha
  obtain ⟨d, d', rfl, ed, hd⟩ := hb
  obtain ⟨c1, c2, c3⟩ := hc.strip
  obtain ⟨d1, d2, d3⟩ := hd.strip
  obtain ⟨N0, q0⟩ := LexF.AC.at (eqI_run hc hd hl)
  refine .intro en123 (by rw [noRefL_cons, noRefL_cons, noRefL_nil, na, nb]; rfl) rfl ⟨N0, fun f hf => ⟨[], ?_⟩⟩
  have q0 := q0 f hf
  rw [F123_eq, F123, nodeA, nodeA]
  have key : decide (n = m) = ((n.kind == m.kind) && (n.width == m.width) && (n.text == m.text) && decide (n.cs = m.cs)) := by
    cases n; cases m
    simp only [N.mk.injEq]
    rw [Bool.eq_iff_iff]
    simp [and_assoc]
  rw [key]
  have t9 : aBin Tryz.prog .eql 9 (.str n.text) (.str m.text) = some (.bool (n.text == m.text)) := by simp [aBin, strBin]
  by_cases h1 : n.kind = m.kind
  · have z1 : ((n.kind : Int) == (m.kind : Int)) = true := by simp [h1]
    have y1 : (n.kind == m.kind) = true := by simp [h1]
    by_cases h2 : n.width = m.width
    · have z2 : ((n.width : Int) == (m.width : Int)) = true := by simp [h2]
      have y2 : (n.width == m.width) = true := by simp [h2]
      by_cases h3 : n.text = m.text
      · have y3 : (n.text == m.text) = true := by simp [h3]
        simp -implicitDefEqProofs only [sL, z1, z2, t9, y1, y2, y3, ec, ed, c1, d1, q0, Bool.true_and]
      · have y3 : (n.text == m.text) = false := by simp [h3]
        simp -implicitDefEqProofs only [sL, z1, z2, t9, y1, y2, y3, ec, ed, c1, d1, q0, Bool.true_and, Bool.false_and]
    · have z2 : ((n.width : Int) == (m.width : Int)) = false := by simp; omega
      have y2 : (n.width == m.width) = false := by simp [h2]
      simp -implicitDefEqProofs only [sL, z1, z2, t9, y1, y2, ec, ed, c1, d1, q0, Bool.true_and, Bool.false_and]
  · have z1 : ((n.kind : Int) == (m.kind : Int)) = false := by simp; omega
    have y1 : (n.kind == m.kind) = false := by simp [h1]
    simp -implicitDefEqProofs only [sL, z1, t9, y1, ec, ed, c1, d1, q0, Bool.true_and, Bool.false_and]
theorem clos_run {g q : Nat} (hg : g = 122 ∨ g = 125) {a : AV} {n m : N} {cs : List AV} (ha : IsN a n) (hb : IsN (.agg cs) m) (hl : n.cs.length < 900000) : ∃ N, ∀ f, N ≤ f → ∀ s : Heap, s[q]? = some (197, cs) →
    aCallV Tryz.prog (den C f) (.fn g [] [.ref q 0]) [a] s = some (.bool (decide (n = m)), s) := by
  obtain ⟨N0, q0⟩ := LexF.AC.at (eqN_run ha hb hl)
  refine ⟨N0 + 1, fun f hf s hs => ?_⟩
  obtain ⟨f, rfl⟩ : ∃ k, f = k + 1 := ⟨f - 1, by omega⟩
  have q0 := q0 f (by omega)
  have hcl := hb.facts.2.2.1
  have a1 := ha.facts.1
  have a6 := ha.facts.2.2.2.2.1
  have a7 := ha.facts.2.2.2.2.2
  have a3 := ha.facts.2.2.1
  have ldb : aLoad false true 4 (.ref q 0) s = some (.agg cs, s) := by
    rw [ldA (o := 0) hs (by decide) (by have : cs.length = 4 := hcl; omega) (by decide), List.drop_zero, List.take_of_length_le (by have : cs.length = 4 := hcl; omega)]
  have lda : ∀ s, aLoad false true 4 (.box a.cells 0) s = some (a, s) := fun s => by
    rw [aLoad_agg _ _ _ _ _ (by omega), List.drop_zero, List.take_of_length_le (by omega), ← a6]
  have nr : noRefL [a, .ref q 0] = false := by rw [noRefL_cons, noRefL_cons]; simp [AV.noRef]
  have nr2 : noRefL [a, .agg cs] = true := by rw [noRefL_cons, noRefL_cons, noRefL_nil, ha.facts.2.1, hb.facts.2.1]; rfl
  have bx : aBox false 197 a s = some (.box a.cells 0, s) := aBox_f _ _ _ a7
  show aCall Tryz.prog (den C (f + 1)) g ([a, .ref q 0].map AV.strip) s = _
  rw [List.map_cons, List.map_cons, List.map_nil, a1]
  show aCall Tryz.prog (den C (f + 1)) g [a, .ref q 0] s = _
  rcases hg with rfl | rfl
  · unfold aCall
    rw [if_pos en122, if_neg (by rw [nr]; decide), F122_eq, F122]
    simp -implicitDefEqProofs only [sL, bx, lda, ldb, a1, q0]
  · unfold aCall
    rw [if_pos en125, if_neg (by rw [nr]; decide), F125_eq, F125]
    simp -implicitDefEqProofs only [sL, bx, lda, ldb, a1, q0]
end GrnF
end

section
set_option maxRecDepth 100000
set_option maxHeartbeats 1000000
namespace GrnF
open Go Go.Abs Go.Proofs ParF Pm Gt
structure Arr (v : AV) (A : Ar) (s : Heap) : Prop where
  st : v.strip = v
  len : aLen Tryz.prog 56 v = some (I A.length)
  get : ∀ (i : Nat) (n : N), A[i]? = some n → ∃ adr a q, aIndexAddr Tryz.prog 56 v (I i) = some adr ∧ aLoad false true 4 adr s = some (a, s) ∧ aAddr 1 adr = some q ∧ aLoad false false 1 q s = some (I n.width, s) ∧ IsN a n
theorem IsRow.arr {rows : List AV} {A : Ar} (h : IsRow rows A) (s : Heap) : Arr (.sl 197 4 rows .sh) A s := by
  obtain ⟨hl, hat⟩ := h
  refine ⟨rfl, by simp [aLen, u56, hl], fun i n hn => ?_⟩
  obtain ⟨a, h1, h2⟩ := hat i n hn
  have f := h2.facts
  obtain ⟨c, c', rfl, ec, hc⟩ := id h2
  refine ⟨.box (nodeA n c).cells 0, _, .box (nodeA n c).cells 1, ?_, ?_, rfl, ?_, h2⟩
  · simp [aIndexAddr, u56, sz197, h1]
  · rw [aLoad_agg _ _ _ _ _ (by rw [f.2.2.1]; exact Nat.le_refl _), List.drop_zero, List.take_of_length_le (by rw [f.2.2.1]; exact Nat.le_refl _)]
    rfl
  · rfl
theorem IsA.arr {v : AV} {A : Ar} (h : IsA v A) (s : Heap) : Arr v A s := by
  rcases h with ⟨rows, rfl, h, _⟩ | ⟨rfl, rfl⟩
  · exact h.arr s
  · exact ⟨rfl, by simp [aLen, u56], fun i n hn => by simp at hn⟩
theorem IsRow.noRef {rows : List AV} {A : Ar} (h : IsRow rows A) : noRefL rows = true := by
  obtain ⟨hl, hat⟩ := h
  have : ∀ a ∈ rows, a.noRef = true := by
    intro a ha
    obtain ⟨i, hi⟩ := List.mem_iff_getElem?.1 ha
    have hlt : i < A.length := by rw [← hl]; exact (List.getElem?_eq_some_iff.1 hi).1
    obtain ⟨b, h1, h2⟩ := hat i _ (List.getElem?_eq_getElem hlt)
    rw [hi] at h1; cases h1
    exact h2.facts.2.1
  clear hl hat
  induction rows with
  | nil => rfl
  | cons a rows ih => rw [noRefL_cons, this a (List.mem_cons_self ..), ih fun b hb => this b (List.mem_cons_of_mem _ hb)]; rfl
theorem IsA.noRef {v : AV} {A : Ar} (h : IsA v A) : v.noRef = true ∧ v.strip = v := by
  rcases h with ⟨rows, rfl, h, _⟩ | ⟨rfl, rfl⟩
  · exact ⟨by rw [noRef_sl]; exact h.noRef, rfl⟩
  · exact ⟨rfl, rfl⟩
def ix (i : Nat) (o : Option Nat) : Int := match o with | some j => ((i + j : Nat) : Int) | none => -1
def small (A : Ar) : Prop := ∀ n ∈ A, n.cs.length < 900000
theorem index_loop {v : AV} {A : Ar} {s : Heap} (hv : Arr v A s) (hA : A.length < 900000) (hsm : small A) {g q : Nat} (hg : g = 122 ∨ g = 125) {m : N} {cs : List AV} (hb : IsN (.agg cs) m) (hs : s[q]? = some (197, cs)) :
    ∀ (k i : Nat), A.length - i = k → i ≤ A.length → ∃ N, ∀ f, N ≤ f → ∀ r, k < r → ∀ n' e, e 8 = I i → e 7 = I A.length → e 0 = v → e 1 = .fn g [] [.ref q 0] →
    aLoop (F121_L0 (den C f) n') r e s = some (I (ix i ((A.drop i).findIdx? (· == m))), s) := by
  intro k
  induction k with
  | zero =>
    intro i hk hi
    refine ⟨0, fun f hf r hr n' e h8 h7 h0 h1 => ?_⟩
    obtain ⟨r, rfl⟩ : ∃ j, r = j + 1 := ⟨r - 1, by omega⟩
    have c : ¬ i < A.length := by omega
    rw [List.drop_of_length_le (by omega)]
    rw [aLoop, F121_L0]
    simp -implicitDefEqProofs only [sL, h8, h7, c, decide_false]
    rfl
  | succ k ih =>
    intro i hk hi
    have c : i < A.length := by omega
    obtain ⟨adr, a, p, e1, e2, _, _, hN⟩ := hv.get i _ (List.getElem?_eq_getElem c)
    obtain ⟨N1, q1⟩ := clos_run (q := q) hg hN hb (hsm _ (List.getElem_mem c))
    obtain ⟨N2, q2⟩ := ih (i + 1) (by omega) (by omega)
    refine ⟨N1 + N2, fun f hf r hr n' e h8 h7 h0 h1 => ?_⟩
    obtain ⟨r, rfl⟩ : ∃ j, r = j + 1 := ⟨r - 1, by omega⟩
    have q1 := q1 f (by omega) s hs
    have e3 := ParF.wadd1 (a := i) (by omega)
    rw [List.drop_eq_getElem_cons c, List.findIdx?_cons]
    rw [aLoop, F121_L0]
    by_cases hz : A[i] = m
    · rw [show (A[i] == m) = true by simp [hz], show decide (A[i] = m) = true by simp [hz]] at *
      simp -implicitDefEqProofs only [sL, h8, h7, h0, h1, c, hv.st, e1, e2, q1]
      rfl
    · rw [show decide (A[i] = m) = false by simp [hz]] at q1
      rw [show (A[i] == m) = false by simp [hz]]
      simp -implicitDefEqProofs only [sL, h8, h7, h0, h1, c, hv.st, e1, e2, q1, e3]
      rw [q2 f (by omega) r (by omega) n' _ (by simp only [upds_at, upds_nil, upd_at, if_true]) ((upds_get _ _ _ rfl).trans h7) ((upds_get _ _ _ rfl).trans h0) ((upds_get _ _ _ rfl).trans h1)]
      congr 2
      simp only [Bool.false_eq_true, if_false]
      cases (A.drop (i + 1)).findIdx? (· == m) with
      | none => rfl
      | some j => show I _ = I _; simp only [ix, Option.map_some]; congr 1; omega
theorem fn_noRef (v : AV) (g q : Nat) : noRefL [v, .fn g [] [.ref q 0]] = false := by
  rw [noRefL_cons, noRefL_cons]; simp [AV.noRef, noRefL]
theorem index_run {v : AV} {A : Ar} {s : Heap} (hv : Arr v A s) (hA : A.length < 900000) (hsm : small A) {g q : Nat} (hg : g = 122 ∨ g = 125) {m : N} {cs : List AV} (hb : IsN (.agg cs) m) (hs : s[q]? = some (197, cs)) :
    ∃ N, ∀ f, N ≤ f → aCall Tryz.prog (den C f) 121 [v, .fn g [] [.ref q 0]] s = some (I (ix 0 (A.findIdx? (· == m))), s) := by
  obtain ⟨N, h⟩ := index_loop hv hA hsm hg hb hs A.length 0 (by omega) (by omega)
  refine ⟨N + A.length + 2, fun f hf => ?_⟩
  obtain ⟨f, rfl⟩ : ∃ j, f = j + 1 := ⟨f - 1, by omega⟩
  unfold aCall
  rw [if_pos en121, if_neg (by rw [fn_noRef]; decide), F121_eq, F121]
  simp -implicitDefEqProofs only [sL, hv.st, hv.len]
  rw [List.drop_zero] at h
  exact h f (by omega) f (by omega) f _ rfl rfl rfl rfl
theorem contains_run {v : AV} {A : Ar} {s : Heap} (hv : Arr v A s) (hA : A.length < 900000) (hsm : small A) {g q : Nat} (hg : g = 122 ∨ g = 125) {m : N} {cs : List AV} (hb : IsN (.agg cs) m) (hs : s[q]? = some (197, cs)) (hn : A.findIdx? (· == m) = none) :
    ∃ N, ∀ f, N ≤ f → aCall Tryz.prog (den C f) 124 [v, .fn g [] [.ref q 0]] s = some (.bool false, s) := by
  obtain ⟨N, h⟩ := index_run hv hA hsm hg hb hs
  refine ⟨N + 2, fun f hf => ?_⟩
  obtain ⟨f, rfl⟩ : ∃ j, f = j + 1 := ⟨f - 1, by omega⟩
  have h := h f (by omega)
  rw [hn] at h
  have z : decide ((0 : Int) ≤ -1) = false := by decide
  unfold aCall
  rw [if_pos en124, if_neg (by rw [fn_noRef]; decide), F124_eq, F124]
  simp -implicitDefEqProofs only [sL, hv.st, h, ix]
  rfl
end GrnF
end

section
set_option maxRecDepth 100000
set_option maxHeartbeats 1000000
namespace GrnF
open Go Go.Abs Go.Proofs ParF Pm Gt
theorem zero197 : aAlloc Tryz.prog 197 = fun s => some (.ref s.length 0, s ++ [(197, [I 0, I 0, .str [], .nils])]) := by
  have h : zeroOf Tryz.prog 197 = some (.agg [I 0, I 0, .str [], .nils]) := by kernel_rfl
  funext s
  simp [aAlloc, h]
theorem put197 (s : Heap) (b : List AV) {n : N} {c c' : AV} (ec : c.strip = c') (hb : b.length = 4) : aStore 4 (s ++ [(197, b)]) (.ref s.length 0) (nodeA n c) = some (s ++ [(197, (nodeA n c').cells)]) := by
  have hst : stCells (nodeA n c) = (nodeA n c').cells := by rw [← ec]; rfl
  rw [ParF.st (n := 4) (o := 0) (v := nodeA n c) (by rw [List.getElem?_append_right (Nat.le_refl _), Nat.sub_self]; rfl) (by decide) rfl rfl (by omega), hst]
  have := setL_end [] (nodeA n c').cells b (by rw [hb]; rfl)
  rw [List.nil_append, List.nil_append] at this
  rw [show setL b 0 (nodeA n c').cells = (nodeA n c').cells from this]
  congr 1
  rw [List.set_append_right _ _ (Nat.le_refl _), Nat.sub_self]; rfl
theorem wadd2 {a b : Nat} (h : a + b < 2000000000) : IntKind.i64.wrap ((a : Int) + (b : Int)) = ((a + b : Nat) : Int) := by rw [wrap64] <;> omega
theorem wOf_snoc (A : Ar) (js : List Nat) (j : Nat) : wOf A (js ++ [j]) = wOf A js + (A.getD j default).width := by
  induction js with
  | nil => simp [wOf]
  | cons x js ih => rw [List.cons_append, wOf_cons, wOf_cons, ih]; omega
theorem wOf_take_le (A : Ar) (js : List Nat) (i : Nat) : wOf A (js.take i) ≤ wOf A js := by
  have := List.take_append_drop i js
  have e : wOf A js = wOf A (js.take i) + wOf A (js.drop i) := by
    have h2 : ∀ a b : List Nat, wOf A (a ++ b) = wOf A a + wOf A b := by
      intro a b
      induction a with
      | nil => simp [wOf]
      | cons x a ih => rw [List.cons_append, wOf_cons, wOf_cons, ih]; omega
    rw [← h2, this]
  omega
theorem find_not {A : Ar} {n : N} (h : n ∉ A) : A.findIdx? (· == n) = none := by
  rw [List.findIdx?_eq_none_iff]
  intro x hx
  have : x ≠ n := fun e => h (by rw [← e]; exact hx)
  simpa using this
structure Fits (A : Ar) : Prop where
  len : A.length < 900000
  cs : small A
  w : ∀ n ∈ A, n.width < 900000000
theorem take_row {rows : List AV} {A : Ar} (h : IsRow rows A) (i : Nat) : IsRow (rows.take i) (A.take i) := by
  obtain ⟨hl, hat⟩ := h
  refine ⟨by rw [List.length_take, List.length_take, hl], fun j n hn => ?_⟩
  have hj : j < i := by have := (List.getElem?_eq_some_iff.1 hn).1; rw [List.length_take] at this; omega
  rw [List.getElem?_take_of_lt hj] at hn ⊢
  exact hat j n hn
theorem valid_loop {rows : List AV} {A : Ar} (hrow : IsRow rows A) (hF : Fits A) (hV : Val A) {i0 : Nat} {n : N} (hn : A[i0]? = some n) {c : AV} (hc : IsI c n.cs) : ∀ (k i : Nat), n.cs.length - i = k → i ≤ n.cs.length →
    ∃ N, ∀ f, N ≤ f → ∀ r, k < r → ∀ n' e, e 20 = I i → e 19 = I n.cs.length → e 18 = c → e 0 = .sl 197 4 rows .sh → e 1 = I i0 → e 5 = .ref 0 0 → e 6 = I (n.text.length + wOf A (n.cs.take i) : Nat) →
    aLoop (F67_L0 (den C f) n') r e [(197, (nodeA n c).cells)] = some (.bool true, [(197, (nodeA n c).cells)]) := by
  obtain ⟨v1, v2, v3, v4⟩ := hV i0 n hn
  obtain ⟨c1, c2, c3⟩ := hc.strip
  have hnm := List.mem_of_getElem? hn
  have hw := hF.w n hnm
  have hlt := (List.getElem?_eq_some_iff.1 hn).1
  intro k
  induction k with
  | zero =>
    intro i hk hi
    have hi' : i = n.cs.length := by omega
    subst hi'
    have hN : IsN (.agg (nodeA n c).cells) n := ⟨c, c, rfl, c1, hc⟩
    have hni : n ∉ A.take i0 := by
      intro hm
      obtain ⟨j, hj⟩ := List.mem_iff_getElem?.1 hm
      have hj' : j < i0 := by have := (List.getElem?_eq_some_iff.1 hj).1; rw [List.length_take] at this; omega
      rw [List.getElem?_take_of_lt hj'] at hj
      exact v4 j hj' hj
    obtain ⟨N, q⟩ := contains_run ((take_row hrow i0).arr [(197, (nodeA n c).cells)]) (by rw [List.length_take]; have := hF.len; omega) (fun x hx => hF.cs x (List.mem_of_mem_take hx)) (.inr rfl) (q := 0) hN rfl (find_not hni)
    refine ⟨N, fun f hf r hr n' e h20 h19 h18 h0 h1 h5 h6 => ?_⟩
    obtain ⟨r, rfl⟩ : ∃ j, r = j + 1 := ⟨r - 1, by omega⟩
    have q := q f hf
    rw [List.take_length] at h6
    have cc : ¬ n.cs.length < n.cs.length := by omega
    have l0 : aLoad false false 1 (.ref 0 0) [(197, (nodeA n c).cells)] = some (I n.kind, [(197, (nodeA n c).cells)]) := rfl
    have l1 : aLoad false false 1 (.ref 0 1) [(197, (nodeA n c).cells)] = some (I n.width, [(197, (nodeA n c).cells)]) := rfl
    have l2 : aLoad false false 1 (.ref 0 2) [(197, (nodeA n c).cells)] = some (.str n.text, [(197, (nodeA n c).cells)]) := rfl
    have l3 : aLoad false false 1 (.ref 0 3) [(197, (nodeA n c).cells)] = some (c, [(197, (nodeA n c).cells)]) := by
      rw [ld (v := c) (ty := 197) (cs := (nodeA n c).cells) rfl (by decide) rfl (by decide), c1]
    have z1 : ((n.width : Int) != ((n.text.length + wOf A n.cs : Nat) : Int)) = false := by rw [v2]; simp
    have sl : aSl Tryz.prog 56 (.sl 197 4 rows .sh) none (some (I i0)) none = some (.sl 197 4 (rows.take i0) .sh) := by
      have hb : aBound rows.length (I i0) = some i0 := by
        show (if 0 ≤ (i0 : Int) ∧ (i0 : Int) ≤ (rows.length : Int) then some (i0 : Int).toNat else none) = some i0
        rw [hrow.1, if_pos ⟨by omega, by omega⟩]; rfl
      simp [aSl, u56, sz197, aSlice, hb]
    have t9 : ∀ x : List UInt8, aBin Tryz.prog .neq 9 (.str x) (.str []) = some (.bool !(x == [])) := fun x => by simp [aBin, strBin]
    rw [aLoop, F67_L0]
    by_cases hk : 100 ≤ n.kind
    · rw [if_pos hk] at v3
      have z2 : (100 : Int) ≤ (n.kind : Int) := by omega
      have z3 : ¬ ((0 : Int) < (n.cs.length : Int)) := by rw [v3]; simp
      simp -implicitDefEqProofs only [sL, h20, h19, h18, h0, h1, h5, h6, cc, l0, l1, l2, l3, z1, z2, z3, hc.len, strip_sh, sl, t9, q, c1]
    · rw [if_neg hk] at v3
      have z2 : ¬ (100 : Int) ≤ (n.kind : Int) := by omega
      have z4 : (!(n.text == [])) = false := by rw [v3]; rfl
      simp -implicitDefEqProofs only [sL, h20, h19, h18, h0, h1, h5, h6, cc, l0, l1, l2, l3, z1, z2, z4, hc.len, strip_sh, sl, t9, q, c1]
  | succ k ih =>
    intro i hk hi
    have cc : i < n.cs.length := by omega
    obtain ⟨N, q⟩ := ih (i + 1) (by omega) (by omega)
    have hj := v1 n.cs[i] (List.getElem_mem cc)
    obtain ⟨adr, a, p, e1, e2, e3, e4, hN⟩ := (hrow.arr [(197, (nodeA n c).cells)]).get n.cs[i] _ (List.getElem?_eq_getElem (by omega))
    refine ⟨N, fun f hf r hr n' e h20 h19 h18 h0 h1 h5 h6 => ?_⟩
    obtain ⟨r, rfl⟩ : ∃ j, r = j + 1 := ⟨r - 1, by omega⟩
    have q := q f hf r (by omega) n'
    have g1 := hc.at (List.getElem?_eq_getElem cc)
    have g2 := ParF.wadd1 (a := i) (by have := hF.cs n hnm; omega)
    have z1 : ¬ ((n.cs[i] : Int) < 0) := by omega
    have z2 : ¬ ((i0 : Int) ≤ (n.cs[i] : Int)) := by omega
    have htk : n.cs.take (i + 1) = n.cs.take i ++ [n.cs[i]] := by rw [List.take_succ, List.getElem?_eq_getElem cc]; rfl
    have hww := wOf_take_le A n.cs (i + 1)
    rw [htk, wOf_snoc] at hww
    have hgd : (A.getD n.cs[i] default) = A[n.cs[i]] := by rw [List.getD_eq_getElem?_getD, List.getElem?_eq_getElem (by omega)]; rfl
    rw [hgd] at hww
    have g3 := wadd2 (a := n.text.length + wOf A (n.cs.take i)) (b := A[n.cs[i]].width) (by omega)
    rw [aLoop, F67_L0]
    simp -implicitDefEqProofs only [sL, h20, h19, h18, h0, h1, h5, h6, cc, g1, g2, g3, z1, z2, e1, e2, e3, e4, c1, strip_sh]
    refine q _ (by simp only [upds_at, upds_nil, upd_at, if_true]) ((upds_get _ _ _ rfl).trans h19) ((upds_get _ _ _ rfl).trans h18) ((upds_get _ _ _ rfl).trans h0) ((upds_get _ _ _ rfl).trans h1) ((upds_get _ _ _ rfl).trans h5) ?_
    rw [htk, wOf_snoc, hgd]
    simp [upds_at, upd_at, Nat.add_assoc]
theorem valid_run {rows : List AV} {A : Ar} (hrow : IsRow rows A) (hF : Fits A) (hV : Val A) {i0 : Nat} (hi : i0 < A.length) : AC C 67 [.sl 197 4 rows .sh, I i0] (.bool true) := by
  obtain ⟨a, h1, h2⟩ := hrow.2 i0 _ (List.getElem?_eq_getElem hi)
  obtain ⟨c0, c, rfl, ec, hc⟩ := id h2
  obtain ⟨N, q⟩ := valid_loop hrow hF hV (List.getElem?_eq_getElem hi) hc _ 0 rfl (Nat.zero_le _)
  obtain ⟨c1, c2, c3⟩ := hc.strip
  refine .intro en67 (by rw [noRefL_cons, noRefL_cons, noRefL_nil, noRef_sl, hrow.noRef]; rfl) rfl ⟨N + A[i0].cs.length + 1, fun f hf => ⟨[(197, (nodeA A[i0] c).cells)], ?_⟩⟩
  have q := q f (by omega) f (by omega) f
  have g1 : aIndexAddr Tryz.prog 56 (.sl 197 4 rows .sh) (I i0) = some (.box (nodeA A[i0] c0).cells 0) := by simp [aIndexAddr, u56, sz197, h1]
  have g2 : ∀ s : Heap, aLoad false true 4 (.box (nodeA A[i0] c0).cells 0) s = some (nodeA A[i0] c0, s) := fun s => rfl
  have z : aAlloc Tryz.prog 197 [] = some (.ref 0 0, [(197, [I 0, I 0, .str [], .nils])]) := by rw [zero197]; rfl
  have p : aStore 4 [(197, [I 0, I 0, .str [], .nils])] (.ref 0 0) (nodeA A[i0] c0) = some [(197, (nodeA A[i0] c).cells)] := put197 [] _ ec rfl
  have l2 : aLoad false false 1 (.ref 0 2) [(197, (nodeA A[i0] c).cells)] = some (.str A[i0].text, [(197, (nodeA A[i0] c).cells)]) := rfl
  have l3 : aLoad false false 1 (.ref 0 3) [(197, (nodeA A[i0] c).cells)] = some (c, [(197, (nodeA A[i0] c).cells)]) := by
    rw [ld (v := c) (ty := 197) (cs := (nodeA A[i0] c).cells) rfl (by decide) rfl (by decide), c1]
  have sn : (nodeA A[i0] c0).strip = nodeA A[i0] c0 := rfl
  rw [F67_eq, F67]
  simp -implicitDefEqProofs only [sL, strip_sh, g1, g2, z, p, l2, l3, hc.len, c1, LexF.len9, sn]
  exact q _ rfl rfl rfl rfl rfl rfl (by simp [upds_at, upd_at, wOf])
theorem row_is {A : Ar} {v : AV} (h : IsA v A) (hne : A ≠ []) : ∃ rows, v = .sl 197 4 rows .sh ∧ IsRow rows A := by
  rcases h with ⟨rows, h1, h2, _⟩ | ⟨e, _⟩
  · exact ⟨rows, h1, h2⟩
  · exact absurd e hne
theorem validate_loop {rows : List AV} {A : Ar} (hrow : IsRow rows A) (hF : Fits A) (hV : Val A) : ∀ (k i : Nat), A.length - i = k → i ≤ A.length →
    ∃ N, ∀ f, N ≤ f → ∀ r, k < r → ∀ n' e s, e 11 = I i → e 10 = I A.length → e 1 = .box [.sl 197 4 rows .sh] 0 → ∃ s', aLoop (F26_L0 (den C f) n') r e s = some (I 0, s') := by
  intro k
  induction k with
  | zero =>
    intro i hk hi
    refine ⟨0, fun f hf r hr n' e s h11 h10 h1 => ⟨s, ?_⟩⟩
    obtain ⟨r, rfl⟩ : ∃ j, r = j + 1 := ⟨r - 1, by omega⟩
    have c : ¬ i < A.length := by omega
    rw [aLoop, F26_L0]
    simp -implicitDefEqProofs only [sL, h11, h10, h1, c, decide_false]
  | succ k ih =>
    intro i hk hi
    have c : i < A.length := by omega
    obtain ⟨N1, q1⟩ := LexF.AC.at (valid_run hrow hF hV c)
    obtain ⟨N2, q2⟩ := ih (i + 1) (by omega) (by omega)
    refine ⟨N1 + N2, fun f hf r hr n' e s h11 h10 h1 => ?_⟩
    obtain ⟨r, rfl⟩ : ∃ j, r = j + 1 := ⟨r - 1, by omega⟩
    have q1 := q1 f (by omega)
    have g := ParF.wadd1 (a := i) (by have := hF.len; omega)
    rw [aLoop, F26_L0]
    simp -implicitDefEqProofs only [sL, h11, h10, h1, c, strip_sh, q1, g]
    exact q2 f (by omega) r (by omega) n' _ _ (by simp only [upds_at, upds_nil, upd_at, if_true]) ((upds_get _ _ _ rfl).trans h10) ((upds_get _ _ _ rfl).trans h1)
theorem validate_run {v : AV} {A : Ar} (hv : IsA v A) (hF : Fits A) (hV : Val A) (h4 : A.length ≤ 4000) : AC C 26 [.agg [v]] (I 0) := by
  obtain ⟨n1, n2⟩ := hv.noRef
  refine .intro en26 (by rw [noRefL_cons, noRefL_nil, noRef_agg, noRefL_cons, noRefL_nil, n1]; rfl) rfl ?_
  have hl := (hv.arr []).len
  have z : ¬ ((4000 : Int) < (A.length : Int)) := by omega
  by_cases hne : A = []
  · subst hne
    refine ⟨1, fun f hf => ⟨[], ?_⟩⟩
    obtain ⟨f, rfl⟩ : ∃ j, f = j + 1 := ⟨f - 1, by omega⟩
    rw [F26_eq, F26]
    simp only [List.length_nil] at hl
    simp -implicitDefEqProofs only [sL, n2, hl, List.length_nil]
    rw [aLoop, F26_L0]
    simp -implicitDefEqProofs only [sL, upds_at, upds_nil, upd_at]
    rfl
  · obtain ⟨rows, rfl, hrow⟩ := row_is hv hne
    obtain ⟨N, q⟩ := validate_loop hrow hF hV A.length 0 (by omega) (by omega)
    refine ⟨N + A.length + 1, fun f hf => ?_⟩
    obtain ⟨s', q⟩ := q f (by omega) f (by omega) f (upds (argEnv [.agg [.sl 197 4 rows .sh]]) [(1, .box [.sl 197 4 rows .sh] 0), (2, I 0), (4, .box [.sl 197 4 rows .sh] 0), (5, .sl 197 4 rows .sh), (6, I A.length), (7, .bool false), (8, .box [.sl 197 4 rows .sh] 0), (9, .sl 197 4 rows .sh), (10, I A.length), (11, I 0)]) [] rfl rfl rfl
    refine ⟨s', ?_⟩
    rw [F26_eq, F26]
    simp -implicitDefEqProofs only [sL, n2, hl, strip_sh, z]
    exact q
end GrnF
end

section
set_option maxRecDepth 100000
set_option maxHeartbeats 1000000
namespace GrnF
open Go Go.Abs Go.Proofs ParF Pm Gt
theorem idxT_loop {ch : AV} {cs : List Tree} (hch : IsC cs ch) (hl : cs.length < 900000000) (fn : AV) (hfn : fn.strip = fn) (H : Nat → Heap)
    (step : ∀ (j : Nat) (h : j < cs.length) (a : AV), IsT cs[j] a → ∃ N, ∀ f, N ≤ f → aCallV Tryz.prog (den C f) fn [a] (H j) = some (.bool false, H (j + 1))) : ∀ (k i : Nat), cs.length - i = k → i ≤ cs.length →
    ∃ N, ∀ f, N ≤ f → ∀ r, k < r → ∀ n' e, e 8 = I i → e 7 = I cs.length → e 0 = ch → e 1 = fn → aLoop (F189_L0 (den C f) n') r e (H i) = some (I (-1), H cs.length) := by
  obtain ⟨hlen, hat⟩ := hch.facts
  obtain ⟨c1, c2, c3⟩ := hch.strip
  intro k
  induction k with
  | zero =>
    intro i hk hi
    refine ⟨0, fun f hf r hr n' e h8 h7 h0 h1 => ?_⟩
    obtain ⟨r, rfl⟩ : ∃ j, r = j + 1 := ⟨r - 1, by omega⟩
    have c : ¬ i < cs.length := by omega
    have hi' : i = cs.length := by omega
    subst hi'
    rw [aLoop, F189_L0]
    simp -implicitDefEqProofs only [sL, h8, h7, c, decide_false]
  | succ k ih =>
    intro i hk hi
    have c : i < cs.length := by omega
    obtain ⟨a, ha, hT⟩ := hat (List.getElem?_eq_getElem c)
    obtain ⟨a1, a2, a3, a4⟩ := hT.cells
    obtain ⟨N1, q1⟩ := step i c a hT
    obtain ⟨N2, q2⟩ := ih (i + 1) (by omega) (by omega)
    refine ⟨N1 + N2, fun f hf r hr n' e h8 h7 h0 h1 => ?_⟩
    obtain ⟨r, rfl⟩ : ∃ j, r = j + 1 := ⟨r - 1, by omega⟩
    have q1 := q1 f (by omega)
    have g := ParF.wadd1 (a := i) (by omega)
    have lda : ∀ s, aLoad false true 3 (.box a.cells 0) s = some (a, s) := fun s => by
      rw [aLoad_agg _ _ _ _ _ (by omega), List.drop_zero, List.take_of_length_le (by omega), ← a4]
    rw [aLoop, F189_L0]
    simp -implicitDefEqProofs only [sL, h8, h7, h0, h1, c, c1, hfn, ha, lda, q1, g]
    exact q2 f (by omega) r (by omega) n' _ (by simp only [upds_at, upds_nil, upd_at, if_true]) ((upds_get _ _ _ rfl).trans h7) ((upds_get _ _ _ rfl).trans h0) ((upds_get _ _ _ rfl).trans h1)
theorem fnw_noRef (v : AV) (g : Nat) (cs : List AV) (h : noRefL cs = false) : noRefL [v, .fn g [] cs] = false := by
  rw [noRefL_cons, noRefL_cons]; simp [AV.noRef, noRefL, h]
theorem contT_run {ch : AV} {cs : List Tree} (hch : IsC cs ch) (hl : cs.length < 900000000) (g : Nat) (cap : List AV) (hcap : noRefL cap = false) (H : Nat → Heap)
    (step : ∀ (j : Nat) (h : j < cs.length) (a : AV), IsT cs[j] a → ∃ N, ∀ f, N ≤ f → aCallV Tryz.prog (den C f) (.fn g [] cap) [a] (H j) = some (.bool false, H (j + 1))) :
    ∃ N, ∀ f, N ≤ f → aCall Tryz.prog (den C f) 117 [ch, .fn g [] cap] (H 0) = some (.bool false, H cs.length) := by
  obtain ⟨N, q⟩ := idxT_loop hch hl (.fn g [] cap) rfl H step cs.length 0 (by omega) (by omega)
  obtain ⟨hlen, hat⟩ := hch.facts
  obtain ⟨c1, c2, c3⟩ := hch.strip
  refine ⟨N + cs.length + 3, fun f hf => ?_⟩
  obtain ⟨f, rfl⟩ : ∃ j, f = j + 2 := ⟨f - 2, by omega⟩
  have q := q f (by omega) f (by omega) f (upds (argEnv [ch, .fn g [] cap]) [(4, I 0), (6, ch), (7, I cs.length), (8, I 0)]) rfl rfl rfl rfl
  have q1 : aCall Tryz.prog (den C (f + 1)) 189 [ch, .fn g [] cap] (H 0) = some (I (-1), H cs.length) := by
    unfold aCall
    rw [if_pos en189, if_neg (by rw [fnw_noRef _ _ _ hcap]; decide), F189_eq, F189]
    simp -implicitDefEqProofs only [sL, c1, hlen]
    exact q
  have z : decide ((0 : Int) ≤ -1) = false := by decide
  unfold aCall
  rw [if_pos en117, if_neg (by rw [fnw_noRef _ _ _ hcap]; decide), F117_eq, F117]
  simp -implicitDefEqProofs only [sL, c1, q1]
  rfl
theorem contT_pure {ch : AV} {cs : List Tree} (hch : IsC cs ch) (hl : cs.length < 900000000) (g : Nat)
    (step : ∀ (j : Nat) (h : j < cs.length) (a : AV), IsT cs[j] a → ∃ N, ∀ f, N ≤ f → aCallV Tryz.prog (den C f) (.fn g [] []) [a] [] = some (.bool false, [])) : AC C 117 [ch, .fn g [] []] (.bool false) := by
  obtain ⟨N, q⟩ := idxT_loop hch hl (.fn g [] []) rfl (fun _ => []) step cs.length 0 (by omega) (by omega)
  obtain ⟨hlen, hat⟩ := hch.facts
  obtain ⟨c1, c2, c3⟩ := hch.strip
  have nr : noRefL [ch, .fn g [] []] = true := by rw [noRefL_cons, noRefL_cons, noRefL_nil, c3]; rfl
  have q1 : AC C 189 [ch, .fn g [] []] (I (-1)) := by
    refine .intro en189 nr rfl ⟨N + cs.length + 1, fun f hf => ⟨[], ?_⟩⟩
    have q := q f (by omega) f (by omega) f (upds (argEnv [ch, .fn g [] []]) [(4, I 0), (6, ch), (7, I cs.length), (8, I 0)]) rfl rfl rfl rfl
    rw [F189_eq, F189]
    simp -implicitDefEqProofs only [sL, c1, hlen]
    exact q
  obtain ⟨N1, q1⟩ := LexF.AC.at q1
  have z : decide ((0 : Int) ≤ -1) = false := by decide
  refine .intro en117 nr rfl ⟨N1, fun f hf => ⟨[], ?_⟩⟩
  have q1 := q1 f hf
  rw [F117_eq, F117]
  simp -implicitDefEqProofs only [sL, c1, q1]
  rfl
theorem exc_run : ∀ (n : Nat) (T : Tree) (a : AV), szT T ≤ n → IsT T a → ∀ (d l left : Nat) (s : Heap), s[l]? = some (3, [I left]) → szT T ≤ left → left < 900000000 → d + dpT T ≤ 201 →
    ∃ N, ∀ f, N ≤ f → aCall Tryz.prog (den C f) 62 [a, I d, .ref l 0] s = some (.bool false, s.set l (3, [I (left - szT T : Nat)])) := by
  intro n
  induction n with
  | zero => intro T a hz; cases T; rw [szT_mk] at hz; omega
  | succ n ih =>
    intro T a hz hT d l left s hs hle hlt hd
    obtain ⟨a1, a2, a3, a4⟩ := hT.cells
    have hst : a.strip = a := by rw [a4]; rfl
    have hsol : a.solid = true := by rw [a4]; rfl
    cases hT with
    | mk k t cs ch hch =>
    rw [szT_mk] at hz hle
    rw [dpT_mk] at hd
    obtain ⟨c1, c2, c3⟩ := hch.strip
    have hcl := len_le_sz cs
    have hll := glt hs
    let H : Nat → Heap := fun j => s.set l (3, [I (left - 1 - szL (cs.take j) : Nat)])
    obtain ⟨N, q⟩ := contT_run hch (by omega) 118 [.box [I d] 0, .box [.ref l 0] 0] (by simp [noRefL, AV.noRef]) H (fun j hj b hb => by
      have hszj : szL (cs.take (j + 1)) = szL (cs.take j) + szT cs[j] := by
        rw [List.take_succ, List.getElem?_eq_getElem hj]
        show szL (cs.take j ++ [cs[j]]) = _
        rw [szL_append, szL_one]
      have hsz2 : szL (cs.take (j + 1)) ≤ szL cs := by
        have := szL_append (cs.take (j + 1)) (cs.drop (j + 1))
        rw [List.take_append_drop] at this; omega
      have hdp : dpT cs[j] ≤ dpL cs := by
        have : ∀ (cs : List Tree) (t : Tree), t ∈ cs → dpT t ≤ dpL cs := by
          intro cs t
          induction cs with
          | nil => intro h; cases h
          | cons c cs ih =>
            intro h
            rw [dpL]
            rcases List.mem_cons.1 h with rfl | h
            · exact Nat.le_max_left _ _
            · exact Nat.le_trans (ih h) (Nat.le_max_right _ _)
        exact this cs _ (List.getElem_mem hj)
      obtain ⟨N, q⟩ := ih cs[j] b (by omega) hb (d + 1) l (left - 1 - szL (cs.take j)) (H j) (by show (s.set l _)[l]? = _; exact gset_eq hs) (by omega) (by omega) (by omega)
      obtain ⟨b1, b2, b3, b4⟩ := hb.cells
      have hstb : b.strip = b := by rw [b4]; rfl
      have hsolb : b.solid = true := by rw [b4]; rfl
      refine ⟨N + 1, fun f hf => ?_⟩
      obtain ⟨f, rfl⟩ : ∃ j, f = j + 1 := ⟨f - 1, by omega⟩
      have q := q f (by omega)
      have hH : (H j).set l (3, [I (left - 1 - szL (cs.take j) - szT cs[j] : Nat)]) = H (j + 1) := by
        show (s.set l _).set l _ = s.set l _
        rw [List.set_set, hszj, Nat.sub_sub (left - 1)]
      rw [hH] at q
      have lda : ∀ s, aLoad false true 3 (.box b.cells 0) s = some (b, s) := fun s => by
        rw [aLoad_agg _ _ _ _ _ (by omega), List.drop_zero, List.take_of_length_le (by omega), ← b4]
      have bx : aBox false 52 b (H j) = some (.box b.cells 0, H j) := aBox_f _ _ _ hsolb
      have g := ParF.wadd1 (a := d) (by omega)
      show aCall Tryz.prog (den C (f + 1)) 118 ([b, .box [I d] 0, .box [.ref l 0] 0].map AV.strip) (H j) = _
      rw [List.map_cons, hstb]
      show aCall Tryz.prog (den C (f + 1)) 118 [b, .box [I d] 0, .box [.ref l 0] 0] (H j) = _
      unfold aCall
      rw [if_pos en118, if_neg (by rw [noRefL_cons, noRefL_cons, noRefL_cons]; simp [AV.noRef, noRefL]), F118_eq, F118]
      simp -implicitDefEqProofs only [sL, bx, lda, hstb, g, q])
    refine ⟨N + 1, fun f hf => ?_⟩
    obtain ⟨f, rfl⟩ : ∃ j, f = j + 1 := ⟨f - 1, by omega⟩
    have q := q f (by omega)
    have e0 : H 0 = s.set l (3, [I (left - 1 : Nat)]) := by
      show s.set l _ = _
      rw [List.take_zero, szL]; rfl
    have e1 : H cs.length = s.set l (3, [I (left - szT (.mk k t cs) : Nat)]) := by
      show s.set l _ = _
      rw [List.take_length, szT_mk, Nat.sub_sub]
    rw [e0, e1] at q
    have l0 : aLoad false false 1 (.ref l 0) s = some (I left, s) := ld (o := 0) (v := I left) hs (by decide) rfl (by decide)
    have st1 : aStore 1 s (.ref l 0) (I (left - 1 : Nat)) = some (s.set l (3, [I (left - 1 : Nat)])) := by
      rw [ParF.st (n := 1) (o := 0) (v := I (left - 1 : Nat)) hs (by decide) rfl rfl (Nat.le_refl 1)]; rfl
    have l1 : aLoad false false 1 (.ref l 0) (s.set l (3, [I (left - 1 : Nat)])) = some (I (left - 1 : Nat), s.set l (3, [I (left - 1 : Nat)])) := ld (o := 0) (v := I (left - 1 : Nat)) (gset_eq hs) (by decide) rfl (by decide)
    have w1 : IntKind.i64.wrap ((left : Int) - 1) = ((left - 1 : Nat) : Int) := by rw [wrap64] <;> omega
    have z1 : ¬ (((left - 1 : Nat) : Int) < 0) := by omega
    have z2 : ¬ ((200 : Int) < (d : Int)) := by omega
    have sr : ∀ i o, (AV.ref i o).solid = true := fun _ _ => rfl
    have si : ∀ i : Int, (AV.int .i64 i).solid = true := fun _ => rfl
    have cr : ∀ i o, (AV.ref i o).cells = [.ref i o] := fun _ _ => rfl
    have nc : ∀ i o, aNilCheck (.ref i o) = some (.ref i o) := fun _ _ => rfl
    unfold aCall
    rw [if_pos en62, if_neg (by rw [noRefL_cons, noRefL_cons, noRefL_cons]; simp [AV.noRef, noRefL]), F62_eq, F62]
    simp -implicitDefEqProofs only [sL, sr, si, cr, cells_int, l0, l1, st1, w1, z1, z2, c1, q]
theorem tree_run : ∀ (n : Nat) (T : Tree) (a : AV), szT T ≤ n → IsT T a → okT T = true → szT T < 900000000 → AC C 63 [a] (.bool true) := by
  intro n
  induction n with
  | zero => intro T a hz; cases T; rw [szT_mk] at hz; omega
  | succ n ih =>
    intro T a hz hT ho hsz
    have nr : noRefL [a] = true := by rw [noRefL_cons, noRefL_nil, hT.noRef]; rfl
    cases hT with
    | mk k t cs ch hch =>
    rw [szT_mk] at hz hsz
    rw [okT, Bool.and_eq_true] at ho
    obtain ⟨c1, c2, c3⟩ := hch.strip
    obtain ⟨hlen, hat⟩ := hch.facts
    have hcl := len_le_sz cs
    obtain ⟨N, q⟩ := LexF.AC.at (contT_pure hch (by omega) 119 (fun j hj b hb => by
      have hm := List.getElem_mem hj
      have := szL_mem _ hm
      obtain ⟨N, q⟩ := LexF.AC.at (ih cs[j] b (by omega) hb (okL_of ho.2 hm) (by omega))
      obtain ⟨b1, b2, b3, b4⟩ := hb.cells
      have hstb : b.strip = b := by rw [b4]; rfl
      have hsolb : b.solid = true := by rw [b4]; rfl
      have nrb : noRefL [b] = true := by rw [noRefL_cons, noRefL_nil, hb.noRef]; rfl
      have lda : ∀ s, aLoad false true 3 (.box b.cells 0) s = some (b, s) := fun s => by
        rw [aLoad_agg _ _ _ _ _ (by omega), List.drop_zero, List.take_of_length_le (by omega), ← b4]
      have h2 : AC C 119 [b] (.bool false) := by
        refine .intro en119 nrb rfl ⟨N, fun f hf => ⟨[], ?_⟩⟩
        have q := q f hf
        have bx : aBox false 52 b [] = some (.box b.cells 0, []) := aBox_f _ _ _ hsolb
        rw [F119_eq, F119]
        simp -implicitDefEqProofs only [sL, bx, lda, hstb, q]
      obtain ⟨N2, q2⟩ := LexF.AC.at h2
      refine ⟨N2, fun f hf => ?_⟩
      show aCall Tryz.prog (den C f) 119 ([b].map AV.strip) [] = _
      rw [List.map_cons, hstb]
      exact q2 f hf []))
    refine .intro en63 nr rfl ⟨N, fun f hf => ⟨[], ?_⟩⟩
    have q := q f hf
    have t9 : ∀ x : List UInt8, aBin Tryz.prog .neq 9 (.str x) (.str []) = some (.bool !(x == [])) := fun x => by simp [aBin, strBin]
    rw [F63_eq, F63]
    by_cases hk : 100 ≤ k
    · have h1 := ho.1
      rw [if_pos hk] at h1
      have hcs : cs = [] := by simpa using h1
      subst hcs
      have z2 : (100 : Int) ≤ (k : Int) := by omega
      simp only [List.length_nil] at hlen
      have z3 : ¬ ((0 : Int) < ((0 : Nat) : Int)) := by decide
      simp -implicitDefEqProofs only [sL, z2, z3, c1, hlen, t9, q]
    · have h1 := ho.1
      rw [if_neg hk] at h1
      have ht : t = [] := by simpa using h1
      subst ht
      have z2 : ¬ (100 : Int) ≤ (k : Int) := by omega
      have z4 : (!(([] : List UInt8) == [])) = false := rfl
      simp -implicitDefEqProofs only [sL, z2, z4, c1, t9, q]
end GrnF
end

section
set_option maxRecDepth 100000
set_option maxHeartbeats 1000000
namespace GrnF
open Go Go.Abs Go.Proofs ParF Pm Gt
def rid : AV → Option Nat
  | .rs _ _ R _ _ => some R
  | _ => none
def RowAt (s : Heap) (v : AV) (A : Ar) : Prop := (v = .nils ∧ A = []) ∨ ∃ R rows, v = .rs 197 4 R 0 A.length ∧ s[R]? = some (197, cellsOf rows) ∧ IsRow rows A ∧ A ≠ []
theorem RowAt.frame {s s' : Heap} {v : AV} {A : Ar} (h : RowAt s v A) (k : ∀ R, rid v = some R → s'[R]? = s[R]?) : RowAt s' v A := by
  rcases h with h | ⟨R, rows, rfl, h2, h3⟩
  · exact .inl h
  · exact .inr ⟨R, rows, rfl, (k R rfl).trans h2, h3⟩
theorem RowAt.strip {s : Heap} {v : AV} {A : Ar} (h : RowAt s v A) : v.strip = v := by
  rcases h with ⟨rfl, _⟩ | ⟨R, rows, rfl, _⟩ <;> rfl
theorem RowAt.lt {s : Heap} {v : AV} {A : Ar} (h : RowAt s v A) : ∀ R, rid v = some R → R < s.length := by
  rcases h with ⟨rfl, _⟩ | ⟨R, rows, rfl, h2, h3⟩
  · nofun
  · intro R' e; cases e; exact glt h2
theorem IsRow.four {rows : List AV} {A : Ar} (h : IsRow rows A) : ∀ a ∈ rows, a.cells.length = 4 := by
  intro a ha
  obtain ⟨i, hi⟩ := List.mem_iff_getElem?.1 ha
  have hlt : i < A.length := by rw [← h.1]; exact (List.getElem?_eq_some_iff.1 hi).1
  obtain ⟨b, h1, h2⟩ := h.2 i _ (List.getElem?_eq_getElem hlt)
  rw [hi] at h1; cases h1
  exact h2.facts.2.2.1
theorem cells_at : ∀ {rows : List AV} (i : Nat) (a : AV), (∀ a ∈ rows, a.cells.length = 4) → rows[i]? = some a → (cellsOf rows).drop (i * 4) = a.cells ++ cellsOf (rows.drop (i + 1))
  | [], i, a, _, h => by simp at h
  | x :: rows, 0, a, h4, h => by
    simp at h; subst h
    rw [Nat.zero_mul, List.drop_zero]; rfl
  | x :: rows, i + 1, a, h4, h => by
    have hx := h4 x (List.mem_cons_self ..)
    have e : cellsOf (x :: rows) = x.cells ++ cellsOf rows := rfl
    rw [e, show (i + 1) * 4 = x.cells.length + i * 4 by rw [hx]; omega, List.drop_append, List.drop_of_length_le (by omega), List.nil_append, Nat.add_sub_cancel_left]
    exact cells_at i a (fun b hb => h4 b (List.mem_cons_of_mem _ hb)) (by simpa using h)
theorem cells_len : ∀ {rows : List AV}, (∀ a ∈ rows, a.cells.length = 4) → (cellsOf rows).length = rows.length * 4
  | [], _ => rfl
  | x :: rows, h4 => by
    have e : cellsOf (x :: rows) = x.cells ++ cellsOf rows := rfl
    rw [e, List.length_append, h4 x (List.mem_cons_self ..), cells_len (fun b hb => h4 b (List.mem_cons_of_mem _ hb)), List.length_cons]; omega
theorem RowAt.arr {s : Heap} {v : AV} {A : Ar} (h : RowAt s v A) : Arr v A s := by
  rcases h with ⟨rfl, rfl⟩ | ⟨R, rows, rfl, h2, h3, h4⟩
  · exact ⟨rfl, by simp [aLen, u56], fun i n hn => by simp at hn⟩
  · refine ⟨rfl, by simp [aLen, u56], fun i n hn => ?_⟩
    obtain ⟨a, e1, e2⟩ := h3.2 i n hn
    have hi := (List.getElem?_eq_some_iff.1 hn).1
    obtain ⟨f1, f2, f3, f4, f5, f6⟩ := e2.facts
    have hd := cells_at i a h3.four e1
    have hl := cells_len h3.four
    rw [h3.1] at hl
    refine ⟨.ref R (i * 4), a, .ref R (i * 4 + 1), ?_, ?_, rfl, ?_, e2⟩
    · simp [aIndexAddr, u56, sz197, hi]
    · rw [ldA (o := i * 4) h2 (by decide) (by omega) (by decide), hd, List.take_append_of_le_length (by omega), List.take_of_length_le (by omega), ← f5]
    · have hc : (cellsOf rows)[i * 4 + 1]? = some (I n.width) := by
        have : (cellsOf rows)[i * 4 + 1]? = ((cellsOf rows).drop (i * 4))[1]? := by rw [List.getElem?_drop]
        rw [this, hd, List.getElem?_append_left (by omega)]
        obtain ⟨c, c', rfl, _⟩ := e2
        rfl
      exact ld h2 (by decide) hc (by decide)
theorem info197 : (Tryz.prog.info? 197).map (fun i => (i.size, i.zero.map (·.cells.size), decide (i.bytes ≤ 56))) = some (4, some 4, true) := by kernel_rfl
theorem i197 : ∃ i zv, Tryz.prog.info? 197 = some i ∧ i.size = 4 ∧ i.zero = some zv ∧ zv.cells.size = 4 ∧ i.bytes ≤ 56 := by
  have h := info197
  cases hi : Tryz.prog.info? 197 with
  | none => rw [hi] at h; cases h
  | some i =>
    rw [hi] at h
    simp only [Option.map_some, Option.some.injEq, Prod.mk.injEq, decide_eq_true_eq] at h
    obtain ⟨h1, h2, h3⟩ := h
    cases hz : i.zero with
    | none => rw [hz] at h2; cases h2
    | some zv =>
      rw [hz] at h2
      simp only [Option.map_some, Option.some.injEq] at h2
      exact ⟨i, zv, rfl, h1, hz, h2, h3⟩
theorem appN_nil (s : Heap) {a : AV} (h4 : a.cells.length = 4) : aRsAppend Tryz.prog 56 56 .nils (.sl 197 4 [a] .own) s = some (.rs 197 4 s.length 0 1, s ++ [(197, a.cells.map AV.strip)]) := by
  obtain ⟨i, zv, hi, h1, hz, h2, h3⟩ := i197
  have hb : bound i 1 := ⟨by omega, by omega⟩
  have e : cellsOf [a] = a.cells := by show a.cells ++ [] = _; rw [List.append_nil]
  simp [aRsAppend, u56, hi, srcOf, h1, hz, h2, hb, deadTy, e]
theorem appN_rs {s : Heap} {id len : Nat} {cs : List AV} {a : AV} (h4 : a.cells.length = 4) (h : s[id]? = some (197, cs)) (hl : len * 4 ≤ cs.length) (hne : cs ≠ []) (hn : len < 1000000000) :
    aRsAppend Tryz.prog 56 56 (.rs 197 4 id 0 len) (.sl 197 4 [a] .own) s = some (.rs 197 4 s.length 0 (len + 1), kill s id ++ [(197, cs.take (len * 4) ++ a.cells.map AV.strip)]) := by
  obtain ⟨i, zv, hi, h1, hz, h2, h3⟩ := i197
  have hb : bound i (len + 1) := ⟨by
    have : (2 * (len + 1) + 768) * i.bytes ≤ (2 * (len + 1) + 768) * 56 := Nat.mul_le_mul_left _ h3
    omega, by omega⟩
  have e : cellsOf [a] = a.cells := by show a.cells ++ [] = _; rw [List.append_nil]
  simp [aRsAppend, u56, hi, srcOf, h1, hz, h2, hb, deadTy, e, h, hl, hne]
theorem IsN.stripped {a : AV} {n : N} (h : IsN a n) : ∃ b, a.cells.map AV.strip = b.cells ∧ IsN b n ∧ b.cells.length = 4 := by
  obtain ⟨c, c', rfl, ec, hc⟩ := h
  refine ⟨nodeA n c', ?_, ⟨c', c', rfl, hc.strip.1, hc⟩, rfl⟩
  show [(I n.kind).strip, (I n.width).strip, (AV.str n.text).strip, c.strip] = _
  rw [ec]; rfl
theorem IsRow.snoc {rows : List AV} {A : Ar} {a : AV} {n : N} (h : IsRow rows A) (ha : IsN a n) : IsRow (rows ++ [a]) (A ++ [n]) := by
  refine ⟨by rw [List.length_append, List.length_append, h.1]; rfl, fun i m hm => ?_⟩
  by_cases hi : i < A.length
  · rw [List.getElem?_append_left hi] at hm
    rw [List.getElem?_append_left (by rw [h.1]; exact hi)]
    exact h.2 i m hm
  · rw [List.getElem?_append_right (by omega)] at hm
    have hi0 : i - A.length = 0 := by have := (List.getElem?_eq_some_iff.1 hm).1; simp at this; omega
    rw [hi0] at hm
    simp at hm; subst hm
    rw [List.getElem?_append_right (by rw [h.1]; omega), h.1, hi0]
    exact ⟨a, rfl, ha⟩
theorem push_node {s : Heap} {v : AV} {A : Ar} (h : RowAt s v A) (hA : A.length < 900000) {a : AV} {n : N} (ha : IsN a n) :
    ∃ s1, aRsAppend Tryz.prog 56 56 v (.sl 197 4 [a] .own) s = some (.rs 197 4 s.length 0 (A.length + 1), s1) ∧ s1.length = s.length + 1 ∧ RowAt s1 (.rs 197 4 s.length 0 (A ++ [n]).length) (A ++ [n]) ∧ ∀ x, x < s.length → rid v ≠ some x → s1[x]? = s[x]? := by
  have h4 := ha.facts.2.2.1
  obtain ⟨b, eb, hb, hb4⟩ := ha.stripped
  rcases h with ⟨rfl, rfl⟩ | ⟨R, rows, rfl, h2, h3, hne⟩
  · refine ⟨_, appN_nil s h4, app_length _ _, .inr ⟨s.length, [b], rfl, ?_, ?_, by simp⟩, fun x hx _ => gapp_old hx⟩
    · rw [gapp_new, eb]; show _ = some (197, b.cells ++ []); rw [List.append_nil]
    · exact IsRow.snoc (rows := []) (A := []) ⟨rfl, fun i n hn => by simp at hn⟩ hb
  · have hl := cells_len h3.four
    rw [h3.1] at hl
    have hne' : cellsOf rows ≠ [] := by
      intro e
      rw [e] at hl
      have : A.length = 0 := by simp at hl; omega
      exact hne (List.length_eq_zero_iff.1 this)
    have e1 := appN_rs (len := A.length) h4 h2 (by omega) hne' (by omega)
    rw [List.take_of_length_le (by omega), eb] at e1
    refine ⟨_, e1, by rw [app_length, kill_length], .inr ⟨s.length, rows ++ [b], rfl, ?_, h3.snoc hb, by simp⟩, fun x hx hn => ?_⟩
    · have := gapp_new (s := kill s R) (x := (197, cellsOf rows ++ b.cells))
      rw [kill_length] at this
      rw [cellsOf_snoc]; exact this
    · rw [gapp_old (by rw [kill_length]; exact hx), gkill_ne (fun e => hn (by rw [e]; rfl))]
theorem info3' : ((Tryz.prog.info? 3).map fun i => (i.size, i.bytes, i.zero.map fun z => z.cells.size)) = some (1, 8, some 1) := by kernel_rfl
theorem info3 : ∃ i, Tryz.prog.info? 3 = some i ∧ i.size = 1 ∧ i.bytes = 8 ∧ ∃ z, i.zero = some z ∧ z.cells.size = 1 := by
  have h := info3'
  rw [Option.map_eq_some_iff] at h
  obtain ⟨i, h1, h2⟩ := h
  simp only [Prod.mk.injEq, Option.map_eq_some_iff] at h2
  exact ⟨i, h1, h2.1, h2.2.1, h2.2.2⟩
theorem copyI_run {c : AV} {zs : List Nat} (hc : IsI c zs) (hl : zs.length < 900000) : ∃ d, AC C 84 [c] d ∧ IsI d.strip zs ∧ d.solid = true ∧ d.cells.length = 1 ∧ stCells d = [d] ∧ plainC d = true := by
  rcases hc with rfl | ⟨rfl, rfl⟩
  · refine ⟨.sl 3 1 (ints zs) .own, .intro en84 (by rw [noRefL_cons, noRefL_nil, noRef_sl, ints_noRef]; rfl) (by rw [noRef_sl, ints_noRef]) ⟨0, fun f hf => ⟨[], ?_⟩⟩, .inl rfl, rfl, rfl, rfl, rfl⟩
    have e1 : aBin Tryz.prog .eql 76 (.sl 3 1 (ints zs) .sh) .nils = some (.bool false) := by
      have : aEq Tryz.prog 6 76 (.sl 3 1 (ints zs) .sh) .nils = some false := by simp [aEq, u76]
      simp [aBin, this, eqOp]
    have e2 : aBuildSlice Tryz.prog 76 0 [] = some (.sl 3 1 [] .own) := by kernel_rfl
    have e3 : aAppend Tryz.prog 76 76 (.sl 3 1 [] .own) (.sl 3 1 (ints zs) .sh) = some (.sl 3 1 (ints zs) .own) := by
      obtain ⟨i, h1, h2, h3, z, h4, h5⟩ := info3
      unfold aAppend
      rw [u76]
      simp only [h1, h2, srcOf, if_true, h4, h5, ne_eq, not_true, if_false, h3, List.nil_append, List.length_nil, List.length_map]
      rw [if_pos ⟨trivial, trivial, by omega, by omega⟩]
    rw [F84_eq, F84]
    simp -implicitDefEqProofs only [sL, strip_sh, e1, e2, e3]
  · refine ⟨.nils, .intro en84 rfl rfl ⟨0, fun f hf => ⟨[], ?_⟩⟩, .inr ⟨rfl, rfl⟩, rfl, rfl, rfl, rfl⟩
    have e1 : aBin Tryz.prog .eql 76 .nils .nils = some (.bool true) := by kernel_rfl
    rw [F84_eq, F84]
    simp -implicitDefEqProofs only [sL, e1]
end GrnF
end
