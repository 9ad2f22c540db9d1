/- Printed by gen.py: the functions, unfolded. -/
import Derived.Test.YtionohfkjdahlaaDoorLexC
set_option maxRecDepth 10000
set_option linter.all false
namespace LexF
open Go Go.Abs Go.Proofs

-- glossatorkeep1.LexerLossless
noncomputable def F6_L0 (D : Den) (n : Nat) (k0 : Env → Heap → Ans) (e : Env) (s : Heap) : Ans :=
  oh (mp (aBin Tryd.prog .lss 3 (e 29) (e 28)) s) fun t30 s =>
  br t30
    (oh (mp (aIndexAddr Tryd.prog 35 (e 27) (e 29)) s) fun t31 s =>
  oh (aLoad false true 2 t31 s) fun t32 s =>
  oh (aAlloc Tryd.prog 39 s) fun t6 s =>
  oh (sto (aStore 2 s t6 t32)) fun _r s =>
  oh (mp (aAddr 1 t6) s) fun t33 s =>
  oh (aLoad false false 1 t33 s) fun t34 s =>
  oh (mp (aBin Tryd.prog .eql 9 t34 (.str [])) s) fun t35 s =>
  br t35
    (oh (some ((.bool false), s)) fun t2_4 s =>
  some (t2_4, s))
    (oh (mp (aBin Tryd.prog .add 3 (e 29) (.int .i64 1)) s) fun t36 s =>
  oh (some (t36.strip, s)) fun t29_2 s =>
  k0 (upds e [(30, t30), (31, t31), (32, t32), (6, t6), (32, t32.strip), (33, t33), (34, t34), (35, t35), (36, t36), (29, t29_2)]) s))
    (oh (aCall Tryd.prog D 18 [] s) fun t37 s =>
  oh (some (t37.strip, s)) fun t38 s =>
  oh (gd (wA t38 true) s (some ((e 3).strip, s))) fun t39 s =>
  oh (gd (wA t38 true) s (aCall Tryd.prog D 20 [t39.strip] s)) fun t40 s =>
  oh (gd (wA t38 true) s (some ((e 0).strip, s))) fun t41 s =>
  oh (gd (wA t38 true) s (mp (aBin Tryd.prog .eql 9 t40 t41) s)) fun t42 s =>
  oh (mp (aPick t38 t42 (.bool false)) s) fun t43 s =>
  oh (some (t43, s)) fun t2_5 s =>
  some (t2_5, s))

noncomputable def F6 (D : Den) (n : Nat) (t0 : AV) (s : Heap) : Ans :=
  oh (some ((.bool false), s)) fun t2 s =>
  oh (aCall Tryd.prog D 18 [] s) fun t7 s =>
  oh (mp (aUn .not t7) s) fun t8 s =>
  br t8
    (oh (some ((.bool false), s)) fun t2_2 s =>
  some (t2_2, s))
    (oh (some (t0.strip, s)) fun t10 s =>
  oh (aCall Tryd.prog D 19 [t10.strip] s) fun t11 s =>
  oh (some (t11.strip, s)) fun t9 s =>
  oh (mp (aExtract 0 t9) s) fun t12 s =>
  oh (mp (aExtract 1 t9) s) fun t13 s =>
  oh (some (t12, s)) fun t3 s =>
  oh (some (t13, s)) fun t4 s =>
  oh (some (t4.strip, s)) fun t14 s =>
  oh (mp (aBin Tryd.prog .neq 26 t14 (.int .i64 0)) s) fun t15 s =>
  br t15
    (oh (aCall Tryd.prog D 18 [] s) fun t16 s =>
  oh (some (t16.strip, s)) fun t17 s =>
  oh (gd (wA t17 true) s (some (t0.strip, s))) fun t18 s =>
  oh (gd (wA t17 true) s (mp (aLen Tryd.prog 9 t18) s)) fun t19 s =>
  oh (gd (wA t17 true) s (mp (aBin Tryd.prog .gtr 3 t19 (.int .i64 2000)) s)) fun t20 s =>
  oh (mp (aPick t17 t20 (.bool false)) s) fun t21 s =>
  oh (some (t21.strip, s)) fun t22 s =>
  oh (gd (wA t22 true) s (some (t3.strip, s))) fun t23 s =>
  oh (gd (wA t22 true) s (mp (aLen Tryd.prog 35 t23) s)) fun t24 s =>
  oh (gd (wA t22 true) s (mp (aBin Tryd.prog .eql 3 t24 (.int .i64 0)) s)) fun t25 s =>
  oh (mp (aPick t22 t25 (.bool false)) s) fun t26 s =>
  oh (some (t26, s)) fun t2_3 s =>
  some (t2_3, s))
    (oh (some (t3.strip, s)) fun t27 s =>
  oh (mp (aLen Tryd.prog 35 t27) s) fun t28 s =>
  oh (some ((.int .i64 0), s)) fun t29 s =>
  aLoop (F6_L0 D n) n (upds (argEnv [t0]) [(2, t2), (7, t7), (8, t8), (10, t10), (11, t11), (9, t9), (12, t12), (13, t13), (12, t12.strip), (3, t3), (13, t13.strip), (4, t4), (14, t14), (15, t15), (27, t27), (28, t28), (29, t29)]) s))

theorem F6_eq (n : Nat) (t0 : AV) (s : Heap) : den C (n + 1) 6 [t0] s = F6 (den C n) n t0 s :=
  (den_body rfl Tryd.func6 _ _).trans (by kernel_rfl)
theorem en6 : enterable Tryd.prog 6 = true := by kernel_rfl

-- glossatorkeep1.LexerResumes
noncomputable def F7 (D : Den) (n : Nat) (t0 t1 : AV) (s : Heap) : Ans :=
  oh (some ((.bool false), s)) fun t4 s =>
  oh (aCall Tryd.prog D 18 [] s) fun t10 s =>
  oh (mp (aUn .not t10) s) fun t11 s =>
  br t11
    (oh (some ((.bool false), s)) fun t4_2 s =>
  some (t4_2, s))
    (oh (some (t0.strip, s)) fun t13 s =>
  oh (aCall Tryd.prog D 19 [t13.strip] s) fun t14 s =>
  oh (some (t14.strip, s)) fun t12 s =>
  oh (mp (aExtract 0 t12) s) fun t15 s =>
  oh (mp (aExtract 1 t12) s) fun t16 s =>
  oh (some (t15, s)) fun t5 s =>
  oh (some (t16, s)) fun t6 s =>
  oh (some (t6.strip, s)) fun t17 s =>
  oh (mp (aBin Tryd.prog .neq 26 t17 (.int .i64 0)) s) fun t18 s =>
  oh (some (t18.strip, s)) fun t19 s =>
  oh (gd (wA t19 false) s (some (t5.strip, s))) fun t20 s =>
  oh (gd (wA t19 false) s (mp (aLen Tryd.prog 35 t20) s)) fun t21 s =>
  oh (gd (wA t19 false) s (mp (aBin Tryd.prog .eql 3 t21 (.int .i64 0)) s)) fun t22 s =>
  oh (mp (aPick t19 (.bool true) t22) s) fun t23 s =>
  br t23
    (oh (aCall Tryd.prog D 18 [] s) fun t24 s =>
  oh (some (t24.strip, s)) fun t25 s =>
  oh (gd (wA t25 true) s (some (t6.strip, s))) fun t26 s =>
  oh (gd (wA t25 true) s (mp (aBin Tryd.prog .eql 26 t26 (.int .i64 0)) s)) fun t27 s =>
  oh (gd (wA t25 true) s (some (t27.strip, s))) fun t28 s =>
  oh (gd (wA t28 false) s (some (t0.strip, s))) fun t29 s =>
  oh (gd (wA t28 false) s (mp (aLen Tryd.prog 9 t29) s)) fun t30 s =>
  oh (gd (wA t28 false) s (mp (aBin Tryd.prog .gtr 3 t30 (.int .i64 2000)) s)) fun t31 s =>
  oh (gd (wA t25 true) s (mp (aPick t28 (.bool true) t31) s)) fun t32 s =>
  oh (mp (aPick t25 t32 (.bool false)) s) fun t33 s =>
  oh (some (t33, s)) fun t4_3 s =>
  some (t4_3, s))
    (oh (some (t1.strip, s)) fun t34 s =>
  oh (some (t5.strip, s)) fun t35 s =>
  oh (mp (aLen Tryd.prog 35 t35) s) fun t36 s =>
  oh (mp (aBin Tryd.prog .add 3 t36 (.int .i64 1)) s) fun t37 s =>
  oh (aCall Tryd.prog D 21 [t34.strip, t37.strip] s) fun t38 s =>
  oh (some (t38, s)) fun t7 s =>
  oh (some (t5.strip, s)) fun t40 s =>
  oh (some (t7.strip, s)) fun t41 s =>
  oh (mp (aSl Tryd.prog 35 t40 (some t41) none none) s) fun t42 s =>
  oh (aCall Tryd.prog D 20 [t42.strip] s) fun t43 s =>
  oh (aCall Tryd.prog D 19 [t43.strip] s) fun t44 s =>
  oh (some (t44.strip, s)) fun t39 s =>
  oh (mp (aExtract 0 t39) s) fun t45 s =>
  oh (mp (aExtract 1 t39) s) fun t46 s =>
  oh (some (t45, s)) fun t8 s =>
  oh (some (t46, s)) fun t9 s =>
  oh (aCall Tryd.prog D 18 [] s) fun t47 s =>
  oh (some (t47.strip, s)) fun t48 s =>
  oh (gd (wA t48 true) s (some (t9.strip, s))) fun t49 s =>
  oh (gd (wA t48 true) s (mp (aBin Tryd.prog .eql 26 t49 (.int .i64 0)) s)) fun t50 s =>
  oh (mp (aPick t48 t50 (.bool false)) s) fun t51 s =>
  oh (some (t51.strip, s)) fun t52 s =>
  oh (gd (wA t52 true) s (some (t8.strip, s))) fun t53 s =>
  oh (gd (wA t52 true) s (some (t5.strip, s))) fun t54 s =>
  oh (gd (wA t52 true) s (some (t7.strip, s))) fun t55 s =>
  oh (gd (wA t52 true) s (mp (aSl Tryd.prog 35 t54 (some t55) none none) s)) fun t56 s =>
  oh (gd (wA t52 true) s (aCall Tryd.prog D 22 [t53.strip, t56.strip] s)) fun t57 s =>
  oh (mp (aPick t52 t57 (.bool false)) s) fun t58 s =>
  oh (some (t58, s)) fun t4_4 s =>
  some (t4_4, s)))

theorem F7_eq (n : Nat) (t0 t1 : AV) (s : Heap) : den C (n + 1) 7 [t0, t1] s = F7 (den C n) n t0 t1 s :=
  (den_body rfl Tryd.func7 _ _).trans (by kernel_rfl)
theorem en7 : enterable Tryd.prog 7 = true := by kernel_rfl

-- glossatorkeep1.LexerLines
noncomputable def F8 (D : Den) (n : Nat) (t0 t1 : AV) (s : Heap) : Ans :=
  oh (some ((.bool false), s)) fun t4 s =>
  oh (aCall Tryd.prog D 18 [] s) fun t12 s =>
  oh (mp (aUn .not t12) s) fun t13 s =>
  br t13
    (oh (some ((.bool false), s)) fun t4_2 s =>
  some (t4_2, s))
    (oh (some (t0.strip, s)) fun t14 s =>
  oh (aCall Tryd.prog D 12 [t14.strip, (.int .i64 900)] s) fun t15 s =>
  oh (some (t1.strip, s)) fun t16 s =>
  oh (aCall Tryd.prog D 12 [t16.strip, (.int .i64 900)] s) fun t17 s =>
  oh (some (t15, s)) fun t0_2 s =>
  oh (some (t17, s)) fun t1_2 s =>
  oh (some (t0_2.strip, s)) fun t19 s =>
  oh (aCall Tryd.prog D 19 [t19.strip] s) fun t20 s =>
  oh (some (t20.strip, s)) fun t18 s =>
  oh (mp (aExtract 0 t18) s) fun t21 s =>
  oh (mp (aExtract 1 t18) s) fun t22 s =>
  oh (some (t21, s)) fun t5 s =>
  oh (some (t22, s)) fun t6 s =>
  oh (some (t1_2.strip, s)) fun t24 s =>
  oh (aCall Tryd.prog D 19 [t24.strip] s) fun t25 s =>
  oh (some (t25.strip, s)) fun t23 s =>
  oh (mp (aExtract 0 t23) s) fun t26 s =>
  oh (mp (aExtract 1 t23) s) fun t27 s =>
  oh (some (t26, s)) fun t7 s =>
  oh (some (t27, s)) fun t8 s =>
  oh (some (t0_2.strip, s)) fun t29 s =>
  oh (mp (aBin Tryd.prog .add 9 t29 (.str [10])) s) fun t30 s =>
  oh (some (t1_2.strip, s)) fun t31 s =>
  oh (mp (aBin Tryd.prog .add 9 t30 t31) s) fun t32 s =>
  oh (aCall Tryd.prog D 19 [t32.strip] s) fun t33 s =>
  oh (some (t33.strip, s)) fun t28 s =>
  oh (mp (aExtract 0 t28) s) fun t34 s =>
  oh (mp (aExtract 1 t28) s) fun t35 s =>
  oh (some (t34, s)) fun t9 s =>
  oh (some (t35, s)) fun t10 s =>
  oh (some (t5.strip, s)) fun t36 s =>
  oh (aCall Tryd.prog D 23 [t36.strip] s) fun t37 s =>
  oh (some (t7.strip, s)) fun t38 s =>
  oh (aCall Tryd.prog D 23 [t38.strip] s) fun t39 s =>
  oh (mp (aAppend Tryd.prog 35 35 t37 t39) s) fun t40 s =>
  oh (some (t40, s)) fun t11 s =>
  oh (aCall Tryd.prog D 18 [] s) fun t41 s =>
  oh (some (t41.strip, s)) fun t42 s =>
  oh (gd (wA t42 true) s (some (t6.strip, s))) fun t43 s =>
  oh (gd (wA t42 true) s (mp (aBin Tryd.prog .eql 26 t43 (.int .i64 0)) s)) fun t44 s =>
  oh (mp (aPick t42 t44 (.bool false)) s) fun t45 s =>
  oh (some (t45.strip, s)) fun t46 s =>
  oh (gd (wA t46 true) s (some (t8.strip, s))) fun t47 s =>
  oh (gd (wA t46 true) s (mp (aBin Tryd.prog .eql 26 t47 (.int .i64 0)) s)) fun t48 s =>
  oh (mp (aPick t46 t48 (.bool false)) s) fun t49 s =>
  oh (some (t49.strip, s)) fun t50 s =>
  oh (gd (wA t50 true) s (some (t10.strip, s))) fun t51 s =>
  oh (gd (wA t50 true) s (mp (aBin Tryd.prog .eql 26 t51 (.int .i64 0)) s)) fun t52 s =>
  oh (mp (aPick t50 t52 (.bool false)) s) fun t53 s =>
  oh (some (t53.strip, s)) fun t54 s =>
  oh (gd (wA t54 true) s (some (t9.strip, s))) fun t55 s =>
  oh (gd (wA t54 true) s (aCall Tryd.prog D 23 [t55.strip] s)) fun t56 s =>
  oh (gd (wA t54 true) s (some (t11.strip, s))) fun t57 s =>
  oh (gd (wA t54 true) s (aCall Tryd.prog D 22 [t56.strip, t57.strip] s)) fun t58 s =>
  oh (mp (aPick t54 t58 (.bool false)) s) fun t59 s =>
  oh (some (t59, s)) fun t4_3 s =>
  some (t4_3, s))

theorem F8_eq (n : Nat) (t0 t1 : AV) (s : Heap) : den C (n + 1) 8 [t0, t1] s = F8 (den C n) n t0 t1 s :=
  (den_body rfl Tryd.func8 _ _).trans (by kernel_rfl)
theorem en8 : enterable Tryd.prog 8 = true := by kernel_rfl

-- glossatorkeep1.short
noncomputable def F12 (D : Den) (n : Nat) (t0 t1 : AV) (s : Heap) : Ans :=
  oh (some ((.str []), s)) fun t4 s =>
  oh (some (t0.strip, s)) fun t5 s =>
  oh (some (t0.strip, s)) fun t6 s =>
  oh (mp (aLen Tryd.prog 9 t6) s) fun t7 s =>
  oh (some (t1.strip, s)) fun t8 s =>
  oh (mp (aMin t7 t8) s) fun t9 s =>
  oh (mp (aSl Tryd.prog 9 t5 none (some t9) none) s) fun t10 s =>
  oh (some (t10, s)) fun t4_2 s =>
  some (t4_2, s)

theorem F12_eq (n : Nat) (t0 t1 : AV) (s : Heap) : den C (n + 1) 12 [t0, t1] s = F12 (den C n) n t0 t1 s :=
  (den_body rfl Tryd.func12 _ _).trans (by kernel_rfl)
theorem en12 : enterable Tryd.prog 12 = true := by kernel_rfl

-- glossatorkeep1.lexerExample
noncomputable def F18 (D : Den) (n : Nat) (s : Heap) : Ans :=
  oh (some ((.bool false), s)) fun t0 s =>
  oh (aCall Tryd.prog D 19 [(.str [97, 47, 47, 98])] s) fun t4 s =>
  oh (some (t4.strip, s)) fun t3 s =>
  oh (mp (aExtract 0 t3) s) fun t5 s =>
  oh (mp (aExtract 1 t3) s) fun t6 s =>
  oh (some (t5, s)) fun t1 s =>
  oh (some (t6, s)) fun t2 s =>
  oh (some (t2.strip, s)) fun t7 s =>
  oh (mp (aBin Tryd.prog .eql 26 t7 (.int .i64 0)) s) fun t8 s =>
  oh (some (t8.strip, s)) fun t9 s =>
  oh (gd (wA t9 true) s (some (t1.strip, s))) fun t10 s =>
  oh (gd (wA t9 true) s (mp (aBuild Tryd.prog 39 [(0, (.int .i64 103)), (1, (.str [97]))]) s)) fun t11 s =>
  oh (gd (wA t9 true) s (mp (aBuild Tryd.prog 39 [(0, (.int .i64 102)), (1, (.str [47, 47, 98]))]) s)) fun t12 s =>
  oh (gd (wA t9 true) s (mp (aBuildSlice Tryd.prog 35 2 [(0, t11), (1, t12)]) s)) fun t13 s =>
  oh (gd (wA t9 true) s (aCall Tryd.prog D 22 [t10.strip, t13.strip] s)) fun t14 s =>
  oh (mp (aPick t9 t14 (.bool false)) s) fun t15 s =>
  oh (some (t15.strip, s)) fun t16 s =>
  oh (gd (wA t16 true) s (aCall Tryd.prog D 30 [(.str [97, 95, 49])] s)) fun t17 s =>
  oh (mp (aPick t16 t17 (.bool false)) s) fun t18 s =>
  oh (some (t18.strip, s)) fun t19 s =>
  oh (gd (wA t19 true) s (aCall Tryd.prog D 30 [(.str [117, 115, 101])] s)) fun t20 s =>
  oh (gd (wA t19 true) s (mp (aUn .not t20) s)) fun t21 s =>
  oh (mp (aPick t19 t21 (.bool false)) s) fun t22 s =>
  oh (some (t22, s)) fun t0_2 s =>
  some (t0_2, s)

theorem F18_eq (n : Nat) (s : Heap) : den C (n + 1) 18 [] s = F18 (den C n) n s :=
  (den_body rfl Tryd.func18 _ _).trans (by kernel_rfl)
theorem en18 : enterable Tryd.prog 18 = true := by kernel_rfl

-- lexer.Tokenize
noncomputable def F19_L0 (D : Den) (n : Nat) (k0 : Env → Heap → Ans) (e : Env) (s : Heap) : Ans :=
  oh (some ((e 0).strip, s)) fun t10 s =>
  oh (mp (aLen Tryd.prog 9 t10) s) fun t11 s =>
  oh (mp (aBin Tryd.prog .gtr 3 t11 (.int .i64 0)) s) fun t12 s =>
  br t12
    (oh (some ((e 0).strip, s)) fun t14 s =>
  oh (aCall Tryd.prog D 31 [t14.strip] s) fun t15 s =>
  oh (some (t15.strip, s)) fun t13 s =>
  oh (mp (aExtract 0 t13) s) fun t16 s =>
  oh (mp (aExtract 1 t13) s) fun t17 s =>
  oh (some (t16, s)) fun t5 s =>
  oh (some (t17, s)) fun t6 s =>
  oh (some ((e 4), s)) fun t18 s =>
  oh (some (t6.strip, s)) fun t19 s =>
  oh (some ((e 0).strip, s)) fun t20 s =>
  oh (some (t5.strip, s)) fun t21 s =>
  oh (mp (aSl Tryd.prog 9 t20 none (some t21) none) s) fun t22 s =>
  oh (mp (aBuild Tryd.prog 39 [(0, t19), (1, t22)]) s) fun t23 s =>
  oh (mp (aBuildSlice Tryd.prog 35 1 [(0, t23)]) s) fun t24 s =>
  oh (mp (aAppend Tryd.prog 35 35 t18 t24) s) fun t25 s =>
  oh (some (t25, s)) fun t4_2 s =>
  oh (some ((e 0).strip, s)) fun t26 s =>
  oh (some (t5.strip, s)) fun t27 s =>
  oh (mp (aSl Tryd.prog 9 t26 (some t27) none none) s) fun t28 s =>
  oh (some (t28, s)) fun t0_2 s =>
  k0 (upds e [(10, t10), (11, t11), (12, t12), (14, t14), (15, t15), (13, t13), (16, t16), (17, t17), (16, t16.strip), (5, t5), (17, t17.strip), (6, t6), (4, (e 4).strip), (18, t18), (19, t19), (20, t20), (21, t21), (22, t22), (23, t23), (24, t24), (18, t18.strip), (25, t25), (25, t25.strip), (4, t4_2), (26, t26), (27, t27), (28, t28), (28, t28.strip), (0, t0_2)]) s)
    (oh (some ((e 4).strip, s)) fun t29 s =>
  oh (some (t29, s)) fun t2_3 s =>
  oh (some ((.int .i64 0), s)) fun t3_3 s =>
  some (.tup [t2_3, t3_3], s))

noncomputable def F19 (D : Den) (n : Nat) (t0 : AV) (s : Heap) : Ans :=
  oh (some (.nils, s)) fun t2 s =>
  oh (some ((.int .i64 0), s)) fun t3 s =>
  oh (some (t0.strip, s)) fun t7 s =>
  oh (mp (aLen Tryd.prog 9 t7) s) fun t8 s =>
  oh (mp (aBin Tryd.prog .gtr 3 t8 (.int .i64 2000)) s) fun t9 s =>
  br t9
    (oh (some (.nils, s)) fun t2_2 s =>
  oh (some ((.int .i64 2), s)) fun t3_2 s =>
  some (.tup [t2_2, t3_2], s))
    (oh (some (.nils, s)) fun t4 s =>
  aLoop (F19_L0 D n) n (upds (argEnv [t0]) [(2, t2), (3, t3), (7, t7), (8, t8), (9, t9), (4, t4)]) s)

theorem F19_eq (n : Nat) (t0 : AV) (s : Heap) : den C (n + 1) 19 [t0] s = F19 (den C n) n t0 s :=
  (den_body rfl Tryd.func19 _ _).trans (by kernel_rfl)
theorem en19 : enterable Tryd.prog 19 = true := by kernel_rfl

-- glossatorkeep1.source
noncomputable def F20_L0 (D : Den) (n : Nat) (k0 : Env → Heap → Ans) (e : Env) (s : Heap) : Ans :=
  oh (mp (aBin Tryd.prog .lss 3 (e 8) (e 7)) s) fun t9 s =>
  br t9
    (oh (mp (aIndexAddr Tryd.prog 35 (e 6) (e 8)) s) fun t10 s =>
  oh (aLoad false true 2 t10 s) fun t11 s =>
  oh (aAlloc Tryd.prog 39 s) fun t5 s =>
  oh (sto (aStore 2 s t5 t11)) fun _r s =>
  oh (some ((e 3).strip, s)) fun t12 s =>
  oh (mp (aAddr 1 t5) s) fun t13 s =>
  oh (aLoad false false 1 t13 s) fun t14 s =>
  oh (mp (aBin Tryd.prog .add 9 t12 t14) s) fun t15 s =>
  oh (some (t15, s)) fun t3_2 s =>
  oh (mp (aBin Tryd.prog .add 3 (e 8) (.int .i64 1)) s) fun t16 s =>
  oh (some (t16.strip, s)) fun t8_2 s =>
  k0 (upds e [(9, t9), (10, t10), (11, t11), (5, t5), (11, t11.strip), (12, t12), (13, t13), (14, t14), (15, t15), (15, t15.strip), (3, t3_2), (16, t16), (8, t8_2)]) s)
    (oh (some ((e 3).strip, s)) fun t17 s =>
  oh (some (t17, s)) fun t2_2 s =>
  some (t2_2, s))

noncomputable def F20 (D : Den) (n : Nat) (t0 : AV) (s : Heap) : Ans :=
  oh (some ((.str []), s)) fun t2 s =>
  oh (some ((.str []), s)) fun t3 s =>
  oh (some (t0.strip, s)) fun t6 s =>
  oh (mp (aLen Tryd.prog 35 t6) s) fun t7 s =>
  oh (some ((.int .i64 0), s)) fun t8 s =>
  aLoop (F20_L0 D n) n (upds (argEnv [t0]) [(2, t2), (3, t3), (6, t6), (7, t7), (8, t8)]) s

theorem F20_eq (n : Nat) (t0 : AV) (s : Heap) : den C (n + 1) 20 [t0] s = F20 (den C n) n t0 s :=
  (den_body rfl Tryd.func20 _ _).trans (by kernel_rfl)
theorem en20 : enterable Tryd.prog 20 = true := by kernel_rfl

-- glossatorref1.Mod
noncomputable def F21_J0 (D : Den) (n : Nat) (e : Env) (s : Heap) : Ans :=
  oh (some ((e 5).strip, s)) fun t14 s =>
  oh (some (t14, s)) fun t4_2 s =>
  some (t4_2, s)

noncomputable def F21 (D : Den) (n : Nat) (t0 t1 : AV) (s : Heap) : Ans :=
  oh (some ((.int .i64 0), s)) fun t4 s =>
  oh (some (t0.strip, s)) fun t6 s =>
  oh (some (t1.strip, s)) fun t7 s =>
  oh (mp (aBin Tryd.prog .rem 3 t6 t7) s) fun t8 s =>
  oh (some (t8, s)) fun t5 s =>
  oh (some (t5.strip, s)) fun t9 s =>
  oh (mp (aBin Tryd.prog .lss 3 t9 (.int .i64 0)) s) fun t10 s =>
  br t10
    (oh (some (t5.strip, s)) fun t11 s =>
  oh (some (t1.strip, s)) fun t12 s =>
  oh (mp (aBin Tryd.prog .add 3 t11 t12) s) fun t13 s =>
  oh (some (t13, s)) fun t5_2 s =>
  F21_J0 D n (upds (argEnv [t0, t1]) [(4, t4), (6, t6), (7, t7), (8, t8), (8, t8.strip), (5, t5), (9, t9), (10, t10), (11, t11), (12, t12), (13, t13), (13, t13.strip), (5, t5_2)]) s)
    (F21_J0 D n (upds (argEnv [t0, t1]) [(4, t4), (6, t6), (7, t7), (8, t8), (8, t8.strip), (5, t5), (9, t9), (10, t10)]) s)

theorem F21_eq (n : Nat) (t0 t1 : AV) (s : Heap) : den C (n + 1) 21 [t0, t1] s = F21 (den C n) n t0 t1 s :=
  (den_body rfl Tryd.func21 _ _).trans (by kernel_rfl)
theorem en21 : enterable Tryd.prog 21 = true := by kernel_rfl

-- glossatorref1.EqualLists api.Token 
noncomputable def F22_L0 (D : Den) (n : Nat) (k0 : Env → Heap → Ans) (e : Env) (s : Heap) : Ans :=
  oh (mp (aBin Tryd.prog .lss 3 (e 13) (e 12)) s) fun t14 s =>
  br t14
    (oh (some ((e 13).strip, s)) fun t15 s =>
  oh (some (t15, s)) fun t5 s =>
  oh (some ((e 0).strip, s)) fun t16 s =>
  oh (some (t5.strip, s)) fun t17 s =>
  oh (mp (aIndexAddr Tryd.prog 35 t16 t17) s) fun t18 s =>
  oh (aLoad false true 2 t18 s) fun t19 s =>
  oh (some ((e 1).strip, s)) fun t20 s =>
  oh (some (t5.strip, s)) fun t21 s =>
  oh (mp (aIndexAddr Tryd.prog 35 t20 t21) s) fun t22 s =>
  oh (aLoad false true 2 t22 s) fun t23 s =>
  oh (mp (aBin Tryd.prog .neq 39 t19 t23) s) fun t24 s =>
  drawOK C 22 (regOps Tryd.f22 6) [.silent, .silent, .silent, (kLoad false t18), .silent, .silent, .silent, (kLoad false t22), .silent] <|
  br t24
    (oh (some ((.bool false), s)) fun t4_3 s =>
  some (t4_3, s))
    (oh (mp (aBin Tryd.prog .add 3 (e 13) (.int .i64 1)) s) fun t25 s =>
  oh (some (t25.strip, s)) fun t13_2 s =>
  k0 (upds e [(14, t14), (15, t15), (15, t15.strip), (5, t5), (16, t16), (17, t17), (18, t18), (19, t19), (20, t20), (21, t21), (22, t22), (23, t23), (24, t24), (25, t25), (13, t13_2)]) s))
    (oh (some ((.bool true), s)) fun t4_4 s =>
  some (t4_4, s))

noncomputable def F22 (D : Den) (n : Nat) (t0 t1 : AV) (s : Heap) : Ans :=
  oh (some ((.bool false), s)) fun t4 s =>
  oh (some (t0.strip, s)) fun t6 s =>
  oh (mp (aLen Tryd.prog 35 t6) s) fun t7 s =>
  oh (some (t1.strip, s)) fun t8 s =>
  oh (mp (aLen Tryd.prog 35 t8) s) fun t9 s =>
  oh (mp (aBin Tryd.prog .neq 3 t7 t9) s) fun t10 s =>
  br t10
    (oh (some ((.bool false), s)) fun t4_2 s =>
  some (t4_2, s))
    (oh (some (t0.strip, s)) fun t11 s =>
  oh (mp (aLen Tryd.prog 35 t11) s) fun t12 s =>
  oh (some ((.int .i64 0), s)) fun t13 s =>
  aLoop (F22_L0 D n) n (upds (argEnv [t0, t1]) [(4, t4), (6, t6), (7, t7), (8, t8), (9, t9), (10, t10), (11, t11), (12, t12), (13, t13)]) s)

theorem F22_eq (n : Nat) (t0 t1 : AV) (s : Heap) : den C (n + 1) 22 [t0, t1] s = F22 (den C n) n t0 t1 s :=
  (den_body rfl Tryd.func22 _ _).trans (by kernel_rfl)
theorem d22_6 (x : Ans) : drawOK C 22 (regOps Tryd.f22 6) [.silent, .silent, .silent, .silent, .silent, .silent, .silent, .silent, .silent] x = x := drawOK_ok (by kernel_rfl)
theorem en22 : enterable Tryd.prog 22 = true := by kernel_rfl

-- glossatorkeep1.significant
noncomputable def F23_J1 (D : Den) (n : Nat) (k0 : Env → Heap → Ans) (e : Env) (s : Heap) : Ans :=
  oh (mp (aBin Tryd.prog .add 3 (e 8) (.int .i64 1)) s) fun t19 s =>
  oh (some (t19.strip, s)) fun t8_2 s =>
  k0 (upds e [(19, t19), (8, t8_2)]) s

noncomputable def F23_L0 (D : Den) (n : Nat) (k0 : Env → Heap → Ans) (e : Env) (s : Heap) : Ans :=
  oh (mp (aBin Tryd.prog .lss 3 (e 8) (e 7)) s) fun t9 s =>
  br t9
    (oh (mp (aIndexAddr Tryd.prog 35 (e 6) (e 8)) s) fun t10 s =>
  oh (aLoad false true 2 t10 s) fun t11 s =>
  oh (aAlloc Tryd.prog 39 s) fun t5 s =>
  oh (sto (aStore 2 s t5 t11)) fun _r s =>
  oh (mp (aAddr 0 t5) s) fun t12 s =>
  oh (aLoad false false 1 t12 s) fun t13 s =>
  oh (mp (aBin Tryd.prog .neq 3 t13 (.int .i64 101)) s) fun t14 s =>
  br t14
    (oh (some ((e 3), s)) fun t15 s =>
  oh (aLoad false true 2 t5 s) fun t16 s =>
  oh (mp (aBuildSlice Tryd.prog 35 1 [(0, t16)]) s) fun t17 s =>
  oh (mp (aAppend Tryd.prog 35 35 t15 t17) s) fun t18 s =>
  oh (some (t18, s)) fun t3_2 s =>
  F23_J1 D n k0 (upds e [(9, t9), (10, t10), (11, t11), (5, t5), (11, t11.strip), (12, t12), (13, t13), (14, t14), (3, (e 3).strip), (15, t15), (16, t16), (17, t17), (15, t15.strip), (18, t18), (18, t18.strip), (3, t3_2)]) s)
    (F23_J1 D n k0 (upds e [(9, t9), (10, t10), (11, t11), (5, t5), (11, t11.strip), (12, t12), (13, t13), (14, t14)]) s))
    (oh (some ((e 3), s)) fun t20 s =>
  oh (some (t20, s)) fun t2_2 s =>
  some (t2_2, s))

noncomputable def F23 (D : Den) (n : Nat) (t0 : AV) (s : Heap) : Ans :=
  oh (some (.nils, s)) fun t2 s =>
  oh (some (.nils, s)) fun t3 s =>
  oh (some (t0.strip, s)) fun t6 s =>
  oh (mp (aLen Tryd.prog 35 t6) s) fun t7 s =>
  oh (some ((.int .i64 0), s)) fun t8 s =>
  aLoop (F23_L0 D n) n (upds (argEnv [t0]) [(2, t2), (3, t3), (6, t6), (7, t7), (8, t8)]) s

theorem F23_eq (n : Nat) (t0 : AV) (s : Heap) : den C (n + 1) 23 [t0] s = F23 (den C n) n t0 s :=
  (den_body rfl Tryd.func23 _ _).trans (by kernel_rfl)
theorem en23 : enterable Tryd.prog 23 = true := by kernel_rfl

-- lexer.IsIdentifier
noncomputable def F30 (D : Den) (n : Nat) (t0 : AV) (s : Heap) : Ans :=
  oh (some ((.bool false), s)) fun t2 s =>
  oh (some (t0.strip, s)) fun t5 s =>
  oh (mp (aLen Tryd.prog 9 t5) s) fun t6 s =>
  oh (mp (aBin Tryd.prog .eql 3 t6 (.int .i64 0)) s) fun t7 s =>
  oh (some (t7.strip, s)) fun t8 s =>
  oh (gd (wA t8 false) s (some (t0.strip, s))) fun t9 s =>
  oh (gd (wA t8 false) s (mp (aLen Tryd.prog 9 t9) s)) fun t10 s =>
  oh (gd (wA t8 false) s (mp (aBin Tryd.prog .gtr 3 t10 (.int .i64 30)) s)) fun t11 s =>
  oh (mp (aPick t8 (.bool true) t11) s) fun t12 s =>
  br t12
    (oh (some ((.bool false), s)) fun t2_2 s =>
  some (t2_2, s))
    (oh (some (t0.strip, s)) fun t14 s =>
  oh (aCall Tryd.prog D 31 [t14.strip] s) fun t15 s =>
  oh (some (t15.strip, s)) fun t13 s =>
  oh (mp (aExtract 0 t13) s) fun t16 s =>
  oh (mp (aExtract 1 t13) s) fun t17 s =>
  oh (some (t16, s)) fun t3 s =>
  oh (some (t17, s)) fun t4 s =>
  oh (some (t3.strip, s)) fun t18 s =>
  oh (some (t0.strip, s)) fun t19 s =>
  oh (mp (aLen Tryd.prog 9 t19) s) fun t20 s =>
  oh (mp (aBin Tryd.prog .eql 3 t18 t20) s) fun t21 s =>
  oh (some (t21.strip, s)) fun t22 s =>
  oh (gd (wA t22 true) s (some (t4.strip, s))) fun t23 s =>
  oh (gd (wA t22 true) s (mp (aBin Tryd.prog .eql 3 t23 (.int .i64 103)) s)) fun t24 s =>
  oh (mp (aPick t22 t24 (.bool false)) s) fun t25 s =>
  oh (some (t25, s)) fun t2_3 s =>
  some (t2_3, s))

theorem F30_eq (n : Nat) (t0 : AV) (s : Heap) : den C (n + 1) 30 [t0] s = F30 (den C n) n t0 s :=
  (den_body rfl Tryd.func30 _ _).trans (by kernel_rfl)
theorem en30 : enterable Tryd.prog 30 = true := by kernel_rfl

-- lexer.First
noncomputable def F31 (D : Den) (n : Nat) (t0 : AV) (s : Heap) : Ans :=
  oh (some ((.int .i64 0), s)) fun t2 s =>
  oh (some ((.int .i64 0), s)) fun t3 s =>
  oh (some (t0.strip, s)) fun t6 s =>
  oh (mp (aIndex Tryd.prog 9 t6 (.int .i64 0)) s) fun t7 s =>
  oh (some (t7, s)) fun t4 s =>
  oh (some (t4.strip, s)) fun t9 s =>
  oh (aCall Tryd.prog D 40 [t9.strip] s) fun t10 s =>
  oh (some (t10, s)) fun t8 s =>
  br t8
    (oh (some (t0.strip, s)) fun t11 s =>
  oh (aCall Tryd.prog D 41 [t11.strip, (.int .i64 0), (.fn 40 [] [])] s) fun t12 s =>
  oh (some (t12, s)) fun t2_2 s =>
  oh (some ((.int .i64 101), s)) fun t3_2 s =>
  some (.tup [t2_2, t3_2], s))
    (oh (some (t0.strip, s)) fun t14 s =>
  oh (aCall Tryd.prog D 42 [t14.strip, (.str [47, 47])] s) fun t15 s =>
  oh (some (t15, s)) fun t13 s =>
  br t13
    (oh (some (t0.strip, s)) fun t16 s =>
  oh (aCall Tryd.prog D 41 [t16.strip, (.int .i64 0), (.fn 43 [] [])] s) fun t17 s =>
  oh (some (t17, s)) fun t2_3 s =>
  oh (some ((.int .i64 102), s)) fun t3_3 s =>
  some (.tup [t2_3, t3_3], s))
    (oh (some (t4.strip, s)) fun t19 s =>
  oh (aCall Tryd.prog D 44 [t19.strip] s) fun t20 s =>
  oh (some (t20, s)) fun t18 s =>
  br t18
    (oh (some (t0.strip, s)) fun t21 s =>
  oh (aCall Tryd.prog D 41 [t21.strip, (.int .i64 0), (.fn 45 [] [])] s) fun t22 s =>
  oh (some (t22, s)) fun t5 s =>
  oh (aCall Tryd.prog D 48 [] s) fun t23 s =>
  oh (some (t0.strip, s)) fun t24 s =>
  oh (some (t5.strip, s)) fun t25 s =>
  oh (mp (aSl Tryd.prog 9 t24 none (some t25) none) s) fun t26 s =>
  oh (aCall Tryd.prog D 47 [t23.strip, t26.strip] s) fun t27 s =>
  drawOK C 31 (regOps Tryd.f31 8) [(kCall []), .silent, .silent, .silent, (kCall [t23.strip, t26.strip])] <|
  br t27
    (oh (some (t5.strip, s)) fun t28 s =>
  oh (some (t28, s)) fun t2_4 s =>
  oh (some ((.int .i64 104), s)) fun t3_4 s =>
  some (.tup [t2_4, t3_4], s))
    (oh (some (t5.strip, s)) fun t29 s =>
  oh (some (t29, s)) fun t2_5 s =>
  oh (some ((.int .i64 103), s)) fun t3_5 s =>
  some (.tup [t2_5, t3_5], s)))
    (oh (some (t4.strip, s)) fun t31 s =>
  oh (aCall Tryd.prog D 46 [t31.strip] s) fun t32 s =>
  oh (some (t32, s)) fun t30 s =>
  br t30
    (oh (some (t0.strip, s)) fun t33 s =>
  oh (aCall Tryd.prog D 41 [t33.strip, (.int .i64 0), (.fn 46 [] [])] s) fun t34 s =>
  oh (some (t34, s)) fun t2_6 s =>
  oh (some ((.int .i64 105), s)) fun t3_6 s =>
  some (.tup [t2_6, t3_6], s))
    (oh (some (t4.strip, s)) fun t36 s =>
  oh (mp (aBin Tryd.prog .eql 5 t36 (.int .u8 34)) s) fun t37 s =>
  oh (some (t37, s)) fun t35 s =>
  br t35
    (oh (some (t0.strip, s)) fun t38 s =>
  oh (aCall Tryd.prog D 49 [t38.strip] s) fun t39 s =>
  oh (mp (aExtract 0 t39) s) fun t40 s =>
  oh (mp (aExtract 1 t39) s) fun t41 s =>
  oh (some (t40, s)) fun t2_7 s =>
  oh (some (t41, s)) fun t3_7 s =>
  some (.tup [t2_7, t3_7], s))
    (oh (some (t0.strip, s)) fun t43 s =>
  oh (mp (aLen Tryd.prog 9 t43) s) fun t44 s =>
  oh (mp (aBin Tryd.prog .gtr 3 t44 (.int .i64 1)) s) fun t45 s =>
  oh (some (t45.strip, s)) fun t46 s =>
  oh (gd (wA t46 true) s (aCall Tryd.prog D 50 [] s)) fun t47 s =>
  oh (gd (wA t46 true) s (some (t0.strip, s))) fun t48 s =>
  oh (gd (wA t46 true) s (mp (aSl Tryd.prog 9 t48 none (some (.int .i64 2)) none) s)) fun t49 s =>
  oh (gd (wA t46 true) s (aCall Tryd.prog D 47 [t47.strip, t49.strip] s)) fun t50 s =>
  oh (mp (aPick t46 t50 (.bool false)) s) fun t51 s =>
  oh (some (t51, s)) fun t42 s =>
  drawOK C 31 (regOps Tryd.f31 15) [.silent, .silent, .silent, .silent, (kGd (wA t46 true) (kCall [])), (kGd (wA t46 true) .silent), (kGd (wA t46 true) .silent), (kGd (wA t46 true) (kCall [t47.strip, t49.strip])), .silent, .silent] <|
  br t42
    (oh (some ((.int .i64 2), s)) fun t2_8 s =>
  oh (some ((.int .i64 107), s)) fun t3_8 s =>
  some (.tup [t2_8, t3_8], s))
    (oh (some (t4.strip, s)) fun t53 s =>
  oh (aCall Tryd.prog D 51 [(.str [40, 41, 123, 125, 91, 93, 60, 62, 44, 59, 58, 46, 61, 43, 45, 42, 47, 33, 38, 124]), t53.strip] s) fun t54 s =>
  oh (mp (aBin Tryd.prog .geq 3 t54 (.int .i64 0)) s) fun t55 s =>
  oh (some (t55, s)) fun t52 s =>
  br t52
    (oh (some ((.int .i64 1), s)) fun t2_9 s =>
  oh (some ((.int .i64 107), s)) fun t3_9 s =>
  some (.tup [t2_9, t3_9], s))
    (oh (some ((.int .i64 1), s)) fun t2_10 s =>
  oh (some ((.int .i64 108), s)) fun t3_10 s =>
  some (.tup [t2_10, t3_10], s))))))))

theorem F31_eq (n : Nat) (t0 : AV) (s : Heap) : den C (n + 1) 31 [t0] s = F31 (den C n) n t0 s :=
  (den_body rfl Tryd.func31 _ _).trans (by kernel_rfl)
theorem d31_8 (x : Ans) : drawOK C 31 (regOps Tryd.f31 8) [.silent, .silent, .silent, .silent, .silent] x = x := drawOK_ok (by kernel_rfl)
theorem d31_15 (x : Ans) : drawOK C 31 (regOps Tryd.f31 15) [.silent, .silent, .silent, .silent, .silent, .silent, .silent, .silent, .silent, .silent] x = x := drawOK_ok (by kernel_rfl)
theorem en31 : enterable Tryd.prog 31 = true := by kernel_rfl

-- lexer.isSpace
noncomputable def F40 (D : Den) (n : Nat) (t0 : AV) (s : Heap) : Ans :=
  oh (some ((.bool false), s)) fun t2 s =>
  oh (some (t0.strip, s)) fun t3 s =>
  oh (aCall Tryd.prog D 51 [(.str [32, 9, 10, 13]), t3.strip] s) fun t4 s =>
  oh (mp (aBin Tryd.prog .geq 3 t4 (.int .i64 0)) s) fun t5 s =>
  oh (some (t5, s)) fun t2_2 s =>
  some (t2_2, s)

theorem F40_eq (n : Nat) (t0 : AV) (s : Heap) : den C (n + 1) 40 [t0] s = F40 (den C n) n t0 s :=
  (den_body rfl Tryd.func40 _ _).trans (by kernel_rfl)
theorem en40 : enterable Tryd.prog 40 = true := by kernel_rfl

-- lexer.scan
noncomputable def F41_L0 (D : Den) (n : Nat) (k0 : Env → Heap → Ans) (e : Env) (s : Heap) : Ans :=
  oh (some ((e 1).strip, s)) fun t7 s =>
  oh (some ((e 0).strip, s)) fun t8 s =>
  oh (mp (aLen Tryd.prog 9 t8) s) fun t9 s =>
  oh (mp (aBin Tryd.prog .lss 3 t7 t9) s) fun t10 s =>
  oh (some (t10.strip, s)) fun t11 s =>
  oh (gd (wA t11 true) s (some ((e 2).strip, s))) fun t12 s =>
  oh (gd (wA t11 true) s (some ((e 0).strip, s))) fun t13 s =>
  oh (gd (wA t11 true) s (some ((e 1).strip, s))) fun t14 s =>
  oh (gd (wA t11 true) s (mp (aIndex Tryd.prog 9 t13 t14) s)) fun t15 s =>
  oh (gd (wA t11 true) s (aCallV Tryd.prog D t12 [t15] s)) fun t16 s =>
  oh (mp (aPick t11 t16 (.bool false)) s) fun t17 s =>
  br t17
    (oh (some ((e 1).strip, s)) fun t18 s =>
  oh (mp (aBin Tryd.prog .add 3 t18 (.int .i64 1)) s) fun t19 s =>
  oh (some (t19, s)) fun t1_2 s =>
  k0 (upds e [(7, t7), (8, t8), (9, t9), (10, t10), (11, t11), (12, t12), (13, t13), (14, t14), (15, t15), (16, t16), (17, t17), (18, t18), (19, t19), (19, t19.strip), (1, t1_2)]) s)
    (oh (some ((e 1).strip, s)) fun t20 s =>
  oh (some (t20, s)) fun t6_2 s =>
  some (t6_2, s))

noncomputable def F41 (D : Den) (n : Nat) (t0 t1 t2 : AV) (s : Heap) : Ans :=
  oh (some ((.int .i64 0), s)) fun t6 s =>
  aLoop (F41_L0 D n) n (upds (argEnv [t0, t1, t2]) [(6, t6)]) s

theorem F41_eq (n : Nat) (t0 t1 t2 : AV) (s : Heap) : den C (n + 1) 41 [t0, t1, t2] s = F41 (den C n) n t0 t1 t2 s :=
  (den_body rfl Tryd.func41 _ _).trans (by kernel_rfl)
theorem en41 : enterable Tryd.prog 41 = true := by kernel_rfl

-- lexer.First 1
noncomputable def F43 (D : Den) (n : Nat) (t0 : AV) (s : Heap) : Ans :=
  oh (some ((.bool false), s)) fun t2 s =>
  oh (some (t0.strip, s)) fun t3 s =>
  oh (mp (aBin Tryd.prog .neq 5 t3 (.int .u8 10)) s) fun t4 s =>
  oh (some (t4, s)) fun t2_2 s =>
  some (t2_2, s)

theorem F43_eq (n : Nat) (t0 : AV) (s : Heap) : den C (n + 1) 43 [t0] s = F43 (den C n) n t0 s :=
  (den_body rfl Tryd.func43 _ _).trans (by kernel_rfl)
theorem en43 : enterable Tryd.prog 43 = true := by kernel_rfl

-- lexer.isLetter
noncomputable def F44 (D : Den) (n : Nat) (t0 : AV) (s : Heap) : Ans :=
  oh (some ((.bool false), s)) fun t2 s =>
  oh (some (t0.strip, s)) fun t3 s =>
  oh (mp (aBin Tryd.prog .geq 5 t3 (.int .u8 97)) s) fun t4 s =>
  oh (some (t4.strip, s)) fun t5 s =>
  oh (gd (wA t5 true) s (some (t0.strip, s))) fun t6 s =>
  oh (gd (wA t5 true) s (mp (aBin Tryd.prog .leq 5 t6 (.int .u8 122)) s)) fun t7 s =>
  oh (mp (aPick t5 t7 (.bool false)) s) fun t8 s =>
  oh (some (t8.strip, s)) fun t9 s =>
  oh (gd (wA t9 false) s (some (t0.strip, s))) fun t10 s =>
  oh (gd (wA t9 false) s (mp (aBin Tryd.prog .geq 5 t10 (.int .u8 65)) s)) fun t11 s =>
  oh (gd (wA t9 false) s (some (t11.strip, s))) fun t12 s =>
  oh (gd (wA t12 true) s (some (t0.strip, s))) fun t13 s =>
  oh (gd (wA t12 true) s (mp (aBin Tryd.prog .leq 5 t13 (.int .u8 90)) s)) fun t14 s =>
  oh (gd (wA t9 false) s (mp (aPick t12 t14 (.bool false)) s)) fun t15 s =>
  oh (mp (aPick t9 (.bool true) t15) s) fun t16 s =>
  oh (some (t16.strip, s)) fun t17 s =>
  oh (gd (wA t17 false) s (some (t0.strip, s))) fun t18 s =>
  oh (gd (wA t17 false) s (mp (aBin Tryd.prog .eql 5 t18 (.int .u8 95)) s)) fun t19 s =>
  oh (mp (aPick t17 (.bool true) t19) s) fun t20 s =>
  oh (some (t20, s)) fun t2_2 s =>
  some (t2_2, s)

theorem F44_eq (n : Nat) (t0 : AV) (s : Heap) : den C (n + 1) 44 [t0] s = F44 (den C n) n t0 s :=
  (den_body rfl Tryd.func44 _ _).trans (by kernel_rfl)
theorem en44 : enterable Tryd.prog 44 = true := by kernel_rfl

-- lexer.First 2
noncomputable def F45 (D : Den) (n : Nat) (t0 : AV) (s : Heap) : Ans :=
  oh (some ((.bool false), s)) fun t2 s =>
  oh (some (t0.strip, s)) fun t3 s =>
  oh (aCall Tryd.prog D 44 [t3.strip] s) fun t4 s =>
  oh (some (t4.strip, s)) fun t5 s =>
  oh (gd (wA t5 false) s (some (t0.strip, s))) fun t6 s =>
  oh (gd (wA t5 false) s (aCall Tryd.prog D 46 [t6.strip] s)) fun t7 s =>
  oh (mp (aPick t5 (.bool true) t7) s) fun t8 s =>
  oh (some (t8, s)) fun t2_2 s =>
  some (t2_2, s)

theorem F45_eq (n : Nat) (t0 : AV) (s : Heap) : den C (n + 1) 45 [t0] s = F45 (den C n) n t0 s :=
  (den_body rfl Tryd.func45 _ _).trans (by kernel_rfl)
theorem en45 : enterable Tryd.prog 45 = true := by kernel_rfl

-- lexer.isDigit
noncomputable def F46 (D : Den) (n : Nat) (t0 : AV) (s : Heap) : Ans :=
  oh (some ((.bool false), s)) fun t2 s =>
  oh (some (t0.strip, s)) fun t3 s =>
  oh (mp (aBin Tryd.prog .geq 5 t3 (.int .u8 48)) s) fun t4 s =>
  oh (some (t4.strip, s)) fun t5 s =>
  oh (gd (wA t5 true) s (some (t0.strip, s))) fun t6 s =>
  oh (gd (wA t5 true) s (mp (aBin Tryd.prog .leq 5 t6 (.int .u8 57)) s)) fun t7 s =>
  oh (mp (aPick t5 t7 (.bool false)) s) fun t8 s =>
  oh (some (t8, s)) fun t2_2 s =>
  some (t2_2, s)

theorem F46_eq (n : Nat) (t0 : AV) (s : Heap) : den C (n + 1) 46 [t0] s = F46 (den C n) n t0 s :=
  (den_body rfl Tryd.func46 _ _).trans (by kernel_rfl)
theorem en46 : enterable Tryd.prog 46 = true := by kernel_rfl

-- slices.Contains   string,string 
noncomputable def F47 (D : Den) (n : Nat) (t0 t1 : AV) (s : Heap) : Ans :=
  oh (some ((.bool false), s)) fun t4 s =>
  oh (some (t0.strip, s)) fun t5 s =>
  oh (some (t1.strip, s)) fun t6 s =>
  oh (aCall Tryd.prog D 62 [t5.strip, t6.strip] s) fun t7 s =>
  oh (mp (aBin Tryd.prog .geq 3 t7 (.int .i64 0)) s) fun t8 s =>
  oh (some (t8, s)) fun t4_2 s =>
  some (t4_2, s)

theorem F47_eq (n : Nat) (t0 t1 : AV) (s : Heap) : den C (n + 1) 47 [t0, t1] s = F47 (den C n) n t0 t1 s :=
  (den_body rfl Tryd.func47 _ _).trans (by kernel_rfl)
theorem en47 : enterable Tryd.prog 47 = true := by kernel_rfl

-- lexer.Keywords
noncomputable def F48 (D : Den) (n : Nat) (s : Heap) : Ans :=
  oh (some (.nils, s)) fun t0 s =>
  oh (aCall Tryd.prog D 63 [(.str [117, 115, 101, 32, 112, 117, 98, 32, 97, 115, 32, 102, 110, 32, 115, 116, 114, 117, 99, 116, 32, 101, 110, 117, 109, 32, 116, 114, 97, 105, 116, 32, 105, 109, 112, 108, 32, 102, 111, 114, 32, 99, 111, 110, 115, 116, 32, 109, 97, 99, 114, 111, 32, 108, 101, 116, 32, 109, 117, 116, 32, 119, 104, 105, 108, 101, 32, 114, 101, 116, 117, 114, 110, 32, 109, 97, 116, 99, 104, 32, 105, 102, 32, 101, 108, 115, 101, 32, 110, 101, 119, 32, 116, 114, 117, 101, 32, 102, 97, 108, 115, 101, 32, 116, 121, 112, 101])] s) fun t1 s =>
  oh (some (t1, s)) fun t0_2 s =>
  some (t0_2, s)

theorem F48_eq (n : Nat) (s : Heap) : den C (n + 1) 48 [] s = F48 (den C n) n s :=
  (den_body rfl Tryd.func48 _ _).trans (by kernel_rfl)
theorem en48 : enterable Tryd.prog 48 = true := by kernel_rfl

-- lexer.scanString
noncomputable def F49_J1 (D : Den) (n : Nat) (k0 : Env → Heap → Ans) (e : Env) (s : Heap) : Ans :=
  oh (some ((e 4).strip, s)) fun t15 s =>
  oh (mp (aBin Tryd.prog .add 3 t15 (.int .i64 1)) s) fun t16 s =>
  oh (some (t16, s)) fun t4_2 s =>
  k0 (upds e [(15, t15), (16, t16), (16, t16.strip), (4, t4_2)]) s

noncomputable def F49_L0 (D : Den) (n : Nat) (k0 : Env → Heap → Ans) (e : Env) (s : Heap) : Ans :=
  oh (some ((e 4).strip, s)) fun t5 s =>
  oh (some ((e 0).strip, s)) fun t6 s =>
  oh (mp (aLen Tryd.prog 9 t6) s) fun t7 s =>
  oh (mp (aBin Tryd.prog .lss 3 t5 t7) s) fun t8 s =>
  oh (some (t8.strip, s)) fun t9 s =>
  oh (gd (wA t9 true) s (some ((e 0).strip, s))) fun t10 s =>
  oh (gd (wA t9 true) s (some ((e 4).strip, s))) fun t11 s =>
  oh (gd (wA t9 true) s (mp (aIndex Tryd.prog 9 t10 t11) s)) fun t12 s =>
  oh (gd (wA t9 true) s (mp (aBin Tryd.prog .neq 5 t12 (.int .u8 10)) s)) fun t13 s =>
  oh (mp (aPick t9 t13 (.bool false)) s) fun t14 s =>
  br t14
    (oh (some ((e 0).strip, s)) fun t18 s =>
  oh (some ((e 4).strip, s)) fun t19 s =>
  oh (mp (aIndex Tryd.prog 9 t18 t19) s) fun t20 s =>
  oh (mp (aBin Tryd.prog .eql 5 t20 (.int .u8 34)) s) fun t21 s =>
  oh (some (t21, s)) fun t17 s =>
  br t17
    (oh (some ((e 4).strip, s)) fun t22 s =>
  oh (mp (aBin Tryd.prog .add 3 t22 (.int .i64 1)) s) fun t23 s =>
  oh (some (t23, s)) fun t2_2 s =>
  oh (some ((.int .i64 106), s)) fun t3_2 s =>
  some (.tup [t2_2, t3_2], s))
    (oh (some ((e 0).strip, s)) fun t25 s =>
  oh (some ((e 4).strip, s)) fun t26 s =>
  oh (mp (aIndex Tryd.prog 9 t25 t26) s) fun t27 s =>
  oh (mp (aBin Tryd.prog .eql 5 t27 (.int .u8 92)) s) fun t28 s =>
  oh (some (t28.strip, s)) fun t29 s =>
  oh (gd (wA t29 true) s (some ((e 4).strip, s))) fun t30 s =>
  oh (gd (wA t29 true) s (mp (aBin Tryd.prog .add 3 t30 (.int .i64 1)) s)) fun t31 s =>
  oh (gd (wA t29 true) s (some ((e 0).strip, s))) fun t32 s =>
  oh (gd (wA t29 true) s (mp (aLen Tryd.prog 9 t32) s)) fun t33 s =>
  oh (gd (wA t29 true) s (mp (aBin Tryd.prog .lss 3 t31 t33) s)) fun t34 s =>
  oh (mp (aPick t29 t34 (.bool false)) s) fun t35 s =>
  oh (some (t35.strip, s)) fun t36 s =>
  oh (gd (wA t36 true) s (some ((e 0).strip, s))) fun t37 s =>
  oh (gd (wA t36 true) s (some ((e 4).strip, s))) fun t38 s =>
  oh (gd (wA t36 true) s (mp (aBin Tryd.prog .add 3 t38 (.int .i64 1)) s)) fun t39 s =>
  oh (gd (wA t36 true) s (mp (aIndex Tryd.prog 9 t37 t39) s)) fun t40 s =>
  oh (gd (wA t36 true) s (mp (aBin Tryd.prog .neq 5 t40 (.int .u8 10)) s)) fun t41 s =>
  oh (mp (aPick t36 t41 (.bool false)) s) fun t42 s =>
  oh (some (t42, s)) fun t24 s =>
  br t24
    (oh (some ((e 4).strip, s)) fun t43 s =>
  oh (mp (aBin Tryd.prog .add 3 t43 (.int .i64 1)) s) fun t44 s =>
  oh (some (t44, s)) fun t4_3 s =>
  F49_J1 D n k0 (upds e [(5, t5), (6, t6), (7, t7), (8, t8), (9, t9), (10, t10), (11, t11), (12, t12), (13, t13), (14, t14), (18, t18), (19, t19), (20, t20), (21, t21), (21, t21.strip), (17, t17), (25, t25), (26, t26), (27, t27), (28, t28), (29, t29), (30, t30), (31, t31), (32, t32), (33, t33), (34, t34), (35, t35), (36, t36), (37, t37), (38, t38), (39, t39), (40, t40), (41, t41), (42, t42), (42, t42.strip), (24, t24), (43, t43), (44, t44), (44, t44.strip), (4, t4_3)]) s)
    (F49_J1 D n k0 (upds e [(5, t5), (6, t6), (7, t7), (8, t8), (9, t9), (10, t10), (11, t11), (12, t12), (13, t13), (14, t14), (18, t18), (19, t19), (20, t20), (21, t21), (21, t21.strip), (17, t17), (25, t25), (26, t26), (27, t27), (28, t28), (29, t29), (30, t30), (31, t31), (32, t32), (33, t33), (34, t34), (35, t35), (36, t36), (37, t37), (38, t38), (39, t39), (40, t40), (41, t41), (42, t42), (42, t42.strip), (24, t24)]) s)))
    (oh (some ((e 0).strip, s)) fun t45 s =>
  oh (aCall Tryd.prog D 41 [t45.strip, (.int .i64 1), (.fn 64 [] [])] s) fun t46 s =>
  oh (some (t46, s)) fun t2_3 s =>
  oh (some ((.int .i64 108), s)) fun t3_3 s =>
  some (.tup [t2_3, t3_3], s))

noncomputable def F49 (D : Den) (n : Nat) (t0 : AV) (s : Heap) : Ans :=
  oh (some ((.int .i64 0), s)) fun t2 s =>
  oh (some ((.int .i64 0), s)) fun t3 s =>
  oh (some ((.int .i64 1), s)) fun t4 s =>
  aLoop (F49_L0 D n) n (upds (argEnv [t0]) [(2, t2), (3, t3), (4, t4)]) s

theorem F49_eq (n : Nat) (t0 : AV) (s : Heap) : den C (n + 1) 49 [t0] s = F49 (den C n) n t0 s :=
  (den_body rfl Tryd.func49 _ _).trans (by kernel_rfl)
theorem en49 : enterable Tryd.prog 49 = true := by kernel_rfl

-- lexer.twoBytePunct
noncomputable def F50 (D : Den) (n : Nat) (s : Heap) : Ans :=
  oh (some (.nils, s)) fun t0 s =>
  oh (aCall Tryd.prog D 63 [(.str [58, 58, 32, 61, 62, 32, 45, 62, 32, 61, 61, 32, 38, 38, 32, 124, 124])] s) fun t1 s =>
  oh (some (t1, s)) fun t0_2 s =>
  some (t0_2, s)

theorem F50_eq (n : Nat) (s : Heap) : den C (n + 1) 50 [] s = F50 (den C n) n s :=
  (den_body rfl Tryd.func50 _ _).trans (by kernel_rfl)
theorem en50 : enterable Tryd.prog 50 = true := by kernel_rfl

-- slices.Index   string,string 
noncomputable def F62_L0 (D : Den) (n : Nat) (k0 : Env → Heap → Ans) (e : Env) (s : Heap) : Ans :=
  oh (mp (aBin Tryd.prog .lss 3 (e 8) (e 7)) s) fun t9 s =>
  br t9
    (oh (some ((e 8).strip, s)) fun t10 s =>
  oh (some (t10, s)) fun t5 s =>
  oh (some ((e 1).strip, s)) fun t11 s =>
  oh (some ((e 0).strip, s)) fun t12 s =>
  oh (some (t5.strip, s)) fun t13 s =>
  oh (mp (aIndexAddr Tryd.prog 69 t12 t13) s) fun t14 s =>
  oh (aLoad false false 1 t14 s) fun t15 s =>
  oh (mp (aBin Tryd.prog .eql 9 t11 t15) s) fun t16 s =>
  br t16
    (oh (some (t5.strip, s)) fun t17 s =>
  oh (some (t17, s)) fun t4_2 s =>
  some (t4_2, s))
    (oh (mp (aBin Tryd.prog .add 3 (e 8) (.int .i64 1)) s) fun t18 s =>
  oh (some (t18.strip, s)) fun t8_2 s =>
  k0 (upds e [(9, t9), (10, t10), (10, t10.strip), (5, t5), (11, t11), (12, t12), (13, t13), (14, t14), (15, t15), (16, t16), (18, t18), (8, t8_2)]) s))
    (oh (some ((.int .i64 (-1)), s)) fun t4_3 s =>
  some (t4_3, s))

noncomputable def F62 (D : Den) (n : Nat) (t0 t1 : AV) (s : Heap) : Ans :=
  oh (some ((.int .i64 0), s)) fun t4 s =>
  oh (some (t0.strip, s)) fun t6 s =>
  oh (mp (aLen Tryd.prog 69 t6) s) fun t7 s =>
  oh (some ((.int .i64 0), s)) fun t8 s =>
  aLoop (F62_L0 D n) n (upds (argEnv [t0, t1]) [(4, t4), (6, t6), (7, t7), (8, t8)]) s

theorem F62_eq (n : Nat) (t0 t1 : AV) (s : Heap) : den C (n + 1) 62 [t0, t1] s = F62 (den C n) n t0 t1 s :=
  (den_body rfl Tryd.func62 _ _).trans (by kernel_rfl)
theorem en62 : enterable Tryd.prog 62 = true := by kernel_rfl

-- lexer.scanString 1
noncomputable def F64 (D : Den) (n : Nat) (t0 : AV) (s : Heap) : Ans :=
  oh (some ((.bool false), s)) fun t2 s =>
  oh (some (t0.strip, s)) fun t3 s =>
  oh (mp (aBin Tryd.prog .neq 5 t3 (.int .u8 10)) s) fun t4 s =>
  oh (some (t4, s)) fun t2_2 s =>
  some (t2_2, s)

theorem F64_eq (n : Nat) (t0 : AV) (s : Heap) : den C (n + 1) 64 [t0] s = F64 (den C n) n t0 s :=
  (den_body rfl Tryd.func64 _ _).trans (by kernel_rfl)
theorem en64 : enterable Tryd.prog 64 = true := by kernel_rfl

end LexF
