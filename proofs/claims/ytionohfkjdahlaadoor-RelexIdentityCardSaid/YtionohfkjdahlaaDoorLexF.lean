/- Printed by gen.py: the functions, unfolded. -/
import Derived.Test.YtionohfkjdahlaaDoorLexC
set_option maxRecDepth 10000
set_option linter.all false
namespace LexF
open Go Go.Abs Go.Proofs

-- glossatorkeep1.LexerLossless
noncomputable def F6_L0 (D : Den) (n : Nat) (k0 : Env → Heap → Ans) (e : Env) (s : Heap) : Ans :=
  oh (mp (aBin Tryd.prog .lss 3 (e 29) (e 28)) s) fun t30 s =>
  br t30
    (oh (mp (aIndexAddr Tryd.prog 35 (e 27) (e 29)) s) fun t31 s =>
  oh (aLoad false true 2 t31 s) fun t32 s =>
  oh (aAlloc Tryd.prog 39 s) fun t6 s =>
  oh (sto (aStore 2 s t6 t32)) fun _r s =>
  oh (mp (aAddr 1 t6) s) fun t33 s =>
  oh (aLoad false false 1 t33 s) fun t34 s =>
  oh (mp (aBin Tryd.prog .eql 9 t34 (.str [])) s) fun t35 s =>
  br t35
    (oh (some ((.bool false), s)) fun t2_4 s =>
  some (t2_4, s))
    (oh (mp (aBin Tryd.prog .add 3 (e 29) (.int .i64 1)) s) fun t36 s =>
  oh (some (t36.strip, s)) fun t29_2 s =>
  k0 (upds e [(30, t30), (31, t31), (32, t32), (6, t6), (32, t32.strip), (33, t33), (34, t34), (35, t35), (36, t36), (29, t29_2)]) s))
    (oh (aCall Tryd.prog D 18 [] s) fun t37 s =>
  oh (some (t37.strip, s)) fun t38 s =>
  oh (gd (wA t38 true) s (some ((e 3).strip, s))) fun t39 s =>
  oh (gd (wA t38 true) s (aCall Tryd.prog D 20 [t39.strip] s)) fun t40 s =>
  oh (gd (wA t38 true) s (some ((e 0).strip, s))) fun t41 s =>
  oh (gd (wA t38 true) s (mp (aBin Tryd.prog .eql 9 t40 t41) s)) fun t42 s =>
  oh (mp (aPick t38 t42 (.bool false)) s) fun t43 s =>
  oh (some (t43, s)) fun t2_5 s =>
  some (t2_5, s))

noncomputable def F6 (D : Den) (n : Nat) (t0 : AV) (s : Heap) : Ans :=
  oh (some ((.bool false), s)) fun t2 s =>
  oh (aCall Tryd.prog D 18 [] s) fun t7 s =>
  oh (mp (aUn .not t7) s) fun t8 s =>
  br t8
    (oh (some ((.bool false), s)) fun t2_2 s =>
  some (t2_2, s))
    (oh (some (t0.strip, s)) fun t10 s =>
  oh (aCall Tryd.prog D 19 [t10.strip] s) fun t11 s =>
  oh (some (t11.strip, s)) fun t9 s =>
  oh (mp (aExtract 0 t9) s) fun t12 s =>
  oh (mp (aExtract 1 t9) s) fun t13 s =>
  oh (some (t12, s)) fun t3 s =>
  oh (some (t13, s)) fun t4 s =>
  oh (some (t4.strip, s)) fun t14 s =>
  oh (mp (aBin Tryd.prog .neq 26 t14 (.int .i64 0)) s) fun t15 s =>
  br t15
    (oh (aCall Tryd.prog D 18 [] s) fun t16 s =>
  oh (some (t16.strip, s)) fun t17 s =>
  oh (gd (wA t17 true) s (some (t0.strip, s))) fun t18 s =>
  oh (gd (wA t17 true) s (mp (aLen Tryd.prog 9 t18) s)) fun t19 s =>
  oh (gd (wA t17 true) s (mp (aBin Tryd.prog .gtr 3 t19 (.int .i64 2000)) s)) fun t20 s =>
  oh (mp (aPick t17 t20 (.bool false)) s) fun t21 s =>
  oh (some (t21.strip, s)) fun t22 s =>
  oh (gd (wA t22 true) s (some (t3.strip, s))) fun t23 s =>
  oh (gd (wA t22 true) s (mp (aLen Tryd.prog 35 t23) s)) fun t24 s =>
  oh (gd (wA t22 true) s (mp (aBin Tryd.prog .eql 3 t24 (.int .i64 0)) s)) fun t25 s =>
  oh (mp (aPick t22 t25 (.bool false)) s) fun t26 s =>
  oh (some (t26, s)) fun t2_3 s =>
  some (t2_3, s))
    (oh (some (t3.strip, s)) fun t27 s =>
  oh (mp (aLen Tryd.prog 35 t27) s) fun t28 s =>
  oh (some ((.int .i64 0), s)) fun t29 s =>
  aLoop (F6_L0 D n) n (upds (argEnv [t0]) [(2, t2), (7, t7), (8, t8), (10, t10), (11, t11), (9, t9), (12, t12), (13, t13), (12, t12.strip), (3, t3), (13, t13.strip), (4, t4), (14, t14), (15, t15), (27, t27), (28, t28), (29, t29)]) s))

theorem F6_eq (n : Nat) (t0 : AV) (s : Heap) : den C (n + 1) 6 [t0] s = F6 (den C n) n t0 s :=
  (den_body rfl Tryd.func6 _ _).trans (by kernel_rfl)
theorem en6 : enterable Tryd.prog 6 = true := by kernel_rfl

-- glossatorkeep1.LexerResumes
noncomputable def F7 (D : Den) (n : Nat) (t0 t1 : AV) (s : Heap) : Ans :=
  oh (some ((.bool false), s)) fun t4 s =>
  oh (aCall Tryd.prog D 18 [] s) fun t10 s =>
  oh (mp (aUn .not t10) s) fun t11 s =>
  br t11
    (oh (some ((.bool false), s)) fun t4_2 s =>
  some (t4_2, s))
    (oh (some (t0.strip, s)) fun t13 s =>
  oh (aCall Tryd.prog D 19 [t13.strip] s) fun t14 s =>
  oh (some (t14.strip, s)) fun t12 s =>
  oh (mp (aExtract 0 t12) s) fun t15 s =>
  oh (mp (aExtract 1 t12) s) fun t16 s =>
  oh (some (t15, s)) fun t5 s =>
  oh (some (t16, s)) fun t6 s =>
  oh (some (t6.strip, s)) fun t17 s =>
  oh (mp (aBin Tryd.prog .neq 26 t17 (.int .i64 0)) s) fun t18 s =>
  oh (some (t18.strip, s)) fun t19 s =>
  oh (gd (wA t19 false) s (some (t5.strip, s))) fun t20 s =>
  oh (gd (wA t19 false) s (mp (aLen Tryd.prog 35 t20) s)) fun t21 s =>
  oh (gd (wA t19 false) s (mp (aBin Tryd.prog .eql 3 t21 (.int .i64 0)) s)) fun t22 s =>
  oh (mp (aPick t19 (.bool true) t22) s) fun t23 s =>
  br t23
    (oh (aCall Tryd.prog D 18 [] s) fun t24 s =>
  oh (some (t24.strip, s)) fun t25 s =>
  oh (gd (wA t25 true) s (some (t6.strip, s))) fun t26 s =>
  oh (gd (wA t25 true) s (mp (aBin Tryd.prog .eql 26 t26 (.int .i64 0)) s)) fun t27 s =>
  oh (gd (wA t25 true) s (some (t27.strip, s))) fun t28 s =>
  oh (gd (wA t28 false) s (some (t0.strip, s))) fun t29 s =>
  oh (gd (wA t28 false) s (mp (aLen Tryd.prog 9 t29) s)) fun t30 s =>
  oh (gd (wA t28 false) s (mp (aBin Tryd.prog .gtr 3 t30 (.int .i64 2000)) s)) fun t31 s =>
  oh (gd (wA t25 true) s (mp (aPick t28 (.bool true) t31) s)) fun t32 s =>
  oh (mp (aPick t25 t32 (.bool false)) s) fun t33 s =>
  oh (some (t33, s)) fun t4_3 s =>
  some (t4_3, s))
    (oh (some (t1.strip, s)) fun t34 s =>
  oh (some (t5.strip, s)) fun t35 s =>
  oh (mp (aLen Tryd.prog 35 t35) s) fun t36 s =>
  oh (mp (aBin Tryd.prog .add 3 t36 (.int .i64 1)) s) fun t37 s =>
  oh (aCall Tryd.prog D 21 [t34.strip, t37.strip] s) fun t38 s =>
  oh (some (t38, s)) fun t7 s =>
  oh (some (t5.strip, s)) fun t40 s =>
  oh (some (t7.strip, s)) fun t41 s =>
  oh (mp (aSl Tryd.prog 35 t40 (some t41) none none) s) fun t42 s =>
  oh (aCall Tryd.prog D 20 [t42.strip] s) fun t43 s =>
  oh (aCall Tryd.prog D 19 [t43.strip] s) fun t44 s =>
  oh (some (t44.strip, s)) fun t39 s =>
  oh (mp (aExtract 0 t39) s) fun t45 s =>
  oh (mp (aExtract 1 t39) s) fun t46 s =>
  oh (some (t45, s)) fun t8 s =>
  oh (some (t46, s)) fun t9 s =>
  oh (aCall Tryd.prog D 18 [] s) fun t47 s =>
  oh (some (t47.strip, s)) fun t48 s =>
  oh (gd (wA t48 true) s (some (t9.strip, s))) fun t49 s =>
  oh (gd (wA t48 true) s (mp (aBin Tryd.prog .eql 26 t49 (.int .i64 0)) s)) fun t50 s =>
  oh (mp (aPick t48 t50 (.bool false)) s) fun t51 s =>
  oh (some (t51.strip, s)) fun t52 s =>
  oh (gd (wA t52 true) s (some (t8.strip, s))) fun t53 s =>
  oh (gd (wA t52 true) s (some (t5.strip, s))) fun t54 s =>
  oh (gd (wA t52 true) s (some (t7.strip, s))) fun t55 s =>
  oh (gd (wA t52 true) s (mp (aSl Tryd.prog 35 t54 (some t55) none none) s)) fun t56 s =>
  oh (gd (wA t52 true) s (aCall Tryd.prog D 22 [t53.strip, t56.strip] s)) fun t57 s =>
  oh (mp (aPick t52 t57 (.bool false)) s) fun t58 s =>
  oh (some (t58, s)) fun t4_4 s =>
  some (t4_4, s)))

theorem F7_eq (n : Nat) (t0 t1 : AV) (s : Heap) : den C (n + 1) 7 [t0, t1] s = F7 (den C n) n t0 t1 s :=
  (den_body rfl Tryd.func7 _ _).trans (by kernel_rfl)
theorem en7 : enterable Tryd.prog 7 = true := by kernel_rfl

-- glossatorkeep1.LexerLines
noncomputable def F8 (D : Den) (n : Nat) (t0 t1 : AV) (s : Heap) : Ans :=
  oh (some ((.bool false), s)) fun t4 s =>
  oh (aCall Tryd.prog D 18 [] s) fun t12 s =>
  oh (mp (aUn .not t12) s) fun t13 s =>
  br t13
    (oh (some ((.bool false), s)) fun t4_2 s =>
  some (t4_2, s))
    (oh (some (t0.strip, s)) fun t14 s =>
  oh (aCall Tryd.prog D 12 [t14.strip, (.int .i64 900)] s) fun t15 s =>
  oh (some (t1.strip, s)) fun t16 s =>
  oh (aCall Tryd.prog D 12 [t16.strip, (.int .i64 900)] s) fun t17 s =>
  oh (some (t15, s)) fun t0_2 s =>
  oh (some (t17, s)) fun t1_2 s =>
  oh (some (t0_2.strip, s)) fun t19 s =>
  oh (aCall Tryd.prog D 19 [t19.strip] s) fun t20 s =>
  oh (some (t20.strip, s)) fun t18 s =>
  oh (mp (aExtract 0 t18) s) fun t21 s =>
  oh (mp (aExtract 1 t18) s) fun t22 s =>
  oh (some (t21, s)) fun t5 s =>
  oh (some (t22, s)) fun t6 s =>
  oh (some (t1_2.strip, s)) fun t24 s =>
  oh (aCall Tryd.prog D 19 [t24.strip] s) fun t25 s =>
  oh (some (t25.strip, s)) fun t23 s =>
  oh (mp (aExtract 0 t23) s) fun t26 s =>
  oh (mp (aExtract 1 t23) s) fun t27 s =>
  oh (some (t26, s)) fun t7 s =>
  oh (some (t27, s)) fun t8 s =>
  oh (some (t0_2.strip, s)) fun t29 s =>
  oh (mp (aBin Tryd.prog .add 9 t29 (.str [10])) s) fun t30 s =>
  oh (some (t1_2.strip, s)) fun t31 s =>
  oh (mp (aBin Tryd.prog .add 9 t30 t31) s) fun t32 s =>
  oh (aCall Tryd.prog D 19 [t32.strip] s) fun t33 s =>
  oh (some (t33.strip, s)) fun t28 s =>
  oh (mp (aExtract 0 t28) s) fun t34 s =>
  oh (mp (aExtract 1 t28) s) fun t35 s =>
  oh (some (t34, s)) fun t9 s =>
  oh (some (t35, s)) fun t10 s =>
  oh (some (t5.strip, s)) fun t36 s =>
  oh (aCall Tryd.prog D 23 [t36.strip] s) fun t37 s =>
  oh (some (t7.strip, s)) fun t38 s =>
  oh (aCall Tryd.prog D 23 [t38.strip] s) fun t39 s =>
  oh (mp (aAppend Tryd.prog 35 35 t37 t39) s) fun t40 s =>
  oh (some (t40, s)) fun t11 s =>
  oh (aCall Tryd.prog D 18 [] s) fun t41 s =>
  oh (some (t41.strip, s)) fun t42 s =>
  oh (gd (wA t42 true) s (some (t6.strip, s))) fun t43 s =>
  oh (gd (wA t42 true) s (mp (aBin Tryd.prog .eql 26 t43 (.int .i64 0)) s)) fun t44 s =>
  oh (mp (aPick t42 t44 (.bool false)) s) fun t45 s =>
  oh (some (t45.strip, s)) fun t46 s =>
  oh (gd (wA t46 true) s (some (t8.strip, s))) fun t47 s =>
  oh (gd (wA t46 true) s (mp (aBin Tryd.prog .eql 26 t47 (.int .i64 0)) s)) fun t48 s =>
  oh (mp (aPick t46 t48 (.bool false)) s) fun t49 s =>
  oh (some (t49.strip, s)) fun t50 s =>
  oh (gd (wA t50 true) s (some (t10.strip, s))) fun t51 s =>
  oh (gd (wA t50 true) s (mp (aBin Tryd.prog .eql 26 t51 (.int .i64 0)) s)) fun t52 s =>
  oh (mp (aPick t50 t52 (.bool false)) s) fun t53 s =>
  oh (some (t53.strip, s)) fun t54 s =>
  oh (gd (wA t54 true) s (some (t9.strip, s))) fun t55 s =>
  oh (gd (wA t54 true) s (aCall Tryd.prog D 23 [t55.strip] s)) fun t56 s =>
  oh (gd (wA t54 true) s (some (t11.strip, s))) fun t57 s =>
  oh (gd (wA t54 true) s (aCall Tryd.prog D 22 [t56.strip, t57.strip] s)) fun t58 s =>
  oh (mp (aPick t54 t58 (.bool false)) s) fun t59 s =>
  oh (some (t59, s)) fun t4_3 s =>
  some (t4_3, s))

theorem F8_eq (n : Nat) (t0 t1 : AV) (s : Heap) : den C (n + 1) 8 [t0, t1] s = F8 (den C n) n t0 t1 s :=
  (den_body rfl Tryd.func8 _ _).trans (by kernel_rfl)
theorem en8 : enterable Tryd.prog 8 = true := by kernel_rfl

-- glossatorkeep1.RelexSequence
noncomputable def F9_L0 (D : Den) (n : Nat) (k0 : Env → Heap → Ans) (e : Env) (s : Heap) : Ans :=
  oh (mp (aBin Tryd.prog .lss 3 (e 30) (e 29)) s) fun t31 s =>
  br t31
    (oh (mp (aIndexAddr Tryd.prog 46 (e 28) (e 30)) s) fun t32 s =>
  oh (aLoad false true 3 t32 s) fun t33 s =>
  oh (aAlloc Tryd.prog 48 s) fun t8 s =>
  oh (sto (aStore 3 s t8 t33)) fun _r s =>
  oh (mp (aAddr 0 t8) s) fun t34 s =>
  oh (aLoad false false 1 t34 s) fun t35 s =>
  oh (some ((e 0).strip, s)) fun t36 s =>
  oh (mp (aLen Tryd.prog 9 t36) s) fun t37 s =>
  oh (mp (aBin Tryd.prog .add 3 t37 (.int .i64 1)) s) fun t38 s =>
  oh (aCall Tryd.prog D 21 [t35.strip, t38.strip] s) fun t39 s =>
  oh (mp (aAddr 0 t8) s) fun t40 s =>
  oh (sto (aStore 1 s t40 t39)) fun _r s =>
  oh (mp (aAddr 0 t8) s) fun t41 s =>
  oh (aLoad false false 1 t41 s) fun t42 s =>
  oh (mp (aAddr 1 t8) s) fun t43 s =>
  oh (aLoad false false 1 t43 s) fun t44 s =>
  oh (some ((e 0).strip, s)) fun t45 s =>
  oh (mp (aLen Tryd.prog 9 t45) s) fun t46 s =>
  oh (mp (aAddr 0 t8) s) fun t47 s =>
  oh (aLoad false false 1 t47 s) fun t48 s =>
  oh (mp (aBin Tryd.prog .sub 3 t46 t48) s) fun t49 s =>
  oh (mp (aBin Tryd.prog .add 3 t49 (.int .i64 1)) s) fun t50 s =>
  oh (aCall Tryd.prog D 21 [t44.strip, t50.strip] s) fun t51 s =>
  oh (mp (aBin Tryd.prog .add 3 t42 t51) s) fun t52 s =>
  oh (mp (aAddr 1 t8) s) fun t53 s =>
  oh (sto (aStore 1 s t53 t52)) fun _r s =>
  drawOK C 9 (regOps Tryd.f9 11) [.silent, (kLoad false t41), .silent, (kLoad false t43), .silent, .silent, .silent, (kLoad false t47), .silent, .silent, (kCall [t44.strip, t50.strip]), .silent, .silent, .writer] <|
  oh (mp (aAddr 2 t8) s) fun t54 s =>
  oh (aLoad false false 1 t54 s) fun t55 s =>
  oh (aCall Tryd.prog D 12 [t55.strip, (.int .i64 40)] s) fun t56 s =>
  oh (mp (aAddr 2 t8) s) fun t57 s =>
  oh (sto (aStore 1 s t57 t56)) fun _r s =>
  oh (some ((e 0).strip, s)) fun t59 s =>
  oh (some ((e 5).strip, s)) fun t60 s =>
  oh (aLoad false true 3 t8 s) fun t61 s =>
  oh (aCall Tryd.prog D 24 [t59.strip, t60.strip, t61.strip] s) fun t62 s =>
  oh (some (t62.strip, s)) fun t58 s =>
  oh (mp (aExtract 0 t58) s) fun t63 s =>
  oh (mp (aExtract 1 t58) s) fun t64 s =>
  oh (mp (aExtract 2 t58) s) fun t65 s =>
  oh (some (t63, s)) fun t9 s =>
  oh (some (t64, s)) fun t10 s =>
  oh (some (t65, s)) fun t11 s =>
  oh (some (t11.strip, s)) fun t66 s =>
  oh (mp (aBin Tryd.prog .neq 26 t66 (.int .i64 0)) s) fun t67 s =>
  oh (some (t67.strip, s)) fun t68 s =>
  oh (gd (wA t68 false) s (some (t10.strip, s))) fun t69 s =>
  oh (gd (wA t68 false) s (mp (aBin Tryd.prog .lss 3 t69 (.int .i64 0)) s)) fun t70 s =>
  oh (mp (aPick t68 (.bool true) t70) s) fun t71 s =>
  oh (some (t71.strip, s)) fun t72 s =>
  oh (gd (wA t72 false) s (some (t10.strip, s))) fun t73 s =>
  oh (gd (wA t72 false) s (some ((e 5).strip, s))) fun t74 s =>
  oh (gd (wA t72 false) s (mp (aLen Tryd.prog 35 t74) s)) fun t75 s =>
  oh (gd (wA t72 false) s (mp (aBin Tryd.prog .gtr 3 t73 t75) s)) fun t76 s =>
  oh (mp (aPick t72 (.bool true) t76) s) fun t77 s =>
  oh (some (t77.strip, s)) fun t78 s =>
  oh (gd (wA t78 false) s (some (t10.strip, s))) fun t79 s =>
  oh (gd (wA t78 false) s (some (t9.strip, s))) fun t80 s =>
  oh (gd (wA t78 false) s (mp (aLen Tryd.prog 35 t80) s)) fun t81 s =>
  oh (gd (wA t78 false) s (mp (aBin Tryd.prog .gtr 3 t79 t81) s)) fun t82 s =>
  oh (mp (aPick t78 (.bool true) t82) s) fun t83 s =>
  br t83
    (oh (some ((.bool false), s)) fun t4_4 s =>
  some (t4_4, s))
    (oh (some ((e 0).strip, s)) fun t84 s =>
  oh (aLoad false true 3 t8 s) fun t85 s =>
  oh (aCall Tryd.prog D 25 [t84.strip, t85.strip] s) fun t86 s =>
  oh (some (t9.strip, s)) fun t87 s =>
  oh (some (t86, s)) fun t0_3 s =>
  oh (some (t87, s)) fun t5_2 s =>
  oh (mp (aBin Tryd.prog .add 3 (e 30) (.int .i64 1)) s) fun t88 s =>
  oh (some (t88.strip, s)) fun t30_2 s =>
  k0 (upds e [(31, t31), (32, t32), (33, t33), (8, t8), (33, t33.strip), (34, t34), (35, t35), (36, t36), (37, t37), (38, t38), (39, t39), (40, t40), (39, t39.strip), (41, t41), (42, t42), (43, t43), (44, t44), (45, t45), (46, t46), (47, t47), (48, t48), (49, t49), (50, t50), (51, t51), (52, t52), (53, t53), (52, t52.strip), (54, t54), (55, t55), (56, t56), (57, t57), (56, t56.strip), (59, t59), (60, t60), (61, t61), (62, t62), (58, t58), (63, t63), (64, t64), (65, t65), (63, t63.strip), (9, t9), (64, t64.strip), (10, t10), (65, t65.strip), (11, t11), (66, t66), (67, t67), (68, t68), (69, t69), (70, t70), (71, t71), (72, t72), (73, t73), (74, t74), (75, t75), (76, t76), (77, t77), (78, t78), (79, t79), (80, t80), (81, t81), (82, t82), (83, t83), (84, t84), (85, t85), (86, t86), (87, t87), (86, t86.strip), (0, t0_3), (87, t87.strip), (5, t5_2), (88, t88), (30, t30_2)]) s))
    (oh (some ((e 0).strip, s)) fun t90 s =>
  oh (aCall Tryd.prog D 19 [t90.strip] s) fun t91 s =>
  oh (some (t91.strip, s)) fun t89 s =>
  oh (mp (aExtract 0 t89) s) fun t92 s =>
  oh (mp (aExtract 1 t89) s) fun t93 s =>
  oh (some (t92, s)) fun t12 s =>
  oh (some (t93, s)) fun t6_2 s =>
  oh (aCall Tryd.prog D 18 [] s) fun t94 s =>
  oh (some (t94.strip, s)) fun t95 s =>
  oh (gd (wA t95 true) s (some (t6_2.strip, s))) fun t96 s =>
  oh (gd (wA t95 true) s (mp (aBin Tryd.prog .eql 26 t96 (.int .i64 0)) s)) fun t97 s =>
  oh (mp (aPick t95 t97 (.bool false)) s) fun t98 s =>
  oh (some (t98.strip, s)) fun t99 s =>
  oh (gd (wA t99 true) s (some ((e 5).strip, s))) fun t100 s =>
  oh (gd (wA t99 true) s (some (t12.strip, s))) fun t101 s =>
  oh (gd (wA t99 true) s (aCall Tryd.prog D 22 [t100.strip, t101.strip] s)) fun t102 s =>
  oh (mp (aPick t99 t102 (.bool false)) s) fun t103 s =>
  oh (some (t103, s)) fun t4_5 s =>
  some (t4_5, s))

noncomputable def F9 (D : Den) (n : Nat) (t0 t1 : AV) (s : Heap) : Ans :=
  oh (some ((.bool false), s)) fun t4 s =>
  oh (aCall Tryd.prog D 18 [] s) fun t13 s =>
  oh (mp (aUn .not t13) s) fun t14 s =>
  br t14
    (oh (some ((.bool false), s)) fun t4_2 s =>
  some (t4_2, s))
    (oh (some (t0.strip, s)) fun t15 s =>
  oh (aCall Tryd.prog D 12 [t15.strip, (.int .i64 200)] s) fun t16 s =>
  oh (some (t16, s)) fun t0_2 s =>
  oh (some (t0_2.strip, s)) fun t18 s =>
  oh (aCall Tryd.prog D 19 [t18.strip] s) fun t19 s =>
  oh (some (t19.strip, s)) fun t17 s =>
  oh (mp (aExtract 0 t17) s) fun t20 s =>
  oh (mp (aExtract 1 t17) s) fun t21 s =>
  oh (some (t20, s)) fun t5 s =>
  oh (some (t21, s)) fun t6 s =>
  oh (some (t6.strip, s)) fun t22 s =>
  oh (mp (aBin Tryd.prog .neq 26 t22 (.int .i64 0)) s) fun t23 s =>
  br t23
    (oh (some ((.bool false), s)) fun t4_3 s =>
  some (t4_3, s))
    (oh (some (t1.strip, s)) fun t24 s =>
  oh (some (t1.strip, s)) fun t25 s =>
  oh (mp (aLen Tryd.prog 46 t25) s) fun t26 s =>
  oh (mp (aMin t26 (.int .i64 6)) s) fun t27 s =>
  oh (mp (aSl Tryd.prog 46 t24 none (some t27) none) s) fun t28 s =>
  oh (mp (aLen Tryd.prog 46 t28) s) fun t29 s =>
  oh (some ((.int .i64 0), s)) fun t30 s =>
  aLoop (F9_L0 D n) n (upds (argEnv [t0, t1]) [(4, t4), (13, t13), (14, t14), (15, t15), (16, t16), (16, t16.strip), (0, t0_2), (18, t18), (19, t19), (17, t17), (20, t20), (21, t21), (20, t20.strip), (5, t5), (21, t21.strip), (6, t6), (22, t22), (23, t23), (24, t24), (25, t25), (26, t26), (27, t27), (28, t28), (29, t29), (30, t30)]) s))

theorem F9_eq (n : Nat) (t0 t1 : AV) (s : Heap) : den C (n + 1) 9 [t0, t1] s = F9 (den C n) n t0 t1 s :=
  (den_body rfl Tryd.func9 _ _).trans (by kernel_rfl)
theorem d9_11 (x : Ans) : drawOK C 9 (regOps Tryd.f9 11) [.silent, .silent, .silent, .silent, .silent, .silent, .silent, .silent, .silent, .silent, .silent, .silent, .silent, .writer] x = x := drawOK_ok (by kernel_rfl)
theorem en9 : enterable Tryd.prog 9 = true := by kernel_rfl

-- glossatorkeep1.RelexIdentity
noncomputable def F10 (D : Den) (n : Nat) (t0 t1 t2 : AV) (s : Heap) : Ans :=
  oh (some ((.bool false), s)) fun t6 s =>
  oh (aCall Tryd.prog D 18 [] s) fun t14 s =>
  oh (mp (aUn .not t14) s) fun t15 s =>
  br t15
    (oh (some ((.bool false), s)) fun t6_2 s =>
  some (t6_2, s))
    (oh (some (t0.strip, s)) fun t16 s =>
  oh (aCall Tryd.prog D 12 [t16.strip, (.int .i64 300)] s) fun t17 s =>
  oh (some (t17, s)) fun t0_2 s =>
  oh (some (t0_2.strip, s)) fun t19 s =>
  oh (aCall Tryd.prog D 19 [t19.strip] s) fun t20 s =>
  oh (some (t20.strip, s)) fun t18 s =>
  oh (mp (aExtract 0 t18) s) fun t21 s =>
  oh (mp (aExtract 1 t18) s) fun t22 s =>
  oh (some (t21, s)) fun t7 s =>
  oh (some (t22, s)) fun t8 s =>
  oh (some (t1.strip, s)) fun t23 s =>
  oh (some (t0_2.strip, s)) fun t24 s =>
  oh (mp (aLen Tryd.prog 9 t24) s) fun t25 s =>
  oh (mp (aBin Tryd.prog .add 3 t25 (.int .i64 1)) s) fun t26 s =>
  oh (aCall Tryd.prog D 21 [t23.strip, t26.strip] s) fun t27 s =>
  oh (some (t27, s)) fun t9 s =>
  oh (some (t9.strip, s)) fun t28 s =>
  oh (some (t2.strip, s)) fun t29 s =>
  oh (some (t0_2.strip, s)) fun t30 s =>
  oh (mp (aLen Tryd.prog 9 t30) s) fun t31 s =>
  oh (some (t9.strip, s)) fun t32 s =>
  oh (mp (aBin Tryd.prog .sub 3 t31 t32) s) fun t33 s =>
  oh (mp (aBin Tryd.prog .add 3 t33 (.int .i64 1)) s) fun t34 s =>
  oh (aCall Tryd.prog D 21 [t29.strip, t34.strip] s) fun t35 s =>
  oh (mp (aBin Tryd.prog .add 3 t28 t35) s) fun t36 s =>
  oh (some (t36, s)) fun t10 s =>
  oh (some (t0_2.strip, s)) fun t38 s =>
  oh (some (t7.strip, s)) fun t39 s =>
  oh (some (t9.strip, s)) fun t40 s =>
  oh (some (t10.strip, s)) fun t41 s =>
  oh (some (t0_2.strip, s)) fun t42 s =>
  oh (some (t9.strip, s)) fun t43 s =>
  oh (some (t10.strip, s)) fun t44 s =>
  oh (mp (aSl Tryd.prog 9 t42 (some t43) (some t44) none) s) fun t45 s =>
  oh (mp (aBuild Tryd.prog 48 [(0, t40), (1, t41), (2, t45)]) s) fun t46 s =>
  oh (aCall Tryd.prog D 24 [t38.strip, t39.strip, t46.strip] s) fun t47 s =>
  oh (some (t47.strip, s)) fun t37 s =>
  oh (mp (aExtract 0 t37) s) fun t48 s =>
  oh (mp (aExtract 1 t37) s) fun t49 s =>
  oh (mp (aExtract 2 t37) s) fun t50 s =>
  oh (some (t48, s)) fun t11 s =>
  oh (some (t49, s)) fun t12 s =>
  oh (some (t50, s)) fun t13 s =>
  oh (aCall Tryd.prog D 18 [] s) fun t51 s =>
  oh (some (t51.strip, s)) fun t52 s =>
  oh (gd (wA t52 true) s (some (t8.strip, s))) fun t53 s =>
  oh (gd (wA t52 true) s (mp (aBin Tryd.prog .eql 26 t53 (.int .i64 0)) s)) fun t54 s =>
  oh (mp (aPick t52 t54 (.bool false)) s) fun t55 s =>
  oh (some (t55.strip, s)) fun t56 s =>
  oh (gd (wA t56 true) s (some (t13.strip, s))) fun t57 s =>
  oh (gd (wA t56 true) s (mp (aBin Tryd.prog .eql 26 t57 (.int .i64 0)) s)) fun t58 s =>
  oh (mp (aPick t56 t58 (.bool false)) s) fun t59 s =>
  oh (some (t59.strip, s)) fun t60 s =>
  oh (gd (wA t60 true) s (some (t11.strip, s))) fun t61 s =>
  oh (gd (wA t60 true) s (some (t7.strip, s))) fun t62 s =>
  oh (gd (wA t60 true) s (aCall Tryd.prog D 22 [t61.strip, t62.strip] s)) fun t63 s =>
  oh (mp (aPick t60 t63 (.bool false)) s) fun t64 s =>
  oh (some (t64, s)) fun t6_3 s =>
  some (t6_3, s))

theorem F10_eq (n : Nat) (t0 t1 t2 : AV) (s : Heap) : den C (n + 1) 10 [t0, t1, t2] s = F10 (den C n) n t0 t1 t2 s :=
  (den_body rfl Tryd.func10 _ _).trans (by kernel_rfl)
theorem en10 : enterable Tryd.prog 10 = true := by kernel_rfl

-- glossatorkeep1.short
noncomputable def F12 (D : Den) (n : Nat) (t0 t1 : AV) (s : Heap) : Ans :=
  oh (some ((.str []), s)) fun t4 s =>
  oh (some (t0.strip, s)) fun t5 s =>
  oh (some (t0.strip, s)) fun t6 s =>
  oh (mp (aLen Tryd.prog 9 t6) s) fun t7 s =>
  oh (some (t1.strip, s)) fun t8 s =>
  oh (mp (aMin t7 t8) s) fun t9 s =>
  oh (mp (aSl Tryd.prog 9 t5 none (some t9) none) s) fun t10 s =>
  oh (some (t10, s)) fun t4_2 s =>
  some (t4_2, s)

theorem F12_eq (n : Nat) (t0 t1 : AV) (s : Heap) : den C (n + 1) 12 [t0, t1] s = F12 (den C n) n t0 t1 s :=
  (den_body rfl Tryd.func12 _ _).trans (by kernel_rfl)
theorem en12 : enterable Tryd.prog 12 = true := by kernel_rfl

-- glossatorkeep1.lexerExample
noncomputable def F18 (D : Den) (n : Nat) (s : Heap) : Ans :=
  oh (some ((.bool false), s)) fun t0 s =>
  oh (aCall Tryd.prog D 19 [(.str [97, 47, 47, 98])] s) fun t4 s =>
  oh (some (t4.strip, s)) fun t3 s =>
  oh (mp (aExtract 0 t3) s) fun t5 s =>
  oh (mp (aExtract 1 t3) s) fun t6 s =>
  oh (some (t5, s)) fun t1 s =>
  oh (some (t6, s)) fun t2 s =>
  oh (some (t2.strip, s)) fun t7 s =>
  oh (mp (aBin Tryd.prog .eql 26 t7 (.int .i64 0)) s) fun t8 s =>
  oh (some (t8.strip, s)) fun t9 s =>
  oh (gd (wA t9 true) s (some (t1.strip, s))) fun t10 s =>
  oh (gd (wA t9 true) s (mp (aBuild Tryd.prog 39 [(0, (.int .i64 103)), (1, (.str [97]))]) s)) fun t11 s =>
  oh (gd (wA t9 true) s (mp (aBuild Tryd.prog 39 [(0, (.int .i64 102)), (1, (.str [47, 47, 98]))]) s)) fun t12 s =>
  oh (gd (wA t9 true) s (mp (aBuildSlice Tryd.prog 35 2 [(0, t11), (1, t12)]) s)) fun t13 s =>
  oh (gd (wA t9 true) s (aCall Tryd.prog D 22 [t10.strip, t13.strip] s)) fun t14 s =>
  oh (mp (aPick t9 t14 (.bool false)) s) fun t15 s =>
  oh (some (t15.strip, s)) fun t16 s =>
  oh (gd (wA t16 true) s (aCall Tryd.prog D 30 [(.str [97, 95, 49])] s)) fun t17 s =>
  oh (mp (aPick t16 t17 (.bool false)) s) fun t18 s =>
  oh (some (t18.strip, s)) fun t19 s =>
  oh (gd (wA t19 true) s (aCall Tryd.prog D 30 [(.str [117, 115, 101])] s)) fun t20 s =>
  oh (gd (wA t19 true) s (mp (aUn .not t20) s)) fun t21 s =>
  oh (mp (aPick t19 t21 (.bool false)) s) fun t22 s =>
  oh (some (t22, s)) fun t0_2 s =>
  some (t0_2, s)

theorem F18_eq (n : Nat) (s : Heap) : den C (n + 1) 18 [] s = F18 (den C n) n s :=
  (den_body rfl Tryd.func18 _ _).trans (by kernel_rfl)
theorem en18 : enterable Tryd.prog 18 = true := by kernel_rfl

-- lexer.Tokenize
noncomputable def F19_L0 (D : Den) (n : Nat) (k0 : Env → Heap → Ans) (e : Env) (s : Heap) : Ans :=
  oh (some ((e 0).strip, s)) fun t10 s =>
  oh (mp (aLen Tryd.prog 9 t10) s) fun t11 s =>
  oh (mp (aBin Tryd.prog .gtr 3 t11 (.int .i64 0)) s) fun t12 s =>
  br t12
    (oh (some ((e 0).strip, s)) fun t14 s =>
  oh (aCall Tryd.prog D 31 [t14.strip] s) fun t15 s =>
  oh (some (t15.strip, s)) fun t13 s =>
  oh (mp (aExtract 0 t13) s) fun t16 s =>
  oh (mp (aExtract 1 t13) s) fun t17 s =>
  oh (some (t16, s)) fun t5 s =>
  oh (some (t17, s)) fun t6 s =>
  oh (some ((e 4), s)) fun t18 s =>
  oh (some (t6.strip, s)) fun t19 s =>
  oh (some ((e 0).strip, s)) fun t20 s =>
  oh (some (t5.strip, s)) fun t21 s =>
  oh (mp (aSl Tryd.prog 9 t20 none (some t21) none) s) fun t22 s =>
  oh (mp (aBuild Tryd.prog 39 [(0, t19), (1, t22)]) s) fun t23 s =>
  oh (mp (aBuildSlice Tryd.prog 35 1 [(0, t23)]) s) fun t24 s =>
  oh (mp (aAppend Tryd.prog 35 35 t18 t24) s) fun t25 s =>
  oh (some (t25, s)) fun t4_2 s =>
  oh (some ((e 0).strip, s)) fun t26 s =>
  oh (some (t5.strip, s)) fun t27 s =>
  oh (mp (aSl Tryd.prog 9 t26 (some t27) none none) s) fun t28 s =>
  oh (some (t28, s)) fun t0_2 s =>
  k0 (upds e [(10, t10), (11, t11), (12, t12), (14, t14), (15, t15), (13, t13), (16, t16), (17, t17), (16, t16.strip), (5, t5), (17, t17.strip), (6, t6), (4, (e 4).strip), (18, t18), (19, t19), (20, t20), (21, t21), (22, t22), (23, t23), (24, t24), (18, t18.strip), (25, t25), (25, t25.strip), (4, t4_2), (26, t26), (27, t27), (28, t28), (28, t28.strip), (0, t0_2)]) s)
    (oh (some ((e 4).strip, s)) fun t29 s =>
  oh (some (t29, s)) fun t2_3 s =>
  oh (some ((.int .i64 0), s)) fun t3_3 s =>
  some (.tup [t2_3, t3_3], s))

noncomputable def F19 (D : Den) (n : Nat) (t0 : AV) (s : Heap) : Ans :=
  oh (some (.nils, s)) fun t2 s =>
  oh (some ((.int .i64 0), s)) fun t3 s =>
  oh (some (t0.strip, s)) fun t7 s =>
  oh (mp (aLen Tryd.prog 9 t7) s) fun t8 s =>
  oh (mp (aBin Tryd.prog .gtr 3 t8 (.int .i64 2000)) s) fun t9 s =>
  br t9
    (oh (some (.nils, s)) fun t2_2 s =>
  oh (some ((.int .i64 2), s)) fun t3_2 s =>
  some (.tup [t2_2, t3_2], s))
    (oh (some (.nils, s)) fun t4 s =>
  aLoop (F19_L0 D n) n (upds (argEnv [t0]) [(2, t2), (3, t3), (7, t7), (8, t8), (9, t9), (4, t4)]) s)

theorem F19_eq (n : Nat) (t0 : AV) (s : Heap) : den C (n + 1) 19 [t0] s = F19 (den C n) n t0 s :=
  (den_body rfl Tryd.func19 _ _).trans (by kernel_rfl)
theorem en19 : enterable Tryd.prog 19 = true := by kernel_rfl

-- glossatorkeep1.source
noncomputable def F20_L0 (D : Den) (n : Nat) (k0 : Env → Heap → Ans) (e : Env) (s : Heap) : Ans :=
  oh (mp (aBin Tryd.prog .lss 3 (e 8) (e 7)) s) fun t9 s =>
  br t9
    (oh (mp (aIndexAddr Tryd.prog 35 (e 6) (e 8)) s) fun t10 s =>
  oh (aLoad false true 2 t10 s) fun t11 s =>
  oh (aAlloc Tryd.prog 39 s) fun t5 s =>
  oh (sto (aStore 2 s t5 t11)) fun _r s =>
  oh (some ((e 3).strip, s)) fun t12 s =>
  oh (mp (aAddr 1 t5) s) fun t13 s =>
  oh (aLoad false false 1 t13 s) fun t14 s =>
  oh (mp (aBin Tryd.prog .add 9 t12 t14) s) fun t15 s =>
  oh (some (t15, s)) fun t3_2 s =>
  oh (mp (aBin Tryd.prog .add 3 (e 8) (.int .i64 1)) s) fun t16 s =>
  oh (some (t16.strip, s)) fun t8_2 s =>
  k0 (upds e [(9, t9), (10, t10), (11, t11), (5, t5), (11, t11.strip), (12, t12), (13, t13), (14, t14), (15, t15), (15, t15.strip), (3, t3_2), (16, t16), (8, t8_2)]) s)
    (oh (some ((e 3).strip, s)) fun t17 s =>
  oh (some (t17, s)) fun t2_2 s =>
  some (t2_2, s))

noncomputable def F20 (D : Den) (n : Nat) (t0 : AV) (s : Heap) : Ans :=
  oh (some ((.str []), s)) fun t2 s =>
  oh (some ((.str []), s)) fun t3 s =>
  oh (some (t0.strip, s)) fun t6 s =>
  oh (mp (aLen Tryd.prog 35 t6) s) fun t7 s =>
  oh (some ((.int .i64 0), s)) fun t8 s =>
  aLoop (F20_L0 D n) n (upds (argEnv [t0]) [(2, t2), (3, t3), (6, t6), (7, t7), (8, t8)]) s

theorem F20_eq (n : Nat) (t0 : AV) (s : Heap) : den C (n + 1) 20 [t0] s = F20 (den C n) n t0 s :=
  (den_body rfl Tryd.func20 _ _).trans (by kernel_rfl)
theorem en20 : enterable Tryd.prog 20 = true := by kernel_rfl

-- glossatorref1.Mod
noncomputable def F21_J0 (D : Den) (n : Nat) (e : Env) (s : Heap) : Ans :=
  oh (some ((e 5).strip, s)) fun t14 s =>
  oh (some (t14, s)) fun t4_2 s =>
  some (t4_2, s)

noncomputable def F21 (D : Den) (n : Nat) (t0 t1 : AV) (s : Heap) : Ans :=
  oh (some ((.int .i64 0), s)) fun t4 s =>
  oh (some (t0.strip, s)) fun t6 s =>
  oh (some (t1.strip, s)) fun t7 s =>
  oh (mp (aBin Tryd.prog .rem 3 t6 t7) s) fun t8 s =>
  oh (some (t8, s)) fun t5 s =>
  oh (some (t5.strip, s)) fun t9 s =>
  oh (mp (aBin Tryd.prog .lss 3 t9 (.int .i64 0)) s) fun t10 s =>
  br t10
    (oh (some (t5.strip, s)) fun t11 s =>
  oh (some (t1.strip, s)) fun t12 s =>
  oh (mp (aBin Tryd.prog .add 3 t11 t12) s) fun t13 s =>
  oh (some (t13, s)) fun t5_2 s =>
  F21_J0 D n (upds (argEnv [t0, t1]) [(4, t4), (6, t6), (7, t7), (8, t8), (8, t8.strip), (5, t5), (9, t9), (10, t10), (11, t11), (12, t12), (13, t13), (13, t13.strip), (5, t5_2)]) s)
    (F21_J0 D n (upds (argEnv [t0, t1]) [(4, t4), (6, t6), (7, t7), (8, t8), (8, t8.strip), (5, t5), (9, t9), (10, t10)]) s)

theorem F21_eq (n : Nat) (t0 t1 : AV) (s : Heap) : den C (n + 1) 21 [t0, t1] s = F21 (den C n) n t0 t1 s :=
  (den_body rfl Tryd.func21 _ _).trans (by kernel_rfl)
theorem en21 : enterable Tryd.prog 21 = true := by kernel_rfl

-- glossatorref1.EqualLists api.Token 
noncomputable def F22_L0 (D : Den) (n : Nat) (k0 : Env → Heap → Ans) (e : Env) (s : Heap) : Ans :=
  oh (mp (aBin Tryd.prog .lss 3 (e 13) (e 12)) s) fun t14 s =>
  br t14
    (oh (some ((e 13).strip, s)) fun t15 s =>
  oh (some (t15, s)) fun t5 s =>
  oh (some ((e 0).strip, s)) fun t16 s =>
  oh (some (t5.strip, s)) fun t17 s =>
  oh (mp (aIndexAddr Tryd.prog 35 t16 t17) s) fun t18 s =>
  oh (aLoad false true 2 t18 s) fun t19 s =>
  oh (some ((e 1).strip, s)) fun t20 s =>
  oh (some (t5.strip, s)) fun t21 s =>
  oh (mp (aIndexAddr Tryd.prog 35 t20 t21) s) fun t22 s =>
  oh (aLoad false true 2 t22 s) fun t23 s =>
  oh (mp (aBin Tryd.prog .neq 39 t19 t23) s) fun t24 s =>
  drawOK C 22 (regOps Tryd.f22 6) [.silent, .silent, .silent, (kLoad false t18), .silent, .silent, .silent, (kLoad false t22), .silent] <|
  br t24
    (oh (some ((.bool false), s)) fun t4_3 s =>
  some (t4_3, s))
    (oh (mp (aBin Tryd.prog .add 3 (e 13) (.int .i64 1)) s) fun t25 s =>
  oh (some (t25.strip, s)) fun t13_2 s =>
  k0 (upds e [(14, t14), (15, t15), (15, t15.strip), (5, t5), (16, t16), (17, t17), (18, t18), (19, t19), (20, t20), (21, t21), (22, t22), (23, t23), (24, t24), (25, t25), (13, t13_2)]) s))
    (oh (some ((.bool true), s)) fun t4_4 s =>
  some (t4_4, s))

noncomputable def F22 (D : Den) (n : Nat) (t0 t1 : AV) (s : Heap) : Ans :=
  oh (some ((.bool false), s)) fun t4 s =>
  oh (some (t0.strip, s)) fun t6 s =>
  oh (mp (aLen Tryd.prog 35 t6) s) fun t7 s =>
  oh (some (t1.strip, s)) fun t8 s =>
  oh (mp (aLen Tryd.prog 35 t8) s) fun t9 s =>
  oh (mp (aBin Tryd.prog .neq 3 t7 t9) s) fun t10 s =>
  br t10
    (oh (some ((.bool false), s)) fun t4_2 s =>
  some (t4_2, s))
    (oh (some (t0.strip, s)) fun t11 s =>
  oh (mp (aLen Tryd.prog 35 t11) s) fun t12 s =>
  oh (some ((.int .i64 0), s)) fun t13 s =>
  aLoop (F22_L0 D n) n (upds (argEnv [t0, t1]) [(4, t4), (6, t6), (7, t7), (8, t8), (9, t9), (10, t10), (11, t11), (12, t12), (13, t13)]) s)

theorem F22_eq (n : Nat) (t0 t1 : AV) (s : Heap) : den C (n + 1) 22 [t0, t1] s = F22 (den C n) n t0 t1 s :=
  (den_body rfl Tryd.func22 _ _).trans (by kernel_rfl)
theorem d22_6 (x : Ans) : drawOK C 22 (regOps Tryd.f22 6) [.silent, .silent, .silent, .silent, .silent, .silent, .silent, .silent, .silent] x = x := drawOK_ok (by kernel_rfl)
theorem en22 : enterable Tryd.prog 22 = true := by kernel_rfl

-- glossatorkeep1.significant
noncomputable def F23_J1 (D : Den) (n : Nat) (k0 : Env → Heap → Ans) (e : Env) (s : Heap) : Ans :=
  oh (mp (aBin Tryd.prog .add 3 (e 8) (.int .i64 1)) s) fun t19 s =>
  oh (some (t19.strip, s)) fun t8_2 s =>
  k0 (upds e [(19, t19), (8, t8_2)]) s

noncomputable def F23_L0 (D : Den) (n : Nat) (k0 : Env → Heap → Ans) (e : Env) (s : Heap) : Ans :=
  oh (mp (aBin Tryd.prog .lss 3 (e 8) (e 7)) s) fun t9 s =>
  br t9
    (oh (mp (aIndexAddr Tryd.prog 35 (e 6) (e 8)) s) fun t10 s =>
  oh (aLoad false true 2 t10 s) fun t11 s =>
  oh (aAlloc Tryd.prog 39 s) fun t5 s =>
  oh (sto (aStore 2 s t5 t11)) fun _r s =>
  oh (mp (aAddr 0 t5) s) fun t12 s =>
  oh (aLoad false false 1 t12 s) fun t13 s =>
  oh (mp (aBin Tryd.prog .neq 3 t13 (.int .i64 101)) s) fun t14 s =>
  br t14
    (oh (some ((e 3), s)) fun t15 s =>
  oh (aLoad false true 2 t5 s) fun t16 s =>
  oh (mp (aBuildSlice Tryd.prog 35 1 [(0, t16)]) s) fun t17 s =>
  oh (mp (aAppend Tryd.prog 35 35 t15 t17) s) fun t18 s =>
  oh (some (t18, s)) fun t3_2 s =>
  F23_J1 D n k0 (upds e [(9, t9), (10, t10), (11, t11), (5, t5), (11, t11.strip), (12, t12), (13, t13), (14, t14), (3, (e 3).strip), (15, t15), (16, t16), (17, t17), (15, t15.strip), (18, t18), (18, t18.strip), (3, t3_2)]) s)
    (F23_J1 D n k0 (upds e [(9, t9), (10, t10), (11, t11), (5, t5), (11, t11.strip), (12, t12), (13, t13), (14, t14)]) s))
    (oh (some ((e 3), s)) fun t20 s =>
  oh (some (t20, s)) fun t2_2 s =>
  some (t2_2, s))

noncomputable def F23 (D : Den) (n : Nat) (t0 : AV) (s : Heap) : Ans :=
  oh (some (.nils, s)) fun t2 s =>
  oh (some (.nils, s)) fun t3 s =>
  oh (some (t0.strip, s)) fun t6 s =>
  oh (mp (aLen Tryd.prog 35 t6) s) fun t7 s =>
  oh (some ((.int .i64 0), s)) fun t8 s =>
  aLoop (F23_L0 D n) n (upds (argEnv [t0]) [(2, t2), (3, t3), (6, t6), (7, t7), (8, t8)]) s

theorem F23_eq (n : Nat) (t0 : AV) (s : Heap) : den C (n + 1) 23 [t0] s = F23 (den C n) n t0 s :=
  (den_body rfl Tryd.func23 _ _).trans (by kernel_rfl)
theorem en23 : enterable Tryd.prog 23 = true := by kernel_rfl

-- relex.Update
noncomputable def F24_L1 (D : Den) (n : Nat) (k0 : Env → Heap → Ans) (e : Env) (s : Heap) : Ans :=
  oh (some ((e 15).strip, s)) fun t78 s =>
  oh (some ((e 9).strip, s)) fun t79 s =>
  oh (mp (aLen Tryd.prog 9 t79) s) fun t80 s =>
  oh (mp (aBin Tryd.prog .lss 3 t78 t80) s) fun t81 s =>
  br t81
    (oh (some ((e 13).strip, s)) fun t82 s =>
  oh (some ((e 15).strip, s)) fun t83 s =>
  oh (some ((e 17).strip, s)) fun t84 s =>
  oh (mp (aBin Tryd.prog .sub 3 t83 t84) s) fun t85 s =>
  oh (aCall Tryd.prog D 36 [t82.strip, t85.strip] s) fun t86 s =>
  oh (some (t86, s)) fun t18 s =>
  oh (some ((e 15).strip, s)) fun t87 s =>
  oh (some ((e 17).strip, s)) fun t88 s =>
  oh (mp (aBin Tryd.prog .sub 3 t87 t88) s) fun t89 s =>
  oh (mp (aAddr 1 (e 5)) s) fun t90 s =>
  oh (aLoad false false 1 t90 s) fun t91 s =>
  oh (mp (aBin Tryd.prog .geq 3 t89 t91) s) fun t92 s =>
  oh (some (t92.strip, s)) fun t93 s =>
  oh (gd (wA t93 true) s (some (t18.strip, s))) fun t94 s =>
  oh (gd (wA t93 true) s (mp (aBin Tryd.prog .geq 3 t94 (.int .i64 0)) s)) fun t95 s =>
  oh (mp (aPick t93 t95 (.bool false)) s) fun t96 s =>
  br t96
    (oh (some ((e 16), s)) fun t97 s =>
  oh (some ((e 11).strip, s)) fun t98 s =>
  oh (some (t18.strip, s)) fun t99 s =>
  oh (mp (aSl Tryd.prog 35 t98 (some t99) none none) s) fun t100 s =>
  oh (mp (aAppend Tryd.prog 35 35 t97 t100) s) fun t101 s =>
  oh (some ((e 14).strip, s)) fun t102 s =>
  oh (some ((e 11).strip, s)) fun t103 s =>
  oh (mp (aLen Tryd.prog 35 t103) s) fun t104 s =>
  oh (mp (aBin Tryd.prog .add 3 t102 t104) s) fun t105 s =>
  oh (some (t18.strip, s)) fun t106 s =>
  oh (mp (aBin Tryd.prog .sub 3 t105 t106) s) fun t107 s =>
  oh (some (t101, s)) fun t6_6 s =>
  oh (some (t107, s)) fun t7_6 s =>
  oh (some ((.int .i64 0), s)) fun t8_6 s =>
  some (.tup [t6_6, t7_6, t8_6], s))
    (oh (some ((e 9).strip, s)) fun t109 s =>
  oh (some ((e 15).strip, s)) fun t110 s =>
  oh (mp (aSl Tryd.prog 9 t109 (some t110) none none) s) fun t111 s =>
  oh (aCall Tryd.prog D 31 [t111.strip] s) fun t112 s =>
  oh (some (t112.strip, s)) fun t108 s =>
  oh (mp (aExtract 0 t108) s) fun t113 s =>
  oh (mp (aExtract 1 t108) s) fun t114 s =>
  oh (some (t113, s)) fun t19 s =>
  oh (some (t114, s)) fun t20 s =>
  oh (some ((e 16), s)) fun t115 s =>
  oh (some (t20.strip, s)) fun t116 s =>
  oh (some ((e 9).strip, s)) fun t117 s =>
  oh (some ((e 15).strip, s)) fun t118 s =>
  oh (some ((e 15).strip, s)) fun t119 s =>
  oh (some (t19.strip, s)) fun t120 s =>
  oh (mp (aBin Tryd.prog .add 3 t119 t120) s) fun t121 s =>
  oh (mp (aSl Tryd.prog 9 t117 (some t118) (some t121) none) s) fun t122 s =>
  oh (mp (aBuild Tryd.prog 39 [(0, t116), (1, t122)]) s) fun t123 s =>
  oh (mp (aBuildSlice Tryd.prog 35 1 [(0, t123)]) s) fun t124 s =>
  oh (mp (aAppend Tryd.prog 35 35 t115 t124) s) fun t125 s =>
  oh (some (t125, s)) fun t16_2 s =>
  oh (some ((e 15).strip, s)) fun t126 s =>
  oh (some (t19.strip, s)) fun t127 s =>
  oh (mp (aBin Tryd.prog .add 3 t126 t127) s) fun t128 s =>
  oh (some (t128, s)) fun t15_3 s =>
  k0 (upds e [(78, t78), (79, t79), (80, t80), (81, t81), (82, t82), (83, t83), (84, t84), (85, t85), (86, t86), (86, t86.strip), (18, t18), (87, t87), (88, t88), (89, t89), (90, t90), (91, t91), (92, t92), (93, t93), (94, t94), (95, t95), (96, t96), (109, t109), (110, t110), (111, t111), (112, t112), (108, t108), (113, t113), (114, t114), (113, t113.strip), (19, t19), (114, t114.strip), (20, t20), (16, (e 16).strip), (115, t115), (116, t116), (117, t117), (118, t118), (119, t119), (120, t120), (121, t121), (122, t122), (123, t123), (124, t124), (115, t115.strip), (125, t125), (125, t125.strip), (16, t16_2), (126, t126), (127, t127), (128, t128), (128, t128.strip), (15, t15_3)]) s))
    (oh (some ((e 16).strip, s)) fun t129 s =>
  oh (some ((e 14).strip, s)) fun t130 s =>
  oh (some (t129, s)) fun t6_7 s =>
  oh (some (t130, s)) fun t7_7 s =>
  oh (some ((.int .i64 0), s)) fun t8_7 s =>
  some (.tup [t6_7, t7_7, t8_7], s))

noncomputable def F24_L0 (D : Den) (n : Nat) (k0 : Env → Heap → Ans) (e : Env) (s : Heap) : Ans :=
  oh (some ((e 14).strip, s)) fun t50 s =>
  oh (some ((e 11).strip, s)) fun t51 s =>
  oh (mp (aLen Tryd.prog 35 t51) s) fun t52 s =>
  oh (mp (aBin Tryd.prog .lss 3 t50 t52) s) fun t53 s =>
  oh (some (t53.strip, s)) fun t54 s =>
  oh (gd (wA t54 true) s (some ((e 13).strip, s))) fun t55 s =>
  oh (gd (wA t54 true) s (some ((e 14).strip, s))) fun t56 s =>
  oh (gd (wA t54 true) s (mp (aIndexAddr Tryd.prog 30 t55 t56) s)) fun t57 s =>
  oh (gd (wA t54 true) s (aLoad false false 1 t57 s)) fun t58 s =>
  oh (gd (wA t54 true) s (mp (aAddr 0 (e 5)) s)) fun t59 s =>
  oh (gd (wA t54 true) s (aLoad false false 1 t59 s)) fun t60 s =>
  oh (gd (wA t54 true) s (mp (aBin Tryd.prog .lss 3 t58 t60) s)) fun t61 s =>
  oh (mp (aPick t54 t61 (.bool false)) s) fun t62 s =>
  drawOK C 24 (regOps Tryd.f24 13) [.silent, .silent, .silent, .silent, .silent, (kGd (wA t54 true) .silent), (kGd (wA t54 true) .silent), (kGd (wA t54 true) .silent), (kGd (wA t54 true) (kLoad false t57)), (kGd (wA t54 true) .silent), (kGd (wA t54 true) (kLoad false t59)), (kGd (wA t54 true) .silent), .silent] <|
  br t62
    (oh (some ((e 13).strip, s)) fun t63 s =>
  oh (some ((e 14).strip, s)) fun t64 s =>
  oh (mp (aIndexAddr Tryd.prog 30 t63 t64) s) fun t65 s =>
  oh (aLoad false false 1 t65 s) fun t66 s =>
  oh (some (t66, s)) fun t15_2 s =>
  oh (some ((e 14).strip, s)) fun t67 s =>
  oh (mp (aBin Tryd.prog .add 3 t67 (.int .i64 1)) s) fun t68 s =>
  oh (some (t68, s)) fun t14_2 s =>
  k0 (upds e [(50, t50), (51, t51), (52, t52), (53, t53), (54, t54), (55, t55), (56, t56), (57, t57), (58, t58), (59, t59), (60, t60), (61, t61), (62, t62), (63, t63), (64, t64), (65, t65), (66, t66), (66, t66.strip), (15, t15_2), (67, t67), (68, t68), (68, t68.strip), (14, t14_2)]) s)
    (oh (some ((e 11).strip, s)) fun t69 s =>
  oh (some ((e 14).strip, s)) fun t70 s =>
  oh (mp (aSl Tryd.prog 35 t69 none (some t70) none) s) fun t71 s =>
  oh (aCall Tryd.prog D 35 [t71.strip] s) fun t72 s =>
  oh (some (t72, s)) fun t16 s =>
  oh (some ((e 9).strip, s)) fun t73 s =>
  oh (mp (aLen Tryd.prog 9 t73) s) fun t74 s =>
  oh (some ((e 0).strip, s)) fun t75 s =>
  oh (mp (aLen Tryd.prog 9 t75) s) fun t76 s =>
  oh (mp (aBin Tryd.prog .sub 3 t74 t76) s) fun t77 s =>
  oh (some (t77, s)) fun t17 s =>
  aLoop (F24_L1 D n) n (upds e [(50, t50), (51, t51), (52, t52), (53, t53), (54, t54), (55, t55), (56, t56), (57, t57), (58, t58), (59, t59), (60, t60), (61, t61), (62, t62), (69, t69), (70, t70), (71, t71), (72, t72), (72, t72.strip), (16, t16), (73, t73), (74, t74), (75, t75), (76, t76), (77, t77), (77, t77.strip), (17, t17)]) s)

noncomputable def F24 (D : Den) (n : Nat) (t0 t1 t2 : AV) (s : Heap) : Ans :=
  oh (aBox false 48 t2 s) fun t5 s =>
  oh (some (.nils, s)) fun t6 s =>
  oh (some ((.int .i64 0), s)) fun t7 s =>
  oh (some ((.int .i64 0), s)) fun t8 s =>
  oh (some (t0.strip, s)) fun t21 s =>
  oh (mp (aLen Tryd.prog 9 t21) s) fun t22 s =>
  oh (mp (aBin Tryd.prog .gtr 3 t22 (.int .i64 2000)) s) fun t23 s =>
  br t23
    (oh (some (.nils, s)) fun t6_2 s =>
  oh (some ((.int .i64 0), s)) fun t7_2 s =>
  oh (some ((.int .i64 2), s)) fun t8_2 s =>
  some (.tup [t6_2, t7_2, t8_2], s))
    (oh (some (t0.strip, s)) fun t25 s =>
  oh (aLoad false true 3 t5 s) fun t26 s =>
  oh (mp (aBuildSlice Tryd.prog 46 1 [(0, t26)]) s) fun t27 s =>
  oh (aCall Tryd.prog D 32 [t25.strip, t27.strip] s) fun t28 s =>
  oh (some (t28.strip, s)) fun t24 s =>
  oh (mp (aExtract 0 t24) s) fun t29 s =>
  oh (mp (aExtract 1 t24) s) fun t30 s =>
  oh (some (t29, s)) fun t9 s =>
  oh (some (t30, s)) fun t10 s =>
  oh (some (t10.strip, s)) fun t31 s =>
  oh (mp (aBin Tryd.prog .neq 26 t31 (.int .i64 0)) s) fun t32 s =>
  br t32
    (oh (some (t10.strip, s)) fun t33 s =>
  oh (some (.nils, s)) fun t6_3 s =>
  oh (some ((.int .i64 0), s)) fun t7_3 s =>
  oh (some (t33, s)) fun t8_3 s =>
  some (.tup [t6_3, t7_3, t8_3], s))
    (oh (some (t0.strip, s)) fun t35 s =>
  oh (aCall Tryd.prog D 19 [t35.strip] s) fun t36 s =>
  oh (some (t36.strip, s)) fun t34 s =>
  oh (mp (aExtract 0 t34) s) fun t37 s =>
  oh (mp (aExtract 1 t34) s) fun t38 s =>
  oh (some (t37, s)) fun t11 s =>
  oh (some (t38, s)) fun t12 s =>
  oh (some (t11.strip, s)) fun t40 s =>
  oh (some (t1.strip, s)) fun t41 s =>
  oh (aCall Tryd.prog D 33 [t40.strip, t41.strip] s) fun t42 s =>
  oh (mp (aUn .not t42) s) fun t43 s =>
  oh (some (t43, s)) fun t39 s =>
  br t39
    (oh (some (.nils, s)) fun t6_4 s =>
  oh (some ((.int .i64 0), s)) fun t7_4 s =>
  oh (some ((.int .i64 3), s)) fun t8_4 s =>
  some (.tup [t6_4, t7_4, t8_4], s))
    (oh (some (t9.strip, s)) fun t45 s =>
  oh (mp (aLen Tryd.prog 9 t45) s) fun t46 s =>
  oh (mp (aBin Tryd.prog .gtr 3 t46 (.int .i64 2000)) s) fun t47 s =>
  oh (some (t47, s)) fun t44 s =>
  br t44
    (oh (some (.nils, s)) fun t6_5 s =>
  oh (some ((.int .i64 0), s)) fun t7_5 s =>
  oh (some ((.int .i64 2), s)) fun t8_5 s =>
  some (.tup [t6_5, t7_5, t8_5], s))
    (oh (some (t11.strip, s)) fun t48 s =>
  oh (aCall Tryd.prog D 34 [t48.strip] s) fun t49 s =>
  oh (some (t49, s)) fun t13 s =>
  oh (some ((.int .i64 0), s)) fun t14 s =>
  oh (some ((.int .i64 0), s)) fun t15 s =>
  aLoop (F24_L0 D n) n (upds (argEnv [t0, t1, t2]) [(5, t5), (6, t6), (7, t7), (8, t8), (21, t21), (22, t22), (23, t23), (25, t25), (26, t26), (27, t27), (28, t28), (24, t24), (29, t29), (30, t30), (29, t29.strip), (9, t9), (30, t30.strip), (10, t10), (31, t31), (32, t32), (35, t35), (36, t36), (34, t34), (37, t37), (38, t38), (37, t37.strip), (11, t11), (38, t38.strip), (12, t12), (40, t40), (41, t41), (42, t42), (43, t43), (43, t43.strip), (39, t39), (45, t45), (46, t46), (47, t47), (47, t47.strip), (44, t44), (48, t48), (49, t49), (49, t49.strip), (13, t13), (14, t14), (15, t15)]) s))))

theorem F24_eq (n : Nat) (t0 t1 t2 : AV) (s : Heap) : den C (n + 1) 24 [t0, t1, t2] s = F24 (den C n) n t0 t1 t2 s :=
  (den_body rfl Tryd.func24 _ _).trans (by kernel_rfl)
theorem d24_13 (x : Ans) : drawOK C 24 (regOps Tryd.f24 13) [.silent, .silent, .silent, .silent, .silent, .silent, .silent, .silent, .silent, .silent, .silent, .silent, .silent] x = x := drawOK_ok (by kernel_rfl)
theorem en24 : enterable Tryd.prog 24 = true := by kernel_rfl

-- glossatorref1.Splice
noncomputable def F25 (D : Den) (n : Nat) (t0 t1 : AV) (s : Heap) : Ans :=
  oh (aBox false 48 t1 s) fun t3 s =>
  oh (some ((.str []), s)) fun t4 s =>
  oh (some (t0.strip, s)) fun t5 s =>
  oh (mp (aAddr 0 t3) s) fun t6 s =>
  oh (aLoad false false 1 t6 s) fun t7 s =>
  oh (mp (aSl Tryd.prog 9 t5 none (some t7) none) s) fun t8 s =>
  oh (mp (aAddr 2 t3) s) fun t9 s =>
  oh (aLoad false false 1 t9 s) fun t10 s =>
  oh (mp (aBin Tryd.prog .add 9 t8 t10) s) fun t11 s =>
  oh (some (t0.strip, s)) fun t12 s =>
  oh (mp (aAddr 1 t3) s) fun t13 s =>
  oh (aLoad false false 1 t13 s) fun t14 s =>
  oh (mp (aSl Tryd.prog 9 t12 (some t14) none none) s) fun t15 s =>
  oh (mp (aBin Tryd.prog .add 9 t11 t15) s) fun t16 s =>
  oh (some (t16, s)) fun t4_2 s =>
  drawOK C 25 (regOps Tryd.f25 1) [.silent, .silent, (kLoad false t6), .silent, .silent, (kLoad false t9), .silent, .silent, .silent, (kLoad false t13), .silent, .silent, .silent] <|
  some (t4_2, s)

theorem F25_eq (n : Nat) (t0 t1 : AV) (s : Heap) : den C (n + 1) 25 [t0, t1] s = F25 (den C n) n t0 t1 s :=
  (den_body rfl Tryd.func25 _ _).trans (by kernel_rfl)
theorem d25_1 (x : Ans) : drawOK C 25 (regOps Tryd.f25 1) [.silent, .silent, .silent, .silent, .silent, .silent, .silent, .silent, .silent, .silent, .silent, .silent, .silent] x = x := drawOK_ok (by kernel_rfl)
theorem en25 : enterable Tryd.prog 25 = true := by kernel_rfl

-- lexer.IsIdentifier
noncomputable def F30 (D : Den) (n : Nat) (t0 : AV) (s : Heap) : Ans :=
  oh (some ((.bool false), s)) fun t2 s =>
  oh (some (t0.strip, s)) fun t5 s =>
  oh (mp (aLen Tryd.prog 9 t5) s) fun t6 s =>
  oh (mp (aBin Tryd.prog .eql 3 t6 (.int .i64 0)) s) fun t7 s =>
  oh (some (t7.strip, s)) fun t8 s =>
  oh (gd (wA t8 false) s (some (t0.strip, s))) fun t9 s =>
  oh (gd (wA t8 false) s (mp (aLen Tryd.prog 9 t9) s)) fun t10 s =>
  oh (gd (wA t8 false) s (mp (aBin Tryd.prog .gtr 3 t10 (.int .i64 30)) s)) fun t11 s =>
  oh (mp (aPick t8 (.bool true) t11) s) fun t12 s =>
  br t12
    (oh (some ((.bool false), s)) fun t2_2 s =>
  some (t2_2, s))
    (oh (some (t0.strip, s)) fun t14 s =>
  oh (aCall Tryd.prog D 31 [t14.strip] s) fun t15 s =>
  oh (some (t15.strip, s)) fun t13 s =>
  oh (mp (aExtract 0 t13) s) fun t16 s =>
  oh (mp (aExtract 1 t13) s) fun t17 s =>
  oh (some (t16, s)) fun t3 s =>
  oh (some (t17, s)) fun t4 s =>
  oh (some (t3.strip, s)) fun t18 s =>
  oh (some (t0.strip, s)) fun t19 s =>
  oh (mp (aLen Tryd.prog 9 t19) s) fun t20 s =>
  oh (mp (aBin Tryd.prog .eql 3 t18 t20) s) fun t21 s =>
  oh (some (t21.strip, s)) fun t22 s =>
  oh (gd (wA t22 true) s (some (t4.strip, s))) fun t23 s =>
  oh (gd (wA t22 true) s (mp (aBin Tryd.prog .eql 3 t23 (.int .i64 103)) s)) fun t24 s =>
  oh (mp (aPick t22 t24 (.bool false)) s) fun t25 s =>
  oh (some (t25, s)) fun t2_3 s =>
  some (t2_3, s))

theorem F30_eq (n : Nat) (t0 : AV) (s : Heap) : den C (n + 1) 30 [t0] s = F30 (den C n) n t0 s :=
  (den_body rfl Tryd.func30 _ _).trans (by kernel_rfl)
theorem en30 : enterable Tryd.prog 30 = true := by kernel_rfl

-- lexer.First
noncomputable def F31 (D : Den) (n : Nat) (t0 : AV) (s : Heap) : Ans :=
  oh (some ((.int .i64 0), s)) fun t2 s =>
  oh (some ((.int .i64 0), s)) fun t3 s =>
  oh (some (t0.strip, s)) fun t6 s =>
  oh (mp (aIndex Tryd.prog 9 t6 (.int .i64 0)) s) fun t7 s =>
  oh (some (t7, s)) fun t4 s =>
  oh (some (t4.strip, s)) fun t9 s =>
  oh (aCall Tryd.prog D 40 [t9.strip] s) fun t10 s =>
  oh (some (t10, s)) fun t8 s =>
  br t8
    (oh (some (t0.strip, s)) fun t11 s =>
  oh (aCall Tryd.prog D 41 [t11.strip, (.int .i64 0), (.fn 40 [] [])] s) fun t12 s =>
  oh (some (t12, s)) fun t2_2 s =>
  oh (some ((.int .i64 101), s)) fun t3_2 s =>
  some (.tup [t2_2, t3_2], s))
    (oh (some (t0.strip, s)) fun t14 s =>
  oh (aCall Tryd.prog D 42 [t14.strip, (.str [47, 47])] s) fun t15 s =>
  oh (some (t15, s)) fun t13 s =>
  br t13
    (oh (some (t0.strip, s)) fun t16 s =>
  oh (aCall Tryd.prog D 41 [t16.strip, (.int .i64 0), (.fn 43 [] [])] s) fun t17 s =>
  oh (some (t17, s)) fun t2_3 s =>
  oh (some ((.int .i64 102), s)) fun t3_3 s =>
  some (.tup [t2_3, t3_3], s))
    (oh (some (t4.strip, s)) fun t19 s =>
  oh (aCall Tryd.prog D 44 [t19.strip] s) fun t20 s =>
  oh (some (t20, s)) fun t18 s =>
  br t18
    (oh (some (t0.strip, s)) fun t21 s =>
  oh (aCall Tryd.prog D 41 [t21.strip, (.int .i64 0), (.fn 45 [] [])] s) fun t22 s =>
  oh (some (t22, s)) fun t5 s =>
  oh (aCall Tryd.prog D 48 [] s) fun t23 s =>
  oh (some (t0.strip, s)) fun t24 s =>
  oh (some (t5.strip, s)) fun t25 s =>
  oh (mp (aSl Tryd.prog 9 t24 none (some t25) none) s) fun t26 s =>
  oh (aCall Tryd.prog D 47 [t23.strip, t26.strip] s) fun t27 s =>
  drawOK C 31 (regOps Tryd.f31 8) [(kCall []), .silent, .silent, .silent, (kCall [t23.strip, t26.strip])] <|
  br t27
    (oh (some (t5.strip, s)) fun t28 s =>
  oh (some (t28, s)) fun t2_4 s =>
  oh (some ((.int .i64 104), s)) fun t3_4 s =>
  some (.tup [t2_4, t3_4], s))
    (oh (some (t5.strip, s)) fun t29 s =>
  oh (some (t29, s)) fun t2_5 s =>
  oh (some ((.int .i64 103), s)) fun t3_5 s =>
  some (.tup [t2_5, t3_5], s)))
    (oh (some (t4.strip, s)) fun t31 s =>
  oh (aCall Tryd.prog D 46 [t31.strip] s) fun t32 s =>
  oh (some (t32, s)) fun t30 s =>
  br t30
    (oh (some (t0.strip, s)) fun t33 s =>
  oh (aCall Tryd.prog D 41 [t33.strip, (.int .i64 0), (.fn 46 [] [])] s) fun t34 s =>
  oh (some (t34, s)) fun t2_6 s =>
  oh (some ((.int .i64 105), s)) fun t3_6 s =>
  some (.tup [t2_6, t3_6], s))
    (oh (some (t4.strip, s)) fun t36 s =>
  oh (mp (aBin Tryd.prog .eql 5 t36 (.int .u8 34)) s) fun t37 s =>
  oh (some (t37, s)) fun t35 s =>
  br t35
    (oh (some (t0.strip, s)) fun t38 s =>
  oh (aCall Tryd.prog D 49 [t38.strip] s) fun t39 s =>
  oh (mp (aExtract 0 t39) s) fun t40 s =>
  oh (mp (aExtract 1 t39) s) fun t41 s =>
  oh (some (t40, s)) fun t2_7 s =>
  oh (some (t41, s)) fun t3_7 s =>
  some (.tup [t2_7, t3_7], s))
    (oh (some (t0.strip, s)) fun t43 s =>
  oh (mp (aLen Tryd.prog 9 t43) s) fun t44 s =>
  oh (mp (aBin Tryd.prog .gtr 3 t44 (.int .i64 1)) s) fun t45 s =>
  oh (some (t45.strip, s)) fun t46 s =>
  oh (gd (wA t46 true) s (aCall Tryd.prog D 50 [] s)) fun t47 s =>
  oh (gd (wA t46 true) s (some (t0.strip, s))) fun t48 s =>
  oh (gd (wA t46 true) s (mp (aSl Tryd.prog 9 t48 none (some (.int .i64 2)) none) s)) fun t49 s =>
  oh (gd (wA t46 true) s (aCall Tryd.prog D 47 [t47.strip, t49.strip] s)) fun t50 s =>
  oh (mp (aPick t46 t50 (.bool false)) s) fun t51 s =>
  oh (some (t51, s)) fun t42 s =>
  drawOK C 31 (regOps Tryd.f31 15) [.silent, .silent, .silent, .silent, (kGd (wA t46 true) (kCall [])), (kGd (wA t46 true) .silent), (kGd (wA t46 true) .silent), (kGd (wA t46 true) (kCall [t47.strip, t49.strip])), .silent, .silent] <|
  br t42
    (oh (some ((.int .i64 2), s)) fun t2_8 s =>
  oh (some ((.int .i64 107), s)) fun t3_8 s =>
  some (.tup [t2_8, t3_8], s))
    (oh (some (t4.strip, s)) fun t53 s =>
  oh (aCall Tryd.prog D 51 [(.str [40, 41, 123, 125, 91, 93, 60, 62, 44, 59, 58, 46, 61, 43, 45, 42, 47, 33, 38, 124]), t53.strip] s) fun t54 s =>
  oh (mp (aBin Tryd.prog .geq 3 t54 (.int .i64 0)) s) fun t55 s =>
  oh (some (t55, s)) fun t52 s =>
  br t52
    (oh (some ((.int .i64 1), s)) fun t2_9 s =>
  oh (some ((.int .i64 107), s)) fun t3_9 s =>
  some (.tup [t2_9, t3_9], s))
    (oh (some ((.int .i64 1), s)) fun t2_10 s =>
  oh (some ((.int .i64 108), s)) fun t3_10 s =>
  some (.tup [t2_10, t3_10], s))))))))

theorem F31_eq (n : Nat) (t0 : AV) (s : Heap) : den C (n + 1) 31 [t0] s = F31 (den C n) n t0 s :=
  (den_body rfl Tryd.func31 _ _).trans (by kernel_rfl)
theorem d31_8 (x : Ans) : drawOK C 31 (regOps Tryd.f31 8) [.silent, .silent, .silent, .silent, .silent] x = x := drawOK_ok (by kernel_rfl)
theorem d31_15 (x : Ans) : drawOK C 31 (regOps Tryd.f31 15) [.silent, .silent, .silent, .silent, .silent, .silent, .silent, .silent, .silent, .silent] x = x := drawOK_ok (by kernel_rfl)
theorem en31 : enterable Tryd.prog 31 = true := by kernel_rfl

-- textedit.Apply
noncomputable def F32_L0 (D : Den) (n : Nat) (k0 : Env → Heap → Ans) (e : Env) (s : Heap) : Ans :=
  oh (mp (aBin Tryd.prog .lss 3 (e 19) (e 18)) s) fun t20 s =>
  br t20
    (oh (mp (aIndexAddr Tryd.prog 46 (e 17) (e 19)) s) fun t21 s =>
  oh (aLoad false true 3 t21 s) fun t22 s =>
  oh (aAlloc Tryd.prog 48 s) fun t10 s =>
  oh (sto (aStore 3 s t10 t22)) fun _r s =>
  oh (some ((e 0).strip, s)) fun t23 s =>
  oh (some ((e 8).strip, s)) fun t24 s =>
  oh (mp (aAddr 0 t10) s) fun t25 s =>
  oh (aLoad false false 1 t25 s) fun t26 s =>
  oh (mp (aSl Tryd.prog 9 t23 (some t24) (some t26) none) s) fun t27 s =>
  oh (mp (aAddr 2 t10) s) fun t28 s =>
  oh (aLoad false false 1 t28 s) fun t29 s =>
  oh (mp (aBin Tryd.prog .add 9 t27 t29) s) fun t30 s =>
  oh (aCall Tryd.prog D 53 [(e 7).strip, t30.strip] s) fun t31 s =>
  drawOK C 32 (regOps Tryd.f32 9) [.silent, .silent, .silent, (kLoad false t25), .silent, .silent, (kLoad false t28), .silent, (kCall [(e 7).strip, t30.strip])] <|
  oh (mp (aAddr 1 t10) s) fun t32 s =>
  oh (aLoad false false 1 t32 s) fun t33 s =>
  oh (some (t33, s)) fun t8_2 s =>
  oh (mp (aBin Tryd.prog .add 3 (e 19) (.int .i64 1)) s) fun t34 s =>
  oh (some (t34.strip, s)) fun t19_2 s =>
  k0 (upds e [(20, t20), (21, t21), (22, t22), (10, t10), (22, t22.strip), (23, t23), (24, t24), (25, t25), (26, t26), (27, t27), (28, t28), (29, t29), (30, t30), (31, t31), (32, t32), (33, t33), (33, t33.strip), (8, t8_2), (34, t34), (19, t19_2)]) s)
    (oh (some ((e 0).strip, s)) fun t35 s =>
  oh (some ((e 8).strip, s)) fun t36 s =>
  oh (mp (aSl Tryd.prog 9 t35 (some t36) none none) s) fun t37 s =>
  oh (aCall Tryd.prog D 53 [(e 7).strip, t37.strip] s) fun t38 s =>
  oh (aCall Tryd.prog D 54 [(e 7).strip] s) fun t39 s =>
  oh (some (t39, s)) fun t4_3 s =>
  oh (some ((.int .i64 0), s)) fun t5_3 s =>
  some (.tup [t4_3, t5_3], s))

noncomputable def F32 (D : Den) (n : Nat) (t0 t1 : AV) (s : Heap) : Ans :=
  oh (some ((.str []), s)) fun t4 s =>
  oh (some ((.int .i64 0), s)) fun t5 s =>
  oh (some (t0.strip, s)) fun t11 s =>
  oh (some (t1.strip, s)) fun t12 s =>
  oh (aCall Tryd.prog D 52 [t11.strip, t12.strip] s) fun t13 s =>
  oh (some (t13, s)) fun t6 s =>
  oh (some (t6.strip, s)) fun t14 s =>
  oh (mp (aBin Tryd.prog .neq 26 t14 (.int .i64 0)) s) fun t15 s =>
  br t15
    (oh (some (t6.strip, s)) fun t16 s =>
  oh (some ((.str []), s)) fun t4_2 s =>
  oh (some (t16, s)) fun t5_2 s =>
  some (.tup [t4_2, t5_2], s))
    (oh (aAlloc Tryd.prog 75 s) fun t7 s =>
  oh (some ((.int .i64 0), s)) fun t8 s =>
  oh (some (t1.strip, s)) fun t17 s =>
  oh (mp (aLen Tryd.prog 46 t17) s) fun t18 s =>
  oh (some ((.int .i64 0), s)) fun t19 s =>
  aLoop (F32_L0 D n) n (upds (argEnv [t0, t1]) [(4, t4), (5, t5), (11, t11), (12, t12), (13, t13), (13, t13.strip), (6, t6), (14, t14), (15, t15), (7, t7), (8, t8), (17, t17), (18, t18), (19, t19)]) s)

theorem F32_eq (n : Nat) (t0 t1 : AV) (s : Heap) : den C (n + 1) 32 [t0, t1] s = F32 (den C n) n t0 t1 s :=
  (den_body rfl Tryd.func32 _ _).trans (by kernel_rfl)
theorem d32_9 (x : Ans) : drawOK C 32 (regOps Tryd.f32 9) [.silent, .silent, .silent, .silent, .silent, .silent, .silent, .silent, .silent] x = x := drawOK_ok (by kernel_rfl)
theorem en32 : enterable Tryd.prog 32 = true := by kernel_rfl

-- slices.Equal   api.Token,api.Token 
noncomputable def F33_L0 (D : Den) (n : Nat) (k0 : Env → Heap → Ans) (e : Env) (s : Heap) : Ans :=
  oh (mp (aBin Tryd.prog .lss 3 (e 13) (e 12)) s) fun t14 s =>
  br t14
    (oh (some ((e 13).strip, s)) fun t15 s =>
  oh (some (t15, s)) fun t5 s =>
  oh (some ((e 0).strip, s)) fun t16 s =>
  oh (some (t5.strip, s)) fun t17 s =>
  oh (mp (aIndexAddr Tryd.prog 35 t16 t17) s) fun t18 s =>
  oh (aLoad false true 2 t18 s) fun t19 s =>
  oh (some ((e 1).strip, s)) fun t20 s =>
  oh (some (t5.strip, s)) fun t21 s =>
  oh (mp (aIndexAddr Tryd.prog 35 t20 t21) s) fun t22 s =>
  oh (aLoad false true 2 t22 s) fun t23 s =>
  oh (mp (aBin Tryd.prog .neq 39 t19 t23) s) fun t24 s =>
  drawOK C 33 (regOps Tryd.f33 6) [.silent, .silent, .silent, (kLoad false t18), .silent, .silent, .silent, (kLoad false t22), .silent] <|
  br t24
    (oh (some ((.bool false), s)) fun t4_3 s =>
  some (t4_3, s))
    (oh (mp (aBin Tryd.prog .add 3 (e 13) (.int .i64 1)) s) fun t25 s =>
  oh (some (t25.strip, s)) fun t13_2 s =>
  k0 (upds e [(14, t14), (15, t15), (15, t15.strip), (5, t5), (16, t16), (17, t17), (18, t18), (19, t19), (20, t20), (21, t21), (22, t22), (23, t23), (24, t24), (25, t25), (13, t13_2)]) s))
    (oh (some ((.bool true), s)) fun t4_4 s =>
  some (t4_4, s))

noncomputable def F33 (D : Den) (n : Nat) (t0 t1 : AV) (s : Heap) : Ans :=
  oh (some ((.bool false), s)) fun t4 s =>
  oh (some (t0.strip, s)) fun t6 s =>
  oh (mp (aLen Tryd.prog 35 t6) s) fun t7 s =>
  oh (some (t1.strip, s)) fun t8 s =>
  oh (mp (aLen Tryd.prog 35 t8) s) fun t9 s =>
  oh (mp (aBin Tryd.prog .neq 3 t7 t9) s) fun t10 s =>
  br t10
    (oh (some ((.bool false), s)) fun t4_2 s =>
  some (t4_2, s))
    (oh (some (t0.strip, s)) fun t11 s =>
  oh (mp (aLen Tryd.prog 35 t11) s) fun t12 s =>
  oh (some ((.int .i64 0), s)) fun t13 s =>
  aLoop (F33_L0 D n) n (upds (argEnv [t0, t1]) [(4, t4), (6, t6), (7, t7), (8, t8), (9, t9), (10, t10), (11, t11), (12, t12), (13, t13)]) s)

theorem F33_eq (n : Nat) (t0 t1 : AV) (s : Heap) : den C (n + 1) 33 [t0, t1] s = F33 (den C n) n t0 t1 s :=
  (den_body rfl Tryd.func33 _ _).trans (by kernel_rfl)
theorem d33_6 (x : Ans) : drawOK C 33 (regOps Tryd.f33 6) [.silent, .silent, .silent, .silent, .silent, .silent, .silent, .silent, .silent] x = x := drawOK_ok (by kernel_rfl)
theorem en33 : enterable Tryd.prog 33 = true := by kernel_rfl

-- relex.ends
noncomputable def F34_L0 (D : Den) (n : Nat) (k0 : Env → Heap → Ans) (e : Env) (s : Heap) : Ans :=
  oh (mp (aBin Tryd.prog .lss 3 (e 9) (e 8)) s) fun t10 s =>
  br t10
    (oh (mp (aIndexAddr Tryd.prog 35 (e 7) (e 9)) s) fun t11 s =>
  oh (aLoad false true 2 t11 s) fun t12 s =>
  oh (aAlloc Tryd.prog 39 s) fun t6 s =>
  oh (sto (aStore 2 s t6 t12)) fun _r s =>
  oh (some ((e 4).strip, s)) fun t13 s =>
  oh (mp (aAddr 1 t6) s) fun t14 s =>
  oh (aLoad false false 1 t14 s) fun t15 s =>
  oh (mp (aLen Tryd.prog 9 t15) s) fun t16 s =>
  oh (mp (aBin Tryd.prog .add 3 t13 t16) s) fun t17 s =>
  oh (some (t17, s)) fun t4_2 s =>
  oh (some ((e 3), s)) fun t18 s =>
  oh (some (t4_2.strip, s)) fun t19 s =>
  oh (mp (aBuildSlice Tryd.prog 30 1 [(0, t19)]) s) fun t20 s =>
  oh (mp (aAppend Tryd.prog 30 30 t18 t20) s) fun t21 s =>
  oh (some (t21, s)) fun t3_2 s =>
  oh (mp (aBin Tryd.prog .add 3 (e 9) (.int .i64 1)) s) fun t22 s =>
  oh (some (t22.strip, s)) fun t9_2 s =>
  k0 (upds e [(10, t10), (11, t11), (12, t12), (6, t6), (12, t12.strip), (13, t13), (14, t14), (15, t15), (16, t16), (17, t17), (17, t17.strip), (4, t4_2), (3, (e 3).strip), (18, t18), (19, t19), (20, t20), (18, t18.strip), (21, t21), (21, t21.strip), (3, t3_2), (22, t22), (9, t9_2)]) s)
    (oh (some ((e 3).strip, s)) fun t23 s =>
  oh (some (t23, s)) fun t2_2 s =>
  some (t2_2, s))

noncomputable def F34 (D : Den) (n : Nat) (t0 : AV) (s : Heap) : Ans :=
  oh (some (.nils, s)) fun t2 s =>
  oh (some (.nils, s)) fun t3 s =>
  oh (some ((.int .i64 0), s)) fun t4 s =>
  oh (some (t0.strip, s)) fun t7 s =>
  oh (mp (aLen Tryd.prog 35 t7) s) fun t8 s =>
  oh (some ((.int .i64 0), s)) fun t9 s =>
  aLoop (F34_L0 D n) n (upds (argEnv [t0]) [(2, t2), (3, t3), (4, t4), (7, t7), (8, t8), (9, t9)]) s

theorem F34_eq (n : Nat) (t0 : AV) (s : Heap) : den C (n + 1) 34 [t0] s = F34 (den C n) n t0 s :=
  (den_body rfl Tryd.func34 _ _).trans (by kernel_rfl)
theorem en34 : enterable Tryd.prog 34 = true := by kernel_rfl

-- slices.Clone   api.Token,api.Token 
noncomputable def F35 (D : Den) (n : Nat) (t0 : AV) (s : Heap) : Ans :=
  oh (some (.nils, s)) fun t2 s =>
  oh (some (t0.strip, s)) fun t3 s =>
  oh (mp (aBin Tryd.prog .eql 35 t3 .nils) s) fun t4 s =>
  br t4
    (oh (some (.nils, s)) fun t2_2 s =>
  some (t2_2, s))
    (oh (mp (aBuildSlice Tryd.prog 35 0 []) s) fun t5 s =>
  oh (some (t0.strip, s)) fun t6 s =>
  oh (mp (aAppend Tryd.prog 35 35 t5 t6) s) fun t7 s =>
  oh (some (t7, s)) fun t2_3 s =>
  some (t2_3, s))

theorem F35_eq (n : Nat) (t0 : AV) (s : Heap) : den C (n + 1) 35 [t0] s = F35 (den C n) n t0 s :=
  (den_body rfl Tryd.func35 _ _).trans (by kernel_rfl)
theorem en35 : enterable Tryd.prog 35 = true := by kernel_rfl

-- relex.resume
noncomputable def F36 (D : Den) (n : Nat) (t0 t1 : AV) (s : Heap) : Ans :=
  oh (some ((.int .i64 0), s)) fun t4 s =>
  oh (some (t1.strip, s)) fun t7 s =>
  oh (mp (aBin Tryd.prog .eql 3 t7 (.int .i64 0)) s) fun t8 s =>
  br t8
    (oh (some ((.int .i64 0), s)) fun t4_2 s =>
  some (t4_2, s))
    (oh (some (t0.strip, s)) fun t10 s =>
  oh (some (t1.strip, s)) fun t11 s =>
  oh (aCall Tryd.prog D 55 [t10.strip, t11.strip] s) fun t12 s =>
  oh (some (t12.strip, s)) fun t9 s =>
  oh (mp (aExtract 0 t9) s) fun t13 s =>
  oh (mp (aExtract 1 t9) s) fun t14 s =>
  oh (some (t13, s)) fun t5 s =>
  oh (some (t14, s)) fun t6 s =>
  oh (some (t6.strip, s)) fun t15 s =>
  br t15
    (oh (some (t5.strip, s)) fun t16 s =>
  oh (mp (aBin Tryd.prog .add 3 t16 (.int .i64 1)) s) fun t17 s =>
  oh (some (t17, s)) fun t4_3 s =>
  some (t4_3, s))
    (oh (some ((.int .i64 (-1)), s)) fun t4_4 s =>
  some (t4_4, s)))

theorem F36_eq (n : Nat) (t0 t1 : AV) (s : Heap) : den C (n + 1) 36 [t0, t1] s = F36 (den C n) n t0 t1 s :=
  (den_body rfl Tryd.func36 _ _).trans (by kernel_rfl)
theorem en36 : enterable Tryd.prog 36 = true := by kernel_rfl

-- lexer.isSpace
noncomputable def F40 (D : Den) (n : Nat) (t0 : AV) (s : Heap) : Ans :=
  oh (some ((.bool false), s)) fun t2 s =>
  oh (some (t0.strip, s)) fun t3 s =>
  oh (aCall Tryd.prog D 51 [(.str [32, 9, 10, 13]), t3.strip] s) fun t4 s =>
  oh (mp (aBin Tryd.prog .geq 3 t4 (.int .i64 0)) s) fun t5 s =>
  oh (some (t5, s)) fun t2_2 s =>
  some (t2_2, s)

theorem F40_eq (n : Nat) (t0 : AV) (s : Heap) : den C (n + 1) 40 [t0] s = F40 (den C n) n t0 s :=
  (den_body rfl Tryd.func40 _ _).trans (by kernel_rfl)
theorem en40 : enterable Tryd.prog 40 = true := by kernel_rfl

-- lexer.scan
noncomputable def F41_L0 (D : Den) (n : Nat) (k0 : Env → Heap → Ans) (e : Env) (s : Heap) : Ans :=
  oh (some ((e 1).strip, s)) fun t7 s =>
  oh (some ((e 0).strip, s)) fun t8 s =>
  oh (mp (aLen Tryd.prog 9 t8) s) fun t9 s =>
  oh (mp (aBin Tryd.prog .lss 3 t7 t9) s) fun t10 s =>
  oh (some (t10.strip, s)) fun t11 s =>
  oh (gd (wA t11 true) s (some ((e 2).strip, s))) fun t12 s =>
  oh (gd (wA t11 true) s (some ((e 0).strip, s))) fun t13 s =>
  oh (gd (wA t11 true) s (some ((e 1).strip, s))) fun t14 s =>
  oh (gd (wA t11 true) s (mp (aIndex Tryd.prog 9 t13 t14) s)) fun t15 s =>
  oh (gd (wA t11 true) s (aCallV Tryd.prog D t12 [t15] s)) fun t16 s =>
  oh (mp (aPick t11 t16 (.bool false)) s) fun t17 s =>
  br t17
    (oh (some ((e 1).strip, s)) fun t18 s =>
  oh (mp (aBin Tryd.prog .add 3 t18 (.int .i64 1)) s) fun t19 s =>
  oh (some (t19, s)) fun t1_2 s =>
  k0 (upds e [(7, t7), (8, t8), (9, t9), (10, t10), (11, t11), (12, t12), (13, t13), (14, t14), (15, t15), (16, t16), (17, t17), (18, t18), (19, t19), (19, t19.strip), (1, t1_2)]) s)
    (oh (some ((e 1).strip, s)) fun t20 s =>
  oh (some (t20, s)) fun t6_2 s =>
  some (t6_2, s))

noncomputable def F41 (D : Den) (n : Nat) (t0 t1 t2 : AV) (s : Heap) : Ans :=
  oh (some ((.int .i64 0), s)) fun t6 s =>
  aLoop (F41_L0 D n) n (upds (argEnv [t0, t1, t2]) [(6, t6)]) s

theorem F41_eq (n : Nat) (t0 t1 t2 : AV) (s : Heap) : den C (n + 1) 41 [t0, t1, t2] s = F41 (den C n) n t0 t1 t2 s :=
  (den_body rfl Tryd.func41 _ _).trans (by kernel_rfl)
theorem en41 : enterable Tryd.prog 41 = true := by kernel_rfl

-- lexer.First 1
noncomputable def F43 (D : Den) (n : Nat) (t0 : AV) (s : Heap) : Ans :=
  oh (some ((.bool false), s)) fun t2 s =>
  oh (some (t0.strip, s)) fun t3 s =>
  oh (mp (aBin Tryd.prog .neq 5 t3 (.int .u8 10)) s) fun t4 s =>
  oh (some (t4, s)) fun t2_2 s =>
  some (t2_2, s)

theorem F43_eq (n : Nat) (t0 : AV) (s : Heap) : den C (n + 1) 43 [t0] s = F43 (den C n) n t0 s :=
  (den_body rfl Tryd.func43 _ _).trans (by kernel_rfl)
theorem en43 : enterable Tryd.prog 43 = true := by kernel_rfl

-- lexer.isLetter
noncomputable def F44 (D : Den) (n : Nat) (t0 : AV) (s : Heap) : Ans :=
  oh (some ((.bool false), s)) fun t2 s =>
  oh (some (t0.strip, s)) fun t3 s =>
  oh (mp (aBin Tryd.prog .geq 5 t3 (.int .u8 97)) s) fun t4 s =>
  oh (some (t4.strip, s)) fun t5 s =>
  oh (gd (wA t5 true) s (some (t0.strip, s))) fun t6 s =>
  oh (gd (wA t5 true) s (mp (aBin Tryd.prog .leq 5 t6 (.int .u8 122)) s)) fun t7 s =>
  oh (mp (aPick t5 t7 (.bool false)) s) fun t8 s =>
  oh (some (t8.strip, s)) fun t9 s =>
  oh (gd (wA t9 false) s (some (t0.strip, s))) fun t10 s =>
  oh (gd (wA t9 false) s (mp (aBin Tryd.prog .geq 5 t10 (.int .u8 65)) s)) fun t11 s =>
  oh (gd (wA t9 false) s (some (t11.strip, s))) fun t12 s =>
  oh (gd (wA t12 true) s (some (t0.strip, s))) fun t13 s =>
  oh (gd (wA t12 true) s (mp (aBin Tryd.prog .leq 5 t13 (.int .u8 90)) s)) fun t14 s =>
  oh (gd (wA t9 false) s (mp (aPick t12 t14 (.bool false)) s)) fun t15 s =>
  oh (mp (aPick t9 (.bool true) t15) s) fun t16 s =>
  oh (some (t16.strip, s)) fun t17 s =>
  oh (gd (wA t17 false) s (some (t0.strip, s))) fun t18 s =>
  oh (gd (wA t17 false) s (mp (aBin Tryd.prog .eql 5 t18 (.int .u8 95)) s)) fun t19 s =>
  oh (mp (aPick t17 (.bool true) t19) s) fun t20 s =>
  oh (some (t20, s)) fun t2_2 s =>
  some (t2_2, s)

theorem F44_eq (n : Nat) (t0 : AV) (s : Heap) : den C (n + 1) 44 [t0] s = F44 (den C n) n t0 s :=
  (den_body rfl Tryd.func44 _ _).trans (by kernel_rfl)
theorem en44 : enterable Tryd.prog 44 = true := by kernel_rfl

-- lexer.First 2
noncomputable def F45 (D : Den) (n : Nat) (t0 : AV) (s : Heap) : Ans :=
  oh (some ((.bool false), s)) fun t2 s =>
  oh (some (t0.strip, s)) fun t3 s =>
  oh (aCall Tryd.prog D 44 [t3.strip] s) fun t4 s =>
  oh (some (t4.strip, s)) fun t5 s =>
  oh (gd (wA t5 false) s (some (t0.strip, s))) fun t6 s =>
  oh (gd (wA t5 false) s (aCall Tryd.prog D 46 [t6.strip] s)) fun t7 s =>
  oh (mp (aPick t5 (.bool true) t7) s) fun t8 s =>
  oh (some (t8, s)) fun t2_2 s =>
  some (t2_2, s)

theorem F45_eq (n : Nat) (t0 : AV) (s : Heap) : den C (n + 1) 45 [t0] s = F45 (den C n) n t0 s :=
  (den_body rfl Tryd.func45 _ _).trans (by kernel_rfl)
theorem en45 : enterable Tryd.prog 45 = true := by kernel_rfl

-- lexer.isDigit
noncomputable def F46 (D : Den) (n : Nat) (t0 : AV) (s : Heap) : Ans :=
  oh (some ((.bool false), s)) fun t2 s =>
  oh (some (t0.strip, s)) fun t3 s =>
  oh (mp (aBin Tryd.prog .geq 5 t3 (.int .u8 48)) s) fun t4 s =>
  oh (some (t4.strip, s)) fun t5 s =>
  oh (gd (wA t5 true) s (some (t0.strip, s))) fun t6 s =>
  oh (gd (wA t5 true) s (mp (aBin Tryd.prog .leq 5 t6 (.int .u8 57)) s)) fun t7 s =>
  oh (mp (aPick t5 t7 (.bool false)) s) fun t8 s =>
  oh (some (t8, s)) fun t2_2 s =>
  some (t2_2, s)

theorem F46_eq (n : Nat) (t0 : AV) (s : Heap) : den C (n + 1) 46 [t0] s = F46 (den C n) n t0 s :=
  (den_body rfl Tryd.func46 _ _).trans (by kernel_rfl)
theorem en46 : enterable Tryd.prog 46 = true := by kernel_rfl

-- slices.Contains   string,string 
noncomputable def F47 (D : Den) (n : Nat) (t0 t1 : AV) (s : Heap) : Ans :=
  oh (some ((.bool false), s)) fun t4 s =>
  oh (some (t0.strip, s)) fun t5 s =>
  oh (some (t1.strip, s)) fun t6 s =>
  oh (aCall Tryd.prog D 62 [t5.strip, t6.strip] s) fun t7 s =>
  oh (mp (aBin Tryd.prog .geq 3 t7 (.int .i64 0)) s) fun t8 s =>
  oh (some (t8, s)) fun t4_2 s =>
  some (t4_2, s)

theorem F47_eq (n : Nat) (t0 t1 : AV) (s : Heap) : den C (n + 1) 47 [t0, t1] s = F47 (den C n) n t0 t1 s :=
  (den_body rfl Tryd.func47 _ _).trans (by kernel_rfl)
theorem en47 : enterable Tryd.prog 47 = true := by kernel_rfl

-- lexer.Keywords
noncomputable def F48 (D : Den) (n : Nat) (s : Heap) : Ans :=
  oh (some (.nils, s)) fun t0 s =>
  oh (aCall Tryd.prog D 63 [(.str [117, 115, 101, 32, 112, 117, 98, 32, 97, 115, 32, 102, 110, 32, 115, 116, 114, 117, 99, 116, 32, 101, 110, 117, 109, 32, 116, 114, 97, 105, 116, 32, 105, 109, 112, 108, 32, 102, 111, 114, 32, 99, 111, 110, 115, 116, 32, 109, 97, 99, 114, 111, 32, 108, 101, 116, 32, 109, 117, 116, 32, 119, 104, 105, 108, 101, 32, 114, 101, 116, 117, 114, 110, 32, 109, 97, 116, 99, 104, 32, 105, 102, 32, 101, 108, 115, 101, 32, 110, 101, 119, 32, 116, 114, 117, 101, 32, 102, 97, 108, 115, 101, 32, 116, 121, 112, 101])] s) fun t1 s =>
  oh (some (t1, s)) fun t0_2 s =>
  some (t0_2, s)

theorem F48_eq (n : Nat) (s : Heap) : den C (n + 1) 48 [] s = F48 (den C n) n s :=
  (den_body rfl Tryd.func48 _ _).trans (by kernel_rfl)
theorem en48 : enterable Tryd.prog 48 = true := by kernel_rfl

-- lexer.scanString
noncomputable def F49_J1 (D : Den) (n : Nat) (k0 : Env → Heap → Ans) (e : Env) (s : Heap) : Ans :=
  oh (some ((e 4).strip, s)) fun t15 s =>
  oh (mp (aBin Tryd.prog .add 3 t15 (.int .i64 1)) s) fun t16 s =>
  oh (some (t16, s)) fun t4_2 s =>
  k0 (upds e [(15, t15), (16, t16), (16, t16.strip), (4, t4_2)]) s

noncomputable def F49_L0 (D : Den) (n : Nat) (k0 : Env → Heap → Ans) (e : Env) (s : Heap) : Ans :=
  oh (some ((e 4).strip, s)) fun t5 s =>
  oh (some ((e 0).strip, s)) fun t6 s =>
  oh (mp (aLen Tryd.prog 9 t6) s) fun t7 s =>
  oh (mp (aBin Tryd.prog .lss 3 t5 t7) s) fun t8 s =>
  oh (some (t8.strip, s)) fun t9 s =>
  oh (gd (wA t9 true) s (some ((e 0).strip, s))) fun t10 s =>
  oh (gd (wA t9 true) s (some ((e 4).strip, s))) fun t11 s =>
  oh (gd (wA t9 true) s (mp (aIndex Tryd.prog 9 t10 t11) s)) fun t12 s =>
  oh (gd (wA t9 true) s (mp (aBin Tryd.prog .neq 5 t12 (.int .u8 10)) s)) fun t13 s =>
  oh (mp (aPick t9 t13 (.bool false)) s) fun t14 s =>
  br t14
    (oh (some ((e 0).strip, s)) fun t18 s =>
  oh (some ((e 4).strip, s)) fun t19 s =>
  oh (mp (aIndex Tryd.prog 9 t18 t19) s) fun t20 s =>
  oh (mp (aBin Tryd.prog .eql 5 t20 (.int .u8 34)) s) fun t21 s =>
  oh (some (t21, s)) fun t17 s =>
  br t17
    (oh (some ((e 4).strip, s)) fun t22 s =>
  oh (mp (aBin Tryd.prog .add 3 t22 (.int .i64 1)) s) fun t23 s =>
  oh (some (t23, s)) fun t2_2 s =>
  oh (some ((.int .i64 106), s)) fun t3_2 s =>
  some (.tup [t2_2, t3_2], s))
    (oh (some ((e 0).strip, s)) fun t25 s =>
  oh (some ((e 4).strip, s)) fun t26 s =>
  oh (mp (aIndex Tryd.prog 9 t25 t26) s) fun t27 s =>
  oh (mp (aBin Tryd.prog .eql 5 t27 (.int .u8 92)) s) fun t28 s =>
  oh (some (t28.strip, s)) fun t29 s =>
  oh (gd (wA t29 true) s (some ((e 4).strip, s))) fun t30 s =>
  oh (gd (wA t29 true) s (mp (aBin Tryd.prog .add 3 t30 (.int .i64 1)) s)) fun t31 s =>
  oh (gd (wA t29 true) s (some ((e 0).strip, s))) fun t32 s =>
  oh (gd (wA t29 true) s (mp (aLen Tryd.prog 9 t32) s)) fun t33 s =>
  oh (gd (wA t29 true) s (mp (aBin Tryd.prog .lss 3 t31 t33) s)) fun t34 s =>
  oh (mp (aPick t29 t34 (.bool false)) s) fun t35 s =>
  oh (some (t35.strip, s)) fun t36 s =>
  oh (gd (wA t36 true) s (some ((e 0).strip, s))) fun t37 s =>
  oh (gd (wA t36 true) s (some ((e 4).strip, s))) fun t38 s =>
  oh (gd (wA t36 true) s (mp (aBin Tryd.prog .add 3 t38 (.int .i64 1)) s)) fun t39 s =>
  oh (gd (wA t36 true) s (mp (aIndex Tryd.prog 9 t37 t39) s)) fun t40 s =>
  oh (gd (wA t36 true) s (mp (aBin Tryd.prog .neq 5 t40 (.int .u8 10)) s)) fun t41 s =>
  oh (mp (aPick t36 t41 (.bool false)) s) fun t42 s =>
  oh (some (t42, s)) fun t24 s =>
  br t24
    (oh (some ((e 4).strip, s)) fun t43 s =>
  oh (mp (aBin Tryd.prog .add 3 t43 (.int .i64 1)) s) fun t44 s =>
  oh (some (t44, s)) fun t4_3 s =>
  F49_J1 D n k0 (upds e [(5, t5), (6, t6), (7, t7), (8, t8), (9, t9), (10, t10), (11, t11), (12, t12), (13, t13), (14, t14), (18, t18), (19, t19), (20, t20), (21, t21), (21, t21.strip), (17, t17), (25, t25), (26, t26), (27, t27), (28, t28), (29, t29), (30, t30), (31, t31), (32, t32), (33, t33), (34, t34), (35, t35), (36, t36), (37, t37), (38, t38), (39, t39), (40, t40), (41, t41), (42, t42), (42, t42.strip), (24, t24), (43, t43), (44, t44), (44, t44.strip), (4, t4_3)]) s)
    (F49_J1 D n k0 (upds e [(5, t5), (6, t6), (7, t7), (8, t8), (9, t9), (10, t10), (11, t11), (12, t12), (13, t13), (14, t14), (18, t18), (19, t19), (20, t20), (21, t21), (21, t21.strip), (17, t17), (25, t25), (26, t26), (27, t27), (28, t28), (29, t29), (30, t30), (31, t31), (32, t32), (33, t33), (34, t34), (35, t35), (36, t36), (37, t37), (38, t38), (39, t39), (40, t40), (41, t41), (42, t42), (42, t42.strip), (24, t24)]) s)))
    (oh (some ((e 0).strip, s)) fun t45 s =>
  oh (aCall Tryd.prog D 41 [t45.strip, (.int .i64 1), (.fn 64 [] [])] s) fun t46 s =>
  oh (some (t46, s)) fun t2_3 s =>
  oh (some ((.int .i64 108), s)) fun t3_3 s =>
  some (.tup [t2_3, t3_3], s))

noncomputable def F49 (D : Den) (n : Nat) (t0 : AV) (s : Heap) : Ans :=
  oh (some ((.int .i64 0), s)) fun t2 s =>
  oh (some ((.int .i64 0), s)) fun t3 s =>
  oh (some ((.int .i64 1), s)) fun t4 s =>
  aLoop (F49_L0 D n) n (upds (argEnv [t0]) [(2, t2), (3, t3), (4, t4)]) s

theorem F49_eq (n : Nat) (t0 : AV) (s : Heap) : den C (n + 1) 49 [t0] s = F49 (den C n) n t0 s :=
  (den_body rfl Tryd.func49 _ _).trans (by kernel_rfl)
theorem en49 : enterable Tryd.prog 49 = true := by kernel_rfl

-- lexer.twoBytePunct
noncomputable def F50 (D : Den) (n : Nat) (s : Heap) : Ans :=
  oh (some (.nils, s)) fun t0 s =>
  oh (aCall Tryd.prog D 63 [(.str [58, 58, 32, 61, 62, 32, 45, 62, 32, 61, 61, 32, 38, 38, 32, 124, 124])] s) fun t1 s =>
  oh (some (t1, s)) fun t0_2 s =>
  some (t0_2, s)

theorem F50_eq (n : Nat) (s : Heap) : den C (n + 1) 50 [] s = F50 (den C n) n s :=
  (den_body rfl Tryd.func50 _ _).trans (by kernel_rfl)
theorem en50 : enterable Tryd.prog 50 = true := by kernel_rfl

-- textedit.Validate
noncomputable def F52_L0 (D : Den) (n : Nat) (k0 : Env → Heap → Ans) (e : Env) (s : Heap) : Ans :=
  oh (mp (aBin Tryd.prog .lss 3 (e 21) (e 20)) s) fun t22 s =>
  br t22
    (oh (mp (aIndexAddr Tryd.prog 46 (e 19) (e 21)) s) fun t23 s =>
  oh (aLoad false true 3 t23 s) fun t24 s =>
  oh (aAlloc Tryd.prog 48 s) fun t8 s =>
  oh (sto (aStore 3 s t8 t24)) fun _r s =>
  oh (mp (aAddr 0 t8) s) fun t25 s =>
  oh (aLoad false false 1 t25 s) fun t26 s =>
  oh (some ((e 5).strip, s)) fun t27 s =>
  oh (mp (aBin Tryd.prog .leq 3 t26 t27) s) fun t28 s =>
  oh (some (t28.strip, s)) fun t29 s =>
  oh (gd (wA t29 false) s (mp (aAddr 1 t8) s)) fun t30 s =>
  oh (gd (wA t29 false) s (aLoad false false 1 t30 s)) fun t31 s =>
  oh (gd (wA t29 false) s (mp (aAddr 0 t8) s)) fun t32 s =>
  oh (gd (wA t29 false) s (aLoad false false 1 t32 s)) fun t33 s =>
  oh (gd (wA t29 false) s (mp (aBin Tryd.prog .lss 3 t31 t33) s)) fun t34 s =>
  oh (mp (aPick t29 (.bool true) t34) s) fun t35 s =>
  oh (some (t35.strip, s)) fun t36 s =>
  oh (gd (wA t36 false) s (mp (aAddr 1 t8) s)) fun t37 s =>
  oh (gd (wA t36 false) s (aLoad false false 1 t37 s)) fun t38 s =>
  oh (gd (wA t36 false) s (some ((e 0).strip, s))) fun t39 s =>
  oh (gd (wA t36 false) s (mp (aLen Tryd.prog 9 t39) s)) fun t40 s =>
  oh (gd (wA t36 false) s (mp (aBin Tryd.prog .gtr 3 t38 t40) s)) fun t41 s =>
  oh (mp (aPick t36 (.bool true) t41) s) fun t42 s =>
  br t42
    (oh (some ((.int .i64 3), s)) fun t4_3 s =>
  some (t4_3, s))
    (oh (mp (aAddr 1 t8) s) fun t43 s =>
  oh (aLoad false false 1 t43 s) fun t44 s =>
  oh (some (t44, s)) fun t5_2 s =>
  oh (some ((e 6).strip, s)) fun t45 s =>
  oh (mp (aAddr 2 t8) s) fun t46 s =>
  oh (aLoad false false 1 t46 s) fun t47 s =>
  oh (mp (aLen Tryd.prog 9 t47) s) fun t48 s =>
  oh (mp (aAddr 1 t8) s) fun t49 s =>
  oh (aLoad false false 1 t49 s) fun t50 s =>
  oh (mp (aAddr 0 t8) s) fun t51 s =>
  oh (aLoad false false 1 t51 s) fun t52 s =>
  oh (mp (aBin Tryd.prog .sub 3 t50 t52) s) fun t53 s =>
  oh (mp (aBin Tryd.prog .sub 3 t48 t53) s) fun t54 s =>
  oh (mp (aBin Tryd.prog .add 3 t45 t54) s) fun t55 s =>
  oh (some (t55, s)) fun t6_2 s =>
  oh (mp (aBin Tryd.prog .add 3 (e 21) (.int .i64 1)) s) fun t56 s =>
  oh (some (t56.strip, s)) fun t21_2 s =>
  k0 (upds e [(22, t22), (23, t23), (24, t24), (8, t8), (24, t24.strip), (25, t25), (26, t26), (27, t27), (28, t28), (29, t29), (30, t30), (31, t31), (32, t32), (33, t33), (34, t34), (35, t35), (36, t36), (37, t37), (38, t38), (39, t39), (40, t40), (41, t41), (42, t42), (43, t43), (44, t44), (44, t44.strip), (5, t5_2), (45, t45), (46, t46), (47, t47), (48, t48), (49, t49), (50, t50), (51, t51), (52, t52), (53, t53), (54, t54), (55, t55), (55, t55.strip), (6, t6_2), (56, t56), (21, t21_2)]) s))
    (oh (some ((e 6).strip, s)) fun t57 s =>
  oh (mp (aBin Tryd.prog .gtr 3 t57 (.int .i64 2000)) s) fun t58 s =>
  br t58
    (oh (some ((.int .i64 2), s)) fun t4_4 s =>
  some (t4_4, s))
    (oh (some ((.int .i64 0), s)) fun t4_5 s =>
  some (t4_5, s)))

noncomputable def F52 (D : Den) (n : Nat) (t0 t1 : AV) (s : Heap) : Ans :=
  oh (some ((.int .i64 0), s)) fun t4 s =>
  oh (some (t0.strip, s)) fun t9 s =>
  oh (mp (aLen Tryd.prog 9 t9) s) fun t10 s =>
  oh (mp (aBin Tryd.prog .gtr 3 t10 (.int .i64 2000)) s) fun t11 s =>
  oh (some (t11.strip, s)) fun t12 s =>
  oh (gd (wA t12 false) s (some (t1.strip, s))) fun t13 s =>
  oh (gd (wA t12 false) s (mp (aLen Tryd.prog 46 t13) s)) fun t14 s =>
  oh (gd (wA t12 false) s (mp (aBin Tryd.prog .gtr 3 t14 (.int .i64 50)) s)) fun t15 s =>
  oh (mp (aPick t12 (.bool true) t15) s) fun t16 s =>
  br t16
    (oh (some ((.int .i64 2), s)) fun t4_2 s =>
  some (t4_2, s))
    (oh (some (t0.strip, s)) fun t17 s =>
  oh (mp (aLen Tryd.prog 9 t17) s) fun t18 s =>
  oh (some ((.int .i64 (-1)), s)) fun t5 s =>
  oh (some (t18, s)) fun t6 s =>
  oh (some (t1.strip, s)) fun t19 s =>
  oh (mp (aLen Tryd.prog 46 t19) s) fun t20 s =>
  oh (some ((.int .i64 0), s)) fun t21 s =>
  aLoop (F52_L0 D n) n (upds (argEnv [t0, t1]) [(4, t4), (9, t9), (10, t10), (11, t11), (12, t12), (13, t13), (14, t14), (15, t15), (16, t16), (17, t17), (18, t18), (5, t5), (18, t18.strip), (6, t6), (19, t19), (20, t20), (21, t21)]) s)

theorem F52_eq (n : Nat) (t0 t1 : AV) (s : Heap) : den C (n + 1) 52 [t0, t1] s = F52 (den C n) n t0 t1 s :=
  (den_body rfl Tryd.func52 _ _).trans (by kernel_rfl)
theorem en52 : enterable Tryd.prog 52 = true := by kernel_rfl

-- (*strings.Builder).WriteString
noncomputable def F53 (D : Den) (n : Nat) (t0 t1 : AV) (s : Heap) : Ans :=
  oh (some ((.int .i64 0), s)) fun t4 s =>
  oh (some (.nili, s)) fun t5 s =>
  oh (some (t0.strip, s)) fun t6 s =>
  oh (aCall Tryd.prog D 66 [t6.strip] s) fun t7 s =>
  oh (some (t0.strip, s)) fun t8 s =>
  oh (some (t0.strip, s)) fun t9 s =>
  oh (mp (aNilCheck t9) s) fun t10 s =>
  oh (mp (aAddr 1 t10) s) fun t11 s =>
  oh (aLoad true false 1 t11 s) fun t12 s =>
  oh (some (t1.strip, s)) fun t13 s =>
  oh (mp (aAppend Tryd.prog 73 9 t12 t13) s) fun t14 s =>
  oh (mp (aNilCheck t8) s) fun t15 s =>
  oh (mp (aAddr 1 t15) s) fun t16 s =>
  oh (sto (aStore 1 s t16 t14)) fun _r s =>
  oh (some (t1.strip, s)) fun t17 s =>
  oh (mp (aLen Tryd.prog 9 t17) s) fun t18 s =>
  oh (some (t18, s)) fun t4_2 s =>
  oh (some (.nili, s)) fun t5_2 s =>
  some (.tup [t4_2, t5_2], s)

theorem F53_eq (n : Nat) (t0 t1 : AV) (s : Heap) : den C (n + 1) 53 [t0, t1] s = F53 (den C n) n t0 t1 s :=
  (den_body rfl Tryd.func53 _ _).trans (by kernel_rfl)
theorem en53 : enterable Tryd.prog 53 = true := by kernel_rfl

-- slices.Index   string,string 
noncomputable def F62_L0 (D : Den) (n : Nat) (k0 : Env → Heap → Ans) (e : Env) (s : Heap) : Ans :=
  oh (mp (aBin Tryd.prog .lss 3 (e 8) (e 7)) s) fun t9 s =>
  br t9
    (oh (some ((e 8).strip, s)) fun t10 s =>
  oh (some (t10, s)) fun t5 s =>
  oh (some ((e 1).strip, s)) fun t11 s =>
  oh (some ((e 0).strip, s)) fun t12 s =>
  oh (some (t5.strip, s)) fun t13 s =>
  oh (mp (aIndexAddr Tryd.prog 69 t12 t13) s) fun t14 s =>
  oh (aLoad false false 1 t14 s) fun t15 s =>
  oh (mp (aBin Tryd.prog .eql 9 t11 t15) s) fun t16 s =>
  br t16
    (oh (some (t5.strip, s)) fun t17 s =>
  oh (some (t17, s)) fun t4_2 s =>
  some (t4_2, s))
    (oh (mp (aBin Tryd.prog .add 3 (e 8) (.int .i64 1)) s) fun t18 s =>
  oh (some (t18.strip, s)) fun t8_2 s =>
  k0 (upds e [(9, t9), (10, t10), (10, t10.strip), (5, t5), (11, t11), (12, t12), (13, t13), (14, t14), (15, t15), (16, t16), (18, t18), (8, t8_2)]) s))
    (oh (some ((.int .i64 (-1)), s)) fun t4_3 s =>
  some (t4_3, s))

noncomputable def F62 (D : Den) (n : Nat) (t0 t1 : AV) (s : Heap) : Ans :=
  oh (some ((.int .i64 0), s)) fun t4 s =>
  oh (some (t0.strip, s)) fun t6 s =>
  oh (mp (aLen Tryd.prog 69 t6) s) fun t7 s =>
  oh (some ((.int .i64 0), s)) fun t8 s =>
  aLoop (F62_L0 D n) n (upds (argEnv [t0, t1]) [(4, t4), (6, t6), (7, t7), (8, t8)]) s

theorem F62_eq (n : Nat) (t0 t1 : AV) (s : Heap) : den C (n + 1) 62 [t0, t1] s = F62 (den C n) n t0 t1 s :=
  (den_body rfl Tryd.func62 _ _).trans (by kernel_rfl)
theorem en62 : enterable Tryd.prog 62 = true := by kernel_rfl

-- lexer.scanString 1
noncomputable def F64 (D : Den) (n : Nat) (t0 : AV) (s : Heap) : Ans :=
  oh (some ((.bool false), s)) fun t2 s =>
  oh (some (t0.strip, s)) fun t3 s =>
  oh (mp (aBin Tryd.prog .neq 5 t3 (.int .u8 10)) s) fun t4 s =>
  oh (some (t4, s)) fun t2_2 s =>
  some (t2_2, s)

theorem F64_eq (n : Nat) (t0 : AV) (s : Heap) : den C (n + 1) 64 [t0] s = F64 (den C n) n t0 s :=
  (den_body rfl Tryd.func64 _ _).trans (by kernel_rfl)
theorem en64 : enterable Tryd.prog 64 = true := by kernel_rfl

end LexF
