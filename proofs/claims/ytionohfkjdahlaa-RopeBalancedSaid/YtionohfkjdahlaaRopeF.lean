/- Printed by gen.py: the functions, unfolded. -/
import Derived.Test.YtionohfkjdahlaaRopeC
set_option maxRecDepth 10000
set_option linter.all false
namespace RopeF
open Go Go.Abs Go.Proofs

-- glossatorkeep1.RopeConcat
noncomputable def F3_L0 (D : Den) (n : Nat) (k0 : Env → Heap → Ans) (e : Env) (s : Heap) : Ans :=
  oh (mp (aBin Try.prog .lss 3 (e 17) (e 16)) s) fun t18 s =>
  br t18
    (oh (mp (aIndexAddr Try.prog 22 (e 15) (e 17)) s) fun t19 s =>
  oh (aLoad false false 1 t19 s) fun t20 s =>
  oh (some (t20, s)) fun t6 s =>
  oh (some ((e 3), s)) fun t21 s =>
  oh (some (t6.strip, s)) fun t22 s =>
  oh (aCall Try.prog D 8 [t22.strip, (.int .i64 100)] s) fun t23 s =>
  oh (mp (aBuildSlice Try.prog 22 1 [(0, t23)]) s) fun t24 s =>
  oh (mp (aAppend Try.prog 22 22 t21 t24) s) fun t25 s =>
  oh (some (t25, s)) fun t3_2 s =>
  oh (some ((e 4).strip, s)) fun t26 s =>
  oh (some (t6.strip, s)) fun t27 s =>
  oh (aCall Try.prog D 8 [t27.strip, (.int .i64 100)] s) fun t28 s =>
  oh (mp (aBin Try.prog .add 9 t26 t28) s) fun t29 s =>
  oh (some (t29, s)) fun t4_2 s =>
  oh (mp (aBin Try.prog .add 3 (e 17) (.int .i64 1)) s) fun t30 s =>
  oh (some (t30.strip, s)) fun t17_2 s =>
  k0 (upds e [(18, t18), (19, t19), (20, t20), (20, t20.strip), (6, t6), (3, (e 3).strip), (21, t21), (22, t22), (23, t23), (24, t24), (21, t21.strip), (25, t25), (25, t25.strip), (3, t3_2), (26, t26), (27, t27), (28, t28), (29, t29), (29, t29.strip), (4, t4_2), (30, t30), (17, t17_2)]) s)
    (oh (some ((e 3).strip, s)) fun t31 s =>
  oh (aCall Try.prog D 9 [t31.strip, (.bool false)] s) fun t32 s =>
  oh (some ((e 3).strip, s)) fun t33 s =>
  oh (aCall Try.prog D 9 [t33.strip, (.bool true)] s) fun t34 s =>
  oh (aAlloc Try.prog 27 s) fun t7 s =>
  oh (aAlloc Try.prog 27 s) fun t8 s =>
  oh (sto (aStore 1 s t7 t32)) fun _r s =>
  oh (sto (aStore 1 s t8 t34)) fun _r s =>
  oh (aCall Try.prog D 7 [] s) fun t35 s =>
  oh (some (t35.strip, s)) fun t36 s =>
  oh (gd (wA t36 true) s (aLoad false true 1 t7 s)) fun t37 s =>
  oh (gd (wA t36 true) s (aCall Try.prog D 10 [t37.strip] s)) fun t38 s =>
  oh (gd (wA t36 true) s (some ((e 4).strip, s))) fun t39 s =>
  oh (gd (wA t36 true) s (mp (aBin Try.prog .eql 9 t38 t39) s)) fun t40 s =>
  oh (mp (aPick t36 t40 (.bool false)) s) fun t41 s =>
  oh (some (t41.strip, s)) fun t42 s =>
  oh (gd (wA t42 true) s (aLoad false true 1 t8 s)) fun t43 s =>
  oh (gd (wA t42 true) s (aCall Try.prog D 10 [t43.strip] s)) fun t44 s =>
  oh (gd (wA t42 true) s (some ((e 4).strip, s))) fun t45 s =>
  oh (gd (wA t42 true) s (mp (aBin Try.prog .eql 9 t44 t45) s)) fun t46 s =>
  oh (mp (aPick t42 t46 (.bool false)) s) fun t47 s =>
  oh (some (t47.strip, s)) fun t48 s =>
  oh (gd (wA t48 true) s (aLoad false true 1 t7 s)) fun t49 s =>
  oh (gd (wA t48 true) s (aCall Try.prog D 11 [t49.strip] s)) fun t50 s =>
  oh (gd (wA t48 true) s (some ((e 4).strip, s))) fun t51 s =>
  oh (gd (wA t48 true) s (mp (aLen Try.prog 9 t51) s)) fun t52 s =>
  oh (gd (wA t48 true) s (mp (aBin Try.prog .eql 3 t50 t52) s)) fun t53 s =>
  oh (mp (aPick t48 t53 (.bool false)) s) fun t54 s =>
  oh (some (t54.strip, s)) fun t55 s =>
  oh (gd (wA t55 true) s (aLoad false true 1 t8 s)) fun t56 s =>
  oh (gd (wA t55 true) s (aCall Try.prog D 11 [t56.strip] s)) fun t57 s =>
  oh (gd (wA t55 true) s (some ((e 4).strip, s))) fun t58 s =>
  oh (gd (wA t55 true) s (mp (aLen Try.prog 9 t58) s)) fun t59 s =>
  oh (gd (wA t55 true) s (mp (aBin Try.prog .eql 3 t57 t59) s)) fun t60 s =>
  oh (mp (aPick t55 t60 (.bool false)) s) fun t61 s =>
  oh (some (t61, s)) fun t2_3 s =>
  some (t2_3, s))

noncomputable def F3 (D : Den) (n : Nat) (t0 : AV) (s : Heap) : Ans :=
  oh (some ((.bool false), s)) fun t2 s =>
  oh (aCall Try.prog D 7 [] s) fun t9 s =>
  oh (mp (aUn .not t9) s) fun t10 s =>
  br t10
    (oh (some ((.bool false), s)) fun t2_2 s =>
  some (t2_2, s))
    (oh (some (.nils, s)) fun t3 s =>
  oh (some ((.str []), s)) fun t4 s =>
  oh (some (t0.strip, s)) fun t11 s =>
  oh (some (t0.strip, s)) fun t12 s =>
  oh (mp (aLen Try.prog 22 t12) s) fun t13 s =>
  oh (mp (aMin t13 (.int .i64 20)) s) fun t14 s =>
  oh (mp (aSl Try.prog 22 t11 none (some t14) none) s) fun t15 s =>
  oh (mp (aLen Try.prog 22 t15) s) fun t16 s =>
  oh (some ((.int .i64 0), s)) fun t17 s =>
  aLoop (F3_L0 D n) n (upds (argEnv [t0]) [(2, t2), (9, t9), (10, t10), (3, t3), (4, t4), (11, t11), (12, t12), (13, t13), (14, t14), (15, t15), (16, t16), (17, t17)]) s)

theorem F3_eq (n : Nat) (t0 : AV) (s : Heap) : den C (n + 1) 3 [t0] s = F3 (den C n) n t0 s :=
  (den_body rfl Try.func3 _ _).trans (by kernel_rfl)
theorem en3 : enterable Try.prog 3 = true := by kernel_rfl

-- glossatorkeep1.RopeSplit
noncomputable def F4_L0 (D : Den) (n : Nat) (k0 : Env → Heap → Ans) (e : Env) (s : Heap) : Ans :=
  oh (mp (aBin Try.prog .lss 3 (e 23) (e 22)) s) fun t24 s =>
  br t24
    (oh (mp (aIndexAddr Try.prog 22 (e 21) (e 23)) s) fun t25 s =>
  oh (aLoad false false 1 t25 s) fun t26 s =>
  oh (some (t26, s)) fun t7 s =>
  oh (some ((e 5), s)) fun t27 s =>
  oh (some (t7.strip, s)) fun t28 s =>
  oh (aCall Try.prog D 8 [t28.strip, (.int .i64 100)] s) fun t29 s =>
  oh (mp (aBuildSlice Try.prog 22 1 [(0, t29)]) s) fun t30 s =>
  oh (mp (aAppend Try.prog 22 22 t27 t30) s) fun t31 s =>
  oh (some (t31, s)) fun t5_2 s =>
  oh (mp (aBin Try.prog .add 3 (e 23) (.int .i64 1)) s) fun t32 s =>
  oh (some (t32.strip, s)) fun t23_2 s =>
  k0 (upds e [(24, t24), (25, t25), (26, t26), (26, t26.strip), (7, t7), (5, (e 5).strip), (27, t27), (28, t28), (29, t29), (30, t30), (27, t27.strip), (31, t31), (31, t31.strip), (5, t5_2), (32, t32), (23, t23_2)]) s)
    (oh (some ((e 5).strip, s)) fun t33 s =>
  oh (aCall Try.prog D 9 [t33.strip, (.bool true)] s) fun t34 s =>
  oh (aAlloc Try.prog 27 s) fun t8 s =>
  oh (sto (aStore 1 s t8 t34)) fun _r s =>
  oh (aLoad false true 1 t8 s) fun t35 s =>
  oh (aCall Try.prog D 10 [t35.strip] s) fun t36 s =>
  oh (some (t36, s)) fun t9 s =>
  oh (aLoad false true 1 t8 s) fun t38 s =>
  oh (some ((e 1).strip, s)) fun t39 s =>
  oh (aCall Try.prog D 12 [t38.strip, t39.strip] s) fun t40 s =>
  oh (some (t40.strip, s)) fun t37 s =>
  oh (mp (aExtract 0 t37) s) fun t41 s =>
  oh (mp (aExtract 1 t37) s) fun t42 s =>
  oh (mp (aExtract 2 t37) s) fun t43 s =>
  oh (aAlloc Try.prog 27 s) fun t10 s =>
  oh (aAlloc Try.prog 27 s) fun t11 s =>
  oh (sto (aStore 1 s t10 t41)) fun _r s =>
  oh (sto (aStore 1 s t11 t42)) fun _r s =>
  oh (some (t43, s)) fun t12 s =>
  oh (aLoad false true 1 t8 s) fun t45 s =>
  oh (some ((e 1).strip, s)) fun t46 s =>
  oh (aCall Try.prog D 13 [t45.strip, t46.strip] s) fun t47 s =>
  oh (some (t47.strip, s)) fun t44 s =>
  oh (mp (aExtract 0 t44) s) fun t48 s =>
  oh (mp (aExtract 1 t44) s) fun t49 s =>
  oh (some (t48, s)) fun t13 s =>
  oh (some (t49, s)) fun t14 s =>
  oh (some ((e 1).strip, s)) fun t50 s =>
  oh (mp (aBin Try.prog .lss 3 t50 (.int .i64 0)) s) fun t51 s =>
  oh (some (t51.strip, s)) fun t52 s =>
  oh (gd (wA t52 false) s (some ((e 1).strip, s))) fun t53 s =>
  oh (gd (wA t52 false) s (some (t9.strip, s))) fun t54 s =>
  oh (gd (wA t52 false) s (mp (aLen Try.prog 9 t54) s)) fun t55 s =>
  oh (gd (wA t52 false) s (mp (aBin Try.prog .gtr 3 t53 t55) s)) fun t56 s =>
  oh (mp (aPick t52 (.bool true) t56) s) fun t57 s =>
  br t57
    (oh (aCall Try.prog D 7 [] s) fun t58 s =>
  oh (some (t58.strip, s)) fun t59 s =>
  oh (gd (wA t59 true) s (some (t12.strip, s))) fun t60 s =>
  oh (gd (wA t59 true) s (mp (aBin Try.prog .eql 32 t60 (.int .i64 1)) s)) fun t61 s =>
  oh (mp (aPick t59 t61 (.bool false)) s) fun t62 s =>
  oh (some (t62.strip, s)) fun t63 s =>
  oh (gd (wA t63 true) s (some (t14.strip, s))) fun t64 s =>
  oh (gd (wA t63 true) s (mp (aBin Try.prog .eql 32 t64 (.int .i64 1)) s)) fun t65 s =>
  oh (mp (aPick t63 t65 (.bool false)) s) fun t66 s =>
  oh (some (t66.strip, s)) fun t67 s =>
  oh (gd (wA t67 true) s (aLoad false true 1 t10 s)) fun t68 s =>
  oh (gd (wA t67 true) s (aCall Try.prog D 11 [t68.strip] s)) fun t69 s =>
  oh (gd (wA t67 true) s (aLoad false true 1 t11 s)) fun t70 s =>
  oh (gd (wA t67 true) s (aCall Try.prog D 11 [t70.strip] s)) fun t71 s =>
  oh (gd (wA t67 true) s (mp (aBin Try.prog .add 3 t69 t71) s)) fun t72 s =>
  oh (gd (wA t67 true) s (mp (aBin Try.prog .eql 3 t72 (.int .i64 0)) s)) fun t73 s =>
  oh (mp (aPick t67 t73 (.bool false)) s) fun t74 s =>
  oh (some (t74, s)) fun t4_3 s =>
  drawOK C 4 (regOps Try.f4 14) [(kCall []), .silent, (kGd (wA t59 true) .silent), (kGd (wA t59 true) .silent), .silent, .silent, (kGd (wA t63 true) .silent), (kGd (wA t63 true) .silent), .silent, .silent, (kGd (wA t67 true) (kLoad false t10)), (kGd (wA t67 true) (kCall [t68.strip])), (kGd (wA t67 true) (kLoad false t11)), (kGd (wA t67 true) (kCall [t70.strip])), (kGd (wA t67 true) .silent), (kGd (wA t67 true) .silent), .silent, .silent] <|
  some (t4_3, s))
    (oh (some ((e 1).strip, s)) fun t75 s =>
  oh (some (t9.strip, s)) fun t76 s =>
  oh (mp (aLen Try.prog 9 t76) s) fun t77 s =>
  oh (mp (aBin Try.prog .lss 3 t75 t77) s) fun t78 s =>
  oh (some (t78.strip, s)) fun t79 s =>
  oh (gd (wA t79 true) s (some (t13.strip, s))) fun t80 s =>
  oh (gd (wA t79 true) s (some (t9.strip, s))) fun t81 s =>
  oh (gd (wA t79 true) s (some ((e 1).strip, s))) fun t82 s =>
  oh (gd (wA t79 true) s (mp (aIndex Try.prog 9 t81 t82) s)) fun t83 s =>
  oh (gd (wA t79 true) s (mp (aBin Try.prog .neq 5 t80 t83) s)) fun t84 s =>
  oh (gd (wA t79 true) s (some (t84.strip, s))) fun t85 s =>
  oh (gd (wA t85 false) s (some (t14.strip, s))) fun t86 s =>
  oh (gd (wA t85 false) s (mp (aBin Try.prog .neq 32 t86 (.int .i64 0)) s)) fun t87 s =>
  oh (gd (wA t79 true) s (mp (aPick t85 (.bool true) t87) s)) fun t88 s =>
  oh (mp (aPick t79 t88 (.bool false)) s) fun t89 s =>
  oh (some (t89.strip, s)) fun t90 s =>
  oh (gd (wA t90 false) s (some ((e 1).strip, s))) fun t91 s =>
  oh (gd (wA t90 false) s (some (t9.strip, s))) fun t92 s =>
  oh (gd (wA t90 false) s (mp (aLen Try.prog 9 t92) s)) fun t93 s =>
  oh (gd (wA t90 false) s (mp (aBin Try.prog .eql 3 t91 t93) s)) fun t94 s =>
  oh (gd (wA t90 false) s (some (t94.strip, s))) fun t95 s =>
  oh (gd (wA t95 true) s (some (t14.strip, s))) fun t96 s =>
  oh (gd (wA t95 true) s (mp (aBin Try.prog .neq 32 t96 (.int .i64 1)) s)) fun t97 s =>
  oh (gd (wA t90 false) s (mp (aPick t95 t97 (.bool false)) s)) fun t98 s =>
  oh (mp (aPick t90 (.bool true) t98) s) fun t99 s =>
  br t99
    (oh (some ((.bool false), s)) fun t4_4 s =>
  some (t4_4, s))
    (oh (aCall Try.prog D 7 [] s) fun t100 s =>
  oh (some (t100.strip, s)) fun t101 s =>
  oh (gd (wA t101 true) s (some (t12.strip, s))) fun t102 s =>
  oh (gd (wA t101 true) s (mp (aBin Try.prog .eql 32 t102 (.int .i64 0)) s)) fun t103 s =>
  oh (mp (aPick t101 t103 (.bool false)) s) fun t104 s =>
  oh (some (t104.strip, s)) fun t105 s =>
  oh (gd (wA t105 true) s (aLoad false true 1 t10 s)) fun t106 s =>
  oh (gd (wA t105 true) s (aCall Try.prog D 10 [t106.strip] s)) fun t107 s =>
  oh (gd (wA t105 true) s (some (t9.strip, s))) fun t108 s =>
  oh (gd (wA t105 true) s (some ((e 1).strip, s))) fun t109 s =>
  oh (gd (wA t105 true) s (mp (aSl Try.prog 9 t108 none (some t109) none) s)) fun t110 s =>
  oh (gd (wA t105 true) s (mp (aBin Try.prog .eql 9 t107 t110) s)) fun t111 s =>
  oh (mp (aPick t105 t111 (.bool false)) s) fun t112 s =>
  oh (some (t112.strip, s)) fun t113 s =>
  oh (gd (wA t113 true) s (aLoad false true 1 t11 s)) fun t114 s =>
  oh (gd (wA t113 true) s (aCall Try.prog D 10 [t114.strip] s)) fun t115 s =>
  oh (gd (wA t113 true) s (some (t9.strip, s))) fun t116 s =>
  oh (gd (wA t113 true) s (some ((e 1).strip, s))) fun t117 s =>
  oh (gd (wA t113 true) s (mp (aSl Try.prog 9 t116 (some t117) none none) s)) fun t118 s =>
  oh (gd (wA t113 true) s (mp (aBin Try.prog .eql 9 t115 t118) s)) fun t119 s =>
  oh (mp (aPick t113 t119 (.bool false)) s) fun t120 s =>
  oh (some (t120.strip, s)) fun t121 s =>
  oh (gd (wA t121 true) s (aLoad false true 1 t10 s)) fun t122 s =>
  oh (gd (wA t121 true) s (aLoad false true 1 t11 s)) fun t123 s =>
  oh (gd (wA t121 true) s (aCall Try.prog D 14 [t122.strip, t123.strip] s)) fun t124 s =>
  oh (gd (wA t121 true) s (aCall Try.prog D 10 [t124.strip] s)) fun t125 s =>
  oh (gd (wA t121 true) s (some (t9.strip, s))) fun t126 s =>
  oh (gd (wA t121 true) s (mp (aBin Try.prog .eql 9 t125 t126) s)) fun t127 s =>
  oh (mp (aPick t121 t127 (.bool false)) s) fun t128 s =>
  oh (some (t128.strip, s)) fun t129 s =>
  oh (gd (wA t129 true) s (aLoad false true 1 t8 s)) fun t130 s =>
  oh (gd (wA t129 true) s (aCall Try.prog D 10 [t130.strip] s)) fun t131 s =>
  oh (gd (wA t129 true) s (some (t9.strip, s))) fun t132 s =>
  oh (gd (wA t129 true) s (mp (aBin Try.prog .eql 9 t131 t132) s)) fun t133 s =>
  oh (mp (aPick t129 t133 (.bool false)) s) fun t134 s =>
  oh (some (t134, s)) fun t4_5 s =>
  drawOK C 4 (regOps Try.f4 17) [(kCall []), .silent, (kGd (wA t101 true) .silent), (kGd (wA t101 true) .silent), .silent, .silent, (kGd (wA t105 true) (kLoad false t10)), (kGd (wA t105 true) (kCall [t106.strip])), (kGd (wA t105 true) .silent), (kGd (wA t105 true) .silent), (kGd (wA t105 true) .silent), (kGd (wA t105 true) .silent), .silent, .silent, (kGd (wA t113 true) (kLoad false t11)), (kGd (wA t113 true) (kCall [t114.strip])), (kGd (wA t113 true) .silent), (kGd (wA t113 true) .silent), (kGd (wA t113 true) .silent), (kGd (wA t113 true) .silent), .silent, .silent, (kGd (wA t121 true) (kLoad false t10)), (kGd (wA t121 true) (kLoad false t11)), (kGd (wA t121 true) (kCall [t122.strip, t123.strip])), (kGd (wA t121 true) (kCall [t124.strip])), (kGd (wA t121 true) .silent), (kGd (wA t121 true) .silent), .silent, .silent, (kGd (wA t129 true) (kLoad false t8)), (kGd (wA t129 true) (kCall [t130.strip])), (kGd (wA t129 true) .silent), (kGd (wA t129 true) .silent), .silent, .silent] <|
  some (t4_5, s))))

noncomputable def F4 (D : Den) (n : Nat) (t0 t1 : AV) (s : Heap) : Ans :=
  oh (some ((.bool false), s)) fun t4 s =>
  oh (aCall Try.prog D 7 [] s) fun t15 s =>
  oh (mp (aUn .not t15) s) fun t16 s =>
  br t16
    (oh (some ((.bool false), s)) fun t4_2 s =>
  some (t4_2, s))
    (oh (some (.nils, s)) fun t5 s =>
  oh (some (t0.strip, s)) fun t17 s =>
  oh (some (t0.strip, s)) fun t18 s =>
  oh (mp (aLen Try.prog 22 t18) s) fun t19 s =>
  oh (mp (aMin t19 (.int .i64 20)) s) fun t20 s =>
  oh (mp (aSl Try.prog 22 t17 none (some t20) none) s) fun t21 s =>
  oh (mp (aLen Try.prog 22 t21) s) fun t22 s =>
  oh (some ((.int .i64 0), s)) fun t23 s =>
  aLoop (F4_L0 D n) n (upds (argEnv [t0, t1]) [(4, t4), (15, t15), (16, t16), (5, t5), (17, t17), (18, t18), (19, t19), (20, t20), (21, t21), (22, t22), (23, t23)]) s)

theorem F4_eq (n : Nat) (t0 t1 : AV) (s : Heap) : den C (n + 1) 4 [t0, t1] s = F4 (den C n) n t0 t1 s :=
  (den_body rfl Try.func4 _ _).trans (by kernel_rfl)
theorem d4_14 (x : Ans) : drawOK C 4 (regOps Try.f4 14) [.silent, .silent, .silent, .silent, .silent, .silent, .silent, .silent, .silent, .silent, .silent, .silent, .silent, .silent, .silent, .silent, .silent, .silent] x = x := drawOK_ok (by kernel_rfl)
theorem d4_17 (x : Ans) : drawOK C 4 (regOps Try.f4 17) [.silent, .silent, .silent, .silent, .silent, .silent, .silent, .silent, .silent, .silent, .silent, .silent, .silent, .silent, .silent, .silent, .silent, .silent, .silent, .silent, .silent, .silent, .silent, .silent, .silent, .silent, .silent, .silent, .silent, .silent, .silent, .silent, .silent, .silent, .silent, .silent] x = x := drawOK_ok (by kernel_rfl)
theorem en4 : enterable Try.prog 4 = true := by kernel_rfl

-- glossatorkeep1.RopeBalanced
noncomputable def F5_J1 (D : Den) (n : Nat) (k0 : Env → Heap → Ans) (e : Env) (s : Heap) : Ans :=
  oh (aLoad false true 1 (e 5) s) fun t62 s =>
  oh (aCall Try.prog D 17 [t62.strip] s) fun t63 s =>
  oh (mp (aUn .not t63) s) fun t64 s =>
  br t64
    (oh (some ((.bool false), s)) fun t4_3 s =>
  some (t4_3, s))
    (oh (mp (aBin Try.prog .add 3 (e 19) (.int .i64 1)) s) fun t65 s =>
  oh (some (t65.strip, s)) fun t19_2 s =>
  k0 (upds e [(62, t62), (63, t63), (64, t64), (65, t65), (19, t19_2)]) s)

noncomputable def F5_L0 (D : Den) (n : Nat) (k0 : Env → Heap → Ans) (e : Env) (s : Heap) : Ans :=
  oh (mp (aBin Try.prog .lss 3 (e 19) (e 18)) s) fun t20 s =>
  br t20
    (oh (some ((e 19).strip, s)) fun t21 s =>
  oh (mp (aIndexAddr Try.prog 22 (e 17) (e 19)) s) fun t22 s =>
  oh (aLoad false false 1 t22 s) fun t23 s =>
  oh (some (t21, s)) fun t6 s =>
  oh (some (t23, s)) fun t7 s =>
  oh (aLoad false true 1 (e 5) s) fun t24 s =>
  oh (some (t7.strip, s)) fun t25 s =>
  oh (aCall Try.prog D 8 [t25.strip, (.int .i64 100)] s) fun t26 s =>
  oh (aCall Try.prog D 15 [t26.strip] s) fun t27 s =>
  oh (aCall Try.prog D 14 [t24.strip, t27.strip] s) fun t28 s =>
  oh (sto (aStore 1 s (e 5) t28)) fun _r s =>
  drawOK C 5 (regOps Try.f5 7) [(kLoad false (e 5)), .silent, (kCall [t25.strip, (.int .i64 100)]), (kCall [t26.strip]), (kCall [t24.strip, t27.strip]), .writer] <|
  oh (some (t6.strip, s)) fun t29 s =>
  oh (some ((e 1).strip, s)) fun t30 s =>
  oh (mp (aLen Try.prog 39 t30) s) fun t31 s =>
  oh (mp (aBin Try.prog .lss 3 t29 t31) s) fun t32 s =>
  br t32
    (oh (aLoad false true 1 (e 5) s) fun t34 s =>
  oh (some ((e 1).strip, s)) fun t35 s =>
  oh (some (t6.strip, s)) fun t36 s =>
  oh (mp (aIndexAddr Try.prog 39 t35 t36) s) fun t37 s =>
  oh (aLoad false false 1 t37 s) fun t38 s =>
  oh (aLoad false true 1 (e 5) s) fun t39 s =>
  oh (aCall Try.prog D 11 [t39.strip] s) fun t40 s =>
  oh (mp (aBin Try.prog .add 3 t40 (.int .i64 1)) s) fun t41 s =>
  oh (aCall Try.prog D 16 [t38.strip, t41.strip] s) fun t42 s =>
  oh (aCall Try.prog D 12 [t34.strip, t42.strip] s) fun t43 s =>
  oh (some (t43.strip, s)) fun t33 s =>
  oh (mp (aExtract 0 t33) s) fun t44 s =>
  oh (mp (aExtract 1 t33) s) fun t45 s =>
  oh (mp (aExtract 2 t33) s) fun t46 s =>
  oh (aAlloc Try.prog 27 s) fun t8 s =>
  oh (aAlloc Try.prog 27 s) fun t9 s =>
  oh (sto (aStore 1 s t8 t44)) fun _r s =>
  oh (sto (aStore 1 s t9 t45)) fun _r s =>
  oh (some (t46, s)) fun t10 s =>
  drawOK C 5 (regOps Try.f5 9) [(kLoad false (e 5)), .silent, .silent, .silent, (kLoad false t37), (kLoad false (e 5)), (kCall [t39.strip]), .silent, (kCall [t38.strip, t41.strip]), (kCall [t34.strip, t42.strip]), .silent, .silent, .silent, .silent, .alloc, .alloc, .writer, .writer, .silent] <|
  oh (some (t10.strip, s)) fun t47 s =>
  oh (mp (aBin Try.prog .neq 32 t47 (.int .i64 0)) s) fun t48 s =>
  oh (some (t48.strip, s)) fun t49 s =>
  oh (gd (wA t49 false) s (aLoad false true 1 t8 s)) fun t50 s =>
  oh (gd (wA t49 false) s (aCall Try.prog D 17 [t50.strip] s)) fun t51 s =>
  oh (gd (wA t49 false) s (mp (aUn .not t51) s)) fun t52 s =>
  oh (mp (aPick t49 (.bool true) t52) s) fun t53 s =>
  oh (some (t53.strip, s)) fun t54 s =>
  oh (gd (wA t54 false) s (aLoad false true 1 t9 s)) fun t55 s =>
  oh (gd (wA t54 false) s (aCall Try.prog D 17 [t55.strip] s)) fun t56 s =>
  oh (gd (wA t54 false) s (mp (aUn .not t56) s)) fun t57 s =>
  oh (mp (aPick t54 (.bool true) t57) s) fun t58 s =>
  br t58
    (oh (some ((.bool false), s)) fun t4_4 s =>
  some (t4_4, s))
    (oh (aLoad false true 1 t9 s) fun t59 s =>
  oh (aLoad false true 1 t8 s) fun t60 s =>
  oh (aCall Try.prog D 14 [t59.strip, t60.strip] s) fun t61 s =>
  oh (sto (aStore 1 s (e 5) t61)) fun _r s =>
  F5_J1 D n k0 (upds e [(20, t20), (21, t21), (22, t22), (23, t23), (21, t21.strip), (6, t6), (23, t23.strip), (7, t7), (24, t24), (25, t25), (26, t26), (27, t27), (28, t28), (28, t28.strip), (29, t29), (30, t30), (31, t31), (32, t32), (34, t34), (35, t35), (36, t36), (37, t37), (38, t38), (39, t39), (40, t40), (41, t41), (42, t42), (43, t43), (33, t33), (44, t44), (45, t45), (46, t46), (8, t8), (9, t9), (44, t44.strip), (45, t45.strip), (46, t46.strip), (10, t10), (47, t47), (48, t48), (49, t49), (50, t50), (51, t51), (52, t52), (53, t53), (54, t54), (55, t55), (56, t56), (57, t57), (58, t58), (59, t59), (60, t60), (61, t61), (61, t61.strip)]) s))
    (F5_J1 D n k0 (upds e [(20, t20), (21, t21), (22, t22), (23, t23), (21, t21.strip), (6, t6), (23, t23.strip), (7, t7), (24, t24), (25, t25), (26, t26), (27, t27), (28, t28), (28, t28.strip), (29, t29), (30, t30), (31, t31), (32, t32)]) s))
    (oh (aCall Try.prog D 7 [] s) fun t66 s =>
  oh (some (t66, s)) fun t4_5 s =>
  some (t4_5, s))

noncomputable def F5 (D : Den) (n : Nat) (t0 t1 : AV) (s : Heap) : Ans :=
  oh (some ((.bool false), s)) fun t4 s =>
  oh (aCall Try.prog D 7 [] s) fun t11 s =>
  oh (mp (aUn .not t11) s) fun t12 s =>
  br t12
    (oh (some ((.bool false), s)) fun t4_2 s =>
  some (t4_2, s))
    (oh (aAlloc Try.prog 27 s) fun t5 s =>
  oh (some (t0.strip, s)) fun t13 s =>
  oh (some (t0.strip, s)) fun t14 s =>
  oh (mp (aLen Try.prog 22 t14) s) fun t15 s =>
  oh (mp (aMin t15 (.int .i64 20)) s) fun t16 s =>
  oh (mp (aSl Try.prog 22 t13 none (some t16) none) s) fun t17 s =>
  oh (mp (aLen Try.prog 22 t17) s) fun t18 s =>
  oh (some ((.int .i64 0), s)) fun t19 s =>
  aLoop (F5_L0 D n) n (upds (argEnv [t0, t1]) [(4, t4), (11, t11), (12, t12), (5, t5), (13, t13), (14, t14), (15, t15), (16, t16), (17, t17), (18, t18), (19, t19)]) s)

theorem F5_eq (n : Nat) (t0 t1 : AV) (s : Heap) : den C (n + 1) 5 [t0, t1] s = F5 (den C n) n t0 t1 s :=
  (den_body rfl Try.func5 _ _).trans (by kernel_rfl)
theorem d5_7 (x : Ans) : drawOK C 5 (regOps Try.f5 7) [.silent, .silent, .silent, .silent, .silent, .writer] x = x := drawOK_ok (by kernel_rfl)
theorem d5_9 (x : Ans) : drawOK C 5 (regOps Try.f5 9) [.silent, .silent, .silent, .silent, .silent, .silent, .silent, .silent, .silent, .silent, .silent, .silent, .silent, .silent, .alloc, .alloc, .writer, .writer, .silent] x = x := drawOK_ok (by kernel_rfl)
theorem en5 : enterable Try.prog 5 = true := by kernel_rfl

-- glossatorkeep1.RopeApply
noncomputable def F6 (D : Den) (n : Nat) (t0 t1 : AV) (s : Heap) : Ans :=
  oh (some ((.bool false), s)) fun t4 s =>
  oh (aCall Try.prog D 7 [] s) fun t9 s =>
  oh (mp (aUn .not t9) s) fun t10 s =>
  br t10
    (oh (some ((.bool false), s)) fun t4_2 s =>
  some (t4_2, s))
    (oh (some (t0.strip, s)) fun t11 s =>
  oh (aCall Try.prog D 8 [t11.strip, (.int .i64 300)] s) fun t12 s =>
  oh (some (t12, s)) fun t0_2 s =>
  oh (some (t0_2.strip, s)) fun t14 s =>
  oh (some (t1.strip, s)) fun t15 s =>
  oh (aCall Try.prog D 18 [t14.strip, t15.strip] s) fun t16 s =>
  oh (some (t16.strip, s)) fun t13 s =>
  oh (mp (aExtract 0 t13) s) fun t17 s =>
  oh (mp (aExtract 1 t13) s) fun t18 s =>
  oh (some (t17, s)) fun t5 s =>
  oh (some (t18, s)) fun t6 s =>
  oh (some (t0_2.strip, s)) fun t20 s =>
  oh (aCall Try.prog D 15 [t20.strip] s) fun t21 s =>
  oh (some (t1.strip, s)) fun t22 s =>
  oh (aCall Try.prog D 19 [t21.strip, t22.strip] s) fun t23 s =>
  oh (some (t23.strip, s)) fun t19 s =>
  oh (mp (aExtract 0 t19) s) fun t24 s =>
  oh (mp (aExtract 1 t19) s) fun t25 s =>
  oh (aAlloc Try.prog 27 s) fun t7 s =>
  oh (sto (aStore 1 s t7 t24)) fun _r s =>
  oh (some (t25, s)) fun t8 s =>
  oh (some (t6.strip, s)) fun t26 s =>
  oh (mp (aBin Try.prog .neq 32 t26 (.int .i64 0)) s) fun t27 s =>
  br t27
    (oh (aCall Try.prog D 7 [] s) fun t28 s =>
  oh (some (t28.strip, s)) fun t29 s =>
  oh (gd (wA t29 true) s (some (t8.strip, s))) fun t30 s =>
  oh (gd (wA t29 true) s (mp (aBin Try.prog .eql 32 t30 (.int .i64 0)) s)) fun t31 s =>
  oh (gd (wA t29 true) s (some (t31.strip, s))) fun t32 s =>
  oh (gd (wA t32 false) s (aLoad false true 1 t7 s)) fun t33 s =>
  oh (gd (wA t32 false) s (aCall Try.prog D 11 [t33.strip] s)) fun t34 s =>
  oh (gd (wA t32 false) s (mp (aBin Try.prog .eql 3 t34 (.int .i64 0)) s)) fun t35 s =>
  oh (gd (wA t29 true) s (mp (aPick t32 (.bool true) t35) s)) fun t36 s =>
  oh (mp (aPick t29 t36 (.bool false)) s) fun t37 s =>
  oh (some (t37, s)) fun t4_3 s =>
  some (t4_3, s))
    (oh (aCall Try.prog D 7 [] s) fun t38 s =>
  oh (some (t38.strip, s)) fun t39 s =>
  oh (gd (wA t39 true) s (some (t8.strip, s))) fun t40 s =>
  oh (gd (wA t39 true) s (mp (aBin Try.prog .eql 32 t40 (.int .i64 0)) s)) fun t41 s =>
  oh (mp (aPick t39 t41 (.bool false)) s) fun t42 s =>
  oh (some (t42.strip, s)) fun t43 s =>
  oh (gd (wA t43 true) s (aLoad false true 1 t7 s)) fun t44 s =>
  oh (gd (wA t43 true) s (aCall Try.prog D 10 [t44.strip] s)) fun t45 s =>
  oh (gd (wA t43 true) s (some (t5.strip, s))) fun t46 s =>
  oh (gd (wA t43 true) s (mp (aBin Try.prog .eql 9 t45 t46) s)) fun t47 s =>
  oh (mp (aPick t43 t47 (.bool false)) s) fun t48 s =>
  oh (some (t48.strip, s)) fun t49 s =>
  oh (gd (wA t49 true) s (aLoad false true 1 t7 s)) fun t50 s =>
  oh (gd (wA t49 true) s (aCall Try.prog D 17 [t50.strip] s)) fun t51 s =>
  oh (mp (aPick t49 t51 (.bool false)) s) fun t52 s =>
  oh (some (t52, s)) fun t4_4 s =>
  some (t4_4, s)))

theorem F6_eq (n : Nat) (t0 t1 : AV) (s : Heap) : den C (n + 1) 6 [t0, t1] s = F6 (den C n) n t0 t1 s :=
  (den_body rfl Try.func6 _ _).trans (by kernel_rfl)
theorem en6 : enterable Try.prog 6 = true := by kernel_rfl

-- glossatorkeep1.ropeExample
noncomputable def F7 (D : Den) (n : Nat) (s : Heap) : Ans :=
  oh (some ((.bool false), s)) fun t0 s =>
  oh (aCall Try.prog D 15 [(.str [97, 98, 99])] s) fun t7 s =>
  oh (aCall Try.prog D 12 [t7.strip, (.int .i64 2)] s) fun t8 s =>
  oh (some (t8.strip, s)) fun t6 s =>
  oh (mp (aExtract 0 t6) s) fun t9 s =>
  oh (mp (aExtract 1 t6) s) fun t10 s =>
  oh (mp (aExtract 2 t6) s) fun t11 s =>
  oh (aAlloc Try.prog 27 s) fun t1 s =>
  oh (aAlloc Try.prog 27 s) fun t2 s =>
  oh (sto (aStore 1 s t1 t9)) fun _r s =>
  oh (sto (aStore 1 s t2 t10)) fun _r s =>
  oh (some (t11, s)) fun t3 s =>
  oh (aLoad false true 1 t1 s) fun t13 s =>
  oh (aLoad false true 1 t2 s) fun t14 s =>
  oh (aCall Try.prog D 14 [t13.strip, t14.strip] s) fun t15 s =>
  oh (aCall Try.prog D 13 [t15.strip, (.int .i64 2)] s) fun t16 s =>
  oh (some (t16.strip, s)) fun t12 s =>
  oh (mp (aExtract 0 t12) s) fun t17 s =>
  oh (mp (aExtract 1 t12) s) fun t18 s =>
  oh (some (t17, s)) fun t4 s =>
  oh (some (t18, s)) fun t5 s =>
  oh (aLoad false true 1 t1 s) fun t19 s =>
  oh (aCall Try.prog D 10 [t19.strip] s) fun t20 s =>
  oh (mp (aBin Try.prog .eql 9 t20 (.str [97, 98])) s) fun t21 s =>
  oh (some (t21.strip, s)) fun t22 s =>
  oh (gd (wA t22 true) s (aLoad false true 1 t2 s)) fun t23 s =>
  oh (gd (wA t22 true) s (aCall Try.prog D 10 [t23.strip] s)) fun t24 s =>
  oh (gd (wA t22 true) s (mp (aBin Try.prog .eql 9 t24 (.str [99])) s)) fun t25 s =>
  oh (mp (aPick t22 t25 (.bool false)) s) fun t26 s =>
  oh (some (t26.strip, s)) fun t27 s =>
  oh (gd (wA t27 true) s (some (t3.strip, s))) fun t28 s =>
  oh (gd (wA t27 true) s (mp (aBin Try.prog .eql 32 t28 (.int .i64 0)) s)) fun t29 s =>
  oh (mp (aPick t27 t29 (.bool false)) s) fun t30 s =>
  oh (some (t30.strip, s)) fun t31 s =>
  oh (gd (wA t31 true) s (some (t4.strip, s))) fun t32 s =>
  oh (gd (wA t31 true) s (mp (aBin Try.prog .eql 5 t32 (.int .u8 99)) s)) fun t33 s =>
  oh (mp (aPick t31 t33 (.bool false)) s) fun t34 s =>
  oh (some (t34.strip, s)) fun t35 s =>
  oh (gd (wA t35 true) s (some (t5.strip, s))) fun t36 s =>
  oh (gd (wA t35 true) s (mp (aBin Try.prog .eql 32 t36 (.int .i64 0)) s)) fun t37 s =>
  oh (mp (aPick t35 t37 (.bool false)) s) fun t38 s =>
  oh (some (t38.strip, s)) fun t39 s =>
  oh (gd (wA t39 true) s (mp (aBuild Try.prog 27 []) s)) fun t40 s =>
  oh (gd (wA t39 true) s (aCall Try.prog D 11 [t40.strip] s)) fun t41 s =>
  oh (gd (wA t39 true) s (mp (aBin Try.prog .eql 3 t41 (.int .i64 0)) s)) fun t42 s =>
  oh (mp (aPick t39 t42 (.bool false)) s) fun t43 s =>
  oh (some (t43, s)) fun t0_2 s =>
  some (t0_2, s)

theorem F7_eq (n : Nat) (s : Heap) : den C (n + 1) 7 [] s = F7 (den C n) n s :=
  (den_body rfl Try.func7 _ _).trans (by kernel_rfl)
theorem en7 : enterable Try.prog 7 = true := by kernel_rfl

-- glossatorkeep1.short
noncomputable def F8 (D : Den) (n : Nat) (t0 t1 : AV) (s : Heap) : Ans :=
  oh (some ((.str []), s)) fun t4 s =>
  oh (some (t0.strip, s)) fun t5 s =>
  oh (some (t0.strip, s)) fun t6 s =>
  oh (mp (aLen Try.prog 9 t6) s) fun t7 s =>
  oh (some (t1.strip, s)) fun t8 s =>
  oh (mp (aMin t7 t8) s) fun t9 s =>
  oh (mp (aSl Try.prog 9 t5 none (some t9) none) s) fun t10 s =>
  oh (some (t10, s)) fun t4_2 s =>
  some (t4_2, s)

theorem F8_eq (n : Nat) (t0 t1 : AV) (s : Heap) : den C (n + 1) 8 [t0, t1] s = F8 (den C n) n t0 t1 s :=
  (den_body rfl Try.func8 _ _).trans (by kernel_rfl)
theorem en8 : enterable Try.prog 8 = true := by kernel_rfl

-- glossatorkeep1.ropeFrom
noncomputable def F9_L0 (D : Den) (n : Nat) (k0 : Env → Heap → Ans) (e : Env) (s : Heap) : Ans :=
  oh (mp (aBin Try.prog .lss 3 (e 29) (e 28)) s) fun t30 s =>
  br t30
    (oh (mp (aIndexAddr Try.prog 22 (e 27) (e 29)) s) fun t31 s =>
  oh (aLoad false false 1 t31 s) fun t32 s =>
  oh (some (t32, s)) fun t8 s =>
  oh (aLoad false true 1 (e 6) s) fun t33 s =>
  oh (some (t8.strip, s)) fun t34 s =>
  oh (aCall Try.prog D 15 [t34.strip] s) fun t35 s =>
  oh (aCall Try.prog D 14 [t33.strip, t35.strip] s) fun t36 s =>
  oh (sto (aStore 1 s (e 6) t36)) fun _r s =>
  drawOK C 9 (regOps Try.f9 8) [(kLoad false (e 6)), .silent, (kCall [t34.strip]), (kCall [t33.strip, t35.strip]), .writer] <|
  oh (mp (aBin Try.prog .add 3 (e 29) (.int .i64 1)) s) fun t37 s =>
  oh (some (t37.strip, s)) fun t29_2 s =>
  k0 (upds e [(30, t30), (31, t31), (32, t32), (32, t32.strip), (8, t8), (33, t33), (34, t34), (35, t35), (36, t36), (36, t36.strip), (37, t37), (29, t29_2)]) s)
    (oh (aLoad false true 1 (e 6) s) fun t38 s =>
  oh (sto (aStore 1 s (e 4) t38)) fun _r s =>
  fin1 ((aLoad false true 1 (e 4) s).map (·.1)) s)

noncomputable def F9 (D : Den) (n : Nat) (t0 t1 : AV) (s : Heap) : Ans :=
  oh (aAlloc Try.prog 27 s) fun t4 s =>
  oh (some (t1.strip, s)) fun t9 s =>
  oh (some (t9.strip, s)) fun t10 s =>
  oh (gd (wA t10 true) s (some (t0.strip, s))) fun t11 s =>
  oh (gd (wA t10 true) s (mp (aLen Try.prog 22 t11) s)) fun t12 s =>
  oh (gd (wA t10 true) s (mp (aBin Try.prog .gtr 3 t12 (.int .i64 1)) s)) fun t13 s =>
  oh (mp (aPick t10 t13 (.bool false)) s) fun t14 s =>
  br t14
    (oh (some (t0.strip, s)) fun t15 s =>
  oh (mp (aLen Try.prog 22 t15) s) fun t16 s =>
  oh (mp (aBin Try.prog .quo 3 t16 (.int .i64 2)) s) fun t17 s =>
  oh (some (t17, s)) fun t5 s =>
  oh (some (t0.strip, s)) fun t18 s =>
  oh (some (t5.strip, s)) fun t19 s =>
  oh (mp (aSl Try.prog 22 t18 none (some t19) none) s) fun t20 s =>
  oh (aCall Try.prog D 9 [t20.strip, (.bool true)] s) fun t21 s =>
  oh (some (t0.strip, s)) fun t22 s =>
  oh (some (t5.strip, s)) fun t23 s =>
  oh (mp (aSl Try.prog 22 t22 (some t23) none none) s) fun t24 s =>
  oh (aCall Try.prog D 9 [t24.strip, (.bool true)] s) fun t25 s =>
  oh (aCall Try.prog D 14 [t21.strip, t25.strip] s) fun t26 s =>
  oh (sto (aStore 1 s t4 t26)) fun _r s =>
  drawOK C 9 (regOps Try.f9 3) [.silent, .silent, .silent, (kCall [t20.strip, (.bool true)]), .silent, .silent, .silent, (kCall [t24.strip, (.bool true)]), (kCall [t21.strip, t25.strip]), .writer] <|
  fin1 ((aLoad false true 1 t4 s).map (·.1)) s)
    (oh (aAlloc Try.prog 27 s) fun t6 s =>
  oh (some (t0.strip, s)) fun t27 s =>
  oh (mp (aLen Try.prog 22 t27) s) fun t28 s =>
  oh (some ((.int .i64 0), s)) fun t29 s =>
  aLoop (F9_L0 D n) n (upds (argEnv [t0, t1]) [(4, t4), (9, t9), (10, t10), (11, t11), (12, t12), (13, t13), (14, t14), (6, t6), (27, t27), (28, t28), (29, t29)]) s)

theorem F9_eq (n : Nat) (t0 t1 : AV) (s : Heap) : den C (n + 1) 9 [t0, t1] s = F9 (den C n) n t0 t1 s :=
  (den_body rfl Try.func9 _ _).trans (by kernel_rfl)
theorem d9_3 (x : Ans) : drawOK C 9 (regOps Try.f9 3) [.silent, .silent, .silent, .silent, .silent, .silent, .silent, .silent, .silent, .writer] x = x := drawOK_ok (by kernel_rfl)
theorem d9_8 (x : Ans) : drawOK C 9 (regOps Try.f9 8) [.silent, .silent, .silent, .silent, .writer] x = x := drawOK_ok (by kernel_rfl)
theorem en9 : enterable Try.prog 9 = true := by kernel_rfl

-- (rope.Rope).String
noncomputable def F10_J0 (D : Den) (n : Nat) (e : Env) (s : Heap) : Ans :=
  oh (aCall Try.prog D 21 [(e 3).strip] s) fun t10 s =>
  oh (some (t10, s)) fun t2_2 s =>
  some (t2_2, s)

noncomputable def F10 (D : Den) (n : Nat) (t0 : AV) (s : Heap) : Ans :=
  oh (aBox false 27 t0 s) fun t1 s =>
  oh (some ((.str []), s)) fun t2 s =>
  oh (aAlloc Try.prog 53 s) fun t3 s =>
  oh (mp (aAddr 0 t1) s) fun t4 s =>
  oh (aLoad false false 1 t4 s) fun t5 s =>
  oh (mp (aBin Try.prog .neq 25 t5 .nilp) s) fun t6 s =>
  br t6
    (oh (mp (aAddr 0 t1) s) fun t7 s =>
  oh (aLoad false false 1 t7 s) fun t8 s =>
  oh (aCall Try.prog D 20 [t8.strip, t3.strip] s) fun t9 s =>
  F10_J0 D n (upds (argEnv [t0]) [(1, t1), (2, t2), (3, t3), (4, t4), (5, t5), (6, t6), (7, t7), (8, t8), (9, t9)]) s)
    (F10_J0 D n (upds (argEnv [t0]) [(1, t1), (2, t2), (3, t3), (4, t4), (5, t5), (6, t6)]) s)

theorem F10_eq (n : Nat) (t0 : AV) (s : Heap) : den C (n + 1) 10 [t0] s = F10 (den C n) n t0 s :=
  (den_body rfl Try.func10 _ _).trans (by kernel_rfl)
theorem en10 : enterable Try.prog 10 = true := by kernel_rfl

-- (rope.Rope).Len
noncomputable def F11 (D : Den) (n : Nat) (t0 : AV) (s : Heap) : Ans :=
  oh (aBox false 27 t0 s) fun t1 s =>
  oh (some ((.int .i64 0), s)) fun t2 s =>
  oh (mp (aAddr 0 t1) s) fun t3 s =>
  oh (aLoad false false 1 t3 s) fun t4 s =>
  oh (mp (aBin Try.prog .eql 25 t4 .nilp) s) fun t5 s =>
  br t5
    (oh (some ((.int .i64 0), s)) fun t2_2 s =>
  some (t2_2, s))
    (oh (mp (aAddr 0 t1) s) fun t6 s =>
  oh (aLoad false false 1 t6 s) fun t7 s =>
  oh (mp (aNilCheck t7) s) fun t8 s =>
  oh (mp (aAddr 3 t8) s) fun t9 s =>
  oh (aLoad false false 1 t9 s) fun t10 s =>
  oh (some (t10, s)) fun t2_3 s =>
  some (t2_3, s))

theorem F11_eq (n : Nat) (t0 : AV) (s : Heap) : den C (n + 1) 11 [t0] s = F11 (den C n) n t0 s :=
  (den_body rfl Try.func11 _ _).trans (by kernel_rfl)
theorem en11 : enterable Try.prog 11 = true := by kernel_rfl

-- (rope.Rope).Split
noncomputable def F12 (D : Den) (n : Nat) (t0 t1 : AV) (s : Heap) : Ans :=
  oh (aBox false 27 t0 s) fun t2 s =>
  oh (aAlloc Try.prog 27 s) fun t4 s =>
  oh (aAlloc Try.prog 27 s) fun t5 s =>
  oh (some ((.int .i64 0), s)) fun t6 s =>
  oh (some (t1.strip, s)) fun t9 s =>
  oh (mp (aBin Try.prog .lss 3 t9 (.int .i64 0)) s) fun t10 s =>
  oh (some (t10.strip, s)) fun t11 s =>
  oh (gd (wA t11 false) s (some (t1.strip, s))) fun t12 s =>
  oh (gd (wA t11 false) s (aLoad false true 1 t2 s)) fun t13 s =>
  oh (gd (wA t11 false) s (aCall Try.prog D 11 [t13.strip] s)) fun t14 s =>
  oh (gd (wA t11 false) s (mp (aBin Try.prog .gtr 3 t12 t14) s)) fun t15 s =>
  oh (mp (aPick t11 (.bool true) t15) s) fun t16 s =>
  br t16
    (oh (mp (aBuild Try.prog 27 []) s) fun t17 s =>
  oh (mp (aBuild Try.prog 27 []) s) fun t18 s =>
  oh (sto (aStore 1 s t4 t17)) fun _r s =>
  oh (sto (aStore 1 s t5 t18)) fun _r s =>
  oh (some ((.int .i64 1), s)) fun t6_2 s =>
  fin1 ((resL [(aLoad false true 1 t4 s).map (·.1), (aLoad false true 1 t5 s).map (·.1), some t6_2]).map .tup) s)
    (oh (mp (aAddr 0 t2) s) fun t20 s =>
  oh (aLoad false false 1 t20 s) fun t21 s =>
  oh (some (t1.strip, s)) fun t22 s =>
  oh (aCall Try.prog D 22 [t21.strip, t22.strip] s) fun t23 s =>
  oh (some (t23.strip, s)) fun t19 s =>
  oh (mp (aExtract 0 t19) s) fun t24 s =>
  oh (mp (aExtract 1 t19) s) fun t25 s =>
  oh (some (t24, s)) fun t7 s =>
  oh (some (t25, s)) fun t8 s =>
  oh (some (t7.strip, s)) fun t26 s =>
  oh (mp (aBuild Try.prog 27 [(0, t26)]) s) fun t27 s =>
  oh (some (t8.strip, s)) fun t28 s =>
  oh (mp (aBuild Try.prog 27 [(0, t28)]) s) fun t29 s =>
  oh (sto (aStore 1 s t4 t27)) fun _r s =>
  oh (sto (aStore 1 s t5 t29)) fun _r s =>
  oh (some ((.int .i64 0), s)) fun t6_3 s =>
  fin1 ((resL [(aLoad false true 1 t4 s).map (·.1), (aLoad false true 1 t5 s).map (·.1), some t6_3]).map .tup) s)

theorem F12_eq (n : Nat) (t0 t1 : AV) (s : Heap) : den C (n + 1) 12 [t0, t1] s = F12 (den C n) n t0 t1 s :=
  (den_body rfl Try.func12 _ _).trans (by kernel_rfl)
theorem en12 : enterable Try.prog 12 = true := by kernel_rfl

-- (rope.Rope).ByteAt
noncomputable def F13_L0 (D : Den) (n : Nat) (k0 : Env → Heap → Ans) (e : Env) (s : Heap) : Ans :=
  oh (some ((e 6).strip, s)) fun t17 s =>
  oh (mp (aNilCheck t17) s) fun t18 s =>
  oh (mp (aAddr 4 t18) s) fun t19 s =>
  oh (aLoad false false 1 t19 s) fun t20 s =>
  oh (mp (aBin Try.prog .gtr 3 t20 (.int .i64 0)) s) fun t21 s =>
  br t21
    (oh (some ((e 1).strip, s)) fun t22 s =>
  oh (some ((e 6).strip, s)) fun t23 s =>
  oh (mp (aNilCheck t23) s) fun t24 s =>
  oh (mp (aAddr 0 t24) s) fun t25 s =>
  oh (aLoad false false 1 t25 s) fun t26 s =>
  oh (mp (aNilCheck t26) s) fun t27 s =>
  oh (mp (aAddr 3 t27) s) fun t28 s =>
  oh (aLoad false false 1 t28 s) fun t29 s =>
  oh (mp (aBin Try.prog .lss 3 t22 t29) s) fun t30 s =>
  br t30
    (oh (some ((e 6).strip, s)) fun t31 s =>
  oh (mp (aNilCheck t31) s) fun t32 s =>
  oh (mp (aAddr 0 t32) s) fun t33 s =>
  oh (aLoad false false 1 t33 s) fun t34 s =>
  oh (some (t34, s)) fun t6_2 s =>
  k0 (upds e [(17, t17), (18, t18), (19, t19), (20, t20), (21, t21), (22, t22), (23, t23), (24, t24), (25, t25), (26, t26), (27, t27), (28, t28), (29, t29), (30, t30), (31, t31), (32, t32), (33, t33), (34, t34), (34, t34.strip), (6, t6_2)]) s)
    (oh (some ((e 1).strip, s)) fun t35 s =>
  oh (some ((e 6).strip, s)) fun t36 s =>
  oh (mp (aNilCheck t36) s) fun t37 s =>
  oh (mp (aAddr 0 t37) s) fun t38 s =>
  oh (aLoad false false 1 t38 s) fun t39 s =>
  oh (mp (aNilCheck t39) s) fun t40 s =>
  oh (mp (aAddr 3 t40) s) fun t41 s =>
  oh (aLoad false false 1 t41 s) fun t42 s =>
  oh (mp (aBin Try.prog .sub 3 t35 t42) s) fun t43 s =>
  oh (some (t43, s)) fun t1_2 s =>
  oh (some ((e 6).strip, s)) fun t44 s =>
  oh (mp (aNilCheck t44) s) fun t45 s =>
  oh (mp (aAddr 1 t45) s) fun t46 s =>
  oh (aLoad false false 1 t46 s) fun t47 s =>
  oh (some (t47, s)) fun t6_3 s =>
  k0 (upds e [(17, t17), (18, t18), (19, t19), (20, t20), (21, t21), (22, t22), (23, t23), (24, t24), (25, t25), (26, t26), (27, t27), (28, t28), (29, t29), (30, t30), (35, t35), (36, t36), (37, t37), (38, t38), (39, t39), (40, t40), (41, t41), (42, t42), (43, t43), (43, t43.strip), (1, t1_2), (44, t44), (45, t45), (46, t46), (47, t47), (47, t47.strip), (6, t6_3)]) s))
    (oh (some ((e 6).strip, s)) fun t48 s =>
  oh (mp (aNilCheck t48) s) fun t49 s =>
  oh (mp (aAddr 2 t49) s) fun t50 s =>
  oh (aLoad false false 1 t50 s) fun t51 s =>
  oh (some ((e 1).strip, s)) fun t52 s =>
  oh (mp (aIndex Try.prog 9 t51 t52) s) fun t53 s =>
  oh (some (t53, s)) fun t4_3 s =>
  oh (some ((.int .i64 0), s)) fun t5_3 s =>
  some (.tup [t4_3, t5_3], s))

noncomputable def F13 (D : Den) (n : Nat) (t0 t1 : AV) (s : Heap) : Ans :=
  oh (aBox false 27 t0 s) fun t2 s =>
  oh (some ((.int .u8 0), s)) fun t4 s =>
  oh (some ((.int .i64 0), s)) fun t5 s =>
  oh (some (t1.strip, s)) fun t7 s =>
  oh (mp (aBin Try.prog .lss 3 t7 (.int .i64 0)) s) fun t8 s =>
  oh (some (t8.strip, s)) fun t9 s =>
  oh (gd (wA t9 false) s (some (t1.strip, s))) fun t10 s =>
  oh (gd (wA t9 false) s (aLoad false true 1 t2 s)) fun t11 s =>
  oh (gd (wA t9 false) s (aCall Try.prog D 11 [t11.strip] s)) fun t12 s =>
  oh (gd (wA t9 false) s (mp (aBin Try.prog .geq 3 t10 t12) s)) fun t13 s =>
  oh (mp (aPick t9 (.bool true) t13) s) fun t14 s =>
  br t14
    (oh (some ((.int .u8 0), s)) fun t4_2 s =>
  oh (some ((.int .i64 1), s)) fun t5_2 s =>
  some (.tup [t4_2, t5_2], s))
    (oh (mp (aAddr 0 t2) s) fun t15 s =>
  oh (aLoad false false 1 t15 s) fun t16 s =>
  oh (some (t16, s)) fun t6 s =>
  aLoop (F13_L0 D n) n (upds (argEnv [t0, t1]) [(2, t2), (4, t4), (5, t5), (7, t7), (8, t8), (9, t9), (10, t10), (11, t11), (12, t12), (13, t13), (14, t14), (15, t15), (16, t16), (16, t16.strip), (6, t6)]) s)

theorem F13_eq (n : Nat) (t0 t1 : AV) (s : Heap) : den C (n + 1) 13 [t0, t1] s = F13 (den C n) n t0 t1 s :=
  (den_body rfl Try.func13 _ _).trans (by kernel_rfl)
theorem en13 : enterable Try.prog 13 = true := by kernel_rfl

-- (rope.Rope).Concat
noncomputable def F14 (D : Den) (n : Nat) (t0 t1 : AV) (s : Heap) : Ans :=
  oh (aBox false 27 t0 s) fun t2 s =>
  oh (aBox false 27 t1 s) fun t3 s =>
  oh (aAlloc Try.prog 27 s) fun t4 s =>
  oh (mp (aAddr 0 t2) s) fun t5 s =>
  oh (aLoad false false 1 t5 s) fun t6 s =>
  oh (mp (aAddr 0 t3) s) fun t7 s =>
  oh (aLoad false false 1 t7 s) fun t8 s =>
  oh (aCall Try.prog D 23 [t6.strip, t8.strip] s) fun t9 s =>
  oh (mp (aBuild Try.prog 27 [(0, t9)]) s) fun t10 s =>
  oh (sto (aStore 1 s t4 t10)) fun _r s =>
  fin1 ((aLoad false true 1 t4 s).map (·.1)) s

theorem F14_eq (n : Nat) (t0 t1 : AV) (s : Heap) : den C (n + 1) 14 [t0, t1] s = F14 (den C n) n t0 t1 s :=
  (den_body rfl Try.func14 _ _).trans (by kernel_rfl)
theorem en14 : enterable Try.prog 14 = true := by kernel_rfl

-- rope.New
noncomputable def F15_L0 (D : Den) (n : Nat) (k0 : Env → Heap → Ans) (e : Env) (s : Heap) : Ans :=
  oh (some ((e 0).strip, s)) fun t5 s =>
  oh (mp (aLen Try.prog 9 t5) s) fun t6 s =>
  oh (mp (aBin Try.prog .gtr 3 t6 (.int .i64 0)) s) fun t7 s =>
  br t7
    (oh (some ((e 0).strip, s)) fun t8 s =>
  oh (mp (aLen Try.prog 9 t8) s) fun t9 s =>
  oh (mp (aMin t9 (.int .i64 32)) s) fun t10 s =>
  oh (some (t10, s)) fun t4 s =>
  oh (some ((e 3).strip, s)) fun t11 s =>
  oh (some ((e 0).strip, s)) fun t12 s =>
  oh (some (t4.strip, s)) fun t13 s =>
  oh (mp (aSl Try.prog 9 t12 none (some t13) none) s) fun t14 s =>
  oh (aCall Try.prog D 24 [t14.strip] s) fun t15 s =>
  oh (aCall Try.prog D 23 [t11.strip, t15.strip] s) fun t16 s =>
  oh (some (t16, s)) fun t3_2 s =>
  oh (some ((e 0).strip, s)) fun t17 s =>
  oh (some (t4.strip, s)) fun t18 s =>
  oh (mp (aSl Try.prog 9 t17 (some t18) none none) s) fun t19 s =>
  oh (some (t19, s)) fun t0_2 s =>
  k0 (upds e [(5, t5), (6, t6), (7, t7), (8, t8), (9, t9), (10, t10), (10, t10.strip), (4, t4), (11, t11), (12, t12), (13, t13), (14, t14), (15, t15), (16, t16), (16, t16.strip), (3, t3_2), (17, t17), (18, t18), (19, t19), (19, t19.strip), (0, t0_2)]) s)
    (oh (some ((e 3).strip, s)) fun t20 s =>
  oh (mp (aBuild Try.prog 27 [(0, t20)]) s) fun t21 s =>
  oh (sto (aStore 1 s (e 2) t21)) fun _r s =>
  fin1 ((aLoad false true 1 (e 2) s).map (·.1)) s)

noncomputable def F15 (D : Den) (n : Nat) (t0 : AV) (s : Heap) : Ans :=
  oh (aAlloc Try.prog 27 s) fun t2 s =>
  oh (some (.nilp, s)) fun t3 s =>
  aLoop (F15_L0 D n) n (upds (argEnv [t0]) [(2, t2), (3, t3)]) s

theorem F15_eq (n : Nat) (t0 : AV) (s : Heap) : den C (n + 1) 15 [t0] s = F15 (den C n) n t0 s :=
  (den_body rfl Try.func15 _ _).trans (by kernel_rfl)
theorem en15 : enterable Try.prog 15 = true := by kernel_rfl

-- glossatorref1.Mod
noncomputable def F16_J0 (D : Den) (n : Nat) (e : Env) (s : Heap) : Ans :=
  oh (some ((e 5).strip, s)) fun t14 s =>
  oh (some (t14, s)) fun t4_2 s =>
  some (t4_2, s)

noncomputable def F16 (D : Den) (n : Nat) (t0 t1 : AV) (s : Heap) : Ans :=
  oh (some ((.int .i64 0), s)) fun t4 s =>
  oh (some (t0.strip, s)) fun t6 s =>
  oh (some (t1.strip, s)) fun t7 s =>
  oh (mp (aBin Try.prog .rem 3 t6 t7) s) fun t8 s =>
  oh (some (t8, s)) fun t5 s =>
  oh (some (t5.strip, s)) fun t9 s =>
  oh (mp (aBin Try.prog .lss 3 t9 (.int .i64 0)) s) fun t10 s =>
  br t10
    (oh (some (t5.strip, s)) fun t11 s =>
  oh (some (t1.strip, s)) fun t12 s =>
  oh (mp (aBin Try.prog .add 3 t11 t12) s) fun t13 s =>
  oh (some (t13, s)) fun t5_2 s =>
  F16_J0 D n (upds (argEnv [t0, t1]) [(4, t4), (6, t6), (7, t7), (8, t8), (8, t8.strip), (5, t5), (9, t9), (10, t10), (11, t11), (12, t12), (13, t13), (13, t13.strip), (5, t5_2)]) s)
    (F16_J0 D n (upds (argEnv [t0, t1]) [(4, t4), (6, t6), (7, t7), (8, t8), (8, t8.strip), (5, t5), (9, t9), (10, t10)]) s)

theorem F16_eq (n : Nat) (t0 t1 : AV) (s : Heap) : den C (n + 1) 16 [t0, t1] s = F16 (den C n) n t0 t1 s :=
  (den_body rfl Try.func16 _ _).trans (by kernel_rfl)
theorem en16 : enterable Try.prog 16 = true := by kernel_rfl

-- glossatorkeep1.isBalanced
noncomputable def F17_L0 (D : Den) (n : Nat) (k0 : Env → Heap → Ans) (e : Env) (s : Heap) : Ans :=
  oh (mp (aBin Try.prog .lss 3 (e 13) (e 12)) s) fun t14 s =>
  br t14
    (oh (some ((e 6).strip, s)) fun t15 s =>
  oh (some ((e 5).strip, s)) fun t16 s =>
  oh (some ((e 6).strip, s)) fun t17 s =>
  oh (mp (aBin Try.prog .add 3 t16 t17) s) fun t18 s =>
  oh (some (t15, s)) fun t5_2 s =>
  oh (some (t18, s)) fun t6_2 s =>
  oh (mp (aBin Try.prog .add 3 (e 13) (.int .i64 1)) s) fun t19 s =>
  oh (some (t19.strip, s)) fun t13_2 s =>
  k0 (upds e [(14, t14), (15, t15), (16, t16), (17, t17), (18, t18), (15, t15.strip), (5, t5_2), (18, t18.strip), (6, t6_2), (19, t19), (13, t13_2)]) s)
    (oh (some ((e 3).strip, s)) fun t20 s =>
  oh (mp (aBin Try.prog .lss 3 t20 (.int .i64 60)) s) fun t21 s =>
  oh (some (t21.strip, s)) fun t22 s =>
  oh (gd (wA t22 true) s (aLoad false true 1 (e 1) s)) fun t23 s =>
  oh (gd (wA t22 true) s (aCall Try.prog D 11 [t23.strip] s)) fun t24 s =>
  oh (gd (wA t22 true) s (mp (aBin Try.prog .eql 3 t24 (.int .i64 0)) s)) fun t25 s =>
  oh (gd (wA t22 true) s (some (t25.strip, s))) fun t26 s =>
  oh (gd (wA t26 true) s (some ((e 3).strip, s))) fun t27 s =>
  oh (gd (wA t26 true) s (mp (aBin Try.prog .eql 3 t27 (.int .i64 0)) s)) fun t28 s =>
  oh (gd (wA t22 true) s (mp (aPick t26 t28 (.bool false)) s)) fun t29 s =>
  oh (gd (wA t22 true) s (some (t29.strip, s))) fun t30 s =>
  oh (gd (wA t30 true) s (some ((e 4).strip, s))) fun t31 s =>
  oh (gd (wA t30 true) s (mp (aBin Try.prog .eql 3 t31 (.int .i64 0)) s)) fun t32 s =>
  oh (gd (wA t22 true) s (mp (aPick t30 t32 (.bool false)) s)) fun t33 s =>
  oh (gd (wA t22 true) s (some (t33.strip, s))) fun t34 s =>
  oh (gd (wA t34 false) s (some ((e 4).strip, s))) fun t35 s =>
  oh (gd (wA t34 false) s (some ((e 6).strip, s))) fun t36 s =>
  oh (gd (wA t34 false) s (mp (aBin Try.prog .geq 3 t35 t36) s)) fun t37 s =>
  oh (gd (wA t34 false) s (some (t37.strip, s))) fun t38 s =>
  oh (gd (wA t38 true) s (some ((e 4).strip, s))) fun t39 s =>
  oh (gd (wA t38 true) s (aLoad false true 1 (e 1) s)) fun t40 s =>
  oh (gd (wA t38 true) s (aCall Try.prog D 11 [t40.strip] s)) fun t41 s =>
  oh (gd (wA t38 true) s (mp (aBin Try.prog .leq 3 t39 t41) s)) fun t42 s =>
  oh (gd (wA t34 false) s (mp (aPick t38 t42 (.bool false)) s)) fun t43 s =>
  oh (gd (wA t22 true) s (mp (aPick t34 (.bool true) t43) s)) fun t44 s =>
  oh (mp (aPick t22 t44 (.bool false)) s) fun t45 s =>
  oh (some (t45, s)) fun t2_2 s =>
  some (t2_2, s))

noncomputable def F17 (D : Den) (n : Nat) (t0 : AV) (s : Heap) : Ans :=
  oh (aBox false 27 t0 s) fun t1 s =>
  oh (some ((.bool false), s)) fun t2 s =>
  oh (aLoad false true 1 t1 s) fun t8 s =>
  oh (aCall Try.prog D 25 [t8.strip] s) fun t9 s =>
  oh (some (t9.strip, s)) fun t7 s =>
  oh (mp (aExtract 0 t7) s) fun t10 s =>
  oh (mp (aExtract 1 t7) s) fun t11 s =>
  oh (some (t10, s)) fun t3 s =>
  oh (some (t11, s)) fun t4 s =>
  oh (some ((.int .i64 1), s)) fun t5 s =>
  oh (some ((.int .i64 1), s)) fun t6 s =>
  oh (some (t3.strip, s)) fun t12 s =>
  oh (some ((.int .i64 0), s)) fun t13 s =>
  aLoop (F17_L0 D n) n (upds (argEnv [t0]) [(1, t1), (2, t2), (8, t8), (9, t9), (7, t7), (10, t10), (11, t11), (10, t10.strip), (3, t3), (11, t11.strip), (4, t4), (5, t5), (6, t6), (12, t12), (13, t13)]) s

theorem F17_eq (n : Nat) (t0 : AV) (s : Heap) : den C (n + 1) 17 [t0] s = F17 (den C n) n t0 s :=
  (den_body rfl Try.func17 _ _).trans (by kernel_rfl)
theorem en17 : enterable Try.prog 17 = true := by kernel_rfl

-- textedit.Apply
noncomputable def F18_L0 (D : Den) (n : Nat) (k0 : Env → Heap → Ans) (e : Env) (s : Heap) : Ans :=
  oh (mp (aBin Try.prog .lss 3 (e 19) (e 18)) s) fun t20 s =>
  br t20
    (oh (mp (aIndexAddr Try.prog 44 (e 17) (e 19)) s) fun t21 s =>
  oh (aLoad false true 3 t21 s) fun t22 s =>
  oh (aAlloc Try.prog 65 s) fun t10 s =>
  oh (sto (aStore 3 s t10 t22)) fun _r s =>
  oh (some ((e 0).strip, s)) fun t23 s =>
  oh (some ((e 8).strip, s)) fun t24 s =>
  oh (mp (aAddr 0 t10) s) fun t25 s =>
  oh (aLoad false false 1 t25 s) fun t26 s =>
  oh (mp (aSl Try.prog 9 t23 (some t24) (some t26) none) s) fun t27 s =>
  oh (mp (aAddr 2 t10) s) fun t28 s =>
  oh (aLoad false false 1 t28 s) fun t29 s =>
  oh (mp (aBin Try.prog .add 9 t27 t29) s) fun t30 s =>
  oh (aCall Try.prog D 27 [(e 7).strip, t30.strip] s) fun t31 s =>
  drawOK C 18 (regOps Try.f18 9) [.silent, .silent, .silent, (kLoad false t25), .silent, .silent, (kLoad false t28), .silent, (kCall [(e 7).strip, t30.strip])] <|
  oh (mp (aAddr 1 t10) s) fun t32 s =>
  oh (aLoad false false 1 t32 s) fun t33 s =>
  oh (some (t33, s)) fun t8_2 s =>
  oh (mp (aBin Try.prog .add 3 (e 19) (.int .i64 1)) s) fun t34 s =>
  oh (some (t34.strip, s)) fun t19_2 s =>
  k0 (upds e [(20, t20), (21, t21), (22, t22), (10, t10), (22, t22.strip), (23, t23), (24, t24), (25, t25), (26, t26), (27, t27), (28, t28), (29, t29), (30, t30), (31, t31), (32, t32), (33, t33), (33, t33.strip), (8, t8_2), (34, t34), (19, t19_2)]) s)
    (oh (some ((e 0).strip, s)) fun t35 s =>
  oh (some ((e 8).strip, s)) fun t36 s =>
  oh (mp (aSl Try.prog 9 t35 (some t36) none none) s) fun t37 s =>
  oh (aCall Try.prog D 27 [(e 7).strip, t37.strip] s) fun t38 s =>
  oh (aCall Try.prog D 21 [(e 7).strip] s) fun t39 s =>
  oh (some (t39, s)) fun t4_3 s =>
  oh (some ((.int .i64 0), s)) fun t5_3 s =>
  some (.tup [t4_3, t5_3], s))

noncomputable def F18 (D : Den) (n : Nat) (t0 t1 : AV) (s : Heap) : Ans :=
  oh (some ((.str []), s)) fun t4 s =>
  oh (some ((.int .i64 0), s)) fun t5 s =>
  oh (some (t0.strip, s)) fun t11 s =>
  oh (some (t1.strip, s)) fun t12 s =>
  oh (aCall Try.prog D 26 [t11.strip, t12.strip] s) fun t13 s =>
  oh (some (t13, s)) fun t6 s =>
  oh (some (t6.strip, s)) fun t14 s =>
  oh (mp (aBin Try.prog .neq 32 t14 (.int .i64 0)) s) fun t15 s =>
  br t15
    (oh (some (t6.strip, s)) fun t16 s =>
  oh (some ((.str []), s)) fun t4_2 s =>
  oh (some (t16, s)) fun t5_2 s =>
  some (.tup [t4_2, t5_2], s))
    (oh (aAlloc Try.prog 53 s) fun t7 s =>
  oh (some ((.int .i64 0), s)) fun t8 s =>
  oh (some (t1.strip, s)) fun t17 s =>
  oh (mp (aLen Try.prog 44 t17) s) fun t18 s =>
  oh (some ((.int .i64 0), s)) fun t19 s =>
  aLoop (F18_L0 D n) n (upds (argEnv [t0, t1]) [(4, t4), (5, t5), (11, t11), (12, t12), (13, t13), (13, t13.strip), (6, t6), (14, t14), (15, t15), (7, t7), (8, t8), (17, t17), (18, t18), (19, t19)]) s)

theorem F18_eq (n : Nat) (t0 t1 : AV) (s : Heap) : den C (n + 1) 18 [t0, t1] s = F18 (den C n) n t0 t1 s :=
  (den_body rfl Try.func18 _ _).trans (by kernel_rfl)
theorem d18_9 (x : Ans) : drawOK C 18 (regOps Try.f18 9) [.silent, .silent, .silent, .silent, .silent, .silent, .silent, .silent, .silent] x = x := drawOK_ok (by kernel_rfl)
theorem en18 : enterable Try.prog 18 = true := by kernel_rfl

-- (rope.Rope).Apply
noncomputable def F19_L0 (D : Den) (n : Nat) (k0 : Env → Heap → Ans) (e : Env) (s : Heap) : Ans :=
  oh (mp (aBin Try.prog .lss 3 (e 26) (e 25)) s) fun t27 s =>
  br t27
    (oh (mp (aIndexAddr Try.prog 44 (e 24) (e 26)) s) fun t28 s =>
  oh (aLoad false true 3 t28 s) fun t29 s =>
  oh (aAlloc Try.prog 65 s) fun t11 s =>
  oh (sto (aStore 3 s t11 t29)) fun _r s =>
  oh (some ((e 8).strip, s)) fun t31 s =>
  oh (mp (aAddr 0 t11) s) fun t32 s =>
  oh (aLoad false false 1 t32 s) fun t33 s =>
  oh (some ((e 9).strip, s)) fun t34 s =>
  oh (mp (aBin Try.prog .sub 3 t33 t34) s) fun t35 s =>
  oh (aCall Try.prog D 22 [t31.strip, t35.strip] s) fun t36 s =>
  oh (some (t36.strip, s)) fun t30 s =>
  oh (mp (aExtract 0 t30) s) fun t37 s =>
  oh (mp (aExtract 1 t30) s) fun t38 s =>
  oh (some (t37, s)) fun t12 s =>
  oh (some (t38, s)) fun t13 s =>
  oh (some (t13.strip, s)) fun t40 s =>
  oh (mp (aAddr 1 t11) s) fun t41 s =>
  oh (aLoad false false 1 t41 s) fun t42 s =>
  oh (mp (aAddr 0 t11) s) fun t43 s =>
  oh (aLoad false false 1 t43 s) fun t44 s =>
  oh (mp (aBin Try.prog .sub 3 t42 t44) s) fun t45 s =>
  oh (aCall Try.prog D 22 [t40.strip, t45.strip] s) fun t46 s =>
  oh (some (t46.strip, s)) fun t39 s =>
  oh (mp (aExtract 0 t39) s) fun t47 s =>
  oh (mp (aExtract 1 t39) s) fun t48 s =>
  oh (some (t48, s)) fun t13_2 s =>
  oh (some ((e 7).strip, s)) fun t49 s =>
  oh (some (t12.strip, s)) fun t50 s =>
  oh (aCall Try.prog D 23 [t49.strip, t50.strip] s) fun t51 s =>
  oh (mp (aAddr 2 t11) s) fun t52 s =>
  oh (aLoad false false 1 t52 s) fun t53 s =>
  oh (aCall Try.prog D 15 [t53.strip] s) fun t54 s =>
  oh (mp (aField Try.prog 27 0 t54) s) fun t55 s =>
  oh (aCall Try.prog D 23 [t51.strip, t55.strip] s) fun t56 s =>
  oh (some (t56, s)) fun t7_2 s =>
  drawOK C 19 (regOps Try.f19 11) [.silent, .silent, (kCall [t49.strip, t50.strip]), .silent, (kLoad false t52), (kCall [t53.strip]), .silent, (kCall [t51.strip, t55.strip]), .silent] <|
  oh (some (t13_2.strip, s)) fun t57 s =>
  oh (mp (aAddr 1 t11) s) fun t58 s =>
  oh (aLoad false false 1 t58 s) fun t59 s =>
  oh (some (t57, s)) fun t8_2 s =>
  oh (some (t59, s)) fun t9_2 s =>
  drawOK C 19 (regOps Try.f19 12) [.silent, .silent, (kLoad false t58), .silent, .silent] <|
  oh (mp (aBin Try.prog .add 3 (e 26) (.int .i64 1)) s) fun t60 s =>
  oh (some (t60.strip, s)) fun t26_2 s =>
  k0 (upds e [(27, t27), (28, t28), (29, t29), (11, t11), (29, t29.strip), (31, t31), (32, t32), (33, t33), (34, t34), (35, t35), (36, t36), (30, t30), (37, t37), (38, t38), (37, t37.strip), (12, t12), (38, t38.strip), (13, t13), (40, t40), (41, t41), (42, t42), (43, t43), (44, t44), (45, t45), (46, t46), (39, t39), (47, t47), (48, t48), (48, t48.strip), (13, t13_2), (49, t49), (50, t50), (51, t51), (52, t52), (53, t53), (54, t54), (55, t55), (56, t56), (56, t56.strip), (7, t7_2), (57, t57), (58, t58), (59, t59), (57, t57.strip), (8, t8_2), (59, t59.strip), (9, t9_2), (60, t60), (26, t26_2)]) s)
    (oh (some ((e 7).strip, s)) fun t61 s =>
  oh (some ((e 8).strip, s)) fun t62 s =>
  oh (aCall Try.prog D 23 [t61.strip, t62.strip] s) fun t63 s =>
  oh (mp (aBuild Try.prog 27 [(0, t63)]) s) fun t64 s =>
  oh (sto (aStore 1 s (e 4) t64)) fun _r s =>
  oh (some ((.int .i64 0), s)) fun t5_3 s =>
  fin1 ((resL [(aLoad false true 1 (e 4) s).map (·.1), some t5_3]).map .tup) s)

noncomputable def F19 (D : Den) (n : Nat) (t0 t1 : AV) (s : Heap) : Ans :=
  oh (aBox false 27 t0 s) fun t2 s =>
  oh (aAlloc Try.prog 27 s) fun t4 s =>
  oh (some ((.int .i64 0), s)) fun t5 s =>
  oh (aLoad false true 1 t2 s) fun t14 s =>
  oh (aCall Try.prog D 10 [t14.strip] s) fun t15 s =>
  oh (some (t1.strip, s)) fun t16 s =>
  oh (aCall Try.prog D 26 [t15.strip, t16.strip] s) fun t17 s =>
  oh (some (t17, s)) fun t6 s =>
  oh (some (t6.strip, s)) fun t18 s =>
  oh (mp (aBin Try.prog .neq 32 t18 (.int .i64 0)) s) fun t19 s =>
  br t19
    (oh (mp (aBuild Try.prog 27 []) s) fun t20 s =>
  oh (some (t6.strip, s)) fun t21 s =>
  oh (sto (aStore 1 s t4 t20)) fun _r s =>
  oh (some (t21, s)) fun t5_2 s =>
  fin1 ((resL [(aLoad false true 1 t4 s).map (·.1), some t5_2]).map .tup) s)
    (oh (some (.nilp, s)) fun t7 s =>
  oh (mp (aAddr 0 t2) s) fun t22 s =>
  oh (aLoad false false 1 t22 s) fun t23 s =>
  oh (some (t23, s)) fun t8 s =>
  oh (some ((.int .i64 0), s)) fun t9 s =>
  oh (some (t1.strip, s)) fun t24 s =>
  oh (mp (aLen Try.prog 44 t24) s) fun t25 s =>
  oh (some ((.int .i64 0), s)) fun t26 s =>
  aLoop (F19_L0 D n) n (upds (argEnv [t0, t1]) [(2, t2), (4, t4), (5, t5), (14, t14), (15, t15), (16, t16), (17, t17), (17, t17.strip), (6, t6), (18, t18), (19, t19), (7, t7), (22, t22), (23, t23), (23, t23.strip), (8, t8), (9, t9), (24, t24), (25, t25), (26, t26)]) s)

theorem F19_eq (n : Nat) (t0 t1 : AV) (s : Heap) : den C (n + 1) 19 [t0, t1] s = F19 (den C n) n t0 t1 s :=
  (den_body rfl Try.func19 _ _).trans (by kernel_rfl)
theorem d19_11 (x : Ans) : drawOK C 19 (regOps Try.f19 11) [.silent, .silent, .silent, .silent, .silent, .silent, .silent, .silent, .silent] x = x := drawOK_ok (by kernel_rfl)
theorem d19_12 (x : Ans) : drawOK C 19 (regOps Try.f19 12) [.silent, .silent, .silent, .silent, .silent] x = x := drawOK_ok (by kernel_rfl)
theorem en19 : enterable Try.prog 19 = true := by kernel_rfl

-- (*rope.node).write
noncomputable def F20 (D : Den) (n : Nat) (t0 t1 : AV) (s : Heap) : Ans :=
  oh (some (t0.strip, s)) fun t4 s =>
  oh (mp (aNilCheck t4) s) fun t5 s =>
  oh (mp (aAddr 4 t5) s) fun t6 s =>
  oh (aLoad false false 1 t6 s) fun t7 s =>
  oh (mp (aBin Try.prog .eql 3 t7 (.int .i64 0)) s) fun t8 s =>
  br t8
    (oh (some (t1.strip, s)) fun t9 s =>
  oh (some (t0.strip, s)) fun t10 s =>
  oh (mp (aNilCheck t10) s) fun t11 s =>
  oh (mp (aAddr 2 t11) s) fun t12 s =>
  oh (aLoad false false 1 t12 s) fun t13 s =>
  oh (aCall Try.prog D 27 [t9.strip, t13.strip] s) fun t14 s =>
  some (.tup [], s))
    (oh (some (t0.strip, s)) fun t15 s =>
  oh (mp (aNilCheck t15) s) fun t16 s =>
  oh (mp (aAddr 0 t16) s) fun t17 s =>
  oh (aLoad false false 1 t17 s) fun t18 s =>
  oh (some (t1.strip, s)) fun t19 s =>
  oh (aCall Try.prog D 20 [t18.strip, t19.strip] s) fun t20 s =>
  oh (some (t0.strip, s)) fun t21 s =>
  oh (mp (aNilCheck t21) s) fun t22 s =>
  oh (mp (aAddr 1 t22) s) fun t23 s =>
  oh (aLoad false false 1 t23 s) fun t24 s =>
  oh (some (t1.strip, s)) fun t25 s =>
  oh (aCall Try.prog D 20 [t24.strip, t25.strip] s) fun t26 s =>
  some (.tup [], s))

theorem F20_eq (n : Nat) (t0 t1 : AV) (s : Heap) : den C (n + 1) 20 [t0, t1] s = F20 (den C n) n t0 t1 s :=
  (den_body rfl Try.func20 _ _).trans (by kernel_rfl)
theorem en20 : enterable Try.prog 20 = true := by kernel_rfl

-- rope.split
noncomputable def F22 (D : Den) (n : Nat) (t0 t1 : AV) (s : Heap) : Ans :=
  oh (some (.nilp, s)) fun t4 s =>
  oh (some (.nilp, s)) fun t5 s =>
  oh (some (t0.strip, s)) fun t11 s =>
  oh (mp (aBin Try.prog .eql 25 t11 .nilp) s) fun t12 s =>
  oh (some (t12.strip, s)) fun t13 s =>
  oh (gd (wA t13 false) s (some (t1.strip, s))) fun t14 s =>
  oh (gd (wA t13 false) s (mp (aBin Try.prog .leq 3 t14 (.int .i64 0)) s)) fun t15 s =>
  oh (mp (aPick t13 (.bool true) t15) s) fun t16 s =>
  oh (some (t16, s)) fun t10 s =>
  br t10
    (oh (some (t0.strip, s)) fun t17 s =>
  oh (some (.nilp, s)) fun t4_2 s =>
  oh (some (t17, s)) fun t5_2 s =>
  some (.tup [t4_2, t5_2], s))
    (oh (some (t1.strip, s)) fun t19 s =>
  oh (some (t0.strip, s)) fun t20 s =>
  oh (mp (aNilCheck t20) s) fun t21 s =>
  oh (mp (aAddr 3 t21) s) fun t22 s =>
  oh (aLoad false false 1 t22 s) fun t23 s =>
  oh (mp (aBin Try.prog .geq 3 t19 t23) s) fun t24 s =>
  oh (some (t24, s)) fun t18 s =>
  br t18
    (oh (some (t0.strip, s)) fun t25 s =>
  oh (some (t25, s)) fun t4_3 s =>
  oh (some (.nilp, s)) fun t5_3 s =>
  some (.tup [t4_3, t5_3], s))
    (oh (some (t0.strip, s)) fun t27 s =>
  oh (mp (aNilCheck t27) s) fun t28 s =>
  oh (mp (aAddr 4 t28) s) fun t29 s =>
  oh (aLoad false false 1 t29 s) fun t30 s =>
  oh (mp (aBin Try.prog .eql 3 t30 (.int .i64 0)) s) fun t31 s =>
  oh (some (t31, s)) fun t26 s =>
  br t26
    (oh (some (t0.strip, s)) fun t32 s =>
  oh (mp (aNilCheck t32) s) fun t33 s =>
  oh (mp (aAddr 2 t33) s) fun t34 s =>
  oh (aLoad false false 1 t34 s) fun t35 s =>
  oh (some (t1.strip, s)) fun t36 s =>
  oh (mp (aSl Try.prog 9 t35 none (some t36) none) s) fun t37 s =>
  oh (aCall Try.prog D 24 [t37.strip] s) fun t38 s =>
  oh (some (t0.strip, s)) fun t39 s =>
  oh (mp (aNilCheck t39) s) fun t40 s =>
  oh (mp (aAddr 2 t40) s) fun t41 s =>
  oh (aLoad false false 1 t41 s) fun t42 s =>
  oh (some (t1.strip, s)) fun t43 s =>
  oh (mp (aSl Try.prog 9 t42 (some t43) none none) s) fun t44 s =>
  oh (aCall Try.prog D 24 [t44.strip] s) fun t45 s =>
  oh (some (t38, s)) fun t4_4 s =>
  oh (some (t45, s)) fun t5_4 s =>
  drawOK C 22 (regOps Try.f22 6) [.silent, .silent, .silent, (kLoad false t34), .silent, .silent, (kCall [t37.strip]), .silent, .silent, .silent, (kLoad false t41), .silent, .silent, (kCall [t44.strip]), .silent, .silent] <|
  some (.tup [t4_4, t5_4], s))
    (oh (some (t1.strip, s)) fun t47 s =>
  oh (some (t0.strip, s)) fun t48 s =>
  oh (mp (aNilCheck t48) s) fun t49 s =>
  oh (mp (aAddr 0 t49) s) fun t50 s =>
  oh (aLoad false false 1 t50 s) fun t51 s =>
  oh (mp (aNilCheck t51) s) fun t52 s =>
  oh (mp (aAddr 3 t52) s) fun t53 s =>
  oh (aLoad false false 1 t53 s) fun t54 s =>
  oh (mp (aBin Try.prog .lss 3 t47 t54) s) fun t55 s =>
  oh (some (t55, s)) fun t46 s =>
  br t46
    (oh (some (t0.strip, s)) fun t57 s =>
  oh (mp (aNilCheck t57) s) fun t58 s =>
  oh (mp (aAddr 0 t58) s) fun t59 s =>
  oh (aLoad false false 1 t59 s) fun t60 s =>
  oh (some (t1.strip, s)) fun t61 s =>
  oh (aCall Try.prog D 22 [t60.strip, t61.strip] s) fun t62 s =>
  oh (some (t62.strip, s)) fun t56 s =>
  oh (mp (aExtract 0 t56) s) fun t63 s =>
  oh (mp (aExtract 1 t56) s) fun t64 s =>
  oh (some (t63, s)) fun t6 s =>
  oh (some (t64, s)) fun t7 s =>
  oh (some (t6.strip, s)) fun t65 s =>
  oh (some (t7.strip, s)) fun t66 s =>
  oh (some (t0.strip, s)) fun t67 s =>
  oh (mp (aNilCheck t67) s) fun t68 s =>
  oh (mp (aAddr 1 t68) s) fun t69 s =>
  oh (aLoad false false 1 t69 s) fun t70 s =>
  oh (aCall Try.prog D 23 [t66.strip, t70.strip] s) fun t71 s =>
  oh (some (t65, s)) fun t4_5 s =>
  oh (some (t71, s)) fun t5_5 s =>
  some (.tup [t4_5, t5_5], s))
    (oh (some (t0.strip, s)) fun t73 s =>
  oh (mp (aNilCheck t73) s) fun t74 s =>
  oh (mp (aAddr 1 t74) s) fun t75 s =>
  oh (aLoad false false 1 t75 s) fun t76 s =>
  oh (some (t1.strip, s)) fun t77 s =>
  oh (some (t0.strip, s)) fun t78 s =>
  oh (mp (aNilCheck t78) s) fun t79 s =>
  oh (mp (aAddr 0 t79) s) fun t80 s =>
  oh (aLoad false false 1 t80 s) fun t81 s =>
  oh (mp (aNilCheck t81) s) fun t82 s =>
  oh (mp (aAddr 3 t82) s) fun t83 s =>
  oh (aLoad false false 1 t83 s) fun t84 s =>
  oh (mp (aBin Try.prog .sub 3 t77 t84) s) fun t85 s =>
  oh (aCall Try.prog D 22 [t76.strip, t85.strip] s) fun t86 s =>
  oh (some (t86.strip, s)) fun t72 s =>
  oh (mp (aExtract 0 t72) s) fun t87 s =>
  oh (mp (aExtract 1 t72) s) fun t88 s =>
  oh (some (t87, s)) fun t8 s =>
  oh (some (t88, s)) fun t9 s =>
  drawOK C 22 (regOps Try.f22 10) [.silent, .silent, .silent, (kLoad false t75), .silent, .silent, .silent, .silent, (kLoad false t80), .silent, .silent, (kLoad false t83), .silent, (kCall [t76.strip, t85.strip]), .silent, .silent, .silent, .silent, .silent] <|
  oh (some (t0.strip, s)) fun t89 s =>
  oh (mp (aNilCheck t89) s) fun t90 s =>
  oh (mp (aAddr 0 t90) s) fun t91 s =>
  oh (aLoad false false 1 t91 s) fun t92 s =>
  oh (some (t8.strip, s)) fun t93 s =>
  oh (aCall Try.prog D 23 [t92.strip, t93.strip] s) fun t94 s =>
  oh (some (t9.strip, s)) fun t95 s =>
  oh (some (t94, s)) fun t4_6 s =>
  oh (some (t95, s)) fun t5_6 s =>
  some (.tup [t4_6, t5_6], s)))))

theorem F22_eq (n : Nat) (t0 t1 : AV) (s : Heap) : den C (n + 1) 22 [t0, t1] s = F22 (den C n) n t0 t1 s :=
  (den_body rfl Try.func22 _ _).trans (by kernel_rfl)
theorem d22_6 (x : Ans) : drawOK C 22 (regOps Try.f22 6) [.silent, .silent, .silent, .silent, .silent, .silent, .silent, .silent, .silent, .silent, .silent, .silent, .silent, .silent, .silent, .silent] x = x := drawOK_ok (by kernel_rfl)
theorem d22_10 (x : Ans) : drawOK C 22 (regOps Try.f22 10) [.silent, .silent, .silent, .silent, .silent, .silent, .silent, .silent, .silent, .silent, .silent, .silent, .silent, .silent, .silent, .silent, .silent, .silent, .silent] x = x := drawOK_ok (by kernel_rfl)
theorem en22 : enterable Try.prog 22 = true := by kernel_rfl

-- rope.concat
noncomputable def F23 (D : Den) (n : Nat) (t0 t1 : AV) (s : Heap) : Ans :=
  oh (some (.nilp, s)) fun t4 s =>
  oh (some (t0.strip, s)) fun t6 s =>
  oh (mp (aBin Try.prog .eql 25 t6 .nilp) s) fun t7 s =>
  oh (some (t7, s)) fun t5 s =>
  br t5
    (oh (some (t1.strip, s)) fun t8 s =>
  oh (some (t8, s)) fun t4_2 s =>
  some (t4_2, s))
    (oh (some (t1.strip, s)) fun t10 s =>
  oh (mp (aBin Try.prog .eql 25 t10 .nilp) s) fun t11 s =>
  oh (some (t11, s)) fun t9 s =>
  br t9
    (oh (some (t0.strip, s)) fun t12 s =>
  oh (some (t12, s)) fun t4_3 s =>
  some (t4_3, s))
    (oh (some (t0.strip, s)) fun t14 s =>
  oh (mp (aNilCheck t14) s) fun t15 s =>
  oh (mp (aAddr 4 t15) s) fun t16 s =>
  oh (aLoad false false 1 t16 s) fun t17 s =>
  oh (mp (aBin Try.prog .eql 3 t17 (.int .i64 0)) s) fun t18 s =>
  oh (some (t18.strip, s)) fun t19 s =>
  oh (gd (wA t19 true) s (some (t1.strip, s))) fun t20 s =>
  oh (gd (wA t19 true) s (mp (aNilCheck t20) s)) fun t21 s =>
  oh (gd (wA t19 true) s (mp (aAddr 4 t21) s)) fun t22 s =>
  oh (gd (wA t19 true) s (aLoad false false 1 t22 s)) fun t23 s =>
  oh (gd (wA t19 true) s (mp (aBin Try.prog .eql 3 t23 (.int .i64 0)) s)) fun t24 s =>
  oh (mp (aPick t19 t24 (.bool false)) s) fun t25 s =>
  oh (some (t25.strip, s)) fun t26 s =>
  oh (gd (wA t26 true) s (some (t0.strip, s))) fun t27 s =>
  oh (gd (wA t26 true) s (mp (aNilCheck t27) s)) fun t28 s =>
  oh (gd (wA t26 true) s (mp (aAddr 3 t28) s)) fun t29 s =>
  oh (gd (wA t26 true) s (aLoad false false 1 t29 s)) fun t30 s =>
  oh (gd (wA t26 true) s (some (t1.strip, s))) fun t31 s =>
  oh (gd (wA t26 true) s (mp (aNilCheck t31) s)) fun t32 s =>
  oh (gd (wA t26 true) s (mp (aAddr 3 t32) s)) fun t33 s =>
  oh (gd (wA t26 true) s (aLoad false false 1 t33 s)) fun t34 s =>
  oh (gd (wA t26 true) s (mp (aBin Try.prog .add 3 t30 t34) s)) fun t35 s =>
  oh (gd (wA t26 true) s (mp (aBin Try.prog .leq 3 t35 (.int .i64 32)) s)) fun t36 s =>
  oh (mp (aPick t26 t36 (.bool false)) s) fun t37 s =>
  oh (some (t37, s)) fun t13 s =>
  drawOK C 23 (regOps Try.f23 5) [.silent, .silent, .silent, (kLoad false t16), .silent, .silent, (kGd (wA t19 true) .silent), (kGd (wA t19 true) .silent), (kGd (wA t19 true) .silent), (kGd (wA t19 true) (kLoad false t22)), (kGd (wA t19 true) .silent), .silent, .silent, (kGd (wA t26 true) .silent), (kGd (wA t26 true) .silent), (kGd (wA t26 true) .silent), (kGd (wA t26 true) (kLoad false t29)), (kGd (wA t26 true) .silent), (kGd (wA t26 true) .silent), (kGd (wA t26 true) .silent), (kGd (wA t26 true) (kLoad false t33)), (kGd (wA t26 true) .silent), (kGd (wA t26 true) .silent), .silent, .silent] <|
  br t13
    (oh (some (t0.strip, s)) fun t38 s =>
  oh (mp (aNilCheck t38) s) fun t39 s =>
  oh (mp (aAddr 2 t39) s) fun t40 s =>
  oh (aLoad false false 1 t40 s) fun t41 s =>
  oh (some (t1.strip, s)) fun t42 s =>
  oh (mp (aNilCheck t42) s) fun t43 s =>
  oh (mp (aAddr 2 t43) s) fun t44 s =>
  oh (aLoad false false 1 t44 s) fun t45 s =>
  oh (mp (aBin Try.prog .add 9 t41 t45) s) fun t46 s =>
  oh (aCall Try.prog D 24 [t46.strip] s) fun t47 s =>
  oh (some (t47, s)) fun t4_4 s =>
  drawOK C 23 (regOps Try.f23 6) [.silent, .silent, .silent, (kLoad false t40), .silent, .silent, .silent, (kLoad false t44), .silent, (kCall [t46.strip]), .silent] <|
  some (t4_4, s))
    (oh (some (t0.strip, s)) fun t49 s =>
  oh (mp (aNilCheck t49) s) fun t50 s =>
  oh (mp (aAddr 4 t50) s) fun t51 s =>
  oh (aLoad false false 1 t51 s) fun t52 s =>
  oh (some (t1.strip, s)) fun t53 s =>
  oh (mp (aNilCheck t53) s) fun t54 s =>
  oh (mp (aAddr 4 t54) s) fun t55 s =>
  oh (aLoad false false 1 t55 s) fun t56 s =>
  oh (mp (aBin Try.prog .add 3 t56 (.int .i64 1)) s) fun t57 s =>
  oh (mp (aBin Try.prog .gtr 3 t52 t57) s) fun t58 s =>
  oh (some (t58, s)) fun t48 s =>
  drawOK C 23 (regOps Try.f23 7) [.silent, .silent, .silent, (kLoad false t51), .silent, .silent, .silent, (kLoad false t55), .silent, .silent, .silent] <|
  br t48
    (oh (some (t0.strip, s)) fun t59 s =>
  oh (mp (aNilCheck t59) s) fun t60 s =>
  oh (mp (aAddr 0 t60) s) fun t61 s =>
  oh (aLoad false false 1 t61 s) fun t62 s =>
  oh (some (t0.strip, s)) fun t63 s =>
  oh (mp (aNilCheck t63) s) fun t64 s =>
  oh (mp (aAddr 1 t64) s) fun t65 s =>
  oh (aLoad false false 1 t65 s) fun t66 s =>
  oh (some (t1.strip, s)) fun t67 s =>
  oh (aCall Try.prog D 23 [t66.strip, t67.strip] s) fun t68 s =>
  oh (aCall Try.prog D 28 [t62.strip, t68.strip] s) fun t69 s =>
  oh (some (t69, s)) fun t4_5 s =>
  drawOK C 23 (regOps Try.f23 8) [.silent, .silent, .silent, (kLoad false t61), .silent, .silent, .silent, (kLoad false t65), .silent, (kCall [t66.strip, t67.strip]), (kCall [t62.strip, t68.strip]), .silent] <|
  some (t4_5, s))
    (oh (some (t1.strip, s)) fun t71 s =>
  oh (mp (aNilCheck t71) s) fun t72 s =>
  oh (mp (aAddr 4 t72) s) fun t73 s =>
  oh (aLoad false false 1 t73 s) fun t74 s =>
  oh (some (t0.strip, s)) fun t75 s =>
  oh (mp (aNilCheck t75) s) fun t76 s =>
  oh (mp (aAddr 4 t76) s) fun t77 s =>
  oh (aLoad false false 1 t77 s) fun t78 s =>
  oh (mp (aBin Try.prog .add 3 t78 (.int .i64 1)) s) fun t79 s =>
  oh (mp (aBin Try.prog .gtr 3 t74 t79) s) fun t80 s =>
  oh (some (t80, s)) fun t70 s =>
  drawOK C 23 (regOps Try.f23 9) [.silent, .silent, .silent, (kLoad false t73), .silent, .silent, .silent, (kLoad false t77), .silent, .silent, .silent] <|
  br t70
    (oh (some (t0.strip, s)) fun t81 s =>
  oh (some (t1.strip, s)) fun t82 s =>
  oh (mp (aNilCheck t82) s) fun t83 s =>
  oh (mp (aAddr 0 t83) s) fun t84 s =>
  oh (aLoad false false 1 t84 s) fun t85 s =>
  oh (aCall Try.prog D 23 [t81.strip, t85.strip] s) fun t86 s =>
  oh (some (t1.strip, s)) fun t87 s =>
  oh (mp (aNilCheck t87) s) fun t88 s =>
  oh (mp (aAddr 1 t88) s) fun t89 s =>
  oh (aLoad false false 1 t89 s) fun t90 s =>
  oh (aCall Try.prog D 28 [t86.strip, t90.strip] s) fun t91 s =>
  oh (some (t91, s)) fun t4_6 s =>
  drawOK C 23 (regOps Try.f23 10) [.silent, .silent, .silent, .silent, (kLoad false t84), (kCall [t81.strip, t85.strip]), .silent, .silent, .silent, (kLoad false t89), (kCall [t86.strip, t90.strip]), .silent] <|
  some (t4_6, s))
    (oh (some (t0.strip, s)) fun t92 s =>
  oh (some (t1.strip, s)) fun t93 s =>
  oh (aCall Try.prog D 29 [t92.strip, t93.strip] s) fun t94 s =>
  oh (some (t94, s)) fun t4_7 s =>
  some (t4_7, s))))))

theorem F23_eq (n : Nat) (t0 t1 : AV) (s : Heap) : den C (n + 1) 23 [t0, t1] s = F23 (den C n) n t0 t1 s :=
  (den_body rfl Try.func23 _ _).trans (by kernel_rfl)
theorem d23_5 (x : Ans) : drawOK C 23 (regOps Try.f23 5) [.silent, .silent, .silent, .silent, .silent, .silent, .silent, .silent, .silent, .silent, .silent, .silent, .silent, .silent, .silent, .silent, .silent, .silent, .silent, .silent, .silent, .silent, .silent, .silent, .silent] x = x := drawOK_ok (by kernel_rfl)
theorem d23_6 (x : Ans) : drawOK C 23 (regOps Try.f23 6) [.silent, .silent, .silent, .silent, .silent, .silent, .silent, .silent, .silent, .silent, .silent] x = x := drawOK_ok (by kernel_rfl)
theorem d23_7 (x : Ans) : drawOK C 23 (regOps Try.f23 7) [.silent, .silent, .silent, .silent, .silent, .silent, .silent, .silent, .silent, .silent, .silent] x = x := drawOK_ok (by kernel_rfl)
theorem d23_8 (x : Ans) : drawOK C 23 (regOps Try.f23 8) [.silent, .silent, .silent, .silent, .silent, .silent, .silent, .silent, .silent, .silent, .silent, .silent] x = x := drawOK_ok (by kernel_rfl)
theorem d23_9 (x : Ans) : drawOK C 23 (regOps Try.f23 9) [.silent, .silent, .silent, .silent, .silent, .silent, .silent, .silent, .silent, .silent, .silent] x = x := drawOK_ok (by kernel_rfl)
theorem d23_10 (x : Ans) : drawOK C 23 (regOps Try.f23 10) [.silent, .silent, .silent, .silent, .silent, .silent, .silent, .silent, .silent, .silent, .silent, .silent] x = x := drawOK_ok (by kernel_rfl)
theorem en23 : enterable Try.prog 23 = true := by kernel_rfl

-- rope.newLeaf
noncomputable def F24 (D : Den) (n : Nat) (t0 : AV) (s : Heap) : Ans :=
  oh (some (.nilp, s)) fun t2 s =>
  oh (some (t0.strip, s)) fun t3 s =>
  oh (some (t0.strip, s)) fun t4 s =>
  oh (mp (aLen Try.prog 9 t4) s) fun t5 s =>
  oh (mp (aBuild Try.prog 56 [(2, t3), (3, t5), (5, (.int .i64 1))]) s) fun t6 s =>
  oh (aBox false 56 t6 s) fun t7 s =>
  oh (some (t7, s)) fun t2_2 s =>
  some (t2_2, s)

theorem F24_eq (n : Nat) (t0 : AV) (s : Heap) : den C (n + 1) 24 [t0] s = F24 (den C n) n t0 s :=
  (den_body rfl Try.func24 _ _).trans (by kernel_rfl)
theorem en24 : enterable Try.prog 24 = true := by kernel_rfl

-- (rope.Rope).Shape
noncomputable def F25 (D : Den) (n : Nat) (t0 : AV) (s : Heap) : Ans :=
  oh (aBox false 27 t0 s) fun t1 s =>
  oh (some ((.int .i64 0), s)) fun t2 s =>
  oh (some ((.int .i64 0), s)) fun t3 s =>
  oh (mp (aAddr 0 t1) s) fun t4 s =>
  oh (aLoad false false 1 t4 s) fun t5 s =>
  oh (mp (aBin Try.prog .eql 25 t5 .nilp) s) fun t6 s =>
  br t6
    (oh (some ((.int .i64 0), s)) fun t2_2 s =>
  oh (some ((.int .i64 0), s)) fun t3_2 s =>
  some (.tup [t2_2, t3_2], s))
    (oh (mp (aAddr 0 t1) s) fun t7 s =>
  oh (aLoad false false 1 t7 s) fun t8 s =>
  oh (mp (aNilCheck t8) s) fun t9 s =>
  oh (mp (aAddr 4 t9) s) fun t10 s =>
  oh (aLoad false false 1 t10 s) fun t11 s =>
  oh (mp (aAddr 0 t1) s) fun t12 s =>
  oh (aLoad false false 1 t12 s) fun t13 s =>
  oh (mp (aNilCheck t13) s) fun t14 s =>
  oh (mp (aAddr 5 t14) s) fun t15 s =>
  oh (aLoad false false 1 t15 s) fun t16 s =>
  oh (some (t11, s)) fun t2_3 s =>
  oh (some (t16, s)) fun t3_3 s =>
  drawOK C 25 (regOps Try.f25 3) [.silent, (kLoad false t7), .silent, .silent, (kLoad false t10), .silent, (kLoad false t12), .silent, .silent, (kLoad false t15), .silent, .silent] <|
  some (.tup [t2_3, t3_3], s))

theorem F25_eq (n : Nat) (t0 : AV) (s : Heap) : den C (n + 1) 25 [t0] s = F25 (den C n) n t0 s :=
  (den_body rfl Try.func25 _ _).trans (by kernel_rfl)
theorem d25_3 (x : Ans) : drawOK C 25 (regOps Try.f25 3) [.silent, .silent, .silent, .silent, .silent, .silent, .silent, .silent, .silent, .silent, .silent, .silent] x = x := drawOK_ok (by kernel_rfl)
theorem en25 : enterable Try.prog 25 = true := by kernel_rfl

-- textedit.Validate
noncomputable def F26_L0 (D : Den) (n : Nat) (k0 : Env → Heap → Ans) (e : Env) (s : Heap) : Ans :=
  oh (mp (aBin Try.prog .lss 3 (e 21) (e 20)) s) fun t22 s =>
  br t22
    (oh (mp (aIndexAddr Try.prog 44 (e 19) (e 21)) s) fun t23 s =>
  oh (aLoad false true 3 t23 s) fun t24 s =>
  oh (aAlloc Try.prog 65 s) fun t8 s =>
  oh (sto (aStore 3 s t8 t24)) fun _r s =>
  oh (mp (aAddr 0 t8) s) fun t25 s =>
  oh (aLoad false false 1 t25 s) fun t26 s =>
  oh (some ((e 5).strip, s)) fun t27 s =>
  oh (mp (aBin Try.prog .leq 3 t26 t27) s) fun t28 s =>
  oh (some (t28.strip, s)) fun t29 s =>
  oh (gd (wA t29 false) s (mp (aAddr 1 t8) s)) fun t30 s =>
  oh (gd (wA t29 false) s (aLoad false false 1 t30 s)) fun t31 s =>
  oh (gd (wA t29 false) s (mp (aAddr 0 t8) s)) fun t32 s =>
  oh (gd (wA t29 false) s (aLoad false false 1 t32 s)) fun t33 s =>
  oh (gd (wA t29 false) s (mp (aBin Try.prog .lss 3 t31 t33) s)) fun t34 s =>
  oh (mp (aPick t29 (.bool true) t34) s) fun t35 s =>
  oh (some (t35.strip, s)) fun t36 s =>
  oh (gd (wA t36 false) s (mp (aAddr 1 t8) s)) fun t37 s =>
  oh (gd (wA t36 false) s (aLoad false false 1 t37 s)) fun t38 s =>
  oh (gd (wA t36 false) s (some ((e 0).strip, s))) fun t39 s =>
  oh (gd (wA t36 false) s (mp (aLen Try.prog 9 t39) s)) fun t40 s =>
  oh (gd (wA t36 false) s (mp (aBin Try.prog .gtr 3 t38 t40) s)) fun t41 s =>
  oh (mp (aPick t36 (.bool true) t41) s) fun t42 s =>
  br t42
    (oh (some ((.int .i64 3), s)) fun t4_3 s =>
  some (t4_3, s))
    (oh (mp (aAddr 1 t8) s) fun t43 s =>
  oh (aLoad false false 1 t43 s) fun t44 s =>
  oh (some (t44, s)) fun t5_2 s =>
  oh (some ((e 6).strip, s)) fun t45 s =>
  oh (mp (aAddr 2 t8) s) fun t46 s =>
  oh (aLoad false false 1 t46 s) fun t47 s =>
  oh (mp (aLen Try.prog 9 t47) s) fun t48 s =>
  oh (mp (aAddr 1 t8) s) fun t49 s =>
  oh (aLoad false false 1 t49 s) fun t50 s =>
  oh (mp (aAddr 0 t8) s) fun t51 s =>
  oh (aLoad false false 1 t51 s) fun t52 s =>
  oh (mp (aBin Try.prog .sub 3 t50 t52) s) fun t53 s =>
  oh (mp (aBin Try.prog .sub 3 t48 t53) s) fun t54 s =>
  oh (mp (aBin Try.prog .add 3 t45 t54) s) fun t55 s =>
  oh (some (t55, s)) fun t6_2 s =>
  oh (mp (aBin Try.prog .add 3 (e 21) (.int .i64 1)) s) fun t56 s =>
  oh (some (t56.strip, s)) fun t21_2 s =>
  k0 (upds e [(22, t22), (23, t23), (24, t24), (8, t8), (24, t24.strip), (25, t25), (26, t26), (27, t27), (28, t28), (29, t29), (30, t30), (31, t31), (32, t32), (33, t33), (34, t34), (35, t35), (36, t36), (37, t37), (38, t38), (39, t39), (40, t40), (41, t41), (42, t42), (43, t43), (44, t44), (44, t44.strip), (5, t5_2), (45, t45), (46, t46), (47, t47), (48, t48), (49, t49), (50, t50), (51, t51), (52, t52), (53, t53), (54, t54), (55, t55), (55, t55.strip), (6, t6_2), (56, t56), (21, t21_2)]) s))
    (oh (some ((e 6).strip, s)) fun t57 s =>
  oh (mp (aBin Try.prog .gtr 3 t57 (.int .i64 2000)) s) fun t58 s =>
  br t58
    (oh (some ((.int .i64 2), s)) fun t4_4 s =>
  some (t4_4, s))
    (oh (some ((.int .i64 0), s)) fun t4_5 s =>
  some (t4_5, s)))

noncomputable def F26 (D : Den) (n : Nat) (t0 t1 : AV) (s : Heap) : Ans :=
  oh (some ((.int .i64 0), s)) fun t4 s =>
  oh (some (t0.strip, s)) fun t9 s =>
  oh (mp (aLen Try.prog 9 t9) s) fun t10 s =>
  oh (mp (aBin Try.prog .gtr 3 t10 (.int .i64 2000)) s) fun t11 s =>
  oh (some (t11.strip, s)) fun t12 s =>
  oh (gd (wA t12 false) s (some (t1.strip, s))) fun t13 s =>
  oh (gd (wA t12 false) s (mp (aLen Try.prog 44 t13) s)) fun t14 s =>
  oh (gd (wA t12 false) s (mp (aBin Try.prog .gtr 3 t14 (.int .i64 50)) s)) fun t15 s =>
  oh (mp (aPick t12 (.bool true) t15) s) fun t16 s =>
  br t16
    (oh (some ((.int .i64 2), s)) fun t4_2 s =>
  some (t4_2, s))
    (oh (some (t0.strip, s)) fun t17 s =>
  oh (mp (aLen Try.prog 9 t17) s) fun t18 s =>
  oh (some ((.int .i64 (-1)), s)) fun t5 s =>
  oh (some (t18, s)) fun t6 s =>
  oh (some (t1.strip, s)) fun t19 s =>
  oh (mp (aLen Try.prog 44 t19) s) fun t20 s =>
  oh (some ((.int .i64 0), s)) fun t21 s =>
  aLoop (F26_L0 D n) n (upds (argEnv [t0, t1]) [(4, t4), (9, t9), (10, t10), (11, t11), (12, t12), (13, t13), (14, t14), (15, t15), (16, t16), (17, t17), (18, t18), (5, t5), (18, t18.strip), (6, t6), (19, t19), (20, t20), (21, t21)]) s)

theorem F26_eq (n : Nat) (t0 t1 : AV) (s : Heap) : den C (n + 1) 26 [t0, t1] s = F26 (den C n) n t0 t1 s :=
  (den_body rfl Try.func26 _ _).trans (by kernel_rfl)
theorem en26 : enterable Try.prog 26 = true := by kernel_rfl

-- (*strings.Builder).WriteString
noncomputable def F27 (D : Den) (n : Nat) (t0 t1 : AV) (s : Heap) : Ans :=
  oh (some ((.int .i64 0), s)) fun t4 s =>
  oh (some (.nili, s)) fun t5 s =>
  oh (some (t0.strip, s)) fun t6 s =>
  oh (aCall Try.prog D 30 [t6.strip] s) fun t7 s =>
  oh (some (t0.strip, s)) fun t8 s =>
  oh (some (t0.strip, s)) fun t9 s =>
  oh (mp (aNilCheck t9) s) fun t10 s =>
  oh (mp (aAddr 1 t10) s) fun t11 s =>
  oh (aLoad true false 1 t11 s) fun t12 s =>
  oh (some (t1.strip, s)) fun t13 s =>
  oh (mp (aAppend Try.prog 51 9 t12 t13) s) fun t14 s =>
  oh (mp (aNilCheck t8) s) fun t15 s =>
  oh (mp (aAddr 1 t15) s) fun t16 s =>
  oh (sto (aStore 1 s t16 t14)) fun _r s =>
  oh (some (t1.strip, s)) fun t17 s =>
  oh (mp (aLen Try.prog 9 t17) s) fun t18 s =>
  oh (some (t18, s)) fun t4_2 s =>
  oh (some (.nili, s)) fun t5_2 s =>
  some (.tup [t4_2, t5_2], s)

theorem F27_eq (n : Nat) (t0 t1 : AV) (s : Heap) : den C (n + 1) 27 [t0, t1] s = F27 (den C n) n t0 t1 s :=
  (den_body rfl Try.func27 _ _).trans (by kernel_rfl)
theorem en27 : enterable Try.prog 27 = true := by kernel_rfl

-- rope.rebalance
noncomputable def F28 (D : Den) (n : Nat) (t0 t1 : AV) (s : Heap) : Ans :=
  oh (some (.nilp, s)) fun t4 s =>
  oh (some (t0.strip, s)) fun t6 s =>
  oh (mp (aNilCheck t6) s) fun t7 s =>
  oh (mp (aAddr 4 t7) s) fun t8 s =>
  oh (aLoad false false 1 t8 s) fun t9 s =>
  oh (some (t1.strip, s)) fun t10 s =>
  oh (mp (aNilCheck t10) s) fun t11 s =>
  oh (mp (aAddr 4 t11) s) fun t12 s =>
  oh (aLoad false false 1 t12 s) fun t13 s =>
  oh (mp (aBin Try.prog .add 3 t13 (.int .i64 1)) s) fun t14 s =>
  oh (mp (aBin Try.prog .gtr 3 t9 t14) s) fun t15 s =>
  oh (some (t15.strip, s)) fun t16 s =>
  oh (gd (wA t16 true) s (some (t0.strip, s))) fun t17 s =>
  oh (gd (wA t16 true) s (mp (aNilCheck t17) s)) fun t18 s =>
  oh (gd (wA t16 true) s (mp (aAddr 0 t18) s)) fun t19 s =>
  oh (gd (wA t16 true) s (aLoad false false 1 t19 s)) fun t20 s =>
  oh (gd (wA t16 true) s (mp (aNilCheck t20) s)) fun t21 s =>
  oh (gd (wA t16 true) s (mp (aAddr 4 t21) s)) fun t22 s =>
  oh (gd (wA t16 true) s (aLoad false false 1 t22 s)) fun t23 s =>
  oh (gd (wA t16 true) s (some (t0.strip, s))) fun t24 s =>
  oh (gd (wA t16 true) s (mp (aNilCheck t24) s)) fun t25 s =>
  oh (gd (wA t16 true) s (mp (aAddr 1 t25) s)) fun t26 s =>
  oh (gd (wA t16 true) s (aLoad false false 1 t26 s)) fun t27 s =>
  oh (gd (wA t16 true) s (mp (aNilCheck t27) s)) fun t28 s =>
  oh (gd (wA t16 true) s (mp (aAddr 4 t28) s)) fun t29 s =>
  oh (gd (wA t16 true) s (aLoad false false 1 t29 s)) fun t30 s =>
  oh (gd (wA t16 true) s (mp (aBin Try.prog .geq 3 t23 t30) s)) fun t31 s =>
  oh (mp (aPick t16 t31 (.bool false)) s) fun t32 s =>
  oh (some (t32, s)) fun t5 s =>
  drawOK C 28 (regOps Try.f28 1) [.silent, .silent, .silent, (kLoad false t8), .silent, .silent, .silent, (kLoad false t12), .silent, .silent, .silent, (kGd (wA t16 true) .silent), (kGd (wA t16 true) .silent), (kGd (wA t16 true) .silent), (kGd (wA t16 true) (kLoad false t19)), (kGd (wA t16 true) .silent), (kGd (wA t16 true) .silent), (kGd (wA t16 true) (kLoad false t22)), (kGd (wA t16 true) .silent), (kGd (wA t16 true) .silent), (kGd (wA t16 true) .silent), (kGd (wA t16 true) (kLoad false t26)), (kGd (wA t16 true) .silent), (kGd (wA t16 true) .silent), (kGd (wA t16 true) (kLoad false t29)), (kGd (wA t16 true) .silent), .silent, .silent] <|
  br t5
    (oh (some (t0.strip, s)) fun t33 s =>
  oh (mp (aNilCheck t33) s) fun t34 s =>
  oh (mp (aAddr 0 t34) s) fun t35 s =>
  oh (aLoad false false 1 t35 s) fun t36 s =>
  oh (some (t0.strip, s)) fun t37 s =>
  oh (mp (aNilCheck t37) s) fun t38 s =>
  oh (mp (aAddr 1 t38) s) fun t39 s =>
  oh (aLoad false false 1 t39 s) fun t40 s =>
  oh (some (t1.strip, s)) fun t41 s =>
  oh (aCall Try.prog D 29 [t40.strip, t41.strip] s) fun t42 s =>
  oh (aCall Try.prog D 29 [t36.strip, t42.strip] s) fun t43 s =>
  oh (some (t43, s)) fun t4_2 s =>
  drawOK C 28 (regOps Try.f28 2) [.silent, .silent, .silent, (kLoad false t35), .silent, .silent, .silent, (kLoad false t39), .silent, (kCall [t40.strip, t41.strip]), (kCall [t36.strip, t42.strip]), .silent] <|
  some (t4_2, s))
    (oh (some (t0.strip, s)) fun t45 s =>
  oh (mp (aNilCheck t45) s) fun t46 s =>
  oh (mp (aAddr 4 t46) s) fun t47 s =>
  oh (aLoad false false 1 t47 s) fun t48 s =>
  oh (some (t1.strip, s)) fun t49 s =>
  oh (mp (aNilCheck t49) s) fun t50 s =>
  oh (mp (aAddr 4 t50) s) fun t51 s =>
  oh (aLoad false false 1 t51 s) fun t52 s =>
  oh (mp (aBin Try.prog .add 3 t52 (.int .i64 1)) s) fun t53 s =>
  oh (mp (aBin Try.prog .gtr 3 t48 t53) s) fun t54 s =>
  oh (some (t54, s)) fun t44 s =>
  drawOK C 28 (regOps Try.f28 3) [.silent, .silent, .silent, (kLoad false t47), .silent, .silent, .silent, (kLoad false t51), .silent, .silent, .silent] <|
  br t44
    (oh (some (t0.strip, s)) fun t55 s =>
  oh (mp (aNilCheck t55) s) fun t56 s =>
  oh (mp (aAddr 0 t56) s) fun t57 s =>
  oh (aLoad false false 1 t57 s) fun t58 s =>
  oh (some (t0.strip, s)) fun t59 s =>
  oh (mp (aNilCheck t59) s) fun t60 s =>
  oh (mp (aAddr 1 t60) s) fun t61 s =>
  oh (aLoad false false 1 t61 s) fun t62 s =>
  oh (mp (aNilCheck t62) s) fun t63 s =>
  oh (mp (aAddr 0 t63) s) fun t64 s =>
  oh (aLoad false false 1 t64 s) fun t65 s =>
  oh (aCall Try.prog D 29 [t58.strip, t65.strip] s) fun t66 s =>
  oh (some (t0.strip, s)) fun t67 s =>
  oh (mp (aNilCheck t67) s) fun t68 s =>
  oh (mp (aAddr 1 t68) s) fun t69 s =>
  oh (aLoad false false 1 t69 s) fun t70 s =>
  oh (mp (aNilCheck t70) s) fun t71 s =>
  oh (mp (aAddr 1 t71) s) fun t72 s =>
  oh (aLoad false false 1 t72 s) fun t73 s =>
  oh (some (t1.strip, s)) fun t74 s =>
  oh (aCall Try.prog D 29 [t73.strip, t74.strip] s) fun t75 s =>
  oh (aCall Try.prog D 29 [t66.strip, t75.strip] s) fun t76 s =>
  oh (some (t76, s)) fun t4_3 s =>
  drawOK C 28 (regOps Try.f28 4) [.silent, .silent, .silent, (kLoad false t57), .silent, .silent, .silent, (kLoad false t61), .silent, .silent, (kLoad false t64), (kCall [t58.strip, t65.strip]), .silent, .silent, .silent, (kLoad false t69), .silent, .silent, (kLoad false t72), .silent, (kCall [t73.strip, t74.strip]), (kCall [t66.strip, t75.strip]), .silent] <|
  some (t4_3, s))
    (oh (some (t1.strip, s)) fun t78 s =>
  oh (mp (aNilCheck t78) s) fun t79 s =>
  oh (mp (aAddr 4 t79) s) fun t80 s =>
  oh (aLoad false false 1 t80 s) fun t81 s =>
  oh (some (t0.strip, s)) fun t82 s =>
  oh (mp (aNilCheck t82) s) fun t83 s =>
  oh (mp (aAddr 4 t83) s) fun t84 s =>
  oh (aLoad false false 1 t84 s) fun t85 s =>
  oh (mp (aBin Try.prog .add 3 t85 (.int .i64 1)) s) fun t86 s =>
  oh (mp (aBin Try.prog .gtr 3 t81 t86) s) fun t87 s =>
  oh (some (t87.strip, s)) fun t88 s =>
  oh (gd (wA t88 true) s (some (t1.strip, s))) fun t89 s =>
  oh (gd (wA t88 true) s (mp (aNilCheck t89) s)) fun t90 s =>
  oh (gd (wA t88 true) s (mp (aAddr 1 t90) s)) fun t91 s =>
  oh (gd (wA t88 true) s (aLoad false false 1 t91 s)) fun t92 s =>
  oh (gd (wA t88 true) s (mp (aNilCheck t92) s)) fun t93 s =>
  oh (gd (wA t88 true) s (mp (aAddr 4 t93) s)) fun t94 s =>
  oh (gd (wA t88 true) s (aLoad false false 1 t94 s)) fun t95 s =>
  oh (gd (wA t88 true) s (some (t1.strip, s))) fun t96 s =>
  oh (gd (wA t88 true) s (mp (aNilCheck t96) s)) fun t97 s =>
  oh (gd (wA t88 true) s (mp (aAddr 0 t97) s)) fun t98 s =>
  oh (gd (wA t88 true) s (aLoad false false 1 t98 s)) fun t99 s =>
  oh (gd (wA t88 true) s (mp (aNilCheck t99) s)) fun t100 s =>
  oh (gd (wA t88 true) s (mp (aAddr 4 t100) s)) fun t101 s =>
  oh (gd (wA t88 true) s (aLoad false false 1 t101 s)) fun t102 s =>
  oh (gd (wA t88 true) s (mp (aBin Try.prog .geq 3 t95 t102) s)) fun t103 s =>
  oh (mp (aPick t88 t103 (.bool false)) s) fun t104 s =>
  oh (some (t104, s)) fun t77 s =>
  drawOK C 28 (regOps Try.f28 5) [.silent, .silent, .silent, (kLoad false t80), .silent, .silent, .silent, (kLoad false t84), .silent, .silent, .silent, (kGd (wA t88 true) .silent), (kGd (wA t88 true) .silent), (kGd (wA t88 true) .silent), (kGd (wA t88 true) (kLoad false t91)), (kGd (wA t88 true) .silent), (kGd (wA t88 true) .silent), (kGd (wA t88 true) (kLoad false t94)), (kGd (wA t88 true) .silent), (kGd (wA t88 true) .silent), (kGd (wA t88 true) .silent), (kGd (wA t88 true) (kLoad false t98)), (kGd (wA t88 true) .silent), (kGd (wA t88 true) .silent), (kGd (wA t88 true) (kLoad false t101)), (kGd (wA t88 true) .silent), .silent, .silent] <|
  br t77
    (oh (some (t0.strip, s)) fun t105 s =>
  oh (some (t1.strip, s)) fun t106 s =>
  oh (mp (aNilCheck t106) s) fun t107 s =>
  oh (mp (aAddr 0 t107) s) fun t108 s =>
  oh (aLoad false false 1 t108 s) fun t109 s =>
  oh (aCall Try.prog D 29 [t105.strip, t109.strip] s) fun t110 s =>
  oh (some (t1.strip, s)) fun t111 s =>
  oh (mp (aNilCheck t111) s) fun t112 s =>
  oh (mp (aAddr 1 t112) s) fun t113 s =>
  oh (aLoad false false 1 t113 s) fun t114 s =>
  oh (aCall Try.prog D 29 [t110.strip, t114.strip] s) fun t115 s =>
  oh (some (t115, s)) fun t4_4 s =>
  drawOK C 28 (regOps Try.f28 6) [.silent, .silent, .silent, .silent, (kLoad false t108), (kCall [t105.strip, t109.strip]), .silent, .silent, .silent, (kLoad false t113), (kCall [t110.strip, t114.strip]), .silent] <|
  some (t4_4, s))
    (oh (some (t1.strip, s)) fun t117 s =>
  oh (mp (aNilCheck t117) s) fun t118 s =>
  oh (mp (aAddr 4 t118) s) fun t119 s =>
  oh (aLoad false false 1 t119 s) fun t120 s =>
  oh (some (t0.strip, s)) fun t121 s =>
  oh (mp (aNilCheck t121) s) fun t122 s =>
  oh (mp (aAddr 4 t122) s) fun t123 s =>
  oh (aLoad false false 1 t123 s) fun t124 s =>
  oh (mp (aBin Try.prog .add 3 t124 (.int .i64 1)) s) fun t125 s =>
  oh (mp (aBin Try.prog .gtr 3 t120 t125) s) fun t126 s =>
  oh (some (t126, s)) fun t116 s =>
  drawOK C 28 (regOps Try.f28 7) [.silent, .silent, .silent, (kLoad false t119), .silent, .silent, .silent, (kLoad false t123), .silent, .silent, .silent] <|
  br t116
    (oh (some (t0.strip, s)) fun t127 s =>
  oh (some (t1.strip, s)) fun t128 s =>
  oh (mp (aNilCheck t128) s) fun t129 s =>
  oh (mp (aAddr 0 t129) s) fun t130 s =>
  oh (aLoad false false 1 t130 s) fun t131 s =>
  oh (mp (aNilCheck t131) s) fun t132 s =>
  oh (mp (aAddr 0 t132) s) fun t133 s =>
  oh (aLoad false false 1 t133 s) fun t134 s =>
  oh (aCall Try.prog D 29 [t127.strip, t134.strip] s) fun t135 s =>
  oh (some (t1.strip, s)) fun t136 s =>
  oh (mp (aNilCheck t136) s) fun t137 s =>
  oh (mp (aAddr 0 t137) s) fun t138 s =>
  oh (aLoad false false 1 t138 s) fun t139 s =>
  oh (mp (aNilCheck t139) s) fun t140 s =>
  oh (mp (aAddr 1 t140) s) fun t141 s =>
  oh (aLoad false false 1 t141 s) fun t142 s =>
  oh (some (t1.strip, s)) fun t143 s =>
  oh (mp (aNilCheck t143) s) fun t144 s =>
  oh (mp (aAddr 1 t144) s) fun t145 s =>
  oh (aLoad false false 1 t145 s) fun t146 s =>
  oh (aCall Try.prog D 29 [t142.strip, t146.strip] s) fun t147 s =>
  oh (aCall Try.prog D 29 [t135.strip, t147.strip] s) fun t148 s =>
  oh (some (t148, s)) fun t4_5 s =>
  drawOK C 28 (regOps Try.f28 8) [.silent, .silent, .silent, .silent, (kLoad false t130), .silent, .silent, (kLoad false t133), (kCall [t127.strip, t134.strip]), .silent, .silent, .silent, (kLoad false t138), .silent, .silent, (kLoad false t141), .silent, .silent, .silent, (kLoad false t145), (kCall [t142.strip, t146.strip]), (kCall [t135.strip, t147.strip]), .silent] <|
  some (t4_5, s))
    (oh (some (t0.strip, s)) fun t149 s =>
  oh (some (t1.strip, s)) fun t150 s =>
  oh (aCall Try.prog D 29 [t149.strip, t150.strip] s) fun t151 s =>
  oh (some (t151, s)) fun t4_6 s =>
  some (t4_6, s)))))

theorem F28_eq (n : Nat) (t0 t1 : AV) (s : Heap) : den C (n + 1) 28 [t0, t1] s = F28 (den C n) n t0 t1 s :=
  (den_body rfl Try.func28 _ _).trans (by kernel_rfl)
theorem d28_1 (x : Ans) : drawOK C 28 (regOps Try.f28 1) [.silent, .silent, .silent, .silent, .silent, .silent, .silent, .silent, .silent, .silent, .silent, .silent, .silent, .silent, .silent, .silent, .silent, .silent, .silent, .silent, .silent, .silent, .silent, .silent, .silent, .silent, .silent, .silent] x = x := drawOK_ok (by kernel_rfl)
theorem d28_2 (x : Ans) : drawOK C 28 (regOps Try.f28 2) [.silent, .silent, .silent, .silent, .silent, .silent, .silent, .silent, .silent, .silent, .silent, .silent] x = x := drawOK_ok (by kernel_rfl)
theorem d28_3 (x : Ans) : drawOK C 28 (regOps Try.f28 3) [.silent, .silent, .silent, .silent, .silent, .silent, .silent, .silent, .silent, .silent, .silent] x = x := drawOK_ok (by kernel_rfl)
theorem d28_4 (x : Ans) : drawOK C 28 (regOps Try.f28 4) [.silent, .silent, .silent, .silent, .silent, .silent, .silent, .silent, .silent, .silent, .silent, .silent, .silent, .silent, .silent, .silent, .silent, .silent, .silent, .silent, .silent, .silent, .silent] x = x := drawOK_ok (by kernel_rfl)
theorem d28_5 (x : Ans) : drawOK C 28 (regOps Try.f28 5) [.silent, .silent, .silent, .silent, .silent, .silent, .silent, .silent, .silent, .silent, .silent, .silent, .silent, .silent, .silent, .silent, .silent, .silent, .silent, .silent, .silent, .silent, .silent, .silent, .silent, .silent, .silent, .silent] x = x := drawOK_ok (by kernel_rfl)
theorem d28_6 (x : Ans) : drawOK C 28 (regOps Try.f28 6) [.silent, .silent, .silent, .silent, .silent, .silent, .silent, .silent, .silent, .silent, .silent, .silent] x = x := drawOK_ok (by kernel_rfl)
theorem d28_7 (x : Ans) : drawOK C 28 (regOps Try.f28 7) [.silent, .silent, .silent, .silent, .silent, .silent, .silent, .silent, .silent, .silent, .silent] x = x := drawOK_ok (by kernel_rfl)
theorem d28_8 (x : Ans) : drawOK C 28 (regOps Try.f28 8) [.silent, .silent, .silent, .silent, .silent, .silent, .silent, .silent, .silent, .silent, .silent, .silent, .silent, .silent, .silent, .silent, .silent, .silent, .silent, .silent, .silent, .silent, .silent] x = x := drawOK_ok (by kernel_rfl)
theorem en28 : enterable Try.prog 28 = true := by kernel_rfl

-- rope.newNode
noncomputable def F29 (D : Den) (n : Nat) (t0 t1 : AV) (s : Heap) : Ans :=
  oh (some (.nilp, s)) fun t4 s =>
  oh (some (t0.strip, s)) fun t5 s =>
  oh (some (t1.strip, s)) fun t6 s =>
  oh (some (t0.strip, s)) fun t7 s =>
  oh (mp (aNilCheck t7) s) fun t8 s =>
  oh (mp (aAddr 3 t8) s) fun t9 s =>
  oh (aLoad false false 1 t9 s) fun t10 s =>
  oh (some (t1.strip, s)) fun t11 s =>
  oh (mp (aNilCheck t11) s) fun t12 s =>
  oh (mp (aAddr 3 t12) s) fun t13 s =>
  oh (aLoad false false 1 t13 s) fun t14 s =>
  oh (mp (aBin Try.prog .add 3 t10 t14) s) fun t15 s =>
  oh (some (t0.strip, s)) fun t16 s =>
  oh (mp (aNilCheck t16) s) fun t17 s =>
  oh (mp (aAddr 4 t17) s) fun t18 s =>
  oh (aLoad false false 1 t18 s) fun t19 s =>
  oh (some (t1.strip, s)) fun t20 s =>
  oh (mp (aNilCheck t20) s) fun t21 s =>
  oh (mp (aAddr 4 t21) s) fun t22 s =>
  oh (aLoad false false 1 t22 s) fun t23 s =>
  oh (mp (aMax t19 t23) s) fun t24 s =>
  oh (mp (aBin Try.prog .add 3 t24 (.int .i64 1)) s) fun t25 s =>
  oh (some (t0.strip, s)) fun t26 s =>
  oh (mp (aNilCheck t26) s) fun t27 s =>
  oh (mp (aAddr 5 t27) s) fun t28 s =>
  oh (aLoad false false 1 t28 s) fun t29 s =>
  oh (some (t1.strip, s)) fun t30 s =>
  oh (mp (aNilCheck t30) s) fun t31 s =>
  oh (mp (aAddr 5 t31) s) fun t32 s =>
  oh (aLoad false false 1 t32 s) fun t33 s =>
  oh (mp (aBin Try.prog .add 3 t29 t33) s) fun t34 s =>
  oh (mp (aBuild Try.prog 56 [(0, t5), (1, t6), (3, t15), (4, t25), (5, t34)]) s) fun t35 s =>
  oh (aBox false 56 t35 s) fun t36 s =>
  oh (some (t36, s)) fun t4_2 s =>
  drawOK C 29 (regOps Try.f29 1) [.silent, .silent, .silent, .silent, .silent, (kLoad false t9), .silent, .silent, .silent, (kLoad false t13), .silent, .silent, .silent, .silent, (kLoad false t18), .silent, .silent, .silent, (kLoad false t22), .silent, .silent, .silent, .silent, .silent, (kLoad false t28), .silent, .silent, .silent, (kLoad false t32), .silent, .silent, .silent, .silent] <|
  some (t4_2, s)

theorem F29_eq (n : Nat) (t0 t1 : AV) (s : Heap) : den C (n + 1) 29 [t0, t1] s = F29 (den C n) n t0 t1 s :=
  (den_body rfl Try.func29 _ _).trans (by kernel_rfl)
theorem d29_1 (x : Ans) : drawOK C 29 (regOps Try.f29 1) [.silent, .silent, .silent, .silent, .silent, .silent, .silent, .silent, .silent, .silent, .silent, .silent, .silent, .silent, .silent, .silent, .silent, .silent, .silent, .silent, .silent, .silent, .silent, .silent, .silent, .silent, .silent, .silent, .silent, .silent, .silent, .silent, .silent] x = x := drawOK_ok (by kernel_rfl)
theorem en29 : enterable Try.prog 29 = true := by kernel_rfl

end RopeF
