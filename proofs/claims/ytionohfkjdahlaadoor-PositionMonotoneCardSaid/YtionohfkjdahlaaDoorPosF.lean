/- Printed by gen.py: the functions, unfolded. -/
import Derived.Test.YtionohfkjdahlaaDoorPosC
set_option maxRecDepth 10000
set_option linter.all false
namespace PosF
open Go Go.Abs Go.Proofs

-- glossatorkeep1.PositionMonotone
noncomputable def F3 (D : Den) (n : Nat) (t0 t1 t2 : AV) (s : Heap) : Ans :=
  oh (some ((.bool false), s)) fun t6 s =>
  oh (aCall Tryd.prog D 11 [] s) fun t11 s =>
  oh (mp (aUn .not t11) s) fun t12 s =>
  br t12
    (oh (some ((.bool false), s)) fun t6_2 s =>
  some (t6_2, s))
    (oh (some (t0.strip, s)) fun t13 s =>
  oh (aCall Tryd.prog D 12 [t13.strip, (.int .i64 300)] s) fun t14 s =>
  oh (some (t14, s)) fun t0_2 s =>
  oh (some (t0_2.strip, s)) fun t16 s =>
  oh (some (t1.strip, s)) fun t17 s =>
  oh (aCall Tryd.prog D 13 [t16.strip, t17.strip] s) fun t18 s =>
  oh (some (t18.strip, s)) fun t15 s =>
  oh (mp (aExtract 0 t15) s) fun t19 s =>
  oh (mp (aExtract 1 t15) s) fun t20 s =>
  oh (aAlloc Tryd.prog 25 s) fun t7 s =>
  oh (sto (aStore 2 s t7 t19)) fun _r s =>
  oh (some (t20, s)) fun t8 s =>
  oh (some (t0_2.strip, s)) fun t22 s =>
  oh (some (t2.strip, s)) fun t23 s =>
  oh (aCall Tryd.prog D 13 [t22.strip, t23.strip] s) fun t24 s =>
  oh (some (t24.strip, s)) fun t21 s =>
  oh (mp (aExtract 0 t21) s) fun t25 s =>
  oh (mp (aExtract 1 t21) s) fun t26 s =>
  oh (aAlloc Tryd.prog 25 s) fun t9 s =>
  oh (sto (aStore 2 s t9 t25)) fun _r s =>
  oh (some (t26, s)) fun t10 s =>
  oh (some (t8.strip, s)) fun t27 s =>
  oh (mp (aBin Tryd.prog .neq 26 t27 (.int .i64 0)) s) fun t28 s =>
  oh (some (t28.strip, s)) fun t29 s =>
  oh (gd (wA t29 false) s (some (t10.strip, s))) fun t30 s =>
  oh (gd (wA t29 false) s (mp (aBin Tryd.prog .neq 26 t30 (.int .i64 0)) s)) fun t31 s =>
  oh (mp (aPick t29 (.bool true) t31) s) fun t32 s =>
  oh (some (t32.strip, s)) fun t33 s =>
  oh (gd (wA t33 false) s (some (t1.strip, s))) fun t34 s =>
  oh (gd (wA t33 false) s (some (t2.strip, s))) fun t35 s =>
  oh (gd (wA t33 false) s (mp (aBin Tryd.prog .geq 3 t34 t35) s)) fun t36 s =>
  oh (mp (aPick t33 (.bool true) t36) s) fun t37 s =>
  br t37
    (oh (aCall Tryd.prog D 11 [] s) fun t38 s =>
  oh (some (t38, s)) fun t6_3 s =>
  some (t6_3, s))
    (oh (aCall Tryd.prog D 11 [] s) fun t39 s =>
  oh (some (t39.strip, s)) fun t40 s =>
  oh (gd (wA t40 true) s (mp (aAddr 0 t7) s)) fun t41 s =>
  oh (gd (wA t40 true) s (aLoad false false 1 t41 s)) fun t42 s =>
  oh (gd (wA t40 true) s (mp (aAddr 0 t9) s)) fun t43 s =>
  oh (gd (wA t40 true) s (aLoad false false 1 t43 s)) fun t44 s =>
  oh (gd (wA t40 true) s (mp (aBin Tryd.prog .lss 3 t42 t44) s)) fun t45 s =>
  oh (gd (wA t40 true) s (some (t45.strip, s))) fun t46 s =>
  oh (gd (wA t46 false) s (mp (aAddr 0 t7) s)) fun t47 s =>
  oh (gd (wA t46 false) s (aLoad false false 1 t47 s)) fun t48 s =>
  oh (gd (wA t46 false) s (mp (aAddr 0 t9) s)) fun t49 s =>
  oh (gd (wA t46 false) s (aLoad false false 1 t49 s)) fun t50 s =>
  oh (gd (wA t46 false) s (mp (aBin Tryd.prog .eql 3 t48 t50) s)) fun t51 s =>
  oh (gd (wA t46 false) s (some (t51.strip, s))) fun t52 s =>
  oh (gd (wA t52 true) s (mp (aAddr 1 t7) s)) fun t53 s =>
  oh (gd (wA t52 true) s (aLoad false false 1 t53 s)) fun t54 s =>
  oh (gd (wA t52 true) s (mp (aAddr 1 t9) s)) fun t55 s =>
  oh (gd (wA t52 true) s (aLoad false false 1 t55 s)) fun t56 s =>
  oh (gd (wA t52 true) s (mp (aBin Tryd.prog .lss 3 t54 t56) s)) fun t57 s =>
  oh (gd (wA t46 false) s (mp (aPick t52 t57 (.bool false)) s)) fun t58 s =>
  oh (gd (wA t40 true) s (mp (aPick t46 (.bool true) t58) s)) fun t59 s =>
  oh (mp (aPick t40 t59 (.bool false)) s) fun t60 s =>
  oh (some (t60, s)) fun t6_4 s =>
  some (t6_4, s)))

theorem F3_eq (n : Nat) (t0 t1 t2 : AV) (s : Heap) : den C (n + 1) 3 [t0, t1, t2] s = F3 (den C n) n t0 t1 t2 s :=
  (den_body rfl Tryd.func3 _ _).trans (by kernel_rfl)
theorem en3 : enterable Tryd.prog 3 = true := by kernel_rfl

-- glossatorkeep1.PositionLines
noncomputable def F4 (D : Den) (n : Nat) (t0 t1 : AV) (s : Heap) : Ans :=
  oh (some ((.bool false), s)) fun t4 s =>
  oh (aCall Tryd.prog D 11 [] s) fun t8 s =>
  oh (mp (aUn .not t8) s) fun t9 s =>
  br t9
    (oh (some ((.bool false), s)) fun t4_2 s =>
  some (t4_2, s))
    (oh (some (t0.strip, s)) fun t10 s =>
  oh (aCall Tryd.prog D 12 [t10.strip, (.int .i64 300)] s) fun t11 s =>
  oh (some (t11, s)) fun t0_2 s =>
  oh (some (t0_2.strip, s)) fun t12 s =>
  oh (aCall Tryd.prog D 14 [t12.strip] s) fun t13 s =>
  oh (some (t13, s)) fun t5 s =>
  oh (some (t0_2.strip, s)) fun t15 s =>
  oh (some (t1.strip, s)) fun t16 s =>
  oh (mp (aBuild Tryd.prog 25 [(0, t16)]) s) fun t17 s =>
  oh (aCall Tryd.prog D 15 [t15.strip, t17.strip] s) fun t18 s =>
  oh (some (t18.strip, s)) fun t14 s =>
  oh (mp (aExtract 0 t14) s) fun t19 s =>
  oh (mp (aExtract 1 t14) s) fun t20 s =>
  oh (some (t19, s)) fun t6 s =>
  oh (some (t20, s)) fun t7 s =>
  oh (some (t1.strip, s)) fun t21 s =>
  oh (mp (aBin Tryd.prog .lss 3 t21 (.int .i64 0)) s) fun t22 s =>
  oh (some (t22.strip, s)) fun t23 s =>
  oh (gd (wA t23 false) s (some (t1.strip, s))) fun t24 s =>
  oh (gd (wA t23 false) s (some (t5.strip, s))) fun t25 s =>
  oh (gd (wA t23 false) s (mp (aLen Tryd.prog 30 t25) s)) fun t26 s =>
  oh (gd (wA t23 false) s (mp (aBin Tryd.prog .geq 3 t24 t26) s)) fun t27 s =>
  oh (mp (aPick t23 (.bool true) t27) s) fun t28 s =>
  br t28
    (oh (aCall Tryd.prog D 11 [] s) fun t29 s =>
  oh (some (t29.strip, s)) fun t30 s =>
  oh (gd (wA t30 true) s (some (t6.strip, s))) fun t31 s =>
  oh (gd (wA t30 true) s (mp (aBin Tryd.prog .eql 3 t31 (.int .i64 0)) s)) fun t32 s =>
  oh (mp (aPick t30 t32 (.bool false)) s) fun t33 s =>
  oh (some (t33.strip, s)) fun t34 s =>
  oh (gd (wA t34 true) s (some (t7.strip, s))) fun t35 s =>
  oh (gd (wA t34 true) s (mp (aBin Tryd.prog .eql 26 t35 (.int .i64 5)) s)) fun t36 s =>
  oh (mp (aPick t34 t36 (.bool false)) s) fun t37 s =>
  oh (some (t37, s)) fun t4_3 s =>
  some (t4_3, s))
    (oh (aCall Tryd.prog D 11 [] s) fun t38 s =>
  oh (some (t38.strip, s)) fun t39 s =>
  oh (gd (wA t39 true) s (some (t6.strip, s))) fun t40 s =>
  oh (gd (wA t39 true) s (some (t5.strip, s))) fun t41 s =>
  oh (gd (wA t39 true) s (some (t1.strip, s))) fun t42 s =>
  oh (gd (wA t39 true) s (mp (aIndexAddr Tryd.prog 30 t41 t42) s)) fun t43 s =>
  oh (gd (wA t39 true) s (aLoad false false 1 t43 s)) fun t44 s =>
  oh (gd (wA t39 true) s (mp (aBin Tryd.prog .eql 3 t40 t44) s)) fun t45 s =>
  oh (mp (aPick t39 t45 (.bool false)) s) fun t46 s =>
  oh (some (t46.strip, s)) fun t47 s =>
  oh (gd (wA t47 true) s (some (t7.strip, s))) fun t48 s =>
  oh (gd (wA t47 true) s (mp (aBin Tryd.prog .eql 26 t48 (.int .i64 0)) s)) fun t49 s =>
  oh (mp (aPick t47 t49 (.bool false)) s) fun t50 s =>
  oh (some (t50, s)) fun t4_4 s =>
  some (t4_4, s)))

theorem F4_eq (n : Nat) (t0 t1 : AV) (s : Heap) : den C (n + 1) 4 [t0, t1] s = F4 (den C n) n t0 t1 s :=
  (den_body rfl Tryd.func4 _ _).trans (by kernel_rfl)
theorem en4 : enterable Tryd.prog 4 = true := by kernel_rfl

-- glossatorkeep1.PositionRoundTrip
noncomputable def F5 (D : Den) (n : Nat) (t0 t1 : AV) (s : Heap) : Ans :=
  oh (some ((.bool false), s)) fun t4 s =>
  oh (aCall Tryd.prog D 11 [] s) fun t13 s =>
  oh (mp (aUn .not t13) s) fun t14 s =>
  br t14
    (oh (some ((.bool false), s)) fun t4_2 s =>
  some (t4_2, s))
    (oh (some (t0.strip, s)) fun t15 s =>
  oh (aCall Tryd.prog D 12 [t15.strip, (.int .i64 300)] s) fun t16 s =>
  oh (some (t16, s)) fun t0_2 s =>
  oh (some (t0_2.strip, s)) fun t18 s =>
  oh (some (t1.strip, s)) fun t19 s =>
  oh (aCall Tryd.prog D 13 [t18.strip, t19.strip] s) fun t20 s =>
  oh (some (t20.strip, s)) fun t17 s =>
  oh (mp (aExtract 0 t17) s) fun t21 s =>
  oh (mp (aExtract 1 t17) s) fun t22 s =>
  oh (aAlloc Tryd.prog 25 s) fun t5 s =>
  oh (sto (aStore 2 s t5 t21)) fun _r s =>
  oh (some (t22, s)) fun t6 s =>
  oh (some (t0_2.strip, s)) fun t24 s =>
  oh (some (t1.strip, s)) fun t25 s =>
  oh (aCall Tryd.prog D 16 [t24.strip, t25.strip] s) fun t26 s =>
  oh (some (t26.strip, s)) fun t23 s =>
  oh (mp (aExtract 0 t23) s) fun t27 s =>
  oh (mp (aExtract 1 t23) s) fun t28 s =>
  oh (aAlloc Tryd.prog 25 s) fun t7 s =>
  oh (sto (aStore 2 s t7 t27)) fun _r s =>
  oh (some (t28, s)) fun t8 s =>
  oh (aCall Tryd.prog D 11 [] s) fun t29 s =>
  oh (mp (aUn .not t29) s) fun t30 s =>
  oh (some (t30.strip, s)) fun t31 s =>
  oh (gd (wA t31 false) s (some (t6.strip, s))) fun t32 s =>
  oh (gd (wA t31 false) s (some (t8.strip, s))) fun t33 s =>
  oh (gd (wA t31 false) s (mp (aBin Tryd.prog .neq 26 t32 t33) s)) fun t34 s =>
  oh (mp (aPick t31 (.bool true) t34) s) fun t35 s =>
  br t35
    (oh (some ((.bool false), s)) fun t4_3 s =>
  some (t4_3, s))
    (oh (some (t6.strip, s)) fun t36 s =>
  oh (mp (aBin Tryd.prog .neq 26 t36 (.int .i64 0)) s) fun t37 s =>
  br t37
    (oh (aLoad false true 2 t5 s) fun t38 s =>
  oh (mp (aBuild Tryd.prog 25 []) s) fun t39 s =>
  oh (mp (aBin Tryd.prog .eql 25 t38 t39) s) fun t40 s =>
  oh (some (t40.strip, s)) fun t41 s =>
  oh (gd (wA t41 true) s (aLoad false true 2 t7 s)) fun t42 s =>
  oh (gd (wA t41 true) s (mp (aBuild Tryd.prog 25 []) s)) fun t43 s =>
  oh (gd (wA t41 true) s (mp (aBin Tryd.prog .eql 25 t42 t43) s)) fun t44 s =>
  oh (mp (aPick t41 t44 (.bool false)) s) fun t45 s =>
  oh (some (t45, s)) fun t4_4 s =>
  some (t4_4, s))
    (oh (some (t0_2.strip, s)) fun t47 s =>
  oh (aLoad false true 2 t5 s) fun t48 s =>
  oh (aCall Tryd.prog D 15 [t47.strip, t48.strip] s) fun t49 s =>
  oh (some (t49.strip, s)) fun t46 s =>
  oh (mp (aExtract 0 t46) s) fun t50 s =>
  oh (mp (aExtract 1 t46) s) fun t51 s =>
  oh (some (t50, s)) fun t9 s =>
  oh (some (t51, s)) fun t10 s =>
  oh (some (t0_2.strip, s)) fun t53 s =>
  oh (aLoad false true 2 t7 s) fun t54 s =>
  oh (aCall Tryd.prog D 17 [t53.strip, t54.strip] s) fun t55 s =>
  oh (some (t55.strip, s)) fun t52 s =>
  oh (mp (aExtract 0 t52) s) fun t56 s =>
  oh (mp (aExtract 1 t52) s) fun t57 s =>
  oh (some (t56, s)) fun t11 s =>
  oh (some (t57, s)) fun t12 s =>
  oh (some (t9.strip, s)) fun t58 s =>
  oh (some (t1.strip, s)) fun t59 s =>
  oh (mp (aBin Tryd.prog .eql 3 t58 t59) s) fun t60 s =>
  oh (some (t60.strip, s)) fun t61 s =>
  oh (gd (wA t61 true) s (some (t10.strip, s))) fun t62 s =>
  oh (gd (wA t61 true) s (mp (aBin Tryd.prog .eql 26 t62 (.int .i64 0)) s)) fun t63 s =>
  oh (mp (aPick t61 t63 (.bool false)) s) fun t64 s =>
  oh (some (t64.strip, s)) fun t65 s =>
  oh (gd (wA t65 true) s (some (t11.strip, s))) fun t66 s =>
  oh (gd (wA t65 true) s (some (t1.strip, s))) fun t67 s =>
  oh (gd (wA t65 true) s (mp (aBin Tryd.prog .eql 3 t66 t67) s)) fun t68 s =>
  oh (mp (aPick t65 t68 (.bool false)) s) fun t69 s =>
  oh (some (t69.strip, s)) fun t70 s =>
  oh (gd (wA t70 true) s (some (t12.strip, s))) fun t71 s =>
  oh (gd (wA t70 true) s (mp (aBin Tryd.prog .eql 26 t71 (.int .i64 0)) s)) fun t72 s =>
  oh (mp (aPick t70 t72 (.bool false)) s) fun t73 s =>
  oh (some (t73.strip, s)) fun t74 s =>
  oh (gd (wA t74 true) s (mp (aAddr 0 t5) s)) fun t75 s =>
  oh (gd (wA t74 true) s (aLoad false false 1 t75 s)) fun t76 s =>
  oh (gd (wA t74 true) s (mp (aAddr 0 t7) s)) fun t77 s =>
  oh (gd (wA t74 true) s (aLoad false false 1 t77 s)) fun t78 s =>
  oh (gd (wA t74 true) s (mp (aBin Tryd.prog .eql 3 t76 t78) s)) fun t79 s =>
  oh (mp (aPick t74 t79 (.bool false)) s) fun t80 s =>
  oh (some (t80.strip, s)) fun t81 s =>
  oh (gd (wA t81 true) s (mp (aAddr 1 t5) s)) fun t82 s =>
  oh (gd (wA t81 true) s (aLoad false false 1 t82 s)) fun t83 s =>
  oh (gd (wA t81 true) s (mp (aAddr 1 t7) s)) fun t84 s =>
  oh (gd (wA t81 true) s (aLoad false false 1 t84 s)) fun t85 s =>
  oh (gd (wA t81 true) s (mp (aBin Tryd.prog .geq 3 t83 t85) s)) fun t86 s =>
  oh (mp (aPick t81 t86 (.bool false)) s) fun t87 s =>
  oh (some (t87, s)) fun t4_5 s =>
  some (t4_5, s))))

theorem F5_eq (n : Nat) (t0 t1 : AV) (s : Heap) : den C (n + 1) 5 [t0, t1] s = F5 (den C n) n t0 t1 s :=
  (den_body rfl Tryd.func5 _ _).trans (by kernel_rfl)
theorem en5 : enterable Tryd.prog 5 = true := by kernel_rfl

-- glossatorkeep1.positionExample
noncomputable def F11 (D : Den) (n : Nat) (s : Heap) : Ans :=
  oh (some ((.bool false), s)) fun t0 s =>
  oh (aCall Tryd.prog D 13 [(.str [97, 10, 240, 159, 152, 128, 98]), (.int .i64 6)] s) fun t6 s =>
  oh (some (t6.strip, s)) fun t5 s =>
  oh (mp (aExtract 0 t5) s) fun t7 s =>
  oh (mp (aExtract 1 t5) s) fun t8 s =>
  oh (aAlloc Tryd.prog 25 s) fun t1 s =>
  oh (sto (aStore 2 s t1 t7)) fun _r s =>
  oh (some (t8, s)) fun t2 s =>
  oh (mp (aBuild Tryd.prog 25 [(0, (.int .i64 1)), (1, (.int .i64 1))]) s) fun t10 s =>
  oh (aCall Tryd.prog D 15 [(.str [97, 10, 240, 159, 152, 128, 98]), t10.strip] s) fun t11 s =>
  oh (some (t11.strip, s)) fun t9 s =>
  oh (mp (aExtract 0 t9) s) fun t12 s =>
  oh (mp (aExtract 1 t9) s) fun t13 s =>
  oh (some (t12, s)) fun t3 s =>
  oh (some (t13, s)) fun t4 s =>
  oh (aLoad false true 2 t1 s) fun t14 s =>
  oh (mp (aBuild Tryd.prog 25 [(0, (.int .i64 1)), (1, (.int .i64 2))]) s) fun t15 s =>
  oh (mp (aBin Tryd.prog .eql 25 t14 t15) s) fun t16 s =>
  oh (some (t16.strip, s)) fun t17 s =>
  oh (gd (wA t17 true) s (some (t2.strip, s))) fun t18 s =>
  oh (gd (wA t17 true) s (mp (aBin Tryd.prog .eql 26 t18 (.int .i64 0)) s)) fun t19 s =>
  oh (mp (aPick t17 t19 (.bool false)) s) fun t20 s =>
  oh (some (t20.strip, s)) fun t21 s =>
  oh (gd (wA t21 true) s (some (t3.strip, s))) fun t22 s =>
  oh (gd (wA t21 true) s (mp (aBin Tryd.prog .eql 3 t22 (.int .i64 0)) s)) fun t23 s =>
  oh (mp (aPick t21 t23 (.bool false)) s) fun t24 s =>
  oh (some (t24.strip, s)) fun t25 s =>
  oh (gd (wA t25 true) s (some (t4.strip, s))) fun t26 s =>
  oh (gd (wA t25 true) s (mp (aBin Tryd.prog .eql 26 t26 (.int .i64 3)) s)) fun t27 s =>
  oh (mp (aPick t25 t27 (.bool false)) s) fun t28 s =>
  oh (some (t28, s)) fun t0_2 s =>
  some (t0_2, s)

theorem F11_eq (n : Nat) (s : Heap) : den C (n + 1) 11 [] s = F11 (den C n) n s :=
  (den_body rfl Tryd.func11 _ _).trans (by kernel_rfl)
theorem en11 : enterable Tryd.prog 11 = true := by kernel_rfl

-- glossatorkeep1.short
noncomputable def F12 (D : Den) (n : Nat) (t0 t1 : AV) (s : Heap) : Ans :=
  oh (some ((.str []), s)) fun t4 s =>
  oh (some (t0.strip, s)) fun t5 s =>
  oh (some (t0.strip, s)) fun t6 s =>
  oh (mp (aLen Tryd.prog 9 t6) s) fun t7 s =>
  oh (some (t1.strip, s)) fun t8 s =>
  oh (mp (aMin t7 t8) s) fun t9 s =>
  oh (mp (aSl Tryd.prog 9 t5 none (some t9) none) s) fun t10 s =>
  oh (some (t10, s)) fun t4_2 s =>
  some (t4_2, s)

theorem F12_eq (n : Nat) (t0 t1 : AV) (s : Heap) : den C (n + 1) 12 [t0, t1] s = F12 (den C n) n t0 t1 s :=
  (den_body rfl Tryd.func12 _ _).trans (by kernel_rfl)
theorem en12 : enterable Tryd.prog 12 = true := by kernel_rfl

-- position.UTF16Position
noncomputable def F13 (D : Den) (n : Nat) (t0 t1 : AV) (s : Heap) : Ans :=
  oh (aAlloc Tryd.prog 25 s) fun t4 s =>
  oh (some ((.int .i64 0), s)) fun t5 s =>
  oh (some (t0.strip, s)) fun t6 s =>
  oh (some (t1.strip, s)) fun t7 s =>
  oh (aCall Tryd.prog D 26 [t6.strip, t7.strip, (.fn 27 [] [])] s) fun t8 s =>
  oh (mp (aExtract 0 t8) s) fun t9 s =>
  oh (mp (aExtract 1 t8) s) fun t10 s =>
  oh (sto (aStore 2 s t4 t9)) fun _r s =>
  oh (some (t10, s)) fun t5_2 s =>
  fin1 ((resL [(aLoad false true 2 t4 s).map (·.1), some t5_2]).map .tup) s

theorem F13_eq (n : Nat) (t0 t1 : AV) (s : Heap) : den C (n + 1) 13 [t0, t1] s = F13 (den C n) n t0 t1 s :=
  (den_body rfl Tryd.func13 _ _).trans (by kernel_rfl)
theorem en13 : enterable Tryd.prog 13 = true := by kernel_rfl

-- position.LineStarts
noncomputable def F14_J1 (D : Den) (n : Nat) (k0 : Env → Heap → Ans) (e : Env) (s : Heap) : Ans :=
  oh (mp (aBin Tryd.prog .add 3 (e 8) (.int .i64 1)) s) fun t20 s =>
  oh (some (t20.strip, s)) fun t8_2 s =>
  k0 (upds e [(20, t20), (8, t8_2)]) s

noncomputable def F14_L0 (D : Den) (n : Nat) (k0 : Env → Heap → Ans) (e : Env) (s : Heap) : Ans :=
  oh (mp (aBin Tryd.prog .lss 3 (e 8) (e 7)) s) fun t9 s =>
  br t9
    (oh (some ((e 8).strip, s)) fun t10 s =>
  oh (some (t10, s)) fun t4 s =>
  oh (some ((e 0).strip, s)) fun t11 s =>
  oh (some (t4.strip, s)) fun t12 s =>
  oh (mp (aIndex Tryd.prog 9 t11 t12) s) fun t13 s =>
  oh (mp (aBin Tryd.prog .eql 5 t13 (.int .u8 10)) s) fun t14 s =>
  br t14
    (oh (some ((e 3), s)) fun t15 s =>
  oh (some (t4.strip, s)) fun t16 s =>
  oh (mp (aBin Tryd.prog .add 3 t16 (.int .i64 1)) s) fun t17 s =>
  oh (mp (aBuildSlice Tryd.prog 30 1 [(0, t17)]) s) fun t18 s =>
  oh (mp (aAppend Tryd.prog 30 30 t15 t18) s) fun t19 s =>
  oh (some (t19, s)) fun t3_2 s =>
  F14_J1 D n k0 (upds e [(9, t9), (10, t10), (10, t10.strip), (4, t4), (11, t11), (12, t12), (13, t13), (14, t14), (3, (e 3).strip), (15, t15), (16, t16), (17, t17), (18, t18), (15, t15.strip), (19, t19), (19, t19.strip), (3, t3_2)]) s)
    (F14_J1 D n k0 (upds e [(9, t9), (10, t10), (10, t10.strip), (4, t4), (11, t11), (12, t12), (13, t13), (14, t14)]) s))
    (oh (some ((e 3).strip, s)) fun t21 s =>
  oh (some (t21, s)) fun t2_2 s =>
  some (t2_2, s))

noncomputable def F14 (D : Den) (n : Nat) (t0 : AV) (s : Heap) : Ans :=
  oh (some (.nils, s)) fun t2 s =>
  oh (mp (aBuildSlice Tryd.prog 30 1 [(0, (.int .i64 0))]) s) fun t5 s =>
  oh (some (t5, s)) fun t3 s =>
  oh (some (t0.strip, s)) fun t6 s =>
  oh (mp (aLen Tryd.prog 9 t6) s) fun t7 s =>
  oh (some ((.int .i64 0), s)) fun t8 s =>
  aLoop (F14_L0 D n) n (upds (argEnv [t0]) [(2, t2), (5, t5), (5, t5.strip), (3, t3), (6, t6), (7, t7), (8, t8)]) s

theorem F14_eq (n : Nat) (t0 : AV) (s : Heap) : den C (n + 1) 14 [t0] s = F14 (den C n) n t0 s :=
  (den_body rfl Tryd.func14 _ _).trans (by kernel_rfl)
theorem en14 : enterable Tryd.prog 14 = true := by kernel_rfl

-- position.UTF16Offset
noncomputable def F15 (D : Den) (n : Nat) (t0 t1 : AV) (s : Heap) : Ans :=
  oh (aBox false 25 t1 s) fun t3 s =>
  oh (some ((.int .i64 0), s)) fun t4 s =>
  oh (some ((.int .i64 0), s)) fun t5 s =>
  oh (some (t0.strip, s)) fun t6 s =>
  oh (aLoad false true 2 t3 s) fun t7 s =>
  oh (aCall Tryd.prog D 28 [t6.strip, t7.strip, (.fn 27 [] [])] s) fun t8 s =>
  oh (mp (aExtract 0 t8) s) fun t9 s =>
  oh (mp (aExtract 1 t8) s) fun t10 s =>
  oh (some (t9, s)) fun t4_2 s =>
  oh (some (t10, s)) fun t5_2 s =>
  some (.tup [t4_2, t5_2], s)

theorem F15_eq (n : Nat) (t0 t1 : AV) (s : Heap) : den C (n + 1) 15 [t0, t1] s = F15 (den C n) n t0 t1 s :=
  (den_body rfl Tryd.func15 _ _).trans (by kernel_rfl)
theorem en15 : enterable Tryd.prog 15 = true := by kernel_rfl

-- position.RunePosition
noncomputable def F16 (D : Den) (n : Nat) (t0 t1 : AV) (s : Heap) : Ans :=
  oh (aAlloc Tryd.prog 25 s) fun t4 s =>
  oh (some ((.int .i64 0), s)) fun t5 s =>
  oh (some (t0.strip, s)) fun t6 s =>
  oh (some (t1.strip, s)) fun t7 s =>
  oh (aCall Tryd.prog D 26 [t6.strip, t7.strip, (.fn 29 [] [])] s) fun t8 s =>
  oh (mp (aExtract 0 t8) s) fun t9 s =>
  oh (mp (aExtract 1 t8) s) fun t10 s =>
  oh (sto (aStore 2 s t4 t9)) fun _r s =>
  oh (some (t10, s)) fun t5_2 s =>
  fin1 ((resL [(aLoad false true 2 t4 s).map (·.1), some t5_2]).map .tup) s

theorem F16_eq (n : Nat) (t0 t1 : AV) (s : Heap) : den C (n + 1) 16 [t0, t1] s = F16 (den C n) n t0 t1 s :=
  (den_body rfl Tryd.func16 _ _).trans (by kernel_rfl)
theorem en16 : enterable Tryd.prog 16 = true := by kernel_rfl

-- position.RuneOffset
noncomputable def F17 (D : Den) (n : Nat) (t0 t1 : AV) (s : Heap) : Ans :=
  oh (aBox false 25 t1 s) fun t3 s =>
  oh (some ((.int .i64 0), s)) fun t4 s =>
  oh (some ((.int .i64 0), s)) fun t5 s =>
  oh (some (t0.strip, s)) fun t6 s =>
  oh (aLoad false true 2 t3 s) fun t7 s =>
  oh (aCall Tryd.prog D 28 [t6.strip, t7.strip, (.fn 29 [] [])] s) fun t8 s =>
  oh (mp (aExtract 0 t8) s) fun t9 s =>
  oh (mp (aExtract 1 t8) s) fun t10 s =>
  oh (some (t9, s)) fun t4_2 s =>
  oh (some (t10, s)) fun t5_2 s =>
  some (.tup [t4_2, t5_2], s)

theorem F17_eq (n : Nat) (t0 t1 : AV) (s : Heap) : den C (n + 1) 17 [t0, t1] s = F17 (den C n) n t0 t1 s :=
  (den_body rfl Tryd.func17 _ _).trans (by kernel_rfl)
theorem en17 : enterable Tryd.prog 17 = true := by kernel_rfl

-- position.toPosition
noncomputable def F26_L0 (D : Den) (n : Nat) (k0 : Env → Heap → Ans) (e : Env) (s : Heap) : Ans :=
  oh (some ((e 9).strip, s)) fun t31 s =>
  oh (some ((e 1).strip, s)) fun t32 s =>
  oh (mp (aBin Tryd.prog .lss 3 t31 t32) s) fun t33 s =>
  br t33
    (oh (some ((e 0).strip, s)) fun t35 s =>
  oh (some ((e 9).strip, s)) fun t36 s =>
  oh (mp (aSl Tryd.prog 9 t35 (some t36) none none) s) fun t37 s =>
  oh (aCall Tryd.prog D 39 [t37.strip] s) fun t38 s =>
  oh (some (t38.strip, s)) fun t34 s =>
  oh (mp (aExtract 0 t34) s) fun t39 s =>
  oh (mp (aExtract 1 t34) s) fun t40 s =>
  oh (some (t39, s)) fun t10 s =>
  oh (some (t40, s)) fun t11 s =>
  oh (some ((e 9).strip, s)) fun t41 s =>
  oh (some (t11.strip, s)) fun t42 s =>
  oh (mp (aBin Tryd.prog .add 3 t41 t42) s) fun t43 s =>
  oh (some (t43, s)) fun t9_2 s =>
  oh (mp (aAddr 1 (e 8)) s) fun t44 s =>
  oh (aLoad false false 1 t44 s) fun t45 s =>
  oh (some ((e 2).strip, s)) fun t46 s =>
  oh (some (t10.strip, s)) fun t47 s =>
  oh (aCallV Tryd.prog D t46 [t47] s) fun t48 s =>
  oh (mp (aBin Tryd.prog .add 3 t45 t48) s) fun t49 s =>
  oh (mp (aAddr 1 (e 8)) s) fun t50 s =>
  oh (sto (aStore 1 s t50 t49)) fun _r s =>
  drawOK C 26 (regOps Tryd.f26 8) [.silent, (kLoad false t44), .silent, .silent, (kCallV t46 [t47]), .silent, .silent, .writer] <|
  k0 (upds e [(31, t31), (32, t32), (33, t33), (35, t35), (36, t36), (37, t37), (38, t38), (34, t34), (39, t39), (40, t40), (39, t39.strip), (10, t10), (40, t40.strip), (11, t11), (41, t41), (42, t42), (43, t43), (43, t43.strip), (9, t9_2), (44, t44), (45, t45), (46, t46), (47, t47), (48, t48), (49, t49), (50, t50), (49, t49.strip)]) s)
    (oh (some ((e 9).strip, s)) fun t51 s =>
  oh (some ((e 1).strip, s)) fun t52 s =>
  oh (mp (aBin Tryd.prog .gtr 3 t51 t52) s) fun t53 s =>
  br t53
    (oh (mp (aBuild Tryd.prog 25 []) s) fun t54 s =>
  oh (sto (aStore 2 s (e 6) t54)) fun _r s =>
  oh (some ((.int .i64 3), s)) fun t7_3 s =>
  fin1 ((resL [(aLoad false true 2 (e 6) s).map (·.1), some t7_3]).map .tup) s)
    (oh (aLoad false true 2 (e 8) s) fun t55 s =>
  oh (sto (aStore 2 s (e 6) t55)) fun _r s =>
  oh (some ((.int .i64 0), s)) fun t7_4 s =>
  fin1 ((resL [(aLoad false true 2 (e 6) s).map (·.1), some t7_4]).map .tup) s))

noncomputable def F26 (D : Den) (n : Nat) (t0 t1 t2 : AV) (s : Heap) : Ans :=
  oh (aAlloc Tryd.prog 25 s) fun t6 s =>
  oh (some ((.int .i64 0), s)) fun t7 s =>
  oh (some (t1.strip, s)) fun t12 s =>
  oh (mp (aBin Tryd.prog .lss 3 t12 (.int .i64 0)) s) fun t13 s =>
  oh (some (t13.strip, s)) fun t14 s =>
  oh (gd (wA t14 false) s (some (t1.strip, s))) fun t15 s =>
  oh (gd (wA t14 false) s (some (t0.strip, s))) fun t16 s =>
  oh (gd (wA t14 false) s (mp (aLen Tryd.prog 9 t16) s)) fun t17 s =>
  oh (gd (wA t14 false) s (mp (aBin Tryd.prog .gtr 3 t15 t17) s)) fun t18 s =>
  oh (mp (aPick t14 (.bool true) t18) s) fun t19 s =>
  br t19
    (oh (mp (aBuild Tryd.prog 25 []) s) fun t20 s =>
  oh (sto (aStore 2 s t6 t20)) fun _r s =>
  oh (some ((.int .i64 1), s)) fun t7_2 s =>
  fin1 ((resL [(aLoad false true 2 t6 s).map (·.1), some t7_2]).map .tup) s)
    (oh (some (t0.strip, s)) fun t21 s =>
  oh (some (t1.strip, s)) fun t22 s =>
  oh (mp (aSl Tryd.prog 9 t21 none (some t22) none) s) fun t23 s =>
  oh (aCall Tryd.prog D 37 [t23.strip, (.str [10])] s) fun t24 s =>
  oh (mp (aBuild Tryd.prog 25 [(0, t24)]) s) fun t25 s =>
  oh (aAlloc Tryd.prog 25 s) fun t8 s =>
  oh (sto (aStore 2 s t8 t25)) fun _r s =>
  oh (some (t0.strip, s)) fun t26 s =>
  oh (some (t1.strip, s)) fun t27 s =>
  oh (mp (aSl Tryd.prog 9 t26 none (some t27) none) s) fun t28 s =>
  oh (aCall Tryd.prog D 38 [t28.strip, (.int .u8 10)] s) fun t29 s =>
  oh (mp (aBin Tryd.prog .add 3 t29 (.int .i64 1)) s) fun t30 s =>
  oh (some (t30, s)) fun t9 s =>
  aLoop (F26_L0 D n) n (upds (argEnv [t0, t1, t2]) [(6, t6), (7, t7), (12, t12), (13, t13), (14, t14), (15, t15), (16, t16), (17, t17), (18, t18), (19, t19), (21, t21), (22, t22), (23, t23), (24, t24), (25, t25), (8, t8), (25, t25.strip), (26, t26), (27, t27), (28, t28), (29, t29), (30, t30), (30, t30.strip), (9, t9)]) s)

theorem F26_eq (n : Nat) (t0 t1 t2 : AV) (s : Heap) : den C (n + 1) 26 [t0, t1, t2] s = F26 (den C n) n t0 t1 t2 s :=
  (den_body rfl Tryd.func26 _ _).trans (by kernel_rfl)
theorem d26_8 (x : Ans) : drawOK C 26 (regOps Tryd.f26 8) [.silent, .silent, .silent, .silent, .silent, .silent, .silent, .writer] x = x := drawOK_ok (by kernel_rfl)
theorem en26 : enterable Tryd.prog 26 = true := by kernel_rfl

-- position.utf16Width
noncomputable def F27 (D : Den) (n : Nat) (t0 : AV) (s : Heap) : Ans :=
  oh (some ((.int .i64 0), s)) fun t2 s =>
  oh (some (t0.strip, s)) fun t3 s =>
  oh (mp (aBin Tryd.prog .gtr 21 t3 (.int .i32 65535)) s) fun t4 s =>
  br t4
    (oh (some ((.int .i64 2), s)) fun t2_2 s =>
  some (t2_2, s))
    (oh (some ((.int .i64 1), s)) fun t2_3 s =>
  some (t2_3, s))

theorem F27_eq (n : Nat) (t0 : AV) (s : Heap) : den C (n + 1) 27 [t0] s = F27 (den C n) n t0 s :=
  (den_body rfl Tryd.func27 _ _).trans (by kernel_rfl)
theorem en27 : enterable Tryd.prog 27 = true := by kernel_rfl

-- position.toOffset
noncomputable def F28_L0 (D : Den) (n : Nat) (k0 : Env → Heap → Ans) (e : Env) (s : Heap) : Ans :=
  oh (some ((e 10).strip, s)) fun t30 s =>
  oh (mp (aAddr 1 (e 4)) s) fun t31 s =>
  oh (aLoad false false 1 t31 s) fun t32 s =>
  oh (mp (aBin Tryd.prog .lss 3 t30 t32) s) fun t33 s =>
  oh (some (t33.strip, s)) fun t34 s =>
  oh (gd (wA t34 true) s (some ((e 9).strip, s))) fun t35 s =>
  oh (gd (wA t34 true) s (some ((e 0).strip, s))) fun t36 s =>
  oh (gd (wA t34 true) s (mp (aLen Tryd.prog 9 t36) s)) fun t37 s =>
  oh (gd (wA t34 true) s (mp (aBin Tryd.prog .lss 3 t35 t37) s)) fun t38 s =>
  oh (mp (aPick t34 t38 (.bool false)) s) fun t39 s =>
  oh (some (t39.strip, s)) fun t40 s =>
  oh (gd (wA t40 true) s (some ((e 0).strip, s))) fun t41 s =>
  oh (gd (wA t40 true) s (some ((e 9).strip, s))) fun t42 s =>
  oh (gd (wA t40 true) s (mp (aIndex Tryd.prog 9 t41 t42) s)) fun t43 s =>
  oh (gd (wA t40 true) s (mp (aBin Tryd.prog .neq 5 t43 (.int .u8 10)) s)) fun t44 s =>
  oh (mp (aPick t40 t44 (.bool false)) s) fun t45 s =>
  br t45
    (oh (some ((e 0).strip, s)) fun t47 s =>
  oh (some ((e 9).strip, s)) fun t48 s =>
  oh (mp (aSl Tryd.prog 9 t47 (some t48) none none) s) fun t49 s =>
  oh (aCall Tryd.prog D 39 [t49.strip] s) fun t50 s =>
  oh (some (t50.strip, s)) fun t46 s =>
  oh (mp (aExtract 0 t46) s) fun t51 s =>
  oh (mp (aExtract 1 t46) s) fun t52 s =>
  oh (some (t51, s)) fun t11 s =>
  oh (some (t52, s)) fun t12 s =>
  oh (some ((e 9).strip, s)) fun t53 s =>
  oh (some (t12.strip, s)) fun t54 s =>
  oh (mp (aBin Tryd.prog .add 3 t53 t54) s) fun t55 s =>
  oh (some (t55, s)) fun t9_2 s =>
  oh (some ((e 10).strip, s)) fun t56 s =>
  oh (some ((e 2).strip, s)) fun t57 s =>
  oh (some (t11.strip, s)) fun t58 s =>
  oh (aCallV Tryd.prog D t57 [t58] s) fun t59 s =>
  oh (mp (aBin Tryd.prog .add 3 t56 t59) s) fun t60 s =>
  oh (some (t60, s)) fun t10_2 s =>
  k0 (upds e [(30, t30), (31, t31), (32, t32), (33, t33), (34, t34), (35, t35), (36, t36), (37, t37), (38, t38), (39, t39), (40, t40), (41, t41), (42, t42), (43, t43), (44, t44), (45, t45), (47, t47), (48, t48), (49, t49), (50, t50), (46, t46), (51, t51), (52, t52), (51, t51.strip), (11, t11), (52, t52.strip), (12, t12), (53, t53), (54, t54), (55, t55), (55, t55.strip), (9, t9_2), (56, t56), (57, t57), (58, t58), (59, t59), (60, t60), (60, t60.strip), (10, t10_2)]) s)
    (oh (mp (aAddr 1 (e 4)) s) fun t62 s =>
  oh (aLoad false false 1 t62 s) fun t63 s =>
  oh (mp (aBin Tryd.prog .lss 3 t63 (.int .i64 0)) s) fun t64 s =>
  oh (some (t64.strip, s)) fun t65 s =>
  oh (gd (wA t65 false) s (some ((e 10).strip, s))) fun t66 s =>
  oh (gd (wA t65 false) s (mp (aAddr 1 (e 4)) s)) fun t67 s =>
  oh (gd (wA t65 false) s (aLoad false false 1 t67 s)) fun t68 s =>
  oh (gd (wA t65 false) s (mp (aBin Tryd.prog .lss 3 t66 t68) s)) fun t69 s =>
  oh (mp (aPick t65 (.bool true) t69) s) fun t70 s =>
  oh (some (t70, s)) fun t61 s =>
  br t61
    (oh (some ((.int .i64 0), s)) fun t6_3 s =>
  oh (some ((.int .i64 1), s)) fun t7_3 s =>
  some (.tup [t6_3, t7_3], s))
    (oh (some ((e 10).strip, s)) fun t72 s =>
  oh (mp (aAddr 1 (e 4)) s) fun t73 s =>
  oh (aLoad false false 1 t73 s) fun t74 s =>
  oh (mp (aBin Tryd.prog .gtr 3 t72 t74) s) fun t75 s =>
  oh (some (t75, s)) fun t71 s =>
  br t71
    (oh (some ((.int .i64 0), s)) fun t6_4 s =>
  oh (some ((.int .i64 3), s)) fun t7_4 s =>
  some (.tup [t6_4, t7_4], s))
    (oh (some ((e 9).strip, s)) fun t76 s =>
  oh (some (t76, s)) fun t6_5 s =>
  oh (some ((.int .i64 0), s)) fun t7_5 s =>
  some (.tup [t6_5, t7_5], s))))

noncomputable def F28 (D : Den) (n : Nat) (t0 t1 t2 : AV) (s : Heap) : Ans :=
  oh (aBox false 25 t1 s) fun t4 s =>
  oh (some ((.int .i64 0), s)) fun t6 s =>
  oh (some ((.int .i64 0), s)) fun t7 s =>
  oh (some (t0.strip, s)) fun t13 s =>
  oh (aCall Tryd.prog D 14 [t13.strip] s) fun t14 s =>
  oh (some (t14, s)) fun t8 s =>
  oh (mp (aAddr 0 t4) s) fun t15 s =>
  oh (aLoad false false 1 t15 s) fun t16 s =>
  oh (mp (aBin Tryd.prog .lss 3 t16 (.int .i64 0)) s) fun t17 s =>
  oh (some (t17.strip, s)) fun t18 s =>
  oh (gd (wA t18 false) s (mp (aAddr 0 t4) s)) fun t19 s =>
  oh (gd (wA t18 false) s (aLoad false false 1 t19 s)) fun t20 s =>
  oh (gd (wA t18 false) s (some (t8.strip, s))) fun t21 s =>
  oh (gd (wA t18 false) s (mp (aLen Tryd.prog 30 t21) s)) fun t22 s =>
  oh (gd (wA t18 false) s (mp (aBin Tryd.prog .geq 3 t20 t22) s)) fun t23 s =>
  oh (mp (aPick t18 (.bool true) t23) s) fun t24 s =>
  br t24
    (oh (some ((.int .i64 0), s)) fun t6_2 s =>
  oh (some ((.int .i64 5), s)) fun t7_2 s =>
  some (.tup [t6_2, t7_2], s))
    (oh (some (t8.strip, s)) fun t25 s =>
  oh (mp (aAddr 0 t4) s) fun t26 s =>
  oh (aLoad false false 1 t26 s) fun t27 s =>
  oh (mp (aIndexAddr Tryd.prog 30 t25 t27) s) fun t28 s =>
  oh (aLoad false false 1 t28 s) fun t29 s =>
  oh (some (t29, s)) fun t9 s =>
  oh (some ((.int .i64 0), s)) fun t10 s =>
  aLoop (F28_L0 D n) n (upds (argEnv [t0, t1, t2]) [(4, t4), (6, t6), (7, t7), (13, t13), (14, t14), (14, t14.strip), (8, t8), (15, t15), (16, t16), (17, t17), (18, t18), (19, t19), (20, t20), (21, t21), (22, t22), (23, t23), (24, t24), (25, t25), (26, t26), (27, t27), (28, t28), (29, t29), (29, t29.strip), (9, t9), (10, t10)]) s)

theorem F28_eq (n : Nat) (t0 t1 t2 : AV) (s : Heap) : den C (n + 1) 28 [t0, t1, t2] s = F28 (den C n) n t0 t1 t2 s :=
  (den_body rfl Tryd.func28 _ _).trans (by kernel_rfl)
theorem en28 : enterable Tryd.prog 28 = true := by kernel_rfl

-- position.runeWidth
noncomputable def F29 (D : Den) (n : Nat) (t0 : AV) (s : Heap) : Ans :=
  oh (some ((.int .i64 0), s)) fun t2 s =>
  oh (some ((.int .i64 1), s)) fun t2_2 s =>
  some (t2_2, s)

theorem F29_eq (n : Nat) (t0 : AV) (s : Heap) : den C (n + 1) 29 [t0] s = F29 (den C n) n t0 s :=
  (den_body rfl Tryd.func29 _ _).trans (by kernel_rfl)
theorem en29 : enterable Tryd.prog 29 = true := by kernel_rfl

end PosF
