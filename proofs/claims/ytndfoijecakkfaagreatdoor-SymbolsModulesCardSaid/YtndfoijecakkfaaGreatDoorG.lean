/- AstF, AstT, AstU, AstV, AstW, AstC0, AstA, AstB, AstC, AstD, AstG -/
import Derived.Test.YtndfoijecakkfaaGreatDoorC
import Derived.Test.YtndfoijecakkfaaGreatDoorD
import Derived.Test.YtndfoijecakkfaaGreatDoorP
import Derived.Test.YtndfoijecakkfaaGreatDoorE
import Derived.Test.YtndfoijecakkfaaGreatDoorB
import Derived.Test.YtndfoijecakkfaaGreatDoorL
set_option linter.all false
set_option maxRecDepth 100000
set_option maxHeartbeats 1000000

section
namespace vy
open Go Go.Abs Go.Proofs ParF
-- ast.extend
noncomputable def zj (D:a8)(n:Nat)(e:Env)(s:ag):aU :=
 oh (some ((e 0).aa,s)) fun t15 s =>oh (some ((e 2).aa,s)) fun t16 s =>oh (mp (au t15) s) fun t17 s =>oh (mp (aD 4 t17) s) fun t18 s =>oh (dZ (aB 1 s t18 t16)) fun _r s =>
 some (.aI [],s)
noncomputable def F68 (D:a8)(n:Nat)(t0 t1 t2:AV)(s:ag):aU :=
 oh (some (t0.aa,s)) fun t6 s =>oh (mp (au t6) s) fun t7 s =>oh (mp (aD 4 t7) s) fun t8 s =>oh (af false false 1 t8 s) fun t9 s =>oh (mp (aK Tryz.prog .lss 3 t9 (.int .i64 0)) s) fun t10 s =>
 br t10 (oh (some (t0.aa,s)) fun t11 s =>oh (some (t1.aa,s)) fun t12 s =>oh (mp (au t11) s) fun t13 s =>oh (mp (aD 3 t13) s) fun t14 s =>oh (dZ (aB 1 s t14 t12)) fun _r s =>
 zj D n (bf (aH [t0,t1,t2]) [(6,t6),(7,t7),(8,t8),(9,t9),(10,t10),(11,t11),(12,t12),(13,t13),(14,t14),(12,t12.aa)]) s)
  (zj D n (bf (aH [t0,t1,t2]) [(6,t6),(7,t7),(8,t8),(9,t9),(10,t10)]) s)
theorem Ut (n:Nat)(t0 t1 t2:AV)(s:ag):den C (n+1) 68 [t0,t1,t2] s=F68 (den C n) n t0 t1 t2 s :=
 (am rfl Tryz.func68 _ _).trans (by kernel_rfl)
theorem ac4:ah Tryz.prog 68=true:=by kernel_rfl
-- (*ast.builder).report
noncomputable def Zx (D:a8)(n:Nat)(t0 t1 t2 t3:AV)(s:ag):aU :=
 oh (some (t0.aa,s)) fun t8 s =>oh (some (t0.aa,s)) fun t9 s =>oh (mp (au t9) s) fun t10 s =>oh (mp (aD 2 t10) s) fun t11 s =>oh (af false false 1 t11 s) fun t12 s =>oh (some (t1.aa,s)) fun t13 s =>oh (some (t2.aa,s)) fun t14 s =>oh (some (t3.aa,s)) fun t15 s =>oh (mp (bn Tryz.prog 71 [(0,t13),(2,t14),(3,t15)]) s) fun t16 s =>oh (mp (ak Tryz.prog 51 1 [(0,t16)]) s) fun t17 s =>oh (bA Tryz.prog 51 51 t12 t17 s) fun t18 s =>oh (mp (au t8) s) fun t19 s =>oh (mp (aD 2 t19) s) fun t20 s =>oh (dZ (aB 1 s t20 t18.aa)) fun _r s =>
 some (.aI [],s)
theorem OZ (n:Nat)(t0 t1 t2 t3:AV)(s:ag):den C (n+1) 110 [t0,t1,t2,t3] s=Zx (den C n) n t0 t1 t2 t3 s :=
 (am rfl Tryz.func110 _ _).trans (by kernel_rfl)
theorem Zy:ah Tryz.prog 110=true:=by kernel_rfl
-- (*ast.builder).identifier
noncomputable def uc (D:a8)(n:Nat)(e:Env)(s:ag):aU :=
 oh (some ((e 1).aa,s)) fun t18 s =>oh (mp (au t18) s) fun t19 s =>oh (mp (aD 0 t19) s) fun t20 s =>oh (af false false 1 t20 s) fun t21 s =>oh (ab Tryz.prog D 154 [t21.aa] s) fun t22 s =>oh (some (t22.aa,s)) fun t23 s =>oh (gd (wA t23 true) s (some ((e 1).aa,s))) fun t24 s =>oh (gd (wA t23 true) s (mp (au t24) s)) fun t25 s =>oh (gd (wA t23 true) s (mp (aD 5 t25) s)) fun t26 s =>oh (gd (wA t23 true) s (af false false 1 t26 s)) fun t27 s =>oh (gd (wA t23 true) s (mp (aK Tryz.prog .lss 3 t27 (.int .i64 0)) s)) fun t28 s =>oh (mp (bQ t23 t28 (.bool false)) s) fun t29 s =>
 br t29 (oh (some ((e 1).aa,s)) fun t30 s =>oh (some ((e 1).aa,s)) fun t31 s =>oh (some ((e 2).aa,s)) fun t32 s =>oh (some ((e 3).aa,s)) fun t33 s =>oh (mp (au t30) s) fun t34 s =>oh (mp (aD 2 t34) s) fun t35 s =>oh (dZ (aB 1 s t35 t32)) fun _r s =>oh (mp (au t31) s) fun t36 s =>oh (mp (aD 5 t36) s) fun t37 s =>oh (dZ (aB 1 s t37 t33)) fun _r s =>
 some (.aI [],s))
  (some (.aI [],s))
noncomputable def Uu (D:a8)(n:Nat)(t0 t1 t2 t3:AV)(s:ag):aU :=
 oh (some (t2.aa,s)) fun t8 s =>oh (mp (bN Tryz.prog 9 t8) s) fun t9 s =>oh (mp (aK Tryz.prog .gtr 3 t9 (.int .i64 30)) s) fun t10 s =>
 br t10 (oh (some (t0.aa,s)) fun t11 s =>oh (some (t3.aa,s)) fun t12 s =>oh (some (t0.aa,s)) fun t13 s =>oh (mp (au t13) s) fun t14 s =>oh (mp (aD 1 t14) s) fun t15 s =>oh (af false false 1 t15 s) fun t16 s =>oh (ab Tryz.prog D 110 [t11.aa,(.int .i64 5),t12.aa,t16.aa] s) fun t17 s =>
 uc D n (bf (aH [t0,t1,t2,t3]) [(8,t8),(9,t9),(10,t10),(11,t11),(12,t12),(13,t13),(14,t14),(15,t15),(16,t16),(17,t17)]) s)
  (uc D n (bf (aH [t0,t1,t2,t3]) [(8,t8),(9,t9),(10,t10)]) s)
theorem E_ (n:Nat)(t0 t1 t2 t3:AV)(s:ag):den C (n+1) 111 [t0,t1,t2,t3] s=Uu (den C n) n t0 t1 t2 t3 s :=
 (am rfl Tryz.func111 _ _).trans (by kernel_rfl)
theorem Ru:ah Tryz.prog 111=true:=by kernel_rfl
-- (*ast.builder).integer
noncomputable def Uv (D:a8)(n:Nat)(t0 t1 t2:AV)(s:ag):aU :=
 oh (some ((.int .i64 0),s)) fun t6 s =>oh (some (t1.aa,s)) fun t10 s =>oh (ab Tryz.prog D 155 [t10.aa] s) fun t11 s =>oh (some (t11.aa,s)) fun t9 s =>oh (mp (bW 0 t9) s) fun t12 s =>oh (mp (bW 1 t9) s) fun t13 s =>oh (some (t12,s)) fun t7 s =>oh (some (t13,s)) fun t8 s =>oh (some (t8.aa,s)) fun t14 s =>oh (mp (kC Tryz.prog .neq 181 t14 .gA) s) fun t15 s =>oh (some (t15.aa,s)) fun t16 s =>oh (gd (wA t16 false) s (some (t7.aa,s))) fun t17 s =>oh (gd (wA t16 false) s (mp (aK Tryz.prog .gtr 3 t17 (.int .i64 2147483647)) s)) fun t18 s =>oh (mp (bQ t16 (.bool true) t18) s) fun t19 s =>
 br t19 (oh (some (t0.aa,s)) fun t20 s =>oh (some (t2.aa,s)) fun t21 s =>oh (some (t0.aa,s)) fun t22 s =>oh (mp (au t22) s) fun t23 s =>oh (mp (aD 1 t23) s) fun t24 s =>oh (af false false 1 t24 s) fun t25 s =>oh (ab Tryz.prog D 110 [t20.aa,(.int .i64 4),t21.aa,t25.aa] s) fun t26 s =>oh (some ((.int .i64 2147483647),s)) fun rM s =>
 some (rM,s)) (oh (some (t7.aa,s)) fun t27 s =>oh (some (t27,s)) fun Uw s =>
 some (Uw,s))
theorem E' (n:Nat)(t0 t1 t2:AV)(s:ag):den C (n+1) 112 [t0,t1,t2] s=Uv (den C n) n t0 t1 t2 s :=
 (am rfl Tryz.func112 _ _).trans (by kernel_rfl)
theorem Rv:ah Tryz.prog 112=true:=by kernel_rfl
-- (*strings.Builder).WriteByte
noncomputable def Zz (D:a8)(n:Nat)(t0 t1:AV)(s:ag):aU :=
 oh (some (.gA,s)) fun t4 s =>oh (some (t0.aa,s)) fun t5 s =>oh (ab Tryz.prog D 193 [t5.aa] s) fun t6 s =>oh (some (t0.aa,s)) fun t7 s =>oh (some (t0.aa,s)) fun t8 s =>oh (mp (au t8) s) fun t9 s =>oh (mp (aD 1 t9) s) fun t10 s =>oh (af true false 1 t10 s) fun t11 s =>oh (some (t1.aa,s)) fun t12 s =>oh (mp (ak Tryz.prog 185 1 [(0,t12)]) s) fun t13 s =>oh (mp (eB Tryz.prog 185 185 t11 t13) s) fun t14 s =>oh (mp (au t7) s) fun t15 s =>oh (mp (aD 1 t15) s) fun t16 s =>oh (dZ (aB 1 s t16 t14)) fun _r s =>oh (some (.gA,s)) fun t4_2 s =>
 some (t4_2,s)
theorem O0 (n:Nat)(t0 t1:AV)(s:ag):den C (n+1) 156 [t0,t1] s=Zz (den C n) n t0 t1 s :=
 (am rfl Tryz.func156 _ _).trans (by kernel_rfl)
theorem ZA:ah Tryz.prog 156=true:=by kernel_rfl
-- (*ast.builder).unquote
noncomputable def kM (D:a8)(n:Nat)(k0:Env→ag→aU)(e:Env)(s:ag):aU :=
 oh (some ((e 9).aa,s)) fun t43 s =>oh (ab Tryz.prog D 156 [(e 7).aa,t43.aa] s) fun t44 s =>oh (some ((e 8).aa,s)) fun t15 s =>oh (mp (aK Tryz.prog .add 3 t15 (.int .i64 1)) s) fun t16 s =>oh (some (t16,s)) fun t8_2 s =>
 k0 (bf e [(43,t43),(44,t44),(15,t15),(16,t16),(16,t16.aa),(8,t8_2)]) s
noncomputable def qI (D:a8)(n:Nat)(k0:Env→ag→aU)(e:Env)(s:ag):aU :=
 br (e 40)
  (kM D n k0 e s) (oh (some ((e 0).aa,s)) fun t28 s =>oh (some ((e 2).aa,s)) fun t29 s =>oh (some ((e 8).aa,s)) fun t30 s =>oh (mp (aK Tryz.prog .add 3 t29 t30) s) fun t31 s =>oh (mp (aK Tryz.prog .sub 3 t31 (.int .i64 1)) s) fun t32 s =>oh (some ((e 2).aa,s)) fun t33 s =>oh (some ((e 8).aa,s)) fun t34 s =>oh (mp (aK Tryz.prog .add 3 t33 t34) s) fun t35 s =>oh (mp (aK Tryz.prog .add 3 t35 (.int .i64 1)) s) fun t36 s =>oh (ab Tryz.prog D 110 [t28.aa,(.int .i64 6),t32.aa,t36.aa] s) fun t37 s =>
 kM D n k0 (bf e [(28,t28),(29,t29),(30,t30),(31,t31),(32,t32),(33,t33),(34,t34),(35,t35),(36,t36),(37,t37)]) s)
noncomputable def jB (D:a8)(n:Nat)(k0:Env→ag→aU)(e:Env)(s:ag):aU :=
 oh (some ((e 8).aa,s)) fun t10 s =>oh (some ((e 1).aa,s)) fun t11 s =>oh (mp (bN Tryz.prog 9 t11) s) fun t12 s =>oh (mp (aK Tryz.prog .sub 3 t12 (.int .i64 1)) s) fun t13 s =>oh (mp (aK Tryz.prog .lss 3 t10 t13) s) fun t14 s =>
 br t14 (oh (some ((e 1).aa,s)) fun t17 s =>oh (some ((e 8).aa,s)) fun t18 s =>oh (mp (gC Tryz.prog 9 t17 t18) s) fun t19 s =>oh (some (t19,s)) fun t9 s =>oh (some (t9.aa,s)) fun t20 s =>oh (mp (aK Tryz.prog .eql 5 t20 (.int .u8 92)) s) fun t21 s =>
 br t21 (oh (some ((e 8).aa,s)) fun t22 s =>oh (mp (aK Tryz.prog .add 3 t22 (.int .i64 1)) s) fun t23 s =>oh (some (t23,s)) fun O1 s =>oh (some ((e 1).aa,s)) fun t24 s =>oh (some (O1.aa,s)) fun t25 s =>oh (mp (gC Tryz.prog 9 t24 t25) s) fun t26 s =>oh (some (t26,s)) fun O2 s =>oh (some (O2.aa,s)) fun t27 s =>oh (mp (aK Tryz.prog .eql 5 t27 (.int .u8 110)) s) fun t39 s =>oh (some (t39,s)) fun t38 s =>
 br t38 (oh (some ((.int .u8 10),s)) fun ac5 s =>
 kM D n k0 (bf e [(10,t10),(11,t11),(12,t12),(13,t13),(14,t14),(17,t17),(18,t18),(19,t19),(19,t19.aa),(9,t9),(20,t20),(21,t21),(22,t22),(23,t23),(23,t23.aa),(8,O1),(24,t24),(25,t25),(26,t26),(26,t26.aa),(9,O2),(27,t27),(39,t39),(39,t39.aa),(38,t38),(9,ac5)]) s) (oh (mp (aK Tryz.prog .eql 5 t27 (.int .u8 34)) s) fun t41 s =>oh (some (t41,s)) fun t40 s =>
 br t40
  (qI D n k0 (bf e [(10,t10),(11,t11),(12,t12),(13,t13),(14,t14),(17,t17),(18,t18),(19,t19),(19,t19.aa),(9,t9),(20,t20),(21,t21),(22,t22),(23,t23),(23,t23.aa),(8,O1),(24,t24),(25,t25),(26,t26),(26,t26.aa),(9,O2),(27,t27),(39,t39),(39,t39.aa),(38,t38),(41,t41),(41,t41.aa),(40,t40)]) s) (oh (mp (aK Tryz.prog .eql 5 t27 (.int .u8 92)) s) fun t42 s =>oh (some (t42,s)) fun Kf s =>
 qI D n k0 (bf e [(10,t10),(11,t11),(12,t12),(13,t13),(14,t14),(17,t17),(18,t18),(19,t19),(19,t19.aa),(9,t9),(20,t20),(21,t21),(22,t22),(23,t23),(23,t23.aa),(8,O1),(24,t24),(25,t25),(26,t26),(26,t26.aa),(9,O2),(27,t27),(39,t39),(39,t39.aa),(38,t38),(41,t41),(41,t41.aa),(40,t40),(42,t42),(42,t42.aa),(40,Kf)]) s)))
  (kM D n k0 (bf e [(10,t10),(11,t11),(12,t12),(13,t13),(14,t14),(17,t17),(18,t18),(19,t19),(19,t19.aa),(9,t9),(20,t20),(21,t21)]) s)) (oh (ab Tryz.prog D 157 [(e 7).aa] s) fun t45 s =>oh (some (t45,s)) fun rM s =>
 some (rM,s))
noncomputable def ZB (D:a8)(n:Nat)(t0 t1 t2:AV)(s:ag):aU :=
 oh (some ((.str []),s)) fun t6 s =>oh (bH Tryz.prog 187 s) fun t7 s =>oh (some ((.int .i64 1),s)) fun t8 s =>
 aJ (jB D n) n (bf (aH [t0,t1,t2]) [(6,t6),(7,t7),(8,t8)]) s
theorem O3 (n:Nat)(t0 t1 t2:AV)(s:ag):den C (n+1) 113 [t0,t1,t2] s=ZB (den C n) n t0 t1 t2 s :=
 (am rfl Tryz.func113 _ _).trans (by kernel_rfl)
theorem ZC:ah Tryz.prog 113=true:=by kernel_rfl
-- ast.setFlag
noncomputable def ZD (D:a8)(n:Nat)(t0 t1:AV)(s:ag):aU :=
 oh (some (t1.aa,s)) fun t5 s =>oh (mp (aK Tryz.prog .eql 9 t5 (.str [112,117,98])) s) fun t6 s =>oh (some (t6,s)) fun t4 s =>
 br t4 (oh (some (t0.aa,s)) fun t7 s =>oh (mp (au t7) s) fun t8 s =>oh (mp (aD 1 t8) s) fun t9 s =>oh (af false false 1 t9 s) fun t10 s =>oh (mp (aK Tryz.prog .or 3 t10 (.int .i64 1)) s) fun t11 s =>oh (mp (au t7) s) fun t12 s =>oh (mp (aD 1 t12) s) fun t13 s =>oh (dZ (aB 1 s t13 t11)) fun _r s =>
 some (.aI [],s)) (oh (some (t1.aa,s)) fun t15 s =>oh (mp (aK Tryz.prog .eql 9 t15 (.str [109,117,116])) s) fun t16 s =>oh (some (t16,s)) fun t14 s =>
 br t14 (oh (some (t0.aa,s)) fun t17 s =>oh (mp (au t17) s) fun t18 s =>oh (mp (aD 1 t18) s) fun t19 s =>oh (af false false 1 t19 s) fun t20 s =>oh (mp (aK Tryz.prog .or 3 t20 (.int .i64 1)) s) fun t21 s =>oh (mp (au t17) s) fun t22 s =>oh (mp (aD 1 t22) s) fun t23 s =>oh (dZ (aB 1 s t23 t21)) fun _r s =>
 some (.aI [],s)) (oh (some (t1.aa,s)) fun t25 s =>oh (mp (aK Tryz.prog .eql 9 t25 (.str [42])) s) fun t26 s =>oh (some (t26.aa,s)) fun t27 s =>oh (gd (wA t27 true) s (some (t0.aa,s))) fun t28 s =>oh (gd (wA t27 true) s (mp (au t28) s)) fun t29 s =>oh (gd (wA t27 true) s (mp (aD 0 t29) s)) fun t30 s =>oh (gd (wA t27 true) s (af false false 1 t30 s)) fun t31 s =>oh (gd (wA t27 true) s (mp (aK Tryz.prog .eql 3 t31 (.int .i64 2)) s)) fun t32 s =>oh (mp (bQ t27 t32 (.bool false)) s) fun t33 s =>oh (some (t33,s)) fun t24 s =>
 br t24 (oh (some (t0.aa,s)) fun t34 s =>oh (mp (au t34) s) fun t35 s =>oh (mp (aD 1 t35) s) fun t36 s =>oh (af false false 1 t36 s) fun t37 s =>oh (mp (aK Tryz.prog .or 3 t37 (.int .i64 2)) s) fun t38 s =>oh (mp (au t34) s) fun t39 s =>oh (mp (aD 1 t39) s) fun t40 s =>oh (dZ (aB 1 s t40 t38)) fun _r s =>
 some (.aI [],s)) (oh (some (t1.aa,s)) fun t42 s =>oh (mp (aK Tryz.prog .eql 9 t42 (.str [116,114,117,101])) s) fun t43 s =>oh (some (t43.aa,s)) fun t44 s =>oh (gd (wA t44 true) s (some (t0.aa,s))) fun t45 s =>oh (gd (wA t44 true) s (mp (au t45) s)) fun t46 s =>oh (gd (wA t44 true) s (mp (aD 0 t46) s)) fun t47 s =>oh (gd (wA t44 true) s (af false false 1 t47 s)) fun t48 s =>oh (gd (wA t44 true) s (mp (aK Tryz.prog .eql 3 t48 (.int .i64 28)) s)) fun t49 s =>oh (mp (bQ t44 t49 (.bool false)) s) fun t50 s =>oh (some (t50,s)) fun t41 s =>
 br t41 (oh (some (t0.aa,s)) fun t51 s =>oh (mp (au t51) s) fun t52 s =>oh (mp (aD 1 t52) s) fun t53 s =>oh (dZ (aB 1 s t53 (.int .i64 1))) fun _r s =>
 some (.aI [],s)) (oh (some (t0.aa,s)) fun t55 s =>oh (mp (au t55) s) fun t56 s =>oh (mp (aD 0 t56) s) fun t57 s =>oh (af false false 1 t57 s) fun t58 s =>oh (mp (aK Tryz.prog .eql 3 t58 (.int .i64 39)) s) fun t59 s =>oh (some (t59.aa,s)) fun t60 s =>oh (gd (wA t60 false) s (some (t0.aa,s))) fun t61 s =>oh (gd (wA t60 false) s (mp (au t61) s)) fun t62 s =>oh (gd (wA t60 false) s (mp (aD 0 t62) s)) fun t63 s =>oh (gd (wA t60 false) s (af false false 1 t63 s)) fun t64 s =>oh (gd (wA t60 false) s (mp (aK Tryz.prog .eql 3 t64 (.int .i64 40)) s)) fun t65 s =>oh (mp (bQ t60 (.bool true) t65) s) fun t66 s =>oh (some (t66.aa,s)) fun t67 s =>oh (gd (wA t67 true) s (some (t0.aa,s))) fun t68 s =>oh (gd (wA t67 true) s (mp (au t68) s)) fun t69 s =>oh (gd (wA t67 true) s (mp (aD 2 t69) s)) fun t70 s =>oh (gd (wA t67 true) s (af false false 1 t70 s)) fun t71 s =>oh (gd (wA t67 true) s (mp (aK Tryz.prog .eql 9 t71 (.str [])) s)) fun t72 s =>oh (mp (bQ t67 t72 (.bool false)) s) fun t73 s =>oh (some (t73,s)) fun t54 s =>
 br t54 (oh (some (t0.aa,s)) fun t74 s =>oh (some (t1.aa,s)) fun t75 s =>oh (mp (au t74) s) fun t76 s =>oh (mp (aD 2 t76) s) fun t77 s =>oh (dZ (aB 1 s t77 t75)) fun _r s =>
 some (.aI [],s))
  (some (.aI [],s))))))
theorem O4 (n:Nat)(t0 t1:AV)(s:ag):den C (n+1) 114 [t0,t1] s=ZD (den C n) n t0 t1 s :=
 (am rfl Tryz.func114 _ _).trans (by kernel_rfl)
theorem ZE:ah Tryz.prog 114=true:=by kernel_rfl
-- ast.hasName
theorem ZF:ah Tryz.prog 154=true:=by kernel_rfl
-- slices.Contains   int,int
-- slices.Index   int,int
-- (*ast.builder).token
noncomputable def pe (D:a8)(n:Nat)(e:Env)(s:ag):aU :=
 oh (some ((e 1).aa,s)) fun t74 s =>oh (some ((e 6).aa,s)) fun t75 s =>oh (some ((e 0).aa,s)) fun t76 s =>oh (mp (au t76) s) fun t77 s =>oh (mp (aD 1 t77) s) fun t78 s =>oh (af false false 1 t78 s) fun t79 s =>oh (ab Tryz.prog D 68 [t74.aa,t75.aa,t79.aa] s) fun t80 s =>
 some (.aI [],s)
noncomputable def kh (D:a8)(n:Nat)(e:Env)(s:ag):aU :=
 br (e 27)
  (some (.aI [],s)) (oh (mp (aK Tryz.prog .eql 3 (e 22) (.int .i64 108)) s) fun t31 s =>oh (some (t31,s)) fun t30 s =>
 br t30 (oh (mp (aD 1 (e 5)) s) fun t32 s =>oh (af false false 1 t32 s) fun t33 s =>oh (mp (aK Tryz.prog .eql 9 t33 (.str [])) s) fun t34 s =>
 br t34 (oh (some ((e 0).aa,s)) fun t35 s =>oh (some ((e 6).aa,s)) fun t36 s =>oh (some ((e 6).aa,s)) fun t37 s =>oh (ab Tryz.prog D 110 [t35.aa,(.int .i64 1),t36.aa,t37.aa] s) fun t38 s =>
 some (.aI [],s)) (oh (some ((e 0).aa,s)) fun t39 s =>oh (some ((e 6).aa,s)) fun t40 s =>oh (some ((e 0).aa,s)) fun t41 s =>oh (mp (au t41) s) fun t42 s =>oh (mp (aD 1 t42) s) fun t43 s =>oh (af false false 1 t43 s) fun t44 s =>oh (ab Tryz.prog D 110 [t39.aa,(.int .i64 3),t40.aa,t44.aa] s) fun t45 s =>
 pe D n (bf e [(31,t31),(31,t31.aa),(30,t30),(32,t32),(33,t33),(34,t34),(39,t39),(40,t40),(41,t41),(42,t42),(43,t43),(44,t44),(45,t45)]) s)) (oh (mp (aK Tryz.prog .eql 3 (e 22) (.int .i64 103)) s) fun t47 s =>oh (some (t47,s)) fun t46 s =>
 br t46 (oh (some ((e 0).aa,s)) fun t48 s =>oh (some ((e 1).aa,s)) fun t49 s =>oh (mp (aD 1 (e 5)) s) fun t50 s =>oh (af false false 1 t50 s) fun t51 s =>oh (some ((e 6).aa,s)) fun t52 s =>oh (ab Tryz.prog D 111 [t48.aa,t49.aa,t51.aa,t52.aa] s) fun t53 s =>
 pe D n (bf e [(31,t31),(31,t31.aa),(30,t30),(47,t47),(47,t47.aa),(46,t46),(48,t48),(49,t49),(50,t50),(51,t51),(52,t52),(53,t53)]) s) (oh (mp (aK Tryz.prog .eql 3 (e 22) (.int .i64 105)) s) fun t55 s =>oh (some (t55,s)) fun t54 s =>
 br t54 (oh (some ((e 1).aa,s)) fun t56 s =>oh (some ((e 0).aa,s)) fun t57 s =>oh (mp (aD 1 (e 5)) s) fun t58 s =>oh (af false false 1 t58 s) fun t59 s =>oh (some ((e 6).aa,s)) fun t60 s =>oh (ab Tryz.prog D 112 [t57.aa,t59.aa,t60.aa] s) fun t61 s =>oh (mp (au t56) s) fun t62 s =>oh (mp (aD 1 t62) s) fun t63 s =>oh (dZ (aB 1 s t63 t61)) fun _r s =>
 pe D n (bf e [(31,t31),(31,t31.aa),(30,t30),(47,t47),(47,t47.aa),(46,t46),(55,t55),(55,t55.aa),(54,t54),(56,t56),(57,t57),(58,t58),(59,t59),(60,t60),(61,t61),(62,t62),(63,t63),(61,t61.aa)]) s) (oh (mp (aK Tryz.prog .eql 3 (e 22) (.int .i64 106)) s) fun t65 s =>oh (some (t65,s)) fun t64 s =>
 br t64 (oh (some ((e 1).aa,s)) fun t66 s =>oh (some ((e 0).aa,s)) fun t67 s =>oh (mp (aD 1 (e 5)) s) fun t68 s =>oh (af false false 1 t68 s) fun t69 s =>oh (some ((e 6).aa,s)) fun t70 s =>oh (ab Tryz.prog D 113 [t67.aa,t69.aa,t70.aa] s) fun t71 s =>oh (mp (au t66) s) fun t72 s =>oh (mp (aD 2 t72) s) fun t73 s =>oh (dZ (aB 1 s t73 t71)) fun _r s =>
 pe D n (bf e [(31,t31),(31,t31.aa),(30,t30),(47,t47),(47,t47.aa),(46,t46),(55,t55),(55,t55.aa),(54,t54),(65,t65),(65,t65.aa),(64,t64),(66,t66),(67,t67),(68,t68),(69,t69),(70,t70),(71,t71),(72,t72),(73,t73),(71,t71.aa)]) s) (oh (some ((e 1).aa,s)) fun t23 s =>oh (mp (aD 1 (e 5)) s) fun t24 s =>oh (af false false 1 t24 s) fun t25 s =>oh (ab Tryz.prog D 114 [t23.aa,t25.aa] s) fun t26 s =>
 pe D n (bf e [(31,t31),(31,t31.aa),(30,t30),(47,t47),(47,t47.aa),(46,t46),(55,t55),(55,t55.aa),(54,t54),(65,t65),(65,t65.aa),(64,t64),(23,t23),(24,t24),(25,t25),(26,t26)]) s)))))
noncomputable def F67 (D:a8)(n:Nat)(t0 t1 t2:AV)(s:ag):aU :=
 oh (cL false 89 t2 s) fun t5 s =>oh (some (t0.aa,s)) fun t7 s =>oh (mp (au t7) s) fun t8 s =>oh (mp (aD 1 t8) s) fun t9 s =>oh (af false false 1 t9 s) fun t10 s =>oh (some (t10,s)) fun t6 s =>oh (some (t0.aa,s)) fun t11 s =>oh (mp (au t11) s) fun t12 s =>oh (mp (aD 1 t12) s) fun t13 s =>oh (af false false 1 t13 s) fun t14 s =>oh (mp (aD 1 t5) s) fun t15 s =>oh (af false false 1 t15 s) fun t16 s =>oh (mp (bN Tryz.prog 9 t16) s) fun t17 s =>oh (mp (aK Tryz.prog .add 3 t14 t17) s) fun t18 s =>oh (mp (au t11) s) fun t19 s =>oh (mp (aD 1 t19) s) fun t20 s =>oh (dZ (aB 1 s t20 t18)) fun _r s =>
 ba C 67 (bo Tryz.f67 2) [.ae,.ae,.ae,(bz false t13),.ae,(bz false t15),.ae,.ae,.ae,.ae,(fQ t20)] <|
 oh (mp (aD 0 t5) s) fun t21 s =>oh (af false false 1 t21 s) fun t22 s =>oh (mp (aK Tryz.prog .eql 3 t22 (.int .i64 101)) s) fun t28 s =>oh (some (t28,s)) fun t27 s =>
 br t27
  (kh D n (bf (aH [t0,t1,t2]) [(5,t5),(7,t7),(8,t8),(9,t9),(10,t10),(10,t10.aa),(6,t6),(11,t11),(12,t12),(13,t13),(14,t14),(15,t15),(16,t16),(17,t17),(18,t18),(19,t19),(20,t20),(18,t18.aa),(21,t21),(22,t22),(28,t28),(28,t28.aa),(27,t27)]) s) (oh (mp (aK Tryz.prog .eql 3 t22 (.int .i64 102)) s) fun t29 s =>oh (some (t29,s)) fun ZG s =>
 kh D n (bf (aH [t0,t1,t2]) [(5,t5),(7,t7),(8,t8),(9,t9),(10,t10),(10,t10.aa),(6,t6),(11,t11),(12,t12),(13,t13),(14,t14),(15,t15),(16,t16),(17,t17),(18,t18),(19,t19),(20,t20),(18,t18.aa),(21,t21),(22,t22),(28,t28),(28,t28.aa),(27,t27),(29,t29),(29,t29.aa),(27,ZG)]) s)
theorem Kg (n:Nat)(t0 t1 t2:AV)(s:ag):den C (n+1) 67 [t0,t1,t2] s=F67 (den C n) n t0 t1 t2 s :=
 (am rfl Tryz.func67 _ _).trans (by kernel_rfl)
theorem Kh {g0:Nat}(a:Nat)(x:aU):ba C 67 (bo Tryz.f67 2) [.ae,.ae,.ae,.get g0,.ae,.ae,.ae,.ae,.ae,.ae,.put a] x=x:=dU (a:=a) (b:=a+1) (ks0:=[.ae,.ae,.ae,.cU,.ae,.ae,.ae,.ae,.ae,.ae,.put 0]) (by omega) (by kernel_rfl) rfl
theorem ZH:ah Tryz.prog 67=true:=by kernel_rfl
-- (*ast.builder).finish
noncomputable def zk (D:a8)(n:Nat)(e:Env)(s:ag):aU :=
 oh (some ((e 0).aa,s)) fun t29 s =>oh (some ((e 6).aa,s)) fun t30 s =>oh (mp (aD 3 (e 3)) s) fun t31 s =>oh (af false false 1 t31 s) fun t32 s =>oh (mp (aD 4 (e 3)) s) fun t33 s =>oh (af false false 1 t33 s) fun t34 s =>oh (ab Tryz.prog D 110 [t29.aa,t30.aa,t32.aa,t34.aa] s) fun t35 s =>oh (some ((e 0).aa,s)) fun t36 s =>oh (mp (au t36) s) fun t37 s =>oh (mp (aD 0 t37) s) fun t38 s =>oh (af false false 1 t38 s) fun t39 s =>oh (mp (aD 3 (e 3)) s) fun t40 s =>oh (af false false 1 t40 s) fun t41 s =>oh (mp (aD 4 (e 3)) s) fun t42 s =>oh (af false false 1 t42 s) fun t43 s =>oh (mp (mL Tryz.prog 9 t39 (some t41) (some t43) none) s) fun t44 s =>oh (mp (aD 3 (e 3)) s) fun t45 s =>oh (af false false 1 t45 s) fun t46 s =>oh (mp (aD 4 (e 3)) s) fun t47 s =>oh (af false false 1 t47 s) fun t48 s =>oh (mp (bn Tryz.prog 58 [(0,(.int .i64 46)),(2,t44),(3,t46),(4,t48),(5,(.int .i64 (-1)))]) s) fun t49 s =>oh (dZ (aB 7 s (e 4) t49)) fun _r s =>
 ba C 69 (bo Tryz.f69 11) [.ae,.ae,.ae,(bz false t38),.ae,(bz false t40),.ae,(bz false t42),.ae,.ae,(bz false t45),.ae,(bz false t47),.ae,(fQ (e 4))] <|
 uU ((af false true 7 (e 4) s).map (·.1)) s
noncomputable def F69 (D:a8)(n:Nat)(t0 t1:AV)(s:ag):aU :=
 oh (cL false 58 t1 s) fun t3 s =>oh (bH Tryz.prog 58 s) fun t4 s =>oh (mp (aD 0 t3) s) fun t7 s =>oh (af false false 1 t7 s) fun t8 s =>oh (mp (aK Tryz.prog .eql 3 t8 (.int .i64 60)) s) fun t10 s =>oh (some (t10,s)) fun t9 s =>
 br t9 (oh (mp (aD 6 t3) s) fun t11 s =>oh (af false false 1 t11 s) fun t12 s =>oh (mp (aA Tryz.prog 50 t12 (.int .i64 0)) s) fun t13 s =>oh (af false true 7 t13 s) fun t14 s =>oh (bH Tryz.prog 58 s) fun t5 s =>oh (dZ (aB 7 s t5 t14)) fun _r s =>oh (mp (aD 3 t3) s) fun t15 s =>oh (af false false 1 t15 s) fun t16 s =>oh (mp (aD 4 t3) s) fun t17 s =>oh (af false false 1 t17 s) fun t18 s =>oh (mp (aD 3 t5) s) fun t19 s =>oh (dZ (aB 1 s t19 t16)) fun _r s =>oh (mp (aD 4 t5) s) fun t20 s =>oh (dZ (aB 1 s t20 t18)) fun _r s =>
 ba C 69 (bo Tryz.f69 4) [.ae,(bz false t15),.ae,(bz false t17),.ae,(fQ t19),.ae,(fQ t20)] <|
 oh (af false true 7 t5 s) fun t21 s =>oh (dZ (aB 7 s t4 t21)) fun _r s =>
 uU ((af false true 7 t4 s).map (·.1)) s) (oh (mp (aK Tryz.prog .eql 3 t8 (.int .i64 46)) s) fun t23 s =>oh (some (t23,s)) fun t22 s =>
 br t22 (oh (some ((.int .i64 2),s)) fun t6 s =>oh (mp (aD 3 t3) s) fun t24 s =>oh (af false false 1 t24 s) fun t25 s =>oh (mp (aD 4 t3) s) fun t26 s =>oh (af false false 1 t26 s) fun t27 s =>oh (mp (aK Tryz.prog .eql 3 t25 t27) s) fun t28 s =>
 br t28 (oh (some ((.int .i64 1),s)) fun rM s =>
 zk D n (bf (aH [t0,t1]) [(3,t3),(4,t4),(7,t7),(8,t8),(10,t10),(10,t10.aa),(9,t9),(23,t23),(23,t23.aa),(22,t22),(6,t6),(24,t24),(25,t25),(26,t26),(27,t27),(28,t28),(6,rM)]) s)
  (zk D n (bf (aH [t0,t1]) [(3,t3),(4,t4),(7,t7),(8,t8),(10,t10),(10,t10.aa),(9,t9),(23,t23),(23,t23.aa),(22,t22),(6,t6),(24,t24),(25,t25),(26,t26),(27,t27),(28,t28)]) s)) (oh (af false true 7 t3 s) fun t50 s =>oh (dZ (aB 7 s t4 t50)) fun _r s =>
 uU ((af false true 7 t4 s).map (·.1)) s))
theorem Dv (n:Nat)(t0 t1:AV)(s:ag):den C (n+1) 69 [t0,t1] s=F69 (den C n) n t0 t1 s :=
 (am rfl Tryz.func69 _ _).trans (by kernel_rfl)
theorem Ux {g0:Nat}(a:Nat)(x:aU):ba C 69 (bo Tryz.f69 11) [.ae,.ae,.ae,.get g0,.ae,.ae,.ae,.ae,.ae,.ae,.ae,.ae,.ae,.ae,.put a] x=x:=dU (a:=a) (b:=a+1) (ks0:=[.ae,.ae,.ae,.cU,.ae,.ae,.ae,.ae,.ae,.ae,.ae,.ae,.ae,.ae,.put 0]) (by omega) (by kernel_rfl) rfl
theorem Uy:ah Tryz.prog 69=true:=by kernel_rfl
-- (*ast.builder).node
noncomputable def zl (D:a8)(n:Nat)(k0:Env→ag→aU)(e:Env)(s:ag):aU :=
 oh (mp (aK Tryz.prog .add 3 (e 21) (.int .i64 1)) s) fun t47 s =>oh (some (t47.aa,s)) fun ZI s =>
 k0 (bf e [(47,t47),(21,ZI)]) s
noncomputable def pf (D:a8)(n:Nat)(k0:Env→ag→aU)(e:Env)(s:ag):aU :=
 oh (mp (aK Tryz.prog .lss 3 (e 21) (e 20)) s) fun t22 s =>
 br t22 (oh (mp (aA Tryz.prog 87 (e 19) (e 21)) s) fun t23 s =>oh (af false true 3 t23 s) fun t24 s =>oh (bH Tryz.prog 89 s) fun t8 s =>oh (dZ (aB 3 s t8 t24)) fun _r s =>oh (mp (aD 0 t8) s) fun t25 s =>oh (af false false 1 t25 s) fun t26 s =>oh (mp (aK Tryz.prog .geq 3 t26 (.int .i64 100)) s) fun t27 s =>
 br t27 (oh (some ((e 0).aa,s)) fun t28 s =>oh (af false true 3 t8 s) fun t29 s =>oh (ab Tryz.prog D 67 [t28.aa,(e 6).aa,t29.aa] s) fun t30 s =>
 zl D n k0 (bf e [(22,t22),(23,t23),(24,t24),(8,t8),(24,t24.aa),(25,t25),(26,t26),(27,t27),(28,t28),(29,t29),(30,t30)]) s) (oh (some ((e 0).aa,s)) fun t31 s =>oh (af false true 3 t8 s) fun t32 s =>oh (ab Tryz.prog D 47 [t31.aa,t32.aa] s) fun t33 s =>oh (bH Tryz.prog 58 s) fun t9 s =>oh (dZ (aB 7 s t9 t33)) fun _r s =>oh (mp (aD 3 t9) s) fun t34 s =>oh (af false false 1 t34 s) fun t35 s =>oh (mp (aD 4 t9) s) fun t36 s =>oh (af false false 1 t36 s) fun t37 s =>oh (ab Tryz.prog D 68 [(e 6).aa,t35.aa,t37.aa] s) fun t38 s =>oh (mp (aD 6 (e 6)) s) fun t39 s1 =>oh (af false false 1 t39 s1) fun t40 s2 =>oh (af false true 7 t9 s2) fun t41 s3 =>oh (mp (bN Tryz.prog 50 t40) s3) fun t42 s4 =>oh (mp (ak Tryz.prog 50 1 [(0,(.agg [(.int .i64 0),(.int .i64 0),(.str []),(.int .i64 0),(.int .i64 0),(.int .i64 0),.aN]))]) s4) fun t43 s5 =>oh (bA Tryz.prog 50 50 t40 t43 s5) fun t44 s6 =>oh (mp (aA Tryz.prog 50 t44 t42) s6) fun t45 s7 =>oh (dZ (aB 7 s7 t45 t41)) fun _r s8 =>oh (mp (aD 6 (e 6)) s8) fun t46 s9 =>oh (dZ (aB 1 s9 t46 t44.aa)) fun _r s10 =>
 ba C 47 (bo Tryz.f47 10) [.ae,(bz false t39),(bz false t9),.ae,.ae,(dyn (oS t40) s5 s6),.ae,(fQ t45),.ae,(fQ t46)] <|
 zl D n k0 (bf e [(22,t22),(23,t23),(24,t24),(8,t8),(24,t24.aa),(25,t25),(26,t26),(27,t27),(31,t31),(32,t32),(33,t33),(9,t9),(33,t33.aa),(34,t34),(35,t35),(36,t36),(37,t37),(38,t38),(39,t39),(40,t40),(41,t41),(42,t42),(43,t43),(40,t40.aa),(44,t44),(45,t45),(41,t41.aa),(46,t46)]) s10)) (oh (mp (aD 4 (e 6)) s) fun t48 s =>oh (af false false 1 t48 s) fun t49 s =>oh (mp (aD 3 (e 6)) s) fun t50 s =>oh (af false false 1 t50 s) fun t51 s =>oh (mp (Ik t49 t51) s) fun t52 s =>oh (mp (aD 4 (e 6)) s) fun t53 s =>oh (dZ (aB 1 s t53 t52)) fun _r s =>oh (some ((e 0).aa,s)) fun t54 s =>oh (wD (af false true 7 (e 6) s)) fun t55 s =>oh (ab Tryz.prog D 69 [t54.aa,t55.aa] s) fun t56 s =>oh (dZ (aB 7 s (e 4) t56)) fun _r s =>
 uU ((af false true 7 (e 4) s).map (·.1)) s)
noncomputable def F47 (D:a8)(n:Nat)(t0 t1:AV)(s:ag):aU :=
 oh (cL false 89 t1 s) fun t3 s =>oh (bH Tryz.prog 58 s) fun t4 s =>oh (some (t0.aa,s)) fun t10 s =>oh (mp (au t10) s) fun t11 s =>oh (mp (aD 1 t11) s) fun t12 s =>oh (af false false 1 t12 s) fun t13 s =>oh (some (t13,s)) fun t5 s =>oh (mp (aD 0 t3) s) fun t14 s =>oh (af false false 1 t14 s) fun t15 s =>oh (some (t5.aa,s)) fun t16 s =>oh (mp (bn Tryz.prog 58 [(0,t15),(3,t16),(4,(.int .i64 (-1))),(5,(.int .i64 (-1)))]) s) fun t17 s =>oh (bH Tryz.prog 58 s) fun t6 s =>oh (dZ (aB 7 s t6 t17)) fun _r s =>oh (mp (aD 2 t3) s) fun t18 s =>oh (af false false 1 t18 s) fun t19 s =>oh (mp (bN Tryz.prog 87 t19) s) fun t20 s =>oh (some ((.int .i64 0),s)) fun t21 s =>
 aJ (pf D n) n (bf (aH [t0,t1]) [(3,t3),(4,t4),(10,t10),(11,t11),(12,t12),(13,t13),(13,t13.aa),(5,t5),(14,t14),(15,t15),(16,t16),(17,t17),(6,t6),(17,t17.aa),(18,t18),(19,t19),(20,t20),(21,t21)]) s
theorem Uz (n:Nat)(t0 t1:AV)(s:ag):den C (n+1) 47 [t0,t1] s=F47 (den C n) n t0 t1 s :=
 (am rfl Tryz.func47 _ _).trans (by kernel_rfl)
theorem UA {g0 g1:Nat}{q0:Option Nat}(a b:Nat)(h:a≠b)(x:aU):ba C 47 (bo Tryz.f47 10) [.ae,.get g0,.get g1,.ae,.ae,.app q0,.ae,.put a,.ae,.put b] x=x:=dU (ks0:=[.ae,.cU,.cU,.ae,.ae,.bX,.ae,.put 0,.ae,.put 1]) h (by kernel_rfl) rfl
theorem ac6:ah Tryz.prog 47=true:=by kernel_rfl
-- ast.Parse
noncomputable def F31 (D:a8)(n:Nat)(t0:AV)(s:ag):aU :=
 oh (bH Tryz.prog 58 s) fun t2 s =>oh (some (.aN,s)) fun t3 s =>oh (some ((.int .i64 0),s)) fun t4 s =>oh (some (t0.aa,s)) fun t10 s =>oh (ab Tryz.prog D 46 [t10.aa] s) fun t11 s =>oh (some (t11.aa,s)) fun t9 s =>oh (mp (bW 0 t9) s) fun t12 s =>oh (mp (bW 1 t9) s) fun t13 s =>oh (bH Tryz.prog 89 s) fun t5 s =>oh (dZ (aB 3 s t5 t12)) fun _r s =>oh (some (t13,s)) fun t6 s =>oh (some (t6.aa,s)) fun t14 s =>oh (mp (aK Tryz.prog .neq 30 t14 (.int .i64 0)) s) fun t15 s =>
 br t15 (oh (mp (bn Tryz.prog 58 []) s) fun t16 s =>oh (some (t6.aa,s)) fun t17 s =>oh (dZ (aB 7 s t2 t16)) fun _r s =>oh (some (.aN,s)) fun lT s =>oh (some (t17,s)) fun t4_2 s =>
 uU ((wG [(af false true 7 t2 s).map (·.1),some lT,some t4_2]).map .aI) s) (oh (some (t0.aa,s)) fun t18 s =>oh (mp (bn Tryz.prog 94 [(0,t18)]) s) fun t19 s =>oh (cL true 94 t19 s) fun t20 s =>oh (some (t20,s)) fun t7 s =>oh (some (t7.aa,s)) fun t21 s =>oh (af false true 3 t5 s) fun t22 s =>oh (ab Tryz.prog D 47 [t21.aa,t22.aa] s) fun t23 s =>oh (bH Tryz.prog 58 s) fun t8 s =>oh (dZ (aB 7 s t8 t23)) fun _r s =>oh (some (t0.aa,s)) fun t24 s =>oh (mp (bN Tryz.prog 9 t24) s) fun t25 s =>oh (mp (aD 3 t8) s) fun t26 s =>oh (dZ (aB 1 s t26 (.int .i64 0))) fun _r s =>oh (mp (aD 4 t8) s) fun t27 s =>oh (dZ (aB 1 s t27 t25)) fun _r s =>oh (some (t7.aa,s)) fun t28 s =>oh (mp (au t28) s) fun t29 s =>oh (mp (aD 2 t29) s) fun t30 s =>oh (af false false 1 t30 s) fun t31 s =>oh (ab Tryz.prog D 48 [t31.aa,(.fn 49 [] [])] s) fun t32 s =>oh (af false true 7 t8 s) fun t33 s1 =>oh (some (t7.aa,s1)) fun t34 s2 =>oh (mp (au t34) s2) fun t35 s3 =>oh (mp (aD 2 t35) s3) fun t36 s4 =>oh (af false false 1 t36 s4) fun t37 s5 =>oh (ab Tryz.prog D 50 [t37.aa] s5) fun t38 s6 =>oh (dZ (aB 7 s6 t2 t33)) fun _r s7 =>oh (some (t38,s7)) fun ru s8 =>oh (some ((.int .i64 0),s8)) fun t4_3 s9 =>
 ba C 31 (bo Tryz.f31 8) [(bz false t8),.ae,.ae,.ae,(bz false t36),(dyn (ee [t37.aa]) s5 s6),(fQ t2),.ae,.ae] <|
 uU ((wG [(af false true 7 t2 s9).map (·.1),some ru,some t4_3]).map .aI) s9)
theorem UB (n:Nat)(t0:AV)(s:ag):den C (n+1) 31 [t0] s=F31 (den C n) n t0 s :=
 (am rfl Tryz.func31 _ _).trans (by kernel_rfl)
theorem ZJ {g0 g1:Nat}{l0:List Nat}(a:Nat)(h:∀g∈[g0,g1],∀l∈[l0],(l:List Nat).contains g=true)(hp:∀g∈[g0,g1],∀p∈[a],g≠p)(x:aU):ba C 31 (bo Tryz.f31 8) [.get g0,.ae,.ae,.ae,.get g1,.call l0,.put a,.ae,.ae] x=x:=pW (gs:=[g0,g1]) (ls:=[l0]) (ps:=[a]) (by kernel_rfl) (by simp) (by simp) (by simp) h hp
theorem ac7:ah Tryz.prog 31=true:=by kernel_rfl
-- glossatorref1.Mod
noncomputable def pg (D:a8)(n:Nat)(e:Env)(s:ag):aU :=
 oh (some ((e 5).aa,s)) fun t14 s =>oh (some (t14,s)) fun t4_2 s =>
 some (t4_2,s)
noncomputable def ZK (D:a8)(n:Nat)(t0 t1:AV)(s:ag):aU :=
 oh (some ((.int .i64 0),s)) fun t4 s =>oh (some (t0.aa,s)) fun t6 s =>oh (some (t1.aa,s)) fun t7 s =>oh (mp (aK Tryz.prog .rem 3 t6 t7) s) fun t8 s =>oh (some (t8,s)) fun t5 s =>oh (some (t5.aa,s)) fun t9 s =>oh (mp (aK Tryz.prog .lss 3 t9 (.int .i64 0)) s) fun t10 s =>
 br t10 (oh (some (t5.aa,s)) fun t11 s =>oh (some (t1.aa,s)) fun t12 s =>oh (mp (aK Tryz.prog .add 3 t11 t12) s) fun t13 s =>oh (some (t13,s)) fun UC s =>
 pg D n (bf (aH [t0,t1]) [(4,t4),(6,t6),(7,t7),(8,t8),(8,t8.aa),(5,t5),(9,t9),(10,t10),(11,t11),(12,t12),(13,t13),(13,t13.aa),(5,UC)]) s)
  (pg D n (bf (aH [t0,t1]) [(4,t4),(6,t6),(7,t7),(8,t8),(8,t8.aa),(5,t5),(9,t9),(10,t10)]) s)
theorem Dw (n:Nat)(t0 t1:AV)(s:ag):den C (n+1) 10 [t0,t1] s=ZK (den C n) n t0 t1 s :=
 (am rfl Tryz.func10 _ _).trans (by kernel_rfl)
theorem UD:ah Tryz.prog 10=true:=by kernel_rfl
end vy
end

section
namespace Pm
inductive Nd where
 | mk (k v:Int) (x:Bytes) (s e ns:Int) (cs:List Nd)
 deriving Inhabited
structure Dg where
 (code s e:Int)
 deriving DecidableEq
def Nd.s:Nd→Int|.mk _ _ _ s _ _ _=>s
def Nd.e:Nd→Int|.mk _ _ _ _ e _ _=>e
def Nd.cs:Nd→List Nd|.mk _ _ _ _ _ _ cs=>cs
def Nd.place (a b:Int):Nd→Nd|.mk k v x _ _ ns cs=>.mk k v x a b ns cs
inductive Sd where
 | mk (k v:Int) (x:Bytes) (cs:List Sd)
mutual
def sd:Nd→Sd
 | .mk k v x _ _ _ cs=>.mk k v x (ud cs)
def ud:List Nd→List Sd
 | []=>[]
 | n::ns=>sd n::ud ns
end
structure Hd where
 (v:Int)(x:Bytes)(s e ns:Int)
def orI (a b:Int):Int:=((BitVec.ofInt 64 a ||| BitVec.ofInt 64 b).toInt)
def hasName (k:Int):Bool:=[2,3,4,5,6,8,9,11,13,14,15,16,18,31,32,34,44].contains k
def Hd.ext (h:Hd)(a b:Int):Hd:=⟨h.v,h.x,if h.e<0 then a else h.s,b,h.ns⟩
def digits (x:Bytes):Nat:=x.foldl (fun n c=>n*10+(c.toNat-48)) 0
def mH (x:Bytes)(o:Int):Int×List Dg:=if digits x > 2147483647 then(2147483647,[⟨4,o,o+x.length⟩]) else(digits x,[])
def dS (k:Int)(h:Hd)(x:Bytes)(o:Int):Hd×List Dg :=
 (if hasName k&&decide (h.ns<0) then⟨h.v,x,h.s,h.e,o⟩ else h,if 30<x.length then[⟨5,o,o+x.length⟩] else[])
def kN (k:Int)(h:Hd)(x:Bytes):Hd :=
 if x=lY then⟨orI h.v 1,h.x,h.s,h.e,h.ns⟩ else if x=mF then⟨orI h.v 1,h.x,h.s,h.e,h.ns⟩
 else if x=mW∧k=2 then⟨orI h.v 2,h.x,h.s,h.e,h.ns⟩ else if x=iS∧k=28 then⟨1,h.x,h.s,h.e,h.ns⟩
 else if(k=39∨k=40)∧h.x=[] then⟨h.v,x,h.s,h.e,h.ns⟩ else h
def kl:Int→Bytes→Bytes×List Dg
 | o,c::d::r=>if c=92 then
   let z:=kl (o+2) r
   ((if d=110 then 10 else d)::z.1,if d=110∨d=34∨d=92 then z.2 else⟨6,o,o+2⟩::z.2)
  else
   let z:=kl (o+1) (d::r)
   (c::z.1,z.2)
 | _,_=>([],[])
def cP (k:Int)(h:Hd)(c:Nat)(x:Bytes)(o:Int):Hd×List Dg :=
 if c=101∨c=102 then(h,[])
 else if c=108 then(if x=[] then(h,[⟨1,o,o⟩]) else(h.ext o (o+x.length),[⟨3,o,o+x.length⟩]))
 else if c=103 then((dS k h x o).1.ext o (o+x.length),(dS k h x o).2)
 else if c=105 then((Hd.mk (mH x o).1 h.x h.s h.e h.ns).ext o (o+x.length),(mH x o).2)
 else if c=106 then((Hd.mk h.v (kl (o+1) (x.drop 1)).1 h.s h.e h.ns).ext o (o+x.length),(kl (o+1) (x.drop 1)).2)
 else((kN k h x).ext o (o+x.length),[])
def slice (src:Bytes)(a b:Int):Bytes:=(src.drop a.toNat).take (b.toNat-a.toNat)
def gP (src:Bytes)(k:Int)(h:Hd)(ns:List Nd)(ds:List Dg):Nd×List Dg :=
 let e:=max h.e h.s
 if k=60 then((ns.headD default).place h.s e,ds)
 else if k=46 then(.mk 46 0 (slice src h.s e) h.s e (-1) [],ds++[⟨if h.s=e then 1 else 2,h.s,e⟩])
 else(.mk k h.v h.x h.s e h.ns ns,ds)
def az.kind:az→Nat|.mk k _ _=>k
def az.text:az→Bytes|.mk _ x _=>x
def h0 (o:Int):Hd:=⟨0,[],o,-1,-1⟩
structure Kd where
 (h:Hd)(ns:List Nd)(ds:List Dg)
mutual
def aS (src:Bytes)(o:Nat):az→Nd×List Dg
 | .mk k _ cs=>gP src k (aQ src k o (h0 o) cs).h (aQ src k o (h0 o) cs).ns (aQ src k o (h0 o) cs).ds
def aQ (src:Bytes)(k:Int)(o:Nat)(h:Hd):List az→Kd
 | []=>⟨h,[],[]⟩
 | t::ts=>if 100≤t.kind then
   let z:=aQ src k (o+t.text.length) (cP k h t.kind t.text o).1 ts
   ⟨z.h,z.ns,(cP k h t.kind t.text o).2++z.ds⟩
  else
   let z:=aQ src k (o+(dj t).length) (h.ext (aS src o t).1.s (aS src o t).1.e) ts
   ⟨z.h,(aS src o t).1::z.ns,(aS src o t).2++z.ds⟩
end
theorem db (src:Bytes)(k:Int)(o:Nat)(h:Hd):aQ src k o h []=⟨h,[],[]⟩:=by rw[aQ]
theorem cA (src:Bytes)(k:Int)(o:Nat)(h:Hd)(t:az)(ts:List az)(c:100≤t.kind):aQ src k o h (t::ts)=⟨(aQ src k (o+t.text.length) (cP k h t.kind t.text o).1 ts).h,(aQ src k (o+t.text.length) (cP k h t.kind t.text o).1 ts).ns,(cP k h t.kind t.text o).2++(aQ src k (o+t.text.length) (cP k h t.kind t.text o).1 ts).ds⟩:=by
 rw[aQ,if_pos c]
theorem cS (src:Bytes)(k:Int)(o:Nat)(h:Hd)(t:az)(ts:List az)(c:¬100≤t.kind):aQ src k o h (t::ts)=⟨(aQ src k (o+(dj t).length) (h.ext (aS src o t).1.s (aS src o t).1.e) ts).h,(aS src o t).1::(aQ src k (o+(dj t).length) (h.ext (aS src o t).1.s (aS src o t).1.e) ts).ns,(aS src o t).2++(aQ src k (o+(dj t).length) (h.ext (aS src o t).1.s (aS src o t).1.e) ts).ds⟩:=by
 rw[aQ,if_neg c]
theorem eX (src:Bytes)(o k:Nat)(x:Bytes)(cs:List az):aS src o (.mk k x cs)=gP src k (aQ src k o (h0 o) cs).h (aQ src k o (h0 o) cs).ns (aQ src k o (h0 o) cs).ds:=by rw[aS]
def kV (src:Bytes)(t:az):Nd×List Dg:=(((aS src 0 t).1).place 0 src.length,(aS src 0 t).2)
end Pm
end

section
namespace Pm
def Inv (b o:Nat)(h:Hd):Prop:=(b:Int)≤h.s∧b≤o∧((h.e<0∧h.s=b)∨(h.s≤h.e∧h.e≤o))
theorem Inv.ext {b o:Nat}{h:Hd}(i:Inv b o h){x y:Int}(h1:(o:Int)≤x)(h2:x≤y){o':Nat}(h3:y≤o'):Inv b o' (h.ext x y):=by
 obtain⟨i1,i2,i3⟩:=i
 unfold Inv Hd.ext
 refine⟨?_,by omega,.inr ⟨?_,h3⟩⟩
 ·simp only;split<;>omega
 ·simp only;split<;>omega
theorem Inv.congr {b o:Nat}{h h':Hd}(i:Inv b o h)(hs:h'.s=h.s)(he:h'.e=h.e):Inv b o h':=by
 unfold Inv at *;rw[hs,he];exact i
theorem Inv.more {b o o':Nat}{h:Hd}(i:Inv b o h)(ho:o≤o'):Inv b o' h:=by
 obtain⟨i1,i2,i3⟩:=i
 exact⟨i1,by omega,by rcases i3 with i3|i3;exact .inl i3;exact .inr ⟨i3.1,by omega⟩⟩
theorem jb (k:Int)(h:Hd)(x:Bytes):(kN k h x).s=h.s∧(kN k h x).e=h.e∧(kN k h x).ns=h.ns:=by
 unfold kN;repeat' split
 all_goals exact⟨rfl,rfl,rfl⟩
theorem iG (k:Int)(h:Hd)(x:Bytes)(o:Int):(dS k h x o).1.s=h.s∧(dS k h x o).1.e=h.e:=by
 unfold dS;simp only;split<;>exact⟨rfl,rfl⟩
theorem Inv.tok {b o:Nat}{h:Hd}(i:Inv b o h)(k:Int)(c:Nat)(x:Bytes):Inv b (o+x.length) (cP k h c x o).1:=by
 have key:∀h':Hd,h'.s=h.s→h'.e=h.e→Inv b (o+x.length) (h'.ext o (o+x.length)):=fun h' h1 h2=>(i.congr h1 h2).ext (Int.le_refl _) (by omega) (by omega)
 unfold cP
 repeat' split
 ·exact i.more (by omega)
 ·exact i.more (by omega)
 ·exact key _ rfl rfl
 ·exact key _ (iG ..).1 (iG ..).2
 ·exact key _ rfl rfl
 ·exact key _ rfl rfl
 ·exact key _ (jb ..).1 (jb ..).2.1
theorem Ki (o:Nat):Inv o o (h0 o):=⟨Int.le_refl _,Nat.le_refl _,.inl ⟨show (-1:Int)<0 by decide,rfl⟩⟩
theorem km (k:Nat)(x:Bytes)(cs:List az):wv (.mk k x cs)=true→(100≤k→cs=[])∧(k<100→x=[])∧mP cs=true:=by
 intro h
 unfold wv at h
 simp at h
 by_cases hk:100≤k
 ·simp[hk]at h
  exact⟨fun _=>h.1,fun e=>absurd hk (by omega),h.2⟩
 ·simp[hk]at h
  exact⟨fun e=>absurd e hk,fun _=>h.1,h.2⟩
theorem fA (t:az)(ts:List az):mP (t::ts)=(wv t&&mP ts):=by rw[mP]
theorem gE {t:az}(h:wv t=true)(c:100≤t.kind):dj t=t.text:=by
 cases t with
 | mk k x cs =>
  have:=(km k x cs h).1 c
  subst this
  rw[dj,cY,List.append_nil];rfl
theorem Nd.O5 (a b:Int)(n:Nd):(n.place a b).s=a:=by cases n;rfl
theorem Nd.O6 (a b:Int)(n:Nd):(n.place a b).e=b:=by cases n;rfl
mutual
theorem kO (src:Bytes):∀(o:Nat)(t:az),wv t=true→(o:Int)≤(aS src o t).1.s∧(aS src o t).1.s≤(aS src o t).1.e∧(aS src o t).1.e≤((o+(dj t).length:Nat):Int)
 | o,.mk k x cs,h=>by
  obtain⟨-,h2,h3⟩:=km k x cs h
  have i:=qJ src k o o (h0 o) cs h3 (Ki o)
  have hl:o+(cY cs).length≤o+(dj (.mk k x cs)).length:=by rw[dj,List.length_append];omega
  rw[eX]
  revert i
  generalize aQ src k o (h0 o) cs=z
  intro i
  obtain⟨i1,i2,i3⟩:=i
  have key:(o:Int)≤z.h.s∧z.h.s≤max z.h.e z.h.s∧max z.h.e z.h.s≤((o+(dj (.mk k x cs)).length:Nat):Int):=by omega
  unfold gP
  simp only
  split
  ·rw[Nd.O5,Nd.O6];exact key
  ·split
   ·exact key
   ·exact key
theorem qJ (src:Bytes)(k:Int):∀(b o:Nat)(h:Hd)(ts:List az),mP ts=true→Inv b o h→Inv b (o+(cY ts).length) (aQ src k o h ts).h
 | b,o,h,[],_,i=>by rw[db];exact i
 | b,o,h,t::ts,ok,i=>by
  rw[fA,Bool.and_eq_true]at ok
  rw[cY,List.length_append,←Nat.add_assoc]
  by_cases c:100≤t.kind
  ·rw[cA _ _ _ _ _ _ c,gE ok.1 c]
   exact qJ src k b _ _ ts ok.2 (i.tok k t.kind t.text)
  ·rw[cS _ _ _ _ _ _ c]
   obtain⟨a1,a2,a3⟩:=kO src o t ok.1
   exact qJ src k b _ _ ts ok.2 (i.ext a1 a2 a3)
end
def Kj (d n:Int):Int:=if n<0 then n else n+d
def Hd.sh (d:Nat)(h:Hd):Hd:=⟨h.v,h.x,h.s+d,Kj d h.e,Kj d h.ns⟩
def Dg.sh (d:Nat)(g:Dg):Dg:=⟨g.code,g.s+d,g.e+d⟩
mutual
def Nd.sh (d:Nat):Nd→Nd
 | .mk k v x s e ns cs=>.mk k v x (s+d) (e+d) (Kj d ns) (Kk d cs)
def Kk (d:Nat):List Nd→List Nd
 | []=>[]
 | n::ns=>n.sh d::Kk d ns
end
mutual
theorem ZL (d:Nat):∀n:Nd,sd (n.sh d)=sd n
 | .mk k v x s e ns cs=>by rw[Nd.sh,sd,sd,Kl d cs]
theorem Kl (d:Nat):∀ns:List Nd,ud (Kk d ns)=ud ns
 | []=>by rw[Kk]
 | n::ns=>by rw[Kk,ud,ud,ZL d n,Kl d ns]
end
theorem Nd.ac8 (d:Nat)(n:Nd):(n.sh d).s=n.s+d:=by cases n;rw[Nd.sh];rfl
theorem Nd.ac9 (d:Nat)(n:Nd):(n.sh d).e=n.e+d:=by cases n;rw[Nd.sh];rfl
theorem Nd.Km (d:Nat)(n:Nd)(a b:Int):(n.place a b).sh d=(n.sh d).place (a+d) (b+d):=by cases n;rw[Nd.place,Nd.sh,Nd.sh,Nd.place]
theorem Hd.Kn (d:Nat)(h:Hd)(a b:Int)(hb:0≤b):(h.ext a b).sh d=(h.sh d).ext (a+d) (b+d):=by
 unfold Hd.ext Hd.sh Kj
 simp only[Hd.mk.injEq,true_and]
 refine⟨?_,by split<;>omega,trivial⟩
 by_cases c:h.e<0
 ·rw[if_pos c,if_pos c,if_pos c]
 ·rw[if_neg c,if_neg c,if_neg (by omega)]
theorem Ko (d:Nat)(k:Int)(h:Hd)(x:Bytes):(kN k h x).sh d=kN k (h.sh d) x:=by
 unfold kN
 have e1:(h.sh d).x=h.x:=rfl
 rw[e1]
 repeat' split
 all_goals rfl
theorem UE (d:Nat):∀(n:Nat)(l:Bytes)(o:Int),l.length≤n→kl (o+d) l=((kl o l).1,(kl o l).2.map (Dg.sh d)):=by
 intro n
 induction n with
 | zero =>
  intro l o h
  have:l=[]:=List.length_eq_zero_iff.1 (by omega)
  subst this;simp[kl]
 | succ n ih =>
  intro l o h
  match l,h with
  | [],_=>simp[kl]
  | [c],_=>simp[kl]
  | c::e::r,h =>
   simp only[kl]
   have e1:=ih r (o+2) (by simp at h;omega)
   have e2:=ih (e::r) (o+1) (by simp at h ⊢;omega)
   rw[show o+2+(d:Int)=o+d+2 by omega]at e1
   rw[show o+1+(d:Int)=o+d+1 by omega]at e2
   by_cases hc:c=92
   ·rw[if_pos hc,if_pos hc,e1]
    simp only[Prod.mk.injEq,true_and]
    by_cases k:e=110∨e=34∨e=92
    ·rw[if_pos k,if_pos k]
    ·rw[if_neg k,if_neg k]
     simp only[List.map_cons,Dg.sh,List.cons.injEq,Dg.mk.injEq,true_and,and_true]
     omega
   ·rw[if_neg hc,if_neg hc,e2]
theorem O7 (d:Nat)(x:Bytes)(o:Int):mH x (o+d)=((mH x o).1,(mH x o).2.map (Dg.sh d)):=by
 unfold mH
 split
 ·simp[Dg.sh];omega
 ·simp
theorem G6 (d:Nat)(k:Int)(h:Hd)(x:Bytes)(o:Nat):dS k (h.sh d) x ((o+d:Nat):Int)=((dS k h x o).1.sh d,(dS k h x o).2.map (Dg.sh d)):=by
 unfold dS
 have hn:decide ((h.sh d).ns<0)=decide (h.ns<0):=by
  have:(h.sh d).ns=Kj d h.ns:=rfl
  rw[this,decide_eq_decide];unfold Kj;split<;>omega
 rw[hn]
 simp only[Prod.mk.injEq]
 constructor
 ·split
  ·simp only[Hd.sh,Hd.mk.injEq,true_and,Kj]
   rw[if_neg (by omega)];omega
  ·rfl
 ·split
  ·simp[Dg.sh];omega
  ·rfl
theorem O8 (d:Nat)(k:Int)(h:Hd)(c:Nat)(x:Bytes)(o:Nat):cP k (h.sh d) c x ((o+d:Nat):Int)=((cP k h c x o).1.sh d,(cP k h c x o).2.map (Dg.sh d)):=by
 have ex:∀h':Hd,(h'.ext o (o+x.length)).sh d=(h'.sh d).ext ((o+d:Nat):Int) (((o+d:Nat):Int)+x.length):=by
  intro h'
  rw[Hd.Kn d h' _ _ (by omega)]
  congr 1;omega
 unfold cP
 by_cases c1:c=101∨c=102
 ·rw[if_pos c1,if_pos c1];rfl
 rw[if_neg c1,if_neg c1]
 by_cases c2:c=108
 ·rw[if_pos c2,if_pos c2]
  by_cases c3:x=[]
  ·rw[if_pos c3,if_pos c3];simp[Dg.sh]
  ·rw[if_neg c3,if_neg c3]
   simp only[ex,List.map_cons,List.map_nil,Dg.sh,Prod.mk.injEq,List.cons.injEq,Dg.mk.injEq,true_and,and_true]
   omega
 rw[if_neg c2,if_neg c2]
 by_cases c3:c=103
 ·rw[if_pos c3,if_pos c3,G6,ex]
 rw[if_neg c3,if_neg c3]
 by_cases c4:c=105
 ·rw[if_pos c4,if_pos c4]
  have:=O7 d x o
  rw[show ((o:Int)+(d:Int))=((o+d:Nat):Int) by omega]at this
  rw[this,ex];rfl
 rw[if_neg c4,if_neg c4]
 by_cases c5:c=106
 ·rw[if_pos c5,if_pos c5]
  have:=UE d _ (x.drop 1) ((o:Int)+1) (Nat.le_refl _)
  rw[show ((o:Int)+1+(d:Int))=((o+d:Nat):Int)+1 by omega]at this
  rw[this,ex];rfl
 rw[if_neg c5,if_neg c5,ex,Ko];rfl
def Wd (src jc:Bytes)(o d n:Nat):Prop:=∀a b:Int,(o:Int)≤a→a≤b→b≤((o+n:Nat):Int)→slice jc (a+d) (b+d)=slice src a b
theorem Wd.cut {src jc:Bytes}{o d n:Nat}(h:Wd src jc o d n){p q:Nat}(hp:p+q≤n):Wd src jc (o+p) d q:=fun a b h1 h2 h3=>h a b (by omega) h2 (by omega)
theorem Kq (d:Nat)(ns:List Nd)(h:ns≠[]):(Kk d ns).headD default=(ns.headD default).sh d:=by
 cases ns with
 | nil=>exact absurd rfl h
 | cons n ns=>rw[Kk];rfl
mutual
def gr:az→Bool
 | .mk k _ cs=>(!(k==60) || cZ cs)&&er cs
def er:List az→Bool
 | []=>true
 | t::ts=>gr t&&er ts
def cZ:List az→Bool
 | []=>false
 | t::ts=>decide (t.kind<100) || cZ ts
end
theorem nV (src:Bytes)(k:Int):∀(o:Nat)(h:Hd)(ts:List az),cZ ts=true→(aQ src k o h ts).ns≠[]
 | o,h,[],e=>by simp[cZ]at e
 | o,h,t::ts,e=>by
  rw[cZ]at e
  by_cases c:100≤t.kind
  ·rw[cA _ _ _ _ _ _ c]
   exact nV src k _ _ ts (by simpa[show ¬t.kind<100 by omega] using e)
  ·rw[cS _ _ _ _ _ _ c];exact List.cons_ne_nil _ _
mutual
theorem O9 (src jc:Bytes)(d:Nat):∀(o:Nat)(t:az),wv t=true→gr t=true→Wd src jc o d (dj t).length→aS jc (o+d) t=((aS src o t).1.sh d,(aS src o t).2.map (Dg.sh d))
 | o,.mk k x cs,h,p,A=>by
  obtain⟨-,h2,h3⟩:=km k x cs h
  rw[gr,Bool.and_eq_true]at p
  have i:=qJ src k o o (h0 o) cs h3 (Ki o)
  have hl:(cY cs).length≤(dj (.mk k x cs)).length:=by rw[dj,List.length_append];omega
  have e:=zm src jc d k o (h0 o) cs h3 p.2 (A.cut (p:=0) (by omega))
  have e0:(h0 o).sh d=h0 ((o+d:Nat):Int):=by unfold h0 Hd.sh Kj;simp
  rw[e0]at e
  have hne:(k:Int)=60→(aQ src k o (h0 o) cs).ns≠[]:=by
   intro hk
   refine nV _ _ _ _ _ ?_
   have:k=60:=by omega
   simpa[this] using p.1
  rw[eX,eX,e]
  revert i hne
  generalize aQ src k o (h0 o) cs=z
  intro i hne
  obtain⟨i1,i2,i3⟩:=i
  have em:max (Kj d z.h.e) (z.h.s+d)=max z.h.e z.h.s+d:=by unfold Kj;split<;>omega
  have b1:(o:Int)≤z.h.s∧z.h.s≤max z.h.e z.h.s∧max z.h.e z.h.s≤((o+(dj (.mk k x cs)).length:Nat):Int):=by omega
  unfold gP
  simp only[Hd.sh,em]
  by_cases c1:(k:Int)=60
  ·rw[if_pos c1,if_pos c1,Kq _ _ (hne c1),←Nd.Km]
  rw[if_neg c1,if_neg c1]
  by_cases c2:(k:Int)=46
  ·rw[if_pos c2,if_pos c2,A _ _ b1.1 b1.2.1 b1.2.2]
   simp only[Nd.sh,Kk,Kj,List.map_append,List.map_cons,List.map_nil,Dg.sh,Prod.mk.injEq,true_and]
   refine⟨by simp,?_⟩
   congr 2
   congr 1
   by_cases q:z.h.s=max z.h.e z.h.s
   ·rw[if_pos q,if_pos (by omega)]
   ·rw[if_neg q,if_neg (by omega)]
  ·rw[if_neg c2,if_neg c2,Nd.sh]
theorem zm (src jc:Bytes)(d:Nat)(k:Int):∀(o:Nat)(h:Hd)(ts:List az),mP ts=true→er ts=true→Wd src jc o d (cY ts).length→aQ jc k (o+d) (h.sh d) ts=⟨(aQ src k o h ts).h.sh d,Kk d (aQ src k o h ts).ns,(aQ src k o h ts).ds.map (Dg.sh d)⟩
 | o,h,[],_,_,_=>by rw[db,db,Kk];rfl
 | o,h,t::ts,ok,p,A=>by
  rw[fA,Bool.and_eq_true]at ok
  rw[er,Bool.and_eq_true]at p
  rw[cY,List.length_append]at A
  by_cases c:100≤t.kind
  ·have hs:=gE ok.1 c
   rw[hs]at A
   rw[cA _ _ _ _ _ _ c,cA _ _ _ _ _ _ c,O8,show o+d+t.text.length=o+t.text.length+d by omega,
    zm src jc d k (o+t.text.length) _ ts ok.2 p.2 (A.cut (by omega))]
   simp only[List.map_append]
  ·have A1:Wd src jc o d (dj t).length:=A.cut (p:=0) (by omega)
   rw[cS _ _ _ _ _ _ c,cS _ _ _ _ _ _ c,O9 src jc d o t ok.1 p.1 A1]
   obtain⟨a1,a2,a3⟩:=kO src o t ok.1
   simp only[Nd.ac8,Nd.ac9]
   rw[←Hd.Kn d h _ _ (by omega),show o+d+(dj t).length=o+(dj t).length+d by omega,
    zm src jc d k (o+(dj t).length) _ ts ok.2 p.2 (A.cut (by omega))]
   simp only[List.map_append,Kk]
end
end Pm
end

section
namespace Pm
theorem jN (src:Bytes)(k:Int):∀(o:Nat)(h:Hd)(xs ys:List az),mP xs=true →
  aQ src k o h (xs++ys)=⟨(aQ src k (o+(cY xs).length) (aQ src k o h xs).h ys).h,(aQ src k o h xs).ns++(aQ src k (o+(cY xs).length) (aQ src k o h xs).h ys).ns,(aQ src k o h xs).ds++(aQ src k (o+(cY xs).length) (aQ src k o h xs).h ys).ds⟩
 | o,h,[],ys,_=>by rw[db,List.nil_append,cY];simp
 | o,h,t::ts,ys,ok=>by
  rw[fA,Bool.and_eq_true]at ok
  rw[List.cons_append,cY,List.length_append,←Nat.add_assoc]
  by_cases c:100≤t.kind
  ·rw[gE ok.1 c,cA _ _ _ _ _ _ c,cA _ _ _ _ _ _ c,jN src k _ _ ts ys ok.2]
   simp only[List.append_assoc]
  ·rw[cS _ _ _ _ _ _ c,cS _ _ _ _ _ _ c,jN src k _ _ ts ys ok.2]
   simp only[List.append_assoc,List.cons_append]
theorem ph (src:Bytes)(k:Int):∀(o:Nat)(h:Hd)(A:List Tok),(∀t∈A,dq t=true)→aQ src k o h (A.map cr)=⟨h,[],[]⟩
 | o,h,[],_=>by rw[List.map_nil,db]
 | o,h,t::A,hA=>by
  have ht:=hA t (List.mem_cons_self ..)
  have hk:t.1=101∨t.1=102:=by simpa[dq] using ht
  rw[List.map_cons,cA _ _ _ _ _ _ (show 100≤(cr t).kind by show 100≤t.1;omega)]
  have e:cP k h (cr t).kind (cr t).text o=(h,[]):=by
   show cP k h t.1 t.2 o=_
   unfold cP;rw[if_pos hk]
  rw[e,ph src k _ h A fun u hu=>hA u (List.mem_cons_of_mem _ hu)]
  rfl
theorem xJ (src:Bytes)(k:Int)(o:Nat)(h:Hd)(t:az):aQ src k o h [t]=if 100≤t.kind then⟨(cP k h t.kind t.text o).1,[],(cP k h t.kind t.text o).2⟩ else⟨h.ext (aS src o t).1.s (aS src o t).1.e,[(aS src o t).1],(aS src o t).2⟩:=by
 by_cases c:100≤t.kind
 ·rw[if_pos c,cA _ _ _ _ _ _ c,db,List.append_nil]
 ·rw[if_neg c,cS _ _ _ _ _ _ c,db,List.append_nil]
def HA (h h':Hd):Prop:=h.v=h'.v∧h.x=h'.x∧(h.e<0↔h'.e<0)∧(h.ns<0↔h'.ns<0)
theorem HA.ext {h h':Hd}(a:HA h h'){x y x' y':Int}(hy:0≤y)(hy':0≤y'):HA (h.ext x y) (h'.ext x' y'):=by
 obtain⟨a1,a2,a3,a4⟩:=a
 refine⟨a1,a2,?_,a4⟩
 show y<0↔y'<0
 omega
theorem G7:∀(n:Nat)(l:Bytes)(o o':Int),l.length≤n→(kl o l).1=(kl o' l).1∧((kl o l).2=[]→(kl o' l).2=[]):=by
 intro n
 induction n with
 | zero =>
  intro l o o' h
  have:l=[]:=List.length_eq_zero_iff.1 (by omega)
  subst this;simp[kl]
 | succ n ih =>
  intro l o o' h
  match l,h with
  | [],_=>simp[kl]
  | [c],_=>simp[kl]
  | c::e::r,h =>
   simp only[kl]
   have e1:=ih r (o+2) (o'+2) (by simp at h;omega)
   have e2:=ih (e::r) (o+1) (o'+1) (by simp at h ⊢;omega)
   by_cases hc:c=92
   ·rw[if_pos hc,if_pos hc]
    refine⟨by simp only[e1.1],?_⟩
    by_cases k:e=110∨e=34∨e=92
    ·simp only[if_pos k];exact e1.2
    ·simp only[if_neg k];intro q;cases q
   ·rw[if_neg hc,if_neg hc]
    exact⟨by simp only[e2.1],e2.2⟩
theorem G8 (k:Int){h h':Hd}(a:HA h h')(c:Nat)(x:Bytes)(o o':Nat)(hd:(cP k h c x o).2=[]):(cP k h' c x o').2=[]∧HA (cP k h c x o).1 (cP k h' c x o').1:=by
 have ex:∀q q':Hd,HA q q'→HA (q.ext o (o+x.length)) (q'.ext o' (o'+x.length)):=fun q q' i=>i.ext (by omega) (by omega)
 have a':=a
 obtain⟨a1,a2,a3,a4⟩:=a'
 unfold cP at hd ⊢
 by_cases c1:c=101∨c=102
 ·rw[if_pos c1,if_pos c1];exact⟨rfl,a⟩
 rw[if_neg c1]at hd
 rw[if_neg c1,if_neg c1]
 by_cases c2:c=108
 ·rw[if_pos c2]at hd
  split at hd<;>cases hd
 rw[if_neg c2]at hd
 rw[if_neg c2,if_neg c2]
 by_cases c3:c=103
 ·rw[if_pos c3]at hd
  rw[if_pos c3,if_pos c3]
  unfold dS at hd ⊢
  simp only at hd ⊢
  refine⟨?_,ex _ _ ?_⟩
  ·split at hd
   ·cases hd
   ·rename_i q;rw[if_neg q]
  ·have hn:decide (h.ns<0)=decide (h'.ns<0):=by rw[decide_eq_decide];exact a4
   rw[hn]
   split
   ·exact⟨a1,rfl,a3,by show (o:Int)<0↔(o':Int)<0;omega⟩
   ·exact a
 rw[if_neg c3]at hd
 rw[if_neg c3,if_neg c3]
 by_cases c4:c=105
 ·rw[if_pos c4]at hd
  rw[if_pos c4,if_pos c4]
  unfold mH at hd ⊢
  split at hd
  ·cases hd
  ·rename_i q
   rw[if_neg q,if_neg q]
   exact⟨rfl,ex _ _ ⟨rfl,a2,a3,a4⟩⟩
 rw[if_neg c4]at hd
 rw[if_neg c4,if_neg c4]
 by_cases c5:c=106
 ·rw[if_pos c5]at hd
  rw[if_pos c5,if_pos c5]
  have u:=G7 _ (x.drop 1) ((o:Int)+1) ((o':Int)+1) (Nat.le_refl _)
  exact⟨u.2 hd,ex _ _ ⟨a1,u.1,a3,a4⟩⟩
 rw[if_neg c5,if_neg c5]
 refine⟨rfl,ex _ _ ?_⟩
 unfold kN
 rw[a1,a2]
 repeat' split
 all_goals exact⟨(by first|rfl|assumption),(by first|rfl|assumption),a3,a4⟩
theorem TE.kind {x y:az}(h:TE x y):x.kind=y.kind:=by cases h;rfl
theorem TE.text {x y:az}(h:TE x y):x.text=y.text:=by cases h;rfl
theorem O_:∀{ns ms:List Nd},ud ns=ud ms→sd (ns.headD default)=sd (ms.headD default)
 | [],[],_=>rfl
 | [],m::ms,h=>by rw[ud,ud]at h;cases h
 | n::ns,[],h=>by rw[ud,ud]at h;cases h
 | n::ns,m::ms,h=>by rw[ud,ud]at h;injection h with h1 h2
theorem Bk (n:Nd)(a b:Int):sd (n.place a b)=sd n:=by cases n;rw[Nd.place,sd,sd]
theorem zn:∀a b:List Nd,ud (a++b)=ud a++ud b
 | [],b=>by rw[ud];rfl
 | n::a,b=>by rw[List.cons_append,ud,ud,zn a b];rfl
mutual
theorem Dx (src jc:Bytes):∀{x y:az}(o o':Nat),TE x y→wv x=true→wv y=true→(aS src o x).2=[]→(aS jc o' y).2=[]∧sd (aS src o x).1=sd (aS jc o' y).1
 | _,_,o,o',.mk k x cs ds h,h1,h2,hd=>by
  obtain⟨-,-,g1⟩:=km k x cs h1
  obtain⟨-,-,g2⟩:=km k x ds h2
  rw[eX]at hd ⊢
  rw[eX]
  unfold gP at hd ⊢
  have ih:=vz src jc k o o' (h0 o) (h0 o') h g1 g2 ⟨rfl,rfl,Iff.rfl,Iff.rfl⟩
  by_cases c1:(k:Int)=60
  ·simp only[if_pos c1]at hd ⊢
   obtain⟨i1,i2,i3⟩:=ih hd
   exact⟨i1,by rw[Bk,Bk];exact O_ i3⟩
  ·simp only[if_neg c1]at hd ⊢
   by_cases c2:(k:Int)=46
   ·simp only[if_pos c2]at hd
    simp at hd
   ·simp only[if_neg c2]at hd ⊢
    obtain⟨i1,i2,i3⟩:=ih hd
    exact⟨i1,by rw[sd,sd,i2.1,i2.2.1,i3]⟩
theorem vz (src jc:Bytes)(k:Int):∀{cs ds:List az}(o o':Nat)(h h':Hd),LE cs ds→mP cs=true→mP ds=true→HA h h'→(aQ src k o h cs).ds=[] →
  (aQ jc k o' h' ds).ds=[]∧HA (aQ src k o h cs).h (aQ jc k o' h' ds).h∧ud (aQ src k o h cs).ns=ud (aQ jc k o' h' ds).ns
 | _,_,o,o',h,h',.nil,_,_,a,_=>by rw[db,db];exact⟨rfl,a,rfl⟩
 | _,_,o,o',h,h',.snoc cs ds A B x y hl hA hB ht,g1,g2,a,hd=>by
  rw[dK,dK,jx,Bool.and_eq_true,Bool.and_eq_true]at g1 g2
  have tr:∀C:List Tok,(∀t∈C,dq t=true)→mP (C.map cr)=true:=fun C hC=>vk C fun t ht=>by
   have:=hC t ht
   have:t.1=101∨t.1=102:=by simpa[dq] using this
   omega
  rw[jN _ _ _ _ _ _ g1.1,jN _ _ _ _ _ _ (tr A hA),ph _ _ _ _ _ hA]at hd ⊢
  rw[jN _ _ _ _ _ _ g2.1,jN _ _ _ _ _ _ (tr B hB),ph _ _ _ _ _ hB]
  simp only[List.nil_append,List.append_eq_nil_iff]at hd ⊢
  obtain⟨i1,i2,i3⟩:=vz src jc k o o' h h' hl g1.1 g2.1 a hd.1
  rw[i1,zn,zn,i3]
  have Io:=hd.2
  rw[xJ]at Io ⊢
  rw[xJ,←ht.kind,←ht.text]
  by_cases c:100≤x.kind
  ·simp only[if_pos c]at Io ⊢
   obtain⟨j1,j2⟩:=G8 k i2 x.kind x.text _ (o'+(cY ds).length+(cY (B.map cr)).length) Io
   exact⟨⟨trivial,j1⟩,j2,trivial⟩
  ·simp only[if_neg c]at Io ⊢
   obtain⟨j1,j2⟩:=Dx src jc (o+(cY cs).length+(cY (A.map cr)).length) (o'+(cY ds).length+(cY (B.map cr)).length) ht g1.2.2 g2.2.2 Io
   have r1:=kO src (o+(cY cs).length+(cY (A.map cr)).length) x g1.2.2
   have r2:=kO jc (o'+(cY ds).length+(cY (B.map cr)).length) y g2.2.2
   exact⟨⟨trivial,j1⟩,i2.ext (by omega) (by omega),by rw[ud,ud,j2];rfl⟩
end
end Pm
end

section
namespace Pm
def Kp:G→Prop
 | .seq a b=>Kp a∧Kp b
 | .ite _ a b=>Kp a∧Kp b
 | .yV g a b=>Kp g∧Kp a∧Kp b
 | .prog g a b=>Kp g∧Kp a∧Kp b
 | .Ch _ _=>False
 | .dH _ g=>Kp g
 | .call f=>f≠2
 | _=>True
def Pu:G→Prop
 | .put k=>k<100
 | .node _ _=>True
 | .wrap _ _=>True
 | .ite _ a b=>Pu a∧Pu b
 | .seq a b=>Pu b∨(Pu a∧Kp b)
 | .call f=>f≠2
 | _=>False
theorem kP (a b:List az):cZ (a++b)=(cZ a || cZ b):=by
 induction a with
 | nil=>rw[List.nil_append,cZ,Bool.false_or]
 | cons t a ih=>rw[List.cons_append,cZ,cZ,ih,Bool.or_assoc]
theorem jd {k:Nat}(x:Bytes)(cs:List az)(h:k<100)(l:List az):cZ (l++[.mk k x cs])=true:=by
 rw[kP,cZ]
 show (_ || (decide (k<100) || _))=true
 simp[h]
theorem G9 (hd:∀f,f≠2→Pu (ot f)){g:G}{ts:List Tok}{cs:List az}{r:Bool}{eY:List Tok}{bY:List az}(h:bP g ts cs r eY bY):(Pu g→cZ bY=true)∧(Kp g→cZ cs=true→cZ bY=true):=by
 induction h with
 | ret b ts cs=>exact⟨nofun,fun _ h=>h⟩
 | bump ts cs=>exact⟨nofun,fun _ h=>by rw[kP,h];rfl⟩
 | put k ts cs=>exact⟨fun hk=>jd _ _ hk _,fun _ h=>by rw[kP,h];rfl⟩
 | gZ ts cs t=>exact⟨nofun,fun _ _=>by
   rw[kP,cZ]
   show (_ || (decide (0<100) || _))=true
   simp⟩
 | seq h1 h2 i1 i2 =>
  refine⟨fun p=>?_,fun k hc=>i2.2 k.2 (i1.2 k.1 hc)⟩
  rcases p with p|⟨p,q⟩
  ·exact i2.1 p
  ·exact i2.2 q (i1.1 p)
 | node cs hk h i=>exact⟨fun _=>jd _ _ hk _,fun _ _=>jd _ _ hk _⟩
 | wrap cs hk h i=>exact⟨fun _=>jd _ _ hk _,fun _ _=>jd _ _ hk _⟩
 | fu hc h i=>exact⟨fun p=>i.1 p.1,fun k=>i.2 k.1⟩
 | d_ hc h i=>exact⟨fun p=>i.1 p.2,fun k=>i.2 k.2⟩
 | oW h1 h2 i1 i2=>exact⟨nofun,fun k hc=>i2.2 k.2.1 (i1.2 k.1 hc)⟩
 | oX h1 h2 i1 i2=>exact⟨nofun,fun k hc=>i2.2 k.2.2 (i1.2 k.1 hc)⟩
 | kI h1 hl h2 i1 i2=>exact⟨nofun,fun k hc=>i2.2 k.2.1 (i1.2 k.1 hc)⟩
 | kJ h1 hl h2 i1 i2=>exact⟨nofun,fun k hc=>i2.2 k.2.2 (i1.2 k.1 hc)⟩
 | qt h1 hl ht h2 i1 i2=>exact⟨nofun,nofun⟩
 | qu h1 hl h2 i1 i2=>exact⟨nofun,nofun⟩
 | g_ hc=>exact⟨nofun,fun _ h=>h⟩
 | iU hc h i=>exact⟨nofun,fun k=>i.2 k⟩
 | iV hc h h2 i1 i2=>exact⟨nofun,fun k hn=>i2.2 k (i1.2 k hn)⟩
 | call h i=>exact⟨fun p=>i.1 (hd _ p),fun p _=>i.1 (hd _ p)⟩
theorem Pb (f:Nat)(h:f≠2):Pu (ot f):=by
 have i:Pu EV:=⟨trivial,trivial,trivial,(by decide:(46:Nat)<100)⟩
 have p:Pu qk:=⟨trivial,trivial,trivial,.inr ⟨trivial,trivial,trivial⟩,trivial,(by decide:(1:Nat)≠2),(by decide:(6:Nat)≠2),trivial,trivial,trivial,(by decide:(46:Nat)<100)⟩
 have b:∀l,Pu (iM l):=fun l=>.inr ⟨(by omega:11+l≠2),⟨trivial,trivial⟩,trivial⟩
 have u:Pu yW:=⟨trivial,trivial,.inr ⟨(by decide:(4:Nat)≠2),trivial,trivial,trivial⟩⟩
 unfold ot
 split
 ·exact i
 ·exact trivial
 ·exact absurd rfl h
 ·exact p
 ·exact⟨trivial,trivial,trivial,trivial,trivial,trivial,(by decide:(46:Nat)<100)⟩
 ·exact trivial
 ·exact b _
 ·exact b _
 ·exact b _
 ·exact b _
 ·exact b _
 ·exact u
def gl:G→Prop
 | .seq a b=>gl a∧gl b
 | .node k g=>gl g∧(k=60→Pu g)
 | .wrap k g=>gl g∧k≠60
 | .ite _ a b=>gl a∧gl b
 | .yV g a b=>gl g∧gl a∧gl b
 | .prog g a b=>gl g∧gl a∧gl b
 | .Ch g b=>gl g∧gl b
 | .dH _ g=>gl g
 | .put k=>k≠60∧(k<100∨k=108)
 | _=>True
theorem fo (a b:List az):er (a++b)=(er a&&er b):=by
 induction a with
 | nil=>rw[List.nil_append,er,Bool.true_and]
 | cons t a ih=>rw[List.cons_append,er,er,ih,Bool.and_assoc]
theorem fU (t:az):er [t]=gr t:=by rw[er,er,Bool.and_true]
theorem pj (k:Nat)(x:Bytes)(h:k≠60):gr (.mk k x [])=true:=by
 rw[gr,er];simp[h]
theorem nv:∀ts:List Tok,(∀t∈ts,100≤t.1)→er (ts.map cr)=true
 | [],_=>by rw[List.map_nil,er]
 | t::ts,h=>by
  rw[List.map_cons,er,nv ts fun u hu=>h u (List.mem_cons_of_mem _ hu),cr,pj _ _ (by have:=h t (List.mem_cons_self ..);omega)];rfl
theorem G_ {k:Nat}{g:G}{ts:List Tok}{b:Bool}{im:List Tok}{ds:List az}(h:bP g ts [] b im ds)(p:k=60→Pu g)(e:er ds=true):gr (.mk k [] ds)=true:=by
 rw[gr,e,Bool.and_true]
 by_cases hk:k=60
 ·rw[(G9 Pb h).1 (p hk)];simp
 ·simp[hk]
theorem vA:gl rB:=⟨⟨trivial,fun e=>absurd e (by decide)⟩,trivial⟩
theorem Bl (hd:∀f,gl (ot f)){g:G}{ts:List Tok}{cs:List az}{r:Bool}{eY:List Tok}{bY:List az}(h:bP g ts cs r eY bY):gl g→(∀t∈ts,100≤t.1)→er cs=true→er bY=true:=by
 have mem:∀{ts im:List Tok},(∃k,im=ts.drop k)→(∀t∈ts,100≤t.1)→∀t∈im,100≤t.1:=by
  intro ts im ⟨k,e⟩ h t ht;subst e;exact h t (List.mem_of_mem_drop ht)
 induction h with
 | ret b ts cs=>exact fun _ _ h=>h
 | bump ts cs =>
  intro s k h
  rw[←List.map_append,fo,h,nv _ fun t ht=>k t (jM ht)];rfl
 | put k ts cs=>intro s _ h;rw[fo,h,fU,pj _ _ s.1];rfl
 | gZ ts cs t =>
  intro s k h
  rw[fo,fU,Bool.and_eq_true]at h
  rw[fo,er,fU,h.1,h.2,pj _ _ (by decide)];rfl
 | seq h1 h2 i1 i2=>exact fun s k hc=>i2 s.2 (mem (bm h1) k) (i1 s.1 k hc)
 | node cs hk h i=>intro s k hc;rw[fo,hc,fU,G_ h s.2 (i s.1 k (by rw[er]))];rfl
 | wrap cs hk h i =>
  intro s k hc
  rw[fo,fU,Bool.and_eq_true]at hc
  rw[fo,hc.1,fU,gr,i s.1 k (by rw[fU];exact hc.2)]
  simp[s.2]
 | fu hc h i=>exact fun s=>i s.1
 | d_ hc h i=>exact fun s=>i s.2
 | oW h1 h2 i1 i2=>exact fun s k hc=>i2 s.2.1 (mem (bm h1) k) (i1 s.1 k hc)
 | oX h1 h2 i1 i2=>exact fun s k hc=>i2 s.2.2 (mem (bm h1) k) (i1 s.1 k hc)
 | kI h1 hl h2 i1 i2=>exact fun s k hc=>i2 s.2.1 (mem (bm h1) k) (i1 s.1 k hc)
 | kJ h1 hl h2 i1 i2=>exact fun s k hc=>i2 s.2.2 (mem (bm h1) k) (i1 s.1 k hc)
 | qt h1 hl ht h2 i1 i2 =>
  intro s k hc
  have:=i1 s.1 k hc
  rw[fo,Bool.and_eq_true]at this
  exact i2 vA (mem (bm h1) k) this.1
 | qu h1 hl h2 i1 i2=>exact fun s k hc=>i2 s.2 (mem (bm h1) k) (i1 s.1 k hc)
 | g_ hc=>exact fun _ _ h=>h
 | iU hc h i=>exact fun s=>i s
 | iV hc h h2 i1 i2=>exact fun s k hn=>i2 s (mem (bm h) k) (i1 s k hn)
 | call h i=>exact fun _=>i (hd _)
abbrev n60 {k:Nat}{g:G}(h:gl g)(hk:k≠60):gl (.node k g):=⟨h,fun e=>absurd e hk⟩
theorem cp (w:Bytes):gl (a6 w):=⟨trivial,(by decide:(108:Nat)≠60∧((108:Nat)<100∨(108:Nat)=108))⟩
theorem gz:gl c_:=⟨trivial,(by decide:(108:Nat)≠60∧((108:Nat)<100∨(108:Nat)=108))⟩
theorem xK (w:Bytes){g:G}(h:gl g):gl (oV w g):=⟨⟨trivial,h⟩,(by decide:(0:Nat)≠60∧((0:Nat)<100∨(0:Nat)=108))⟩
theorem zo (ws:List Bytes){g:G}(h:gl g):gl (sw ws g):=⟨⟨trivial,h⟩,trivial⟩
theorem kW (cl:Bytes){el:G}(h:gl el):gl (gf cl el):=⟨⟨h,n60 trivial (by decide),trivial,cp _⟩,cp _⟩
theorem Rw (ty:Bool):gl (wK ty):=n60 ⟨gz,by cases ty<;>first|trivial|exact zo _ (kW _ trivial)⟩ (by decide)
theorem rN (ty:Bool):gl (iT ty):=n60 ⟨Rw ty,trivial,Rw ty⟩ (by decide)
theorem UF:gl EV:=⟨n60 ⟨trivial,zo _ trivial,trivial⟩ (by decide),n60 ⟨trivial,cp _,kW _ trivial,xK _ trivial⟩ (by decide),rN _,(by decide:(46:Nat)≠60∧((46:Nat)<100∨(46:Nat)=108))⟩
theorem Bm:gl j8:=⟨n60 ⟨trivial,zo _ ⟨rN _,trivial,rN _⟩⟩ (by decide),trivial⟩
theorem mf:gl gI:=n60 (zo _ (kW _ Bm)) (by decide)
theorem Pc:gl u_:=⟨n60 ⟨trivial,xK _ trivial⟩ (by decide),trivial⟩
theorem vB (cl:Bytes):gl (lZ cl):=n60 (kW _ Pc) (by decide)
theorem vC (nb:Bool):gl (gJ nb):=⟨gz,mf,cp _,vB _,xK _ trivial,by cases nb<;>first|trivial|exact⟨⟨trivial,(by decide:(0:Nat)≠60∧((0:Nat)<100∨(0:Nat)=108))⟩,trivial⟩⟩
theorem Kr (st:Bool):gl (xl st):=⟨gz,mf,cp _,kW _ ⟨by cases st<;>first|exact n60 ⟨trivial,zo _ (kW _ trivial)⟩ (by decide)|exact n60 ⟨trivial,cp _,trivial⟩ (by decide),trivial⟩⟩
theorem Pd:gl C':=n60 ⟨trivial,gz,xK _ trivial,cp _⟩ (by decide)
theorem xL:gl mX:=⟨cp _,⟨n60 ⟨trivial,vC _,trivial⟩ (by decide),Pd⟩,cp _⟩
theorem UG:gl AU:=⟨mf,trivial,⟨⟨trivial,trivial⟩,trivial⟩,xL⟩
theorem ZM:gl Ow:=⟨⟨n60 ⟨n60 gz (by decide),trivial,trivial,n60 gz (by decide),trivial⟩ (by decide),⟨trivial,trivial⟩,zo _ gz⟩,cp _⟩
theorem Pe:gl Da:=⟨gz,cp _,trivial,cp _,trivial,cp _⟩
theorem Pf:gl Db:=⟨gz,cp _,vB _,cp _,trivial,cp _⟩
theorem UH (k:Nat):gl (gK k):=by
 unfold gK
 split
 ·exact ZM
 ·exact vC _
 ·exact Kr _
 ·exact Kr _
 ·exact⟨gz,xL⟩
 ·exact UG
 ·exact Pe
 ·exact Pf
theorem je {k:Nat}(h:k≠60):gl (f_ k):=n60 ⟨zo _ trivial,trivial,UH k⟩ h
theorem UI:gl xm:=n60 ⟨trivial,trivial⟩ (by decide)
theorem Kt:gl my:=⟨je (by decide),je (by decide),je (by decide),je (by decide),je (by decide),je (by decide),je (by decide),je (by decide),UI⟩
theorem Ku:gl xn:=⟨Kt,trivial⟩
theorem Pg:gl Dc:=n60 ⟨cp _,⟨trivial,trivial,(by decide:(0:Nat)≠60∧((0:Nat)<100∨(0:Nat)=108))⟩,cp _⟩ (by decide)
theorem Rx (bl:Bool){g:G}(h:gl g):gl (Ox bl g):=⟨h,trivial,⟨⟨⟨trivial,trivial,cp _⟩,by decide⟩,trivial⟩,⟨⟨trivial,by cases bl<;>first|trivial|exact(by decide:(108:Nat)≠60∧((108:Nat)<100∨(108:Nat)=108))⟩,by decide⟩,trivial⟩
theorem Bn:gl l_:=⟨⟨n60 ⟨trivial,trivial,xK _ trivial,cp _,trivial,cp _⟩ (by decide),trivial⟩,⟨n60 ⟨trivial,trivial,trivial⟩ (by decide),trivial⟩,⟨n60 ⟨trivial,⟨(by decide:(0:Nat)≠60∧((0:Nat)<100∨(0:Nat)=108)),trivial⟩,cp _⟩ (by decide),trivial⟩,Rx _ trivial,Rx _ trivial⟩
theorem nw (l:Nat):gl (iM l):=⟨trivial,⟨⟨⟨trivial,trivial⟩,by decide⟩,trivial⟩,trivial⟩
theorem Dy:gl j_:=⟨trivial,kW _ trivial⟩
theorem G':gl u':=⟨⟨Dy,by decide⟩,⟨⟨trivial,trivial,Dy⟩,by decide⟩,⟨⟨trivial,gz⟩,by decide⟩⟩
theorem Ph:gl yW:=⟨n60 ⟨trivial,trivial⟩ (by decide),n60 ⟨trivial,zo _ trivial,trivial⟩ (by decide),trivial,G'⟩
theorem ZN:gl Jk:=⟨n60 ⟨trivial,cp _,trivial⟩ (by decide),trivial⟩
theorem Pj:gl Jl:=n60 ⟨trivial,trivial,cp _,kW _ ZN⟩ (by decide)
theorem UJ:gl AW:=⟨n60 ⟨trivial,cp _,trivial⟩ (by decide),trivial⟩
theorem ZO:gl YF:=n60 ⟨trivial,rN _,cp _,kW _ UJ⟩ (by decide)
theorem Kv:gl EX:=n60 ⟨⟨⟨trivial,n60 trivial (by decide)⟩,trivial,vB _⟩,trivial⟩ (by decide)
theorem Pk:gl Jm:=⟨⟨trivial,trivial,cp _⟩,fun _=>.inl (.inr ⟨(by decide:(10:Nat)≠2),trivial,trivial⟩)⟩
theorem Ha:gl qk:=⟨n60 trivial (by decide),n60 trivial (by decide),n60 trivial (by decide),⟨rN _,⟨⟨trivial,Dy⟩,by decide⟩,trivial⟩,Pk,trivial,trivial,Pj,ZO,Kv,(by decide:(46:Nat)≠60∧((46:Nat)<100∨(46:Nat)=108))⟩
theorem Kw:gl yX:=n60 ⟨trivial,trivial,trivial,xK _ ⟨trivial,trivial⟩⟩ (by decide)
theorem Hb:gl va:=⟨n60 ⟨trivial,gz⟩ (by decide),n60 trivial (by decide),n60 trivial (by decide),n60 ⟨rN _,zo _ (kW _ trivial)⟩ (by decide),n60 trivial (by decide),n60 trivial (by decide),(by decide:(46:Nat)≠60∧((46:Nat)<100∨(46:Nat)=108))⟩
theorem vD (f:Nat):gl (ot f):=by
 unfold ot
 split
 ·exact UF
 ·exact Pg
 ·exact Bn
 ·exact Ha
 ·exact Hb
 ·exact Kw
 ·exact nw _
 ·exact nw _
 ·exact nw _
 ·exact nw _
 ·exact nw _
 ·exact Ph
theorem Kx {ts:List Tok}{es:List az}{t':List Tok}(h:bP xn ts [] false t' es)(hk:∀t∈ts,100≤t.1):er es=true:=Bl vD h Ku hk (by rw[er])
mutual
def ZP:az→List Tok
 | .mk k x cs=>if 100≤k then(if x=[] then[] else[(k,x)]) else We cs
def We:List az→List Tok
 | []=>[]
 | t::ts=>ZP t++We ts
end
theorem Ky {k:Nat}(h:k<100)(x:Bytes)(cs:List az):ZP (.mk k x cs)=We cs:=by rw[ZP,if_neg (by omega)]
mutual
theorem Hc (src:Bytes):∀(o:Nat)(t:az),wv t=true→t.kind<100→(aS src o t).2=[]→∀u∈ZP t,u.1≠108
 | o,.mk k x cs,ok,hk,h=>by
  have hk:k<100:=hk
  have ok:=(km k x cs ok).2.2
  rw[Ky hk]
  rw[eX]at h
  refine rO src k o (h0 o) cs ok ?_
  unfold gP at h
  split at h
  ·exact h
  ·split at h
   ·simp at h
   ·exact h
theorem rO (src:Bytes)(k:Int):∀(o:Nat)(h:Hd)(ts:List az),mP ts=true→(aQ src k o h ts).ds=[]→∀u∈We ts,u.1≠108
 | o,h,[],_,_=>by rw[We];nofun
 | o,h,t::ts,ok,e=>by
  rw[fA,Bool.and_eq_true]at ok
  rw[We]
  intro u hu
  by_cases c:100≤t.kind
  ·rw[cA _ _ _ _ _ _ c,List.append_eq_nil_iff]at e
   rcases List.mem_append.1 hu with m|m
   ·cases t with
    | mk kk x c' =>
     have c:100≤kk:=c
     rw[ZP,if_pos c]at m
     split at m
     ·cases m
     ·rename_i hx
      cases List.mem_singleton.1 m
      intro q
      have q:kk=108:=q
      subst q
      have e1:(cP k h 108 x o).2=[]:=e.1
      unfold cP at e1
      simp[hx]at e1
   ·exact rO src k _ _ ts ok.2 e.2 u m
  ·rw[cS _ _ _ _ _ _ c,List.append_eq_nil_iff]at e
   rcases List.mem_append.1 hu with m|m
   ·exact Hc src _ t ok.1 (by omega) e.1 u m
   ·exact rO src k _ _ ts ok.2 e.2 u m
end
end Pm
end

section
namespace ParF
open Go Go.Abs Go.Proofs Pm vy
theorem Kz:((List.range 100).all fun k=>match den C 25 154 [I k] [] with|some (.bool b,_)=>b==hasName k|_=>false)=true:=by kernel_rfl
theorem KA {k:Nat}(hk:k<100){n:Nat}(hn:25≤n)(s:ag):ab Tryz.prog (den C n) 154 [I k] s=some (.bool (hasName k),s):=by
 have h:=List.all_eq_true.1 Kz k (List.mem_range.2 hk)
 obtain⟨v,s1,h1,h2⟩:∃b s1,den C 25 154 [I k] []=some (.bool b,s1)∧(b==hasName k)=true:=by
  revert h
  cases hd:den C 25 154 [I k] [] with
  | none=>intro h;cases h
  | some r =>
   obtain⟨v,s1⟩:=r
   cases v with
   | bool b=>intro h;exact⟨b,s1,rfl,h⟩
   | _=>intro h;cases h
 have e:v=hasName k:=by simpa using h2
 subst e
 have:=AM C hn _ _ _ _ h1
 have he:ah Tryz.prog 154=true:=ZF
 simp[ab,he,this,aV,AV.a_]
end ParF
end

section
namespace ParF
open Go Go.Abs Go.Proofs Pm vy
mutual
inductive qK:Nd→AV→Prop
 | mk (k v:Int) (x:Bytes) (s e ns:Int) (cs:List Nd) (ch:AV) (h:nx cs ch):qK (.mk k v x s e ns cs) (.agg [I k,I v,.str x,I s,I e,I ns,ch])
inductive nx:List Nd→AV→Prop
 | nil:nx [] .aN
 | sl (cs:List Nd) (rows:List AV) (h:iH cs rows):nx cs (.sl 58 7 rows .sh)
inductive iH:List Nd→List AV→Prop
 | nil:iH [] []
 | cons (t:Nd) (a:AV) (cs:List Nd) (rows:List AV) (h:qK t a) (h':iH cs rows):iH (t::cs) (a::rows)
end
mutual
theorem qK.a_:∀{t:Nd}{a:AV},qK t a→a.a_=true
 | _,_,.mk k v x s e ns cs ch h=>by
  have:=nx.a_ h
  rw[lm]
  simp only[aC,aY,eQ,eR,this,Bool.and_self]
theorem nx.a_:∀{cs:List Nd}{ch:AV},nx cs ch→ch.a_=true
 | _,_,.nil=>by simp[AV.a_]
 | _,_,.sl cs rows h=>by rw[cE];exact iH.a_ h
theorem iH.a_:∀{cs:List Nd}{rows:List AV},iH cs rows→aV rows=true
 | _,_,.nil=>aY
 | _,_,.cons t a cs rows h k=>by rw[aC,qK.a_ h,iH.a_ k];rfl
end
theorem nx.aa {cs:List Nd}{ch:AV}(h:nx cs ch):ch.aa=ch∧gg ch=true∧ch.a_=true:=by
 refine⟨?_,?_,h.a_⟩
 ·cases h<;>rfl
 ·cases h<;>rfl
theorem qK.cells {t:Nd}{a:AV}(h:qK t a):a.cells.length=7∧a.cells.map AV.aa=a.cells∧a.cells.all gg=true∧a=.agg a.cells:=by
 cases h with
 | mk k v x s e ns cs ch h =>
  obtain⟨h1,h2,h3⟩:=h.aa
  refine⟨rfl,?_,?_,rfl⟩
  ·show [(I k).aa,(I v).aa,(AV.str x).aa,(I s).aa,(I e).aa,(I ns).aa,ch.aa]=_;rw[h1];rfl
  ·show (true&&(true&&(true&&(true&&(true&&(true&&(gg ch&&true)))))))=true;rw[h2];rfl
theorem iH.length:∀{cs:List Nd}{rows:List AV},iH cs rows→rows.length=cs.length
 | _,_,.nil=>rfl
 | _,_,.cons _ _ _ _ _ t=>by rw[List.length_cons,List.length_cons,iH.length t]
theorem iH.append:∀{cs ds:List Nd}{rows A6:List AV},iH cs rows→iH ds A6→iH (cs++ds) (rows++A6)
 | _,_,_,_,.nil,k=>k
 | _,_,_,_,.cons _ _ _ _ h t,k=>.cons _ _ _ _ h (iH.append t k)
theorem iH.snoc {cs:List Nd}{rows:List AV}{t:Nd}{a:AV}(h:iH cs rows)(k:qK t a):iH (cs++[t]) (rows++[a]):=h.append (.cons _ _ _ _ k .nil)
theorem iH.cells:∀{cs:List Nd}{rows:List AV},iH cs rows→(cellsOf rows).length=7*cs.length∧(cellsOf rows).map AV.aa=cellsOf rows∧(cellsOf rows).all gg=true∧chunks 7 cs.length (cellsOf rows)=rows
 | _,_,.nil=>⟨rfl,rfl,rfl,rfl⟩
 | _,_,.cons t a cs rows h k=>by
  obtain⟨h1,h2,h3,h4⟩:=h.cells
  obtain⟨k1,k2,k3,k4⟩:=k.cells
  have e:cellsOf (a::rows)=a.cells++cellsOf rows:=rfl
  rw[e]
  refine⟨by rw[List.length_append,h1,k1,List.length_cons];omega,by rw[List.map_append,h2,k2],by rw[List.all_append,h3,k3];rfl,?_⟩
  rw[List.length_cons,chunks,if_neg (by decide),List.take_append_of_le_length (by omega),List.take_of_length_le (by omega),List.drop_append_of_le_length (by omega),List.drop_of_length_le (by omega),List.nil_append,k4,←h4]
def bR (k:Int)(h:Hd)(ch:AV):List AV:=[I k,I h.v,.str h.x,I h.s,I h.e,I h.ns,ch]
theorem fV {s:ag}{i:Nat}{v:TypeId×List AV}(h:s[i]?=some v):s.set i v=s:=by
 obtain⟨h1,h2⟩:=List.getElem?_eq_some_iff.1 h
 rw[←h2];exact List.set_getElem_self h1
theorem set_set (s:ag)(i:Nat)(v w:TypeId×List AV):(s.set i v).set i w=s.set i w:=by simp
theorem KB {s:ag}{H:Nat}{k:Int}{h:Hd}{ch:AV}(hh:s[H]?=some (58,bR k h ch)){o:Nat}{v:AV}(hs:v.ce=true)(h1:v.cells.length=1)(ho:o<7):aB 1 s (.ref H o) v=some (s.set H (58,bZ (bR k h ch) o (dv v))):=st hh (by decide) hs h1 (by show o+1≤7;omega)
theorem Fa {s:ag}{H:Nat}{k:Int}{h:Hd}{ch:AV}(hs:s[H]?=some (58,bR k h ch))(a b:Int)(n:Nat):ab Tryz.prog (den C (n+1)) 68 [.ref H 0,I a,I b] s=some (.aI [],s.set H (58,bR k (h.ext a b) ch)):=by
 have l4:af false false 1 (.ref H 4) s=some (I h.e,s):=ld (o:=4) hs (by decide) rfl (by decide)
 have s3:aB 1 s (.ref H 3) (I a)=some (s.set H (58,bR k ⟨h.v,h.x,a,h.e,h.ns⟩ ch)):=KB hs rfl rfl (by decide)
 have s4:aB 1 s (.ref H 4) (I b)=some (s.set H (58,bR k ⟨h.v,h.x,h.s,b,h.ns⟩ ch)):=KB hs rfl rfl (by decide)
 have Ws:aB 1 (s.set H (58,bR k ⟨h.v,h.x,a,h.e,h.ns⟩ ch)) (.ref H 4) (I b)=some ((s.set H (58,bR k ⟨h.v,h.x,a,h.e,h.ns⟩ ch)).set H (58,bR k ⟨h.v,h.x,a,b,h.ns⟩ ch)):=KB (bK hs) rfl rfl (by decide)
 rw[aF ac4 (a7 ..),Ut,F68]
 by_cases c:h.e<0
 ·have:h.ext a b=⟨h.v,h.x,a,b,h.ns⟩:=by unfold Hd.ext;rw[if_pos c]
  rw[this]
  simp -implicitDefEqProofs only[sL,l4,c,s3,zj,Ws]
  simp[ai,an,aH,au,aD,Ws,oh,mp,dZ]
 ·have:h.ext a b=⟨h.v,h.x,h.s,b,h.ns⟩:=by unfold Hd.ext;rw[if_neg c]
  rw[this]
  simp -implicitDefEqProofs only[sL,l4,c,zj,s4]
  simp[ai,an,aH,au,aD,s4,oh,mp,dZ]
end ParF
end

section
namespace ParF
open Go Go.Abs Go.Proofs Pm vy
theorem Fb (x:BitVec 64):IntKind.i64.wrap ((x.toNat:Nat):Int)=x.toInt:=by
 have h:=x.isLt
 have e1:(2:Int) ^ 64=18446744073709551616:=(rfl)
 have e2:(2:Int) ^ (64-1)=9223372036854775808:=(rfl)
 have e3:(2:Nat) ^ 64=18446744073709551616:=(rfl)
 simp only[IntKind.wrap,IntKind.signed,IntKind.bits,e1,e2,Bool.true_and,decide_eq_true_eq,BitVec.toInt,e3]
 rw[e3]at h
 split<;>split<;>omega
theorem Dz (t:TypeId)(a b:Int):aK Tryz.prog .or t (I a) (I b)=some (I (orI a b)):=by
 rw[yF]
 show some (AV.int .i64 (IntKind.i64.wrap _))=_
 congr 2
 exact Fb _
theorem mB {x w:List UInt8}(h:x=w):(x==w)=true:=by simp[h]
theorem mC {x w:List UInt8}(h:¬x=w):(x==w)=false:=by simp[h]
theorem ey {x w:Int}(h:x=w):(x==w)=true:=by simp[h]
theorem dm {x w:Int}(h:¬x=w):(x==w)=false:=by simp[h]
theorem KC {s:ag}{H:Nat}{k:Int}{h:Hd}{ch:AV}(hs:s[H]?=some (58,bR k h ch))(x:Bytes)(n:Nat):ab Tryz.prog (den C (n+1)) 114 [.ref H 0,.str x] s=some (.aI [],s.set H (58,bR k (kN k h x) ch)):=by
 have l0:af false false 1 (.ref H 0) s=some (I k,s):=ld (o:=0) hs (by decide) rfl (by decide)
 have l1:af false false 1 (.ref H 1) s=some (I h.v,s):=ld (o:=1) hs (by decide) rfl (by decide)
 have l2:af false false 1 (.ref H 2) s=some (.str h.x,s):=ld (o:=2) hs (by decide) rfl (by decide)
 have s1:∀v:Int,aB 1 s (.ref H 1) (I v)=some (s.set H (58,bR k ⟨v,h.x,h.s,h.e,h.ns⟩ ch)):=fun v=>KB hs rfl rfl (by decide)
 have s2:∀z:Bytes,aB 1 s (.ref H 2) (.str z)=some (s.set H (58,bR k ⟨h.v,z,h.s,h.e,h.ns⟩ ch)):=fun z=>KB hs rfl rfl (by decide)
 rw[aF ZE (a7 ..),O4,ZD]
 unfold kN
 by_cases c1:x=lY
 ·have e1:(x==[112,117,98])=true:=mB c1
  rw[if_pos c1]
  simp -implicitDefEqProofs only[sL,e1,l1,Dz,s1]
 have e1:(x==[112,117,98])=false:=mC c1
 rw[if_neg c1]
 by_cases c2:x=mF
 ·have e2:(x==[109,117,116])=true:=mB c2
  rw[if_pos c2]
  simp -implicitDefEqProofs only[sL,e1,e2,l1,Dz,s1]
 have e2:(x==[109,117,116])=false:=mC c2
 rw[if_neg c2]
 by_cases c3:x=mW
 ·have e3:(x==[42])=true:=mB c3
  have nt:¬x=iS:=by rw[c3];decide
  have e4:(x==[116,114,117,101])=false:=mC nt
  by_cases k2:k=2
  ·have f2:=ey k2
   rw[if_pos ⟨c3,k2⟩]
   simp -implicitDefEqProofs only[sL,e1,e2,e3,l0,l1,f2,Dz,s1]
  ·have f2:=dm k2
   rw[if_neg (fun q=>k2 q.2),if_neg (fun q=>nt q.1)]
   by_cases k9:k=39
   ·have f9:=ey k9
    by_cases kx:h.x=[]
    ·have fx:=mB kx
     rw[if_pos ⟨.inl k9,kx⟩]
     simp -implicitDefEqProofs only[sL,e1,e2,e3,e4,l0,l1,l2,f2,f9,fx,s2]
    ·have fx:=mC kx
     rw[if_neg (fun q=>kx q.2)]
     simp -implicitDefEqProofs only[sL,e1,e2,e3,e4,l0,l1,l2,f2,f9,fx]
     rw[fV hs]
   ·have f9:=dm k9
    by_cases Fc:k=40
    ·have f10:=ey Fc
     by_cases kx:h.x=[]
     ·have fx:=mB kx
      rw[if_pos ⟨.inr Fc,kx⟩]
      simp -implicitDefEqProofs only[sL,e1,e2,e3,e4,l0,l1,l2,f2,f9,f10,fx,s2]
     ·have fx:=mC kx
      rw[if_neg (fun q=>kx q.2)]
      simp -implicitDefEqProofs only[sL,e1,e2,e3,e4,l0,l1,l2,f2,f9,f10,fx]
      rw[fV hs]
    ·have f10:=dm Fc
     rw[if_neg (fun q=>by rcases q.1 with q|q;exact k9 q;exact Fc q)]
     simp -implicitDefEqProofs only[sL,e1,e2,e3,e4,l0,l1,l2,f2,f9,f10]
     rw[fV hs]
 ·have e3:(x==[42])=false:=mC c3
  rw[if_neg (fun q=>c3 q.1)]
  have tail:(x==[116,114,117,101])=false∨((x==[116,114,117,101])=true∧(k==28)=false)→¬(x=iS∧k=28):=by
   rintro(q|⟨_,q⟩) ⟨r1,r2⟩
   ·rw[mB r1]at q;cases q
   ·rw[ey r2]at q;cases q
  by_cases c4:x=iS
  ·have e4:(x==[116,114,117,101])=true:=mB c4
   by_cases k28:k=28
   ·have f28:=ey k28
    rw[if_pos ⟨c4,k28⟩]
    simp -implicitDefEqProofs only[sL,e1,e2,e3,e4,l0,l1,f28,s1]
   ·have f28:=dm k28
    rw[if_neg (tail (.inr ⟨e4,f28⟩))]
    by_cases k9:k=39
    ·have f9:=ey k9
     by_cases kx:h.x=[]
     ·have fx:=mB kx
      rw[if_pos ⟨.inl k9,kx⟩]
      simp -implicitDefEqProofs only[sL,e1,e2,e3,e4,l0,l1,l2,f28,f9,fx,s2]
     ·have fx:=mC kx
      rw[if_neg (fun q=>kx q.2)]
      simp -implicitDefEqProofs only[sL,e1,e2,e3,e4,l0,l1,l2,f28,f9,fx]
      rw[fV hs]
    ·have f9:=dm k9
     by_cases Fc:k=40
     ·have f10:=ey Fc
      by_cases kx:h.x=[]
      ·have fx:=mB kx
       rw[if_pos ⟨.inr Fc,kx⟩]
       simp -implicitDefEqProofs only[sL,e1,e2,e3,e4,l0,l1,l2,f28,f9,f10,fx,s2]
      ·have fx:=mC kx
       rw[if_neg (fun q=>kx q.2)]
       simp -implicitDefEqProofs only[sL,e1,e2,e3,e4,l0,l1,l2,f28,f9,f10,fx]
       rw[fV hs]
     ·have f10:=dm Fc
      rw[if_neg (fun q=>by rcases q.1 with q|q;exact k9 q;exact Fc q)]
      simp -implicitDefEqProofs only[sL,e1,e2,e3,e4,l0,l1,l2,f28,f9,f10]
      rw[fV hs]
  ·have e4:(x==[116,114,117,101])=false:=mC c4
   rw[if_neg (tail (.inl e4))]
   by_cases k9:k=39
   ·have f9:=ey k9
    by_cases kx:h.x=[]
    ·have fx:=mB kx
     rw[if_pos ⟨.inl k9,kx⟩]
     simp -implicitDefEqProofs only[sL,e1,e2,e3,e4,l0,l1,l2,f9,fx,s2]
    ·have fx:=mC kx
     rw[if_neg (fun q=>kx q.2)]
     simp -implicitDefEqProofs only[sL,e1,e2,e3,e4,l0,l1,l2,f9,fx]
     rw[fV hs]
   ·have f9:=dm k9
    by_cases Fc:k=40
    ·have f10:=ey Fc
     by_cases kx:h.x=[]
     ·have fx:=mB kx
      rw[if_pos ⟨.inr Fc,kx⟩]
      simp -implicitDefEqProofs only[sL,e1,e2,e3,e4,l0,l1,l2,f9,f10,fx,s2]
     ·have fx:=mC kx
      rw[if_neg (fun q=>kx q.2)]
      simp -implicitDefEqProofs only[sL,e1,e2,e3,e4,l0,l1,l2,f9,f10,fx]
      rw[fV hs]
    ·have f10:=dm Fc
     rw[if_neg (fun q=>by rcases q.1 with q|q;exact k9 q;exact Fc q)]
     simp -implicitDefEqProofs only[sL,e1,e2,e3,e4,l0,l1,l2,f9,f10]
     rw[fV hs]
end ParF
end

section
namespace ParF
open Go Go.Abs Go.Proofs Pm vy
def _root_.Pm.Dg.row (g:Dg):List AV:=[I g.code,I 0,I g.s,I g.e,.str []]
def Cl (ds:List Dg)(q:Option Nat):AV:=match q with
 | none=>.aN
 | some Q=>.rs 71 5 Q 0 ds.length
structure BS (src:Bytes)(B:Nat)(s:ag)(off:Nat)(ds:List Dg)(q:Option Nat):Prop where
 par:s[B]?=some (94,[.str src,I off,Cl ds q])
 nil:q=none→ds=[]
 row:∀Q,q=some Q→Q≠B∧ds≠[]∧∃junk,s[Q]?=some (71,ds.flatMap Dg.row++junk)
def JB (B:Nat)(q:Option Nat):List Nat:=B::q.toList
theorem BS.lt {src:Bytes}{B:Nat}{s:ag}{off:Nat}{ds:List Dg}{q:Option Nat}(h:BS src B s off ds q):∀x∈JB B q,x<s.length:=by
 intro x hx
 rcases List.mem_cons.1 hx with rfl|hx
 ·exact iN h.par
 ·rw[Option.mem_toList]at hx
  obtain⟨_,_,_,k⟩:=h.row x hx
  exact iN k
theorem BS.frame {src:Bytes}{B:Nat}{s s':ag}{off:Nat}{ds:List Dg}{q:Option Nat}(h:BS src B s off ds q)(k:∀x∈JB B q,s'[x]?=s[x]?):BS src B s' off ds q:=by
 refine⟨(k B (List.mem_cons_self ..)).trans h.par,h.nil,fun Q hq=>?_⟩
 obtain⟨a,b,j,c⟩:=h.row Q hq
 exact⟨a,b,j,(k Q (List.mem_cons_of_mem _ (by rw[Option.mem_toList];exact hq))).trans c⟩
theorem BS.set {src:Bytes}{B:Nat}{s:ag}{off:Nat}{ds:List Dg}{q:Option Nat}(h:BS src B s off ds q){H:Nat}(hH:H∉JB B q)(v:TypeId×List AV):BS src B (s.set H v) off ds q :=
 h.frame fun x hx=>bu (fun e=>hH (by rw[e];exact hx))
theorem BS.app {src:Bytes}{B:Nat}{s:ag}{off:Nat}{ds:List Dg}{q:Option Nat}(h:BS src B s off ds q)(v:TypeId×List AV):BS src B (s++[v]) off ds q :=
 h.frame fun x hx=>bE (h.lt x hx)
theorem Ex.qL (s:ag)(J:List Nat){H:Nat}(hH:H∈J)(v:TypeId×List AV):Ex s (s.set H v) J J :=
 ⟨by rw[bh];exact Nat.le_refl _,fun x _ hj=>bu (fun e=>hj (by rw[←e];exact hH)),fun x hx=>.inl hx⟩
theorem Ex.ac_ (s:ag)(J:List Nat)(v:TypeId×List AV):Ex s (s++[v]) J J :=
 ⟨by rw[aP];omega,fun x hx _=>bE hx,fun x hx=>.inl hx⟩
theorem Ex.xM {s s':ag}{J J':List Nat}(h:Ex s s' J J')(H:Nat):Ex s s' (H::J) (H::J') :=
 ⟨h.len,fun x hx hj=>h.fr x hx (fun k=>hj (List.mem_cons_of_mem _ k)),fun x hx=>by
  rcases List.mem_cons.1 hx with rfl|hx
  ·exact .inl (List.mem_cons_self ..)
  ·rcases h.sub x hx with k|k
   ·exact .inl (List.mem_cons_of_mem _ k)
   ·exact .inr k⟩
theorem Ex.h_ {s s':ag}{J J':List Nat}(h:Ex s s' J J'){x:Nat}(hx:x<s.length)(hj:x∉J):x∉J':=fun k=>by
 rcases h.sub x k with k|k
 ·exact hj k
 ·omega
theorem zp:Tryz.prog.underlying 51=some (.slice 71):=by kernel_rfl
theorem Pn:(Tryz.prog.info? 71).map (fun i=>(i.size,i.zero.map (·.cells.size),decide (i.bytes≤48)))=some (5,some 5,true):=by kernel_rfl
theorem DA:∃i z,Tryz.prog.info? 71=some i∧i.size=5∧i.zero=some z∧z.cells.size=5∧i.bytes≤48:=by
 have h:=Pn
 rw[Option.map_eq_some_iff]at h
 obtain⟨i,h1,h2⟩:=h
 simp only[Prod.mk.injEq,Option.map_eq_some_iff,decide_eq_true_eq]at h2
 obtain⟨a,⟨z,b,c⟩,d⟩:=h2
 exact⟨i,z,h1,a,b,c,d⟩
theorem He (s:ag)(g:Dg):bA Tryz.prog 51 51 .aN (.sl 71 5 [.agg g.row] .own) s=some (.rs 71 5 s.length 0 1,s++[(71,g.row)]):=by
 obtain⟨i,z,h1,h2,h3,h4,h5⟩:=DA
 have hb:mv i 1:=⟨by omega,by omega⟩
 simp[bA,zp,h1,iQ,h2,h3,h4,hb,cI,cellsOf,AV.cells,Dg.row,AV.aa]
theorem KD {s:ag}{id len:Nat}{cs:List AV}(h:s[id]?=some (71,cs))(hl:len*5≤cs.length)(hne:cs≠[])(hn:len<1000000000)(g:Dg) :
  bA Tryz.prog 51 51 (.rs 71 5 id 0 len) (.sl 71 5 [.agg g.row] .own) s=some (.rs 71 5 s.length 0 (len+1),kill s id++[(71,cs.take (len*5)++g.row)]):=by
 obtain⟨i,z,h1,h2,h3,h4,h5⟩:=DA
 have hb:mv i (len+1):=⟨by
  have:(2*(len+1)+768)*i.bytes≤(2*(len+1)+768)*48:=Nat.mul_le_mul_left _ h5
  omega,by omega⟩
 simp[bA,zp,h1,iQ,h2,h3,h4,hb,cI,cellsOf,AV.cells,h,hl,hne,Dg.row,AV.aa]
theorem sE (ds:List Dg):(ds.flatMap Dg.row).length=5*ds.length:=by
 induction ds with
 | nil=>rfl
 | cons l fm ih=>rw[List.flatMap_cons,List.length_append,ih];show 5+5*fm.length=5*(fm.length+1);omega
theorem Po (c a b:Int):bn Tryz.prog 71 [(0,I c),(2,I a),(3,I b)]=some (.agg (Dg.row ⟨c,a,b⟩)):=by
 have hz:zeroOf Tryz.prog 71=some (.agg [I 0,I 0,I 0,I 0,.str []]):=by kernel_rfl
 have hu:(match Tryz.prog.underlying 71 with|some (.struct fs)=>dN Tryz.prog fs.toList|_=>none)=some [(0,1),(1,1),(2,1),(3,1),(4,1)]:=by kernel_rfl
 unfold bn
 split at hu
 ·rename_i fs hh
  rw[hz,hh]
  simp[hu,jo,bZ,AV.cells,AV.ce,Dg.row,AV.aa]
 ·cases hu
theorem ZQ (g:Dg):ak Tryz.prog 51 1 [(0,.agg g.row)]=some (.sl 71 5 [.agg g.row] .own):=by
 obtain⟨i,z,h1,h2,h3,h4,h5⟩:=DA
 have hs:da Tryz.prog 71=some 5:=by kernel_rfl
 simp[ak,zp,hs,h1,h3,h4,k7,AV.cells,AV.ce,Dg.row,AV.aa]
theorem nW (ds:List Dg)(q:Option Nat):(Cl ds q).aa=Cl ds q:=by unfold Cl;cases q<;>rfl
theorem nX {src:Bytes}{B:Nat}{s:ag}{off:Nat}{ds:List Dg}{q:Option Nat}(h:BS src B s off ds q)(c a b:Int)(hn:ds.length<1000000) :
  ∃s' q',(∀n,ab Tryz.prog (den C (n+1)) 110 [.ref B 0,I c,I a,I b] s=some (.aI [],s'))∧BS src B s' off (ds++[⟨c,a,b⟩]) q'∧Ex s s' (JB B q) (JB B q'):=by
 have hB:=iN h.par
 have l2:af false false 1 (.ref B 2) s=some (Cl ds q,s):=by rw[ld (o:=2) h.par (by decide) rfl (by decide),nW]
 have fin:∀s0,s0.length=s.length+1→s0[B]?=s[B]?→s0[s.length]?=some (71,(ds++[(⟨c,a,b⟩:Dg)]).flatMap Dg.row)→(∀x,x<s.length→x∉JB B q→s0[x]?=s[x]?) →
   bA Tryz.prog 51 51 (Cl ds q) (.sl 71 5 [.agg (Dg.row ⟨c,a,b⟩)] .own) s=some (.rs 71 5 s.length 0 (ds.length+1),s0) →
   ∃s' q',(∀n,ab Tryz.prog (den C (n+1)) 110 [.ref B 0,I c,I a,I b] s=some (.aI [],s'))∧BS src B s' off (ds++[⟨c,a,b⟩]) q'∧Ex s s' (JB B q) (JB B q'):=by
  intro s0 hl hb hq hf ha
  have hst:aB 1 s0 (.ref B 2) (.rs 71 5 s.length 0 (ds.length+1))=some (s0.set B (94,[.str src,I off,.rs 71 5 s.length 0 (ds.length+1)])):=st (hb.trans h.par) (by decide) rfl rfl (by show 3≤3;decide)
  have hlen:(ds++[(⟨c,a,b⟩:Dg)]).length=ds.length+1:=by simp
  refine⟨s0.set B (94,[.str src,I off,.rs 71 5 s.length 0 (ds.length+1)]),some s.length,fun n=>?_,⟨?_,nofun,fun Q e=>?_⟩,⟨by rw[bh,hl];omega,fun x hx hj=>?_,fun x hx=>?_⟩⟩
  ·rw[aF Zy (a7 ..),OZ,Zx]
   simp -implicitDefEqProofs only[sL,l2,Po,ZQ,ha,dD,hst]
  ·show (s0.set B _)[B]?=_
   rw[bK (hb.trans h.par),Cl,hlen]
  ·cases e
   exact⟨by omega,by simp,[],by rw[bu (by omega),hq,List.append_nil]⟩
  ·have hxB:x≠B:=fun e=>hj (by rw[e];exact List.mem_cons_self ..)
   rw[bu (Ne.symm hxB),hf x hx hj]
  ·rcases List.mem_cons.1 hx with rfl|hx
   ·exact .inl (List.mem_cons_self ..)
   ·rw[Option.mem_toList]at hx;cases hx;exact .inr (Nat.le_refl _)
 cases q with
 | none =>
  have e:=h.nil rfl
  subst e
  exact fin _ (aP _ _) (bE hB) aW (fun x hx _=>bE hx) (He s _)
 | some Q =>
  obtain⟨k1,k2,junk,k3⟩:=h.row Q rfl
  have hr:=sE ds
  have hd:0<ds.length:=List.length_pos_iff.2 k2
  have ap:=KD (len:=ds.length) k3 (by rw[List.length_append];omega) (by intro e;have:=congrArg List.length e;rw[List.length_append,hr,List.length_nil]at this;omega) (by omega) (⟨c,a,b⟩:Dg)
  rw[List.take_append_of_le_length (by omega),List.take_of_length_le (by omega)]at ap
  refine fin _ (by rw[aP,bw]) ?_ ?_ (fun x hx hj=>?_) ap
  ·rw[bE (by rw[bw];exact hB),fS k1]
  ·have:=aW (s:=kill s Q) (x:=(71,ds.flatMap Dg.row++Dg.row ⟨c,a,b⟩))
   rw[bw]at this
   rw[this,List.flatMap_append];simp
  ·rw[bE (by rw[bw];exact hx),fS (fun e=>hj (by rw[←e];exact List.mem_cons_of_mem _ (by simp)))]
theorem iq (s:List UInt8):bN Tryz.prog 9 (.str s)=some (I s.length):=by simp[bN]
theorem Hf {src:Bytes}{B:Nat}{s:ag}{o:Nat}{x:Bytes}{ds:List Dg}{q:Option Nat}(hb:BS src B s (o+x.length) ds q){H k:Nat}{h:Hd}{ch:AV}(hs:s[H]?=some (58,bR k h ch))(hH:H∉JB B q)(hk:k<100)
  (hn:ds.length<1000000){n:Nat}(hm:30≤n) :
  ∃s' q',ab Tryz.prog (den C n) 111 [.ref B 0,.ref H 0,.str x,I o] s=some (.aI [],s')∧BS src B s' (o+x.length) (ds++(dS k h x o).2) q'∧s'[H]?=some (58,bR k (dS k h x o).1 ch)∧H∉JB B q'∧Ex s s' (H::JB B q) (H::JB B q'):=by
 obtain⟨n,rfl⟩:∃m,n=m+1:=⟨n-1,by omega⟩
 obtain⟨m,hm1⟩:∃m,n=m+1:=⟨n-1,by omega⟩
 have lb:af false false 1 (.ref B 1) s=some (I ((o+x.length:Nat):Int),s):=ld (o:=1) hb.par (by decide) rfl (by decide)
 have hlt:=iN hs
 -- the name itself
 have key:∀(s1:ag) (q1:Option Nat) (e:Env),BS src B s1 (o+x.length) (ds++(dS k h x o).2) q1→s1[H]?=some (58,bR k h ch)→H∉JB B q1→Ex s s1 (H::JB B q) (H::JB B q1)→e 1=.ref H 0→e 2=.str x→e 3=I o →
   ∃s' q',uc (den C n) n e s1=some (.aI [],s')∧BS src B s' (o+x.length) (ds++(dS k h x o).2) q'∧s'[H]?=some (58,bR k (dS k h x o).1 ch)∧H∉JB B q'∧Ex s s' (H::JB B q) (H::JB B q'):=by
  intro s1 q1 e b1 h1 j1 x1 e1 e2 e3
  have l0:af false false 1 (.ref H 0) s1=some (I k,s1):=ld (o:=0) h1 (by decide) rfl (by decide)
  have l5:af false false 1 (.ref H 5) s1=some (I h.ns,s1):=ld (o:=5) h1 (by decide) rfl (by decide)
  have nm:=KA hk (n:=n) (by omega) s1
  have s2:aB 1 s1 (.ref H 2) (.str x)=some (s1.set H (58,bR k ⟨h.v,x,h.s,h.e,h.ns⟩ ch)):=KB h1 rfl rfl (by decide)
  have s5:aB 1 (s1.set H (58,bR k ⟨h.v,x,h.s,h.e,h.ns⟩ ch)) (.ref H 5) (I o)=some ((s1.set H (58,bR k ⟨h.v,x,h.s,h.e,h.ns⟩ ch)).set H (58,bR k ⟨h.v,x,h.s,h.e,o⟩ ch)):=KB (bK h1) rfl rfl (by decide)
  rw[set_set]at s5
  unfold dS
  simp only
  unfold uc
  cases c1:hasName k with
  | false =>
   rw[c1]at nm
   refine⟨s1,q1,?_,b1,?_,j1,x1⟩
   ·simp -implicitDefEqProofs only[sL,e1,e2,e3,l0,nm]
   ·simpa using h1
  | true =>
   rw[c1]at nm
   by_cases c2:h.ns<0
   ·refine⟨s1.set H (58,bR k ⟨h.v,x,h.s,h.e,(o:Int)⟩ ch),q1,?_,b1.set j1 _,?_,j1,x1.trans (Ex.qL s1 _ (List.mem_cons_self ..) _)⟩
    ·simp -implicitDefEqProofs only[sL,e1,e2,e3,l0,l5,nm,c2,s2,s5]
    ·rw[bK h1];simp[c2]
   ·refine⟨s1,q1,?_,b1,?_,j1,x1⟩
    ·simp -implicitDefEqProofs only[sL,e1,e2,e3,l0,l5,nm,c2]
    ·simpa[c2] using h1
 by_cases c:30<x.length
 ·obtain⟨s1,q1,r1,b1,x1⟩:=nX hb 5 (o:Int) ((o+x.length:Nat):Int) hn
  have r1:=r1 m
  rw[←hm1]at r1
  have x2:=x1.xM H
  have h1:=(x1.fr H hlt hH).trans hs
  have j1:=x1.h_ hlt hH
  have ed:(dS k h x o).2=[⟨5,o,((o+x.length:Nat):Int)⟩]:=by
   unfold dS;simp only;rw[if_pos c];congr 2
  rw[←ed]at b1
  obtain⟨s',q',g1,g2⟩:=key s1 q1 (bf (aH [.ref B 0,.ref H 0,.str x,I o]) [(8,.str x),(9,I x.length),(10,.bool true),(11,.ref B 0),(12,I o),(13,.ref B 0),(14,.ref B 0),(15,.ref B 1),(16,I ((o+x.length:Nat):Int)),(17,.aI [])]) b1 h1 j1 x2 (by simp[ai,an,aH]) (by simp[ai,an,aH]) (by simp[ai,an,aH])
  refine⟨s',q',?_,g2⟩
  have c':((30:Int)<(x.length:Int))=True:=by simp;omega
  rw[aF Ru (a7 ..),E_,Uu]
  simp -implicitDefEqProofs only[sL,iq,c',lb,r1]
  exact g1
 ·have ed:(dS k h x o).2=[]:=by
   unfold dS;simp only;rw[if_neg c]
  have hb':BS src B s (o+x.length) (ds++(dS k h x o).2) q:=by rw[ed,List.append_nil];exact hb
  obtain⟨s',q',g1,g2⟩:=key s q (bf (aH [.ref B 0,.ref H 0,.str x,I o]) [(8,.str x),(9,I x.length),(10,.bool false)]) hb' hs hH (Ex.refl _ _) (by simp[ai,an,aH]) (by simp[ai,an,aH]) (by simp[ai,an,aH])
  refine⟨s',q',?_,g2⟩
  have c':((30:Int)<(x.length:Int))=False:=by simp;omega
  rw[aF Ru (a7 ..),E_,Uu]
  simp -implicitDefEqProofs only[sL,iq,c',lb]
  exact g1
end ParF
end

section
namespace ParF
open Go Go.Abs Go.Proofs Pm vy
theorem vE:AV.gA.aa=.gA:=(rfl)
theorem Hg:AV.wx.aa=.wx:=(rfl)
theorem KE {D:a8}{g:FuncId}{args:List AV}{s s1:ag}{v:AV}(he:ah Tryz.prog g=true)(hn:aV args=true)(hv:v.a_=true)(h:D g args []=some (v,s1)):ab Tryz.prog D g args s=some (v,s):=by
 simp[ab,he,hn,h,hv]
theorem Pp {src:Bytes}{B:Nat}{s:ag}{o:Nat}{x:Bytes}{ds:List Dg}{q:Option Nat}(hb:BS src B s (o+x.length) ds q)(hx:x≠[])(hd:(x.all fun b=>decide (48≤b.toNat)&&decide (b.toNat≤57))=true)(hl:x.length<100000)
  (hn:ds.length<1000000){n:Nat}(hm:30≤n) :
  ∃s' q',ab Tryz.prog (den C n) 112 [.ref B 0,.str x,I o] s=some (I (mH x o).1,s')∧BS src B s' (o+x.length) (ds++(mH x o).2) q'∧Ex s s' (JB B q) (JB B q'):=by
 obtain⟨n,rfl⟩:∃m,n=m+1:=⟨n-1,by omega⟩
 obtain⟨m,hm1⟩:∃m,n=m+1:=⟨n-1,by omega⟩
 have lb:af false false 1 (.ref B 1) s=some (I ((o+x.length:Nat):Int),s):=ld (o:=1) hb.par (by decide) rfl (by decide)
 have hc:ah Tryz.prog 155=true:=by kernel_rfl
 have hi:Ig Tryz.prog 181=true:=by kernel_rfl
 have q1:ab Tryz.prog (den C n) 155 [.str x] s=some (if digits x≤9223372036854775807 then .aI [I (digits x),.gA] else .aI [I 9223372036854775807,.wx],s):=by
  refine KE (s1:=[]) hc rfl ?_ ?_
  ·split<;>rfl
  ·rw[hm1,gx (e:=AO) (by rfl)]
   show (if _ then _ else _)=_
   rw[if_pos ⟨hx,hd,hl⟩]
   show (if digits x≤_ then _ else _)=_
   split<;>rfl
 have n1:kC Tryz.prog .neq 181 .gA .gA=some (.bool false):=by simp[kC,hi,jq]
 have n2:kC Tryz.prog .neq 181 .wx .gA=some (.bool true):=by simp[kC,hi,jq]
 by_cases c1:digits x > 2147483647
 ·obtain⟨s1,p1,r1,b1,x1⟩:=nX hb 4 (o:Int) ((o+x.length:Nat):Int) hn
  have r1:=r1 m
  rw[←hm1]at r1
  have ei:mH x o=(2147483647,[⟨4,(o:Int),((o+x.length:Nat):Int)⟩]):=by unfold mH;rw[if_pos c1];congr 2
  rw[ei]
  refine⟨s1,p1,?_,b1,x1⟩
  rw[aF Rv (a7 ..),E',Uv]
  by_cases c2:digits x≤9223372036854775807
  ·rw[if_pos c2]at q1
   have g:((2147483647:Int)<(digits x:Int))=True:=by simp;omega
   simp -implicitDefEqProofs only[sL,q1,vE,n1,g,lb,r1]
  ·rw[if_neg c2]at q1
   simp -implicitDefEqProofs only[sL,q1,Hg,n2,lb,r1]
 ·have ei:mH x o=((digits x:Int),[]):=by unfold mH;rw[if_neg c1]
  rw[ei]
  refine⟨s,q,?_,by rw[List.append_nil];exact hb,Ex.refl _ _⟩
  rw[if_pos (by omega)]at q1
  have g:((2147483647:Int)<(digits x:Int))=False:=by simp;omega
  rw[aF Rv (a7 ..),E',Uv]
  simp -implicitDefEqProofs only[sL,q1,vE,n1,g,lb]
def vF (bs:List UInt8):List AV:=bs.map fun b=>.int .u8 b.toNat
def mg (bs:List UInt8):AV:=match bs with
 | []=>.aN
 | b::r=>.sl 5 1 (vF (b::r)) .own
def Hh (s:ag)(id:Nat)(bs:List UInt8):Prop:=∃a,s[id]?=some (187,[a,mg bs])∧(a=.eA∨a=.ref id 0)
theorem Hi {s:ag}{id:Nat}{a b:AV}(h:s[id]?=some (187,[a,b]))(ha:a=.eA∨a=.ref id 0):mV 187 [.ref id 0] s=some (.aI [],s.set id (187,[.ref id 0,b])):=by
 rcases ha with rfl|rfl
 ·simp[mV,h]
 ·simp only[mV,h,and_self,if_true]
  congr 2
  exact(fV h).symm
theorem Bo:Tryz.prog.underlying 185=some (.slice 5):=by kernel_rfl
theorem UK:((Tryz.prog.info? 5).map fun i=>(i.size,i.bytes,i.zero.map fun z=>z.cells.size))=some (1,1,some 1):=by kernel_rfl
theorem Ry:∃i,Tryz.prog.info? 5=some i∧i.size=1∧i.bytes=1∧∃z,i.zero=some z∧z.cells.size=1:=by
 have h:=UK
 rw[Option.map_eq_some_iff]at h
 obtain⟨i,h1,h2⟩:=h
 simp only[Prod.mk.injEq,Option.map_eq_some_iff]at h2
 exact⟨i,h1,h2.1,h2.2.1,h2.2.2⟩
theorem ZR (bs:List UInt8)(c:UInt8)(h:bs.length+1<1000000000):eB Tryz.prog 185 185 (mg bs) (.sl 5 1 [.int .u8 c.toNat] .own)=some (mg (bs++[c])):=by
 obtain⟨i,h1,h2,h3,z,h4,h5⟩:=Ry
 unfold eB
 rw[Bo]
 simp only[h1,h2,iQ,if_true,h4,h5,ne_eq,not_true,if_false,h3,Nat.mul_one]
 cases bs with
 | nil =>
  simp only[mg,List.nil_append,vF,List.map_cons,List.map_nil,List.length_cons,List.length_nil]
  rw[if_pos (by omega)]
 | cons b r =>
  simp only[mg,vF,List.length_map,List.length_cons,List.map_cons,List.cons_append,List.map_append,List.length_nil,List.map_nil]at *
  rw[if_pos ⟨trivial,trivial,by omega,by omega⟩]
theorem DB (bs:List UInt8):(mg bs).ce=true∧(mg bs).cells.length=1∧dv (mg bs)=[mg bs]:=by cases bs<;>exact⟨rfl,rfl,rfl⟩
theorem UL (c:UInt8):ak Tryz.prog 185 1 [(0,.int .u8 c.toNat)]=some (.sl 5 1 [.int .u8 c.toNat] .own):=by
 obtain⟨i,h1,h2,h3,z,h4,h5⟩:=Ry
 have hs:da Tryz.prog 5=some 1:=by kernel_rfl
 simp[ak,Bo,hs,h1,h4,h5,k7,AV.cells,AV.ce]
theorem xN (c:UInt8){n:Nat}(hn:2≤n){s:ag}{id:Nat}{bs:List UInt8}(hB:Hh s id bs)(hb:bs.length+1<1000000000) :
  ab Tryz.prog (den C n) 156 [.ref id 0,.int .u8 c.toNat] s=some (.gA,s.set id (187,[.ref id 0,mg (bs++[c])])):=by
 obtain⟨a,hs,ha⟩:=hB
 obtain⟨n,rfl⟩:∃m,n=m+2:=⟨n-2,by omega⟩
 have hlt:=(List.getElem?_eq_some_iff.1 hs).1
 have hc:ah Tryz.prog 193=true:=by kernel_rfl
 have q1:ab Tryz.prog (den C (n+1)) 193 [.ref id 0] s=some (.aI [],s.set id (187,[.ref id 0,mg bs])):=by
  rw[aF hc (a7 ..),gx (e:=mV 187) (by rfl),Hi hs ha]
 have q2:∀v,af true false 1 (.ref id 1) (s.set id (187,[.ref id 0,v]))=some (v,s.set id (187,[.ref id 0,v.aa])):=fun v=>by
  simp[af,yv,List.getElem?_set_self hlt,List.set_set,cI]
 obtain⟨k1,k2,k3⟩:=DB (bs++[c])
 have q3:∀v,aB 1 (s.set id (187,[.ref id 0,v])) (.ref id 1) (mg (bs++[c]))=some (s.set id (187,[.ref id 0,mg (bs++[c])])):=fun v=>by
  simp[aB,k1,k2,k3,List.getElem?_set_self hlt,List.set_set,bZ,cI]
 have q4:=ZR bs c hb
 rw[aF ZA (a7 ..),O0,Zz]
 simp -implicitDefEqProofs only[sL,q1,q2,q3,q4,UL]
theorem Hh.set {s:ag}{id:Nat}{bs:List UInt8}(h:Hh s id bs)(bs':List UInt8):Hh (s.set id (187,[.ref id 0,mg bs'])) id bs':=by
 obtain⟨a,h,_⟩:=h
 exact⟨_,List.getElem?_set_self (List.getElem?_eq_some_iff.1 h).1,.inr rfl⟩
theorem Hh.lt {s:ag}{id:Nat}{bs:List UInt8}(h:Hh s id bs):id<s.length:=by
 obtain⟨a,h,_⟩:=h
 exact(List.getElem?_eq_some_iff.1 h).1
theorem Hh.fr {s s':ag}{id:Nat}{bs:List UInt8}(h:Hh s id bs)(e:s'[id]?=s[id]?):Hh s' id bs:=by
 obtain⟨a,h,q⟩:=h
 exact⟨a,e.trans h,q⟩
theorem KF (s:ag):bH Tryz.prog 187 s=some (.ref s.length 0,s++[(187,[.eA,.aN])]):=by kernel_rfl
theorem DC {s:ag}{id:Nat}{bs:List UInt8}(h:Hh s id bs)(hl:bs.length<1000000000):∃v,kF 5 [.ref id 0] s=some (.str bs,s.set id v):=by
 obtain⟨a,h,_⟩:=h
 cases bs with
 | nil=>exact⟨_,by rw[fV h];simp[kF,h,mg,cI]⟩
 | cons b r =>
  have:=wJ (b::r)
  refine⟨(187,[a,.sl 5 1 (vF (b::r)) .sh]),?_⟩
  simp only[kF,h,mg]
  rw[if_pos ⟨trivial,by decide⟩]
  simp only[vF,this]
  rw[if_pos (by simp at hl;omega)]
theorem Bq {s:ag}{id:Nat}{bs:List UInt8}(h:Hh s id bs)(hl:bs.length<1000000000){n:Nat}(hn:1≤n):∃v,ab Tryz.prog (den C n) 157 [.ref id 0] s=some (.str bs,s.set id v):=by
 obtain⟨v,q⟩:=DC h hl
 have hc:ah Tryz.prog 157=true:=by kernel_rfl
 obtain⟨n,rfl⟩:∃m,n=m+1:=⟨n-1,by omega⟩
 exact⟨v,by rw[aF hc (a7 ..),gx (e:=kF 5) (by rfl),q]⟩
theorem zq (c d:UInt8):((c.toNat:Int)==(d.toNat:Int))=(c==d):=by
 by_cases h:c=d
 ·subst h;simp
 ·have h1:(c==d)=false:=by simpa using h
  rw[h1]
  have:¬(c.toNat:Int)=(d.toNat:Int):=fun e=>h (UInt8.toNat_inj.1 (by omega))
  simpa using this
theorem KG {src x:Bytes}{B H W o:Nat}(hx:x.length<100000)(ho:o+x.length<1000000)(n:Nat)(hn:30≤n):∀(m:Nat)(i:Nat),x.length-i≤m→1≤i→i≤x.length→∀(s:ag)(off:Nat)(ds:List Dg)(q:Option Nat)(acc:Bytes),
  BS src B s off ds q→H<s.length→H∉JB B q→Hh s W acc→W∉JB B q→W≠H→acc.length+(x.length-i)<1000000→(ds++(kl (o+i:Nat) (x.drop i)).2).length<1000000 →
  ∃s' q',(∀M n' e,m<M→e 0=.ref B 0→e 1=.str x→e 2=I o→e 7=.ref W 0→e 8=I i→aJ (jB (den C n) n') M e s=some (.str (acc++(kl (o+i:Nat) (x.drop i)).1),s'))∧BS src B s' off (ds++(kl (o+i:Nat) (x.drop i)).2) q'∧s'[H]?=s[H]?∧Ex s s' (W::JB B q) (W::JB B q'):=by
 have w:IntKind.i64.wrap ((x.length:Int)-1)=(x.length:Int)-1:=by rw[wrap64]<;>omega
 have out:∀(i:Nat),x.length≤i+1→1≤i→i≤x.length→∀(s:ag) (off:Nat) (ds:List Dg) (q:Option Nat) (acc:Bytes),
   BS src B s off ds q→H<s.length→H∉JB B q→Hh s W acc→W∉JB B q→W≠H→acc.length+(x.length-i)<1000000→∀m:Nat,
   ∃s' q',(∀M n' e,m<M→e 0=.ref B 0→e 1=.str x→e 2=I o→e 7=.ref W 0→e 8=I i→aJ (jB (den C n) n') M e s=some (.str (acc++(kl (o+i:Nat) (x.drop i)).1),s'))∧BS src B s' off (ds++(kl (o+i:Nat) (x.drop i)).2) q'∧s'[H]?=s[H]?∧Ex s s' (W::JB B q) (W::JB B q'):=by
  intro i hm Mf hi s off ds q acc hb Pq hH hB hW Ps ha m
  have e:kl ((o+i:Nat):Int) (x.drop i)=([],[]):=by
   have hl:(x.drop i).length≤1:=by rw[List.length_drop];omega
   match x.drop i,hl with
   | [],_=>simp[kl]
   | [a],_=>simp[kl]
  rw[e,List.append_nil,List.append_nil]
  obtain⟨v,r⟩:=Bq hB (by omega) (n:=n) (by omega)
  refine⟨_,q,fun M n' e hM h0 h1 h2 h7 h8=>?_,hb.set hW v,bu Ps,Ex.qL s _ (List.mem_cons_self ..) v⟩
  obtain⟨M,rfl⟩:∃j,M=j+1:=⟨M-1,by omega⟩
  have c:((i:Int)<(x.length:Int)-1)=False:=by simp;omega
  rw[aJ,jB]
  simp -implicitDefEqProofs only[sL,h0,h1,h2,h7,h8,iq,w,c,r]
 intro m
 induction m with
 | zero =>
  intro i hm Mf hi s off ds q acc hb Pq hH hB hW Ps ha hd
  exact out i (by omega) Mf hi s off ds q acc hb Pq hH hB hW Ps ha 0
 | succ m ih =>
  intro i hm Mf hi s off ds q acc hb Pq hH hB hW Ps ha hd
  by_cases c:i+1<x.length
  ·-- two bytes at least
   obtain⟨a,dA⟩:∃a,x[i]?=some a:=⟨_,List.getElem?_eq_getElem (by omega)⟩
   obtain⟨b,hb1⟩:∃b,x[i+1]?=some b:=⟨_,List.getElem?_eq_getElem c⟩
   have e:x.drop i=a::b::x.drop (i+2):=by
    rw[List.drop_eq_getElem_cons (by omega:i<x.length),List.drop_eq_getElem_cons c]
    rw[List.getElem?_eq_getElem (by omega)]at dA hb1
    cases dA;cases hb1;rfl
   have e1:x.drop (i+1)=b::x.drop (i+2):=by
    rw[List.drop_eq_getElem_cons c]
    rw[List.getElem?_eq_getElem (by omega)]at hb1
    cases hb1;rfl
   have c':((i:Int)<(x.length:Int)-1)=True:=by simp;omega
   have w1:IntKind.i64.wrap ((i:Int)+1)=((i+1:Nat):Int):=gL (by omega)
   have w2:IntKind.i64.wrap (((i+1:Nat):Int)+1)=((i+2:Nat):Int):=gL (by omega)
   have ia:=ep.KH dA
   have ib:=ep.KH hb1
   have UM:((a.toNat:Int)==92)=(a==92):=zq a 92
   rw[e]at hd ⊢
   by_cases k:a=92
   ·have k92:(a==92)=true:=by simp[k]
    rw[k92]at UM
    have f110:((b.toNat:Int)==110)=(b==110):=zq b 110
    have f34:((b.toNat:Int)==34)=(b==34):=zq b 34
    have f92:((b.toNat:Int)==92)=(b==92):=zq b 92
    -- the byte to write,the state to write in
    have key:∀(c0:UInt8) (s1:ag) (q1:Option Nat) (dn:List Dg),BS src B s1 off (ds++dn) q1→Ex s s1 (W::JB B q) (W::JB B q1)→s1[W]?=s[W]?→s1[H]?=s[H]?→H∉JB B q1→W∉JB B q1 →
      (ds++dn++(kl (o+(i+2):Nat) (x.drop (i+2))).2).length<1000000 →
      ∃s' q',(∀M n' e,m<M→e 0=.ref B 0→e 1=.str x→e 2=I o→e 7=.ref W 0→e 8=I (i+1:Nat)→e 9=.int .u8 c0.toNat→kM (den C n) n' (aJ (jB (den C n) n') M) e s1=some (.str (acc++c0::(kl (o+(i+2):Nat) (x.drop (i+2))).1),s'))∧BS src B s' off (ds++dn++(kl (o+(i+2):Nat) (x.drop (i+2))).2) q'∧s'[H]?=s[H]?∧Ex s s' (W::JB B q) (W::JB B q'):=by
     intro c0 s1 q1 dn b1 x1 eW eH jH jW ZS
     have B1:=hB.fr eW
     have wr:=xN c0 (n:=n) (by omega) B1 (by omega)
     obtain⟨s',q',r,b2,h2,x2⟩:=ih (i+2) (by omega) (by omega) (by omega) (s1.set W (187,[.ref W 0,mg (acc++[c0])])) off (ds++dn) q1 (acc++[c0]) (b1.set jW _) (by rw[bh];have:=x1.len;omega) jH (B1.set _) jW Ps (by rw[List.length_append];simp;omega) ZS
     refine⟨s',q',fun M n' e hM h0 h1 h2 h7 h8 h9=>?_,b2,h2.trans ((bu Ps).trans eH),x1.trans ((Ex.qL s1 _ (List.mem_cons_self ..) _).trans x2)⟩
     unfold kM
     simp -implicitDefEqProofs only[sL,h0,h1,h2,h7,h8,h9,wr,w2]
     rw[r M n' _ hM ((ao _ _ _ rfl).trans h0) ((ao _ _ _ rfl).trans h1) ((ao _ _ _ rfl).trans h2) ((ao _ _ _ rfl).trans h7) (by simp[ai,an])]
     simp
    have eo:(((o+i:Nat):Int)+2)=((o+(i+2):Nat):Int):=by omega
    simp only[kl]at hd ⊢
    rw[if_pos k]at hd ⊢
    rw[eo]at hd ⊢
    by_cases b1:b=110
    ·have g1:(b==110)=true:=by simp[b1]
     rw[g1]at f110
     simp only[if_pos b1,if_pos (Or.inl b1:b=110∨b=34∨b=92)]at hd ⊢
     obtain⟨s',q',r,b2,h2,x2⟩:=key 10 s q [] (by rw[List.append_nil];exact hb) (Ex.refl _ _) rfl rfl hH hW (by rw[List.append_nil];exact hd)
     rw[List.append_nil]at b2
     refine⟨s',q',fun M n' e hM h0 h1 h2 h7 h8=>?_,b2,h2,x2⟩
     obtain⟨M,rfl⟩:∃j,M=j+1:=⟨M-1,by omega⟩
     rw[aJ,jB]
     simp -implicitDefEqProofs only[sL,h0,h1,h2,h7,h8,iq,w,c',ia,UM,w1,ib,f110]
     exact r M n' _ (by omega) ((ao _ _ _ rfl).trans h0) ((ao _ _ _ rfl).trans h1) ((ao _ _ _ rfl).trans h2) ((ao _ _ _ rfl).trans h7) (by simp[ai,an]) (by simp[ai,an])
    have g1:(b==110)=false:=by simp[b1]
    rw[g1]at f110
    simp only[if_neg b1]at hd ⊢
    by_cases b3:b=34∨b=92
    ·simp only[if_pos (Or.inr b3:b=110∨b=34∨b=92)]at hd ⊢
     obtain⟨s',q',r,b2,h2,x2⟩:=key b s q [] (by rw[List.append_nil];exact hb) (Ex.refl _ _) rfl rfl hH hW (by rw[List.append_nil];exact hd)
     rw[List.append_nil]at b2
     refine⟨s',q',fun M n' e hM h0 h1 h2 h7 h8=>?_,b2,h2,x2⟩
     obtain⟨M,rfl⟩:∃j,M=j+1:=⟨M-1,by omega⟩
     rw[aJ,jB]
     rcases b3 with b3|b3
     ·have g2:(b==34)=true:=by simp[b3]
      rw[g2]at f34
      simp -implicitDefEqProofs only[sL,h0,h1,h2,h7,h8,iq,w,c',ia,UM,w1,ib,f110,f34]
      rw[qI]
      rw[show (bf e _) 40=.bool true from by simp[ai,an],yB]
      exact r M n' _ (by omega) ((ao _ _ _ rfl).trans h0) ((ao _ _ _ rfl).trans h1) ((ao _ _ _ rfl).trans h2) ((ao _ _ _ rfl).trans h7) (by simp[ai,an]) (by simp[ai,an])
     ·have g2:(b==34)=false:=by rw[b3];rfl
      have g3:(b==92)=true:=by simp[b3]
      rw[g2]at f34
      rw[g3]at f92
      simp -implicitDefEqProofs only[sL,h0,h1,h2,h7,h8,iq,w,c',ia,UM,w1,ib,f110,f34,f92]
      rw[qI]
      rw[show (bf e _) 40=.bool true from by simp[ai,an],yB]
      exact r M n' _ (by omega) ((ao _ _ _ rfl).trans h0) ((ao _ _ _ rfl).trans h1) ((ao _ _ _ rfl).trans h2) ((ao _ _ _ rfl).trans h7) (by simp[ai,an]) (by simp[ai,an])
    ·have nb:¬(b=110∨b=34∨b=92):=fun t=>t.elim b1 b3
     simp only[if_neg nb]at hd ⊢
     have g2:(b==34)=false:=by
      have:¬b=34:=fun t=>b3 (.inl t)
      simp[this]
     have g3:(b==92)=false:=by
      have:¬b=92:=fun t=>b3 (.inr t)
      simp[this]
     rw[g2]at f34
     rw[g3]at f92
     have ZT:ds.length<1000000:=by rw[List.length_append]at hd;omega
     obtain⟨s1,q1,r1,b1',x1⟩:=nX hb 6 ((o+i:Nat):Int) ((o+(i+2):Nat):Int) ZT
     obtain⟨n0,hn0⟩:∃j,n=j+1:=⟨n-1,by omega⟩
     have r1:=r1 n0
     rw[←hn0]at r1
     have hWl:=hB.lt
     obtain⟨s',q',r,b2,h2,x2⟩:=key b s1 q1 [⟨6,((o+i:Nat):Int),((o+(i+2):Nat):Int)⟩] b1' (x1.xM W) (x1.fr W hWl hW) (x1.fr H Pq hH) (x1.h_ Pq hH) (x1.h_ hWl hW) (by
      rw[List.append_assoc];exact hd)
     rw[List.append_assoc]at b2
     refine⟨s',q',fun M n' e hM h0 h1 h2 h7 h8=>?_,b2,h2,x2⟩
     obtain⟨M,rfl⟩:∃j,M=j+1:=⟨M-1,by omega⟩
     have v1:IntKind.i64.wrap ((o:Int)+((i+1:Nat):Int))=((o+i+1:Nat):Int):=by rw[wrap64]<;>omega
     have v2:IntKind.i64.wrap (((o+i+1:Nat):Int)-1)=((o+i:Nat):Int):=by rw[wrap64]<;>omega
     have v3:IntKind.i64.wrap (((o+i+1:Nat):Int)+1)=((o+(i+2):Nat):Int):=by rw[wrap64]<;>omega
     rw[aJ,jB]
     simp -implicitDefEqProofs only[sL,h0,h1,h2,h7,h8,iq,w,c',ia,UM,w1,ib,f110,f34,f92]
     rw[qI]
     rw[show (bf e _) 40=.bool false from by simp[ai,an],AF]
     rw[show (bf e _) 0=.ref B 0 from(ao _ _ _ rfl).trans h0,show (bf e _) 2=I o from(ao _ _ _ rfl).trans h2,show (bf e _) 8=I (i+1:Nat) from by simp[ai,an]]
     simp -implicitDefEqProofs only[sL,v1,v2,v3,r1]
     exact r M n' _ (by omega) ((ao _ _ _ rfl).trans ((ao _ _ _ rfl).trans h0)) ((ao _ _ _ rfl).trans ((ao _ _ _ rfl).trans h1)) ((ao _ _ _ rfl).trans ((ao _ _ _ rfl).trans h2)) ((ao _ _ _ rfl).trans ((ao _ _ _ rfl).trans h7)) (by simp[ai,an]) (by simp[ai,an])
   ·have k92:(a==92)=false:=by simp[k]
    rw[k92]at UM
    have eo:(((o+i:Nat):Int)+1)=((o+(i+1):Nat):Int):=by omega
    have eu:kl ((o+i:Nat):Int) (a::b::x.drop (i+2))=(a::(kl ((o+(i+1):Nat):Int) (x.drop (i+1))).1,(kl ((o+(i+1):Nat):Int) (x.drop (i+1))).2):=by
     simp only[kl];rw[if_neg k,eo,e1]
    rw[eu]at hd ⊢
    have wr:=xN a (n:=n) (by omega) hB (by omega)
    obtain⟨s',q',r,b2,h2,x2⟩:=ih (i+1) (by omega) (by omega) (by omega) (s.set W (187,[.ref W 0,mg (acc++[a])])) off ds q (acc++[a]) (hb.set hW _) (by rw[bh];exact Pq) hH (hB.set _) hW Ps (by rw[List.length_append];simp;omega) hd
    refine⟨s',q',fun M n' e hM h0 h1 h2 h7 h8=>?_,b2,h2.trans (bu Ps),(Ex.qL s _ (List.mem_cons_self ..) _).trans x2⟩
    obtain⟨M,rfl⟩:∃j,M=j+1:=⟨M-1,by omega⟩
    rw[aJ,jB]
    have j1:∀(n':Nat) (K:Env→ag→aU) (e:Env),e 7=.ref W 0→e 9=.int .u8 a.toNat→e 8=I i→kM (den C n) n' K e s=K (bf e [(43,.int .u8 a.toNat),(44,.gA),(15,I i),(16,I (i+1:Nat)),(16,I (i+1:Nat)),(8,I (i+1:Nat))]) (s.set W (187,[.ref W 0,mg (acc++[a])])):=by
     intro n' K e h7 h9 h8
     unfold kM
     simp -implicitDefEqProofs only[sL,h7,h9,h8,wr,w1]
    simp -implicitDefEqProofs only[sL,h0,h1,h2,h7,h8,iq,w,c',ia,UM]
    rw[j1 _ _ _ ((ao _ _ _ rfl).trans h7) (by simp[ai,an]) ((ao _ _ _ rfl).trans h8)]
    rw[r M n' _ (by omega) ((ao _ _ _ rfl).trans ((ao _ _ _ rfl).trans h0)) ((ao _ _ _ rfl).trans ((ao _ _ _ rfl).trans h1)) ((ao _ _ _ rfl).trans ((ao _ _ _ rfl).trans h2)) ((ao _ _ _ rfl).trans ((ao _ _ _ rfl).trans h7)) (by simp[ai,an])]
    simp
  ·exact out i (by omega) Mf hi s off ds q acc hb Pq hH hB hW Ps ha (m+1)
theorem Pt {src:Bytes}{B:Nat}{s:ag}{o:Nat}{x:Bytes}{ds:List Dg}{q:Option Nat}{off:Nat}(hb:BS src B s off ds q){H:Nat}(Pq:H<s.length)(hH:H∉JB B q)(hx:x.length<100000)(hx1:1≤x.length)(ho:o+x.length<1000000)
  (hd:(ds++(kl ((o:Int)+1) (x.drop 1)).2).length<1000000){n:Nat}(hm:x.length+40≤n) :
  ∃s' q',ab Tryz.prog (den C n) 113 [.ref B 0,.str x,I o] s=some (.str (kl ((o:Int)+1) (x.drop 1)).1,s')∧BS src B s' off (ds++(kl ((o:Int)+1) (x.drop 1)).2) q'∧s'[H]?=s[H]?∧Ex s s' (JB B q) (JB B q'):=by
 obtain⟨n,rfl⟩:∃m,n=m+1:=⟨n-1,by omega⟩
 have hlt:=hb.lt
 have hW:s.length∉JB B q:=fun k=>Nat.lt_irrefl _ (hlt _ k)
 obtain⟨s',q',r,b2,h2,x2⟩:=KG (src:=src) (x:=x) (B:=B) (H:=H) (W:=s.length) (o:=o) hx ho n (by omega) x.length 1 (by omega) (Nat.le_refl _) hx1 (s++[(187,[.eA,.aN])]) off ds q [] (hb.app _) (by rw[aP];omega) hH ⟨.eA,aW,.inl rfl⟩ hW (by omega) (by simp;omega) hd
 refine⟨s',q',?_,b2,h2.trans (bE Pq),?_⟩
 ·rw[aF ZC (a7 ..),O3,ZB]
  simp -implicitDefEqProofs only[sL,KF]
  exact r _ _ _ (by omega) (by simp[ai,an,aH]) (by simp[ai,an,aH]) (by simp[ai,an,aH]) (by simp[ai,an,aH]) (by simp[ai,an,aH])
 ·refine⟨by have:=x2.len;rw[aP]at this;omega,fun y hy hj=>?_,fun y hy=>?_⟩
  ·rw[x2.fr y (by rw[aP];omega) (fun k=>by
    rcases List.mem_cons.1 k with k|k
    ·omega
    ·exact hj k),bE hy]
  ·rcases x2.sub y (List.mem_cons_of_mem _ hy) with k|k
   ·rcases List.mem_cons.1 k with k|k
    ·exact .inr (by omega)
    ·exact .inl k
   ·rw[aP]at k;exact .inr (by omega)
end ParF
end

section
namespace ParF
open Go Go.Abs Go.Proofs Pm vy
def ny (c:Nat)(x:Bytes):Prop:=x.length<100000∧(c=105→x≠[]∧(x.all fun b=>decide (48≤b.toNat)&&decide (b.toNat≤57))=true)∧(c=106→1≤x.length)
theorem ZU {c d:Nat}(h:c=d):((c:Int)==(d:Int))=true:=by simp[h]
theorem ZV {c d:Nat}(h:¬c=d):((c:Int)==(d:Int))=false:=by simp;omega
theorem Br {src:Bytes}{B:Nat}{s:ag}{o off:Nat}{ds:List Dg}{q:Option Nat}(hb:BS src B s off ds q){H:Nat}{k:Int}{h:Hd}{ch:AV}(hs:s[H]?=some (58,bR k h ch)){n:Nat}(hn:1≤n){e:Env}(e0:e 0=.ref B 0)(e1:e 1=.ref H 0)(e6:e 6=I o) :
  pe (den C n) n e s=some (.aI [],s.set H (58,bR k (h.ext o off) ch)):=by
 obtain⟨n,rfl⟩:∃m,n=m+1:=⟨n-1,by omega⟩
 have lb:af false false 1 (.ref B 1) s=some (I off,s):=ld (o:=1) hb.par (by decide) rfl (by decide)
 have r:=Fa hs (o:Int) (off:Int) n
 unfold pe
 simp -implicitDefEqProofs only[sL,e0,e1,e6,lb,r]
theorem zs {src:Bytes}{B:Nat}{s:ag}{o:Nat}{ds:List Dg}{q:Option Nat}(hb:BS src B s o ds q){H k:Nat}{h:Hd}{ch:AV}(hc:ch.aa=ch)(hs:s[H]?=some (58,bR k h ch))(hH:H∉JB B q)(hk:k<100)
  {c:Nat}{x:Bytes}{Mz:AV}(hl:ny c x)(ho:o+x.length<1000000)(hd:(ds++(cP k h c x o).2).length<1000000){n:Nat}(hn:x.length+60≤n) :
  ∃s' q',ab Tryz.prog (den C n) 67 [.ref B 0,.ref H 0,.agg [I c,.str x,Mz]] s=some (.aI [],s')∧BS src B s' (o+x.length) (ds++(cP k h c x o).2) q'∧s'[H]?=some (58,bR k (cP k h c x o).1 ch)∧H∉JB B q'∧Ex s s' (H::JB B q) (H::JB B q'):=by
 obtain⟨n,rfl⟩:∃m,n=m+1:=⟨n-1,by omega⟩
 obtain⟨m,hm⟩:∃m,n=m+1:=⟨n-1,by omega⟩
 have lb:af false false 1 (.ref B 1) s=some (I o,s):=ld (o:=1) hb.par (by decide) rfl (by decide)
 have hBl:=iN hb.par
 have hHl:=iN hs
 have hHB:B≠H:=fun e=>hH (by rw[←e];exact List.mem_cons_self ..)
 have wo:IntKind.i64.wrap ((o:Int)+(x.length:Int))=((o+x.length:Nat):Int):=by rw[wrap64]<;>omega
 have sb:aB 1 s (.ref B 1) (I ((o+x.length:Nat):Int))=some (s.set B (94,[.str src,I ((o+x.length:Nat):Int),Cl ds q])):=st hb.par (by decide) rfl rfl (by show 2≤3;decide)
 generalize qM:s.set B (94,[.str src,I ((o+x.length:Nat):Int),Cl ds q])=s1 at *
 have b1:BS src B s1 (o+x.length) ds q:=by
  refine⟨by rw[←qM,bK hb.par],hb.nil,fun Q hq=>?_⟩
  obtain⟨k1,k2,j,k3⟩:=hb.row Q hq
  exact⟨k1,k2,j,by rw[←qM,bu (Ne.symm k1)];exact k3⟩
 have h1:s1[H]?=some (58,bR k h ch):=by rw[←qM,bu hHB];exact hs
 have x1:Ex s s1 (H::JB B q) (H::JB B q):=by rw[←qM];exact Ex.qL s _ (List.mem_cons_of_mem _ (List.mem_cons_self ..)) _
 have hl1:s1.length=s.length:=by rw[←qM,bh]
 -- the whole call,from what the branch does
 have bx:af false false 1 (.box [I c,.str x,Mz] 0) s1=some (I c,s1):=by rw[cu];rfl
 have Pv:∀s2:ag,af false false 1 (.box [I c,.str x,Mz] 1) s2=some (.str x,s2):=fun s2=>by rw[cu];rfl
 have kt:∀d:Nat,c=d→((c:Int)==(d:Int))=true:=fun d e=>ZU e
 have kf:∀d:Nat,¬c=d→((c:Int)==(d:Int))=false:=fun d e=>ZV e
 -- nothing to see
 by_cases c1:c=101∨c=102
 ·have et:cP k h c x o=(h,[]):=by unfold cP;rw[if_pos c1]
  rw[et,List.append_nil]at *
  refine⟨s1,q,?_,b1,h1,hH,x1⟩
  rw[aF ZH (a7 ..),Kg,F67]
  have J0:∀e:Env,e 27=.bool true→kh (den C n) n e s1=some (.aI [],s1):=by
   intro e xF
   unfold kh
   simp -implicitDefEqProofs only[sL,xF]
  rcases c1 with c1|c1
  ·have KI:((c:Int)==101)=true:=kt 101 c1
   simp -implicitDefEqProofs only[sL,lb,iq,wo,sb,cM,Kh,KI,Pv,bx]
   exact J0 _ (by simp[ai,an,aH])
  ·have KI:((c:Int)==101)=false:=kf 101 (by omega)
   have UN:((c:Int)==102)=true:=kt 102 c1
   simp -implicitDefEqProofs only[sL,lb,iq,wo,sb,cM,Kh,KI,UN,Pv,bx]
   exact J0 _ (by simp[ai,an,aH])
 have ne1:¬c=101:=fun e=>c1 (.inl e)
 have ne2:¬c=102:=fun e=>c1 (.inr e)
 have KI:((c:Int)==101)=false:=kf 101 ne1
 have UN:((c:Int)==102)=false:=kf 102 ne2
 have main:∀(s':ag),(∀e:Env,e 0=.ref B 0→e 1=.ref H 0→e 5=.box [I c,.str x,Mz] 0→e 6=I o→e 22=I c→e 27=.bool false→kh (den C n) n e s1=some (.aI [],s')) →
   ab Tryz.prog (den C (n+1)) 67 [.ref B 0,.ref H 0,.agg [I c,.str x,Mz]] s=some (.aI [],s'):=by
  intro s' hJ
  rw[aF ZH (a7 ..),Kg,F67]
  simp -implicitDefEqProofs only[sL,lb,iq,wo,sb,cM,Kh,KI,UN,Pv,bx]
  exact hJ _ (by simp[ai,an,aH]) (by simp[ai,an,aH]) (by simp[ai,an,aH]) (by simp[ai,an,aH]) (by simp[ai,an,aH]) (by simp[ai,an,aH])
 unfold cP at hd ⊢
 rw[if_neg c1]at hd ⊢
 by_cases c8:c=108
 ·have DD:((c:Int)==108)=true:=kt 108 c8
  rw[if_pos c8]at hd ⊢
  by_cases cx:x=[]
  ·rw[if_pos cx]at hd ⊢
   obtain⟨s',q',r,b2,x2⟩:=nX b1 1 (o:Int) (o:Int) (by rw[List.length_append]at hd;omega)
   have r:=r m
   rw[←hm]at r
   refine⟨s',q',main s' fun e e0 e1 e5 e6 rc xF=>?_,b2,(x2.fr H (by omega) hH).trans h1,x2.h_ (by omega) hH,x1.trans (x2.xM H)⟩
   have fx:=mB cx
   unfold kh
   simp -implicitDefEqProofs only[sL,e0,e1,e5,e6,rc,xF,DD,Pv,fx,r]
  ·rw[if_neg cx]at hd ⊢
   obtain⟨s',q',r,b2,x2⟩:=nX b1 3 (o:Int) ((o+x.length:Nat):Int) (by rw[List.length_append]at hd;omega)
   have r:=r m
   rw[←hm]at r
   have lb1:af false false 1 (.ref B 1) s1=some (I ((o+x.length:Nat):Int),s1):=ld (o:=1) b1.par (by decide) rfl (by decide)
   have h2:=(x2.fr H (by omega) hH).trans h1
   have j2:=x2.h_ (by omega) hH
   refine⟨_,q',main _ fun e e0 e1 e5 e6 rc xF=>?_,b2.set j2 (58,bR k (h.ext o ((o+x.length:Nat):Int)) ch),by rw[bK h2];rfl,j2,x1.trans ((x2.xM H).trans (Ex.qL s' _ (List.mem_cons_self ..) _))⟩
   have fx:=mC cx
   unfold kh
   simp -implicitDefEqProofs only[sL,e0,e1,e5,e6,rc,xF,DD,Pv,fx,lb1,r]
   exact Br b2 h2 (by omega) ((ao _ _ _ rfl).trans e0) ((ao _ _ _ rfl).trans e1) ((ao _ _ _ rfl).trans e6)
 have DD:((c:Int)==108)=false:=kf 108 c8
 rw[if_neg c8]at hd ⊢
 by_cases c3:c=103
 ·have KJ:((c:Int)==103)=true:=kt 103 c3
  rw[if_pos c3]at hd ⊢
  obtain⟨s',q',r,b2,h2,j2,x2⟩:=Hf b1 h1 hH hk (by rw[List.length_append]at hd;omega) (n:=n) (by omega)
  refine⟨_,q',main _ fun e e0 e1 e5 e6 rc xF=>?_,b2.set j2 (58,bR k ((dS k h x o).1.ext o ((o+x.length:Nat):Int)) ch),by rw[bK h2];rfl,j2,x1.trans (x2.trans (Ex.qL s' _ (List.mem_cons_self ..) _))⟩
  unfold kh
  simp -implicitDefEqProofs only[sL,e0,e1,e5,e6,rc,xF,DD,KJ,Pv,r]
  exact Br b2 h2 (by omega) ((ao _ _ _ rfl).trans e0) ((ao _ _ _ rfl).trans e1) ((ao _ _ _ rfl).trans e6)
 have KJ:((c:Int)==103)=false:=kf 103 c3
 rw[if_neg c3]at hd ⊢
 by_cases c5:c=105
 ·have Pw:((c:Int)==105)=true:=kt 105 c5
  rw[if_pos c5]at hd ⊢
  obtain⟨s',q',r,b2,x2⟩:=Pp b1 (hl.2.1 c5).1 (hl.2.1 c5).2 hl.1 (by rw[List.length_append]at hd;omega) (n:=n) (by omega)
  have h2:=(x2.fr H (by omega) hH).trans h1
  have j2:=x2.h_ (by omega) hH
  have s2:aB 1 s' (.ref H 1) (I (mH x o).1)=some (s'.set H (58,bR k ⟨(mH x o).1,h.x,h.s,h.e,h.ns⟩ ch)):=KB h2 rfl rfl (by decide)
  have h3:=bK (v:=(58,bR k ⟨(mH x o).1,h.x,h.s,h.e,h.ns⟩ ch)) h2
  refine⟨_,q',main _ fun e e0 e1 e5 e6 rc xF=>?_,(b2.set j2 _).set j2 (58,bR k ((Hd.mk (mH x o).1 h.x h.s h.e h.ns).ext o ((o+x.length:Nat):Int)) ch),by rw[bK h3];rfl,j2,x1.trans ((x2.xM H).trans ((Ex.qL s' _ (List.mem_cons_self ..) _).trans (Ex.qL _ _ (List.mem_cons_self ..) _)))⟩
  unfold kh
  simp -implicitDefEqProofs only[sL,e0,e1,e5,e6,rc,xF,DD,KJ,Pw,Pv,r,s2]
  exact Br (b2.set j2 _) h3 (by omega) ((ao _ _ _ rfl).trans e0) ((ao _ _ _ rfl).trans e1) ((ao _ _ _ rfl).trans e6)
 have Pw:((c:Int)==105)=false:=kf 105 c5
 rw[if_neg c5]at hd ⊢
 by_cases c6:c=106
 ·have UO:((c:Int)==106)=true:=kt 106 c6
  rw[if_pos c6]at hd ⊢
  obtain⟨s',q',r,b2,ZW,x2⟩:=Pt b1 (H:=H) (by omega) hH hl.1 (hl.2.2 c6) ho hd (n:=n) (by omega)
  have h2:=ZW.trans h1
  have j2:=x2.h_ (by omega) hH
  have s2:aB 1 s' (.ref H 2) (.str (kl ((o:Int)+1) (x.drop 1)).1)=some (s'.set H (58,bR k ⟨h.v,(kl ((o:Int)+1) (x.drop 1)).1,h.s,h.e,h.ns⟩ ch)):=KB h2 rfl rfl (by decide)
  have h3:=bK (v:=(58,bR k ⟨h.v,(kl ((o:Int)+1) (x.drop 1)).1,h.s,h.e,h.ns⟩ ch)) h2
  refine⟨_,q',main _ fun e e0 e1 e5 e6 rc xF=>?_,(b2.set j2 _).set j2 (58,bR k ((Hd.mk h.v (kl ((o:Int)+1) (x.drop 1)).1 h.s h.e h.ns).ext o ((o+x.length:Nat):Int)) ch),by rw[bK h3];rfl,j2,x1.trans ((x2.xM H).trans ((Ex.qL s' _ (List.mem_cons_self ..) _).trans (Ex.qL _ _ (List.mem_cons_self ..) _)))⟩
  unfold kh
  simp -implicitDefEqProofs only[sL,e0,e1,e5,e6,rc,xF,DD,KJ,Pw,UO,Pv,r,s2]
  exact Br (b2.set j2 _) h3 (by omega) ((ao _ _ _ rfl).trans e0) ((ao _ _ _ rfl).trans e1) ((ao _ _ _ rfl).trans e6)
 have UO:((c:Int)==106)=false:=kf 106 c6
 rw[if_neg c6]at hd ⊢
 have r:=KC h1 x m
 rw[←hm]at r
 have h3:=bK (v:=(58,bR k (kN k h x) ch)) h1
 have b3:=(b1.set hH (58,bR k (kN k h x) ch)).set hH (58,bR k ((kN k h x).ext o ((o+x.length:Nat):Int)) ch)
 refine⟨_,q,main _ fun e e0 e1 e5 e6 rc xF=>?_,by rw[List.append_nil];exact b3,by rw[bK h3];rfl,hH,x1.trans ((Ex.qL s1 _ (List.mem_cons_self ..) _).trans (Ex.qL _ _ (List.mem_cons_self ..) _))⟩
 unfold kh
 simp -implicitDefEqProofs only[sL,e0,e1,e5,e6,rc,xF,DD,KJ,Pw,UO,Pv,r]
 exact Br (b1.set hH _) h3 (by omega) ((ao _ _ _ rfl).trans e0) ((ao _ _ _ rfl).trans e1) ((ao _ _ _ rfl).trans e6)
end ParF
end
