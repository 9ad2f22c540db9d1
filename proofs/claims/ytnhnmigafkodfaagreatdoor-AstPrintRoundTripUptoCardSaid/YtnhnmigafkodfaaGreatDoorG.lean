/- AstF, AstT, AstU, AstV, AstW, AstC0, AstA, AstB, AstC, AstD, AstG -/
import Derived.Test.YtnhnmigafkodfaaGreatDoorC
import Derived.Test.YtnhnmigafkodfaaGreatDoorD
import Derived.Test.YtnhnmigafkodfaaGreatDoorP
import Derived.Test.YtnhnmigafkodfaaGreatDoorE
import Derived.Test.YtnhnmigafkodfaaGreatDoorB
import Derived.Test.YtnhnmigafkodfaaGreatDoorL
set_option linter.all false
set_option maxRecDepth 100000
set_option maxHeartbeats 1000000

section
namespace AstF
open Go Go.Abs Go.Proofs ParF
-- ast.extend
noncomputable def F53_J0 (D:Den)(n:Nat)(e:Env)(s:Heap):Ans :=
 oMv (e 0) s fun t15 s =>
 oMv (e 2) s fun t16 s =>
 oNc t15 s fun t17 s =>
 oAd 4 t17 s fun t18 s =>
 oSr 1 s t18 t16 fun _r s =>
 some (.tup [],s)
noncomputable def F53 (D:Den)(n:Nat)(t0 t1 t2:AV)(s:Heap):Ans :=
 oMv t0 s fun t6 s =>
 oNc t6 s fun t7 s =>
 oAd 4 t7 s fun t8 s =>
 oL1 t8 s fun t9 s =>
 oBn .lss 3 t9 (.int .i64 0) s fun t10 s =>
 br t10
  (oMv t0 s fun t11 s =>
 oMv t1 s fun t12 s =>
 oNc t11 s fun t13 s =>
 oAd 3 t13 s fun t14 s =>
 oSr 1 s t14 t12 fun _r s =>
 F53_J0 D n (upds (argEnv [t0,t1,t2]) [(6,t6),(7,t7),(8,t8),(9,t9),(10,t10),(11,t11),(12,t12),(13,t13),(14,t14),(12,t12.strip)]) s)
  (F53_J0 D n (upds (argEnv [t0,t1,t2]) [(6,t6),(7,t7),(8,t8),(9,t9),(10,t10)]) s)
theorem F53_eq (n:Nat)(t0 t1 t2:AV)(s:Heap):den C (n+1) 53 [t0,t1,t2] s=F53 (den C n) n t0 t1 t2 s :=
 (den_body rfl Tryz.func53 _ _).trans (by kernel_rfl)
theorem en53:enterable Tryz.prog 53=true:=by kernel_rfl
-- (*ast.builder).report
noncomputable def F111 (D:Den)(n:Nat)(t0 t1 t2 t3:AV)(s:Heap):Ans :=
 oMv t0 s fun t8 s =>
 oMv t0 s fun t9 s =>
 oNc t9 s fun t10 s =>
 oAd 2 t10 s fun t11 s =>
 oL1 t11 s fun t12 s =>
 oMv t1 s fun t13 s =>
 oMv t2 s fun t14 s =>
 oMv t3 s fun t15 s =>
 oBd 61 [(0,t13),(2,t14),(3,t15)] s fun t16 s =>
 oBs 28 1 [(0,t16)] s fun t17 s =>oh (aRsAppend Tryz.prog 28 28 t12 t17 s) fun t18 s =>
 oNc t8 s fun t19 s =>
 oAd 2 t19 s fun t20 s =>
 oSr 1 s t20 t18.strip fun _r s =>
 some (.tup [],s)
theorem F111_eq (n:Nat)(t0 t1 t2 t3:AV)(s:Heap):den C (n+1) 111 [t0,t1,t2,t3] s=F111 (den C n) n t0 t1 t2 t3 s :=
 (den_body rfl Tryz.func111 _ _).trans (by kernel_rfl)
theorem en111:enterable Tryz.prog 111=true:=by kernel_rfl
-- (*ast.builder).identifier
noncomputable def F112_J0 (D:Den)(n:Nat)(e:Env)(s:Heap):Ans :=
 oMv (e 1) s fun t18 s =>
 oNc t18 s fun t19 s =>
 oAd 0 t19 s fun t20 s =>
 oL1 t20 s fun t21 s =>
 oCa D 174 [t21.strip] s fun t22 s =>
 oMv t22 s fun t23 s =>
 oGt t23 s (some ((e 1).strip,s)) fun t24 s =>
 oGt t23 s (mp (aNilCheck t24) s) fun t25 s =>
 oGt t23 s (mp (aAddr 5 t25) s) fun t26 s =>
 oGt t23 s (aLoad false false 1 t26 s) fun t27 s =>
 oGt t23 s (mp (aBin Tryz.prog .lss 3 t27 (.int .i64 0)) s) fun t28 s =>
 oPk t23 t28 (.bool false) s fun t29 s =>
 br t29
  (oMv (e 1) s fun t30 s =>
 oMv (e 1) s fun t31 s =>
 oMv (e 2) s fun t32 s =>
 oMv (e 3) s fun t33 s =>
 oNc t30 s fun t34 s =>
 oAd 2 t34 s fun t35 s =>
 oSr 1 s t35 t32 fun _r s =>
 oNc t31 s fun t36 s =>
 oAd 5 t36 s fun t37 s =>
 oSr 1 s t37 t33 fun _r s =>
 some (.tup [],s))
  (some (.tup [],s))
noncomputable def F112 (D:Den)(n:Nat)(t0 t1 t2 t3:AV)(s:Heap):Ans :=
 oMv t2 s fun t8 s =>
 oLn 9 t8 s fun t9 s =>
 oBn .gtr 3 t9 (.int .i64 30) s fun t10 s =>
 br t10
  (oMv t0 s fun t11 s =>
 oMv t3 s fun t12 s =>
 oMv t0 s fun t13 s =>
 oNc t13 s fun t14 s =>
 oAd 1 t14 s fun t15 s =>
 oL1 t15 s fun t16 s =>
 oCa D 111 [t11.strip,(.int .i64 5),t12.strip,t16.strip] s fun t17 s =>
 F112_J0 D n (upds (argEnv [t0,t1,t2,t3]) [(8,t8),(9,t9),(10,t10),(11,t11),(12,t12),(13,t13),(14,t14),(15,t15),(16,t16),(17,t17)]) s)
  (F112_J0 D n (upds (argEnv [t0,t1,t2,t3]) [(8,t8),(9,t9),(10,t10)]) s)
theorem F112_eq (n:Nat)(t0 t1 t2 t3:AV)(s:Heap):den C (n+1) 112 [t0,t1,t2,t3] s=F112 (den C n) n t0 t1 t2 t3 s :=
 (den_body rfl Tryz.func112 _ _).trans (by kernel_rfl)
theorem en112:enterable Tryz.prog 112=true:=by kernel_rfl
-- (*ast.builder).integer
noncomputable def F113 (D:Den)(n:Nat)(t0 t1 t2:AV)(s:Heap):Ans :=
 oCp (.int .i64 0) s fun t6 s =>
 oMv t1 s fun t10 s =>
 oCa D 175 [t10.strip] s fun t11 s =>
 oMv t11 s fun t9 s =>
 oXt 0 t9 s fun t12 s =>
 oXt 1 t9 s fun t13 s =>
 oCp t12 s fun t7 s =>
 oCp t13 s fun t8 s =>
 oMv t8 s fun t14 s =>oh (mp (aNilCmp Tryz.prog .neq 116 t14 .nili) s) fun t15 s =>
 oMv t15 s fun t16 s =>
 oGf t16 s (some (t7.strip,s)) fun t17 s =>
 oGf t16 s (mp (aBin Tryz.prog .gtr 3 t17 (.int .i64 2147483647)) s) fun t18 s =>
 oPk t16 (.bool true) t18 s fun t19 s =>
 br t19
  (oMv t0 s fun t20 s =>
 oMv t2 s fun t21 s =>
 oMv t0 s fun t22 s =>
 oNc t22 s fun t23 s =>
 oAd 1 t23 s fun t24 s =>
 oL1 t24 s fun t25 s =>
 oCa D 111 [t20.strip,(.int .i64 4),t21.strip,t25.strip] s fun t26 s =>
 oCp (.int .i64 2147483647) s fun t6_2 s =>
 some (t6_2,s))
  (oMv t7 s fun t27 s =>
 oCp t27 s fun t6_3 s =>
 some (t6_3,s))
theorem F113_eq (n:Nat)(t0 t1 t2:AV)(s:Heap):den C (n+1) 113 [t0,t1,t2] s=F113 (den C n) n t0 t1 t2 s :=
 (den_body rfl Tryz.func113 _ _).trans (by kernel_rfl)
theorem en113:enterable Tryz.prog 113=true:=by kernel_rfl
-- (*strings.Builder).WriteByte
noncomputable def F79 (D:Den)(n:Nat)(t0 t1:AV)(s:Heap):Ans :=
 oCp .nili s fun t4 s =>
 oMv t0 s fun t5 s =>
 oCa D 144 [t5.strip] s fun t6 s =>
 oMv t0 s fun t7 s =>
 oMv t0 s fun t8 s =>
 oNc t8 s fun t9 s =>
 oAd 1 t9 s fun t10 s =>oh (aLoad true false 1 t10 s) fun t11 s =>
 oMv t1 s fun t12 s =>
 oBs 111 1 [(0,t12)] s fun t13 s =>oh (mp (aAppend Tryz.prog 111 111 t11 t13) s) fun t14 s =>
 oNc t7 s fun t15 s =>
 oAd 1 t15 s fun t16 s =>
 oSr 1 s t16 t14 fun _r s =>
 oCp .nili s fun t4_2 s =>
 some (t4_2,s)
theorem F79_eq (n:Nat)(t0 t1:AV)(s:Heap):den C (n+1) 79 [t0,t1] s=F79 (den C n) n t0 t1 s :=
 (den_body rfl Tryz.func79 _ _).trans (by kernel_rfl)
theorem en79:enterable Tryz.prog 79=true:=by kernel_rfl
-- (*ast.builder).unquote
noncomputable def F114_J1 (D:Den)(n:Nat)(k0:Env→Heap→Ans)(e:Env)(s:Heap):Ans :=
 oMv (e 9) s fun t43 s =>
 oCa D 79 [(e 7).strip,t43.strip] s fun t44 s =>
 oMv (e 8) s fun t15 s =>
 oBn .add 3 t15 (.int .i64 1) s fun t16 s =>
 oCp t16 s fun t8_2 s =>
 k0 (upds e [(43,t43),(44,t44),(15,t15),(16,t16),(16,t16.strip),(8,t8_2)]) s
noncomputable def F114_J3 (D:Den)(n:Nat)(k0:Env→Heap→Ans)(e:Env)(s:Heap):Ans :=
 br (e 40)
  (F114_J1 D n k0 e s)
  (oMv (e 0) s fun t28 s =>
 oMv (e 2) s fun t29 s =>
 oMv (e 8) s fun t30 s =>
 oBn .add 3 t29 t30 s fun t31 s =>
 oBn .sub 3 t31 (.int .i64 1) s fun t32 s =>
 oMv (e 2) s fun t33 s =>
 oMv (e 8) s fun t34 s =>
 oBn .add 3 t33 t34 s fun t35 s =>
 oBn .add 3 t35 (.int .i64 1) s fun t36 s =>
 oCa D 111 [t28.strip,(.int .i64 6),t32.strip,t36.strip] s fun t37 s =>
 F114_J1 D n k0 (upds e [(28,t28),(29,t29),(30,t30),(31,t31),(32,t32),(33,t33),(34,t34),(35,t35),(36,t36),(37,t37)]) s)
noncomputable def F114_L0 (D:Den)(n:Nat)(k0:Env→Heap→Ans)(e:Env)(s:Heap):Ans :=
 oMv (e 8) s fun t10 s =>
 oMv (e 1) s fun t11 s =>
 oLn 9 t11 s fun t12 s =>
 oBn .sub 3 t12 (.int .i64 1) s fun t13 s =>
 oBn .lss 3 t10 t13 s fun t14 s =>
 br t14
  (oMv (e 1) s fun t17 s =>
 oMv (e 8) s fun t18 s =>oh (mp (aIndex Tryz.prog 9 t17 t18) s) fun t19 s =>
 oCp t19 s fun t9 s =>
 oMv t9 s fun t20 s =>
 oBn .eql 5 t20 (.int .u8 92) s fun t21 s =>
 br t21
  (oMv (e 8) s fun t22 s =>
 oBn .add 3 t22 (.int .i64 1) s fun t23 s =>
 oCp t23 s fun t8_3 s =>
 oMv (e 1) s fun t24 s =>
 oMv t8_3 s fun t25 s =>oh (mp (aIndex Tryz.prog 9 t24 t25) s) fun t26 s =>
 oCp t26 s fun t9_2 s =>
 oMv t9_2 s fun t27 s =>
 oBn .eql 5 t27 (.int .u8 110) s fun t39 s =>
 oCp t39 s fun t38 s =>
 br t38
  (oCp (.int .u8 10) s fun t9_3 s =>
 F114_J1 D n k0 (upds e [(10,t10),(11,t11),(12,t12),(13,t13),(14,t14),(17,t17),(18,t18),(19,t19),(19,t19.strip),(9,t9),(20,t20),(21,t21),(22,t22),(23,t23),(23,t23.strip),(8,t8_3),(24,t24),(25,t25),(26,t26),(26,t26.strip),(9,t9_2),(27,t27),(39,t39),(39,t39.strip),(38,t38),(9,t9_3)]) s)
  (oBn .eql 5 t27 (.int .u8 34) s fun t41 s =>
 oCp t41 s fun t40 s =>
 br t40
  (F114_J3 D n k0 (upds e [(10,t10),(11,t11),(12,t12),(13,t13),(14,t14),(17,t17),(18,t18),(19,t19),(19,t19.strip),(9,t9),(20,t20),(21,t21),(22,t22),(23,t23),(23,t23.strip),(8,t8_3),(24,t24),(25,t25),(26,t26),(26,t26.strip),(9,t9_2),(27,t27),(39,t39),(39,t39.strip),(38,t38),(41,t41),(41,t41.strip),(40,t40)]) s)
  (oBn .eql 5 t27 (.int .u8 92) s fun t42 s =>
 oCp t42 s fun t40_2 s =>
 F114_J3 D n k0 (upds e [(10,t10),(11,t11),(12,t12),(13,t13),(14,t14),(17,t17),(18,t18),(19,t19),(19,t19.strip),(9,t9),(20,t20),(21,t21),(22,t22),(23,t23),(23,t23.strip),(8,t8_3),(24,t24),(25,t25),(26,t26),(26,t26.strip),(9,t9_2),(27,t27),(39,t39),(39,t39.strip),(38,t38),(41,t41),(41,t41.strip),(40,t40),(42,t42),(42,t42.strip),(40,t40_2)]) s)))
  (F114_J1 D n k0 (upds e [(10,t10),(11,t11),(12,t12),(13,t13),(14,t14),(17,t17),(18,t18),(19,t19),(19,t19.strip),(9,t9),(20,t20),(21,t21)]) s))
  (oCa D 81 [(e 7).strip] s fun t45 s =>
 oCp t45 s fun t6_2 s =>
 some (t6_2,s))
noncomputable def F114 (D:Den)(n:Nat)(t0 t1 t2:AV)(s:Heap):Ans :=
 oCp (.str []) s fun t6 s =>
 oAl 113 s fun t7 s =>
 oCp (.int .i64 1) s fun t8 s =>
 aLoop (F114_L0 D n) n (upds (argEnv [t0,t1,t2]) [(6,t6),(7,t7),(8,t8)]) s
theorem F114_eq (n:Nat)(t0 t1 t2:AV)(s:Heap):den C (n+1) 114 [t0,t1,t2] s=F114 (den C n) n t0 t1 t2 s :=
 (den_body rfl Tryz.func114 _ _).trans (by kernel_rfl)
theorem en114:enterable Tryz.prog 114=true:=by kernel_rfl
-- ast.setFlag
noncomputable def F115 (D:Den)(n:Nat)(t0 t1:AV)(s:Heap):Ans :=
 oMv t1 s fun t5 s =>
 oBn .eql 9 t5 (.str [112,117,98]) s fun t6 s =>
 oCp t6 s fun t4 s =>
 br t4
  (oMv t0 s fun t7 s =>
 oNc t7 s fun t8 s =>
 oAd 1 t8 s fun t9 s =>
 oL1 t9 s fun t10 s =>
 oBn .or 3 t10 (.int .i64 1) s fun t11 s =>
 oNc t7 s fun t12 s =>
 oAd 1 t12 s fun t13 s =>
 oSr 1 s t13 t11 fun _r s =>
 some (.tup [],s))
  (oMv t1 s fun t15 s =>
 oBn .eql 9 t15 (.str [109,117,116]) s fun t16 s =>
 oCp t16 s fun t14 s =>
 br t14
  (oMv t0 s fun t17 s =>
 oNc t17 s fun t18 s =>
 oAd 1 t18 s fun t19 s =>
 oL1 t19 s fun t20 s =>
 oBn .or 3 t20 (.int .i64 1) s fun t21 s =>
 oNc t17 s fun t22 s =>
 oAd 1 t22 s fun t23 s =>
 oSr 1 s t23 t21 fun _r s =>
 some (.tup [],s))
  (oMv t1 s fun t25 s =>
 oBn .eql 9 t25 (.str [42]) s fun t26 s =>
 oMv t26 s fun t27 s =>
 oGt t27 s (some (t0.strip,s)) fun t28 s =>
 oGt t27 s (mp (aNilCheck t28) s) fun t29 s =>
 oGt t27 s (mp (aAddr 0 t29) s) fun t30 s =>
 oGt t27 s (aLoad false false 1 t30 s) fun t31 s =>
 oGt t27 s (mp (aBin Tryz.prog .eql 3 t31 (.int .i64 2)) s) fun t32 s =>
 oPk t27 t32 (.bool false) s fun t33 s =>
 oCp t33 s fun t24 s =>
 br t24
  (oMv t0 s fun t34 s =>
 oNc t34 s fun t35 s =>
 oAd 1 t35 s fun t36 s =>
 oL1 t36 s fun t37 s =>
 oBn .or 3 t37 (.int .i64 2) s fun t38 s =>
 oNc t34 s fun t39 s =>
 oAd 1 t39 s fun t40 s =>
 oSr 1 s t40 t38 fun _r s =>
 some (.tup [],s))
  (oMv t1 s fun t42 s =>
 oBn .eql 9 t42 (.str [116,114,117,101]) s fun t43 s =>
 oMv t43 s fun t44 s =>
 oGt t44 s (some (t0.strip,s)) fun t45 s =>
 oGt t44 s (mp (aNilCheck t45) s) fun t46 s =>
 oGt t44 s (mp (aAddr 0 t46) s) fun t47 s =>
 oGt t44 s (aLoad false false 1 t47 s) fun t48 s =>
 oGt t44 s (mp (aBin Tryz.prog .eql 3 t48 (.int .i64 28)) s) fun t49 s =>
 oPk t44 t49 (.bool false) s fun t50 s =>
 oCp t50 s fun t41 s =>
 br t41
  (oMv t0 s fun t51 s =>
 oNc t51 s fun t52 s =>
 oAd 1 t52 s fun t53 s =>
 oSr 1 s t53 (.int .i64 1) fun _r s =>
 some (.tup [],s))
  (oMv t0 s fun t55 s =>
 oNc t55 s fun t56 s =>
 oAd 0 t56 s fun t57 s =>
 oL1 t57 s fun t58 s =>
 oBn .eql 3 t58 (.int .i64 39) s fun t59 s =>
 oMv t59 s fun t60 s =>
 oGf t60 s (some (t0.strip,s)) fun t61 s =>
 oGf t60 s (mp (aNilCheck t61) s) fun t62 s =>
 oGf t60 s (mp (aAddr 0 t62) s) fun t63 s =>
 oGf t60 s (aLoad false false 1 t63 s) fun t64 s =>
 oGf t60 s (mp (aBin Tryz.prog .eql 3 t64 (.int .i64 40)) s) fun t65 s =>
 oPk t60 (.bool true) t65 s fun t66 s =>
 oMv t66 s fun t67 s =>
 oGt t67 s (some (t0.strip,s)) fun t68 s =>
 oGt t67 s (mp (aNilCheck t68) s) fun t69 s =>
 oGt t67 s (mp (aAddr 2 t69) s) fun t70 s =>
 oGt t67 s (aLoad false false 1 t70 s) fun t71 s =>
 oGt t67 s (mp (aBin Tryz.prog .eql 9 t71 (.str [])) s) fun t72 s =>
 oPk t67 t72 (.bool false) s fun t73 s =>
 oCp t73 s fun t54 s =>
 br t54
  (oMv t0 s fun t74 s =>
 oMv t1 s fun t75 s =>
 oNc t74 s fun t76 s =>
 oAd 2 t76 s fun t77 s =>
 oSr 1 s t77 t75 fun _r s =>
 some (.tup [],s))
  (some (.tup [],s))))))
theorem F115_eq (n:Nat)(t0 t1:AV)(s:Heap):den C (n+1) 115 [t0,t1] s=F115 (den C n) n t0 t1 s :=
 (den_body rfl Tryz.func115 _ _).trans (by kernel_rfl)
theorem en115:enterable Tryz.prog 115=true:=by kernel_rfl
-- ast.hasName
theorem en174:enterable Tryz.prog 174=true:=by kernel_rfl
-- slices.Contains   int,int
-- slices.Index   int,int
-- (*ast.builder).token
noncomputable def F52_J1 (D:Den)(n:Nat)(e:Env)(s:Heap):Ans :=
 oMv (e 1) s fun t74 s =>
 oMv (e 6) s fun t75 s =>
 oMv (e 0) s fun t76 s =>
 oNc t76 s fun t77 s =>
 oAd 1 t77 s fun t78 s =>
 oL1 t78 s fun t79 s =>
 oCa D 53 [t74.strip,t75.strip,t79.strip] s fun t80 s =>
 some (.tup [],s)
noncomputable def F52_J0 (D:Den)(n:Nat)(e:Env)(s:Heap):Ans :=
 br (e 27)
  (some (.tup [],s))
  (oBn .eql 3 (e 22) (.int .i64 108) s fun t31 s =>
 oCp t31 s fun t30 s =>
 br t30
  (oAd 1 (e 5) s fun t32 s =>
 oL1 t32 s fun t33 s =>
 oBn .eql 9 t33 (.str []) s fun t34 s =>
 br t34
  (oMv (e 0) s fun t35 s =>
 oMv (e 6) s fun t36 s =>
 oMv (e 6) s fun t37 s =>
 oCa D 111 [t35.strip,(.int .i64 1),t36.strip,t37.strip] s fun t38 s =>
 some (.tup [],s))
  (oMv (e 0) s fun t39 s =>
 oMv (e 6) s fun t40 s =>
 oMv (e 0) s fun t41 s =>
 oNc t41 s fun t42 s =>
 oAd 1 t42 s fun t43 s =>
 oL1 t43 s fun t44 s =>
 oCa D 111 [t39.strip,(.int .i64 3),t40.strip,t44.strip] s fun t45 s =>
 F52_J1 D n (upds e [(31,t31),(31,t31.strip),(30,t30),(32,t32),(33,t33),(34,t34),(39,t39),(40,t40),(41,t41),(42,t42),(43,t43),(44,t44),(45,t45)]) s))
  (oBn .eql 3 (e 22) (.int .i64 103) s fun t47 s =>
 oCp t47 s fun t46 s =>
 br t46
  (oMv (e 0) s fun t48 s =>
 oMv (e 1) s fun t49 s =>
 oAd 1 (e 5) s fun t50 s =>
 oL1 t50 s fun t51 s =>
 oMv (e 6) s fun t52 s =>
 oCa D 112 [t48.strip,t49.strip,t51.strip,t52.strip] s fun t53 s =>
 F52_J1 D n (upds e [(31,t31),(31,t31.strip),(30,t30),(47,t47),(47,t47.strip),(46,t46),(48,t48),(49,t49),(50,t50),(51,t51),(52,t52),(53,t53)]) s)
  (oBn .eql 3 (e 22) (.int .i64 105) s fun t55 s =>
 oCp t55 s fun t54 s =>
 br t54
  (oMv (e 1) s fun t56 s =>
 oMv (e 0) s fun t57 s =>
 oAd 1 (e 5) s fun t58 s =>
 oL1 t58 s fun t59 s =>
 oMv (e 6) s fun t60 s =>
 oCa D 113 [t57.strip,t59.strip,t60.strip] s fun t61 s =>
 oNc t56 s fun t62 s =>
 oAd 1 t62 s fun t63 s =>
 oSr 1 s t63 t61 fun _r s =>
 F52_J1 D n (upds e [(31,t31),(31,t31.strip),(30,t30),(47,t47),(47,t47.strip),(46,t46),(55,t55),(55,t55.strip),(54,t54),(56,t56),(57,t57),(58,t58),(59,t59),(60,t60),(61,t61),(62,t62),(63,t63),(61,t61.strip)]) s)
  (oBn .eql 3 (e 22) (.int .i64 106) s fun t65 s =>
 oCp t65 s fun t64 s =>
 br t64
  (oMv (e 1) s fun t66 s =>
 oMv (e 0) s fun t67 s =>
 oAd 1 (e 5) s fun t68 s =>
 oL1 t68 s fun t69 s =>
 oMv (e 6) s fun t70 s =>
 oCa D 114 [t67.strip,t69.strip,t70.strip] s fun t71 s =>
 oNc t66 s fun t72 s =>
 oAd 2 t72 s fun t73 s =>
 oSr 1 s t73 t71 fun _r s =>
 F52_J1 D n (upds e [(31,t31),(31,t31.strip),(30,t30),(47,t47),(47,t47.strip),(46,t46),(55,t55),(55,t55.strip),(54,t54),(65,t65),(65,t65.strip),(64,t64),(66,t66),(67,t67),(68,t68),(69,t69),(70,t70),(71,t71),(72,t72),(73,t73),(71,t71.strip)]) s)
  (oMv (e 1) s fun t23 s =>
 oAd 1 (e 5) s fun t24 s =>
 oL1 t24 s fun t25 s =>
 oCa D 115 [t23.strip,t25.strip] s fun t26 s =>
 F52_J1 D n (upds e [(31,t31),(31,t31.strip),(30,t30),(47,t47),(47,t47.strip),(46,t46),(55,t55),(55,t55.strip),(54,t54),(65,t65),(65,t65.strip),(64,t64),(23,t23),(24,t24),(25,t25),(26,t26)]) s)))))
noncomputable def F52 (D:Den)(n:Nat)(t0 t1 t2:AV)(s:Heap):Ans :=
 oBx 65 t2 s fun t5 s =>
 oMv t0 s fun t7 s =>
 oNc t7 s fun t8 s =>
 oAd 1 t8 s fun t9 s =>
 oL1 t9 s fun t10 s =>
 oCp t10 s fun t6 s =>
 oMv t0 s fun t11 s =>
 oNc t11 s fun t12 s =>
 oAd 1 t12 s fun t13 s =>
 oL1 t13 s fun t14 s =>
 oAd 1 t5 s fun t15 s =>
 oL1 t15 s fun t16 s =>
 oLn 9 t16 s fun t17 s =>
 oBn .add 3 t14 t17 s fun t18 s =>
 oNc t11 s fun t19 s =>
 oAd 1 t19 s fun t20 s =>
 oSr 1 s t20 t18 fun _r s =>
 drawOK C 52 (regOps Tryz.f52 2) [.silent,.silent,.silent,(kLoad false t13),.silent,(kLoad false t15),.silent,.silent,.silent,.silent,(kStore t20)] <|
 oAd 0 t5 s fun t21 s =>
 oL1 t21 s fun t22 s =>
 oBn .eql 3 t22 (.int .i64 101) s fun t28 s =>
 oCp t28 s fun t27 s =>
 br t27
  (F52_J0 D n (upds (argEnv [t0,t1,t2]) [(5,t5),(7,t7),(8,t8),(9,t9),(10,t10),(10,t10.strip),(6,t6),(11,t11),(12,t12),(13,t13),(14,t14),(15,t15),(16,t16),(17,t17),(18,t18),(19,t19),(20,t20),(18,t18.strip),(21,t21),(22,t22),(28,t28),(28,t28.strip),(27,t27)]) s)
  (oBn .eql 3 t22 (.int .i64 102) s fun t29 s =>
 oCp t29 s fun t27_2 s =>
 F52_J0 D n (upds (argEnv [t0,t1,t2]) [(5,t5),(7,t7),(8,t8),(9,t9),(10,t10),(10,t10.strip),(6,t6),(11,t11),(12,t12),(13,t13),(14,t14),(15,t15),(16,t16),(17,t17),(18,t18),(19,t19),(20,t20),(18,t18.strip),(21,t21),(22,t22),(28,t28),(28,t28.strip),(27,t27),(29,t29),(29,t29.strip),(27,t27_2)]) s)
theorem F52_eq (n:Nat)(t0 t1 t2:AV)(s:Heap):den C (n+1) 52 [t0,t1,t2] s=F52 (den C n) n t0 t1 t2 s :=
 (den_body rfl Tryz.func52 _ _).trans (by kernel_rfl)
theorem d52_2 {g0:Nat}(a:Nat)(x:Ans):drawOK C 52 (regOps Tryz.f52 2) [.silent,.silent,.silent,.get g0,.silent,.silent,.silent,.silent,.silent,.silent,.put a] x=x:=drawOK_both (a:=a) (b:=a+1) (ks0:=[.silent,.silent,.silent,.reader,.silent,.silent,.silent,.silent,.silent,.silent,.put 0]) (by omega) (by kernel_rfl) rfl
theorem en52:enterable Tryz.prog 52=true:=by kernel_rfl
-- (*ast.builder).finish
noncomputable def F54_J0 (D:Den)(n:Nat)(e:Env)(s:Heap):Ans :=
 oMv (e 0) s fun t29 s =>
 oMv (e 6) s fun t30 s =>
 oAd 3 (e 3) s fun t31 s =>
 oL1 t31 s fun t32 s =>
 oAd 4 (e 3) s fun t33 s =>
 oL1 t33 s fun t34 s =>
 oCa D 111 [t29.strip,t30.strip,t32.strip,t34.strip] s fun t35 s =>
 oMv (e 0) s fun t36 s =>
 oNc t36 s fun t37 s =>
 oAd 0 t37 s fun t38 s =>
 oL1 t38 s fun t39 s =>
 oAd 3 (e 3) s fun t40 s =>
 oL1 t40 s fun t41 s =>
 oAd 4 (e 3) s fun t42 s =>
 oL1 t42 s fun t43 s =>oh (mp (aSl Tryz.prog 9 t39 (some t41) (some t43) none) s) fun t44 s =>
 oAd 3 (e 3) s fun t45 s =>
 oL1 t45 s fun t46 s =>
 oAd 4 (e 3) s fun t47 s =>
 oL1 t47 s fun t48 s =>
 oBd 27 [(0,(.int .i64 46)),(2,t44),(3,t46),(4,t48),(5,(.int .i64 (-1)))] s fun t49 s =>
 oSr 7 s (e 4) t49 fun _r s =>
 drawOK C 54 (regOps Tryz.f54 11) [.silent,.silent,.silent,(kLoad false t38),.silent,(kLoad false t40),.silent,(kLoad false t42),.silent,.silent,(kLoad false t45),.silent,(kLoad false t47),.silent,(kStore (e 4))] <|
 fin1 ((aLoad false true 7 (e 4) s).map (·.1)) s
noncomputable def F54 (D:Den)(n:Nat)(t0 t1:AV)(s:Heap):Ans :=
 oBx 27 t1 s fun t3 s =>
 oAl 27 s fun t4 s =>
 oAd 0 t3 s fun t7 s =>
 oL1 t7 s fun t8 s =>
 oBn .eql 3 t8 (.int .i64 60) s fun t10 s =>
 oCp t10 s fun t9 s =>
 br t9
  (oAd 6 t3 s fun t11 s =>
 oL1 t11 s fun t12 s =>
 oIx 25 t12 (.int .i64 0) s fun t13 s =>
 oLa 7 t13 s fun t14 s =>
 oAl 27 s fun t5 s =>
 oSr 7 s t5 t14 fun _r s =>
 oAd 3 t3 s fun t15 s =>
 oL1 t15 s fun t16 s =>
 oAd 4 t3 s fun t17 s =>
 oL1 t17 s fun t18 s =>
 oAd 3 t5 s fun t19 s =>
 oSr 1 s t19 t16 fun _r s =>
 oAd 4 t5 s fun t20 s =>
 oSr 1 s t20 t18 fun _r s =>
 drawOK C 54 (regOps Tryz.f54 4) [.silent,(kLoad false t15),.silent,(kLoad false t17),.silent,(kStore t19),.silent,(kStore t20)] <|
 oLa 7 t5 s fun t21 s =>
 oSr 7 s t4 t21 fun _r s =>
 fin1 ((aLoad false true 7 t4 s).map (·.1)) s)
  (oBn .eql 3 t8 (.int .i64 46) s fun t23 s =>
 oCp t23 s fun t22 s =>
 br t22
  (oCp (.int .i64 2) s fun t6 s =>
 oAd 3 t3 s fun t24 s =>
 oL1 t24 s fun t25 s =>
 oAd 4 t3 s fun t26 s =>
 oL1 t26 s fun t27 s =>
 oBn .eql 3 t25 t27 s fun t28 s =>
 br t28
  (oCp (.int .i64 1) s fun t6_2 s =>
 F54_J0 D n (upds (argEnv [t0,t1]) [(3,t3),(4,t4),(7,t7),(8,t8),(10,t10),(10,t10.strip),(9,t9),(23,t23),(23,t23.strip),(22,t22),(6,t6),(24,t24),(25,t25),(26,t26),(27,t27),(28,t28),(6,t6_2)]) s)
  (F54_J0 D n (upds (argEnv [t0,t1]) [(3,t3),(4,t4),(7,t7),(8,t8),(10,t10),(10,t10.strip),(9,t9),(23,t23),(23,t23.strip),(22,t22),(6,t6),(24,t24),(25,t25),(26,t26),(27,t27),(28,t28)]) s))
  (oLa 7 t3 s fun t50 s =>
 oSr 7 s t4 t50 fun _r s =>
 fin1 ((aLoad false true 7 t4 s).map (·.1)) s))
theorem F54_eq (n:Nat)(t0 t1:AV)(s:Heap):den C (n+1) 54 [t0,t1] s=F54 (den C n) n t0 t1 s :=
 (den_body rfl Tryz.func54 _ _).trans (by kernel_rfl)
theorem d54_11 {g0:Nat}(a:Nat)(x:Ans):drawOK C 54 (regOps Tryz.f54 11) [.silent,.silent,.silent,.get g0,.silent,.silent,.silent,.silent,.silent,.silent,.silent,.silent,.silent,.silent,.put a] x=x:=drawOK_both (a:=a) (b:=a+1) (ks0:=[.silent,.silent,.silent,.reader,.silent,.silent,.silent,.silent,.silent,.silent,.silent,.silent,.silent,.silent,.put 0]) (by omega) (by kernel_rfl) rfl
theorem en54:enterable Tryz.prog 54=true:=by kernel_rfl
-- (*ast.builder).node
noncomputable def F33_J1 (D:Den)(n:Nat)(k0:Env→Heap→Ans)(e:Env)(s:Heap):Ans :=
 oBn .add 3 (e 21) (.int .i64 1) s fun t47 s =>
 oMv t47 s fun t21_2 s =>
 k0 (upds e [(47,t47),(21,t21_2)]) s
noncomputable def F33_L0 (D:Den)(n:Nat)(k0:Env→Heap→Ans)(e:Env)(s:Heap):Ans :=
 oBn .lss 3 (e 21) (e 20) s fun t22 s =>
 br t22
  (oIx 63 (e 19) (e 21) s fun t23 s =>
 oLa 3 t23 s fun t24 s =>
 oAl 65 s fun t8 s =>
 oSr 3 s t8 t24 fun _r s =>
 oAd 0 t8 s fun t25 s =>
 oL1 t25 s fun t26 s =>
 oBn .geq 3 t26 (.int .i64 100) s fun t27 s =>
 br t27
  (oMv (e 0) s fun t28 s =>
 oLa 3 t8 s fun t29 s =>
 oCa D 52 [t28.strip,(e 6).strip,t29.strip] s fun t30 s =>
 F33_J1 D n k0 (upds e [(22,t22),(23,t23),(24,t24),(8,t8),(24,t24.strip),(25,t25),(26,t26),(27,t27),(28,t28),(29,t29),(30,t30)]) s)
  (oMv (e 0) s fun t31 s =>
 oLa 3 t8 s fun t32 s =>
 oCa D 33 [t31.strip,t32.strip] s fun t33 s =>
 oAl 27 s fun t9 s =>
 oSr 7 s t9 t33 fun _r s =>
 oAd 3 t9 s fun t34 s =>
 oL1 t34 s fun t35 s =>
 oAd 4 t9 s fun t36 s =>
 oL1 t36 s fun t37 s =>
 oCa D 53 [(e 6).strip,t35.strip,t37.strip] s fun t38 s =>
 oAd 6 (e 6) s fun t39 s1 =>
 oL1 t39 s1 fun t40 s2 =>
 oLa 7 t9 s2 fun t41 s3 =>
 oLn 25 t40 s3 fun t42 s4 =>
 oBs 25 1 [(0,(.agg [(.int .i64 0),(.int .i64 0),(.str []),(.int .i64 0),(.int .i64 0),(.int .i64 0),.nils]))] s4 fun t43 s5 =>oh (aRsAppend Tryz.prog 25 25 t40 t43 s5) fun t44 s6 =>
 oIx 25 t44 t42 s6 fun t45 s7 =>
 oSr 7 s7 t45 t41 fun _r s8 =>
 oAd 6 (e 6) s8 fun t46 s9 =>
 oSr 1 s9 t46 t44.strip fun _r s10 =>
 drawOK C 33 (regOps Tryz.f33 10) [.silent,(kLoad false t39),(kLoad false t9),.silent,.silent,(dyn (appK t40) s5 s6),.silent,(kStore t45),.silent,(kStore t46)] <|
 F33_J1 D n k0 (upds e [(22,t22),(23,t23),(24,t24),(8,t8),(24,t24.strip),(25,t25),(26,t26),(27,t27),(31,t31),(32,t32),(33,t33),(9,t9),(33,t33.strip),(34,t34),(35,t35),(36,t36),(37,t37),(38,t38),(39,t39),(40,t40),(41,t41),(42,t42),(43,t43),(40,t40.strip),(44,t44),(45,t45),(41,t41.strip),(46,t46)]) s10))
  (oAd 4 (e 6) s fun t48 s =>
 oL1 t48 s fun t49 s =>
 oAd 3 (e 6) s fun t50 s =>
 oL1 t50 s fun t51 s =>oh (mp (aMax t49 t51) s) fun t52 s =>
 oAd 4 (e 6) s fun t53 s =>
 oSr 1 s t53 t52 fun _r s =>
 oMv (e 0) s fun t54 s =>oh (pubR (aLoad false true 7 (e 6) s)) fun t55 s =>
 oCa D 54 [t54.strip,t55.strip] s fun t56 s =>
 oSr 7 s (e 4) t56 fun _r s =>
 fin1 ((aLoad false true 7 (e 4) s).map (·.1)) s)
noncomputable def F33 (D:Den)(n:Nat)(t0 t1:AV)(s:Heap):Ans :=
 oBx 65 t1 s fun t3 s =>
 oAl 27 s fun t4 s =>
 oMv t0 s fun t10 s =>
 oNc t10 s fun t11 s =>
 oAd 1 t11 s fun t12 s =>
 oL1 t12 s fun t13 s =>
 oCp t13 s fun t5 s =>
 oAd 0 t3 s fun t14 s =>
 oL1 t14 s fun t15 s =>
 oMv t5 s fun t16 s =>
 oBd 27 [(0,t15),(3,t16),(4,(.int .i64 (-1))),(5,(.int .i64 (-1)))] s fun t17 s =>
 oAl 27 s fun t6 s =>
 oSr 7 s t6 t17 fun _r s =>
 oAd 2 t3 s fun t18 s =>
 oL1 t18 s fun t19 s =>
 oLn 63 t19 s fun t20 s =>
 oCp (.int .i64 0) s fun t21 s =>
 aLoop (F33_L0 D n) n (upds (argEnv [t0,t1]) [(3,t3),(4,t4),(10,t10),(11,t11),(12,t12),(13,t13),(13,t13.strip),(5,t5),(14,t14),(15,t15),(16,t16),(17,t17),(6,t6),(17,t17.strip),(18,t18),(19,t19),(20,t20),(21,t21)]) s
theorem F33_eq (n:Nat)(t0 t1:AV)(s:Heap):den C (n+1) 33 [t0,t1] s=F33 (den C n) n t0 t1 s :=
 (den_body rfl Tryz.func33 _ _).trans (by kernel_rfl)
theorem d33_10 {g0 g1:Nat}{q0:Option Nat}(a b:Nat)(h:a≠b)(x:Ans):drawOK C 33 (regOps Tryz.f33 10) [.silent,.get g0,.get g1,.silent,.silent,.app q0,.silent,.put a,.silent,.put b] x=x:=drawOK_both (ks0:=[.silent,.reader,.reader,.silent,.silent,.writer,.silent,.put 0,.silent,.put 1]) h (by kernel_rfl) rfl
theorem en33:enterable Tryz.prog 33=true:=by kernel_rfl
-- ast.Parse
noncomputable def F15 (D:Den)(n:Nat)(t0:AV)(s:Heap):Ans :=
 oAl 27 s fun t2 s =>
 oCp .nils s fun t3 s =>
 oCp (.int .i64 0) s fun t4 s =>
 oMv t0 s fun t10 s =>
 oCa D 32 [t10.strip] s fun t11 s =>
 oMv t11 s fun t9 s =>
 oXt 0 t9 s fun t12 s =>
 oXt 1 t9 s fun t13 s =>
 oAl 65 s fun t5 s =>
 oSr 3 s t5 t12 fun _r s =>
 oCp t13 s fun t6 s =>
 oMv t6 s fun t14 s =>
 oBn .neq 29 t14 (.int .i64 0) s fun t15 s =>
 br t15
  (oBd 27 [] s fun t16 s =>
 oMv t6 s fun t17 s =>
 oSr 7 s t2 t16 fun _r s =>
 oCp .nils s fun t3_2 s =>
 oCp t17 s fun t4_2 s =>
 fin1 ((resL [(aLoad false true 7 t2 s).map (·.1),some t3_2,some t4_2]).map .tup) s)
  (oMv t0 s fun t18 s =>
 oBd 70 [(0,t18)] s fun t19 s =>oh (aBox true 70 t19 s) fun t20 s =>
 oCp t20 s fun t7 s =>
 oMv t7 s fun t21 s =>
 oLa 3 t5 s fun t22 s =>
 oCa D 33 [t21.strip,t22.strip] s fun t23 s =>
 oAl 27 s fun t8 s =>
 oSr 7 s t8 t23 fun _r s =>
 oMv t0 s fun t24 s =>
 oLn 9 t24 s fun t25 s =>
 oAd 3 t8 s fun t26 s =>
 oSr 1 s t26 (.int .i64 0) fun _r s =>
 oAd 4 t8 s fun t27 s =>
 oSr 1 s t27 t25 fun _r s =>
 oMv t7 s fun t28 s =>
 oNc t28 s fun t29 s =>
 oAd 2 t29 s fun t30 s =>
 oL1 t30 s fun t31 s =>
 oCa D 34 [t31.strip,(.fn 35 [] [])] s fun t32 s =>
 oLa 7 t8 s fun t33 s1 =>
 oMv t7 s1 fun t34 s2 =>
 oNc t34 s2 fun t35 s3 =>
 oAd 2 t35 s3 fun t36 s4 =>
 oL1 t36 s4 fun t37 s5 =>
 oCa D 36 [t37.strip] s5 fun t38 s6 =>
 oSr 7 s6 t2 t33 fun _r s7 =>
 oCp t38 s7 fun t3_3 s8 =>
 oCp (.int .i64 0) s8 fun t4_3 s9 =>
 drawOK C 15 (regOps Tryz.f15 8) [(kLoad false t8),.silent,.silent,.silent,(kLoad false t36),(dyn (kCall [t37.strip]) s5 s6),(kStore t2),.silent,.silent] <|
 fin1 ((resL [(aLoad false true 7 t2 s9).map (·.1),some t3_3,some t4_3]).map .tup) s9)
theorem F15_eq (n:Nat)(t0:AV)(s:Heap):den C (n+1) 15 [t0] s=F15 (den C n) n t0 s :=
 (den_body rfl Tryz.func15 _ _).trans (by kernel_rfl)
theorem d15_8 {g0 g1:Nat}{l0:List Nat}(a:Nat)(h:∀g∈[g0,g1],∀l∈[l0],(l:List Nat).contains g=true)(hp:∀g∈[g0,g1],∀p∈[a],g≠p)(x:Ans):drawOK C 15 (regOps Tryz.f15 8) [.get g0,.silent,.silent,.silent,.get g1,.call l0,.put a,.silent,.silent] x=x:=drawOK_callp (gs:=[g0,g1]) (ls:=[l0]) (ps:=[a]) (by kernel_rfl) (by simp) (by simp) (by simp) h hp
theorem en15:enterable Tryz.prog 15=true:=by kernel_rfl
-- ast.Equal
noncomputable def F16_L0 (D:Den)(n:Nat)(k0:Env→Heap→Ans)(e:Env)(s:Heap):Ans :=
 oBn .lss 3 (e 37) (e 36) s fun t38 s =>
 br t38
  (oMv (e 37) s fun t39 s =>
 oCp t39 s fun t5 s =>
 oAd 6 (e 2) s fun t40 s1 =>
 oL1 t40 s1 fun t41 s2 =>
 oMv t5 s2 fun t42 s3 =>
 oIx 25 t41 t42 s3 fun t43 s4 =>
 oLa 7 t43 s4 fun t44 s5 =>
 oAd 6 (e 3) s5 fun t45 s6 =>
 oL1 t45 s6 fun t46 s7 =>
 oMv t5 s7 fun t47 s8 =>
 oIx 25 t46 t47 s8 fun t48 s9 =>
 oLa 7 t48 s9 fun t49 s10 =>
 oCa D 16 [t44.strip,t49.strip] s10 fun t50 s11 =>oh (mp (aUn .not t50) s11) fun t51 s12 =>
 drawOK C 16 (regOps Tryz.f16 6) [.silent,(kLoad false t40),.silent,.silent,(kLoad false t43),.silent,(kLoad false t45),.silent,.silent,(kLoad false t48),(dyn (kCall [t44.strip,t49.strip]) s10 s11),.silent] <|
 br t51
  (oCp (.bool false) s12 fun t4_3 s =>
 some (t4_3,s))
  (oBn .add 3 (e 37) (.int .i64 1) s12 fun t52 s =>
 oMv t52 s fun t37_2 s =>
 k0 (upds e [(38,t38),(39,t39),(39,t39.strip),(5,t5),(40,t40),(41,t41),(42,t42),(43,t43),(44,t44),(45,t45),(46,t46),(47,t47),(48,t48),(49,t49),(50,t50),(51,t51),(52,t52),(37,t37_2)]) s))
  (oCp (.bool true) s fun t4_4 s =>
 some (t4_4,s))
noncomputable def F16 (D:Den)(n:Nat)(t0 t1:AV)(s:Heap):Ans :=
 oBx 27 t0 s fun t2 s =>
 oBx 27 t1 s fun t3 s =>
 oCp (.bool false) s fun t4 s =>
 oAd 0 t2 s fun t6 s =>
 oL1 t6 s fun t7 s =>
 oAd 0 t3 s fun t8 s =>
 oL1 t8 s fun t9 s =>
 oBn .neq 3 t7 t9 s fun t10 s =>
 oMv t10 s fun t11 s =>
 oGf t11 s (mp (aAddr 1 t2) s) fun t12 s =>
 oGf t11 s (aLoad false false 1 t12 s) fun t13 s =>
 oGf t11 s (mp (aAddr 1 t3) s) fun t14 s =>
 oGf t11 s (aLoad false false 1 t14 s) fun t15 s =>
 oGf t11 s (mp (aBin Tryz.prog .neq 3 t13 t15) s) fun t16 s =>
 oPk t11 (.bool true) t16 s fun t17 s =>
 oMv t17 s fun t18 s =>
 oGf t18 s (mp (aAddr 2 t2) s) fun t19 s =>
 oGf t18 s (aLoad false false 1 t19 s) fun t20 s =>
 oGf t18 s (mp (aAddr 2 t3) s) fun t21 s =>
 oGf t18 s (aLoad false false 1 t21 s) fun t22 s =>
 oGf t18 s (mp (aBin Tryz.prog .neq 9 t20 t22) s) fun t23 s =>
 oPk t18 (.bool true) t23 s fun t24 s =>
 oMv t24 s fun t25 s =>
 oGf t25 s (mp (aAddr 6 t2) s) fun t26 s =>
 oGf t25 s (aLoad false false 1 t26 s) fun t27 s =>
 oGf t25 s (mp (aLen Tryz.prog 25 t27) s) fun t28 s =>
 oGf t25 s (mp (aAddr 6 t3) s) fun t29 s =>
 oGf t25 s (aLoad false false 1 t29 s) fun t30 s =>
 oGf t25 s (mp (aLen Tryz.prog 25 t30) s) fun t31 s =>
 oGf t25 s (mp (aBin Tryz.prog .neq 3 t28 t31) s) fun t32 s =>
 oPk t25 (.bool true) t32 s fun t33 s =>
 br t33
  (oCp (.bool false) s fun t4_2 s =>
 some (t4_2,s))
  (oAd 6 t2 s fun t34 s =>
 oL1 t34 s fun t35 s =>
 oLn 25 t35 s fun t36 s =>
 oCp (.int .i64 0) s fun t37 s =>
 aLoop (F16_L0 D n) n (upds (argEnv [t0,t1]) [(2,t2),(3,t3),(4,t4),(6,t6),(7,t7),(8,t8),(9,t9),(10,t10),(11,t11),(12,t12),(13,t13),(14,t14),(15,t15),(16,t16),(17,t17),(18,t18),(19,t19),(20,t20),(21,t21),(22,t22),(23,t23),(24,t24),(25,t25),(26,t26),(27,t27),(28,t28),(29,t29),(30,t30),(31,t31),(32,t32),(33,t33),(34,t34),(35,t35),(36,t36),(37,t37)]) s)
theorem F16_eq (n:Nat)(t0 t1:AV)(s:Heap):den C (n+1) 16 [t0,t1] s=F16 (den C n) n t0 t1 s :=
 (den_body rfl Tryz.func16 _ _).trans (by kernel_rfl)
theorem en16:enterable Tryz.prog 16=true:=by kernel_rfl
-- glossatorkeep1.parserExample
-- glossatorref1.EqualLists api.Diagnostic
-- glossatorref1.Mod
-- glossatorkeep1.source
-- glossatorkeep1.ParserResynchronizes
noncomputable def F3_J1 (D:Den)(n:Nat)(k0:Env→Heap→Ans)(e:Env)(s:Heap):Ans :=
 oLa 7 (e 15) s fun t104 s =>
 oLa 7 (e 16) s fun t105 s =>
 oCa D 16 [t104.strip,t105.strip] s fun t106 s =>oh (mp (aUn .not t106) s) fun t107 s =>
 br t107
  (oCp (.bool false) s fun t4_5 s =>
 some (t4_5,s))
  (oBn .add 3 (e 79) (.int .i64 1) s fun t108 s =>
 oMv t108 s fun t79_2 s =>
 k0 (upds e [(104,t104),(105,t105),(106,t106),(107,t107),(108,t108),(79,t79_2)]) s)
noncomputable def F3_L0 (D:Den)(n:Nat)(k0:Env→Heap→Ans)(e:Env)(s:Heap):Ans :=
 oBn .lss 3 (e 79) (e 78) s fun t80 s =>
 br t80
  (oMv (e 79) s fun t81 s =>
 oIx 25 (e 77) (e 79) s fun t82 s =>
 oLa 7 t82 s fun t83 s =>
 oAl 27 s fun t15 s =>
 oCp t81 s fun t14 s =>
 oSr 7 s t15 t83 fun _r s =>
 oBd 27 [] s fun t84 s =>
 oAl 27 s fun t16 s =>
 oSr 7 s t16 t84 fun _r s =>
 oMv t14 s fun t85 s =>
 oAd 6 (e 5) s fun t86 s =>
 oL1 t86 s fun t87 s =>
 oLn 25 t87 s fun t88 s =>
 oBn .lss 3 t85 t88 s fun t89 s =>
 br t89
  (oAd 6 (e 5) s fun t90 s =>
 oL1 t90 s fun t91 s =>
 oMv t14 s fun t92 s =>
 oIx 25 t91 t92 s fun t93 s =>
 oLa 7 t93 s fun t94 s =>
 oSr 7 s t16 t94 fun _r s =>
 F3_J1 D n k0 (upds e [(80,t80),(81,t81),(82,t82),(83,t83),(15,t15),(81,t81.strip),(14,t14),(83,t83.strip),(84,t84),(16,t16),(84,t84.strip),(85,t85),(86,t86),(87,t87),(88,t88),(89,t89),(90,t90),(91,t91),(92,t92),(93,t93),(94,t94),(94,t94.strip)]) s)
  (oAd 6 (e 8) s fun t95 s =>
 oL1 t95 s fun t96 s =>
 oMv t14 s fun t97 s =>
 oAd 6 (e 5) s fun t98 s =>
 oL1 t98 s fun t99 s =>
 oLn 25 t99 s fun t100 s =>
 oBn .sub 3 t97 t100 s fun t101 s =>
 oIx 25 t96 t101 s fun t102 s =>
 oLa 7 t102 s fun t103 s =>
 oSr 7 s t16 t103 fun _r s =>
 F3_J1 D n k0 (upds e [(80,t80),(81,t81),(82,t82),(83,t83),(15,t15),(81,t81.strip),(14,t14),(83,t83.strip),(84,t84),(16,t16),(84,t84.strip),(85,t85),(86,t86),(87,t87),(88,t88),(89,t89),(95,t95),(96,t96),(97,t97),(98,t98),(99,t99),(100,t100),(101,t101),(102,t102),(103,t103),(103,t103.strip)]) s))
  (oCp (.bool true) s fun t4_6 s =>
 some (t4_6,s))
noncomputable def F3 (D:Den)(n:Nat)(t0 t1:AV)(s:Heap):Ans :=
 oCp (.bool false) s fun t4 s =>
 oCa D 12 [] s fun t17 s =>oh (mp (aUn .not t17) s) fun t18 s =>
 br t18
  (oCp (.bool false) s fun t4_2 s =>
 some (t4_2,s))
  (oMv t0 s fun t19 s =>
 oCa D 13 [t19.strip,(.int .i64 300)] s fun t20 s =>
 oMv t1 s fun t21 s =>
 oCa D 13 [t21.strip,(.int .i64 300)] s fun t22 s =>
 oBn .add 9 (.str [99,111,110,115,116,32,107,58,32,105,110,116,32,61,32,49,59,10]) t22 s fun t23 s =>
 oCp t20 s fun t0_2 s =>
 oCp t23 s fun t1_2 s =>
 oMv t0_2 s fun t24 s =>
 oCa D 14 [t24.strip] s fun t25 s =>
 oBn .eql 9 t25 (.str [112,117,98]) s fun t26 s =>
 br t26
  (oCa D 12 [] s fun t27 s =>
 oCp t27 s fun t4_3 s =>
 some (t4_3,s))
  (oMv t0_2 s fun t29 s =>
 oCa D 15 [t29.strip] s fun t30 s =>
 oMv t30 s fun t28 s =>
 oXt 0 t28 s fun t31 s =>
 oXt 1 t28 s fun t32 s =>
 oXt 2 t28 s fun t33 s =>
 oAl 27 s fun t5 s =>
 oSr 7 s t5 t31 fun _r s =>
 oCp t32 s fun t6 s =>
 oCp t33 s fun t7 s =>
 oMv t1_2 s fun t35 s =>
 oCa D 15 [t35.strip] s fun t36 s =>
 oMv t36 s fun t34 s =>
 oXt 0 t34 s fun t37 s =>
 oXt 1 t34 s fun t38 s =>
 oXt 2 t34 s fun t39 s =>
 oAl 27 s fun t8 s =>
 oSr 7 s t8 t37 fun _r s =>
 oCp t38 s fun t9 s =>
 oCp t39 s fun t10 s =>
 oMv t0_2 s fun t41 s =>
 oBn .add 9 t41 (.str [10]) s fun t42 s =>
 oMv t1_2 s fun t43 s =>
 oBn .add 9 t42 t43 s fun t44 s =>
 oCa D 15 [t44.strip] s fun t45 s =>
 oMv t45 s fun t40 s =>
 oXt 0 t40 s fun t46 s =>
 oXt 1 t40 s fun t47 s =>
 oXt 2 t40 s fun t48 s =>
 oAl 27 s fun t11 s =>
 oSr 7 s t11 t46 fun _r s =>
 oCp t47 s fun t12 s =>
 oCp t48 s fun t13 s =>
 oCa D 12 [] s fun t49 s =>oh (mp (aUn .not t49) s) fun t50 s =>
 oMv t50 s fun t51 s =>
 oGf t51 s (some (t7.strip,s)) fun t52 s =>
 oGf t51 s (mp (aBin Tryz.prog .neq 29 t52 (.int .i64 0)) s) fun t53 s =>
 oPk t51 (.bool true) t53 s fun t54 s =>
 oMv t54 s fun t55 s =>
 oGf t55 s (some (t10.strip,s)) fun t56 s =>
 oGf t55 s (mp (aBin Tryz.prog .neq 29 t56 (.int .i64 0)) s) fun t57 s =>
 oPk t55 (.bool true) t57 s fun t58 s =>
 oMv t58 s fun t59 s =>
 oGf t59 s (some (t13.strip,s)) fun t60 s =>
 oGf t59 s (mp (aBin Tryz.prog .neq 29 t60 (.int .i64 0)) s) fun t61 s =>
 oPk t59 (.bool true) t61 s fun t62 s =>
 oMv t62 s fun t63 s =>
 oGf t63 s (mp (aAddr 6 t11) s) fun t64 s =>
 oGf t63 s (aLoad false false 1 t64 s) fun t65 s =>
 oGf t63 s (mp (aLen Tryz.prog 25 t65) s) fun t66 s =>
 oGf t63 s (mp (aAddr 6 t5) s) fun t67 s =>
 oGf t63 s (aLoad false false 1 t67 s) fun t68 s =>
 oGf t63 s (mp (aLen Tryz.prog 25 t68) s) fun t69 s =>
 oGf t63 s (mp (aAddr 6 t8) s) fun t70 s =>
 oGf t63 s (aLoad false false 1 t70 s) fun t71 s =>
 oGf t63 s (mp (aLen Tryz.prog 25 t71) s) fun t72 s =>
 oGf t63 s (mp (aBin Tryz.prog .add 3 t69 t72) s) fun t73 s =>
 oGf t63 s (mp (aBin Tryz.prog .neq 3 t66 t73) s) fun t74 s =>
 oPk t63 (.bool true) t74 s fun t75 s =>
 br t75
  (oCp (.bool false) s fun t4_4 s =>
 some (t4_4,s))
  (oAd 6 t11 s fun t76 s =>
 oL1 t76 s fun t77 s =>
 oLn 25 t77 s fun t78 s =>
 oCp (.int .i64 0) s fun t79 s =>
 aLoop (F3_L0 D n) n (upds (argEnv [t0,t1]) [(4,t4),(17,t17),(18,t18),(19,t19),(20,t20),(21,t21),(22,t22),(23,t23),(20,t20.strip),(0,t0_2),(23,t23.strip),(1,t1_2),(24,t24),(25,t25),(26,t26),(29,t29),(30,t30),(28,t28),(31,t31),(32,t32),(33,t33),(5,t5),(31,t31.strip),(32,t32.strip),(6,t6),(33,t33.strip),(7,t7),(35,t35),(36,t36),(34,t34),(37,t37),(38,t38),(39,t39),(8,t8),(37,t37.strip),(38,t38.strip),(9,t9),(39,t39.strip),(10,t10),(41,t41),(42,t42),(43,t43),(44,t44),(45,t45),(40,t40),(46,t46),(47,t47),(48,t48),(11,t11),(46,t46.strip),(47,t47.strip),(12,t12),(48,t48.strip),(13,t13),(49,t49),(50,t50),(51,t51),(52,t52),(53,t53),(54,t54),(55,t55),(56,t56),(57,t57),(58,t58),(59,t59),(60,t60),(61,t61),(62,t62),(63,t63),(64,t64),(65,t65),(66,t66),(67,t67),(68,t68),(69,t69),(70,t70),(71,t71),(72,t72),(73,t73),(74,t74),(75,t75),(76,t76),(77,t77),(78,t78),(79,t79)]) s)))
-- glossatorkeep1.ParserTrivia
end AstF
end

section
namespace Pm
inductive Nd where
 | mk (k v:Int) (x:Bytes) (s e ns:Int) (cs:List Nd)
 deriving Inhabited
structure Dg where
 (code s e:Int)
 deriving DecidableEq
def Nd.s:Nd→Int|.mk _ _ _ s _ _ _=>s
def Nd.e:Nd→Int|.mk _ _ _ _ e _ _=>e
def Nd.cs:Nd→List Nd|.mk _ _ _ _ _ _ cs=>cs
def Nd.place (a b:Int):Nd→Nd|.mk k v x _ _ ns cs=>.mk k v x a b ns cs
inductive Sd where
 | mk (k v:Int) (x:Bytes) (cs:List Sd)
mutual
def sd:Nd→Sd
 | .mk k v x _ _ _ cs=>.mk k v x (sdL cs)
def sdL:List Nd→List Sd
 | []=>[]
 | n::ns=>sd n::sdL ns
end
structure Hd where
 (v:Int)(x:Bytes)(s e ns:Int)
def orI (a b:Int):Int:=((BitVec.ofInt 64 a ||| BitVec.ofInt 64 b).toInt)
def hasName (k:Int):Bool:=[2,3,4,5,6,8,9,11,13,14,15,16,18,31,32,34,44].contains k
def Hd.ext (h:Hd)(a b:Int):Hd:=⟨h.v,h.x,if h.e<0 then a else h.s,b,h.ns⟩
def digits (x:Bytes):Nat:=x.foldl (fun n c=>n*10+(c.toNat-48)) 0
def intV (x:Bytes)(o:Int):Int×List Dg:=if digits x > 2147483647 then(2147483647,[⟨4,o,o+x.length⟩]) else(digits x,[])
def identH (k:Int)(h:Hd)(x:Bytes)(o:Int):Hd×List Dg :=
 (if hasName k&&decide (h.ns<0) then⟨h.v,x,h.s,h.e,o⟩ else h,if 30<x.length then[⟨5,o,o+x.length⟩] else[])
def flagH (k:Int)(h:Hd)(x:Bytes):Hd :=
 if x=wPub then⟨orI h.v 1,h.x,h.s,h.e,h.ns⟩ else if x=wMut then⟨orI h.v 1,h.x,h.s,h.e,h.ns⟩
 else if x=wStar∧k=2 then⟨orI h.v 2,h.x,h.s,h.e,h.ns⟩ else if x=wTrue∧k=28 then⟨1,h.x,h.s,h.e,h.ns⟩
 else if(k=39∨k=40)∧h.x=[] then⟨h.v,x,h.s,h.e,h.ns⟩ else h
def unq:Int→Bytes→Bytes×List Dg
 | o,c::d::r=>if c=92 then
   let z:=unq (o+2) r
   ((if d=110 then 10 else d)::z.1,if d=110∨d=34∨d=92 then z.2 else⟨6,o,o+2⟩::z.2)
  else
   let z:=unq (o+1) (d::r)
   (c::z.1,z.2)
 | _,_=>([],[])
def tokH (k:Int)(h:Hd)(c:Nat)(x:Bytes)(o:Int):Hd×List Dg :=
 if c=101∨c=102 then(h,[])
 else if c=108 then(if x=[] then(h,[⟨1,o,o⟩]) else(h.ext o (o+x.length),[⟨3,o,o+x.length⟩]))
 else if c=103 then((identH k h x o).1.ext o (o+x.length),(identH k h x o).2)
 else if c=105 then((Hd.mk (intV x o).1 h.x h.s h.e h.ns).ext o (o+x.length),(intV x o).2)
 else if c=106 then((Hd.mk h.v (unq (o+1) (x.drop 1)).1 h.s h.e h.ns).ext o (o+x.length),(unq (o+1) (x.drop 1)).2)
 else((flagH k h x).ext o (o+x.length),[])
def slice (src:Bytes)(a b:Int):Bytes:=(src.drop a.toNat).take (b.toNat-a.toNat)
def finN (src:Bytes)(k:Int)(h:Hd)(ns:List Nd)(ds:List Dg):Nd×List Dg :=
 let e:=max h.e h.s
 if k=60 then((ns.headD default).place h.s e,ds)
 else if k=46 then(.mk 46 0 (slice src h.s e) h.s e (-1) [],ds++[⟨if h.s=e then 1 else 2,h.s,e⟩])
 else(.mk k h.v h.x h.s e h.ns ns,ds)
def Tree.kind:Tree→Nat|.mk k _ _=>k
def Tree.text:Tree→Bytes|.mk _ x _=>x
def h0 (o:Int):Hd:=⟨0,[],o,-1,-1⟩
structure Kd where
 (h:Hd)(ns:List Nd)(ds:List Dg)
mutual
def nodeB (src:Bytes)(o:Nat):Tree→Nd×List Dg
 | .mk k _ cs=>finN src k (kidsB src k o (h0 o) cs).h (kidsB src k o (h0 o) cs).ns (kidsB src k o (h0 o) cs).ds
def kidsB (src:Bytes)(k:Int)(o:Nat)(h:Hd):List Tree→Kd
 | []=>⟨h,[],[]⟩
 | t::ts=>if 100≤t.kind then
   let z:=kidsB src k (o+t.text.length) (tokH k h t.kind t.text o).1 ts
   ⟨z.h,z.ns,(tokH k h t.kind t.text o).2++z.ds⟩
  else
   let z:=kidsB src k (o+(srcT t).length) (h.ext (nodeB src o t).1.s (nodeB src o t).1.e) ts
   ⟨z.h,(nodeB src o t).1::z.ns,(nodeB src o t).2++z.ds⟩
end
theorem kidsB_nil (src:Bytes)(k:Int)(o:Nat)(h:Hd):kidsB src k o h []=⟨h,[],[]⟩:=by rw[kidsB]
theorem kidsB_leaf (src:Bytes)(k:Int)(o:Nat)(h:Hd)(t:Tree)(ts:List Tree)(c:100≤t.kind):kidsB src k o h (t::ts)=⟨(kidsB src k (o+t.text.length) (tokH k h t.kind t.text o).1 ts).h,(kidsB src k (o+t.text.length) (tokH k h t.kind t.text o).1 ts).ns,(tokH k h t.kind t.text o).2++(kidsB src k (o+t.text.length) (tokH k h t.kind t.text o).1 ts).ds⟩:=by
 rw[kidsB,if_pos c]
theorem kidsB_node (src:Bytes)(k:Int)(o:Nat)(h:Hd)(t:Tree)(ts:List Tree)(c:¬100≤t.kind):kidsB src k o h (t::ts)=⟨(kidsB src k (o+(srcT t).length) (h.ext (nodeB src o t).1.s (nodeB src o t).1.e) ts).h,(nodeB src o t).1::(kidsB src k (o+(srcT t).length) (h.ext (nodeB src o t).1.s (nodeB src o t).1.e) ts).ns,(nodeB src o t).2++(kidsB src k (o+(srcT t).length) (h.ext (nodeB src o t).1.s (nodeB src o t).1.e) ts).ds⟩:=by
 rw[kidsB,if_neg c]
theorem nodeB_mk (src:Bytes)(o k:Nat)(x:Bytes)(cs:List Tree):nodeB src o (.mk k x cs)=finN src k (kidsB src k o (h0 o) cs).h (kidsB src k o (h0 o) cs).ns (kidsB src k o (h0 o) cs).ds:=by rw[nodeB]
def astB (src:Bytes)(t:Tree):Nd×List Dg:=(((nodeB src 0 t).1).place 0 src.length,(nodeB src 0 t).2)
end Pm
end

section
namespace Pm
def Inv (b o:Nat)(h:Hd):Prop:=(b:Int)≤h.s∧b≤o∧((h.e<0∧h.s=b)∨(h.s≤h.e∧h.e≤o))
theorem Inv.ext {b o:Nat}{h:Hd}(i:Inv b o h){x y:Int}(h1:(o:Int)≤x)(h2:x≤y){o':Nat}(h3:y≤o'):Inv b o' (h.ext x y):=by
 obtain⟨i1,i2,i3⟩:=i
 unfold Inv Hd.ext
 refine⟨?_,by omega,.inr ⟨?_,h3⟩⟩
 ·simp only;split<;>omega
 ·simp only;split<;>omega
theorem Inv.congr {b o:Nat}{h h':Hd}(i:Inv b o h)(hs:h'.s=h.s)(he:h'.e=h.e):Inv b o h':=by
 unfold Inv at *;rw[hs,he];exact i
theorem Inv.more {b o o':Nat}{h:Hd}(i:Inv b o h)(ho:o≤o'):Inv b o' h:=by
 obtain⟨i1,i2,i3⟩:=i
 exact⟨i1,by omega,by rcases i3 with i3|i3;exact .inl i3;exact .inr ⟨i3.1,by omega⟩⟩
theorem flagH_se (k:Int)(h:Hd)(x:Bytes):(flagH k h x).s=h.s∧(flagH k h x).e=h.e∧(flagH k h x).ns=h.ns:=by
 unfold flagH;repeat' split
 all_goals exact⟨rfl,rfl,rfl⟩
theorem identH_se (k:Int)(h:Hd)(x:Bytes)(o:Int):(identH k h x o).1.s=h.s∧(identH k h x o).1.e=h.e:=by
 unfold identH;simp only;split<;>exact⟨rfl,rfl⟩
theorem Inv.tok {b o:Nat}{h:Hd}(i:Inv b o h)(k:Int)(c:Nat)(x:Bytes):Inv b (o+x.length) (tokH k h c x o).1:=by
 have key:∀h':Hd,h'.s=h.s→h'.e=h.e→Inv b (o+x.length) (h'.ext o (o+x.length)):=fun h' h1 h2=>(i.congr h1 h2).ext (Int.le_refl _) (by omega) (by omega)
 unfold tokH
 repeat' split
 ·exact i.more (by omega)
 ·exact i.more (by omega)
 ·exact key _ rfl rfl
 ·exact key _ (identH_se ..).1 (identH_se ..).2
 ·exact key _ rfl rfl
 ·exact key _ rfl rfl
 ·exact key _ (flagH_se ..).1 (flagH_se ..).2.1
theorem inv0 (o:Nat):Inv o o (h0 o):=⟨Int.le_refl _,Nat.le_refl _,.inl ⟨show (-1:Int)<0 by decide,rfl⟩⟩
theorem okT_mk (k:Nat)(x:Bytes)(cs:List Tree):okT (.mk k x cs)=true→(100≤k→cs=[])∧(k<100→x=[])∧okL cs=true:=by
 intro h
 unfold okT at h
 simp at h
 by_cases hk:100≤k
 ·simp[hk]at h
  exact⟨fun _=>h.1,fun e=>absurd hk (by omega),h.2⟩
 ·simp[hk]at h
  exact⟨fun e=>absurd e hk,fun _=>h.1,h.2⟩
theorem okL_cons (t:Tree)(ts:List Tree):okL (t::ts)=(okT t&&okL ts):=by rw[okL]
theorem srcT_leafk {t:Tree}(h:okT t=true)(c:100≤t.kind):srcT t=t.text:=by
 cases t with
 | mk k x cs =>
  have:=(okT_mk k x cs h).1 c
  subst this
  rw[srcT,srcL,List.append_nil];rfl
theorem Nd.place_s (a b:Int)(n:Nd):(n.place a b).s=a:=by cases n;rfl
theorem Nd.place_e (a b:Int)(n:Nd):(n.place a b).e=b:=by cases n;rfl
mutual
theorem node_rg (src:Bytes):∀(o:Nat)(t:Tree),okT t=true→(o:Int)≤(nodeB src o t).1.s∧(nodeB src o t).1.s≤(nodeB src o t).1.e∧(nodeB src o t).1.e≤((o+(srcT t).length:Nat):Int)
 | o,.mk k x cs,h=>by
  obtain⟨-,h2,h3⟩:=okT_mk k x cs h
  have i:=kids_rg src k o o (h0 o) cs h3 (inv0 o)
  have hl:o+(srcL cs).length≤o+(srcT (.mk k x cs)).length:=by rw[srcT,List.length_append];omega
  rw[nodeB_mk]
  revert i
  generalize kidsB src k o (h0 o) cs=z
  intro i
  obtain⟨i1,i2,i3⟩:=i
  have key:(o:Int)≤z.h.s∧z.h.s≤max z.h.e z.h.s∧max z.h.e z.h.s≤((o+(srcT (.mk k x cs)).length:Nat):Int):=by omega
  unfold finN
  simp only
  split
  ·rw[Nd.place_s,Nd.place_e];exact key
  ·split
   ·exact key
   ·exact key
theorem kids_rg (src:Bytes)(k:Int):∀(b o:Nat)(h:Hd)(ts:List Tree),okL ts=true→Inv b o h→Inv b (o+(srcL ts).length) (kidsB src k o h ts).h
 | b,o,h,[],_,i=>by rw[kidsB_nil];exact i
 | b,o,h,t::ts,ok,i=>by
  rw[okL_cons,Bool.and_eq_true]at ok
  rw[srcL,List.length_append,←Nat.add_assoc]
  by_cases c:100≤t.kind
  ·rw[kidsB_leaf _ _ _ _ _ _ c,srcT_leafk ok.1 c]
   exact kids_rg src k b _ _ ts ok.2 (i.tok k t.kind t.text)
  ·rw[kidsB_node _ _ _ _ _ _ c]
   obtain⟨a1,a2,a3⟩:=node_rg src o t ok.1
   exact kids_rg src k b _ _ ts ok.2 (i.ext a1 a2 a3)
end
def shN (d n:Int):Int:=if n<0 then n else n+d
def Hd.sh (d:Nat)(h:Hd):Hd:=⟨h.v,h.x,h.s+d,shN d h.e,shN d h.ns⟩
def Dg.sh (d:Nat)(g:Dg):Dg:=⟨g.code,g.s+d,g.e+d⟩
mutual
def Nd.sh (d:Nat):Nd→Nd
 | .mk k v x s e ns cs=>.mk k v x (s+d) (e+d) (shN d ns) (shL d cs)
def shL (d:Nat):List Nd→List Nd
 | []=>[]
 | n::ns=>n.sh d::shL d ns
end
mutual
theorem sd_sh (d:Nat):∀n:Nd,sd (n.sh d)=sd n
 | .mk k v x s e ns cs=>by rw[Nd.sh,sd,sd,sdL_sh d cs]
theorem sdL_sh (d:Nat):∀ns:List Nd,sdL (shL d ns)=sdL ns
 | []=>by rw[shL]
 | n::ns=>by rw[shL,sdL,sdL,sd_sh d n,sdL_sh d ns]
end
theorem Nd.sh_s (d:Nat)(n:Nd):(n.sh d).s=n.s+d:=by cases n;rw[Nd.sh];rfl
theorem Nd.sh_e (d:Nat)(n:Nd):(n.sh d).e=n.e+d:=by cases n;rw[Nd.sh];rfl
theorem Nd.sh_place (d:Nat)(n:Nd)(a b:Int):(n.place a b).sh d=(n.sh d).place (a+d) (b+d):=by cases n;rw[Nd.place,Nd.sh,Nd.sh,Nd.place]
theorem Hd.sh_ext (d:Nat)(h:Hd)(a b:Int)(hb:0≤b):(h.ext a b).sh d=(h.sh d).ext (a+d) (b+d):=by
 unfold Hd.ext Hd.sh shN
 simp only[Hd.mk.injEq,true_and]
 refine⟨?_,by split<;>omega,trivial⟩
 by_cases c:h.e<0
 ·rw[if_pos c,if_pos c,if_pos c]
 ·rw[if_neg c,if_neg c,if_neg (by omega)]
theorem flagH_sh (d:Nat)(k:Int)(h:Hd)(x:Bytes):(flagH k h x).sh d=flagH k (h.sh d) x:=by
 unfold flagH
 have e1:(h.sh d).x=h.x:=rfl
 rw[e1]
 repeat' split
 all_goals rfl
theorem unq_sh (d:Nat):∀(n:Nat)(l:Bytes)(o:Int),l.length≤n→unq (o+d) l=((unq o l).1,(unq o l).2.map (Dg.sh d)):=by
 intro n
 induction n with
 | zero =>
  intro l o h
  have:l=[]:=List.length_eq_zero_iff.1 (by omega)
  subst this;simp[unq]
 | succ n ih =>
  intro l o h
  match l,h with
  | [],_=>simp[unq]
  | [c],_=>simp[unq]
  | c::e::r,h =>
   simp only[unq]
   have e1:=ih r (o+2) (by simp at h;omega)
   have e2:=ih (e::r) (o+1) (by simp at h ⊢;omega)
   rw[show o+2+(d:Int)=o+d+2 by omega]at e1
   rw[show o+1+(d:Int)=o+d+1 by omega]at e2
   by_cases hc:c=92
   ·rw[if_pos hc,if_pos hc,e1]
    simp only[Prod.mk.injEq,true_and]
    by_cases k:e=110∨e=34∨e=92
    ·rw[if_pos k,if_pos k]
    ·rw[if_neg k,if_neg k]
     simp only[List.map_cons,Dg.sh,List.cons.injEq,Dg.mk.injEq,true_and,and_true]
     omega
   ·rw[if_neg hc,if_neg hc,e2]
theorem intV_sh (d:Nat)(x:Bytes)(o:Int):intV x (o+d)=((intV x o).1,(intV x o).2.map (Dg.sh d)):=by
 unfold intV
 split
 ·simp[Dg.sh];omega
 ·simp
theorem identH_sh (d:Nat)(k:Int)(h:Hd)(x:Bytes)(o:Nat):identH k (h.sh d) x ((o+d:Nat):Int)=((identH k h x o).1.sh d,(identH k h x o).2.map (Dg.sh d)):=by
 unfold identH
 have hn:decide ((h.sh d).ns<0)=decide (h.ns<0):=by
  have:(h.sh d).ns=shN d h.ns:=rfl
  rw[this,decide_eq_decide];unfold shN;split<;>omega
 rw[hn]
 simp only[Prod.mk.injEq]
 constructor
 ·split
  ·simp only[Hd.sh,Hd.mk.injEq,true_and,shN]
   rw[if_neg (by omega)];omega
  ·rfl
 ·split
  ·simp[Dg.sh];omega
  ·rfl
theorem tokH_sh (d:Nat)(k:Int)(h:Hd)(c:Nat)(x:Bytes)(o:Nat):tokH k (h.sh d) c x ((o+d:Nat):Int)=((tokH k h c x o).1.sh d,(tokH k h c x o).2.map (Dg.sh d)):=by
 have ex:∀h':Hd,(h'.ext o (o+x.length)).sh d=(h'.sh d).ext ((o+d:Nat):Int) (((o+d:Nat):Int)+x.length):=by
  intro h'
  rw[Hd.sh_ext d h' _ _ (by omega)]
  congr 1;omega
 unfold tokH
 by_cases c1:c=101∨c=102
 ·rw[if_pos c1,if_pos c1];rfl
 rw[if_neg c1,if_neg c1]
 by_cases c2:c=108
 ·rw[if_pos c2,if_pos c2]
  by_cases c3:x=[]
  ·rw[if_pos c3,if_pos c3];simp[Dg.sh]
  ·rw[if_neg c3,if_neg c3]
   simp only[ex,List.map_cons,List.map_nil,Dg.sh,Prod.mk.injEq,List.cons.injEq,Dg.mk.injEq,true_and,and_true]
   omega
 rw[if_neg c2,if_neg c2]
 by_cases c3:c=103
 ·rw[if_pos c3,if_pos c3,identH_sh,ex]
 rw[if_neg c3,if_neg c3]
 by_cases c4:c=105
 ·rw[if_pos c4,if_pos c4]
  have:=intV_sh d x o
  rw[show ((o:Int)+(d:Int))=((o+d:Nat):Int) by omega]at this
  rw[this,ex];rfl
 rw[if_neg c4,if_neg c4]
 by_cases c5:c=106
 ·rw[if_pos c5,if_pos c5]
  have:=unq_sh d _ (x.drop 1) ((o:Int)+1) (Nat.le_refl _)
  rw[show ((o:Int)+1+(d:Int))=((o+d:Nat):Int)+1 by omega]at this
  rw[this,ex];rfl
 rw[if_neg c5,if_neg c5,ex,flagH_sh];rfl
def Agr (src src':Bytes)(o d n:Nat):Prop:=∀a b:Int,(o:Int)≤a→a≤b→b≤((o+n:Nat):Int)→slice src' (a+d) (b+d)=slice src a b
theorem Agr.cut {src src':Bytes}{o d n:Nat}(h:Agr src src' o d n){p q:Nat}(hp:p+q≤n):Agr src src' (o+p) d q:=fun a b h1 h2 h3=>h a b (by omega) h2 (by omega)
theorem shL_head (d:Nat)(ns:List Nd)(h:ns≠[]):(shL d ns).headD default=(ns.headD default).sh d:=by
 cases ns with
 | nil=>exact absurd rfl h
 | cons n ns=>rw[shL];rfl
mutual
def par60:Tree→Bool
 | .mk k _ cs=>(!(k==60) || hasNode cs)&&par60L cs
def par60L:List Tree→Bool
 | []=>true
 | t::ts=>par60 t&&par60L ts
def hasNode:List Tree→Bool
 | []=>false
 | t::ts=>decide (t.kind<100) || hasNode ts
end
theorem kids_ne (src:Bytes)(k:Int):∀(o:Nat)(h:Hd)(ts:List Tree),hasNode ts=true→(kidsB src k o h ts).ns≠[]
 | o,h,[],e=>by simp[hasNode]at e
 | o,h,t::ts,e=>by
  rw[hasNode]at e
  by_cases c:100≤t.kind
  ·rw[kidsB_leaf _ _ _ _ _ _ c]
   exact kids_ne src k _ _ ts (by simpa[show ¬t.kind<100 by omega] using e)
  ·rw[kidsB_node _ _ _ _ _ _ c];exact List.cons_ne_nil _ _
mutual
theorem node_sh (src src':Bytes)(d:Nat):∀(o:Nat)(t:Tree),okT t=true→par60 t=true→Agr src src' o d (srcT t).length→nodeB src' (o+d) t=((nodeB src o t).1.sh d,(nodeB src o t).2.map (Dg.sh d))
 | o,.mk k x cs,h,p,A=>by
  obtain⟨-,h2,h3⟩:=okT_mk k x cs h
  rw[par60,Bool.and_eq_true]at p
  have i:=kids_rg src k o o (h0 o) cs h3 (inv0 o)
  have hl:(srcL cs).length≤(srcT (.mk k x cs)).length:=by rw[srcT,List.length_append];omega
  have e:=kids_sh src src' d k o (h0 o) cs h3 p.2 (A.cut (p:=0) (by omega))
  have e0:(h0 o).sh d=h0 ((o+d:Nat):Int):=by unfold h0 Hd.sh shN;simp
  rw[e0]at e
  have hne:(k:Int)=60→(kidsB src k o (h0 o) cs).ns≠[]:=by
   intro hk
   refine kids_ne _ _ _ _ _ ?_
   have:k=60:=by omega
   simpa[this] using p.1
  rw[nodeB_mk,nodeB_mk,e]
  revert i hne
  generalize kidsB src k o (h0 o) cs=z
  intro i hne
  obtain⟨i1,i2,i3⟩:=i
  have em:max (shN d z.h.e) (z.h.s+d)=max z.h.e z.h.s+d:=by unfold shN;split<;>omega
  have b1:(o:Int)≤z.h.s∧z.h.s≤max z.h.e z.h.s∧max z.h.e z.h.s≤((o+(srcT (.mk k x cs)).length:Nat):Int):=by omega
  unfold finN
  simp only[Hd.sh,em]
  by_cases c1:(k:Int)=60
  ·rw[if_pos c1,if_pos c1,shL_head _ _ (hne c1),←Nd.sh_place]
  rw[if_neg c1,if_neg c1]
  by_cases c2:(k:Int)=46
  ·rw[if_pos c2,if_pos c2,A _ _ b1.1 b1.2.1 b1.2.2]
   simp only[Nd.sh,shL,shN,List.map_append,List.map_cons,List.map_nil,Dg.sh,Prod.mk.injEq,true_and]
   refine⟨by simp,?_⟩
   congr 2
   congr 1
   by_cases q:z.h.s=max z.h.e z.h.s
   ·rw[if_pos q,if_pos (by omega)]
   ·rw[if_neg q,if_neg (by omega)]
  ·rw[if_neg c2,if_neg c2,Nd.sh]
theorem kids_sh (src src':Bytes)(d:Nat)(k:Int):∀(o:Nat)(h:Hd)(ts:List Tree),okL ts=true→par60L ts=true→Agr src src' o d (srcL ts).length→kidsB src' k (o+d) (h.sh d) ts=⟨(kidsB src k o h ts).h.sh d,shL d (kidsB src k o h ts).ns,(kidsB src k o h ts).ds.map (Dg.sh d)⟩
 | o,h,[],_,_,_=>by rw[kidsB_nil,kidsB_nil,shL];rfl
 | o,h,t::ts,ok,p,A=>by
  rw[okL_cons,Bool.and_eq_true]at ok
  rw[par60L,Bool.and_eq_true]at p
  rw[srcL,List.length_append]at A
  by_cases c:100≤t.kind
  ·have hs:=srcT_leafk ok.1 c
   rw[hs]at A
   rw[kidsB_leaf _ _ _ _ _ _ c,kidsB_leaf _ _ _ _ _ _ c,tokH_sh,show o+d+t.text.length=o+t.text.length+d by omega,
    kids_sh src src' d k (o+t.text.length) _ ts ok.2 p.2 (A.cut (by omega))]
   simp only[List.map_append]
  ·have A1:Agr src src' o d (srcT t).length:=A.cut (p:=0) (by omega)
   rw[kidsB_node _ _ _ _ _ _ c,kidsB_node _ _ _ _ _ _ c,node_sh src src' d o t ok.1 p.1 A1]
   obtain⟨a1,a2,a3⟩:=node_rg src o t ok.1
   simp only[Nd.sh_s,Nd.sh_e]
   rw[←Hd.sh_ext d h _ _ (by omega),show o+d+(srcT t).length=o+(srcT t).length+d by omega,
    kids_sh src src' d k (o+(srcT t).length) _ ts ok.2 p.2 (A.cut (by omega))]
   simp only[List.map_append,shL]
end
end Pm
end

section
namespace Pm
theorem kidsB_app (src:Bytes)(k:Int):∀(o:Nat)(h:Hd)(xs ys:List Tree),okL xs=true →
  kidsB src k o h (xs++ys)=⟨(kidsB src k (o+(srcL xs).length) (kidsB src k o h xs).h ys).h,(kidsB src k o h xs).ns++(kidsB src k (o+(srcL xs).length) (kidsB src k o h xs).h ys).ns,(kidsB src k o h xs).ds++(kidsB src k (o+(srcL xs).length) (kidsB src k o h xs).h ys).ds⟩
 | o,h,[],ys,_=>by rw[kidsB_nil,List.nil_append,srcL];simp
 | o,h,t::ts,ys,ok=>by
  rw[okL_cons,Bool.and_eq_true]at ok
  rw[List.cons_append,srcL,List.length_append,←Nat.add_assoc]
  by_cases c:100≤t.kind
  ·rw[srcT_leafk ok.1 c,kidsB_leaf _ _ _ _ _ _ c,kidsB_leaf _ _ _ _ _ _ c,kidsB_app src k _ _ ts ys ok.2]
   simp only[List.append_assoc]
  ·rw[kidsB_node _ _ _ _ _ _ c,kidsB_node _ _ _ _ _ _ c,kidsB_app src k _ _ ts ys ok.2]
   simp only[List.append_assoc,List.cons_append]
theorem kidsB_triv (src:Bytes)(k:Int):∀(o:Nat)(h:Hd)(A:List Tok),(∀t∈A,triv t=true)→kidsB src k o h (A.map leaf)=⟨h,[],[]⟩
 | o,h,[],_=>by rw[List.map_nil,kidsB_nil]
 | o,h,t::A,hA=>by
  have ht:=hA t (List.mem_cons_self ..)
  have hk:t.1=101∨t.1=102:=by simpa[triv] using ht
  rw[List.map_cons,kidsB_leaf _ _ _ _ _ _ (show 100≤(leaf t).kind by show 100≤t.1;omega)]
  have e:tokH k h (leaf t).kind (leaf t).text o=(h,[]):=by
   show tokH k h t.1 t.2 o=_
   unfold tokH;rw[if_pos hk]
  rw[e,kidsB_triv src k _ h A fun u hu=>hA u (List.mem_cons_of_mem _ hu)]
  rfl
theorem kidsB_one (src:Bytes)(k:Int)(o:Nat)(h:Hd)(t:Tree):kidsB src k o h [t]=if 100≤t.kind then⟨(tokH k h t.kind t.text o).1,[],(tokH k h t.kind t.text o).2⟩ else⟨h.ext (nodeB src o t).1.s (nodeB src o t).1.e,[(nodeB src o t).1],(nodeB src o t).2⟩:=by
 by_cases c:100≤t.kind
 ·rw[if_pos c,kidsB_leaf _ _ _ _ _ _ c,kidsB_nil,List.append_nil]
 ·rw[if_neg c,kidsB_node _ _ _ _ _ _ c,kidsB_nil,List.append_nil]
def HA (h h':Hd):Prop:=h.v=h'.v∧h.x=h'.x∧(h.e<0↔h'.e<0)∧(h.ns<0↔h'.ns<0)
theorem HA.ext {h h':Hd}(a:HA h h'){x y x' y':Int}(hy:0≤y)(hy':0≤y'):HA (h.ext x y) (h'.ext x' y'):=by
 obtain⟨a1,a2,a3,a4⟩:=a
 refine⟨a1,a2,?_,a4⟩
 show y<0↔y'<0
 omega
theorem unq_alike:∀(n:Nat)(l:Bytes)(o o':Int),l.length≤n→(unq o l).1=(unq o' l).1∧((unq o l).2=[]→(unq o' l).2=[]):=by
 intro n
 induction n with
 | zero =>
  intro l o o' h
  have:l=[]:=List.length_eq_zero_iff.1 (by omega)
  subst this;simp[unq]
 | succ n ih =>
  intro l o o' h
  match l,h with
  | [],_=>simp[unq]
  | [c],_=>simp[unq]
  | c::e::r,h =>
   simp only[unq]
   have e1:=ih r (o+2) (o'+2) (by simp at h;omega)
   have e2:=ih (e::r) (o+1) (o'+1) (by simp at h ⊢;omega)
   by_cases hc:c=92
   ·rw[if_pos hc,if_pos hc]
    refine⟨by simp only[e1.1],?_⟩
    by_cases k:e=110∨e=34∨e=92
    ·simp only[if_pos k];exact e1.2
    ·simp only[if_neg k];intro q;cases q
   ·rw[if_neg hc,if_neg hc]
    exact⟨by simp only[e2.1],e2.2⟩
theorem tok_alike (k:Int){h h':Hd}(a:HA h h')(c:Nat)(x:Bytes)(o o':Nat)(hd:(tokH k h c x o).2=[]):(tokH k h' c x o').2=[]∧HA (tokH k h c x o).1 (tokH k h' c x o').1:=by
 have ex:∀q q':Hd,HA q q'→HA (q.ext o (o+x.length)) (q'.ext o' (o'+x.length)):=fun q q' i=>i.ext (by omega) (by omega)
 have a':=a
 obtain⟨a1,a2,a3,a4⟩:=a'
 unfold tokH at hd ⊢
 by_cases c1:c=101∨c=102
 ·rw[if_pos c1,if_pos c1];exact⟨rfl,a⟩
 rw[if_neg c1]at hd
 rw[if_neg c1,if_neg c1]
 by_cases c2:c=108
 ·rw[if_pos c2]at hd
  split at hd<;>cases hd
 rw[if_neg c2]at hd
 rw[if_neg c2,if_neg c2]
 by_cases c3:c=103
 ·rw[if_pos c3]at hd
  rw[if_pos c3,if_pos c3]
  unfold identH at hd ⊢
  simp only at hd ⊢
  refine⟨?_,ex _ _ ?_⟩
  ·split at hd
   ·cases hd
   ·rename_i q;rw[if_neg q]
  ·have hn:decide (h.ns<0)=decide (h'.ns<0):=by rw[decide_eq_decide];exact a4
   rw[hn]
   split
   ·exact⟨a1,rfl,a3,by show (o:Int)<0↔(o':Int)<0;omega⟩
   ·exact a
 rw[if_neg c3]at hd
 rw[if_neg c3,if_neg c3]
 by_cases c4:c=105
 ·rw[if_pos c4]at hd
  rw[if_pos c4,if_pos c4]
  unfold intV at hd ⊢
  split at hd
  ·cases hd
  ·rename_i q
   rw[if_neg q,if_neg q]
   exact⟨rfl,ex _ _ ⟨rfl,a2,a3,a4⟩⟩
 rw[if_neg c4]at hd
 rw[if_neg c4,if_neg c4]
 by_cases c5:c=106
 ·rw[if_pos c5]at hd
  rw[if_pos c5,if_pos c5]
  have u:=unq_alike _ (x.drop 1) ((o:Int)+1) ((o':Int)+1) (Nat.le_refl _)
  exact⟨u.2 hd,ex _ _ ⟨a1,u.1,a3,a4⟩⟩
 rw[if_neg c5,if_neg c5]
 refine⟨rfl,ex _ _ ?_⟩
 unfold flagH
 rw[a1,a2]
 repeat' split
 all_goals exact⟨(by first|rfl|assumption),(by first|rfl|assumption),a3,a4⟩
theorem TE.kind {x y:Tree}(h:TE x y):x.kind=y.kind:=by cases h;rfl
theorem TE.text {x y:Tree}(h:TE x y):x.text=y.text:=by cases h;rfl
theorem head_sd:∀{ns ms:List Nd},sdL ns=sdL ms→sd (ns.headD default)=sd (ms.headD default)
 | [],[],_=>rfl
 | [],m::ms,h=>by rw[sdL,sdL]at h;cases h
 | n::ns,[],h=>by rw[sdL,sdL]at h;cases h
 | n::ns,m::ms,h=>by rw[sdL,sdL]at h;injection h with h1 h2
theorem sd_place (n:Nd)(a b:Int):sd (n.place a b)=sd n:=by cases n;rw[Nd.place,sd,sd]
theorem sdL_app:∀a b:List Nd,sdL (a++b)=sdL a++sdL b
 | [],b=>by rw[sdL];rfl
 | n::a,b=>by rw[List.cons_append,sdL,sdL,sdL_app a b];rfl
mutual
theorem node_alike (src src':Bytes):∀{x y:Tree}(o o':Nat),TE x y→okT x=true→okT y=true→(nodeB src o x).2=[]→(nodeB src' o' y).2=[]∧sd (nodeB src o x).1=sd (nodeB src' o' y).1
 | _,_,o,o',.mk k x cs ds h,h1,h2,hd=>by
  obtain⟨-,-,g1⟩:=okT_mk k x cs h1
  obtain⟨-,-,g2⟩:=okT_mk k x ds h2
  rw[nodeB_mk]at hd ⊢
  rw[nodeB_mk]
  unfold finN at hd ⊢
  have ih:=kids_alike src src' k o o' (h0 o) (h0 o') h g1 g2 ⟨rfl,rfl,Iff.rfl,Iff.rfl⟩
  by_cases c1:(k:Int)=60
  ·simp only[if_pos c1]at hd ⊢
   obtain⟨i1,i2,i3⟩:=ih hd
   exact⟨i1,by rw[sd_place,sd_place];exact head_sd i3⟩
  ·simp only[if_neg c1]at hd ⊢
   by_cases c2:(k:Int)=46
   ·simp only[if_pos c2]at hd
    simp at hd
   ·simp only[if_neg c2]at hd ⊢
    obtain⟨i1,i2,i3⟩:=ih hd
    exact⟨i1,by rw[sd,sd,i2.1,i2.2.1,i3]⟩
theorem kids_alike (src src':Bytes)(k:Int):∀{cs ds:List Tree}(o o':Nat)(h h':Hd),LE cs ds→okL cs=true→okL ds=true→HA h h'→(kidsB src k o h cs).ds=[] →
  (kidsB src' k o' h' ds).ds=[]∧HA (kidsB src k o h cs).h (kidsB src' k o' h' ds).h∧sdL (kidsB src k o h cs).ns=sdL (kidsB src' k o' h' ds).ns
 | _,_,o,o',h,h',.nil,_,_,a,_=>by rw[kidsB_nil,kidsB_nil];exact⟨rfl,a,rfl⟩
 | _,_,o,o',h,h',.snoc cs ds A B x y hl hA hB ht,g1,g2,a,hd=>by
  rw[okL_append,okL_append,okL_one,Bool.and_eq_true,Bool.and_eq_true]at g1 g2
  have tr:∀C:List Tok,(∀t∈C,triv t=true)→okL (C.map leaf)=true:=fun C hC=>okL_leaf C fun t ht=>by
   have:=hC t ht
   have:t.1=101∨t.1=102:=by simpa[triv] using this
   omega
  rw[kidsB_app _ _ _ _ _ _ g1.1,kidsB_app _ _ _ _ _ _ (tr A hA),kidsB_triv _ _ _ _ _ hA]at hd ⊢
  rw[kidsB_app _ _ _ _ _ _ g2.1,kidsB_app _ _ _ _ _ _ (tr B hB),kidsB_triv _ _ _ _ _ hB]
  simp only[List.nil_append,List.append_eq_nil_iff]at hd ⊢
  obtain⟨i1,i2,i3⟩:=kids_alike src src' k o o' h h' hl g1.1 g2.1 a hd.1
  rw[i1,sdL_app,sdL_app,i3]
  have hd2:=hd.2
  rw[kidsB_one]at hd2 ⊢
  rw[kidsB_one,←ht.kind,←ht.text]
  by_cases c:100≤x.kind
  ·simp only[if_pos c]at hd2 ⊢
   obtain⟨j1,j2⟩:=tok_alike k i2 x.kind x.text _ (o'+(srcL ds).length+(srcL (B.map leaf)).length) hd2
   exact⟨⟨trivial,j1⟩,j2,trivial⟩
  ·simp only[if_neg c]at hd2 ⊢
   obtain⟨j1,j2⟩:=node_alike src src' (o+(srcL cs).length+(srcL (A.map leaf)).length) (o'+(srcL ds).length+(srcL (B.map leaf)).length) ht g1.2.2 g2.2.2 hd2
   have r1:=node_rg src (o+(srcL cs).length+(srcL (A.map leaf)).length) x g1.2.2
   have r2:=node_rg src' (o'+(srcL ds).length+(srcL (B.map leaf)).length) y g2.2.2
   exact⟨⟨trivial,j1⟩,i2.ext (by omega) (by omega),by rw[sdL,sdL,j2];rfl⟩
end
end Pm
end

section
namespace Pm
def Kp:G→Prop
 | .seq a b=>Kp a∧Kp b
 | .ite _ a b=>Kp a∧Kp b
 | .bra g a b=>Kp g∧Kp a∧Kp b
 | .prog g a b=>Kp g∧Kp a∧Kp b
 | .stm _ _=>False
 | .whil _ g=>Kp g
 | .call f=>f≠2
 | _=>True
def Pu:G→Prop
 | .put k=>k<100
 | .node _ _=>True
 | .wrap _ _=>True
 | .ite _ a b=>Pu a∧Pu b
 | .seq a b=>Pu b∨(Pu a∧Kp b)
 | .call f=>f≠2
 | _=>False
theorem hasNode_app (a b:List Tree):hasNode (a++b)=(hasNode a || hasNode b):=by
 induction a with
 | nil=>rw[List.nil_append,hasNode,Bool.false_or]
 | cons t a ih=>rw[List.cons_append,hasNode,hasNode,ih,Bool.or_assoc]
theorem hasNode_one {k:Nat}(x:Bytes)(cs:List Tree)(h:k<100)(l:List Tree):hasNode (l++[.mk k x cs])=true:=by
 rw[hasNode_app,hasNode]
 show (_ || (decide (k<100) || _))=true
 simp[h]
theorem runs_node (hd:∀f,f≠2→Pu (defs f)){g:G}{ts:List Tok}{cs:List Tree}{r:Bool}{ts':List Tok}{cs':List Tree}(h:Runs g ts cs r ts' cs'):(Pu g→hasNode cs'=true)∧(Kp g→hasNode cs=true→hasNode cs'=true):=by
 induction h with
 | ret b ts cs=>exact⟨nofun,fun _ h=>h⟩
 | bump ts cs=>exact⟨nofun,fun _ h=>by rw[hasNode_app,h];rfl⟩
 | put k ts cs=>exact⟨fun hk=>hasNode_one _ _ hk _,fun _ h=>by rw[hasNode_app,h];rfl⟩
 | insN ts cs t=>exact⟨nofun,fun _ _=>by
   rw[hasNode_app,hasNode]
   show (_ || (decide (0<100) || _))=true
   simp⟩
 | seq h1 h2 i1 i2 =>
  refine⟨fun p=>?_,fun k hc=>i2.2 k.2 (i1.2 k.1 hc)⟩
  rcases p with p|⟨p,q⟩
  ·exact i2.1 p
  ·exact i2.2 q (i1.1 p)
 | node cs hk h i=>exact⟨fun _=>hasNode_one _ _ hk _,fun _ _=>hasNode_one _ _ hk _⟩
 | wrap cs hk h i=>exact⟨fun _=>hasNode_one _ _ hk _,fun _ _=>hasNode_one _ _ hk _⟩
 | ite1 hc h i=>exact⟨fun p=>i.1 p.1,fun k=>i.2 k.1⟩
 | ite2 hc h i=>exact⟨fun p=>i.1 p.2,fun k=>i.2 k.2⟩
 | bra1 h1 h2 i1 i2=>exact⟨nofun,fun k hc=>i2.2 k.2.1 (i1.2 k.1 hc)⟩
 | bra2 h1 h2 i1 i2=>exact⟨nofun,fun k hc=>i2.2 k.2.2 (i1.2 k.1 hc)⟩
 | prog1 h1 hl h2 i1 i2=>exact⟨nofun,fun k hc=>i2.2 k.2.1 (i1.2 k.1 hc)⟩
 | prog2 h1 hl h2 i1 i2=>exact⟨nofun,fun k hc=>i2.2 k.2.2 (i1.2 k.1 hc)⟩
 | stm1 h1 hl ht h2 i1 i2=>exact⟨nofun,nofun⟩
 | stm2 h1 hl h2 i1 i2=>exact⟨nofun,nofun⟩
 | whil0 hc=>exact⟨nofun,fun _ h=>h⟩
 | whil1 hc h i=>exact⟨nofun,fun k=>i.2 k⟩
 | whil2 hc h h2 i1 i2=>exact⟨nofun,fun k hn=>i2.2 k (i1.2 k hn)⟩
 | call h i=>exact⟨fun p=>i.1 (hd _ p),fun p _=>i.1 (hd _ p)⟩
theorem defs_pu (f:Nat)(h:f≠2):Pu (defs f):=by
 have i:Pu gType:=⟨trivial,trivial,trivial,(by decide:(46:Nat)<100)⟩
 have p:Pu gPrimary:=⟨trivial,trivial,trivial,.inr ⟨trivial,trivial,trivial⟩,trivial,(by decide:(1:Nat)≠2),(by decide:(6:Nat)≠2),trivial,trivial,trivial,(by decide:(46:Nat)<100)⟩
 have b:∀l,Pu (gBinary l):=fun l=>.inr ⟨(by omega:11+l≠2),⟨trivial,trivial⟩,trivial⟩
 have u:Pu gUnary:=⟨trivial,trivial,.inr ⟨(by decide:(4:Nat)≠2),trivial,trivial,trivial⟩⟩
 unfold defs
 split
 ·exact i
 ·exact trivial
 ·exact absurd rfl h
 ·exact p
 ·exact⟨trivial,trivial,trivial,trivial,trivial,trivial,(by decide:(46:Nat)<100)⟩
 ·exact trivial
 ·exact b _
 ·exact b _
 ·exact b _
 ·exact b _
 ·exact b _
 ·exact u
def S60:G→Prop
 | .seq a b=>S60 a∧S60 b
 | .node k g=>S60 g∧(k=60→Pu g)
 | .wrap k g=>S60 g∧k≠60
 | .ite _ a b=>S60 a∧S60 b
 | .bra g a b=>S60 g∧S60 a∧S60 b
 | .prog g a b=>S60 g∧S60 a∧S60 b
 | .stm g b=>S60 g∧S60 b
 | .whil _ g=>S60 g
 | .put k=>k≠60∧(k<100∨k=108)
 | _=>True
theorem par60L_app (a b:List Tree):par60L (a++b)=(par60L a&&par60L b):=by
 induction a with
 | nil=>rw[List.nil_append,par60L,Bool.true_and]
 | cons t a ih=>rw[List.cons_append,par60L,par60L,ih,Bool.and_assoc]
theorem par60L_one (t:Tree):par60L [t]=par60 t:=by rw[par60L,par60L,Bool.and_true]
theorem par60_leaf (k:Nat)(x:Bytes)(h:k≠60):par60 (.mk k x [])=true:=by
 rw[par60,par60L];simp[h]
theorem par60L_leaf:∀ts:List Tok,(∀t∈ts,100≤t.1)→par60L (ts.map leaf)=true
 | [],_=>by rw[List.map_nil,par60L]
 | t::ts,h=>by
  rw[List.map_cons,par60L,par60L_leaf ts fun u hu=>h u (List.mem_cons_of_mem _ hu),leaf,par60_leaf _ _ (by have:=h t (List.mem_cons_self ..);omega)];rfl
theorem par60_put {k:Nat}{g:G}{ts:List Tok}{b:Bool}{ts1:List Tok}{ds:List Tree}(h:Runs g ts [] b ts1 ds)(p:k=60→Pu g)(e:par60L ds=true):par60 (.mk k [] ds)=true:=by
 rw[par60,e,Bool.and_true]
 by_cases hk:k=60
 ·rw[(runs_node defs_pu h).1 (p hk)];simp
 ·simp[hk]
theorem s60_gunexp:S60 gUnexp:=⟨⟨trivial,fun e=>absurd e (by decide)⟩,trivial⟩
theorem runs_par (hd:∀f,S60 (defs f)){g:G}{ts:List Tok}{cs:List Tree}{r:Bool}{ts':List Tok}{cs':List Tree}(h:Runs g ts cs r ts' cs'):S60 g→(∀t∈ts,100≤t.1)→par60L cs=true→par60L cs'=true:=by
 have mem:∀{ts ts1:List Tok},(∃k,ts1=ts.drop k)→(∀t∈ts,100≤t.1)→∀t∈ts1,100≤t.1:=by
  intro ts ts1 ⟨k,e⟩ h t ht;subst e;exact h t (List.mem_of_mem_drop ht)
 induction h with
 | ret b ts cs=>exact fun _ _ h=>h
 | bump ts cs =>
  intro s k h
  rw[←List.map_append,par60L_app,h,par60L_leaf _ fun t ht=>k t (mem_split ht)];rfl
 | put k ts cs=>intro s _ h;rw[par60L_app,h,par60L_one,par60_leaf _ _ s.1];rfl
 | insN ts cs t =>
  intro s k h
  rw[par60L_app,par60L_one,Bool.and_eq_true]at h
  rw[par60L_app,par60L,par60L_one,h.1,h.2,par60_leaf _ _ (by decide)];rfl
 | seq h1 h2 i1 i2=>exact fun s k hc=>i2 s.2 (mem (runs_drop h1) k) (i1 s.1 k hc)
 | node cs hk h i=>intro s k hc;rw[par60L_app,hc,par60L_one,par60_put h s.2 (i s.1 k (by rw[par60L]))];rfl
 | wrap cs hk h i =>
  intro s k hc
  rw[par60L_app,par60L_one,Bool.and_eq_true]at hc
  rw[par60L_app,hc.1,par60L_one,par60,i s.1 k (by rw[par60L_one];exact hc.2)]
  simp[s.2]
 | ite1 hc h i=>exact fun s=>i s.1
 | ite2 hc h i=>exact fun s=>i s.2
 | bra1 h1 h2 i1 i2=>exact fun s k hc=>i2 s.2.1 (mem (runs_drop h1) k) (i1 s.1 k hc)
 | bra2 h1 h2 i1 i2=>exact fun s k hc=>i2 s.2.2 (mem (runs_drop h1) k) (i1 s.1 k hc)
 | prog1 h1 hl h2 i1 i2=>exact fun s k hc=>i2 s.2.1 (mem (runs_drop h1) k) (i1 s.1 k hc)
 | prog2 h1 hl h2 i1 i2=>exact fun s k hc=>i2 s.2.2 (mem (runs_drop h1) k) (i1 s.1 k hc)
 | stm1 h1 hl ht h2 i1 i2 =>
  intro s k hc
  have:=i1 s.1 k hc
  rw[par60L_app,Bool.and_eq_true]at this
  exact i2 s60_gunexp (mem (runs_drop h1) k) this.1
 | stm2 h1 hl h2 i1 i2=>exact fun s k hc=>i2 s.2 (mem (runs_drop h1) k) (i1 s.1 k hc)
 | whil0 hc=>exact fun _ _ h=>h
 | whil1 hc h i=>exact fun s=>i s
 | whil2 hc h h2 i1 i2=>exact fun s k hn=>i2 s (mem (runs_drop h) k) (i1 s k hn)
 | call h i=>exact fun _=>i (hd _)
abbrev n60 {k:Nat}{g:G}(h:S60 g)(hk:k≠60):S60 (.node k g):=⟨h,fun e=>absurd e hk⟩
theorem s_expect (w:Bytes):S60 (gExpect w):=⟨trivial,(by decide:(108:Nat)≠60∧((108:Nat)<100∨(108:Nat)=108))⟩
theorem s_ident:S60 gIdent:=⟨trivial,(by decide:(108:Nat)≠60∧((108:Nat)<100∨(108:Nat)=108))⟩
theorem s_opt (w:Bytes){g:G}(h:S60 g):S60 (gOpt w g):=⟨⟨trivial,h⟩,(by decide:(0:Nat)≠60∧((0:Nat)<100∨(0:Nat)=108))⟩
theorem s_if (ws:List Bytes){g:G}(h:S60 g):S60 (gIf ws g):=⟨⟨trivial,h⟩,trivial⟩
theorem s_list (cl:Bytes){el:G}(h:S60 el):S60 (gList cl el):=⟨⟨h,n60 trivial (by decide),trivial,s_expect _⟩,s_expect _⟩
theorem s_seg (ty:Bool):S60 (gSeg ty):=n60 ⟨s_ident,by cases ty<;>first|trivial|exact s_if _ (s_list _ trivial)⟩ (by decide)
theorem s_path (ty:Bool):S60 (gPath ty):=n60 ⟨s_seg ty,trivial,s_seg ty⟩ (by decide)
theorem s_type:S60 gType:=⟨n60 ⟨trivial,s_if _ trivial,trivial⟩ (by decide),n60 ⟨trivial,s_expect _,s_list _ trivial,s_opt _ trivial⟩ (by decide),s_path _,(by decide:(46:Nat)≠60∧((46:Nat)<100∨(46:Nat)=108))⟩
theorem s_typeParam:S60 gTypeParam:=⟨n60 ⟨trivial,s_if _ ⟨s_path _,trivial,s_path _⟩⟩ (by decide),trivial⟩
theorem s_typeParams:S60 gTypeParams:=n60 (s_if _ (s_list _ s_typeParam)) (by decide)
theorem s_param:S60 gParam:=⟨n60 ⟨trivial,s_opt _ trivial⟩ (by decide),trivial⟩
theorem s_params (cl:Bytes):S60 (gParams cl):=n60 (s_list _ s_param) (by decide)
theorem s_function (nb:Bool):S60 (gFunction nb):=⟨s_ident,s_typeParams,s_expect _,s_params _,s_opt _ trivial,by cases nb<;>first|trivial|exact⟨⟨trivial,(by decide:(0:Nat)≠60∧((0:Nat)<100∨(0:Nat)=108))⟩,trivial⟩⟩
theorem s_data (st:Bool):S60 (gData st):=⟨s_ident,s_typeParams,s_expect _,s_list _ ⟨by cases st<;>first|exact n60 ⟨trivial,s_if _ (s_list _ trivial)⟩ (by decide)|exact n60 ⟨trivial,s_expect _,trivial⟩ (by decide),trivial⟩⟩
theorem s_assoc:S60 gAssoc:=n60 ⟨trivial,s_ident,s_opt _ trivial,s_expect _⟩ (by decide)
theorem s_members:S60 gMembers:=⟨s_expect _,⟨n60 ⟨trivial,s_function _,trivial⟩ (by decide),s_assoc⟩,s_expect _⟩
theorem s_impl:S60 gImpl:=⟨s_typeParams,trivial,⟨⟨trivial,trivial⟩,trivial⟩,s_members⟩
theorem s_use:S60 gUse:=⟨⟨n60 ⟨n60 s_ident (by decide),trivial,trivial,n60 s_ident (by decide),trivial⟩ (by decide),⟨trivial,trivial⟩,s_if _ s_ident⟩,s_expect _⟩
theorem s_const:S60 gConst:=⟨s_ident,s_expect _,trivial,s_expect _,trivial,s_expect _⟩
theorem s_macro:S60 gMacro:=⟨s_ident,s_expect _,s_params _,s_expect _,trivial,s_expect _⟩
theorem s_body (k:Nat):S60 (gBody k):=by
 unfold gBody
 split
 ·exact s_use
 ·exact s_function _
 ·exact s_data _
 ·exact s_data _
 ·exact⟨s_ident,s_members⟩
 ·exact s_impl
 ·exact s_const
 ·exact s_macro
theorem s_itemAs {k:Nat}(h:k≠60):S60 (gItemAs k):=n60 ⟨s_if _ trivial,trivial,s_body k⟩ h
theorem s_skip:S60 gSkip:=n60 ⟨trivial,trivial⟩ (by decide)
theorem s_item:S60 gItem:=⟨s_itemAs (by decide),s_itemAs (by decide),s_itemAs (by decide),s_itemAs (by decide),s_itemAs (by decide),s_itemAs (by decide),s_itemAs (by decide),s_itemAs (by decide),s_skip⟩
theorem s_file:S60 gFile:=⟨s_item,trivial⟩
theorem s_block:S60 gBlock:=n60 ⟨s_expect _,⟨trivial,trivial,(by decide:(0:Nat)≠60∧((0:Nat)<100∨(0:Nat)=108))⟩,s_expect _⟩ (by decide)
theorem s_stm (bl:Bool){g:G}(h:S60 g):S60 (gStm bl g):=⟨h,trivial,⟨⟨⟨trivial,trivial,s_expect _⟩,by decide⟩,trivial⟩,⟨⟨trivial,by cases bl<;>first|trivial|exact(by decide:(108:Nat)≠60∧((108:Nat)<100∨(108:Nat)=108))⟩,by decide⟩,trivial⟩
theorem s_statement:S60 gStatement:=⟨⟨n60 ⟨trivial,trivial,s_opt _ trivial,s_expect _,trivial,s_expect _⟩ (by decide),trivial⟩,⟨n60 ⟨trivial,trivial,trivial⟩ (by decide),trivial⟩,⟨n60 ⟨trivial,⟨(by decide:(0:Nat)≠60∧((0:Nat)<100∨(0:Nat)=108)),trivial⟩,s_expect _⟩ (by decide),trivial⟩,s_stm _ trivial,s_stm _ trivial⟩
theorem s_binary (l:Nat):S60 (gBinary l):=⟨trivial,⟨⟨⟨trivial,trivial⟩,by decide⟩,trivial⟩,trivial⟩
theorem s_args:S60 gArgs:=⟨trivial,s_list _ trivial⟩
theorem s_postfix:S60 gPostfix:=⟨⟨s_args,by decide⟩,⟨⟨trivial,trivial,s_args⟩,by decide⟩,⟨⟨trivial,s_ident⟩,by decide⟩⟩
theorem s_unary:S60 gUnary:=⟨n60 ⟨trivial,trivial⟩ (by decide),n60 ⟨trivial,s_if _ trivial,trivial⟩ (by decide),trivial,s_postfix⟩
theorem s_arm:S60 gArm:=⟨n60 ⟨trivial,s_expect _,trivial⟩ (by decide),trivial⟩
theorem s_match:S60 gMatch:=n60 ⟨trivial,trivial,s_expect _,s_list _ s_arm⟩ (by decide)
theorem s_init:S60 gInit:=⟨n60 ⟨trivial,s_expect _,trivial⟩ (by decide),trivial⟩
theorem s_lit:S60 gLit:=n60 ⟨trivial,s_path _,s_expect _,s_list _ s_init⟩ (by decide)
theorem s_lambda:S60 gLambda:=n60 ⟨⟨⟨trivial,n60 trivial (by decide)⟩,trivial,s_params _⟩,trivial⟩ (by decide)
theorem s_paren:S60 gParen:=⟨⟨trivial,trivial,s_expect _⟩,fun _=>.inl (.inr ⟨(by decide:(10:Nat)≠2),trivial,trivial⟩)⟩
theorem s_primary:S60 gPrimary:=⟨n60 trivial (by decide),n60 trivial (by decide),n60 trivial (by decide),⟨s_path _,⟨⟨trivial,s_args⟩,by decide⟩,trivial⟩,s_paren,trivial,trivial,s_match,s_lit,s_lambda,(by decide:(46:Nat)≠60∧((46:Nat)<100∨(46:Nat)=108))⟩
theorem s_ifExpr:S60 gIfExpr:=n60 ⟨trivial,trivial,trivial,s_opt _ ⟨trivial,trivial⟩⟩ (by decide)
theorem s_pattern:S60 gPattern:=⟨n60 ⟨trivial,s_ident⟩ (by decide),n60 trivial (by decide),n60 trivial (by decide),n60 ⟨s_path _,s_if _ (s_list _ trivial)⟩ (by decide),n60 trivial (by decide),n60 trivial (by decide),(by decide:(46:Nat)≠60∧((46:Nat)<100∨(46:Nat)=108))⟩
theorem defs_s60 (f:Nat):S60 (defs f):=by
 unfold defs
 split
 ·exact s_type
 ·exact s_block
 ·exact s_statement
 ·exact s_primary
 ·exact s_pattern
 ·exact s_ifExpr
 ·exact s_binary _
 ·exact s_binary _
 ·exact s_binary _
 ·exact s_binary _
 ·exact s_binary _
 ·exact s_unary
theorem file_par {ts:List Tok}{es:List Tree}{t':List Tok}(h:Runs gFile ts [] false t' es)(hk:∀t∈ts,100≤t.1):par60L es=true:=runs_par defs_s60 h s_file hk (by rw[par60L])
mutual
def lvT:Tree→List Tok
 | .mk k x cs=>if 100≤k then(if x=[] then[] else[(k,x)]) else lvL cs
def lvL:List Tree→List Tok
 | []=>[]
 | t::ts=>lvT t++lvL ts
end
theorem lvT_node {k:Nat}(h:k<100)(x:Bytes)(cs:List Tree):lvT (.mk k x cs)=lvL cs:=by rw[lvT,if_neg (by omega)]
mutual
theorem node_good (src:Bytes):∀(o:Nat)(t:Tree),okT t=true→t.kind<100→(nodeB src o t).2=[]→∀u∈lvT t,u.1≠108
 | o,.mk k x cs,ok,hk,h=>by
  have hk:k<100:=hk
  have ok:=(okT_mk k x cs ok).2.2
  rw[lvT_node hk]
  rw[nodeB_mk]at h
  refine kids_good src k o (h0 o) cs ok ?_
  unfold finN at h
  split at h
  ·exact h
  ·split at h
   ·simp at h
   ·exact h
theorem kids_good (src:Bytes)(k:Int):∀(o:Nat)(h:Hd)(ts:List Tree),okL ts=true→(kidsB src k o h ts).ds=[]→∀u∈lvL ts,u.1≠108
 | o,h,[],_,_=>by rw[lvL];nofun
 | o,h,t::ts,ok,e=>by
  rw[okL_cons,Bool.and_eq_true]at ok
  rw[lvL]
  intro u hu
  by_cases c:100≤t.kind
  ·rw[kidsB_leaf _ _ _ _ _ _ c,List.append_eq_nil_iff]at e
   rcases List.mem_append.1 hu with m|m
   ·cases t with
    | mk kk x c' =>
     have c:100≤kk:=c
     rw[lvT,if_pos c]at m
     split at m
     ·cases m
     ·rename_i hx
      cases List.mem_singleton.1 m
      intro q
      have q:kk=108:=q
      subst q
      have e1:(tokH k h 108 x o).2=[]:=e.1
      unfold tokH at e1
      simp[hx]at e1
   ·exact kids_good src k _ _ ts ok.2 e.2 u m
  ·rw[kidsB_node _ _ _ _ _ _ c,List.append_eq_nil_iff]at e
   rcases List.mem_append.1 hu with m|m
   ·exact node_good src _ t ok.1 (by omega) e.1 u m
   ·exact kids_good src k _ _ ts ok.2 e.2 u m
end
end Pm
end

section
namespace ParF
open Go Go.Abs Go.Proofs Pm AstF
theorem name_all:((List.range 100).all fun k=>match den C 25 174 [I k] [] with|some (.bool b,_)=>b==hasName k|_=>false)=true:=by kernel_rfl
theorem name_run {k:Nat}(hk:k<100){n:Nat}(hn:25≤n)(s:Heap):aCall Tryz.prog (den C n) 174 [I k] s=some (.bool (hasName k),s):=by
 have h:=List.all_eq_true.1 name_all k (List.mem_range.2 hk)
 obtain⟨v,s1,h1,h2⟩:∃b s1,den C 25 174 [I k] []=some (.bool b,s1)∧(b==hasName k)=true:=by
  revert h
  cases hd:den C 25 174 [I k] [] with
  | none=>intro h;cases h
  | some r =>
   obtain⟨v,s1⟩:=r
   cases v with
   | bool b=>intro h;exact⟨b,s1,rfl,h⟩
   | _=>intro h;cases h
 have e:v=hasName k:=by simpa using h2
 subst e
 have:=den_mono C hn _ _ _ _ h1
 have he:enterable Tryz.prog 174=true:=en174
 simp[aCall,he,this,noRefL,AV.noRef]
end ParF
end

section
namespace ParF
open Go Go.Abs Go.Proofs Pm AstF
mutual
inductive IsN:Nd→AV→Prop
 | mk (k v:Int) (x:Bytes) (s e ns:Int) (cs:List Nd) (ch:AV) (h:IsNC cs ch):IsN (.mk k v x s e ns cs) (.agg [I k,I v,.str x,I s,I e,I ns,ch])
inductive IsNC:List Nd→AV→Prop
 | nil:IsNC [] .nils
 | sl (cs:List Nd) (rows:List AV) (h:IsNL cs rows):IsNC cs (.sl 27 7 rows .sh)
inductive IsNL:List Nd→List AV→Prop
 | nil:IsNL [] []
 | cons (t:Nd) (a:AV) (cs:List Nd) (rows:List AV) (h:IsN t a) (h':IsNL cs rows):IsNL (t::cs) (a::rows)
end
mutual
theorem IsN.noRef:∀{t:Nd}{a:AV},IsN t a→a.noRef=true
 | _,_,.mk k v x s e ns cs ch h=>by
  have:=IsNC.noRef h
  rw[noRef_agg]
  simp only[noRefL_cons,noRefL_nil,noRef_int,noRef_str,this,Bool.and_self]
theorem IsNC.noRef:∀{cs:List Nd}{ch:AV},IsNC cs ch→ch.noRef=true
 | _,_,.nil=>by simp[AV.noRef]
 | _,_,.sl cs rows h=>by rw[noRef_sl];exact IsNL.noRef h
theorem IsNL.noRef:∀{cs:List Nd}{rows:List AV},IsNL cs rows→noRefL rows=true
 | _,_,.nil=>noRefL_nil
 | _,_,.cons t a cs rows h k=>by rw[noRefL_cons,IsN.noRef h,IsNL.noRef k];rfl
end
theorem IsNC.strip {cs:List Nd}{ch:AV}(h:IsNC cs ch):ch.strip=ch∧plainC ch=true∧ch.noRef=true:=by
 refine⟨?_,?_,h.noRef⟩
 ·cases h<;>rfl
 ·cases h<;>rfl
theorem IsN.cells {t:Nd}{a:AV}(h:IsN t a):a.cells.length=7∧a.cells.map AV.strip=a.cells∧a.cells.all plainC=true∧a=.agg a.cells:=by
 cases h with
 | mk k v x s e ns cs ch h =>
  obtain⟨h1,h2,h3⟩:=h.strip
  refine⟨rfl,?_,?_,rfl⟩
  ·show [(I k).strip,(I v).strip,(AV.str x).strip,(I s).strip,(I e).strip,(I ns).strip,ch.strip]=_;rw[h1];rfl
  ·show (true&&(true&&(true&&(true&&(true&&(true&&(plainC ch&&true)))))))=true;rw[h2];rfl
theorem IsNL.length:∀{cs:List Nd}{rows:List AV},IsNL cs rows→rows.length=cs.length
 | _,_,.nil=>rfl
 | _,_,.cons _ _ _ _ _ t=>by rw[List.length_cons,List.length_cons,IsNL.length t]
theorem IsNL.append:∀{cs ds:List Nd}{rows rows':List AV},IsNL cs rows→IsNL ds rows'→IsNL (cs++ds) (rows++rows')
 | _,_,_,_,.nil,k=>k
 | _,_,_,_,.cons _ _ _ _ h t,k=>.cons _ _ _ _ h (IsNL.append t k)
theorem IsNL.snoc {cs:List Nd}{rows:List AV}{t:Nd}{a:AV}(h:IsNL cs rows)(k:IsN t a):IsNL (cs++[t]) (rows++[a]):=h.append (.cons _ _ _ _ k .nil)
theorem IsNL.cells:∀{cs:List Nd}{rows:List AV},IsNL cs rows→(cellsOf rows).length=7*cs.length∧(cellsOf rows).map AV.strip=cellsOf rows∧(cellsOf rows).all plainC=true∧chunks 7 cs.length (cellsOf rows)=rows
 | _,_,.nil=>⟨rfl,rfl,rfl,rfl⟩
 | _,_,.cons t a cs rows h k=>by
  obtain⟨h1,h2,h3,h4⟩:=h.cells
  obtain⟨k1,k2,k3,k4⟩:=k.cells
  have e:cellsOf (a::rows)=a.cells++cellsOf rows:=rfl
  rw[e]
  refine⟨by rw[List.length_append,h1,k1,List.length_cons];omega,by rw[List.map_append,h2,k2],by rw[List.all_append,h3,k3];rfl,?_⟩
  rw[List.length_cons,chunks,if_neg (by decide),List.take_append_of_le_length (by omega),List.take_of_length_le (by omega),List.drop_append_of_le_length (by omega),List.drop_of_length_le (by omega),List.nil_append,k4,←h4]
def hrow (k:Int)(h:Hd)(ch:AV):List AV:=[I k,I h.v,.str h.x,I h.s,I h.e,I h.ns,ch]
theorem set_same {s:Heap}{i:Nat}{v:TypeId×List AV}(h:s[i]?=some v):s.set i v=s:=by
 obtain⟨h1,h2⟩:=List.getElem?_eq_some_iff.1 h
 rw[←h2];exact List.set_getElem_self h1
theorem set_set (s:Heap)(i:Nat)(v w:TypeId×List AV):(s.set i v).set i w=s.set i w:=by simp
theorem stH {s:Heap}{H:Nat}{k:Int}{h:Hd}{ch:AV}(hh:s[H]?=some (27,hrow k h ch)){o:Nat}{v:AV}(hs:v.solid=true)(h1:v.cells.length=1)(ho:o<7):aStore 1 s (.ref H o) v=some (s.set H (27,setL (hrow k h ch) o (stCells v))):=st hh (by decide) hs h1 (by show o+1≤7;omega)
theorem ext_run {s:Heap}{H:Nat}{k:Int}{h:Hd}{ch:AV}(hs:s[H]?=some (27,hrow k h ch))(a b:Int)(n:Nat):aCall Tryz.prog (den C (n+1)) 53 [.ref H 0,I a,I b] s=some (.tup [],s.set H (27,hrow k (h.ext a b) ch)):=by
 have l4:aLoad false false 1 (.ref H 4) s=some (I h.e,s):=ld (o:=4) hs (by decide) rfl (by decide)
 have s3:aStore 1 s (.ref H 3) (I a)=some (s.set H (27,hrow k ⟨h.v,h.x,a,h.e,h.ns⟩ ch)):=stH hs rfl rfl (by decide)
 have s4:aStore 1 s (.ref H 4) (I b)=some (s.set H (27,hrow k ⟨h.v,h.x,h.s,b,h.ns⟩ ch)):=stH hs rfl rfl (by decide)
 have s4':aStore 1 (s.set H (27,hrow k ⟨h.v,h.x,a,h.e,h.ns⟩ ch)) (.ref H 4) (I b)=some ((s.set H (27,hrow k ⟨h.v,h.x,a,h.e,h.ns⟩ ch)).set H (27,hrow k ⟨h.v,h.x,a,b,h.ns⟩ ch)):=stH (gset_eq hs) rfl rfl (by decide)
 rw[callR en53 (ref1 ..),F53_eq,F53]
 by_cases c:h.e<0
 ·have:h.ext a b=⟨h.v,h.x,a,b,h.ns⟩:=by unfold Hd.ext;rw[if_pos c]
  rw[this]
  simp only[↓sW,sL,l4,c,s3,F53_J0,s4']
  simp[upds_at,upd_at,argEnv,aNilCheck,aAddr,s4',oh,mp,sto]
 ·have:h.ext a b=⟨h.v,h.x,h.s,b,h.ns⟩:=by unfold Hd.ext;rw[if_neg c]
  rw[this]
  simp only[↓sW,sL,l4,c,F53_J0,s4]
  simp[upds_at,upd_at,argEnv,aNilCheck,aAddr,s4,oh,mp,sto]
end ParF
end

section
namespace ParF
open Go Go.Abs Go.Proofs Pm AstF
theorem wrap_bv (x:BitVec 64):IntKind.i64.wrap ((x.toNat:Nat):Int)=x.toInt:=by
 have h:=x.isLt
 have e1:(2:Int) ^ 64=18446744073709551616:=(rfl)
 have e2:(2:Int) ^ (64-1)=9223372036854775808:=(rfl)
 have e3:(2:Nat) ^ 64=18446744073709551616:=(rfl)
 simp only[IntKind.wrap,IntKind.signed,IntKind.bits,e1,e2,Bool.true_and,decide_eq_true_eq,BitVec.toInt,e3]
 rw[e3]at h
 split<;>split<;>omega
theorem bin_or (t:TypeId)(a b:Int):aBin Tryz.prog .or t (I a) (I b)=some (I (orI a b)):=by
 rw[bin_int]
 show some (AV.int .i64 (IntKind.i64.wrap _))=_
 congr 2
 exact wrap_bv _
theorem beq_t {x w:List UInt8}(h:x=w):(x==w)=true:=by simp[h]
theorem beq_f {x w:List UInt8}(h:¬x=w):(x==w)=false:=by simp[h]
theorem beqi_t {x w:Int}(h:x=w):(x==w)=true:=by simp[h]
theorem beqi_f {x w:Int}(h:¬x=w):(x==w)=false:=by simp[h]
theorem flag_run {s:Heap}{H:Nat}{k:Int}{h:Hd}{ch:AV}(hs:s[H]?=some (27,hrow k h ch))(x:Bytes)(n:Nat):aCall Tryz.prog (den C (n+1)) 115 [.ref H 0,.str x] s=some (.tup [],s.set H (27,hrow k (flagH k h x) ch)):=by
 have l0:aLoad false false 1 (.ref H 0) s=some (I k,s):=ld (o:=0) hs (by decide) rfl (by decide)
 have l1:aLoad false false 1 (.ref H 1) s=some (I h.v,s):=ld (o:=1) hs (by decide) rfl (by decide)
 have l2:aLoad false false 1 (.ref H 2) s=some (.str h.x,s):=ld (o:=2) hs (by decide) rfl (by decide)
 have s1:∀v:Int,aStore 1 s (.ref H 1) (I v)=some (s.set H (27,hrow k ⟨v,h.x,h.s,h.e,h.ns⟩ ch)):=fun v=>stH hs rfl rfl (by decide)
 have s2:∀z:Bytes,aStore 1 s (.ref H 2) (.str z)=some (s.set H (27,hrow k ⟨h.v,z,h.s,h.e,h.ns⟩ ch)):=fun z=>stH hs rfl rfl (by decide)
 rw[callR en115 (ref1 ..),F115_eq,F115]
 unfold flagH
 by_cases c1:x=wPub
 ·have e1:(x==[112,117,98])=true:=beq_t c1
  rw[if_pos c1]
  simp only[↓sW,sL,e1,l1,bin_or,s1]
 have e1:(x==[112,117,98])=false:=beq_f c1
 rw[if_neg c1]
 by_cases c2:x=wMut
 ·have e2:(x==[109,117,116])=true:=beq_t c2
  rw[if_pos c2]
  simp only[↓sW,sL,e1,e2,l1,bin_or,s1]
 have e2:(x==[109,117,116])=false:=beq_f c2
 rw[if_neg c2]
 by_cases c3:x=wStar
 ·have e3:(x==[42])=true:=beq_t c3
  have nt:¬x=wTrue:=by rw[c3];decide
  have e4:(x==[116,114,117,101])=false:=beq_f nt
  by_cases k2:k=2
  ·have f2:=beqi_t k2
   rw[if_pos ⟨c3,k2⟩]
   simp only[↓sW,sL,e1,e2,e3,l0,l1,f2,bin_or,s1]
  ·have f2:=beqi_f k2
   rw[if_neg (fun q=>k2 q.2),if_neg (fun q=>nt q.1)]
   by_cases k9:k=39
   ·have f9:=beqi_t k9
    by_cases kx:h.x=[]
    ·have fx:=beq_t kx
     rw[if_pos ⟨.inl k9,kx⟩]
     simp only[↓sW,sL,e1,e2,e3,e4,l0,l1,l2,f2,f9,fx,s2]
    ·have fx:=beq_f kx
     rw[if_neg (fun q=>kx q.2)]
     simp only[↓sW,sL,e1,e2,e3,e4,l0,l1,l2,f2,f9,fx]
     rw[set_same hs]
   ·have f9:=beqi_f k9
    by_cases k10:k=40
    ·have f10:=beqi_t k10
     by_cases kx:h.x=[]
     ·have fx:=beq_t kx
      rw[if_pos ⟨.inr k10,kx⟩]
      simp only[↓sW,sL,e1,e2,e3,e4,l0,l1,l2,f2,f9,f10,fx,s2]
     ·have fx:=beq_f kx
      rw[if_neg (fun q=>kx q.2)]
      simp only[↓sW,sL,e1,e2,e3,e4,l0,l1,l2,f2,f9,f10,fx]
      rw[set_same hs]
    ·have f10:=beqi_f k10
     rw[if_neg (fun q=>by rcases q.1 with q|q;exact k9 q;exact k10 q)]
     simp only[↓sW,sL,e1,e2,e3,e4,l0,l1,l2,f2,f9,f10]
     rw[set_same hs]
 ·have e3:(x==[42])=false:=beq_f c3
  rw[if_neg (fun q=>c3 q.1)]
  have tail:(x==[116,114,117,101])=false∨((x==[116,114,117,101])=true∧(k==28)=false)→¬(x=wTrue∧k=28):=by
   rintro(q|⟨_,q⟩) ⟨r1,r2⟩
   ·rw[beq_t r1]at q;cases q
   ·rw[beqi_t r2]at q;cases q
  by_cases c4:x=wTrue
  ·have e4:(x==[116,114,117,101])=true:=beq_t c4
   by_cases k28:k=28
   ·have f28:=beqi_t k28
    rw[if_pos ⟨c4,k28⟩]
    simp only[↓sW,sL,e1,e2,e3,e4,l0,l1,f28,s1]
   ·have f28:=beqi_f k28
    rw[if_neg (tail (.inr ⟨e4,f28⟩))]
    by_cases k9:k=39
    ·have f9:=beqi_t k9
     by_cases kx:h.x=[]
     ·have fx:=beq_t kx
      rw[if_pos ⟨.inl k9,kx⟩]
      simp only[↓sW,sL,e1,e2,e3,e4,l0,l1,l2,f28,f9,fx,s2]
     ·have fx:=beq_f kx
      rw[if_neg (fun q=>kx q.2)]
      simp only[↓sW,sL,e1,e2,e3,e4,l0,l1,l2,f28,f9,fx]
      rw[set_same hs]
    ·have f9:=beqi_f k9
     by_cases k10:k=40
     ·have f10:=beqi_t k10
      by_cases kx:h.x=[]
      ·have fx:=beq_t kx
       rw[if_pos ⟨.inr k10,kx⟩]
       simp only[↓sW,sL,e1,e2,e3,e4,l0,l1,l2,f28,f9,f10,fx,s2]
      ·have fx:=beq_f kx
       rw[if_neg (fun q=>kx q.2)]
       simp only[↓sW,sL,e1,e2,e3,e4,l0,l1,l2,f28,f9,f10,fx]
       rw[set_same hs]
     ·have f10:=beqi_f k10
      rw[if_neg (fun q=>by rcases q.1 with q|q;exact k9 q;exact k10 q)]
      simp only[↓sW,sL,e1,e2,e3,e4,l0,l1,l2,f28,f9,f10]
      rw[set_same hs]
  ·have e4:(x==[116,114,117,101])=false:=beq_f c4
   rw[if_neg (tail (.inl e4))]
   by_cases k9:k=39
   ·have f9:=beqi_t k9
    by_cases kx:h.x=[]
    ·have fx:=beq_t kx
     rw[if_pos ⟨.inl k9,kx⟩]
     simp only[↓sW,sL,e1,e2,e3,e4,l0,l1,l2,f9,fx,s2]
    ·have fx:=beq_f kx
     rw[if_neg (fun q=>kx q.2)]
     simp only[↓sW,sL,e1,e2,e3,e4,l0,l1,l2,f9,fx]
     rw[set_same hs]
   ·have f9:=beqi_f k9
    by_cases k10:k=40
    ·have f10:=beqi_t k10
     by_cases kx:h.x=[]
     ·have fx:=beq_t kx
      rw[if_pos ⟨.inr k10,kx⟩]
      simp only[↓sW,sL,e1,e2,e3,e4,l0,l1,l2,f9,f10,fx,s2]
     ·have fx:=beq_f kx
      rw[if_neg (fun q=>kx q.2)]
      simp only[↓sW,sL,e1,e2,e3,e4,l0,l1,l2,f9,f10,fx]
      rw[set_same hs]
    ·have f10:=beqi_f k10
     rw[if_neg (fun q=>by rcases q.1 with q|q;exact k9 q;exact k10 q)]
     simp only[↓sW,sL,e1,e2,e3,e4,l0,l1,l2,f9,f10]
     rw[set_same hs]
end ParF
end

section
namespace ParF
open Go Go.Abs Go.Proofs Pm AstF
def _root_.Pm.Dg.row (g:Dg):List AV:=[I g.code,I 0,I g.s,I g.e,.str []]
def dgv (ds:List Dg)(q:Option Nat):AV:=match q with
 | none=>.nils
 | some Q=>.rs 61 5 Q 0 ds.length
structure BS (src:Bytes)(B:Nat)(s:Heap)(off:Nat)(ds:List Dg)(q:Option Nat):Prop where
 par:s[B]?=some (70,[.str src,I off,dgv ds q])
 nil:q=none→ds=[]
 row:∀Q,q=some Q→Q≠B∧ds≠[]∧∃junk,s[Q]?=some (61,ds.flatMap Dg.row++junk)
def JB (B:Nat)(q:Option Nat):List Nat:=B::q.toList
theorem BS.lt {src:Bytes}{B:Nat}{s:Heap}{off:Nat}{ds:List Dg}{q:Option Nat}(h:BS src B s off ds q):∀x∈JB B q,x<s.length:=by
 intro x hx
 rcases List.mem_cons.1 hx with rfl|hx
 ·exact glt h.par
 ·rw[Option.mem_toList]at hx
  obtain⟨_,_,_,k⟩:=h.row x hx
  exact glt k
theorem BS.frame {src:Bytes}{B:Nat}{s s':Heap}{off:Nat}{ds:List Dg}{q:Option Nat}(h:BS src B s off ds q)(k:∀x∈JB B q,s'[x]?=s[x]?):BS src B s' off ds q:=by
 refine⟨(k B (List.mem_cons_self ..)).trans h.par,h.nil,fun Q hq=>?_⟩
 obtain⟨a,b,j,c⟩:=h.row Q hq
 exact⟨a,b,j,(k Q (List.mem_cons_of_mem _ (by rw[Option.mem_toList];exact hq))).trans c⟩
theorem BS.set {src:Bytes}{B:Nat}{s:Heap}{off:Nat}{ds:List Dg}{q:Option Nat}(h:BS src B s off ds q){H:Nat}(hH:H∉JB B q)(v:TypeId×List AV):BS src B (s.set H v) off ds q :=
 h.frame fun x hx=>gset_ne (fun e=>hH (by rw[e];exact hx))
theorem BS.app {src:Bytes}{B:Nat}{s:Heap}{off:Nat}{ds:List Dg}{q:Option Nat}(h:BS src B s off ds q)(v:TypeId×List AV):BS src B (s++[v]) off ds q :=
 h.frame fun x hx=>gapp_old (h.lt x hx)
theorem Ex.setA (s:Heap)(J:List Nat){H:Nat}(hH:H∈J)(v:TypeId×List AV):Ex s (s.set H v) J J :=
 ⟨by rw[set_length];exact Nat.le_refl _,fun x _ hj=>gset_ne (fun e=>hj (by rw[←e];exact hH)),fun x hx=>.inl hx⟩
theorem Ex.consA {s s':Heap}{J J':List Nat}(h:Ex s s' J J')(H:Nat):Ex s s' (H::J) (H::J') :=
 ⟨h.len,fun x hx hj=>h.fr x hx (fun k=>hj (List.mem_cons_of_mem _ k)),fun x hx=>by
  rcases List.mem_cons.1 hx with rfl|hx
  ·exact .inl (List.mem_cons_self ..)
  ·rcases h.sub x hx with k|k
   ·exact .inl (List.mem_cons_of_mem _ k)
   ·exact .inr k⟩
theorem Ex.notin' {s s':Heap}{J J':List Nat}(h:Ex s s' J J'){x:Nat}(hx:x<s.length)(hj:x∉J):x∉J':=fun k=>by
 rcases h.sub x k with k|k
 ·exact hj k
 ·omega
theorem under28:Tryz.prog.underlying 28=some (.slice 61):=by kernel_rfl
theorem info61':(Tryz.prog.info? 61).map (fun i=>(i.size,i.zero.map (·.cells.size),decide (i.bytes≤48)))=some (5,some 5,true):=by kernel_rfl
theorem info61:∃i z,Tryz.prog.info? 61=some i∧i.size=5∧i.zero=some z∧z.cells.size=5∧i.bytes≤48:=by
 have h:=info61'
 rw[Option.map_eq_some_iff]at h
 obtain⟨i,h1,h2⟩:=h
 simp only[Prod.mk.injEq,Option.map_eq_some_iff,decide_eq_true_eq]at h2
 obtain⟨a,⟨z,b,c⟩,d⟩:=h2
 exact⟨i,z,h1,a,b,c,d⟩
theorem app61_nil (s:Heap)(g:Dg):aRsAppend Tryz.prog 28 28 .nils (.sl 61 5 [.agg g.row] .own) s=some (.rs 61 5 s.length 0 1,s++[(61,g.row)]):=by
 obtain⟨i,z,h1,h2,h3,h4,h5⟩:=info61
 have hb:bound i 1:=⟨by omega,by omega⟩
 simp[aRsAppend,under28,h1,srcOf,h2,h3,h4,hb,deadTy,cellsOf,AV.cells,Dg.row,AV.strip]
theorem app61_rs {s:Heap}{id len:Nat}{cs:List AV}(h:s[id]?=some (61,cs))(hl:len*5≤cs.length)(hne:cs≠[])(hn:len<1000000000)(g:Dg) :
  aRsAppend Tryz.prog 28 28 (.rs 61 5 id 0 len) (.sl 61 5 [.agg g.row] .own) s=some (.rs 61 5 s.length 0 (len+1),kill s id++[(61,cs.take (len*5)++g.row)]):=by
 obtain⟨i,z,h1,h2,h3,h4,h5⟩:=info61
 have hb:bound i (len+1):=bound_of (by
  have:(2*(len+1)+768)*i.bytes≤(2*(len+1)+768)*48:=Nat.mul_le_mul_left _ h5
  omega) (by omega)
 simp[aRsAppend,under28,h1,srcOf,h2,h3,h4,hb,deadTy,cellsOf,AV.cells,h,hl,hne,Dg.row,AV.strip]
theorem drow_length (ds:List Dg):(ds.flatMap Dg.row).length=5*ds.length:=by
 induction ds with
 | nil=>rfl
 | cons l lvs ih=>rw[List.flatMap_cons,List.length_append,ih];show 5+5*lvs.length=5*(lvs.length+1);omega
theorem build61 (c a b:Int):aBuild Tryz.prog 61 [(0,I c),(2,I a),(3,I b)]=some (.agg (Dg.row ⟨c,a,b⟩)):=by
 have hz:zeroOf Tryz.prog 61=some (.agg [I 0,I 0,I 0,I 0,.str []]):=by kernel_rfl
 have hu:(match Tryz.prog.underlying 61 with|some (.struct fs)=>placesOf Tryz.prog fs.toList|_=>none)=some [(0,1),(1,1),(2,1),(3,1),(4,1)]:=by kernel_rfl
 unfold aBuild
 split at hu
 ·rename_i fs hh
  rw[hz,hh]
  simp[hu,aFill,setL,AV.cells,AV.solid,Dg.row,AV.strip]
 ·cases hu
theorem lit61 (g:Dg):aBuildSlice Tryz.prog 28 1 [(0,.agg g.row)]=some (.sl 61 5 [.agg g.row] .own):=by
 obtain⟨i,z,h1,h2,h3,h4,h5⟩:=info61
 have hs:szOf Tryz.prog 61=some 5:=by kernel_rfl
 simp[aBuildSlice,under28,hs,h1,h3,h4,inRow,AV.cells,AV.solid,Dg.row,AV.strip]
theorem dgv_strip (ds:List Dg)(q:Option Nat):(dgv ds q).strip=dgv ds q:=by unfold dgv;cases q<;>rfl
theorem rep_run {src:Bytes}{B:Nat}{s:Heap}{off:Nat}{ds:List Dg}{q:Option Nat}(h:BS src B s off ds q)(c a b:Int)(hn:ds.length<1000000) :
  ∃s' q',(∀n,aCall Tryz.prog (den C (n+1)) 111 [.ref B 0,I c,I a,I b] s=some (.tup [],s'))∧BS src B s' off (ds++[⟨c,a,b⟩]) q'∧Ex s s' (JB B q) (JB B q'):=by
 have hB:=glt h.par
 have l2:aLoad false false 1 (.ref B 2) s=some (dgv ds q,s):=by rw[ld (o:=2) h.par (by decide) rfl (by decide),dgv_strip]
 have fin:∀s0,s0.length=s.length+1→s0[B]?=s[B]?→s0[s.length]?=some (61,(ds++[(⟨c,a,b⟩:Dg)]).flatMap Dg.row)→(∀x,x<s.length→x∉JB B q→s0[x]?=s[x]?) →
   aRsAppend Tryz.prog 28 28 (dgv ds q) (.sl 61 5 [.agg (Dg.row ⟨c,a,b⟩)] .own) s=some (.rs 61 5 s.length 0 (ds.length+1),s0) →
   ∃s' q',(∀n,aCall Tryz.prog (den C (n+1)) 111 [.ref B 0,I c,I a,I b] s=some (.tup [],s'))∧BS src B s' off (ds++[⟨c,a,b⟩]) q'∧Ex s s' (JB B q) (JB B q'):=by
  intro s0 hl hb hq hf ha
  have hst:aStore 1 s0 (.ref B 2) (.rs 61 5 s.length 0 (ds.length+1))=some (s0.set B (70,[.str src,I off,.rs 61 5 s.length 0 (ds.length+1)])):=st (hb.trans h.par) (by decide) rfl rfl (by show 3≤3;decide)
  have hlen:(ds++[(⟨c,a,b⟩:Dg)]).length=ds.length+1:=by simp
  refine⟨s0.set B (70,[.str src,I off,.rs 61 5 s.length 0 (ds.length+1)]),some s.length,fun n=>?_,⟨?_,nofun,fun Q e=>?_⟩,⟨by rw[set_length,hl];omega,fun x hx hj=>?_,fun x hx=>?_⟩⟩
  ·rw[callR en111 (ref1 ..),F111_eq,F111]
   simp only[↓sW,sL,l2,build61,lit61,ha,strip_rs,hst]
  ·show (s0.set B _)[B]?=_
   rw[gset_eq (hb.trans h.par),dgv,hlen]
  ·cases e
   exact⟨by omega,by simp,[],by rw[gset_ne (by omega),hq,List.append_nil]⟩
  ·have hxB:x≠B:=fun e=>hj (by rw[e];exact List.mem_cons_self ..)
   rw[gset_ne (Ne.symm hxB),hf x hx hj]
  ·rcases List.mem_cons.1 hx with rfl|hx
   ·exact .inl (List.mem_cons_self ..)
   ·rw[Option.mem_toList]at hx;cases hx;exact .inr (Nat.le_refl _)
 cases q with
 | none =>
  have e:=h.nil rfl
  subst e
  exact fin _ (app_length _ _) (gapp_old hB) gapp_new (fun x hx _=>gapp_old hx) (app61_nil s _)
 | some Q =>
  obtain⟨k1,k2,junk,k3⟩:=h.row Q rfl
  have hr:=drow_length ds
  have hd:0<ds.length:=List.length_pos_iff.2 k2
  have ap:=app61_rs (len:=ds.length) k3 (by rw[List.length_append];omega) (by intro e;have:=congrArg List.length e;rw[List.length_append,hr,List.length_nil]at this;omega) (by omega) (⟨c,a,b⟩:Dg)
  rw[List.take_append_of_le_length (by omega),List.take_of_length_le (by omega)]at ap
  refine fin _ (by rw[app_length,kill_length]) ?_ ?_ (fun x hx hj=>?_) ap
  ·rw[gapp_old (by rw[kill_length];exact hB),gkill_ne k1]
  ·have:=gapp_new (s:=kill s Q) (x:=(61,ds.flatMap Dg.row++Dg.row ⟨c,a,b⟩))
   rw[kill_length]at this
   rw[this,List.flatMap_append];simp
  ·rw[gapp_old (by rw[kill_length];exact hx),gkill_ne (fun e=>hj (by rw[←e];exact List.mem_cons_of_mem _ (by simp)))]
theorem len9a (s:List UInt8):aLen Tryz.prog 9 (.str s)=some (I s.length):=by simp[aLen]
theorem ident_run {src:Bytes}{B:Nat}{s:Heap}{o:Nat}{x:Bytes}{ds:List Dg}{q:Option Nat}(hb:BS src B s (o+x.length) ds q){H k:Nat}{h:Hd}{ch:AV}(hs:s[H]?=some (27,hrow k h ch))(hH:H∉JB B q)(hk:k<100)
  (hn:ds.length<1000000){n:Nat}(hm:30≤n) :
  ∃s' q',aCall Tryz.prog (den C n) 112 [.ref B 0,.ref H 0,.str x,I o] s=some (.tup [],s')∧BS src B s' (o+x.length) (ds++(identH k h x o).2) q'∧s'[H]?=some (27,hrow k (identH k h x o).1 ch)∧H∉JB B q'∧Ex s s' (H::JB B q) (H::JB B q'):=by
 obtain⟨n,rfl⟩:∃m,n=m+1:=⟨n-1,by omega⟩
 obtain⟨m,hm1⟩:∃m,n=m+1:=⟨n-1,by omega⟩
 have lb:aLoad false false 1 (.ref B 1) s=some (I ((o+x.length:Nat):Int),s):=ld (o:=1) hb.par (by decide) rfl (by decide)
 have hlt:=glt hs
 -- the name itself
 have key:∀(s1:Heap) (q1:Option Nat) (e:Env),BS src B s1 (o+x.length) (ds++(identH k h x o).2) q1→s1[H]?=some (27,hrow k h ch)→H∉JB B q1→Ex s s1 (H::JB B q) (H::JB B q1)→e 1=.ref H 0→e 2=.str x→e 3=I o →
   ∃s' q',F112_J0 (den C n) n e s1=some (.tup [],s')∧BS src B s' (o+x.length) (ds++(identH k h x o).2) q'∧s'[H]?=some (27,hrow k (identH k h x o).1 ch)∧H∉JB B q'∧Ex s s' (H::JB B q) (H::JB B q'):=by
  intro s1 q1 e b1 h1 j1 x1 e1 e2 e3
  have l0:aLoad false false 1 (.ref H 0) s1=some (I k,s1):=ld (o:=0) h1 (by decide) rfl (by decide)
  have l5:aLoad false false 1 (.ref H 5) s1=some (I h.ns,s1):=ld (o:=5) h1 (by decide) rfl (by decide)
  have nm:=name_run hk (n:=n) (by omega) s1
  have s2:aStore 1 s1 (.ref H 2) (.str x)=some (s1.set H (27,hrow k ⟨h.v,x,h.s,h.e,h.ns⟩ ch)):=stH h1 rfl rfl (by decide)
  have s5:aStore 1 (s1.set H (27,hrow k ⟨h.v,x,h.s,h.e,h.ns⟩ ch)) (.ref H 5) (I o)=some ((s1.set H (27,hrow k ⟨h.v,x,h.s,h.e,h.ns⟩ ch)).set H (27,hrow k ⟨h.v,x,h.s,h.e,o⟩ ch)):=stH (gset_eq h1) rfl rfl (by decide)
  rw[set_set]at s5
  unfold identH
  simp only
  unfold F112_J0
  cases c1:hasName k with
  | false =>
   rw[c1]at nm
   refine⟨s1,q1,?_,b1,?_,j1,x1⟩
   ·simp only[↓sW,sL,e1,e2,e3,l0,nm]
   ·simpa using h1
  | true =>
   rw[c1]at nm
   by_cases c2:h.ns<0
   ·refine⟨s1.set H (27,hrow k ⟨h.v,x,h.s,h.e,(o:Int)⟩ ch),q1,?_,b1.set j1 _,?_,j1,x1.trans (Ex.setA s1 _ (List.mem_cons_self ..) _)⟩
    ·simp only[↓sW,sL,e1,e2,e3,l0,l5,nm,c2,s2,s5]
    ·rw[gset_eq h1];simp[c2]
   ·refine⟨s1,q1,?_,b1,?_,j1,x1⟩
    ·simp only[↓sW,sL,e1,e2,e3,l0,l5,nm,c2]
    ·simpa[c2] using h1
 by_cases c:30<x.length
 ·obtain⟨s1,q1,r1,b1,x1⟩:=rep_run hb 5 (o:Int) ((o+x.length:Nat):Int) hn
  have r1:=r1 m
  rw[←hm1]at r1
  have x2:=x1.consA H
  have h1:=(x1.fr H hlt hH).trans hs
  have j1:=x1.notin' hlt hH
  have ed:(identH k h x o).2=[⟨5,o,((o+x.length:Nat):Int)⟩]:=by
   unfold identH;simp only;rw[if_pos c];congr 2
  rw[←ed]at b1
  obtain⟨s',q',g1,g2⟩:=key s1 q1 (upds (argEnv [.ref B 0,.ref H 0,.str x,I o]) [(8,.str x),(9,I x.length),(10,.bool true),(11,.ref B 0),(12,I o),(13,.ref B 0),(14,.ref B 0),(15,.ref B 1),(16,I ((o+x.length:Nat):Int)),(17,.tup [])]) b1 h1 j1 x2 (by simp[upds_at,upd_at,argEnv]) (by simp[upds_at,upd_at,argEnv]) (by simp[upds_at,upd_at,argEnv])
  refine⟨s',q',?_,g2⟩
  have c':((30:Int)<(x.length:Int))=True:=by simp;omega
  rw[callR en112 (ref1 ..),F112_eq,F112]
  simp only[↓sW,sL,len9a,c',lb,r1]
  exact g1
 ·have ed:(identH k h x o).2=[]:=by
   unfold identH;simp only;rw[if_neg c]
  have hb':BS src B s (o+x.length) (ds++(identH k h x o).2) q:=by rw[ed,List.append_nil];exact hb
  obtain⟨s',q',g1,g2⟩:=key s q (upds (argEnv [.ref B 0,.ref H 0,.str x,I o]) [(8,.str x),(9,I x.length),(10,.bool false)]) hb' hs hH (Ex.refl _ _) (by simp[upds_at,upd_at,argEnv]) (by simp[upds_at,upd_at,argEnv]) (by simp[upds_at,upd_at,argEnv])
  refine⟨s',q',?_,g2⟩
  have c':((30:Int)<(x.length:Int))=False:=by simp;omega
  rw[callR en112 (ref1 ..),F112_eq,F112]
  simp only[↓sW,sL,len9a,c',lb]
  exact g1
end ParF
end

section
namespace ParF
open Go Go.Abs Go.Proofs Pm AstF
theorem strip_nili:AV.nili.strip=.nili:=(rfl)
theorem strip_ifc:AV.ifc.strip=.ifc:=(rfl)
theorem callN {D:Den}{g:FuncId}{args:List AV}{s s1:Heap}{v:AV}(he:enterable Tryz.prog g=true)(hn:noRefL args=true)(hv:v.noRef=true)(h:D g args []=some (v,s1)):aCall Tryz.prog D g args s=some (v,s):=by
 simp[aCall,he,hn,h,hv]
theorem int_run {src:Bytes}{B:Nat}{s:Heap}{o:Nat}{x:Bytes}{ds:List Dg}{q:Option Nat}(hb:BS src B s (o+x.length) ds q)(hx:x≠[])(hd:(x.all fun b=>decide (48≤b.toNat)&&decide (b.toNat≤57))=true)(hl:x.length<100000)
  (hn:ds.length<1000000){n:Nat}(hm:30≤n) :
  ∃s' q',aCall Tryz.prog (den C n) 113 [.ref B 0,.str x,I o] s=some (I (intV x o).1,s')∧BS src B s' (o+x.length) (ds++(intV x o).2) q'∧Ex s s' (JB B q) (JB B q'):=by
 obtain⟨n,rfl⟩:∃m,n=m+1:=⟨n-1,by omega⟩
 obtain⟨m,hm1⟩:∃m,n=m+1:=⟨n-1,by omega⟩
 have lb:aLoad false false 1 (.ref B 1) s=some (I ((o+x.length:Nat):Int),s):=ld (o:=1) hb.par (by decide) rfl (by decide)
 have hc:enterable Tryz.prog 175=true:=by kernel_rfl
 have hi:isIfT Tryz.prog 116=true:=by kernel_rfl
 have q1:aCall Tryz.prog (den C n) 175 [.str x] s=some (if digits x≤9223372036854775807 then .tup [I (digits x),.nili] else .tup [I 9223372036854775807,.ifc],s):=by
  refine callN (s1:=[]) hc rfl ?_ ?_
  ·split<;>rfl
  ·rw[hm1,den_ext (e:=eAtoi) (by rfl)]
   show (if _ then _ else _)=_
   rw[if_pos ⟨hx,hd,hl⟩]
   show (if digits x≤_ then _ else _)=_
   split<;>rfl
 have n1:aNilCmp Tryz.prog .neq 116 .nili .nili=some (.bool false):=by simp[aNilCmp,hi,eqOp]
 have n2:aNilCmp Tryz.prog .neq 116 .ifc .nili=some (.bool true):=by simp[aNilCmp,hi,eqOp]
 by_cases c1:digits x > 2147483647
 ·obtain⟨s1,p1,r1,b1,x1⟩:=rep_run hb 4 (o:Int) ((o+x.length:Nat):Int) hn
  have r1:=r1 m
  rw[←hm1]at r1
  have ei:intV x o=(2147483647,[⟨4,(o:Int),((o+x.length:Nat):Int)⟩]):=by unfold intV;rw[if_pos c1];congr 2
  rw[ei]
  refine⟨s1,p1,?_,b1,x1⟩
  rw[callR en113 (ref1 ..),F113_eq,F113]
  by_cases c2:digits x≤9223372036854775807
  ·rw[if_pos c2]at q1
   have g:((2147483647:Int)<(digits x:Int))=True:=by simp;omega
   simp only[↓sW,sL,q1,strip_nili,n1,g,lb,r1]
  ·rw[if_neg c2]at q1
   simp only[↓sW,sL,q1,strip_ifc,n2,lb,r1]
 ·have ei:intV x o=((digits x:Int),[]):=by unfold intV;rw[if_neg c1]
  rw[ei]
  refine⟨s,q,?_,by rw[List.append_nil];exact hb,Ex.refl _ _⟩
  rw[if_pos (by omega)]at q1
  have g:((2147483647:Int)<(digits x:Int))=False:=by simp;omega
  rw[callR en113 (ref1 ..),F113_eq,F113]
  simp only[↓sW,sL,q1,strip_nili,n1,g,lb]
def bytesV (bs:List UInt8):List AV:=bs.map fun b=>.int .u8 b.toNat
def bufV (bs:List UInt8):AV:=match bs with
 | []=>.nils
 | b::r=>.sl 5 1 (bytesV (b::r)) .own
def Bld (s:Heap)(id:Nat)(bs:List UInt8):Prop:=∃a,s[id]?=some (113,[a,bufV bs])∧(a=.nilp∨a=.ref id 0)
theorem bCheck_ok {s:Heap}{id:Nat}{a b:AV}(h:s[id]?=some (113,[a,b]))(ha:a=.nilp∨a=.ref id 0):bCheck 113 [.ref id 0] s=some (.tup [],s.set id (113,[.ref id 0,b])):=by
 rcases ha with rfl|rfl
 ·simp[bCheck,h]
 ·simp only[bCheck,h,and_self,if_true]
  congr 2
  exact(set_same h).symm
theorem under111:Tryz.prog.underlying 111=some (.slice 5):=by kernel_rfl
theorem info5':((Tryz.prog.info? 5).map fun i=>(i.size,i.bytes,i.zero.map fun z=>z.cells.size))=some (1,1,some 1):=by kernel_rfl
theorem info5:∃i,Tryz.prog.info? 5=some i∧i.size=1∧i.bytes=1∧∃z,i.zero=some z∧z.cells.size=1:=by
 have h:=info5'
 rw[Option.map_eq_some_iff]at h
 obtain⟨i,h1,h2⟩:=h
 simp only[Prod.mk.injEq,Option.map_eq_some_iff]at h2
 exact⟨i,h1,h2.1,h2.2.1,h2.2.2⟩
theorem app_ok (bs x:List UInt8)(h:bs.length+x.length<1000000000):aAppend Tryz.prog 111 9 (bufV bs) (.str x)=some (bufV (bs++x)):=by
 obtain⟨i,h1,h2,h3,z,h4,h5⟩:=info5
 unfold aAppend
 rw[under111,LexF.under9]
 simp only[h1,h2,srcOf,if_true,h4,h5,ne_eq,not_true,if_false,h3,Nat.mul_one]
 cases bs with
 | nil =>
  simp only[bufV,List.nil_append]
  cases x with
  | nil=>simp
  | cons a r =>
   simp only[List.length_map,List.length_cons,List.map_cons,bytesV]at *
   rw[if_pos (by omega)]
 | cons b r =>
  simp only[bufV,bytesV,List.length_map,List.length_cons,List.map_cons,List.cons_append,List.map_append]at *
  rw[if_pos ⟨trivial,trivial,by omega,by omega⟩]
theorem app_1 (bs:List UInt8)(c:UInt8)(h:bs.length+1<1000000000):aAppend Tryz.prog 111 111 (bufV bs) (.sl 5 1 [.int .u8 c.toNat] .own)=some (bufV (bs++[c])):=by
 obtain⟨i,h1,h2,h3,z,h4,h5⟩:=info5
 unfold aAppend
 rw[under111]
 simp only[h1,h2,srcOf,if_true,h4,h5,ne_eq,not_true,if_false,h3,Nat.mul_one]
 cases bs with
 | nil =>
  simp only[bufV,List.nil_append,bytesV,List.map_cons,List.map_nil,List.length_cons,List.length_nil]
  rw[if_pos (by omega)]
 | cons b r =>
  simp only[bufV,bytesV,List.length_map,List.length_cons,List.map_cons,List.cons_append,List.map_append,List.length_nil,List.map_nil]at *
  rw[if_pos ⟨trivial,trivial,by omega,by omega⟩]
theorem bufV_solid (bs:List UInt8):(bufV bs).solid=true∧(bufV bs).cells.length=1∧stCells (bufV bs)=[bufV bs]:=by cases bs<;>exact⟨rfl,rfl,rfl⟩
theorem lit111 (c:UInt8):aBuildSlice Tryz.prog 111 1 [(0,.int .u8 c.toNat)]=some (.sl 5 1 [.int .u8 c.toNat] .own):=by
 obtain⟨i,h1,h2,h3,z,h4,h5⟩:=info5
 have hs:szOf Tryz.prog 5=some 1:=by kernel_rfl
 simp[aBuildSlice,under111,hs,h1,h4,h5,inRow,AV.cells,AV.solid]
theorem wbyte_run (c:UInt8){n:Nat}(hn:2≤n){s:Heap}{id:Nat}{bs:List UInt8}(hB:Bld s id bs)(hb:bs.length+1<1000000000) :
  aCall Tryz.prog (den C n) 79 [.ref id 0,.int .u8 c.toNat] s=some (.nili,s.set id (113,[.ref id 0,bufV (bs++[c])])):=by
 obtain⟨a,hs,ha⟩:=hB
 obtain⟨n,rfl⟩:∃m,n=m+2:=⟨n-2,by omega⟩
 have hlt:=(List.getElem?_eq_some_iff.1 hs).1
 have hc:enterable Tryz.prog 144=true:=by kernel_rfl
 have q1:aCall Tryz.prog (den C (n+1)) 144 [.ref id 0] s=some (.tup [],s.set id (113,[.ref id 0,bufV bs])):=by
  rw[callR hc (ref1 ..),den_ext (e:=bCheck 113) (by rfl),bCheck_ok hs ha]
 have q2:∀v,aLoad true false 1 (.ref id 1) (s.set id (113,[.ref id 0,v]))=some (v,s.set id (113,[.ref id 0,v.strip])):=fun v=>by
  simp[aLoad,aLoadT,List.getElem?_set_self hlt,List.set_set,deadTy]
 obtain⟨k1,k2,k3⟩:=bufV_solid (bs++[c])
 have q3:∀v,aStore 1 (s.set id (113,[.ref id 0,v])) (.ref id 1) (bufV (bs++[c]))=some (s.set id (113,[.ref id 0,bufV (bs++[c])])):=fun v=>by
  simp[aStore,k1,k2,k3,List.getElem?_set_self hlt,List.set_set,setL,deadTy]
 have q4:=app_1 bs c hb
 rw[callR en79 (ref1 ..),F79_eq,F79]
 simp only[↓sW,sL,q1,q2,q3,q4,lit111]
theorem Bld.set {s:Heap}{id:Nat}{bs:List UInt8}(h:Bld s id bs)(bs':List UInt8):Bld (s.set id (113,[.ref id 0,bufV bs'])) id bs':=by
 obtain⟨a,h,_⟩:=h
 exact⟨_,List.getElem?_set_self (List.getElem?_eq_some_iff.1 h).1,.inr rfl⟩
theorem Bld.lt {s:Heap}{id:Nat}{bs:List UInt8}(h:Bld s id bs):id<s.length:=by
 obtain⟨a,h,_⟩:=h
 exact(List.getElem?_eq_some_iff.1 h).1
theorem Bld.fr {s s':Heap}{id:Nat}{bs:List UInt8}(h:Bld s id bs)(e:s'[id]?=s[id]?):Bld s' id bs:=by
 obtain⟨a,h,q⟩:=h
 exact⟨a,e.trans h,q⟩
theorem alloc113 (s:Heap):aAlloc Tryz.prog 113 s=some (.ref s.length 0,s++[(113,[.nilp,.nils])]):=by kernel_rfl
theorem bString_ok {s:Heap}{id:Nat}{bs:List UInt8}(h:Bld s id bs)(hl:bs.length<1000000000):∃v,bString 5 [.ref id 0] s=some (.str bs,s.set id v):=by
 obtain⟨a,h,_⟩:=h
 cases bs with
 | nil=>exact⟨_,by rw[set_same h];simp[bString,h,bufV,deadTy]⟩
 | cons b r =>
  have:=asBytes_bytes (b::r)
  refine⟨(113,[a,.sl 5 1 (bytesV (b::r)) .sh]),?_⟩
  simp only[bString,h,bufV]
  rw[if_pos ⟨trivial,by decide⟩]
  simp only[bytesV,this]
  rw[if_pos (by simp at hl;omega)]
theorem bString_run {s:Heap}{id:Nat}{bs:List UInt8}(h:Bld s id bs)(hl:bs.length<1000000000){n:Nat}(hn:1≤n):∃v,aCall Tryz.prog (den C n) 81 [.ref id 0] s=some (.str bs,s.set id v):=by
 obtain⟨v,q⟩:=bString_ok h hl
 have hc:enterable Tryz.prog 81=true:=by kernel_rfl
 obtain⟨n,rfl⟩:∃m,n=m+1:=⟨n-1,by omega⟩
 exact⟨v,by rw[callR hc (ref1 ..),den_ext (e:=bString 5) (by rfl),q]⟩
theorem u8_eqb (c d:UInt8):((c.toNat:Int)==(d.toNat:Int))=(c==d):=by
 by_cases h:c=d
 ·subst h;simp
 ·have h1:(c==d)=false:=by simpa using h
  rw[h1]
  have:¬(c.toNat:Int)=(d.toNat:Int):=fun e=>h (UInt8.toNat_inj.1 (by omega))
  simpa using this
theorem unq_loop {src x:Bytes}{B H W o:Nat}(hx:x.length<100000)(ho:o+x.length<1000000)(n:Nat)(hn:30≤n):∀(m:Nat)(i:Nat),x.length-i≤m→1≤i→i≤x.length→∀(s:Heap)(off:Nat)(ds:List Dg)(q:Option Nat)(acc:Bytes),
  BS src B s off ds q→H<s.length→H∉JB B q→Bld s W acc→W∉JB B q→W≠H→acc.length+(x.length-i)<1000000→(ds++(unq (o+i:Nat) (x.drop i)).2).length<1000000 →
  ∃s' q',(∀M n' e,m<M→e 0=.ref B 0→e 1=.str x→e 2=I o→e 7=.ref W 0→e 8=I i→aLoop (F114_L0 (den C n) n') M e s=some (.str (acc++(unq (o+i:Nat) (x.drop i)).1),s'))∧BS src B s' off (ds++(unq (o+i:Nat) (x.drop i)).2) q'∧s'[H]?=s[H]?∧Ex s s' (W::JB B q) (W::JB B q'):=by
 have w:IntKind.i64.wrap ((x.length:Int)-1)=(x.length:Int)-1:=by rw[wrap64]<;>omega
 have out:∀(i:Nat),x.length≤i+1→1≤i→i≤x.length→∀(s:Heap) (off:Nat) (ds:List Dg) (q:Option Nat) (acc:Bytes),
   BS src B s off ds q→H<s.length→H∉JB B q→Bld s W acc→W∉JB B q→W≠H→acc.length+(x.length-i)<1000000→∀m:Nat,
   ∃s' q',(∀M n' e,m<M→e 0=.ref B 0→e 1=.str x→e 2=I o→e 7=.ref W 0→e 8=I i→aLoop (F114_L0 (den C n) n') M e s=some (.str (acc++(unq (o+i:Nat) (x.drop i)).1),s'))∧BS src B s' off (ds++(unq (o+i:Nat) (x.drop i)).2) q'∧s'[H]?=s[H]?∧Ex s s' (W::JB B q) (W::JB B q'):=by
  intro i hm hi1 hi s off ds q acc hb hH1 hH hB hW hWH ha m
  have e:unq ((o+i:Nat):Int) (x.drop i)=([],[]):=by
   have hl:(x.drop i).length≤1:=by rw[List.length_drop];omega
   match x.drop i,hl with
   | [],_=>simp[unq]
   | [a],_=>simp[unq]
  rw[e,List.append_nil,List.append_nil]
  obtain⟨v,r⟩:=bString_run hB (by omega) (n:=n) (by omega)
  refine⟨_,q,fun M n' e hM h0 h1 h2 h7 h8=>?_,hb.set hW v,gset_ne hWH,Ex.setA s _ (List.mem_cons_self ..) v⟩
  obtain⟨M,rfl⟩:∃j,M=j+1:=⟨M-1,by omega⟩
  have c:((i:Int)<(x.length:Int)-1)=False:=by simp;omega
  rw[aLoop,F114_L0]
  simp only[↓sW,sL,h0,h1,h2,h7,h8,len9a,w,c,r]
 intro m
 induction m with
 | zero =>
  intro i hm hi1 hi s off ds q acc hb hH1 hH hB hW hWH ha hd
  exact out i (by omega) hi1 hi s off ds q acc hb hH1 hH hB hW hWH ha 0
 | succ m ih =>
  intro i hm hi1 hi s off ds q acc hb hH1 hH hB hW hWH ha hd
  by_cases c:i+1<x.length
  ·-- two bytes at least
   obtain⟨a,ha1⟩:∃a,x[i]?=some a:=⟨_,List.getElem?_eq_getElem (by omega)⟩
   obtain⟨b,hb1⟩:∃b,x[i+1]?=some b:=⟨_,List.getElem?_eq_getElem c⟩
   have e:x.drop i=a::b::x.drop (i+2):=by
    rw[List.drop_eq_getElem_cons (by omega:i<x.length),List.drop_eq_getElem_cons c]
    rw[List.getElem?_eq_getElem (by omega)]at ha1 hb1
    cases ha1;cases hb1;rfl
   have e1:x.drop (i+1)=b::x.drop (i+2):=by
    rw[List.drop_eq_getElem_cons c]
    rw[List.getElem?_eq_getElem (by omega)]at hb1
    cases hb1;rfl
   have c':((i:Int)<(x.length:Int)-1)=True:=by simp;omega
   have w1:IntKind.i64.wrap ((i:Int)+1)=((i+1:Nat):Int):=wadd1 (by omega)
   have w2:IntKind.i64.wrap (((i+1:Nat):Int)+1)=((i+2:Nat):Int):=wadd1 (by omega)
   have ia:=LexF.idx9 ha1
   have ib:=LexF.idx9 hb1
   have u92:((a.toNat:Int)==92)=(a==92):=u8_eqb a 92
   rw[e]at hd ⊢
   by_cases k:a=92
   ·have k92:(a==92)=true:=by simp[k]
    rw[k92]at u92
    have f110:((b.toNat:Int)==110)=(b==110):=u8_eqb b 110
    have f34:((b.toNat:Int)==34)=(b==34):=u8_eqb b 34
    have f92:((b.toNat:Int)==92)=(b==92):=u8_eqb b 92
    -- the byte to write,the state to write in
    have key:∀(c0:UInt8) (s1:Heap) (q1:Option Nat) (dn:List Dg),BS src B s1 off (ds++dn) q1→Ex s s1 (W::JB B q) (W::JB B q1)→s1[W]?=s[W]?→s1[H]?=s[H]?→H∉JB B q1→W∉JB B q1 →
      (ds++dn++(unq (o+(i+2):Nat) (x.drop (i+2))).2).length<1000000 →
      ∃s' q',(∀M n' e,m<M→e 0=.ref B 0→e 1=.str x→e 2=I o→e 7=.ref W 0→e 8=I (i+1:Nat)→e 9=.int .u8 c0.toNat→F114_J1 (den C n) n' (aLoop (F114_L0 (den C n) n') M) e s1=some (.str (acc++c0::(unq (o+(i+2):Nat) (x.drop (i+2))).1),s'))∧BS src B s' off (ds++dn++(unq (o+(i+2):Nat) (x.drop (i+2))).2) q'∧s'[H]?=s[H]?∧Ex s s' (W::JB B q) (W::JB B q'):=by
     intro c0 s1 q1 dn b1 x1 eW eH jH jW hd1
     have B1:=hB.fr eW
     have wr:=wbyte_run c0 (n:=n) (by omega) B1 (by omega)
     obtain⟨s',q',r,b2,h2,x2⟩:=ih (i+2) (by omega) (by omega) (by omega) (s1.set W (113,[.ref W 0,bufV (acc++[c0])])) off (ds++dn) q1 (acc++[c0]) (b1.set jW _) (by rw[set_length];have:=x1.len;omega) jH (B1.set _) jW hWH (by rw[List.length_append];simp;omega) hd1
     refine⟨s',q',fun M n' e hM h0 h1 h2 h7 h8 h9=>?_,b2,h2.trans ((gset_ne hWH).trans eH),x1.trans ((Ex.setA s1 _ (List.mem_cons_self ..) _).trans x2)⟩
     unfold F114_J1
     simp only[↓sW,sL,h0,h1,h2,h7,h8,h9,wr,w2]
     rw[r M n' _ hM ((upds_get _ _ _ rfl).trans h0) ((upds_get _ _ _ rfl).trans h1) ((upds_get _ _ _ rfl).trans h2) ((upds_get _ _ _ rfl).trans h7) (by simp[upds_at,upd_at])]
     simp
    have eo:(((o+i:Nat):Int)+2)=((o+(i+2):Nat):Int):=by omega
    simp only[unq]at hd ⊢
    rw[if_pos k]at hd ⊢
    rw[eo]at hd ⊢
    by_cases b1:b=110
    ·have g1:(b==110)=true:=by simp[b1]
     rw[g1]at f110
     simp only[if_pos b1,if_pos (Or.inl b1:b=110∨b=34∨b=92)]at hd ⊢
     obtain⟨s',q',r,b2,h2,x2⟩:=key 10 s q [] (by rw[List.append_nil];exact hb) (Ex.refl _ _) rfl rfl hH hW (by rw[List.append_nil];exact hd)
     rw[List.append_nil]at b2
     refine⟨s',q',fun M n' e hM h0 h1 h2 h7 h8=>?_,b2,h2,x2⟩
     obtain⟨M,rfl⟩:∃j,M=j+1:=⟨M-1,by omega⟩
     rw[aLoop,F114_L0]
     simp only[↓sW,sL,h0,h1,h2,h7,h8,len9a,w,c',ia,u92,w1,ib,f110]
     exact r M n' _ (by omega) ((upds_get _ _ _ rfl).trans h0) ((upds_get _ _ _ rfl).trans h1) ((upds_get _ _ _ rfl).trans h2) ((upds_get _ _ _ rfl).trans h7) (by simp[upds_at,upd_at]) (by simp[upds_at,upd_at])
    have g1:(b==110)=false:=by simp[b1]
    rw[g1]at f110
    simp only[if_neg b1]at hd ⊢
    by_cases b3:b=34∨b=92
    ·simp only[if_pos (Or.inr b3:b=110∨b=34∨b=92)]at hd ⊢
     obtain⟨s',q',r,b2,h2,x2⟩:=key b s q [] (by rw[List.append_nil];exact hb) (Ex.refl _ _) rfl rfl hH hW (by rw[List.append_nil];exact hd)
     rw[List.append_nil]at b2
     refine⟨s',q',fun M n' e hM h0 h1 h2 h7 h8=>?_,b2,h2,x2⟩
     obtain⟨M,rfl⟩:∃j,M=j+1:=⟨M-1,by omega⟩
     rw[aLoop,F114_L0]
     rcases b3 with b3|b3
     ·have g2:(b==34)=true:=by simp[b3]
      rw[g2]at f34
      simp only[↓sW,sL,h0,h1,h2,h7,h8,len9a,w,c',ia,u92,w1,ib,f110,f34]
      rw[F114_J3]
      rw[show (upds e _) 40=.bool true from by simp[upds_at,upd_at],br_true]
      exact r M n' _ (by omega) ((upds_get _ _ _ rfl).trans h0) ((upds_get _ _ _ rfl).trans h1) ((upds_get _ _ _ rfl).trans h2) ((upds_get _ _ _ rfl).trans h7) (by simp[upds_at,upd_at]) (by simp[upds_at,upd_at])
     ·have g2:(b==34)=false:=by rw[b3];rfl
      have g3:(b==92)=true:=by simp[b3]
      rw[g2]at f34
      rw[g3]at f92
      simp only[↓sW,sL,h0,h1,h2,h7,h8,len9a,w,c',ia,u92,w1,ib,f110,f34,f92]
      rw[F114_J3]
      rw[show (upds e _) 40=.bool true from by simp[upds_at,upd_at],br_true]
      exact r M n' _ (by omega) ((upds_get _ _ _ rfl).trans h0) ((upds_get _ _ _ rfl).trans h1) ((upds_get _ _ _ rfl).trans h2) ((upds_get _ _ _ rfl).trans h7) (by simp[upds_at,upd_at]) (by simp[upds_at,upd_at])
    ·have nb:¬(b=110∨b=34∨b=92):=fun t=>t.elim b1 b3
     simp only[if_neg nb]at hd ⊢
     have g2:(b==34)=false:=by
      have:¬b=34:=fun t=>b3 (.inl t)
      simp[this]
     have g3:(b==92)=false:=by
      have:¬b=92:=fun t=>b3 (.inr t)
      simp[this]
     rw[g2]at f34
     rw[g3]at f92
     have hd0:ds.length<1000000:=by rw[List.length_append]at hd;omega
     obtain⟨s1,q1,r1,b1',x1⟩:=rep_run hb 6 ((o+i:Nat):Int) ((o+(i+2):Nat):Int) hd0
     obtain⟨n0,hn0⟩:∃j,n=j+1:=⟨n-1,by omega⟩
     have r1:=r1 n0
     rw[←hn0]at r1
     have hWl:=hB.lt
     obtain⟨s',q',r,b2,h2,x2⟩:=key b s1 q1 [⟨6,((o+i:Nat):Int),((o+(i+2):Nat):Int)⟩] b1' (x1.consA W) (x1.fr W hWl hW) (x1.fr H hH1 hH) (x1.notin' hH1 hH) (x1.notin' hWl hW) (by
      rw[List.append_assoc];exact hd)
     rw[List.append_assoc]at b2
     refine⟨s',q',fun M n' e hM h0 h1 h2 h7 h8=>?_,b2,h2,x2⟩
     obtain⟨M,rfl⟩:∃j,M=j+1:=⟨M-1,by omega⟩
     have v1:IntKind.i64.wrap ((o:Int)+((i+1:Nat):Int))=((o+i+1:Nat):Int):=by rw[wrap64]<;>omega
     have v2:IntKind.i64.wrap (((o+i+1:Nat):Int)-1)=((o+i:Nat):Int):=by rw[wrap64]<;>omega
     have v3:IntKind.i64.wrap (((o+i+1:Nat):Int)+1)=((o+(i+2):Nat):Int):=by rw[wrap64]<;>omega
     rw[aLoop,F114_L0]
     simp only[↓sW,sL,h0,h1,h2,h7,h8,len9a,w,c',ia,u92,w1,ib,f110,f34,f92]
     rw[F114_J3]
     rw[show (upds e _) 40=.bool false from by simp[upds_at,upd_at],br_false]
     rw[show (upds e _) 0=.ref B 0 from(upds_get _ _ _ rfl).trans h0,show (upds e _) 2=I o from(upds_get _ _ _ rfl).trans h2,show (upds e _) 8=I (i+1:Nat) from by simp[upds_at,upd_at]]
     simp only[↓sW,sL,v1,v2,v3,r1]
     exact r M n' _ (by omega) ((upds_get _ _ _ rfl).trans ((upds_get _ _ _ rfl).trans h0)) ((upds_get _ _ _ rfl).trans ((upds_get _ _ _ rfl).trans h1)) ((upds_get _ _ _ rfl).trans ((upds_get _ _ _ rfl).trans h2)) ((upds_get _ _ _ rfl).trans ((upds_get _ _ _ rfl).trans h7)) (by simp[upds_at,upd_at]) (by simp[upds_at,upd_at])
   ·have k92:(a==92)=false:=by simp[k]
    rw[k92]at u92
    have eo:(((o+i:Nat):Int)+1)=((o+(i+1):Nat):Int):=by omega
    have eu:unq ((o+i:Nat):Int) (a::b::x.drop (i+2))=(a::(unq ((o+(i+1):Nat):Int) (x.drop (i+1))).1,(unq ((o+(i+1):Nat):Int) (x.drop (i+1))).2):=by
     simp only[unq];rw[if_neg k,eo,e1]
    rw[eu]at hd ⊢
    have wr:=wbyte_run a (n:=n) (by omega) hB (by omega)
    obtain⟨s',q',r,b2,h2,x2⟩:=ih (i+1) (by omega) (by omega) (by omega) (s.set W (113,[.ref W 0,bufV (acc++[a])])) off ds q (acc++[a]) (hb.set hW _) (by rw[set_length];exact hH1) hH (hB.set _) hW hWH (by rw[List.length_append];simp;omega) hd
    refine⟨s',q',fun M n' e hM h0 h1 h2 h7 h8=>?_,b2,h2.trans (gset_ne hWH),(Ex.setA s _ (List.mem_cons_self ..) _).trans x2⟩
    obtain⟨M,rfl⟩:∃j,M=j+1:=⟨M-1,by omega⟩
    rw[aLoop,F114_L0]
    have j1:∀(n':Nat) (K:Env→Heap→Ans) (e:Env),e 7=.ref W 0→e 9=.int .u8 a.toNat→e 8=I i→F114_J1 (den C n) n' K e s=K (upds e [(43,.int .u8 a.toNat),(44,.nili),(15,I i),(16,I (i+1:Nat)),(16,I (i+1:Nat)),(8,I (i+1:Nat))]) (s.set W (113,[.ref W 0,bufV (acc++[a])])):=by
     intro n' K e h7 h9 h8
     unfold F114_J1
     simp only[↓sW,sL,h7,h9,h8,wr,w1]
    simp only[↓sW,sL,h0,h1,h2,h7,h8,len9a,w,c',ia,u92]
    rw[j1 _ _ _ ((upds_get _ _ _ rfl).trans h7) (by simp[upds_at,upd_at]) ((upds_get _ _ _ rfl).trans h8)]
    rw[r M n' _ (by omega) ((upds_get _ _ _ rfl).trans ((upds_get _ _ _ rfl).trans h0)) ((upds_get _ _ _ rfl).trans ((upds_get _ _ _ rfl).trans h1)) ((upds_get _ _ _ rfl).trans ((upds_get _ _ _ rfl).trans h2)) ((upds_get _ _ _ rfl).trans ((upds_get _ _ _ rfl).trans h7)) (by simp[upds_at,upd_at])]
    simp
  ·exact out i (by omega) hi1 hi s off ds q acc hb hH1 hH hB hW hWH ha (m+1)
theorem unq_run {src:Bytes}{B:Nat}{s:Heap}{o:Nat}{x:Bytes}{ds:List Dg}{q:Option Nat}{off:Nat}(hb:BS src B s off ds q){H:Nat}(hH1:H<s.length)(hH:H∉JB B q)(hx:x.length<100000)(hx1:1≤x.length)(ho:o+x.length<1000000)
  (hd:(ds++(unq ((o:Int)+1) (x.drop 1)).2).length<1000000){n:Nat}(hm:x.length+40≤n) :
  ∃s' q',aCall Tryz.prog (den C n) 114 [.ref B 0,.str x,I o] s=some (.str (unq ((o:Int)+1) (x.drop 1)).1,s')∧BS src B s' off (ds++(unq ((o:Int)+1) (x.drop 1)).2) q'∧s'[H]?=s[H]?∧Ex s s' (JB B q) (JB B q'):=by
 obtain⟨n,rfl⟩:∃m,n=m+1:=⟨n-1,by omega⟩
 have hlt:=hb.lt
 have hW:s.length∉JB B q:=fun k=>Nat.lt_irrefl _ (hlt _ k)
 obtain⟨s',q',r,b2,h2,x2⟩:=unq_loop (src:=src) (x:=x) (B:=B) (H:=H) (W:=s.length) (o:=o) hx ho n (by omega) x.length 1 (by omega) (Nat.le_refl _) hx1 (s++[(113,[.nilp,.nils])]) off ds q [] (hb.app _) (by rw[app_length];omega) hH ⟨.nilp,gapp_new,.inl rfl⟩ hW (by omega) (by simp;omega) hd
 refine⟨s',q',?_,b2,h2.trans (gapp_old hH1),?_⟩
 ·rw[callR en114 (ref1 ..),F114_eq,F114]
  simp only[↓sW,sL,alloc113]
  exact r _ _ _ (by omega) (by simp[upds_at,upd_at,argEnv]) (by simp[upds_at,upd_at,argEnv]) (by simp[upds_at,upd_at,argEnv]) (by simp[upds_at,upd_at,argEnv]) (by simp[upds_at,upd_at,argEnv])
 ·refine⟨by have:=x2.len;rw[app_length]at this;omega,fun y hy hj=>?_,fun y hy=>?_⟩
  ·rw[x2.fr y (by rw[app_length];omega) (fun k=>by
    rcases List.mem_cons.1 k with k|k
    ·omega
    ·exact hj k),gapp_old hy]
  ·rcases x2.sub y (List.mem_cons_of_mem _ hy) with k|k
   ·rcases List.mem_cons.1 k with k|k
    ·exact .inr (by omega)
    ·exact .inl k
   ·rw[app_length]at k;exact .inr (by omega)
end ParF
end

section
namespace ParF
open Go Go.Abs Go.Proofs Pm AstF
def LeafOk (c:Nat)(x:Bytes):Prop:=x.length<100000∧(c=105→x≠[]∧(x.all fun b=>decide (48≤b.toNat)&&decide (b.toNat≤57))=true)∧(c=106→1≤x.length)
theorem keq_t {c d:Nat}(h:c=d):((c:Int)==(d:Int))=true:=by simp[h]
theorem keq_f {c d:Nat}(h:¬c=d):((c:Int)==(d:Int))=false:=by simp;omega
theorem tokJ1 {src:Bytes}{B:Nat}{s:Heap}{o off:Nat}{ds:List Dg}{q:Option Nat}(hb:BS src B s off ds q){H:Nat}{k:Int}{h:Hd}{ch:AV}(hs:s[H]?=some (27,hrow k h ch)){n:Nat}(hn:1≤n){e:Env}(e0:e 0=.ref B 0)(e1:e 1=.ref H 0)(e6:e 6=I o) :
  F52_J1 (den C n) n e s=some (.tup [],s.set H (27,hrow k (h.ext o off) ch)):=by
 obtain⟨n,rfl⟩:∃m,n=m+1:=⟨n-1,by omega⟩
 have lb:aLoad false false 1 (.ref B 1) s=some (I off,s):=ld (o:=1) hb.par (by decide) rfl (by decide)
 have r:=ext_run hs (o:Int) (off:Int) n
 unfold F52_J1
 simp only[↓sW,sL,e0,e1,e6,lb,r]
theorem tok_run {src:Bytes}{B:Nat}{s:Heap}{o:Nat}{ds:List Dg}{q:Option Nat}(hb:BS src B s o ds q){H k:Nat}{h:Hd}{ch:AV}(hc:ch.strip=ch)(hs:s[H]?=some (27,hrow k h ch))(hH:H∉JB B q)(hk:k<100)
  {c:Nat}{x:Bytes}{tch:AV}(hl:LeafOk c x)(ho:o+x.length<1000000)(hd:(ds++(tokH k h c x o).2).length<1000000){n:Nat}(hn:x.length+60≤n) :
  ∃s' q',aCall Tryz.prog (den C n) 52 [.ref B 0,.ref H 0,.agg [I c,.str x,tch]] s=some (.tup [],s')∧BS src B s' (o+x.length) (ds++(tokH k h c x o).2) q'∧s'[H]?=some (27,hrow k (tokH k h c x o).1 ch)∧H∉JB B q'∧Ex s s' (H::JB B q) (H::JB B q'):=by
 obtain⟨n,rfl⟩:∃m,n=m+1:=⟨n-1,by omega⟩
 obtain⟨m,hm⟩:∃m,n=m+1:=⟨n-1,by omega⟩
 have lb:aLoad false false 1 (.ref B 1) s=some (I o,s):=ld (o:=1) hb.par (by decide) rfl (by decide)
 have hBl:=glt hb.par
 have hHl:=glt hs
 have hHB:B≠H:=fun e=>hH (by rw[←e];exact List.mem_cons_self ..)
 have wo:IntKind.i64.wrap ((o:Int)+(x.length:Int))=((o+x.length:Nat):Int):=by rw[wrap64]<;>omega
 have sb:aStore 1 s (.ref B 1) (I ((o+x.length:Nat):Int))=some (s.set B (70,[.str src,I ((o+x.length:Nat):Int),dgv ds q])):=st hb.par (by decide) rfl rfl (by show 2≤3;decide)
 generalize hS1:s.set B (70,[.str src,I ((o+x.length:Nat):Int),dgv ds q])=s1 at *
 have b1:BS src B s1 (o+x.length) ds q:=by
  refine⟨by rw[←hS1,gset_eq hb.par],hb.nil,fun Q hq=>?_⟩
  obtain⟨k1,k2,j,k3⟩:=hb.row Q hq
  exact⟨k1,k2,j,by rw[←hS1,gset_ne (Ne.symm k1)];exact k3⟩
 have h1:s1[H]?=some (27,hrow k h ch):=by rw[←hS1,gset_ne hHB];exact hs
 have x1:Ex s s1 (H::JB B q) (H::JB B q):=by rw[←hS1];exact Ex.setA s _ (List.mem_cons_of_mem _ (List.mem_cons_self ..)) _
 have hl1:s1.length=s.length:=by rw[←hS1,set_length]
 -- the whole call,from what the branch does
 have bx:aLoad false false 1 (.box [I c,.str x,tch] 0) s1=some (I c,s1):=by rw[aLoad_one];rfl
 have bx1:∀s2:Heap,aLoad false false 1 (.box [I c,.str x,tch] 1) s2=some (.str x,s2):=fun s2=>by rw[aLoad_one];rfl
 have kt:∀d:Nat,c=d→((c:Int)==(d:Int))=true:=fun d e=>keq_t e
 have kf:∀d:Nat,¬c=d→((c:Int)==(d:Int))=false:=fun d e=>keq_f e
 -- nothing to see
 by_cases c1:c=101∨c=102
 ·have et:tokH k h c x o=(h,[]):=by unfold tokH;rw[if_pos c1]
  rw[et,List.append_nil]at *
  refine⟨s1,q,?_,b1,h1,hH,x1⟩
  rw[callR en52 (ref1 ..),F52_eq,F52]
  have J0:∀e:Env,e 27=.bool true→F52_J0 (den C n) n e s1=some (.tup [],s1):=by
   intro e e27
   unfold F52_J0
   simp only[↓sW,sL,e27]
  rcases c1 with c1|c1
  ·have k101:((c:Int)==101)=true:=kt 101 c1
   simp only[↓sW,sL,lb,len9a,wo,sb,kStore_ref,d52_2,k101,bx1,bx]
   exact J0 _ (by simp[upds_at,upd_at,argEnv])
  ·have k101:((c:Int)==101)=false:=kf 101 (by omega)
   have k102:((c:Int)==102)=true:=kt 102 c1
   simp only[↓sW,sL,lb,len9a,wo,sb,kStore_ref,d52_2,k101,k102,bx1,bx]
   exact J0 _ (by simp[upds_at,upd_at,argEnv])
 have ne1:¬c=101:=fun e=>c1 (.inl e)
 have ne2:¬c=102:=fun e=>c1 (.inr e)
 have k101:((c:Int)==101)=false:=kf 101 ne1
 have k102:((c:Int)==102)=false:=kf 102 ne2
 have main:∀(s':Heap),(∀e:Env,e 0=.ref B 0→e 1=.ref H 0→e 5=.box [I c,.str x,tch] 0→e 6=I o→e 22=I c→e 27=.bool false→F52_J0 (den C n) n e s1=some (.tup [],s')) →
   aCall Tryz.prog (den C (n+1)) 52 [.ref B 0,.ref H 0,.agg [I c,.str x,tch]] s=some (.tup [],s'):=by
  intro s' hJ
  rw[callR en52 (ref1 ..),F52_eq,F52]
  simp only[↓sW,sL,lb,len9a,wo,sb,kStore_ref,d52_2,k101,k102,bx1,bx]
  exact hJ _ (by simp[upds_at,upd_at,argEnv]) (by simp[upds_at,upd_at,argEnv]) (by simp[upds_at,upd_at,argEnv]) (by simp[upds_at,upd_at,argEnv]) (by simp[upds_at,upd_at,argEnv]) (by simp[upds_at,upd_at,argEnv])
 unfold tokH at hd ⊢
 rw[if_neg c1]at hd ⊢
 by_cases c8:c=108
 ·have k108:((c:Int)==108)=true:=kt 108 c8
  rw[if_pos c8]at hd ⊢
  by_cases cx:x=[]
  ·rw[if_pos cx]at hd ⊢
   obtain⟨s',q',r,b2,x2⟩:=rep_run b1 1 (o:Int) (o:Int) (by rw[List.length_append]at hd;omega)
   have r:=r m
   rw[←hm]at r
   refine⟨s',q',main s' fun e e0 e1 e5 e6 e22 e27=>?_,b2,(x2.fr H (by omega) hH).trans h1,x2.notin' (by omega) hH,x1.trans (x2.consA H)⟩
   have fx:=beq_t cx
   unfold F52_J0
   simp only[↓sW,sL,e0,e1,e5,e6,e22,e27,k108,bx1,fx,r]
  ·rw[if_neg cx]at hd ⊢
   obtain⟨s',q',r,b2,x2⟩:=rep_run b1 3 (o:Int) ((o+x.length:Nat):Int) (by rw[List.length_append]at hd;omega)
   have r:=r m
   rw[←hm]at r
   have lb1:aLoad false false 1 (.ref B 1) s1=some (I ((o+x.length:Nat):Int),s1):=ld (o:=1) b1.par (by decide) rfl (by decide)
   have h2:=(x2.fr H (by omega) hH).trans h1
   have j2:=x2.notin' (by omega) hH
   refine⟨_,q',main _ fun e e0 e1 e5 e6 e22 e27=>?_,b2.set j2 (27,hrow k (h.ext o ((o+x.length:Nat):Int)) ch),by rw[gset_eq h2];rfl,j2,x1.trans ((x2.consA H).trans (Ex.setA s' _ (List.mem_cons_self ..) _))⟩
   have fx:=beq_f cx
   unfold F52_J0
   simp only[↓sW,sL,e0,e1,e5,e6,e22,e27,k108,bx1,fx,lb1,r]
   exact tokJ1 b2 h2 (by omega) ((upds_get _ _ _ rfl).trans e0) ((upds_get _ _ _ rfl).trans e1) ((upds_get _ _ _ rfl).trans e6)
 have k108:((c:Int)==108)=false:=kf 108 c8
 rw[if_neg c8]at hd ⊢
 by_cases c3:c=103
 ·have k103:((c:Int)==103)=true:=kt 103 c3
  rw[if_pos c3]at hd ⊢
  obtain⟨s',q',r,b2,h2,j2,x2⟩:=ident_run b1 h1 hH hk (by rw[List.length_append]at hd;omega) (n:=n) (by omega)
  refine⟨_,q',main _ fun e e0 e1 e5 e6 e22 e27=>?_,b2.set j2 (27,hrow k ((identH k h x o).1.ext o ((o+x.length:Nat):Int)) ch),by rw[gset_eq h2];rfl,j2,x1.trans (x2.trans (Ex.setA s' _ (List.mem_cons_self ..) _))⟩
  unfold F52_J0
  simp only[↓sW,sL,e0,e1,e5,e6,e22,e27,k108,k103,bx1,r]
  exact tokJ1 b2 h2 (by omega) ((upds_get _ _ _ rfl).trans e0) ((upds_get _ _ _ rfl).trans e1) ((upds_get _ _ _ rfl).trans e6)
 have k103:((c:Int)==103)=false:=kf 103 c3
 rw[if_neg c3]at hd ⊢
 by_cases c5:c=105
 ·have k105:((c:Int)==105)=true:=kt 105 c5
  rw[if_pos c5]at hd ⊢
  obtain⟨s',q',r,b2,x2⟩:=int_run b1 (hl.2.1 c5).1 (hl.2.1 c5).2 hl.1 (by rw[List.length_append]at hd;omega) (n:=n) (by omega)
  have h2:=(x2.fr H (by omega) hH).trans h1
  have j2:=x2.notin' (by omega) hH
  have s2:aStore 1 s' (.ref H 1) (I (intV x o).1)=some (s'.set H (27,hrow k ⟨(intV x o).1,h.x,h.s,h.e,h.ns⟩ ch)):=stH h2 rfl rfl (by decide)
  have h3:=gset_eq (v:=(27,hrow k ⟨(intV x o).1,h.x,h.s,h.e,h.ns⟩ ch)) h2
  refine⟨_,q',main _ fun e e0 e1 e5 e6 e22 e27=>?_,(b2.set j2 _).set j2 (27,hrow k ((Hd.mk (intV x o).1 h.x h.s h.e h.ns).ext o ((o+x.length:Nat):Int)) ch),by rw[gset_eq h3];rfl,j2,x1.trans ((x2.consA H).trans ((Ex.setA s' _ (List.mem_cons_self ..) _).trans (Ex.setA _ _ (List.mem_cons_self ..) _)))⟩
  unfold F52_J0
  simp only[↓sW,sL,e0,e1,e5,e6,e22,e27,k108,k103,k105,bx1,r,s2]
  exact tokJ1 (b2.set j2 _) h3 (by omega) ((upds_get _ _ _ rfl).trans e0) ((upds_get _ _ _ rfl).trans e1) ((upds_get _ _ _ rfl).trans e6)
 have k105:((c:Int)==105)=false:=kf 105 c5
 rw[if_neg c5]at hd ⊢
 by_cases c6:c=106
 ·have k106:((c:Int)==106)=true:=kt 106 c6
  rw[if_pos c6]at hd ⊢
  obtain⟨s',q',r,b2,h2',x2⟩:=unq_run b1 (H:=H) (by omega) hH hl.1 (hl.2.2 c6) ho hd (n:=n) (by omega)
  have h2:=h2'.trans h1
  have j2:=x2.notin' (by omega) hH
  have s2:aStore 1 s' (.ref H 2) (.str (unq ((o:Int)+1) (x.drop 1)).1)=some (s'.set H (27,hrow k ⟨h.v,(unq ((o:Int)+1) (x.drop 1)).1,h.s,h.e,h.ns⟩ ch)):=stH h2 rfl rfl (by decide)
  have h3:=gset_eq (v:=(27,hrow k ⟨h.v,(unq ((o:Int)+1) (x.drop 1)).1,h.s,h.e,h.ns⟩ ch)) h2
  refine⟨_,q',main _ fun e e0 e1 e5 e6 e22 e27=>?_,(b2.set j2 _).set j2 (27,hrow k ((Hd.mk h.v (unq ((o:Int)+1) (x.drop 1)).1 h.s h.e h.ns).ext o ((o+x.length:Nat):Int)) ch),by rw[gset_eq h3];rfl,j2,x1.trans ((x2.consA H).trans ((Ex.setA s' _ (List.mem_cons_self ..) _).trans (Ex.setA _ _ (List.mem_cons_self ..) _)))⟩
  unfold F52_J0
  simp only[↓sW,sL,e0,e1,e5,e6,e22,e27,k108,k103,k105,k106,bx1,r,s2]
  exact tokJ1 (b2.set j2 _) h3 (by omega) ((upds_get _ _ _ rfl).trans e0) ((upds_get _ _ _ rfl).trans e1) ((upds_get _ _ _ rfl).trans e6)
 have k106:((c:Int)==106)=false:=kf 106 c6
 rw[if_neg c6]at hd ⊢
 have r:=flag_run h1 x m
 rw[←hm]at r
 have h3:=gset_eq (v:=(27,hrow k (flagH k h x) ch)) h1
 have b3:=(b1.set hH (27,hrow k (flagH k h x) ch)).set hH (27,hrow k ((flagH k h x).ext o ((o+x.length:Nat):Int)) ch)
 refine⟨_,q,main _ fun e e0 e1 e5 e6 e22 e27=>?_,by rw[List.append_nil];exact b3,by rw[gset_eq h3];rfl,hH,x1.trans ((Ex.setA s1 _ (List.mem_cons_self ..) _).trans (Ex.setA _ _ (List.mem_cons_self ..) _))⟩
 unfold F52_J0
 simp only[↓sW,sL,e0,e1,e5,e6,e22,e27,k108,k103,k105,k106,bx1,r]
 exact tokJ1 (b1.set hH _) h3 (by omega) ((upds_get _ _ _ rfl).trans e0) ((upds_get _ _ _ rfl).trans e1) ((upds_get _ _ _ rfl).trans e6)
end ParF
end
