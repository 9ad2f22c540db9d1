/- RfF, FstT, RfA, RfB, AstR -/
import Derived.Test.YtnhnmigafkodfaaGreatDoorC
import Derived.Test.YtnhnmigafkodfaaGreatDoorL
import Derived.Test.YtnhnmigafkodfaaGreatDoorE
import Derived.Test.YtnhnmigafkodfaaGreatDoorI
import Derived.Test.YtnhnmigafkodfaaGreatDoorH
set_option linter.all false
set_option maxRecDepth 100000
set_option maxHeartbeats 2000000

section
namespace RfF
open Go Go.Abs Go.Proofs ParF
-- glossatorref1.LastSignificant
noncomputable def F14_J1 (D:Den)(n:Nat)(k0:Env→Heap→Ans)(e:Env)(s:Heap):Ans :=
 oh (mp (aBin Tryz.prog .add 3 (e 9) (.int .i64 1)) s) fun t23 s =>oh (some (t23.strip,s)) fun t9_2 s =>
 k0 (upds e [(23,t23),(9,t9_2)]) s
noncomputable def F14_L0 (D:Den)(n:Nat)(k0:Env→Heap→Ans)(e:Env)(s:Heap):Ans :=
 oh (mp (aBin Tryz.prog .lss 3 (e 9) (e 8)) s) fun t10 s =>
 br t10 (oh (mp (aIndexAddr Tryz.prog 34 (e 7) (e 9)) s) fun t11 s =>oh (aLoad false true 2 t11 s) fun t12 s =>oh (aAlloc Tryz.prog 53 s) fun t5 s =>oh (sto (aStore 2 s t5 t12)) fun _r s =>oh (mp (aAddr 0 t5) s) fun t13 s =>oh (aLoad false false 1 t13 s) fun t14 s =>oh (mp (aBin Tryz.prog .neq 3 t14 (.int .i64 101)) s) fun t15 s =>oh (some (t15.strip,s)) fun t16 s =>oh (gd (wA t16 true) s (mp (aAddr 0 t5) s)) fun t17 s =>oh (gd (wA t16 true) s (aLoad false false 1 t17 s)) fun t18 s =>oh (gd (wA t16 true) s (mp (aBin Tryz.prog .neq 3 t18 (.int .i64 102)) s)) fun t19 s =>oh (mp (aPick t16 t19 (.bool false)) s) fun t20 s =>
 br t20 (oh (mp (aAddr 1 t5) s) fun t21 s =>oh (aLoad false false 1 t21 s) fun t22 s =>oh (some (t22,s)) fun t3_2 s =>
 F14_J1 D n k0 (upds e [(10,t10),(11,t11),(12,t12),(5,t5),(12,t12.strip),(13,t13),(14,t14),(15,t15),(16,t16),(17,t17),(18,t18),(19,t19),(20,t20),(21,t21),(22,t22),(22,t22.strip),(3,t3_2)]) s)
  (F14_J1 D n k0 (upds e [(10,t10),(11,t11),(12,t12),(5,t5),(12,t12.strip),(13,t13),(14,t14),(15,t15),(16,t16),(17,t17),(18,t18),(19,t19),(20,t20)]) s)) (oh (some ((e 3).strip,s)) fun t24 s =>oh (some (t24,s)) fun t2_2 s =>
 some (t2_2,s))
noncomputable def F14 (D:Den)(n:Nat)(t0:AV)(s:Heap):Ans :=
 oh (some ((.str []),s)) fun t2 s =>oh (some ((.str []),s)) fun t3 s =>oh (some (t0.strip,s)) fun t6 s =>oh (aCall Tryz.prog D 31 [t6.strip] s) fun t7 s =>oh (mp (aLen Tryz.prog 34 t7) s) fun t8 s =>oh (some ((.int .i64 0),s)) fun t9 s =>
 aLoop (F14_L0 D n) n (upds (argEnv [t0]) [(2,t2),(3,t3),(6,t6),(7,t7),(8,t8),(9,t9)]) s
theorem F14_eq (n:Nat)(t0:AV)(s:Heap):den C (n+1) 14 [t0] s=F14 (den C n) n t0 s :=
 (den_body rfl Tryz.func14 _ _).trans (by kernel_rfl)
theorem en14:enterable Tryz.prog 14=true:=by kernel_rfl
-- glossatorref1.Tokens
noncomputable def F31_L0 (D:Den)(n:Nat)(k0:Env→Heap→Ans)(e:Env)(s:Heap):Ans :=
 oh (some ((e 0).strip,s)) fun t5 s =>oh (mp (aLen Tryz.prog 9 t5) s) fun t6 s =>oh (mp (aBin Tryz.prog .gtr 3 t6 (.int .i64 0)) s) fun t7 s =>
 br t7 (oh (some ((e 0).strip,s)) fun t8 s =>oh (aCall Tryz.prog D 48 [t8.strip] s) fun t9 s =>oh (aAlloc Tryz.prog 53 s) fun t4 s =>oh (sto (aStore 2 s t4 t9)) fun _r s =>oh (some ((e 3),s)) fun t10 s =>oh (aLoad false true 2 t4 s) fun t11 s =>oh (mp (aBuildSlice Tryz.prog 34 1 [(0,t11)]) s) fun t12 s =>oh (mp (aAppend Tryz.prog 34 34 t10 t12) s) fun t13 s =>oh (some (t13,s)) fun t3_2 s =>oh (some ((e 0).strip,s)) fun t14 s =>oh (mp (aAddr 1 t4) s) fun t15 s =>oh (aLoad false false 1 t15 s) fun t16 s =>oh (mp (aLen Tryz.prog 9 t16) s) fun t17 s =>oh (mp (aSl Tryz.prog 9 t14 (some t17) none none) s) fun t18 s =>oh (some (t18,s)) fun t0_2 s =>
 k0 (upds e [(5,t5),(6,t6),(7,t7),(8,t8),(9,t9),(4,t4),(9,t9.strip),(3,(e 3).strip),(10,t10),(11,t11),(12,t12),(10,t10.strip),(13,t13),(13,t13.strip),(3,t3_2),(14,t14),(15,t15),(16,t16),(17,t17),(18,t18),(18,t18.strip),(0,t0_2)]) s) (oh (some ((e 3).strip,s)) fun t19 s =>oh (some (t19,s)) fun t2_2 s =>
 some (t2_2,s))
noncomputable def F31 (D:Den)(n:Nat)(t0:AV)(s:Heap):Ans :=
 oh (some (.nils,s)) fun t2 s =>oh (some (.nils,s)) fun t3 s =>
 aLoop (F31_L0 D n) n (upds (argEnv [t0]) [(2,t2),(3,t3)]) s
theorem F31_eq (n:Nat)(t0:AV)(s:Heap):den C (n+1) 31 [t0] s=F31 (den C n) n t0 s :=
 (den_body rfl Tryz.func31 _ _).trans (by kernel_rfl)
theorem en31:enterable Tryz.prog 31=true:=by kernel_rfl
-- glossatorref1.FirstToken
noncomputable def F48_L0 (D:Den)(n:Nat)(k0:Env→Heap→Ans)(e:Env)(s:Heap):Ans :=
 oh (mp (aBin Tryz.prog .lss 3 (e 68) (e 67)) s) fun t69 s =>
 br t69 (oh (mp (aIndexAddr Tryz.prog 38 (e 66) (e 68)) s) fun t70 s =>oh (aLoad false false 1 t70 s) fun t71 s =>oh (some (t71,s)) fun t9 s =>oh (aLoad false false 1 (e 1) s) fun t72 s =>oh (mp (aLen Tryz.prog 9 t72) s) fun t73 s =>oh (some (t9.strip,s)) fun t74 s =>oh (mp (aLen Tryz.prog 9 t74) s) fun t75 s =>oh (mp (aBin Tryz.prog .geq 3 t73 t75) s) fun t76 s =>oh (some (t76.strip,s)) fun t77 s =>oh (gd (wA t77 true) s (aLoad false false 1 (e 1) s)) fun t78 s =>oh (gd (wA t77 true) s (some (t9.strip,s))) fun t79 s =>oh (gd (wA t77 true) s (mp (aLen Tryz.prog 9 t79) s)) fun t80 s =>oh (gd (wA t77 true) s (mp (aSl Tryz.prog 9 t78 none (some t80) none) s)) fun t81 s =>oh (gd (wA t77 true) s (some (t9.strip,s))) fun t82 s =>oh (gd (wA t77 true) s (mp (aBin Tryz.prog .eql 9 t81 t82) s)) fun t83 s =>oh (mp (aPick t77 t83 (.bool false)) s) fun t84 s =>
 br t84 (oh (some ((e 3).strip,s)) fun t85 s =>oh (some (t9.strip,s)) fun t86 s =>oh (mp (aLen Tryz.prog 9 t86) s) fun t87 s =>oh (aCallV Tryz.prog D t85 [(.int .i64 107),t87] s) fun t88 s =>oh (sto (aStore 2 s (e 2) t88)) fun _r s =>
 fin1 ((aLoad false true 2 (e 2) s).map (·.1)) s) (oh (mp (aBin Tryz.prog .add 3 (e 68) (.int .i64 1)) s) fun t89 s =>oh (some (t89.strip,s)) fun t68_2 s =>
 k0 (upds e [(69,t69),(70,t70),(71,t71),(71,t71.strip),(9,t9),(72,t72),(73,t73),(74,t74),(75,t75),(76,t76),(77,t77),(78,t78),(79,t79),(80,t80),(81,t81),(82,t82),(83,t83),(84,t84),(89,t89),(68,t68_2)]) s)) (oh (some ((e 3).strip,s)) fun t90 s =>oh (aCallV Tryz.prog D t90 [(.int .i64 108),(.int .i64 1)] s) fun t91 s =>oh (sto (aStore 2 s (e 2) t91)) fun _r s =>
 fin1 ((aLoad false true 2 (e 2) s).map (·.1)) s)
noncomputable def F48 (D:Den)(n:Nat)(t0:AV)(s:Heap):Ans :=
 oh (aBox false 9 t0 s) fun t1 s =>oh (aAlloc Tryz.prog 53 s) fun t2 s =>oh (some ((.fn 93 [] [t1]),s)) fun t10 s =>oh (some (t10,s)) fun t3 s =>oh (aLoad false false 1 t1 s) fun t11 s =>oh (aCall Tryz.prog D 94 [t11.strip,(.int .i64 0)] s) fun t12 s =>oh (some (t12,s)) fun t4 s =>oh (some (t4.strip,s)) fun t13 s =>oh (mp (aBin Tryz.prog .gtr 3 t13 (.int .i64 0)) s) fun t14 s =>
 br t14 (oh (some (t3.strip,s)) fun t15 s =>oh (some (t4.strip,s)) fun t16 s =>oh (aCallV Tryz.prog D t15 [(.int .i64 101),t16] s) fun t17 s =>oh (sto (aStore 2 s t2 t17)) fun _r s =>
 fin1 ((aLoad false true 2 t2 s).map (·.1)) s) (oh (aLoad false false 1 t1 s) fun t18 s =>oh (mp (aLen Tryz.prog 9 t18) s) fun t19 s =>oh (mp (aBin Tryz.prog .gtr 3 t19 (.int .i64 1)) s) fun t20 s =>oh (some (t20.strip,s)) fun t21 s =>oh (gd (wA t21 true) s (aLoad false false 1 t1 s)) fun t22 s =>oh (gd (wA t21 true) s (mp (aSl Tryz.prog 9 t22 none (some (.int .i64 2)) none) s)) fun t23 s =>oh (gd (wA t21 true) s (mp (aBin Tryz.prog .eql 9 t23 (.str [47,47])) s)) fun t24 s =>oh (mp (aPick t21 t24 (.bool false)) s) fun t25 s =>
 br t25 (oh (some (t3.strip,s)) fun t26 s =>oh (aLoad false false 1 t1 s) fun t27 s =>oh (aCall Tryz.prog D 94 [t27.strip,(.int .i64 1)] s) fun t28 s =>oh (aCallV Tryz.prog D t26 [(.int .i64 102),t28] s) fun t29 s =>oh (sto (aStore 2 s t2 t29)) fun _r s =>
 fin1 ((aLoad false true 2 t2 s).map (·.1)) s) (oh (aLoad false false 1 t1 s) fun t30 s =>oh (aCall Tryz.prog D 94 [t30.strip,(.int .i64 3)] s) fun t31 s =>oh (some (t31,s)) fun t5 s =>oh (some (t5.strip,s)) fun t32 s =>oh (mp (aBin Tryz.prog .gtr 3 t32 (.int .i64 0)) s) fun t33 s =>
 br t33 (oh (some (t3.strip,s)) fun t34 s =>oh (some (t5.strip,s)) fun t35 s =>oh (aCallV Tryz.prog D t34 [(.int .i64 105),t35] s) fun t36 s =>oh (sto (aStore 2 s t2 t36)) fun _r s =>
 fin1 ((aLoad false true 2 t2 s).map (·.1)) s) (oh (aLoad false false 1 t1 s) fun t37 s =>oh (aCall Tryz.prog D 94 [t37.strip,(.int .i64 2)] s) fun t38 s =>oh (some (t38,s)) fun t6 s =>oh (some (t6.strip,s)) fun t39 s =>oh (mp (aBin Tryz.prog .gtr 3 t39 (.int .i64 0)) s) fun t40 s =>
 br t40 (oh (aCall Tryz.prog D 96 [] s) fun t41 s1 =>oh (aLoad false false 1 t1 s1) fun t42 s2 =>oh (some (t6.strip,s2)) fun t43 s3 =>oh (mp (aSl Tryz.prog 9 t42 none (some t43) none) s3) fun t44 s4 =>oh (aCall Tryz.prog D 95 [t41.strip,t44.strip] s4) fun t45 s5 =>
 drawOK C 48 (regOps Tryz.f48 12) [(dyn (kCall []) s s1),(kLoad false t1),.silent,.silent,(dyn (kCall [t41.strip,t44.strip]) s4 s5)] <|
 br t45 (oh (some (t3.strip,s5)) fun t46 s =>oh (some (t6.strip,s)) fun t47 s =>oh (aCallV Tryz.prog D t46 [(.int .i64 104),t47] s) fun t48 s =>oh (sto (aStore 2 s t2 t48)) fun _r s =>
 fin1 ((aLoad false true 2 t2 s).map (·.1)) s) (oh (some (t3.strip,s5)) fun t49 s =>oh (some (t6.strip,s)) fun t50 s =>oh (aCallV Tryz.prog D t49 [(.int .i64 103),t50] s) fun t51 s =>oh (sto (aStore 2 s t2 t51)) fun _r s =>
 fin1 ((aLoad false true 2 t2 s).map (·.1)) s)) (oh (aLoad false false 1 t1 s) fun t52 s =>oh (mp (aIndex Tryz.prog 9 t52 (.int .i64 0)) s) fun t53 s =>oh (mp (aBin Tryz.prog .eql 5 t53 (.int .u8 34)) s) fun t54 s =>
 br t54 (oh (aLoad false false 1 t1 s) fun t55 s =>oh (aCall Tryz.prog D 97 [t55.strip] s) fun t56 s =>oh (some (t56,s)) fun t7 s =>oh (some (t7.strip,s)) fun t57 s =>oh (mp (aBin Tryz.prog .gtr 3 t57 (.int .i64 0)) s) fun t58 s =>
 br t58 (oh (some (t3.strip,s)) fun t59 s =>oh (some (t7.strip,s)) fun t60 s =>oh (aCallV Tryz.prog D t59 [(.int .i64 106),t60] s) fun t61 s =>oh (sto (aStore 2 s t2 t61)) fun _r s =>
 fin1 ((aLoad false true 2 t2 s).map (·.1)) s) (oh (some (t3.strip,s)) fun t62 s =>oh (aLoad false false 1 t1 s) fun t63 s =>oh (aCall Tryz.prog D 94 [t63.strip,(.int .i64 1)] s) fun t64 s =>oh (aCallV Tryz.prog D t62 [(.int .i64 108),t64] s) fun t65 s =>oh (sto (aStore 2 s t2 t65)) fun _r s =>
 fin1 ((aLoad false true 2 t2 s).map (·.1)) s)) (oh (aCall Tryz.prog D 98 [] s) fun t66 s =>oh (mp (aLen Tryz.prog 38 t66) s) fun t67 s =>oh (some ((.int .i64 0),s)) fun t68 s =>
 aLoop (F48_L0 D n) n (upds (argEnv [t0]) [(1,t1),(2,t2),(10,t10),(10,t10.strip),(3,t3),(11,t11),(12,t12),(12,t12.strip),(4,t4),(13,t13),(14,t14),(18,t18),(19,t19),(20,t20),(21,t21),(22,t22),(23,t23),(24,t24),(25,t25),(30,t30),(31,t31),(31,t31.strip),(5,t5),(32,t32),(33,t33),(37,t37),(38,t38),(38,t38.strip),(6,t6),(39,t39),(40,t40),(52,t52),(53,t53),(54,t54),(66,t66),(67,t67),(68,t68)]) s)))))
theorem F48_eq (n:Nat)(t0:AV)(s:Heap):den C (n+1) 48 [t0] s=F48 (den C n) n t0 s :=
 (den_body rfl Tryz.func48 _ _).trans (by kernel_rfl)
theorem d48_12 (x:Ans):drawOK C 48 (regOps Tryz.f48 12) [.silent,.silent,.silent,.silent,.silent] x=x:=drawOK_ok (by kernel_rfl)
theorem en48:enterable Tryz.prog 48=true:=by kernel_rfl
-- glossatorref1.FirstToken 1
noncomputable def F93 (D:Den)(n:Nat)(t0 t1 t2:AV)(s:Heap):Ans :=
 oh (aAlloc Tryz.prog 53 s) fun t5 s =>oh (some (t0.strip,s)) fun t6 s =>oh (aLoad false false 1 t2 s) fun t7 s =>oh (some (t1.strip,s)) fun t8 s =>oh (mp (aSl Tryz.prog 9 t7 none (some t8) none) s) fun t9 s =>oh (mp (aBuild Tryz.prog 53 [(0,t6),(1,t9)]) s) fun t10 s =>oh (sto (aStore 2 s t5 t10)) fun _r s =>
 fin1 ((aLoad false true 2 t5 s).map (·.1)) s
theorem F93_eq (n:Nat)(t0 t1 t2:AV)(s:Heap):den C (n+1) 93 [t0,t1,t2] s=F93 (den C n) n t0 t1 t2 s :=
 (den_body rfl Tryz.func93 _ _).trans (by kernel_rfl)
theorem en93:enterable Tryz.prog 93=true:=by kernel_rfl
-- glossatorref1.run
noncomputable def F94_J1 (D:Den)(n:Nat)(k0:Env→Heap→Ans)(e:Env)(s:Heap):Ans :=
 oh (some ((e 7).strip,s)) fun t48 s =>oh (mp (aUn .not t48) s) fun t49 s =>
 br t49 (oh (some ((e 5).strip,s)) fun t50 s =>oh (some (t50,s)) fun t4_2 s =>
 some (t4_2,s)) (oh (some ((e 5).strip,s)) fun t12 s =>oh (mp (aBin Tryz.prog .add 3 t12 (.int .i64 1)) s) fun t13 s =>oh (some (t13,s)) fun t5_2 s =>
 k0 (upds e [(48,t48),(49,t49),(12,t12),(13,t13),(13,t13.strip),(5,t5_2)]) s)
noncomputable def F94_L0 (D:Den)(n:Nat)(k0:Env→Heap→Ans)(e:Env)(s:Heap):Ans :=
 oh (some ((e 5).strip,s)) fun t8 s =>oh (some ((e 0).strip,s)) fun t9 s =>oh (mp (aLen Tryz.prog 9 t9) s) fun t10 s =>oh (mp (aBin Tryz.prog .lss 3 t8 t10) s) fun t11 s =>
 br t11 (oh (some ((e 0).strip,s)) fun t14 s =>oh (some ((e 5).strip,s)) fun t15 s =>oh (mp (aIndex Tryz.prog 9 t14 t15) s) fun t16 s =>oh (some (t16,s)) fun t6 s =>oh (some (t6.strip,s)) fun t17 s =>oh (mp (aBin Tryz.prog .neq 5 t17 (.int .u8 10)) s) fun t18 s =>oh (some (t18,s)) fun t7 s =>oh (some ((e 1).strip,s)) fun t19 s =>oh (mp (aBin Tryz.prog .eql 3 t19 (.int .i64 0)) s) fun t21 s =>oh (some (t21,s)) fun t20 s =>
 br t20 (oh (some (t6.strip,s)) fun t22 s =>oh (mp (aBin Tryz.prog .eql 5 t22 (.int .u8 32)) s) fun t23 s =>oh (some (t23.strip,s)) fun t24 s =>oh (gd (wA t24 false) s (some (t6.strip,s))) fun t25 s =>oh (gd (wA t24 false) s (mp (aBin Tryz.prog .eql 5 t25 (.int .u8 9)) s)) fun t26 s =>oh (mp (aPick t24 (.bool true) t26) s) fun t27 s =>oh (some (t27.strip,s)) fun t28 s =>oh (gd (wA t28 false) s (some (t6.strip,s))) fun t29 s =>oh (gd (wA t28 false) s (mp (aBin Tryz.prog .eql 5 t29 (.int .u8 10)) s)) fun t30 s =>oh (mp (aPick t28 (.bool true) t30) s) fun t31 s =>oh (some (t31.strip,s)) fun t32 s =>oh (gd (wA t32 false) s (some (t6.strip,s))) fun t33 s =>oh (gd (wA t32 false) s (mp (aBin Tryz.prog .eql 5 t33 (.int .u8 13)) s)) fun t34 s =>oh (mp (aPick t32 (.bool true) t34) s) fun t35 s =>oh (some (t35,s)) fun t7_2 s =>
 F94_J1 D n k0 (upds e [(8,t8),(9,t9),(10,t10),(11,t11),(14,t14),(15,t15),(16,t16),(16,t16.strip),(6,t6),(17,t17),(18,t18),(18,t18.strip),(7,t7),(19,t19),(21,t21),(21,t21.strip),(20,t20),(22,t22),(23,t23),(24,t24),(25,t25),(26,t26),(27,t27),(28,t28),(29,t29),(30,t30),(31,t31),(32,t32),(33,t33),(34,t34),(35,t35),(35,t35.strip),(7,t7_2)]) s) (oh (mp (aBin Tryz.prog .eql 3 t19 (.int .i64 2)) s) fun t37 s =>oh (some (t37,s)) fun t36 s =>
 br t36 (oh (some (t6.strip,s)) fun t38 s =>oh (aCall Tryz.prog D 159 [t38.strip] s) fun t39 s =>oh (some (t39,s)) fun t7_3 s =>
 F94_J1 D n k0 (upds e [(8,t8),(9,t9),(10,t10),(11,t11),(14,t14),(15,t15),(16,t16),(16,t16.strip),(6,t6),(17,t17),(18,t18),(18,t18.strip),(7,t7),(19,t19),(21,t21),(21,t21.strip),(20,t20),(37,t37),(37,t37.strip),(36,t36),(38,t38),(39,t39),(39,t39.strip),(7,t7_3)]) s) (oh (mp (aBin Tryz.prog .eql 3 t19 (.int .i64 3)) s) fun t41 s =>oh (some (t41,s)) fun t40 s =>
 br t40 (oh (some (t6.strip,s)) fun t42 s =>oh (mp (aBin Tryz.prog .geq 5 t42 (.int .u8 48)) s) fun t43 s =>oh (some (t43.strip,s)) fun t44 s =>oh (gd (wA t44 true) s (some (t6.strip,s))) fun t45 s =>oh (gd (wA t44 true) s (mp (aBin Tryz.prog .leq 5 t45 (.int .u8 57)) s)) fun t46 s =>oh (mp (aPick t44 t46 (.bool false)) s) fun t47 s =>oh (some (t47,s)) fun t7_4 s =>
 F94_J1 D n k0 (upds e [(8,t8),(9,t9),(10,t10),(11,t11),(14,t14),(15,t15),(16,t16),(16,t16.strip),(6,t6),(17,t17),(18,t18),(18,t18.strip),(7,t7),(19,t19),(21,t21),(21,t21.strip),(20,t20),(37,t37),(37,t37.strip),(36,t36),(41,t41),(41,t41.strip),(40,t40),(42,t42),(43,t43),(44,t44),(45,t45),(46,t46),(47,t47),(47,t47.strip),(7,t7_4)]) s)
  (F94_J1 D n k0 (upds e [(8,t8),(9,t9),(10,t10),(11,t11),(14,t14),(15,t15),(16,t16),(16,t16.strip),(6,t6),(17,t17),(18,t18),(18,t18.strip),(7,t7),(19,t19),(21,t21),(21,t21.strip),(20,t20),(37,t37),(37,t37.strip),(36,t36),(41,t41),(41,t41.strip),(40,t40)]) s)))) (oh (some ((e 0).strip,s)) fun t51 s =>oh (mp (aLen Tryz.prog 9 t51) s) fun t52 s =>oh (some (t52,s)) fun t4_3 s =>
 some (t4_3,s))
noncomputable def F94 (D:Den)(n:Nat)(t0 t1:AV)(s:Heap):Ans :=
 oh (some ((.int .i64 0),s)) fun t4 s =>oh (some ((.int .i64 0),s)) fun t5 s =>
 aLoop (F94_L0 D n) n (upds (argEnv [t0,t1]) [(4,t4),(5,t5)]) s
theorem F94_eq (n:Nat)(t0 t1:AV)(s:Heap):den C (n+1) 94 [t0,t1] s=F94 (den C n) n t0 t1 s :=
 (den_body rfl Tryz.func94 _ _).trans (by kernel_rfl)
theorem en94:enterable Tryz.prog 94=true:=by kernel_rfl
-- glossatorref1.Contains string
noncomputable def F95_L0 (D:Den)(n:Nat)(k0:Env→Heap→Ans)(e:Env)(s:Heap):Ans :=
 oh (mp (aBin Tryz.prog .lss 3 (e 9) (e 8)) s) fun t10 s =>
 br t10 (oh (mp (aIndexAddr Tryz.prog 38 (e 7) (e 9)) s) fun t11 s =>oh (aLoad false false 1 t11 s) fun t12 s =>oh (some (t12,s)) fun t6 s =>oh (some ((e 1).strip,s)) fun t13 s =>oh (some (t6.strip,s)) fun t14 s =>oh (mp (aBin Tryz.prog .eql 9 t13 t14) s) fun t15 s =>
 br t15 (oh (some ((.bool true),s)) fun t4_2 s =>
 some (t4_2,s)) (oh (mp (aBin Tryz.prog .add 3 (e 9) (.int .i64 1)) s) fun t16 s =>oh (some (t16.strip,s)) fun t9_2 s =>
 k0 (upds e [(10,t10),(11,t11),(12,t12),(12,t12.strip),(6,t6),(13,t13),(14,t14),(15,t15),(16,t16),(9,t9_2)]) s)) (oh (some ((.bool false),s)) fun t4_3 s =>
 some (t4_3,s))
noncomputable def F95 (D:Den)(n:Nat)(t0 t1:AV)(s:Heap):Ans :=
 oh (some ((.bool false),s)) fun t4 s =>oh (some (t0.strip,s)) fun t7 s =>oh (mp (aLen Tryz.prog 38 t7) s) fun t8 s =>oh (some ((.int .i64 0),s)) fun t9 s =>
 aLoop (F95_L0 D n) n (upds (argEnv [t0,t1]) [(4,t4),(7,t7),(8,t8),(9,t9)]) s
theorem F95_eq (n:Nat)(t0 t1:AV)(s:Heap):den C (n+1) 95 [t0,t1] s=F95 (den C n) n t0 t1 s :=
 (den_body rfl Tryz.func95 _ _).trans (by kernel_rfl)
theorem en95:enterable Tryz.prog 95=true:=by kernel_rfl
-- glossatorref1.Keywords
noncomputable def F96 (D:Den)(n:Nat)(s:Heap):Ans :=
 oh (some (.nils,s)) fun t0 s =>oh (mp (aBuildSlice Tryz.prog 38 22 [(0,(.str [117,115,101])),(1,(.str [112,117,98])),(2,(.str [97,115])),(3,(.str [102,110])),(4,(.str [115,116,114,117,99,116])),(5,(.str [101,110,117,109])),(6,(.str [116,114,97,105,116])),(7,(.str [105,109,112,108])),(8,(.str [102,111,114])),(9,(.str [99,111,110,115,116])),(10,(.str [109,97,99,114,111])),(11,(.str [108,101,116])),(12,(.str [109,117,116])),(13,(.str [119,104,105,108,101])),(14,(.str [114,101,116,117,114,110])),(15,(.str [109,97,116,99,104])),(16,(.str [105,102])),(17,(.str [101,108,115,101])),(18,(.str [110,101,119])),(19,(.str [116,114,117,101])),(20,(.str [102,97,108,115,101])),(21,(.str [116,121,112,101]))]) s) fun t1 s =>oh (some (t1,s)) fun t0_2 s =>
 some (t0_2,s)
theorem F96_eq (n:Nat)(s:Heap):den C (n+1) 96 [] s=F96 (den C n) n s :=
 (den_body rfl Tryz.func96 _ _).trans (by kernel_rfl)
theorem en96:enterable Tryz.prog 96=true:=by kernel_rfl
-- glossatorref1.literal
noncomputable def F97_L0 (D:Den)(n:Nat)(k0:Env→Heap→Ans)(e:Env)(s:Heap):Ans :=
 oh (some ((e 4).strip,s)) fun t5 s =>oh (some ((e 0).strip,s)) fun t6 s =>oh (mp (aLen Tryz.prog 9 t6) s) fun t7 s =>oh (mp (aBin Tryz.prog .lss 3 t5 t7) s) fun t8 s =>oh (some (t8.strip,s)) fun t9 s =>oh (gd (wA t9 true) s (some ((e 0).strip,s))) fun t10 s =>oh (gd (wA t9 true) s (some ((e 4).strip,s))) fun t11 s =>oh (gd (wA t9 true) s (mp (aIndex Tryz.prog 9 t10 t11) s)) fun t12 s =>oh (gd (wA t9 true) s (mp (aBin Tryz.prog .neq 5 t12 (.int .u8 10)) s)) fun t13 s =>oh (mp (aPick t9 t13 (.bool false)) s) fun t14 s =>
 br t14 (oh (some ((e 0).strip,s)) fun t17 s =>oh (some ((e 4).strip,s)) fun t18 s =>oh (mp (aIndex Tryz.prog 9 t17 t18) s) fun t19 s =>oh (mp (aBin Tryz.prog .eql 5 t19 (.int .u8 34)) s) fun t20 s =>oh (some (t20.strip,s)) fun t21 s =>oh (gd (wA t21 true) s (some ((e 3).strip,s))) fun t22 s =>oh (gd (wA t21 true) s (mp (aUn .not t22) s)) fun t23 s =>oh (mp (aPick t21 t23 (.bool false)) s) fun t24 s =>
 br t24 (oh (some ((e 4).strip,s)) fun t25 s =>oh (mp (aBin Tryz.prog .add 3 t25 (.int .i64 1)) s) fun t26 s =>oh (some (t26,s)) fun t2_2 s =>
 some (t2_2,s)) (oh (some ((e 0).strip,s)) fun t27 s =>oh (some ((e 4).strip,s)) fun t28 s =>oh (mp (aIndex Tryz.prog 9 t27 t28) s) fun t29 s =>oh (mp (aBin Tryz.prog .eql 5 t29 (.int .u8 92)) s) fun t30 s =>oh (some (t30.strip,s)) fun t31 s =>oh (gd (wA t31 true) s (some ((e 3).strip,s))) fun t32 s =>oh (gd (wA t31 true) s (mp (aUn .not t32) s)) fun t33 s =>oh (mp (aPick t31 t33 (.bool false)) s) fun t34 s =>oh (some (t34,s)) fun t3_2 s =>oh (some ((e 4).strip,s)) fun t15 s =>oh (mp (aBin Tryz.prog .add 3 t15 (.int .i64 1)) s) fun t16 s =>oh (some (t16,s)) fun t4_2 s =>
 k0 (upds e [(5,t5),(6,t6),(7,t7),(8,t8),(9,t9),(10,t10),(11,t11),(12,t12),(13,t13),(14,t14),(17,t17),(18,t18),(19,t19),(20,t20),(21,t21),(22,t22),(23,t23),(24,t24),(27,t27),(28,t28),(29,t29),(30,t30),(31,t31),(32,t32),(33,t33),(34,t34),(34,t34.strip),(3,t3_2),(15,t15),(16,t16),(16,t16.strip),(4,t4_2)]) s)) (oh (some ((.int .i64 0),s)) fun t2_3 s =>
 some (t2_3,s))
noncomputable def F97 (D:Den)(n:Nat)(t0:AV)(s:Heap):Ans :=
 oh (some ((.int .i64 0),s)) fun t2 s =>oh (some ((.bool false),s)) fun t3 s =>oh (some ((.int .i64 1),s)) fun t4 s =>
 aLoop (F97_L0 D n) n (upds (argEnv [t0]) [(2,t2),(3,t3),(4,t4)]) s
theorem F97_eq (n:Nat)(t0:AV)(s:Heap):den C (n+1) 97 [t0] s=F97 (den C n) n t0 s :=
 (den_body rfl Tryz.func97 _ _).trans (by kernel_rfl)
theorem en97:enterable Tryz.prog 97=true:=by kernel_rfl
-- glossatorref1.Puncts
noncomputable def F98 (D:Den)(n:Nat)(s:Heap):Ans :=
 oh (some (.nils,s)) fun t0 s =>oh (mp (aBuildSlice Tryz.prog 38 26 [(0,(.str [58,58])),(1,(.str [61,62])),(2,(.str [45,62])),(3,(.str [61,61])),(4,(.str [38,38])),(5,(.str [124,124])),(6,(.str [40])),(7,(.str [41])),(8,(.str [123])),(9,(.str [125])),(10,(.str [91])),(11,(.str [93])),(12,(.str [60])),(13,(.str [62])),(14,(.str [44])),(15,(.str [59])),(16,(.str [58])),(17,(.str [46])),(18,(.str [61])),(19,(.str [43])),(20,(.str [45])),(21,(.str [42])),(22,(.str [47])),(23,(.str [33])),(24,(.str [38])),(25,(.str [124]))]) s) fun t1 s =>oh (some (t1,s)) fun t0_2 s =>
 some (t0_2,s)
theorem F98_eq (n:Nat)(s:Heap):den C (n+1) 98 [] s=F98 (den C n) n s :=
 (den_body rfl Tryz.func98 _ _).trans (by kernel_rfl)
theorem en98:enterable Tryz.prog 98=true:=by kernel_rfl
-- glossatorref1.isWordByte
noncomputable def F159 (D:Den)(n:Nat)(t0:AV)(s:Heap):Ans :=
 oh (some ((.bool false),s)) fun t2 s =>oh (some (t0.strip,s)) fun t3 s =>oh (mp (aBin Tryz.prog .geq 5 t3 (.int .u8 97)) s) fun t4 s =>oh (some (t4.strip,s)) fun t5 s =>oh (gd (wA t5 true) s (some (t0.strip,s))) fun t6 s =>oh (gd (wA t5 true) s (mp (aBin Tryz.prog .leq 5 t6 (.int .u8 122)) s)) fun t7 s =>oh (mp (aPick t5 t7 (.bool false)) s) fun t8 s =>oh (some (t8.strip,s)) fun t9 s =>oh (gd (wA t9 false) s (some (t0.strip,s))) fun t10 s =>oh (gd (wA t9 false) s (mp (aBin Tryz.prog .geq 5 t10 (.int .u8 65)) s)) fun t11 s =>oh (gd (wA t9 false) s (some (t11.strip,s))) fun t12 s =>oh (gd (wA t12 true) s (some (t0.strip,s))) fun t13 s =>oh (gd (wA t12 true) s (mp (aBin Tryz.prog .leq 5 t13 (.int .u8 90)) s)) fun t14 s =>oh (gd (wA t9 false) s (mp (aPick t12 t14 (.bool false)) s)) fun t15 s =>oh (mp (aPick t9 (.bool true) t15) s) fun t16 s =>oh (some (t16.strip,s)) fun t17 s =>oh (gd (wA t17 false) s (some (t0.strip,s))) fun t18 s =>oh (gd (wA t17 false) s (mp (aBin Tryz.prog .eql 5 t18 (.int .u8 95)) s)) fun t19 s =>oh (mp (aPick t17 (.bool true) t19) s) fun t20 s =>oh (some (t20.strip,s)) fun t21 s =>oh (gd (wA t21 false) s (some (t0.strip,s))) fun t22 s =>oh (gd (wA t21 false) s (mp (aBin Tryz.prog .geq 5 t22 (.int .u8 48)) s)) fun t23 s =>oh (gd (wA t21 false) s (some (t23.strip,s))) fun t24 s =>oh (gd (wA t24 true) s (some (t0.strip,s))) fun t25 s =>oh (gd (wA t24 true) s (mp (aBin Tryz.prog .leq 5 t25 (.int .u8 57)) s)) fun t26 s =>oh (gd (wA t21 false) s (mp (aPick t24 t26 (.bool false)) s)) fun t27 s =>oh (mp (aPick t21 (.bool true) t27) s) fun t28 s =>oh (some (t28,s)) fun t2_2 s =>
 some (t2_2,s)
theorem F159_eq (n:Nat)(t0:AV)(s:Heap):den C (n+1) 159 [t0] s=F159 (den C n) n t0 s :=
 (den_body rfl Tryz.func159 _ _).trans (by kernel_rfl)
theorem en159:enterable Tryz.prog 159=true:=by kernel_rfl
end RfF
end

section
namespace LexF
open Go
def kwR:List (List UInt8):=[[117,115,101],[112,117,98],[97,115],[102,110],[115,116,114,117,99,116],[101,110,117,109],[116,114,97,105,116],[105,109,112,108],[102,111,114],[99,111,110,115,116],[109,97,99,114,111],[108,101,116],[109,117,116],[119,104,105,108,101],[114,101,116,117,114,110],[109,97,116,99,104],[105,102],[101,108,115,101],[110,101,119],[116,114,117,101],[102,97,108,115,101],[116,121,112,101]]
def ptR:List (List UInt8):=[[58,58],[61,62],[45,62],[61,61],[38,38],[124,124],[40],[41],[123],[125],[91],[93],[60],[62],[44],[59],[58],[46],[61],[43],[45],[42],[47],[33],[38],[124]]
theorem kwR_eq:kwR=kw:=by decide +kernel
theorem ptR_eq:ptR=two++punct.map fun c=>[c]:=by decide +kernel
theorem two_len:∀w∈two,w.length=2:=by decide +kernel
def lit:List UInt8→Nat→Bool→Nat
 | [],_,_=>0
 | c::r,i,e=>if c=10 then 0 else if c=34∧e=false then i+1 else lit r (i+1) (decide (c=92)&&!e)
theorem lit_sc:∀(l:List UInt8)(i:Nat),lit l i false=(sc l i).getD 0
 | [],i=>rfl
 | [b],i=>by
  rw[lit,sc]
  by_cases h1:b=10
  ·subst h1;rfl
  ·rw[if_neg h1]
   by_cases h2:b=34
   ·subst h2;rfl
   ·rw[if_neg (by simp[h2]),if_neg h2];rfl
 | b::c::r,i=>by
  rw[lit,sc]
  by_cases h1:b=10
  ·subst h1;rfl
  ·rw[if_neg h1,if_neg h1]
   by_cases h2:b=34
   ·subst h2;rfl
   ·rw[if_neg (by simp[h2]),if_neg h2]
    by_cases h3:b=92
    ·subst h3
     by_cases h4:c=10
     ·subst h4
      rw[if_neg (by simp),lit,if_pos rfl]
      cases r<;>rfl
     ·rw[if_pos ⟨rfl,h4⟩,lit,if_neg h4,if_neg (by simp),←lit_sc r (i+2)]
      simp
    ·rw[if_neg (by simp[h3]),←lit_sc (c::r) (i+1)]
     simp[h3]
def ptF (l:List UInt8):List (List UInt8)→Option Nat
 | []=>none
 | p::ps=>if l.take p.length=p then some p.length else ptF l ps
theorem ptF_two (l:List UInt8)(B:List (List UInt8)):∀A:List (List UInt8),(∀w∈A,w.length=2)→ptF l (A++B)=if l.take 2∈A then some 2 else ptF l B
 | [],h=>by simp
 | p::A,h=>by
  have hp:=h p (List.mem_cons_self ..)
  rw[List.cons_append,ptF,hp]
  by_cases k:l.take 2=p
  ·rw[if_pos k,if_pos (by rw[k];exact List.mem_cons_self ..)]
  ·rw[if_neg k,ptF_two l B A fun w hw=>h w (List.mem_cons_of_mem _ hw)]
   by_cases m:l.take 2∈A
   ·rw[if_pos m,if_pos (List.mem_cons_of_mem _ m)]
   ·rw[if_neg m,if_neg (fun e=>by rcases List.mem_cons.1 e with e|e;exact k e;exact m e)]
theorem ptF_one (c:UInt8)(r:List UInt8):∀A:List UInt8,ptF (c::r) (A.map fun c=>[c])=if c∈A then some 1 else none
 | []=>by simp[ptF]
 | b::A=>by
  rw[List.map_cons,ptF]
  have e:(c::r).take [b].length=[c]:=rfl
  rw[e]
  by_cases k:c=b
  ·subst k;rw[if_pos rfl,if_pos (List.mem_cons_self ..)];rfl
  ·rw[if_neg (by simpa using k),ptF_one c r A]
   by_cases m:c∈A
   ·rw[if_pos m,if_pos (List.mem_cons_of_mem _ m)]
   ·rw[if_neg m,if_neg (fun e=>by rcases List.mem_cons.1 e with e|e;exact k e;exact m e)]
theorem indexByte_mem (l:List UInt8)(c:UInt8):0≤Lib.indexByte l c↔c∈l:=by
 induction l with
 | nil=>simp[Lib.indexByte]
 | cons b l ih =>
  rw[Lib.indexByte,List.mem_cons]
  by_cases h:b=c
  ·subst h;simp
  ·have hb:(b==c)=false:=by simpa using h
   have hc:¬c=b:=fun e=>h e.symm
   have g:=Lib.indexByte_ge l c
   rw[hb]
   simp only[Bool.false_eq_true,if_false,hc,false_or]
   split
   ·rename_i k
    have k:Lib.indexByte l c=-1:=by simpa using k
    rw[←ih];omega
   ·rename_i k
    have k:Lib.indexByte l c≠-1:=by simpa using k
    rw[←ih];omega
theorem two_short (l:List UInt8)(h:l.take 2∈two):1<l.length:=by
 have:=two_len _ h
 rw[List.length_take]at this;omega
def firstR (l:List UInt8):Nat×Nat :=
 if 0<scanN isSp l then(scanN isSp l,101)
 else if 1<l.length∧l.take 2=[47,47] then(scanN notNL l,102)
 else if 0<scanN isDig l then(scanN isDig l,105)
 else if 0<scanN isWord l then(if l.take (scanN isWord l)∈kwR then(scanN isWord l,104) else(scanN isWord l,103))
 else if l.head?=some 34 then(if 0<lit (l.drop 1) 1 false then(lit (l.drop 1) 1 false,106) else(scanN notNL l,108))
 else match ptF l ptR with
  | some n=>(n,107)
  | none=>(1,108)
theorem scan_zero {p:UInt8→Bool}{c:UInt8}{r:List UInt8}:0<scanN p (c::r)↔p c=true:=by
 unfold scanN
 rw[List.takeWhile_cons]
 cases p c<;>simp
theorem dig_not_let:∀c:UInt8,isDig c=true→isLet c=false:=by
 intro c h
 unfold isDig at h
 unfold isLet
 simp only[Bool.and_eq_true,decide_eq_true_eq]at h
 have:¬97≤c.toNat:=by omega
 have:¬65≤c.toNat:=by omega
 have:c.toNat≠95:=by omega
 simp[*]
theorem firstR_eq (c:UInt8)(r:List UInt8):firstR (c::r)=first (c::r):=by
 rw[firstR,first]
 by_cases h1:isSp c=true
 ·rw[if_pos (scan_zero.2 h1),if_pos h1]
 rw[if_neg (fun e=>h1 (scan_zero.1 e)),if_neg h1]
 have hp:(1<(c::r).length∧(c::r).take 2=[47,47])↔Lib.hasPrefix (c::r) [47,47]=true:=by
  cases r with
  | nil=>simp[Lib.hasPrefix,List.isPrefixOf]
  | cons d r =>
   simp[Lib.hasPrefix,List.isPrefixOf]
   constructor
   ·rintro⟨rfl,rfl⟩;exact⟨rfl,rfl⟩
   ·rintro⟨rfl,rfl⟩;exact⟨rfl,rfl⟩
 by_cases h2:Lib.hasPrefix (c::r) [47,47]=true
 ·rw[if_pos (hp.2 h2),if_pos h2]
 rw[if_neg (fun e=>h2 (hp.1 e)),if_neg h2]
 by_cases h3:isDig c=true
 ·rw[if_pos (scan_zero.2 h3),if_neg (by rw[dig_not_let c h3];simp),if_pos h3]
 rw[if_neg (fun e=>h3 (scan_zero.1 e))]
 by_cases h4:isLet c=true
 ·rw[if_pos (scan_zero.2 (by unfold isWord;rw[h4];rfl)),if_pos h4,kwR_eq]
 rw[if_neg (fun e=>by have:=scan_zero.1 e;unfold isWord at this;simp[h3,h4]at this),if_neg h4,if_neg h3]
 have hd:(c::r).head?=some 34↔c=34:=by simp
 by_cases h5:c=34
 ·subst h5
  rw[if_pos (hd.2 rfl),if_pos rfl,lit_sc,scanStr]
  cases hs:sc ((34::r).drop 1) 1 with
  | none =>
   rw[Option.getD_none,if_neg (by omega)]
   show (scanN notNL (34::r),108)=(1+scanN notNL r,108)
   unfold scanN
   rw[List.takeWhile_cons,if_pos (by decide),List.length_cons,Nat.add_comm]
  | some n =>
   have:=(sc_bounds _ _ _ hs).1
   rw[Option.getD_some,if_pos (by omega)]
 rw[if_neg (fun e=>h5 (hd.1 e)),if_neg h5,ptR_eq,ptF_two _ _ _ two_len,ptF_one]
 by_cases h6:(c::r).take 2∈two
 ·rw[if_pos h6,if_pos ⟨two_short _ h6,h6⟩]
 rw[if_neg h6,if_neg (show ¬(1<(c::r).length∧(c::r).take 2∈two) from fun e=>h6 e.2)]
 by_cases h7:c∈punct
 ·rw[if_pos h7,if_pos ((indexByte_mem _ _).2 h7)]
 ·rw[if_neg h7,if_neg (fun e=>h7 ((indexByte_mem _ _).1 e))]
end LexF
end

section
namespace LexF
open Go Go.Abs Go.Proofs ParF RfF
theorem i8 {c k:UInt8}(z:Int)(hz:z=k.toNat):((c.toNat:Int)==z)=decide (c=k):=eqb c k z hz
theorem wordB_den (c:UInt8)(n:Nat):den C (n+1) 159 [U c] []=some (.bool (isWord c),[]):=by
 have e95:((c.toNat:Int)==95)=(c.toNat==95):=by
  by_cases h:c.toNat=95
  ·rw[h];rfl
  ·rw[beq_eq_false_iff_ne.2 h,beq_eq_false_iff_ne.2 (by omega)]
 rw[F159_eq,F159]
 have w:isWord c=(isLet c || isDig c):=rfl
 by_cases h1:97≤c.toNat<;>by_cases h2:c.toNat≤122<;>by_cases h3:65≤c.toNat<;>by_cases h4:c.toNat≤90<;>by_cases h5:48≤c.toNat<;>by_cases h6:c.toNat≤57
 all_goals first
  | (exfalso;omega)
  | skip
 all_goals
  have k1:decide ((97:Int)≤(c.toNat:Int))=decide (97≤c.toNat):=by rw[decide_eq_decide];omega
  have k2:decide ((c.toNat:Int)≤122)=decide (c.toNat≤122):=by rw[decide_eq_decide];omega
  have k3:decide ((65:Int)≤(c.toNat:Int))=decide (65≤c.toNat):=by rw[decide_eq_decide];omega
  have k4:decide ((c.toNat:Int)≤90)=decide (c.toNat≤90):=by rw[decide_eq_decide];omega
  have k5:decide ((48:Int)≤(c.toNat:Int))=decide (48≤c.toNat):=by rw[decide_eq_decide];omega
  have k6:decide ((c.toNat:Int)≤57)=decide (c.toNat≤57):=by rw[decide_eq_decide];omega
  cases h7:(c.toNat==95)
 all_goals
  simp -implicitDefEqProofs only[sL,k1,k2,k3,k4,k5,k6,e95,h7,w,isLet,isDig,h1,h2,h3,h4,h5,h6,decide_true,decide_false,Bool.and_true,Bool.and_false,Bool.true_and,Bool.false_and,Bool.or_true,Bool.or_false,Bool.true_or,Bool.false_or]
theorem wordB_one (c:UInt8)(f:Nat)(s:Heap):aCall Tryz.prog (den C (f+1)) 159 [U c] s=some (.bool (isWord c),s):=by
 simp[aCall,en159,wordB_den,noRefL_cons,noRefL_nil,noRef_int,noRef_bool]
theorem run_loop (l:List UInt8)(hl:l.length<1000000)(q:Int)(p:UInt8→Bool)
  (hp:∃N,∀f,N≤f→∀n' k0 e s (i:Nat) c,e 0=.str l→e 5=I i→e 1=I q→l[i]?=some c→i<l.length→∃E,F94_L0 (den C f) n' k0 e s=F94_J1 (den C f) n' k0 E s∧E 7=.bool (p c)∧E 5=I i∧E 0=.str l∧E 1=I q) :
  ∃N,∀f,N≤f→∀(k i:Nat),l.length-i=k→i≤l.length→∀r,k<r→∀n' e s,e 0=.str l→e 5=I i→e 1=I q→aLoop (F94_L0 (den C f) n') r e s=some (I (i+scanN p (l.drop i):Nat),s):=by
 obtain⟨N,hp⟩:=hp
 refine⟨N,fun f hf k=>?_⟩
 induction k with
 | zero =>
  intro i hk hi r hr n' e s e0 e5 e1
  obtain⟨r,rfl⟩:∃j,r=j+1:=⟨r-1,by omega⟩
  have hi':i=l.length:=by omega
  subst hi'
  have c:¬l.length<l.length:=by omega
  have hz:scanN p (l.drop l.length)=0:=by rw[List.drop_of_length_le (by omega)];rfl
  rw[aLoop,F94_L0,hz]
  simp -implicitDefEqProofs only[sL,e0,e5,e1,len9,c]
  try rfl
 | succ k ih =>
  intro i hk hi r hr n' e s e0 e5 e1
  obtain⟨r,rfl⟩:∃j,r=j+1:=⟨r-1,by omega⟩
  have c:i<l.length:=by omega
  obtain⟨E,h1,h7,h5,h0,hq⟩:=hp f hf n' (aLoop (F94_L0 (den C f) n') r) e s i _ e0 e5 e1 (List.getElem?_eq_getElem c) c
  have hs:=scan_at (p:=p) c
  generalize l[i]=b at *
  have w:=wadd1 (a:=i) (by omega)
  rw[aLoop,h1,F94_J1,hs]
  cases hb:p b with
  | false =>
   rw[hb]at h7
   simp -implicitDefEqProofs only[sL,h7,h5,Bool.not_false]
   try rfl
  | true =>
   rw[hb]at h7
   simp -implicitDefEqProofs only[sL,h7,h5,w,Bool.not_true]
   rw[show i+(1+scanN p (l.drop (i+1)))=(i+1)+scanN p (l.drop (i+1)) by omega]
   exact ih (i+1) (by omega) (by omega) r (by omega) n' _ s ((upds_get _ _ _ rfl).trans h0) rfl ((upds_get _ _ _ rfl).trans hq)
theorem run_run (l:List UInt8)(hl:l.length<1000000)(q:Int)(p:UInt8→Bool)
  (hp:∃N,∀f,N≤f→∀n' k0 e s (i:Nat) c,e 0=.str l→e 5=I i→e 1=I q→l[i]?=some c→i<l.length→∃E,F94_L0 (den C f) n' k0 e s=F94_J1 (den C f) n' k0 E s∧E 7=.bool (p c)∧E 5=I i∧E 0=.str l∧E 1=I q):AC C 94 [.str l,I q] (I (scanN p l:Nat)):=by
 obtain⟨N,h⟩:=run_loop l hl q p hp
 refine .intro en94 rfl rfl ⟨N+l.length+1,fun f hf=>⟨[],?_⟩⟩
 have h:=h f (by omega) l.length 0 (by omega) (by omega) f (by omega) f
 rw[List.drop_zero,Nat.zero_add]at h
 rw[F94_eq,F94]
 exact h _ [] rfl rfl rfl
theorem run0 (l:List UInt8)(hl:l.length<1000000):AC C 94 [.str l,I 0] (I (scanN isSp l:Nat)):=by
 refine run_run l hl 0 isSp ⟨0,fun f hf n' k0 e s i c e0 e5 e1 hc hi=>?_⟩
 have ix:=idx9 hc
 have z0:((0:Int)==0)=true:=rfl
 have k1:((c.toNat:Int)==32)=decide (c=32):=i8 32 rfl
 have k2:((c.toNat:Int)==9)=decide (c=9):=i8 9 rfl
 have k3:((c.toNat:Int)==10)=decide (c=10):=i8 10 rfl
 have k4:((c.toNat:Int)==13)=decide (c=13):=i8 13 rfl
 have hi':(i:Int)<(l.length:Int):=by omega
 have hsp:isSp c=(decide (c=32) || (decide (c=9) || (decide (c=10) || decide (c=13)))):=by
  unfold isSp
  rw[Bool.eq_iff_iff]
  simp only[decide_eq_true_eq,Bool.or_eq_true,indexByte_mem]
  simp
 rw[F94_L0,hsp]
 cases d1:decide (c=32)<;>cases d2:decide (c=9)<;>cases d3:decide (c=10)<;>cases d4:decide (c=13)
 all_goals
  simp -implicitDefEqProofs only[sL,e0,e5,e1,len9,hi',ix,z0,k1,k2,k3,k4,d1,d2,d3,d4,Bool.true_or,Bool.false_or]
  refine⟨_,rfl,?_,?_,?_,?_⟩
  ·exact rfl
  ·exact(upds_get _ _ _ rfl).trans e5
  ·exact(upds_get _ _ _ rfl).trans e0
  ·exact(upds_get _ _ _ rfl).trans e1
theorem run1 (l:List UInt8)(hl:l.length<1000000):AC C 94 [.str l,I 1] (I (scanN notNL l:Nat)):=by
 refine run_run l hl 1 notNL ⟨0,fun f hf n' k0 e s i c e0 e5 e1 hc hi=>?_⟩
 have ix:=idx9 hc
 have z0:((1:Int)==0)=false:=rfl
 have z2:((1:Int)==2)=false:=rfl
 have z3:((1:Int)==3)=false:=rfl
 have k1:=ne10 c
 have hi':(i:Int)<(l.length:Int):=by omega
 rw[F94_L0]
 simp -implicitDefEqProofs only[sL,e0,e5,e1,len9,hi',ix,z0,z2,z3,k1]
 refine⟨_,rfl,?_,?_,?_,?_⟩
 ·exact rfl
 ·exact(upds_get _ _ _ rfl).trans e5
 ·exact(upds_get _ _ _ rfl).trans e0
 ·exact(upds_get _ _ _ rfl).trans e1
theorem run2 (l:List UInt8)(hl:l.length<1000000):AC C 94 [.str l,I 2] (I (scanN isWord l:Nat)):=by
 refine run_run l hl 2 isWord ⟨10,fun f hf n' k0 e s i c e0 e5 e1 hc hi=>?_⟩
 have ix:=idx9 hc
 have z0:((2:Int)==0)=false:=rfl
 have z2:((2:Int)==2)=true:=rfl
 have hi':(i:Int)<(l.length:Int):=by omega
 obtain⟨f,rfl⟩:∃j,f=j+1:=⟨f-1,by omega⟩
 have q:∀s,aCall Tryz.prog (den C (f+1)) 159 [U c] s=some (.bool (isWord c),s):=wordB_one c f
 rw[F94_L0]
 simp -implicitDefEqProofs only[sL,e0,e5,e1,len9,hi',ix,z0,z2,q]
 refine⟨_,rfl,?_,?_,?_,?_⟩
 ·exact rfl
 ·exact(upds_get _ _ _ rfl).trans e5
 ·exact(upds_get _ _ _ rfl).trans e0
 ·exact(upds_get _ _ _ rfl).trans e1
theorem run3 (l:List UInt8)(hl:l.length<1000000):AC C 94 [.str l,I 3] (I (scanN isDig l:Nat)):=by
 refine run_run l hl 3 isDig ⟨0,fun f hf n' k0 e s i c e0 e5 e1 hc hi=>?_⟩
 have ix:=idx9 hc
 have z0:((3:Int)==0)=false:=rfl
 have z2:((3:Int)==2)=false:=rfl
 have z3:((3:Int)==3)=true:=rfl
 have hi':(i:Int)<(l.length:Int):=by omega
 have w:isDig c=(decide (48≤c.toNat)&&decide (c.toNat≤57)):=rfl
 have k5:decide ((48:Int)≤(c.toNat:Int))=decide (48≤c.toNat):=by rw[decide_eq_decide];omega
 have k6:decide ((c.toNat:Int)≤57)=decide (c.toNat≤57):=by rw[decide_eq_decide];omega
 rw[F94_L0,w]
 by_cases h5:48≤c.toNat<;>by_cases h6:c.toNat≤57
 all_goals
  simp -implicitDefEqProofs only[sL,e0,e5,e1,len9,hi',ix,z0,z2,z3,k5,k6,h5,h6,decide_true,decide_false,Bool.and_true,Bool.and_false,Bool.true_and,Bool.false_and]
  refine⟨_,rfl,?_,?_,?_,?_⟩
  ·exact rfl
  ·exact(upds_get _ _ _ rfl).trans e5
  ·exact(upds_get _ _ _ rfl).trans e0
  ·exact(upds_get _ _ _ rfl).trans e1
theorem has_loop (w:List UInt8)(xs:List (List UInt8))(hx:xs.length<1000000):∀(k i:Nat),xs.length-i=k→i≤xs.length→∀D m,k<m→∀n' e s,e 7=.sl 9 1 (strs xs) .sh→e 1=.str w→e 8=I xs.length→e 9=I i →
  aLoop (F95_L0 D n') m e s=some (.bool (decide (w∈xs.drop i)),s):=by
 intro k
 induction k with
 | zero =>
  intro i hk hi D m hm n' e s h7 h1 h8 h9
  obtain⟨m,rfl⟩:∃j,m=j+1:=⟨m-1,by omega⟩
  have c:¬(i:Int)<(xs.length:Int):=by omega
  have hz:decide (w∈xs.drop i)=false:=by rw[List.drop_of_length_le (by omega)];simp
  rw[aLoop,F95_L0,hz]
  simp -implicitDefEqProofs only[sL,h7,h1,h8,h9,c]
 | succ k ih =>
  intro i hk hi D m hm n' e s h7 h1 h8 h9
  obtain⟨m,rfl⟩:∃j,m=j+1:=⟨m-1,by omega⟩
  have ci:i<xs.length:=by omega
  have c:(i:Int)<(xs.length:Int):=by omega
  have e1:=idx69 (f:=.sh) (List.getElem?_eq_getElem ci)
  have e2:=wadd1 (a:=i) (by omega)
  have q:=ih (i+1) (by omega) (by omega) D m (by omega) n'
  rw[aLoop,F95_L0,List.drop_eq_getElem_cons ci]
  generalize xs[i]=x at *
  cases h:w==x with
  | true =>
   have hw:w=x:=by simpa using h
   have hz:decide (w∈x::xs.drop (i+1))=true:=by simp[hw]
   rw[hz]
   simp -implicitDefEqProofs only[sL,h7,h1,h8,h9,c,e1,h]
  | false =>
   have hw:¬w=x:=by simpa using h
   have hz:decide (w∈x::xs.drop (i+1))=decide (w∈xs.drop (i+1)):=by simp[hw]
   rw[hz]
   simp -implicitDefEqProofs only[sL,h7,h1,h8,h9,c,e1,e2,h]
   exact q _ s ((upds_get _ _ _ rfl).trans h7) ((upds_get _ _ _ rfl).trans h1) ((upds_get _ _ _ rfl).trans h8) rfl
theorem has_run (xs:List (List UInt8))(hx:xs.length<1000)(w:List UInt8):AC C 95 [.sl 9 1 (strs xs) .sh,.str w] (.bool (decide (w∈xs))):=by
 refine .intro en95 (by simp[noRefL_cons,noRefL_nil,noRef_str,noRef_sl,strs_noRef]) rfl ⟨xs.length+1,fun n hn=>⟨[],?_⟩⟩
 have l:=len69 xs .sh
 have q:=has_loop w xs (by omega) _ 0 rfl (by omega) (den C n) n (by omega) n
 rw[List.drop_zero]at q
 rw[F95_eq,F95]
 simp -implicitDefEqProofs only[sL,strip_sh,l]
 exact q _ [] rfl rfl rfl rfl
theorem kwR_run:AC C 96 [] (.sl 9 1 (strs kwR) .own):=by
 refine .intro en96 rfl (by rw[noRef_sl,strs_noRef]) ⟨0,fun n hn=>⟨[],?_⟩⟩
 rw[F96_eq]
 kernel_rfl
theorem ptR_run:AC C 98 [] (.sl 9 1 (strs ptR) .own):=by
 refine .intro en98 rfl (by rw[noRef_sl,strs_noRef]) ⟨0,fun n hn=>⟨[],?_⟩⟩
 rw[F98_eq]
 kernel_rfl
theorem lit_loop (l:List UInt8)(hl:l.length<1000000):∀(k i:Nat)(b:Bool),l.length-i=k→i≤l.length→∀D r,k<r→∀n' e s,e 0=.str l→e 4=I i→e 3=.bool b→aLoop (F97_L0 D n') r e s=some (I (lit (l.drop i) i b:Nat),s):=by
 intro k
 induction k with
 | zero =>
  intro i b hk hi D r hr n' e s e0 e4 e3
  obtain⟨r,rfl⟩:∃j,r=j+1:=⟨r-1,by omega⟩
  have c:¬(i:Int)<(l.length:Int):=by omega
  have hz:lit (l.drop i) i b=0:=by rw[List.drop_of_length_le (by omega)];rfl
  rw[aLoop,F97_L0,hz]
  simp -implicitDefEqProofs only[sL,e0,e4,e3,len9,c]
  try rfl
 | succ k ih =>
  intro i b hk hi D r hr n' e s e0 e4 e3
  obtain⟨r,rfl⟩:∃j,r=j+1:=⟨r-1,by omega⟩
  have ci:i<l.length:=by omega
  have c:(i:Int)<(l.length:Int):=by omega
  have ix:=idx9 (List.getElem?_eq_getElem ci)
  have w:=wadd1 (a:=i) (by omega)
  rw[aLoop,F97_L0,List.drop_eq_getElem_cons ci,lit]
  have q:=fun b=>ih (i+1) b (by omega) (by omega) D r (by omega) n'
  generalize l[i]=x at *
  have k1:=ne10 x
  have k2:((x.toNat:Int)==34)=decide (x=34):=i8 34 rfl
  have k3:((x.toNat:Int)==92)=decide (x=92):=i8 92 rfl
  by_cases h1:x=10
  ·have nl:notNL x=false:=by rw[h1];rfl
   rw[if_pos h1]
   simp -implicitDefEqProofs only[sL,e0,e4,e3,len9,c,ix,k1,nl]
   try rfl
  ·have nl:notNL x=true:=by simpa[notNL] using h1
   rw[if_neg h1]
   by_cases h2:x=34
   ·have d2:decide (x=34)=true:=by simpa using h2
    cases b with
    | false =>
     rw[if_pos ⟨h2,rfl⟩]
     simp -implicitDefEqProofs only[sL,e0,e4,e3,len9,c,ix,k1,nl,k2,d2,w]
     try rfl
    | true =>
     have d3:decide (x=92)=false:=by subst h2;rfl
     rw[if_neg (by simp),d3]
     simp -implicitDefEqProofs only[sL,e0,e4,e3,len9,c,ix,k1,nl,k2,d2,k3,d3,w]
     exact q false _ s ((upds_get _ _ _ rfl).trans e0) rfl rfl
   ·have d2:decide (x=34)=false:=by simpa using h2
    rw[if_neg (fun e=>h2 e.1)]
    cases d3:decide (x=92) with
    | false =>
     simp -implicitDefEqProofs only[sL,e0,e4,e3,len9,c,ix,k1,nl,k2,d2,k3,d3,w]
     exact q false _ s ((upds_get _ _ _ rfl).trans e0) rfl rfl
    | true =>
     simp -implicitDefEqProofs only[sL,e0,e4,e3,len9,c,ix,k1,nl,k2,d2,k3,d3,w,Bool.true_and]
     exact q (!b) _ s ((upds_get _ _ _ rfl).trans e0) rfl (by simp[upds_at,upd_at])
theorem lit_run (l:List UInt8)(hl:l.length<1000000)(h1:1≤l.length):AC C 97 [.str l] (I (lit (l.drop 1) 1 false:Nat)):=by
 refine .intro en97 rfl rfl ⟨l.length+1,fun f hf=>⟨[],?_⟩⟩
 rw[F97_eq,F97]
 exact lit_loop l hl (l.length-1) 1 false rfl h1 (den C f) f (by omega) f _ [] rfl rfl rfl
theorem token_den (l:List UInt8)(k:Int)(n:Nat)(h:n≤l.length)(f:Nat):den C (f+1) 93 [I k,I n,.box [.str l] 0] []=some (.agg [I k,.str (l.take n)],[(53,[I k,.str (l.take n)])]):=by
 have z:aAlloc Tryz.prog 53 []=some (.ref 0 0,[(53,[I 0,.str []])]):=alloc39 []
 have ls:aLoad false false 1 (.box [.str l] 0) [(53,[I 0,.str []])]=some (.str l,[(53,[I 0,.str []])]):=rfl
 have e1:=subTake (s:=l) (i:=n) h
 have e2:=build39 k (l.take n)
 have st:aStore 2 [(53,[I 0,.str []])] (.ref 0 0) (.agg [I k,.str (l.take n)])=some [(53,[I k,.str (l.take n)])]:=rfl
 have ld:aLoad false true 2 (.ref 0 0) [(53,[I k,.str (l.take n)])]=some (.agg [I k,.str (l.take n)],[(53,[I k,.str (l.take n)])]):=rfl
 rw[F93_eq,F93]
 simp -implicitDefEqProofs only[sL,z,ls,e1,e2,st,ld,fin1,Option.map_some]
 try rfl
theorem token_one (l:List UInt8)(k:Int)(n:Nat)(h:n≤l.length)(f:Nat)(s:Heap):aCall Tryz.prog (den C (f+1)) 93 [I k,I n,.box [.str l] 0] s=some (.agg [I k,.str (l.take n)],s):=by
 have e:=token_den l k n h f
 simp[aCall,en93,e,noRefL_cons,noRefL_nil,noRef_int,noRef_agg,noRef_str,AV.noRef]
end LexF
end

section
namespace LexF
open Go Go.Abs Go.Proofs ParF RfF
theorem cvT (D:Den)(g:FuncId)(x y b:AV)(s:Heap):aCallV Tryz.prog D (.fn g [] [b]) [x,y] s=aCall Tryz.prog D g [x.strip,y.strip,b.strip] s:=rfl
def ptT (l:List UInt8):Option Nat→AV
 | some n=>.agg [I 107,.str (l.take n)]
 | none=>.agg [I 108,.str (l.take 1)]
theorem strEq9 (x y:List UInt8):aBin Tryz.prog .eql 9 (.str x) (.str y)=some (.bool (x==y)):=by simp[aBin,strBin]
theorem pt_loop (l:List UInt8)(hl:1≤l.length):∀(k i:Nat),ptR.length-i=k→i≤ptR.length→∀f r,k<r→∀n' e,e 1=.box [.str l] 0→e 2=.ref 0 0→e 3=.fn 93 [] [.box [.str l] 0]→e 66=.sl 9 1 (strs ptR) .own→e 67=I ptR.length→e 68=I i →
  ∃s',aLoop (F48_L0 (den C (f+1)) n') r e [(53,[I 0,.str []])]=some (ptT l (ptF l (ptR.drop i)),s'):=by
 have z1:=token_one l 108 1 hl
 have lb:∀s,aLoad false false 1 (.box [.str l] 0) s=some (.str l,s):=fun s=>rfl
 have st:∀(k:Int) (n:Nat),aStore 2 [(53,[I 0,.str []])] (.ref 0 0) (.agg [I k,.str (l.take n)])=some [(53,[I k,.str (l.take n)])]:=fun _ _=>rfl
 have ld:∀(k:Int) (n:Nat),aLoad false true 2 (.ref 0 0) [(53,[I k,.str (l.take n)])]=some (.agg [I k,.str (l.take n)],[(53,[I k,.str (l.take n)])]):=fun _ _=>rfl
 have hpl:ptR.length=26:=by decide
 have sb:(AV.box [.str l] 0).strip=.box [.str l] 0:=rfl
 have sf:(AV.fn 93 [] [.box [.str l] 0]).strip=.fn 93 [] [.box [.str l] 0]:=rfl
 intro k
 induction k with
 | zero =>
  intro i hk hi f r hr n' e h1 h2 h3 h66 h67 h68
  obtain⟨r,rfl⟩:∃j,r=j+1:=⟨r-1,by omega⟩
  have c:¬(i:Int)<(ptR.length:Int):=by omega
  have hz:ptF l (ptR.drop i)=none:=by rw[List.drop_of_length_le (by omega)];rfl
  have z1:∀s,aCall Tryz.prog (den C (f+1)) 93 [I 108,I 1,.box [.str l] 0] s=_:=z1 f
  rw[hz]
  refine⟨[(53,[I 108,.str (l.take 1)])],?_⟩
  rw[aLoop,F48_L0]
  simp -implicitDefEqProofs only[sL,h68,h67,c,h3,sf,cvT,sb,z1,h2,st,ld,fin1,Option.map_some]
  try rfl
 | succ k ih =>
  intro i hk hi f r hr n' e h1 h2 h3 h66 h67 h68
  obtain⟨r,rfl⟩:∃j,r=j+1:=⟨r-1,by omega⟩
  have ci:i<ptR.length:=by omega
  have c:(i:Int)<(ptR.length:Int):=by omega
  have e1:=idx69 (f:=.own) (List.getElem?_eq_getElem ci)
  have w:=wadd1 (a:=i) (by omega)
  have q:=ih (i+1) (by omega) (by omega) f r (by omega) n'
  rw[List.drop_eq_getElem_cons ci,ptF]
  generalize ptR[i]=p at *
  have lp:∀s,aLoad false false 1 (.box [.str p] 0) s=some (.str p,s):=fun s=>rfl
  by_cases hp:l.take p.length=p
  ·have hle:p.length≤l.length:=by
    have:=congrArg List.length hp
    rw[List.length_take]at this;omega
   have hle':(p.length:Int)≤(l.length:Int):=by omega
   have e2:=subTake hle
   have z2:=token_one l 107 p.length hle f
   rw[hp]at e2
   rw[if_pos hp]
   have pp:(p==p)=true:=by simp
   refine⟨[(53,[I 107,.str (l.take p.length)])],?_⟩
   have z2:∀s,aCall Tryz.prog (den C (f+1)) 93 [I 107,I p.length,.box [.str l] 0] s=_:=z2
   rw[aLoop,F48_L0]
   simp -implicitDefEqProofs only[sL,h68,h67,c,h66,e1,lp,h1,lb,len9,hle',e2,strEq9,pp,h3,sf,cvT,sb,z2,h2,st,ld,fin1,Option.map_some]
   try rfl
  ·rw[if_neg hp]
   by_cases hle:p.length≤l.length
   ·have hle':(p.length:Int)≤(l.length:Int):=by omega
    have e2:=subTake hle
    have pp:(l.take p.length==p)=false:=by simpa using hp
    rw[aLoop,F48_L0]
    simp -implicitDefEqProofs only[sL,h68,h67,c,h66,e1,lp,h1,lb,len9,hle',e2,strEq9,pp,w]
    refine q _ ?_ ?_ ?_ ?_ ?_ ?_
    ·exact(upds_get _ _ _ rfl).trans h1
    ·exact(upds_get _ _ _ rfl).trans h2
    ·exact(upds_get _ _ _ rfl).trans h3
    ·exact(upds_get _ _ _ rfl).trans h66
    ·exact(upds_get _ _ _ rfl).trans h67
    ·exact rfl
   ·have hle':¬(p.length:Int)≤(l.length:Int):=by omega
    rw[aLoop,F48_L0]
    simp -implicitDefEqProofs only[sL,h68,h67,c,h66,e1,lp,h1,lb,len9,hle',w]
    refine q _ ?_ ?_ ?_ ?_ ?_ ?_
    ·exact(upds_get _ _ _ rfl).trans h1
    ·exact(upds_get _ _ _ rfl).trans h2
    ·exact(upds_get _ _ _ rfl).trans h3
    ·exact(upds_get _ _ _ rfl).trans h66
    ·exact(upds_get _ _ _ rfl).trans h67
    ·exact rfl
theorem first76 (b:UInt8)(r:List UInt8)(hl:(b::r).length<100000):AC C 48 [.str (b::r)] (.agg [I (first (b::r)).2,.str ((b::r).take (first (b::r)).1)]):=by
 rw[←firstR_eq]
 have hl1:1≤(b::r).length:=by rw[List.length_cons];omega
 have hix:(b::r)[0]?=some b:=rfl
 have ix:aIndex Tryz.prog 9 (.str (b::r)) (.int .i64 0)=some (U b):=idx9 (i:=0) hix
 have hd:(b::r).head?=some 34↔b=34:=by simp
 have hlit:lit ((b::r).drop 1) 1 false≤(b::r).length:=by
  rw[lit_sc]
  cases hs:sc ((b::r).drop 1) 1 with
  | none=>rw[Option.getD_none];omega
  | some n =>
   have:=(sc_bounds _ _ _ hs).2
   rw[Option.getD_some]
   rw[List.length_drop]at this;omega
 unfold firstR
 generalize hL:b::r=l at *
 have b0:=scanN_le isSp l
 have b1:=scanN_le notNL l
 have b2:=scanN_le isWord l
 have b3:=scanN_le isDig l
 obtain⟨N0,q0⟩:=AC.at (run0 l (by omega))
 obtain⟨N1,q1⟩:=AC.at (run1 l (by omega))
 obtain⟨N2,q2⟩:=AC.at (run2 l (by omega))
 obtain⟨N3,q3⟩:=AC.at (run3 l (by omega))
 obtain⟨N4,q4⟩:=AC.at kwR_run
 obtain⟨N5,q5⟩:=AC.at (has_run kwR (by decide) (l.take (scanN isWord l)))
 obtain⟨N6,q6⟩:=AC.at (lit_run l (by omega) hl1)
 obtain⟨N7,q7⟩:=AC.at ptR_run
 refine .intro en48 rfl (by split<;>(try split)<;>(try split)<;>(try split)<;>(try split)<;>(try split)<;>rfl) ⟨N0+N1+N2+N3+N4+N5+N6+N7+100,fun f hf=>?_⟩
 obtain⟨f,rfl⟩:∃j,f=j+1:=⟨f-1,by omega⟩
 have q0:∀s,aCall Tryz.prog (den C (f+1)) 94 [.str l,.int .i64 0] s=_:=q0 (f+1) (by omega)
 have q1:∀s,aCall Tryz.prog (den C (f+1)) 94 [.str l,.int .i64 1] s=_:=q1 (f+1) (by omega)
 have q2:∀s,aCall Tryz.prog (den C (f+1)) 94 [.str l,.int .i64 2] s=_:=q2 (f+1) (by omega)
 have q3:∀s,aCall Tryz.prog (den C (f+1)) 94 [.str l,.int .i64 3] s=_:=q3 (f+1) (by omega)
 have q4:=q4 (f+1) (by omega)
 have q5:=q5 (f+1) (by omega)
 have q6:=q6 (f+1) (by omega)
 have q7:=q7 (f+1) (by omega)
 have tk:=fun(k:Int) (n:Nat) (h:n≤l.length)=>token_one l k n h f
 have bx:∀s,aBox false 9 (.str l) s=some (.box [.str l] 0,s):=fun s=>rfl
 have z:aAlloc Tryz.prog 53 []=some (.ref 0 0,[(53,[I 0,.str []])]):=alloc39 []
 have lb:∀s,aLoad false false 1 (.box [.str l] 0) s=some (.str l,s):=fun s=>rfl
 have st:∀(k:Int) (n:Nat),aStore 2 [(53,[I 0,.str []])] (.ref 0 0) (.agg [I k,.str (l.take n)])=some [(53,[I k,.str (l.take n)])]:=fun _ _=>rfl
 have ld:∀(k:Int) (n:Nat),aLoad false true 2 (.ref 0 0) [(53,[I k,.str (l.take n)])]=some (.agg [I k,.str (l.take n)],[(53,[I k,.str (l.take n)])]):=fun _ _=>rfl
 have sb:(AV.box [.str l] 0).strip=.box [.str l] 0:=rfl
 have sf:(AV.fn 93 [] [.box [.str l] 0]).strip=.fn 93 [] [.box [.str l] 0]:=rfl
 have kl:kLoad false (.box [.str l] 0)=.silent:=rfl
 have dk:∀s s':Heap,dyn .silent s s'=.silent:=fun _ _=>rfl
 have so:(AV.sl 9 1 (strs kwR) .own).strip=.sl 9 1 (strs kwR) .sh:=rfl
 have kc:∀t,kCall [.sl 9 1 (strs kwR) .sh,.str t]=.silent:=fun t=>by rw[kCall_ok,noRefL_cons,noRef_sl,strs_noRef];rfl
 have kc0:kCall []=.silent:=rfl
 have lp:=len69 ptR .own
 rw[F48_eq,F48]
 by_cases h1:0<scanN isSp l
 ·have t1:=tk 101 _ b0
  have h1':(0:Int)<(scanN isSp l:Int):=by omega
  refine⟨[(53,[I 101,.str (l.take (scanN isSp l))])],?_⟩
  have t1:∀s,aCall Tryz.prog (den C (f+1)) 93 [.int .i64 101,I (scanN isSp l:Nat),.box [.str l] 0] s=_:=t1
  rw[if_pos h1]
  simp -implicitDefEqProofs only[sL,bx,z,lb,q0,h1',sf,cvT,sb,t1,st,ld,fin1,Option.map_some]
  try rfl
 have h1':¬(0:Int)<(scanN isSp l:Int):=by omega
 rw[if_neg h1]
 by_cases h2:1<l.length∧l.take 2=[47,47]
 ·have t1:=tk 102 _ b1
  have h2':(1:Int)<(l.length:Int):=by omega
  have e2:=subTake (s:=l) (i:=2) (by omega)
  rw[h2.2]at e2
  have e2:aSl Tryz.prog 9 (.str l) none (some (.int .i64 2)) none=some (.str [47,47]):=e2
  have pp:(([47,47]:List UInt8)==[47,47])=true:=by decide
  refine⟨[(53,[I 102,.str (l.take (scanN notNL l))])],?_⟩
  have t1:∀s,aCall Tryz.prog (den C (f+1)) 93 [.int .i64 102,I (scanN notNL l:Nat),.box [.str l] 0] s=_:=t1
  rw[if_pos h2]
  simp -implicitDefEqProofs only[sL,bx,z,lb,q0,h1',len9,h2',e2,strEq9,pp,q1,sf,cvT,sb,t1,st,ld,fin1,Option.map_some]
  try rfl
 rw[if_neg h2]
 by_cases hh:1<l.length
 ·have h2':(1:Int)<(l.length:Int):=by omega
  have e2:aSl Tryz.prog 9 (.str l) none (some (.int .i64 2)) none=some (.str (l.take 2)):=subTake (s:=l) (i:=2) (by omega)
  have pp:(l.take 2==[47,47])=false:=by simpa using fun e=>h2 ⟨hh,e⟩
  by_cases h3:0<scanN isDig l
  ·have t1:∀s,aCall Tryz.prog (den C (f+1)) 93 [.int .i64 105,I (scanN isDig l:Nat),.box [.str l] 0] s=_:=tk 105 _ b3
   have h3':(0:Int)<(scanN isDig l:Int):=by omega
   refine⟨[(53,[I 105,.str (l.take (scanN isDig l))])],?_⟩
   rw[if_pos h3]
   simp -implicitDefEqProofs only[sL,bx,z,lb,q0,h1',len9,h2',e2,strEq9,pp,q3,h3',sf,cvT,sb,t1,st,ld,fin1,Option.map_some]
   try rfl
  have h3':¬(0:Int)<(scanN isDig l:Int):=by omega
  rw[if_neg h3]
  by_cases h4:0<scanN isWord l
  ·have h4':(0:Int)<(scanN isWord l:Int):=by omega
   have e4:=subTake b2
   rw[if_pos h4]
   by_cases h5:l.take (scanN isWord l)∈kwR
   ·have t1:∀s,aCall Tryz.prog (den C (f+1)) 93 [.int .i64 104,I (scanN isWord l:Nat),.box [.str l] 0] s=_:=tk 104 _ b2
    have d5:decide (l.take (scanN isWord l)∈kwR)=true:=by simpa using h5
    refine⟨[(53,[I 104,.str (l.take (scanN isWord l))])],?_⟩
    rw[if_pos h5]
    simp -implicitDefEqProofs only[sL,bx,z,lb,q0,h1',len9,h2',e2,strEq9,pp,q3,h3',q2,h4',q4,so,e4,q5,d5,kl,kc,kc0,dk,d48_12,sf,cvT,sb,t1,st,ld,fin1,Option.map_some]
    try rfl
   ·have t1:∀s,aCall Tryz.prog (den C (f+1)) 93 [.int .i64 103,I (scanN isWord l:Nat),.box [.str l] 0] s=_:=tk 103 _ b2
    have d5:decide (l.take (scanN isWord l)∈kwR)=false:=by simpa using h5
    refine⟨[(53,[I 103,.str (l.take (scanN isWord l))])],?_⟩
    rw[if_neg h5]
    simp -implicitDefEqProofs only[sL,bx,z,lb,q0,h1',len9,h2',e2,strEq9,pp,q3,h3',q2,h4',q4,so,e4,q5,d5,kl,kc,kc0,dk,d48_12,sf,cvT,sb,t1,st,ld,fin1,Option.map_some]
    try rfl
  have h4':¬(0:Int)<(scanN isWord l:Int):=by omega
  rw[if_neg h4]
  have k34:((b.toNat:Int)==34)=decide (b=34):=i8 34 rfl
  by_cases h6:b=34
  ·have d6:decide (b=34)=true:=by simpa using h6
   rw[if_pos (hd.2 h6)]
   by_cases h7:0<lit (l.drop 1) 1 false
   ·have t1:∀s,aCall Tryz.prog (den C (f+1)) 93 [.int .i64 106,I (lit (l.drop 1) 1 false:Nat),.box [.str l] 0] s=_:=tk 106 _ hlit
    have h7':(0:Int)<(lit (l.drop 1) 1 false:Int):=by omega
    refine⟨[(53,[I 106,.str (l.take (lit (l.drop 1) 1 false))])],?_⟩
    rw[if_pos h7]
    simp -implicitDefEqProofs only[sL,bx,z,lb,q0,h1',len9,h2',e2,strEq9,pp,q3,h3',q2,h4',ix,k34,d6,q6,h7',sf,cvT,sb,t1,st,ld,fin1,Option.map_some]
    try rfl
   ·have t1:∀s,aCall Tryz.prog (den C (f+1)) 93 [.int .i64 108,I (scanN notNL l:Nat),.box [.str l] 0] s=_:=tk 108 _ b1
    have h7':¬(0:Int)<(lit (l.drop 1) 1 false:Int):=by omega
    refine⟨[(53,[I 108,.str (l.take (scanN notNL l))])],?_⟩
    rw[if_neg h7]
    simp -implicitDefEqProofs only[sL,bx,z,lb,q0,h1',len9,h2',e2,strEq9,pp,q3,h3',q2,h4',ix,k34,d6,q6,h7',q1,sf,cvT,sb,t1,st,ld,fin1,Option.map_some]
    try rfl
  have d6:decide (b=34)=false:=by simpa using h6
  rw[if_neg (fun e=>h6 (hd.1 e))]
  have h26:ptR.length=26:=by decide
  have fin:=pt_loop l hl1 ptR.length 0 (by omega) (by omega) f (f+1) (by omega) (f+1)
  rw[List.drop_zero]at fin
  cases hp:ptF l ptR
  all_goals
   rw[hp]at fin
   simp -implicitDefEqProofs only[sL,bx,z,lb,q0,h1',len9,h2',e2,strEq9,pp,q3,h3',q2,h4',ix,k34,d6,q7,lp]
   refine fin _ ?_ ?_ ?_ ?_ ?_ ?_
   ·exact rfl
   ·exact rfl
   ·exact rfl
   ·exact rfl
   ·exact rfl
   ·exact rfl
 ·have h2':¬(1:Int)<(l.length:Int):=by omega
  by_cases h3:0<scanN isDig l
  ·have t1:∀s,aCall Tryz.prog (den C (f+1)) 93 [.int .i64 105,I (scanN isDig l:Nat),.box [.str l] 0] s=_:=tk 105 _ b3
   have h3':(0:Int)<(scanN isDig l:Int):=by omega
   refine⟨[(53,[I 105,.str (l.take (scanN isDig l))])],?_⟩
   rw[if_pos h3]
   simp -implicitDefEqProofs only[sL,bx,z,lb,q0,h1',len9,h2',q3,h3',sf,cvT,sb,t1,st,ld,fin1,Option.map_some]
   try rfl
  have h3':¬(0:Int)<(scanN isDig l:Int):=by omega
  rw[if_neg h3]
  by_cases h4:0<scanN isWord l
  ·have h4':(0:Int)<(scanN isWord l:Int):=by omega
   have e4:=subTake b2
   rw[if_pos h4]
   by_cases h5:l.take (scanN isWord l)∈kwR
   ·have t1:∀s,aCall Tryz.prog (den C (f+1)) 93 [.int .i64 104,I (scanN isWord l:Nat),.box [.str l] 0] s=_:=tk 104 _ b2
    have d5:decide (l.take (scanN isWord l)∈kwR)=true:=by simpa using h5
    refine⟨[(53,[I 104,.str (l.take (scanN isWord l))])],?_⟩
    rw[if_pos h5]
    simp -implicitDefEqProofs only[sL,bx,z,lb,q0,h1',len9,h2',q3,h3',q2,h4',q4,so,e4,q5,d5,kl,kc,kc0,dk,d48_12,sf,cvT,sb,t1,st,ld,fin1,Option.map_some]
    try rfl
   ·have t1:∀s,aCall Tryz.prog (den C (f+1)) 93 [.int .i64 103,I (scanN isWord l:Nat),.box [.str l] 0] s=_:=tk 103 _ b2
    have d5:decide (l.take (scanN isWord l)∈kwR)=false:=by simpa using h5
    refine⟨[(53,[I 103,.str (l.take (scanN isWord l))])],?_⟩
    rw[if_neg h5]
    simp -implicitDefEqProofs only[sL,bx,z,lb,q0,h1',len9,h2',q3,h3',q2,h4',q4,so,e4,q5,d5,kl,kc,kc0,dk,d48_12,sf,cvT,sb,t1,st,ld,fin1,Option.map_some]
    try rfl
  have h4':¬(0:Int)<(scanN isWord l:Int):=by omega
  rw[if_neg h4]
  have k34:((b.toNat:Int)==34)=decide (b=34):=i8 34 rfl
  by_cases h6:b=34
  ·have d6:decide (b=34)=true:=by simpa using h6
   rw[if_pos (hd.2 h6)]
   by_cases h7:0<lit (l.drop 1) 1 false
   ·have t1:∀s,aCall Tryz.prog (den C (f+1)) 93 [.int .i64 106,I (lit (l.drop 1) 1 false:Nat),.box [.str l] 0] s=_:=tk 106 _ hlit
    have h7':(0:Int)<(lit (l.drop 1) 1 false:Int):=by omega
    refine⟨[(53,[I 106,.str (l.take (lit (l.drop 1) 1 false))])],?_⟩
    rw[if_pos h7]
    simp -implicitDefEqProofs only[sL,bx,z,lb,q0,h1',len9,h2',q3,h3',q2,h4',ix,k34,d6,q6,h7',sf,cvT,sb,t1,st,ld,fin1,Option.map_some]
    try rfl
   ·have t1:∀s,aCall Tryz.prog (den C (f+1)) 93 [.int .i64 108,I (scanN notNL l:Nat),.box [.str l] 0] s=_:=tk 108 _ b1
    have h7':¬(0:Int)<(lit (l.drop 1) 1 false:Int):=by omega
    refine⟨[(53,[I 108,.str (l.take (scanN notNL l))])],?_⟩
    rw[if_neg h7]
    simp -implicitDefEqProofs only[sL,bx,z,lb,q0,h1',len9,h2',q3,h3',q2,h4',ix,k34,d6,q6,h7',q1,sf,cvT,sb,t1,st,ld,fin1,Option.map_some]
    try rfl
  have d6:decide (b=34)=false:=by simpa using h6
  rw[if_neg (fun e=>h6 (hd.1 e))]
  have h26:ptR.length=26:=by decide
  have fin:=pt_loop l hl1 ptR.length 0 (by omega) (by omega) f (f+1) (by omega) (f+1)
  rw[List.drop_zero]at fin
  cases hp:ptF l ptR
  all_goals
   rw[hp]at fin
   simp -implicitDefEqProofs only[sL,bx,z,lb,q0,h1',len9,h2',q3,h3',q2,h4',ix,k34,d6,q7,lp]
   refine fin _ ?_ ?_ ?_ ?_ ?_ ?_
   ·exact rfl
   ·exact rfl
   ·exact rfl
   ·exact rfl
   ·exact rfl
   ·exact rfl
theorem toks_loop:∀(k:Nat)(l:List UInt8)(acc:List Tok),l.length≤k→l.length<10000→acc.length+l.length<100000 →
  ∃N,∀n,N≤n→∀m,k<m→∀n' e s,e 0=.str l→e 3=accV acc→∃s',aLoop (F31_L0 (den C n) n') m e s=some ((accV (acc++tokz l)).strip,s'):=by
 have nil:∀(acc:List Tok) n m n' (e:Env) s,e 0=.str []→e 3=accV acc→0<m→∃s',aLoop (F31_L0 (den C n) n') m e s=some ((accV (acc++tokz [])).strip,s'):=by
  intro acc n m n' e s h0 h3 hm
  obtain⟨m,rfl⟩:∃j,m=j+1:=⟨m-1,by omega⟩
  have st:=(accV_strip acc).strip
  have z:¬(0:Int)<(([]:List UInt8).length:Int):=by simp
  refine⟨s,?_⟩
  rw[aLoop,F31_L0,tokz_nil,List.append_nil]
  simp -implicitDefEqProofs only[sL,h0,h3,len9,z,st]
 intro k
 induction k with
 | zero =>
  intro l acc hk hl ha
  have:l=[]:=List.length_eq_zero_iff.1 (by omega)
  subst this
  exact⟨0,fun n hn m hm n' e s h0 h3=>nil acc n m n' e s h0 h3 (by omega)⟩
 | succ k ih =>
  intro l acc hk hl ha
  by_cases h:l=[]
  ·subst h
   exact⟨0,fun n hn m hm n' e s h0 h3=>nil acc n m n' e s h0 h3 (by omega)⟩
  ·obtain⟨c,r,rfl⟩:∃c r,l=c::r:=by cases l with
    | nil=>exact absurd rfl h
    | cons c r=>exact⟨c,r,rfl⟩
   obtain⟨N1,q1⟩:=AC.at (first76 c r (by omega))
   have hb:=first_bounds (c::r) h
   rw[tokz_cons h]
   have e2:=subDrop (s:=c::r) (i:=(first (c::r)).1) hb.2
   have hpos:(0:Int)<((c::r).length:Int):=by rw[List.length_cons];omega
   have htl:((c::r).take (first (c::r)).1).length=(first (c::r)).1:=by rw[List.length_take];omega
   generalize (first (c::r)).1=z at *
   generalize (first (c::r)).2=y at *
   obtain⟨f,e3⟩:=bs35 y ((c::r).take z)
   have e4:=app35 acc [(y,(c::r).take z)] f (by simp at ha ⊢;omega)
   have hdl:((c::r).drop z).length=(c::r).length-z:=List.length_drop
   generalize (c::r).take z=tk at *
   generalize (c::r).drop z=dr at *
   obtain⟨N2,q2⟩:=ih dr (acc++[(y,tk)]) (by omega) (by omega) (by simp only[List.length_append,List.length_cons,List.length_nil]at *;omega)
   rw[List.append_assoc]at q2
   refine⟨N1+N2,fun n hn m hm n' e s h0 h3=>?_⟩
   obtain⟨m,rfl⟩:∃j,m=j+1:=⟨m-1,by omega⟩
   have q1:=q1 n (by omega)
   have e4:aAppend Tryz.prog 34 34 (accV acc) (.sl 53 2 [.agg [I y,.str tk]] f)=_:=e4
   have s4:=store39 s (I 0) (.str []) (y,tk)
   have s4:aStore 2 (s++[(53,[I 0,.str []])]) (.ref s.length 0) (.agg [I y,.str tk])=_:=s4
   have l4:=load39a s (I y) (.str tk)
   have l5:aLoad false false 1 (.ref s.length 1) (s++[(53,[I y,.str tk])])=some (.str tk,s++[(53,[I y,.str tk])]):=load39 s (I y) (.str tk) 1
   rw[aLoop,F31_L0]
   simp -implicitDefEqProofs only[sL,h0,h3,len9,hpos,q1,alloc39,s4,l4,e3,e4,l5,htl,e2]
   refine q2 n (by omega) m (by omega) n' _ _ ?_ ?_
   ·exact rfl
   ·exact rfl
theorem toks_run (l:List UInt8)(hl:l.length≤2000):AC C 31 [.str l] (accV (tokz l)).strip:=by
 obtain⟨N,q⟩:=toks_loop l.length l [] (Nat.le_refl _) (by omega) (by simp;omega)
 rw[List.nil_append]at q
 refine .intro en31 rfl (accV_strip _).noRef ⟨N+l.length+1,fun n hn=>?_⟩
 rw[F31_eq,F31]
 exact q n (by omega) n (by omega) n _ [] rfl rfl
end LexF
end

section
namespace ParF
open Go Go.Abs Go.Proofs Pm RfF AstF
theorem j14 {D:Den}{n:Nat}{k0:Env→Heap→Ans}{e:Env}{s:Heap}{i:Nat}(h:e 9=I i)(hi:i<1000000):F14_J1 D n k0 e s=k0 (upds e [(23,I (i+1:Nat)),(9,I (i+1:Nat))]) s:=by
 have w:=wadd1 (a:=i) (by omega)
 rw[F14_J1]
 simp -implicitDefEqProofs only[sL,h,w]
theorem last_loop {tk:AV}{ts:List Tok}(h:IsToks tk ts)(hl:ts.length<1000000):∀(k i:Nat)(acc:Bytes),ts.length-i=k→i≤ts.length →
  ∀m,k<m→∀D n' e s,e 9=I i→e 8=I ts.length→e 7=tk→e 3=.str acc→∃s',aLoop (F14_L0 D n') m e s=some (.str (lastS acc (ts.drop i)),s'):=by
 intro k
 induction k with
 | zero =>
  intro i acc hk hi m hm D n' e s e9 e8 e7 e3
  obtain⟨m,rfl⟩:∃j,m=j+1:=⟨m-1,by omega⟩
  rw[List.drop_of_length_le (by omega),lastS]
  have c:¬i<ts.length:=by omega
  refine⟨s,?_⟩
  rw[aLoop,F14_L0]
  simp -implicitDefEqProofs only[sL,e9,e8,e7,e3,c,decide_false]
 | succ k ih =>
  intro i acc hk hi m hm D n' e s e9 e8 e7 e3
  obtain⟨m,rfl⟩:∃j,m=j+1:=⟨m-1,by omega⟩
  have hlt:i<ts.length:=by omega
  rw[List.drop_eq_getElem_cons hlt,lastS]
  have ia:=toks_at h hlt
  have z:aAlloc Tryz.prog 53 s=some (.ref s.length 0,s++[(53,[I 0,.str []])]):=by rw[zeroK]
  have ld1:aLoad false false 1 (.ref s.length 1) (s++[(53,[I ts[i].1,.str ts[i].2])])=some (.str ts[i].2,s++[(53,[I ts[i].1,.str ts[i].2])]):=ld (n:=1) (o:=1) (v:=.str ts[i].2) gapp_new (by decide) rfl (by decide)
  have ld0:aLoad false false 1 (.ref s.length 0) (s++[(53,[I ts[i].1,.str ts[i].2])])=some (I ts[i].1,s++[(53,[I ts[i].1,.str ts[i].2])]):=ld (n:=1) (o:=0) (v:=I ts[i].1) gapp_new (by decide) rfl (by decide)
  have w:=wadd1 (a:=i) (by omega)
  have ih:=fun acc=>ih (i+1) acc (by omega) (by omega) m (by omega) D n'
  generalize ts[i]=t at *
  have k1:(((t.1:Nat):Int) != 101)=!(t.1==101):=by
   by_cases c:t.1=101
   ·rw[c];rfl
   ·have:((t.1:Nat):Int)≠101:=by omega
    rw[beq_eq_false_iff_ne.2 c];exact bne_iff_ne.2 this
  have k2:(((t.1:Nat):Int) != 102)=!(t.1==102):=by
   by_cases c:t.1=102
   ·rw[c];rfl
   ·have:((t.1:Nat):Int)≠102:=by omega
    rw[beq_eq_false_iff_ne.2 c];exact bne_iff_ne.2 this
  have kt:triv t=(t.1==101 || t.1==102):=rfl
  rw[aLoop,F14_L0,kt]
  cases c1:(t.1==101)<;>cases c2:(t.1==102)
  all_goals
   simp -implicitDefEqProofs only[sL,e9,e8,e7,e3,hlt,decide_true,ia,boxK,z,stK,ld0,ld1,k1,k2,c1,c2,Bool.not_true,Bool.not_false,Bool.or_true,Bool.or_false,Bool.true_or]
   rw[j14 ((upds_get _ _ _ rfl).trans e9) (by omega)]
   refine ih _ _ _ ?_ ?_ ?_ ?_
   ·simp[upds_at,upd_at]
   ·exact(upds_get _ _ _ rfl).trans ((upds_get _ _ _ rfl).trans e8)
   ·exact(upds_get _ _ _ rfl).trans ((upds_get _ _ _ rfl).trans e7)
   ·refine(upds_get _ _ _ rfl).trans ?_
    first
     | exact(upds_get _ _ _ rfl).trans e3
     | exact rfl
theorem last_run (l:Bytes)(hl:l.length≤2000):AC C 14 [.str l] (.str (lastS [] (LexF.tokz l))):=by
 obtain⟨N,q⟩:=LexF.AC.at (LexF.toks_run l hl)
 have tik:=toks_of (LexF.accV_strip (LexF.tokz l))
 have htl:=LexF.tokz_length l
 refine .intro en14 rfl rfl ⟨N+l.length+2,fun n hn=>?_⟩
 have q:=q n (by omega)
 have l1:=toks_len tik
 rw[F14_eq,F14]
 simp -implicitDefEqProofs only[sL,q,l1]
 refine last_loop tik (by omega) (LexF.tokz l).length 0 [] (by omega) (by omega) n (by omega) (den C n) n _ [] ?_ ?_ ?_ ?_
 ·exact rfl
 ·exact rfl
 ·exact rfl
 ·exact rfl
theorem wsub {x y:Nat}(h:y≤x)(hx:x<2000000000):IntKind.i64.wrap ((x:Int)-(y:Int))=((x-y:Nat):Int):=by rw[wrap64]<;>omega
theorem build27z:aBuild Tryz.prog 27 []=some (.agg zrow7):=by kernel_rfl
theorem IsN.ch {n:Nd}{a:AV}(h:IsN n a):∃ch,a.cells[6]?=some ch∧IsNC n.cs ch:=by
 cases h with
 | mk k v x s e ns cs ch h=>exact⟨ch,rfl,h⟩
theorem at_app {s:Heap}{i:Nat}{x:TypeId×List AV}(h:s[i]?=some x)(y:TypeId×List AV):(s++[y])[i]?=some x:=by
 have:=glt h
 rw[List.getElem?_append_left this];exact h
theorem sdL_len:∀a:List Nd,(sdL a).length=a.length
 | []=>rfl
 | n::ns=>by rw[sdL,List.length_cons,List.length_cons,sdL_len ns]
theorem sdL_get:∀(a:List Nd)(i:Nat),(sdL a)[i]?=a[i]?.map sd
 | [],i=>by rw[sdL];rfl
 | n::ns,0=>rfl
 | n::ns,i+1=>by rw[sdL,List.getElem?_cons_succ,List.getElem?_cons_succ,sdL_get ns]
theorem j3 {D:Den}{n:Nat}{k0:Env→Heap→Ans}{e:Env}{S:Heap}{i:Nat}{p q a b:AV}(h15:e 15=p)(h16:e 16=q)(h79:e 79=I i)(hi:i<1000000000)(l1:aLoad false true 7 p S=some (a,S))(l2:aLoad false true 7 q S=some (b,S))
  (aS:a.strip=a)(bS:b.strip=b)(hq:aCall Tryz.prog D 16 [a,b] S=some (.bool true,S)):F3_J1 D n k0 e S=k0 (upds e [(104,a),(105,b),(106,.bool true),(107,.bool false),(108,I (i+1:Nat)),(79,I (i+1:Nat))]) S:=by
 have w:=wadd1 (a:=i) (by omega)
 rw[F3_J1]
 simp -implicitDefEqProofs only[sL,h15,h16,h79,l1,l2,aS,bS,hq,w,Bool.not_true]
theorem res_step {x y z:Nd}{ax ay az:AV}(hx:IsN x ax)(hy:IsN y ay)(hz:IsN z az)(hzs:szN z<900000000)(heq:sdL z.cs=sdL x.cs++sdL y.cs){cz:AV}(hcz:IsNC z.cs cz)(i:Nat)(hi:i<z.cs.length) :
  ∃N,∀f,N≤f→∀n' k0 (e:Env) (s:Heap),s[0]?=some (27,ax.cells)→s[1]?=some (27,ay.cells)→e 5=.ref 0 0→e 8=.ref 1 0→e 77=cz→e 78=I z.cs.length→e 79=I i →
   ∃E S,F3_L0 (den C f) n' k0 e s=k0 E S∧S[0]?=some (27,ax.cells)∧S[1]?=some (27,ay.cells)∧E 5=.ref 0 0∧E 8=.ref 1 0∧E 77=cz∧E 78=I z.cs.length∧E 79=I (i+1:Nat):=by
 obtain⟨cx,gx,hcx⟩:=hx.ch
 obtain⟨cy,gy,hcy⟩:=hy.ch
 obtain⟨fz1,fz2⟩:=hcz.facts
 obtain⟨fx1,fx2⟩:=hcx.facts
 obtain⟨fy1,fy2⟩:=hcy.facts
 have hlen:=congrArg List.length heq
 rw[List.length_append,sdL_len,sdL_len,sdL_len]at hlen
 have hzl:=len_le_szN z.cs
 have hzc:szNL z.cs≤szN z:=by cases z;rw[szN_mk];show szNL _≤_;exact Nat.le_add_left _ _
 obtain⟨a,ia,ha⟩:=fz2 (List.getElem?_eq_getElem hi)
 obtain⟨a1,a2,a3,a4⟩:=ha.cells
 have aS:a.strip=a:=by rw[a4];rfl
 have hsz:szN z.cs[i]<900000000:=by have:=szN_mem (List.getElem_mem hi);omega
 have hget:=congrArg (fun l=>l[i]?) heq
 simp only[sdL_get,List.getElem?_eq_getElem hi,Option.map_some]at hget
 have lda:=fun s=>box7 s a1 a4
 have w:=wadd1 (a:=i) (by omega)
 have z27:∀s:Heap,aAlloc Tryz.prog 27 s=some (.ref s.length 0,s++[(27,zrow7)]):=fun s=>by rw[zero27]
 have sto7:∀(s:Heap) (r:List AV) {b:AV},r.length=7→b.cells.length=7→b.cells.map AV.strip=b.cells→b=.agg b.cells→aStore 7 (s++[(27,r)]) (.ref s.length 0) b=some (s++[(27,b.cells)]):=fun s r b h1 h2 h3 h4=>by
  rw[st7 (s:=s++[(27,r)]) gapp_new h1 h2 h3 h4,set_end]
 have lz:zrow7.length=7:=rfl
 by_cases c:i<x.cs.length
 ·rw[List.getElem?_append_left (by rw[sdL_len];exact c),sdL_get,List.getElem?_eq_getElem c,Option.map_some]at hget
  obtain⟨b,ib,hb⟩:=fx2 (List.getElem?_eq_getElem c)
  obtain⟨b1,b2,b3,b4⟩:=hb.cells
  have bS:b.strip=b:=by rw[b4];rfl
  obtain⟨N,q⟩:=LexF.AC.at (equal_run (szN z.cs[i]) _ _ a b (Nat.le_refl _) ha hb hsz)
  rw[(eqN_iff _ _).2 (Option.some.inj hget)]at q
  refine⟨N,fun f hf n' k0 e s h0 h1 e5 e8 e77 e78 e79=>?_⟩
  have q:=q f hf
  have s1:=sto7 s zrow7 lz a1 a2 a4
  have s2:=sto7 (s++[(27,a.cells)]) zrow7 (b:=.agg zrow7) lz rfl rfl rfl
  have s3:=sto7 (s++[(27,a.cells)]) zrow7 lz b1 b2 b4
  have s2:aStore 7 (s++[(27,a.cells)]++[(27,zrow7)]) (.ref (s++[(27,a.cells)]).length 0) (.agg zrow7)=some (s++[(27,a.cells)]++[(27,zrow7)]):=s2
  have lx:aLoad false false 1 (.ref 0 6) (s++[(27,a.cells)]++[(27,zrow7)])=some (cx,s++[(27,a.cells)]++[(27,zrow7)]):=by
   rw[ld (at_app (at_app h0 _) _) (by decide) gx (by decide),hcx.strip.1]
  have ldb:=fun s=>box7 s b1 b4
  have l1:aLoad false true 7 (.ref s.length 0) (s++[(27,a.cells)]++[(27,b.cells)])=some (a,s++[(27,a.cells)]++[(27,b.cells)]):=ld7 (at_app gapp_new _) a1 a4
  have l2:aLoad false true 7 (.ref (s++[(27,a.cells)]).length 0) (s++[(27,a.cells)]++[(27,b.cells)])=some (b,s++[(27,a.cells)]++[(27,b.cells)]):=ld7 gapp_new b1 b4
  have sz0:(AV.agg zrow7).strip=.agg zrow7:=rfl
  have ci:((i:Int)<(x.cs.length:Int)):=by omega
  have hi':((i:Int)<(z.cs.length:Int)):=by omega
  rw[F3_L0]
  simp -implicitDefEqProofs only[sL,e5,e8,e77,e78,e79,hi',ia,lda,z27,s1,build27z,s2,sz0,lx,fx1,ci,ib,ldb,s3,aS,bS]
  refine⟨_,_,j3 (i:=i) ?_ ?_ ?_ (by omega) l1 l2 aS bS (q _),at_app (at_app h0 _) _,at_app (at_app h1 _) _,?_,?_,?_,?_,?_⟩
  ·exact rfl
  ·exact rfl
  ·exact(upds_get _ _ _ rfl).trans e79
  ·exact(upds_get _ _ _ rfl).trans ((upds_get _ _ _ rfl).trans e5)
  ·exact(upds_get _ _ _ rfl).trans ((upds_get _ _ _ rfl).trans e8)
  ·exact(upds_get _ _ _ rfl).trans ((upds_get _ _ _ rfl).trans e77)
  ·exact(upds_get _ _ _ rfl).trans ((upds_get _ _ _ rfl).trans e78)
  ·exact rfl
 ·have cy':i-x.cs.length<y.cs.length:=by omega
  rw[List.getElem?_append_right (by rw[sdL_len];omega),sdL_len,sdL_get,List.getElem?_eq_getElem cy',Option.map_some]at hget
  obtain⟨b,ib,hb⟩:=fy2 (List.getElem?_eq_getElem cy')
  obtain⟨b1,b2,b3,b4⟩:=hb.cells
  have bS:b.strip=b:=by rw[b4];rfl
  obtain⟨N,q⟩:=LexF.AC.at (equal_run (szN z.cs[i]) _ _ a b (Nat.le_refl _) ha hb hsz)
  rw[(eqN_iff _ _).2 (Option.some.inj hget)]at q
  refine⟨N,fun f hf n' k0 e s h0 h1 e5 e8 e77 e78 e79=>?_⟩
  have q:=q f hf
  have s1:=sto7 s zrow7 lz a1 a2 a4
  have s3:=sto7 (s++[(27,a.cells)]) zrow7 lz b1 b2 b4
  have s2:aStore 7 (s++[(27,a.cells)]++[(27,zrow7)]) (.ref (s++[(27,a.cells)]).length 0) (.agg zrow7)=some (s++[(27,a.cells)]++[(27,zrow7)]):=sto7 (s++[(27,a.cells)]) zrow7 (b:=.agg zrow7) lz rfl rfl rfl
  have lx:aLoad false false 1 (.ref 0 6) (s++[(27,a.cells)]++[(27,zrow7)])=some (cx,s++[(27,a.cells)]++[(27,zrow7)]):=by
   rw[ld (at_app (at_app h0 _) _) (by decide) gx (by decide),hcx.strip.1]
  have ly:aLoad false false 1 (.ref 1 6) (s++[(27,a.cells)]++[(27,zrow7)])=some (cy,s++[(27,a.cells)]++[(27,zrow7)]):=by
   rw[ld (at_app (at_app h1 _) _) (by decide) gy (by decide),hcy.strip.1]
  have ldb:=fun s=>box7 s b1 b4
  have l1:aLoad false true 7 (.ref s.length 0) (s++[(27,a.cells)]++[(27,b.cells)])=some (a,s++[(27,a.cells)]++[(27,b.cells)]):=ld7 (at_app gapp_new _) a1 a4
  have l2:aLoad false true 7 (.ref (s++[(27,a.cells)]).length 0) (s++[(27,a.cells)]++[(27,b.cells)])=some (b,s++[(27,a.cells)]++[(27,b.cells)]):=ld7 gapp_new b1 b4
  have sz0:(AV.agg zrow7).strip=.agg zrow7:=rfl
  have ci:¬((i:Int)<(x.cs.length:Int)):=by omega
  have hi':((i:Int)<(z.cs.length:Int)):=by omega
  have ws:=wsub (x:=i) (y:=x.cs.length) (by omega) (by omega)
  rw[F3_L0]
  simp -implicitDefEqProofs only[sL,e5,e8,e77,e78,e79,hi',ia,lda,z27,s1,build27z,s2,sz0,lx,ly,fx1,ci,ws,ib,ldb,s3,aS,bS]
  refine⟨_,_,j3 (i:=i) ?_ ?_ ?_ (by omega) l1 l2 aS bS (q _),at_app (at_app h0 _) _,at_app (at_app h1 _) _,?_,?_,?_,?_,?_⟩
  ·exact rfl
  ·exact rfl
  ·exact(upds_get _ _ _ rfl).trans e79
  ·exact(upds_get _ _ _ rfl).trans ((upds_get _ _ _ rfl).trans e5)
  ·exact(upds_get _ _ _ rfl).trans ((upds_get _ _ _ rfl).trans e8)
  ·exact(upds_get _ _ _ rfl).trans ((upds_get _ _ _ rfl).trans e77)
  ·exact(upds_get _ _ _ rfl).trans ((upds_get _ _ _ rfl).trans e78)
  ·exact rfl
theorem res_loop {x y z:Nd}{ax ay az:AV}(hx:IsN x ax)(hy:IsN y ay)(hz:IsN z az)(hzs:szN z<900000000)(heq:sdL z.cs=sdL x.cs++sdL y.cs){cz:AV}(hcz:IsNC z.cs cz):∀(k i:Nat),z.cs.length-i=k→i≤z.cs.length →
  ∃N,∀f,N≤f→∀m,k<m→∀n' (e:Env) (s:Heap),s[0]?=some (27,ax.cells)→s[1]?=some (27,ay.cells)→e 5=.ref 0 0→e 8=.ref 1 0→e 77=cz→e 78=I z.cs.length→e 79=I i →
   ∃S,aLoop (F3_L0 (den C f) n') m e s=some (.bool true,S):=by
 intro k
 induction k with
 | zero =>
  intro i hk hi
  refine⟨0,fun f hf m hm n' e s h0 h1 e5 e8 e77 e78 e79=>⟨s,?_⟩⟩
  obtain⟨m,rfl⟩:∃j,m=j+1:=⟨m-1,by omega⟩
  have c:¬((i:Int)<(z.cs.length:Int)):=by omega
  rw[aLoop,F3_L0]
  simp -implicitDefEqProofs only[sL,e77,e78,e79,c]
 | succ k ih =>
  intro i hk hi
  obtain⟨N1,q1⟩:=res_step hx hy hz hzs heq hcz i (by omega)
  obtain⟨N2,q2⟩:=ih (i+1) (by omega) (by omega)
  refine⟨N1+N2,fun f hf m hm n' e s h0 h1 e5 e8 e77 e78 e79=>?_⟩
  obtain⟨m,rfl⟩:∃j,m=j+1:=⟨m-1,by omega⟩
  obtain⟨E,S,g,g0,g1,g5,g8,g77,g78,g79⟩:=q1 f (by omega) n' (aLoop (F3_L0 (den C f) n') m) e s h0 h1 e5 e8 e77 e78 e79
  rw[aLoop,g]
  exact q2 f (by omega) m (by omega) n' E S g0 g1 g5 g8 g77 g78 g79
theorem res_run (s t:Bytes):AC C 3 [.str s,.str t] (.bool true):=by
 obtain⟨a,ha⟩:∃a,a=s.take 300:=⟨_,rfl⟩
 have hal:a.length≤300:=by rw[ha,List.length_take];omega
 obtain⟨b0,hb0⟩:∃b0,b0=t.take 300:=⟨_,rfl⟩
 have hbl:b0.length≤300:=by rw[hb0,List.length_take];omega
 obtain⟨b,hb⟩:∃b,b=cst++b0:=⟨_,rfl⟩
 have hbl':b.length≤318:=by rw[hb,List.length_append];show 18+_≤_;omega
 have hzl:(a++10::b).length≤700:=by rw[List.length_append,List.length_cons];omega
 obtain⟨X,ax,FX,AX,rx⟩:=ast_run a (by omega)
 obtain⟨Y,ay,FY,AY,ry⟩:=ast_run b (by omega)
 obtain⟨Z,az,FZ,AZ,rz⟩:=ast_run (a++10::b) (by omega)
 obtain⟨N0,q0⟩:=LexF.AC.at ex_run
 obtain⟨N1,q1⟩:=LexF.AC.at (LexF.short_run s 300)
 obtain⟨N2,q2⟩:=LexF.AC.at (LexF.short_run t 300)
 obtain⟨N3,q3⟩:=LexF.AC.at (last_run a (by omega))
 obtain⟨N4,q4⟩:=LexF.AC.at rx
 obtain⟨N5,q5⟩:=LexF.AC.at ry
 obtain⟨N6,q6⟩:=LexF.AC.at rz
 obtain⟨cx,gx,hcx⟩:=AX.ch
 obtain⟨cy,gy,hcy⟩:=AY.ch
 obtain⟨cz,gz,hcz⟩:=AZ.ch
 have fz:=hcz.facts.1
 have fx:=hcx.facts.1
 have fy:=hcy.facts.1
 have hzs:szN (astB (a++10::b) Z).1<900000000:=by have:=szA (a++10::b) Z;have:=(isFile_facts (by omega) FZ).2.2.1;omega
 obtain⟨x1,x2,x3,x4⟩:=AX.cells
 obtain⟨y1,y2,y3,y4⟩:=AY.cells
 obtain⟨z1,z2,z3,z4⟩:=AZ.cells
 by_cases c:lastS [] (LexF.tokz a)=wPub
 ·refine .intro en3 rfl rfl ⟨N0+N1+N2+N3,fun n hn=>⟨[],?_⟩⟩
  have q0:=q0 n (by omega)
  have q1:∀s',aCall Tryz.prog (den C n) 13 [.str s,.int .i64 300] s'=some (.str a,s'):=by rw[ha];exact q1 n (by omega)
  have q2:∀s',aCall Tryz.prog (den C n) 13 [.str t,.int .i64 300] s'=some (.str b0,s'):=by rw[hb0];exact q2 n (by omega)
  have q3:=q3 n (by omega)
  have ad:aBin Tryz.prog .add 9 (.str [99,111,110,115,116,32,107,58,32,105,110,116,32,61,32,49,59,10]) (.str b0)=some (.str b):=by rw[hb];exact str9 (by simp;omega)
  have se:aBin Tryz.prog .eql 9 (.str (lastS [] (LexF.tokz a))) (.str [112,117,98])=some (.bool true):=by rw[c];rfl
  rw[F3_eq,F3]
  simp -implicitDefEqProofs only[sL,q0,q1,q2,ad,q3,se,Bool.not_true]
 ·have law:=resync_law (b:=b0) c FX (by rw[←hb];exact FY) (by rw[←hb];exact FZ)
  rw[←hb]at law
  have hll:=congrArg List.length law
  rw[List.length_append,sdL_len,sdL_len,sdL_len]at hll
  obtain⟨N7,q7⟩:=res_loop AX AY AZ hzs law hcz (astB (a++10::b) Z).1.cs.length 0 (by omega) (by omega)
  have hcl:=len_le_szN (astB (a++10::b) Z).1.cs
  have hcz':szNL (astB (a++10::b) Z).1.cs≤szN (astB (a++10::b) Z).1:=by cases(astB (a++10::b) Z).1;rw[szN_mk];exact Nat.le_add_left _ _
  refine .intro en3 rfl rfl ⟨N0+N1+N2+N3+N4+N5+N6+N7+(astB (a++10::b) Z).1.cs.length+1,fun n hn=>?_⟩
  have q0:=q0 n (by omega)
  have q1:∀s',aCall Tryz.prog (den C n) 13 [.str s,.int .i64 300] s'=some (.str a,s'):=by rw[ha];exact q1 n (by omega)
  have q2:∀s',aCall Tryz.prog (den C n) 13 [.str t,.int .i64 300] s'=some (.str b0,s'):=by rw[hb0];exact q2 n (by omega)
  have q3:=q3 n (by omega)
  have q4:=q4 n (by omega)
  have q5:=q5 n (by omega)
  have q6:=q6 n (by omega)
  have q7:=q7 n (by omega) n (by omega) n
  have ad:aBin Tryz.prog .add 9 (.str [99,111,110,115,116,32,107,58,32,105,110,116,32,61,32,49,59,10]) (.str b0)=some (.str b):=by rw[hb];exact str9 (by simp;omega)
  have se:aBin Tryz.prog .eql 9 (.str (lastS [] (LexF.tokz a))) (.str [112,117,98])=some (.bool false):=by
   have:(lastS [] (LexF.tokz a)==[112,117,98])=false:=beq_eq_false_iff_ne.2 c
   rw[LexF.strEq9,this]
  have a1:aBin Tryz.prog .add 9 (.str a) (.str [10])=some (.str (a++[10])):=str9 (by simp;omega)
  have a2:aBin Tryz.prog .add 9 (.str (a++[10])) (.str b)=some (.str (a++10::b)):=by rw[str9 (by simp;omega),List.append_assoc];rfl
  have xs:ax.strip=ax:=by rw[x4];rfl
  have ys:ay.strip=ay:=by rw[y4];rfl
  have zs:az.strip=az:=by rw[z4];rfl
  have ds:∀ds,(dgOut ds).strip=dgOut ds:=fun ds=>by unfold dgOut;split<;>rfl
  have dx:=ds (astB a X).2
  have dy:=ds (astB b Y).2
  have dz:=ds (astB (a++10::b) Z).2
  have zz1:aAlloc Tryz.prog 27 []=some (.ref 0 0,[(27,zrow7)]):=by rw[zero27];rfl
  have zz2:aAlloc Tryz.prog 27 [(27,ax.cells)]=some (.ref 1 0,[(27,ax.cells),(27,zrow7)]):=by rw[zero27];rfl
  have zz3:aAlloc Tryz.prog 27 [(27,ax.cells),(27,ay.cells)]=some (.ref 2 0,[(27,ax.cells),(27,ay.cells),(27,zrow7)]):=by rw[zero27];rfl
  have s1:aStore 7 [(27,zrow7)] (.ref 0 0) ax=some [(27,ax.cells)]:=by rw[st7 (s:=[(27,zrow7)]) (i:=0) rfl rfl x1 x2 x4];rfl
  have s2:aStore 7 [(27,ax.cells),(27,zrow7)] (.ref 1 0) ay=some [(27,ax.cells),(27,ay.cells)]:=by rw[st7 (s:=[(27,ax.cells),(27,zrow7)]) (i:=1) rfl rfl y1 y2 y4];rfl
  have s3:aStore 7 [(27,ax.cells),(27,ay.cells),(27,zrow7)] (.ref 2 0) az=some [(27,ax.cells),(27,ay.cells),(27,az.cells)]:=by rw[st7 (s:=[(27,ax.cells),(27,ay.cells),(27,zrow7)]) (i:=2) rfl rfl z1 z2 z4];rfl
  obtain⟨S,hS⟩:∃S:Heap,S=[(27,ax.cells),(27,ay.cells),(27,az.cells)]:=⟨_,rfl⟩
  rw[←hS]at s3
  have lx:aLoad false false 1 (.ref 0 6) S=some (cx,S):=by rw[ld (s:=S) (i:=0) (by rw[hS];rfl) (by decide) gx (by decide),hcx.strip.1]
  have ly:aLoad false false 1 (.ref 1 6) S=some (cy,S):=by rw[ld (s:=S) (i:=1) (by rw[hS];rfl) (by decide) gy (by decide),hcy.strip.1]
  have lz:aLoad false false 1 (.ref 2 6) S=some (cz,S):=by rw[ld (s:=S) (i:=2) (by rw[hS];rfl) (by decide) gz (by decide),hcz.strip.1]
  have w:=LexF.wadd (a:=(astB a X).1.cs.length) (b:=(astB b Y).1.cs.length) (by omega)
  have ne:((((astB (a++10::b) Z).1.cs.length:Nat):Int) != (((astB a X).1.cs.length+(astB b Y).1.cs.length:Nat):Int))=false:=by rw[hll];simp
  have z0:((0:Int) != 0)=false:=rfl
  rw[F3_eq,F3]
  simp -implicitDefEqProofs only[sL,q0,q1,q2,ad,q3,se,Bool.not_true,q4,q5,q6,a1,a2,xs,ys,zs,dx,dy,dz,zz1,zz2,zz3,s1,s2,s3,z0,lx,ly,lz,fx,fy,fz,w,ne]
  refine q7 _ S (by rw[hS];rfl) (by rw[hS];rfl) ?_ ?_ ?_ ?_ ?_
  ·exact rfl
  ·exact rfl
  ·exact rfl
  ·exact rfl
  ·exact rfl
end ParF
end
