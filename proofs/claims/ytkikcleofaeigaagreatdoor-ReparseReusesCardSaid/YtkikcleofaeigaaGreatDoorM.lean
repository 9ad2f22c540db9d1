/- RfF, RfA, RfB -/
import Derived.Test.YtkikcleofaeigaaGreatDoorC
import Derived.Test.YtkikcleofaeigaaGreatDoorQ
import Derived.Test.YtkikcleofaeigaaGreatDoorG
set_option linter.all false

section
set_option maxRecDepth 10000
namespace RfF
open Go Go.Abs Go.Proofs ParF
-- glossatorref1.isWordByte
noncomputable def F192 (D:Den)(n:Nat)(t0:AV)(s:Heap):Ans :=
 oh (some ((.bool false),s)) fun t2 s =>
 oh (some (t0.strip,s)) fun t3 s =>
 oh (mp (aBin Tryz.prog .geq 5 t3 (.int .u8 97)) s) fun t4 s =>
 oh (some (t4.strip,s)) fun t5 s =>
 oh (gd (wA t5 true) s (some (t0.strip,s))) fun t6 s =>
 oh (gd (wA t5 true) s (mp (aBin Tryz.prog .leq 5 t6 (.int .u8 122)) s)) fun t7 s =>
 oh (mp (aPick t5 t7 (.bool false)) s) fun t8 s =>
 oh (some (t8.strip,s)) fun t9 s =>
 oh (gd (wA t9 false) s (some (t0.strip,s))) fun t10 s =>
 oh (gd (wA t9 false) s (mp (aBin Tryz.prog .geq 5 t10 (.int .u8 65)) s)) fun t11 s =>
 oh (gd (wA t9 false) s (some (t11.strip,s))) fun t12 s =>
 oh (gd (wA t12 true) s (some (t0.strip,s))) fun t13 s =>
 oh (gd (wA t12 true) s (mp (aBin Tryz.prog .leq 5 t13 (.int .u8 90)) s)) fun t14 s =>
 oh (gd (wA t9 false) s (mp (aPick t12 t14 (.bool false)) s)) fun t15 s =>
 oh (mp (aPick t9 (.bool true) t15) s) fun t16 s =>
 oh (some (t16.strip,s)) fun t17 s =>
 oh (gd (wA t17 false) s (some (t0.strip,s))) fun t18 s =>
 oh (gd (wA t17 false) s (mp (aBin Tryz.prog .eql 5 t18 (.int .u8 95)) s)) fun t19 s =>
 oh (mp (aPick t17 (.bool true) t19) s) fun t20 s =>
 oh (some (t20.strip,s)) fun t21 s =>
 oh (gd (wA t21 false) s (some (t0.strip,s))) fun t22 s =>
 oh (gd (wA t21 false) s (mp (aBin Tryz.prog .geq 5 t22 (.int .u8 48)) s)) fun t23 s =>
 oh (gd (wA t21 false) s (some (t23.strip,s))) fun t24 s =>
 oh (gd (wA t24 true) s (some (t0.strip,s))) fun t25 s =>
 oh (gd (wA t24 true) s (mp (aBin Tryz.prog .leq 5 t25 (.int .u8 57)) s)) fun t26 s =>
 oh (gd (wA t21 false) s (mp (aPick t24 t26 (.bool false)) s)) fun t27 s =>
 oh (mp (aPick t21 (.bool true) t27) s) fun t28 s =>
 oh (some (t28,s)) fun t2_2 s =>
 some (t2_2,s)
theorem F192_eq (n:Nat)(t0:AV)(s:Heap):den C (n+1) 192 [t0] s=F192 (den C n) n t0 s :=
 (den_body rfl Tryz.func192 _ _).trans (by kernel_rfl)
theorem en192:enterable Tryz.prog 192=true:=by kernel_rfl
-- glossatorref1.run
noncomputable def F137_J1 (D:Den)(n:Nat)(k0:Env→Heap→Ans)(e:Env)(s:Heap):Ans :=
 oh (some ((e 7).strip,s)) fun t48 s =>
 oh (mp (aUn .not t48) s) fun t49 s =>
 br t49
  (oh (some ((e 5).strip,s)) fun t50 s =>
 oh (some (t50,s)) fun t4_2 s =>
 some (t4_2,s))
  (oh (some ((e 5).strip,s)) fun t12 s =>
 oh (mp (aBin Tryz.prog .add 3 t12 (.int .i64 1)) s) fun t13 s =>
 oh (some (t13,s)) fun t5_2 s =>
 k0 (upds e [(48,t48),(49,t49),(12,t12),(13,t13),(13,t13.strip),(5,t5_2)]) s)
noncomputable def F137_L0 (D:Den)(n:Nat)(k0:Env→Heap→Ans)(e:Env)(s:Heap):Ans :=
 oh (some ((e 5).strip,s)) fun t8 s =>
 oh (some ((e 0).strip,s)) fun t9 s =>
 oh (mp (aLen Tryz.prog 9 t9) s) fun t10 s =>
 oh (mp (aBin Tryz.prog .lss 3 t8 t10) s) fun t11 s =>
 br t11
  (oh (some ((e 0).strip,s)) fun t14 s =>
 oh (some ((e 5).strip,s)) fun t15 s =>
 oh (mp (aIndex Tryz.prog 9 t14 t15) s) fun t16 s =>
 oh (some (t16,s)) fun t6 s =>
 oh (some (t6.strip,s)) fun t17 s =>
 oh (mp (aBin Tryz.prog .neq 5 t17 (.int .u8 10)) s) fun t18 s =>
 oh (some (t18,s)) fun t7 s =>
 oh (some ((e 1).strip,s)) fun t19 s =>
 oh (mp (aBin Tryz.prog .eql 3 t19 (.int .i64 0)) s) fun t21 s =>
 oh (some (t21,s)) fun t20 s =>
 br t20
  (oh (some (t6.strip,s)) fun t22 s =>
 oh (mp (aBin Tryz.prog .eql 5 t22 (.int .u8 32)) s) fun t23 s =>
 oh (some (t23.strip,s)) fun t24 s =>
 oh (gd (wA t24 false) s (some (t6.strip,s))) fun t25 s =>
 oh (gd (wA t24 false) s (mp (aBin Tryz.prog .eql 5 t25 (.int .u8 9)) s)) fun t26 s =>
 oh (mp (aPick t24 (.bool true) t26) s) fun t27 s =>
 oh (some (t27.strip,s)) fun t28 s =>
 oh (gd (wA t28 false) s (some (t6.strip,s))) fun t29 s =>
 oh (gd (wA t28 false) s (mp (aBin Tryz.prog .eql 5 t29 (.int .u8 10)) s)) fun t30 s =>
 oh (mp (aPick t28 (.bool true) t30) s) fun t31 s =>
 oh (some (t31.strip,s)) fun t32 s =>
 oh (gd (wA t32 false) s (some (t6.strip,s))) fun t33 s =>
 oh (gd (wA t32 false) s (mp (aBin Tryz.prog .eql 5 t33 (.int .u8 13)) s)) fun t34 s =>
 oh (mp (aPick t32 (.bool true) t34) s) fun t35 s =>
 oh (some (t35,s)) fun t7_2 s =>
 F137_J1 D n k0 (upds e [(8,t8),(9,t9),(10,t10),(11,t11),(14,t14),(15,t15),(16,t16),(16,t16.strip),(6,t6),(17,t17),(18,t18),(18,t18.strip),(7,t7),(19,t19),(21,t21),(21,t21.strip),(20,t20),(22,t22),(23,t23),(24,t24),(25,t25),(26,t26),(27,t27),(28,t28),(29,t29),(30,t30),(31,t31),(32,t32),(33,t33),(34,t34),(35,t35),(35,t35.strip),(7,t7_2)]) s)
  (oh (mp (aBin Tryz.prog .eql 3 t19 (.int .i64 2)) s) fun t37 s =>
 oh (some (t37,s)) fun t36 s =>
 br t36
  (oh (some (t6.strip,s)) fun t38 s =>
 oh (aCall Tryz.prog D 192 [t38.strip] s) fun t39 s =>
 oh (some (t39,s)) fun t7_3 s =>
 F137_J1 D n k0 (upds e [(8,t8),(9,t9),(10,t10),(11,t11),(14,t14),(15,t15),(16,t16),(16,t16.strip),(6,t6),(17,t17),(18,t18),(18,t18.strip),(7,t7),(19,t19),(21,t21),(21,t21.strip),(20,t20),(37,t37),(37,t37.strip),(36,t36),(38,t38),(39,t39),(39,t39.strip),(7,t7_3)]) s)
  (oh (mp (aBin Tryz.prog .eql 3 t19 (.int .i64 3)) s) fun t41 s =>
 oh (some (t41,s)) fun t40 s =>
 br t40
  (oh (some (t6.strip,s)) fun t42 s =>
 oh (mp (aBin Tryz.prog .geq 5 t42 (.int .u8 48)) s) fun t43 s =>
 oh (some (t43.strip,s)) fun t44 s =>
 oh (gd (wA t44 true) s (some (t6.strip,s))) fun t45 s =>
 oh (gd (wA t44 true) s (mp (aBin Tryz.prog .leq 5 t45 (.int .u8 57)) s)) fun t46 s =>
 oh (mp (aPick t44 t46 (.bool false)) s) fun t47 s =>
 oh (some (t47,s)) fun t7_4 s =>
 F137_J1 D n k0 (upds e [(8,t8),(9,t9),(10,t10),(11,t11),(14,t14),(15,t15),(16,t16),(16,t16.strip),(6,t6),(17,t17),(18,t18),(18,t18.strip),(7,t7),(19,t19),(21,t21),(21,t21.strip),(20,t20),(37,t37),(37,t37.strip),(36,t36),(41,t41),(41,t41.strip),(40,t40),(42,t42),(43,t43),(44,t44),(45,t45),(46,t46),(47,t47),(47,t47.strip),(7,t7_4)]) s)
  (F137_J1 D n k0 (upds e [(8,t8),(9,t9),(10,t10),(11,t11),(14,t14),(15,t15),(16,t16),(16,t16.strip),(6,t6),(17,t17),(18,t18),(18,t18.strip),(7,t7),(19,t19),(21,t21),(21,t21.strip),(20,t20),(37,t37),(37,t37.strip),(36,t36),(41,t41),(41,t41.strip),(40,t40)]) s))))
  (oh (some ((e 0).strip,s)) fun t51 s =>
 oh (mp (aLen Tryz.prog 9 t51) s) fun t52 s =>
 oh (some (t52,s)) fun t4_3 s =>
 some (t4_3,s))
noncomputable def F137 (D:Den)(n:Nat)(t0 t1:AV)(s:Heap):Ans :=
 oh (some ((.int .i64 0),s)) fun t4 s =>
 oh (some ((.int .i64 0),s)) fun t5 s =>
 aLoop (F137_L0 D n) n (upds (argEnv [t0,t1]) [(4,t4),(5,t5)]) s
theorem F137_eq (n:Nat)(t0 t1:AV)(s:Heap):den C (n+1) 137 [t0,t1] s=F137 (den C n) n t0 t1 s :=
 (den_body rfl Tryz.func137 _ _).trans (by kernel_rfl)
theorem en137:enterable Tryz.prog 137=true:=by kernel_rfl
-- glossatorref1.Contains string
noncomputable def F138_L0 (D:Den)(n:Nat)(k0:Env→Heap→Ans)(e:Env)(s:Heap):Ans :=
 oh (mp (aBin Tryz.prog .lss 3 (e 9) (e 8)) s) fun t10 s =>
 br t10
  (oh (mp (aIndexAddr Tryz.prog 215 (e 7) (e 9)) s) fun t11 s =>
 oh (aLoad false false 1 t11 s) fun t12 s =>
 oh (some (t12,s)) fun t6 s =>
 oh (some ((e 1).strip,s)) fun t13 s =>
 oh (some (t6.strip,s)) fun t14 s =>
 oh (mp (aBin Tryz.prog .eql 9 t13 t14) s) fun t15 s =>
 br t15
  (oh (some ((.bool true),s)) fun t4_2 s =>
 some (t4_2,s))
  (oh (mp (aBin Tryz.prog .add 3 (e 9) (.int .i64 1)) s) fun t16 s =>
 oh (some (t16.strip,s)) fun t9_2 s =>
 k0 (upds e [(10,t10),(11,t11),(12,t12),(12,t12.strip),(6,t6),(13,t13),(14,t14),(15,t15),(16,t16),(9,t9_2)]) s))
  (oh (some ((.bool false),s)) fun t4_3 s =>
 some (t4_3,s))
noncomputable def F138 (D:Den)(n:Nat)(t0 t1:AV)(s:Heap):Ans :=
 oh (some ((.bool false),s)) fun t4 s =>
 oh (some (t0.strip,s)) fun t7 s =>
 oh (mp (aLen Tryz.prog 215 t7) s) fun t8 s =>
 oh (some ((.int .i64 0),s)) fun t9 s =>
 aLoop (F138_L0 D n) n (upds (argEnv [t0,t1]) [(4,t4),(7,t7),(8,t8),(9,t9)]) s
theorem F138_eq (n:Nat)(t0 t1:AV)(s:Heap):den C (n+1) 138 [t0,t1] s=F138 (den C n) n t0 t1 s :=
 (den_body rfl Tryz.func138 _ _).trans (by kernel_rfl)
theorem en138:enterable Tryz.prog 138=true:=by kernel_rfl
-- glossatorref1.Keywords
noncomputable def F139 (D:Den)(n:Nat)(s:Heap):Ans :=
 oh (some (.nils,s)) fun t0 s =>
 oh (mp (aBuildSlice Tryz.prog 215 22 [(0,(.str [117,115,101])),(1,(.str [112,117,98])),(2,(.str [97,115])),(3,(.str [102,110])),(4,(.str [115,116,114,117,99,116])),(5,(.str [101,110,117,109])),(6,(.str [116,114,97,105,116])),(7,(.str [105,109,112,108])),(8,(.str [102,111,114])),(9,(.str [99,111,110,115,116])),(10,(.str [109,97,99,114,111])),(11,(.str [108,101,116])),(12,(.str [109,117,116])),(13,(.str [119,104,105,108,101])),(14,(.str [114,101,116,117,114,110])),(15,(.str [109,97,116,99,104])),(16,(.str [105,102])),(17,(.str [101,108,115,101])),(18,(.str [110,101,119])),(19,(.str [116,114,117,101])),(20,(.str [102,97,108,115,101])),(21,(.str [116,121,112,101]))]) s) fun t1 s =>
 oh (some (t1,s)) fun t0_2 s =>
 some (t0_2,s)
theorem F139_eq (n:Nat)(s:Heap):den C (n+1) 139 [] s=F139 (den C n) n s :=
 (den_body rfl Tryz.func139 _ _).trans (by kernel_rfl)
theorem en139:enterable Tryz.prog 139=true:=by kernel_rfl
-- glossatorref1.literal
noncomputable def F140_L0 (D:Den)(n:Nat)(k0:Env→Heap→Ans)(e:Env)(s:Heap):Ans :=
 oh (some ((e 4).strip,s)) fun t5 s =>
 oh (some ((e 0).strip,s)) fun t6 s =>
 oh (mp (aLen Tryz.prog 9 t6) s) fun t7 s =>
 oh (mp (aBin Tryz.prog .lss 3 t5 t7) s) fun t8 s =>
 oh (some (t8.strip,s)) fun t9 s =>
 oh (gd (wA t9 true) s (some ((e 0).strip,s))) fun t10 s =>
 oh (gd (wA t9 true) s (some ((e 4).strip,s))) fun t11 s =>
 oh (gd (wA t9 true) s (mp (aIndex Tryz.prog 9 t10 t11) s)) fun t12 s =>
 oh (gd (wA t9 true) s (mp (aBin Tryz.prog .neq 5 t12 (.int .u8 10)) s)) fun t13 s =>
 oh (mp (aPick t9 t13 (.bool false)) s) fun t14 s =>
 br t14
  (oh (some ((e 0).strip,s)) fun t17 s =>
 oh (some ((e 4).strip,s)) fun t18 s =>
 oh (mp (aIndex Tryz.prog 9 t17 t18) s) fun t19 s =>
 oh (mp (aBin Tryz.prog .eql 5 t19 (.int .u8 34)) s) fun t20 s =>
 oh (some (t20.strip,s)) fun t21 s =>
 oh (gd (wA t21 true) s (some ((e 3).strip,s))) fun t22 s =>
 oh (gd (wA t21 true) s (mp (aUn .not t22) s)) fun t23 s =>
 oh (mp (aPick t21 t23 (.bool false)) s) fun t24 s =>
 br t24
  (oh (some ((e 4).strip,s)) fun t25 s =>
 oh (mp (aBin Tryz.prog .add 3 t25 (.int .i64 1)) s) fun t26 s =>
 oh (some (t26,s)) fun t2_2 s =>
 some (t2_2,s))
  (oh (some ((e 0).strip,s)) fun t27 s =>
 oh (some ((e 4).strip,s)) fun t28 s =>
 oh (mp (aIndex Tryz.prog 9 t27 t28) s) fun t29 s =>
 oh (mp (aBin Tryz.prog .eql 5 t29 (.int .u8 92)) s) fun t30 s =>
 oh (some (t30.strip,s)) fun t31 s =>
 oh (gd (wA t31 true) s (some ((e 3).strip,s))) fun t32 s =>
 oh (gd (wA t31 true) s (mp (aUn .not t32) s)) fun t33 s =>
 oh (mp (aPick t31 t33 (.bool false)) s) fun t34 s =>
 oh (some (t34,s)) fun t3_2 s =>
 oh (some ((e 4).strip,s)) fun t15 s =>
 oh (mp (aBin Tryz.prog .add 3 t15 (.int .i64 1)) s) fun t16 s =>
 oh (some (t16,s)) fun t4_2 s =>
 k0 (upds e [(5,t5),(6,t6),(7,t7),(8,t8),(9,t9),(10,t10),(11,t11),(12,t12),(13,t13),(14,t14),(17,t17),(18,t18),(19,t19),(20,t20),(21,t21),(22,t22),(23,t23),(24,t24),(27,t27),(28,t28),(29,t29),(30,t30),(31,t31),(32,t32),(33,t33),(34,t34),(34,t34.strip),(3,t3_2),(15,t15),(16,t16),(16,t16.strip),(4,t4_2)]) s))
  (oh (some ((.int .i64 0),s)) fun t2_3 s =>
 some (t2_3,s))
noncomputable def F140 (D:Den)(n:Nat)(t0:AV)(s:Heap):Ans :=
 oh (some ((.int .i64 0),s)) fun t2 s =>
 oh (some ((.bool false),s)) fun t3 s =>
 oh (some ((.int .i64 1),s)) fun t4 s =>
 aLoop (F140_L0 D n) n (upds (argEnv [t0]) [(2,t2),(3,t3),(4,t4)]) s
theorem F140_eq (n:Nat)(t0:AV)(s:Heap):den C (n+1) 140 [t0] s=F140 (den C n) n t0 s :=
 (den_body rfl Tryz.func140 _ _).trans (by kernel_rfl)
theorem en140:enterable Tryz.prog 140=true:=by kernel_rfl
-- glossatorref1.Puncts
noncomputable def F141 (D:Den)(n:Nat)(s:Heap):Ans :=
 oh (some (.nils,s)) fun t0 s =>
 oh (mp (aBuildSlice Tryz.prog 215 26 [(0,(.str [58,58])),(1,(.str [61,62])),(2,(.str [45,62])),(3,(.str [61,61])),(4,(.str [38,38])),(5,(.str [124,124])),(6,(.str [40])),(7,(.str [41])),(8,(.str [123])),(9,(.str [125])),(10,(.str [91])),(11,(.str [93])),(12,(.str [60])),(13,(.str [62])),(14,(.str [44])),(15,(.str [59])),(16,(.str [58])),(17,(.str [46])),(18,(.str [61])),(19,(.str [43])),(20,(.str [45])),(21,(.str [42])),(22,(.str [47])),(23,(.str [33])),(24,(.str [38])),(25,(.str [124]))]) s) fun t1 s =>
 oh (some (t1,s)) fun t0_2 s =>
 some (t0_2,s)
theorem F141_eq (n:Nat)(s:Heap):den C (n+1) 141 [] s=F141 (den C n) n s :=
 (den_body rfl Tryz.func141 _ _).trans (by kernel_rfl)
theorem en141:enterable Tryz.prog 141=true:=by kernel_rfl
-- glossatorref1.FirstToken 1
noncomputable def F136 (D:Den)(n:Nat)(t0 t1 t2:AV)(s:Heap):Ans :=
 oh (aAlloc Tryz.prog 80 s) fun t5 s =>
 oh (some (t0.strip,s)) fun t6 s =>
 oh (aLoad false false 1 t2 s) fun t7 s =>
 oh (some (t1.strip,s)) fun t8 s =>
 oh (mp (aSl Tryz.prog 9 t7 none (some t8) none) s) fun t9 s =>
 oh (mp (aBuild Tryz.prog 80 [(0,t6),(1,t9)]) s) fun t10 s =>
 oh (sto (aStore 2 s t5 t10)) fun _r s =>
 fin1 ((aLoad false true 2 t5 s).map (·.1)) s
theorem F136_eq (n:Nat)(t0 t1 t2:AV)(s:Heap):den C (n+1) 136 [t0,t1,t2] s=F136 (den C n) n t0 t1 t2 s :=
 (den_body rfl Tryz.func136 _ _).trans (by kernel_rfl)
theorem en136:enterable Tryz.prog 136=true:=by kernel_rfl
-- glossatorref1.FirstToken
noncomputable def F76_L0 (D:Den)(n:Nat)(k0:Env→Heap→Ans)(e:Env)(s:Heap):Ans :=
 oh (mp (aBin Tryz.prog .lss 3 (e 68) (e 67)) s) fun t69 s =>
 br t69
  (oh (mp (aIndexAddr Tryz.prog 215 (e 66) (e 68)) s) fun t70 s =>
 oh (aLoad false false 1 t70 s) fun t71 s =>
 oh (some (t71,s)) fun t9 s =>
 oh (aLoad false false 1 (e 1) s) fun t72 s =>
 oh (mp (aLen Tryz.prog 9 t72) s) fun t73 s =>
 oh (some (t9.strip,s)) fun t74 s =>
 oh (mp (aLen Tryz.prog 9 t74) s) fun t75 s =>
 oh (mp (aBin Tryz.prog .geq 3 t73 t75) s) fun t76 s =>
 oh (some (t76.strip,s)) fun t77 s =>
 oh (gd (wA t77 true) s (aLoad false false 1 (e 1) s)) fun t78 s =>
 oh (gd (wA t77 true) s (some (t9.strip,s))) fun t79 s =>
 oh (gd (wA t77 true) s (mp (aLen Tryz.prog 9 t79) s)) fun t80 s =>
 oh (gd (wA t77 true) s (mp (aSl Tryz.prog 9 t78 none (some t80) none) s)) fun t81 s =>
 oh (gd (wA t77 true) s (some (t9.strip,s))) fun t82 s =>
 oh (gd (wA t77 true) s (mp (aBin Tryz.prog .eql 9 t81 t82) s)) fun t83 s =>
 oh (mp (aPick t77 t83 (.bool false)) s) fun t84 s =>
 br t84
  (oh (some ((e 3).strip,s)) fun t85 s =>
 oh (some (t9.strip,s)) fun t86 s =>
 oh (mp (aLen Tryz.prog 9 t86) s) fun t87 s =>
 oh (aCallV Tryz.prog D t85 [(.int .i64 107),t87] s) fun t88 s =>
 oh (sto (aStore 2 s (e 2) t88)) fun _r s =>
 fin1 ((aLoad false true 2 (e 2) s).map (·.1)) s)
  (oh (mp (aBin Tryz.prog .add 3 (e 68) (.int .i64 1)) s) fun t89 s =>
 oh (some (t89.strip,s)) fun t68_2 s =>
 k0 (upds e [(69,t69),(70,t70),(71,t71),(71,t71.strip),(9,t9),(72,t72),(73,t73),(74,t74),(75,t75),(76,t76),(77,t77),(78,t78),(79,t79),(80,t80),(81,t81),(82,t82),(83,t83),(84,t84),(89,t89),(68,t68_2)]) s))
  (oh (some ((e 3).strip,s)) fun t90 s =>
 oh (aCallV Tryz.prog D t90 [(.int .i64 108),(.int .i64 1)] s) fun t91 s =>
 oh (sto (aStore 2 s (e 2) t91)) fun _r s =>
 fin1 ((aLoad false true 2 (e 2) s).map (·.1)) s)
noncomputable def F76 (D:Den)(n:Nat)(t0:AV)(s:Heap):Ans :=
 oh (aBox false 9 t0 s) fun t1 s =>
 oh (aAlloc Tryz.prog 80 s) fun t2 s =>
 oh (some ((.fn 136 [] [t1]),s)) fun t10 s =>
 oh (some (t10,s)) fun t3 s =>
 oh (aLoad false false 1 t1 s) fun t11 s =>
 oh (aCall Tryz.prog D 137 [t11.strip,(.int .i64 0)] s) fun t12 s =>
 oh (some (t12,s)) fun t4 s =>
 oh (some (t4.strip,s)) fun t13 s =>
 oh (mp (aBin Tryz.prog .gtr 3 t13 (.int .i64 0)) s) fun t14 s =>
 br t14
  (oh (some (t3.strip,s)) fun t15 s =>
 oh (some (t4.strip,s)) fun t16 s =>
 oh (aCallV Tryz.prog D t15 [(.int .i64 101),t16] s) fun t17 s =>
 oh (sto (aStore 2 s t2 t17)) fun _r s =>
 fin1 ((aLoad false true 2 t2 s).map (·.1)) s)
  (oh (aLoad false false 1 t1 s) fun t18 s =>
 oh (mp (aLen Tryz.prog 9 t18) s) fun t19 s =>
 oh (mp (aBin Tryz.prog .gtr 3 t19 (.int .i64 1)) s) fun t20 s =>
 oh (some (t20.strip,s)) fun t21 s =>
 oh (gd (wA t21 true) s (aLoad false false 1 t1 s)) fun t22 s =>
 oh (gd (wA t21 true) s (mp (aSl Tryz.prog 9 t22 none (some (.int .i64 2)) none) s)) fun t23 s =>
 oh (gd (wA t21 true) s (mp (aBin Tryz.prog .eql 9 t23 (.str [47,47])) s)) fun t24 s =>
 oh (mp (aPick t21 t24 (.bool false)) s) fun t25 s =>
 br t25
  (oh (some (t3.strip,s)) fun t26 s =>
 oh (aLoad false false 1 t1 s) fun t27 s =>
 oh (aCall Tryz.prog D 137 [t27.strip,(.int .i64 1)] s) fun t28 s =>
 oh (aCallV Tryz.prog D t26 [(.int .i64 102),t28] s) fun t29 s =>
 oh (sto (aStore 2 s t2 t29)) fun _r s =>
 fin1 ((aLoad false true 2 t2 s).map (·.1)) s)
  (oh (aLoad false false 1 t1 s) fun t30 s =>
 oh (aCall Tryz.prog D 137 [t30.strip,(.int .i64 3)] s) fun t31 s =>
 oh (some (t31,s)) fun t5 s =>
 oh (some (t5.strip,s)) fun t32 s =>
 oh (mp (aBin Tryz.prog .gtr 3 t32 (.int .i64 0)) s) fun t33 s =>
 br t33
  (oh (some (t3.strip,s)) fun t34 s =>
 oh (some (t5.strip,s)) fun t35 s =>
 oh (aCallV Tryz.prog D t34 [(.int .i64 105),t35] s) fun t36 s =>
 oh (sto (aStore 2 s t2 t36)) fun _r s =>
 fin1 ((aLoad false true 2 t2 s).map (·.1)) s)
  (oh (aLoad false false 1 t1 s) fun t37 s =>
 oh (aCall Tryz.prog D 137 [t37.strip,(.int .i64 2)] s) fun t38 s =>
 oh (some (t38,s)) fun t6 s =>
 oh (some (t6.strip,s)) fun t39 s =>
 oh (mp (aBin Tryz.prog .gtr 3 t39 (.int .i64 0)) s) fun t40 s =>
 br t40
  (oh (aCall Tryz.prog D 139 [] s) fun t41 s1 =>
 oh (aLoad false false 1 t1 s1) fun t42 s2 =>
 oh (some (t6.strip,s2)) fun t43 s3 =>
 oh (mp (aSl Tryz.prog 9 t42 none (some t43) none) s3) fun t44 s4 =>
 oh (aCall Tryz.prog D 138 [t41.strip,t44.strip] s4) fun t45 s5 =>
 drawOK C 76 (regOps Tryz.f76 12) [(dyn (kCall []) s s1),(kLoad false t1),.silent,.silent,(dyn (kCall [t41.strip,t44.strip]) s4 s5)] <|
 br t45
  (oh (some (t3.strip,s5)) fun t46 s =>
 oh (some (t6.strip,s)) fun t47 s =>
 oh (aCallV Tryz.prog D t46 [(.int .i64 104),t47] s) fun t48 s =>
 oh (sto (aStore 2 s t2 t48)) fun _r s =>
 fin1 ((aLoad false true 2 t2 s).map (·.1)) s)
  (oh (some (t3.strip,s5)) fun t49 s =>
 oh (some (t6.strip,s)) fun t50 s =>
 oh (aCallV Tryz.prog D t49 [(.int .i64 103),t50] s) fun t51 s =>
 oh (sto (aStore 2 s t2 t51)) fun _r s =>
 fin1 ((aLoad false true 2 t2 s).map (·.1)) s))
  (oh (aLoad false false 1 t1 s) fun t52 s =>
 oh (mp (aIndex Tryz.prog 9 t52 (.int .i64 0)) s) fun t53 s =>
 oh (mp (aBin Tryz.prog .eql 5 t53 (.int .u8 34)) s) fun t54 s =>
 br t54
  (oh (aLoad false false 1 t1 s) fun t55 s =>
 oh (aCall Tryz.prog D 140 [t55.strip] s) fun t56 s =>
 oh (some (t56,s)) fun t7 s =>
 oh (some (t7.strip,s)) fun t57 s =>
 oh (mp (aBin Tryz.prog .gtr 3 t57 (.int .i64 0)) s) fun t58 s =>
 br t58
  (oh (some (t3.strip,s)) fun t59 s =>
 oh (some (t7.strip,s)) fun t60 s =>
 oh (aCallV Tryz.prog D t59 [(.int .i64 106),t60] s) fun t61 s =>
 oh (sto (aStore 2 s t2 t61)) fun _r s =>
 fin1 ((aLoad false true 2 t2 s).map (·.1)) s)
  (oh (some (t3.strip,s)) fun t62 s =>
 oh (aLoad false false 1 t1 s) fun t63 s =>
 oh (aCall Tryz.prog D 137 [t63.strip,(.int .i64 1)] s) fun t64 s =>
 oh (aCallV Tryz.prog D t62 [(.int .i64 108),t64] s) fun t65 s =>
 oh (sto (aStore 2 s t2 t65)) fun _r s =>
 fin1 ((aLoad false true 2 t2 s).map (·.1)) s))
  (oh (aCall Tryz.prog D 141 [] s) fun t66 s =>
 oh (mp (aLen Tryz.prog 215 t66) s) fun t67 s =>
 oh (some ((.int .i64 0),s)) fun t68 s =>
 aLoop (F76_L0 D n) n (upds (argEnv [t0]) [(1,t1),(2,t2),(10,t10),(10,t10.strip),(3,t3),(11,t11),(12,t12),(12,t12.strip),(4,t4),(13,t13),(14,t14),(18,t18),(19,t19),(20,t20),(21,t21),(22,t22),(23,t23),(24,t24),(25,t25),(30,t30),(31,t31),(31,t31.strip),(5,t5),(32,t32),(33,t33),(37,t37),(38,t38),(38,t38.strip),(6,t6),(39,t39),(40,t40),(52,t52),(53,t53),(54,t54),(66,t66),(67,t67),(68,t68)]) s)))))
theorem F76_eq (n:Nat)(t0:AV)(s:Heap):den C (n+1) 76 [t0] s=F76 (den C n) n t0 s :=
 (den_body rfl Tryz.func76 _ _).trans (by kernel_rfl)
theorem d76_12 (x:Ans):drawOK C 76 (regOps Tryz.f76 12) [.silent,.silent,.silent,.silent,.silent] x=x:=drawOK_ok (by kernel_rfl)
theorem en76:enterable Tryz.prog 76=true:=by kernel_rfl
-- glossatorref1.Tokens
noncomputable def F31_L0 (D:Den)(n:Nat)(k0:Env→Heap→Ans)(e:Env)(s:Heap):Ans :=
 oh (some ((e 0).strip,s)) fun t5 s =>
 oh (mp (aLen Tryz.prog 9 t5) s) fun t6 s =>
 oh (mp (aBin Tryz.prog .gtr 3 t6 (.int .i64 0)) s) fun t7 s =>
 br t7
  (oh (some ((e 0).strip,s)) fun t8 s =>
 oh (aCall Tryz.prog D 76 [t8.strip] s) fun t9 s =>
 oh (aAlloc Tryz.prog 80 s) fun t4 s =>
 oh (sto (aStore 2 s t4 t9)) fun _r s =>
 oh (some ((e 3),s)) fun t10 s =>
 oh (aLoad false true 2 t4 s) fun t11 s =>
 oh (mp (aBuildSlice Tryz.prog 74 1 [(0,t11)]) s) fun t12 s =>
 oh (mp (aAppend Tryz.prog 74 74 t10 t12) s) fun t13 s =>
 oh (some (t13,s)) fun t3_2 s =>
 oh (some ((e 0).strip,s)) fun t14 s =>
 oh (mp (aAddr 1 t4) s) fun t15 s =>
 oh (aLoad false false 1 t15 s) fun t16 s =>
 oh (mp (aLen Tryz.prog 9 t16) s) fun t17 s =>
 oh (mp (aSl Tryz.prog 9 t14 (some t17) none none) s) fun t18 s =>
 oh (some (t18,s)) fun t0_2 s =>
 k0 (upds e [(5,t5),(6,t6),(7,t7),(8,t8),(9,t9),(4,t4),(9,t9.strip),(3,(e 3).strip),(10,t10),(11,t11),(12,t12),(10,t10.strip),(13,t13),(13,t13.strip),(3,t3_2),(14,t14),(15,t15),(16,t16),(17,t17),(18,t18),(18,t18.strip),(0,t0_2)]) s)
  (oh (some ((e 3).strip,s)) fun t19 s =>
 oh (some (t19,s)) fun t2_2 s =>
 some (t2_2,s))
noncomputable def F31 (D:Den)(n:Nat)(t0:AV)(s:Heap):Ans :=
 oh (some (.nils,s)) fun t2 s =>
 oh (some (.nils,s)) fun t3 s =>
 aLoop (F31_L0 D n) n (upds (argEnv [t0]) [(2,t2),(3,t3)]) s
theorem F31_eq (n:Nat)(t0:AV)(s:Heap):den C (n+1) 31 [t0] s=F31 (den C n) n t0 s :=
 (den_body rfl Tryz.func31 _ _).trans (by kernel_rfl)
theorem en31:enterable Tryz.prog 31=true:=by kernel_rfl
-- glossatorref1.Starts
noncomputable def F32_L0 (D:Den)(n:Nat)(k0:Env→Heap→Ans)(e:Env)(s:Heap):Ans :=
 oh (mp (aBin Tryz.prog .lss 3 (e 9) (e 8)) s) fun t10 s =>
 br t10
  (oh (mp (aIndexAddr Tryz.prog 74 (e 7) (e 9)) s) fun t11 s =>
 oh (aLoad false true 2 t11 s) fun t12 s =>
 oh (aAlloc Tryz.prog 80 s) fun t6 s =>
 oh (sto (aStore 2 s t6 t12)) fun _r s =>
 oh (some ((e 3),s)) fun t13 s =>
 oh (some ((e 4).strip,s)) fun t14 s =>
 oh (mp (aBuildSlice Tryz.prog 76 1 [(0,t14)]) s) fun t15 s =>
 oh (mp (aAppend Tryz.prog 76 76 t13 t15) s) fun t16 s =>
 oh (some (t16,s)) fun t3_2 s =>
 oh (some ((e 4).strip,s)) fun t17 s =>
 oh (mp (aAddr 1 t6) s) fun t18 s =>
 oh (aLoad false false 1 t18 s) fun t19 s =>
 oh (mp (aLen Tryz.prog 9 t19) s) fun t20 s =>
 oh (mp (aBin Tryz.prog .add 3 t17 t20) s) fun t21 s =>
 oh (some (t21,s)) fun t4_2 s =>
 oh (mp (aBin Tryz.prog .add 3 (e 9) (.int .i64 1)) s) fun t22 s =>
 oh (some (t22.strip,s)) fun t9_2 s =>
 k0 (upds e [(10,t10),(11,t11),(12,t12),(6,t6),(12,t12.strip),(3,(e 3).strip),(13,t13),(14,t14),(15,t15),(13,t13.strip),(16,t16),(16,t16.strip),(3,t3_2),(17,t17),(18,t18),(19,t19),(20,t20),(21,t21),(21,t21.strip),(4,t4_2),(22,t22),(9,t9_2)]) s)
  (oh (some ((e 3).strip,s)) fun t23 s =>
 oh (some (t23,s)) fun t2_2 s =>
 some (t2_2,s))
noncomputable def F32 (D:Den)(n:Nat)(t0:AV)(s:Heap):Ans :=
 oh (some (.nils,s)) fun t2 s =>
 oh (some (.nils,s)) fun t3 s =>
 oh (some ((.int .i64 0),s)) fun t4 s =>
 oh (some (t0.strip,s)) fun t7 s =>
 oh (mp (aLen Tryz.prog 74 t7) s) fun t8 s =>
 oh (some ((.int .i64 0),s)) fun t9 s =>
 aLoop (F32_L0 D n) n (upds (argEnv [t0]) [(2,t2),(3,t3),(4,t4),(7,t7),(8,t8),(9,t9)]) s
theorem F32_eq (n:Nat)(t0:AV)(s:Heap):den C (n+1) 32 [t0] s=F32 (den C n) n t0 s :=
 (den_body rfl Tryz.func32 _ _).trans (by kernel_rfl)
theorem en32:enterable Tryz.prog 32=true:=by kernel_rfl
-- glossatorkeep1.ReparseReuses
noncomputable def F8_J0 (D:Den)(n:Nat)(e:Env)(s:Heap):Ans :=
 oh (some ((e 8).strip,s)) fun t133 s =>
 oh (some ((e 12).strip,s)) fun t134 s =>
 oh (mp (aBin Tryz.prog .geq 3 t133 t134) s) fun t135 s =>
 oh (some (t135,s)) fun t4_4 s =>
 some (t4_4,s)
noncomputable def F8_J3 (D:Den)(n:Nat)(k0:Env→Heap→Ans)(k1:Env→Heap→Ans)(e:Env)(s:Heap):Ans :=
 oh (mp (aBin Tryz.prog .add 3 (e 91) (.int .i64 1)) s) fun t127 s =>
 oh (some (t127.strip,s)) fun t91_2 s =>
 k1 (upds e [(127,t127),(91,t91_2)]) s
noncomputable def F8_J4 (D:Den)(n:Nat)(k0:Env→Heap→Ans)(e:Env)(s:Heap):Ans :=
 oh (mp (aBin Tryz.prog .add 3 (e 77) (.int .i64 1)) s) fun t132 s =>
 oh (some (t132.strip,s)) fun t77_2 s =>
 k0 (upds e [(132,t132),(77,t77_2)]) s
noncomputable def F8_L2 (D:Den)(n:Nat)(k0:Env→Heap→Ans)(k1:Env→Heap→Ans)(e:Env)(s:Heap):Ans :=
 oh (mp (aBin Tryz.prog .lss 3 (e 91) (e 90)) s) fun t92 s =>
 br t92
  (oh (some ((e 91).strip,s)) fun t93 s =>
 oh (mp (aIndexAddr Tryz.prog 74 (e 89) (e 91)) s) fun t94 s =>
 oh (aLoad false true 2 t94 s) fun t95 s =>
 oh (aAlloc Tryz.prog 80 s) fun t18 s =>
 oh (some (t93,s)) fun t17 s =>
 oh (sto (aStore 2 s t18 t95)) fun _r s =>
 oh (some ((e 11).strip,s)) fun t96 s =>
 oh (some (t17.strip,s)) fun t97 s =>
 oh (mp (aIndexAddr Tryz.prog 76 t96 t97) s) fun t98 s =>
 oh (aLoad false false 1 t98 s) fun t99 s =>
 oh (some ((e 13).strip,s)) fun t100 s =>
 oh (mp (aBin Tryz.prog .geq 3 t99 t100) s) fun t101 s =>
 oh (some (t101.strip,s)) fun t102 s =>
 oh (gd (wA t102 true) s (some ((e 11).strip,s))) fun t103 s =>
 oh (gd (wA t102 true) s (some (t17.strip,s))) fun t104 s =>
 oh (gd (wA t102 true) s (mp (aIndexAddr Tryz.prog 76 t103 t104) s)) fun t105 s =>
 oh (gd (wA t102 true) s (aLoad false false 1 t105 s)) fun t106 s =>
 oh (gd (wA t102 true) s (mp (aAddr 1 t18) s)) fun t107 s =>
 oh (gd (wA t102 true) s (aLoad false false 1 t107 s)) fun t108 s =>
 oh (gd (wA t102 true) s (mp (aLen Tryz.prog 9 t108) s)) fun t109 s =>
 oh (gd (wA t102 true) s (mp (aBin Tryz.prog .add 3 t106 t109) s)) fun t110 s =>
 oh (gd (wA t102 true) s (mp (aAddr 0 (e 3)) s)) fun t111 s =>
 oh (gd (wA t102 true) s (aLoad false false 1 t111 s)) fun t112 s =>
 oh (gd (wA t102 true) s (mp (aBin Tryz.prog .lss 3 t110 t112) s)) fun t113 s =>
 oh (mp (aPick t102 t113 (.bool false)) s) fun t114 s =>
 oh (some (t114.strip,s)) fun t115 s =>
 oh (gd (wA t115 true) s (mp (aAddr 0 t18) s)) fun t116 s =>
 oh (gd (wA t115 true) s (aLoad false false 1 t116 s)) fun t117 s =>
 oh (gd (wA t115 true) s (mp (aBin Tryz.prog .neq 3 t117 (.int .i64 101)) s)) fun t118 s =>
 oh (mp (aPick t115 t118 (.bool false)) s) fun t119 s =>
 oh (some (t119.strip,s)) fun t120 s =>
 oh (gd (wA t120 true) s (mp (aAddr 0 t18) s)) fun t121 s =>
 oh (gd (wA t120 true) s (aLoad false false 1 t121 s)) fun t122 s =>
 oh (gd (wA t120 true) s (mp (aBin Tryz.prog .neq 3 t122 (.int .i64 102)) s)) fun t123 s =>
 oh (mp (aPick t120 t123 (.bool false)) s) fun t124 s =>
 drawOK C 8 (regOps Tryz.f8 23) [.silent,.silent,.silent,(kLoad false t98),.silent,.silent,.silent,(kGd (wA t102 true) .silent),(kGd (wA t102 true) .silent),(kGd (wA t102 true) .silent),(kGd (wA t102 true) (kLoad false t105)),(kGd (wA t102 true) .silent),(kGd (wA t102 true) (kLoad false t107)),(kGd (wA t102 true) .silent),(kGd (wA t102 true) .silent),(kGd (wA t102 true) .silent),(kGd (wA t102 true) (kLoad false t111)),(kGd (wA t102 true) .silent),.silent,.silent,(kGd (wA t115 true) .silent),(kGd (wA t115 true) (kLoad false t116)),(kGd (wA t115 true) .silent),.silent,.silent,(kGd (wA t120 true) .silent),(kGd (wA t120 true) (kLoad false t121)),(kGd (wA t120 true) .silent),.silent] <|
 br t124
  (oh (some ((e 16).strip,s)) fun t125 s =>
 oh (mp (aBin Tryz.prog .add 3 t125 (.int .i64 1)) s) fun t126 s =>
 oh (some (t126,s)) fun t16_2 s =>
 F8_J3 D n k0 k1 (upds e [(92,t92),(93,t93),(94,t94),(95,t95),(18,t18),(93,t93.strip),(17,t17),(95,t95.strip),(96,t96),(97,t97),(98,t98),(99,t99),(100,t100),(101,t101),(102,t102),(103,t103),(104,t104),(105,t105),(106,t106),(107,t107),(108,t108),(109,t109),(110,t110),(111,t111),(112,t112),(113,t113),(114,t114),(115,t115),(116,t116),(117,t117),(118,t118),(119,t119),(120,t120),(121,t121),(122,t122),(123,t123),(124,t124),(125,t125),(126,t126),(126,t126.strip),(16,t16_2)]) s)
  (F8_J3 D n k0 k1 (upds e [(92,t92),(93,t93),(94,t94),(95,t95),(18,t18),(93,t93.strip),(17,t17),(95,t95.strip),(96,t96),(97,t97),(98,t98),(99,t99),(100,t100),(101,t101),(102,t102),(103,t103),(104,t104),(105,t105),(106,t106),(107,t107),(108,t108),(109,t109),(110,t110),(111,t111),(112,t112),(113,t113),(114,t114),(115,t115),(116,t116),(117,t117),(118,t118),(119,t119),(120,t120),(121,t121),(122,t122),(123,t123),(124,t124)]) s))
  (oh (some ((e 16).strip,s)) fun t128 s =>
 oh (mp (aBin Tryz.prog .geq 3 t128 (.int .i64 2)) s) fun t129 s =>
 br t129
  (oh (some ((e 12).strip,s)) fun t130 s =>
 oh (mp (aBin Tryz.prog .add 3 t130 (.int .i64 1)) s) fun t131 s =>
 oh (some (t131,s)) fun t12_2 s =>
 F8_J4 D n k0 (upds e [(92,t92),(128,t128),(129,t129),(130,t130),(131,t131),(131,t131.strip),(12,t12_2)]) s)
  (F8_J4 D n k0 (upds e [(92,t92),(128,t128),(129,t129)]) s))
noncomputable def F8_L1 (D:Den)(n:Nat)(k0:Env→Heap→Ans)(e:Env)(s:Heap):Ans :=
 oh (mp (aBin Tryz.prog .lss 3 (e 77) (e 76)) s) fun t78 s =>
 br t78
  (oh (mp (aIndexAddr Tryz.prog 50 (e 75) (e 77)) s) fun t79 s =>
 oh (aLoad false true 3 t79 s) fun t80 s =>
 oh (aAlloc Tryz.prog 52 s) fun t15 s =>
 oh (sto (aStore 3 s t15 t80)) fun _r s =>
 oh (some ((e 13).strip,s)) fun t81 s =>
 oh (aLoad false true 3 t15 s) fun t82 s =>
 oh (aCall Tryz.prog D 33 [t82.strip] s) fun t83 s =>
 oh (mp (aLen Tryz.prog 9 t83) s) fun t84 s =>
 oh (mp (aBin Tryz.prog .add 3 t81 t84) s) fun t85 s =>
 oh (some (t85,s)) fun t13_2 s =>
 oh (mp (aAddr 0 t15) s) fun t86 s =>
 oh (aLoad false false 1 t86 s) fun t87 s =>
 oh (mp (aBin Tryz.prog .geq 3 t87 (.int .i64 100)) s) fun t88 s =>
 br t88
  (F8_J0 D n (upds e [(78,t78),(79,t79),(80,t80),(15,t15),(80,t80.strip),(81,t81),(82,t82),(83,t83),(84,t84),(85,t85),(85,t85.strip),(13,t13_2),(86,t86),(87,t87),(88,t88)]) s)
  (oh (some ((.int .i64 0),s)) fun t16 s =>
 oh (some ((e 10).strip,s)) fun t89 s =>
 oh (mp (aLen Tryz.prog 74 t89) s) fun t90 s =>
 oh (some ((.int .i64 0),s)) fun t91 s =>
 aLoop (F8_L2 D n k0) n (upds e [(78,t78),(79,t79),(80,t80),(15,t15),(80,t80.strip),(81,t81),(82,t82),(83,t83),(84,t84),(85,t85),(85,t85.strip),(13,t13_2),(86,t86),(87,t87),(88,t88),(16,t16),(89,t89),(90,t90),(91,t91)]) s))
  (F8_J0 D n (upds e [(78,t78)]) s)
noncomputable def F8 (D:Den)(n:Nat)(t0 t1:AV)(s:Heap):Ans :=
 oh (aBox true 67 t1 s) fun t3 s =>
 oh (some ((.bool false),s)) fun t4 s =>
 oh (aCall Tryz.prog D 29 [] s) fun t19 s =>
 oh (mp (aUn .not t19) s) fun t20 s =>
 br t20
  (oh (some ((.bool false),s)) fun t4_2 s =>
 some (t4_2,s))
  (oh (some (t0.strip,s)) fun t21 s =>
 oh (aCall Tryz.prog D 22 [t21.strip,(.int .i64 400)] s) fun t22 s =>
 oh (some (t22,s)) fun t0_2 s =>
 oh (mp (aAddr 0 t3) s) fun t23 s =>
 oh (aLoad false false 1 t23 s) fun t24 s =>
 oh (some (t0_2.strip,s)) fun t25 s =>
 oh (mp (aLen Tryz.prog 9 t25) s) fun t26 s =>
 oh (mp (aBin Tryz.prog .add 3 t26 (.int .i64 1)) s) fun t27 s =>
 oh (aCall Tryz.prog D 27 [t24.strip,t27.strip] s) fun t28 s =>
 oh (mp (aAddr 0 t3) s) fun t29 s =>
 oh (sto (aStore 1 s t29 t28)) fun _r s =>
 oh (mp (aAddr 0 t3) s) fun t30 s1 =>
 oh (aLoad false false 1 t30 s1) fun t31 s2 =>
 oh (mp (aAddr 1 t3) s2) fun t32 s3 =>
 oh (aLoad false false 1 t32 s3) fun t33 s4 =>
 oh (some (t0_2.strip,s4)) fun t34 s5 =>
 oh (mp (aLen Tryz.prog 9 t34) s5) fun t35 s6 =>
 oh (mp (aAddr 0 t3) s6) fun t36 s7 =>
 oh (aLoad false false 1 t36 s7) fun t37 s8 =>
 oh (mp (aBin Tryz.prog .sub 3 t35 t37) s8) fun t38 s9 =>
 oh (mp (aBin Tryz.prog .add 3 t38 (.int .i64 1)) s9) fun t39 s10 =>
 oh (aCall Tryz.prog D 27 [t33.strip,t39.strip] s10) fun t40 s11 =>
 oh (mp (aBin Tryz.prog .add 3 t31 t40) s11) fun t41 s12 =>
 oh (mp (aAddr 1 t3) s12) fun t42 s13 =>
 oh (sto (aStore 1 s13 t42 t41)) fun _r s14 =>
 drawOK C 8 (regOps Tryz.f8 5) [.silent,(kLoad false t30),.silent,(kLoad false t32),.silent,.silent,.silent,(kLoad false t36),.silent,.silent,(dyn (kCall [t33.strip,t39.strip]) s10 s11),.silent,.silent,(kStore t42)] <|
 oh (mp (aAddr 2 t3) s14) fun t43 s =>
 oh (aLoad false false 1 t43 s) fun t44 s =>
 oh (aCall Tryz.prog D 22 [t44.strip,(.int .i64 40)] s) fun t45 s =>
 oh (mp (aAddr 2 t3) s) fun t46 s =>
 oh (sto (aStore 1 s t46 t45)) fun _r s =>
 oh (some (t0_2.strip,s)) fun t48 s =>
 oh (aCall Tryz.prog D 21 [t48.strip] s) fun t49 s =>
 oh (some (t49.strip,s)) fun t47 s =>
 oh (mp (aExtract 0 t47) s) fun t50 s =>
 oh (mp (aExtract 1 t47) s) fun t51 s =>
 oh (aAlloc Tryz.prog 52 s) fun t5 s =>
 oh (sto (aStore 3 s t5 t50)) fun _r s =>
 oh (some (t51,s)) fun t6 s =>
 oh (some (t0_2.strip,s)) fun t53 s =>
 oh (aLoad false true 3 t5 s) fun t54 s =>
 oh (aLoad false true 3 t3 s) fun t55 s =>
 oh (aCall Tryz.prog D 30 [t53.strip,t54.strip,t55.strip] s) fun t56 s =>
 oh (some (t56.strip,s)) fun t52 s =>
 oh (mp (aExtract 0 t52) s) fun t57 s =>
 oh (mp (aExtract 1 t52) s) fun t58 s =>
 oh (mp (aExtract 2 t52) s) fun t59 s =>
 oh (aAlloc Tryz.prog 52 s) fun t7 s =>
 oh (sto (aStore 3 s t7 t57)) fun _r s =>
 oh (some (t58,s)) fun t8 s =>
 oh (some (t59,s)) fun t9 s =>
 oh (aCall Tryz.prog D 29 [] s) fun t60 s =>
 oh (mp (aUn .not t60) s) fun t61 s =>
 oh (some (t61.strip,s)) fun t62 s =>
 oh (gd (wA t62 false) s (some (t6.strip,s))) fun t63 s =>
 oh (gd (wA t62 false) s (mp (aBin Tryz.prog .neq 24 t63 (.int .i64 0)) s)) fun t64 s =>
 oh (mp (aPick t62 (.bool true) t64) s) fun t65 s =>
 oh (some (t65.strip,s)) fun t66 s =>
 oh (gd (wA t66 false) s (some (t9.strip,s))) fun t67 s =>
 oh (gd (wA t66 false) s (mp (aBin Tryz.prog .neq 24 t67 (.int .i64 0)) s)) fun t68 s =>
 oh (mp (aPick t66 (.bool true) t68) s) fun t69 s =>
 br t69
  (oh (some ((.bool false),s)) fun t4_3 s =>
 some (t4_3,s))
  (oh (some (t0_2.strip,s)) fun t70 s =>
 oh (aCall Tryz.prog D 31 [t70.strip] s) fun t71 s =>
 oh (some (t71,s)) fun t10 s =>
 oh (some (t10.strip,s)) fun t72 s =>
 oh (aCall Tryz.prog D 32 [t72.strip] s) fun t73 s =>
 oh (some (t73,s)) fun t11 s =>
 oh (some ((.int .i64 0),s)) fun t12 s =>
 oh (some ((.int .i64 0),s)) fun t13 s =>
 oh (mp (aAddr 2 t5) s) fun t74 s =>
 oh (aLoad false false 1 t74 s) fun t75 s =>
 oh (mp (aLen Tryz.prog 50 t75) s) fun t76 s =>
 oh (some ((.int .i64 0),s)) fun t77 s =>
 aLoop (F8_L1 D n) n (upds (argEnv [t0,t1]) [(3,t3),(4,t4),(19,t19),(20,t20),(21,t21),(22,t22),(22,t22.strip),(0,t0_2),(23,t23),(24,t24),(25,t25),(26,t26),(27,t27),(28,t28),(29,t29),(28,t28.strip),(30,t30),(31,t31),(32,t32),(33,t33),(34,t34),(35,t35),(36,t36),(37,t37),(38,t38),(39,t39),(40,t40),(41,t41),(42,t42),(41,t41.strip),(43,t43),(44,t44),(45,t45),(46,t46),(45,t45.strip),(48,t48),(49,t49),(47,t47),(50,t50),(51,t51),(5,t5),(50,t50.strip),(51,t51.strip),(6,t6),(53,t53),(54,t54),(55,t55),(56,t56),(52,t52),(57,t57),(58,t58),(59,t59),(7,t7),(57,t57.strip),(58,t58.strip),(8,t8),(59,t59.strip),(9,t9),(60,t60),(61,t61),(62,t62),(63,t63),(64,t64),(65,t65),(66,t66),(67,t67),(68,t68),(69,t69),(70,t70),(71,t71),(71,t71.strip),(10,t10),(72,t72),(73,t73),(73,t73.strip),(11,t11),(12,t12),(13,t13),(74,t74),(75,t75),(76,t76),(77,t77)]) s))
theorem F8_eq (n:Nat)(t0 t1:AV)(s:Heap):den C (n+1) 8 [t0,t1] s=F8 (den C n) n t0 t1 s :=
 (den_body rfl Tryz.func8 _ _).trans (by kernel_rfl)
theorem d8_5 {g0 g1 g2:Nat}(a:Nat)(x:Ans):drawOK C 8 (regOps Tryz.f8 5) [.silent,.get g0,.silent,.get g1,.silent,.silent,.silent,.get g2,.silent,.silent,.silent,.silent,.silent,.put a] x=x:=drawOK_both (a:=a) (b:=a+1) (ks0:=[.silent,.reader,.silent,.reader,.silent,.silent,.silent,.reader,.silent,.silent,.silent,.silent,.silent,.put 0]) (by omega) (by kernel_rfl) rfl
theorem d8_23 {g0 g1 g2 g3:Nat}(x:Ans):drawOK C 8 (regOps Tryz.f8 23) [.silent,.silent,.silent,.silent,.silent,.silent,.silent,.silent,.silent,.silent,.silent,.silent,.get g0,.silent,.silent,.silent,.get g1,.silent,.silent,.silent,.silent,.get g2,.silent,.silent,.silent,.silent,.get g3,.silent,.silent] x=x:=drawOK_base (by kernel_rfl)
theorem en8:enterable Tryz.prog 8=true:=by kernel_rfl
end RfF
end

section
set_option maxRecDepth 100000
set_option maxHeartbeats 2000000
namespace LexF
open Go Go.Abs Go.Proofs ParF RfF
theorem i8 {c k:UInt8}(z:Int)(hz:z=k.toNat):((c.toNat:Int)==z)=decide (c=k):=eqb c k z hz
theorem wordB_den (c:UInt8)(n:Nat):den C (n+1) 192 [U c] []=some (.bool (isWord c),[]):=by
 have e95:((c.toNat:Int)==95)=(c.toNat==95):=by
  by_cases h:c.toNat=95
  ·rw[h];rfl
  ·rw[beq_eq_false_iff_ne.2 h,beq_eq_false_iff_ne.2 (by omega)]
 rw[F192_eq,F192]
 have w:isWord c=(isLet c || isDig c):=rfl
 by_cases h1:97≤c.toNat<;>by_cases h2:c.toNat≤122<;>by_cases h3:65≤c.toNat<;>by_cases h4:c.toNat≤90<;>by_cases h5:48≤c.toNat<;>by_cases h6:c.toNat≤57
 all_goals first
  | (exfalso;omega)
  | skip
 all_goals
  have k1:decide ((97:Int)≤(c.toNat:Int))=decide (97≤c.toNat):=by rw[decide_eq_decide];omega
  have k2:decide ((c.toNat:Int)≤122)=decide (c.toNat≤122):=by rw[decide_eq_decide];omega
  have k3:decide ((65:Int)≤(c.toNat:Int))=decide (65≤c.toNat):=by rw[decide_eq_decide];omega
  have k4:decide ((c.toNat:Int)≤90)=decide (c.toNat≤90):=by rw[decide_eq_decide];omega
  have k5:decide ((48:Int)≤(c.toNat:Int))=decide (48≤c.toNat):=by rw[decide_eq_decide];omega
  have k6:decide ((c.toNat:Int)≤57)=decide (c.toNat≤57):=by rw[decide_eq_decide];omega
  cases h7:(c.toNat==95)
 all_goals
  simp -implicitDefEqProofs only[sL,k1,k2,k3,k4,k5,k6,e95,h7,w,isLet,isDig,h1,h2,h3,h4,h5,h6,decide_true,decide_false,Bool.and_true,Bool.and_false,Bool.true_and,Bool.false_and,Bool.or_true,Bool.or_false,Bool.true_or,Bool.false_or]
theorem wordB_one (c:UInt8)(f:Nat)(s:Heap):aCall Tryz.prog (den C (f+1)) 192 [U c] s=some (.bool (isWord c),s):=by
 simp[aCall,en192,wordB_den,noRefL_cons,noRefL_nil,noRef_int,noRef_bool]
theorem run_loop (l:List UInt8)(hl:l.length<1000000)(q:Int)(p:UInt8→Bool)
  (hp:∃N,∀f,N≤f→∀n' k0 e s (i:Nat) c,e 0=.str l→e 5=I i→e 1=I q→l[i]?=some c→i<l.length→∃E,F137_L0 (den C f) n' k0 e s=F137_J1 (den C f) n' k0 E s∧E 7=.bool (p c)∧E 5=I i∧E 0=.str l∧E 1=I q) :
  ∃N,∀f,N≤f→∀(k i:Nat),l.length-i=k→i≤l.length→∀r,k<r→∀n' e s,e 0=.str l→e 5=I i→e 1=I q→aLoop (F137_L0 (den C f) n') r e s=some (I (i+scanN p (l.drop i):Nat),s):=by
 obtain⟨N,hp⟩:=hp
 refine⟨N,fun f hf k=>?_⟩
 induction k with
 | zero =>
  intro i hk hi r hr n' e s e0 e5 e1
  obtain⟨r,rfl⟩:∃j,r=j+1:=⟨r-1,by omega⟩
  have hi':i=l.length:=by omega
  subst hi'
  have c:¬l.length<l.length:=by omega
  have hz:scanN p (l.drop l.length)=0:=by rw[List.drop_of_length_le (by omega)];rfl
  rw[aLoop,F137_L0,hz]
  simp -implicitDefEqProofs only[sL,e0,e5,e1,len9,c]
  try rfl
 | succ k ih =>
  intro i hk hi r hr n' e s e0 e5 e1
  obtain⟨r,rfl⟩:∃j,r=j+1:=⟨r-1,by omega⟩
  have c:i<l.length:=by omega
  obtain⟨E,h1,h7,h5,h0,hq⟩:=hp f hf n' (aLoop (F137_L0 (den C f) n') r) e s i _ e0 e5 e1 (List.getElem?_eq_getElem c) c
  have hs:=scan_at (p:=p) c
  generalize l[i]=b at *
  have w:=wadd1 (a:=i) (by omega)
  rw[aLoop,h1,F137_J1,hs]
  cases hb:p b with
  | false =>
   rw[hb]at h7
   simp -implicitDefEqProofs only[sL,h7,h5,Bool.not_false]
   try rfl
  | true =>
   rw[hb]at h7
   simp -implicitDefEqProofs only[sL,h7,h5,w,Bool.not_true]
   rw[show i+(1+scanN p (l.drop (i+1)))=(i+1)+scanN p (l.drop (i+1)) by omega]
   exact ih (i+1) (by omega) (by omega) r (by omega) n' _ s ((upds_get _ _ _ rfl).trans h0) rfl ((upds_get _ _ _ rfl).trans hq)
theorem run_run (l:List UInt8)(hl:l.length<1000000)(q:Int)(p:UInt8→Bool)
  (hp:∃N,∀f,N≤f→∀n' k0 e s (i:Nat) c,e 0=.str l→e 5=I i→e 1=I q→l[i]?=some c→i<l.length→∃E,F137_L0 (den C f) n' k0 e s=F137_J1 (den C f) n' k0 E s∧E 7=.bool (p c)∧E 5=I i∧E 0=.str l∧E 1=I q):AC C 137 [.str l,I q] (I (scanN p l:Nat)):=by
 obtain⟨N,h⟩:=run_loop l hl q p hp
 refine .intro en137 rfl rfl ⟨N+l.length+1,fun f hf=>⟨[],?_⟩⟩
 have h:=h f (by omega) l.length 0 (by omega) (by omega) f (by omega) f
 rw[List.drop_zero,Nat.zero_add]at h
 rw[F137_eq,F137]
 exact h _ [] rfl rfl rfl
theorem run0 (l:List UInt8)(hl:l.length<1000000):AC C 137 [.str l,I 0] (I (scanN isSp l:Nat)):=by
 refine run_run l hl 0 isSp ⟨0,fun f hf n' k0 e s i c e0 e5 e1 hc hi=>?_⟩
 have ix:=idx9 hc
 have z0:((0:Int)==0)=true:=rfl
 have k1:((c.toNat:Int)==32)=decide (c=32):=i8 32 rfl
 have k2:((c.toNat:Int)==9)=decide (c=9):=i8 9 rfl
 have k3:((c.toNat:Int)==10)=decide (c=10):=i8 10 rfl
 have k4:((c.toNat:Int)==13)=decide (c=13):=i8 13 rfl
 have hi':(i:Int)<(l.length:Int):=by omega
 have hsp:isSp c=(decide (c=32) || (decide (c=9) || (decide (c=10) || decide (c=13)))):=by
  unfold isSp
  rw[Bool.eq_iff_iff]
  simp only[decide_eq_true_eq,Bool.or_eq_true,indexByte_mem]
  simp
 rw[F137_L0,hsp]
 cases d1:decide (c=32)<;>cases d2:decide (c=9)<;>cases d3:decide (c=10)<;>cases d4:decide (c=13)
 all_goals
  simp -implicitDefEqProofs only[sL,e0,e5,e1,len9,hi',ix,z0,k1,k2,k3,k4,d1,d2,d3,d4,Bool.true_or,Bool.false_or]
  refine⟨_,rfl,?_,?_,?_,?_⟩
  ·exact rfl
  ·exact(upds_get _ _ _ rfl).trans e5
  ·exact(upds_get _ _ _ rfl).trans e0
  ·exact(upds_get _ _ _ rfl).trans e1
theorem run1 (l:List UInt8)(hl:l.length<1000000):AC C 137 [.str l,I 1] (I (scanN notNL l:Nat)):=by
 refine run_run l hl 1 notNL ⟨0,fun f hf n' k0 e s i c e0 e5 e1 hc hi=>?_⟩
 have ix:=idx9 hc
 have z0:((1:Int)==0)=false:=rfl
 have z2:((1:Int)==2)=false:=rfl
 have z3:((1:Int)==3)=false:=rfl
 have k1:=ne10 c
 have hi':(i:Int)<(l.length:Int):=by omega
 rw[F137_L0]
 simp -implicitDefEqProofs only[sL,e0,e5,e1,len9,hi',ix,z0,z2,z3,k1]
 refine⟨_,rfl,?_,?_,?_,?_⟩
 ·exact rfl
 ·exact(upds_get _ _ _ rfl).trans e5
 ·exact(upds_get _ _ _ rfl).trans e0
 ·exact(upds_get _ _ _ rfl).trans e1
theorem run2 (l:List UInt8)(hl:l.length<1000000):AC C 137 [.str l,I 2] (I (scanN isWord l:Nat)):=by
 refine run_run l hl 2 isWord ⟨10,fun f hf n' k0 e s i c e0 e5 e1 hc hi=>?_⟩
 have ix:=idx9 hc
 have z0:((2:Int)==0)=false:=rfl
 have z2:((2:Int)==2)=true:=rfl
 have hi':(i:Int)<(l.length:Int):=by omega
 obtain⟨f,rfl⟩:∃j,f=j+1:=⟨f-1,by omega⟩
 have q:∀s,aCall Tryz.prog (den C (f+1)) 192 [U c] s=some (.bool (isWord c),s):=wordB_one c f
 rw[F137_L0]
 simp -implicitDefEqProofs only[sL,e0,e5,e1,len9,hi',ix,z0,z2,q]
 refine⟨_,rfl,?_,?_,?_,?_⟩
 ·exact rfl
 ·exact(upds_get _ _ _ rfl).trans e5
 ·exact(upds_get _ _ _ rfl).trans e0
 ·exact(upds_get _ _ _ rfl).trans e1
theorem run3 (l:List UInt8)(hl:l.length<1000000):AC C 137 [.str l,I 3] (I (scanN isDig l:Nat)):=by
 refine run_run l hl 3 isDig ⟨0,fun f hf n' k0 e s i c e0 e5 e1 hc hi=>?_⟩
 have ix:=idx9 hc
 have z0:((3:Int)==0)=false:=rfl
 have z2:((3:Int)==2)=false:=rfl
 have z3:((3:Int)==3)=true:=rfl
 have hi':(i:Int)<(l.length:Int):=by omega
 have w:isDig c=(decide (48≤c.toNat)&&decide (c.toNat≤57)):=rfl
 have k5:decide ((48:Int)≤(c.toNat:Int))=decide (48≤c.toNat):=by rw[decide_eq_decide];omega
 have k6:decide ((c.toNat:Int)≤57)=decide (c.toNat≤57):=by rw[decide_eq_decide];omega
 rw[F137_L0,w]
 by_cases h5:48≤c.toNat<;>by_cases h6:c.toNat≤57
 all_goals
  simp -implicitDefEqProofs only[sL,e0,e5,e1,len9,hi',ix,z0,z2,z3,k5,k6,h5,h6,decide_true,decide_false,Bool.and_true,Bool.and_false,Bool.true_and,Bool.false_and]
  refine⟨_,rfl,?_,?_,?_,?_⟩
  ·exact rfl
  ·exact(upds_get _ _ _ rfl).trans e5
  ·exact(upds_get _ _ _ rfl).trans e0
  ·exact(upds_get _ _ _ rfl).trans e1
theorem has_loop (w:List UInt8)(xs:List (List UInt8))(hx:xs.length<1000000):∀(k i:Nat),xs.length-i=k→i≤xs.length→∀D m,k<m→∀n' e s,e 7=.sl 9 1 (strs xs) .sh→e 1=.str w→e 8=I xs.length→e 9=I i →
  aLoop (F138_L0 D n') m e s=some (.bool (decide (w∈xs.drop i)),s):=by
 intro k
 induction k with
 | zero =>
  intro i hk hi D m hm n' e s h7 h1 h8 h9
  obtain⟨m,rfl⟩:∃j,m=j+1:=⟨m-1,by omega⟩
  have c:¬(i:Int)<(xs.length:Int):=by omega
  have hz:decide (w∈xs.drop i)=false:=by rw[List.drop_of_length_le (by omega)];simp
  rw[aLoop,F138_L0,hz]
  simp -implicitDefEqProofs only[sL,h7,h1,h8,h9,c]
 | succ k ih =>
  intro i hk hi D m hm n' e s h7 h1 h8 h9
  obtain⟨m,rfl⟩:∃j,m=j+1:=⟨m-1,by omega⟩
  have ci:i<xs.length:=by omega
  have c:(i:Int)<(xs.length:Int):=by omega
  have e1:=idx69 (f:=.sh) (List.getElem?_eq_getElem ci)
  have e2:=wadd1 (a:=i) (by omega)
  have q:=ih (i+1) (by omega) (by omega) D m (by omega) n'
  rw[aLoop,F138_L0,List.drop_eq_getElem_cons ci]
  generalize xs[i]=x at *
  cases h:w==x with
  | true =>
   have hw:w=x:=by simpa using h
   have hz:decide (w∈x::xs.drop (i+1))=true:=by simp[hw]
   rw[hz]
   simp -implicitDefEqProofs only[sL,h7,h1,h8,h9,c,e1,h]
  | false =>
   have hw:¬w=x:=by simpa using h
   have hz:decide (w∈x::xs.drop (i+1))=decide (w∈xs.drop (i+1)):=by simp[hw]
   rw[hz]
   simp -implicitDefEqProofs only[sL,h7,h1,h8,h9,c,e1,e2,h]
   exact q _ s ((upds_get _ _ _ rfl).trans h7) ((upds_get _ _ _ rfl).trans h1) ((upds_get _ _ _ rfl).trans h8) rfl
theorem has_run (xs:List (List UInt8))(hx:xs.length<1000)(w:List UInt8):AC C 138 [.sl 9 1 (strs xs) .sh,.str w] (.bool (decide (w∈xs))):=by
 refine .intro en138 (by simp[noRefL_cons,noRefL_nil,noRef_str,noRef_sl,strs_noRef]) rfl ⟨xs.length+1,fun n hn=>⟨[],?_⟩⟩
 have l:=len69 xs .sh
 have q:=has_loop w xs (by omega) _ 0 rfl (by omega) (den C n) n (by omega) n
 rw[List.drop_zero]at q
 rw[F138_eq,F138]
 simp -implicitDefEqProofs only[sL,strip_sh,l]
 exact q _ [] rfl rfl rfl rfl
theorem kwR_run:AC C 139 [] (.sl 9 1 (strs kwR) .own):=by
 refine .intro en139 rfl (by rw[noRef_sl,strs_noRef]) ⟨0,fun n hn=>⟨[],?_⟩⟩
 rw[F139_eq]
 kernel_rfl
theorem ptR_run:AC C 141 [] (.sl 9 1 (strs ptR) .own):=by
 refine .intro en141 rfl (by rw[noRef_sl,strs_noRef]) ⟨0,fun n hn=>⟨[],?_⟩⟩
 rw[F141_eq]
 kernel_rfl
theorem lit_loop (l:List UInt8)(hl:l.length<1000000):∀(k i:Nat)(b:Bool),l.length-i=k→i≤l.length→∀D r,k<r→∀n' e s,e 0=.str l→e 4=I i→e 3=.bool b→aLoop (F140_L0 D n') r e s=some (I (lit (l.drop i) i b:Nat),s):=by
 intro k
 induction k with
 | zero =>
  intro i b hk hi D r hr n' e s e0 e4 e3
  obtain⟨r,rfl⟩:∃j,r=j+1:=⟨r-1,by omega⟩
  have c:¬(i:Int)<(l.length:Int):=by omega
  have hz:lit (l.drop i) i b=0:=by rw[List.drop_of_length_le (by omega)];rfl
  rw[aLoop,F140_L0,hz]
  simp -implicitDefEqProofs only[sL,e0,e4,e3,len9,c]
  try rfl
 | succ k ih =>
  intro i b hk hi D r hr n' e s e0 e4 e3
  obtain⟨r,rfl⟩:∃j,r=j+1:=⟨r-1,by omega⟩
  have ci:i<l.length:=by omega
  have c:(i:Int)<(l.length:Int):=by omega
  have ix:=idx9 (List.getElem?_eq_getElem ci)
  have w:=wadd1 (a:=i) (by omega)
  rw[aLoop,F140_L0,List.drop_eq_getElem_cons ci,lit]
  have q:=fun b=>ih (i+1) b (by omega) (by omega) D r (by omega) n'
  generalize l[i]=x at *
  have k1:=ne10 x
  have k2:((x.toNat:Int)==34)=decide (x=34):=i8 34 rfl
  have k3:((x.toNat:Int)==92)=decide (x=92):=i8 92 rfl
  by_cases h1:x=10
  ·have nl:notNL x=false:=by rw[h1];rfl
   rw[if_pos h1]
   simp -implicitDefEqProofs only[sL,e0,e4,e3,len9,c,ix,k1,nl]
   try rfl
  ·have nl:notNL x=true:=by simpa[notNL] using h1
   rw[if_neg h1]
   by_cases h2:x=34
   ·have d2:decide (x=34)=true:=by simpa using h2
    cases b with
    | false =>
     rw[if_pos ⟨h2,rfl⟩]
     simp -implicitDefEqProofs only[sL,e0,e4,e3,len9,c,ix,k1,nl,k2,d2,w]
     try rfl
    | true =>
     have d3:decide (x=92)=false:=by subst h2;rfl
     rw[if_neg (by simp),d3]
     simp -implicitDefEqProofs only[sL,e0,e4,e3,len9,c,ix,k1,nl,k2,d2,k3,d3,w]
     exact q false _ s ((upds_get _ _ _ rfl).trans e0) rfl rfl
   ·have d2:decide (x=34)=false:=by simpa using h2
    rw[if_neg (fun e=>h2 e.1)]
    cases d3:decide (x=92) with
    | false =>
     simp -implicitDefEqProofs only[sL,e0,e4,e3,len9,c,ix,k1,nl,k2,d2,k3,d3,w]
     exact q false _ s ((upds_get _ _ _ rfl).trans e0) rfl rfl
    | true =>
     simp -implicitDefEqProofs only[sL,e0,e4,e3,len9,c,ix,k1,nl,k2,d2,k3,d3,w,Bool.true_and]
     exact q (!b) _ s ((upds_get _ _ _ rfl).trans e0) rfl (by simp[upds_at,upd_at])
theorem lit_run (l:List UInt8)(hl:l.length<1000000)(h1:1≤l.length):AC C 140 [.str l] (I (lit (l.drop 1) 1 false:Nat)):=by
 refine .intro en140 rfl rfl ⟨l.length+1,fun f hf=>⟨[],?_⟩⟩
 rw[F140_eq,F140]
 exact lit_loop l hl (l.length-1) 1 false rfl h1 (den C f) f (by omega) f _ [] rfl rfl rfl
theorem token_den (l:List UInt8)(k:Int)(n:Nat)(h:n≤l.length)(f:Nat):den C (f+1) 136 [I k,I n,.box [.str l] 0] []=some (.agg [I k,.str (l.take n)],[(80,[I k,.str (l.take n)])]):=by
 have z:aAlloc Tryz.prog 80 []=some (.ref 0 0,[(80,[I 0,.str []])]):=alloc39 []
 have ls:aLoad false false 1 (.box [.str l] 0) [(80,[I 0,.str []])]=some (.str l,[(80,[I 0,.str []])]):=rfl
 have e1:=subTake (s:=l) (i:=n) h
 have e2:=build39 k (l.take n)
 have st:aStore 2 [(80,[I 0,.str []])] (.ref 0 0) (.agg [I k,.str (l.take n)])=some [(80,[I k,.str (l.take n)])]:=rfl
 have ld:aLoad false true 2 (.ref 0 0) [(80,[I k,.str (l.take n)])]=some (.agg [I k,.str (l.take n)],[(80,[I k,.str (l.take n)])]):=rfl
 rw[F136_eq,F136]
 simp -implicitDefEqProofs only[sL,z,ls,e1,e2,st,ld,fin1,Option.map_some]
 try rfl
theorem token_one (l:List UInt8)(k:Int)(n:Nat)(h:n≤l.length)(f:Nat)(s:Heap):aCall Tryz.prog (den C (f+1)) 136 [I k,I n,.box [.str l] 0] s=some (.agg [I k,.str (l.take n)],s):=by
 have e:=token_den l k n h f
 simp[aCall,en136,e,noRefL_cons,noRefL_nil,noRef_int,noRef_agg,noRef_str,AV.noRef]
end LexF
end

section
set_option maxRecDepth 100000
set_option maxHeartbeats 2000000
namespace LexF
open Go Go.Abs Go.Proofs ParF RfF
theorem cvT (D:Den)(g:FuncId)(x y b:AV)(s:Heap):aCallV Tryz.prog D (.fn g [] [b]) [x,y] s=aCall Tryz.prog D g [x.strip,y.strip,b.strip] s:=rfl
def ptT (l:List UInt8):Option Nat→AV
 | some n=>.agg [I 107,.str (l.take n)]
 | none=>.agg [I 108,.str (l.take 1)]
theorem strEq9 (x y:List UInt8):aBin Tryz.prog .eql 9 (.str x) (.str y)=some (.bool (x==y)):=by simp[aBin,strBin]
theorem pt_loop (l:List UInt8)(hl:1≤l.length):∀(k i:Nat),ptR.length-i=k→i≤ptR.length→∀f r,k<r→∀n' e,e 1=.box [.str l] 0→e 2=.ref 0 0→e 3=.fn 136 [] [.box [.str l] 0]→e 66=.sl 9 1 (strs ptR) .own→e 67=I ptR.length→e 68=I i →
  ∃s',aLoop (F76_L0 (den C (f+1)) n') r e [(80,[I 0,.str []])]=some (ptT l (ptF l (ptR.drop i)),s'):=by
 have z1:=token_one l 108 1 hl
 have lb:∀s,aLoad false false 1 (.box [.str l] 0) s=some (.str l,s):=fun s=>rfl
 have st:∀(k:Int)(n:Nat),aStore 2 [(80,[I 0,.str []])] (.ref 0 0) (.agg [I k,.str (l.take n)])=some [(80,[I k,.str (l.take n)])]:=fun _ _=>rfl
 have ld:∀(k:Int)(n:Nat),aLoad false true 2 (.ref 0 0) [(80,[I k,.str (l.take n)])]=some (.agg [I k,.str (l.take n)],[(80,[I k,.str (l.take n)])]):=fun _ _=>rfl
 have hpl:ptR.length=26:=by decide
 have sb:(AV.box [.str l] 0).strip=.box [.str l] 0:=rfl
 have sf:(AV.fn 136 [] [.box [.str l] 0]).strip=.fn 136 [] [.box [.str l] 0]:=rfl
 intro k
 induction k with
 | zero =>
  intro i hk hi f r hr n' e h1 h2 h3 h66 h67 h68
  obtain⟨r,rfl⟩:∃j,r=j+1:=⟨r-1,by omega⟩
  have c:¬(i:Int)<(ptR.length:Int):=by omega
  have hz:ptF l (ptR.drop i)=none:=by rw[List.drop_of_length_le (by omega)];rfl
  have z1:∀s,aCall Tryz.prog (den C (f+1)) 136 [I 108,I 1,.box [.str l] 0] s=_:=z1 f
  rw[hz]
  refine⟨[(80,[I 108,.str (l.take 1)])],?_⟩
  rw[aLoop,F76_L0]
  simp -implicitDefEqProofs only[sL,h68,h67,c,h3,sf,cvT,sb,z1,h2,st,ld,fin1,Option.map_some]
  try rfl
 | succ k ih =>
  intro i hk hi f r hr n' e h1 h2 h3 h66 h67 h68
  obtain⟨r,rfl⟩:∃j,r=j+1:=⟨r-1,by omega⟩
  have ci:i<ptR.length:=by omega
  have c:(i:Int)<(ptR.length:Int):=by omega
  have e1:=idx69 (f:=.own) (List.getElem?_eq_getElem ci)
  have w:=wadd1 (a:=i) (by omega)
  have q:=ih (i+1) (by omega) (by omega) f r (by omega) n'
  rw[List.drop_eq_getElem_cons ci,ptF]
  generalize ptR[i]=p at *
  have lp:∀s,aLoad false false 1 (.box [.str p] 0) s=some (.str p,s):=fun s=>rfl
  by_cases hp:l.take p.length=p
  ·have hle:p.length≤l.length:=by
    have:=congrArg List.length hp
    rw[List.length_take]at this;omega
   have hle':(p.length:Int)≤(l.length:Int):=by omega
   have e2:=subTake hle
   have z2:=token_one l 107 p.length hle f
   rw[hp]at e2
   rw[if_pos hp]
   have pp:(p==p)=true:=by simp
   refine⟨[(80,[I 107,.str (l.take p.length)])],?_⟩
   have z2:∀s,aCall Tryz.prog (den C (f+1)) 136 [I 107,I p.length,.box [.str l] 0] s=_:=z2
   rw[aLoop,F76_L0]
   simp -implicitDefEqProofs only[sL,h68,h67,c,h66,e1,lp,h1,lb,len9,hle',e2,strEq9,pp,h3,sf,cvT,sb,z2,h2,st,ld,fin1,Option.map_some]
   try rfl
  ·rw[if_neg hp]
   by_cases hle:p.length≤l.length
   ·have hle':(p.length:Int)≤(l.length:Int):=by omega
    have e2:=subTake hle
    have pp:(l.take p.length==p)=false:=by simpa using hp
    rw[aLoop,F76_L0]
    simp -implicitDefEqProofs only[sL,h68,h67,c,h66,e1,lp,h1,lb,len9,hle',e2,strEq9,pp,w]
    refine q _ ?_ ?_ ?_ ?_ ?_ ?_
    ·exact(upds_get _ _ _ rfl).trans h1
    ·exact(upds_get _ _ _ rfl).trans h2
    ·exact(upds_get _ _ _ rfl).trans h3
    ·exact(upds_get _ _ _ rfl).trans h66
    ·exact(upds_get _ _ _ rfl).trans h67
    ·exact rfl
   ·have hle':¬(p.length:Int)≤(l.length:Int):=by omega
    rw[aLoop,F76_L0]
    simp -implicitDefEqProofs only[sL,h68,h67,c,h66,e1,lp,h1,lb,len9,hle',w]
    refine q _ ?_ ?_ ?_ ?_ ?_ ?_
    ·exact(upds_get _ _ _ rfl).trans h1
    ·exact(upds_get _ _ _ rfl).trans h2
    ·exact(upds_get _ _ _ rfl).trans h3
    ·exact(upds_get _ _ _ rfl).trans h66
    ·exact(upds_get _ _ _ rfl).trans h67
    ·exact rfl
theorem first76 (b:UInt8)(r:List UInt8)(hl:(b::r).length<100000):AC C 76 [.str (b::r)] (.agg [I (first (b::r)).2,.str ((b::r).take (first (b::r)).1)]):=by
 rw[←firstR_eq]
 have hl1:1≤(b::r).length:=by rw[List.length_cons];omega
 have hix:(b::r)[0]?=some b:=rfl
 have ix:aIndex Tryz.prog 9 (.str (b::r)) (.int .i64 0)=some (U b):=idx9 (i:=0) hix
 have hd:(b::r).head?=some 34 ↔ b=34:=by simp
 have hlit:lit ((b::r).drop 1) 1 false≤(b::r).length:=by
  rw[lit_sc]
  cases hs:sc ((b::r).drop 1) 1 with
  | none=>rw[Option.getD_none];omega
  | some n =>
   have:=(sc_bounds _ _ _ hs).2
   rw[Option.getD_some]
   rw[List.length_drop]at this;omega
 unfold firstR
 generalize hL:b::r=l at *
 have b0:=scanN_le isSp l
 have b1:=scanN_le notNL l
 have b2:=scanN_le isWord l
 have b3:=scanN_le isDig l
 obtain⟨N0,q0⟩:=AC.at (run0 l (by omega))
 obtain⟨N1,q1⟩:=AC.at (run1 l (by omega))
 obtain⟨N2,q2⟩:=AC.at (run2 l (by omega))
 obtain⟨N3,q3⟩:=AC.at (run3 l (by omega))
 obtain⟨N4,q4⟩:=AC.at kwR_run
 obtain⟨N5,q5⟩:=AC.at (has_run kwR (by decide) (l.take (scanN isWord l)))
 obtain⟨N6,q6⟩:=AC.at (lit_run l (by omega) hl1)
 obtain⟨N7,q7⟩:=AC.at ptR_run
 refine .intro en76 rfl (by split<;>(try split)<;>(try split)<;>(try split)<;>(try split)<;>(try split)<;>rfl) ⟨N0+N1+N2+N3+N4+N5+N6+N7+100,fun f hf=>?_⟩
 obtain⟨f,rfl⟩:∃j,f=j+1:=⟨f-1,by omega⟩
 have q0:∀s,aCall Tryz.prog (den C (f+1)) 137 [.str l,.int .i64 0] s=_:=q0 (f+1) (by omega)
 have q1:∀s,aCall Tryz.prog (den C (f+1)) 137 [.str l,.int .i64 1] s=_:=q1 (f+1) (by omega)
 have q2:∀s,aCall Tryz.prog (den C (f+1)) 137 [.str l,.int .i64 2] s=_:=q2 (f+1) (by omega)
 have q3:∀s,aCall Tryz.prog (den C (f+1)) 137 [.str l,.int .i64 3] s=_:=q3 (f+1) (by omega)
 have q4:=q4 (f+1) (by omega)
 have q5:=q5 (f+1) (by omega)
 have q6:=q6 (f+1) (by omega)
 have q7:=q7 (f+1) (by omega)
 have tk:=fun(k:Int)(n:Nat)(h:n≤l.length)=>token_one l k n h f
 have bx:∀s,aBox false 9 (.str l) s=some (.box [.str l] 0,s):=fun s=>rfl
 have z:aAlloc Tryz.prog 80 []=some (.ref 0 0,[(80,[I 0,.str []])]):=alloc39 []
 have lb:∀s,aLoad false false 1 (.box [.str l] 0) s=some (.str l,s):=fun s=>rfl
 have st:∀(k:Int)(n:Nat),aStore 2 [(80,[I 0,.str []])] (.ref 0 0) (.agg [I k,.str (l.take n)])=some [(80,[I k,.str (l.take n)])]:=fun _ _=>rfl
 have ld:∀(k:Int)(n:Nat),aLoad false true 2 (.ref 0 0) [(80,[I k,.str (l.take n)])]=some (.agg [I k,.str (l.take n)],[(80,[I k,.str (l.take n)])]):=fun _ _=>rfl
 have sb:(AV.box [.str l] 0).strip=.box [.str l] 0:=rfl
 have sf:(AV.fn 136 [] [.box [.str l] 0]).strip=.fn 136 [] [.box [.str l] 0]:=rfl
 have kl:kLoad false (.box [.str l] 0)=.silent:=rfl
 have dk:∀s s':Heap,dyn .silent s s'=.silent:=fun _ _=>rfl
 have so:(AV.sl 9 1 (strs kwR) .own).strip=.sl 9 1 (strs kwR) .sh:=rfl
 have kc:∀t,kCall [.sl 9 1 (strs kwR) .sh,.str t]=.silent:=fun t=>by rw[kCall_ok,noRefL_cons,noRef_sl,strs_noRef];rfl
 have kc0:kCall []=.silent:=rfl
 have lp:=len69 ptR .own
 rw[F76_eq,F76]
 by_cases h1:0<scanN isSp l
 ·have t1:=tk 101 _ b0
  have h1':(0:Int)<(scanN isSp l:Int):=by omega
  refine⟨[(80,[I 101,.str (l.take (scanN isSp l))])],?_⟩
  have t1:∀s,aCall Tryz.prog (den C (f+1)) 136 [.int .i64 101,I (scanN isSp l:Nat),.box [.str l] 0] s=_:=t1
  rw[if_pos h1]
  simp -implicitDefEqProofs only[sL,bx,z,lb,q0,h1',sf,cvT,sb,t1,st,ld,fin1,Option.map_some]
  try rfl
 have h1':¬(0:Int)<(scanN isSp l:Int):=by omega
 rw[if_neg h1]
 by_cases h2:1<l.length∧l.take 2=[47,47]
 ·have t1:=tk 102 _ b1
  have h2':(1:Int)<(l.length:Int):=by omega
  have e2:=subTake (s:=l) (i:=2) (by omega)
  rw[h2.2]at e2
  have e2:aSl Tryz.prog 9 (.str l) none (some (.int .i64 2)) none=some (.str [47,47]):=e2
  have pp:(([47,47]:List UInt8)==[47,47])=true:=by decide
  refine⟨[(80,[I 102,.str (l.take (scanN notNL l))])],?_⟩
  have t1:∀s,aCall Tryz.prog (den C (f+1)) 136 [.int .i64 102,I (scanN notNL l:Nat),.box [.str l] 0] s=_:=t1
  rw[if_pos h2]
  simp -implicitDefEqProofs only[sL,bx,z,lb,q0,h1',len9,h2',e2,strEq9,pp,q1,sf,cvT,sb,t1,st,ld,fin1,Option.map_some]
  try rfl
 rw[if_neg h2]
 by_cases hh:1<l.length
 ·have h2':(1:Int)<(l.length:Int):=by omega
  have e2:aSl Tryz.prog 9 (.str l) none (some (.int .i64 2)) none=some (.str (l.take 2)):=subTake (s:=l) (i:=2) (by omega)
  have pp:(l.take 2==[47,47])=false:=by simpa using fun e=>h2 ⟨hh,e⟩
  by_cases h3:0<scanN isDig l
  ·have t1:∀s,aCall Tryz.prog (den C (f+1)) 136 [.int .i64 105,I (scanN isDig l:Nat),.box [.str l] 0] s=_:=tk 105 _ b3
   have h3':(0:Int)<(scanN isDig l:Int):=by omega
   refine⟨[(80,[I 105,.str (l.take (scanN isDig l))])],?_⟩
   rw[if_pos h3]
   simp -implicitDefEqProofs only[sL,bx,z,lb,q0,h1',len9,h2',e2,strEq9,pp,q3,h3',sf,cvT,sb,t1,st,ld,fin1,Option.map_some]
   try rfl
  have h3':¬(0:Int)<(scanN isDig l:Int):=by omega
  rw[if_neg h3]
  by_cases h4:0<scanN isWord l
  ·have h4':(0:Int)<(scanN isWord l:Int):=by omega
   have e4:=subTake b2
   rw[if_pos h4]
   by_cases h5:l.take (scanN isWord l)∈kwR
   ·have t1:∀s,aCall Tryz.prog (den C (f+1)) 136 [.int .i64 104,I (scanN isWord l:Nat),.box [.str l] 0] s=_:=tk 104 _ b2
    have d5:decide (l.take (scanN isWord l)∈kwR)=true:=by simpa using h5
    refine⟨[(80,[I 104,.str (l.take (scanN isWord l))])],?_⟩
    rw[if_pos h5]
    simp -implicitDefEqProofs only[sL,bx,z,lb,q0,h1',len9,h2',e2,strEq9,pp,q3,h3',q2,h4',q4,so,e4,q5,d5,kl,kc,kc0,dk,d76_12,sf,cvT,sb,t1,st,ld,fin1,Option.map_some]
    try rfl
   ·have t1:∀s,aCall Tryz.prog (den C (f+1)) 136 [.int .i64 103,I (scanN isWord l:Nat),.box [.str l] 0] s=_:=tk 103 _ b2
    have d5:decide (l.take (scanN isWord l)∈kwR)=false:=by simpa using h5
    refine⟨[(80,[I 103,.str (l.take (scanN isWord l))])],?_⟩
    rw[if_neg h5]
    simp -implicitDefEqProofs only[sL,bx,z,lb,q0,h1',len9,h2',e2,strEq9,pp,q3,h3',q2,h4',q4,so,e4,q5,d5,kl,kc,kc0,dk,d76_12,sf,cvT,sb,t1,st,ld,fin1,Option.map_some]
    try rfl
  have h4':¬(0:Int)<(scanN isWord l:Int):=by omega
  rw[if_neg h4]
  have k34:((b.toNat:Int)==34)=decide (b=34):=i8 34 rfl
  by_cases h6:b=34
  ·have d6:decide (b=34)=true:=by simpa using h6
   rw[if_pos (hd.2 h6)]
   by_cases h7:0<lit (l.drop 1) 1 false
   ·have t1:∀s,aCall Tryz.prog (den C (f+1)) 136 [.int .i64 106,I (lit (l.drop 1) 1 false:Nat),.box [.str l] 0] s=_:=tk 106 _ hlit
    have h7':(0:Int)<(lit (l.drop 1) 1 false:Int):=by omega
    refine⟨[(80,[I 106,.str (l.take (lit (l.drop 1) 1 false))])],?_⟩
    rw[if_pos h7]
    simp -implicitDefEqProofs only[sL,bx,z,lb,q0,h1',len9,h2',e2,strEq9,pp,q3,h3',q2,h4',ix,k34,d6,q6,h7',sf,cvT,sb,t1,st,ld,fin1,Option.map_some]
    try rfl
   ·have t1:∀s,aCall Tryz.prog (den C (f+1)) 136 [.int .i64 108,I (scanN notNL l:Nat),.box [.str l] 0] s=_:=tk 108 _ b1
    have h7':¬(0:Int)<(lit (l.drop 1) 1 false:Int):=by omega
    refine⟨[(80,[I 108,.str (l.take (scanN notNL l))])],?_⟩
    rw[if_neg h7]
    simp -implicitDefEqProofs only[sL,bx,z,lb,q0,h1',len9,h2',e2,strEq9,pp,q3,h3',q2,h4',ix,k34,d6,q6,h7',q1,sf,cvT,sb,t1,st,ld,fin1,Option.map_some]
    try rfl
  have d6:decide (b=34)=false:=by simpa using h6
  rw[if_neg (fun e=>h6 (hd.1 e))]
  have h26:ptR.length=26:=by decide
  have fin:=pt_loop l hl1 ptR.length 0 (by omega) (by omega) f (f+1) (by omega) (f+1)
  rw[List.drop_zero]at fin
  cases hp:ptF l ptR
  all_goals
   rw[hp]at fin
   simp -implicitDefEqProofs only[sL,bx,z,lb,q0,h1',len9,h2',e2,strEq9,pp,q3,h3',q2,h4',ix,k34,d6,q7,lp]
   refine fin _ ?_ ?_ ?_ ?_ ?_ ?_
   ·exact rfl
   ·exact rfl
   ·exact rfl
   ·exact rfl
   ·exact rfl
   ·exact rfl
 ·have h2':¬(1:Int)<(l.length:Int):=by omega
  by_cases h3:0<scanN isDig l
  ·have t1:∀s,aCall Tryz.prog (den C (f+1)) 136 [.int .i64 105,I (scanN isDig l:Nat),.box [.str l] 0] s=_:=tk 105 _ b3
   have h3':(0:Int)<(scanN isDig l:Int):=by omega
   refine⟨[(80,[I 105,.str (l.take (scanN isDig l))])],?_⟩
   rw[if_pos h3]
   simp -implicitDefEqProofs only[sL,bx,z,lb,q0,h1',len9,h2',q3,h3',sf,cvT,sb,t1,st,ld,fin1,Option.map_some]
   try rfl
  have h3':¬(0:Int)<(scanN isDig l:Int):=by omega
  rw[if_neg h3]
  by_cases h4:0<scanN isWord l
  ·have h4':(0:Int)<(scanN isWord l:Int):=by omega
   have e4:=subTake b2
   rw[if_pos h4]
   by_cases h5:l.take (scanN isWord l)∈kwR
   ·have t1:∀s,aCall Tryz.prog (den C (f+1)) 136 [.int .i64 104,I (scanN isWord l:Nat),.box [.str l] 0] s=_:=tk 104 _ b2
    have d5:decide (l.take (scanN isWord l)∈kwR)=true:=by simpa using h5
    refine⟨[(80,[I 104,.str (l.take (scanN isWord l))])],?_⟩
    rw[if_pos h5]
    simp -implicitDefEqProofs only[sL,bx,z,lb,q0,h1',len9,h2',q3,h3',q2,h4',q4,so,e4,q5,d5,kl,kc,kc0,dk,d76_12,sf,cvT,sb,t1,st,ld,fin1,Option.map_some]
    try rfl
   ·have t1:∀s,aCall Tryz.prog (den C (f+1)) 136 [.int .i64 103,I (scanN isWord l:Nat),.box [.str l] 0] s=_:=tk 103 _ b2
    have d5:decide (l.take (scanN isWord l)∈kwR)=false:=by simpa using h5
    refine⟨[(80,[I 103,.str (l.take (scanN isWord l))])],?_⟩
    rw[if_neg h5]
    simp -implicitDefEqProofs only[sL,bx,z,lb,q0,h1',len9,h2',q3,h3',q2,h4',q4,so,e4,q5,d5,kl,kc,kc0,dk,d76_12,sf,cvT,sb,t1,st,ld,fin1,Option.map_some]
    try rfl
  have h4':¬(0:Int)<(scanN isWord l:Int):=by omega
  rw[if_neg h4]
  have k34:((b.toNat:Int)==34)=decide (b=34):=i8 34 rfl
  by_cases h6:b=34
  ·have d6:decide (b=34)=true:=by simpa using h6
   rw[if_pos (hd.2 h6)]
   by_cases h7:0<lit (l.drop 1) 1 false
   ·have t1:∀s,aCall Tryz.prog (den C (f+1)) 136 [.int .i64 106,I (lit (l.drop 1) 1 false:Nat),.box [.str l] 0] s=_:=tk 106 _ hlit
    have h7':(0:Int)<(lit (l.drop 1) 1 false:Int):=by omega
    refine⟨[(80,[I 106,.str (l.take (lit (l.drop 1) 1 false))])],?_⟩
    rw[if_pos h7]
    simp -implicitDefEqProofs only[sL,bx,z,lb,q0,h1',len9,h2',q3,h3',q2,h4',ix,k34,d6,q6,h7',sf,cvT,sb,t1,st,ld,fin1,Option.map_some]
    try rfl
   ·have t1:∀s,aCall Tryz.prog (den C (f+1)) 136 [.int .i64 108,I (scanN notNL l:Nat),.box [.str l] 0] s=_:=tk 108 _ b1
    have h7':¬(0:Int)<(lit (l.drop 1) 1 false:Int):=by omega
    refine⟨[(80,[I 108,.str (l.take (scanN notNL l))])],?_⟩
    rw[if_neg h7]
    simp -implicitDefEqProofs only[sL,bx,z,lb,q0,h1',len9,h2',q3,h3',q2,h4',ix,k34,d6,q6,h7',q1,sf,cvT,sb,t1,st,ld,fin1,Option.map_some]
    try rfl
  have d6:decide (b=34)=false:=by simpa using h6
  rw[if_neg (fun e=>h6 (hd.1 e))]
  have h26:ptR.length=26:=by decide
  have fin:=pt_loop l hl1 ptR.length 0 (by omega) (by omega) f (f+1) (by omega) (f+1)
  rw[List.drop_zero]at fin
  cases hp:ptF l ptR
  all_goals
   rw[hp]at fin
   simp -implicitDefEqProofs only[sL,bx,z,lb,q0,h1',len9,h2',q3,h3',q2,h4',ix,k34,d6,q7,lp]
   refine fin _ ?_ ?_ ?_ ?_ ?_ ?_
   ·exact rfl
   ·exact rfl
   ·exact rfl
   ·exact rfl
   ·exact rfl
   ·exact rfl
theorem toks_loop:∀(k:Nat)(l:List UInt8)(acc:List Tok),l.length≤k→l.length<10000→acc.length+l.length<100000 →
  ∃N,∀n,N≤n→∀m,k<m→∀n' e s,e 0=.str l→e 3=accV acc→∃s',aLoop (F31_L0 (den C n) n') m e s=some ((accV (acc++tokz l)).strip,s'):=by
 have nil:∀(acc:List Tok) n m n' (e:Env) s,e 0=.str []→e 3=accV acc→0<m→∃s',aLoop (F31_L0 (den C n) n') m e s=some ((accV (acc++tokz [])).strip,s'):=by
  intro acc n m n' e s h0 h3 hm
  obtain⟨m,rfl⟩:∃j,m=j+1:=⟨m-1,by omega⟩
  have st:=(accV_strip acc).strip
  have z:¬(0:Int)<(([]:List UInt8).length:Int):=by simp
  refine⟨s,?_⟩
  rw[aLoop,F31_L0,tokz_nil,List.append_nil]
  simp -implicitDefEqProofs only[sL,h0,h3,len9,z,st]
 intro k
 induction k with
 | zero =>
  intro l acc hk hl ha
  have:l=[]:=List.length_eq_zero_iff.1 (by omega)
  subst this
  exact⟨0,fun n hn m hm n' e s h0 h3=>nil acc n m n' e s h0 h3 (by omega)⟩
 | succ k ih =>
  intro l acc hk hl ha
  by_cases h:l=[]
  ·subst h
   exact⟨0,fun n hn m hm n' e s h0 h3=>nil acc n m n' e s h0 h3 (by omega)⟩
  ·obtain⟨c,r,rfl⟩:∃c r,l=c::r:=by cases l with
    | nil=>exact absurd rfl h
    | cons c r=>exact⟨c,r,rfl⟩
   obtain⟨N1,q1⟩:=AC.at (first76 c r (by omega))
   have hb:=first_bounds (c::r) h
   rw[tokz_cons h]
   have e2:=subDrop (s:=c::r) (i:=(first (c::r)).1) hb.2
   have hpos:(0:Int)<((c::r).length:Int):=by rw[List.length_cons];omega
   have htl:((c::r).take (first (c::r)).1).length=(first (c::r)).1:=by rw[List.length_take];omega
   generalize (first (c::r)).1=z at *
   generalize (first (c::r)).2=y at *
   obtain⟨f,e3⟩:=bs35 y ((c::r).take z)
   have e4:=app35 acc [(y,(c::r).take z)] f (by simp at ha ⊢;omega)
   have hdl:((c::r).drop z).length=(c::r).length-z:=List.length_drop
   generalize (c::r).take z=tk at *
   generalize (c::r).drop z=dr at *
   obtain⟨N2,q2⟩:=ih dr (acc++[(y,tk)]) (by omega) (by omega) (by simp only[List.length_append,List.length_cons,List.length_nil]at *;omega)
   rw[List.append_assoc]at q2
   refine⟨N1+N2,fun n hn m hm n' e s h0 h3=>?_⟩
   obtain⟨m,rfl⟩:∃j,m=j+1:=⟨m-1,by omega⟩
   have q1:=q1 n (by omega)
   have e4:aAppend Tryz.prog 74 74 (accV acc) (.sl 80 2 [.agg [I y,.str tk]] f)=_:=e4
   have s4:=store39 s (I 0) (.str []) (y,tk)
   have s4:aStore 2 (s++[(80,[I 0,.str []])]) (.ref s.length 0) (.agg [I y,.str tk])=_:=s4
   have l4:=load39a s (I y) (.str tk)
   have l5:aLoad false false 1 (.ref s.length 1) (s++[(80,[I y,.str tk])])=some (.str tk,s++[(80,[I y,.str tk])]):=load39 s (I y) (.str tk) 1
   rw[aLoop,F31_L0]
   simp -implicitDefEqProofs only[sL,h0,h3,len9,hpos,q1,alloc39,s4,l4,e3,e4,l5,htl,e2]
   refine q2 n (by omega) m (by omega) n' _ _ ?_ ?_
   ·exact rfl
   ·exact rfl
theorem toks_run (l:List UInt8)(hl:l.length≤2000):AC C 31 [.str l] (accV (tokz l)).strip:=by
 obtain⟨N,q⟩:=toks_loop l.length l [] (Nat.le_refl _) (by omega) (by simp;omega)
 rw[List.nil_append]at q
 refine .intro en31 rfl (accV_strip _).noRef ⟨N+l.length+1,fun n hn=>?_⟩
 rw[F31_eq,F31]
 exact q n (by omega) n (by omega) n _ [] rfl rfl
def sts:Nat→List Tok→List Nat
 | _,[]=>[]
 | o,t::r=>o::sts (o+t.2.length) r
theorem starts_loop (v:AV)(ts:List Tok)(hv:IsT v ts)(ht:ts.length<100000):∀(k i o:Nat)(acc:List Nat),ts.length-i=k→i≤ts.length→acc.length≤i→o+(srcOfT (ts.drop i)).length<1000000→∀D m,k<m→∀n' e s,e 7=v→e 8=I ts.length→e 9=I i→e 3=accI acc→e 4=I o →
  ∃s',aLoop (F32_L0 D n') m e s=some ((accI (acc++sts o (ts.drop i))).strip,s'):=by
 intro k
 induction k with
 | zero =>
  intro i o acc hk hi ha ho D m hm n' e s h7 h8 h9 h3 h4
  obtain⟨m,rfl⟩:∃j,m=j+1:=⟨m-1,by omega⟩
  have c:¬i<ts.length:=by omega
  refine⟨s,?_⟩
  rw[aLoop,F32_L0,List.drop_of_length_le (by omega),sts,List.append_nil]
  simp -implicitDefEqProofs only[sL,h7,h8,h9,h3,h4,c]
 | succ k ih =>
  intro i o acc hk hi ha ho D m hm n' e s h7 h8 h9 h3 h4
  obtain⟨m,rfl⟩:∃j,m=j+1:=⟨m-1,by omega⟩
  have c:i<ts.length:=by omega
  have e1:=hv.at (List.getElem?_eq_getElem c)
  have e2:=wadd1 (a:=i) (by omega)
  rw[List.drop_eq_getElem_cons c]at ho ⊢
  have hsp:srcOfT (ts[i]::ts.drop (i+1))=ts[i].2++srcOfT (ts.drop (i+1)):=rfl
  rw[hsp,List.length_append]at ho
  have e3:=wadd (a:=o) (b:=ts[i].2.length) (by omega)
  obtain⟨f,e4⟩:=bs30 o
  have e5:=app30 acc o f (by omega)
  rw[sts,←List.singleton_append,←List.append_assoc]
  generalize ts[i]=t at *
  rw[aLoop,F32_L0]
  simp -implicitDefEqProofs only[sL,h7,h8,h9,h3,h4,c,e1,e2,e3,e4,e5,len9,load2',alloc39,store39,load39]
  exact ih (i+1) _ (acc++[o]) (by omega) (by omega) (by simp;omega) (by omega) D m (by omega) n' _ _ (by simp[upds_at,upd_at,h7]) (by simp[upds_at,upd_at,h8]) (by simp[upds_at,upd_at]) (by simp[upds_at,upd_at]) (by simp[upds_at,upd_at])
theorem starts_run (v:AV)(ts:List Tok)(hv:IsT v ts)(ht:ts.length<100000)(hs:(srcOfT ts).length<1000000):AC C 32 [v] (accI (sts 0 ts)).strip:=by
 refine .intro en32 (by simp[noRefL_cons,noRefL_nil,hv.noRef]) (accI_strip _).noRef ⟨ts.length+1,fun n hn=>?_⟩
 have st:=hv.strip
 have l:=hv.len
 rw[F32_eq,F32]
 simp -implicitDefEqProofs only[sL,st,l]
 exact starts_loop v ts hv ht _ 0 0 [] rfl (by omega) (by simp) (by simpa using hs) (den C n) n (by omega) n _ _ (by simp[upds_at,upd_at]) (by simp[upds_at,upd_at]) (by simp[upds_at,upd_at]) (by simp[upds_at,upd_at,accI]) (by simp[upds_at,upd_at])
end LexF
end
