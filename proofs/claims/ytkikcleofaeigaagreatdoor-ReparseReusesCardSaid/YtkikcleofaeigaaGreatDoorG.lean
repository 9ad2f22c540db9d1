/- RepF, RelE, RelU, RelV, RelW -/
import Derived.Test.YtkikcleofaeigaaGreatDoorC
import Derived.Test.YtkikcleofaeigaaGreatDoorP
import Derived.Test.YtkikcleofaeigaaGreatDoorQ
set_option linter.all false

section
set_option maxRecDepth 10000
namespace RepF
open Go Go.Abs Go.Proofs ParF
-- cmp.isNaN int
noncomputable def F262 (D:Den)(n:Nat)(t0:AV)(s:Heap):Ans :=
 oh (some ((.bool false),s)) fun t2 s =>
 oh (some (t0.strip,s)) fun t3 s =>
 oh (some (t0.strip,s)) fun t4 s =>
 oh (mp (aBin Tryz.prog .neq 3 t3 t4) s) fun t5 s =>
 oh (some (t5,s)) fun t2_2 s =>
 some (t2_2,s)
theorem F262_eq (n:Nat)(t0:AV)(s:Heap):den C (n+1) 262 [t0] s=F262 (den C n) n t0 s :=
 (den_body rfl Tryz.func262 _ _).trans (by kernel_rfl)
theorem en262:enterable Tryz.prog 262=true:=by kernel_rfl
-- slices.isNaN int
noncomputable def F246 (D:Den)(n:Nat)(t0:AV)(s:Heap):Ans :=
 oh (some ((.bool false),s)) fun t2 s =>
 oh (some (t0.strip,s)) fun t3 s =>
 oh (some (t0.strip,s)) fun t4 s =>
 oh (mp (aBin Tryz.prog .neq 3 t3 t4) s) fun t5 s =>
 oh (some (t5,s)) fun t2_2 s =>
 some (t2_2,s)
theorem F246_eq (n:Nat)(t0:AV)(s:Heap):den C (n+1) 246 [t0] s=F246 (den C n) n t0 s :=
 (den_body rfl Tryz.func246 _ _).trans (by kernel_rfl)
theorem en246:enterable Tryz.prog 246=true:=by kernel_rfl
-- cmp.Less int
noncomputable def F245 (D:Den)(n:Nat)(t0 t1:AV)(s:Heap):Ans :=
 oh (some ((.bool false),s)) fun t4 s =>
 oh (some (t0.strip,s)) fun t5 s =>
 oh (aCall Tryz.prog D 262 [t5.strip] s) fun t6 s =>
 oh (some (t6.strip,s)) fun t7 s =>
 oh (gd (wA t7 true) s (some (t1.strip,s))) fun t8 s =>
 oh (gd (wA t7 true) s (aCall Tryz.prog D 262 [t8.strip] s)) fun t9 s =>
 oh (gd (wA t7 true) s (mp (aUn .not t9) s)) fun t10 s =>
 oh (mp (aPick t7 t10 (.bool false)) s) fun t11 s =>
 oh (some (t11.strip,s)) fun t12 s =>
 oh (gd (wA t12 false) s (some (t0.strip,s))) fun t13 s =>
 oh (gd (wA t12 false) s (some (t1.strip,s))) fun t14 s =>
 oh (gd (wA t12 false) s (mp (aBin Tryz.prog .lss 3 t13 t14) s)) fun t15 s =>
 oh (mp (aPick t12 (.bool true) t15) s) fun t16 s =>
 oh (some (t16,s)) fun t4_2 s =>
 some (t4_2,s)
theorem F245_eq (n:Nat)(t0 t1:AV)(s:Heap):den C (n+1) 245 [t0,t1] s=F245 (den C n) n t0 t1 s :=
 (den_body rfl Tryz.func245 _ _).trans (by kernel_rfl)
theorem en245:enterable Tryz.prog 245=true:=by kernel_rfl
-- slices.BinarySearch   int,int
noncomputable def F191_L0 (D:Den)(n:Nat)(k0:Env→Heap→Ans)(e:Env)(s:Heap):Ans :=
 oh (some ((e 7).strip,s)) fun t13 s =>
 oh (some ((e 8).strip,s)) fun t14 s =>
 oh (mp (aBin Tryz.prog .lss 3 t13 t14) s) fun t15 s =>
 br t15
  (oh (some ((e 7).strip,s)) fun t16 s =>
 oh (some ((e 8).strip,s)) fun t17 s =>
 oh (mp (aBin Tryz.prog .add 3 t16 t17) s) fun t18 s =>
 oh (mp (aConv Tryz.prog 3 230 t18) s) fun t19 s =>
 oh (mp (aBin Tryz.prog .shr 230 t19 (.int .u64 1)) s) fun t20 s =>
 oh (mp (aConv Tryz.prog 230 3 t20) s) fun t21 s =>
 oh (some (t21,s)) fun t9 s =>
 oh (some ((e 0).strip,s)) fun t22 s =>
 oh (some (t9.strip,s)) fun t23 s =>
 oh (mp (aIndexAddr Tryz.prog 76 t22 t23) s) fun t24 s =>
 oh (aLoad false false 1 t24 s) fun t25 s =>
 oh (some ((e 1).strip,s)) fun t26 s =>
 oh (aCall Tryz.prog D 245 [t25.strip,t26.strip] s) fun t27 s =>
 br t27
  (oh (some (t9.strip,s)) fun t28 s =>
 oh (mp (aBin Tryz.prog .add 3 t28 (.int .i64 1)) s) fun t29 s =>
 oh (some (t29,s)) fun t7_2 s =>
 k0 (upds e [(13,t13),(14,t14),(15,t15),(16,t16),(17,t17),(18,t18),(19,t19),(20,t20),(21,t21),(21,t21.strip),(9,t9),(22,t22),(23,t23),(24,t24),(25,t25),(26,t26),(27,t27),(28,t28),(29,t29),(29,t29.strip),(7,t7_2)]) s)
  (oh (some (t9.strip,s)) fun t30 s =>
 oh (some (t30,s)) fun t8_2 s =>
 k0 (upds e [(13,t13),(14,t14),(15,t15),(16,t16),(17,t17),(18,t18),(19,t19),(20,t20),(21,t21),(21,t21.strip),(9,t9),(22,t22),(23,t23),(24,t24),(25,t25),(26,t26),(27,t27),(30,t30),(30,t30.strip),(8,t8_2)]) s))
  (oh (some ((e 7).strip,s)) fun t31 s =>
 oh (some ((e 7).strip,s)) fun t32 s =>
 oh (some ((e 6).strip,s)) fun t33 s =>
 oh (mp (aBin Tryz.prog .lss 3 t32 t33) s) fun t34 s =>
 oh (some (t34.strip,s)) fun t35 s =>
 oh (gd (wA t35 true) s (some ((e 0).strip,s))) fun t36 s =>
 oh (gd (wA t35 true) s (some ((e 7).strip,s))) fun t37 s =>
 oh (gd (wA t35 true) s (mp (aIndexAddr Tryz.prog 76 t36 t37) s)) fun t38 s =>
 oh (gd (wA t35 true) s (aLoad false false 1 t38 s)) fun t39 s =>
 oh (gd (wA t35 true) s (some ((e 1).strip,s))) fun t40 s =>
 oh (gd (wA t35 true) s (mp (aBin Tryz.prog .eql 3 t39 t40) s)) fun t41 s =>
 oh (gd (wA t35 true) s (some (t41.strip,s))) fun t42 s =>
 oh (gd (wA t42 false) s (some ((e 0).strip,s))) fun t43 s =>
 oh (gd (wA t42 false) s (some ((e 7).strip,s))) fun t44 s =>
 oh (gd (wA t42 false) s (mp (aIndexAddr Tryz.prog 76 t43 t44) s)) fun t45 s =>
 oh (gd (wA t42 false) s (aLoad false false 1 t45 s)) fun t46 s =>
 oh (gd (wA t42 false) s (aCall Tryz.prog D 246 [t46.strip] s)) fun t47 s =>
 oh (gd (wA t42 false) s (some (t47.strip,s))) fun t48 s =>
 oh (gd (wA t48 true) s (some ((e 1).strip,s))) fun t49 s =>
 oh (gd (wA t48 true) s (aCall Tryz.prog D 246 [t49.strip] s)) fun t50 s =>
 oh (gd (wA t42 false) s (mp (aPick t48 t50 (.bool false)) s)) fun t51 s =>
 oh (gd (wA t35 true) s (mp (aPick t42 (.bool true) t51) s)) fun t52 s =>
 oh (mp (aPick t35 t52 (.bool false)) s) fun t53 s =>
 oh (some (t31,s)) fun t4_2 s =>
 oh (some (t53,s)) fun t5_2 s =>
 some (.tup [t4_2,t5_2],s))
noncomputable def F191 (D:Den)(n:Nat)(t0 t1:AV)(s:Heap):Ans :=
 oh (some ((.int .i64 0),s)) fun t4 s =>
 oh (some ((.bool false),s)) fun t5 s =>
 oh (some (t0.strip,s)) fun t10 s =>
 oh (mp (aLen Tryz.prog 76 t10) s) fun t11 s =>
 oh (some (t11,s)) fun t6 s =>
 oh (some (t6.strip,s)) fun t12 s =>
 oh (some ((.int .i64 0),s)) fun t7 s =>
 oh (some (t12,s)) fun t8 s =>
 aLoop (F191_L0 D n) n (upds (argEnv [t0,t1]) [(4,t4),(5,t5),(10,t10),(11,t11),(11,t11.strip),(6,t6),(12,t12),(7,t7),(12,t12.strip),(8,t8)]) s
theorem F191_eq (n:Nat)(t0 t1:AV)(s:Heap):den C (n+1) 191 [t0,t1] s=F191 (den C n) n t0 t1 s :=
 (den_body rfl Tryz.func191 _ _).trans (by kernel_rfl)
theorem en191:enterable Tryz.prog 191=true:=by kernel_rfl
-- relex.resume
noncomputable def F130 (D:Den)(n:Nat)(t0 t1:AV)(s:Heap):Ans :=
 oh (some ((.int .i64 0),s)) fun t4 s =>
 oh (some (t1.strip,s)) fun t7 s =>
 oh (mp (aBin Tryz.prog .eql 3 t7 (.int .i64 0)) s) fun t8 s =>
 br t8
  (oh (some ((.int .i64 0),s)) fun t4_2 s =>
 some (t4_2,s))
  (oh (some (t0.strip,s)) fun t10 s =>
 oh (some (t1.strip,s)) fun t11 s =>
 oh (aCall Tryz.prog D 191 [t10.strip,t11.strip] s) fun t12 s =>
 oh (some (t12.strip,s)) fun t9 s =>
 oh (mp (aExtract 0 t9) s) fun t13 s =>
 oh (mp (aExtract 1 t9) s) fun t14 s =>
 oh (some (t13,s)) fun t5 s =>
 oh (some (t14,s)) fun t6 s =>
 oh (some (t6.strip,s)) fun t15 s =>
 br t15
  (oh (some (t5.strip,s)) fun t16 s =>
 oh (mp (aBin Tryz.prog .add 3 t16 (.int .i64 1)) s) fun t17 s =>
 oh (some (t17,s)) fun t4_3 s =>
 some (t4_3,s))
  (oh (some ((.int .i64 (-1)),s)) fun t4_4 s =>
 some (t4_4,s)))
theorem F130_eq (n:Nat)(t0 t1:AV)(s:Heap):den C (n+1) 130 [t0,t1] s=F130 (den C n) n t0 t1 s :=
 (den_body rfl Tryz.func130 _ _).trans (by kernel_rfl)
theorem en130:enterable Tryz.prog 130=true:=by kernel_rfl
-- slices.Clone   api.Token,api.Token
noncomputable def F129 (D:Den)(n:Nat)(t0:AV)(s:Heap):Ans :=
 oh (some (.nils,s)) fun t2 s =>
 oh (some (t0.strip,s)) fun t3 s =>
 oh (mp (aBin Tryz.prog .eql 74 t3 .nils) s) fun t4 s =>
 br t4
  (oh (some (.nils,s)) fun t2_2 s =>
 some (t2_2,s))
  (oh (mp (aBuildSlice Tryz.prog 74 0 []) s) fun t5 s =>
 oh (some (t0.strip,s)) fun t6 s =>
 oh (mp (aAppend Tryz.prog 74 74 t5 t6) s) fun t7 s =>
 oh (some (t7,s)) fun t2_3 s =>
 some (t2_3,s))
theorem F129_eq (n:Nat)(t0:AV)(s:Heap):den C (n+1) 129 [t0] s=F129 (den C n) n t0 s :=
 (den_body rfl Tryz.func129 _ _).trans (by kernel_rfl)
theorem en129:enterable Tryz.prog 129=true:=by kernel_rfl
-- relex.ends
noncomputable def F128_L0 (D:Den)(n:Nat)(k0:Env→Heap→Ans)(e:Env)(s:Heap):Ans :=
 oh (mp (aBin Tryz.prog .lss 3 (e 9) (e 8)) s) fun t10 s =>
 br t10
  (oh (mp (aIndexAddr Tryz.prog 74 (e 7) (e 9)) s) fun t11 s =>
 oh (aLoad false true 2 t11 s) fun t12 s =>
 oh (aAlloc Tryz.prog 80 s) fun t6 s =>
 oh (sto (aStore 2 s t6 t12)) fun _r s =>
 oh (some ((e 4).strip,s)) fun t13 s =>
 oh (mp (aAddr 1 t6) s) fun t14 s =>
 oh (aLoad false false 1 t14 s) fun t15 s =>
 oh (mp (aLen Tryz.prog 9 t15) s) fun t16 s =>
 oh (mp (aBin Tryz.prog .add 3 t13 t16) s) fun t17 s =>
 oh (some (t17,s)) fun t4_2 s =>
 oh (some ((e 3),s)) fun t18 s =>
 oh (some (t4_2.strip,s)) fun t19 s =>
 oh (mp (aBuildSlice Tryz.prog 76 1 [(0,t19)]) s) fun t20 s =>
 oh (mp (aAppend Tryz.prog 76 76 t18 t20) s) fun t21 s =>
 oh (some (t21,s)) fun t3_2 s =>
 oh (mp (aBin Tryz.prog .add 3 (e 9) (.int .i64 1)) s) fun t22 s =>
 oh (some (t22.strip,s)) fun t9_2 s =>
 k0 (upds e [(10,t10),(11,t11),(12,t12),(6,t6),(12,t12.strip),(13,t13),(14,t14),(15,t15),(16,t16),(17,t17),(17,t17.strip),(4,t4_2),(3,(e 3).strip),(18,t18),(19,t19),(20,t20),(18,t18.strip),(21,t21),(21,t21.strip),(3,t3_2),(22,t22),(9,t9_2)]) s)
  (oh (some ((e 3).strip,s)) fun t23 s =>
 oh (some (t23,s)) fun t2_2 s =>
 some (t2_2,s))
noncomputable def F128 (D:Den)(n:Nat)(t0:AV)(s:Heap):Ans :=
 oh (some (.nils,s)) fun t2 s =>
 oh (some (.nils,s)) fun t3 s =>
 oh (some ((.int .i64 0),s)) fun t4 s =>
 oh (some (t0.strip,s)) fun t7 s =>
 oh (mp (aLen Tryz.prog 74 t7) s) fun t8 s =>
 oh (some ((.int .i64 0),s)) fun t9 s =>
 aLoop (F128_L0 D n) n (upds (argEnv [t0]) [(2,t2),(3,t3),(4,t4),(7,t7),(8,t8),(9,t9)]) s
theorem F128_eq (n:Nat)(t0:AV)(s:Heap):den C (n+1) 128 [t0] s=F128 (den C n) n t0 s :=
 (den_body rfl Tryz.func128 _ _).trans (by kernel_rfl)
theorem en128:enterable Tryz.prog 128=true:=by kernel_rfl
-- slices.Equal   api.Token,api.Token
noncomputable def F127_L0 (D:Den)(n:Nat)(k0:Env→Heap→Ans)(e:Env)(s:Heap):Ans :=
 oh (mp (aBin Tryz.prog .lss 3 (e 13) (e 12)) s) fun t14 s =>
 br t14
  (oh (some ((e 13).strip,s)) fun t15 s =>
 oh (some (t15,s)) fun t5 s =>
 oh (some ((e 0).strip,s)) fun t16 s =>
 oh (some (t5.strip,s)) fun t17 s =>
 oh (mp (aIndexAddr Tryz.prog 74 t16 t17) s) fun t18 s =>
 oh (aLoad false true 2 t18 s) fun t19 s =>
 oh (some ((e 1).strip,s)) fun t20 s =>
 oh (some (t5.strip,s)) fun t21 s =>
 oh (mp (aIndexAddr Tryz.prog 74 t20 t21) s) fun t22 s =>
 oh (aLoad false true 2 t22 s) fun t23 s =>
 oh (mp (aBin Tryz.prog .neq 80 t19 t23) s) fun t24 s =>
 drawOK C 127 (regOps Tryz.f127 6) [.silent,.silent,.silent,(kLoad false t18),.silent,.silent,.silent,(kLoad false t22),.silent] <|
 br t24
  (oh (some ((.bool false),s)) fun t4_3 s =>
 some (t4_3,s))
  (oh (mp (aBin Tryz.prog .add 3 (e 13) (.int .i64 1)) s) fun t25 s =>
 oh (some (t25.strip,s)) fun t13_2 s =>
 k0 (upds e [(14,t14),(15,t15),(15,t15.strip),(5,t5),(16,t16),(17,t17),(18,t18),(19,t19),(20,t20),(21,t21),(22,t22),(23,t23),(24,t24),(25,t25),(13,t13_2)]) s))
  (oh (some ((.bool true),s)) fun t4_4 s =>
 some (t4_4,s))
noncomputable def F127 (D:Den)(n:Nat)(t0 t1:AV)(s:Heap):Ans :=
 oh (some ((.bool false),s)) fun t4 s =>
 oh (some (t0.strip,s)) fun t6 s =>
 oh (mp (aLen Tryz.prog 74 t6) s) fun t7 s =>
 oh (some (t1.strip,s)) fun t8 s =>
 oh (mp (aLen Tryz.prog 74 t8) s) fun t9 s =>
 oh (mp (aBin Tryz.prog .neq 3 t7 t9) s) fun t10 s =>
 br t10
  (oh (some ((.bool false),s)) fun t4_2 s =>
 some (t4_2,s))
  (oh (some (t0.strip,s)) fun t11 s =>
 oh (mp (aLen Tryz.prog 74 t11) s) fun t12 s =>
 oh (some ((.int .i64 0),s)) fun t13 s =>
 aLoop (F127_L0 D n) n (upds (argEnv [t0,t1]) [(4,t4),(6,t6),(7,t7),(8,t8),(9,t9),(10,t10),(11,t11),(12,t12),(13,t13)]) s)
theorem F127_eq (n:Nat)(t0 t1:AV)(s:Heap):den C (n+1) 127 [t0,t1] s=F127 (den C n) n t0 t1 s :=
 (den_body rfl Tryz.func127 _ _).trans (by kernel_rfl)
theorem d127_6 (x:Ans):drawOK C 127 (regOps Tryz.f127 6) [.silent,.silent,.silent,.silent,.silent,.silent,.silent,.silent,.silent] x=x:=drawOK_ok (by kernel_rfl)
theorem en127:enterable Tryz.prog 127=true:=by kernel_rfl
-- textedit.Validate
noncomputable def F35_L0 (D:Den)(n:Nat)(k0:Env→Heap→Ans)(e:Env)(s:Heap):Ans :=
 oh (mp (aBin Tryz.prog .lss 3 (e 21) (e 20)) s) fun t22 s =>
 br t22
  (oh (mp (aIndexAddr Tryz.prog 22 (e 19) (e 21)) s) fun t23 s =>
 oh (aLoad false true 3 t23 s) fun t24 s =>
 oh (aAlloc Tryz.prog 67 s) fun t8 s =>
 oh (sto (aStore 3 s t8 t24)) fun _r s =>
 oh (mp (aAddr 0 t8) s) fun t25 s =>
 oh (aLoad false false 1 t25 s) fun t26 s =>
 oh (some ((e 5).strip,s)) fun t27 s =>
 oh (mp (aBin Tryz.prog .leq 3 t26 t27) s) fun t28 s =>
 oh (some (t28.strip,s)) fun t29 s =>
 oh (gd (wA t29 false) s (mp (aAddr 1 t8) s)) fun t30 s =>
 oh (gd (wA t29 false) s (aLoad false false 1 t30 s)) fun t31 s =>
 oh (gd (wA t29 false) s (mp (aAddr 0 t8) s)) fun t32 s =>
 oh (gd (wA t29 false) s (aLoad false false 1 t32 s)) fun t33 s =>
 oh (gd (wA t29 false) s (mp (aBin Tryz.prog .lss 3 t31 t33) s)) fun t34 s =>
 oh (mp (aPick t29 (.bool true) t34) s) fun t35 s =>
 oh (some (t35.strip,s)) fun t36 s =>
 oh (gd (wA t36 false) s (mp (aAddr 1 t8) s)) fun t37 s =>
 oh (gd (wA t36 false) s (aLoad false false 1 t37 s)) fun t38 s =>
 oh (gd (wA t36 false) s (some ((e 0).strip,s))) fun t39 s =>
 oh (gd (wA t36 false) s (mp (aLen Tryz.prog 9 t39) s)) fun t40 s =>
 oh (gd (wA t36 false) s (mp (aBin Tryz.prog .gtr 3 t38 t40) s)) fun t41 s =>
 oh (mp (aPick t36 (.bool true) t41) s) fun t42 s =>
 br t42
  (oh (some ((.int .i64 3),s)) fun t4_3 s =>
 some (t4_3,s))
  (oh (mp (aAddr 1 t8) s) fun t43 s =>
 oh (aLoad false false 1 t43 s) fun t44 s =>
 oh (some (t44,s)) fun t5_2 s =>
 oh (some ((e 6).strip,s)) fun t45 s =>
 oh (mp (aAddr 2 t8) s) fun t46 s =>
 oh (aLoad false false 1 t46 s) fun t47 s =>
 oh (mp (aLen Tryz.prog 9 t47) s) fun t48 s =>
 oh (mp (aAddr 1 t8) s) fun t49 s =>
 oh (aLoad false false 1 t49 s) fun t50 s =>
 oh (mp (aAddr 0 t8) s) fun t51 s =>
 oh (aLoad false false 1 t51 s) fun t52 s =>
 oh (mp (aBin Tryz.prog .sub 3 t50 t52) s) fun t53 s =>
 oh (mp (aBin Tryz.prog .sub 3 t48 t53) s) fun t54 s =>
 oh (mp (aBin Tryz.prog .add 3 t45 t54) s) fun t55 s =>
 oh (some (t55,s)) fun t6_2 s =>
 oh (mp (aBin Tryz.prog .add 3 (e 21) (.int .i64 1)) s) fun t56 s =>
 oh (some (t56.strip,s)) fun t21_2 s =>
 k0 (upds e [(22,t22),(23,t23),(24,t24),(8,t8),(24,t24.strip),(25,t25),(26,t26),(27,t27),(28,t28),(29,t29),(30,t30),(31,t31),(32,t32),(33,t33),(34,t34),(35,t35),(36,t36),(37,t37),(38,t38),(39,t39),(40,t40),(41,t41),(42,t42),(43,t43),(44,t44),(44,t44.strip),(5,t5_2),(45,t45),(46,t46),(47,t47),(48,t48),(49,t49),(50,t50),(51,t51),(52,t52),(53,t53),(54,t54),(55,t55),(55,t55.strip),(6,t6_2),(56,t56),(21,t21_2)]) s))
  (oh (some ((e 6).strip,s)) fun t57 s =>
 oh (mp (aBin Tryz.prog .gtr 3 t57 (.int .i64 2000)) s) fun t58 s =>
 br t58
  (oh (some ((.int .i64 2),s)) fun t4_4 s =>
 some (t4_4,s))
  (oh (some ((.int .i64 0),s)) fun t4_5 s =>
 some (t4_5,s)))
noncomputable def F35 (D:Den)(n:Nat)(t0 t1:AV)(s:Heap):Ans :=
 oh (some ((.int .i64 0),s)) fun t4 s =>
 oh (some (t0.strip,s)) fun t9 s =>
 oh (mp (aLen Tryz.prog 9 t9) s) fun t10 s =>
 oh (mp (aBin Tryz.prog .gtr 3 t10 (.int .i64 2000)) s) fun t11 s =>
 oh (some (t11.strip,s)) fun t12 s =>
 oh (gd (wA t12 false) s (some (t1.strip,s))) fun t13 s =>
 oh (gd (wA t12 false) s (mp (aLen Tryz.prog 22 t13) s)) fun t14 s =>
 oh (gd (wA t12 false) s (mp (aBin Tryz.prog .gtr 3 t14 (.int .i64 50)) s)) fun t15 s =>
 oh (mp (aPick t12 (.bool true) t15) s) fun t16 s =>
 br t16
  (oh (some ((.int .i64 2),s)) fun t4_2 s =>
 some (t4_2,s))
  (oh (some (t0.strip,s)) fun t17 s =>
 oh (mp (aLen Tryz.prog 9 t17) s) fun t18 s =>
 oh (some ((.int .i64 (-1)),s)) fun t5 s =>
 oh (some (t18,s)) fun t6 s =>
 oh (some (t1.strip,s)) fun t19 s =>
 oh (mp (aLen Tryz.prog 22 t19) s) fun t20 s =>
 oh (some ((.int .i64 0),s)) fun t21 s =>
 aLoop (F35_L0 D n) n (upds (argEnv [t0,t1]) [(4,t4),(9,t9),(10,t10),(11,t11),(12,t12),(13,t13),(14,t14),(15,t15),(16,t16),(17,t17),(18,t18),(5,t5),(18,t18.strip),(6,t6),(19,t19),(20,t20),(21,t21)]) s)
theorem F35_eq (n:Nat)(t0 t1:AV)(s:Heap):den C (n+1) 35 [t0,t1] s=F35 (den C n) n t0 t1 s :=
 (den_body rfl Tryz.func35 _ _).trans (by kernel_rfl)
theorem en35:enterable Tryz.prog 35=true:=by kernel_rfl
-- textedit.Apply
noncomputable def F15_L0 (D:Den)(n:Nat)(k0:Env→Heap→Ans)(e:Env)(s:Heap):Ans :=
 oh (mp (aBin Tryz.prog .lss 3 (e 19) (e 18)) s) fun t20 s =>
 br t20
  (oh (mp (aIndexAddr Tryz.prog 22 (e 17) (e 19)) s) fun t21 s =>
 oh (aLoad false true 3 t21 s) fun t22 s =>
 oh (aAlloc Tryz.prog 67 s) fun t10 s =>
 oh (sto (aStore 3 s t10 t22)) fun _r s =>
 oh (some ((e 0).strip,s)) fun t23 s1 =>
 oh (some ((e 8).strip,s1)) fun t24 s2 =>
 oh (mp (aAddr 0 t10) s2) fun t25 s3 =>
 oh (aLoad false false 1 t25 s3) fun t26 s4 =>
 oh (mp (aSl Tryz.prog 9 t23 (some t24) (some t26) none) s4) fun t27 s5 =>
 oh (mp (aAddr 2 t10) s5) fun t28 s6 =>
 oh (aLoad false false 1 t28 s6) fun t29 s7 =>
 oh (mp (aBin Tryz.prog .add 9 t27 t29) s7) fun t30 s8 =>
 oh (aCall Tryz.prog D 50 [(e 7).strip,t30.strip] s8) fun t31 s9 =>
 drawOK C 15 (regOps Tryz.f15 9) [.silent,.silent,.silent,(kLoad false t25),.silent,.silent,(kLoad false t28),.silent,(dyn (kCall [(e 7).strip,t30.strip]) s8 s9)] <|
 oh (mp (aAddr 1 t10) s9) fun t32 s =>
 oh (aLoad false false 1 t32 s) fun t33 s =>
 oh (some (t33,s)) fun t8_2 s =>
 oh (mp (aBin Tryz.prog .add 3 (e 19) (.int .i64 1)) s) fun t34 s =>
 oh (some (t34.strip,s)) fun t19_2 s =>
 k0 (upds e [(20,t20),(21,t21),(22,t22),(10,t10),(22,t22.strip),(23,t23),(24,t24),(25,t25),(26,t26),(27,t27),(28,t28),(29,t29),(30,t30),(31,t31),(32,t32),(33,t33),(33,t33.strip),(8,t8_2),(34,t34),(19,t19_2)]) s)
  (oh (some ((e 0).strip,s)) fun t35 s =>
 oh (some ((e 8).strip,s)) fun t36 s =>
 oh (mp (aSl Tryz.prog 9 t35 (some t36) none none) s) fun t37 s =>
 oh (aCall Tryz.prog D 50 [(e 7).strip,t37.strip] s) fun t38 s =>
 oh (aCall Tryz.prog D 51 [(e 7).strip] s) fun t39 s =>
 oh (some (t39,s)) fun t4_3 s =>
 oh (some ((.int .i64 0),s)) fun t5_3 s =>
 some (.tup [t4_3,t5_3],s))
noncomputable def F15 (D:Den)(n:Nat)(t0 t1:AV)(s:Heap):Ans :=
 oh (some ((.str []),s)) fun t4 s =>
 oh (some ((.int .i64 0),s)) fun t5 s =>
 oh (some (t0.strip,s)) fun t11 s =>
 oh (some (t1.strip,s)) fun t12 s =>
 oh (aCall Tryz.prog D 35 [t11.strip,t12.strip] s) fun t13 s =>
 oh (some (t13,s)) fun t6 s =>
 oh (some (t6.strip,s)) fun t14 s =>
 oh (mp (aBin Tryz.prog .neq 24 t14 (.int .i64 0)) s) fun t15 s =>
 br t15
  (oh (some (t6.strip,s)) fun t16 s =>
 oh (some ((.str []),s)) fun t4_2 s =>
 oh (some (t16,s)) fun t5_2 s =>
 some (.tup [t4_2,t5_2],s))
  (oh (aAlloc Tryz.prog 112 s) fun t7 s =>
 oh (some ((.int .i64 0),s)) fun t8 s =>
 oh (some (t1.strip,s)) fun t17 s =>
 oh (mp (aLen Tryz.prog 22 t17) s) fun t18 s =>
 oh (some ((.int .i64 0),s)) fun t19 s =>
 aLoop (F15_L0 D n) n (upds (argEnv [t0,t1]) [(4,t4),(5,t5),(11,t11),(12,t12),(13,t13),(13,t13.strip),(6,t6),(14,t14),(15,t15),(7,t7),(8,t8),(17,t17),(18,t18),(19,t19)]) s)
theorem F15_eq (n:Nat)(t0 t1:AV)(s:Heap):den C (n+1) 15 [t0,t1] s=F15 (den C n) n t0 t1 s :=
 (den_body rfl Tryz.func15 _ _).trans (by kernel_rfl)
theorem en15:enterable Tryz.prog 15=true:=by kernel_rfl
-- relex.Update
noncomputable def F69_L1 (D:Den)(n:Nat)(k0:Env→Heap→Ans)(e:Env)(s:Heap):Ans :=
 oh (some ((e 15).strip,s)) fun t78 s =>
 oh (some ((e 9).strip,s)) fun t79 s =>
 oh (mp (aLen Tryz.prog 9 t79) s) fun t80 s =>
 oh (mp (aBin Tryz.prog .lss 3 t78 t80) s) fun t81 s =>
 br t81
  (oh (some ((e 13).strip,s)) fun t82 s =>
 oh (some ((e 15).strip,s)) fun t83 s =>
 oh (some ((e 17).strip,s)) fun t84 s =>
 oh (mp (aBin Tryz.prog .sub 3 t83 t84) s) fun t85 s =>
 oh (aCall Tryz.prog D 130 [t82.strip,t85.strip] s) fun t86 s =>
 oh (some (t86,s)) fun t18 s =>
 oh (some ((e 15).strip,s)) fun t87 s =>
 oh (some ((e 17).strip,s)) fun t88 s =>
 oh (mp (aBin Tryz.prog .sub 3 t87 t88) s) fun t89 s =>
 oh (mp (aAddr 1 (e 5)) s) fun t90 s =>
 oh (aLoad false false 1 t90 s) fun t91 s =>
 oh (mp (aBin Tryz.prog .geq 3 t89 t91) s) fun t92 s =>
 oh (some (t92.strip,s)) fun t93 s =>
 oh (gd (wA t93 true) s (some (t18.strip,s))) fun t94 s =>
 oh (gd (wA t93 true) s (mp (aBin Tryz.prog .geq 3 t94 (.int .i64 0)) s)) fun t95 s =>
 oh (mp (aPick t93 t95 (.bool false)) s) fun t96 s =>
 br t96
  (oh (some ((e 16),s)) fun t97 s =>
 oh (some ((e 11).strip,s)) fun t98 s =>
 oh (some (t18.strip,s)) fun t99 s =>
 oh (mp (aSl Tryz.prog 74 t98 (some t99) none none) s) fun t100 s =>
 oh (mp (aAppend Tryz.prog 74 74 t97 t100) s) fun t101 s =>
 oh (some ((e 14).strip,s)) fun t102 s =>
 oh (some ((e 11).strip,s)) fun t103 s =>
 oh (mp (aLen Tryz.prog 74 t103) s) fun t104 s =>
 oh (mp (aBin Tryz.prog .add 3 t102 t104) s) fun t105 s =>
 oh (some (t18.strip,s)) fun t106 s =>
 oh (mp (aBin Tryz.prog .sub 3 t105 t106) s) fun t107 s =>
 oh (some (t101,s)) fun t6_6 s =>
 oh (some (t107,s)) fun t7_6 s =>
 oh (some ((.int .i64 0),s)) fun t8_6 s =>
 some (.tup [t6_6,t7_6,t8_6],s))
  (oh (some ((e 9).strip,s)) fun t109 s =>
 oh (some ((e 15).strip,s)) fun t110 s =>
 oh (mp (aSl Tryz.prog 9 t109 (some t110) none none) s) fun t111 s =>
 oh (aCall Tryz.prog D 104 [t111.strip] s) fun t112 s =>
 oh (some (t112.strip,s)) fun t108 s =>
 oh (mp (aExtract 0 t108) s) fun t113 s =>
 oh (mp (aExtract 1 t108) s) fun t114 s =>
 oh (some (t113,s)) fun t19 s =>
 oh (some (t114,s)) fun t20 s =>
 oh (some ((e 16),s)) fun t115 s =>
 oh (some (t20.strip,s)) fun t116 s =>
 oh (some ((e 9).strip,s)) fun t117 s =>
 oh (some ((e 15).strip,s)) fun t118 s =>
 oh (some ((e 15).strip,s)) fun t119 s =>
 oh (some (t19.strip,s)) fun t120 s =>
 oh (mp (aBin Tryz.prog .add 3 t119 t120) s) fun t121 s =>
 oh (mp (aSl Tryz.prog 9 t117 (some t118) (some t121) none) s) fun t122 s =>
 oh (mp (aBuild Tryz.prog 80 [(0,t116),(1,t122)]) s) fun t123 s =>
 oh (mp (aBuildSlice Tryz.prog 74 1 [(0,t123)]) s) fun t124 s =>
 oh (mp (aAppend Tryz.prog 74 74 t115 t124) s) fun t125 s =>
 oh (some (t125,s)) fun t16_2 s =>
 oh (some ((e 15).strip,s)) fun t126 s =>
 oh (some (t19.strip,s)) fun t127 s =>
 oh (mp (aBin Tryz.prog .add 3 t126 t127) s) fun t128 s =>
 oh (some (t128,s)) fun t15_3 s =>
 k0 (upds e [(78,t78),(79,t79),(80,t80),(81,t81),(82,t82),(83,t83),(84,t84),(85,t85),(86,t86),(86,t86.strip),(18,t18),(87,t87),(88,t88),(89,t89),(90,t90),(91,t91),(92,t92),(93,t93),(94,t94),(95,t95),(96,t96),(109,t109),(110,t110),(111,t111),(112,t112),(108,t108),(113,t113),(114,t114),(113,t113.strip),(19,t19),(114,t114.strip),(20,t20),(16,(e 16).strip),(115,t115),(116,t116),(117,t117),(118,t118),(119,t119),(120,t120),(121,t121),(122,t122),(123,t123),(124,t124),(115,t115.strip),(125,t125),(125,t125.strip),(16,t16_2),(126,t126),(127,t127),(128,t128),(128,t128.strip),(15,t15_3)]) s))
  (oh (some ((e 16).strip,s)) fun t129 s =>
 oh (some ((e 14).strip,s)) fun t130 s =>
 oh (some (t129,s)) fun t6_7 s =>
 oh (some (t130,s)) fun t7_7 s =>
 oh (some ((.int .i64 0),s)) fun t8_7 s =>
 some (.tup [t6_7,t7_7,t8_7],s))
noncomputable def F69_L0 (D:Den)(n:Nat)(k0:Env→Heap→Ans)(e:Env)(s:Heap):Ans :=
 oh (some ((e 14).strip,s)) fun t50 s =>
 oh (some ((e 11).strip,s)) fun t51 s =>
 oh (mp (aLen Tryz.prog 74 t51) s) fun t52 s =>
 oh (mp (aBin Tryz.prog .lss 3 t50 t52) s) fun t53 s =>
 oh (some (t53.strip,s)) fun t54 s =>
 oh (gd (wA t54 true) s (some ((e 13).strip,s))) fun t55 s =>
 oh (gd (wA t54 true) s (some ((e 14).strip,s))) fun t56 s =>
 oh (gd (wA t54 true) s (mp (aIndexAddr Tryz.prog 76 t55 t56) s)) fun t57 s =>
 oh (gd (wA t54 true) s (aLoad false false 1 t57 s)) fun t58 s =>
 oh (gd (wA t54 true) s (mp (aAddr 0 (e 5)) s)) fun t59 s =>
 oh (gd (wA t54 true) s (aLoad false false 1 t59 s)) fun t60 s =>
 oh (gd (wA t54 true) s (mp (aBin Tryz.prog .lss 3 t58 t60) s)) fun t61 s =>
 oh (mp (aPick t54 t61 (.bool false)) s) fun t62 s =>
 drawOK C 69 (regOps Tryz.f69 13) [.silent,.silent,.silent,.silent,.silent,(kGd (wA t54 true) .silent),(kGd (wA t54 true) .silent),(kGd (wA t54 true) .silent),(kGd (wA t54 true) (kLoad false t57)),(kGd (wA t54 true) .silent),(kGd (wA t54 true) (kLoad false t59)),(kGd (wA t54 true) .silent),.silent] <|
 br t62
  (oh (some ((e 13).strip,s)) fun t63 s =>
 oh (some ((e 14).strip,s)) fun t64 s =>
 oh (mp (aIndexAddr Tryz.prog 76 t63 t64) s) fun t65 s =>
 oh (aLoad false false 1 t65 s) fun t66 s =>
 oh (some (t66,s)) fun t15_2 s =>
 oh (some ((e 14).strip,s)) fun t67 s =>
 oh (mp (aBin Tryz.prog .add 3 t67 (.int .i64 1)) s) fun t68 s =>
 oh (some (t68,s)) fun t14_2 s =>
 k0 (upds e [(50,t50),(51,t51),(52,t52),(53,t53),(54,t54),(55,t55),(56,t56),(57,t57),(58,t58),(59,t59),(60,t60),(61,t61),(62,t62),(63,t63),(64,t64),(65,t65),(66,t66),(66,t66.strip),(15,t15_2),(67,t67),(68,t68),(68,t68.strip),(14,t14_2)]) s)
  (oh (some ((e 11).strip,s)) fun t69 s =>
 oh (some ((e 14).strip,s)) fun t70 s =>
 oh (mp (aSl Tryz.prog 74 t69 none (some t70) none) s) fun t71 s =>
 oh (aCall Tryz.prog D 129 [t71.strip] s) fun t72 s =>
 oh (some (t72,s)) fun t16 s =>
 oh (some ((e 9).strip,s)) fun t73 s =>
 oh (mp (aLen Tryz.prog 9 t73) s) fun t74 s =>
 oh (some ((e 0).strip,s)) fun t75 s =>
 oh (mp (aLen Tryz.prog 9 t75) s) fun t76 s =>
 oh (mp (aBin Tryz.prog .sub 3 t74 t76) s) fun t77 s =>
 oh (some (t77,s)) fun t17 s =>
 aLoop (F69_L1 D n) n (upds e [(50,t50),(51,t51),(52,t52),(53,t53),(54,t54),(55,t55),(56,t56),(57,t57),(58,t58),(59,t59),(60,t60),(61,t61),(62,t62),(69,t69),(70,t70),(71,t71),(72,t72),(72,t72.strip),(16,t16),(73,t73),(74,t74),(75,t75),(76,t76),(77,t77),(77,t77.strip),(17,t17)]) s)
noncomputable def F69 (D:Den)(n:Nat)(t0 t1 t2:AV)(s:Heap):Ans :=
 oh (aBox false 67 t2 s) fun t5 s =>
 oh (some (.nils,s)) fun t6 s =>
 oh (some ((.int .i64 0),s)) fun t7 s =>
 oh (some ((.int .i64 0),s)) fun t8 s =>
 oh (some (t0.strip,s)) fun t21 s =>
 oh (mp (aLen Tryz.prog 9 t21) s) fun t22 s =>
 oh (mp (aBin Tryz.prog .gtr 3 t22 (.int .i64 2000)) s) fun t23 s =>
 br t23
  (oh (some (.nils,s)) fun t6_2 s =>
 oh (some ((.int .i64 0),s)) fun t7_2 s =>
 oh (some ((.int .i64 2),s)) fun t8_2 s =>
 some (.tup [t6_2,t7_2,t8_2],s))
  (oh (some (t0.strip,s)) fun t25 s =>
 oh (aLoad false true 3 t5 s) fun t26 s =>
 oh (mp (aBuildSlice Tryz.prog 22 1 [(0,t26)]) s) fun t27 s =>
 oh (aCall Tryz.prog D 15 [t25.strip,t27.strip] s) fun t28 s =>
 oh (some (t28.strip,s)) fun t24 s =>
 oh (mp (aExtract 0 t24) s) fun t29 s =>
 oh (mp (aExtract 1 t24) s) fun t30 s =>
 oh (some (t29,s)) fun t9 s =>
 oh (some (t30,s)) fun t10 s =>
 oh (some (t10.strip,s)) fun t31 s =>
 oh (mp (aBin Tryz.prog .neq 24 t31 (.int .i64 0)) s) fun t32 s =>
 br t32
  (oh (some (t10.strip,s)) fun t33 s =>
 oh (some (.nils,s)) fun t6_3 s =>
 oh (some ((.int .i64 0),s)) fun t7_3 s =>
 oh (some (t33,s)) fun t8_3 s =>
 some (.tup [t6_3,t7_3,t8_3],s))
  (oh (some (t0.strip,s)) fun t35 s =>
 oh (aCall Tryz.prog D 58 [t35.strip] s) fun t36 s =>
 oh (some (t36.strip,s)) fun t34 s =>
 oh (mp (aExtract 0 t34) s) fun t37 s =>
 oh (mp (aExtract 1 t34) s) fun t38 s =>
 oh (some (t37,s)) fun t11 s =>
 oh (some (t38,s)) fun t12 s =>
 oh (some (t11.strip,s)) fun t40 s =>
 oh (some (t1.strip,s)) fun t41 s =>
 oh (aCall Tryz.prog D 127 [t40.strip,t41.strip] s) fun t42 s =>
 oh (mp (aUn .not t42) s) fun t43 s =>
 oh (some (t43,s)) fun t39 s =>
 br t39
  (oh (some (.nils,s)) fun t6_4 s =>
 oh (some ((.int .i64 0),s)) fun t7_4 s =>
 oh (some ((.int .i64 3),s)) fun t8_4 s =>
 some (.tup [t6_4,t7_4,t8_4],s))
  (oh (some (t9.strip,s)) fun t45 s =>
 oh (mp (aLen Tryz.prog 9 t45) s) fun t46 s =>
 oh (mp (aBin Tryz.prog .gtr 3 t46 (.int .i64 2000)) s) fun t47 s =>
 oh (some (t47,s)) fun t44 s =>
 br t44
  (oh (some (.nils,s)) fun t6_5 s =>
 oh (some ((.int .i64 0),s)) fun t7_5 s =>
 oh (some ((.int .i64 2),s)) fun t8_5 s =>
 some (.tup [t6_5,t7_5,t8_5],s))
  (oh (some (t11.strip,s)) fun t48 s =>
 oh (aCall Tryz.prog D 128 [t48.strip] s) fun t49 s =>
 oh (some (t49,s)) fun t13 s =>
 oh (some ((.int .i64 0),s)) fun t14 s =>
 oh (some ((.int .i64 0),s)) fun t15 s =>
 aLoop (F69_L0 D n) n (upds (argEnv [t0,t1,t2]) [(5,t5),(6,t6),(7,t7),(8,t8),(21,t21),(22,t22),(23,t23),(25,t25),(26,t26),(27,t27),(28,t28),(24,t24),(29,t29),(30,t30),(29,t29.strip),(9,t9),(30,t30.strip),(10,t10),(31,t31),(32,t32),(35,t35),(36,t36),(34,t34),(37,t37),(38,t38),(37,t37.strip),(11,t11),(38,t38.strip),(12,t12),(40,t40),(41,t41),(42,t42),(43,t43),(43,t43.strip),(39,t39),(45,t45),(46,t46),(47,t47),(47,t47.strip),(44,t44),(48,t48),(49,t49),(49,t49.strip),(13,t13),(14,t14),(15,t15)]) s))))
theorem F69_eq (n:Nat)(t0 t1 t2:AV)(s:Heap):den C (n+1) 69 [t0,t1,t2] s=F69 (den C n) n t0 t1 t2 s :=
 (den_body rfl Tryz.func69 _ _).trans (by kernel_rfl)
theorem d69_13 (x:Ans):drawOK C 69 (regOps Tryz.f69 13) [.silent,.silent,.silent,.silent,.silent,.silent,.silent,.silent,.silent,.silent,.silent,.silent,.silent] x=x:=drawOK_ok (by kernel_rfl)
theorem en69:enterable Tryz.prog 69=true:=by kernel_rfl
-- slices.EqualFunc   api.SyntaxTree, api.SyntaxTree,api.SyntaxTree,api.SyntaxTree
noncomputable def F126_L0 (D:Den)(n:Nat)(k0:Env→Heap→Ans)(e:Env)(s:Heap):Ans :=
 oh (mp (aBin Tryz.prog .lss 3 (e 17) (e 16)) s) fun t18 s =>
 br t18
  (oh (some ((e 17).strip,s)) fun t19 s =>
 oh (mp (aIndexAddr Tryz.prog 50 (e 15) (e 17)) s) fun t20 s =>
 oh (aLoad false true 3 t20 s) fun t21 s =>
 oh (aAlloc Tryz.prog 52 s) fun t8 s =>
 oh (some (t19,s)) fun t7 s =>
 oh (sto (aStore 3 s t8 t21)) fun _r s =>
 oh (some ((e 1).strip,s)) fun t22 s =>
 oh (some (t7.strip,s)) fun t23 s =>
 oh (mp (aIndexAddr Tryz.prog 50 t22 t23) s) fun t24 s =>
 oh (aLoad false true 3 t24 s) fun t25 s =>
 oh (aAlloc Tryz.prog 52 s) fun t9 s =>
 oh (sto (aStore 3 s t9 t25)) fun _r s =>
 oh (some ((e 2).strip,s)) fun t26 s =>
 oh (aLoad false true 3 t8 s) fun t27 s =>
 oh (aLoad false true 3 t9 s) fun t28 s =>
 oh (aCallV Tryz.prog D t26 [t27,t28] s) fun t29 s =>
 oh (mp (aUn .not t29) s) fun t30 s =>
 br t30
  (oh (some ((.bool false),s)) fun t6_3 s =>
 some (t6_3,s))
  (oh (mp (aBin Tryz.prog .add 3 (e 17) (.int .i64 1)) s) fun t31 s =>
 oh (some (t31.strip,s)) fun t17_2 s =>
 k0 (upds e [(18,t18),(19,t19),(20,t20),(21,t21),(8,t8),(19,t19.strip),(7,t7),(21,t21.strip),(22,t22),(23,t23),(24,t24),(25,t25),(9,t9),(25,t25.strip),(26,t26),(27,t27),(28,t28),(29,t29),(30,t30),(31,t31),(17,t17_2)]) s))
  (oh (some ((.bool true),s)) fun t6_4 s =>
 some (t6_4,s))
noncomputable def F126 (D:Den)(n:Nat)(t0 t1 t2:AV)(s:Heap):Ans :=
 oh (some ((.bool false),s)) fun t6 s =>
 oh (some (t0.strip,s)) fun t10 s =>
 oh (mp (aLen Tryz.prog 50 t10) s) fun t11 s =>
 oh (some (t1.strip,s)) fun t12 s =>
 oh (mp (aLen Tryz.prog 50 t12) s) fun t13 s =>
 oh (mp (aBin Tryz.prog .neq 3 t11 t13) s) fun t14 s =>
 br t14
  (oh (some ((.bool false),s)) fun t6_2 s =>
 some (t6_2,s))
  (oh (some (t0.strip,s)) fun t15 s =>
 oh (mp (aLen Tryz.prog 50 t15) s) fun t16 s =>
 oh (some ((.int .i64 0),s)) fun t17 s =>
 aLoop (F126_L0 D n) n (upds (argEnv [t0,t1,t2]) [(6,t6),(10,t10),(11,t11),(12,t12),(13,t13),(14,t14),(15,t15),(16,t16),(17,t17)]) s)
theorem F126_eq (n:Nat)(t0 t1 t2:AV)(s:Heap):den C (n+1) 126 [t0,t1,t2] s=F126 (den C n) n t0 t1 t2 s :=
 (den_body rfl Tryz.func126 _ _).trans (by kernel_rfl)
theorem en126:enterable Tryz.prog 126=true:=by kernel_rfl
-- reparse.equal
noncomputable def F68 (D:Den)(n:Nat)(t0 t1:AV)(s:Heap):Ans :=
 oh (aBox false 52 t0 s) fun t2 s =>
 oh (aBox false 52 t1 s) fun t3 s =>
 oh (some ((.bool false),s)) fun t4 s =>
 oh (mp (aAddr 0 t2) s) fun t5 s =>
 oh (aLoad false false 1 t5 s) fun t6 s =>
 oh (mp (aAddr 0 t3) s) fun t7 s =>
 oh (aLoad false false 1 t7 s) fun t8 s =>
 oh (mp (aBin Tryz.prog .eql 3 t6 t8) s) fun t9 s =>
 oh (some (t9.strip,s)) fun t10 s =>
 oh (gd (wA t10 true) s (mp (aAddr 1 t2) s)) fun t11 s =>
 oh (gd (wA t10 true) s (aLoad false false 1 t11 s)) fun t12 s =>
 oh (gd (wA t10 true) s (mp (aAddr 1 t3) s)) fun t13 s =>
 oh (gd (wA t10 true) s (aLoad false false 1 t13 s)) fun t14 s =>
 oh (gd (wA t10 true) s (mp (aBin Tryz.prog .eql 9 t12 t14) s)) fun t15 s =>
 oh (mp (aPick t10 t15 (.bool false)) s) fun t16 s =>
 oh (some (t16.strip,s)) fun t17 s =>
 oh (gd (wA t17 true) s (mp (aAddr 2 t2) s)) fun t18 s =>
 oh (gd (wA t17 true) s (aLoad false false 1 t18 s)) fun t19 s =>
 oh (gd (wA t17 true) s (mp (aAddr 2 t3) s)) fun t20 s =>
 oh (gd (wA t17 true) s (aLoad false false 1 t20 s)) fun t21 s =>
 oh (gd (wA t17 true) s (aCall Tryz.prog D 126 [t19.strip,t21.strip,(.fn 68 [] [])] s)) fun t22 s =>
 oh (mp (aPick t17 t22 (.bool false)) s) fun t23 s =>
 oh (some (t23,s)) fun t4_2 s =>
 some (t4_2,s)
theorem F68_eq (n:Nat)(t0 t1:AV)(s:Heap):den C (n+1) 68 [t0,t1] s=F68 (den C n) n t0 t1 s :=
 (den_body rfl Tryz.func68 _ _).trans (by kernel_rfl)
theorem en68:enterable Tryz.prog 68=true:=by kernel_rfl
-- reparse.significantWidth
noncomputable def F131_J0 (D:Den)(n:Nat)(e:Env)(s:Heap):Ans :=
 oh (some ((e 3).strip,s)) fun t26 s =>
 oh (some (t26,s)) fun t2_2 s =>
 some (t2_2,s)
noncomputable def F131_L1 (D:Den)(n:Nat)(k0:Env→Heap→Ans)(e:Env)(s:Heap):Ans :=
 oh (some ((e 3).strip,s)) fun t6 s =>
 oh (some ((e 0).strip,s)) fun t7 s =>
 oh (mp (aLen Tryz.prog 9 t7) s) fun t8 s =>
 oh (mp (aBin Tryz.prog .lss 3 t6 t8) s) fun t9 s =>
 br t9
  (oh (some ((e 0).strip,s)) fun t11 s =>
 oh (some ((e 3).strip,s)) fun t12 s =>
 oh (mp (aSl Tryz.prog 9 t11 (some t12) none none) s) fun t13 s =>
 oh (aCall Tryz.prog D 104 [t13.strip] s) fun t14 s =>
 oh (some (t14.strip,s)) fun t10 s =>
 oh (mp (aExtract 0 t10) s) fun t15 s =>
 oh (mp (aExtract 1 t10) s) fun t16 s =>
 oh (some (t15,s)) fun t4 s =>
 oh (some (t16,s)) fun t5 s =>
 oh (some ((e 3).strip,s)) fun t17 s =>
 oh (some (t4.strip,s)) fun t18 s =>
 oh (mp (aBin Tryz.prog .add 3 t17 t18) s) fun t19 s =>
 oh (some (t19,s)) fun t3_2 s =>
 oh (some (t5.strip,s)) fun t20 s =>
 oh (mp (aBin Tryz.prog .neq 3 t20 (.int .i64 101)) s) fun t21 s =>
 oh (some (t21.strip,s)) fun t22 s =>
 oh (gd (wA t22 true) s (some (t5.strip,s))) fun t23 s =>
 oh (gd (wA t22 true) s (mp (aBin Tryz.prog .neq 3 t23 (.int .i64 102)) s)) fun t24 s =>
 oh (mp (aPick t22 t24 (.bool false)) s) fun t25 s =>
 br t25
  (F131_J0 D n (upds e [(6,t6),(7,t7),(8,t8),(9,t9),(11,t11),(12,t12),(13,t13),(14,t14),(10,t10),(15,t15),(16,t16),(15,t15.strip),(4,t4),(16,t16.strip),(5,t5),(17,t17),(18,t18),(19,t19),(19,t19.strip),(3,t3_2),(20,t20),(21,t21),(22,t22),(23,t23),(24,t24),(25,t25)]) s)
  (k0 (upds e [(6,t6),(7,t7),(8,t8),(9,t9),(11,t11),(12,t12),(13,t13),(14,t14),(10,t10),(15,t15),(16,t16),(15,t15.strip),(4,t4),(16,t16.strip),(5,t5),(17,t17),(18,t18),(19,t19),(19,t19.strip),(3,t3_2),(20,t20),(21,t21),(22,t22),(23,t23),(24,t24),(25,t25)]) s))
  (F131_J0 D n (upds e [(6,t6),(7,t7),(8,t8),(9,t9)]) s)
noncomputable def F131 (D:Den)(n:Nat)(t0:AV)(s:Heap):Ans :=
 oh (some ((.int .i64 0),s)) fun t2 s =>
 oh (some ((.int .i64 0),s)) fun t3 s =>
 aLoop (F131_L1 D n) n (upds (argEnv [t0]) [(2,t2),(3,t3)]) s
theorem F131_eq (n:Nat)(t0:AV)(s:Heap):den C (n+1) 131 [t0] s=F131 (den C n) n t0 s :=
 (den_body rfl Tryz.func131 _ _).trans (by kernel_rfl)
theorem en131:enterable Tryz.prog 131=true:=by kernel_rfl
-- reparse.isToken
noncomputable def F132 (D:Den)(n:Nat)(t0:AV)(s:Heap):Ans :=
 oh (aBox false 52 t0 s) fun t1 s =>
 oh (some ((.bool false),s)) fun t2 s =>
 oh (mp (aAddr 0 t1) s) fun t3 s =>
 oh (aLoad false false 1 t3 s) fun t4 s =>
 oh (mp (aBin Tryz.prog .geq 3 t4 (.int .i64 100)) s) fun t5 s =>
 oh (some (t5,s)) fun t2_2 s =>
 some (t2_2,s)
theorem F132_eq (n:Nat)(t0:AV)(s:Heap):den C (n+1) 132 [t0] s=F132 (den C n) n t0 s :=
 (den_body rfl Tryz.func132 _ _).trans (by kernel_rfl)
theorem en132:enterable Tryz.prog 132=true:=by kernel_rfl
-- reparse.fileChildren
noncomputable def F70_L1 (D:Den)(n:Nat)(k0:Env→Heap→Ans)(k1:Env→Heap→Ans)(e:Env)(s:Heap):Ans :=
 oh (mp (aBin Tryz.prog .lss 3 (e 24) (.int .i64 2)) s) fun t25 s =>
 br t25
  (oh (some ((e 10).strip,s)) fun t26 s =>
 oh (some ((e 0).strip,s)) fun t27 s =>
 oh (some ((e 10).strip,s)) fun t28 s =>
 oh (mp (aSl Tryz.prog 9 t27 (some t28) none none) s) fun t29 s =>
 oh (aCall Tryz.prog D 131 [t29.strip] s) fun t30 s =>
 oh (mp (aBin Tryz.prog .add 3 t26 t30) s) fun t31 s =>
 oh (some (t31,s)) fun t10_2 s =>
 oh (mp (aBin Tryz.prog .add 3 (e 24) (.int .i64 1)) s) fun t32 s =>
 oh (some (t32.strip,s)) fun t24_2 s =>
 k1 (upds e [(25,t25),(26,t26),(27,t27),(28,t28),(29,t29),(30,t30),(31,t31),(31,t31.strip),(10,t10_2),(32,t32),(24,t24_2)]) s)
  (oh (some ((e 5),s)) fun t33 s =>
 oh (aLoad false true 3 (e 8) s) fun t34 s =>
 oh (some ((e 6).strip,s)) fun t35 s =>
 oh (some ((e 9).strip,s)) fun t36 s =>
 oh (some ((e 10).strip,s)) fun t37 s =>
 oh (mp (aBuild Tryz.prog 207 [(0,t34),(1,t35),(2,t36),(3,t37)]) s) fun t38 s =>
 oh (mp (aBuildSlice Tryz.prog 140 1 [(0,t38)]) s) fun t39 s =>
 oh (mp (aAppend Tryz.prog 140 140 t33 t39) s) fun t40 s =>
 oh (some (t40,s)) fun t5_2 s =>
 oh (some ((e 9).strip,s)) fun t41 s =>
 oh (some (t41,s)) fun t6_2 s =>
 oh (mp (aBin Tryz.prog .add 3 (e 14) (.int .i64 1)) s) fun t42 s =>
 oh (some (t42.strip,s)) fun t14_2 s =>
 k0 (upds e [(25,t25),(5,(e 5).strip),(33,t33),(34,t34),(35,t35),(36,t36),(37,t37),(38,t38),(39,t39),(33,t33.strip),(40,t40),(40,t40.strip),(5,t5_2),(41,t41),(41,t41.strip),(6,t6_2),(42,t42),(14,t14_2)]) s)
noncomputable def F70_L0 (D:Den)(n:Nat)(k0:Env→Heap→Ans)(e:Env)(s:Heap):Ans :=
 oh (mp (aBin Tryz.prog .lss 3 (e 14) (e 13)) s) fun t15 s =>
 br t15
  (oh (mp (aIndexAddr Tryz.prog 50 (e 12) (e 14)) s) fun t16 s =>
 oh (aLoad false true 3 t16 s) fun t17 s =>
 oh (aAlloc Tryz.prog 52 s) fun t8 s =>
 oh (sto (aStore 3 s t8 t17)) fun _r s =>
 oh (some ((e 6).strip,s)) fun t18 s =>
 oh (aLoad false true 3 t8 s) fun t19 s =>
 oh (aCall Tryz.prog D 33 [t19.strip] s) fun t20 s =>
 oh (mp (aLen Tryz.prog 9 t20) s) fun t21 s =>
 oh (mp (aBin Tryz.prog .add 3 t18 t21) s) fun t22 s =>
 oh (some (t22,s)) fun t9 s =>
 oh (some (t9.strip,s)) fun t23 s =>
 oh (some (t23,s)) fun t10 s =>
 oh (some ((.int .i64 0),s)) fun t24 s =>
 aLoop (F70_L1 D n k0) n (upds e [(15,t15),(16,t16),(17,t17),(8,t8),(17,t17.strip),(18,t18),(19,t19),(20,t20),(21,t21),(22,t22),(22,t22.strip),(9,t9),(23,t23),(23,t23.strip),(10,t10),(24,t24)]) s)
  (oh (some ((e 5).strip,s)) fun t43 s =>
 oh (some (t43,s)) fun t4_2 s =>
 some (t4_2,s))
noncomputable def F70 (D:Den)(n:Nat)(t0 t1:AV)(s:Heap):Ans :=
 oh (aBox false 52 t1 s) fun t3 s =>
 oh (some (.nils,s)) fun t4 s =>
 oh (some (.nils,s)) fun t5 s =>
 oh (some ((.int .i64 0),s)) fun t6 s =>
 oh (mp (aAddr 2 t3) s) fun t11 s =>
 oh (aLoad false false 1 t11 s) fun t12 s =>
 oh (mp (aLen Tryz.prog 50 t12) s) fun t13 s =>
 oh (some ((.int .i64 0),s)) fun t14 s =>
 aLoop (F70_L0 D n) n (upds (argEnv [t0,t1]) [(3,t3),(4,t4),(5,t5),(6,t6),(11,t11),(12,t12),(13,t13),(14,t14)]) s
theorem F70_eq (n:Nat)(t0 t1:AV)(s:Heap):den C (n+1) 70 [t0,t1] s=F70 (den C n) n t0 t1 s :=
 (den_body rfl Tryz.func70 _ _).trans (by kernel_rfl)
theorem en70:enterable Tryz.prog 70=true:=by kernel_rfl
-- reparse.stableTokens
noncomputable def F71_J1 (D:Den)(n:Nat)(e:Env)(s:Heap):Ans :=
 oh (some ((e 7).strip,s)) fun t70 s =>
 oh (some (t70,s)) fun t6_2 s =>
 some (t6_2,s)
noncomputable def F71_L2 (D:Den)(n:Nat)(k0:Env→Heap→Ans)(e:Env)(s:Heap):Ans :=
 oh (some ((e 7).strip,s)) fun t23 s =>
 oh (some ((e 0).strip,s)) fun t24 s =>
 oh (mp (aLen Tryz.prog 74 t24) s) fun t25 s =>
 oh (mp (aBin Tryz.prog .lss 3 t23 t25) s) fun t26 s =>
 oh (some (t26.strip,s)) fun t27 s =>
 oh (gd (wA t27 true) s (some ((e 7).strip,s))) fun t28 s =>
 oh (gd (wA t27 true) s (some ((e 1).strip,s))) fun t29 s =>
 oh (gd (wA t27 true) s (mp (aLen Tryz.prog 74 t29) s)) fun t30 s =>
 oh (gd (wA t27 true) s (mp (aBin Tryz.prog .lss 3 t28 t30) s)) fun t31 s =>
 oh (mp (aPick t27 t31 (.bool false)) s) fun t32 s =>
 oh (some (t32.strip,s)) fun t33 s =>
 oh (gd (wA t33 true) s (some ((e 0).strip,s))) fun t34 s =>
 oh (gd (wA t33 true) s (some ((e 0).strip,s))) fun t35 s =>
 oh (gd (wA t33 true) s (mp (aLen Tryz.prog 74 t35) s)) fun t36 s =>
 oh (gd (wA t33 true) s (mp (aBin Tryz.prog .sub 3 t36 (.int .i64 1)) s)) fun t37 s =>
 oh (gd (wA t33 true) s (some ((e 7).strip,s))) fun t38 s =>
 oh (gd (wA t33 true) s (mp (aBin Tryz.prog .sub 3 t37 t38) s)) fun t39 s =>
 oh (gd (wA t33 true) s (mp (aIndexAddr Tryz.prog 74 t34 t39) s)) fun t40 s =>
 oh (gd (wA t33 true) s (aLoad false true 2 t40 s)) fun t41 s =>
 oh (gd (wA t33 true) s (some ((e 1).strip,s))) fun t42 s =>
 oh (gd (wA t33 true) s (some ((e 1).strip,s))) fun t43 s =>
 oh (gd (wA t33 true) s (mp (aLen Tryz.prog 74 t43) s)) fun t44 s =>
 oh (gd (wA t33 true) s (mp (aBin Tryz.prog .sub 3 t44 (.int .i64 1)) s)) fun t45 s =>
 oh (gd (wA t33 true) s (some ((e 7).strip,s))) fun t46 s =>
 oh (gd (wA t33 true) s (mp (aBin Tryz.prog .sub 3 t45 t46) s)) fun t47 s =>
 oh (gd (wA t33 true) s (mp (aIndexAddr Tryz.prog 74 t42 t47) s)) fun t48 s =>
 oh (gd (wA t33 true) s (aLoad false true 2 t48 s)) fun t49 s =>
 oh (gd (wA t33 true) s (mp (aBin Tryz.prog .eql 80 t41 t49) s)) fun t50 s =>
 oh (mp (aPick t33 t50 (.bool false)) s) fun t51 s =>
 drawOK C 71 (regOps Tryz.f71 7) [.silent,.silent,.silent,.silent,.silent,(kGd (wA t27 true) .silent),(kGd (wA t27 true) .silent),(kGd (wA t27 true) .silent),(kGd (wA t27 true) .silent),.silent,.silent,(kGd (wA t33 true) .silent),(kGd (wA t33 true) .silent),(kGd (wA t33 true) .silent),(kGd (wA t33 true) .silent),(kGd (wA t33 true) .silent),(kGd (wA t33 true) .silent),(kGd (wA t33 true) .silent),(kGd (wA t33 true) (kLoad false t40)),(kGd (wA t33 true) .silent),(kGd (wA t33 true) .silent),(kGd (wA t33 true) .silent),(kGd (wA t33 true) .silent),(kGd (wA t33 true) .silent),(kGd (wA t33 true) .silent),(kGd (wA t33 true) .silent),(kGd (wA t33 true) (kLoad false t48)),(kGd (wA t33 true) .silent),.silent] <|
 br t51
  (oh (some ((e 8).strip,s)) fun t52 s =>
 oh (some ((e 0).strip,s)) fun t53 s =>
 oh (some ((e 0).strip,s)) fun t54 s =>
 oh (mp (aLen Tryz.prog 74 t54) s) fun t55 s =>
 oh (mp (aBin Tryz.prog .sub 3 t55 (.int .i64 1)) s) fun t56 s =>
 oh (some ((e 7).strip,s)) fun t57 s =>
 oh (mp (aBin Tryz.prog .sub 3 t56 t57) s) fun t58 s =>
 oh (mp (aIndexAddr Tryz.prog 74 t53 t58) s) fun t59 s =>
 oh (mp (aAddr 1 t59) s) fun t60 s =>
 oh (aLoad false false 1 t60 s) fun t61 s =>
 oh (mp (aLen Tryz.prog 9 t61) s) fun t62 s =>
 oh (mp (aBin Tryz.prog .sub 3 t52 t62) s) fun t63 s =>
 oh (some (t63,s)) fun t8_3 s =>
 oh (some (t8_3.strip,s)) fun t64 s =>
 oh (mp (aAddr 1 (e 5)) s) fun t65 s =>
 oh (aLoad false false 1 t65 s) fun t66 s =>
 oh (mp (aBin Tryz.prog .lss 3 t64 t66) s) fun t67 s =>
 br t67
  (F71_J1 D n (upds e [(23,t23),(24,t24),(25,t25),(26,t26),(27,t27),(28,t28),(29,t29),(30,t30),(31,t31),(32,t32),(33,t33),(34,t34),(35,t35),(36,t36),(37,t37),(38,t38),(39,t39),(40,t40),(41,t41),(42,t42),(43,t43),(44,t44),(45,t45),(46,t46),(47,t47),(48,t48),(49,t49),(50,t50),(51,t51),(52,t52),(53,t53),(54,t54),(55,t55),(56,t56),(57,t57),(58,t58),(59,t59),(60,t60),(61,t61),(62,t62),(63,t63),(63,t63.strip),(8,t8_3),(64,t64),(65,t65),(66,t66),(67,t67)]) s)
  (oh (some ((e 7).strip,s)) fun t68 s =>
 oh (mp (aBin Tryz.prog .add 3 t68 (.int .i64 1)) s) fun t69 s =>
 oh (some (t69,s)) fun t7_2 s =>
 k0 (upds e [(23,t23),(24,t24),(25,t25),(26,t26),(27,t27),(28,t28),(29,t29),(30,t30),(31,t31),(32,t32),(33,t33),(34,t34),(35,t35),(36,t36),(37,t37),(38,t38),(39,t39),(40,t40),(41,t41),(42,t42),(43,t43),(44,t44),(45,t45),(46,t46),(47,t47),(48,t48),(49,t49),(50,t50),(51,t51),(52,t52),(53,t53),(54,t54),(55,t55),(56,t56),(57,t57),(58,t58),(59,t59),(60,t60),(61,t61),(62,t62),(63,t63),(63,t63.strip),(8,t8_3),(64,t64),(65,t65),(66,t66),(67,t67),(68,t68),(69,t69),(69,t69.strip),(7,t7_2)]) s))
  (F71_J1 D n (upds e [(23,t23),(24,t24),(25,t25),(26,t26),(27,t27),(28,t28),(29,t29),(30,t30),(31,t31),(32,t32),(33,t33),(34,t34),(35,t35),(36,t36),(37,t37),(38,t38),(39,t39),(40,t40),(41,t41),(42,t42),(43,t43),(44,t44),(45,t45),(46,t46),(47,t47),(48,t48),(49,t49),(50,t50),(51,t51)]) s)
noncomputable def F71_L0 (D:Den)(n:Nat)(k0:Env→Heap→Ans)(e:Env)(s:Heap):Ans :=
 oh (mp (aBin Tryz.prog .lss 3 (e 13) (e 12)) s) fun t14 s =>
 br t14
  (oh (mp (aIndexAddr Tryz.prog 74 (e 11) (e 13)) s) fun t15 s =>
 oh (aLoad false true 2 t15 s) fun t16 s =>
 oh (aAlloc Tryz.prog 80 s) fun t10 s =>
 oh (sto (aStore 2 s t10 t16)) fun _r s =>
 oh (some ((e 8).strip,s)) fun t17 s =>
 oh (mp (aAddr 1 t10) s) fun t18 s =>
 oh (aLoad false false 1 t18 s) fun t19 s =>
 oh (mp (aLen Tryz.prog 9 t19) s) fun t20 s =>
 oh (mp (aBin Tryz.prog .add 3 t17 t20) s) fun t21 s =>
 oh (some (t21,s)) fun t8_2 s =>
 oh (mp (aBin Tryz.prog .add 3 (e 13) (.int .i64 1)) s) fun t22 s =>
 oh (some (t22.strip,s)) fun t13_2 s =>
 k0 (upds e [(14,t14),(15,t15),(16,t16),(10,t10),(16,t16.strip),(17,t17),(18,t18),(19,t19),(20,t20),(21,t21),(21,t21.strip),(8,t8_2),(22,t22),(13,t13_2)]) s)
  (aLoop (F71_L2 D n) n (upds e [(14,t14)]) s)
noncomputable def F71 (D:Den)(n:Nat)(t0 t1 t2:AV)(s:Heap):Ans :=
 oh (aBox false 67 t2 s) fun t5 s =>
 oh (some ((.int .i64 0),s)) fun t6 s =>
 oh (some ((.int .i64 0),s)) fun t7 s =>
 oh (some ((.int .i64 0),s)) fun t8 s =>
 oh (some (t0.strip,s)) fun t11 s =>
 oh (mp (aLen Tryz.prog 74 t11) s) fun t12 s =>
 oh (some ((.int .i64 0),s)) fun t13 s =>
 aLoop (F71_L0 D n) n (upds (argEnv [t0,t1,t2]) [(5,t5),(6,t6),(7,t7),(8,t8),(11,t11),(12,t12),(13,t13)]) s
theorem F71_eq (n:Nat)(t0 t1 t2:AV)(s:Heap):den C (n+1) 71 [t0,t1,t2] s=F71 (den C n) n t0 t1 t2 s :=
 (den_body rfl Tryz.func71 _ _).trans (by kernel_rfl)
theorem d71_7 (x:Ans):drawOK C 71 (regOps Tryz.f71 7) [.silent,.silent,.silent,.silent,.silent,.silent,.silent,.silent,.silent,.silent,.silent,.silent,.silent,.silent,.silent,.silent,.silent,.silent,.silent,.silent,.silent,.silent,.silent,.silent,.silent,.silent,.silent,.silent,.silent] x=x:=drawOK_ok (by kernel_rfl)
theorem en71:enterable Tryz.prog 71=true:=by kernel_rfl
-- (*reparse.updater).reusePrefix
noncomputable def F72_L0 (D:Den)(n:Nat)(k0:Env→Heap→Ans)(e:Env)(s:Heap):Ans :=
 oh (mp (aBin Tryz.prog .lss 3 (e 11) (e 10)) s) fun t12 s =>
 br t12
  (oh (mp (aIndexAddr Tryz.prog 140 (e 9) (e 11)) s) fun t13 s =>
 oh (aLoad false true 6 t13 s) fun t14 s =>
 oh (aAlloc Tryz.prog 207 s) fun t5 s =>
 oh (sto (aStore 6 s t5 t14)) fun _r s =>
 oh (mp (aAddr 5 t5) s) fun t15 s =>
 oh (aLoad false false 1 t15 s) fun t16 s =>
 oh (some ((e 1).strip,s)) fun t17 s =>
 oh (mp (aBin Tryz.prog .geq 3 t16 t17) s) fun t18 s =>
 oh (some (t18.strip,s)) fun t19 s =>
 oh (gd (wA t19 false) s (mp (aAddr 0 t5) s)) fun t20 s =>
 oh (gd (wA t19 false) s (aLoad false true 3 t20 s)) fun t21 s =>
 oh (gd (wA t19 false) s (aCall Tryz.prog D 132 [t21.strip] s)) fun t22 s =>
 oh (mp (aPick t19 (.bool true) t22) s) fun t23 s =>
 br t23
  (some (.tup [],s))
  (oh (some ((e 0).strip,s)) fun t24 s1 =>
 oh (mp (aNilCheck t24) s1) fun t25 s2 =>
 oh (mp (aAddr 6 t25) s2) fun t26 s3 =>
 oh (aLoad false false 1 t26 s3) fun t27 s4 =>
 oh (mp (aAddr 0 t5) s4) fun t28 s5 =>
 oh (aLoad false true 3 t28 s5) fun t29 s6 =>
 oh (mp (aLen Tryz.prog 50 t27) s6) fun t30 s7 =>
 oh (mp (aBuildSlice Tryz.prog 50 1 [(0,(.agg [(.int .i64 0),(.str []),.nils]))]) s7) fun t31 s8 =>
 oh (aRsAppend Tryz.prog 50 50 t27 t31 s8) fun t32 s9 =>
 oh (mp (aIndexAddr Tryz.prog 50 t32 t30) s9) fun t33 s10 =>
 oh (sto (aStore 3 s10 t33 t29)) fun _r s11 =>
 oh (mp (aNilCheck t24) s11) fun t34 s12 =>
 oh (mp (aAddr 6 t34) s12) fun t35 s13 =>
 oh (sto (aStore 1 s13 t35 t32.strip)) fun _r s14 =>
 drawOK C 72 (regOps Tryz.f72 4) [.silent,.silent,.silent,(kLoad false t26),.silent,(kLoad false t28),.silent,.silent,(dyn (appK t27) s8 s9),.silent,(kStore t33),.silent,.silent,(kStore t35)] <|
 oh (some ((e 0).strip,s14)) fun t36 s =>
 oh (mp (aAddr 4 t5) s) fun t37 s =>
 oh (aLoad false false 1 t37 s) fun t38 s =>
 oh (mp (aNilCheck t36) s) fun t39 s =>
 oh (mp (aAddr 2 t39) s) fun t40 s =>
 oh (sto (aStore 1 s t40 t38)) fun _r s =>
 oh (some ((e 0).strip,s)) fun t41 s =>
 oh (mp (aNilCheck t41) s) fun t42 s =>
 oh (mp (aAddr 5 t42) s) fun t43 s =>
 oh (aLoad false false 1 t43 s) fun t44 s =>
 oh (mp (aBin Tryz.prog .add 3 t44 (.int .i64 1)) s) fun t45 s =>
 oh (mp (aNilCheck t41) s) fun t46 s =>
 oh (mp (aAddr 5 t46) s) fun t47 s =>
 oh (sto (aStore 1 s t47 t45)) fun _r s =>
 oh (mp (aBin Tryz.prog .add 3 (e 11) (.int .i64 1)) s) fun t48 s =>
 oh (some (t48.strip,s)) fun t11_2 s =>
 k0 (upds e [(12,t12),(13,t13),(14,t14),(5,t5),(14,t14.strip),(15,t15),(16,t16),(17,t17),(18,t18),(19,t19),(20,t20),(21,t21),(22,t22),(23,t23),(24,t24),(25,t25),(26,t26),(27,t27),(28,t28),(29,t29),(30,t30),(31,t31),(27,t27.strip),(32,t32),(33,t33),(29,t29.strip),(34,t34),(35,t35),(36,t36),(37,t37),(38,t38),(39,t39),(40,t40),(38,t38.strip),(41,t41),(42,t42),(43,t43),(44,t44),(45,t45),(46,t46),(47,t47),(45,t45.strip),(48,t48),(11,t11_2)]) s))
  (some (.tup [],s))
noncomputable def F72 (D:Den)(n:Nat)(t0 t1:AV)(s:Heap):Ans :=
 oh (some (t0.strip,s)) fun t6 s =>
 oh (mp (aNilCheck t6) s) fun t7 s =>
 oh (mp (aAddr 0 t7) s) fun t8 s =>
 oh (aLoad false false 1 t8 s) fun t9 s =>
 oh (mp (aLen Tryz.prog 140 t9) s) fun t10 s =>
 oh (some ((.int .i64 0),s)) fun t11 s =>
 aLoop (F72_L0 D n) n (upds (argEnv [t0,t1]) [(6,t6),(7,t7),(8,t8),(9,t9),(10,t10),(11,t11)]) s
theorem F72_eq (n:Nat)(t0 t1:AV)(s:Heap):den C (n+1) 72 [t0,t1] s=F72 (den C n) n t0 t1 s :=
 (den_body rfl Tryz.func72 _ _).trans (by kernel_rfl)
theorem d72_4 {g0 g1:Nat}{q0:Option Nat}(a b:Nat)(h:a≠b)(x:Ans):drawOK C 72 (regOps Tryz.f72 4) [.silent,.silent,.silent,.get g0,.silent,.get g1,.silent,.silent,.app q0,.silent,.put a,.silent,.silent,.put b] x=x:=drawOK_both (ks0:=[.silent,.silent,.silent,.reader,.silent,.reader,.silent,.silent,.writer,.silent,.put 0,.silent,.silent,.put 1]) h (by kernel_rfl) rfl
theorem en72:enterable Tryz.prog 72=true:=by kernel_rfl
-- reparse.skip
noncomputable def F73_L0 (D:Den)(n:Nat)(k0:Env→Heap→Ans)(e:Env)(s:Heap):Ans :=
 oh (some ((e 1).strip,s)) fun t5 s =>
 oh (mp (aBin Tryz.prog .gtr 3 t5 (.int .i64 0)) s) fun t6 s =>
 br t6
  (oh (some ((e 1).strip,s)) fun t7 s =>
 oh (some ((e 0).strip,s)) fun t8 s =>
 oh (mp (aIndexAddr Tryz.prog 74 t8 (.int .i64 0)) s) fun t9 s =>
 oh (mp (aAddr 1 t9) s) fun t10 s =>
 oh (aLoad false false 1 t10 s) fun t11 s =>
 oh (mp (aLen Tryz.prog 9 t11) s) fun t12 s =>
 oh (mp (aBin Tryz.prog .sub 3 t7 t12) s) fun t13 s =>
 oh (some (t13,s)) fun t1_2 s =>
 oh (some ((e 0).strip,s)) fun t14 s =>
 oh (mp (aSl Tryz.prog 74 t14 (some (.int .i64 1)) none none) s) fun t15 s =>
 oh (some (t15,s)) fun t0_2 s =>
 k0 (upds e [(5,t5),(6,t6),(7,t7),(8,t8),(9,t9),(10,t10),(11,t11),(12,t12),(13,t13),(13,t13.strip),(1,t1_2),(14,t14),(15,t15),(15,t15.strip),(0,t0_2)]) s)
  (oh (some ((e 0).strip,s)) fun t16 s =>
 oh (some (t16,s)) fun t4_2 s =>
 some (t4_2,s))
noncomputable def F73 (D:Den)(n:Nat)(t0 t1:AV)(s:Heap):Ans :=
 oh (some (.nils,s)) fun t4 s =>
 aLoop (F73_L0 D n) n (upds (argEnv [t0,t1]) [(4,t4)]) s
theorem F73_eq (n:Nat)(t0 t1:AV)(s:Heap):den C (n+1) 73 [t0,t1] s=F73 (den C n) n t0 t1 s :=
 (den_body rfl Tryz.func73 _ _).trans (by kernel_rfl)
theorem en73:enterable Tryz.prog 73=true:=by kernel_rfl
-- (*reparse.updater).reuseRest 1
noncomputable def F134 (D:Den)(n:Nat)(t0 t1:AV)(s:Heap):Ans :=
 oh (aBox false 207 t0 s) fun t2 s =>
 oh (some ((.bool false),s)) fun t3 s =>
 oh (mp (aAddr 3 t2) s) fun t4 s =>
 oh (aLoad false false 1 t4 s) fun t5 s =>
 oh (aLoad false false 1 t1 s) fun t6 s =>
 oh (mp (aNilCheck t6) s) fun t7 s =>
 oh (mp (aAddr 2 t7) s) fun t8 s =>
 oh (aLoad false false 1 t8 s) fun t9 s =>
 oh (aLoad false false 1 t1 s) fun t10 s =>
 oh (mp (aNilCheck t10) s) fun t11 s =>
 oh (mp (aAddr 3 t11) s) fun t12 s =>
 oh (aLoad false false 1 t12 s) fun t13 s =>
 oh (mp (aBin Tryz.prog .sub 3 t9 t13) s) fun t14 s =>
 oh (mp (aBin Tryz.prog .eql 3 t5 t14) s) fun t15 s =>
 oh (some (t15,s)) fun t3_2 s =>
 drawOK C 134 (regOps Tryz.f134 1) [.silent,(kLoad false t4),(kLoad false t1),.silent,.silent,(kLoad false t8),(kLoad false t1),.silent,.silent,(kLoad false t12),.silent,.silent,.silent] <|
 some (t3_2,s)
theorem F134_eq (n:Nat)(t0 t1:AV)(s:Heap):den C (n+1) 134 [t0,t1] s=F134 (den C n) n t0 t1 s :=
 (den_body rfl Tryz.func134 _ _).trans (by kernel_rfl)
theorem d134_1 {g0 g1:Nat}(x:Ans):drawOK C 134 (regOps Tryz.f134 1) [.silent,.silent,.silent,.silent,.silent,.get g0,.silent,.silent,.silent,.get g1,.silent,.silent,.silent] x=x:=drawOK_base (by kernel_rfl)
theorem en134:enterable Tryz.prog 134=true:=by kernel_rfl
-- slices.IndexFunc   reparse.child,reparse.child
noncomputable def F133_L0 (D:Den)(n:Nat)(k0:Env→Heap→Ans)(e:Env)(s:Heap):Ans :=
 oh (mp (aBin Tryz.prog .lss 3 (e 8) (e 7)) s) fun t9 s =>
 br t9
  (oh (some ((e 8).strip,s)) fun t10 s =>
 oh (some (t10,s)) fun t5 s =>
 oh (some ((e 1).strip,s)) fun t11 s =>
 oh (some ((e 0).strip,s)) fun t12 s =>
 oh (some (t5.strip,s)) fun t13 s =>
 oh (mp (aIndexAddr Tryz.prog 140 t12 t13) s) fun t14 s =>
 oh (aLoad false true 6 t14 s) fun t15 s =>
 oh (aCallV Tryz.prog D t11 [t15] s) fun t16 s =>
 br t16
  (oh (some (t5.strip,s)) fun t17 s =>
 oh (some (t17,s)) fun t4_2 s =>
 some (t4_2,s))
  (oh (mp (aBin Tryz.prog .add 3 (e 8) (.int .i64 1)) s) fun t18 s =>
 oh (some (t18.strip,s)) fun t8_2 s =>
 k0 (upds e [(9,t9),(10,t10),(10,t10.strip),(5,t5),(11,t11),(12,t12),(13,t13),(14,t14),(15,t15),(16,t16),(18,t18),(8,t8_2)]) s))
  (oh (some ((.int .i64 (-1)),s)) fun t4_3 s =>
 some (t4_3,s))
noncomputable def F133 (D:Den)(n:Nat)(t0 t1:AV)(s:Heap):Ans :=
 oh (some ((.int .i64 0),s)) fun t4 s =>
 oh (some (t0.strip,s)) fun t6 s =>
 oh (mp (aLen Tryz.prog 140 t6) s) fun t7 s =>
 oh (some ((.int .i64 0),s)) fun t8 s =>
 aLoop (F133_L0 D n) n (upds (argEnv [t0,t1]) [(4,t4),(6,t6),(7,t7),(8,t8)]) s
theorem F133_eq (n:Nat)(t0 t1:AV)(s:Heap):den C (n+1) 133 [t0,t1] s=F133 (den C n) n t0 t1 s :=
 (den_body rfl Tryz.func133 _ _).trans (by kernel_rfl)
theorem en133:enterable Tryz.prog 133=true:=by kernel_rfl
-- (*reparse.updater).reuseRest
noncomputable def F74_J2 (D:Den)(n:Nat)(k0:Env→Heap→Ans)(e:Env)(s:Heap):Ans :=
 oh (mp (aBin Tryz.prog .add 3 (e 33) (.int .i64 1)) s) fun t73 s =>
 oh (some (t73.strip,s)) fun t33_2 s =>
 k0 (upds e [(73,t73),(33,t33_2)]) s
noncomputable def F74_J1 (D:Den)(n:Nat)(k0:Env→Heap→Ans)(e:Env)(s:Heap):Ans :=
 oh (mp (aAddr 0 (e 5)) s) fun t62 s =>
 oh (aLoad false true 3 t62 s) fun t63 s =>
 oh (aCall Tryz.prog D 132 [t63.strip] s) fun t64 s =>
 oh (mp (aUn .not t64) s) fun t65 s =>
 br t65
  (oh (aLoad false false 1 (e 1) s) fun t66 s =>
 oh (mp (aNilCheck t66) s) fun t67 s =>
 oh (mp (aAddr 5 t67) s) fun t68 s =>
 oh (aLoad false false 1 t68 s) fun t69 s =>
 oh (mp (aBin Tryz.prog .add 3 t69 (.int .i64 1)) s) fun t70 s =>
 oh (mp (aNilCheck t66) s) fun t71 s =>
 oh (mp (aAddr 5 t71) s) fun t72 s =>
 oh (sto (aStore 1 s t72 t70)) fun _r s =>
 F74_J2 D n k0 (upds e [(62,t62),(63,t63),(64,t64),(65,t65),(66,t66),(67,t67),(68,t68),(69,t69),(70,t70),(71,t71),(72,t72),(70,t70.strip)]) s)
  (F74_J2 D n k0 (upds e [(62,t62),(63,t63),(64,t64),(65,t65)]) s)
noncomputable def F74_L0 (D:Den)(n:Nat)(k0:Env→Heap→Ans)(e:Env)(s:Heap):Ans :=
 oh (mp (aBin Tryz.prog .lss 3 (e 33) (e 32)) s) fun t34 s =>
 br t34
  (oh (mp (aIndexAddr Tryz.prog 140 (e 31) (e 33)) s) fun t35 s =>
 oh (aLoad false true 6 t35 s) fun t36 s =>
 oh (aAlloc Tryz.prog 207 s) fun t5 s =>
 oh (sto (aStore 6 s t5 t36)) fun _r s =>
 twoA (fun k =>
  oh (aAlloc Tryz.prog 4 s) fun t37 s =>
  oh (sto (aStore 1 s t37 (.bool true))) fun _r s =>
  oh (sto (aStore 1 s t37 (.bool false))) fun _r s =>
  oh (aLoad false false 1 t37 s) fun t38 s =>
  k (upds e [(34,t34),(35,t35),(36,t36),(5,t5),(36,t36.strip),(37,t37),(38,t38)]) s)
  (fun k =>
  oh (aAlloc Tryz.prog 4 s) fun t37_2 s =>
  oh (sto (aStore 1 s t37_2 (.bool false))) fun _r s =>
  oh (sto (aStore 1 s t37_2 (.bool true))) fun _r s =>
  oh (aLoad false false 1 t37_2 s) fun t38_2 s =>
  k (upds e [(34,t34),(35,t35),(36,t36),(5,t5),(36,t36.strip),(37,t37_2),(38,t38_2)]) s)
  fun e s2 =>
 br (e 38)
  (oh (aLoad false false 1 (e 1) (tidy s2 (List.length s))) fun t39 s1 =>
 oh (mp (aNilCheck t39) s1) fun t40 s2 =>
 oh (mp (aAddr 6 t40) s2) fun t41 s3 =>
 oh (aLoad false false 1 t41 s3) fun t42 s4 =>
 oh (mp (aAddr 0 (e 5)) s4) fun t43 s5 =>
 oh (aLoad false true 3 t43 s5) fun t44 s6 =>
 oh (mp (aLen Tryz.prog 50 t42) s6) fun t45 s7 =>
 oh (mp (aBuildSlice Tryz.prog 50 1 [(0,(.agg [(.int .i64 0),(.str []),.nils]))]) s7) fun t46 s8 =>
 oh (aRsAppend Tryz.prog 50 50 t42 t46 s8) fun t47 s9 =>
 oh (mp (aNilCheck t39) s9) fun t48 s10 =>
 oh (mp (aAddr 6 t48) s10) fun t49 s11 =>
 oh (sto (aStore 1 s11 t49 t47.strip)) fun _r s12 =>
 drawOK C 74 (regOps Tryz.f74 8) [(kLoad false (e 1)),.silent,.silent,(kLoad false t41),.silent,(kLoad false t43),.silent,.silent,(dyn (appK t42) s8 s9),.silent,.silent,(kStore t49)] <|
 oh (mp (aIndexAddr Tryz.prog 50 t47 t45) s12) fun t50 s =>
 oh (sto (aStore 3 s t50 t44)) fun _r s =>
 F74_J1 D n k0 (upds e [(39,t39),(40,t40),(41,t41),(42,t42),(43,t43),(44,t44),(45,t45),(46,t46),(42,t42.strip),(47,t47),(48,t48),(49,t49),(50,t50),(44,t44.strip)]) s)
  (oh (aLoad false false 1 (e 1) (tidy s2 (List.length s))) fun t51 s13 =>
 oh (aLoad false false 1 (e 1) s13) fun t52 s14 =>
 oh (mp (aNilCheck t52) s14) fun t53 s15 =>
 oh (mp (aAddr 6 t53) s15) fun t54 s16 =>
 oh (aLoad false false 1 t54 s16) fun t55 s17 =>
 oh (mp (aAddr 0 (e 5)) s17) fun t56 s18 =>
 oh (aLoad false true 3 t56 s18) fun t57 s19 =>
 oh (mp (aBuildSlice Tryz.prog 50 1 [(0,t57)]) s19) fun t58 s20 =>
 oh (aRsAppend Tryz.prog 50 50 t55 t58 s20) fun t59 s21 =>
 oh (mp (aNilCheck t51) s21) fun t60 s22 =>
 oh (mp (aAddr 6 t60) s22) fun t61 s23 =>
 oh (sto (aStore 1 s23 t61 t59.strip)) fun _r s24 =>
 drawOK C 74 (regOps Tryz.f74 10) [(kLoad false (e 1)),(kLoad false (e 1)),.silent,.silent,(kLoad false t54),.silent,(kLoad false t56),.silent,(dyn (appK t55) s20 s21),.silent,.silent,(kStore t61)] <|
 F74_J1 D n k0 (upds e [(51,t51),(52,t52),(53,t53),(54,t54),(55,t55),(56,t56),(57,t57),(58,t58),(55,t55.strip),(59,t59),(60,t60),(61,t61)]) s24))
  (oh (some ((.bool true),s)) fun t2_3 s =>
 some (t2_3,s))
noncomputable def F74 (D:Den)(n:Nat)(t0:AV)(s:Heap):Ans :=
 oh (aBox false 139 t0 s) fun t1 s =>
 oh (some ((.bool false),s)) fun t2 s =>
 oh (aLoad false false 1 t1 s) fun t6 s =>
 oh (mp (aNilCheck t6) s) fun t7 s =>
 oh (mp (aAddr 0 t7) s) fun t8 s =>
 oh (aLoad false false 1 t8 s) fun t9 s =>
 oh (some ((.fn 134 [] [t1]),s)) fun t10 s =>
 oh (aCall Tryz.prog D 133 [t9.strip,t10.strip] s) fun t11 s =>
 oh (some (t11,s)) fun t3 s =>
 oh (some (t3.strip,s)) fun t12 s =>
 oh (mp (aBin Tryz.prog .lss 3 t12 (.int .i64 0)) s) fun t13 s =>
 oh (some (t13.strip,s)) fun t14 s =>
 oh (gd (wA t14 false) s (aLoad false false 1 t1 s)) fun t15 s =>
 oh (gd (wA t14 false) s (mp (aNilCheck t15) s)) fun t16 s =>
 oh (gd (wA t14 false) s (mp (aAddr 1 t16) s)) fun t17 s =>
 oh (gd (wA t14 false) s (aLoad false false 1 t17 s)) fun t18 s =>
 oh (gd (wA t14 false) s (mp (aLen Tryz.prog 74 t18) s)) fun t19 s =>
 oh (gd (wA t14 false) s (aLoad false false 1 t1 s)) fun t20 s =>
 oh (gd (wA t14 false) s (mp (aNilCheck t20) s)) fun t21 s =>
 oh (gd (wA t14 false) s (mp (aAddr 4 t21) s)) fun t22 s =>
 oh (gd (wA t14 false) s (aLoad false false 1 t22 s)) fun t23 s =>
 oh (gd (wA t14 false) s (mp (aBin Tryz.prog .gtr 3 t19 t23) s)) fun t24 s =>
 oh (mp (aPick t14 (.bool true) t24) s) fun t25 s =>
 drawOK C 74 (regOps Tryz.f74 2) [.silent,.silent,.silent,(kGd (wA t14 false) (kLoad false t1)),(kGd (wA t14 false) .silent),(kGd (wA t14 false) .silent),(kGd (wA t14 false) (kLoad false t17)),(kGd (wA t14 false) .silent),(kGd (wA t14 false) (kLoad false t1)),(kGd (wA t14 false) .silent),(kGd (wA t14 false) .silent),(kGd (wA t14 false) (kLoad false t22)),(kGd (wA t14 false) .silent),.silent] <|
 br t25
  (oh (some ((.bool false),s)) fun t2_2 s =>
 some (t2_2,s))
  (oh (aLoad false false 1 t1 s) fun t26 s =>
 oh (mp (aNilCheck t26) s) fun t27 s =>
 oh (mp (aAddr 0 t27) s) fun t28 s =>
 oh (aLoad false false 1 t28 s) fun t29 s =>
 oh (some (t3.strip,s)) fun t30 s =>
 oh (mp (aSl Tryz.prog 140 t29 (some t30) none none) s) fun t31 s =>
 oh (mp (aLen Tryz.prog 140 t31) s) fun t32 s =>
 oh (some ((.int .i64 0),s)) fun t33 s =>
 aLoop (F74_L0 D n) n (upds (argEnv [t0]) [(1,t1),(2,t2),(6,t6),(7,t7),(8,t8),(9,t9),(10,t10),(11,t11),(11,t11.strip),(3,t3),(12,t12),(13,t13),(14,t14),(15,t15),(16,t16),(17,t17),(18,t18),(19,t19),(20,t20),(21,t21),(22,t22),(23,t23),(24,t24),(25,t25),(26,t26),(27,t27),(28,t28),(29,t29),(30,t30),(31,t31),(32,t32),(33,t33)]) s)
theorem F74_eq (n:Nat)(t0:AV)(s:Heap):den C (n+1) 74 [t0] s=F74 (den C n) n t0 s :=
 (den_body rfl Tryz.func74 _ _).trans (by kernel_rfl)
theorem d74_2 {g0 g1:Nat}(x:Ans):drawOK C 74 (regOps Tryz.f74 2) [.silent,.silent,.silent,.silent,.silent,.silent,.get g0,.silent,.silent,.silent,.silent,.get g1,.silent,.silent] x=x:=drawOK_base (by kernel_rfl)
theorem d74_8 {g0 g1:Nat}{q0:Option Nat}(a:Nat)(x:Ans):drawOK C 74 (regOps Tryz.f74 8) [.silent,.silent,.silent,.get g0,.silent,.get g1,.silent,.silent,.app q0,.silent,.silent,.put a] x=x:=drawOK_both (a:=a) (b:=a+1) (ks0:=[.silent,.silent,.silent,.reader,.silent,.reader,.silent,.silent,.writer,.silent,.silent,.put 0]) (by omega) (by kernel_rfl) rfl
theorem d74_10 {g0 g1:Nat}{q0:Option Nat}(a:Nat)(x:Ans):drawOK C 74 (regOps Tryz.f74 10) [.silent,.silent,.silent,.silent,.get g0,.silent,.get g1,.silent,.app q0,.silent,.silent,.put a] x=x:=drawOK_both (a:=a) (b:=a+1) (ks0:=[.silent,.silent,.silent,.silent,.reader,.silent,.reader,.silent,.writer,.silent,.silent,.put 0]) (by omega) (by kernel_rfl) rfl
theorem en74:enterable Tryz.prog 74=true:=by kernel_rfl
-- parser.ParseItem
noncomputable def F135 (D:Den)(n:Nat)(t0:AV)(s:Heap):Ans :=
 oh (aAlloc Tryz.prog 52 s) fun t2 s =>
 oh (some ((.int .i64 0),s)) fun t3 s =>
 oh (some (t0.strip,s)) fun t5 s =>
 oh (mp (aBuild Tryz.prog 52 [(0,(.int .i64 1))]) s) fun t6 s =>
 oh (aRsBuild Tryz.prog 50 1 [(0,t6)] s) fun t7 s =>
 oh (mp (aBuild Tryz.prog 128 [(0,t5),(2,t7)]) s) fun t8 s =>
 oh (aBox true 128 t8 s) fun t9 s =>
 oh (some (t9,s)) fun t4 s =>
 oh (some (t4.strip,s)) fun t10 s =>
 oh (aCall Tryz.prog D 59 [t10.strip] s) fun t11 s =>
 br t11
  (oh (mp (aBuild Tryz.prog 52 []) s) fun t12 s =>
 oh (sto (aStore 3 s t2 t12)) fun _r s =>
 oh (some ((.int .i64 0),s)) fun t3_2 s =>
 fin1 ((resL [(aLoad false true 3 t2 s).map (·.1),some t3_2]).map .tup) s)
  (oh (some (t4.strip,s)) fun t13 s =>
 oh (aCall Tryz.prog D 60 [t13.strip] s) fun t14 s =>
 oh (some (t4.strip,s)) fun t15 s1 =>
 oh (mp (aNilCheck t15) s1) fun t16 s2 =>
 oh (mp (aAddr 2 t16) s2) fun t17 s3 =>
 oh (aLoad false false 1 t17 s3) fun t18 s4 =>
 oh (mp (aIndexAddr Tryz.prog 50 t18 (.int .i64 0)) s4) fun t19 s5 =>
 oh (mp (aAddr 2 t19) s5) fun t20 s6 =>
 oh (aLoad false false 1 t20 s6) fun t21 s7 =>
 oh (mp (aIndexAddr Tryz.prog 50 t21 (.int .i64 0)) s7) fun t22 s8 =>
 oh (pubR (aLoad false true 3 t22 s8)) fun t23 s9 =>
 oh (some (t4.strip,s9)) fun t24 s10 =>
 oh (mp (aNilCheck t24) s10) fun t25 s11 =>
 oh (mp (aAddr 1 t25) s11) fun t26 s12 =>
 oh (aLoad false false 1 t26 s12) fun t27 s13 =>
 oh (sto (aStore 3 s13 t2 t23.strip)) fun _r s14 =>
 oh (some (t27,s14)) fun t3_3 s15 =>
 drawOK C 135 (regOps Tryz.f135 5) [.silent,.silent,.silent,(kLoad false t17),.silent,.silent,(kLoad false t20),.silent,(dyn .writer s8 s9),.silent,.silent,.silent,(kLoad false t26),(kStore t2),.silent] <|
 fin1 ((resL [(aLoad false true 3 t2 s15).map (·.1),some t3_3]).map .tup) s15)
theorem F135_eq (n:Nat)(t0:AV)(s:Heap):den C (n+1) 135 [t0] s=F135 (den C n) n t0 s :=
 (den_body rfl Tryz.func135 _ _).trans (by kernel_rfl)
theorem d135_5 {g0 g1 g2:Nat}{l0:List Nat}(a:Nat)(h:∀g∈[g0,g1,g2],∀l∈[l0],(l:List Nat).contains g=true)(hp:∀g∈[g0,g1,g2],∀p∈[a],g≠p)(x:Ans):drawOK C 135 (regOps Tryz.f135 5) [.silent,.silent,.silent,.get g0,.silent,.silent,.get g1,.silent,.call l0,.silent,.silent,.silent,.get g2,.put a,.silent] x=x:=drawOK_callp (gs:=[g0,g1,g2]) (ls:=[l0]) (ps:=[a]) (by kernel_rfl) (by simp) (by simp) (by simp) h hp
theorem en135:enterable Tryz.prog 135=true:=by kernel_rfl
-- (*reparse.updater).parseItem
noncomputable def F75_L0 (D:Den)(n:Nat)(k0:Env→Heap→Ans)(e:Env)(s:Heap):Ans :=
 oh (mp (aBin Tryz.prog .lss 3 (e 23) (e 22)) s) fun t24 s =>
 br t24
  (oh (mp (aIndexAddr Tryz.prog 74 (e 21) (e 23)) s) fun t25 s =>
 oh (aLoad false true 2 t25 s) fun t26 s =>
 oh (aAlloc Tryz.prog 80 s) fun t5 s =>
 oh (sto (aStore 2 s t5 t26)) fun _r s =>
 oh (some ((e 0).strip,s)) fun t27 s1 =>
 oh (mp (aNilCheck t27) s1) fun t28 s2 =>
 oh (mp (aAddr 6 t28) s2) fun t29 s3 =>
 oh (aLoad false false 1 t29 s3) fun t30 s4 =>
 oh (mp (aAddr 0 t5) s4) fun t31 s5 =>
 oh (aLoad false false 1 t31 s5) fun t32 s6 =>
 oh (mp (aAddr 1 t5) s6) fun t33 s7 =>
 oh (aLoad false false 1 t33 s7) fun t34 s8 =>
 oh (mp (aBuild Tryz.prog 52 [(0,t32),(1,t34)]) s8) fun t35 s9 =>
 oh (mp (aLen Tryz.prog 50 t30) s9) fun t36 s10 =>
 oh (mp (aBuildSlice Tryz.prog 50 1 [(0,(.agg [(.int .i64 0),(.str []),.nils]))]) s10) fun t37 s11 =>
 oh (aRsAppend Tryz.prog 50 50 t30 t37 s11) fun t38 s12 =>
 oh (mp (aIndexAddr Tryz.prog 50 t38 t36) s12) fun t39 s13 =>
 oh (sto (aStore 3 s13 t39 t35)) fun _r s14 =>
 oh (mp (aNilCheck t27) s14) fun t40 s15 =>
 oh (mp (aAddr 6 t40) s15) fun t41 s16 =>
 oh (sto (aStore 1 s16 t41 t38.strip)) fun _r s17 =>
 drawOK C 75 (regOps Tryz.f75 5) [.silent,.silent,.silent,(kLoad false t29),.silent,(kLoad false t31),.silent,(kLoad false t33),.silent,.silent,.silent,(dyn (appK t30) s11 s12),.silent,(kStore t39),.silent,.silent,(kStore t41)] <|
 oh (mp (aBin Tryz.prog .add 3 (e 23) (.int .i64 1)) s17) fun t42 s =>
 oh (some (t42.strip,s)) fun t23_2 s =>
 k0 (upds e [(24,t24),(25,t25),(26,t26),(5,t5),(26,t26.strip),(27,t27),(28,t28),(29,t29),(30,t30),(31,t31),(32,t32),(33,t33),(34,t34),(35,t35),(36,t36),(37,t37),(30,t30.strip),(38,t38),(39,t39),(35,t35.strip),(40,t40),(41,t41),(42,t42),(23,t23_2)]) s)
  (oh (some ((e 0).strip,s)) fun t43 s =>
 oh (mp (aNilCheck t43) s) fun t44 s =>
 oh (mp (aAddr 1 t44) s) fun t45 s =>
 oh (sto (aStore 1 s t45 .nils)) fun _r s =>
 some (.tup [],s))
noncomputable def F75_L1 (D:Den)(n:Nat)(k0:Env→Heap→Ans)(e:Env)(s:Heap):Ans :=
 oh (mp (aBin Tryz.prog .lss 3 (e 53) (e 52)) s) fun t54 s =>
 br t54
  (oh (mp (aIndexAddr Tryz.prog 74 (e 51) (e 53)) s) fun t55 s =>
 oh (aLoad false true 2 t55 s) fun t56 s =>
 oh (aAlloc Tryz.prog 80 s) fun t7 s =>
 oh (sto (aStore 2 s t7 t56)) fun _r s =>
 oh (some ((e 0).strip,s)) fun t57 s =>
 oh (mp (aNilCheck t57) s) fun t58 s =>
 oh (mp (aAddr 2 t58) s) fun t59 s =>
 oh (aLoad false false 1 t59 s) fun t60 s =>
 oh (mp (aAddr 1 t7) s) fun t61 s =>
 oh (aLoad false false 1 t61 s) fun t62 s =>
 oh (mp (aLen Tryz.prog 9 t62) s) fun t63 s =>
 oh (mp (aBin Tryz.prog .add 3 t60 t63) s) fun t64 s =>
 oh (mp (aNilCheck t57) s) fun t65 s =>
 oh (mp (aAddr 2 t65) s) fun t66 s =>
 oh (sto (aStore 1 s t66 t64)) fun _r s =>
 drawOK C 75 (regOps Tryz.f75 11) [.silent,.silent,.silent,(kLoad false t59),.silent,(kLoad false t61),.silent,.silent,.silent,.silent,(kStore t66)] <|
 oh (mp (aBin Tryz.prog .add 3 (e 53) (.int .i64 1)) s) fun t67 s =>
 oh (some (t67.strip,s)) fun t53_2 s =>
 k0 (upds e [(54,t54),(55,t55),(56,t56),(7,t7),(56,t56.strip),(57,t57),(58,t58),(59,t59),(60,t60),(61,t61),(62,t62),(63,t63),(64,t64),(65,t65),(66,t66),(64,t64.strip),(67,t67),(53,t53_2)]) s)
  (oh (some ((e 0).strip,s)) fun t68 s =>
 oh (some ((e 0).strip,s)) fun t69 s =>
 oh (mp (aNilCheck t69) s) fun t70 s =>
 oh (mp (aAddr 1 t70) s) fun t71 s =>
 oh (aLoad false false 1 t71 s) fun t72 s =>
 oh (some ((e 3).strip,s)) fun t73 s =>
 oh (mp (aSl Tryz.prog 74 t72 (some t73) none none) s) fun t74 s =>
 oh (mp (aNilCheck t68) s) fun t75 s =>
 oh (mp (aAddr 1 t75) s) fun t76 s =>
 oh (sto (aStore 1 s t76 t74)) fun _r s =>
 oh (some ((e 0).strip,s)) fun t77 s18 =>
 oh (mp (aNilCheck t77) s18) fun t78 s19 =>
 oh (mp (aAddr 6 t78) s19) fun t79 s20 =>
 oh (aLoad false false 1 t79 s20) fun t80 s21 =>
 oh (aLoad false true 3 (e 2) s21) fun t81 s22 =>
 oh (mp (aLen Tryz.prog 50 t80) s22) fun t82 s23 =>
 oh (mp (aBuildSlice Tryz.prog 50 1 [(0,(.agg [(.int .i64 0),(.str []),.nils]))]) s23) fun t83 s24 =>
 oh (aRsAppend Tryz.prog 50 50 t80 t83 s24) fun t84 s25 =>
 oh (mp (aIndexAddr Tryz.prog 50 t84 t82) s25) fun t85 s26 =>
 oh (sto (aStore 3 s26 t85 t81)) fun _r s27 =>
 oh (mp (aNilCheck t77) s27) fun t86 s28 =>
 oh (mp (aAddr 6 t86) s28) fun t87 s29 =>
 oh (sto (aStore 1 s29 t87 t84.strip)) fun _r s30 =>
 drawOK C 75 (regOps Tryz.f75 14) [.silent,.silent,.silent,(kLoad false t79),(kLoad false (e 2)),.silent,.silent,(dyn (appK t80) s24 s25),.silent,(kStore t85),.silent,.silent,(kStore t87)] <|
 some (.tup [],s30))
noncomputable def F75 (D:Den)(n:Nat)(t0:AV)(s:Heap):Ans :=
 oh (some (t0.strip,s)) fun t9 s =>
 oh (mp (aNilCheck t9) s) fun t10 s =>
 oh (mp (aAddr 1 t10) s) fun t11 s =>
 oh (aLoad false false 1 t11 s) fun t12 s =>
 oh (aCall Tryz.prog D 135 [t12.strip] s) fun t13 s =>
 oh (some (t13.strip,s)) fun t8 s =>
 oh (mp (aExtract 0 t8) s) fun t14 s =>
 oh (mp (aExtract 1 t8) s) fun t15 s =>
 oh (aAlloc Tryz.prog 52 s) fun t2 s =>
 oh (sto (aStore 3 s t2 t14)) fun _r s =>
 oh (some (t15,s)) fun t3 s =>
 oh (some (t3.strip,s)) fun t16 s =>
 oh (mp (aBin Tryz.prog .eql 3 t16 (.int .i64 0)) s) fun t17 s =>
 br t17
  (oh (some (t0.strip,s)) fun t18 s =>
 oh (mp (aNilCheck t18) s) fun t19 s =>
 oh (mp (aAddr 1 t19) s) fun t20 s =>
 oh (aLoad false false 1 t20 s) fun t21 s =>
 oh (mp (aLen Tryz.prog 74 t21) s) fun t22 s =>
 oh (some ((.int .i64 0),s)) fun t23 s =>
 aLoop (F75_L0 D n) n (upds (argEnv [t0]) [(9,t9),(10,t10),(11,t11),(12,t12),(13,t13),(8,t8),(14,t14),(15,t15),(2,t2),(14,t14.strip),(15,t15.strip),(3,t3),(16,t16),(17,t17),(18,t18),(19,t19),(20,t20),(21,t21),(22,t22),(23,t23)]) s)
  (oh (some (t0.strip,s)) fun t46 s =>
 oh (mp (aNilCheck t46) s) fun t47 s =>
 oh (mp (aAddr 1 t47) s) fun t48 s =>
 oh (aLoad false false 1 t48 s) fun t49 s =>
 oh (some (t3.strip,s)) fun t50 s =>
 oh (mp (aSl Tryz.prog 74 t49 none (some t50) none) s) fun t51 s =>
 oh (mp (aLen Tryz.prog 74 t51) s) fun t52 s =>
 oh (some ((.int .i64 0),s)) fun t53 s =>
 aLoop (F75_L1 D n) n (upds (argEnv [t0]) [(9,t9),(10,t10),(11,t11),(12,t12),(13,t13),(8,t8),(14,t14),(15,t15),(2,t2),(14,t14.strip),(15,t15.strip),(3,t3),(16,t16),(17,t17),(46,t46),(47,t47),(48,t48),(49,t49),(50,t50),(51,t51),(52,t52),(53,t53)]) s)
theorem F75_eq (n:Nat)(t0:AV)(s:Heap):den C (n+1) 75 [t0] s=F75 (den C n) n t0 s :=
 (den_body rfl Tryz.func75 _ _).trans (by kernel_rfl)
theorem d75_5 {g0 g1 g2:Nat}{q0:Option Nat}(a b:Nat)(h:a≠b)(x:Ans):drawOK C 75 (regOps Tryz.f75 5) [.silent,.silent,.silent,.get g0,.silent,.get g1,.silent,.get g2,.silent,.silent,.silent,.app q0,.silent,.put a,.silent,.silent,.put b] x=x:=drawOK_both (ks0:=[.silent,.silent,.silent,.reader,.silent,.reader,.silent,.reader,.silent,.silent,.silent,.writer,.silent,.put 0,.silent,.silent,.put 1]) h (by kernel_rfl) rfl
theorem d75_11 {g0 g1:Nat}(a:Nat)(x:Ans):drawOK C 75 (regOps Tryz.f75 11) [.silent,.silent,.silent,.get g0,.silent,.get g1,.silent,.silent,.silent,.silent,.put a] x=x:=drawOK_both (a:=a) (b:=a+1) (ks0:=[.silent,.silent,.silent,.reader,.silent,.reader,.silent,.silent,.silent,.silent,.put 0]) (by omega) (by kernel_rfl) rfl
theorem d75_14 {g0 g1:Nat}{q0:Option Nat}(a b:Nat)(h:a≠b)(x:Ans):drawOK C 75 (regOps Tryz.f75 14) [.silent,.silent,.silent,.get g0,.get g1,.silent,.silent,.app q0,.silent,.put a,.silent,.silent,.put b] x=x:=drawOK_both (ks0:=[.silent,.silent,.silent,.reader,.reader,.silent,.silent,.writer,.silent,.put 0,.silent,.silent,.put 1]) h (by kernel_rfl) rfl
theorem en75:enterable Tryz.prog 75=true:=by kernel_rfl
-- reparse.Update
noncomputable def F30_L0 (D:Den)(n:Nat)(k0:Env→Heap→Ans)(e:Env)(s:Heap):Ans :=
 oh (some ((e 16).strip,s)) fun t87 s =>
 oh (mp (aNilCheck t87) s) fun t88 s =>
 oh (mp (aAddr 1 t88) s) fun t89 s =>
 oh (aLoad false false 1 t89 s) fun t90 s =>
 oh (mp (aLen Tryz.prog 74 t90) s) fun t91 s =>
 oh (mp (aBin Tryz.prog .gtr 3 t91 (.int .i64 0)) s) fun t92 s =>
 oh (some (t92.strip,s)) fun t93 s =>
 oh (gd (wA t93 true) s (some ((e 16).strip,s))) fun t94 s =>
 oh (gd (wA t93 true) s (aCall Tryz.prog D 74 [t94.strip] s)) fun t95 s =>
 oh (gd (wA t93 true) s (mp (aUn .not t95) s)) fun t96 s =>
 oh (mp (aPick t93 t96 (.bool false)) s) fun t97 s =>
 br t97
  (oh (some ((e 16).strip,s)) fun t98 s =>
 oh (aCall Tryz.prog D 75 [t98.strip] s) fun t99 s =>
 k0 (upds e [(87,t87),(88,t88),(89,t89),(90,t90),(91,t91),(92,t92),(93,t93),(94,t94),(95,t95),(96,t96),(97,t97),(98,t98),(99,t99)]) s)
  (oh (some ((e 16).strip,s)) fun t100 s20 =>
 oh (mp (aNilCheck t100) s20) fun t101 s21 =>
 oh (mp (aAddr 6 t101) s21) fun t102 s22 =>
 oh (pubR (aLoad false false 1 t102 s22)) fun t103 s23 =>
 oh (mp (aBuild Tryz.prog 52 [(0,(.int .i64 1)),(2,t103)]) s23) fun t104 s24 =>
 oh (some ((e 16).strip,s24)) fun t105 s25 =>
 oh (mp (aNilCheck t105) s25) fun t106 s26 =>
 oh (mp (aAddr 5 t106) s26) fun t107 s27 =>
 oh (aLoad false false 1 t107 s27) fun t108 s28 =>
 oh (sto (aStore 3 s28 (e 6) t104)) fun _r s29 =>
 oh (some (t108,s29)) fun t7_6 s30 =>
 oh (some ((.int .i64 0),s30)) fun t8_6 s31 =>
 drawOK C 30 (regOps Tryz.f30 18) [.silent,.silent,.silent,(dyn .writer s22 s23),.silent,.silent,.silent,.silent,(kLoad false t107),(kStore (e 6)),.silent,.silent] <|
 fin1 ((resL [(aLoad false true 3 (e 6) s31).map (·.1),some t7_6,some t8_6]).map .tup) s31)
noncomputable def F30 (D:Den)(n:Nat)(t0 t1 t2:AV)(s:Heap):Ans :=
 oh (aBox false 52 t1 s) fun t4 s =>
 oh (aBox false 67 t2 s) fun t5 s =>
 oh (aAlloc Tryz.prog 52 s) fun t6 s =>
 oh (some ((.int .i64 0),s)) fun t7 s =>
 oh (some ((.int .i64 0),s)) fun t8 s =>
 oh (some (t0.strip,s)) fun t18 s =>
 oh (aCall Tryz.prog D 58 [t18.strip] s) fun t19 s =>
 oh (some (t19.strip,s)) fun t17 s =>
 oh (mp (aExtract 0 t17) s) fun t20 s =>
 oh (mp (aExtract 1 t17) s) fun t21 s =>
 oh (some (t20,s)) fun t9 s =>
 oh (some (t21,s)) fun t10 s =>
 oh (some (t10.strip,s)) fun t22 s =>
 oh (mp (aBin Tryz.prog .neq 24 t22 (.int .i64 0)) s) fun t23 s =>
 br t23
  (oh (mp (aBuild Tryz.prog 52 []) s) fun t24 s =>
 oh (some (t10.strip,s)) fun t25 s =>
 oh (sto (aStore 3 s t6 t24)) fun _r s =>
 oh (some ((.int .i64 0),s)) fun t7_2 s =>
 oh (some (t25,s)) fun t8_2 s =>
 fin1 ((resL [(aLoad false true 3 t6 s).map (·.1),some t7_2,some t8_2]).map .tup) s)
  (oh (some (t0.strip,s)) fun t26 s =>
 oh (aLoad false true 3 t5 s) fun t27 s =>
 oh (mp (aBuildSlice Tryz.prog 22 1 [(0,t27)]) s) fun t28 s =>
 oh (aCall Tryz.prog D 35 [t26.strip,t28.strip] s) fun t29 s =>
 oh (some (t29,s)) fun t11 s =>
 oh (some (t11.strip,s)) fun t30 s =>
 oh (mp (aBin Tryz.prog .neq 24 t30 (.int .i64 0)) s) fun t31 s =>
 br t31
  (oh (mp (aBuild Tryz.prog 52 []) s) fun t32 s =>
 oh (some (t11.strip,s)) fun t33 s =>
 oh (sto (aStore 3 s t6 t32)) fun _r s =>
 oh (some ((.int .i64 0),s)) fun t7_3 s =>
 oh (some (t33,s)) fun t8_3 s =>
 fin1 ((resL [(aLoad false true 3 t6 s).map (·.1),some t7_3,some t8_3]).map .tup) s)
  (oh (some (t0.strip,s)) fun t35 s =>
 oh (aCall Tryz.prog D 21 [t35.strip] s) fun t36 s =>
 oh (some (t36.strip,s)) fun t34 s =>
 oh (mp (aExtract 0 t34) s) fun t37 s =>
 oh (mp (aExtract 1 t34) s) fun t38 s =>
 oh (aAlloc Tryz.prog 52 s) fun t12 s =>
 oh (sto (aStore 3 s t12 t37)) fun _r s =>
 oh (some (t38,s)) fun t13 s =>
 oh (aLoad false true 3 t12 s) fun t39 s =>
 oh (aLoad false true 3 t4 s) fun t40 s =>
 oh (aCall Tryz.prog D 68 [t39.strip,t40.strip] s) fun t41 s =>
 oh (mp (aUn .not t41) s) fun t42 s =>
 br t42
  (oh (mp (aBuild Tryz.prog 52 []) s) fun t43 s =>
 oh (sto (aStore 3 s t6 t43)) fun _r s =>
 oh (some ((.int .i64 0),s)) fun t7_4 s =>
 oh (some ((.int .i64 3),s)) fun t8_4 s =>
 fin1 ((resL [(aLoad false true 3 t6 s).map (·.1),some t7_4,some t8_4]).map .tup) s)
  (oh (some (t0.strip,s)) fun t45 s =>
 oh (some (t9.strip,s)) fun t46 s =>
 oh (aLoad false true 3 t5 s) fun t47 s =>
 oh (aCall Tryz.prog D 69 [t45.strip,t46.strip,t47.strip] s) fun t48 s =>
 oh (some (t48.strip,s)) fun t44 s =>
 oh (mp (aExtract 0 t44) s) fun t49 s =>
 oh (mp (aExtract 1 t44) s) fun t50 s =>
 oh (mp (aExtract 2 t44) s) fun t51 s =>
 oh (some (t49,s)) fun t14 s =>
 oh (some (t50,s)) fun t15 s =>
 oh (some (t51,s)) fun t10_2 s =>
 oh (some (t10_2.strip,s)) fun t52 s =>
 oh (mp (aBin Tryz.prog .neq 24 t52 (.int .i64 0)) s) fun t53 s =>
 br t53
  (oh (mp (aBuild Tryz.prog 52 []) s) fun t54 s =>
 oh (some (t10_2.strip,s)) fun t55 s =>
 oh (sto (aStore 3 s t6 t54)) fun _r s =>
 oh (some ((.int .i64 0),s)) fun t7_5 s =>
 oh (some (t55,s)) fun t8_5 s =>
 fin1 ((resL [(aLoad false true 3 t6 s).map (·.1),some t7_5,some t8_5]).map .tup) s)
  (oh (some (t0.strip,s)) fun t56 s1 =>
 oh (aLoad false true 3 t4 s1) fun t57 s2 =>
 oh (aCall Tryz.prog D 70 [t56.strip,t57.strip] s2) fun t58 s3 =>
 oh (mp (aAddr 2 t5) s3) fun t59 s4 =>
 oh (aLoad false false 1 t59 s4) fun t60 s5 =>
 oh (mp (aLen Tryz.prog 9 t60) s5) fun t61 s6 =>
 oh (mp (aAddr 1 t5) s6) fun t62 s7 =>
 oh (aLoad false false 1 t62 s7) fun t63 s8 =>
 oh (mp (aAddr 0 t5) s8) fun t64 s9 =>
 oh (aLoad false false 1 t64 s9) fun t65 s10 =>
 oh (mp (aBin Tryz.prog .sub 3 t63 t65) s10) fun t66 s11 =>
 oh (mp (aBin Tryz.prog .sub 3 t61 t66) s11) fun t67 s12 =>
 oh (some (t9.strip,s12)) fun t68 s13 =>
 oh (some (t14.strip,s13)) fun t69 s14 =>
 oh (aLoad false true 3 t5 s14) fun t70 s15 =>
 oh (aCall Tryz.prog D 71 [t68.strip,t69.strip,t70.strip] s15) fun t71 s16 =>
 oh (mp (aBuild Tryz.prog 144 [(0,t58),(3,t67),(4,t71)]) s16) fun t72 s17 =>
 oh (aBox true 144 t72 s17) fun t73 s18 =>
 oh (some (t73,s18)) fun t16 s19 =>
 drawOK C 30 (regOps Tryz.f30 13) [.silent,(kLoad false t4),(dyn (kCall [t56.strip,t57.strip]) s2 s3),.silent,(kLoad false t59),.silent,.silent,(kLoad false t62),.silent,(kLoad false t64),.silent,.silent,.silent,.silent,(kLoad false t5),(dyn (kCall [t68.strip,t69.strip,t70.strip]) s15 s16),.silent,.writer,.silent] <|
 oh (some (t16.strip,s19)) fun t74 s =>
 oh (mp (aAddr 0 t5) s) fun t75 s =>
 oh (aLoad false false 1 t75 s) fun t76 s =>
 oh (aCall Tryz.prog D 72 [t74.strip,t76.strip] s) fun t77 s =>
 oh (some (t16.strip,s)) fun t78 s =>
 oh (some (t14.strip,s)) fun t79 s =>
 oh (some (t16.strip,s)) fun t80 s =>
 oh (mp (aNilCheck t80) s) fun t81 s =>
 oh (mp (aAddr 2 t81) s) fun t82 s =>
 oh (aLoad false false 1 t82 s) fun t83 s =>
 oh (aCall Tryz.prog D 73 [t79.strip,t83.strip] s) fun t84 s =>
 oh (mp (aNilCheck t78) s) fun t85 s =>
 oh (mp (aAddr 1 t85) s) fun t86 s =>
 oh (sto (aStore 1 s t86 t84)) fun _r s =>
 aLoop (F30_L0 D n) n (upds (argEnv [t0,t1,t2]) [(4,t4),(5,t5),(6,t6),(7,t7),(8,t8),(18,t18),(19,t19),(17,t17),(20,t20),(21,t21),(20,t20.strip),(9,t9),(21,t21.strip),(10,t10),(22,t22),(23,t23),(26,t26),(27,t27),(28,t28),(29,t29),(29,t29.strip),(11,t11),(30,t30),(31,t31),(35,t35),(36,t36),(34,t34),(37,t37),(38,t38),(12,t12),(37,t37.strip),(38,t38.strip),(13,t13),(39,t39),(40,t40),(41,t41),(42,t42),(45,t45),(46,t46),(47,t47),(48,t48),(44,t44),(49,t49),(50,t50),(51,t51),(49,t49.strip),(14,t14),(50,t50.strip),(15,t15),(51,t51.strip),(10,t10_2),(52,t52),(53,t53),(56,t56),(57,t57),(58,t58),(59,t59),(60,t60),(61,t61),(62,t62),(63,t63),(64,t64),(65,t65),(66,t66),(67,t67),(68,t68),(69,t69),(70,t70),(71,t71),(72,t72),(73,t73),(73,t73.strip),(16,t16),(74,t74),(75,t75),(76,t76),(77,t77),(78,t78),(79,t79),(80,t80),(81,t81),(82,t82),(83,t83),(84,t84),(85,t85),(86,t86),(84,t84.strip)]) s))))
theorem F30_eq (n:Nat)(t0 t1 t2:AV)(s:Heap):den C (n+1) 30 [t0,t1,t2] s=F30 (den C n) n t0 t1 t2 s :=
 (den_body rfl Tryz.func30 _ _).trans (by kernel_rfl)
theorem d30_13 (x:Ans):drawOK C 30 (regOps Tryz.f30 13) [.silent,.silent,.silent,.silent,.silent,.silent,.silent,.silent,.silent,.silent,.silent,.silent,.silent,.silent,.silent,.silent,.silent,.writer,.silent] x=x:=drawOK_ok (by kernel_rfl)
theorem d30_18 {g0:Nat}{l0:List Nat}(a:Nat)(h:∀g∈[g0],∀l∈[l0],(l:List Nat).contains g=true)(hp:∀g∈[g0],∀p∈[a],g≠p)(x:Ans):drawOK C 30 (regOps Tryz.f30 18) [.silent,.silent,.silent,.call l0,.silent,.silent,.silent,.silent,.get g0,.put a,.silent,.silent] x=x:=drawOK_callp (gs:=[g0]) (ls:=[l0]) (ps:=[a]) (by kernel_rfl) (by simp) (by simp) (by simp) h hp
theorem en30:enterable Tryz.prog 30=true:=by kernel_rfl
-- glossatorkeep1.reparseExample
noncomputable def F29 (D:Den)(n:Nat)(s:Heap):Ans :=
 oh (some ((.bool false),s)) fun t0 s =>
 oh (some ((.str [99,111,110,115,116,32,97,58,32,105,110,116,32,61,32,49,59,10,99,111,110,115,116,32,98,58,32,105,110,116,32,61,32,50,59,10,99,111,110,115,116,32,99,58,32,105,110,116,32,61,32,51,59,10]),s)) fun t1 s =>
 oh (some (t1.strip,s)) fun t10 s =>
 oh (aCall Tryz.prog D 21 [t10.strip] s) fun t11 s =>
 oh (some (t11.strip,s)) fun t9 s =>
 oh (mp (aExtract 0 t9) s) fun t12 s =>
 oh (mp (aExtract 1 t9) s) fun t13 s =>
 oh (aAlloc Tryz.prog 52 s) fun t2 s =>
 oh (sto (aStore 3 s t2 t12)) fun _r s =>
 oh (some (t13,s)) fun t3 s =>
 oh (some (t1.strip,s)) fun t15 s =>
 oh (aLoad false true 3 t2 s) fun t16 s =>
 oh (mp (aBuild Tryz.prog 67 [(0,(.int .i64 51)),(1,(.int .i64 52)),(2,(.str [52]))]) s) fun t17 s =>
 oh (aCall Tryz.prog D 30 [t15.strip,t16.strip,t17.strip] s) fun t18 s =>
 oh (some (t18.strip,s)) fun t14 s =>
 oh (mp (aExtract 0 t14) s) fun t19 s =>
 oh (mp (aExtract 1 t14) s) fun t20 s =>
 oh (mp (aExtract 2 t14) s) fun t21 s =>
 oh (aAlloc Tryz.prog 52 s) fun t4 s =>
 oh (sto (aStore 3 s t4 t19)) fun _r s =>
 oh (some (t20,s)) fun t5 s =>
 oh (some (t21,s)) fun t6 s =>
 oh (aCall Tryz.prog D 21 [(.str [99,111,110,115,116,32,97,58,32,105,110,116,32,61,32,49,59,10,99,111,110,115,116,32,98,58,32,105,110,116,32,61,32,50,59,10,99,111,110,115,116,32,99,58,32,105,110,116,32,61,32,52,59,10])] s) fun t23 s =>
 oh (some (t23.strip,s)) fun t22 s =>
 oh (mp (aExtract 0 t22) s) fun t24 s =>
 oh (mp (aExtract 1 t22) s) fun t25 s =>
 oh (aAlloc Tryz.prog 52 s) fun t7 s =>
 oh (sto (aStore 3 s t7 t24)) fun _r s =>
 oh (some (t25,s)) fun t8 s =>
 oh (some (t3.strip,s)) fun t26 s =>
 oh (mp (aBin Tryz.prog .eql 24 t26 (.int .i64 0)) s) fun t27 s =>
 oh (some (t27.strip,s)) fun t28 s =>
 oh (gd (wA t28 true) s (some (t6.strip,s))) fun t29 s =>
 oh (gd (wA t28 true) s (mp (aBin Tryz.prog .eql 24 t29 (.int .i64 0)) s)) fun t30 s =>
 oh (mp (aPick t28 t30 (.bool false)) s) fun t31 s =>
 oh (some (t31.strip,s)) fun t32 s =>
 oh (gd (wA t32 true) s (some (t8.strip,s))) fun t33 s =>
 oh (gd (wA t32 true) s (mp (aBin Tryz.prog .eql 24 t33 (.int .i64 0)) s)) fun t34 s =>
 oh (mp (aPick t32 t34 (.bool false)) s) fun t35 s =>
 oh (some (t35.strip,s)) fun t36 s =>
 oh (gd (wA t36 true) s (aLoad false true 3 t4 s)) fun t37 s =>
 oh (gd (wA t36 true) s (aLoad false true 3 t7 s)) fun t38 s =>
 oh (gd (wA t36 true) s (aCall Tryz.prog D 25 [t37.strip,t38.strip] s)) fun t39 s =>
 oh (mp (aPick t36 t39 (.bool false)) s) fun t40 s =>
 oh (some (t40.strip,s)) fun t41 s =>
 oh (gd (wA t41 true) s (some (t5.strip,s))) fun t42 s =>
 oh (gd (wA t41 true) s (mp (aBin Tryz.prog .geq 3 t42 (.int .i64 1)) s)) fun t43 s =>
 oh (mp (aPick t41 t43 (.bool false)) s) fun t44 s =>
 oh (some (t44,s)) fun t0_2 s =>
 some (t0_2,s)
theorem F29_eq (n:Nat)(s:Heap):den C (n+1) 29 [] s=F29 (den C n) n s :=
 (den_body rfl Tryz.func29 _ _).trans (by kernel_rfl)
theorem en29:enterable Tryz.prog 29=true:=by kernel_rfl
-- glossatorref1.Mod
noncomputable def F27_J0 (D:Den)(n:Nat)(e:Env)(s:Heap):Ans :=
 oh (some ((e 5).strip,s)) fun t14 s =>
 oh (some (t14,s)) fun t4_2 s =>
 some (t4_2,s)
noncomputable def F27 (D:Den)(n:Nat)(t0 t1:AV)(s:Heap):Ans :=
 oh (some ((.int .i64 0),s)) fun t4 s =>
 oh (some (t0.strip,s)) fun t6 s =>
 oh (some (t1.strip,s)) fun t7 s =>
 oh (mp (aBin Tryz.prog .rem 3 t6 t7) s) fun t8 s =>
 oh (some (t8,s)) fun t5 s =>
 oh (some (t5.strip,s)) fun t9 s =>
 oh (mp (aBin Tryz.prog .lss 3 t9 (.int .i64 0)) s) fun t10 s =>
 br t10
  (oh (some (t5.strip,s)) fun t11 s =>
 oh (some (t1.strip,s)) fun t12 s =>
 oh (mp (aBin Tryz.prog .add 3 t11 t12) s) fun t13 s =>
 oh (some (t13,s)) fun t5_2 s =>
 F27_J0 D n (upds (argEnv [t0,t1]) [(4,t4),(6,t6),(7,t7),(8,t8),(8,t8.strip),(5,t5),(9,t9),(10,t10),(11,t11),(12,t12),(13,t13),(13,t13.strip),(5,t5_2)]) s)
  (F27_J0 D n (upds (argEnv [t0,t1]) [(4,t4),(6,t6),(7,t7),(8,t8),(8,t8.strip),(5,t5),(9,t9),(10,t10)]) s)
theorem F27_eq (n:Nat)(t0 t1:AV)(s:Heap):den C (n+1) 27 [t0,t1] s=F27 (den C n) n t0 t1 s :=
 (den_body rfl Tryz.func27 _ _).trans (by kernel_rfl)
theorem en27:enterable Tryz.prog 27=true:=by kernel_rfl
-- glossatorref1.Splice
-- glossatorkeep1.ReparseEqualsParse
-- glossatorkeep1.ReparseErrors
end RepF
end

section
set_option maxRecDepth 100000
namespace EdF
open Go Go.Abs Go.Proofs ParF RepF
theorem subDropI {s:List UInt8}{i:Int}(h0:0≤i)(h1:i≤s.length):aSl Tryz.prog 9 (.str s) (some (I i)) none none=some (.str (s.drop i.toNat)):=by
 simp[aSl,LexF.under9,aSubstr,aBound,h0,h1]
theorem alloc53 (s:Heap):aAlloc Tryz.prog 112 s=some (.ref s.length 0,s++[(112,[.nilp,.nils])]):=by kernel_rfl
theorem len9 (s:List UInt8):aLen Tryz.prog 9 (.str s)=some (I s.length):=LexF.len9 s
structure Ed where
 a:Int
 b:Int
 t:List UInt8
abbrev Ed.v (x:Ed):AV:=.agg [I x.a,I x.b,.str x.t]
abbrev eds (xs:List Ed):List AV:=xs.map Ed.v
theorem under44:Tryz.prog.underlying 22=some (.slice 67):=by kernel_rfl
theorem sz65:szOf Tryz.prog 67=some 3:=by kernel_rfl
theorem idx44 {xs:List Ed}{i:Nat}{x:Ed}{f:Flag}(h:xs[i]?=some x):aIndexAddr Tryz.prog 22 (.sl 67 3 (eds xs) f) (I i)=some (.box [I x.a,I x.b,.str x.t] 0):=by
 simp[aIndexAddr,under44,sz65,h,AV.cells]
theorem alloc65 (s:Heap):aAlloc Tryz.prog 67 s=some (.ref s.length 0,s++[(67,[I 0,I 0,.str []])]):=by kernel_rfl
theorem store65 (s:Heap)(a b c:AV)(x:Ed):aStore 3 (s++[(67,[a,b,c])]) (.ref s.length 0) x.v=some (s++[(67,[I x.a,I x.b,.str x.t])]):=by
 simp[aStore,AV.solid,AV.cells,setL,stCells,deadTy]
theorem load65 (s:Heap)(x y z:AV)(k:Nat):aLoad false false 1 (.ref s.length k) (s++[(67,[x,y,z])])=[x,y,z][k]?.map fun r=>(r.strip,s++[(67,[x,y,z])]):=by
 simp[aLoad,aLoadR,aLoadC_one]
 cases[x,y,z][k]?<;>rfl
def IsE (v:AV)(xs:List Ed):Prop:=v=.sl 67 3 (eds xs) .sh∨(xs=[]∧v=.nils)
theorem IsE.strip {v:AV}{xs:List Ed}(h:IsE v xs):v.strip=v:=by rcases h with rfl|⟨_,rfl⟩<;>rfl
theorem eds_noRef (xs:List Ed):noRefL (eds xs)=true:=by induction xs with
 | nil=>rfl
 | cons x xs ih=>show noRefL (x.v::eds xs)=true;rw[noRefL_cons,ih];rfl
theorem IsE.noRef {v:AV}{xs:List Ed}(h:IsE v xs):v.noRef=true:=by
 rcases h with rfl|⟨_,rfl⟩
 ·simp[AV.noRef,eds_noRef]
 ·rfl
theorem IsE.len {v:AV}{xs:List Ed}(h:IsE v xs):aLen Tryz.prog 22 v=some (I xs.length):=by
 rcases h with rfl|⟨rfl,rfl⟩
 ·simp[aLen,under44]
 ·simp[aLen,under44]
def valid (len:Nat):Int→Int→List Ed→Int
 | _,n,[]=>if 2000<n then 2 else 0
 | p,n,x::xs=>if x.a≤p∨x.b<x.a∨(len:Int)<x.b then 3 else valid len x.b (n+(x.t.length-(x.b-x.a))) xs
theorem valid_loop (src:List UInt8)(hs:src.length≤2000)(xs:List Ed)(hl:xs.length≤50)(ht:∀x∈xs,x.t.length≤140737488355328):∀(k i:Nat)(p n:Int)(s:Heap),xs.length-i=k→i≤xs.length→-1≤p→-(10000*(i:Int))≤n→n≤2000+(i:Int)*140737488355328 →
  ∀D m n' e,k<m→e 21=I i→e 20=I xs.length→IsE (e 19) xs→e 5=I p→e 6=I n→e 0=.str src→∃s',aLoop (F35_L0 D n') m e s=some (I (valid src.length p n (xs.drop i)),s'):=by
 intro k
 induction k with
 | zero =>
  intro i p n s hk hi hp h1 h2 D m n' e hm h21 h20 h19 h5 h6 h0
  obtain⟨m,rfl⟩:∃j,m=j+1:=⟨m-1,by omega⟩
  have c:¬i<xs.length:=by omega
  rw[aLoop,F35_L0,List.drop_of_length_le (by omega),valid]
  refine⟨s,?_⟩
  by_cases c2:2000<n
  ·rw[if_pos c2]
   simp -implicitDefEqProofs only[sL,h21,h20,h5,h6,h0,c,c2]
  ·rw[if_neg c2]
   simp -implicitDefEqProofs only[sL,h21,h20,h5,h6,h0,c,c2]
 | succ k ih =>
  intro i p n s hk hi hp h1 h2 D m n' e hm h21 h20 h19 h5 h6 h0
  obtain⟨m,rfl⟩:∃j,m=j+1:=⟨m-1,by omega⟩
  have hlt:i<xs.length:=by omega
  have e0:xs[i]?=some xs[i]:=List.getElem?_eq_getElem hlt
  replace h19:e 19=.sl 67 3 (eds xs) .sh:=by
   rcases h19 with h|⟨h,_⟩
   ·exact h
   ·subst h;simp at hlt
  have e1:=idx44 (f:=.sh) e0
  have e2:=wadd1 (a:=i) (by omega)
  have htx:=ht xs[i] (List.getElem_mem hlt)
  rw[aLoop,F35_L0,List.drop_eq_getElem_cons hlt,valid]
  by_cases c1:xs[i].a≤p
  ·rw[if_pos (.inl c1)]
   refine⟨s++[(67,[I xs[i].a,I xs[i].b,.str xs[i].t])],?_⟩
   simp -implicitDefEqProofs only[sL,h21,h20,h19,h5,h6,h0,hlt,e1,aLoad_agg,List.length_cons,List.length_nil,List.drop_zero,List.take_succ_cons,List.take_zero,Nat.le_refl,alloc65,store65,load65,c1]
  ·by_cases c2:xs[i].b<xs[i].a
   ·rw[if_pos (.inr (.inl c2))]
    refine⟨s++[(67,[I xs[i].a,I xs[i].b,.str xs[i].t])],?_⟩
    simp -implicitDefEqProofs only[sL,h21,h20,h19,h5,h6,h0,hlt,e1,aLoad_agg,List.length_cons,List.length_nil,List.drop_zero,List.take_succ_cons,List.take_zero,Nat.le_refl,alloc65,store65,load65,c1,c2]
   ·by_cases c3:(src.length:Int)<xs[i].b
    ·rw[if_pos (.inr (.inr c3))]
     refine⟨s++[(67,[I xs[i].a,I xs[i].b,.str xs[i].t])],?_⟩
     simp -implicitDefEqProofs only[sL,h21,h20,h19,h5,h6,h0,hlt,e1,aLoad_agg,List.length_cons,List.length_nil,List.drop_zero,List.take_succ_cons,List.take_zero,Nat.le_refl,alloc65,store65,load65,c1,c2,c3,len9]
    ·rw[if_neg (by rintro(h|h|h);exact c1 h;exact c2 h;exact c3 h)]
     have w1:IntKind.i64.wrap (xs[i].b-xs[i].a)=xs[i].b-xs[i].a:=by rw[wrap64]<;>omega
     have w2:IntKind.i64.wrap ((xs[i].t.length:Int)-(xs[i].b-xs[i].a))=(xs[i].t.length:Int)-(xs[i].b-xs[i].a):=by rw[wrap64]<;>omega
     have w3:IntKind.i64.wrap (n+((xs[i].t.length:Int)-(xs[i].b-xs[i].a)))=n+((xs[i].t.length:Int)-(xs[i].b-xs[i].a)):=by rw[wrap64]<;>omega
     simp -implicitDefEqProofs only[sL,h21,h20,h19,h5,h6,h0,hlt,e1,e2,aLoad_agg,List.length_cons,List.length_nil,List.drop_zero,List.take_succ_cons,List.take_zero,Nat.le_refl,alloc65,store65,load65,c1,c2,c3,len9,w1,w2,w3]
     exact ih (i+1) xs[i].b _ _ (by omega) (by omega) (by omega) (by omega) (by omega) D m n' _ (by omega) (by simp[upds_at,upd_at]) (by simp[upds_at,upd_at,h20]) (.inl (by simp[upds_at,upd_at,h19])) (by simp[upds_at,upd_at]) (by simp[upds_at,upd_at]) (by simp[upds_at,upd_at,h0])
def validate (src:List UInt8)(xs:List Ed):Int:=if 2000<src.length∨50<xs.length then 2 else valid src.length (-1) src.length xs
theorem validate_run (src:List UInt8)(v:AV)(xs:List Ed)(h:IsE v xs)(ht:∀x∈xs,x.t.length≤140737488355328):AC C 35 [.str src,v] (I (validate src xs)):=by
 refine .intro en35 (by simp[noRefL_cons,noRefL_nil,noRef_str,h.noRef]) (by rfl) ?_
 have l:=h.len
 have st:=h.strip
 refine⟨52,fun n hn=>?_⟩
 rw[F35_eq,F35]
 have e1:((2000:Int)<(src.length:Int)) ↔ 2000<src.length:=by omega
 have e2:((50:Int)<(xs.length:Int)) ↔ 50<xs.length:=by omega
 unfold validate
 by_cases c1:2000<src.length
 ·rw[if_pos (.inl c1)]
  refine⟨[],?_⟩
  simp -implicitDefEqProofs only[sL,st,l,len9,e1,c1]
 ·by_cases c2:50<xs.length
  ·rw[if_pos (.inr c2)]
   refine⟨[],?_⟩
   simp -implicitDefEqProofs only[sL,st,l,len9,e1,e2,c1,c2]
  ·rw[if_neg (by omega)]
   have q:=valid_loop src (by omega) xs (by omega) ht xs.length 0 (-1) src.length [] (by omega) (by omega) (by omega) (by omega) (by omega) (den C n) n n
   simp -implicitDefEqProofs only[sL,st,l,len9,e1,e2,c1,c2]
   exact q _ (by omega) (by simp[upds_at,upd_at]) (by simp[upds_at,upd_at]) (by simpa[upds_at,upd_at] using h) (by simp[upds_at,upd_at]) (by simp[upds_at,upd_at]) (by simp[upds_at,upd_at,argEnv])
theorem d15_9' (x:Ans):drawOK C 15 (regOps Tryz.f15 9) [.silent,.silent,.silent,.reader,.silent,.silent,.reader,.silent,.writer] x=x:=drawOK_ok (by kernel_rfl)
def applyS (src:List UInt8):Nat→List Ed→List UInt8
 | o,[]=>src.drop o
 | o,x::xs=>(src.take x.a.toNat).drop o++x.t++applyS src x.b.toNat xs
theorem valid_cons {len:Nat}{p n:Int}{x:Ed}{xs:List Ed}(h:valid len p n (x::xs)=0):p<x.a∧x.a≤x.b∧x.b≤len∧valid len x.b (n+(x.t.length-(x.b-x.a))) xs=0:=by
 unfold valid at h
 split at h
 ·cases h
 ·exact⟨by omega,by omega,by omega,h⟩
theorem valid_room {len:Nat}:∀{xs:List Ed}{p n:Int}{o:Nat},valid len p n xs=0→(o:Int)≤p+1→o≤len→n-((len:Int)-o)≤2000
 | [],p,n,o,h,h1,h2=>by
  unfold valid at h
  split at h
  ·cases h
  ·omega
 | x::xs,p,n,o,h,h1,h2=>by
  obtain⟨k1,k2,k3,k4⟩:=valid_cons h
  have:=valid_room (o:=x.b.toNat) k4 (by omega) (by omega)
  omega
theorem subBoth {s:List UInt8}{i j:Int}(h0:0≤i)(h1:i≤j)(h2:j≤s.length):aSl Tryz.prog 9 (.str s) (some (I i)) (some (I j)) none=some (.str ((s.take j.toNat).drop i.toNat)):=by
 have h:Tryz.prog.underlying 9=some .string:=by kernel_rfl
 have h3:0≤j:=by omega
 have h4:i≤max j 0:=by omega
 simp[aSl,h,aSubstr,aBound,h0,h2,h3,h4]
theorem noRef_ref (i o:Nat):(AV.ref i o).noRef=false:=by simp[AV.noRef]
theorem load65s (s:Heap)(w:TypeId × List AV)(id:Nat)(x y z:AV)(k:Nat):aLoad false false 1 (.ref s.length k) (s.set id w++[(67,[x,y,z])])=[x,y,z][k]?.map fun r=>(r.strip,s.set id w++[(67,[x,y,z])]):=by
 have:=load65 (s.set id w) x y z k
 rwa [List.length_set]at this
theorem apply_loop (src:List UInt8)(hs:src.length≤2000)(xs:List Ed)(hl:xs.length≤50):∀(k i:Nat)(p n:Int)(o:Nat)(acc:List UInt8),xs.length-i=k→i≤xs.length→valid src.length p n (xs.drop i)=0→(o:Int)≤p+1→o≤src.length→(acc.length:Int)=n-(src.length-o) →
  ∃N,∀f,N≤f→∀m,k<m→∀n' e s,Bld s 0 acc→e 19=I i→e 18=I xs.length→IsE (e 17) xs→e 8=I o→e 7=.ref 0 0→e 0=.str src→∃s',aLoop (F15_L0 (den C f) n') m e s=some (.tup [.str (acc++applyS src o (xs.drop i)),I 0],s'):=by
 intro k
 induction k with
 | zero =>
  intro i p n o acc hk hi hv hp ho ha
  have hr:=valid_room hv hp ho
  obtain⟨N,q⟩:=write_run (src.drop o)
  refine⟨N+1,fun f hf m hm n' e s hb h19 h18 h17 h8 h7 h0=>?_⟩
  obtain⟨m,rfl⟩:∃j,m=j+1:=⟨m-1,by omega⟩
  obtain⟨f,rfl⟩:∃j,f=j+1:=⟨f-1,by omega⟩
  have c:¬i<xs.length:=by omega
  have q:=q (f+1) (by omega) s 0 acc hb (by simp;omega)
  obtain⟨s',q2⟩:=bString_run (hb.set (acc++src.drop o)) (by simp;omega)
  have q2:=q2 f
  have e1:=subDropI (s:=src) (i:=(o:Int)) (by omega) (by omega)
  rw[Int.toNat_natCast]at e1
  rw[aLoop,F15_L0,List.drop_of_length_le (by omega),applyS]
  refine⟨s',?_⟩
  simp -implicitDefEqProofs only[sL,h19,h18,h8,h7,h0,c,q,q2,e1]
 | succ k ih =>
  intro i p n o acc hk hi hv hp ho ha
  have hlt:i<xs.length:=by omega
  have e0:xs[i]?=some xs[i]:=List.getElem?_eq_getElem hlt
  rw[List.drop_eq_getElem_cons hlt]at hv ⊢
  obtain⟨k1,k2,k3,k4⟩:=valid_cons hv
  have hr:=valid_room (o:=xs[i].b.toNat) k4 (by omega) (by omega)
  have hlen:((src.take xs[i].a.toNat).drop o).length=xs[i].a.toNat-o:=by simp;omega
  obtain⟨N1,q1⟩:=write_run ((src.take xs[i].a.toNat).drop o++xs[i].t)
  obtain⟨N2,q2⟩:=ih (i+1) xs[i].b _ xs[i].b.toNat (acc++((src.take xs[i].a.toNat).drop o++xs[i].t)) (by omega) (by omega) k4 (by omega) (by omega) (by rw[List.length_append,List.length_append,hlen];omega)
  rw[List.append_assoc acc]at q2
  refine⟨max N1 N2,fun f hf m hm n' e s hb h19 h18 h17 h8 h7 h0=>?_⟩
  obtain⟨m,rfl⟩:∃j,m=j+1:=⟨m-1,by omega⟩
  replace h17:e 17=.sl 67 3 (eds xs) .sh:=by
   rcases h17 with h|⟨h,_⟩
   ·exact h
   ·subst h;simp at hlt
  have e1:=idx44 (f:=.sh) e0
  have e2:=wadd1 (a:=i) (by omega)
  have e3:=subBoth (s:=src) (i:=(o:Int)) (j:=xs[i].a) (by omega) (by omega) (by omega)
  rw[Int.toNat_natCast]at e3
  have e4:aBin Tryz.prog .add 9 (.str ((src.take xs[i].a.toNat).drop o)) (.str xs[i].t)=some (.str ((src.take xs[i].a.toNat).drop o++xs[i].t)):=str_add _ _ (by rw[hlen];omega)
  have q1:=q1 f (by omega) (s++[(67,[I xs[i].a,I xs[i].b,.str xs[i].t])]) 0 acc (hb.app _) (by rw[List.length_append,hlen];omega)
  rw[List.set_append_left _ _ hb.lt]at q1
  have e5:((xs[i].b.toNat:Nat):Int)=xs[i].b:=by omega
  rw[aLoop,F15_L0,applyS]
  simp -implicitDefEqProofs only[sL,h19,h18,h17,h8,h7,h0,hlt,e1,e2,e3,e4,q1,aLoad_agg,List.length_cons,List.length_nil,List.drop_zero,List.take_succ_cons,List.take_zero,Nat.le_refl,alloc65,store65,load65,load65s,kLoad_ref,noRef_ref,Bool.false_and,Bool.false_eq_true,if_false,d15_9']
  exact q2 f (by omega) m (by omega) n' _ _ ((hb.set _).app [(67,[I xs[i].a,I xs[i].b,.str xs[i].t])]) (by simp[upds_at,upd_at]) (by simp[upds_at,upd_at,h18]) (.inl (by simp[upds_at,upd_at,h17])) (by simp[upds_at,upd_at,e5]) (by simp[upds_at,upd_at,h7]) (by simp[upds_at,upd_at,h0])
theorem apply_run (src:List UInt8)(v:AV)(xs:List Ed)(h:IsE v xs)(ht:∀x∈xs,x.t.length≤140737488355328):AC C 15 [.str src,v] (if validate src xs=0 then .tup [.str (applyS src 0 xs),I 0] else .tup [.str [],I (validate src xs)]):=by
 refine .intro en15 (by simp[noRefL_cons,noRefL_nil,noRef_str,h.noRef]) (by split<;>rfl) ?_
 have l:=h.len
 have st:=h.strip
 obtain⟨N1,q1⟩:=LexF.AC.at (validate_run src v xs h ht)
 by_cases c:validate src xs=0
 ·rw[if_pos c]
  have c':=c
  unfold validate at c'
  split at c'
  ·cases c'
  ·obtain⟨N2,q2⟩:=apply_loop src (by omega) xs (by omega) xs.length 0 (-1) src.length 0 [] (by omega) (by omega) c' (by omega) (by omega) (by simp)
   refine⟨max 52 (max N1 N2),fun n hn=>?_⟩
   have q1:=q1 n (by omega)
   have hb:ParF.Bld [(112,[.nilp,.nils])] 0 []:=⟨.nilp,rfl,.inl rfl⟩
   have q2:=q2 n (by omega) n (by omega) n
   have z:((0:Int) != 0)=false:=rfl
   rw[c]at q1
   rw[F15_eq,F15]
   simp -implicitDefEqProofs only[sL,st,l,q1,z,alloc53,List.length_nil,List.nil_append]
   exact q2 _ _ hb (by simp[upds_at,upd_at]) (by simp[upds_at,upd_at]) (by simpa[upds_at,upd_at] using h) (by simp[upds_at,upd_at]) (by simp[upds_at,upd_at]) (by simp[upds_at,upd_at,argEnv])
 ·rw[if_neg c]
  refine⟨N1,fun n hn=>⟨[],?_⟩⟩
  have q1:=q1 n (by omega)
  have z:(validate src xs != 0)=true:=by simp[c]
  rw[F15_eq,F15]
  simp -implicitDefEqProofs only[sL,st,l,q1,z]
end EdF
end

section
set_option maxRecDepth 100000
namespace LexF
open Go Go.Abs Go.Proofs ParF RepF
abbrev ints (zs:List Nat):List AV:=zs.map fun(z:Nat)=>I z
def IsN (v:AV)(zs:List Nat):Prop:=v=.sl 3 1 (ints zs) .sh∨(zs=[]∧v=.nils)
def accI (zs:List Nat):AV:=match zs with
 | []=>.nils
 | z::r=>.sl 3 1 (ints (z::r)) .own
theorem accI_strip (zs:List Nat):IsN (accI zs).strip zs:=by
 cases zs with
 | nil=>exact .inr ⟨rfl,rfl⟩
 | cons t r=>exact .inl rfl
theorem IsN.strip {v:AV}{zs:List Nat}(h:IsN v zs):v.strip=v:=by rcases h with rfl|⟨_,rfl⟩<;>rfl
theorem ints_noRef (xs:List Nat):noRefL (ints xs)=true:=by induction xs with
 | nil=>rfl
 | cons x xs ih=>show noRefL (I x::ints xs)=true;rw[noRefL_cons,ih];rfl
theorem IsN.noRef {v:AV}{zs:List Nat}(h:IsN v zs):v.noRef=true:=by
 rcases h with rfl|⟨_,rfl⟩
 ·simp[AV.noRef,ints_noRef]
 ·rfl
theorem under30:Tryz.prog.underlying 76=some (.slice 3):=by kernel_rfl
theorem sz3:szOf Tryz.prog 3=some 1:=by kernel_rfl
theorem IsN.at {v:AV}{zs:List Nat}(h:IsN v zs){i x:Nat}(hx:zs[i]?=some x):aIndexAddr Tryz.prog 76 v (I i)=some (.box [I x] 0):=by
 rcases h with rfl|⟨rfl,rfl⟩
 ·simp[aIndexAddr,under30,sz3,hx,AV.cells]
 ·simp at hx
theorem IsN.len {v:AV}{zs:List Nat}(h:IsN v zs):aLen Tryz.prog 76 v=some (I zs.length):=by
 rcases h with rfl|⟨rfl,rfl⟩<;>simp[aLen,under30]
theorem info3':((Tryz.prog.info? 3).map fun i=>(i.size,i.bytes,i.zero.map fun z=>z.cells.size))=some (1,8,some 1):=by kernel_rfl
theorem info3:∃i,Tryz.prog.info? 3=some i∧i.size=1∧i.bytes=8∧∃z,i.zero=some z∧z.cells.size=1:=by
 have h:=info3'
 rw[Option.map_eq_some_iff]at h
 obtain⟨i,h1,h2⟩:=h
 simp only[Prod.mk.injEq,Option.map_eq_some_iff]at h2
 exact⟨i,h1,h2.1,h2.2.1,h2.2.2⟩
theorem app30 (xs:List Nat)(x:Nat)(f:Flag)(h:xs.length<1000000):aAppend Tryz.prog 76 76 (accI xs) (.sl 3 1 [I x] f)=some (accI (xs++[x])):=by
 obtain⟨i,h1,h2,h3,z,h4,h5⟩:=info3
 unfold aAppend
 rw[under30]
 simp only[h1,h2,srcOf,if_true,h4,h5,ne_eq,not_true,if_false,h3]
 cases xs with
 | nil =>
  simp only[accI,List.nil_append,List.length_cons,List.length_nil,List.map_cons,List.map_nil]
  rw[if_pos (by omega)]
 | cons b r =>
  simp only[accI,ints,List.length_map,List.length_cons,List.length_nil,List.map_cons,List.cons_append,List.map_append,List.map_nil]at *
  rw[if_pos ⟨trivial,trivial,by omega,by omega⟩]
theorem bs30 (x:Nat):∃f,aBuildSlice Tryz.prog 76 1 [(0,I x)]=some (.sl 3 1 [I x] f):=⟨.own,by kernel_rfl⟩
theorem ends_loop (v:AV)(ts:List Tok)(hv:IsT v ts)(ht:ts.length<100000)(hs:(srcOfT ts).length<1000000):∀(k i o:Nat)(acc:List Nat),ts.length-i=k→i≤ts.length→acc.length≤i→o+(srcOfT (ts.drop i)).length<1000000→∀D m,k<m→∀n' e s,e 7=v→e 8=I ts.length→e 9=I i→e 3=accI acc→e 4=I o →
  ∃s',aLoop (F128_L0 D n') m e s=some ((accI (acc++ends o (ts.drop i))).strip,s'):=by
 intro k
 induction k with
 | zero =>
  intro i o acc hk hi ha ho D m hm n' e s h7 h8 h9 h3 h4
  obtain⟨m,rfl⟩:∃j,m=j+1:=⟨m-1,by omega⟩
  have c:¬i<ts.length:=by omega
  refine⟨s,?_⟩
  rw[aLoop,F128_L0,List.drop_of_length_le (by omega),ends,List.append_nil]
  simp -implicitDefEqProofs only[sL,h7,h8,h9,h3,h4,c]
 | succ k ih =>
  intro i o acc hk hi ha ho D m hm n' e s h7 h8 h9 h3 h4
  obtain⟨m,rfl⟩:∃j,m=j+1:=⟨m-1,by omega⟩
  have c:i<ts.length:=by omega
  have e1:=hv.at (List.getElem?_eq_getElem c)
  have e2:=wadd1 (a:=i) (by omega)
  rw[List.drop_eq_getElem_cons c]at ho ⊢
  have hsp:srcOfT (ts[i]::ts.drop (i+1))=ts[i].2++srcOfT (ts.drop (i+1)):=rfl
  rw[hsp,List.length_append]at ho
  have e3:=wadd (a:=o) (b:=ts[i].2.length) (by omega)
  obtain⟨f,e4⟩:=bs30 (o+ts[i].2.length)
  have e5:=app30 acc (o+ts[i].2.length) f (by omega)
  rw[ends,←List.singleton_append,←List.append_assoc]
  generalize ts[i]=t at *
  rw[aLoop,F128_L0]
  simp -implicitDefEqProofs only[sL,h7,h8,h9,h3,h4,c,e1,e2,e3,e4,e5,len9,load2',alloc39,store39,load39]
  exact ih (i+1) _ (acc++[o+t.2.length]) (by omega) (by omega) (by simp;omega) (by omega) D m (by omega) n' _ _ (by simp[upds_at,upd_at,h7]) (by simp[upds_at,upd_at,h8]) (by simp[upds_at,upd_at]) (by simp[upds_at,upd_at]) (by simp[upds_at,upd_at])
theorem ends_run (v:AV)(ts:List Tok)(hv:IsT v ts)(ht:ts.length<100000)(hs:(srcOfT ts).length<1000000):AC C 128 [v] (accI (ends 0 ts)).strip:=by
 refine .intro en128 (by simp[noRefL_cons,noRefL_nil,hv.noRef]) (accI_strip _).noRef ⟨ts.length+1,fun n hn=>?_⟩
 have st:=hv.strip
 have l:=hv.len
 rw[F128_eq,F128]
 simp -implicitDefEqProofs only[sL,st,l]
 exact ends_loop v ts hv ht hs _ 0 0 [] rfl (by omega) (by simp) (by simpa using hs) (den C n) n (by omega) n _ _ (by simp[upds_at,upd_at]) (by simp[upds_at,upd_at]) (by simp[upds_at,upd_at]) (by simp[upds_at,upd_at,accI]) (by simp[upds_at,upd_at])
theorem cnt_iff (q:Int):∀(es:List Nat),es.Pairwise (·<·)→∀(i x:Nat),es[i]?=some x→((x:Int)<q ↔ i<es.countP (fun(z:Nat)=>decide ((z:Int)<q)))
 | [],_,i,x,h=>by simp at h
 | y::ys,hs,i,x,h=>by
  obtain⟨h1,h2⟩:=List.pairwise_cons.1 hs
  rw[List.countP_cons]
  by_cases c:(y:Int)<q
  ·rw[decide_eq_true c,if_pos rfl]
   cases i with
   | zero=>simp at h;subst h;exact⟨fun _=>by omega,fun _=>c⟩
   | succ i =>
    have:=cnt_iff q ys h2 i x (by simpa using h)
    rw[this];omega
  ·rw[decide_eq_false c,if_neg (by simp),Nat.add_zero]
   have hz:ys.countP (fun(z:Nat)=>decide ((z:Int)<q))=0:=by
    rw[List.countP_eq_zero]
    intro z hz
    have:=h1 z hz
    simp;omega
   rw[hz]
   cases i with
   | zero=>simp at h;subst h;omega
   | succ i =>
    have:=h1 x (List.mem_of_getElem? (l:=ys) (i:=i) (by simpa using h))
    omega
theorem cv1 (m:Nat)(h:m<2000000):aConv Tryz.prog 3 230 (I m)=some (.int .u64 m):=by
 have e:aConv Tryz.prog 3 230 (I m)=some (.int .u64 (IntKind.u64.wrap m)):=by
  have u1:Tryz.prog.underlying 3=some (.int .i64):=by kernel_rfl
  have u2:Tryz.prog.underlying 230=some (.int .u64):=by kernel_rfl
  simp[aConv,u1,u2]
 rw[e]
 have:IntKind.u64.wrap (m:Int)=m:=by
  have hb:IntKind.u64.wrap (m:Int)=(m:Int) % 18446744073709551616:=by simp[IntKind.wrap,IntKind.signed,IntKind.bits]
  rw[hb];omega
 rw[this]
theorem cv2 (m:Nat):aBin Tryz.prog .shr 230 (.int .u64 m) (.int .u64 1)=some (.int .u64 (m / 2:Nat)):=by
 simp[aBin,intBin,IntKind.bits]
 rw[Int.fdiv_eq_ediv_of_nonneg _ (by decide)]
theorem cv3 (m:Nat)(h:m<2000000):aConv Tryz.prog 230 3 (.int .u64 m)=some (I m):=by
 have e:aConv Tryz.prog 230 3 (.int .u64 m)=some (I (IntKind.i64.wrap m)):=by
  have u1:Tryz.prog.underlying 3=some (.int .i64):=by kernel_rfl
  have u2:Tryz.prog.underlying 230=some (.int .u64):=by kernel_rfl
  simp[aConv,u1,u2]
 rw[e,wrap64]<;>omega
theorem nan_run (x:Int):AC C 262 [I x] (.bool false):=by
 refine .intro en262 rfl rfl ⟨0,fun n _=>⟨[],?_⟩⟩
 have z:(x != x)=false:=by simp
 rw[F262_eq,F262]
 simp -implicitDefEqProofs only[sL,z]
theorem nan2_run (x:Int):AC C 246 [I x] (.bool false):=by
 refine .intro en246 rfl rfl ⟨0,fun n _=>⟨[],?_⟩⟩
 have z:(x != x)=false:=by simp
 rw[F246_eq,F246]
 simp -implicitDefEqProofs only[sL,z]
theorem less_run (x y:Int):AC C 245 [I x,I y] (.bool (decide (x<y))):=by
 obtain⟨N,q⟩:=AC.at (nan_run x)
 refine .intro en245 rfl rfl ⟨N,fun n hn=>⟨[],?_⟩⟩
 have q:=q n hn
 rw[F245_eq,F245]
 simp -implicitDefEqProofs only[sL,q]
theorem bin_loop (v:AV)(es:List Nat)(hv:IsN v es)(hs:es.Pairwise (·<·))(hl:es.length<1000000)(q:Int):∀(k lo hi:Nat),hi-lo≤k→lo≤es.countP (fun(z:Nat)=>decide ((z:Int)<q))→es.countP (fun(z:Nat)=>decide ((z:Int)<q))≤hi→hi≤es.length →
  ∃N,∀f,N≤f→∀r,k<r→∀n' e s,e 7=I lo→e 8=I hi→e 6=I es.length→e 0=v→e 1=I q →
  aLoop (F191_L0 (den C f) n') r e s=some (.tup [I (es.countP (fun(z:Nat)=>decide ((z:Int)<q)):Nat),.bool (decide (q.toNat∈es∧0≤q))],s):=by
 have st:=hv.strip
 intro k
 induction k with
 | zero =>
  intro lo hi hk h1 h2 h3
  generalize hc:es.countP (fun(z:Nat)=>decide ((z:Int)<q))=c at *
  obtain rfl:lo=c:=by omega
  obtain rfl:hi=lo:=by omega
  have c0:¬hi<hi:=by omega
  by_cases cl:hi<es.length
  ·have e1:=hv.at (List.getElem?_eq_getElem cl)
   by_cases ce:(es[hi]:Int)=q
   ·have hd:decide (q.toNat∈es∧0≤q)=true:=by
     rw[decide_eq_true_eq]
     exact⟨by rw[←ce,Int.toNat_natCast];exact List.getElem_mem cl,by omega⟩
    rw[hd]
    refine⟨0,fun f hf r hr n' e s h7 h8 h6 h0 hq=>?_⟩
    obtain⟨r,rfl⟩:∃j,r=j+1:=⟨r-1,by omega⟩
    have z:((es[hi]:Int)==q)=true:=by simp[ce]
    rw[aLoop,F191_L0]
    simp -implicitDefEqProofs only[sL,h7,h8,h6,h0,hq,c0,cl,st,e1,z]
   ·have hd:decide (q.toNat∈es∧0≤q)=false:=by
     rw[decide_eq_false_iff_not]
     rintro⟨m1,m2⟩
     obtain⟨i,hi',m3⟩:=List.mem_iff_getElem.1 m1
     have k1:=cnt_iff q es hs i es[i] (List.getElem?_eq_getElem hi')
     rw[hc]at k1
     have k2:¬i<hi:=fun h=>by have:=k1.2 h;omega
     have k3:=cnt_iff q es hs hi es[hi] (List.getElem?_eq_getElem cl)
     rw[hc]at k3
     have k4:q≤es[hi]:=by
      rcases Int.lt_or_le (es[hi]:Int) q with h|h
      ·have:=k3.1 h;omega
      ·exact h
     rcases Nat.lt_or_eq_of_le (Nat.le_of_not_lt k2) with h|h
     ·have:=List.pairwise_iff_getElem.1 hs hi i cl hi' h
      omega
     ·subst h;omega
    rw[hd]
    obtain⟨N,p1⟩:=AC.at (nan2_run (es[hi]:Int))
    refine⟨N,fun f hf r hr n' e s h7 h8 h6 h0 hq=>?_⟩
    obtain⟨r,rfl⟩:∃j,r=j+1:=⟨r-1,by omega⟩
    have p1:=p1 f hf
    have z:((es[hi]:Int)==q)=false:=by simp[ce]
    rw[aLoop,F191_L0]
    simp -implicitDefEqProofs only[sL,h7,h8,h6,h0,hq,c0,cl,st,e1,z,p1]
  ·have hd:decide (q.toNat∈es∧0≤q)=false:=by
    rw[decide_eq_false_iff_not]
    rintro⟨m1,m2⟩
    obtain⟨i,hi',m3⟩:=List.mem_iff_getElem.1 m1
    have k1:=cnt_iff q es hs i es[i] (List.getElem?_eq_getElem hi')
    rw[hc]at k1
    have:=k1.2 (by omega)
    omega
   rw[hd]
   refine⟨0,fun f hf r hr n' e s h7 h8 h6 h0 hq=>?_⟩
   obtain⟨r,rfl⟩:∃j,r=j+1:=⟨r-1,by omega⟩
   rw[aLoop,F191_L0]
   simp -implicitDefEqProofs only[sL,h7,h8,h6,h0,hq,c0,cl,st]
 | succ k ih =>
  intro lo hi hk h1 h2 h3
  by_cases c0:lo<hi
  ·have hm:(lo+hi) / 2<es.length:=by omega
   have e1:=hv.at (List.getElem?_eq_getElem hm)
   have k1:=cnt_iff q es hs _ _ (List.getElem?_eq_getElem hm)
   obtain⟨N1,p1⟩:=AC.at (less_run (es[(lo+hi) / 2]:Int) q)
   have w1:=wadd (a:=lo) (b:=hi) (by omega)
   have w2:=wadd1 (a:=(lo+hi) / 2) (by omega)
   have v1:=cv1 (lo+hi) (by omega)
   have v2:=cv2 (lo+hi)
   have v3:=cv3 ((lo+hi) / 2) (by omega)
   have bm:lo≤(lo+hi) / 2∧(lo+hi) / 2<hi:=by omega
   generalize (lo+hi) / 2=mid at *
   by_cases c1:(es[mid]:Int)<q
   ·obtain⟨N,q2⟩:=ih (mid+1) hi (by omega) (by have:=k1.1 c1;omega) h2 h3
    refine⟨N+N1,fun f hf r hr n' e s h7 h8 h6 h0 hq=>?_⟩
    obtain⟨r,rfl⟩:∃j,r=j+1:=⟨r-1,by omega⟩
    have p1:=p1 f (by omega)
    rw[decide_eq_true c1]at p1
    have q2:=q2 f (by omega) r (by omega) n'
    rw[aLoop,F191_L0]
    simp -implicitDefEqProofs only[sL,h7,h8,h0,hq,c0,st,e1,w1,v1,v2,v3,w2,p1]
    exact q2 _ s (by simp[upds_at,upd_at]) (by simp[upds_at,upd_at,h8]) (by simp[upds_at,upd_at,h6]) (by simp[upds_at,upd_at,h0]) (by simp[upds_at,upd_at,hq])
   ·obtain⟨N,q2⟩:=ih lo mid (by omega) h1 (by
     rcases Nat.lt_or_ge mid (es.countP (fun(z:Nat)=>decide ((z:Int)<q))) with h|h
     ·exact absurd (k1.2 h) c1
     ·exact h) (by omega)
    refine⟨N+N1,fun f hf r hr n' e s h7 h8 h6 h0 hq=>?_⟩
    obtain⟨r,rfl⟩:∃j,r=j+1:=⟨r-1,by omega⟩
    have p1:=p1 f (by omega)
    rw[decide_eq_false c1]at p1
    have q2:=q2 f (by omega) r (by omega) n'
    rw[aLoop,F191_L0]
    simp -implicitDefEqProofs only[sL,h7,h8,h0,hq,c0,st,e1,w1,v1,v2,v3,p1]
    exact q2 _ s (by simp[upds_at,upd_at,h7]) (by simp[upds_at,upd_at]) (by simp[upds_at,upd_at,h6]) (by simp[upds_at,upd_at,h0]) (by simp[upds_at,upd_at,hq])
  ·obtain⟨N,q2⟩:=ih lo hi (by omega) h1 h2 h3
   refine⟨N,fun f hf r hr n' e s=>q2 f hf r (by omega) n' e s⟩
theorem bin_run (v:AV)(es:List Nat)(hv:IsN v es)(hs:es.Pairwise (·<·))(hl:es.length<1000000)(q:Int) :
  AC C 191 [v,I q] (.tup [I (if q<0 then 0 else es.countP (·<q.toNat):Nat),.bool (decide (q.toNat∈es∧0≤q))]):=by
 have h1:es.countP (fun(z:Nat)=>decide ((z:Int)<q))=if q<0 then 0 else es.countP (·<q.toNat):=by
  split
  ·rw[List.countP_eq_zero];intro x hx;simp;omega
  ·apply List.countP_congr
   intro x hx;simp<;>try omega
 rw[←h1]
 have hc:=List.countP_le_length (p:=fun(z:Nat)=>decide ((z:Int)<q)) (l:=es)
 obtain⟨N,p⟩:=bin_loop v es hv hs hl q es.length 0 es.length (by omega) (Nat.zero_le _) hc (Nat.le_refl _)
 refine .intro en191 (by simp[noRefL_cons,noRefL_nil,hv.noRef,noRef_int]) rfl ⟨N+es.length+1,fun n hn=>⟨[],?_⟩⟩
 have st:=hv.strip
 have l:=hv.len
 have p:=p n (by omega) n (by omega) n
 rw[F191_eq,F191]
 simp -implicitDefEqProofs only[sL,st,l]
 exact p _ _ (by simp[upds_at,upd_at]) (by simp[upds_at,upd_at]) (by simp[upds_at,upd_at]) (by simp[upds_at,upd_at,argEnv]) (by simp[upds_at,upd_at,argEnv])
theorem resume_run (v:AV)(es:List Nat)(hv:IsN v es)(hs:es.Pairwise (·<·))(hl:es.length<1000000)(q:Int):AC C 130 [v,I q] (I (resume es q)):=by
 refine .intro en130 (by simp[noRefL_cons,noRefL_nil,hv.noRef,noRef_int]) rfl ?_
 obtain⟨N,h⟩:=AC.at (bin_run v es hv hs hl q)
 have st:=hv.strip
 refine⟨N,fun n hn=>⟨[],?_⟩⟩
 have h:=h n hn
 rw[F130_eq,F130]
 unfold resume
 by_cases c:q=0
 ·have z:(q==0)=true:=by simp[c]
  rw[if_pos c]
  simp -implicitDefEqProofs only[sL,z]
 ·have z:(q==0)=false:=by simp[c]
  rw[if_neg c]
  by_cases c2:q.toNat∈es∧0≤q
  ·rw[decide_eq_true c2,if_neg (by omega)]at h
   rw[if_pos c2]
   have hcl:=List.countP_le_length (p:=fun x=>decide (x<q.toNat)) (l:=es)
   have e2:IntKind.i64.wrap (((es.countP (·<q.toNat):Nat):Int)+1)=((es.countP (·<q.toNat):Nat):Int)+1:=by rw[wrap64]<;>omega
   simp -implicitDefEqProofs only[sL,z,st,h,e2]
  ·rw[decide_eq_false c2]at h
   rw[if_neg c2]
   simp -implicitDefEqProofs only[sL,z,st,h]
theorem equal_loop (v u:AV)(ts:List Tok)(hv:IsT v ts)(hu:IsT u ts)(ht:ts.length<100000):∀(k i:Nat),ts.length-i=k→i≤ts.length→∀D m,k<m→∀n' e s,e 0=v→e 1=u→e 12=I ts.length→e 13=I i →
  aLoop (F127_L0 D n') m e s=some (.bool true,s):=by
 intro k
 induction k with
 | zero =>
  intro i hk hi D m hm n' e s h0 h1 h12 h13
  obtain⟨m,rfl⟩:∃j,m=j+1:=⟨m-1,by omega⟩
  have c:¬i<ts.length:=by omega
  rw[aLoop,F127_L0]
  simp -implicitDefEqProofs only[sL,h0,h1,h12,h13,c]
 | succ k ih =>
  intro i hk hi D m hm n' e s h0 h1 h12 h13
  obtain⟨m,rfl⟩:∃j,m=j+1:=⟨m-1,by omega⟩
  have c:i<ts.length:=by omega
  have e1:=hv.at (List.getElem?_eq_getElem c)
  have e1':=hu.at (List.getElem?_eq_getElem c)
  have e2:=wadd1 (a:=i) (by omega)
  have st:=hv.strip
  have st':=hu.strip
  rw[aLoop,F127_L0]
  simp -implicitDefEqProofs only[sL,h0,h1,h12,h13,c,st,st',e1,e1',e2,load2',eq39,d127_6]
  exact ih (i+1) (by omega) (by omega) D m (by omega) n' _ s (by simp[upds_at,upd_at,h0]) (by simp[upds_at,upd_at,h1]) (by simp[upds_at,upd_at,h12]) (by simp[upds_at,upd_at])
theorem equal_run (v u:AV)(ts:List Tok)(hv:IsT v ts)(hu:IsT u ts)(ht:ts.length<100000):AC C 127 [v,u] (.bool true):=by
 refine .intro en127 (by simp[noRefL_cons,noRefL_nil,hv.noRef,hu.noRef]) rfl ⟨ts.length+1,fun n hn=>⟨[],?_⟩⟩
 have st:=hv.strip
 have l:=hv.len
 have st':=hu.strip
 have l':=hu.len
 have z:((ts.length:Int) != (ts.length:Int))=false:=by simp
 rw[F127_eq,F127]
 simp -implicitDefEqProofs only[sL,st,st',l,l',z]
 exact equal_loop v u ts hv hu ht _ 0 rfl (by omega) (den C n) n (by omega) n _ _ (by simp[upds_at,upd_at,argEnv]) (by simp[upds_at,upd_at,argEnv]) (by simp[upds_at,upd_at]) (by simp[upds_at,upd_at])
def IsO (v:AV)(ts:List Tok):Prop:=v=.sl 80 2 (tv ts) .own∨(ts=[]∧v=.nils)
theorem IsO.strip {v:AV}{ts:List Tok}(h:IsO v ts):IsT v.strip ts:=by
 rcases h with rfl|⟨rfl,rfl⟩
 ·exact .inl rfl
 ·exact .inr ⟨rfl,rfl⟩
theorem IsO.noRef {v:AV}{ts:List Tok}(h:IsO v ts):v.noRef=true:=by
 rcases h with rfl|⟨_,rfl⟩
 ·simp only[noRef_sl,tv_noRef]
 ·rfl
theorem IsO.app {v u:AV}{ts ys:List Tok}(h:IsO v ts)(hu:u=.sl 80 2 (tv ys) .sh∨u=.sl 80 2 (tv ys) .own∨(ys=[]∧u=.nils))(hl:ts.length+ys.length<1000000):∃w,aAppend Tryz.prog 74 74 v u=some w∧IsO w (ts++ys):=by
 obtain⟨i,h1,h2,h3,z,h4,h5⟩:=info39
 have key:srcOf 2 u=some (tv ys):=by rcases hu with rfl|rfl|⟨rfl,rfl⟩<;>rfl
 unfold aAppend
 rw[under35]
 simp only[h1,h2,key,if_true,h4,h5,ne_eq,not_true,if_false,h3]
 rcases h with rfl|⟨rfl,rfl⟩
 ·refine⟨.sl 80 2 (tv (ts++ys)) .own,?_,.inl rfl⟩
  simp only[tv,List.length_map,List.map_append]
  rw[if_pos ⟨trivial,trivial,by omega,by omega⟩]
 ·simp only[List.length_nil,Nat.zero_add]at hl
  simp only[tv,List.length_map,List.nil_append]
  rw[if_pos (by omega)]
  cases ys with
  | nil=>exact⟨_,rfl,.inr ⟨rfl,rfl⟩⟩
  | cons y r=>exact⟨_,rfl,.inl rfl⟩
theorem nil35 (xs:List AV)(f:Flag):aBin Tryz.prog .eql 74 (.sl 80 2 xs f) .nils=some (.bool false):=by kernel_rfl
theorem nil35':aBin Tryz.prog .eql 74 .nils .nils=some (.bool true):=by kernel_rfl
theorem bs35z:aBuildSlice Tryz.prog 74 0 []=some (.sl 80 2 [] .own):=by kernel_rfl
theorem clone_run (v:AV)(ts:List Tok)(hv:IsT v ts)(hl:ts.length<100000):∃u,IsO u ts∧AC C 129 [v] u:=by
 rcases hv with rfl|⟨rfl,rfl⟩
 ·obtain⟨w,hw,ho⟩:=(show IsO (.sl 80 2 [] .own) [] from .inl rfl).app (u:=.sl 80 2 (tv ts) .sh) (ys:=ts) (.inl rfl) (by simp;omega)
  rw[List.nil_append]at ho
  refine⟨w,ho,.intro en129 (by simp[noRefL_cons,noRefL_nil,noRef_sl,tv_noRef]) ho.noRef ⟨0,fun n hn=>⟨[],?_⟩⟩⟩
  rw[F129_eq,F129]
  simp -implicitDefEqProofs only[sL,strip_sh,nil35,bs35z,hw]
 ·refine⟨.nils,.inr ⟨rfl,rfl⟩,.intro en129 rfl rfl ⟨0,fun n hn=>⟨[],?_⟩⟩⟩
  rw[F129_eq,F129]
  simp -implicitDefEqProofs only[sL,nil35']
end LexF
end

section
set_option maxRecDepth 100000
namespace LexF
open Go Go.Abs Go.Proofs ParF RepF
theorem offOf_mono {l:List UInt8}{i k:Nat}(h:i<k)(hk:k≤(tokz l).length):offOf (tokz l) i<offOf (tokz l) k:=by
 have ht:=tokz_text _ l (Nat.le_refl _)
 generalize tokz l=ts at *
 have key:∀(ts:List Tok)(i k:Nat),(∀t∈ts,t.2≠[])→i<k→k≤ts.length→offOf ts i<offOf ts k:=by
  intro ts
  induction ts with
  | nil=>intro i k _ h hk;simp at hk;omega
  | cons t r ih =>
   intro i k hn h hk
   obtain⟨k,rfl⟩:∃q,k=q+1:=⟨k-1,by omega⟩
   have hp:0<t.2.length:=List.length_pos_iff.2 (hn t (by simp))
   have e:∀j,offOf (t::r) (j+1)=t.2.length+offOf r j:=fun j=>by simp[offOf,srcOfT]
   cases i with
   | zero=>rw[e];simp[offOf,srcOfT];omega
   | succ i =>
    rw[e,e]
    have:=ih i k (fun x hx=>hn x (by simp[hx])) (by omega) (by simpa using hk)
    omega
 exact key ts i k ht h hk
theorem subBothN {s:List UInt8}{i j:Nat}(h1:i≤j)(h2:j≤s.length):aSl Tryz.prog 9 (.str s) (some (I i)) (some (I j)) none=some (.str ((s.drop i).take (j-i))):=by
 have:=EdF.subBoth (s:=s) (i:=(i:Int)) (j:=(j:Int)) (by omega) (by omega) (by omega)
 rw[this,Int.toNat_natCast,Int.toNat_natCast,List.drop_take]
section
variable (src t:List UInt8)(a b:Nat)
def nextOf:List UInt8:=src.take a++t++src.drop b
variable {src t a b}
theorem next_len (hab:a≤b)(hb:b≤src.length):(nextOf src t a b).length=a+t.length+(src.length-b):=by
 unfold nextOf
 simp only[List.length_append,List.length_take,List.length_drop]
 omega
theorem next_tail (hab:a≤b)(hb:b≤src.length){o q:Nat}(hq:b≤q)(ho:o=q+t.length+a-b):(nextOf src t a b).drop o=src.drop q:=by
 unfold nextOf
 have e:o=(src.take a++t).length+(q-b):=by simp only[List.length_append,List.length_take];omega
 rw[e,List.drop_append,List.drop_of_length_le (by omega),List.nil_append,List.drop_drop]
 congr 1
 omega
theorem update2 (hs:src.length≤2000)(hab:a≤b)(hb:b≤src.length)(hn:(nextOf src t a b).length≤2000)(v ew:AV)(hv:IsT v (tokz src))(he:IsN ew (ends 0 (tokz src)))(K:Nat)(hK:K≤(tokz src).length)(hKa:offOf (tokz src) K≤a)(tx:AV) :
  ∀(k o:Nat)(R:List Tok)(u:AV),(nextOf src t a b).length-o≤k→o≤(nextOf src t a b).length→tokz (nextOf src t a b)=R++tokz ((nextOf src t a b).drop o)→K≤R.length→IsO u R →
  ∃w r,IsT (AV.strip w) (tokz (nextOf src t a b))∧w.noRef=true∧r≤(tokz src).length∧r≤(tokz (nextOf src t a b)).length∧∃N,∀n,N≤n→∀m,k<m→∀n' e s,e 15=I o→e 9=.str (nextOf src t a b)→e 13=ew→e 17=I ((nextOf src t a b).length-src.length:Int)→e 5=.box [I a,I b,tx] 0→e 16=u→e 11=v→e 14=I K →
   aLoop (F69_L1 (den C n) n') m e s=some (.tup [w,I r,I 0],s):=by
 have hold:=tokz_length src
 have hnew:=tokz_length (nextOf src t a b)
 have hmono:=(ends_mono (tokz src) 0 (tokz_text _ src (Nat.le_refl _))).1
 have hel:(ends 0 (tokz src)).length<1000000:=by rw[ends_length];omega
 have hnl:=next_len (t:=t) hab hb
 have hold':=hv.len
 have stv:=hv.strip
 have ste:=he.strip
 intro k
 induction k with
 | zero =>
  intro o R u hk ho hR hKR hu
  have hd:tokz ((nextOf src t a b).drop o)=[]:=by rw[List.drop_of_length_le (by omega)];rfl
  rw[hd,List.append_nil]at hR
  refine⟨u.strip,K,by rw[hR,hu.strip.strip];exact hu.strip,hu.strip.noRef,hK,by rw[hR];exact hKR,0,fun n _ m hm n' e s h15 h9 h13 h17 h5 h16 h11 h14=>?_⟩
  obtain⟨m,rfl⟩:∃j,m=j+1:=⟨m-1,by omega⟩
  have c:¬o<(nextOf src t a b).length:=by omega
  rw[aLoop,F69_L1]
  simp -implicitDefEqProofs only[sL,h15,h9,h13,h17,h5,h16,h11,h14,len9,c]
 | succ k ih =>
  intro o R u hk ho hR hKR hu
  by_cases c:o<(nextOf src t a b).length
  ·have w1:IntKind.i64.wrap ((o:Int)-((nextOf src t a b).length-src.length:Int))=(o:Int)-((nextOf src t a b).length-src.length:Int):=by rw[wrap64]<;>omega
   obtain⟨N1,q1⟩:=AC.at (resume_run ew _ he hmono hel ((o:Int)-((nextOf src t a b).length-src.length:Int)))
   by_cases hc:(b:Int)≤(o:Int)-((nextOf src t a b).length-src.length:Int)∧0≤resume (ends 0 (tokz src)) ((o:Int)-((nextOf src t a b).length-src.length:Int))
   ·obtain⟨hc1,hc2⟩:=hc
    obtain⟨i,hi1,hi2,hi3⟩:=resume_ok hc2
    obtain⟨y,hy1,hy2⟩:=hv.drop hi2
    have hyt:y=.sl 80 2 (tv ((tokz src).drop i)) .sh∨y=.sl 80 2 (tv ((tokz src).drop i)) .own∨((tokz src).drop i=[]∧y=.nils):=by
     rcases hy2 with h|h
     ·exact .inl h
     ·exact .inr (.inr h)
    have htail:tokz ((nextOf src t a b).drop o)=(tokz src).drop i:=by
     rw[next_tail (t:=t) hab hb (o:=o) (q:=offOf (tokz src) i) (by omega) (by omega),tokz_from]
    have hRl:R.length+((tokz src).drop i).length=(tokz (nextOf src t a b)).length:=by
     rw[hR,htail,List.length_append]
    have hKi:K≤i:=by
     by_cases h:K≤i
     ·exact h
     ·have:=offOf_mono (l:=src) (i:=i) (k:=K) (by omega) hK
      omega
    have hdl:((tokz src).drop i).length=(tokz src).length-i:=List.length_drop
    obtain⟨w,hw1,hw2⟩:=hu.app hyt (by omega)
    refine⟨w,K+(tokz src).length-i,by rw[hR,htail];exact hw2.strip,hw2.noRef,by omega,by omega,N1,fun n hn m hm n' e s h15 h9 h13 h17 h5 h16 h11 h14=>?_⟩
    obtain⟨m,rfl⟩:∃j,m=j+1:=⟨m-1,by omega⟩
    have q1:=q1 n hn
    rw[hi1]at q1
    have w2:=wadd (a:=K) (b:=(tokz src).length) (by omega)
    have w3:IntKind.i64.wrap (((K+(tokz src).length:Nat):Int)-(i:Int))=((K+(tokz src).length-i:Nat):Int):=by rw[wrap64]<;>omega
    have z:(0:Int)≤(i:Int):=by omega
    rw[aLoop,F69_L1]
    simp -implicitDefEqProofs only[sL,h15,h9,h13,h17,h5,h16,h11,h14,len9,c,ste,stv,w1,w2,w3,q1,hc1,z,hy1,hw1,hold']
   ·have hlt:((nextOf src t a b).drop o)≠[]:=by
     intro e
     have:=congrArg List.length e
     rw[List.length_drop,List.length_nil]at this
     omega
    obtain⟨x,r,hx⟩:∃x r,(nextOf src t a b).drop o=x::r:=by
     cases h:(nextOf src t a b).drop o with
     | nil=>exact absurd h hlt
     | cons x r=>exact⟨x,r,rfl⟩
    have hxl:(x::r).length=(nextOf src t a b).length-o:=by rw[←hx,List.length_drop]
    have hb2:=first_bounds (x::r) (by simp)
    obtain⟨N2,q2⟩:=AC.at (first_run x r (by omega))
    have htok:=tokz_cons (l:=x::r) (by simp)
    have e3:=subBothN (s:=nextOf src t a b) (i:=o) (j:=o+(first (x::r)).1) (by omega) (by omega)
    rw[hx,Nat.add_sub_cancel_left]at e3
    have hdd:(x::r).drop (first (x::r)).1=(nextOf src t a b).drop (o+(first (x::r)).1):=by rw[←hx,List.drop_drop]
    rw[hx,htok,hdd]at hR
    unfold firstV at q2
    generalize (first (x::r)).1=z at *
    generalize (first (x::r)).2=y at *
    generalize (x::r).take z=tk at *
    obtain⟨w,hw1,hw2⟩:=hu.app (u:=.sl 80 2 (tv [(y,tk)]) .own) (ys:=[(y,tk)]) (.inr (.inl rfl)) (by
     have:=congrArg List.length hR
     simp only[List.length_append,List.length_cons]at this
     simp only[List.length_cons,List.length_nil]
     omega)
    have hR':tokz (nextOf src t a b)=(R++[(y,tk)])++tokz ((nextOf src t a b).drop (o+z)):=by rw[hR,List.append_assoc];rfl
    obtain⟨w',r',k1,k2,k3,k4,N3,q3⟩:=ih (o+z) (R++[(y,tk)]) w (by omega) (by omega) hR' (by rw[List.length_append];omega) hw2
    refine⟨w',r',k1,k2,k3,k4,max N1 (max N2 N3),fun n hn m hm n' e s h15 h9 h13 h17 h5 h16 h11 h14=>?_⟩
    simp only[Nat.max_le]at hn
    obtain⟨m,rfl⟩:∃j,m=j+1:=⟨m-1,by omega⟩
    have q1:=q1 n (by omega)
    have q2:=q2 n (by omega)
    have e1:=subDrop (s:=nextOf src t a b) (i:=o) (by omega)
    rw[hx]at e1
    have w2:=wadd (a:=o) (b:=z) (by omega)
    have b1:=build39 y tk
    have b2:aBuildSlice Tryz.prog 74 1 [(0,.agg [I y,.str tk])]=some (.sl 80 2 [.agg [I y,.str tk]] .own):=by kernel_rfl
    have hw1:aAppend Tryz.prog 74 74 u (.sl 80 2 [.agg [I y,.str tk]] .own)=some w:=hw1
    have step:=q3 n (by omega) m (by omega) n'
    rw[aLoop,F69_L1]
    by_cases hc1:(b:Int)≤(o:Int)-((nextOf src t a b).length-src.length:Int)
    ·have hc2:¬0≤resume (ends 0 (tokz src)) ((o:Int)-((nextOf src t a b).length-src.length:Int)):=fun h=>hc ⟨hc1,h⟩
     simp -implicitDefEqProofs only[sL,h15,h9,h13,h17,h5,h16,h11,h14,len9,c,ste,stv,w1,w2,q1,q2,hc1,hc2,e1,e3,b1,b2,hw1]
     exact step _ s (by simp[upds_at,upd_at]) (by simp[upds_at,upd_at,h9]) (by simp[upds_at,upd_at,h13]) (by simp[upds_at,upd_at,h17]) (by simp[upds_at,upd_at,h5]) (by simp[upds_at,upd_at]) (by simp[upds_at,upd_at,h11]) (by simp[upds_at,upd_at,h14])
    ·simp -implicitDefEqProofs only[sL,h15,h9,h13,h17,h5,h16,h11,h14,len9,c,ste,stv,w1,w2,q1,q2,hc1,e1,e3,b1,b2,hw1]
     exact step _ s (by simp[upds_at,upd_at]) (by simp[upds_at,upd_at,h9]) (by simp[upds_at,upd_at,h13]) (by simp[upds_at,upd_at,h17]) (by simp[upds_at,upd_at,h5]) (by simp[upds_at,upd_at]) (by simp[upds_at,upd_at,h11]) (by simp[upds_at,upd_at,h14])
  ·have hd:tokz ((nextOf src t a b).drop o)=[]:=by rw[List.drop_of_length_le (by omega)];rfl
   rw[hd,List.append_nil]at hR
   refine⟨u.strip,K,by rw[hR,hu.strip.strip];exact hu.strip,hu.strip.noRef,hK,by rw[hR];exact hKR,0,fun n _ m hm n' e s h15 h9 h13 h17 h5 h16 h11 h14=>?_⟩
   obtain⟨m,rfl⟩:∃j,m=j+1:=⟨m-1,by omega⟩
   rw[aLoop,F69_L1]
   simp -implicitDefEqProofs only[sL,h15,h9,h13,h17,h5,h16,h11,h14,len9,c]
end
end LexF
end

section
set_option maxRecDepth 100000
namespace LexF
open Go Go.Abs Go.Proofs ParF RepF
theorem offOf_cons (t:Tok)(r:List Tok)(k:Nat):offOf (t::r) (k+1)=t.2.length+offOf r k:=by simp[offOf,srcOfT]
theorem keep_iff (a:Nat):∀(ts:List Tok)(o i:Nat),i≤keep a o ts→(i<keep a o ts ↔ i<ts.length∧o+offOf ts (i+1)<a)
 | [],o,i,h=>by simp[keep]at h ⊢
 | t::r,o,i,h=>by
  simp only[keep]at h ⊢
  rw[offOf_cons]
  split at h
  ·rename_i hlt
   rw[if_pos hlt]
   cases i with
   | zero=>simp[offOf,srcOfT];omega
   | succ i =>
    have:=keep_iff a r (o+t.2.length) i (by omega)
    simp only[List.length_cons]
    rw[Nat.add_lt_add_iff_right,this,Nat.add_lt_add_iff_right,Nat.add_assoc]
  ·rename_i hlt
   have:i=0:=by omega
   subst this
   rw[if_neg hlt]
   simp[offOf,srcOfT];omega
theorem IsT.take {v:AV}{ts:List Tok}(h:IsT v ts){i:Nat}(hi:i≤ts.length):∃u,aSl Tryz.prog 74 v none (some (I i)) none=some u∧IsT u (ts.take i):=by
 rcases h with rfl|⟨rfl,rfl⟩
 ·exact⟨.sl 80 2 (tv (ts.take i)) .sh,by simp[aSl,under35,sz39,aSlice,aBound,hi,List.map_take],.inl rfl⟩
 ·have:i=0:=by simpa using hi
  subst this
  exact⟨.nils,by simp[aSl,under35],.inr ⟨rfl,rfl⟩⟩
section
variable {src t:List UInt8}{a b:Nat}
theorem update1 (hs:src.length≤2000)(hab:a≤b)(hb:b≤src.length)(hn:(nextOf src t a b).length≤2000)(v ew:AV)(hv:IsT v (tokz src))(he:IsN ew (ends 0 (tokz src)))(tx:AV)(htx:tx.strip=tx) :
  ∃w r,IsT (AV.strip w) (tokz (nextOf src t a b))∧w.noRef=true∧r≤(tokz src).length∧r≤(tokz (nextOf src t a b)).length∧∃N,∀n,N≤n→∀(k i:Nat),keep a 0 (tokz src)-i=k→i≤keep a 0 (tokz src)→∀m,k<m→∀n',(nextOf src t a b).length<n'→∀e s,e 14=I i→e 15=I (offOf (tokz src) i)→e 9=.str (nextOf src t a b)→e 0=.str src→e 13=ew→e 5=.box [I a,I b,tx] 0→e 11=v →
   aLoop (F69_L0 (den C n) n') m e s=some (.tup [w,I r,I 0],s):=by
 have hold:=tokz_length src
 have hK:=keep_le a (tokz src) 0
 have hnl:=next_len (t:=t) hab hb
 obtain⟨kt1,kt2⟩:=keep_tokz (t++src.drop b) a _ src 0 (Nat.le_refl _) (by omega) (by omega) (keep a 0 (tokz src)) (Nat.le_refl _)
 rw[Nat.sub_zero]at kt1
 have hne:src.take a++(t++src.drop b)=nextOf src t a b:=by unfold nextOf;rw[List.append_assoc]
 rw[hne]at kt1
 rw[Nat.zero_add]at kt2
 obtain⟨u,hu1,hu2⟩:=hv.take hK
 obtain⟨y,hy1,hy2⟩:=clone_run u _ hu2 (by rw[List.length_take];omega)
 have hoff:offOf (tokz src) (keep a 0 (tokz src))≤(nextOf src t a b).length:=by omega
 obtain⟨w,r,h1,h2,h3,h4,N1,q1⟩:=update2 hs hab hb hn v ew hv he (keep a 0 (tokz src)) hK kt2 tx (nextOf src t a b).length _ _ y (by omega) hoff kt1 (by rw[List.length_take];omega) hy1
 obtain⟨N2,q2⟩:=AC.at hy2
 have ste:=he.strip
 have stv:=hv.strip
 have stu:=hu2.strip
 have hl:=hv.len
 refine⟨w,r,h1,h2,h3,h4,max N1 N2,fun n hn'=>?_⟩
 simp only[Nat.max_le]at hn'
 have q1:=q1 n (by omega)
 have q2:=q2 n (by omega)
 have w1:IntKind.i64.wrap (((nextOf src t a b).length:Int)-(src.length:Int))=((nextOf src t a b).length:Int)-(src.length:Int):=by rw[wrap64]<;>omega
 intro k
 induction k with
 | zero =>
  intro i hk hi m hm n' hnn e s h14 h15 h9 h0 h13 h5 h11
  have hi':i=keep a 0 (tokz src):=by omega
  obtain⟨m,rfl⟩:∃j,m=j+1:=⟨m-1,by omega⟩
  have iff:=keep_iff a (tokz src) 0 i hi
  rw[hi']at h14 h15 iff
  rw[aLoop,F69_L0]
  by_cases c:keep a 0 (tokz src)<(tokz src).length
  ·have c2:¬offOf (tokz src) (keep a 0 (tokz src)+1)<a:=by
    intro hlt
    have:=iff.2 ⟨c,by omega⟩
    omega
   have hat:=ends_at (tokz src) 0 _ c
   rw[Nat.zero_add]at hat
   have e1:=he.at hat
   have e1:aIndexAddr Tryz.prog 76 ew (I (keep a 0 (tokz src)))=some (.box [I (offOf (tokz src) (keep a 0 (tokz src)+1))] 0):=e1
   simp -implicitDefEqProofs only[sL,h14,h15,h9,h0,h13,h5,h11,c,c2,e1,hl,ste,stv,stu,len9,hu1,q2,w1,d69_13]
   exact q1 n' (by omega) n' _ s (by simp[upds_at,upd_at,h15]) (by simp[upds_at,upd_at,h9]) (by simp[upds_at,upd_at,h13]) (by simp[upds_at,upd_at]) (by simp[upds_at,upd_at,h5]) (by simp[upds_at,upd_at]) (by simp[upds_at,upd_at,h11]) (by simp[upds_at,upd_at,h14])
  ·simp -implicitDefEqProofs only[sL,h14,h15,h9,h0,h13,h5,h11,c,hl,ste,stv,stu,len9,hu1,q2,w1,d69_13]
   exact q1 n' (by omega) n' _ s (by simp[upds_at,upd_at,h15]) (by simp[upds_at,upd_at,h9]) (by simp[upds_at,upd_at,h13]) (by simp[upds_at,upd_at]) (by simp[upds_at,upd_at,h5]) (by simp[upds_at,upd_at]) (by simp[upds_at,upd_at,h11]) (by simp[upds_at,upd_at,h14])
 | succ k ih =>
  intro i hk hi m hm n' hnn e s h14 h15 h9 h0 h13 h5 h11
  obtain⟨m,rfl⟩:∃j,m=j+1:=⟨m-1,by omega⟩
  obtain⟨c,c2⟩:=(keep_iff a (tokz src) 0 i hi).1 (by omega)
  rw[Nat.zero_add]at c2
  have hat:=ends_at (tokz src) 0 _ c
  rw[Nat.zero_add]at hat
  have e1:aIndexAddr Tryz.prog 76 ew (I i)=some (.box [I (offOf (tokz src) (i+1))] 0):=he.at hat
  have e2:=wadd1 (a:=i) (by omega)
  rw[aLoop,F69_L0]
  simp -implicitDefEqProofs only[sL,h14,h15,h9,h0,h13,h5,h11,c,c2,e1,e2,hl,ste,stv,d69_13]
  exact ih (i+1) (by omega) (by omega) m (by omega) n' hnn _ s (by simp[upds_at,upd_at]) (by simp[upds_at,upd_at]) (by simp[upds_at,upd_at,h9]) (by simp[upds_at,upd_at,h0]) (by simp[upds_at,upd_at,h13]) (by simp[upds_at,upd_at,h5]) (by simp[upds_at,upd_at,h11])
theorem update_run (hs:src.length≤2000)(hab:a≤b)(hb:b≤src.length)(hn:(nextOf src t a b).length≤2000)(v:AV)(hv:IsT v (tokz src)) :
  ∃w r,IsT (AV.strip w) (tokz (nextOf src t a b))∧r≤(tokz src).length∧r≤(tokz (nextOf src t a b)).length∧AC C 69 [.str src,v,.agg [I a,I b,.str t]] (.tup [w,I r,I 0]):=by
 have hold:=tokz_length src
 have hnl:=next_len (t:=t) hab hb
 have hsrc:=tokz_src _ src (Nat.le_refl _)
 have hva:=accV_strip (tokz src)
 have hends:=ends_run _ (tokz src) hva (by omega) (by rw[hsrc];omega)
 obtain⟨w,r,h1,h2,h3,h4,N1,q1⟩:=update1 (t:=t) hs hab hb hn _ _ hva (accI_strip (ends 0 (tokz src))) (.str t) rfl
 refine⟨w,r,h1,h3,h4,.intro en69 (by simp[noRefL_cons,noRefL_nil,noRef_str,hv.noRef,noRef_agg,noRef_int]) (by simp[noRef_tup,noRefL_cons,noRefL_nil,h2,noRef_int]) ?_⟩
 have hap:=EdF.apply_run src (.sl 67 3 (EdF.eds [⟨a,b,t⟩]) .sh) [⟨a,b,t⟩] (.inl rfl) (by intro x hx;simp at hx;subst hx;simp;omega)
 have hval:EdF.validate src [⟨a,b,t⟩]=0:=by
  unfold EdF.validate
  rw[if_neg (by simp;omega)]
  unfold EdF.valid
  simp only
  rw[if_neg (by omega)]
  unfold EdF.valid
  rw[if_neg (by omega)]
 have hS:EdF.applyS src 0 [⟨a,b,t⟩]=nextOf src t a b:=by
  simp[EdF.applyS,nextOf]
 rw[if_pos hval,hS]at hap
 obtain⟨N2,q2⟩:=AC.at hap
 obtain⟨N3,q3⟩:=AC.at (tok_run src)
 unfold tokR at q3
 rw[if_neg (by omega)]at q3
 obtain⟨N4,q4⟩:=AC.at (equal_run _ v (tokz src) hva hv (by omega))
 obtain⟨N5,q5⟩:=AC.at hends
 have st1:=hva.strip
 have st2:=hv.strip
 have st3:=(accI_strip (ends 0 (tokz src))).strip
 generalize (accV (tokz src)).strip=va at *
 generalize (accI (ends 0 (tokz src))).strip=ia at *
 have bs:aBuildSlice Tryz.prog 22 1 [(0,.agg [I a,I b,.str t])]=some (.sl 67 3 [.agg [I a,I b,.str t]] .own):=by kernel_rfl
 refine⟨max N1 (max N2 (max N3 (max N4 (max N5 5000)))),fun n hn'=>⟨[],?_⟩⟩
 simp only[Nat.max_le]at hn'
 have q1:=q1 n (by omega) _ 0 rfl (by omega) n (by have:=keep_le a (tokz src) 0;omega) n (by omega)
 have q2:∀s,aCall Tryz.prog (den C n) 15 [.str src,.sl 67 3 [.agg [I a,I b,.str t]] .sh] s=_:=q2 n (by omega)
 have q3:=q3 n (by omega)
 have q4:=q4 n (by omega)
 have q5:=q5 n (by omega)
 have c1:¬(2000:Int)<(src.length:Int):=by omega
 have c2:¬(2000:Int)<((nextOf src t a b).length:Int):=by omega
 have z0:((0:Int) != 0)=false:=rfl
 rw[F69_eq,F69]
 simp -implicitDefEqProofs only[sL,len9,c1,c2,z0,aLoad_agg,List.length_cons,List.length_nil,List.drop_zero,List.take_succ_cons,List.take_zero,Nat.le_refl,bs,strip_own,strip_sh,q2,q3,q4,q5,st1,st2,st3]
 exact q1 _ _ (by simp[upds_at,upd_at]) (by simp[upds_at,upd_at,offOf,srcOfT]) (by simp[upds_at,upd_at]) (by simp[upds_at,upd_at,argEnv]) (by simp[upds_at,upd_at]) (by simp[upds_at,upd_at]) (by simp[upds_at,upd_at])
end
end LexF
end
