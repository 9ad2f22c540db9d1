/- LexF, LexT, LexA, LexB, LexE -/
import Derived.Test.YtkikcleofaeigaaGreatDoorC
import Derived.Lib.Bytealg
import Derived.Lib.Fields
set_option linter.all false

section
set_option maxRecDepth 10000
namespace LexF
open Go Go.Abs Go.Proofs ParF
-- lexer.Tokenize
noncomputable def F58_L0 (D : Den) (n : Nat) (k0 : Env → Heap → Ans) (e : Env) (s : Heap) : Ans :=
  oh (some ((e 0).strip, s)) fun t10 s =>
  oh (mp (aLen Tryz.prog 9 t10) s) fun t11 s =>
  oh (mp (aBin Tryz.prog .gtr 3 t11 (.int .i64 0)) s) fun t12 s =>
  br t12
    (oh (some ((e 0).strip, s)) fun t14 s =>
  oh (aCall Tryz.prog D 104 [t14.strip] s) fun t15 s =>
  oh (some (t15.strip, s)) fun t13 s =>
  oh (mp (aExtract 0 t13) s) fun t16 s =>
  oh (mp (aExtract 1 t13) s) fun t17 s =>
  oh (some (t16, s)) fun t5 s =>
  oh (some (t17, s)) fun t6 s =>
  oh (some ((e 4), s)) fun t18 s =>
  oh (some (t6.strip, s)) fun t19 s =>
  oh (some ((e 0).strip, s)) fun t20 s =>
  oh (some (t5.strip, s)) fun t21 s =>
  oh (mp (aSl Tryz.prog 9 t20 none (some t21) none) s) fun t22 s =>
  oh (mp (aBuild Tryz.prog 80 [(0, t19), (1, t22)]) s) fun t23 s =>
  oh (mp (aBuildSlice Tryz.prog 74 1 [(0, t23)]) s) fun t24 s =>
  oh (mp (aAppend Tryz.prog 74 74 t18 t24) s) fun t25 s =>
  oh (some (t25, s)) fun t4_2 s =>
  oh (some ((e 0).strip, s)) fun t26 s =>
  oh (some (t5.strip, s)) fun t27 s =>
  oh (mp (aSl Tryz.prog 9 t26 (some t27) none none) s) fun t28 s =>
  oh (some (t28, s)) fun t0_2 s =>
  k0 (upds e [(10, t10), (11, t11), (12, t12), (14, t14), (15, t15), (13, t13), (16, t16), (17, t17), (16, t16.strip), (5, t5), (17, t17.strip), (6, t6), (4, (e 4).strip), (18, t18), (19, t19), (20, t20), (21, t21), (22, t22), (23, t23), (24, t24), (18, t18.strip), (25, t25), (25, t25.strip), (4, t4_2), (26, t26), (27, t27), (28, t28), (28, t28.strip), (0, t0_2)]) s)
    (oh (some ((e 4).strip, s)) fun t29 s =>
  oh (some (t29, s)) fun t2_3 s =>
  oh (some ((.int .i64 0), s)) fun t3_3 s =>
  some (.tup [t2_3, t3_3], s))
noncomputable def F58 (D : Den) (n : Nat) (t0 : AV) (s : Heap) : Ans :=
  oh (some (.nils, s)) fun t2 s =>
  oh (some ((.int .i64 0), s)) fun t3 s =>
  oh (some (t0.strip, s)) fun t7 s =>
  oh (mp (aLen Tryz.prog 9 t7) s) fun t8 s =>
  oh (mp (aBin Tryz.prog .gtr 3 t8 (.int .i64 2000)) s) fun t9 s =>
  br t9
    (oh (some (.nils, s)) fun t2_2 s =>
  oh (some ((.int .i64 2), s)) fun t3_2 s =>
  some (.tup [t2_2, t3_2], s))
    (oh (some (.nils, s)) fun t4 s =>
  aLoop (F58_L0 D n) n (upds (argEnv [t0]) [(2, t2), (3, t3), (7, t7), (8, t8), (9, t9), (4, t4)]) s)
theorem F58_eq (n : Nat) (t0 : AV) (s : Heap) : den C (n + 1) 58 [t0] s = F58 (den C n) n t0 s :=
  (den_body rfl Tryz.func58 _ _).trans (by kernel_rfl)
theorem en58 : enterable Tryz.prog 58 = true := by kernel_rfl
-- lexer.First
noncomputable def F104 (D : Den) (n : Nat) (t0 : AV) (s : Heap) : Ans :=
  oh (some ((.int .i64 0), s)) fun t2 s =>
  oh (some ((.int .i64 0), s)) fun t3 s =>
  oh (some (t0.strip, s)) fun t6 s =>
  oh (mp (aIndex Tryz.prog 9 t6 (.int .i64 0)) s) fun t7 s =>
  oh (some (t7, s)) fun t4 s =>
  oh (some (t4.strip, s)) fun t9 s =>
  oh (aCall Tryz.prog D 161 [t9.strip] s) fun t10 s =>
  oh (some (t10, s)) fun t8 s =>
  br t8
    (oh (some (t0.strip, s)) fun t11 s =>
  oh (aCall Tryz.prog D 162 [t11.strip, (.int .i64 0), (.fn 161 [] [])] s) fun t12 s =>
  oh (some (t12, s)) fun t2_2 s =>
  oh (some ((.int .i64 101), s)) fun t3_2 s =>
  some (.tup [t2_2, t3_2], s))
    (oh (some (t0.strip, s)) fun t14 s =>
  oh (aCall Tryz.prog D 163 [t14.strip, (.str [47, 47])] s) fun t15 s =>
  oh (some (t15, s)) fun t13 s =>
  br t13
    (oh (some (t0.strip, s)) fun t16 s =>
  oh (aCall Tryz.prog D 162 [t16.strip, (.int .i64 0), (.fn 164 [] [])] s) fun t17 s =>
  oh (some (t17, s)) fun t2_3 s =>
  oh (some ((.int .i64 102), s)) fun t3_3 s =>
  some (.tup [t2_3, t3_3], s))
    (oh (some (t4.strip, s)) fun t19 s =>
  oh (aCall Tryz.prog D 165 [t19.strip] s) fun t20 s =>
  oh (some (t20, s)) fun t18 s =>
  br t18
    (oh (some (t0.strip, s)) fun t21 s =>
  oh (aCall Tryz.prog D 162 [t21.strip, (.int .i64 0), (.fn 166 [] [])] s) fun t22 s =>
  oh (some (t22, s)) fun t5 s =>
  oh (aCall Tryz.prog D 169 [] s) fun t23 s1 =>
  oh (some (t0.strip, s1)) fun t24 s2 =>
  oh (some (t5.strip, s2)) fun t25 s3 =>
  oh (mp (aSl Tryz.prog 9 t24 none (some t25) none) s3) fun t26 s4 =>
  oh (aCall Tryz.prog D 168 [t23.strip, t26.strip] s4) fun t27 s5 =>
  drawOK C 104 (regOps Tryz.f104 8) [(dyn (kCall []) s s1), .silent, .silent, .silent, (dyn (kCall [t23.strip, t26.strip]) s4 s5)] <|
  br t27
    (oh (some (t5.strip, s5)) fun t28 s =>
  oh (some (t28, s)) fun t2_4 s =>
  oh (some ((.int .i64 104), s)) fun t3_4 s =>
  some (.tup [t2_4, t3_4], s))
    (oh (some (t5.strip, s5)) fun t29 s =>
  oh (some (t29, s)) fun t2_5 s =>
  oh (some ((.int .i64 103), s)) fun t3_5 s =>
  some (.tup [t2_5, t3_5], s)))
    (oh (some (t4.strip, s)) fun t31 s =>
  oh (aCall Tryz.prog D 167 [t31.strip] s) fun t32 s =>
  oh (some (t32, s)) fun t30 s =>
  br t30
    (oh (some (t0.strip, s)) fun t33 s =>
  oh (aCall Tryz.prog D 162 [t33.strip, (.int .i64 0), (.fn 167 [] [])] s) fun t34 s =>
  oh (some (t34, s)) fun t2_6 s =>
  oh (some ((.int .i64 105), s)) fun t3_6 s =>
  some (.tup [t2_6, t3_6], s))
    (oh (some (t4.strip, s)) fun t36 s =>
  oh (mp (aBin Tryz.prog .eql 5 t36 (.int .u8 34)) s) fun t37 s =>
  oh (some (t37, s)) fun t35 s =>
  br t35
    (oh (some (t0.strip, s)) fun t38 s =>
  oh (aCall Tryz.prog D 170 [t38.strip] s) fun t39 s =>
  oh (mp (aExtract 0 t39) s) fun t40 s =>
  oh (mp (aExtract 1 t39) s) fun t41 s =>
  oh (some (t40, s)) fun t2_7 s =>
  oh (some (t41, s)) fun t3_7 s =>
  some (.tup [t2_7, t3_7], s))
    (oh (some (t0.strip, s)) fun t43 s6 =>
  oh (mp (aLen Tryz.prog 9 t43) s6) fun t44 s7 =>
  oh (mp (aBin Tryz.prog .gtr 3 t44 (.int .i64 1)) s7) fun t45 s8 =>
  oh (some (t45.strip, s8)) fun t46 s9 =>
  oh (gd (wA t46 true) s9 (aCall Tryz.prog D 171 [] s9)) fun t47 s10 =>
  oh (gd (wA t46 true) s10 (some (t0.strip, s10))) fun t48 s11 =>
  oh (gd (wA t46 true) s11 (mp (aSl Tryz.prog 9 t48 none (some (.int .i64 2)) none) s11)) fun t49 s12 =>
  oh (gd (wA t46 true) s12 (aCall Tryz.prog D 168 [t47.strip, t49.strip] s12)) fun t50 s13 =>
  oh (mp (aPick t46 t50 (.bool false)) s13) fun t51 s14 =>
  oh (some (t51, s14)) fun t42 s15 =>
  drawOK C 104 (regOps Tryz.f104 15) [.silent, .silent, .silent, .silent, (kGd (wA t46 true) (dyn (kCall []) s9 s10)), (kGd (wA t46 true) .silent), (kGd (wA t46 true) .silent), (kGd (wA t46 true) (dyn (kCall [t47.strip, t49.strip]) s12 s13)), .silent, .silent] <|
  br t42
    (oh (some ((.int .i64 2), s15)) fun t2_8 s =>
  oh (some ((.int .i64 107), s)) fun t3_8 s =>
  some (.tup [t2_8, t3_8], s))
    (oh (some (t4.strip, s15)) fun t53 s =>
  oh (aCall Tryz.prog D 172 [(.str [40, 41, 123, 125, 91, 93, 60, 62, 44, 59, 58, 46, 61, 43, 45, 42, 47, 33, 38, 124]), t53.strip] s) fun t54 s =>
  oh (mp (aBin Tryz.prog .geq 3 t54 (.int .i64 0)) s) fun t55 s =>
  oh (some (t55, s)) fun t52 s =>
  br t52
    (oh (some ((.int .i64 1), s)) fun t2_9 s =>
  oh (some ((.int .i64 107), s)) fun t3_9 s =>
  some (.tup [t2_9, t3_9], s))
    (oh (some ((.int .i64 1), s)) fun t2_10 s =>
  oh (some ((.int .i64 108), s)) fun t3_10 s =>
  some (.tup [t2_10, t3_10], s))))))))
theorem F104_eq (n : Nat) (t0 : AV) (s : Heap) : den C (n + 1) 104 [t0] s = F104 (den C n) n t0 s :=
  (den_body rfl Tryz.func104 _ _).trans (by kernel_rfl)
theorem d104_8 (x : Ans) : drawOK C 104 (regOps Tryz.f104 8) [.silent, .silent, .silent, .silent, .silent] x = x := drawOK_ok (by kernel_rfl)
theorem d104_15 (x : Ans) : drawOK C 104 (regOps Tryz.f104 15) [.silent, .silent, .silent, .silent, .silent, .silent, .silent, .silent, .silent, .silent] x = x := drawOK_ok (by kernel_rfl)
theorem en104 : enterable Tryz.prog 104 = true := by kernel_rfl
-- lexer.isSpace
noncomputable def F161 (D : Den) (n : Nat) (t0 : AV) (s : Heap) : Ans :=
  oh (some ((.bool false), s)) fun t2 s =>
  oh (some (t0.strip, s)) fun t3 s =>
  oh (aCall Tryz.prog D 172 [(.str [32, 9, 10, 13]), t3.strip] s) fun t4 s =>
  oh (mp (aBin Tryz.prog .geq 3 t4 (.int .i64 0)) s) fun t5 s =>
  oh (some (t5, s)) fun t2_2 s =>
  some (t2_2, s)
theorem F161_eq (n : Nat) (t0 : AV) (s : Heap) : den C (n + 1) 161 [t0] s = F161 (den C n) n t0 s :=
  (den_body rfl Tryz.func161 _ _).trans (by kernel_rfl)
theorem en161 : enterable Tryz.prog 161 = true := by kernel_rfl
-- lexer.scan
noncomputable def F162_L0 (D : Den) (n : Nat) (k0 : Env → Heap → Ans) (e : Env) (s : Heap) : Ans :=
  oh (some ((e 1).strip, s)) fun t7 s =>
  oh (some ((e 0).strip, s)) fun t8 s =>
  oh (mp (aLen Tryz.prog 9 t8) s) fun t9 s =>
  oh (mp (aBin Tryz.prog .lss 3 t7 t9) s) fun t10 s =>
  oh (some (t10.strip, s)) fun t11 s =>
  oh (gd (wA t11 true) s (some ((e 2).strip, s))) fun t12 s =>
  oh (gd (wA t11 true) s (some ((e 0).strip, s))) fun t13 s =>
  oh (gd (wA t11 true) s (some ((e 1).strip, s))) fun t14 s =>
  oh (gd (wA t11 true) s (mp (aIndex Tryz.prog 9 t13 t14) s)) fun t15 s =>
  oh (gd (wA t11 true) s (aCallV Tryz.prog D t12 [t15] s)) fun t16 s =>
  oh (mp (aPick t11 t16 (.bool false)) s) fun t17 s =>
  br t17
    (oh (some ((e 1).strip, s)) fun t18 s =>
  oh (mp (aBin Tryz.prog .add 3 t18 (.int .i64 1)) s) fun t19 s =>
  oh (some (t19, s)) fun t1_2 s =>
  k0 (upds e [(7, t7), (8, t8), (9, t9), (10, t10), (11, t11), (12, t12), (13, t13), (14, t14), (15, t15), (16, t16), (17, t17), (18, t18), (19, t19), (19, t19.strip), (1, t1_2)]) s)
    (oh (some ((e 1).strip, s)) fun t20 s =>
  oh (some (t20, s)) fun t6_2 s =>
  some (t6_2, s))
noncomputable def F162 (D : Den) (n : Nat) (t0 t1 t2 : AV) (s : Heap) : Ans :=
  oh (some ((.int .i64 0), s)) fun t6 s =>
  aLoop (F162_L0 D n) n (upds (argEnv [t0, t1, t2]) [(6, t6)]) s
theorem F162_eq (n : Nat) (t0 t1 t2 : AV) (s : Heap) : den C (n + 1) 162 [t0, t1, t2] s = F162 (den C n) n t0 t1 t2 s :=
  (den_body rfl Tryz.func162 _ _).trans (by kernel_rfl)
theorem en162 : enterable Tryz.prog 162 = true := by kernel_rfl
-- lexer.First 1
noncomputable def F164 (D : Den) (n : Nat) (t0 : AV) (s : Heap) : Ans :=
  oh (some ((.bool false), s)) fun t2 s =>
  oh (some (t0.strip, s)) fun t3 s =>
  oh (mp (aBin Tryz.prog .neq 5 t3 (.int .u8 10)) s) fun t4 s =>
  oh (some (t4, s)) fun t2_2 s =>
  some (t2_2, s)
theorem F164_eq (n : Nat) (t0 : AV) (s : Heap) : den C (n + 1) 164 [t0] s = F164 (den C n) n t0 s :=
  (den_body rfl Tryz.func164 _ _).trans (by kernel_rfl)
theorem en164 : enterable Tryz.prog 164 = true := by kernel_rfl
-- lexer.isLetter
noncomputable def F165 (D : Den) (n : Nat) (t0 : AV) (s : Heap) : Ans :=
  oh (some ((.bool false), s)) fun t2 s =>
  oh (some (t0.strip, s)) fun t3 s =>
  oh (mp (aBin Tryz.prog .geq 5 t3 (.int .u8 97)) s) fun t4 s =>
  oh (some (t4.strip, s)) fun t5 s =>
  oh (gd (wA t5 true) s (some (t0.strip, s))) fun t6 s =>
  oh (gd (wA t5 true) s (mp (aBin Tryz.prog .leq 5 t6 (.int .u8 122)) s)) fun t7 s =>
  oh (mp (aPick t5 t7 (.bool false)) s) fun t8 s =>
  oh (some (t8.strip, s)) fun t9 s =>
  oh (gd (wA t9 false) s (some (t0.strip, s))) fun t10 s =>
  oh (gd (wA t9 false) s (mp (aBin Tryz.prog .geq 5 t10 (.int .u8 65)) s)) fun t11 s =>
  oh (gd (wA t9 false) s (some (t11.strip, s))) fun t12 s =>
  oh (gd (wA t12 true) s (some (t0.strip, s))) fun t13 s =>
  oh (gd (wA t12 true) s (mp (aBin Tryz.prog .leq 5 t13 (.int .u8 90)) s)) fun t14 s =>
  oh (gd (wA t9 false) s (mp (aPick t12 t14 (.bool false)) s)) fun t15 s =>
  oh (mp (aPick t9 (.bool true) t15) s) fun t16 s =>
  oh (some (t16.strip, s)) fun t17 s =>
  oh (gd (wA t17 false) s (some (t0.strip, s))) fun t18 s =>
  oh (gd (wA t17 false) s (mp (aBin Tryz.prog .eql 5 t18 (.int .u8 95)) s)) fun t19 s =>
  oh (mp (aPick t17 (.bool true) t19) s) fun t20 s =>
  oh (some (t20, s)) fun t2_2 s =>
  some (t2_2, s)
theorem F165_eq (n : Nat) (t0 : AV) (s : Heap) : den C (n + 1) 165 [t0] s = F165 (den C n) n t0 s :=
  (den_body rfl Tryz.func165 _ _).trans (by kernel_rfl)
theorem en165 : enterable Tryz.prog 165 = true := by kernel_rfl
-- lexer.First 2
noncomputable def F166 (D : Den) (n : Nat) (t0 : AV) (s : Heap) : Ans :=
  oh (some ((.bool false), s)) fun t2 s =>
  oh (some (t0.strip, s)) fun t3 s =>
  oh (aCall Tryz.prog D 165 [t3.strip] s) fun t4 s =>
  oh (some (t4.strip, s)) fun t5 s =>
  oh (gd (wA t5 false) s (some (t0.strip, s))) fun t6 s =>
  oh (gd (wA t5 false) s (aCall Tryz.prog D 167 [t6.strip] s)) fun t7 s =>
  oh (mp (aPick t5 (.bool true) t7) s) fun t8 s =>
  oh (some (t8, s)) fun t2_2 s =>
  some (t2_2, s)
theorem F166_eq (n : Nat) (t0 : AV) (s : Heap) : den C (n + 1) 166 [t0] s = F166 (den C n) n t0 s :=
  (den_body rfl Tryz.func166 _ _).trans (by kernel_rfl)
theorem en166 : enterable Tryz.prog 166 = true := by kernel_rfl
-- lexer.isDigit
noncomputable def F167 (D : Den) (n : Nat) (t0 : AV) (s : Heap) : Ans :=
  oh (some ((.bool false), s)) fun t2 s =>
  oh (some (t0.strip, s)) fun t3 s =>
  oh (mp (aBin Tryz.prog .geq 5 t3 (.int .u8 48)) s) fun t4 s =>
  oh (some (t4.strip, s)) fun t5 s =>
  oh (gd (wA t5 true) s (some (t0.strip, s))) fun t6 s =>
  oh (gd (wA t5 true) s (mp (aBin Tryz.prog .leq 5 t6 (.int .u8 57)) s)) fun t7 s =>
  oh (mp (aPick t5 t7 (.bool false)) s) fun t8 s =>
  oh (some (t8, s)) fun t2_2 s =>
  some (t2_2, s)
theorem F167_eq (n : Nat) (t0 : AV) (s : Heap) : den C (n + 1) 167 [t0] s = F167 (den C n) n t0 s :=
  (den_body rfl Tryz.func167 _ _).trans (by kernel_rfl)
theorem en167 : enterable Tryz.prog 167 = true := by kernel_rfl
-- lexer.Keywords
noncomputable def F169 (D : Den) (n : Nat) (s : Heap) : Ans :=
  oh (some (.nils, s)) fun t0 s =>
  oh (aCall Tryz.prog D 174 [(.str [117, 115, 101, 32, 112, 117, 98, 32, 97, 115, 32, 102, 110, 32, 115, 116, 114, 117, 99, 116, 32, 101, 110, 117, 109, 32, 116, 114, 97, 105, 116, 32, 105, 109, 112, 108, 32, 102, 111, 114, 32, 99, 111, 110, 115, 116, 32, 109, 97, 99, 114, 111, 32, 108, 101, 116, 32, 109, 117, 116, 32, 119, 104, 105, 108, 101, 32, 114, 101, 116, 117, 114, 110, 32, 109, 97, 116, 99, 104, 32, 105, 102, 32, 101, 108, 115, 101, 32, 110, 101, 119, 32, 116, 114, 117, 101, 32, 102, 97, 108, 115, 101, 32, 116, 121, 112, 101])] s) fun t1 s =>
  oh (some (t1, s)) fun t0_2 s =>
  some (t0_2, s)
theorem F169_eq (n : Nat) (s : Heap) : den C (n + 1) 169 [] s = F169 (den C n) n s :=
  (den_body rfl Tryz.func169 _ _).trans (by kernel_rfl)
theorem en169 : enterable Tryz.prog 169 = true := by kernel_rfl
-- lexer.scanString
noncomputable def F170_J1 (D : Den) (n : Nat) (k0 : Env → Heap → Ans) (e : Env) (s : Heap) : Ans :=
  oh (some ((e 4).strip, s)) fun t15 s =>
  oh (mp (aBin Tryz.prog .add 3 t15 (.int .i64 1)) s) fun t16 s =>
  oh (some (t16, s)) fun t4_2 s =>
  k0 (upds e [(15, t15), (16, t16), (16, t16.strip), (4, t4_2)]) s
noncomputable def F170_L0 (D : Den) (n : Nat) (k0 : Env → Heap → Ans) (e : Env) (s : Heap) : Ans :=
  oh (some ((e 4).strip, s)) fun t5 s =>
  oh (some ((e 0).strip, s)) fun t6 s =>
  oh (mp (aLen Tryz.prog 9 t6) s) fun t7 s =>
  oh (mp (aBin Tryz.prog .lss 3 t5 t7) s) fun t8 s =>
  oh (some (t8.strip, s)) fun t9 s =>
  oh (gd (wA t9 true) s (some ((e 0).strip, s))) fun t10 s =>
  oh (gd (wA t9 true) s (some ((e 4).strip, s))) fun t11 s =>
  oh (gd (wA t9 true) s (mp (aIndex Tryz.prog 9 t10 t11) s)) fun t12 s =>
  oh (gd (wA t9 true) s (mp (aBin Tryz.prog .neq 5 t12 (.int .u8 10)) s)) fun t13 s =>
  oh (mp (aPick t9 t13 (.bool false)) s) fun t14 s =>
  br t14
    (oh (some ((e 0).strip, s)) fun t18 s =>
  oh (some ((e 4).strip, s)) fun t19 s =>
  oh (mp (aIndex Tryz.prog 9 t18 t19) s) fun t20 s =>
  oh (mp (aBin Tryz.prog .eql 5 t20 (.int .u8 34)) s) fun t21 s =>
  oh (some (t21, s)) fun t17 s =>
  br t17
    (oh (some ((e 4).strip, s)) fun t22 s =>
  oh (mp (aBin Tryz.prog .add 3 t22 (.int .i64 1)) s) fun t23 s =>
  oh (some (t23, s)) fun t2_2 s =>
  oh (some ((.int .i64 106), s)) fun t3_2 s =>
  some (.tup [t2_2, t3_2], s))
    (oh (some ((e 0).strip, s)) fun t25 s =>
  oh (some ((e 4).strip, s)) fun t26 s =>
  oh (mp (aIndex Tryz.prog 9 t25 t26) s) fun t27 s =>
  oh (mp (aBin Tryz.prog .eql 5 t27 (.int .u8 92)) s) fun t28 s =>
  oh (some (t28.strip, s)) fun t29 s =>
  oh (gd (wA t29 true) s (some ((e 4).strip, s))) fun t30 s =>
  oh (gd (wA t29 true) s (mp (aBin Tryz.prog .add 3 t30 (.int .i64 1)) s)) fun t31 s =>
  oh (gd (wA t29 true) s (some ((e 0).strip, s))) fun t32 s =>
  oh (gd (wA t29 true) s (mp (aLen Tryz.prog 9 t32) s)) fun t33 s =>
  oh (gd (wA t29 true) s (mp (aBin Tryz.prog .lss 3 t31 t33) s)) fun t34 s =>
  oh (mp (aPick t29 t34 (.bool false)) s) fun t35 s =>
  oh (some (t35.strip, s)) fun t36 s =>
  oh (gd (wA t36 true) s (some ((e 0).strip, s))) fun t37 s =>
  oh (gd (wA t36 true) s (some ((e 4).strip, s))) fun t38 s =>
  oh (gd (wA t36 true) s (mp (aBin Tryz.prog .add 3 t38 (.int .i64 1)) s)) fun t39 s =>
  oh (gd (wA t36 true) s (mp (aIndex Tryz.prog 9 t37 t39) s)) fun t40 s =>
  oh (gd (wA t36 true) s (mp (aBin Tryz.prog .neq 5 t40 (.int .u8 10)) s)) fun t41 s =>
  oh (mp (aPick t36 t41 (.bool false)) s) fun t42 s =>
  oh (some (t42, s)) fun t24 s =>
  br t24
    (oh (some ((e 4).strip, s)) fun t43 s =>
  oh (mp (aBin Tryz.prog .add 3 t43 (.int .i64 1)) s) fun t44 s =>
  oh (some (t44, s)) fun t4_3 s =>
  F170_J1 D n k0 (upds e [(5, t5), (6, t6), (7, t7), (8, t8), (9, t9), (10, t10), (11, t11), (12, t12), (13, t13), (14, t14), (18, t18), (19, t19), (20, t20), (21, t21), (21, t21.strip), (17, t17), (25, t25), (26, t26), (27, t27), (28, t28), (29, t29), (30, t30), (31, t31), (32, t32), (33, t33), (34, t34), (35, t35), (36, t36), (37, t37), (38, t38), (39, t39), (40, t40), (41, t41), (42, t42), (42, t42.strip), (24, t24), (43, t43), (44, t44), (44, t44.strip), (4, t4_3)]) s)
    (F170_J1 D n k0 (upds e [(5, t5), (6, t6), (7, t7), (8, t8), (9, t9), (10, t10), (11, t11), (12, t12), (13, t13), (14, t14), (18, t18), (19, t19), (20, t20), (21, t21), (21, t21.strip), (17, t17), (25, t25), (26, t26), (27, t27), (28, t28), (29, t29), (30, t30), (31, t31), (32, t32), (33, t33), (34, t34), (35, t35), (36, t36), (37, t37), (38, t38), (39, t39), (40, t40), (41, t41), (42, t42), (42, t42.strip), (24, t24)]) s)))
    (oh (some ((e 0).strip, s)) fun t45 s =>
  oh (aCall Tryz.prog D 162 [t45.strip, (.int .i64 1), (.fn 219 [] [])] s) fun t46 s =>
  oh (some (t46, s)) fun t2_3 s =>
  oh (some ((.int .i64 108), s)) fun t3_3 s =>
  some (.tup [t2_3, t3_3], s))
noncomputable def F170 (D : Den) (n : Nat) (t0 : AV) (s : Heap) : Ans :=
  oh (some ((.int .i64 0), s)) fun t2 s =>
  oh (some ((.int .i64 0), s)) fun t3 s =>
  oh (some ((.int .i64 1), s)) fun t4 s =>
  aLoop (F170_L0 D n) n (upds (argEnv [t0]) [(2, t2), (3, t3), (4, t4)]) s
theorem F170_eq (n : Nat) (t0 : AV) (s : Heap) : den C (n + 1) 170 [t0] s = F170 (den C n) n t0 s :=
  (den_body rfl Tryz.func170 _ _).trans (by kernel_rfl)
theorem en170 : enterable Tryz.prog 170 = true := by kernel_rfl
-- lexer.twoBytePunct
noncomputable def F171 (D : Den) (n : Nat) (s : Heap) : Ans :=
  oh (some (.nils, s)) fun t0 s =>
  oh (aCall Tryz.prog D 174 [(.str [58, 58, 32, 61, 62, 32, 45, 62, 32, 61, 61, 32, 38, 38, 32, 124, 124])] s) fun t1 s =>
  oh (some (t1, s)) fun t0_2 s =>
  some (t0_2, s)
theorem F171_eq (n : Nat) (s : Heap) : den C (n + 1) 171 [] s = F171 (den C n) n s :=
  (den_body rfl Tryz.func171 _ _).trans (by kernel_rfl)
theorem en171 : enterable Tryz.prog 171 = true := by kernel_rfl
-- lexer.scanString 1
noncomputable def F219 (D : Den) (n : Nat) (t0 : AV) (s : Heap) : Ans :=
  oh (some ((.bool false), s)) fun t2 s =>
  oh (some (t0.strip, s)) fun t3 s =>
  oh (mp (aBin Tryz.prog .neq 5 t3 (.int .u8 10)) s) fun t4 s =>
  oh (some (t4, s)) fun t2_2 s =>
  some (t2_2, s)
theorem F219_eq (n : Nat) (t0 : AV) (s : Heap) : den C (n + 1) 219 [t0] s = F219 (den C n) n t0 s :=
  (den_body rfl Tryz.func219 _ _).trans (by kernel_rfl)
theorem en219 : enterable Tryz.prog 219 = true := by kernel_rfl
-- slices.Contains   string,string
noncomputable def F168 (D : Den) (n : Nat) (t0 t1 : AV) (s : Heap) : Ans :=
  oh (some ((.bool false), s)) fun t4 s =>
  oh (some (t0.strip, s)) fun t5 s =>
  oh (some (t1.strip, s)) fun t6 s =>
  oh (aCall Tryz.prog D 173 [t5.strip, t6.strip] s) fun t7 s =>
  oh (mp (aBin Tryz.prog .geq 3 t7 (.int .i64 0)) s) fun t8 s =>
  oh (some (t8, s)) fun t4_2 s =>
  some (t4_2, s)
theorem F168_eq (n : Nat) (t0 t1 : AV) (s : Heap) : den C (n + 1) 168 [t0, t1] s = F168 (den C n) n t0 t1 s :=
  (den_body rfl Tryz.func168 _ _).trans (by kernel_rfl)
theorem en168 : enterable Tryz.prog 168 = true := by kernel_rfl
-- slices.Index   string,string
noncomputable def F173_L0 (D : Den) (n : Nat) (k0 : Env → Heap → Ans) (e : Env) (s : Heap) : Ans :=
  oh (mp (aBin Tryz.prog .lss 3 (e 8) (e 7)) s) fun t9 s =>
  br t9
    (oh (some ((e 8).strip, s)) fun t10 s =>
  oh (some (t10, s)) fun t5 s =>
  oh (some ((e 1).strip, s)) fun t11 s =>
  oh (some ((e 0).strip, s)) fun t12 s =>
  oh (some (t5.strip, s)) fun t13 s =>
  oh (mp (aIndexAddr Tryz.prog 215 t12 t13) s) fun t14 s =>
  oh (aLoad false false 1 t14 s) fun t15 s =>
  oh (mp (aBin Tryz.prog .eql 9 t11 t15) s) fun t16 s =>
  br t16
    (oh (some (t5.strip, s)) fun t17 s =>
  oh (some (t17, s)) fun t4_2 s =>
  some (t4_2, s))
    (oh (mp (aBin Tryz.prog .add 3 (e 8) (.int .i64 1)) s) fun t18 s =>
  oh (some (t18.strip, s)) fun t8_2 s =>
  k0 (upds e [(9, t9), (10, t10), (10, t10.strip), (5, t5), (11, t11), (12, t12), (13, t13), (14, t14), (15, t15), (16, t16), (18, t18), (8, t8_2)]) s))
    (oh (some ((.int .i64 (-1)), s)) fun t4_3 s =>
  some (t4_3, s))
noncomputable def F173 (D : Den) (n : Nat) (t0 t1 : AV) (s : Heap) : Ans :=
  oh (some ((.int .i64 0), s)) fun t4 s =>
  oh (some (t0.strip, s)) fun t6 s =>
  oh (mp (aLen Tryz.prog 215 t6) s) fun t7 s =>
  oh (some ((.int .i64 0), s)) fun t8 s =>
  aLoop (F173_L0 D n) n (upds (argEnv [t0, t1]) [(4, t4), (6, t6), (7, t7), (8, t8)]) s
theorem F173_eq (n : Nat) (t0 t1 : AV) (s : Heap) : den C (n + 1) 173 [t0, t1] s = F173 (den C n) n t0 t1 s :=
  (den_body rfl Tryz.func173 _ _).trans (by kernel_rfl)
theorem en173 : enterable Tryz.prog 173 = true := by kernel_rfl
-- glossatorkeep1.short
noncomputable def F22 (D : Den) (n : Nat) (t0 t1 : AV) (s : Heap) : Ans :=
  oh (some ((.str []), s)) fun t4 s =>
  oh (some (t0.strip, s)) fun t5 s =>
  oh (some (t0.strip, s)) fun t6 s =>
  oh (mp (aLen Tryz.prog 9 t6) s) fun t7 s =>
  oh (some (t1.strip, s)) fun t8 s =>
  oh (mp (aMin t7 t8) s) fun t9 s =>
  oh (mp (aSl Tryz.prog 9 t5 none (some t9) none) s) fun t10 s =>
  oh (some (t10, s)) fun t4_2 s =>
  some (t4_2, s)
theorem F22_eq (n : Nat) (t0 t1 : AV) (s : Heap) : den C (n + 1) 22 [t0, t1] s = F22 (den C n) n t0 t1 s :=
  (den_body rfl Tryz.func22 _ _).trans (by kernel_rfl)
theorem en22 : enterable Tryz.prog 22 = true := by kernel_rfl
end LexF
end

section
namespace LexF
open Go
def isSp (c : UInt8) : Bool := decide (0 ≤ Lib.indexByte [32, 9, 10, 13] c)
def notNL (c : UInt8) : Bool := c != 10
def isLet (c : UInt8) : Bool := (decide (97 ≤ c.toNat) && decide (c.toNat ≤ 122)) || (decide (65 ≤ c.toNat) && decide (c.toNat ≤ 90)) || c.toNat == 95
def isDig (c : UInt8) : Bool := decide (48 ≤ c.toNat) && decide (c.toNat ≤ 57)
def isWord (c : UInt8) : Bool := isLet c || isDig c
def scanN (p : UInt8 → Bool) (l : List UInt8) : Nat := (l.takeWhile p).length
def kwText : List UInt8 := [117, 115, 101, 32, 112, 117, 98, 32, 97, 115, 32, 102, 110, 32, 115, 116, 114, 117, 99, 116, 32, 101, 110, 117, 109, 32, 116, 114, 97, 105, 116, 32, 105, 109, 112, 108, 32, 102, 111, 114, 32, 99, 111, 110, 115, 116, 32, 109, 97, 99, 114, 111, 32, 108, 101, 116, 32, 109, 117, 116, 32, 119, 104, 105, 108, 101, 32, 114, 101, 116, 117, 114, 110, 32, 109, 97, 116, 99, 104, 32, 105, 102, 32, 101, 108, 115, 101, 32, 110, 101, 119, 32, 116, 114, 117, 101, 32, 102, 97, 108, 115, 101, 32, 116, 121, 112, 101]
def twoText : List UInt8 := [58, 58, 32, 61, 62, 32, 45, 62, 32, 61, 61, 32, 38, 38, 32, 124, 124]
def punct : List UInt8 := [40, 41, 123, 125, 91, 93, 60, 62, 44, 59, 58, 46, 61, 43, 45, 42, 47, 33, 38, 124]
def kw : List (List UInt8) := Lib.fields kwText
def two : List (List UInt8) := Lib.fields twoText
def sc : List UInt8 → Nat → Option Nat
  | [], _ => none
  | [b], i => if b = 34 then some (i + 1) else none
  | b :: c :: r, i => if b = 10 then none else if b = 34 then some (i + 1) else if b = 92 ∧ c ≠ 10 then sc r (i + 2) else sc (c :: r) (i + 1)
def scanStr (l : List UInt8) : Nat × Nat := match sc (l.drop 1) 1 with
  | some n => (n, 106)
  | none => (1 + scanN notNL (l.drop 1), 108)
def first : List UInt8 → Nat × Nat
  | [] => (0, 0)
  | c :: r =>
    if isSp c = true then (scanN isSp (c :: r), 101)
    else if Lib.hasPrefix (c :: r) [47, 47] = true then (scanN notNL (c :: r), 102)
    else if isLet c = true then (if ((c :: r).take (scanN isWord (c :: r))) ∈ kw then (scanN isWord (c :: r), 104) else (scanN isWord (c :: r), 103))
    else if isDig c = true then (scanN isDig (c :: r), 105)
    else if c = 34 then scanStr (c :: r)
    else if 1 < (c :: r).length ∧ (c :: r).take 2 ∈ two then (2, 107)
    else if 0 ≤ Lib.indexByte punct c then (1, 107) else (1, 108)
abbrev Tok := Nat × List UInt8
def toks : Nat → List UInt8 → List Tok
  | 0, _ => []
  | f + 1, l => if l = [] then [] else ((first l).2, l.take (first l).1) :: toks f (l.drop (first l).1)
def tokz (l : List UInt8) : List Tok := toks l.length l
theorem scanN_le (p : UInt8 → Bool) (l : List UInt8) : scanN p l ≤ l.length := by
  unfold scanN
  induction l with
  | nil => simp
  | cons b r ih => rw [List.takeWhile_cons]; split <;> simp; omega
theorem scanN_pos {p : UInt8 → Bool} {c : UInt8} {r : List UInt8} (h : p c = true) : 1 ≤ scanN p (c :: r) := by simp [scanN, List.takeWhile_cons, h]
theorem sc_bounds : ∀ (l : List UInt8) (i n : Nat), sc l i = some n → i + 1 ≤ n ∧ n ≤ i + l.length
  | [], i, n, h => by simp [sc] at h
  | [b], i, n, h => by
    unfold sc at h; split at h
    · cases h; simp
    · cases h
  | b :: c :: r, i, n, h => by
    unfold sc at h
    split at h
    · cases h
    · split at h
      · cases h; simp
      · split at h
        · have := sc_bounds r _ _ h; simp; omega
        · have := sc_bounds (c :: r) _ _ h; simp at this ⊢; omega
theorem first_bounds (l : List UInt8) (h : l ≠ []) : 1 ≤ (first l).1 ∧ (first l).1 ≤ l.length := by
  cases l with
  | nil => exact absurd rfl h
  | cons c r =>
    rw [first]
    split
    · rename_i h; exact ⟨scanN_pos h, scanN_le _ _⟩
    · split
      · rename_i h
        refine ⟨scanN_pos ?_, scanN_le _ _⟩
        simp [Lib.hasPrefix, List.isPrefixOf] at h
        simp [notNL, ← h.1]
      · split
        · rename_i h
          have hw : isWord c = true := by simp [isWord, h]
          split <;> exact ⟨scanN_pos hw, scanN_le _ _⟩
        · split
          · rename_i h; exact ⟨scanN_pos h, scanN_le _ _⟩
          · split
            · unfold scanStr
              split
              · rename_i h
                have := sc_bounds _ _ _ h
                simp at this ⊢
                omega
              · have := scanN_le notNL ((c :: r).drop 1)
                simp at this ⊢
                omega
            · split
              · rename_i h; exact ⟨by simp, h.1⟩
              · split <;> simp
theorem toks_more : ∀ (f : Nat) (l : List UInt8), l.length ≤ f → toks f l = tokz l := by
  have key : ∀ (f g : Nat) (l : List UInt8), l.length ≤ f → l.length ≤ g → toks f l = toks g l := by
    intro f
    induction f with
    | zero =>
      intro g l h1 h2
      have : l = [] := List.length_eq_zero_iff.1 (by omega)
      subst this
      cases g <;> simp [toks]
    | succ f ih =>
      intro g l h1 h2
      by_cases hl : l = []
      · subst hl; cases g <;> simp [toks]
      · obtain ⟨g, rfl⟩ : ∃ q, g = q + 1 := ⟨g - 1, by have := List.length_pos_iff.2 hl; omega⟩
        have hb := first_bounds l hl
        unfold toks
        rw [if_neg hl, if_neg hl, ih g (l.drop (first l).1) (by simp; omega) (by simp; omega)]
  intro f l h
  exact key f l.length l h (Nat.le_refl _)
theorem tokz_nil : tokz [] = [] := rfl
theorem tokz_cons {l : List UInt8} (h : l ≠ []) : tokz l = ((first l).2, l.take (first l).1) :: tokz (l.drop (first l).1) := by
  have hb := first_bounds l h
  obtain ⟨f, hf⟩ : ∃ f, l.length = f + 1 := ⟨l.length - 1, by have := List.length_pos_iff.2 h; omega⟩
  have : tokz l = toks (f + 1) l := by rw [tokz, hf]
  rw [this, toks, if_neg h, toks_more f _ (by simp; omega)]
def srcOfT (ts : List Tok) : List UInt8 := (ts.map (·.2)).flatten
theorem tokz_src : ∀ (n : Nat) (l : List UInt8), l.length ≤ n → srcOfT (tokz l) = l := by
  intro n
  induction n with
  | zero =>
    intro l h
    have : l = [] := List.length_eq_zero_iff.1 (by omega)
    subst this; rfl
  | succ n ih =>
    intro l h
    by_cases hl : l = []
    · subst hl; rfl
    · have hb := first_bounds l hl
      rw [tokz_cons hl]
      show l.take _ ++ srcOfT (tokz _) = l
      rw [ih _ (by simp; omega), List.take_append_drop]
theorem tokz_text : ∀ (n : Nat) (l : List UInt8), l.length ≤ n → ∀ t ∈ tokz l, t.2 ≠ [] := by
  intro n
  induction n with
  | zero =>
    intro l h
    have : l = [] := List.length_eq_zero_iff.1 (by omega)
    subst this
    intro t ht; simp [tokz, toks] at ht
  | succ n ih =>
    intro l h t ht
    by_cases hl : l = []
    · subst hl; simp [tokz, toks] at ht
    · have hb := first_bounds l hl
      rw [tokz_cons hl] at ht
      rcases List.mem_cons.1 ht with rfl | ht
      · intro e
        have := congrArg List.length e
        rw [List.length_take, List.length_nil] at this
        omega
      · exact ih _ (by simp; omega) t ht
theorem tokz_length (l : List UInt8) : (tokz l).length ≤ l.length := by
  have key : ∀ (n : Nat) (l : List UInt8), l.length ≤ n → (tokz l).length ≤ l.length := by
    intro n
    induction n with
    | zero =>
      intro l h
      have : l = [] := List.length_eq_zero_iff.1 (by omega)
      subst this; simp [tokz, toks]
    | succ n ih =>
      intro l h
      by_cases hl : l = []
      · subst hl; simp [tokz, toks]
      · have hb := first_bounds l hl
        have := ih (l.drop (first l).1) (by simp; omega)
        rw [tokz_cons hl]
        simp at this ⊢
        omega
  exact key _ l (Nat.le_refl _)
theorem tokz_drop (k : Nat) : ∀ (l : List UInt8), tokz (srcOfT ((tokz l).drop k)) = (tokz l).drop k := by
  induction k with
  | zero => intro l; rw [List.drop_zero, tokz_src _ l (Nat.le_refl _)]
  | succ k ih =>
    intro l
    by_cases hl : l = []
    · subst hl; rfl
    · rw [tokz_cons hl, List.drop_succ_cons]
      exact ih _
theorem srcOfT_drop (l : List UInt8) (k : Nat) : (srcOfT ((tokz l).drop k)).length ≤ l.length := by
  have h := congrArg List.length (tokz_src _ l (Nat.le_refl _))
  have e : (tokz l) = (tokz l).take k ++ (tokz l).drop k := (List.take_append_drop _ _).symm
  rw [e] at h
  simp only [srcOfT, List.map_append, List.flatten_append, List.length_append] at h ⊢
  omega
def sig (ts : List Tok) : List Tok := ts.filter fun t => t.1 != 101
end LexF
end

section
set_option maxRecDepth 100000
namespace LexF
open Go Go.Abs Go.Proofs ParF
abbrev I (n : Int) : AV := .int .i64 n
abbrev U (c : UInt8) : AV := .int .u8 c.toNat
theorem AC.at {g : FuncId} {args : List AV} {v : AV} (h : AC C g args v) : ∃ N, ∀ n, N ≤ n → ∀ s, aCall Tryz.prog (den C n) g args s = some (v, s) := h
theorem wadd1 {a : Nat} (h : a < 2000000000) : IntKind.i64.wrap ((a : Int) + 1) = ((a + 1 : Nat) : Int) := by rw [wrap64] <;> omega
theorem wadd {a b : Nat} (h : a + b < 2000000000) : IntKind.i64.wrap ((a : Int) + (b : Int)) = ((a + b : Nat) : Int) := by rw [wrap64] <;> omega
theorem under9 : Tryz.prog.underlying 9 = some .string := by kernel_rfl
theorem len9 (s : List UInt8) : aLen Tryz.prog 9 (.str s) = some (I s.length) := by
  simp [aLen, under9]
theorem subTake {s : List UInt8} {i : Nat} (h1 : i ≤ s.length) : aSl Tryz.prog 9 (.str s) none (some (I i)) none = some (.str (s.take i)) := by
  simp [aSl, under9, aSubstr, aBound, h1]
theorem subDrop {s : List UInt8} {i : Nat} (h1 : i ≤ s.length) : aSl Tryz.prog 9 (.str s) (some (I i)) none none = some (.str (s.drop i)) := by
  simp [aSl, under9, aSubstr, aBound, h1]
theorem idx9 {s : List UInt8} {i : Nat} {x : UInt8} (h : s[i]? = some x) : aIndex Tryz.prog 9 (.str s) (I i) = some (U x) := by
  simp [aIndex, under9, h]
theorem callV (D : Den) (g : FuncId) (a : AV) (s : Heap) : aCallV Tryz.prog D (.fn g [] []) [a] s = aCall Tryz.prog D g [a.strip] s := rfl
theorem short_run (s : List UInt8) (k : Nat) : AC C 22 [.str s, I k] (.str (s.take k)) := by
  refine .intro en22 (by simp [noRefL_cons, noRefL_nil, noRef_str, noRef_int]) (by rfl) ⟨0, fun n hn => ⟨[], ?_⟩⟩
  have e1 := subTake (s := s) (i := min s.length k) (by omega)
  have e2 : s.take (min s.length k) = s.take k := by
    rw [Nat.min_def]; split
    · rw [List.take_of_length_le (Nat.le_refl _), List.take_of_length_le (by assumption)]
    · rfl
  have e : (if k < s.length then (k : Int) else (s.length : Int)) = ((min s.length k : Nat) : Int) := by split <;> omega
  rw [F22_eq, F22]
  simp -implicitDefEqProofs only [sL, len9, e, e1, e2]
theorem u8_back (c : UInt8) : (c.toNat : Int).toNat.toUInt8 = c := by simp
theorem index_run (a : List UInt8) (c : UInt8) : AC C 172 [.str a, U c] (I (Lib.indexByte a c)) :=
  .intro (by kernel_rfl) rfl rfl ⟨0, fun n _ => ⟨[], by rw [den_ext (e := eIndex) (by rfl)]; simp [eIndex]⟩⟩
theorem prefix_run (a b : List UInt8) : AC C 163 [.str a, .str b] (.bool (Lib.hasPrefix a b)) :=
  .intro (by kernel_rfl) rfl rfl ⟨0, fun n _ => ⟨[], by rw [den_ext (e := ePrefix) (by rfl)]; rfl⟩⟩
abbrev strs (xs : List (List UInt8)) : List AV := xs.map .str
theorem strs_noRef (xs : List (List UInt8)) : noRefL (strs xs) = true := by induction xs with
  | nil => rfl
  | cons x xs ih => show noRefL (.str x :: strs xs) = true; rw [noRefL_cons, ih]; rfl
theorem fields_run (a : List UInt8) (h1 : a.length < 1000) (h2 : (a.all fun b => b.toNat < 128) = true) : AC C 174 [.str a] (.sl 9 1 (strs (Lib.fields a)) .sh) :=
  .intro (by kernel_rfl) rfl (by rw [noRef_sl, strs_noRef]) ⟨0, fun n _ => ⟨[], by rw [den_ext (e := eFields) (by rfl)]; simp only [eFields]; rw [if_pos ⟨h1, h2⟩]⟩⟩
theorem isSp_run (c : UInt8) : AC C 161 [U c] (.bool (isSp c)) := by
  refine .intro en161 rfl rfl ?_
  obtain ⟨N, q⟩ := AC.at (index_run [32, 9, 10, 13] c)
  refine ⟨N, fun n hn => ⟨[], ?_⟩⟩
  have q : ∀ s, aCall Tryz.prog (den C n) 172 [.str [32, 9, 10, 13], .int .u8 c.toNat] s = _ := q n hn
  rw [F161_eq, F161]
  simp -implicitDefEqProofs only [sL, q, isSp]
theorem ne10 (c : UInt8) : ((c.toNat : Int) != 10) = notNL c := by
  unfold notNL
  have h10 : (10 : UInt8).toNat = 10 := rfl
  by_cases h : c = 10
  · subst h; rfl
  · have h1 : (c != 10) = true := by simpa using h
    rw [h1]
    simp only [bne_iff_ne, ne_eq]
    intro h'
    exact h (UInt8.toNat_inj.1 (by omega))
theorem notNL_run (c : UInt8) : AC C 164 [U c] (.bool (notNL c)) := by
  refine .intro en164 rfl rfl ⟨0, fun n hn => ⟨[], ?_⟩⟩
  have e := ne10 c
  rw [F164_eq, F164]
  simp -implicitDefEqProofs only [sL, e]
theorem notNL_run' (c : UInt8) : AC C 219 [U c] (.bool (notNL c)) := by
  refine .intro en219 rfl rfl ⟨0, fun n hn => ⟨[], ?_⟩⟩
  have e := ne10 c
  rw [F219_eq, F219]
  simp -implicitDefEqProofs only [sL, e]
theorem isDig_run (c : UInt8) : AC C 167 [U c] (.bool (isDig c)) := by
  refine .intro en167 rfl rfl ⟨0, fun n hn => ⟨[], ?_⟩⟩
  rw [F167_eq, F167]
  by_cases h : 48 ≤ c.toNat
  · have h' : ((48 : Int) ≤ (c.toNat : Int)) := by omega
    by_cases k : c.toNat ≤ 57
    · have k' : ((c.toNat : Int) ≤ 57) := by omega
      simp -implicitDefEqProofs only [sL, h', k', isDig, h, k, Bool.true_and]
    · have k' : ¬ ((c.toNat : Int) ≤ 57) := by omega
      simp -implicitDefEqProofs only [sL, h', k', isDig, h, k, Bool.true_and]
  · have h' : ¬ ((48 : Int) ≤ (c.toNat : Int)) := by omega
    simp -implicitDefEqProofs only [sL, h', isDig, h, Bool.false_and]
theorem isLet_run (c : UInt8) : AC C 165 [U c] (.bool (isLet c)) := by
  refine .intro en165 rfl rfl ⟨0, fun n hn => ⟨[], ?_⟩⟩
  have e95 : ((c.toNat : Int) == 95) = (c.toNat == 95) := by
    by_cases h : c.toNat = 95
    · rw [h]; rfl
    · rw [beq_eq_false_iff_ne.2 h, beq_eq_false_iff_ne.2 (by omega)]
  rw [F165_eq, F165]
  by_cases h1 : 97 ≤ c.toNat
  · have h1' : ((97 : Int) ≤ (c.toNat : Int)) := by omega
    by_cases h2 : c.toNat ≤ 122
    · have h2' : ((c.toNat : Int) ≤ 122) := by omega
      simp -implicitDefEqProofs only [sL, h1', h2', isLet, h1, h2, Bool.true_or, Bool.and_self, Bool.and_true]
    · have h2' : ¬ ((c.toNat : Int) ≤ 122) := by omega
      have h3 : (65 : Int) ≤ (c.toNat : Int) := by omega
      have h3' : 65 ≤ c.toNat := by omega
      have h4 : ¬ ((c.toNat : Int) ≤ 90) := by omega
      have h4' : ¬ (c.toNat ≤ 90) := by omega
      simp -implicitDefEqProofs only [sL, h1', h2', h3, h4, e95, isLet, h1, h2, h3', h4', Bool.false_or, Bool.and_false, Bool.true_and]
  · have h1' : ¬ ((97 : Int) ≤ (c.toNat : Int)) := by omega
    by_cases h3' : 65 ≤ c.toNat
    · have h3 : (65 : Int) ≤ (c.toNat : Int) := by omega
      by_cases h4' : c.toNat ≤ 90
      · have h4 : ((c.toNat : Int) ≤ 90) := by omega
        simp -implicitDefEqProofs only [sL, h1', h3, h4, isLet, h1, h3', h4', Bool.false_and, Bool.true_or, Bool.false_or, Bool.and_self]
      · have h4 : ¬ ((c.toNat : Int) ≤ 90) := by omega
        simp -implicitDefEqProofs only [sL, h1', h3, h4, e95, isLet, h1, h3', h4', Bool.false_and, Bool.false_or, Bool.and_false]
    · have h3 : ¬ (65 : Int) ≤ (c.toNat : Int) := by omega
      simp -implicitDefEqProofs only [sL, h1', h3, e95, isLet, h1, h3', Bool.false_and, Bool.false_or, Bool.and_false]
theorem isWord_run (c : UInt8) : AC C 166 [U c] (.bool (isWord c)) := by
  refine .intro en166 rfl rfl ?_
  obtain ⟨N1, q1⟩ := AC.at (isLet_run c)
  obtain ⟨N2, q2⟩ := AC.at (isDig_run c)
  refine ⟨max N1 N2, fun n hn => ⟨[], ?_⟩⟩
  have q1 : ∀ s, aCall Tryz.prog (den C n) 165 [.int .u8 c.toNat] s = _ := q1 n (by omega)
  have q2 : ∀ s, aCall Tryz.prog (den C n) 167 [.int .u8 c.toNat] s = _ := q2 n (by omega)
  rw [F166_eq, F166]
  cases h : isLet c with
  | true =>
    rw [h] at q1
    simp -implicitDefEqProofs only [sL, q1, isWord, h, Bool.true_or]
  | false =>
    rw [h] at q1
    simp -implicitDefEqProofs only [sL, q1, q2, isWord, h, Bool.false_or]
theorem scan_at {p : UInt8 → Bool} {l : List UInt8} {i : Nat} (h : i < l.length) : scanN p (l.drop i) = if p l[i] = true then 1 + scanN p (l.drop (i + 1)) else 0 := by
  rw [List.drop_eq_getElem_cons h]
  unfold scanN
  rw [List.takeWhile_cons]
  split
  · simp; omega
  · rfl
theorem scan_loop (g : FuncId) (p : UInt8 → Bool) (hg : ∀ c, AC C g [U c] (.bool (p c))) (l : List UInt8) (hl : l.length < 1000000) : ∀ (k i : Nat), l.length - i = k → i ≤ l.length →
    ∃ N, ∀ n, N ≤ n → ∀ m, k < m → ∀ n' e s, e 0 = .str l → e 1 = I i → e 2 = .fn g [] [] → aLoop (F162_L0 (den C n) n') m e s = some (I (i + scanN p (l.drop i) : Nat), s) := by
  intro k
  induction k with
  | zero =>
    intro i hk hi
    refine ⟨0, fun n hn m hm n' e s h0 h1 h2 => ?_⟩
    obtain ⟨m, rfl⟩ : ∃ j, m = j + 1 := ⟨m - 1, by omega⟩
    have c : ¬ i < l.length := by omega
    have z : scanN p (l.drop i) = 0 := by rw [List.drop_of_length_le (by omega)]; rfl
    rw [aLoop, F162_L0, z]
    simp -implicitDefEqProofs only [sL, h0, h1, h2, len9, c, Nat.add_zero]
  | succ k ih =>
    intro i hk hi
    have c : i < l.length := by omega
    have e1 := idx9 (List.getElem?_eq_getElem c)
    obtain ⟨N1, q1⟩ := AC.at (hg l[i])
    obtain ⟨N2, q2⟩ := ih (i + 1) (by omega) (by omega)
    refine ⟨max N1 N2, fun n hn m hm n' e s h0 h1 h2 => ?_⟩
    obtain ⟨m, rfl⟩ : ∃ j, m = j + 1 := ⟨m - 1, by omega⟩
    have q1 : ∀ s, aCall Tryz.prog (den C n) g [.int .u8 l[i].toNat] s = _ := q1 n (by omega)
    have e2 := wadd1 (a := i) (by omega)
    rw [aLoop, F162_L0, scan_at c]
    cases hp : p l[i] with
    | true =>
      rw [hp] at q1
      rw [if_pos rfl]
      simp -implicitDefEqProofs only [sL, h0, h1, h2, len9, c, e1, e2, callV, q1]
      rw [← Nat.add_assoc]
      exact q2 n (by omega) m (by omega) n' _ s (by simp [upds_at, upd_at, h0]) (by simp [upds_at, upd_at]) (by simp [upds_at, upd_at, h2])
    | false =>
      rw [hp] at q1
      rw [if_neg (by simp)]
      simp -implicitDefEqProofs only [sL, h0, h1, h2, len9, c, e1, callV, q1, Nat.add_zero]
theorem scan_run (g : FuncId) (p : UInt8 → Bool) (hg : ∀ c, AC C g [U c] (.bool (p c))) (l : List UInt8) (hl : l.length < 1000000) (i : Nat) (hi : i ≤ l.length) : AC C 162 [.str l, I i, .fn g [] []] (I (i + scanN p (l.drop i) : Nat)) := by
  refine .intro en162 (by simp [noRefL_cons, noRefL_nil, noRef_str, noRef_int, AV.noRef]) rfl ?_
  obtain ⟨N, q⟩ := scan_loop g p hg l hl _ i rfl hi
  refine ⟨max N (l.length + 1), fun n hn => ⟨[], ?_⟩⟩
  rw [F162_eq, F162]
  simp -implicitDefEqProofs only [sL, ]
  exact q n (by omega) n (by omega) n _ _ (by simp [upds_at, upd_at, argEnv]) (by simp [upds_at, upd_at, argEnv]) (by simp [upds_at, upd_at, argEnv])
theorem under69 : Tryz.prog.underlying 215 = some (.slice 9) := by kernel_rfl
theorem sz9 : szOf Tryz.prog 9 = some 1 := by kernel_rfl
theorem idx69 {xs : List (List UInt8)} {i : Nat} {x : List UInt8} {f : Flag} (h : xs[i]? = some x) : aIndexAddr Tryz.prog 215 (.sl 9 1 (strs xs) f) (I i) = some (.box [.str x] 0) := by
  simp [aIndexAddr, under69, sz9, h, AV.cells]
theorem len69 (xs : List (List UInt8)) (f : Flag) : aLen Tryz.prog 215 (.sl 9 1 (strs xs) f) = some (I xs.length) := by
  simp [aLen, under69]
def at69 (w : List UInt8) : List (List UInt8) → Nat → Int
  | [], _ => -1
  | x :: xs, i => if w == x then i else at69 w xs (i + 1)
theorem at69_mem (w : List UInt8) : ∀ (xs : List (List UInt8)) (i : Nat), decide (0 ≤ at69 w xs i) = decide (w ∈ xs)
  | [], i => by simp [at69]
  | x :: xs, i => by
    unfold at69
    by_cases h : w = x
    · subst h; simp
    · rw [if_neg (by simpa using h), at69_mem w xs (i + 1)]
      simp [h]
theorem index_loop (w : List UInt8) (xs : List (List UInt8)) (hx : xs.length < 1000000) : ∀ (k i : Nat), xs.length - i = k → i ≤ xs.length → ∀ D m, k < m → ∀ n' e s, e 0 = .sl 9 1 (strs xs) .sh → e 1 = .str w → e 7 = I xs.length → e 8 = I i →
    aLoop (F173_L0 D n') m e s = some (I (at69 w (xs.drop i) i), s) := by
  intro k
  induction k with
  | zero =>
    intro i hk hi D m hm n' e s h0 h1 h7 h8
    obtain ⟨m, rfl⟩ : ∃ j, m = j + 1 := ⟨m - 1, by omega⟩
    have c : ¬ i < xs.length := by omega
    rw [aLoop, F173_L0, List.drop_of_length_le (by omega), at69]
    simp -implicitDefEqProofs only [sL, h0, h1, h7, h8, c]
  | succ k ih =>
    intro i hk hi D m hm n' e s h0 h1 h7 h8
    obtain ⟨m, rfl⟩ : ∃ j, m = j + 1 := ⟨m - 1, by omega⟩
    have c : i < xs.length := by omega
    have e1 := idx69 (f := .sh) (List.getElem?_eq_getElem c)
    have e2 := wadd1 (a := i) (by omega)
    rw [aLoop, F173_L0, List.drop_eq_getElem_cons c, at69]
    cases h : w == xs[i] with
    | true =>
      rw [if_pos rfl]
      simp -implicitDefEqProofs only [sL, h0, h1, h7, h8, c, e1, h, strip_sh]
    | false =>
      rw [if_neg (by simp)]
      simp -implicitDefEqProofs only [sL, h0, h1, h7, h8, c, e1, e2, h, strip_sh]
      exact ih (i + 1) (by omega) (by omega) D m (by omega) n' _ s (by simp [upds_at, upd_at, h0]) (by simp [upds_at, upd_at, h1]) (by simp [upds_at, upd_at, h7]) (by simp [upds_at, upd_at])
theorem contains_run (xs : List (List UInt8)) (hx : xs.length < 1000) (w : List UInt8) : AC C 168 [.sl 9 1 (strs xs) .sh, .str w] (.bool (decide (w ∈ xs))) := by
  have hi : AC C 173 [.sl 9 1 (strs xs) .sh, .str w] (I (at69 w xs 0)) := by
    refine .intro en173 (by simp [noRefL_cons, noRefL_nil, noRef_str, noRef_sl, strs_noRef]) rfl ⟨xs.length + 1, fun n hn => ⟨[], ?_⟩⟩
    have l := len69 xs .sh
    rw [F173_eq, F173]
    simp -implicitDefEqProofs only [sL, strip_sh, l]
    exact index_loop w xs (by omega) _ 0 rfl (by omega) (den C n) n (by omega) n _ _ (by simp [upds_at, upd_at, argEnv]) (by simp [upds_at, upd_at, argEnv]) (by simp [upds_at, upd_at]) (by simp [upds_at, upd_at])
  refine .intro en168 (by simp [noRefL_cons, noRefL_nil, noRef_str, noRef_sl, strs_noRef]) rfl ?_
  obtain ⟨N, q⟩ := AC.at hi
  have e := at69_mem w xs 0
  refine ⟨N, fun n hn => ⟨[], ?_⟩⟩
  have q := q n hn
  rw [F168_eq, F168]
  simp -implicitDefEqProofs only [sL, strip_sh, q, e]
theorem kw_ok : kwText.length < 1000 ∧ (kwText.all fun b => b.toNat < 128) = true ∧ kw.length < 1000 := by decide +kernel
theorem two_ok : twoText.length < 1000 ∧ (twoText.all fun b => b.toNat < 128) = true ∧ two.length < 1000 := by decide +kernel
theorem kw_run : AC C 169 [] (.sl 9 1 (strs kw) .sh) := by
  refine .intro en169 rfl (by rw [noRef_sl, strs_noRef]) ?_
  obtain ⟨N, q⟩ := AC.at (fields_run kwText kw_ok.1 kw_ok.2.1)
  refine ⟨N, fun n hn => ⟨[], ?_⟩⟩
  have q := q n hn
  unfold kwText at q
  rw [F169_eq, F169]
  simp -implicitDefEqProofs only [sL, q, strip_sh]
  rfl
theorem two_run : AC C 171 [] (.sl 9 1 (strs two) .sh) := by
  refine .intro en171 rfl (by rw [noRef_sl, strs_noRef]) ?_
  obtain ⟨N, q⟩ := AC.at (fields_run twoText two_ok.1 two_ok.2.1)
  refine ⟨N, fun n hn => ⟨[], ?_⟩⟩
  have q := q n hn
  unfold twoText at q
  rw [F171_eq, F171]
  simp -implicitDefEqProofs only [sL, q, strip_sh]
  rfl
end LexF
end

section
set_option maxRecDepth 100000
namespace LexF
open Go Go.Abs Go.Proofs ParF
theorem sc_step {l : List UInt8} {i : Nat} (h : i < l.length) : sc (l.drop i) i = if l[i] = 10 then none else if l[i] = 34 then some (i + 1) else if l[i] = 92 ∧ ∃ c, l[i + 1]? = some c ∧ c ≠ 10 then sc (l.drop (i + 2)) (i + 2) else sc (l.drop (i + 1)) (i + 1) := by
  rw [List.drop_eq_getElem_cons h]
  by_cases h1 : i + 1 < l.length
  · rw [List.drop_eq_getElem_cons h1]
    have e : l[i + 1]? = some l[i + 1] := List.getElem?_eq_getElem h1
    rw [sc]
    by_cases c1 : l[i] = 10
    · rw [if_pos c1, if_pos c1]
    · rw [if_neg c1, if_neg c1]
      by_cases c2 : l[i] = 34
      · rw [if_pos c2, if_pos c2]
      · rw [if_neg c2, if_neg c2]
        by_cases c3 : l[i] = 92 ∧ l[i + 1] ≠ 10
        · rw [if_pos c3, if_pos ⟨c3.1, _, e, c3.2⟩]
        · rw [if_neg c3, if_neg (by rintro ⟨k1, c, k2, k3⟩; rw [e] at k2; cases k2; exact c3 ⟨k1, k3⟩)]
  · have e : l.drop (i + 1) = [] := List.drop_of_length_le (by omega)
    have e' : l[i + 1]? = none := List.getElem?_eq_none (by omega)
    rw [e, sc, sc]
    have hno : ¬ (l[i] = 92 ∧ ∃ c, l[i + 1]? = some c ∧ c ≠ 10) := by rintro ⟨_, c, k, _⟩; rw [e'] at k; cases k
    rw [if_neg hno]
    by_cases c1 : l[i] = 10
    · rw [if_pos c1, if_neg (by rw [c1]; decide)]
    · rw [if_neg c1]
theorem eqb (c : UInt8) (k : UInt8) (z : Int) (hz : z = k.toNat) : ((c.toNat : Int) == z) = decide (c = k) := by
  subst hz
  by_cases h : c = k
  · subst h; simp
  · have : (c.toNat : Int) ≠ (k.toNat : Int) := fun e => h (UInt8.toNat_inj.1 (by omega))
    rw [beq_eq_false_iff_ne.2 this]; simp [h]
def scV (l : List UInt8) (x : Option Nat) : AV := match x with
  | some n => .tup [I n, I 106]
  | none => .tup [I (1 + scanN notNL (l.drop 1) : Nat), I 108]
theorem sc_J (l : List UInt8) (i : Nat) (hi : i < 1000000) (D : Den) (n' : Nat) (k0 : Env → Heap → Ans) (e : Env) (s : Heap) (h4 : e 4 = I i) : ∃ e', F170_J1 D n' k0 e s = k0 e' s ∧ e' 4 = I (i + 1 : Nat) ∧ e' 0 = e 0 := by
  have e2 := wadd1 (a := i) (by omega)
  rw [F170_J1]
  simp -implicitDefEqProofs only [sL, h4, e2]
  exact ⟨_, rfl, by simp [upds_at, upd_at], by simp [upds_at, upd_at]⟩
theorem str_loop (l : List UInt8) (hl : l.length < 100000) (h1 : 1 ≤ l.length) : ∀ (k i : Nat), l.length - i ≤ k → i ≤ l.length →
    ∃ N, ∀ n, N ≤ n → ∀ m, k < m → ∀ n' e s, e 0 = .str l → e 4 = I i → aLoop (F170_L0 (den C n) n') m e s = some (scV l (sc (l.drop i) i), s) := by
  obtain ⟨N0, q0⟩ := AC.at (scan_run 219 notNL notNL_run' l (by omega) 1 h1)
  have q0 : ∀ n, N0 ≤ n → ∀ s, aCall Tryz.prog (den C n) 162 [.str l, .int .i64 1, .fn 219 [] []] s = _ := q0
  have stop : ∀ i, ¬ i < l.length → ∀ n, N0 ≤ n → ∀ m, 0 < m → ∀ n' e s, e 0 = .str l → e 4 = I i → aLoop (F170_L0 (den C n) n') m e s = some (scV l (sc (l.drop i) i), s) := by
    intro i hi n hn m hm n' e s he0 he4
    obtain ⟨m, rfl⟩ : ∃ j, m = j + 1 := ⟨m - 1, by omega⟩
    have q0 := q0 n hn
    rw [aLoop, F170_L0, List.drop_of_length_le (by omega), sc, scV]
    simp -implicitDefEqProofs only [sL, he0, he4, len9, hi, q0]
  intro k
  induction k with
  | zero =>
    intro i hk hi
    exact ⟨N0, fun n hn m hm n' e s he0 he4 => stop i (by omega) n hn m (by omega) n' e s he0 he4⟩
  | succ k ih =>
    intro i hk hi
    by_cases c : i < l.length
    · have g0 : l[i]? = some l[i] := List.getElem?_eq_getElem c
      have e1 := idx9 g0
      have b10 := ne10 l[i]
      have b34 := eqb l[i] 34 34 rfl
      have b92 := eqb l[i] 92 92 rfl
      have e2 := wadd1 (a := i) (by omega)
      rw [sc_step c]
      by_cases c1 : l[i] = 10
      · rw [if_pos c1]
        refine ⟨N0, fun n hn m hm n' e s he0 he4 => ?_⟩
        obtain ⟨m, rfl⟩ : ∃ j, m = j + 1 := ⟨m - 1, by omega⟩
        have q0 := q0 n hn
        have b10' : notNL l[i] = false := by rw [c1]; rfl
        rw [b10'] at b10
        rw [aLoop, F170_L0, scV]
        simp -implicitDefEqProofs only [sL, he0, he4, len9, c, e1, b10, q0]
      · have b10' : notNL l[i] = true := by simpa [notNL] using c1
        rw [if_neg c1]
        rw [b10'] at b10
        by_cases c2 : l[i] = 34
        · rw [if_pos c2]
          refine ⟨0, fun n hn m hm n' e s he0 he4 => ?_⟩
          obtain ⟨m, rfl⟩ : ∃ j, m = j + 1 := ⟨m - 1, by omega⟩
          rw [decide_eq_true c2] at b34
          rw [aLoop, F170_L0, scV]
          simp -implicitDefEqProofs only [sL, he0, he4, len9, c, e1, e2, b10, b34]
        · rw [if_neg c2]
          rw [decide_eq_false c2] at b34
          obtain ⟨N1, q1⟩ := ih (i + 1) (by omega) (by omega)
          have one : ∀ n, N1 ≤ n → ∀ m, k < m → ∀ n' s E, E 4 = I i → E 0 = .str l → F170_J1 (den C n) n' (aLoop (F170_L0 (den C n) n') m) E s = some (scV l (sc (l.drop (i + 1)) (i + 1)), s) := by
            intro n hn m hm n' s E h4 h0
            obtain ⟨e', k1, k2, k3⟩ := sc_J l i (by omega) (den C n) n' (aLoop (F170_L0 (den C n) n') m) E s h4
            rw [k1]
            exact q1 n hn m hm n' e' s (k3.trans h0) k2
          by_cases c3 : l[i] = 92
          · rw [decide_eq_true c3] at b92
            by_cases c4 : i + 1 < l.length
            · have g1 : l[i + 1]? = some l[i + 1] := List.getElem?_eq_getElem c4
              have e3 := idx9 g1
              have b10s := ne10 l[i + 1]
              by_cases c5 : l[i + 1] = 10
              · have b' : notNL l[i + 1] = false := by rw [c5]; rfl
                rw [b'] at b10s
                rw [if_neg (by rintro ⟨_, x, hx, hn⟩; rw [g1] at hx; cases hx; exact hn c5)]
                refine ⟨N1, fun n hn m hm n' e s he0 he4 => ?_⟩
                obtain ⟨m, rfl⟩ : ∃ j, m = j + 1 := ⟨m - 1, by omega⟩
                rw [aLoop, F170_L0]
                simp -implicitDefEqProofs only [sL, he0, he4, len9, c, c4, e1, e2, e3, b10, b34, b92, b10s]
                exact one n hn m (by omega) n' s _ (by simp [upds_at, upd_at, he4]) (by simp [upds_at, upd_at, he0])
              · have b' : notNL l[i + 1] = true := by simpa [notNL] using c5
                rw [b'] at b10s
                rw [if_pos ⟨c3, _, g1, c5⟩]
                obtain ⟨N2, q2⟩ := ih (i + 2) (by omega) (by omega)
                refine ⟨N2, fun n hn m hm n' e s he0 he4 => ?_⟩
                obtain ⟨m, rfl⟩ : ∃ j, m = j + 1 := ⟨m - 1, by omega⟩
                have two : ∀ E, E 4 = I (i + 1 : Nat) → E 0 = .str l → F170_J1 (den C n) n' (aLoop (F170_L0 (den C n) n') m) E s = some (scV l (sc (l.drop (i + 2)) (i + 2)), s) := by
                  intro E h4 h0
                  obtain ⟨e', k1, k2, k3⟩ := sc_J l (i + 1) (by omega) (den C n) n' (aLoop (F170_L0 (den C n) n') m) E s h4
                  rw [k1]
                  exact q2 n hn m (by omega) n' e' s (k3.trans h0) k2
                rw [aLoop, F170_L0]
                simp -implicitDefEqProofs only [sL, he0, he4, len9, c, c4, e1, e2, e3, b10, b34, b92, b10s]
                exact two _ (by simp [upds_at, upd_at]) (by simp [upds_at, upd_at, he0])
            · rw [if_neg (by rintro ⟨_, x, hx, _⟩; rw [List.getElem?_eq_none (by omega)] at hx; cases hx)]
              refine ⟨N1, fun n hn m hm n' e s he0 he4 => ?_⟩
              obtain ⟨m, rfl⟩ : ∃ j, m = j + 1 := ⟨m - 1, by omega⟩
              rw [aLoop, F170_L0]
              simp -implicitDefEqProofs only [sL, he0, he4, len9, c, c4, e1, e2, b10, b34, b92]
              exact one n hn m (by omega) n' s _ (by simp [upds_at, upd_at, he4]) (by simp [upds_at, upd_at, he0])
          · rw [decide_eq_false c3] at b92
            rw [if_neg (fun h => c3 h.1)]
            refine ⟨N1, fun n hn m hm n' e s he0 he4 => ?_⟩
            obtain ⟨m, rfl⟩ : ∃ j, m = j + 1 := ⟨m - 1, by omega⟩
            rw [aLoop, F170_L0]
            simp -implicitDefEqProofs only [sL, he0, he4, len9, c, e1, b10, b34, b92]
            exact one n hn m (by omega) n' s _ (by simp [upds_at, upd_at, he4]) (by simp [upds_at, upd_at, he0])
    · exact ⟨N0, fun n hn m hm n' e s he0 he4 => stop i c n hn m (by omega) n' e s he0 he4⟩
theorem str_run (l : List UInt8) (hl : l.length < 100000) (h1 : 1 ≤ l.length) : AC C 170 [.str l] (.tup [I (scanStr l).1, I (scanStr l).2]) := by
  have e : scV l (sc (l.drop 1) 1) = .tup [I (scanStr l).1, I (scanStr l).2] := by
    unfold scV scanStr
    cases sc (l.drop 1) 1 <;> rfl
  refine .intro en170 rfl rfl ?_
  obtain ⟨N, q⟩ := str_loop l hl h1 l.length 1 (by omega) h1
  refine ⟨max N (l.length + 1), fun n hn => ⟨[], ?_⟩⟩
  rw [← e, F170_eq, F170]
  simp -implicitDefEqProofs only [sL, ]
  exact q n (by omega) n (by omega) n _ _ (by simp [upds_at, upd_at, argEnv]) (by simp [upds_at, upd_at])
def firstV (x : Nat × Nat) : AV := .tup [I x.1, I x.2]
set_option maxHeartbeats 2000000 in
theorem first_run (c : UInt8) (r : List UInt8) (hl : (c :: r).length < 100000) : AC C 104 [.str (c :: r)] (firstV (first (c :: r))) := by
  refine .intro en104 rfl (by simp [firstV, noRef_tup, noRefL_cons, noRefL_nil, noRef_int]) ?_
  have hpos : 1 ≤ (c :: r).length := by simp
  have i0 : aIndex Tryz.prog 9 (.str (c :: r)) (I 0) = some (U c) := by simp [aIndex, under9]
  obtain ⟨N1, q1⟩ := AC.at (isSp_run c)
  obtain ⟨N2, q2⟩ := AC.at (prefix_run (c :: r) [47, 47])
  obtain ⟨N3, q3⟩ := AC.at (isLet_run c)
  obtain ⟨N4, q4⟩ := AC.at (isDig_run c)
  obtain ⟨N5, q5⟩ := AC.at (str_run (c :: r) hl hpos)
  obtain ⟨N6, q6⟩ := AC.at kw_run
  obtain ⟨N7, q7⟩ := AC.at two_run
  obtain ⟨N8, q8⟩ := AC.at (index_run punct c)
  obtain ⟨N9, q9⟩ := AC.at (contains_run kw kw_ok.2.2 ((c :: r).take (scanN isWord (c :: r))))
  obtain ⟨N10, q10⟩ := AC.at (contains_run two two_ok.2.2 ((c :: r).take 2))
  obtain ⟨N11, q11⟩ := AC.at (scan_run 161 isSp isSp_run (c :: r) (by omega) 0 (by omega))
  obtain ⟨N12, q12⟩ := AC.at (scan_run 164 notNL notNL_run (c :: r) (by omega) 0 (by omega))
  obtain ⟨N13, q13⟩ := AC.at (scan_run 166 isWord isWord_run (c :: r) (by omega) 0 (by omega))
  obtain ⟨N14, q14⟩ := AC.at (scan_run 167 isDig isDig_run (c :: r) (by omega) 0 (by omega))
  have hw := scanN_le isWord (c :: r)
  have e1 := subTake (s := c :: r) (i := scanN isWord (c :: r)) hw
  have b34 := eqb c 34 34 rfl
  rw [List.drop_zero, Nat.zero_add] at q11 q12 q13 q14
  rw [first]
  refine ⟨max N1 (max N2 (max N3 (max N4 (max N5 (max N6 (max N7 (max N8 (max N9 (max N10 (max N11 (max N12 (max N13 N14)))))))))))), fun n hn => ⟨[], ?_⟩⟩
  simp only [Nat.max_le] at hn
  have q1 : ∀ s, aCall Tryz.prog (den C n) 161 [.int .u8 c.toNat] s = _ := q1 n (by omega)
  have q2 := q2 n (by omega)
  have q3 : ∀ s, aCall Tryz.prog (den C n) 165 [.int .u8 c.toNat] s = _ := q3 n (by omega)
  have q4 : ∀ s, aCall Tryz.prog (den C n) 167 [.int .u8 c.toNat] s = _ := q4 n (by omega)
  have q5 := q5 n (by omega)
  have q6 := q6 n (by omega)
  have q7 := q7 n (by omega)
  have q8 : ∀ s, aCall Tryz.prog (den C n) 172 [.str punct, .int .u8 c.toNat] s = _ := q8 n (by omega)
  have q9 := q9 n (by omega)
  have q10 := q10 n (by omega)
  have q11 : ∀ s, aCall Tryz.prog (den C n) 162 [.str (c :: r), .int .i64 0, .fn 161 [] []] s = _ := q11 n (by omega)
  have q12 : ∀ s, aCall Tryz.prog (den C n) 162 [.str (c :: r), .int .i64 0, .fn 164 [] []] s = _ := q12 n (by omega)
  have q13 : ∀ s, aCall Tryz.prog (den C n) 162 [.str (c :: r), .int .i64 0, .fn 166 [] []] s = _ := q13 n (by omega)
  have q14 : ∀ s, aCall Tryz.prog (den C n) 162 [.str (c :: r), .int .i64 0, .fn 167 [] []] s = _ := q14 n (by omega)
  unfold punct at q8
  rw [F104_eq, F104]
  by_cases c1 : isSp c = true
  · rw [if_pos c1]
    rw [c1] at q1
    simp -implicitDefEqProofs only [sL, i0, q1, q11, firstV]
    rfl
  rw [if_neg c1]
  rw [eq_false_of_ne_true c1] at q1
  by_cases c2 : Lib.hasPrefix (c :: r) [47, 47] = true
  · rw [if_pos c2]
    rw [c2] at q2
    simp -implicitDefEqProofs only [sL, i0, q1, q2, q12, firstV]
    rfl
  rw [if_neg c2]
  rw [eq_false_of_ne_true c2] at q2
  by_cases c3 : isLet c = true
  · rw [if_pos c3]
    rw [c3] at q3
    by_cases c4 : (c :: r).take (scanN isWord (c :: r)) ∈ kw
    · rw [if_pos c4]
      rw [decide_eq_true c4] at q9
      simp -implicitDefEqProofs only [sL, i0, q1, q2, q3, q13, q6, q9, e1, strip_sh, noRef_sl, strs_noRef, d104_8, firstV]
      rfl
    · rw [if_neg c4]
      rw [decide_eq_false c4] at q9
      simp -implicitDefEqProofs only [sL, i0, q1, q2, q3, q13, q6, q9, e1, strip_sh, noRef_sl, strs_noRef, d104_8, firstV]
      rfl
  rw [if_neg c3]
  rw [eq_false_of_ne_true c3] at q3
  by_cases c4 : isDig c = true
  · rw [if_pos c4]
    rw [c4] at q4
    simp -implicitDefEqProofs only [sL, i0, q1, q2, q3, q4, q14, firstV]
    rfl
  rw [if_neg c4]
  rw [eq_false_of_ne_true c4] at q4
  by_cases c5 : c = 34
  · rw [if_pos c5]
    rw [decide_eq_true c5] at b34
    simp -implicitDefEqProofs only [sL, i0, q1, q2, q3, q4, b34, q5, firstV]
  rw [if_neg c5]
  rw [decide_eq_false c5] at b34
  have last : 0 ≤ Lib.indexByte punct c ∨ ¬ 0 ≤ Lib.indexByte punct c := Classical.em _
  by_cases c6 : 1 < (c :: r).length
  · have c6' : (1 : Int) < ((c :: r).length : Int) := by omega
    have e2 := subTake (s := c :: r) (i := 2) (by omega)
    have e2 : aSl Tryz.prog 9 (.str (c :: r)) none (some (.int .i64 2)) none = some (.str ((c :: r).take 2)) := e2
    by_cases c7 : (c :: r).take 2 ∈ two
    · rw [if_pos ⟨c6, c7⟩]
      rw [decide_eq_true c7] at q10
      simp -implicitDefEqProofs only [sL, i0, q1, q2, q3, q4, b34, len9, c6', e2, q7, q10, strip_sh, noRef_sl, strs_noRef, d104_15, firstV]
      rfl
    · rw [if_neg (fun h => c7 h.2)]
      rw [decide_eq_false c7] at q10
      rcases last with c8 | c8
      · rw [if_pos c8]
        have c8' : 0 ≤ Lib.indexByte [40, 41, 123, 125, 91, 93, 60, 62, 44, 59, 58, 46, 61, 43, 45, 42, 47, 33, 38, 124] c := c8
        simp -implicitDefEqProofs only [sL, i0, q1, q2, q3, q4, b34, len9, c6', e2, q7, q10, q8, c8', strip_sh, noRef_sl, strs_noRef, d104_15, firstV]
        rfl
      · rw [if_neg c8]
        have c8' : ¬ 0 ≤ Lib.indexByte [40, 41, 123, 125, 91, 93, 60, 62, 44, 59, 58, 46, 61, 43, 45, 42, 47, 33, 38, 124] c := c8
        simp -implicitDefEqProofs only [sL, i0, q1, q2, q3, q4, b34, len9, c6', e2, q7, q10, q8, c8', strip_sh, noRef_sl, strs_noRef, d104_15, firstV]
        rfl
  · have c6' : ¬ (1 : Int) < ((c :: r).length : Int) := by omega
    rw [if_neg (fun h => c6 h.1)]
    rcases last with c8 | c8
    · rw [if_pos c8]
      have c8' : 0 ≤ Lib.indexByte [40, 41, 123, 125, 91, 93, 60, 62, 44, 59, 58, 46, 61, 43, 45, 42, 47, 33, 38, 124] c := c8
      simp -implicitDefEqProofs only [sL, i0, q1, q2, q3, q4, b34, len9, c6', q8, c8', d104_15, firstV]
      rfl
    · rw [if_neg c8]
      have c8' : ¬ 0 ≤ Lib.indexByte [40, 41, 123, 125, 91, 93, 60, 62, 44, 59, 58, 46, 61, 43, 45, 42, 47, 33, 38, 124] c := c8
      simp -implicitDefEqProofs only [sL, i0, q1, q2, q3, q4, b34, len9, c6', q8, c8', d104_15, firstV]
      rfl
end LexF
end

section
set_option maxRecDepth 100000
namespace LexF
open Go Go.Abs Go.Proofs ParF
abbrev tokV (t : Tok) : AV := .agg [I t.1, .str t.2]
abbrev tv (ts : List Tok) : List AV := ts.map tokV
def accV (ts : List Tok) : AV := match ts with
  | [] => .nils
  | t :: r => .sl 80 2 (tv (t :: r)) .own
def IsT (v : AV) (ts : List Tok) : Prop := v = .sl 80 2 (tv ts) .sh ∨ (ts = [] ∧ v = .nils)
theorem accV_strip (ts : List Tok) : IsT (accV ts).strip ts := by
  cases ts with
  | nil => exact .inr ⟨rfl, rfl⟩
  | cons t r => exact .inl rfl
theorem IsT.strip {v : AV} {ts : List Tok} (h : IsT v ts) : v.strip = v := by rcases h with rfl | ⟨_, rfl⟩ <;> rfl
theorem tv_noRef (ts : List Tok) : noRefL (tv ts) = true := by induction ts with
  | nil => rfl
  | cons t r ih => show noRefL (tokV t :: tv r) = true; rw [noRefL_cons, ih]; rfl
theorem IsT.noRef {v : AV} {ts : List Tok} (h : IsT v ts) : v.noRef = true := by
  rcases h with rfl | ⟨_, rfl⟩
  · simp [AV.noRef, tv_noRef]
  · rfl
theorem accV_noRef (ts : List Tok) : (accV ts).noRef = true := by
  cases ts with
  | nil => rfl
  | cons t r => simp only [accV, noRef_sl, tv_noRef]
theorem under35 : Tryz.prog.underlying 74 = some (.slice 80) := by kernel_rfl
theorem sz39 : szOf Tryz.prog 80 = some 2 := by kernel_rfl
theorem IsT.len {v : AV} {ts : List Tok} (h : IsT v ts) : aLen Tryz.prog 74 v = some (I ts.length) := by
  rcases h with rfl | ⟨rfl, rfl⟩
  · simp [aLen, under35]
  · simp [aLen, under35]
theorem idx35 {ts : List Tok} {i : Nat} {t : Tok} {f : Flag} (h : ts[i]? = some t) : aIndexAddr Tryz.prog 74 (.sl 80 2 (tv ts) f) (I i) = some (.box [I t.1, .str t.2] 0) := by
  simp [aIndexAddr, under35, sz39, h, AV.cells]
theorem IsT.at {v : AV} {ts : List Tok} (h : IsT v ts) {i : Nat} {t : Tok} (ht : ts[i]? = some t) : aIndexAddr Tryz.prog 74 v (I i) = some (.box [I t.1, .str t.2] 0) := by
  rcases h with rfl | ⟨rfl, rfl⟩
  · exact idx35 ht
  · simp at ht
theorem IsT.drop {v : AV} {ts : List Tok} (h : IsT v ts) {i : Nat} (hi : i ≤ ts.length) : ∃ u, aSl Tryz.prog 74 v (some (I i)) none none = some u ∧ IsT u (ts.drop i) := by
  rcases h with rfl | ⟨rfl, rfl⟩
  · exact ⟨.sl 80 2 (tv (ts.drop i)) .sh, by simp [aSl, under35, sz39, aSlice, aBound, hi, List.map_drop], .inl rfl⟩
  · have : i = 0 := by simpa using hi
    subst this
    exact ⟨.nils, by simp [aSl, under35], .inr ⟨rfl, rfl⟩⟩
theorem info39' : ((Tryz.prog.info? 80).map fun i => (i.size, i.bytes, i.zero.map fun z => z.cells.size)) = some (2, 24, some 2) := by kernel_rfl
theorem info39 : ∃ i, Tryz.prog.info? 80 = some i ∧ i.size = 2 ∧ i.bytes = 24 ∧ ∃ z, i.zero = some z ∧ z.cells.size = 2 := by
  have h := info39'
  rw [Option.map_eq_some_iff] at h
  obtain ⟨i, h1, h2⟩ := h
  simp only [Prod.mk.injEq, Option.map_eq_some_iff] at h2
  exact ⟨i, h1, h2.1, h2.2.1, h2.2.2⟩
theorem app35 (ts : List Tok) (ys : List Tok) (f : Flag) (h : ts.length + ys.length < 1000000) : aAppend Tryz.prog 74 74 (accV ts) (.sl 80 2 (tv ys) f) = some (accV (ts ++ ys)) := by
  obtain ⟨i, h1, h2, h3, z, h4, h5⟩ := info39
  unfold aAppend
  rw [under35]
  simp only [h1, h2, srcOf, if_true, h4, h5, ne_eq, not_true, if_false, h3]
  cases ts with
  | nil =>
    simp only [accV, List.nil_append, tv, List.length_map]
    rw [if_pos (by simp at h; omega)]
    cases ys <;> rfl
  | cons b r =>
    simp only [accV, tv, List.length_map, List.length_cons, List.map_cons, List.cons_append, List.map_append] at *
    rw [if_pos ⟨trivial, trivial, by omega, by omega⟩]
theorem app35n (ts : List Tok) (h : ts.length < 1000000) : aAppend Tryz.prog 74 74 (accV ts) .nils = some (accV ts) := by
  obtain ⟨i, h1, h2, h3, z, h4, h5⟩ := info39
  unfold aAppend
  rw [under35]
  simp only [h1, h2, srcOf, h4, h5, ne_eq, not_true, if_false, h3]
  cases ts with
  | nil => simp only [accV]; rw [if_pos (by simp)]
  | cons b r =>
    simp only [accV, tv, List.length_map, List.length_cons, List.length_nil, List.map_cons, List.append_nil] at *
    rw [if_pos ⟨trivial, trivial, by omega, by omega⟩]
theorem app35a (ts ys : List Tok) (h : ts.length + ys.length < 1000000) : aAppend Tryz.prog 74 74 (accV ts) (accV ys) = some (accV (ts ++ ys)) := by
  cases ys with
  | nil => rw [List.append_nil]; exact app35n ts (by simp at h; omega)
  | cons y r => exact app35 ts (y :: r) .own h
theorem bs35 (k : Int) (t : List UInt8) : ∃ f, aBuildSlice Tryz.prog 74 1 [(0, .agg [I k, .str t])] = some (.sl 80 2 [.agg [I k, .str t]] f) := ⟨.own, by kernel_rfl⟩
theorem bs35b (k k' : Int) (t t' : List UInt8) : aBuildSlice Tryz.prog 74 2 [(0, .agg [I k, .str t]), (1, .agg [I k', .str t'])] = some (.sl 80 2 [.agg [I k, .str t], .agg [I k', .str t']] .own) := by kernel_rfl
theorem build39 (k : Int) (t : List UInt8) : aBuild Tryz.prog 80 [(0, I k), (1, .str t)] = some (.agg [I k, .str t]) := by kernel_rfl
theorem alloc39 (s : Heap) : aAlloc Tryz.prog 80 s = some (.ref s.length 0, s ++ [(80, [I 0, .str []])]) := by kernel_rfl
theorem store39 (s : Heap) (a b : AV) (t : Tok) : aStore 2 (s ++ [(80, [a, b])]) (.ref s.length 0) (tokV t) = some (s ++ [(80, [I t.1, .str t.2])]) := by
  simp [aStore, AV.solid, AV.cells, setL, stCells, deadTy]
theorem load39 (s : Heap) (x y : AV) (k : Nat) : aLoad false false 1 (.ref s.length k) (s ++ [(80, [x, y])]) = [x, y][k]?.map fun r => (r.strip, s ++ [(80, [x, y])]) := by
  simp [aLoad, aLoadR, aLoadC_one, deadTy]
  cases [x, y][k]? <;> rfl
theorem load39a (s : Heap) (x y : AV) : aLoad false true 2 (.ref s.length 0) (s ++ [(80, [x, y])]) = some (.agg [x, y], s ++ [(80, [x, y])]) := by
  simp [aLoad, aLoadR, aLoadC, deadTy]
theorem load2' (x y : AV) (s : Heap) : aLoad false true 2 (.box [x, y] 0) s = some (.agg [x, y], s) := aLoad_agg _ _ _ _ _ (by simp)
theorem eq39 (k : Int) (t : List UInt8) : aBin Tryz.prog .neq 80 (.agg [I k, .str t]) (.agg [I k, .str t]) = some (.bool false) := by
  have h : aBin Tryz.prog .neq 80 (.agg [I k, .str t]) (.agg [I k, .str t]) = some (.bool !((k == k) && ((t == t) && true))) := by kernel_rfl
  rw [h]; simp
theorem tok_loop : ∀ (k : Nat) (l : List UInt8) (acc : List Tok), l.length ≤ k → l.length < 10000 → acc.length + l.length < 100000 →
    ∃ N, ∀ n, N ≤ n → ∀ m, k < m → ∀ n' e s, e 0 = .str l → e 4 = accV acc → aLoop (F58_L0 (den C n) n') m e s = some (.tup [(accV (acc ++ tokz l)).strip, I 0], s) := by
  intro k
  induction k with
  | zero =>
    intro l acc hk hl ha
    have : l = [] := List.length_eq_zero_iff.1 (by omega)
    subst this
    refine ⟨0, fun n hn m hm n' e s h0 h4 => ?_⟩
    obtain ⟨m, rfl⟩ : ∃ j, m = j + 1 := ⟨m - 1, by omega⟩
    have st := (accV_strip acc).strip
    have z : ¬ (0 : Int) < (([] : List UInt8).length : Int) := by simp
    rw [aLoop, F58_L0, tokz_nil, List.append_nil]
    simp -implicitDefEqProofs only [sL, h0, h4, len9, z, st]
  | succ k ih =>
    intro l acc hk hl ha
    by_cases h : l = []
    · subst h
      refine ⟨0, fun n hn m hm n' e s h0 h4 => ?_⟩
      obtain ⟨m, rfl⟩ : ∃ j, m = j + 1 := ⟨m - 1, by omega⟩
      have st := (accV_strip acc).strip
      have z : ¬ (0 : Int) < (([] : List UInt8).length : Int) := by simp
      rw [aLoop, F58_L0, tokz_nil, List.append_nil]
      simp -implicitDefEqProofs only [sL, h0, h4, len9, z, st]
    · obtain ⟨c, r, rfl⟩ : ∃ c r, l = c :: r := by cases l with
        | nil => exact absurd rfl h
        | cons c r => exact ⟨c, r, rfl⟩
      obtain ⟨N1, q1⟩ := AC.at (first_run c r (by omega))
      have hb := first_bounds (c :: r) h
      rw [tokz_cons h]
      have e1 := subTake (s := c :: r) (i := (first (c :: r)).1) hb.2
      have e2 := subDrop (s := c :: r) (i := (first (c :: r)).1) hb.2
      have hpos : (0 : Int) < ((c :: r).length : Int) := by rw [List.length_cons]; omega
      unfold firstV at q1
      generalize (first (c :: r)).1 = z at *
      generalize (first (c :: r)).2 = y at *
      obtain ⟨f, e3⟩ := bs35 y ((c :: r).take z)
      have e4 := app35 acc [(y, (c :: r).take z)] f (by simp at ha ⊢; omega)
      have hdl : ((c :: r).drop z).length = (c :: r).length - z := List.length_drop
      generalize (c :: r).take z = tk at *
      generalize (c :: r).drop z = dr at *
      obtain ⟨N2, q2⟩ := ih dr (acc ++ [(y, tk)]) (by omega) (by omega) (by simp only [List.length_append, List.length_cons, List.length_nil] at *; omega)
      rw [List.append_assoc] at q2
      refine ⟨max N1 N2, fun n hn m hm n' e s h0 h4 => ?_⟩
      obtain ⟨m, rfl⟩ : ∃ j, m = j + 1 := ⟨m - 1, by omega⟩
      have q1 := q1 n (by omega)
      have e4 : aAppend Tryz.prog 74 74 (accV acc) (.sl 80 2 [.agg [I y, .str tk]] f) = _ := e4
      rw [aLoop, F58_L0]
      simp -implicitDefEqProofs only [sL, h0, h4, len9, hpos, q1, e1, e2, build39, e3, e4]
      exact q2 n (by omega) m (by omega) n' _ s (by simp [upds_at, upd_at]) (by simp [upds_at, upd_at])
def tokR (l : List UInt8) : AV := if 2000 < l.length then .tup [.nils, I 2] else .tup [(accV (tokz l)).strip, I 0]
theorem tok_run (l : List UInt8) : AC C 58 [.str l] (tokR l) := by
  refine .intro en58 rfl ?_ ?_
  · unfold tokR; split
    · rfl
    · simp only [noRef_tup, noRefL_cons, noRefL_nil, noRef_int, (accV_strip (tokz l)).noRef, Bool.and_self]
  unfold tokR
  by_cases h : 2000 < l.length
  · rw [if_pos h]
    have h' : (2000 : Int) < (l.length : Int) := by omega
    refine ⟨0, fun n hn => ⟨[], ?_⟩⟩
    rw [F58_eq, F58]
    simp -implicitDefEqProofs only [sL, len9, h']
  · rw [if_neg h]
    have h' : ¬ (2000 : Int) < (l.length : Int) := by omega
    obtain ⟨N, q⟩ := tok_loop l.length l [] (Nat.le_refl _) (by omega) (by simp; omega)
    refine ⟨max N (l.length + 1), fun n hn => ⟨[], ?_⟩⟩
    rw [F58_eq, F58]
    simp -implicitDefEqProofs only [sL, len9, h']
    exact q n (by omega) n (by omega) n _ _ (by simp [upds_at, upd_at, argEnv]) (by simp [upds_at, upd_at, accV])
end LexF
end
