/- LexF, LexT, LexA, LexB, LexE -/
import Derived.Test.YtndfoijecakkfaaGreatDoorC
import Derived.Lib.Bytealg
import Derived.Lib.Fields
set_option linter.all false
set_option maxRecDepth 100000

section
namespace ep
open Go Go.Abs Go.Proofs ParF
-- lexer.Tokenize
noncomputable def wc (D:a8)(n:Nat)(k0:Env→ag→aU)(e:Env)(s:ag):aU :=
 oh (some ((e 0).aa,s)) fun t10 s =>oh (mp (bN Tryz.prog 9 t10) s) fun t11 s =>oh (mp (aK Tryz.prog .gtr 3 t11 (.int .i64 0)) s) fun t12 s =>
 br t12 (oh (some ((e 0).aa,s)) fun t14 s =>oh (ab Tryz.prog D 61 [t14.aa] s) fun t15 s =>oh (some (t15.aa,s)) fun t13 s =>oh (mp (bW 0 t13) s) fun t16 s =>oh (mp (bW 1 t13) s) fun t17 s =>oh (some (t16,s)) fun t5 s =>oh (some (t17,s)) fun t6 s =>oh (some ((e 4),s)) fun t18 s =>oh (some (t6.aa,s)) fun t19 s =>oh (some ((e 0).aa,s)) fun t20 s =>oh (some (t5.aa,s)) fun t21 s =>oh (mp (mL Tryz.prog 9 t20 none (some t21) none) s) fun t22 s =>oh (mp (bn Tryz.prog 147 [(0,t19),(1,t22)]) s) fun t23 s =>oh (mp (ak Tryz.prog 111 1 [(0,t23)]) s) fun t24 s =>oh (mp (eB Tryz.prog 111 111 t18 t24) s) fun t25 s =>oh (some (t25,s)) fun t4_2 s =>oh (some ((e 0).aa,s)) fun t26 s =>oh (some (t5.aa,s)) fun t27 s =>oh (mp (mL Tryz.prog 9 t26 (some t27) none none) s) fun t28 s =>oh (some (t28,s)) fun pY s =>
 k0 (bf e [(10,t10),(11,t11),(12,t12),(14,t14),(15,t15),(13,t13),(16,t16),(17,t17),(16,t16.aa),(5,t5),(17,t17.aa),(6,t6),(4,(e 4).aa),(18,t18),(19,t19),(20,t20),(21,t21),(22,t22),(23,t23),(24,t24),(18,t18.aa),(25,t25),(25,t25.aa),(4,t4_2),(26,t26),(27,t27),(28,t28),(28,t28.aa),(0,pY)]) s) (oh (some ((e 4).aa,s)) fun t29 s =>oh (some (t29,s)) fun t2_3 s =>oh (some ((.int .i64 0),s)) fun ru s =>
 some (.aI [t2_3,ru],s))
noncomputable def F63 (D:a8)(n:Nat)(t0:AV)(s:ag):aU :=
 oh (some (.aN,s)) fun t2 s =>oh (some ((.int .i64 0),s)) fun t3 s =>oh (some (t0.aa,s)) fun t7 s =>oh (mp (bN Tryz.prog 9 t7) s) fun t8 s =>oh (mp (aK Tryz.prog .gtr 3 t8 (.int .i64 2000)) s) fun t9 s =>
 br t9 (oh (some (.aN,s)) fun t2_2 s =>oh (some ((.int .i64 2),s)) fun lT s =>
 some (.aI [t2_2,lT],s)) (oh (some (.aN,s)) fun t4 s =>
 aJ (wc D n) n (bf (aH [t0]) [(2,t2),(3,t3),(7,t7),(8,t8),(9,t9),(4,t4)]) s)
theorem LB (n:Nat)(t0:AV)(s:ag):den C (n+1) 63 [t0] s=F63 (den C n) n t0 s :=
 (am rfl Tryz.func63 _ _).trans (by kernel_rfl)
theorem adJ:ah Tryz.prog 63=true:=by kernel_rfl
-- lexer.First
noncomputable def F61 (D:a8)(n:Nat)(t0:AV)(s:ag):aU :=
 oh (some ((.int .i64 0),s)) fun t2 s =>oh (some ((.int .i64 0),s)) fun t3 s =>oh (some (t0.aa,s)) fun t6 s =>oh (mp (gC Tryz.prog 9 t6 (.int .i64 0)) s) fun t7 s =>oh (some (t7,s)) fun t4 s =>oh (some (t4.aa,s)) fun t9 s =>oh (ab Tryz.prog D 86 [t9.aa] s) fun t10 s =>oh (some (t10,s)) fun t8 s =>
 br t8 (oh (some (t0.aa,s)) fun t11 s =>oh (ab Tryz.prog D 87 [t11.aa,(.int .i64 0),(.fn 86 [] [])] s) fun t12 s =>oh (some (t12,s)) fun t2_2 s =>oh (some ((.int .i64 101),s)) fun lT s =>
 some (.aI [t2_2,lT],s)) (oh (some (t0.aa,s)) fun t14 s =>oh (ab Tryz.prog D 88 [t14.aa,(.str [47,47])] s) fun t15 s =>oh (some (t15,s)) fun t13 s =>
 br t13 (oh (some (t0.aa,s)) fun t16 s =>oh (ab Tryz.prog D 87 [t16.aa,(.int .i64 0),(.fn 89 [] [])] s) fun t17 s =>oh (some (t17,s)) fun t2_3 s =>oh (some ((.int .i64 102),s)) fun ru s =>
 some (.aI [t2_3,ru],s)) (oh (some (t4.aa,s)) fun t19 s =>oh (ab Tryz.prog D 90 [t19.aa] s) fun t20 s =>oh (some (t20,s)) fun t18 s =>
 br t18 (oh (some (t0.aa,s)) fun t21 s =>oh (ab Tryz.prog D 87 [t21.aa,(.int .i64 0),(.fn 91 [] [])] s) fun t22 s =>oh (some (t22,s)) fun t5 s =>oh (ab Tryz.prog D 94 [] s) fun t23 s1 =>oh (some (t0.aa,s1)) fun t24 s2 =>oh (some (t5.aa,s2)) fun t25 s3 =>oh (mp (mL Tryz.prog 9 t24 none (some t25) none) s3) fun t26 s4 =>oh (ab Tryz.prog D 93 [t23.aa,t26.aa] s4) fun t27 s5 =>
 ba C 61 (bo Tryz.f61 8) [(dyn (ee []) s s1),.ae,.ae,.ae,(dyn (ee [t23.aa,t26.aa]) s4 s5)] <|
 br t27 (oh (some (t5.aa,s5)) fun t28 s =>oh (some (t28,s)) fun I8 s =>oh (some ((.int .i64 104),s)) fun adK s =>
 some (.aI [I8,adK],s)) (oh (some (t5.aa,s5)) fun t29 s =>oh (some (t29,s)) fun I7 s =>oh (some ((.int .i64 103),s)) fun adL s =>
 some (.aI [I7,adL],s))) (oh (some (t4.aa,s)) fun t31 s =>oh (ab Tryz.prog D 92 [t31.aa] s) fun t32 s =>oh (some (t32,s)) fun t30 s =>
 br t30 (oh (some (t0.aa,s)) fun t33 s =>oh (ab Tryz.prog D 87 [t33.aa,(.int .i64 0),(.fn 92 [] [])] s) fun t34 s =>oh (some (t34,s)) fun SR s =>oh (some ((.int .i64 105),s)) fun adM s =>
 some (.aI [SR,adM],s)) (oh (some (t4.aa,s)) fun t36 s =>oh (mp (aK Tryz.prog .eql 5 t36 (.int .u8 34)) s) fun t37 s =>oh (some (t37,s)) fun t35 s =>
 br t35 (oh (some (t0.aa,s)) fun t38 s =>oh (ab Tryz.prog D 95 [t38.aa] s) fun t39 s =>oh (mp (bW 0 t39) s) fun t40 s =>oh (mp (bW 1 t39) s) fun t41 s =>oh (some (t40,s)) fun adN s =>oh (some (t41,s)) fun adO s =>
 some (.aI [adN,adO],s)) (oh (some (t0.aa,s)) fun t43 s6 =>oh (mp (bN Tryz.prog 9 t43) s6) fun t44 s7 =>oh (mp (aK Tryz.prog .gtr 3 t44 (.int .i64 1)) s7) fun t45 s8 =>oh (some (t45.aa,s8)) fun t46 s9 =>oh (gd (wA t46 true) s9 (ab Tryz.prog D 96 [] s9)) fun t47 s10 =>oh (gd (wA t46 true) s10 (some (t0.aa,s10))) fun t48 s11 =>oh (gd (wA t46 true) s11 (mp (mL Tryz.prog 9 t48 none (some (.int .i64 2)) none) s11)) fun t49 s12 =>oh (gd (wA t46 true) s12 (ab Tryz.prog D 93 [t47.aa,t49.aa] s12)) fun t50 s13 =>oh (mp (bQ t46 t50 (.bool false)) s13) fun t51 s14 =>oh (some (t51,s14)) fun t42 s15 =>
 ba C 61 (bo Tryz.f61 15) [.ae,.ae,.ae,.ae,(iz (wA t46 true) (dyn (ee []) s9 s10)),(iz (wA t46 true) .ae),(iz (wA t46 true) .ae),(iz (wA t46 true) (dyn (ee [t47.aa,t49.aa]) s12 s13)),.ae,.ae] <|
 br t42 (oh (some ((.int .i64 2),s15)) fun SS s =>oh (some ((.int .i64 107),s)) fun adP s =>
 some (.aI [SS,adP],s)) (oh (some (t4.aa,s15)) fun t53 s =>oh (ab Tryz.prog D 97 [(.str [40,41,123,125,91,93,60,62,44,59,58,46,61,43,45,42,47,33,38,124]),t53.aa] s) fun t54 s =>oh (mp (aK Tryz.prog .geq 3 t54 (.int .i64 0)) s) fun t55 s =>oh (some (t55,s)) fun t52 s =>
 br t52 (oh (some ((.int .i64 1),s)) fun SU s =>oh (some ((.int .i64 107),s)) fun adQ s =>
 some (.aI [SU,adQ],s)) (oh (some ((.int .i64 1),s)) fun aav s =>oh (some ((.int .i64 108),s)) fun aaw s =>
 some (.aI [aav,aaw],s))))))))
theorem Vs (n:Nat)(t0:AV)(s:ag):den C (n+1) 61 [t0] s=F61 (den C n) n t0 s :=
 (am rfl Tryz.func61 _ _).trans (by kernel_rfl)
theorem RO (x:aU):ba C 61 (bo Tryz.f61 8) [.ae,.ae,.ae,.ae,.ae] x=x:=jL (by kernel_rfl)
theorem we (x:aU):ba C 61 (bo Tryz.f61 15) [.ae,.ae,.ae,.ae,.ae,.ae,.ae,.ae,.ae,.ae] x=x:=jL (by kernel_rfl)
theorem adR:ah Tryz.prog 61=true:=by kernel_rfl
-- lexer.isSpace
noncomputable def F86 (D:a8)(n:Nat)(t0:AV)(s:ag):aU :=
 oh (some ((.bool false),s)) fun t2 s =>oh (some (t0.aa,s)) fun t3 s =>oh (ab Tryz.prog D 97 [(.str [32,9,10,13]),t3.aa] s) fun t4 s =>oh (mp (aK Tryz.prog .geq 3 t4 (.int .i64 0)) s) fun t5 s =>oh (some (t5,s)) fun t2_2 s =>
 some (t2_2,s)
theorem Vt (n:Nat)(t0:AV)(s:ag):den C (n+1) 86 [t0] s=F86 (den C n) n t0 s :=
 (am rfl Tryz.func86 _ _).trans (by kernel_rfl)
theorem adS:ah Tryz.prog 86=true:=by kernel_rfl
-- lexer.scan
noncomputable def zP (D:a8)(n:Nat)(k0:Env→ag→aU)(e:Env)(s:ag):aU :=
 oh (some ((e 1).aa,s)) fun t7 s =>oh (some ((e 0).aa,s)) fun t8 s =>oh (mp (bN Tryz.prog 9 t8) s) fun t9 s =>oh (mp (aK Tryz.prog .lss 3 t7 t9) s) fun t10 s =>oh (some (t10.aa,s)) fun t11 s =>oh (gd (wA t11 true) s (some ((e 2).aa,s))) fun t12 s =>oh (gd (wA t11 true) s (some ((e 0).aa,s))) fun t13 s =>oh (gd (wA t11 true) s (some ((e 1).aa,s))) fun t14 s =>oh (gd (wA t11 true) s (mp (gC Tryz.prog 9 t13 t14) s)) fun t15 s =>oh (gd (wA t11 true) s (fP Tryz.prog D t12 [t15] s)) fun t16 s =>oh (mp (bQ t11 t16 (.bool false)) s) fun t17 s =>
 br t17 (oh (some ((e 1).aa,s)) fun t18 s =>oh (mp (aK Tryz.prog .add 3 t18 (.int .i64 1)) s) fun t19 s =>oh (some (t19,s)) fun SQ s =>
 k0 (bf e [(7,t7),(8,t8),(9,t9),(10,t10),(11,t11),(12,t12),(13,t13),(14,t14),(15,t15),(16,t16),(17,t17),(18,t18),(19,t19),(19,t19.aa),(1,SQ)]) s) (oh (some ((e 1).aa,s)) fun t20 s =>oh (some (t20,s)) fun rM s =>
 some (rM,s))
noncomputable def F87 (D:a8)(n:Nat)(t0 t1 t2:AV)(s:ag):aU :=
 oh (some ((.int .i64 0),s)) fun t6 s =>
 aJ (zP D n) n (bf (aH [t0,t1,t2]) [(6,t6)]) s
theorem Vu (n:Nat)(t0 t1 t2:AV)(s:ag):den C (n+1) 87 [t0,t1,t2] s=F87 (den C n) n t0 t1 t2 s :=
 (am rfl Tryz.func87 _ _).trans (by kernel_rfl)
theorem adT:ah Tryz.prog 87=true:=by kernel_rfl
-- lexer.First 1
noncomputable def F89 (D:a8)(n:Nat)(t0:AV)(s:ag):aU :=
 oh (some ((.bool false),s)) fun t2 s =>oh (some (t0.aa,s)) fun t3 s =>oh (mp (aK Tryz.prog .neq 5 t3 (.int .u8 10)) s) fun t4 s =>oh (some (t4,s)) fun t2_2 s =>
 some (t2_2,s)
theorem Vv (n:Nat)(t0:AV)(s:ag):den C (n+1) 89 [t0] s=F89 (den C n) n t0 s :=
 (am rfl Tryz.func89 _ _).trans (by kernel_rfl)
theorem adU:ah Tryz.prog 89=true:=by kernel_rfl
-- lexer.isLetter
noncomputable def F90 (D:a8)(n:Nat)(t0:AV)(s:ag):aU :=
 oh (some ((.bool false),s)) fun t2 s =>oh (some (t0.aa,s)) fun t3 s =>oh (mp (aK Tryz.prog .geq 5 t3 (.int .u8 97)) s) fun t4 s =>oh (some (t4.aa,s)) fun t5 s =>oh (gd (wA t5 true) s (some (t0.aa,s))) fun t6 s =>oh (gd (wA t5 true) s (mp (aK Tryz.prog .leq 5 t6 (.int .u8 122)) s)) fun t7 s =>oh (mp (bQ t5 t7 (.bool false)) s) fun t8 s =>oh (some (t8.aa,s)) fun t9 s =>oh (gd (wA t9 false) s (some (t0.aa,s))) fun t10 s =>oh (gd (wA t9 false) s (mp (aK Tryz.prog .geq 5 t10 (.int .u8 65)) s)) fun t11 s =>oh (gd (wA t9 false) s (some (t11.aa,s))) fun t12 s =>oh (gd (wA t12 true) s (some (t0.aa,s))) fun t13 s =>oh (gd (wA t12 true) s (mp (aK Tryz.prog .leq 5 t13 (.int .u8 90)) s)) fun t14 s =>oh (gd (wA t9 false) s (mp (bQ t12 t14 (.bool false)) s)) fun t15 s =>oh (mp (bQ t9 (.bool true) t15) s) fun t16 s =>oh (some (t16.aa,s)) fun t17 s =>oh (gd (wA t17 false) s (some (t0.aa,s))) fun t18 s =>oh (gd (wA t17 false) s (mp (aK Tryz.prog .eql 5 t18 (.int .u8 95)) s)) fun t19 s =>oh (mp (bQ t17 (.bool true) t19) s) fun t20 s =>oh (some (t20,s)) fun t2_2 s =>
 some (t2_2,s)
theorem Vw (n:Nat)(t0:AV)(s:ag):den C (n+1) 90 [t0] s=F90 (den C n) n t0 s :=
 (am rfl Tryz.func90 _ _).trans (by kernel_rfl)
theorem adV:ah Tryz.prog 90=true:=by kernel_rfl
-- lexer.First 2
noncomputable def F91 (D:a8)(n:Nat)(t0:AV)(s:ag):aU :=
 oh (some ((.bool false),s)) fun t2 s =>oh (some (t0.aa,s)) fun t3 s =>oh (ab Tryz.prog D 90 [t3.aa] s) fun t4 s =>oh (some (t4.aa,s)) fun t5 s =>oh (gd (wA t5 false) s (some (t0.aa,s))) fun t6 s =>oh (gd (wA t5 false) s (ab Tryz.prog D 92 [t6.aa] s)) fun t7 s =>oh (mp (bQ t5 (.bool true) t7) s) fun t8 s =>oh (some (t8,s)) fun t2_2 s =>
 some (t2_2,s)
theorem Vx (n:Nat)(t0:AV)(s:ag):den C (n+1) 91 [t0] s=F91 (den C n) n t0 s :=
 (am rfl Tryz.func91 _ _).trans (by kernel_rfl)
theorem adW:ah Tryz.prog 91=true:=by kernel_rfl
-- lexer.isDigit
noncomputable def F92 (D:a8)(n:Nat)(t0:AV)(s:ag):aU :=
 oh (some ((.bool false),s)) fun t2 s =>oh (some (t0.aa,s)) fun t3 s =>oh (mp (aK Tryz.prog .geq 5 t3 (.int .u8 48)) s) fun t4 s =>oh (some (t4.aa,s)) fun t5 s =>oh (gd (wA t5 true) s (some (t0.aa,s))) fun t6 s =>oh (gd (wA t5 true) s (mp (aK Tryz.prog .leq 5 t6 (.int .u8 57)) s)) fun t7 s =>oh (mp (bQ t5 t7 (.bool false)) s) fun t8 s =>oh (some (t8,s)) fun t2_2 s =>
 some (t2_2,s)
theorem Vy (n:Nat)(t0:AV)(s:ag):den C (n+1) 92 [t0] s=F92 (den C n) n t0 s :=
 (am rfl Tryz.func92 _ _).trans (by kernel_rfl)
theorem adX:ah Tryz.prog 92=true:=by kernel_rfl
-- lexer.Keywords
noncomputable def F94 (D:a8)(n:Nat)(s:ag):aU :=
 oh (some (.aN,s)) fun t0 s =>oh (ab Tryz.prog D 137 [(.str [117,115,101,32,112,117,98,32,97,115,32,102,110,32,115,116,114,117,99,116,32,101,110,117,109,32,116,114,97,105,116,32,105,109,112,108,32,102,111,114,32,99,111,110,115,116,32,109,97,99,114,111,32,108,101,116,32,109,117,116,32,119,104,105,108,101,32,114,101,116,117,114,110,32,109,97,116,99,104,32,105,102,32,101,108,115,101,32,110,101,119,32,116,114,117,101,32,102,97,108,115,101,32,116,121,112,101])] s) fun t1 s =>oh (some (t1,s)) fun pY s =>
 some (pY,s)
theorem Vz (n:Nat)(s:ag):den C (n+1) 94 [] s=F94 (den C n) n s :=
 (am rfl Tryz.func94 _ _).trans (by kernel_rfl)
theorem adY:ah Tryz.prog 94=true:=by kernel_rfl
-- lexer.scanString
noncomputable def sf (D:a8)(n:Nat)(k0:Env→ag→aU)(e:Env)(s:ag):aU :=
 oh (some ((e 4).aa,s)) fun t15 s =>oh (mp (aK Tryz.prog .add 3 t15 (.int .i64 1)) s) fun t16 s =>oh (some (t16,s)) fun t4_2 s =>
 k0 (bf e [(15,t15),(16,t16),(16,t16.aa),(4,t4_2)]) s
noncomputable def ik (D:a8)(n:Nat)(k0:Env→ag→aU)(e:Env)(s:ag):aU :=
 oh (some ((e 4).aa,s)) fun t5 s =>oh (some ((e 0).aa,s)) fun t6 s =>oh (mp (bN Tryz.prog 9 t6) s) fun t7 s =>oh (mp (aK Tryz.prog .lss 3 t5 t7) s) fun t8 s =>oh (some (t8.aa,s)) fun t9 s =>oh (gd (wA t9 true) s (some ((e 0).aa,s))) fun t10 s =>oh (gd (wA t9 true) s (some ((e 4).aa,s))) fun t11 s =>oh (gd (wA t9 true) s (mp (gC Tryz.prog 9 t10 t11) s)) fun t12 s =>oh (gd (wA t9 true) s (mp (aK Tryz.prog .neq 5 t12 (.int .u8 10)) s)) fun t13 s =>oh (mp (bQ t9 t13 (.bool false)) s) fun t14 s =>
 br t14 (oh (some ((e 0).aa,s)) fun t18 s =>oh (some ((e 4).aa,s)) fun t19 s =>oh (mp (gC Tryz.prog 9 t18 t19) s) fun t20 s =>oh (mp (aK Tryz.prog .eql 5 t20 (.int .u8 34)) s) fun t21 s =>oh (some (t21,s)) fun t17 s =>
 br t17 (oh (some ((e 4).aa,s)) fun t22 s =>oh (mp (aK Tryz.prog .add 3 t22 (.int .i64 1)) s) fun t23 s =>oh (some (t23,s)) fun t2_2 s =>oh (some ((.int .i64 106),s)) fun lT s =>
 some (.aI [t2_2,lT],s)) (oh (some ((e 0).aa,s)) fun t25 s =>oh (some ((e 4).aa,s)) fun t26 s =>oh (mp (gC Tryz.prog 9 t25 t26) s) fun t27 s =>oh (mp (aK Tryz.prog .eql 5 t27 (.int .u8 92)) s) fun t28 s =>oh (some (t28.aa,s)) fun t29 s =>oh (gd (wA t29 true) s (some ((e 4).aa,s))) fun t30 s =>oh (gd (wA t29 true) s (mp (aK Tryz.prog .add 3 t30 (.int .i64 1)) s)) fun t31 s =>oh (gd (wA t29 true) s (some ((e 0).aa,s))) fun t32 s =>oh (gd (wA t29 true) s (mp (bN Tryz.prog 9 t32) s)) fun t33 s =>oh (gd (wA t29 true) s (mp (aK Tryz.prog .lss 3 t31 t33) s)) fun t34 s =>oh (mp (bQ t29 t34 (.bool false)) s) fun t35 s =>oh (some (t35.aa,s)) fun t36 s =>oh (gd (wA t36 true) s (some ((e 0).aa,s))) fun t37 s =>oh (gd (wA t36 true) s (some ((e 4).aa,s))) fun t38 s =>oh (gd (wA t36 true) s (mp (aK Tryz.prog .add 3 t38 (.int .i64 1)) s)) fun t39 s =>oh (gd (wA t36 true) s (mp (gC Tryz.prog 9 t37 t39) s)) fun t40 s =>oh (gd (wA t36 true) s (mp (aK Tryz.prog .neq 5 t40 (.int .u8 10)) s)) fun t41 s =>oh (mp (bQ t36 t41 (.bool false)) s) fun t42 s =>oh (some (t42,s)) fun t24 s =>
 br t24 (oh (some ((e 4).aa,s)) fun t43 s =>oh (mp (aK Tryz.prog .add 3 t43 (.int .i64 1)) s) fun t44 s =>oh (some (t44,s)) fun t4_3 s =>
 sf D n k0 (bf e [(5,t5),(6,t6),(7,t7),(8,t8),(9,t9),(10,t10),(11,t11),(12,t12),(13,t13),(14,t14),(18,t18),(19,t19),(20,t20),(21,t21),(21,t21.aa),(17,t17),(25,t25),(26,t26),(27,t27),(28,t28),(29,t29),(30,t30),(31,t31),(32,t32),(33,t33),(34,t34),(35,t35),(36,t36),(37,t37),(38,t38),(39,t39),(40,t40),(41,t41),(42,t42),(42,t42.aa),(24,t24),(43,t43),(44,t44),(44,t44.aa),(4,t4_3)]) s)
  (sf D n k0 (bf e [(5,t5),(6,t6),(7,t7),(8,t8),(9,t9),(10,t10),(11,t11),(12,t12),(13,t13),(14,t14),(18,t18),(19,t19),(20,t20),(21,t21),(21,t21.aa),(17,t17),(25,t25),(26,t26),(27,t27),(28,t28),(29,t29),(30,t30),(31,t31),(32,t32),(33,t33),(34,t34),(35,t35),(36,t36),(37,t37),(38,t38),(39,t39),(40,t40),(41,t41),(42,t42),(42,t42.aa),(24,t24)]) s))) (oh (some ((e 0).aa,s)) fun t45 s =>oh (ab Tryz.prog D 87 [t45.aa,(.int .i64 1),(.fn 138 [] [])] s) fun t46 s =>oh (some (t46,s)) fun t2_3 s =>oh (some ((.int .i64 108),s)) fun ru s =>
 some (.aI [t2_3,ru],s))
noncomputable def F95 (D:a8)(n:Nat)(t0:AV)(s:ag):aU :=
 oh (some ((.int .i64 0),s)) fun t2 s =>oh (some ((.int .i64 0),s)) fun t3 s =>oh (some ((.int .i64 1),s)) fun t4 s =>
 aJ (ik D n) n (bf (aH [t0]) [(2,t2),(3,t3),(4,t4)]) s
theorem VA (n:Nat)(t0:AV)(s:ag):den C (n+1) 95 [t0] s=F95 (den C n) n t0 s :=
 (am rfl Tryz.func95 _ _).trans (by kernel_rfl)
theorem adZ:ah Tryz.prog 95=true:=by kernel_rfl
-- lexer.twoBytePunct
noncomputable def F96 (D:a8)(n:Nat)(s:ag):aU :=
 oh (some (.aN,s)) fun t0 s =>oh (ab Tryz.prog D 137 [(.str [58,58,32,61,62,32,45,62,32,61,61,32,38,38,32,124,124])] s) fun t1 s =>oh (some (t1,s)) fun pY s =>
 some (pY,s)
theorem VB (n:Nat)(s:ag):den C (n+1) 96 [] s=F96 (den C n) n s :=
 (am rfl Tryz.func96 _ _).trans (by kernel_rfl)
theorem ad0:ah Tryz.prog 96=true:=by kernel_rfl
-- lexer.scanString 1
noncomputable def aax (D:a8)(n:Nat)(t0:AV)(s:ag):aU :=
 oh (some ((.bool false),s)) fun t2 s =>oh (some (t0.aa,s)) fun t3 s =>oh (mp (aK Tryz.prog .neq 5 t3 (.int .u8 10)) s) fun t4 s =>oh (some (t4,s)) fun t2_2 s =>
 some (t2_2,s)
theorem P9 (n:Nat)(t0:AV)(s:ag):den C (n+1) 138 [t0] s=aax (den C n) n t0 s :=
 (am rfl Tryz.func138 _ _).trans (by kernel_rfl)
theorem aay:ah Tryz.prog 138=true:=by kernel_rfl
-- slices.Contains   string,string
noncomputable def YA (D:a8)(n:Nat)(t0 t1:AV)(s:ag):aU :=
 oh (some ((.bool false),s)) fun t4 s =>oh (some (t0.aa,s)) fun t5 s =>oh (some (t1.aa,s)) fun t6 s =>oh (ab Tryz.prog D 136 [t5.aa,t6.aa] s) fun t7 s =>oh (mp (aK Tryz.prog .geq 3 t7 (.int .i64 0)) s) fun t8 s =>oh (some (t8,s)) fun t4_2 s =>
 some (t4_2,s)
theorem C6 (n:Nat)(t0 t1:AV)(s:ag):den C (n+1) 93 [t0,t1] s=YA (den C n) n t0 t1 s :=
 (am rfl Tryz.func93 _ _).trans (by kernel_rfl)
theorem Td:ah Tryz.prog 93=true:=by kernel_rfl
-- slices.Index   string,string
noncomputable def iK (D:a8)(n:Nat)(k0:Env→ag→aU)(e:Env)(s:ag):aU :=
 oh (mp (aK Tryz.prog .lss 3 (e 8) (e 7)) s) fun t9 s =>
 br t9 (oh (some ((e 8).aa,s)) fun t10 s =>oh (some (t10,s)) fun t5 s =>oh (some ((e 1).aa,s)) fun t11 s =>oh (some ((e 0).aa,s)) fun t12 s =>oh (some (t5.aa,s)) fun t13 s =>oh (mp (aA Tryz.prog 75 t12 t13) s) fun t14 s =>oh (af false false 1 t14 s) fun t15 s =>oh (mp (aK Tryz.prog .eql 9 t11 t15) s) fun t16 s =>
 br t16 (oh (some (t5.aa,s)) fun t17 s =>oh (some (t17,s)) fun t4_2 s =>
 some (t4_2,s)) (oh (mp (aK Tryz.prog .add 3 (e 8) (.int .i64 1)) s) fun t18 s =>oh (some (t18.aa,s)) fun t8_2 s =>
 k0 (bf e [(9,t9),(10,t10),(10,t10.aa),(5,t5),(11,t11),(12,t12),(13,t13),(14,t14),(15,t15),(16,t16),(18,t18),(8,t8_2)]) s)) (oh (some ((.int .i64 (-1)),s)) fun t4_3 s =>
 some (t4_3,s))
noncomputable def Jb (D:a8)(n:Nat)(t0 t1:AV)(s:ag):aU :=
 oh (some ((.int .i64 0),s)) fun t4 s =>oh (some (t0.aa,s)) fun t6 s =>oh (mp (bN Tryz.prog 75 t6) s) fun t7 s =>oh (some ((.int .i64 0),s)) fun t8 s =>
 aJ (iK D n) n (bf (aH [t0,t1]) [(4,t4),(6,t6),(7,t7),(8,t8)]) s
theorem yP (n:Nat)(t0 t1:AV)(s:ag):den C (n+1) 136 [t0,t1] s=Jb (den C n) n t0 t1 s :=
 (am rfl Tryz.func136 _ _).trans (by kernel_rfl)
theorem Jc:ah Tryz.prog 136=true:=by kernel_rfl
-- glossatorkeep1.short
noncomputable def Te (D:a8)(n:Nat)(t0 t1:AV)(s:ag):aU :=
 oh (some ((.str []),s)) fun t4 s =>oh (some (t0.aa,s)) fun t5 s =>oh (some (t0.aa,s)) fun t6 s =>oh (mp (bN Tryz.prog 9 t6) s) fun t7 s =>oh (some (t1.aa,s)) fun t8 s =>oh (mp (Ag t7 t8) s) fun t9 s =>oh (mp (mL Tryz.prog 9 t5 none (some t9) none) s) fun t10 s =>oh (some (t10,s)) fun t4_2 s =>
 some (t4_2,s)
theorem yQ (n:Nat)(t0 t1:AV)(s:ag):den C (n+1) 12 [t0,t1] s=Te (den C n) n t0 t1 s :=
 (am rfl Tryz.func12 _ _).trans (by kernel_rfl)
theorem Oq:ah Tryz.prog 12=true:=by kernel_rfl
end ep
end

section
namespace ep
open Go
def isSp (c:UInt8):Bool:=decide (0≤Lib.indexByte [32,9,10,13] c)
def jj (c:UInt8):Bool:=c != 10
def mD (c:UInt8):Bool:=(decide (97≤c.toNat)&&decide (c.toNat≤122)) || (decide (65≤c.toNat)&&decide (c.toNat≤90)) || c.toNat==95
def mE (c:UInt8):Bool:=decide (48≤c.toNat)&&decide (c.toNat≤57)
def isWord (c:UInt8):Bool:=mD c || mE c
def fJ (p:UInt8→Bool)(l:List UInt8):Nat:=(l.takeWhile p).length
def wg:List UInt8:=[117,115,101,32,112,117,98,32,97,115,32,102,110,32,115,116,114,117,99,116,32,101,110,117,109,32,116,114,97,105,116,32,105,109,112,108,32,102,111,114,32,99,111,110,115,116,32,109,97,99,114,111,32,108,101,116,32,109,117,116,32,119,104,105,108,101,32,114,101,116,117,114,110,32,109,97,116,99,104,32,105,102,32,101,108,115,101,32,110,101,119,32,116,114,117,101,32,102,97,108,115,101,32,116,121,112,101]
def qV:List UInt8:=[58,58,32,61,62,32,45,62,32,61,61,32,38,38,32,124,124]
def ya:List UInt8:=[40,41,123,125,91,93,60,62,44,59,58,46,61,43,45,42,47,33,38,124]
def kw:List (List UInt8):=Lib.fields wg
def two:List (List UInt8):=Lib.fields qV
def sc:List UInt8→Nat→Option Nat
 | [],_=>none
 | [b],i=>if b=34 then some (i+1) else none
 | b::c::r,i=>if b=10 then none else if b=34 then some (i+1) else if b=92∧c≠10 then sc r (i+2) else sc (c::r) (i+1)
def jE (l:List UInt8):Nat×Nat:=match sc (l.drop 1) 1 with
 | some n=>(n,106)
 | none=>(1+fJ jj (l.drop 1),108)
def first:List UInt8→Nat×Nat
 | []=>(0,0)
 | c::r =>
  if isSp c=true then(fJ isSp (c::r),101)
  else if Lib.hasPrefix (c::r) [47,47]=true then(fJ jj (c::r),102)
  else if mD c=true then(if((c::r).take (fJ isWord (c::r)))∈kw then(fJ isWord (c::r),104) else(fJ isWord (c::r),103))
  else if mE c=true then(fJ mE (c::r),105)
  else if c=34 then jE (c::r)
  else if 1<(c::r).length∧(c::r).take 2∈two then(2,107)
  else if 0≤Lib.indexByte ya c then(1,107) else(1,108)
abbrev Tok:=Nat×List UInt8
def qW:Nat→List UInt8→List Tok
 | 0,_=>[]
 | f+1,l=>if l=[] then[] else((first l).2,l.take (first l).1)::qW f (l.drop (first l).1)
def gm (l:List UInt8):List Tok:=qW l.length l
theorem lI (p:UInt8→Bool)(l:List UInt8):fJ p l≤l.length:=by
 unfold fJ
 induction l with
 | nil=>simp
 | cons b r ih=>rw[List.takeWhile_cons];split<;>simp;omega
theorem od {p:UInt8→Bool}{c:UInt8}{r:List UInt8}(h:p c=true):1≤fJ p (c::r):=by simp[fJ,List.takeWhile_cons,h]
theorem si:∀(l:List UInt8)(i n:Nat),sc l i=some n→i+1≤n∧n≤i+l.length
 | [],i,n,h=>by simp[sc]at h
 | [b],i,n,h=>by
  unfold sc at h;split at h
  ·cases h;simp
  ·cases h
 | b::c::r,i,n,h=>by
  unfold sc at h
  split at h
  ·cases h
  ·split at h
   ·cases h;simp
   ·split at h
    ·have:=si r _ _ h;simp;omega
    ·have:=si (c::r) _ _ h;simp at this ⊢;omega
theorem eI (l:List UInt8)(h:l≠[]):1≤(first l).1∧(first l).1≤l.length:=by
 cases l with
 | nil=>exact absurd rfl h
 | cons c r =>
  rw[first]
  split
  ·rename_i h;exact⟨od h,lI _ _⟩
  ·split
   ·rename_i h
    refine⟨od ?_,lI _ _⟩
    simp[Lib.hasPrefix,List.isPrefixOf]at h
    simp[jj,←h.1]
   ·split
    ·rename_i h
     have hw:isWord c=true:=by simp[isWord,h]
     split<;>exact⟨od hw,lI _ _⟩
    ·split
     ·rename_i h;exact⟨od h,lI _ _⟩
     ·split
      ·unfold jE
       split
       ·rename_i h
        have:=si _ _ _ h
        simp at this ⊢
        omega
       ·have:=lI jj ((c::r).drop 1)
        simp at this ⊢
        omega
      ·split
       ·rename_i h;exact⟨by simp,h.1⟩
       ·split<;>simp
theorem HK:∀(f:Nat)(l:List UInt8),l.length≤f→qW f l=gm l:=by
 have key:∀(f g:Nat) (l:List UInt8),l.length≤f→l.length≤g→qW f l=qW g l:=by
  intro f
  induction f with
  | zero =>
   intro g l h1 h2
   have:l=[]:=List.length_eq_zero_iff.1 (by omega)
   subst this
   cases g<;>simp[qW]
  | succ f ih =>
   intro g l h1 h2
   by_cases hl:l=[]
   ·subst hl;cases g<;>simp[qW]
   ·obtain⟨g,rfl⟩:∃q,g=q+1:=⟨g-1,by have:=List.length_pos_iff.2 hl;omega⟩
    have hb:=eI l hl
    unfold qW
    rw[if_neg hl,if_neg hl,ih g (l.drop (first l).1) (by simp;omega) (by simp;omega)]
 intro f l h
 exact key f l.length l h (Nat.le_refl _)
theorem BR:gm []=[]:=rfl
theorem jO {l:List UInt8}(h:l≠[]):gm l=((first l).2,l.take (first l).1)::gm (l.drop (first l).1):=by
 have hb:=eI l h
 obtain⟨f,hf⟩:∃f,l.length=f+1:=⟨l.length-1,by have:=List.length_pos_iff.2 h;omega⟩
 have:gm l=qW (f+1) l:=by rw[gm,hf]
 rw[this,qW,if_neg h,HK f _ (by simp;omega)]
def zu (ts:List Tok):List UInt8:=(ts.map (·.2)).flatten
theorem KR:∀(n:Nat)(l:List UInt8),l.length≤n→zu (gm l)=l:=by
 intro n
 induction n with
 | zero =>
  intro l h
  have:l=[]:=List.length_eq_zero_iff.1 (by omega)
  subst this;rfl
 | succ n ih =>
  intro l h
  by_cases hl:l=[]
  ·subst hl;rfl
  ·have hb:=eI l hl
   rw[jO hl]
   show l.take _++zu (gm _)=l
   rw[ih _ (by simp;omega),List.take_append_drop]
theorem sG (l:List UInt8):(gm l).length≤l.length:=by
 have key:∀(n:Nat) (l:List UInt8),l.length≤n→(gm l).length≤l.length:=by
  intro n
  induction n with
  | zero =>
   intro l h
   have:l=[]:=List.length_eq_zero_iff.1 (by omega)
   subst this;simp[gm,qW]
  | succ n ih =>
   intro l h
   by_cases hl:l=[]
   ·subst hl;simp[gm,qW]
   ·have hb:=eI l hl
    have:=ih (l.drop (first l).1) (by simp;omega)
    rw[jO hl]
    simp at this ⊢
    omega
 exact key _ l (Nat.le_refl _)
end ep
end

section
namespace ep
open Go Go.Abs Go.Proofs ParF
abbrev I (n:Int):AV:=.int .i64 n
abbrev U (c:UInt8):AV:=.int .u8 c.toNat
theorem AC.at {g:FuncId}{args:List AV}{v:AV}(h:AC C g args v):∃N,∀n,N≤n→∀s,ab Tryz.prog (den C n) g args s=some (v,s):=h
theorem gL {a:Nat}(h:a<2000000000):IntKind.i64.wrap ((a:Int)+1)=((a+1:Nat):Int):=by rw[wrap64]<;>omega
theorem pm:Tryz.prog.underlying 9=some .string:=by kernel_rfl
theorem ko (s:List UInt8):bN Tryz.prog 9 (.str s)=some (I s.length):=by
 simp[bN,pm]
theorem oc {s:List UInt8}{i:Nat}(h1:i≤s.length):mL Tryz.prog 9 (.str s) none (some (I i)) none=some (.str (s.take i)):=by
 simp[mL,pm,lM,dQ,h1]
theorem P_ {s:List UInt8}{i:Nat}(h1:i≤s.length):mL Tryz.prog 9 (.str s) (some (I i)) none none=some (.str (s.drop i)):=by
 simp[mL,pm,lM,dQ,h1]
theorem KH {s:List UInt8}{i:Nat}{x:UInt8}(h:s[i]?=some x):gC Tryz.prog 9 (.str s) (I i)=some (U x):=by
 simp[gC,pm,h]
theorem RP (D:a8)(g:FuncId)(a:AV)(s:ag):fP Tryz.prog D (.fn g [] []) [a] s=ab Tryz.prog D g [a.aa] s:=rfl
theorem x_ (s:List UInt8)(k:Nat):AC C 12 [.str s,I k] (.str (s.take k)):=by
 refine .intro Oq (by simp[aC,aY,eR,eQ]) (by rfl) ⟨0,fun n hn=>⟨[],?_⟩⟩
 have e1:=oc (s:=s) (i:=min s.length k) (by omega)
 have e2:s.take (min s.length k)=s.take k:=by
  rw[Nat.min_def];split
  ·rw[List.take_of_length_le (Nat.le_refl _),List.take_of_length_le (by assumption)]
  ·rfl
 have e:(if k<s.length then(k:Int) else(s.length:Int))=((min s.length k:Nat):Int):=by split<;>omega
 rw[yQ,Te]
 simp -implicitDefEqProofs only[sL,ko,e,e1,e2]
theorem lD (a:List UInt8)(c:UInt8):AC C 97 [.str a,U c] (I (Lib.indexByte a c)) :=
 .intro (by kernel_rfl) rfl rfl ⟨0,fun n _=>⟨[],by rw[gx (e:=u0) (by rfl)];simp[u0]⟩⟩
theorem DR (a b:List UInt8):AC C 88 [.str a,.str b] (.bool (Lib.hasPrefix a b)) :=
 .intro (by kernel_rfl) rfl rfl ⟨0,fun n _=>⟨[],by rw[gx (e:=tT) (by rfl)];rfl⟩⟩
abbrev strs (xs:List (List UInt8)):List AV:=xs.map .str
theorem cR (xs:List (List UInt8)):aV (strs xs)=true:=by induction xs with
 | nil=>rfl
 | cons x xs ih=>show aV (.str x::strs xs)=true;rw[aC,ih];rfl
theorem kg (a:List UInt8)(h1:a.length<1000)(h2:(a.all fun b=>b.toNat<128)=true):AC C 137 [.str a] (.sl 9 1 (strs (Lib.fields a)) .sh) :=
 .intro (by kernel_rfl) rfl (by rw[cE,cR]) ⟨0,fun n _=>⟨[],by rw[gx (e:=lS) (by rfl)];simp only[lS];rw[if_pos ⟨h1,h2⟩]⟩⟩
theorem BT (c:UInt8):AC C 86 [U c] (.bool (isSp c)):=by
 refine .intro adS rfl rfl ?_
 obtain⟨N,q⟩:=AC.at (lD [32,9,10,13] c)
 refine⟨N,fun n hn=>⟨[],?_⟩⟩
 have q:∀s,ab Tryz.prog (den C n) 97 [.str [32,9,10,13],.int .u8 c.toNat] s=_:=q n hn
 rw[Vt,F86]
 simp -implicitDefEqProofs only[sL,q,isSp]
theorem Qb (c:UInt8):((c.toNat:Int) != 10)=jj c:=by
 unfold jj
 have h10:(10:UInt8).toNat=10:=rfl
 by_cases h:c=10
 ·subst h;rfl
 ·have h1:(c != 10)=true:=by simpa using h
  rw[h1]
  simp only[bne_iff_ne,ne_eq]
  intro h'
  exact h (UInt8.toNat_inj.1 (by omega))
theorem HL (c:UInt8):AC C 89 [U c] (.bool (jj c)):=by
 refine .intro adU rfl rfl ⟨0,fun n hn=>⟨[],?_⟩⟩
 have e:=Qb c
 rw[Vv,F89]
 simp -implicitDefEqProofs only[sL,e]
theorem DS (c:UInt8):AC C 138 [U c] (.bool (jj c)):=by
 refine .intro aay rfl rfl ⟨0,fun n hn=>⟨[],?_⟩⟩
 have e:=Qb c
 rw[P9,aax]
 simp -implicitDefEqProofs only[sL,e]
theorem sj (c:UInt8):AC C 92 [U c] (.bool (mE c)):=by
 refine .intro adX rfl rfl ⟨0,fun n hn=>⟨[],?_⟩⟩
 rw[Vy,F92]
 by_cases h:48≤c.toNat
 ·have h':((48:Int)≤(c.toNat:Int)):=by omega
  by_cases k:c.toNat≤57
  ·have k':((c.toNat:Int)≤57):=by omega
   simp -implicitDefEqProofs only[sL,h',k',mE,h,k,Bool.true_and]
  ·have k':¬((c.toNat:Int)≤57):=by omega
   simp -implicitDefEqProofs only[sL,h',k',mE,h,k,Bool.true_and]
 ·have h':¬((48:Int)≤(c.toNat:Int)):=by omega
  simp -implicitDefEqProofs only[sL,h',mE,h,Bool.false_and]
theorem yb (c:UInt8):AC C 90 [U c] (.bool (mD c)):=by
 refine .intro adV rfl rfl ⟨0,fun n hn=>⟨[],?_⟩⟩
 have e95:((c.toNat:Int)==95)=(c.toNat==95):=by
  by_cases h:c.toNat=95
  ·rw[h];rfl
  ·rw[beq_eq_false_iff_ne.2 h,beq_eq_false_iff_ne.2 (by omega)]
 rw[Vw,F90]
 by_cases h1:97≤c.toNat
 ·have MQ:((97:Int)≤(c.toNat:Int)):=by omega
  by_cases h2:c.toNat≤122
  ·have ZW:((c.toNat:Int)≤122):=by omega
   simp -implicitDefEqProofs only[sL,MQ,ZW,mD,h1,h2,Bool.true_or,Bool.and_self,Bool.and_true]
  ·have ZW:¬((c.toNat:Int)≤122):=by omega
   have h3:(65:Int)≤(c.toNat:Int):=by omega
   have h3':65≤c.toNat:=by omega
   have h4:¬((c.toNat:Int)≤90):=by omega
   have h4':¬(c.toNat≤90):=by omega
   simp -implicitDefEqProofs only[sL,MQ,ZW,h3,h4,e95,mD,h1,h2,h3',h4',Bool.false_or,Bool.and_false,Bool.true_and]
 ·have MQ:¬((97:Int)≤(c.toNat:Int)):=by omega
  by_cases h3':65≤c.toNat
  ·have h3:(65:Int)≤(c.toNat:Int):=by omega
   by_cases h4':c.toNat≤90
   ·have h4:((c.toNat:Int)≤90):=by omega
    simp -implicitDefEqProofs only[sL,MQ,h3,h4,mD,h1,h3',h4',Bool.false_and,Bool.true_or,Bool.false_or,Bool.and_self]
   ·have h4:¬((c.toNat:Int)≤90):=by omega
    simp -implicitDefEqProofs only[sL,MQ,h3,h4,e95,mD,h1,h3',h4',Bool.false_and,Bool.false_or,Bool.and_false]
  ·have h3:¬(65:Int)≤(c.toNat:Int):=by omega
   simp -implicitDefEqProofs only[sL,MQ,h3,e95,mD,h1,h3',Bool.false_and,Bool.false_or,Bool.and_false]
theorem DT (c:UInt8):AC C 91 [U c] (.bool (isWord c)):=by
 refine .intro adW rfl rfl ?_
 obtain⟨N1,q1⟩:=AC.at (yb c)
 obtain⟨N2,q2⟩:=AC.at (sj c)
 refine⟨max N1 N2,fun n hn=>⟨[],?_⟩⟩
 have q1:∀s,ab Tryz.prog (den C n) 90 [.int .u8 c.toNat] s=_:=q1 n (by omega)
 have q2:∀s,ab Tryz.prog (den C n) 92 [.int .u8 c.toNat] s=_:=q2 n (by omega)
 rw[Vx,F91]
 cases h:mD c with
 | true =>
  rw[h]at q1
  simp -implicitDefEqProofs only[sL,q1,isWord,h,Bool.true_or]
 | false =>
  rw[h]at q1
  simp -implicitDefEqProofs only[sL,q1,q2,isWord,h,Bool.false_or]
theorem Qc {p:UInt8→Bool}{l:List UInt8}{i:Nat}(h:i<l.length):fJ p (l.drop i)=if p l[i]=true then 1+fJ p (l.drop (i+1)) else 0:=by
 rw[List.drop_eq_getElem_cons h]
 unfold fJ
 rw[List.takeWhile_cons]
 split
 ·simp;omega
 ·rfl
theorem HM (g:FuncId)(p:UInt8→Bool)(hg:∀c,AC C g [U c] (.bool (p c)))(l:List UInt8)(hl:l.length<1000000):∀(k i:Nat),l.length-i=k→i≤l.length →
  ∃N,∀n,N≤n→∀m,k<m→∀n' e s,e 0=.str l→e 1=I i→e 2=.fn g [] []→aJ (zP (den C n) n') m e s=some (I (i+fJ p (l.drop i):Nat),s):=by
 intro k
 induction k with
 | zero =>
  intro i hk hi
  refine⟨0,fun n hn m hm n' e s h0 h1 h2=>?_⟩
  obtain⟨m,rfl⟩:∃j,m=j+1:=⟨m-1,by omega⟩
  have c:¬i<l.length:=by omega
  have z:fJ p (l.drop i)=0:=by rw[List.drop_of_length_le (by omega)];rfl
  rw[aJ,zP,z]
  simp -implicitDefEqProofs only[sL,h0,h1,h2,ko,c,Nat.add_zero]
 | succ k ih =>
  intro i hk hi
  have c:i<l.length:=by omega
  have e1:=KH (List.getElem?_eq_getElem c)
  obtain⟨N1,q1⟩:=AC.at (hg l[i])
  obtain⟨N2,q2⟩:=ih (i+1) (by omega) (by omega)
  refine⟨max N1 N2,fun n hn m hm n' e s h0 h1 h2=>?_⟩
  obtain⟨m,rfl⟩:∃j,m=j+1:=⟨m-1,by omega⟩
  have q1:∀s,ab Tryz.prog (den C n) g [.int .u8 l[i].toNat] s=_:=q1 n (by omega)
  have e2:=gL (a:=i) (by omega)
  rw[aJ,zP,Qc c]
  cases hp:p l[i] with
  | true =>
   rw[hp]at q1
   rw[if_pos rfl]
   simp -implicitDefEqProofs only[sL,h0,h1,h2,ko,c,e1,e2,RP,q1]
   rw[←Nat.add_assoc]
   exact q2 n (by omega) m (by omega) n' _ s (by simp[ai,an,h0]) (by simp[ai,an]) (by simp[ai,an,h2])
  | false =>
   rw[hp]at q1
   rw[if_neg (by simp)]
   simp -implicitDefEqProofs only[sL,h0,h1,h2,ko,c,e1,RP,q1,Nat.add_zero]
theorem nH (g:FuncId)(p:UInt8→Bool)(hg:∀c,AC C g [U c] (.bool (p c)))(l:List UInt8)(hl:l.length<1000000)(i:Nat)(hi:i≤l.length):AC C 87 [.str l,I i,.fn g [] []] (I (i+fJ p (l.drop i):Nat)):=by
 refine .intro adT (by simp[aC,aY,eR,eQ,AV.a_]) rfl ?_
 obtain⟨N,q⟩:=HM g p hg l hl _ i rfl hi
 refine⟨max N (l.length+1),fun n hn=>⟨[],?_⟩⟩
 rw[Vu,F87]
 simp -implicitDefEqProofs only[sL,]
 exact q n (by omega) n (by omega) n _ _ (by simp[ai,an,aH]) (by simp[ai,an,aH]) (by simp[ai,an,aH])
theorem FE:Tryz.prog.underlying 75=some (.slice 9):=by kernel_rfl
theorem To:da Tryz.prog 9=some 1:=by kernel_rfl
theorem aaz {xs:List (List UInt8)}{i:Nat}{x:List UInt8}{f:om}(h:xs[i]?=some x):aA Tryz.prog 75 (.sl 9 1 (strs xs) f) (I i)=some (.box [.str x] 0):=by
 simp[aA,FE,To,h,AV.cells]
theorem aaA (xs:List (List UInt8))(f:om):bN Tryz.prog 75 (.sl 9 1 (strs xs) f)=some (I xs.length):=by
 simp[bN,FE]
def BU (w:List UInt8):List (List UInt8)→Nat→Int
 | [],_=>-1
 | x::xs,i=>if w==x then i else BU w xs (i+1)
theorem BV (w:List UInt8):∀(xs:List (List UInt8))(i:Nat),decide (0≤BU w xs i)=decide (w∈xs)
 | [],i=>by simp[BU]
 | x::xs,i=>by
  unfold BU
  by_cases h:w=x
  ·subst h;simp
  ·rw[if_neg (by simpa using h),BV w xs (i+1)]
   simp[h]
theorem o7 (w:List UInt8)(xs:List (List UInt8))(hx:xs.length<1000000):∀(k i:Nat),xs.length-i=k→i≤xs.length→∀D m,k<m→∀n' e s,e 0=.sl 9 1 (strs xs) .sh→e 1=.str w→e 7=I xs.length→e 8=I i →
  aJ (iK D n') m e s=some (I (BU w (xs.drop i) i),s):=by
 intro k
 induction k with
 | zero =>
  intro i hk hi D m hm n' e s h0 h1 h7 h8
  obtain⟨m,rfl⟩:∃j,m=j+1:=⟨m-1,by omega⟩
  have c:¬i<xs.length:=by omega
  rw[aJ,iK,List.drop_of_length_le (by omega),BU]
  simp -implicitDefEqProofs only[sL,h0,h1,h7,h8,c]
 | succ k ih =>
  intro i hk hi D m hm n' e s h0 h1 h7 h8
  obtain⟨m,rfl⟩:∃j,m=j+1:=⟨m-1,by omega⟩
  have c:i<xs.length:=by omega
  have e1:=aaz (f:=.sh) (List.getElem?_eq_getElem c)
  have e2:=gL (a:=i) (by omega)
  rw[aJ,iK,List.drop_eq_getElem_cons c,BU]
  cases h:w==xs[i] with
  | true =>
   rw[if_pos rfl]
   simp -implicitDefEqProofs only[sL,h0,h1,h7,h8,c,e1,h,eF]
  | false =>
   rw[if_neg (by simp)]
   simp -implicitDefEqProofs only[sL,h0,h1,h7,h8,c,e1,e2,h,eF]
   exact ih (i+1) (by omega) (by omega) D m (by omega) n' _ s (by simp[ai,an,h0]) (by simp[ai,an,h1]) (by simp[ai,an,h7]) (by simp[ai,an])
theorem jA (xs:List (List UInt8))(hx:xs.length<1000)(w:List UInt8):AC C 93 [.sl 9 1 (strs xs) .sh,.str w] (.bool (decide (w∈xs))):=by
 have hi:AC C 136 [.sl 9 1 (strs xs) .sh,.str w] (I (BU w xs 0)):=by
  refine .intro Jc (by simp[aC,aY,eR,cE,cR]) rfl ⟨xs.length+1,fun n hn=>⟨[],?_⟩⟩
  have l:=aaA xs .sh
  rw[yP,Jb]
  simp -implicitDefEqProofs only[sL,eF,l]
  exact o7 w xs (by omega) _ 0 rfl (by omega) (den C n) n (by omega) n _ _ (by simp[ai,an,aH]) (by simp[ai,an,aH]) (by simp[ai,an]) (by simp[ai,an])
 refine .intro Td (by simp[aC,aY,eR,cE,cR]) rfl ?_
 obtain⟨N,q⟩:=AC.at hi
 have e:=BV w xs 0
 refine⟨N,fun n hn=>⟨[],?_⟩⟩
 have q:=q n hn
 rw[C6,YA]
 simp -implicitDefEqProofs only[sL,eF,q,e]
theorem LC:wg.length<1000∧(wg.all fun b=>b.toNat<128)=true∧kw.length<1000:=by decide +kernel
theorem DU:qV.length<1000∧(qV.all fun b=>b.toNat<128)=true∧two.length<1000:=by decide +kernel
theorem VC:AC C 94 [] (.sl 9 1 (strs kw) .sh):=by
 refine .intro adY rfl (by rw[cE,cR]) ?_
 obtain⟨N,q⟩:=AC.at (kg wg LC.1 LC.2.1)
 refine⟨N,fun n hn=>⟨[],?_⟩⟩
 have q:=q n hn
 unfold wg at q
 rw[Vz,F94]
 simp -implicitDefEqProofs only[sL,q,eF]
 rfl
theorem Qd:AC C 96 [] (.sl 9 1 (strs two) .sh):=by
 refine .intro ad0 rfl (by rw[cE,cR]) ?_
 obtain⟨N,q⟩:=AC.at (kg qV DU.1 DU.2.1)
 refine⟨N,fun n hn=>⟨[],?_⟩⟩
 have q:=q n hn
 unfold qV at q
 rw[VB,F96]
 simp -implicitDefEqProofs only[sL,q,eF]
 rfl
end ep
end

section
namespace ep
open Go Go.Abs Go.Proofs ParF
theorem Qe {l:List UInt8}{i:Nat}(h:i<l.length):sc (l.drop i) i=if l[i]=10 then none else if l[i]=34 then some (i+1) else if l[i]=92∧∃c,l[i+1]?=some c∧c≠10 then sc (l.drop (i+2)) (i+2) else sc (l.drop (i+1)) (i+1):=by
 rw[List.drop_eq_getElem_cons h]
 by_cases h1:i+1<l.length
 ·rw[List.drop_eq_getElem_cons h1]
  have e:l[i+1]?=some l[i+1]:=List.getElem?_eq_getElem h1
  rw[sc]
  by_cases c1:l[i]=10
  ·rw[if_pos c1,if_pos c1]
  ·rw[if_neg c1,if_neg c1]
   by_cases c2:l[i]=34
   ·rw[if_pos c2,if_pos c2]
   ·rw[if_neg c2,if_neg c2]
    by_cases c3:l[i]=92∧l[i+1]≠10
    ·rw[if_pos c3,if_pos ⟨c3.1,_,e,c3.2⟩]
    ·rw[if_neg c3,if_neg (by rintro⟨k1,c,k2,k3⟩;rw[e]at k2;cases k2;exact c3 ⟨k1,k3⟩)]
 ·have e:l.drop (i+1)=[]:=List.drop_of_length_le (by omega)
  have e':l[i+1]?=none:=List.getElem?_eq_none (by omega)
  rw[e,sc,sc]
  have hno:¬(l[i]=92∧∃c,l[i+1]?=some c∧c≠10):=by rintro⟨_,c,k,_⟩;rw[e']at k;cases k
  rw[if_neg hno]
  by_cases c1:l[i]=10
  ·rw[if_pos c1,if_neg (by rw[c1];decide)]
  ·rw[if_neg c1]
theorem eqb (c:UInt8)(k:UInt8)(z:Int)(hz:z=k.toNat):((c.toNat:Int)==z)=decide (c=k):=by
 subst hz
 by_cases h:c=k
 ·subst h;simp
 ·have:(c.toNat:Int)≠(k.toNat:Int):=fun e=>h (UInt8.toNat_inj.1 (by omega))
  rw[beq_eq_false_iff_ne.2 this];simp[h]
def Qf (l:List UInt8)(x:Option Nat):AV:=match x with
 | some n=>.aI [I n,I 106]
 | none=>.aI [I (1+fJ jj (l.drop 1):Nat),I 108]
theorem aaB (l:List UInt8)(i:Nat)(hi:i<1000000)(D:a8)(n':Nat)(k0:Env→ag→aU)(e:Env)(s:ag)(h4:e 4=I i):∃e',sf D n' k0 e s=k0 e' s∧e' 4=I (i+1:Nat)∧e' 0=e 0:=by
 have e2:=gL (a:=i) (by omega)
 rw[sf]
 simp -implicitDefEqProofs only[sL,h4,e2]
 exact⟨_,rfl,by simp[ai,an],by simp[ai,an]⟩
theorem LD (l:List UInt8)(hl:l.length<100000)(h1:1≤l.length):∀(k i:Nat),l.length-i≤k→i≤l.length →
  ∃N,∀n,N≤n→∀m,k<m→∀n' e s,e 0=.str l→e 4=I i→aJ (ik (den C n) n') m e s=some (Qf l (sc (l.drop i) i),s):=by
 obtain⟨N0,q0⟩:=AC.at (nH 138 jj DS l (by omega) 1 h1)
 have q0:∀n,N0≤n→∀s,ab Tryz.prog (den C n) 87 [.str l,.int .i64 1,.fn 138 [] []] s=_:=q0
 have stop:∀i,¬i<l.length→∀n,N0≤n→∀m,0<m→∀n' e s,e 0=.str l→e 4=I i→aJ (ik (den C n) n') m e s=some (Qf l (sc (l.drop i) i),s):=by
  intro i hi n hn m hm n' e s eM re
  obtain⟨m,rfl⟩:∃j,m=j+1:=⟨m-1,by omega⟩
  have q0:=q0 n hn
  rw[aJ,ik,List.drop_of_length_le (by omega),sc,Qf]
  simp -implicitDefEqProofs only[sL,eM,re,ko,hi,q0]
 intro k
 induction k with
 | zero =>
  intro i hk hi
  exact⟨N0,fun n hn m hm n' e s eM re=>stop i (by omega) n hn m (by omega) n' e s eM re⟩
 | succ k ih =>
  intro i hk hi
  by_cases c:i<l.length
  ·have g0:l[i]?=some l[i]:=List.getElem?_eq_getElem c
   have e1:=KH g0
   have RQ:=Qb l[i]
   have Cn:=eqb l[i] 34 34 rfl
   have Wl:=eqb l[i] 92 92 rfl
   have e2:=gL (a:=i) (by omega)
   rw[Qe c]
   by_cases c1:l[i]=10
   ·rw[if_pos c1]
    refine⟨N0,fun n hn m hm n' e s eM re=>?_⟩
    obtain⟨m,rfl⟩:∃j,m=j+1:=⟨m-1,by omega⟩
    have q0:=q0 n hn
    have VD:jj l[i]=false:=by rw[c1];rfl
    rw[VD]at RQ
    rw[aJ,ik,Qf]
    simp -implicitDefEqProofs only[sL,eM,re,ko,c,e1,RQ,q0]
   ·have VD:jj l[i]=true:=by simpa[jj] using c1
    rw[if_neg c1]
    rw[VD]at RQ
    by_cases c2:l[i]=34
    ·rw[if_pos c2]
     refine⟨0,fun n hn m hm n' e s eM re=>?_⟩
     obtain⟨m,rfl⟩:∃j,m=j+1:=⟨m-1,by omega⟩
     rw[decide_eq_true c2]at Cn
     rw[aJ,ik,Qf]
     simp -implicitDefEqProofs only[sL,eM,re,ko,c,e1,e2,RQ,Cn]
    ·rw[if_neg c2]
     rw[decide_eq_false c2]at Cn
     obtain⟨N1,q1⟩:=ih (i+1) (by omega) (by omega)
     have one:∀n,N1≤n→∀m,k<m→∀n' s E,E 4=I i→E 0=.str l→sf (den C n) n' (aJ (ik (den C n) n') m) E s=some (Qf l (sc (l.drop (i+1)) (i+1)),s):=by
      intro n hn m hm n' s E h4 h0
      obtain⟨e',k1,k2,k3⟩:=aaB l i (by omega) (den C n) n' (aJ (ik (den C n) n') m) E s h4
      rw[k1]
      exact q1 n hn m hm n' e' s (k3.trans h0) k2
     by_cases c3:l[i]=92
     ·rw[decide_eq_true c3]at Wl
      by_cases c4:i+1<l.length
      ·have g1:l[i+1]?=some l[i+1]:=List.getElem?_eq_getElem c4
       have e3:=KH g1
       have Qg:=Qb l[i+1]
       by_cases c5:l[i+1]=10
       ·have b':jj l[i+1]=false:=by rw[c5];rfl
        rw[b']at Qg
        rw[if_neg (by rintro⟨_,x,hx,hn⟩;rw[g1]at hx;cases hx;exact hn c5)]
        refine⟨N1,fun n hn m hm n' e s eM re=>?_⟩
        obtain⟨m,rfl⟩:∃j,m=j+1:=⟨m-1,by omega⟩
        rw[aJ,ik]
        simp -implicitDefEqProofs only[sL,eM,re,ko,c,c4,e1,e2,e3,RQ,Cn,Wl,Qg]
        exact one n hn m (by omega) n' s _ (by simp[ai,an,re]) (by simp[ai,an,eM])
       ·have b':jj l[i+1]=true:=by simpa[jj] using c5
        rw[b']at Qg
        rw[if_pos ⟨c3,_,g1,c5⟩]
        obtain⟨N2,q2⟩:=ih (i+2) (by omega) (by omega)
        refine⟨N2,fun n hn m hm n' e s eM re=>?_⟩
        obtain⟨m,rfl⟩:∃j,m=j+1:=⟨m-1,by omega⟩
        have two:∀E,E 4=I (i+1:Nat)→E 0=.str l→sf (den C n) n' (aJ (ik (den C n) n') m) E s=some (Qf l (sc (l.drop (i+2)) (i+2)),s):=by
         intro E h4 h0
         obtain⟨e',k1,k2,k3⟩:=aaB l (i+1) (by omega) (den C n) n' (aJ (ik (den C n) n') m) E s h4
         rw[k1]
         exact q2 n hn m (by omega) n' e' s (k3.trans h0) k2
        rw[aJ,ik]
        simp -implicitDefEqProofs only[sL,eM,re,ko,c,c4,e1,e2,e3,RQ,Cn,Wl,Qg]
        exact two _ (by simp[ai,an]) (by simp[ai,an,eM])
      ·rw[if_neg (by rintro⟨_,x,hx,_⟩;rw[List.getElem?_eq_none (by omega)]at hx;cases hx)]
       refine⟨N1,fun n hn m hm n' e s eM re=>?_⟩
       obtain⟨m,rfl⟩:∃j,m=j+1:=⟨m-1,by omega⟩
       rw[aJ,ik]
       simp -implicitDefEqProofs only[sL,eM,re,ko,c,c4,e1,e2,RQ,Cn,Wl]
       exact one n hn m (by omega) n' s _ (by simp[ai,an,re]) (by simp[ai,an,eM])
     ·rw[decide_eq_false c3]at Wl
      rw[if_neg (fun h=>c3 h.1)]
      refine⟨N1,fun n hn m hm n' e s eM re=>?_⟩
      obtain⟨m,rfl⟩:∃j,m=j+1:=⟨m-1,by omega⟩
      rw[aJ,ik]
      simp -implicitDefEqProofs only[sL,eM,re,ko,c,e1,RQ,Cn,Wl]
      exact one n hn m (by omega) n' s _ (by simp[ai,an,re]) (by simp[ai,an,eM])
  ·exact⟨N0,fun n hn m hm n' e s eM re=>stop i c n hn m (by omega) n' e s eM re⟩
theorem Qh (l:List UInt8)(hl:l.length<100000)(h1:1≤l.length):AC C 95 [.str l] (.aI [I (jE l).1,I (jE l).2]):=by
 have e:Qf l (sc (l.drop 1) 1)=.aI [I (jE l).1,I (jE l).2]:=by
  unfold Qf jE
  cases sc (l.drop 1) 1<;>rfl
 refine .intro adZ rfl rfl ?_
 obtain⟨N,q⟩:=LD l hl h1 l.length 1 (by omega) h1
 refine⟨max N (l.length+1),fun n hn=>⟨[],?_⟩⟩
 rw[←e,VA,F95]
 simp -implicitDefEqProofs only[sL,]
 exact q n (by omega) n (by omega) n _ _ (by simp[ai,an,aH]) (by simp[ai,an])
def gn (x:Nat×Nat):AV:=.aI [I x.1,I x.2]
set_option maxHeartbeats 2000000 in
theorem xV (c:UInt8)(r:List UInt8)(hl:(c::r).length<100000):AC C 61 [.str (c::r)] (gn (first (c::r))):=by
 refine .intro adR rfl (by simp[gn,jK,aC,aY,eQ]) ?_
 have hpos:1≤(c::r).length:=by simp
 have i0:gC Tryz.prog 9 (.str (c::r)) (I 0)=some (U c):=by simp[gC,pm]
 obtain⟨N1,q1⟩:=AC.at (BT c)
 obtain⟨N2,q2⟩:=AC.at (DR (c::r) [47,47])
 obtain⟨N3,q3⟩:=AC.at (yb c)
 obtain⟨N4,q4⟩:=AC.at (sj c)
 obtain⟨N5,q5⟩:=AC.at (Qh (c::r) hl hpos)
 obtain⟨N6,q6⟩:=AC.at VC
 obtain⟨N7,q7⟩:=AC.at Qd
 obtain⟨N8,q8⟩:=AC.at (lD ya c)
 obtain⟨N9,q9⟩:=AC.at (jA kw LC.2.2 ((c::r).take (fJ isWord (c::r))))
 obtain⟨N10,oF⟩:=AC.at (jA two DU.2.2 ((c::r).take 2))
 obtain⟨N11,zZ⟩:=AC.at (nH 86 isSp BT (c::r) (by omega) 0 (by omega))
 obtain⟨N12,GQ⟩:=AC.at (nH 89 jj HL (c::r) (by omega) 0 (by omega))
 obtain⟨N13,ON⟩:=AC.at (nH 91 isWord DT (c::r) (by omega) 0 (by omega))
 obtain⟨N14,Mu⟩:=AC.at (nH 92 mE sj (c::r) (by omega) 0 (by omega))
 have hw:=lI isWord (c::r)
 have e1:=oc (s:=c::r) (i:=fJ isWord (c::r)) hw
 have Cn:=eqb c 34 34 rfl
 rw[List.drop_zero,Nat.zero_add]at zZ GQ ON Mu
 rw[first]
 refine⟨max N1 (max N2 (max N3 (max N4 (max N5 (max N6 (max N7 (max N8 (max N9 (max N10 (max N11 (max N12 (max N13 N14)))))))))))),fun n hn=>⟨[],?_⟩⟩
 simp only[Nat.max_le]at hn
 have q1:∀s,ab Tryz.prog (den C n) 86 [.int .u8 c.toNat] s=_:=q1 n (by omega)
 have q2:=q2 n (by omega)
 have q3:∀s,ab Tryz.prog (den C n) 90 [.int .u8 c.toNat] s=_:=q3 n (by omega)
 have q4:∀s,ab Tryz.prog (den C n) 92 [.int .u8 c.toNat] s=_:=q4 n (by omega)
 have q5:=q5 n (by omega)
 have q6:=q6 n (by omega)
 have q7:=q7 n (by omega)
 have q8:∀s,ab Tryz.prog (den C n) 97 [.str ya,.int .u8 c.toNat] s=_:=q8 n (by omega)
 have q9:=q9 n (by omega)
 have oF:=oF n (by omega)
 have zZ:∀s,ab Tryz.prog (den C n) 87 [.str (c::r),.int .i64 0,.fn 86 [] []] s=_:=zZ n (by omega)
 have GQ:∀s,ab Tryz.prog (den C n) 87 [.str (c::r),.int .i64 0,.fn 89 [] []] s=_:=GQ n (by omega)
 have ON:∀s,ab Tryz.prog (den C n) 87 [.str (c::r),.int .i64 0,.fn 91 [] []] s=_:=ON n (by omega)
 have Mu:∀s,ab Tryz.prog (den C n) 87 [.str (c::r),.int .i64 0,.fn 92 [] []] s=_:=Mu n (by omega)
 unfold ya at q8
 rw[Vs,F61]
 by_cases c1:isSp c=true
 ·rw[if_pos c1]
  rw[c1]at q1
  simp -implicitDefEqProofs only[sL,i0,q1,zZ,gn]
  rfl
 rw[if_neg c1]
 rw[eq_false_of_ne_true c1]at q1
 by_cases c2:Lib.hasPrefix (c::r) [47,47]=true
 ·rw[if_pos c2]
  rw[c2]at q2
  simp -implicitDefEqProofs only[sL,i0,q1,q2,GQ,gn]
  rfl
 rw[if_neg c2]
 rw[eq_false_of_ne_true c2]at q2
 by_cases c3:mD c=true
 ·rw[if_pos c3]
  rw[c3]at q3
  by_cases c4:(c::r).take (fJ isWord (c::r))∈kw
  ·rw[if_pos c4]
   rw[decide_eq_true c4]at q9
   simp -implicitDefEqProofs only[sL,i0,q1,q2,q3,ON,q6,q9,e1,eF,cE,cR,RO,gn]
   rfl
  ·rw[if_neg c4]
   rw[decide_eq_false c4]at q9
   simp -implicitDefEqProofs only[sL,i0,q1,q2,q3,ON,q6,q9,e1,eF,cE,cR,RO,gn]
   rfl
 rw[if_neg c3]
 rw[eq_false_of_ne_true c3]at q3
 by_cases c4:mE c=true
 ·rw[if_pos c4]
  rw[c4]at q4
  simp -implicitDefEqProofs only[sL,i0,q1,q2,q3,q4,Mu,gn]
  rfl
 rw[if_neg c4]
 rw[eq_false_of_ne_true c4]at q4
 by_cases c5:c=34
 ·rw[if_pos c5]
  rw[decide_eq_true c5]at Cn
  simp -implicitDefEqProofs only[sL,i0,q1,q2,q3,q4,Cn,q5,gn]
 rw[if_neg c5]
 rw[decide_eq_false c5]at Cn
 have last:0≤Lib.indexByte ya c∨¬0≤Lib.indexByte ya c:=Classical.em _
 by_cases c6:1<(c::r).length
 ·have Wm:(1:Int)<((c::r).length:Int):=by omega
  have e2:=oc (s:=c::r) (i:=2) (by omega)
  have e2:mL Tryz.prog 9 (.str (c::r)) none (some (.int .i64 2)) none=some (.str ((c::r).take 2)):=e2
  by_cases c7:(c::r).take 2∈two
  ·rw[if_pos ⟨c6,c7⟩]
   rw[decide_eq_true c7]at oF
   simp -implicitDefEqProofs only[sL,i0,q1,q2,q3,q4,Cn,ko,Wm,e2,q7,oF,eF,cE,cR,we,gn]
   rfl
  ·rw[if_neg (fun h=>c7 h.2)]
   rw[decide_eq_false c7]at oF
   rcases last with c8|c8
   ·rw[if_pos c8]
    have VE:0≤Lib.indexByte [40,41,123,125,91,93,60,62,44,59,58,46,61,43,45,42,47,33,38,124] c:=c8
    simp -implicitDefEqProofs only[sL,i0,q1,q2,q3,q4,Cn,ko,Wm,e2,q7,oF,q8,VE,eF,cE,cR,we,gn]
    rfl
   ·rw[if_neg c8]
    have VE:¬0≤Lib.indexByte [40,41,123,125,91,93,60,62,44,59,58,46,61,43,45,42,47,33,38,124] c:=c8
    simp -implicitDefEqProofs only[sL,i0,q1,q2,q3,q4,Cn,ko,Wm,e2,q7,oF,q8,VE,eF,cE,cR,we,gn]
    rfl
 ·have Wm:¬(1:Int)<((c::r).length:Int):=by omega
  rw[if_neg (fun h=>c6 h.1)]
  rcases last with c8|c8
  ·rw[if_pos c8]
   have VE:0≤Lib.indexByte [40,41,123,125,91,93,60,62,44,59,58,46,61,43,45,42,47,33,38,124] c:=c8
   simp -implicitDefEqProofs only[sL,i0,q1,q2,q3,q4,Cn,ko,Wm,q8,VE,we,gn]
   rfl
  ·rw[if_neg c8]
   have VE:¬0≤Lib.indexByte [40,41,123,125,91,93,60,62,44,59,58,46,61,43,45,42,47,33,38,124] c:=c8
   simp -implicitDefEqProofs only[sL,i0,q1,q2,q3,q4,Cn,ko,Wm,q8,VE,we,gn]
   rfl
end ep
end

section
namespace ep
open Go Go.Abs Go.Proofs ParF
abbrev aaC (t:Tok):AV:=.agg [I t.1,.str t.2]
abbrev tv (ts:List Tok):List AV:=ts.map aaC
def sk (ts:List Tok):AV:=match ts with
 | []=>.aN
 | t::r=>.sl 147 2 (tv (t::r)) .own
def nT (v:AV)(ts:List Tok):Prop:=v=.sl 147 2 (tv ts) .sh∨(ts=[]∧v=.aN)
theorem mn (ts:List Tok):nT (sk ts).aa ts:=by
 cases ts with
 | nil=>exact .inr ⟨rfl,rfl⟩
 | cons t r=>exact .inl rfl
theorem nT.aa {v:AV}{ts:List Tok}(h:nT v ts):v.aa=v:=by rcases h with rfl|⟨_,rfl⟩<;>rfl
theorem LF (ts:List Tok):aV (tv ts)=true:=by induction ts with
 | nil=>rfl
 | cons t r ih=>show aV (aaC t::tv r)=true;rw[aC,ih];rfl
theorem nT.a_ {v:AV}{ts:List Tok}(h:nT v ts):v.a_=true:=by
 rcases h with rfl|⟨_,rfl⟩
 ·simp[AV.a_,LF]
 ·rfl
theorem og:Tryz.prog.underlying 111=some (.slice 147):=by kernel_rfl
theorem aaD:da Tryz.prog 147=some 2:=by kernel_rfl
theorem nT.len {v:AV}{ts:List Tok}(h:nT v ts):bN Tryz.prog 111 v=some (I ts.length):=by
 rcases h with rfl|⟨rfl,rfl⟩
 ·simp[bN,og]
 ·simp[bN,og]
theorem aaE {ts:List Tok}{i:Nat}{t:Tok}{f:om}(h:ts[i]?=some t):aA Tryz.prog 111 (.sl 147 2 (tv ts) f) (I i)=some (.box [I t.1,.str t.2] 0):=by
 simp[aA,og,aaD,h,AV.cells]
theorem nT.at {v:AV}{ts:List Tok}(h:nT v ts){i:Nat}{t:Tok}(ht:ts[i]?=some t):aA Tryz.prog 111 v (I i)=some (.box [I t.1,.str t.2] 0):=by
 rcases h with rfl|⟨rfl,rfl⟩
 ·exact aaE ht
 ·simp at ht
theorem nT.drop {v:AV}{ts:List Tok}(h:nT v ts){i:Nat}(hi:i≤ts.length):∃u,mL Tryz.prog 111 v (some (I i)) none none=some u∧nT u (ts.drop i):=by
 rcases h with rfl|⟨rfl,rfl⟩
 ·exact⟨.sl 147 2 (tv (ts.drop i)) .sh,by simp[mL,og,aaD,uz,dQ,hi,List.map_drop],.inl rfl⟩
 ·have:i=0:=by simpa using hi
  subst this
  exact⟨.aN,by simp[mL,og],.inr ⟨rfl,rfl⟩⟩
theorem Qi:((Tryz.prog.info? 147).map fun i=>(i.size,i.bytes,i.zero.map fun z=>z.cells.size))=some (2,24,some 2):=by kernel_rfl
theorem VF:∃i,Tryz.prog.info? 147=some i∧i.size=2∧i.bytes=24∧∃z,i.zero=some z∧z.cells.size=2:=by
 have h:=Qi
 rw[Option.map_eq_some_iff]at h
 obtain⟨i,h1,h2⟩:=h
 simp only[Prod.mk.injEq,Option.map_eq_some_iff]at h2
 exact⟨i,h1,h2.1,h2.2.1,h2.2.2⟩
theorem aaF (ts:List Tok)(ys:List Tok)(f:om)(h:ts.length+ys.length<1000000):eB Tryz.prog 111 111 (sk ts) (.sl 147 2 (tv ys) f)=some (sk (ts++ys)):=by
 obtain⟨i,h1,h2,h3,z,h4,h5⟩:=VF
 unfold eB
 rw[og]
 simp only[h1,h2,iQ,if_true,h4,h5,ne_eq,not_true,if_false,h3]
 cases ts with
 | nil =>
  simp only[sk,List.nil_append,tv,List.length_map]
  rw[if_pos (by simp at h;omega)]
  cases ys<;>rfl
 | cons b r =>
  simp only[sk,tv,List.length_map,List.length_cons,List.map_cons,List.cons_append,List.map_append]at *
  rw[if_pos ⟨trivial,trivial,by omega,by omega⟩]
theorem ad1 (k:Int)(t:List UInt8):∃f,ak Tryz.prog 111 1 [(0,.agg [I k,.str t])]=some (.sl 147 2 [.agg [I k,.str t]] f):=⟨.own,by kernel_rfl⟩
theorem Qj (k:Int)(t:List UInt8):bn Tryz.prog 147 [(0,I k),(1,.str t)]=some (.agg [I k,.str t]):=by kernel_rfl
theorem LG:∀(k:Nat)(l:List UInt8)(acc:List Tok),l.length≤k→l.length<10000→acc.length+l.length<100000 →
  ∃N,∀n,N≤n→∀m,k<m→∀n' e s,e 0=.str l→e 4=sk acc→aJ (wc (den C n) n') m e s=some (.aI [(sk (acc++gm l)).aa,I 0],s):=by
 intro k
 induction k with
 | zero =>
  intro l acc hk hl ha
  have:l=[]:=List.length_eq_zero_iff.1 (by omega)
  subst this
  refine⟨0,fun n hn m hm n' e s h0 h4=>?_⟩
  obtain⟨m,rfl⟩:∃j,m=j+1:=⟨m-1,by omega⟩
  have st:=(mn acc).aa
  have z:¬(0:Int)<(([]:List UInt8).length:Int):=by simp
  rw[aJ,wc,BR,List.append_nil]
  simp -implicitDefEqProofs only[sL,h0,h4,ko,z,st]
 | succ k ih =>
  intro l acc hk hl ha
  by_cases h:l=[]
  ·subst h
   refine⟨0,fun n hn m hm n' e s h0 h4=>?_⟩
   obtain⟨m,rfl⟩:∃j,m=j+1:=⟨m-1,by omega⟩
   have st:=(mn acc).aa
   have z:¬(0:Int)<(([]:List UInt8).length:Int):=by simp
   rw[aJ,wc,BR,List.append_nil]
   simp -implicitDefEqProofs only[sL,h0,h4,ko,z,st]
  ·obtain⟨c,r,rfl⟩:∃c r,l=c::r:=by cases l with
    | nil=>exact absurd rfl h
    | cons c r=>exact⟨c,r,rfl⟩
   obtain⟨N1,q1⟩:=AC.at (xV c r (by omega))
   have hb:=eI (c::r) h
   rw[jO h]
   have e1:=oc (s:=c::r) (i:=(first (c::r)).1) hb.2
   have e2:=P_ (s:=c::r) (i:=(first (c::r)).1) hb.2
   have hpos:(0:Int)<((c::r).length:Int):=by rw[List.length_cons];omega
   unfold gn at q1
   generalize (first (c::r)).1=z at *
   generalize (first (c::r)).2=y at *
   obtain⟨f,e3⟩:=ad1 y ((c::r).take z)
   have e4:=aaF acc [(y,(c::r).take z)] f (by simp at ha ⊢;omega)
   have hdl:((c::r).drop z).length=(c::r).length-z:=List.length_drop
   generalize (c::r).take z=tk at *
   generalize (c::r).drop z=dr at *
   obtain⟨N2,q2⟩:=ih dr (acc++[(y,tk)]) (by omega) (by omega) (by simp only[List.length_append,List.length_cons,List.length_nil]at *;omega)
   rw[List.append_assoc]at q2
   refine⟨max N1 N2,fun n hn m hm n' e s h0 h4=>?_⟩
   obtain⟨m,rfl⟩:∃j,m=j+1:=⟨m-1,by omega⟩
   have q1:=q1 n (by omega)
   have e4:eB Tryz.prog 111 111 (sk acc) (.sl 147 2 [.agg [I y,.str tk]] f)=_:=e4
   rw[aJ,wc]
   simp -implicitDefEqProofs only[sL,h0,h4,ko,hpos,q1,e1,e2,Qj,e3,e4]
   exact q2 n (by omega) m (by omega) n' _ s (by simp[ai,an]) (by simp[ai,an])
def LH (l:List UInt8):AV:=if 2000<l.length then .aI [.aN,I 2] else .aI [(sk (gm l)).aa,I 0]
theorem zs (l:List UInt8):AC C 63 [.str l] (LH l):=by
 refine .intro adJ rfl ?_ ?_
 ·unfold LH;split
  ·rfl
  ·simp only[jK,aC,aY,eQ,(mn (gm l)).a_,Bool.and_self]
 unfold LH
 by_cases h:2000<l.length
 ·rw[if_pos h]
  have h':(2000:Int)<(l.length:Int):=by omega
  refine⟨0,fun n hn=>⟨[],?_⟩⟩
  rw[LB,F63]
  simp -implicitDefEqProofs only[sL,ko,h']
 ·rw[if_neg h]
  have h':¬(2000:Int)<(l.length:Int):=by omega
  obtain⟨N,q⟩:=LG l.length l [] (Nat.le_refl _) (by omega) (by simp;omega)
  refine⟨max N (l.length+1),fun n hn=>⟨[],?_⟩⟩
  rw[LB,F63]
  simp -implicitDefEqProofs only[sL,ko,h']
  exact q n (by omega) n (by omega) n _ _ (by simp[ai,an,aH]) (by simp[ai,an,sk])
end ep
end
