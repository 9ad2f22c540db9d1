/- NdSz, StrF, ExaA, ExaB, AstE, StrA, StrB -/
import Derived.Test.YtnhnmigafkodfaaGreatDoorG
import Derived.Test.YtnhnmigafkodfaaGreatDoorC
import Derived.Test.YtnhnmigafkodfaaGreatDoorB
import Derived.Test.YtnhnmigafkodfaaGreatDoorH
set_option linter.all false
set_option maxRecDepth 100000
set_option maxHeartbeats 4000000

section
namespace ParF
open Pm
mutual
def szN:Nd→Nat
 | .mk _ _ _ _ _ _ cs=>1+szNL cs
def szNL:List Nd→Nat
 | []=>0
 | t::ts=>szN t+szNL ts
end
theorem szN_mk (k v:Int)(x:Bytes)(s e ns:Int)(cs:List Nd):szN (.mk k v x s e ns cs)=1+szNL cs:=by rw[szN]
theorem szN_mem:∀{cs:List Nd}{u:Nd},u∈cs→szN u≤szNL cs
 | [],u,h=>by cases h
 | c::cs,u,h=>by
  rw[szNL]
  rcases List.mem_cons.1 h with rfl|h
  ·omega
  ·have:=szN_mem h;omega
theorem szN_pos (n:Nd):1≤szN n:=by cases n;rw[szN];omega
theorem len_le_szN:∀cs:List Nd,cs.length≤szNL cs
 | []=>Nat.zero_le _
 | c::cs=>by rw[szNL,List.length_cons];have:=len_le_szN cs;have:=szN_pos c;omega
end ParF
end

section
namespace StrF
open Go Go.Abs Go.Proofs ParF
-- ast.StripPositions
noncomputable def F27_L0 (D:Den)(n:Nat)(k0:Env→Heap→Ans)(e:Env)(s:Heap):Ans :=
 oh (mp (aBin Tryz.prog .lss 3 (e 16) (e 15)) s) fun t17 s =>
 br t17 (oh (mp (aIndexAddr Tryz.prog 25 (e 14) (e 16)) s) fun t18 s =>oh (aLoad false true 7 t18 s) fun t19 s =>oh (aAlloc Tryz.prog 27 s) fun t5 s =>oh (sto (aStore 7 s t5 t19)) fun _r s =>oh (mp (aAddr 6 (e 3)) s) fun t20 s1 =>oh (aLoad false false 1 t20 s1) fun t21 s2 =>oh (aLoad false true 7 t5 s2) fun t22 s3 =>oh (aCall Tryz.prog D 27 [t22.strip] s3) fun t23 s4 =>oh (mp (aBuildSlice Tryz.prog 25 1 [(0,t23)]) s4) fun t24 s5 =>oh (aRsAppend Tryz.prog 25 25 t21 t24 s5) fun t25 s6 =>oh (mp (aAddr 6 (e 3)) s6) fun t26 s7 =>oh (sto (aStore 1 s7 t26 t25.strip)) fun _r s8 =>
 drawOK C 27 (regOps Tryz.f27 5) [.silent,(kLoad false t20),(kLoad false t5),(dyn (kCall [t22.strip]) s3 s4),.silent,(dyn (appK t21) s5 s6),.silent,(kStore t26)] <|
 oh (mp (aBin Tryz.prog .add 3 (e 16) (.int .i64 1)) s8) fun t27 s =>oh (some (t27.strip,s)) fun t16_2 s =>
 k0 (upds e [(17,t17),(18,t18),(19,t19),(5,t5),(19,t19.strip),(20,t20),(21,t21),(22,t22),(23,t23),(24,t24),(21,t21.strip),(25,t25),(26,t26),(27,t27),(16,t16_2)]) s) (oh (pubR (aLoad false true 7 (e 3) s)) fun t28 s =>oh (sto (aStore 7 s (e 2) t28.strip)) fun _r s =>
 fin1 ((aLoad false true 7 (e 2) s).map (·.1)) s)
noncomputable def F27 (D:Den)(n:Nat)(t0:AV)(s:Heap):Ans :=
 oh (aBox false 27 t0 s) fun t1 s =>oh (aAlloc Tryz.prog 27 s) fun t2 s =>oh (mp (aAddr 0 t1) s) fun t6 s =>oh (aLoad false false 1 t6 s) fun t7 s =>oh (mp (aAddr 1 t1) s) fun t8 s =>oh (aLoad false false 1 t8 s) fun t9 s =>oh (mp (aAddr 2 t1) s) fun t10 s =>oh (aLoad false false 1 t10 s) fun t11 s =>oh (mp (aBuild Tryz.prog 27 [(0,t7),(1,t9),(2,t11),(5,(.int .i64 (-1)))]) s) fun t12 s =>oh (aAlloc Tryz.prog 27 s) fun t3 s =>oh (sto (aStore 7 s t3 t12)) fun _r s =>oh (mp (aAddr 6 t1) s) fun t13 s =>oh (aLoad false false 1 t13 s) fun t14 s =>oh (mp (aLen Tryz.prog 25 t14) s) fun t15 s =>oh (some ((.int .i64 0),s)) fun t16 s =>
 aLoop (F27_L0 D n) n (upds (argEnv [t0]) [(1,t1),(2,t2),(6,t6),(7,t7),(8,t8),(9,t9),(10,t10),(11,t11),(12,t12),(3,t3),(12,t12.strip),(13,t13),(14,t14),(15,t15),(16,t16)]) s
theorem F27_eq (n:Nat)(t0:AV)(s:Heap):den C (n+1) 27 [t0] s=F27 (den C n) n t0 s :=
 (den_body rfl Tryz.func27 _ _).trans (by kernel_rfl)
theorem d27_5 {g0 g1:Nat}{q0:Option Nat}(a:Nat)(x:Ans):drawOK C 27 (regOps Tryz.f27 5) [.silent,.get g0,.get g1,.silent,.silent,.app q0,.silent,.put a] x=x:=drawOK_both (a:=a) (b:=a+1) (ks0:=[.silent,.reader,.reader,.silent,.silent,.writer,.silent,.put 0]) (by omega) (by kernel_rfl) rfl
theorem en27:enterable Tryz.prog 27=true:=by kernel_rfl
-- glossatorref1.SameNode
noncomputable def F28_L0 (D:Den)(n:Nat)(k0:Env→Heap→Ans)(e:Env)(s:Heap):Ans :=
 oh (mp (aBin Tryz.prog .lss 3 (e 58) (e 57)) s) fun t59 s =>
 br t59 (oh (some ((e 58).strip,s)) fun t60 s =>oh (some (t60,s)) fun t5 s =>oh (mp (aAddr 6 (e 2)) s) fun t61 s1 =>oh (aLoad false false 1 t61 s1) fun t62 s2 =>oh (some (t5.strip,s2)) fun t63 s3 =>oh (mp (aIndexAddr Tryz.prog 25 t62 t63) s3) fun t64 s4 =>oh (aLoad false true 7 t64 s4) fun t65 s5 =>oh (mp (aAddr 6 (e 3)) s5) fun t66 s6 =>oh (aLoad false false 1 t66 s6) fun t67 s7 =>oh (some (t5.strip,s7)) fun t68 s8 =>oh (mp (aIndexAddr Tryz.prog 25 t67 t68) s8) fun t69 s9 =>oh (aLoad false true 7 t69 s9) fun t70 s10 =>oh (aCall Tryz.prog D 28 [t65.strip,t70.strip] s10) fun t71 s11 =>oh (mp (aUn .not t71) s11) fun t72 s12 =>
 drawOK C 28 (regOps Tryz.f28 6) [.silent,(kLoad false t61),.silent,.silent,(kLoad false t64),.silent,(kLoad false t66),.silent,.silent,(kLoad false t69),(dyn (kCall [t65.strip,t70.strip]) s10 s11),.silent] <|
 br t72 (oh (some ((.bool false),s12)) fun t4_3 s =>
 some (t4_3,s)) (oh (mp (aBin Tryz.prog .add 3 (e 58) (.int .i64 1)) s12) fun t73 s =>oh (some (t73.strip,s)) fun t58_2 s =>
 k0 (upds e [(59,t59),(60,t60),(60,t60.strip),(5,t5),(61,t61),(62,t62),(63,t63),(64,t64),(65,t65),(66,t66),(67,t67),(68,t68),(69,t69),(70,t70),(71,t71),(72,t72),(73,t73),(58,t58_2)]) s)) (oh (some ((.bool true),s)) fun t4_4 s =>
 some (t4_4,s))
noncomputable def F28 (D:Den)(n:Nat)(t0 t1:AV)(s:Heap):Ans :=
 oh (aBox false 27 t0 s) fun t2 s =>oh (aBox false 27 t1 s) fun t3 s =>oh (some ((.bool false),s)) fun t4 s =>oh (mp (aAddr 0 t2) s) fun t6 s =>oh (aLoad false false 1 t6 s) fun t7 s =>oh (mp (aAddr 0 t3) s) fun t8 s =>oh (aLoad false false 1 t8 s) fun t9 s =>oh (mp (aBin Tryz.prog .neq 3 t7 t9) s) fun t10 s =>oh (some (t10.strip,s)) fun t11 s =>oh (gd (wA t11 false) s (mp (aAddr 1 t2) s)) fun t12 s =>oh (gd (wA t11 false) s (aLoad false false 1 t12 s)) fun t13 s =>oh (gd (wA t11 false) s (mp (aAddr 1 t3) s)) fun t14 s =>oh (gd (wA t11 false) s (aLoad false false 1 t14 s)) fun t15 s =>oh (gd (wA t11 false) s (mp (aBin Tryz.prog .neq 3 t13 t15) s)) fun t16 s =>oh (mp (aPick t11 (.bool true) t16) s) fun t17 s =>oh (some (t17.strip,s)) fun t18 s =>oh (gd (wA t18 false) s (mp (aAddr 2 t2) s)) fun t19 s =>oh (gd (wA t18 false) s (aLoad false false 1 t19 s)) fun t20 s =>oh (gd (wA t18 false) s (mp (aAddr 2 t3) s)) fun t21 s =>oh (gd (wA t18 false) s (aLoad false false 1 t21 s)) fun t22 s =>oh (gd (wA t18 false) s (mp (aBin Tryz.prog .neq 9 t20 t22) s)) fun t23 s =>oh (mp (aPick t18 (.bool true) t23) s) fun t24 s =>oh (some (t24.strip,s)) fun t25 s =>oh (gd (wA t25 false) s (mp (aAddr 3 t2) s)) fun t26 s =>oh (gd (wA t25 false) s (aLoad false false 1 t26 s)) fun t27 s =>oh (gd (wA t25 false) s (mp (aAddr 3 t3) s)) fun t28 s =>oh (gd (wA t25 false) s (aLoad false false 1 t28 s)) fun t29 s =>oh (gd (wA t25 false) s (mp (aBin Tryz.prog .neq 3 t27 t29) s)) fun t30 s =>oh (mp (aPick t25 (.bool true) t30) s) fun t31 s =>oh (some (t31.strip,s)) fun t32 s =>oh (gd (wA t32 false) s (mp (aAddr 4 t2) s)) fun t33 s =>oh (gd (wA t32 false) s (aLoad false false 1 t33 s)) fun t34 s =>oh (gd (wA t32 false) s (mp (aAddr 4 t3) s)) fun t35 s =>oh (gd (wA t32 false) s (aLoad false false 1 t35 s)) fun t36 s =>oh (gd (wA t32 false) s (mp (aBin Tryz.prog .neq 3 t34 t36) s)) fun t37 s =>oh (mp (aPick t32 (.bool true) t37) s) fun t38 s =>oh (some (t38.strip,s)) fun t39 s =>oh (gd (wA t39 false) s (mp (aAddr 5 t2) s)) fun t40 s =>oh (gd (wA t39 false) s (aLoad false false 1 t40 s)) fun t41 s =>oh (gd (wA t39 false) s (mp (aAddr 5 t3) s)) fun t42 s =>oh (gd (wA t39 false) s (aLoad false false 1 t42 s)) fun t43 s =>oh (gd (wA t39 false) s (mp (aBin Tryz.prog .neq 3 t41 t43) s)) fun t44 s =>oh (mp (aPick t39 (.bool true) t44) s) fun t45 s =>oh (some (t45.strip,s)) fun t46 s =>oh (gd (wA t46 false) s (mp (aAddr 6 t2) s)) fun t47 s =>oh (gd (wA t46 false) s (aLoad false false 1 t47 s)) fun t48 s =>oh (gd (wA t46 false) s (mp (aLen Tryz.prog 25 t48) s)) fun t49 s =>oh (gd (wA t46 false) s (mp (aAddr 6 t3) s)) fun t50 s =>oh (gd (wA t46 false) s (aLoad false false 1 t50 s)) fun t51 s =>oh (gd (wA t46 false) s (mp (aLen Tryz.prog 25 t51) s)) fun t52 s =>oh (gd (wA t46 false) s (mp (aBin Tryz.prog .neq 3 t49 t52) s)) fun t53 s =>oh (mp (aPick t46 (.bool true) t53) s) fun t54 s =>
 br t54 (oh (some ((.bool false),s)) fun t4_2 s =>
 some (t4_2,s)) (oh (mp (aAddr 6 t2) s) fun t55 s =>oh (aLoad false false 1 t55 s) fun t56 s =>oh (mp (aLen Tryz.prog 25 t56) s) fun t57 s =>oh (some ((.int .i64 0),s)) fun t58 s =>
 aLoop (F28_L0 D n) n (upds (argEnv [t0,t1]) [(2,t2),(3,t3),(4,t4),(6,t6),(7,t7),(8,t8),(9,t9),(10,t10),(11,t11),(12,t12),(13,t13),(14,t14),(15,t15),(16,t16),(17,t17),(18,t18),(19,t19),(20,t20),(21,t21),(22,t22),(23,t23),(24,t24),(25,t25),(26,t26),(27,t27),(28,t28),(29,t29),(30,t30),(31,t31),(32,t32),(33,t33),(34,t34),(35,t35),(36,t36),(37,t37),(38,t38),(39,t39),(40,t40),(41,t41),(42,t42),(43,t43),(44,t44),(45,t45),(46,t46),(47,t47),(48,t48),(49,t49),(50,t50),(51,t51),(52,t52),(53,t53),(54,t54),(55,t55),(56,t56),(57,t57),(58,t58)]) s)
theorem F28_eq (n:Nat)(t0 t1:AV)(s:Heap):den C (n+1) 28 [t0,t1] s=F28 (den C n) n t0 t1 s :=
 (den_body rfl Tryz.func28 _ _).trans (by kernel_rfl)
theorem en28:enterable Tryz.prog 28=true:=by kernel_rfl
-- glossatorkeep1.AstStrip
noncomputable def F10 (D:Den)(n:Nat)(t0 t1:AV)(s:Heap):Ans :=
 oh (aBox false 27 t0 s) fun t2 s =>oh (aBox false 27 t1 s) fun t3 s =>oh (some ((.bool false),s)) fun t4 s =>oh (aCall Tryz.prog D 20 [] s) fun t7 s =>oh (mp (aUn .not t7) s) fun t8 s =>
 br t8 (oh (some ((.bool false),s)) fun t4_2 s =>
 some (t4_2,s)) (oh (aLoad false true 7 t2 s) fun t9 s1 =>oh (aCall Tryz.prog D 27 [t9.strip] s1) fun t10 s2 =>oh (aLoad false true 7 t3 s2) fun t11 s3 =>oh (aCall Tryz.prog D 27 [t11.strip] s3) fun t12 s4 =>oh (aAlloc Tryz.prog 27 s4) fun t5 s5 =>oh (aAlloc Tryz.prog 27 s5) fun t6 s6 =>oh (sto (aStore 7 s6 t5 t10)) fun _r s7 =>oh (sto (aStore 7 s7 t6 t12)) fun _r s8 =>
 drawOK C 10 (regOps Tryz.f10 3) [(kLoad false t2),(dyn (kCall [t9.strip]) s1 s2),(kLoad false t3),(dyn (kCall [t11.strip]) s3 s4),.alloc,.alloc,(kStore t5),(kStore t6)] <|
 oh (aCall Tryz.prog D 20 [] s8) fun t13 s9 =>oh (some (t13.strip,s9)) fun t14 s10 =>oh (gd (wA t14 true) s10 (aLoad false true 7 t5 s10)) fun t15 s11 =>oh (gd (wA t14 true) s11 (aLoad false true 7 t2 s11)) fun t16 s12 =>oh (gd (wA t14 true) s12 (aCall Tryz.prog D 16 [t15.strip,t16.strip] s12)) fun t17 s13 =>oh (mp (aPick t14 t17 (.bool false)) s13) fun t18 s14 =>oh (some (t18.strip,s14)) fun t19 s15 =>oh (gd (wA t19 true) s15 (aLoad false true 7 t5 s15)) fun t20 s16 =>oh (gd (wA t19 true) s16 (aCall Tryz.prog D 27 [t20.strip] s16)) fun t21 s17 =>oh (gd (wA t19 true) s17 (aLoad false true 7 t5 s17)) fun t22 s18 =>oh (gd (wA t19 true) s18 (aCall Tryz.prog D 28 [t21.strip,t22.strip] s18)) fun t23 s19 =>oh (mp (aPick t19 t23 (.bool false)) s19) fun t24 s20 =>oh (some (t24.strip,s20)) fun t25 s21 =>oh (gd (wA t25 true) s21 (aLoad false true 7 t2 s21)) fun t26 s22 =>oh (gd (wA t25 true) s22 (aLoad false true 7 t3 s22)) fun t27 s23 =>oh (gd (wA t25 true) s23 (aCall Tryz.prog D 16 [t26.strip,t27.strip] s23)) fun t28 s24 =>oh (gd (wA t25 true) s24 (aLoad false true 7 t5 s24)) fun t29 s25 =>oh (gd (wA t25 true) s25 (aLoad false true 7 t6 s25)) fun t30 s26 =>oh (gd (wA t25 true) s26 (aCall Tryz.prog D 28 [t29.strip,t30.strip] s26)) fun t31 s27 =>oh (gd (wA t25 true) s27 (mp (aBin Tryz.prog .eql 4 t28 t31) s27)) fun t32 s28 =>oh (mp (aPick t25 t32 (.bool false)) s28) fun t33 s29 =>oh (some (t33.strip,s29)) fun t34 s30 =>oh (gd (wA t34 true) s30 (aLoad false true 7 t2 s30)) fun t35 s31 =>oh (gd (wA t34 true) s31 (aLoad false true 7 t3 s31)) fun t36 s32 =>oh (gd (wA t34 true) s32 (aCall Tryz.prog D 16 [t35.strip,t36.strip] s32)) fun t37 s33 =>oh (gd (wA t34 true) s33 (aLoad false true 7 t3 s33)) fun t38 s34 =>oh (gd (wA t34 true) s34 (aLoad false true 7 t2 s34)) fun t39 s35 =>oh (gd (wA t34 true) s35 (aCall Tryz.prog D 16 [t38.strip,t39.strip] s35)) fun t40 s36 =>oh (gd (wA t34 true) s36 (mp (aBin Tryz.prog .eql 4 t37 t40) s36)) fun t41 s37 =>oh (mp (aPick t34 t41 (.bool false)) s37) fun t42 s38 =>oh (some (t42,s38)) fun t4_3 s39 =>
 drawOK C 10 (regOps Tryz.f10 4) [(dyn (kCall []) s8 s9),.silent,(kGd (wA t14 true) (kLoad false t5)),(kGd (wA t14 true) (kLoad false t2)),(kGd (wA t14 true) (dyn (kCall [t15.strip,t16.strip]) s12 s13)),.silent,.silent,(kGd (wA t19 true) (kLoad false t5)),(kGd (wA t19 true) (dyn (kCall [t20.strip]) s16 s17)),(kGd (wA t19 true) (kLoad false t5)),(kGd (wA t19 true) (dyn (kCall [t21.strip,t22.strip]) s18 s19)),.silent,.silent,(kGd (wA t25 true) (kLoad false t2)),(kGd (wA t25 true) (kLoad false t3)),(kGd (wA t25 true) (dyn (kCall [t26.strip,t27.strip]) s23 s24)),(kGd (wA t25 true) (kLoad false t5)),(kGd (wA t25 true) (kLoad false t6)),(kGd (wA t25 true) (dyn (kCall [t29.strip,t30.strip]) s26 s27)),(kGd (wA t25 true) .silent),.silent,.silent,(kGd (wA t34 true) (kLoad false t2)),(kGd (wA t34 true) (kLoad false t3)),(kGd (wA t34 true) (dyn (kCall [t35.strip,t36.strip]) s32 s33)),(kGd (wA t34 true) (kLoad false t3)),(kGd (wA t34 true) (kLoad false t2)),(kGd (wA t34 true) (dyn (kCall [t38.strip,t39.strip]) s35 s36)),(kGd (wA t34 true) .silent),.silent,.silent] <|
 some (t4_3,s39))
theorem F10_eq (n:Nat)(t0 t1:AV)(s:Heap):den C (n+1) 10 [t0,t1] s=F10 (den C n) n t0 t1 s :=
 (den_body rfl Tryz.func10 _ _).trans (by kernel_rfl)
theorem d10_3 (a b:Nat)(h:a≠b)(x:Ans):drawOK C 10 (regOps Tryz.f10 3) [.silent,.silent,.silent,.silent,.alloc,.alloc,.put a,.put b] x=x:=drawOK_both (ks0:=[.silent,.silent,.silent,.silent,.alloc,.alloc,.put 0,.put 1]) h (by kernel_rfl) rfl
theorem d10_4 {g0 g1 g2 g3 g4:Nat}(x:Ans):drawOK C 10 (regOps Tryz.f10 4) [.silent,.silent,.get g0,.silent,.silent,.silent,.silent,.get g1,.silent,.get g2,.silent,.silent,.silent,.silent,.silent,.silent,.get g3,.get g4,.silent,.silent,.silent,.silent,.silent,.silent,.silent,.silent,.silent,.silent,.silent,.silent,.silent] x=x:=drawOK_base (by kernel_rfl)
theorem en10:enterable Tryz.prog 10=true:=by kernel_rfl
-- glossatorkeep1.astExample
noncomputable def F20 (D:Den)(n:Nat)(s:Heap):Ans :=
 oh (some ((.bool false),s)) fun t0 s =>oh (aCall Tryz.prog D 15 [(.str [102,110,32,102,40,41,123,49,42,40,50,43,51,41,125])] s) fun t7 s =>oh (some (t7.strip,s)) fun t6 s =>oh (mp (aExtract 0 t6) s) fun t8 s =>oh (mp (aExtract 1 t6) s) fun t9 s =>oh (mp (aExtract 2 t6) s) fun t10 s =>oh (aAlloc Tryz.prog 27 s) fun t1 s =>oh (sto (aStore 7 s t1 t8)) fun _r s =>oh (some (t9,s)) fun t2 s =>oh (some (t10,s)) fun t3 s =>oh (aLoad false true 7 t1 s) fun t12 s =>oh (aCall Tryz.prog D 21 [t12.strip] s) fun t13 s =>oh (some (t13.strip,s)) fun t11 s =>oh (mp (aExtract 0 t11) s) fun t14 s =>oh (mp (aExtract 1 t11) s) fun t15 s =>oh (some (t14,s)) fun t4 s =>oh (some (t15,s)) fun t5 s =>oh (some (t3.strip,s)) fun t16 s =>oh (mp (aBin Tryz.prog .eql 29 t16 (.int .i64 0)) s) fun t17 s =>oh (some (t17.strip,s)) fun t18 s =>oh (gd (wA t18 true) s (some (t2.strip,s))) fun t19 s =>oh (gd (wA t18 true) s (mp (aLen Tryz.prog 28 t19) s)) fun t20 s =>oh (gd (wA t18 true) s (mp (aBin Tryz.prog .eql 3 t20 (.int .i64 0)) s)) fun t21 s =>oh (mp (aPick t18 t21 (.bool false)) s) fun t22 s =>oh (some (t22.strip,s)) fun t23 s =>oh (gd (wA t23 true) s (some (t5.strip,s))) fun t24 s =>oh (gd (wA t23 true) s (mp (aBin Tryz.prog .eql 29 t24 (.int .i64 0)) s)) fun t25 s =>oh (mp (aPick t23 t25 (.bool false)) s) fun t26 s =>oh (some (t26.strip,s)) fun t27 s =>oh (gd (wA t27 true) s (some (t4.strip,s))) fun t28 s =>oh (gd (wA t27 true) s (mp (aBin Tryz.prog .eql 9 t28 (.str [102,110,32,102,32,40,32,41,32,123,32,49,32,42,32,40,32,50,32,43,32,51,32,41,32,125])) s)) fun t29 s =>oh (mp (aPick t27 t29 (.bool false)) s) fun t30 s =>oh (some (t30,s)) fun t0_2 s =>
 some (t0_2,s)
theorem F20_eq (n:Nat)(s:Heap):den C (n+1) 20 [] s=F20 (den C n) n s :=
 (den_body rfl Tryz.func20 _ _).trans (by kernel_rfl)
theorem en20:enterable Tryz.prog 20=true:=by kernel_rfl
end StrF
end

section
namespace ParF
open Go Go.Abs Go.Proofs
def exS1:List UInt8:=[102,110,32,102,40,41,123,49,42,40,50,43,51,41,125]
def exS2:List UInt8:=[102,110,32,102,32,40,32,41,32,123,32,49,32,42,32,40,32,50,32,43,32,51,32,41,32,125]
def exN (k v:Int)(x:List UInt8)(s e ns:Int)(cs:List AV):AV:=.agg [.int .i64 k,.int .i64 v,.str x,.int .i64 s,.int .i64 e,.int .i64 ns,if cs.isEmpty then .nils else .sl 27 7 cs .sh]
def exN1:AV:=exN 1 0 [] 0 15 (-1) [exN 3 0 [102] 0 15 3 [exN 10 0 [] 4 4 (-1) [],exN 12 0 [] 5 6 (-1) [],exN 0 0 [] 6 6 (-1) [],exN 21 0 [] 6 15 (-1) [exN 39 0 [42] 7 14 (-1) [exN 27 1 [] 7 8 (-1) [],exN 39 0 [43] 9 14 (-1) [exN 27 2 [] 10 11 (-1) [],exN 27 3 [] 12 13 (-1) []]]]]]
theorem exP1:(den C 150 15 [.str exS1] []).map (·.1)=some (.tup [exN1,.nils,.int .i64 0]):=by kernel_rfl
theorem exQ:(den C 150 21 [exN1] []).map (·.1)=some (.tup [.str exS2,.int .i64 0]):=by kernel_rfl
end ParF
end

section
namespace ParF
open Go Go.Abs Go.Proofs Pm StrF AstF
theorem exP_run:AC C 15 [.str exS1] (.tup [exN1,.nils,I 0]):=by
 have h:=exP1
 rw[Option.map_eq_some_iff]at h
 obtain⟨⟨v,s⟩,h1,h2⟩:=h
 cases h2
 exact AC.one en15 rfl (by rfl) h1
theorem en21x:enterable C.P 21=true:=by kernel_rfl
theorem exQ_run:AC C 21 [exN1] (.tup [.str exS2,I 0]):=by
 have h:=exQ
 rw[Option.map_eq_some_iff]at h
 obtain⟨⟨v,s⟩,h1,h2⟩:=h
 cases h2
 exact AC.one en21x (by rfl) rfl h1
theorem exa_run:AC C 20 [] (.bool true):=by
 obtain⟨N1,q1⟩:=LexF.AC.at exP_run
 obtain⟨N2,q2⟩:=LexF.AC.at exQ_run
 refine .intro en20 rfl rfl ⟨N1+N2,fun f hf=>⟨[(27,exN1.cells)],?_⟩⟩
 have q1:∀s,aCall Tryz.prog (den C f) 15 [.str [102,110,32,102,40,41,123,49,42,40,50,43,51,41,125]] s=some (.tup [exN1,.nils,I 0],s):=q1 f (by omega)
 have q2:=q2 f (by omega)
 have zz1:aAlloc Tryz.prog 27 []=some (.ref 0 0,[(27,zrow7)]):=by rw[zero27];rfl
 have s1:aStore 7 [(27,zrow7)] (.ref 0 0) exN1=some [(27,exN1.cells)]:=by rw[st7 (s:=[(27,zrow7)]) (i:=0) rfl rfl rfl rfl rfl];rfl
 have l0:aLoad false true 7 (.ref 0 0) [(27,exN1.cells)]=some (exN1,[(27,exN1.cells)]):=ld7 rfl rfl rfl
 have st:exN1.strip=exN1:=rfl
 have ln:aLen Tryz.prog 28 .nils=some (I 0):=by
  have hu:Tryz.prog.underlying 28=some (.slice 61):=by kernel_rfl
  simp[aLen,hu]
 have z1:((0:Int)==0)=true:=rfl
 have se:aBin Tryz.prog .eql 9 (.str exS2) (.str [102,110,32,102,32,40,32,41,32,123,32,49,32,42,32,40,32,50,32,43,32,51,32,41,32,125])=some (.bool true):=by simp[aBin,exS2,strBin]
 rw[F20_eq,F20]
 simp -implicitDefEqProofs only[sL,q1,zz1,s1,l0,st,q2,ln,z1,se]
end ParF
end

section
namespace ParF
open Go Go.Abs Go.Proofs Pm AstF
mutual
def eqN:Nd→Nd→Bool
 | .mk k v x _ _ _ cs,.mk k' v' x' _ _ _ cs'=>k==k'&&v==v'&&x==x'&&eqNL cs cs'
def eqNL:List Nd→List Nd→Bool
 | [],[]=>true
 | c::cs,d::ds=>eqN c d&&eqNL cs ds
 | _,_=>false
end
theorem eqNL_len:∀{cs ds:List Nd},eqNL cs ds=true→cs.length=ds.length
 | [],[],_=>rfl
 | c::cs,d::ds,h=>by
  rw[eqNL,Bool.and_eq_true]at h
  rw[List.length_cons,List.length_cons,eqNL_len h.2]
 | [],_::_,h=>by simp[eqNL]at h
 | _::_,[],h=>by simp[eqNL]at h
mutual
theorem eqN_iff:∀(a b:Nd),eqN a b=true↔sd a=sd b
 | .mk k v x _ _ _ cs,.mk k' v' x' _ _ _ cs'=>by
  rw[eqN,sd,sd,Bool.and_eq_true,Bool.and_eq_true,Bool.and_eq_true,beq_iff_eq,beq_iff_eq,beq_iff_eq,eqNL_iff cs cs',Sd.mk.injEq,and_assoc,and_assoc]
theorem eqNL_iff:∀(a b:List Nd),eqNL a b=true↔sdL a=sdL b
 | [],[]=>by simp[eqNL,sdL]
 | c::cs,d::ds=>by rw[eqNL,sdL,sdL,Bool.and_eq_true,eqN_iff c d,eqNL_iff cs ds,List.cons.injEq]
 | [],_::_=>by simp[eqNL,sdL]
 | _::_,[]=>by simp[eqNL,sdL]
end
mutual
def widN:Nd→Prop
 | .mk _ _ _ _ _ _ cs=>cs.length<1800000000000∧widL cs
def widL:List Nd→Prop
 | []=>True
 | t::ts=>widN t∧widL ts
end
theorem widL_mem:∀{cs:List Nd}{u:Nd},widL cs→u∈cs→widN u
 | [],u,_,h=>by cases h
 | c::cs,u,w,h=>by
  rw[widL]at w
  rcases List.mem_cons.1 h with rfl|h
  ·exact w.1
  ·exact widL_mem w.2 h
mutual
theorem widN_sz:∀t:Nd,szN t<1800000000000→widN t
 | .mk _ _ _ _ _ _ cs=>fun h=>by rw[szN_mk]at h;rw[widN];exact⟨by have:=len_le_szN cs;omega,widL_sz cs (by omega)⟩
theorem widL_sz:∀ts:List Nd,szNL ts<1800000000000→widL ts
 | []=>fun _=>by rw[widL];trivial
 | t::ts=>fun h=>by rw[szNL]at h;rw[widL];exact⟨widN_sz t (by omega),widL_sz ts (by omega)⟩
end
theorem wadd1L {a:Nat}(h:a<4000000000000):IntKind.i64.wrap ((a:Int)+1)=((a+1:Nat):Int):=by rw[wrap64]<;>omega
theorem d16_6b (x:Ans):drawOK C 16 (regOps Tryz.f16 6) [.silent,.silent,.silent,.silent,.silent,.silent,.silent,.silent,.silent,.silent,.silent,.silent] x=x:=drawOK_base (by kernel_rfl)
theorem equal_loop {ch dh:AV}{cs ds:List Nd}(hch:IsNC cs ch)(hdh:IsNC ds dh)(hcd:cs.length=ds.length)(hc:cs.length<1800000000000){r1 r2:List AV}(g1:r1[6]?=some ch)(g2:r2[6]?=some dh)
  (ih:∀t∈cs,∀u a b,IsN t a→IsN u b→AC C 16 [a,b] (.bool (eqN t u))):∀(k i:Nat),cs.length-i=k→i≤cs.length →
  ∃N,∀f,N≤f→∀m,k<m→∀n' e s,e 37=I i→e 36=I cs.length→e 2=.box r1 0→e 3=.box r2 0→∃s',aLoop (F16_L0 (den C f) n') m e s=some (.bool (eqNL (cs.drop i) (ds.drop i)),s'):=by
 obtain⟨hl,hat⟩:=hch.facts
 obtain⟨hl',hat'⟩:=hdh.facts
 obtain⟨c1,c2,c3⟩:=hch.strip
 obtain⟨c1',c2',c3'⟩:=hdh.strip
 have L1:∀s,aLoad false false 1 (.box r1 6) s=some (ch,s):=fun s=>by rw[aLoad_one,g1];simp[c1]
 have L2:∀s,aLoad false false 1 (.box r2 6) s=some (dh,s):=fun s=>by rw[aLoad_one,g2];simp[c1']
 intro k
 induction k with
 | zero =>
  intro i hk hi
  rw[List.drop_of_length_le (by omega),List.drop_of_length_le (by omega),eqNL]
  refine⟨1,fun f hf m hm n' e s h30 h29 h2 h3=>⟨s,?_⟩⟩
  obtain⟨m,rfl⟩:∃j,m=j+1:=⟨m-1,by omega⟩
  have c:¬i<cs.length:=by omega
  rw[aLoop,F16_L0]
  simp -implicitDefEqProofs only[sL,h30,h29,c,decide_false]
 | succ k ih2 =>
  intro i hk hi
  have hlt:i<cs.length:=by omega
  have hlt':i<ds.length:=by omega
  obtain⟨a,ha,hT⟩:=hat (List.getElem?_eq_getElem hlt)
  obtain⟨b,hb,hU⟩:=hat' (List.getElem?_eq_getElem hlt')
  obtain⟨a1,a2,a3,a4⟩:=hT.cells
  obtain⟨b1,b2,b3,b4⟩:=hU.cells
  have hst:a.strip=a:=by rw[a4];rfl
  have hst':b.strip=b:=by rw[b4];rfl
  rw[List.drop_eq_getElem_cons hlt,List.drop_eq_getElem_cons hlt',eqNL]
  obtain⟨N1,q1⟩:=LexF.AC.at (ih _ (List.getElem_mem hlt) ds[i] a b hT hU)
  obtain⟨N3,q3⟩:=ih2 (i+1) (by omega) (by omega)
  refine⟨N1+N3,fun f hf m hm n' e s h30 h29 h2 h3=>?_⟩
  obtain⟨m,rfl⟩:∃j,m=j+1:=⟨m-1,by omega⟩
  have q1:=q1 f (by omega)
  have lda:=fun s=>box7 s a1 a4
  have ldb:=fun s=>box7 s b1 b4
  have e2:=wadd1L (a:=i) (by omega)
  rw[aLoop,F16_L0]
  cases hv:eqN cs[i] ds[i] with
  | false =>
   rw[hv]at q1
   refine⟨s,?_⟩
   simp -implicitDefEqProofs only[sL,h30,h29,h2,h3,hlt,L1,L2,ha,hb,lda,ldb,hst,hst',q1,hT.noRef,hU.noRef,d16_6b,Bool.false_and]
  | true =>
   rw[hv]at q1
   simp -implicitDefEqProofs only[sL,h30,h29,h2,h3,hlt,L1,L2,ha,hb,lda,ldb,hst,hst',q1,hT.noRef,hU.noRef,d16_6b,e2,Bool.true_and]
   exact q3 f (by omega) m (by omega) n' _ _ (by simp only[upds_at,upds_nil,upd_at,if_true]) ((upds_get _ _ _ rfl).trans h29) ((upds_get _ _ _ rfl).trans h2) ((upds_get _ _ _ rfl).trans h3)
theorem equal_runW:∀(n:Nat)(T U:Nd)(a b:AV),szN T≤n→IsN T a→IsN U b→widN T→AC C 16 [a,b] (.bool (eqN T U)):=by
 intro n
 induction n with
 | zero=>intro T U a b hz;have:=szN_pos T;omega
 | succ n ih =>
  intro T U a b hz hT hU hsz
  have nr:noRefL [a,b]=true:=by rw[noRefL_cons,noRefL_cons,noRefL_nil,hT.noRef,hU.noRef];rfl
  cases hT with
  | mk k v t s0 e0 n0 cs ch hch =>
  cases hU with
  | mk k' v' t' s1 e1' n1 ds dh hdh =>
  rw[szN_mk]at hz
  rw[widN]at hsz
  obtain⟨c1,c2,c3⟩:=hch.strip
  obtain⟨hl,-⟩:=hch.facts
  obtain⟨c1',c2',c3'⟩:=hdh.strip
  obtain⟨hl',-⟩:=hdh.facts
  refine .intro en16 nr (by rfl) ?_
  rw[eqN]
  have vn:∀{x y:Int},x=y→(x != y)=false:=fun h=>by simp[h]
  have vy:∀{x y:Int},¬x=y→(x != y)=true:=fun h=>by simpa using h
  have B:∀(r:List AV) (o:Nat) (w:AV),r[o]?=some w→w.strip=w→∀s2:Heap,aLoad false false 1 (.box r o) s2=some (w,s2):=by
   intro r o w es e2 s2
   rw[aLoad_one,es];simp[e2]
  obtain⟨r1,hr1⟩:∃r1,r1=[I k,I v,.str t,I s0,I e0,I n0,ch]:=⟨_,rfl⟩
  obtain⟨r2,hr2⟩:∃r2,r2=[I k',I v',.str t',I s1,I e1',I n1,dh]:=⟨_,rfl⟩
  have b1:aBox false 27 (.agg [I k,I v,.str t,I s0,I e0,I n0,ch]) []=some (.box r1 0,[]):=by rw[aBox_f _ _ _ rfl,hr1];rfl
  have b2:aBox false 27 (.agg [I k',I v',.str t',I s1,I e1',I n1,dh]) []=some (.box r2 0,[]):=by rw[aBox_f _ _ _ rfl,hr2];rfl
  have x0:=B r1 0 (I k) (by rw[hr1];rfl) rfl
  have x1:=B r1 1 (I v) (by rw[hr1];rfl) rfl
  have x2:=B r1 2 (.str t) (by rw[hr1];rfl) rfl
  have x6:=B r1 6 ch (by rw[hr1];rfl) c1
  have y0:=B r2 0 (I k') (by rw[hr2];rfl) rfl
  have y1:=B r2 1 (I v') (by rw[hr2];rfl) rfl
  have y2:=B r2 2 (.str t') (by rw[hr2];rfl) rfl
  have y6:=B r2 6 dh (by rw[hr2];rfl) c1'
  by_cases e1:k=k'
  ·have z1:=vn e1
   by_cases ev:v=v'
   ·have zv:=vn ev
    by_cases e2:t=t'
    ·have z2:aBin Tryz.prog .neq 9 (.str t) (.str t')=some (.bool false):=by simp[aBin,strBin,e2]
     by_cases e3:cs.length=ds.length
     ·obtain⟨N,q⟩:=equal_loop hch hdh e3 hsz.1 (r1:=r1) (r2:=r2) (by rw[hr1];rfl) (by rw[hr2];rfl) (fun x hx u a b h1 h2=>ih x u a b (by have:=szN_mem hx;omega) h1 h2 (widL_mem hsz.2 hx)) cs.length 0 (by omega) (by omega)
      rw[List.drop_zero,List.drop_zero]at q
      refine⟨N+cs.length+1,fun f hf=>?_⟩
      have z3:((cs.length:Int) != (ds.length:Int))=false:=by simp[e3]
      rw[F16_eq,F16,show (k==k'&&v==v'&&t==t'&&eqNL cs ds)=eqNL cs ds by simp[e1,ev,e2]]
      simp -implicitDefEqProofs only[sL,b1,b2,x0,y0,x1,y1,x2,y2,x6,y6,hl,hl',z1,zv,z2,z3]
      exact q f (by omega) f (by omega) f _ _ (by simp[upds_at,upd_at]) (by simp[upds_at,upd_at]) (by simp[upds_at,upd_at]) (by simp[upds_at,upd_at])
     ·have z:eqNL cs ds=false:=by
       cases h:eqNL cs ds with
       | false=>rfl
       | true=>exact absurd (eqNL_len h) e3
      have z3:((cs.length:Int) != (ds.length:Int))=true:=by simp;omega
      refine⟨1,fun f hf=>⟨[],?_⟩⟩
      rw[F16_eq,F16,z,Bool.and_false]
      simp -implicitDefEqProofs only[sL,b1,b2,x0,y0,x1,y1,x2,y2,x6,y6,hl,hl',z1,zv,z2,z3]
    ·have z2:aBin Tryz.prog .neq 9 (.str t) (.str t')=some (.bool true):=by simp[aBin,strBin,e2]
     have z:(t==t')=false:=by simp[e2]
     refine⟨1,fun f hf=>⟨[],?_⟩⟩
     rw[F16_eq,F16,z,Bool.and_false,Bool.false_and]
     simp -implicitDefEqProofs only[sL,b1,b2,x0,y0,x1,y1,x2,y2,z1,zv,z2]
   ·have zv:=vy ev
    have z:(v==v')=false:=by simp[ev]
    refine⟨1,fun f hf=>⟨[],?_⟩⟩
    rw[F16_eq,F16,z,Bool.and_false,Bool.false_and,Bool.false_and]
    simp -implicitDefEqProofs only[sL,b1,b2,x0,y0,x1,y1,z1,zv]
  ·have z1:=vy e1
   have z:(k==k')=false:=by simp[e1]
   refine⟨1,fun f hf=>⟨[],?_⟩⟩
   rw[F16_eq,F16,z,Bool.false_and,Bool.false_and,Bool.false_and]
   simp -implicitDefEqProofs only[sL,b1,b2,x0,y0,z1]
end ParF
end

section
namespace ParF
open Go Go.Abs Go.Proofs Pm AstF StrF
mutual
def stripN:Nd→Nd
 | .mk k v x _ _ _ cs=>.mk k v x 0 0 (-1) (stripL cs)
def stripL:List Nd→List Nd
 | []=>[]
 | c::cs=>stripN c::stripL cs
end
mutual
def sameN:Nd→Nd→Bool
 | .mk k v x s e ns cs,.mk k' v' x' s' e' ns' cs'=>k==k'&&v==v'&&x==x'&&s==s'&&e==e'&&ns==ns'&&sameL cs cs'
def sameL:List Nd→List Nd→Bool
 | [],[]=>true
 | c::cs,d::ds=>sameN c d&&sameL cs ds
 | _,_=>false
end
theorem stripL_len:∀cs:List Nd,(stripL cs).length=cs.length
 | []=>rfl
 | c::cs=>by rw[stripL,List.length_cons,List.length_cons,stripL_len cs]
theorem sameL_len:∀{cs ds:List Nd},sameL cs ds=true→cs.length=ds.length
 | [],[],_=>rfl
 | c::cs,d::ds,h=>by
  rw[sameL,Bool.and_eq_true]at h
  rw[List.length_cons,List.length_cons,sameL_len h.2]
 | [],_::_,h=>by simp[sameL]at h
 | _::_,[],h=>by simp[sameL]at h
mutual
theorem sameN_iff:∀(a b:Nd),sameN a b=true↔a=b
 | .mk k v x s e ns cs,.mk k' v' x' s' e' ns' cs'=>by
  rw[sameN]
  simp only[Bool.and_eq_true,beq_iff_eq,Nd.mk.injEq,sameL_iff cs cs',and_assoc]
theorem sameL_iff:∀(a b:List Nd),sameL a b=true↔a=b
 | [],[]=>by simp[sameL]
 | c::cs,d::ds=>by rw[sameL,Bool.and_eq_true,sameN_iff c d,sameL_iff cs ds,List.cons.injEq]
 | [],_::_=>by simp[sameL]
 | _::_,[]=>by simp[sameL]
end
mutual
theorem sd_strip:∀a:Nd,sd (stripN a)=sd a
 | .mk k v x s e ns cs=>by rw[stripN,sd,sd,sdL_strip cs]
theorem sdL_strip:∀a:List Nd,sdL (stripL a)=sdL a
 | []=>rfl
 | c::cs=>by rw[stripL,sdL,sdL,sd_strip c,sdL_strip cs]
end
mutual
theorem strip_sd:∀a b:Nd,sd a=sd b→stripN a=stripN b
 | .mk k v x s e ns cs,.mk k' v' x' s' e' ns' cs'=>by
  rw[sd,sd,Sd.mk.injEq,stripN,stripN]
  rintro⟨rfl,rfl,rfl,h⟩
  rw[stripL_sd cs cs' h]
theorem stripL_sd:∀a b:List Nd,sdL a=sdL b→stripL a=stripL b
 | [],[]=>fun _=>rfl
 | c::cs,d::ds=>by
  rw[sdL,sdL,List.cons.injEq,stripL,stripL]
  rintro⟨h1,h2⟩
  rw[strip_sd c d h1,stripL_sd cs ds h2]
 | [],_::_=>by simp[sdL]
 | _::_,[]=>by simp[sdL]
end
theorem strip_law (a b:Nd):eqN (stripN a) a=true∧sameN (stripN (stripN a)) (stripN a)=true∧(eqN a b==sameN (stripN a) (stripN b))=true∧(eqN a b==eqN b a)=true:=by
 have h:eqN a b=true↔sameN (stripN a) (stripN b)=true:=by
  rw[eqN_iff,sameN_iff]
  exact⟨strip_sd a b,fun h=>by rw[←sd_strip a,h,sd_strip]⟩
 have h2:eqN a b=true↔eqN b a=true:=by rw[eqN_iff,eqN_iff];exact⟨Eq.symm,Eq.symm⟩
 refine⟨(eqN_iff _ _).2 (sd_strip a),(sameN_iff _ _).2 (strip_sd _ _ (sd_strip a)),?_,?_⟩
 ·rw[beq_iff_eq];cases h3:eqN a b<;>cases h4:sameN (stripN a) (stripN b)<;>simp_all
 ·rw[beq_iff_eq];cases h3:eqN a b<;>cases h4:eqN b a<;>simp_all
mutual
theorem wid_strip:∀a:Nd,widN a→widN (stripN a)
 | .mk k v x s e ns cs=>by rw[stripN,widN,widN,stripL_len];exact fun h=>⟨h.1,widL_strip cs h.2⟩
theorem widL_strip:∀a:List Nd,widL a→widL (stripL a)
 | []=>fun h=>h
 | c::cs=>by rw[stripL,widL,widL];exact fun h=>⟨wid_strip c h.1,widL_strip cs h.2⟩
end
theorem build27s (k v:Int)(x:Bytes):aBuild Tryz.prog 27 [(0,I k),(1,I v),(2,.str x),(5,I (-1))]=some (.agg [I k,I v,.str x,I 0,I 0,I (-1),.nils]):=by
 have hz:zeroOf Tryz.prog 27=some (.agg [I 0,I 0,.str [],I 0,I 0,I 0,.nils]):=by kernel_rfl
 have hu:(match Tryz.prog.underlying 27 with|some (.struct fs)=>placesOf Tryz.prog fs.toList|_=>none)=some [(0,1),(1,1),(2,1),(3,1),(4,1),(5,1),(6,1)]:=by kernel_rfl
 unfold aBuild
 split at hu
 ·rename_i fs hh
  rw[hz,hh]
  simp[hu,aFill,setL,AV.cells,AV.solid,AV.strip]
 ·cases hu
def StripRun (t:Nd):Prop:=∀a,IsN t a→∃r,IsN (stripN t) r∧AC C 27 [a] r
theorem strip_loop {k v:Int}{x:Bytes}{ch:AV}{cs:List Nd}(hch:IsNC cs ch)(hn:cs.length<1800000000000)(ih:∀t∈cs,StripRun t):∀(j i:Nat),cs.length-i=j→i≤cs.length →
  ∃N,∀f,N≤f→∀w,j<w→∀n' e s ns r V H,ns.length=i→V≠H→s[V]?=some (27,zrow7)→s[H]?=some (27,hrow k ⟨v,x,0,0,-1⟩ (chOf ns r))→RowOk s ns r→r≠some H→r≠some V →
   e 16=I i→e 15=I cs.length→e 14=ch→e 3=.ref H 0→e 2=.ref V 0→∃a' s',IsN (.mk k v x 0 0 (-1) (ns++stripL (cs.drop i))) a'∧aLoop (F27_L0 (den C f) n') w e s=some (a',s'):=by
 obtain⟨hl,hat⟩:=hch.facts
 intro j
 induction j with
 | zero =>
  intro i hj hi
  refine⟨0,fun f hf w hw n' e s ns r V H hns hVH hV hH hr rH rV e16 e15 e14 e3 e2=>?_⟩
  obtain⟨w,rfl⟩:∃q,w=q+1:=⟨w-1,by omega⟩
  have c:¬i<cs.length:=by omega
  rw[List.drop_of_length_le (by omega),stripL,List.append_nil]
  have ldh:aLoad false true 7 (.ref H 0) s=some (.agg (hrow k ⟨v,x,0,0,-1⟩ (chOf ns r)),s):=by
   rw[ldA (o:=0) hH (by decide) (by show 0+7≤7;decide) (by decide)];rfl
  obtain⟨ch',s1,pb,hN,l1,f1⟩:=pub27 hr k ⟨v,x,0,0,-1⟩
  have hN':IsN (.mk k v x 0 0 (-1) ns) (.agg (hrow k ⟨v,x,0,0,-1⟩ ch')):=.mk _ _ _ _ _ _ _ _ hN
  obtain⟨a1,a2,a3,a4⟩:=hN'.cells
  have hV1:s1[V]?=some (27,zrow7):=(f1 V rV).trans hV
  have sto:=st7 hV1 rfl a1 a2 a4
  have ld:=ld7 (gset_eq (v:=(27,(AV.agg (hrow k ⟨v,x,0,0,-1⟩ ch')).cells)) hV1) a1 a4
  rw[show (AV.agg (hrow k ⟨v,x,0,0,-1⟩ ch')).cells=hrow k ⟨v,x,0,0,-1⟩ ch' from rfl]at sto ld
  have ast:(AV.agg (hrow k ⟨v,x,0,0,-1⟩ ch')).strip=.agg (hrow k ⟨v,x,0,0,-1⟩ ch'):=rfl
  refine⟨_,s1.set V (27,hrow k ⟨v,x,0,0,-1⟩ ch'),hN',?_⟩
  rw[aLoop,F27_L0]
  simp -implicitDefEqProofs only[sL,e16,e15,e3,e2,c,ldh,pubR,pb,sto,ld]
 | succ j ih2 =>
  intro i hj hi
  have hlt:i<cs.length:=by omega
  obtain⟨a,ha,hT⟩:=hat (List.getElem?_eq_getElem hlt)
  obtain⟨r',hR,ac⟩:=ih _ (List.getElem_mem hlt) a hT
  obtain⟨N1,q1⟩:=LexF.AC.at ac
  obtain⟨N2,q2⟩:=ih2 (i+1) (by omega) (by omega)
  refine⟨N1+N2,fun f hf w hw n' e s ns r V H hns hVH hV hH hr rH rV e16 e15 e14 e3 e2=>?_⟩
  obtain⟨w,rfl⟩:∃q,w=q+1:=⟨w-1,by omega⟩
  obtain⟨a1,a2,a3,a4⟩:=hT.cells
  obtain⟨b1,b2,b3,b4⟩:=hR.cells
  have hst:a.strip=a:=by rw[a4];rfl
  have q1:=q1 f (by omega)
  have b7:=fun s=>box7 s a1 a4
  have z:aAlloc Tryz.prog 27 s=some (.ref s.length 0,s++[(27,zrow7)]):=by rw[zero27]
  obtain⟨s1,hs1⟩:∃s1,s++[(27,a.cells)]=s1:=⟨_,rfl⟩
  have sto:aStore 7 (s++[(27,zrow7)]) (.ref s.length 0) a=some s1:=by rw[st7 (gapp_new) rfl a1 a2 a4,set_end,hs1]
  have l1:s1.length=s.length+1:=by rw[←hs1,app_length]
  have f1:∀x,x<s.length→s1[x]?=s[x]?:=fun x hx=>by rw[←hs1,gapp_old hx]
  have ldt:aLoad false true 7 (.ref s.length 0) s1=some (a,s1):=ld7 (by rw[←hs1,gapp_new]) a1 a4
  have hHl:=glt hH
  have hVl:=glt hV
  have hH1:s1[H]?=some (27,hrow k ⟨v,x,0,0,-1⟩ (chOf ns r)):=(f1 H hHl).trans hH
  have ld6:aLoad false false 1 (.ref H 6) s1=some (chOf ns r,s1):=by rw[ld (n:=1) (o:=6) (v:=chOf ns r) hH1 (by decide) rfl (by decide),chOf_strip]
  have hr1:RowOk s1 ns r:=hr.fr fun R hR=>f1 R (by cases hR;exact hr.lt)
  obtain⟨s2,rows,ap,l2,f2,g2,hN2,hrl⟩:=grow27 hr1 b1 b2 b4 (by omega)
  have lt:=lit27 b1 b2 b4
  have hH2:s2[H]?=some (27,hrow k ⟨v,x,0,0,-1⟩ (chOf ns r)):=(f2 H (by omega) rH).trans hH1
  obtain⟨s3,hs3⟩:∃s3,s2.set H (27,hrow k ⟨v,x,0,0,-1⟩ (chOf (ns++[stripN cs[i]]) (some s1.length)))=s3:=⟨_,rfl⟩
  have st6:aStore 1 s2 (.ref H 6) (.rs 27 7 s1.length 0 (ns.length+1))=some s3:=by
   rw[stH hH2 rfl rfl (by decide),←hs3]
   show some (s2.set H (27,[I k,I v,.str x,I 0,I 0,I (-1),.rs 27 7 s1.length 0 (ns.length+1)]))=_
   unfold chOf hrow;simp
  have rs3:RowOk s3 (ns++[stripN cs[i]]) (some s1.length):=by
   refine⟨rows++[r'],[],?_,hN2.snoc hR,?_⟩
   ·rw[←hs3,gset_ne (by omega),g2,cellsOf_one,List.append_nil]
   ·rw[cellsOf_one,List.append_nil]
    intro e
    have:=congrArg List.length e
    rw[List.length_append,b1]at this
    simp at this
  have hH3:s3[H]?=some (27,hrow k ⟨v,x,0,0,-1⟩ (chOf (ns++[stripN cs[i]]) (some s1.length))):=by rw[←hs3];exact gset_eq hH2
  have hV3:s3[V]?=some (27,zrow7):=by rw[←hs3,gset_ne (Ne.symm hVH),f2 V (by omega) rV,f1 V hVl,hV]
  have w1:=wadd1L (a:=i) (by omega)
  obtain⟨a',s',hA,ha'⟩:=q2 f (by omega) w (by omega) n' (upds e [(17,.bool true),(18,.box a.cells 0),(19,a),(5,.ref s.length 0),(19,a),(20,.ref H 6),(21,chOf ns r),(22,a),(23,r'),(24,.sl 27 7 [r'] .own),(21,chOf ns r),(25,.rs 27 7 s1.length 0 (ns.length+1)),(26,.ref H 6),(27,I ((i+1:Nat):Int)),(16,I ((i+1:Nat):Int))]) s3 (ns++[stripN cs[i]]) (some s1.length) V H (by rw[List.length_append];simp[hns]) hVH hV3 hH3 rs3 (fun e=>by cases e;omega) (fun e=>by cases e;omega)
   (by simp[upds_at,upd_at]) ((upds_get _ _ _ rfl).trans e15) ((upds_get _ _ _ rfl).trans e14) ((upds_get _ _ _ rfl).trans e3) ((upds_get _ _ _ rfl).trans e2)
  refine⟨a',s',?_,?_⟩
  ·rw[List.drop_eq_getElem_cons hlt,stripL]
   rw[List.append_assoc]at hA
   exact hA
  ·rw[aLoop,F27_L0]
   simp -implicitDefEqProofs only[sL,e16,e15,e14,e3,hlt,ha,b7,z,sto,ld6,ldt,hst,q1,lt,ap,st6,strip_rs,chOf_strip,hT.noRef,appK_chOf,d27_5,w1]
   exact ha'
theorem strip_run:∀(n:Nat)(T:Nd),szN T≤n→widN T→StripRun T:=by
 intro n
 induction n with
 | zero=>intro T h;have:=szN_pos T;omega
 | succ n ih =>
  intro T hz hsz a hT
  have nr:noRefL [a]=true:=by rw[noRefL_cons,hT.noRef];rfl
  cases hT with
  | mk k v x s0 e0 n0 cs ch hch =>
  rw[szN_mk]at hz
  rw[widN]at hsz
  obtain⟨c1,c2,c3⟩:=hch.strip
  obtain⟨hl,hat⟩:=hch.facts
  obtain⟨r,hr⟩:∃r,r=[I k,I v,.str x,I s0,I e0,I n0,ch]:=⟨_,rfl⟩
  have b1:aBox false 27 (.agg [I k,I v,.str x,I s0,I e0,I n0,ch]) []=some (.box r 0,[]):=by rw[aBox_f _ _ _ rfl,hr];exact congrArg (fun c=>some (AV.box c 0,([]:Heap))) (by simp[c1,AV.strip])
  have x0:∀s:Heap,aLoad false false 1 (.box r 0) s=some (I k,s):=fun s=>by rw[aLoad_one,hr];rfl
  have x1:∀s:Heap,aLoad false false 1 (.box r 1) s=some (I v,s):=fun s=>by rw[aLoad_one,hr];rfl
  have x2:∀s:Heap,aLoad false false 1 (.box r 2) s=some (.str x,s):=fun s=>by rw[aLoad_one,hr];rfl
  have x6:∀s:Heap,aLoad false false 1 (.box r 6) s=some (ch,s):=fun s=>by rw[aLoad_one,hr];simp[c1]
  obtain⟨N,q⟩:=strip_loop (k:=k) (v:=v) (x:=x) hch hsz.1 (fun t ht=>ih t (by have:=szN_mem ht;omega) (widL_mem hsz.2 ht)) cs.length 0 (by omega) (by omega)
  have zz1:aAlloc Tryz.prog 27 []=some (.ref 0 0,[(27,zrow7)]):=by rw[zero27];rfl
  have zz2:aAlloc Tryz.prog 27 [(27,zrow7)]=some (.ref 1 0,[(27,zrow7),(27,zrow7)]):=by rw[zero27];rfl
  have bd:=build27s k v x
  have s2:aStore 7 [(27,zrow7),(27,zrow7)] (.ref 1 0) (.agg [I k,I v,.str x,I 0,I 0,I (-1),.nils])=some [(27,zrow7),(27,[I k,I v,.str x,I 0,I 0,I (-1),.nils])]:=by rw[st7 (s:=[(27,zrow7),(27,zrow7)]) (i:=1) rfl rfl rfl rfl rfl];rfl
  obtain⟨f,hf⟩:∃f,f=N+cs.length+1:=⟨_,rfl⟩
  obtain⟨e,he⟩:∃e,e=upds (argEnv [.agg [I k,I v,.str x,I s0,I e0,I n0,ch]]) [(1,.box r 0),(2,.ref 0 0),(6,.box r 0),(7,I k),(8,.box r 1),(9,I v),(10,.box r 2),(11,.str x),(12,.agg [I k,I v,.str x,I 0,I 0,I (-1),.nils]),(3,.ref 1 0),(12,.agg [I k,I v,.str x,I 0,I 0,I (-1),.nils]),(13,.box r 6),(14,ch),(15,I cs.length),(16,I 0)]:=⟨_,rfl⟩
  obtain⟨a',s',hA,ha'⟩:=q f (by omega) f (by omega) f e [(27,zrow7),(27,[I k,I v,.str x,I 0,I 0,I (-1),.nils])] [] none 0 1 rfl (by decide) rfl rfl rfl (fun e=>by cases e) (fun e=>by cases e)
   (by rw[he];simp[upds_at,upd_at]) (by rw[he];simp[upds_at,upd_at]) (by rw[he];simp[upds_at,upd_at]) (by rw[he];simp[upds_at,upd_at]) (by rw[he];simp[upds_at,upd_at])
  rw[List.drop_zero,List.nil_append]at hA
  refine⟨a',by rw[stripN];exact hA,AC.one (n:=f+1) (s1:=s') en27 nr hA.noRef ?_⟩
  rw[F27_eq,F27]
  simp -implicitDefEqProofs only[sL,b1,zz1,x0,x1,x2,x6,bd,zz2,s2,hl]
  rw[←he];exact ha'
end ParF
end

section
namespace ParF
open Go Go.Abs Go.Proofs Pm AstF StrF
theorem d28_6b (x:Ans):drawOK C 28 (regOps Tryz.f28 6) [.silent,.silent,.silent,.silent,.silent,.silent,.silent,.silent,.silent,.silent,.silent,.silent] x=x:=drawOK_base (by kernel_rfl)
theorem same_loop {ch dh:AV}{cs ds:List Nd}(hch:IsNC cs ch)(hdh:IsNC ds dh)(hcd:cs.length=ds.length)(hc:cs.length<1800000000000){r1 r2:List AV}(g1:r1[6]?=some ch)(g2:r2[6]?=some dh)
  (ih:∀t∈cs,∀u a b,IsN t a→IsN u b→AC C 28 [a,b] (.bool (sameN t u))):∀(k i:Nat),cs.length-i=k→i≤cs.length →
  ∃N,∀f,N≤f→∀m,k<m→∀n' e s,e 58=I i→e 57=I cs.length→e 2=.box r1 0→e 3=.box r2 0→∃s',aLoop (F28_L0 (den C f) n') m e s=some (.bool (sameL (cs.drop i) (ds.drop i)),s'):=by
 obtain⟨hl,hat⟩:=hch.facts
 obtain⟨hl',hat'⟩:=hdh.facts
 obtain⟨c1,c2,c3⟩:=hch.strip
 obtain⟨c1',c2',c3'⟩:=hdh.strip
 have L1:∀s,aLoad false false 1 (.box r1 6) s=some (ch,s):=fun s=>by rw[aLoad_one,g1];simp[c1]
 have L2:∀s,aLoad false false 1 (.box r2 6) s=some (dh,s):=fun s=>by rw[aLoad_one,g2];simp[c1']
 intro k
 induction k with
 | zero =>
  intro i hk hi
  rw[List.drop_of_length_le (by omega),List.drop_of_length_le (by omega),sameL]
  refine⟨1,fun f hf m hm n' e s h30 h29 h2 h3=>⟨s,?_⟩⟩
  obtain⟨m,rfl⟩:∃j,m=j+1:=⟨m-1,by omega⟩
  have c:¬i<cs.length:=by omega
  rw[aLoop,F28_L0]
  simp -implicitDefEqProofs only[sL,h30,h29,c,decide_false]
 | succ k ih2 =>
  intro i hk hi
  have hlt:i<cs.length:=by omega
  have hlt':i<ds.length:=by omega
  obtain⟨a,ha,hT⟩:=hat (List.getElem?_eq_getElem hlt)
  obtain⟨b,hb,hU⟩:=hat' (List.getElem?_eq_getElem hlt')
  obtain⟨a1,a2,a3,a4⟩:=hT.cells
  obtain⟨b1,b2,b3,b4⟩:=hU.cells
  have hst:a.strip=a:=by rw[a4];rfl
  have hst':b.strip=b:=by rw[b4];rfl
  rw[List.drop_eq_getElem_cons hlt,List.drop_eq_getElem_cons hlt',sameL]
  obtain⟨N1,q1⟩:=LexF.AC.at (ih _ (List.getElem_mem hlt) ds[i] a b hT hU)
  obtain⟨N3,q3⟩:=ih2 (i+1) (by omega) (by omega)
  refine⟨N1+N3,fun f hf m hm n' e s h30 h29 h2 h3=>?_⟩
  obtain⟨m,rfl⟩:∃j,m=j+1:=⟨m-1,by omega⟩
  have q1:=q1 f (by omega)
  have lda:=fun s=>box7 s a1 a4
  have ldb:=fun s=>box7 s b1 b4
  have e2:=wadd1L (a:=i) (by omega)
  rw[aLoop,F28_L0]
  cases hv:sameN cs[i] ds[i] with
  | false =>
   rw[hv]at q1
   refine⟨s,?_⟩
   simp -implicitDefEqProofs only[sL,h30,h29,h2,h3,hlt,L1,L2,ha,hb,lda,ldb,hst,hst',q1,hT.noRef,hU.noRef,d28_6b,Bool.false_and]
  | true =>
   rw[hv]at q1
   simp -implicitDefEqProofs only[sL,h30,h29,h2,h3,hlt,L1,L2,ha,hb,lda,ldb,hst,hst',q1,hT.noRef,hU.noRef,d28_6b,e2,Bool.true_and]
   exact q3 f (by omega) m (by omega) n' _ _ (by simp only[upds_at,upds_nil,upd_at,if_true]) ((upds_get _ _ _ rfl).trans h29) ((upds_get _ _ _ rfl).trans h2) ((upds_get _ _ _ rfl).trans h3)
theorem same_run:∀(n:Nat)(T U:Nd)(a b:AV),szN T≤n→IsN T a→IsN U b→widN T→AC C 28 [a,b] (.bool (sameN T U)):=by
 intro n
 induction n with
 | zero=>intro T U a b hz;have:=szN_pos T;omega
 | succ n ih =>
  intro T U a b hz hT hU hsz
  have nr:noRefL [a,b]=true:=by rw[noRefL_cons,noRefL_cons,noRefL_nil,hT.noRef,hU.noRef];rfl
  cases hT with
  | mk k v t s0 e0 n0 cs ch hch =>
  cases hU with
  | mk k' v' t' s1 e1' n1 ds dh hdh =>
  rw[szN_mk]at hz
  rw[widN]at hsz
  obtain⟨c1,c2,c3⟩:=hch.strip
  obtain⟨hl,-⟩:=hch.facts
  obtain⟨c1',c2',c3'⟩:=hdh.strip
  obtain⟨hl',-⟩:=hdh.facts
  refine .intro en28 nr (by rfl) ?_
  rw[sameN]
  have vn:∀{x y:Int},x=y→(x != y)=false:=fun h=>by simp[h]
  have vy:∀{x y:Int},¬x=y→(x != y)=true:=fun h=>by simpa using h
  have B:∀(r:List AV) (o:Nat) (w:AV),r[o]?=some w→w.strip=w→∀s2:Heap,aLoad false false 1 (.box r o) s2=some (w,s2):=by
   intro r o w es e2 s2
   rw[aLoad_one,es];simp[e2]
  obtain⟨r1,hr1⟩:∃r1,r1=[I k,I v,.str t,I s0,I e0,I n0,ch]:=⟨_,rfl⟩
  obtain⟨r2,hr2⟩:∃r2,r2=[I k',I v',.str t',I s1,I e1',I n1,dh]:=⟨_,rfl⟩
  have b1:aBox false 27 (.agg [I k,I v,.str t,I s0,I e0,I n0,ch]) []=some (.box r1 0,[]):=by rw[aBox_f _ _ _ rfl,hr1];rfl
  have b2:aBox false 27 (.agg [I k',I v',.str t',I s1,I e1',I n1,dh]) []=some (.box r2 0,[]):=by rw[aBox_f _ _ _ rfl,hr2];rfl
  have x0:=B r1 0 (I k) (by rw[hr1];rfl) rfl
  have y0:=B r2 0 (I k') (by rw[hr2];rfl) rfl
  have x1:=B r1 1 (I v) (by rw[hr1];rfl) rfl
  have y1:=B r2 1 (I v') (by rw[hr2];rfl) rfl
  have x2:=B r1 2 (.str t) (by rw[hr1];rfl) rfl
  have y2:=B r2 2 (.str t') (by rw[hr2];rfl) rfl
  have x3:=B r1 3 (I s0) (by rw[hr1];rfl) rfl
  have y3:=B r2 3 (I s1) (by rw[hr2];rfl) rfl
  have x4:=B r1 4 (I e0) (by rw[hr1];rfl) rfl
  have y4:=B r2 4 (I e1') (by rw[hr2];rfl) rfl
  have x5:=B r1 5 (I n0) (by rw[hr1];rfl) rfl
  have y5:=B r2 5 (I n1) (by rw[hr2];rfl) rfl
  have x6:=B r1 6 ch (by rw[hr1];rfl) c1
  have y6:=B r2 6 dh (by rw[hr2];rfl) c1'
  by_cases h0:k=k'
  case neg =>
   have z0:=vy h0
   refine⟨1,fun f hf=>⟨[],?_⟩⟩
   rw[F28_eq,F28,show (k==k'&&v==v'&&t==t'&&s0==s1&&e0==e1'&&n0==n1&&sameL cs ds)=false by simp[h0]]
   simp -implicitDefEqProofs only[sL,b1,b2,x0,y0,z0]
  have z0:=vn h0
  by_cases h1:v=v'
  case neg =>
   have z1:=vy h1
   refine⟨1,fun f hf=>⟨[],?_⟩⟩
   rw[F28_eq,F28,show (k==k'&&v==v'&&t==t'&&s0==s1&&e0==e1'&&n0==n1&&sameL cs ds)=false by simp[h1]]
   simp -implicitDefEqProofs only[sL,b1,b2,x0,y0,x1,y1,z0,z1]
  have z1:=vn h1
  by_cases h2:t=t'
  case neg =>
   have z2:aBin Tryz.prog .neq 9 (.str t) (.str t')=some (.bool true):=by simp[aBin,strBin,h2]
   refine⟨1,fun f hf=>⟨[],?_⟩⟩
   rw[F28_eq,F28,show (k==k'&&v==v'&&t==t'&&s0==s1&&e0==e1'&&n0==n1&&sameL cs ds)=false by simp[h2]]
   simp -implicitDefEqProofs only[sL,b1,b2,x0,y0,x1,y1,x2,y2,z0,z1,z2]
  have z2:aBin Tryz.prog .neq 9 (.str t) (.str t')=some (.bool false):=by simp[aBin,strBin,h2]
  by_cases h3:s0=s1
  case neg =>
   have z3:=vy h3
   refine⟨1,fun f hf=>⟨[],?_⟩⟩
   rw[F28_eq,F28,show (k==k'&&v==v'&&t==t'&&s0==s1&&e0==e1'&&n0==n1&&sameL cs ds)=false by simp[h3]]
   simp -implicitDefEqProofs only[sL,b1,b2,x0,y0,x1,y1,x2,y2,x3,y3,z0,z1,z2,z3]
  have z3:=vn h3
  by_cases h4:e0=e1'
  case neg =>
   have z4:=vy h4
   refine⟨1,fun f hf=>⟨[],?_⟩⟩
   rw[F28_eq,F28,show (k==k'&&v==v'&&t==t'&&s0==s1&&e0==e1'&&n0==n1&&sameL cs ds)=false by simp[h4]]
   simp -implicitDefEqProofs only[sL,b1,b2,x0,y0,x1,y1,x2,y2,x3,y3,x4,y4,z0,z1,z2,z3,z4]
  have z4:=vn h4
  by_cases h5:n0=n1
  case neg =>
   have z5:=vy h5
   refine⟨1,fun f hf=>⟨[],?_⟩⟩
   rw[F28_eq,F28,show (k==k'&&v==v'&&t==t'&&s0==s1&&e0==e1'&&n0==n1&&sameL cs ds)=false by simp[h5]]
   simp -implicitDefEqProofs only[sL,b1,b2,x0,y0,x1,y1,x2,y2,x3,y3,x4,y4,x5,y5,z0,z1,z2,z3,z4,z5]
  have z5:=vn h5
  by_cases h6:cs.length=ds.length
  ·obtain⟨N,q⟩:=same_loop hch hdh h6 hsz.1 (r1:=r1) (r2:=r2) (by rw[hr1];rfl) (by rw[hr2];rfl) (fun x hx u a b h1 h2=>ih x u a b (by have:=szN_mem hx;omega) h1 h2 (widL_mem hsz.2 hx)) cs.length 0 (by omega) (by omega)
   rw[List.drop_zero,List.drop_zero]at q
   refine⟨N+cs.length+1,fun f hf=>?_⟩
   have z6:((cs.length:Int) != (ds.length:Int))=false:=by simp[h6]
   rw[F28_eq,F28,show (k==k'&&v==v'&&t==t'&&s0==s1&&e0==e1'&&n0==n1&&sameL cs ds)=sameL cs ds by simp[h0,h1,h2,h3,h4,h5]]
   simp -implicitDefEqProofs only[sL,b1,b2,x0,y0,x1,y1,x2,y2,x3,y3,x4,y4,x5,y5,x6,y6,hl,hl',z0,z1,z2,z3,z4,z5,z6]
   exact q f (by omega) f (by omega) f _ _ (by simp[upds_at,upd_at]) (by simp[upds_at,upd_at]) (by simp[upds_at,upd_at]) (by simp[upds_at,upd_at])
  ·have z:sameL cs ds=false:=by
    cases h:sameL cs ds with
    | false=>rfl
    | true=>exact absurd (sameL_len h) h6
   have z6:((cs.length:Int) != (ds.length:Int))=true:=by simp;omega
   refine⟨1,fun f hf=>⟨[],?_⟩⟩
   rw[F28_eq,F28,z,Bool.and_false]
   simp -implicitDefEqProofs only[sL,b1,b2,x0,y0,x1,y1,x2,y2,x3,y3,x4,y4,x5,y5,x6,y6,hl,hl',z0,z1,z2,z3,z4,z5,z6]
theorem boolEq (p q:Bool):aBin Tryz.prog .eql 4 (.bool p) (.bool q)=some (.bool (p==q)):=by cases p<;>cases q<;>rfl
theorem str_law_run {T U:Nd}{a b:AV}(hT:IsN T a)(hU:IsN U b)(h1:widN T)(h2:widN U):AC C 10 [a,b] (.bool true):=by
 have nr:noRefL [a,b]=true:=by rw[noRefL_cons,noRefL_cons,noRefL_nil,hT.noRef,hU.noRef];rfl
 obtain⟨x,hx,ax⟩:=strip_run _ T (Nat.le_refl _) h1 a hT
 obtain⟨y,hy,ay⟩:=strip_run _ U (Nat.le_refl _) h2 b hU
 obtain⟨xx,hxx,axx⟩:=strip_run _ (stripN T) (Nat.le_refl _) (wid_strip T h1) x hx
 obtain⟨l1,l2,l3,l4⟩:=strip_law T U
 have e1:=equal_runW _ _ _ x a (Nat.le_refl _) hx hT (wid_strip T h1)
 have e2:=same_run _ _ _ xx x (Nat.le_refl _) hxx hx (wid_strip _ (wid_strip T h1))
 have e3:=equal_runW _ _ _ a b (Nat.le_refl _) hT hU h1
 have e4:=same_run _ _ _ x y (Nat.le_refl _) hx hy (wid_strip T h1)
 have e5:=equal_runW _ _ _ b a (Nat.le_refl _) hU hT h2
 rw[l1]at e1
 rw[l2]at e2
 obtain⟨N0,q0⟩:=LexF.AC.at exa_run
 obtain⟨N1,q1⟩:=LexF.AC.at ax
 obtain⟨N2,q2⟩:=LexF.AC.at ay
 obtain⟨N3,q3⟩:=LexF.AC.at axx
 obtain⟨M1,p1⟩:=LexF.AC.at e1
 obtain⟨M2,p2⟩:=LexF.AC.at e2
 obtain⟨M3,p3⟩:=LexF.AC.at e3
 obtain⟨M4,p4⟩:=LexF.AC.at e4
 obtain⟨M5,p5⟩:=LexF.AC.at e5
 obtain⟨a1,a2,a3,a4⟩:=hT.cells
 obtain⟨b1,b2,b3,b4⟩:=hU.cells
 obtain⟨x1,x2,x3,x4⟩:=hx.cells
 obtain⟨y1,y2,y3,y4⟩:=hy.cells
 have sa:a.strip=a:=by rw[a4];rfl
 have sb:b.strip=b:=by rw[b4];rfl
 have sx:x.strip=x:=by rw[x4];rfl
 have sy:y.strip=y:=by rw[y4];rfl
 obtain⟨X,hX⟩:∃X,X=x.cells:=⟨_,rfl⟩
 have sxx:xx.strip=xx:=by obtain⟨_,_,_,d4⟩:=hxx.cells;rw[d4];rfl
 refine .intro en10 nr rfl ⟨N0+N1+N2+N3+M1+M2+M3+M4+M5,fun n hn=>⟨[(27,x.cells),(27,y.cells)],?_⟩⟩
 have q0:=q0 n (by omega)
 have q1:=q1 n (by omega)
 have q2:=q2 n (by omega)
 have q3:=q3 n (by omega)
 have p1:=p1 n (by omega)
 have p2:=p2 n (by omega)
 have p3:=p3 n (by omega)
 have p4:=p4 n (by omega)
 have p5:=p5 n (by omega)
 have ba:aBox false 27 a []=some (.box a.cells 0,[]):=by rw[aBox_f _ _ _ (by rw[a4];rfl)]
 have bb:aBox false 27 b []=some (.box b.cells 0,[]):=by rw[aBox_f _ _ _ (by rw[b4];rfl)]
 have la:=fun s=>box7 s a1 a4
 have lb:=fun s=>box7 s b1 b4
 have zz1:aAlloc Tryz.prog 27 []=some (.ref 0 0,[(27,zrow7)]):=by rw[zero27];rfl
 have zz2:aAlloc Tryz.prog 27 [(27,zrow7)]=some (.ref 1 0,[(27,zrow7),(27,zrow7)]):=by rw[zero27];rfl
 have s1:aStore 7 [(27,zrow7),(27,zrow7)] (.ref 0 0) x=some [(27,x.cells),(27,zrow7)]:=by rw[st7 (s:=[(27,zrow7),(27,zrow7)]) (i:=0) rfl rfl x1 x2 x4];rfl
 have s2:aStore 7 [(27,x.cells),(27,zrow7)] (.ref 1 0) y=some [(27,x.cells),(27,y.cells)]:=by rw[st7 (s:=[(27,x.cells),(27,zrow7)]) (i:=1) rfl rfl y1 y2 y4];rfl
 have lx:aLoad false true 7 (.ref 0 0) [(27,x.cells),(27,y.cells)]=some (x,[(27,x.cells),(27,y.cells)]):=ld7 rfl x1 x4
 have ly:aLoad false true 7 (.ref 1 0) [(27,x.cells),(27,y.cells)]=some (y,[(27,x.cells),(27,y.cells)]):=ld7 rfl y1 y4
 have d3:=fun z=>d10_3 0 1 (by decide) z
 have ra:=hT.noRef
 have rb:=hU.noRef
 have rx:=hx.noRef
 have ry:=hy.noRef
 have rxx:=hxx.noRef
 rw[F10_eq,F10]
 simp -implicitDefEqProofs only[sL,ba,bb,q0,Bool.not_true,la,lb,sa,sb,sx,sy,sxx,ra,rb,rx,ry,rxx,q1,q2,zz1,zz2,s1,s2,kStore_ref,kLoad_ref,d3,lx,ly,p1,q3,p2,p3,p4,p5,boolEq,l3,l4,d10_4]
end ParF
end
