/- ParC, ParF -/
import Derived.Test.YtkikcleofaeigaaGreatDoorB
import Derived.Test.YtkikcleofaeigaaGreatDoorProg
import Derived.KernelRfl
import Derived.Lib.Bytealg
import Derived.Lib.Fields
set_option linter.all false

section
namespace ParF
open Go Go.Abs Go.Proofs
def eIndex (args:List AV)(s:Heap):Option (AV × Heap):=match args with
 | [.str a,.int .u8 c]=>some (.int .i64 (Lib.indexByte a c.toNat.toUInt8),s)
 | _=>none
def ePrefix (args:List AV)(s:Heap):Option (AV × Heap):=match args with
 | [.str a,.str b]=>some (.bool (Lib.hasPrefix a b),s)
 | _=>none
def eFields (args:List AV)(s:Heap):Option (AV × Heap):=match args with
 | [.str a]=>if a.length<1000∧(a.all fun b=>b.toNat<128)=true then some (.sl 9 1 ((Lib.fields a).map .str) .sh,s) else none
 | _=>none
def eInsert (args:List AV)(s:Heap):Option (AV × Heap):=match args with
 | [.rs ty z id 0 len,.int .i64 k,.sl _ _ [x] _]=>match s[id]? with
  | some cs=>if cs.1=ty∧ty=52∧z=3∧0<len∧k=len-1∧x.cells.length=3∧len*3≤cs.2.length∧len<1000000000∧((cs.2.drop ((len-1)*3)).take 3).all (fun a=>!a.isOwn)=true then
    some (.rs ty 3 s.length 0 (len+1),kill s id++[(ty,cs.2.take ((len-1)*3)++x.cells.map AV.strip++(cs.2.drop ((len-1)*3)).take 3)]) else none
  | none=>none
 | _=>none
def eClone (args:List AV)(s:Heap):Option (AV × Heap):=match args with
 | [.nils]=>some (.nils,s)
 | [.sl t z (x::xs) _]=>if t=197∧z=4∧xs.length<900000 then some (.rs 197 4 s.length 0 (xs.length+1),s++[(197,(cellsOf (x::xs)).map AV.strip)]) else none
 | _=>none
def refs:List (Nat × Nat):=[(107,13),(107,15),(110,14),(188,23),(177,16),(287,48),(287,52),(21,18),(21,20),(21,33),(77,20),(142,44),(142,55),(64,7),(23,27),(65,63),(23,35),(6,3),(66,44),(66,47),(8,3),(9,5),(30,73),(30,103),(135,7),(135,9),(135,23),(74,47),(74,59),(75,38),(75,84),(72,32)]
noncomputable def C:Cfg:={ P:=Tryz.prog,glob:=fun _=>none,ext:=fun g=>if g=172 then some eIndex else if g=163 then some ePrefix else if g=174 then some eFields else if g=236 then some eInsert else if g=101 then some (bCheck 112) else if g=51 then some (bString 5) else if g=120 then some eClone else none,ref:=fun f t=>refs.contains (f,t),own:=fun f t=>false }
end ParF
end

section
set_option maxRecDepth 10000
namespace ParF
open Go Go.Abs Go.Proofs
-- parser.Parse
noncomputable def F21_L0 (D:Den)(n:Nat)(k0:Env→Heap→Ans)(e:Env)(s:Heap):Ans :=
 oh (some ((e 6).strip,s)) fun t21 s =>
 oh (aCall Tryz.prog D 59 [t21.strip] s) fun t22 s =>
 oh (mp (aUn .not t22) s) fun t23 s =>
 br t23
  (oh (some ((e 6).strip,s)) fun t24 s =>
 oh (aCall Tryz.prog D 60 [t24.strip] s) fun t25 s =>
 k0 (upds e [(21,t21),(22,t22),(23,t23),(24,t24),(25,t25)]) s)
  (oh (some ((e 6).strip,s)) fun t26 s =>
 oh (aCall Tryz.prog D 61 [t26.strip] s) fun t27 s =>
 oh (some ((e 6).strip,s)) fun t28 s =>
 oh (mp (aNilCheck t28) s) fun t29 s =>
 oh (mp (aAddr 2 t29) s) fun t30 s =>
 oh (aLoad false false 1 t30 s) fun t31 s =>
 oh (mp (aIndexAddr Tryz.prog 50 t31 (.int .i64 0)) s) fun t32 s =>
 oh (pubR (aLoad false true 3 t32 s)) fun t33 s =>
 oh (sto (aStore 3 s (e 2) t33.strip)) fun _r s =>
 oh (some ((.int .i64 0),s)) fun t3_3 s =>
 fin1 ((resL [(aLoad false true 3 (e 2) s).map (·.1),some t3_3]).map .tup) s)
noncomputable def F21 (D:Den)(n:Nat)(t0:AV)(s:Heap):Ans :=
 oh (aAlloc Tryz.prog 52 s) fun t2 s =>
 oh (some ((.int .i64 0),s)) fun t3 s =>
 oh (some (t0.strip,s)) fun t8 s =>
 oh (aCall Tryz.prog D 58 [t8.strip] s) fun t9 s =>
 oh (some (t9.strip,s)) fun t7 s =>
 oh (mp (aExtract 0 t7) s) fun t10 s =>
 oh (mp (aExtract 1 t7) s) fun t11 s =>
 oh (some (t10,s)) fun t4 s =>
 oh (some (t11,s)) fun t5 s =>
 oh (some (t5.strip,s)) fun t12 s =>
 oh (mp (aBin Tryz.prog .neq 24 t12 (.int .i64 0)) s) fun t13 s =>
 br t13
  (oh (mp (aBuild Tryz.prog 52 []) s) fun t14 s =>
 oh (some (t5.strip,s)) fun t15 s =>
 oh (sto (aStore 3 s t2 t14)) fun _r s =>
 oh (some (t15,s)) fun t3_2 s =>
 fin1 ((resL [(aLoad false true 3 t2 s).map (·.1),some t3_2]).map .tup) s)
  (oh (some (t4.strip,s)) fun t16 s =>
 oh (mp (aBuild Tryz.prog 52 [(0,(.int .i64 1))]) s) fun t17 s =>
 oh (aRsBuild Tryz.prog 50 1 [(0,t17)] s) fun t18 s =>
 oh (mp (aBuild Tryz.prog 128 [(0,t16),(2,t18)]) s) fun t19 s =>
 oh (aBox true 128 t19 s) fun t20 s =>
 oh (some (t20,s)) fun t6 s =>
 aLoop (F21_L0 D n) n (upds (argEnv [t0]) [(2,t2),(3,t3),(8,t8),(9,t9),(7,t7),(10,t10),(11,t11),(10,t10.strip),(4,t4),(11,t11.strip),(5,t5),(12,t12),(13,t13),(16,t16),(17,t17),(18,t18),(19,t19),(20,t20),(20,t20.strip),(6,t6)]) s)
theorem F21_eq (n:Nat)(t0:AV)(s:Heap):den C (n+1) 21 [t0] s=F21 (den C n) n t0 s :=
 (den_body rfl Tryz.func21 _ _).trans (by kernel_rfl)
theorem en21:enterable Tryz.prog 21=true:=by kernel_rfl
-- (*parser.parser).atEOF
noncomputable def F59 (D:Den)(n:Nat)(t0:AV)(s:Heap):Ans :=
 oh (some ((.bool false),s)) fun t2 s =>
 oh (some (t0.strip,s)) fun t3 s =>
 oh (aCall Tryz.prog D 105 [t3.strip] s) fun t4 s =>
 oh (mp (aField Tryz.prog 80 0 t4) s) fun t5 s =>
 oh (mp (aBin Tryz.prog .eql 3 t5 (.int .i64 100)) s) fun t6 s =>
 oh (some (t6,s)) fun t2_2 s =>
 some (t2_2,s)
theorem F59_eq (n:Nat)(t0:AV)(s:Heap):den C (n+1) 59 [t0] s=F59 (den C n) n t0 s :=
 (den_body rfl Tryz.func59 _ _).trans (by kernel_rfl)
theorem en59:enterable Tryz.prog 59=true:=by kernel_rfl
-- (*parser.parser).item
noncomputable def F60_J0 (D:Den)(n:Nat)(e:Env)(s:Heap):Ans :=
 oh (mp (aAddr 1 (e 2)) s) fun t12 s =>
 oh (aLoad false false 1 t12 s) fun t13 s =>
 oh (aCall Tryz.prog D 108 [t13.strip] s) fun t14 s =>
 oh (aAlloc Tryz.prog 3 s) fun t3 s =>
 oh (sto (aStore 1 s t3 t14)) fun _r s =>
 oh (aLoad false false 1 t3 s) fun t15 s =>
 oh (mp (aBin Tryz.prog .eql 3 t15 (.int .i64 0)) s) fun t16 s =>
 oh (some (t16.strip,s)) fun t17 s =>
 oh (gd (wA t17 false) s (mp (aAddr 0 (e 2)) s)) fun t18 s =>
 oh (gd (wA t17 false) s (aLoad false false 1 t18 s)) fun t19 s =>
 oh (gd (wA t17 false) s (mp (aBin Tryz.prog .neq 3 t19 (.int .i64 104)) s)) fun t20 s =>
 oh (mp (aPick t17 (.bool true) t20) s) fun t21 s =>
 br t21
  (oh (aLoad false false 1 (e 1) s) fun t22 s =>
 oh (aCall Tryz.prog D 109 [t22.strip] s) fun t23 s =>
 some (.tup [],s))
  (oh (aLoad false false 1 (e 1) s) fun t24 s =>
 oh (aLoad false false 1 t3 s) fun t25 s =>
 oh (some ((.fn 111 [] [(e 1),t3]),s)) fun t26 s =>
 oh (aCall Tryz.prog D 110 [t24.strip,t25.strip,t26.strip] s) fun t27 s =>
 some (.tup [],s))
noncomputable def F60 (D:Den)(n:Nat)(t0:AV)(s:Heap):Ans :=
 oh (aBox false 126 t0 s) fun t1 s =>
 oh (aLoad false false 1 t1 s) fun t4 s =>
 oh (aCall Tryz.prog D 105 [t4.strip] s) fun t5 s =>
 oh (aAlloc Tryz.prog 80 s) fun t2 s =>
 oh (sto (aStore 2 s t2 t5)) fun _r s =>
 oh (aLoad false false 1 t1 s) fun t6 s =>
 oh (mp (aBuildSlice Tryz.prog 215 1 [(0,(.str [112,117,98]))]) s) fun t7 s =>
 oh (aCall Tryz.prog D 106 [t6.strip,t7.strip] s) fun t8 s =>
 br t8
  (oh (aLoad false false 1 t1 s) fun t9 s =>
 oh (aCall Tryz.prog D 107 [t9.strip] s) fun t10 s =>
 oh (aCall Tryz.prog D 105 [t10.strip] s) fun t11 s =>
 oh (sto (aStore 2 s t2 t11)) fun _r s =>
 F60_J0 D n (upds (argEnv [t0]) [(1,t1),(4,t4),(5,t5),(2,t2),(5,t5.strip),(6,t6),(7,t7),(8,t8),(9,t9),(10,t10),(11,t11),(11,t11.strip)]) s)
  (F60_J0 D n (upds (argEnv [t0]) [(1,t1),(4,t4),(5,t5),(2,t2),(5,t5.strip),(6,t6),(7,t7),(8,t8)]) s)
theorem F60_eq (n:Nat)(t0:AV)(s:Heap):den C (n+1) 60 [t0] s=F60 (den C n) n t0 s :=
 (den_body rfl Tryz.func60 _ _).trans (by kernel_rfl)
theorem en60:enterable Tryz.prog 60=true:=by kernel_rfl
-- (*parser.parser).skipTrivia
noncomputable def F61_L0 (D:Den)(n:Nat)(k0:Env→Heap→Ans)(e:Env)(s:Heap):Ans :=
 oh (some ((e 0).strip,s)) fun t2 s1 =>
 oh (mp (aNilCheck t2) s1) fun t3 s2 =>
 oh (mp (aAddr 1 t3) s2) fun t4 s3 =>
 oh (aLoad false false 1 t4 s3) fun t5 s4 =>
 oh (some ((e 0).strip,s4)) fun t6 s5 =>
 oh (mp (aNilCheck t6) s5) fun t7 s6 =>
 oh (mp (aAddr 0 t7) s6) fun t8 s7 =>
 oh (aLoad false false 1 t8 s7) fun t9 s8 =>
 oh (mp (aLen Tryz.prog 74 t9) s8) fun t10 s9 =>
 oh (mp (aBin Tryz.prog .lss 3 t5 t10) s9) fun t11 s10 =>
 oh (some (t11.strip,s10)) fun t12 s11 =>
 oh (gd (wA t12 true) s11 (some ((e 0).strip,s11))) fun t13 s12 =>
 oh (gd (wA t12 true) s12 (mp (aNilCheck t13) s12)) fun t14 s13 =>
 oh (gd (wA t12 true) s13 (mp (aAddr 0 t14) s13)) fun t15 s14 =>
 oh (gd (wA t12 true) s14 (aLoad false false 1 t15 s14)) fun t16 s15 =>
 oh (gd (wA t12 true) s15 (some ((e 0).strip,s15))) fun t17 s16 =>
 oh (gd (wA t12 true) s16 (mp (aNilCheck t17) s16)) fun t18 s17 =>
 oh (gd (wA t12 true) s17 (mp (aAddr 1 t18) s17)) fun t19 s18 =>
 oh (gd (wA t12 true) s18 (aLoad false false 1 t19 s18)) fun t20 s19 =>
 oh (gd (wA t12 true) s19 (mp (aIndexAddr Tryz.prog 74 t16 t20) s19)) fun t21 s20 =>
 oh (gd (wA t12 true) s20 (mp (aAddr 0 t21) s20)) fun t22 s21 =>
 oh (gd (wA t12 true) s21 (aLoad false false 1 t22 s21)) fun t23 s22 =>
 oh (gd (wA t12 true) s22 (aCall Tryz.prog D 115 [t23.strip] s22)) fun t24 s23 =>
 oh (mp (aPick t12 t24 (.bool false)) s23) fun t25 s24 =>
 drawOK C 61 (regOps Tryz.f61 0) [.silent,.silent,.silent,(kLoad false t4),.silent,.silent,.silent,(kLoad false t8),.silent,.silent,.silent,(kGd (wA t12 true) .silent),(kGd (wA t12 true) .silent),(kGd (wA t12 true) .silent),(kGd (wA t12 true) (kLoad false t15)),(kGd (wA t12 true) .silent),(kGd (wA t12 true) .silent),(kGd (wA t12 true) .silent),(kGd (wA t12 true) (kLoad false t19)),(kGd (wA t12 true) .silent),(kGd (wA t12 true) .silent),(kGd (wA t12 true) (kLoad false t22)),(kGd (wA t12 true) (dyn (kCall [t23.strip]) s22 s23)),.silent] <|
 br t25
  (oh (some ((e 0).strip,s24)) fun t26 s =>
 oh (aCall Tryz.prog D 116 [t26.strip] s) fun t27 s =>
 k0 (upds e [(2,t2),(3,t3),(4,t4),(5,t5),(6,t6),(7,t7),(8,t8),(9,t9),(10,t10),(11,t11),(12,t12),(13,t13),(14,t14),(15,t15),(16,t16),(17,t17),(18,t18),(19,t19),(20,t20),(21,t21),(22,t22),(23,t23),(24,t24),(25,t25),(26,t26),(27,t27)]) s)
  (some (.tup [],s24))
noncomputable def F61 (D:Den)(n:Nat)(t0:AV)(s:Heap):Ans :=
 aLoop (F61_L0 D n) n (argEnv [t0]) s
theorem F61_eq (n:Nat)(t0:AV)(s:Heap):den C (n+1) 61 [t0] s=F61 (den C n) n t0 s :=
 (den_body rfl Tryz.func61 _ _).trans (by kernel_rfl)
theorem d61_0 {g0 g1 g2 g3:Nat}(x:Ans):drawOK C 61 (regOps Tryz.f61 0) [.silent,.silent,.silent,.get g0,.silent,.silent,.silent,.get g1,.silent,.silent,.silent,.silent,.silent,.silent,.get g2,.silent,.silent,.silent,.get g3,.silent,.silent,.silent,.silent,.silent] x=x:=drawOK_base (by kernel_rfl)
theorem en61:enterable Tryz.prog 61=true:=by kernel_rfl
-- (*parser.parser).peek
noncomputable def F105_L0 (D:Den)(n:Nat)(k0:Env→Heap→Ans)(e:Env)(s:Heap):Ans :=
 oh (some ((e 3).strip,s)) fun t8 s =>
 oh (some ((e 0).strip,s)) fun t9 s =>
 oh (mp (aNilCheck t9) s) fun t10 s =>
 oh (mp (aAddr 0 t10) s) fun t11 s =>
 oh (aLoad false false 1 t11 s) fun t12 s =>
 oh (mp (aLen Tryz.prog 74 t12) s) fun t13 s =>
 oh (mp (aBin Tryz.prog .lss 3 t8 t13) s) fun t14 s =>
 oh (some (t14.strip,s)) fun t15 s =>
 oh (gd (wA t15 true) s (some ((e 0).strip,s))) fun t16 s =>
 oh (gd (wA t15 true) s (mp (aNilCheck t16) s)) fun t17 s =>
 oh (gd (wA t15 true) s (mp (aAddr 0 t17) s)) fun t18 s =>
 oh (gd (wA t15 true) s (aLoad false false 1 t18 s)) fun t19 s =>
 oh (gd (wA t15 true) s (some ((e 3).strip,s))) fun t20 s =>
 oh (gd (wA t15 true) s (mp (aIndexAddr Tryz.prog 74 t19 t20) s)) fun t21 s =>
 oh (gd (wA t15 true) s (mp (aAddr 0 t21) s)) fun t22 s =>
 oh (gd (wA t15 true) s (aLoad false false 1 t22 s)) fun t23 s =>
 oh (gd (wA t15 true) s (aCall Tryz.prog D 115 [t23.strip] s)) fun t24 s =>
 oh (mp (aPick t15 t24 (.bool false)) s) fun t25 s =>
 br t25
  (oh (some ((e 3).strip,s)) fun t26 s =>
 oh (mp (aBin Tryz.prog .add 3 t26 (.int .i64 1)) s) fun t27 s =>
 oh (some (t27,s)) fun t3_2 s =>
 k0 (upds e [(8,t8),(9,t9),(10,t10),(11,t11),(12,t12),(13,t13),(14,t14),(15,t15),(16,t16),(17,t17),(18,t18),(19,t19),(20,t20),(21,t21),(22,t22),(23,t23),(24,t24),(25,t25),(26,t26),(27,t27),(27,t27.strip),(3,t3_2)]) s)
  (oh (some ((e 3).strip,s)) fun t28 s =>
 oh (some ((e 0).strip,s)) fun t29 s =>
 oh (mp (aNilCheck t29) s) fun t30 s =>
 oh (mp (aAddr 0 t30) s) fun t31 s =>
 oh (aLoad false false 1 t31 s) fun t32 s =>
 oh (mp (aLen Tryz.prog 74 t32) s) fun t33 s =>
 oh (mp (aBin Tryz.prog .eql 3 t28 t33) s) fun t34 s =>
 br t34
  (oh (mp (aBuild Tryz.prog 80 [(0,(.int .i64 100))]) s) fun t35 s =>
 oh (sto (aStore 2 s (e 2) t35)) fun _r s =>
 fin1 ((aLoad false true 2 (e 2) s).map (·.1)) s)
  (oh (some ((e 0).strip,s)) fun t36 s =>
 oh (mp (aNilCheck t36) s) fun t37 s =>
 oh (mp (aAddr 0 t37) s) fun t38 s =>
 oh (aLoad false false 1 t38 s) fun t39 s =>
 oh (some ((e 3).strip,s)) fun t40 s =>
 oh (mp (aIndexAddr Tryz.prog 74 t39 t40) s) fun t41 s =>
 oh (aLoad false true 2 t41 s) fun t42 s =>
 oh (sto (aStore 2 s (e 2) t42)) fun _r s =>
 fin1 ((aLoad false true 2 (e 2) s).map (·.1)) s))
noncomputable def F105 (D:Den)(n:Nat)(t0:AV)(s:Heap):Ans :=
 oh (aAlloc Tryz.prog 80 s) fun t2 s =>
 oh (some (t0.strip,s)) fun t4 s =>
 oh (mp (aNilCheck t4) s) fun t5 s =>
 oh (mp (aAddr 1 t5) s) fun t6 s =>
 oh (aLoad false false 1 t6 s) fun t7 s =>
 oh (some (t7,s)) fun t3 s =>
 aLoop (F105_L0 D n) n (upds (argEnv [t0]) [(2,t2),(4,t4),(5,t5),(6,t6),(7,t7),(7,t7.strip),(3,t3)]) s
theorem F105_eq (n:Nat)(t0:AV)(s:Heap):den C (n+1) 105 [t0] s=F105 (den C n) n t0 s :=
 (den_body rfl Tryz.func105 _ _).trans (by kernel_rfl)
theorem en105:enterable Tryz.prog 105=true:=by kernel_rfl
-- (*parser.parser).at
noncomputable def F106 (D:Den)(n:Nat)(t0 t1:AV)(s:Heap):Ans :=
 oh (some ((.bool false),s)) fun t4 s =>
 oh (some (t0.strip,s)) fun t6 s =>
 oh (aCall Tryz.prog D 105 [t6.strip] s) fun t7 s =>
 oh (aAlloc Tryz.prog 80 s) fun t5 s =>
 oh (sto (aStore 2 s t5 t7)) fun _r s =>
 oh (mp (aAddr 0 t5) s) fun t8 s =>
 oh (aLoad false false 1 t8 s) fun t9 s =>
 oh (mp (aBin Tryz.prog .eql 3 t9 (.int .i64 104)) s) fun t10 s =>
 oh (some (t10.strip,s)) fun t11 s =>
 oh (gd (wA t11 false) s (mp (aAddr 0 t5) s)) fun t12 s =>
 oh (gd (wA t11 false) s (aLoad false false 1 t12 s)) fun t13 s =>
 oh (gd (wA t11 false) s (mp (aBin Tryz.prog .eql 3 t13 (.int .i64 107)) s)) fun t14 s =>
 oh (mp (aPick t11 (.bool true) t14) s) fun t15 s =>
 oh (some (t15.strip,s)) fun t16 s =>
 oh (gd (wA t16 true) s (some (t1.strip,s))) fun t17 s =>
 oh (gd (wA t16 true) s (mp (aAddr 1 t5) s)) fun t18 s =>
 oh (gd (wA t16 true) s (aLoad false false 1 t18 s)) fun t19 s =>
 oh (gd (wA t16 true) s (aCall Tryz.prog D 168 [t17.strip,t19.strip] s)) fun t20 s =>
 oh (mp (aPick t16 t20 (.bool false)) s) fun t21 s =>
 oh (some (t21,s)) fun t4_2 s =>
 some (t4_2,s)
theorem F106_eq (n:Nat)(t0 t1:AV)(s:Heap):den C (n+1) 106 [t0,t1] s=F106 (den C n) n t0 t1 s :=
 (den_body rfl Tryz.func106 _ _).trans (by kernel_rfl)
theorem en106:enterable Tryz.prog 106=true:=by kernel_rfl
-- (*parser.parser).lookahead
noncomputable def F107 (D:Den)(n:Nat)(t0:AV)(s:Heap):Ans :=
 oh (some (.nilp,s)) fun t2 s =>
 oh (some (t0.strip,s)) fun t4 s =>
 oh (mp (aNilCheck t4) s) fun t5 s =>
 oh (mp (aAddr 0 t5) s) fun t6 s =>
 oh (aLoad false false 1 t6 s) fun t7 s =>
 oh (some (t0.strip,s)) fun t8 s =>
 oh (mp (aNilCheck t8) s) fun t9 s =>
 oh (mp (aAddr 1 t9) s) fun t10 s =>
 oh (aLoad false false 1 t10 s) fun t11 s =>
 oh (mp (aBuild Tryz.prog 52 []) s) fun t12 s =>
 oh (aRsBuild Tryz.prog 50 1 [(0,t12)] s) fun t13 s =>
 oh (mp (aBuild Tryz.prog 128 [(0,t7),(1,t11),(2,t13)]) s) fun t14 s =>
 oh (aBox true 128 t14 s) fun t15 s =>
 oh (some (t15,s)) fun t3 s =>
 drawOK C 107 (regOps Tryz.f107 1) [.silent,.silent,.silent,(kLoad false t6),.silent,.silent,.silent,(kLoad false t10),.silent,.alloc,.silent,.writer,.silent] <|
 oh (some (t3.strip,s)) fun t16 s =>
 oh (aCall Tryz.prog D 113 [t16.strip] s) fun t17 s =>
 oh (some (t3.strip,s)) fun t18 s =>
 oh (some (t18,s)) fun t2_2 s =>
 some (t2_2,s)
theorem F107_eq (n:Nat)(t0:AV)(s:Heap):den C (n+1) 107 [t0] s=F107 (den C n) n t0 s :=
 (den_body rfl Tryz.func107 _ _).trans (by kernel_rfl)
theorem d107_1 {g0 g1:Nat}(x:Ans):drawOK C 107 (regOps Tryz.f107 1) [.silent,.silent,.silent,.get g0,.silent,.silent,.silent,.get g1,.silent,.alloc,.silent,.writer,.silent] x=x:=drawOK_base (by kernel_rfl)
theorem en107:enterable Tryz.prog 107=true:=by kernel_rfl
-- parser.itemKind
noncomputable def F108 (D:Den)(n:Nat)(t0:AV)(s:Heap):Ans :=
 oh (some ((.int .i64 0),s)) fun t2 s =>
 oh (aCall Tryz.prog D 174 [(.str [117,115,101,32,102,110,32,115,116,114,117,99,116,32,101,110,117,109,32,116,114,97,105,116,32,105,109,112,108,32,99,111,110,115,116,32,109,97,99,114,111])] s) fun t4 s =>
 oh (some (t0.strip,s)) fun t5 s =>
 oh (aCall Tryz.prog D 173 [t4.strip,t5.strip] s) fun t6 s =>
 oh (some (t6,s)) fun t3 s =>
 oh (some (t3.strip,s)) fun t7 s =>
 oh (mp (aBin Tryz.prog .lss 3 t7 (.int .i64 0)) s) fun t8 s =>
 br t8
  (oh (some ((.int .i64 0),s)) fun t2_2 s =>
 some (t2_2,s))
  (oh (some (t3.strip,s)) fun t9 s =>
 oh (mp (aBin Tryz.prog .add 3 (.int .i64 2) t9) s) fun t10 s =>
 oh (some (t10,s)) fun t2_3 s =>
 some (t2_3,s))
theorem F108_eq (n:Nat)(t0:AV)(s:Heap):den C (n+1) 108 [t0] s=F108 (den C n) n t0 s :=
 (den_body rfl Tryz.func108 _ _).trans (by kernel_rfl)
theorem en108:enterable Tryz.prog 108=true:=by kernel_rfl
-- (*parser.parser).skipToItem
noncomputable def F109 (D:Den)(n:Nat)(t0:AV)(s:Heap):Ans :=
 oh (aBox false 126 t0 s) fun t1 s =>
 oh (aLoad false false 1 t1 s) fun t2 s =>
 oh (some ((.fn 175 [] [t1]),s)) fun t3 s =>
 oh (aCall Tryz.prog D 110 [t2.strip,(.int .i64 46),t3.strip] s) fun t4 s =>
 some (.tup [],s)
theorem F109_eq (n:Nat)(t0:AV)(s:Heap):den C (n+1) 109 [t0] s=F109 (den C n) n t0 s :=
 (den_body rfl Tryz.func109 _ _).trans (by kernel_rfl)
theorem en109:enterable Tryz.prog 109=true:=by kernel_rfl
-- (*parser.parser).node
noncomputable def F110 (D:Den)(n:Nat)(t0 t1 t2:AV)(s:Heap):Ans :=
 oh (some (t0.strip,s)) fun t6 s1 =>
 oh (mp (aNilCheck t6) s1) fun t7 s2 =>
 oh (mp (aAddr 2 t7) s2) fun t8 s3 =>
 oh (aLoad false false 1 t8 s3) fun t9 s4 =>
 oh (some (t1.strip,s4)) fun t10 s5 =>
 oh (mp (aBuild Tryz.prog 52 [(0,t10)]) s5) fun t11 s6 =>
 oh (mp (aLen Tryz.prog 50 t9) s6) fun t12 s7 =>
 oh (mp (aBuildSlice Tryz.prog 50 1 [(0,(.agg [(.int .i64 0),(.str []),.nils]))]) s7) fun t13 s8 =>
 oh (aRsAppend Tryz.prog 50 50 t9 t13 s8) fun t14 s9 =>
 oh (mp (aIndexAddr Tryz.prog 50 t14 t12) s9) fun t15 s10 =>
 oh (sto (aStore 3 s10 t15 t11)) fun _r s11 =>
 oh (mp (aNilCheck t6) s11) fun t16 s12 =>
 oh (mp (aAddr 2 t16) s12) fun t17 s13 =>
 oh (sto (aStore 1 s13 t17 t14.strip)) fun _r s14 =>
 drawOK C 110 (regOps Tryz.f110 0) [.silent,.silent,.silent,(kLoad false t8),.silent,.silent,.silent,.silent,(dyn (appK t9) s8 s9),.silent,(kStore t15),.silent,.silent,(kStore t17)] <|
 oh (some (t2.strip,s14)) fun t18 s =>
 oh (aCallV Tryz.prog D t18 [] s) fun t19 s =>
 oh (some (t0.strip,s)) fun t20 s =>
 oh (aCall Tryz.prog D 177 [t20.strip] s) fun t21 s =>
 some (.tup [],s)
theorem F110_eq (n:Nat)(t0 t1 t2:AV)(s:Heap):den C (n+1) 110 [t0,t1,t2] s=F110 (den C n) n t0 t1 t2 s :=
 (den_body rfl Tryz.func110 _ _).trans (by kernel_rfl)
theorem d110_0 {g0:Nat}{q0:Option Nat}(a b:Nat)(h:a≠b)(x:Ans):drawOK C 110 (regOps Tryz.f110 0) [.silent,.silent,.silent,.get g0,.silent,.silent,.silent,.silent,.app q0,.silent,.put a,.silent,.silent,.put b] x=x:=drawOK_both (ks0:=[.silent,.silent,.silent,.reader,.silent,.silent,.silent,.silent,.writer,.silent,.put 0,.silent,.silent,.put 1]) h (by kernel_rfl) rfl
theorem en110:enterable Tryz.prog 110=true:=by kernel_rfl
-- (*parser.parser).item 1
noncomputable def F111 (D:Den)(n:Nat)(t0 t1:AV)(s:Heap):Ans :=
 oh (aLoad false false 1 t0 s) fun t2 s =>
 oh (mp (aBuildSlice Tryz.prog 215 1 [(0,(.str [112,117,98]))]) s) fun t3 s =>
 oh (aCall Tryz.prog D 112 [t2.strip,t3.strip] s) fun t4 s =>
 oh (aLoad false false 1 t0 s) fun t5 s =>
 oh (aCall Tryz.prog D 113 [t5.strip] s) fun t6 s =>
 oh (aLoad false false 1 t0 s) fun t7 s =>
 oh (aLoad false false 1 t1 s) fun t8 s =>
 oh (aCall Tryz.prog D 114 [t7.strip,t8.strip] s) fun t9 s =>
 some (.tup [],s)
theorem F111_eq (n:Nat)(t0 t1:AV)(s:Heap):den C (n+1) 111 [t0,t1] s=F111 (den C n) n t0 t1 s :=
 (den_body rfl Tryz.func111 _ _).trans (by kernel_rfl)
theorem en111:enterable Tryz.prog 111=true:=by kernel_rfl
-- (*parser.parser).accept
noncomputable def F112 (D:Den)(n:Nat)(t0 t1:AV)(s:Heap):Ans :=
 oh (some ((.bool false),s)) fun t4 s =>
 oh (some (t0.strip,s)) fun t5 s =>
 oh (some (t1.strip,s)) fun t6 s =>
 oh (aCall Tryz.prog D 106 [t5.strip,t6.strip] s) fun t7 s =>
 br t7
  (oh (some (t0.strip,s)) fun t8 s =>
 oh (aCall Tryz.prog D 113 [t8.strip] s) fun t9 s =>
 oh (some ((.bool true),s)) fun t4_2 s =>
 some (t4_2,s))
  (oh (some ((.bool false),s)) fun t4_3 s =>
 some (t4_3,s))
theorem F112_eq (n:Nat)(t0 t1:AV)(s:Heap):den C (n+1) 112 [t0,t1] s=F112 (den C n) n t0 t1 s :=
 (den_body rfl Tryz.func112 _ _).trans (by kernel_rfl)
theorem en112:enterable Tryz.prog 112=true:=by kernel_rfl
-- (*parser.parser).bump
noncomputable def F113 (D:Den)(n:Nat)(t0:AV)(s:Heap):Ans :=
 oh (some (t0.strip,s)) fun t2 s =>
 oh (aCall Tryz.prog D 61 [t2.strip] s) fun t3 s =>
 oh (some (t0.strip,s)) fun t4 s =>
 oh (mp (aNilCheck t4) s) fun t5 s =>
 oh (mp (aAddr 1 t5) s) fun t6 s =>
 oh (aLoad false false 1 t6 s) fun t7 s =>
 oh (some (t0.strip,s)) fun t8 s =>
 oh (mp (aNilCheck t8) s) fun t9 s =>
 oh (mp (aAddr 0 t9) s) fun t10 s =>
 oh (aLoad false false 1 t10 s) fun t11 s =>
 oh (mp (aLen Tryz.prog 74 t11) s) fun t12 s =>
 oh (mp (aBin Tryz.prog .lss 3 t7 t12) s) fun t13 s =>
 drawOK C 113 (regOps Tryz.f113 1) [.silent,.silent,.silent,(kLoad false t6),.silent,.silent,.silent,(kLoad false t10),.silent,.silent] <|
 br t13
  (oh (some (t0.strip,s)) fun t14 s =>
 oh (aCall Tryz.prog D 116 [t14.strip] s) fun t15 s =>
 some (.tup [],s))
  (some (.tup [],s))
theorem F113_eq (n:Nat)(t0:AV)(s:Heap):den C (n+1) 113 [t0] s=F113 (den C n) n t0 s :=
 (den_body rfl Tryz.func113 _ _).trans (by kernel_rfl)
theorem d113_1 {g0 g1:Nat}(x:Ans):drawOK C 113 (regOps Tryz.f113 1) [.silent,.silent,.silent,.get g0,.silent,.silent,.silent,.get g1,.silent,.silent] x=x:=drawOK_base (by kernel_rfl)
theorem en113:enterable Tryz.prog 113=true:=by kernel_rfl
-- (*parser.parser).itemBody
noncomputable def F114_J2 (D:Den)(n:Nat)(e:Env)(s:Heap):Ans :=
 br (e 13)
  (oh (some ((e 0).strip,s)) fun t16 s =>
 oh (some ((e 1).strip,s)) fun t17 s =>
 oh (aCall Tryz.prog D 180 [t16.strip,t17.strip] s) fun t18 s =>
 some (.tup [],s))
  (oh (mp (aBin Tryz.prog .eql 3 (e 4) (.int .i64 6)) s) fun t20 s =>
 oh (some (t20,s)) fun t19 s =>
 br t19
  (oh (some ((e 0).strip,s)) fun t21 s =>
 oh (aCall Tryz.prog D 181 [t21.strip] s) fun t22 s =>
 oh (some ((e 0).strip,s)) fun t23 s =>
 oh (aCall Tryz.prog D 182 [t23.strip] s) fun t24 s =>
 some (.tup [],s))
  (oh (mp (aBin Tryz.prog .eql 3 (e 4) (.int .i64 7)) s) fun t26 s =>
 oh (some (t26,s)) fun t25 s =>
 br t25
  (oh (some ((e 0).strip,s)) fun t27 s =>
 oh (aCall Tryz.prog D 183 [t27.strip] s) fun t28 s =>
 some (.tup [],s))
  (oh (mp (aBin Tryz.prog .eql 3 (e 4) (.int .i64 8)) s) fun t30 s =>
 oh (some (t30,s)) fun t29 s =>
 br t29
  (oh (some ((e 0).strip,s)) fun t31 s =>
 oh (aCall Tryz.prog D 181 [t31.strip] s) fun t32 s =>
 oh (some ((e 0).strip,s)) fun t33 s =>
 oh (aCall Tryz.prog D 184 [t33.strip,(.str [58])] s) fun t34 s =>
 oh (some ((e 0).strip,s)) fun t35 s =>
 oh (aCall Tryz.prog D 185 [t35.strip] s) fun t36 s =>
 oh (some ((e 0).strip,s)) fun t37 s =>
 oh (aCall Tryz.prog D 184 [t37.strip,(.str [61])] s) fun t38 s =>
 oh (some ((e 0).strip,s)) fun t39 s =>
 oh (aCall Tryz.prog D 186 [t39.strip] s) fun t40 s =>
 oh (some ((e 0).strip,s)) fun t41 s =>
 oh (aCall Tryz.prog D 184 [t41.strip,(.str [59])] s) fun t42 s =>
 some (.tup [],s))
  (oh (mp (aBin Tryz.prog .eql 3 (e 4) (.int .i64 9)) s) fun t44 s =>
 oh (some (t44,s)) fun t43 s =>
 br t43
  (oh (some ((e 0).strip,s)) fun t45 s =>
 oh (aCall Tryz.prog D 181 [t45.strip] s) fun t46 s =>
 oh (some ((e 0).strip,s)) fun t47 s =>
 oh (aCall Tryz.prog D 184 [t47.strip,(.str [40])] s) fun t48 s =>
 oh (some ((e 0).strip,s)) fun t49 s =>
 oh (aCall Tryz.prog D 187 [t49.strip,(.str [41])] s) fun t50 s =>
 oh (some ((e 0).strip,s)) fun t51 s =>
 oh (aCall Tryz.prog D 184 [t51.strip,(.str [61])] s) fun t52 s =>
 oh (some ((e 0).strip,s)) fun t53 s =>
 oh (aCall Tryz.prog D 186 [t53.strip] s) fun t54 s =>
 oh (some ((e 0).strip,s)) fun t55 s =>
 oh (aCall Tryz.prog D 184 [t55.strip,(.str [59])] s) fun t56 s =>
 some (.tup [],s))
  (some (.tup [],s))))))
noncomputable def F114 (D:Den)(n:Nat)(t0 t1:AV)(s:Heap):Ans :=
 oh (some (t1.strip,s)) fun t4 s =>
 oh (mp (aBin Tryz.prog .eql 3 t4 (.int .i64 2)) s) fun t6 s =>
 oh (some (t6,s)) fun t5 s =>
 br t5
  (oh (some (t0.strip,s)) fun t7 s =>
 oh (aCall Tryz.prog D 178 [t7.strip] s) fun t8 s =>
 some (.tup [],s))
  (oh (mp (aBin Tryz.prog .eql 3 t4 (.int .i64 3)) s) fun t10 s =>
 oh (some (t10,s)) fun t9 s =>
 br t9
  (oh (some (t0.strip,s)) fun t11 s =>
 oh (aCall Tryz.prog D 179 [t11.strip,(.bool true)] s) fun t12 s =>
 some (.tup [],s))
  (oh (mp (aBin Tryz.prog .eql 3 t4 (.int .i64 4)) s) fun t14 s =>
 oh (some (t14,s)) fun t13 s =>
 br t13
  (F114_J2 D n (upds (argEnv [t0,t1]) [(4,t4),(6,t6),(6,t6.strip),(5,t5),(10,t10),(10,t10.strip),(9,t9),(14,t14),(14,t14.strip),(13,t13)]) s)
  (oh (mp (aBin Tryz.prog .eql 3 t4 (.int .i64 5)) s) fun t15 s =>
 oh (some (t15,s)) fun t13_2 s =>
 F114_J2 D n (upds (argEnv [t0,t1]) [(4,t4),(6,t6),(6,t6.strip),(5,t5),(10,t10),(10,t10.strip),(9,t9),(14,t14),(14,t14.strip),(13,t13),(15,t15),(15,t15.strip),(13,t13_2)]) s)))
theorem F114_eq (n:Nat)(t0 t1:AV)(s:Heap):den C (n+1) 114 [t0,t1] s=F114 (den C n) n t0 t1 s :=
 (den_body rfl Tryz.func114 _ _).trans (by kernel_rfl)
theorem en114:enterable Tryz.prog 114=true:=by kernel_rfl
-- parser.isTrivia
noncomputable def F115 (D:Den)(n:Nat)(t0:AV)(s:Heap):Ans :=
 oh (some ((.bool false),s)) fun t2 s =>
 oh (some (t0.strip,s)) fun t3 s =>
 oh (mp (aBin Tryz.prog .eql 3 t3 (.int .i64 101)) s) fun t4 s =>
 oh (some (t4.strip,s)) fun t5 s =>
 oh (gd (wA t5 false) s (some (t0.strip,s))) fun t6 s =>
 oh (gd (wA t5 false) s (mp (aBin Tryz.prog .eql 3 t6 (.int .i64 102)) s)) fun t7 s =>
 oh (mp (aPick t5 (.bool true) t7) s) fun t8 s =>
 oh (some (t8,s)) fun t2_2 s =>
 some (t2_2,s)
theorem F115_eq (n:Nat)(t0:AV)(s:Heap):den C (n+1) 115 [t0] s=F115 (den C n) n t0 s :=
 (den_body rfl Tryz.func115 _ _).trans (by kernel_rfl)
theorem en115:enterable Tryz.prog 115=true:=by kernel_rfl
-- (*parser.parser).addToken
noncomputable def F116 (D:Den)(n:Nat)(t0:AV)(s:Heap):Ans :=
 oh (some (t0.strip,s)) fun t2 s1 =>
 oh (some (t0.strip,s1)) fun t3 s2 =>
 oh (mp (aNilCheck t3) s2) fun t4 s3 =>
 oh (mp (aAddr 0 t4) s3) fun t5 s4 =>
 oh (aLoad false false 1 t5 s4) fun t6 s5 =>
 oh (some (t0.strip,s5)) fun t7 s6 =>
 oh (mp (aNilCheck t7) s6) fun t8 s7 =>
 oh (mp (aAddr 1 t8) s7) fun t9 s8 =>
 oh (aLoad false false 1 t9 s8) fun t10 s9 =>
 oh (mp (aIndexAddr Tryz.prog 74 t6 t10) s9) fun t11 s10 =>
 oh (mp (aAddr 0 t11) s10) fun t12 s11 =>
 oh (aLoad false false 1 t12 s11) fun t13 s12 =>
 oh (some (t0.strip,s12)) fun t14 s13 =>
 oh (mp (aNilCheck t14) s13) fun t15 s14 =>
 oh (mp (aAddr 0 t15) s14) fun t16 s15 =>
 oh (aLoad false false 1 t16 s15) fun t17 s16 =>
 oh (some (t0.strip,s16)) fun t18 s17 =>
 oh (mp (aNilCheck t18) s17) fun t19 s18 =>
 oh (mp (aAddr 1 t19) s18) fun t20 s19 =>
 oh (aLoad false false 1 t20 s19) fun t21 s20 =>
 oh (mp (aIndexAddr Tryz.prog 74 t17 t21) s20) fun t22 s21 =>
 oh (mp (aAddr 1 t22) s21) fun t23 s22 =>
 oh (aLoad false false 1 t23 s22) fun t24 s23 =>
 oh (mp (aBuild Tryz.prog 52 [(0,t13),(1,t24)]) s23) fun t25 s24 =>
 oh (aCall Tryz.prog D 188 [t2.strip,t25.strip] s24) fun t26 s25 =>
 drawOK C 116 (regOps Tryz.f116 0) [.silent,.silent,.silent,.silent,(kLoad false t5),.silent,.silent,.silent,(kLoad false t9),.silent,.silent,(kLoad false t12),.silent,.silent,.silent,(kLoad false t16),.silent,.silent,.silent,(kLoad false t20),.silent,.silent,(kLoad false t23),.silent,(dyn (kCall [t2.strip,t25.strip]) s24 s25)] <|
 oh (some (t0.strip,s25)) fun t27 s =>
 oh (mp (aNilCheck t27) s) fun t28 s =>
 oh (mp (aAddr 1 t28) s) fun t29 s =>
 oh (aLoad false false 1 t29 s) fun t30 s =>
 oh (mp (aBin Tryz.prog .add 3 t30 (.int .i64 1)) s) fun t31 s =>
 oh (mp (aNilCheck t27) s) fun t32 s =>
 oh (mp (aAddr 1 t32) s) fun t33 s =>
 oh (sto (aStore 1 s t33 t31)) fun _r s =>
 some (.tup [],s)
theorem F116_eq (n:Nat)(t0:AV)(s:Heap):den C (n+1) 116 [t0] s=F116 (den C n) n t0 s :=
 (den_body rfl Tryz.func116 _ _).trans (by kernel_rfl)
theorem d116_0 {g0 g1 g2 g3:Nat}{l0:List Nat}(x:Ans):drawOK C 116 (regOps Tryz.f116 0) [.silent,.silent,.silent,.silent,.get g0,.silent,.silent,.silent,.get g1,.silent,.silent,.silent,.silent,.silent,.silent,.get g2,.silent,.silent,.silent,.get g3,.silent,.silent,.silent,.silent,.call l0] x=x:=drawOK_base (by kernel_rfl)
theorem en116:enterable Tryz.prog 116=true:=by kernel_rfl
-- (*parser.parser).skipToItem 1
noncomputable def F175_L0 (D:Den)(n:Nat)(k0:Env→Heap→Ans)(e:Env)(s:Heap):Ans :=
 oh (aLoad false false 1 (e 0) s) fun t3 s1 =>
 oh (aCall Tryz.prog D 59 [t3.strip] s1) fun t4 s2 =>
 oh (mp (aUn .not t4) s2) fun t5 s3 =>
 oh (some (t5.strip,s3)) fun t6 s4 =>
 oh (gd (wA t6 true) s4 (aLoad false false 1 (e 0) s4)) fun t7 s5 =>
 oh (gd (wA t6 true) s5 (aCall Tryz.prog D 176 [] s5)) fun t8 s6 =>
 oh (gd (wA t6 true) s6 (aCall Tryz.prog D 106 [t7.strip,t8.strip] s6)) fun t9 s7 =>
 oh (gd (wA t6 true) s7 (mp (aUn .not t9) s7)) fun t10 s8 =>
 oh (mp (aPick t6 t10 (.bool false)) s8) fun t11 s9 =>
 drawOK C 175 (regOps Tryz.f175 1) [(kLoad false (e 0)),(dyn (kCall [t3.strip]) s1 s2),.silent,.silent,(kGd (wA t6 true) (kLoad false (e 0))),(kGd (wA t6 true) (dyn (kCall []) s5 s6)),(kGd (wA t6 true) (dyn (kCall [t7.strip,t8.strip]) s6 s7)),(kGd (wA t6 true) .silent),.silent] <|
 br t11
  (oh (aLoad false false 1 (e 0) s9) fun t12 s =>
 oh (aCall Tryz.prog D 113 [t12.strip] s) fun t13 s =>
 k0 (upds e [(3,t3),(4,t4),(5,t5),(6,t6),(7,t7),(8,t8),(9,t9),(10,t10),(11,t11),(12,t12),(13,t13)]) s)
  (some (.tup [],s9))
noncomputable def F175 (D:Den)(n:Nat)(t0:AV)(s:Heap):Ans :=
 oh (aLoad false false 1 t0 s) fun t1 s =>
 oh (aCall Tryz.prog D 113 [t1.strip] s) fun t2 s =>
 aLoop (F175_L0 D n) n (upds (argEnv [t0]) [(1,t1),(2,t2)]) s
theorem F175_eq (n:Nat)(t0:AV)(s:Heap):den C (n+1) 175 [t0] s=F175 (den C n) n t0 s :=
 (den_body rfl Tryz.func175 _ _).trans (by kernel_rfl)
theorem d175_1 {l0 l1:List Nat}(x:Ans):drawOK C 175 (regOps Tryz.f175 1) [.silent,.call l0,.silent,.silent,.silent,.silent,.call l1,.silent,.silent] x=x:=drawOK_base (by kernel_rfl)
theorem en175:enterable Tryz.prog 175=true:=by kernel_rfl
-- parser.itemKeywords
noncomputable def F176 (D:Den)(n:Nat)(s:Heap):Ans :=
 oh (some (.nils,s)) fun t0 s =>
 oh (aCall Tryz.prog D 174 [(.str [117,115,101,32,112,117,98,32,102,110,32,115,116,114,117,99,116,32,101,110,117,109,32,116,114,97,105,116,32,105,109,112,108,32,99,111,110,115,116,32,109,97,99,114,111])] s) fun t1 s =>
 oh (some (t1,s)) fun t0_2 s =>
 some (t0_2,s)
theorem F176_eq (n:Nat)(s:Heap):den C (n+1) 176 [] s=F176 (den C n) n s :=
 (den_body rfl Tryz.func176 _ _).trans (by kernel_rfl)
theorem en176:enterable Tryz.prog 176=true:=by kernel_rfl
-- (*parser.parser).finish
noncomputable def F177 (D:Den)(n:Nat)(t0:AV)(s:Heap):Ans :=
 oh (some (t0.strip,s)) fun t4 s =>
 oh (mp (aNilCheck t4) s) fun t5 s =>
 oh (mp (aAddr 2 t5) s) fun t6 s =>
 oh (aLoad false false 1 t6 s) fun t7 s =>
 oh (mp (aLen Tryz.prog 50 t7) s) fun t8 s =>
 oh (mp (aBin Tryz.prog .sub 3 t8 (.int .i64 1)) s) fun t9 s =>
 oh (some (t9,s)) fun t2 s =>
 oh (some (t0.strip,s)) fun t10 s =>
 oh (mp (aNilCheck t10) s) fun t11 s =>
 oh (mp (aAddr 2 t11) s) fun t12 s =>
 oh (aLoad false false 1 t12 s) fun t13 s =>
 oh (some (t2.strip,s)) fun t14 s =>
 oh (mp (aIndexAddr Tryz.prog 50 t13 t14) s) fun t15 s =>
 oh (pubR (aLoad false true 3 t15 s)) fun t16 s =>
 oh (aAlloc Tryz.prog 52 s) fun t3 s =>
 oh (sto (aStore 3 s t3 t16.strip)) fun _r s =>
 oh (some (t0.strip,s)) fun t17 s =>
 oh (some (t0.strip,s)) fun t18 s =>
 oh (mp (aNilCheck t18) s) fun t19 s =>
 oh (mp (aAddr 2 t19) s) fun t20 s =>
 oh (aLoad false false 1 t20 s) fun t21 s =>
 oh (some (t2.strip,s)) fun t22 s =>
 oh (mp (aSl Tryz.prog 50 t21 none (some t22) none) s) fun t23 s =>
 oh (mp (aNilCheck t17) s) fun t24 s =>
 oh (mp (aAddr 2 t24) s) fun t25 s =>
 oh (sto (aStore 1 s t25 t23)) fun _r s =>
 oh (some (t0.strip,s)) fun t26 s =>
 oh (aLoad false true 3 t3 s) fun t27 s =>
 oh (aCall Tryz.prog D 188 [t26.strip,t27.strip] s) fun t28 s =>
 some (.tup [],s)
theorem F177_eq (n:Nat)(t0:AV)(s:Heap):den C (n+1) 177 [t0] s=F177 (den C n) n t0 s :=
 (den_body rfl Tryz.func177 _ _).trans (by kernel_rfl)
theorem en177:enterable Tryz.prog 177=true:=by kernel_rfl
-- (*parser.parser).use
noncomputable def F178_J0 (D:Den)(n:Nat)(e:Env)(s:Heap):Ans :=
 oh (aLoad false false 1 (e 1) s) fun t18 s =>
 oh (aCall Tryz.prog D 184 [t18.strip,(.str [59])] s) fun t19 s =>
 some (.tup [],s)
noncomputable def F178 (D:Den)(n:Nat)(t0:AV)(s:Heap):Ans :=
 oh (aBox false 126 t0 s) fun t1 s =>
 oh (aAlloc Tryz.prog 4 s) fun t2 s =>
 oh (sto (aStore 1 s t2 (.bool false))) fun _r s =>
 oh (aLoad false false 1 t1 s) fun t3 s =>
 oh (some ((.fn 223 [] [t1,t2]),s)) fun t4 s =>
 oh (aCall Tryz.prog D 110 [t3.strip,(.int .i64 17),t4.strip] s) fun t5 s =>
 oh (aLoad false false 1 t2 s) fun t7 s =>
 oh (some (t7,s)) fun t6 s =>
 br t6
  (oh (aLoad false false 1 t1 s) fun t8 s =>
 oh (aCall Tryz.prog D 113 [t8.strip] s) fun t9 s =>
 oh (aLoad false false 1 t1 s) fun t10 s =>
 oh (aCall Tryz.prog D 113 [t10.strip] s) fun t11 s =>
 F178_J0 D n (upds (argEnv [t0]) [(1,t1),(2,t2),(3,t3),(4,t4),(5,t5),(7,t7),(7,t7.strip),(6,t6),(8,t8),(9,t9),(10,t10),(11,t11)]) s)
  (oh (aLoad false false 1 t1 s) fun t13 s =>
 oh (mp (aBuildSlice Tryz.prog 215 1 [(0,(.str [97,115]))]) s) fun t14 s =>
 oh (aCall Tryz.prog D 112 [t13.strip,t14.strip] s) fun t15 s =>
 oh (some (t15,s)) fun t12 s =>
 br t12
  (oh (aLoad false false 1 t1 s) fun t16 s =>
 oh (aCall Tryz.prog D 181 [t16.strip] s) fun t17 s =>
 F178_J0 D n (upds (argEnv [t0]) [(1,t1),(2,t2),(3,t3),(4,t4),(5,t5),(7,t7),(7,t7.strip),(6,t6),(13,t13),(14,t14),(15,t15),(15,t15.strip),(12,t12),(16,t16),(17,t17)]) s)
  (F178_J0 D n (upds (argEnv [t0]) [(1,t1),(2,t2),(3,t3),(4,t4),(5,t5),(7,t7),(7,t7.strip),(6,t6),(13,t13),(14,t14),(15,t15),(15,t15.strip),(12,t12)]) s))
theorem F178_eq (n:Nat)(t0:AV)(s:Heap):den C (n+1) 178 [t0] s=F178 (den C n) n t0 s :=
 (den_body rfl Tryz.func178 _ _).trans (by kernel_rfl)
theorem en178:enterable Tryz.prog 178=true:=by kernel_rfl
-- (*parser.parser).function
noncomputable def F179 (D:Den)(n:Nat)(t0 t1:AV)(s:Heap):Ans :=
 oh (some (t0.strip,s)) fun t4 s =>
 oh (aCall Tryz.prog D 181 [t4.strip] s) fun t5 s =>
 oh (some (t0.strip,s)) fun t6 s =>
 oh (aCall Tryz.prog D 224 [t6.strip] s) fun t7 s =>
 oh (some (t0.strip,s)) fun t8 s =>
 oh (aCall Tryz.prog D 184 [t8.strip,(.str [40])] s) fun t9 s =>
 oh (some (t0.strip,s)) fun t10 s =>
 oh (aCall Tryz.prog D 187 [t10.strip,(.str [41])] s) fun t11 s =>
 oh (some (t0.strip,s)) fun t12 s =>
 oh (some (t0.strip,s)) fun t13 s =>
 oh (some ((.fn 185 [t13] []),s)) fun t14 s =>
 oh (aCall Tryz.prog D 225 [t12.strip,(.str [45,62]),t14.strip] s) fun t15 s =>
 oh (some (t1.strip,s)) fun t16 s =>
 oh (mp (aUn .not t16) s) fun t17 s =>
 oh (some (t17.strip,s)) fun t18 s =>
 oh (gd (wA t18 true) s (some (t0.strip,s))) fun t19 s =>
 oh (gd (wA t18 true) s (mp (aBuildSlice Tryz.prog 215 1 [(0,(.str [59]))]) s)) fun t20 s =>
 oh (gd (wA t18 true) s (aCall Tryz.prog D 112 [t19.strip,t20.strip] s)) fun t21 s =>
 oh (mp (aPick t18 t21 (.bool false)) s) fun t22 s =>
 br t22
  (oh (some (t0.strip,s)) fun t23 s =>
 oh (aCall Tryz.prog D 226 [t23.strip] s) fun t24 s =>
 some (.tup [],s))
  (oh (some (t0.strip,s)) fun t25 s =>
 oh (aCall Tryz.prog D 227 [t25.strip] s) fun t26 s =>
 some (.tup [],s))
theorem F179_eq (n:Nat)(t0 t1:AV)(s:Heap):den C (n+1) 179 [t0,t1] s=F179 (den C n) n t0 t1 s :=
 (den_body rfl Tryz.func179 _ _).trans (by kernel_rfl)
theorem en179:enterable Tryz.prog 179=true:=by kernel_rfl
-- (*parser.parser).dataType
noncomputable def F180 (D:Den)(n:Nat)(t0 t1:AV)(s:Heap):Ans :=
 oh (aBox false 126 t0 s) fun t2 s =>
 oh (aBox false 3 t1 s) fun t3 s =>
 oh (aLoad false false 1 t2 s) fun t4 s =>
 oh (aCall Tryz.prog D 181 [t4.strip] s) fun t5 s =>
 oh (aLoad false false 1 t2 s) fun t6 s =>
 oh (aCall Tryz.prog D 224 [t6.strip] s) fun t7 s =>
 oh (aLoad false false 1 t2 s) fun t8 s =>
 oh (aCall Tryz.prog D 184 [t8.strip,(.str [123])] s) fun t9 s =>
 oh (aLoad false false 1 t2 s) fun t10 s =>
 oh (some ((.fn 229 [] [t2,t3]),s)) fun t11 s =>
 oh (aCall Tryz.prog D 228 [t10.strip,(.str [125]),t11.strip] s) fun t12 s =>
 some (.tup [],s)
theorem F180_eq (n:Nat)(t0 t1:AV)(s:Heap):den C (n+1) 180 [t0,t1] s=F180 (den C n) n t0 t1 s :=
 (den_body rfl Tryz.func180 _ _).trans (by kernel_rfl)
theorem en180:enterable Tryz.prog 180=true:=by kernel_rfl
-- (*parser.parser).expectIdent
noncomputable def F181 (D:Den)(n:Nat)(t0:AV)(s:Heap):Ans :=
 oh (some (t0.strip,s)) fun t2 s =>
 oh (aCall Tryz.prog D 230 [t2.strip] s) fun t3 s =>
 br t3
  (oh (some (t0.strip,s)) fun t4 s =>
 oh (aCall Tryz.prog D 113 [t4.strip] s) fun t5 s =>
 some (.tup [],s))
  (oh (some (t0.strip,s)) fun t6 s =>
 oh (aCall Tryz.prog D 233 [t6.strip] s) fun t7 s =>
 some (.tup [],s))
theorem F181_eq (n:Nat)(t0:AV)(s:Heap):den C (n+1) 181 [t0] s=F181 (den C n) n t0 s :=
 (den_body rfl Tryz.func181 _ _).trans (by kernel_rfl)
theorem en181:enterable Tryz.prog 181=true:=by kernel_rfl
-- (*parser.parser).members
noncomputable def F182_L0 (D:Den)(n:Nat)(k0:Env→Heap→Ans)(e:Env)(s:Heap):Ans :=
 oh (aLoad false false 1 (e 1) s) fun t4 s =>
 oh (mp (aBuildSlice Tryz.prog 215 2 [(0,(.str [116,121,112,101])),(1,(.str [102,110]))]) s) fun t5 s =>
 oh (aCall Tryz.prog D 106 [t4.strip,t5.strip] s) fun t6 s =>
 br t6
  (oh (aLoad false false 1 (e 1) s) fun t7 s =>
 oh (mp (aBuildSlice Tryz.prog 215 1 [(0,(.str [102,110]))]) s) fun t8 s =>
 oh (aCall Tryz.prog D 106 [t7.strip,t8.strip] s) fun t9 s =>
 br t9
  (oh (aLoad false false 1 (e 1) s) fun t10 s =>
 oh (some ((.fn 234 [] [(e 1)]),s)) fun t11 s =>
 oh (aCall Tryz.prog D 110 [t10.strip,(.int .i64 3),t11.strip] s) fun t12 s =>
 k0 (upds e [(4,t4),(5,t5),(6,t6),(7,t7),(8,t8),(9,t9),(10,t10),(11,t11),(12,t12)]) s)
  (oh (aLoad false false 1 (e 1) s) fun t13 s =>
 oh (some ((.fn 235 [] [(e 1)]),s)) fun t14 s =>
 oh (aCall Tryz.prog D 110 [t13.strip,(.int .i64 16),t14.strip] s) fun t15 s =>
 k0 (upds e [(4,t4),(5,t5),(6,t6),(7,t7),(8,t8),(9,t9),(13,t13),(14,t14),(15,t15)]) s))
  (oh (aLoad false false 1 (e 1) s) fun t16 s =>
 oh (aCall Tryz.prog D 184 [t16.strip,(.str [125])] s) fun t17 s =>
 some (.tup [],s))
noncomputable def F182 (D:Den)(n:Nat)(t0:AV)(s:Heap):Ans :=
 oh (aBox false 126 t0 s) fun t1 s =>
 oh (aLoad false false 1 t1 s) fun t2 s =>
 oh (aCall Tryz.prog D 184 [t2.strip,(.str [123])] s) fun t3 s =>
 aLoop (F182_L0 D n) n (upds (argEnv [t0]) [(1,t1),(2,t2),(3,t3)]) s
theorem F182_eq (n:Nat)(t0:AV)(s:Heap):den C (n+1) 182 [t0] s=F182 (den C n) n t0 s :=
 (den_body rfl Tryz.func182 _ _).trans (by kernel_rfl)
theorem en182:enterable Tryz.prog 182=true:=by kernel_rfl
-- (*parser.parser).impl
noncomputable def F183_J0 (D:Den)(n:Nat)(e:Env)(s:Heap):Ans :=
 oh (some ((e 0).strip,s)) fun t41 s =>
 oh (aCall Tryz.prog D 182 [t41.strip] s) fun t42 s =>
 some (.tup [],s)
noncomputable def F183 (D:Den)(n:Nat)(t0:AV)(s:Heap):Ans :=
 oh (some (t0.strip,s)) fun t4 s =>
 oh (aCall Tryz.prog D 224 [t4.strip] s) fun t5 s =>
 oh (some (t0.strip,s)) fun t6 s =>
 oh (aCall Tryz.prog D 185 [t6.strip] s) fun t7 s =>
 oh (some (t0.strip,s)) fun t8 s =>
 oh (mp (aBuildSlice Tryz.prog 215 1 [(0,(.str [102,111,114]))]) s) fun t9 s =>
 oh (aCall Tryz.prog D 112 [t8.strip,t9.strip] s) fun t10 s =>
 br t10
  (oh (some (t0.strip,s)) fun t11 s =>
 oh (aCall Tryz.prog D 185 [t11.strip] s) fun t12 s =>
 F183_J0 D n (upds (argEnv [t0]) [(4,t4),(5,t5),(6,t6),(7,t7),(8,t8),(9,t9),(10,t10),(11,t11),(12,t12)]) s)
  (oh (some (t0.strip,s)) fun t13 s =>
 oh (mp (aNilCheck t13) s) fun t14 s =>
 oh (mp (aAddr 2 t14) s) fun t15 s =>
 oh (aLoad false false 1 t15 s) fun t16 s =>
 oh (some (t0.strip,s)) fun t17 s =>
 oh (mp (aNilCheck t17) s) fun t18 s =>
 oh (mp (aAddr 2 t18) s) fun t19 s =>
 oh (aLoad false false 1 t19 s) fun t20 s =>
 oh (mp (aLen Tryz.prog 50 t20) s) fun t21 s =>
 oh (mp (aBin Tryz.prog .sub 3 t21 (.int .i64 1)) s) fun t22 s =>
 oh (mp (aIndexAddr Tryz.prog 50 t16 t22) s) fun t23 s =>
 oh (some (t23,s)) fun t2 s =>
 drawOK C 183 (regOps Tryz.f183 4) [.silent,.silent,.silent,(kLoad false t15),.silent,.silent,.silent,(kLoad false t19),.silent,.silent,.silent,.silent] <|
 oh (some (t2.strip,s)) fun t24 s =>
 oh (mp (aNilCheck t24) s) fun t25 s =>
 oh (mp (aAddr 2 t25) s) fun t26 s =>
 oh (aLoad false false 1 t26 s) fun t27 s =>
 oh (mp (aLen Tryz.prog 50 t27) s) fun t28 s =>
 oh (mp (aBin Tryz.prog .sub 3 t28 (.int .i64 1)) s) fun t29 s =>
 oh (some (t29,s)) fun t3 s =>
 oh (some (t2.strip,s)) fun t30 s =>
 oh (some (t2.strip,s)) fun t31 s =>
 oh (mp (aNilCheck t31) s) fun t32 s =>
 oh (mp (aAddr 2 t32) s) fun t33 s =>
 oh (aLoad false false 1 t33 s) fun t34 s =>
 oh (some (t3.strip,s)) fun t35 s =>
 oh (mp (aBuild Tryz.prog 52 [(0,(.int .i64 0))]) s) fun t36 s =>
 oh (mp (aBuildSlice Tryz.prog 50 1 [(0,t36)]) s) fun t37 s =>
 oh (aCall Tryz.prog D 236 [t34.strip,t35.strip,t37.strip] s) fun t38 s =>
 oh (mp (aNilCheck t30) s) fun t39 s =>
 oh (mp (aAddr 2 t39) s) fun t40 s =>
 oh (sto (aStore 1 s t40 t38)) fun _r s =>
 F183_J0 D n (upds (argEnv [t0]) [(4,t4),(5,t5),(6,t6),(7,t7),(8,t8),(9,t9),(10,t10),(13,t13),(14,t14),(15,t15),(16,t16),(17,t17),(18,t18),(19,t19),(20,t20),(21,t21),(22,t22),(23,t23),(23,t23.strip),(2,t2),(24,t24),(25,t25),(26,t26),(27,t27),(28,t28),(29,t29),(29,t29.strip),(3,t3),(30,t30),(31,t31),(32,t32),(33,t33),(34,t34),(35,t35),(36,t36),(37,t37),(38,t38),(39,t39),(40,t40),(38,t38.strip)]) s)
theorem F183_eq (n:Nat)(t0:AV)(s:Heap):den C (n+1) 183 [t0] s=F183 (den C n) n t0 s :=
 (den_body rfl Tryz.func183 _ _).trans (by kernel_rfl)
theorem d183_4 {g0 g1:Nat}(x:Ans):drawOK C 183 (regOps Tryz.f183 4) [.silent,.silent,.silent,.get g0,.silent,.silent,.silent,.get g1,.silent,.silent,.silent,.silent] x=x:=drawOK_base (by kernel_rfl)
theorem en183:enterable Tryz.prog 183=true:=by kernel_rfl
-- (*parser.parser).expect
noncomputable def F184 (D:Den)(n:Nat)(t0 t1:AV)(s:Heap):Ans :=
 oh (some (t0.strip,s)) fun t4 s =>
 oh (some (t1.strip,s)) fun t5 s =>
 oh (mp (aBuildSlice Tryz.prog 215 1 [(0,t5)]) s) fun t6 s =>
 oh (aCall Tryz.prog D 112 [t4.strip,t6.strip] s) fun t7 s =>
 oh (mp (aUn .not t7) s) fun t8 s =>
 br t8
  (oh (some (t0.strip,s)) fun t9 s =>
 oh (aCall Tryz.prog D 233 [t9.strip] s) fun t10 s =>
 some (.tup [],s))
  (some (.tup [],s))
theorem F184_eq (n:Nat)(t0 t1:AV)(s:Heap):den C (n+1) 184 [t0,t1] s=F184 (den C n) n t0 t1 s :=
 (den_body rfl Tryz.func184 _ _).trans (by kernel_rfl)
theorem en184:enterable Tryz.prog 184=true:=by kernel_rfl
-- (*parser.parser).typeExpr
noncomputable def F185 (D:Den)(n:Nat)(t0:AV)(s:Heap):Ans :=
 oh (aBox false 126 t0 s) fun t1 s =>
 oh (aLoad false false 1 t1 s) fun t5 s =>
 oh (mp (aBuildSlice Tryz.prog 215 1 [(0,(.str [38]))]) s) fun t6 s =>
 oh (aCall Tryz.prog D 106 [t5.strip,t6.strip] s) fun t7 s =>
 oh (some (t7,s)) fun t4 s =>
 br t4
  (oh (aLoad false false 1 t1 s) fun t8 s =>
 oh (some ((.fn 237 [] [t1]),s)) fun t9 s =>
 oh (aCall Tryz.prog D 110 [t8.strip,(.int .i64 19),t9.strip] s) fun t10 s =>
 some (.tup [],s))
  (oh (aLoad false false 1 t1 s) fun t12 s =>
 oh (mp (aBuildSlice Tryz.prog 215 1 [(0,(.str [102,110]))]) s) fun t13 s =>
 oh (aCall Tryz.prog D 106 [t12.strip,t13.strip] s) fun t14 s =>
 oh (some (t14,s)) fun t11 s =>
 br t11
  (oh (aLoad false false 1 t1 s) fun t15 s =>
 oh (some ((.fn 238 [] [t1]),s)) fun t16 s =>
 oh (aCall Tryz.prog D 110 [t15.strip,(.int .i64 20),t16.strip] s) fun t17 s =>
 some (.tup [],s))
  (oh (aLoad false false 1 t1 s) fun t19 s =>
 oh (aCall Tryz.prog D 230 [t19.strip] s) fun t20 s =>
 oh (some (t20,s)) fun t18 s =>
 br t18
  (oh (aLoad false false 1 t1 s) fun t21 s =>
 oh (aCall Tryz.prog D 239 [t21.strip,(.bool true)] s) fun t22 s =>
 some (.tup [],s))
  (oh (aLoad false false 1 t1 s) fun t2 s =>
 oh (aCall Tryz.prog D 240 [t2.strip] s) fun t3 s =>
 some (.tup [],s))))
theorem F185_eq (n:Nat)(t0:AV)(s:Heap):den C (n+1) 185 [t0] s=F185 (den C n) n t0 s :=
 (den_body rfl Tryz.func185 _ _).trans (by kernel_rfl)
theorem en185:enterable Tryz.prog 185=true:=by kernel_rfl
-- (*parser.parser).expr
noncomputable def F186 (D:Den)(n:Nat)(t0:AV)(s:Heap):Ans :=
 oh (some (t0.strip,s)) fun t2 s =>
 oh (aCall Tryz.prog D 241 [t2.strip,(.int .i64 0)] s) fun t3 s =>
 some (.tup [],s)
theorem F186_eq (n:Nat)(t0:AV)(s:Heap):den C (n+1) 186 [t0] s=F186 (den C n) n t0 s :=
 (den_body rfl Tryz.func186 _ _).trans (by kernel_rfl)
theorem en186:enterable Tryz.prog 186=true:=by kernel_rfl
-- (*parser.parser).params
noncomputable def F187 (D:Den)(n:Nat)(t0 t1:AV)(s:Heap):Ans :=
 oh (aBox false 126 t0 s) fun t2 s =>
 oh (aBox false 9 t1 s) fun t3 s =>
 oh (aLoad false false 1 t2 s) fun t4 s =>
 oh (some ((.fn 242 [] [t2,t3]),s)) fun t5 s =>
 oh (aCall Tryz.prog D 110 [t4.strip,(.int .i64 12),t5.strip] s) fun t6 s =>
 some (.tup [],s)
theorem F187_eq (n:Nat)(t0 t1:AV)(s:Heap):den C (n+1) 187 [t0,t1] s=F187 (den C n) n t0 t1 s :=
 (den_body rfl Tryz.func187 _ _).trans (by kernel_rfl)
theorem en187:enterable Tryz.prog 187=true:=by kernel_rfl
-- (*parser.parser).add
noncomputable def F188 (D:Den)(n:Nat)(t0 t1:AV)(s:Heap):Ans :=
 oh (aBox false 52 t1 s) fun t3 s =>
 oh (some (t0.strip,s)) fun t5 s =>
 oh (mp (aNilCheck t5) s) fun t6 s =>
 oh (mp (aAddr 2 t6) s) fun t7 s =>
 oh (aLoad false false 1 t7 s) fun t8 s =>
 oh (some (t0.strip,s)) fun t9 s =>
 oh (mp (aNilCheck t9) s) fun t10 s =>
 oh (mp (aAddr 2 t10) s) fun t11 s =>
 oh (aLoad false false 1 t11 s) fun t12 s =>
 oh (mp (aLen Tryz.prog 50 t12) s) fun t13 s =>
 oh (mp (aBin Tryz.prog .sub 3 t13 (.int .i64 1)) s) fun t14 s =>
 oh (mp (aIndexAddr Tryz.prog 50 t8 t14) s) fun t15 s =>
 oh (some (t15,s)) fun t4 s =>
 drawOK C 188 (regOps Tryz.f188 1) [.silent,.silent,.silent,(kLoad false t7),.silent,.silent,.silent,(kLoad false t11),.silent,.silent,.silent,.silent] <|
 oh (some (t4.strip,s)) fun t16 s1 =>
 oh (mp (aNilCheck t16) s1) fun t17 s2 =>
 oh (mp (aAddr 2 t17) s2) fun t18 s3 =>
 oh (aLoad false false 1 t18 s3) fun t19 s4 =>
 oh (aLoad false true 3 t3 s4) fun t20 s5 =>
 oh (mp (aLen Tryz.prog 50 t19) s5) fun t21 s6 =>
 oh (mp (aBuildSlice Tryz.prog 50 1 [(0,(.agg [(.int .i64 0),(.str []),.nils]))]) s6) fun t22 s7 =>
 oh (aRsAppend Tryz.prog 50 50 t19 t22 s7) fun t23 s8 =>
 oh (mp (aIndexAddr Tryz.prog 50 t23 t21) s8) fun t24 s9 =>
 oh (sto (aStore 3 s9 t24 t20)) fun _r s10 =>
 oh (mp (aNilCheck t16) s10) fun t25 s11 =>
 oh (mp (aAddr 2 t25) s11) fun t26 s12 =>
 oh (sto (aStore 1 s12 t26 t23.strip)) fun _r s13 =>
 drawOK C 188 (regOps Tryz.f188 2) [.silent,.silent,.silent,(kLoad false t18),(kLoad false t3),.silent,.silent,(dyn (appK t19) s7 s8),.silent,(kStore t24),.silent,.silent,(kStore t26)] <|
 some (.tup [],s13)
theorem F188_eq (n:Nat)(t0 t1:AV)(s:Heap):den C (n+1) 188 [t0,t1] s=F188 (den C n) n t0 t1 s :=
 (den_body rfl Tryz.func188 _ _).trans (by kernel_rfl)
theorem d188_1 {g0 g1:Nat}(x:Ans):drawOK C 188 (regOps Tryz.f188 1) [.silent,.silent,.silent,.get g0,.silent,.silent,.silent,.get g1,.silent,.silent,.silent,.silent] x=x:=drawOK_base (by kernel_rfl)
theorem d188_2 {g0:Nat}{q0:Option Nat}(a b:Nat)(h:a≠b)(x:Ans):drawOK C 188 (regOps Tryz.f188 2) [.silent,.silent,.silent,.get g0,.silent,.silent,.silent,.app q0,.silent,.put a,.silent,.silent,.put b] x=x:=drawOK_both (ks0:=[.silent,.silent,.silent,.reader,.silent,.silent,.silent,.writer,.silent,.put 0,.silent,.silent,.put 1]) h (by kernel_rfl) rfl
theorem en188:enterable Tryz.prog 188=true:=by kernel_rfl
-- (*parser.parser).use 1
noncomputable def F223_L0 (D:Den)(n:Nat)(k0:Env→Heap→Ans)(e:Env)(s:Heap):Ans :=
 oh (aLoad false false 1 (e 0) s) fun t6 s =>
 oh (mp (aBuildSlice Tryz.prog 215 1 [(0,(.str [58,58]))]) s) fun t7 s =>
 oh (aCall Tryz.prog D 106 [t6.strip,t7.strip] s) fun t8 s =>
 oh (some (t8.strip,s)) fun t9 s =>
 oh (gd (wA t9 true) s (aLoad false false 1 (e 1) s)) fun t10 s =>
 oh (gd (wA t9 true) s (mp (aUn .not t10) s)) fun t11 s =>
 oh (mp (aPick t9 t11 (.bool false)) s) fun t12 s =>
 br t12
  (oh (aLoad false false 1 (e 0) s) fun t13 s =>
 oh (aCall Tryz.prog D 107 [t13.strip] s) fun t14 s =>
 oh (mp (aBuildSlice Tryz.prog 215 1 [(0,(.str [42]))]) s) fun t15 s =>
 oh (aCall Tryz.prog D 106 [t14.strip,t15.strip] s) fun t16 s =>
 oh (sto (aStore 1 s (e 1) t16)) fun _r s =>
 oh (aLoad false false 1 (e 1) s) fun t17 s =>
 oh (mp (aUn .not t17) s) fun t18 s =>
 br t18
  (oh (aLoad false false 1 (e 0) s) fun t19 s =>
 oh (aCall Tryz.prog D 113 [t19.strip] s) fun t20 s =>
 oh (aLoad false false 1 (e 0) s) fun t21 s =>
 oh (aLoad false false 1 (e 0) s) fun t22 s =>
 oh (some ((.fn 181 [t22] []),s)) fun t23 s =>
 oh (aCall Tryz.prog D 110 [t21.strip,(.int .i64 18),t23.strip] s) fun t24 s =>
 k0 (upds e [(6,t6),(7,t7),(8,t8),(9,t9),(10,t10),(11,t11),(12,t12),(13,t13),(14,t14),(15,t15),(16,t16),(16,t16.strip),(17,t17),(18,t18),(19,t19),(20,t20),(21,t21),(22,t22),(23,t23),(24,t24)]) s)
  (k0 (upds e [(6,t6),(7,t7),(8,t8),(9,t9),(10,t10),(11,t11),(12,t12),(13,t13),(14,t14),(15,t15),(16,t16),(16,t16.strip),(17,t17),(18,t18)]) s))
  (some (.tup [],s))
noncomputable def F223 (D:Den)(n:Nat)(t0 t1:AV)(s:Heap):Ans :=
 oh (aLoad false false 1 t0 s) fun t2 s =>
 oh (aLoad false false 1 t0 s) fun t3 s =>
 oh (some ((.fn 181 [t3] []),s)) fun t4 s =>
 oh (aCall Tryz.prog D 110 [t2.strip,(.int .i64 18),t4.strip] s) fun t5 s =>
 aLoop (F223_L0 D n) n (upds (argEnv [t0,t1]) [(2,t2),(3,t3),(4,t4),(5,t5)]) s
theorem F223_eq (n:Nat)(t0 t1:AV)(s:Heap):den C (n+1) 223 [t0,t1] s=F223 (den C n) n t0 t1 s :=
 (den_body rfl Tryz.func223 _ _).trans (by kernel_rfl)
theorem en223:enterable Tryz.prog 223=true:=by kernel_rfl
-- (*parser.parser).typeParams
noncomputable def F224 (D:Den)(n:Nat)(t0:AV)(s:Heap):Ans :=
 oh (aBox false 126 t0 s) fun t1 s =>
 oh (aLoad false false 1 t1 s) fun t2 s =>
 oh (some ((.fn 275 [] [t1]),s)) fun t3 s =>
 oh (aCall Tryz.prog D 110 [t2.strip,(.int .i64 10),t3.strip] s) fun t4 s =>
 some (.tup [],s)
theorem F224_eq (n:Nat)(t0:AV)(s:Heap):den C (n+1) 224 [t0] s=F224 (den C n) n t0 s :=
 (den_body rfl Tryz.func224 _ _).trans (by kernel_rfl)
theorem en224:enterable Tryz.prog 224=true:=by kernel_rfl
-- (*parser.parser).optional
noncomputable def F225 (D:Den)(n:Nat)(t0 t1 t2:AV)(s:Heap):Ans :=
 oh (some (t0.strip,s)) fun t6 s =>
 oh (some (t1.strip,s)) fun t7 s =>
 oh (mp (aBuildSlice Tryz.prog 215 1 [(0,t7)]) s) fun t8 s =>
 oh (aCall Tryz.prog D 112 [t6.strip,t8.strip] s) fun t9 s =>
 br t9
  (oh (some (t2.strip,s)) fun t10 s =>
 oh (aCallV Tryz.prog D t10 [] s) fun t11 s =>
 some (.tup [],s))
  (oh (some (t0.strip,s)) fun t12 s =>
 oh (aCall Tryz.prog D 226 [t12.strip] s) fun t13 s =>
 some (.tup [],s))
theorem F225_eq (n:Nat)(t0 t1 t2:AV)(s:Heap):den C (n+1) 225 [t0,t1,t2] s=F225 (den C n) n t0 t1 t2 s :=
 (den_body rfl Tryz.func225 _ _).trans (by kernel_rfl)
theorem en225:enterable Tryz.prog 225=true:=by kernel_rfl
-- (*parser.parser).absent
noncomputable def F226 (D:Den)(n:Nat)(t0:AV)(s:Heap):Ans :=
 oh (some (t0.strip,s)) fun t2 s =>
 oh (mp (aBuild Tryz.prog 52 [(0,(.int .i64 0))]) s) fun t3 s =>
 oh (aCall Tryz.prog D 188 [t2.strip,t3.strip] s) fun t4 s =>
 some (.tup [],s)
theorem F226_eq (n:Nat)(t0:AV)(s:Heap):den C (n+1) 226 [t0] s=F226 (den C n) n t0 s :=
 (den_body rfl Tryz.func226 _ _).trans (by kernel_rfl)
theorem en226:enterable Tryz.prog 226=true:=by kernel_rfl
-- (*parser.parser).block
noncomputable def F227 (D:Den)(n:Nat)(t0:AV)(s:Heap):Ans :=
 oh (aBox false 126 t0 s) fun t1 s =>
 oh (aLoad false false 1 t1 s) fun t2 s =>
 oh (some ((.fn 277 [] [t1]),s)) fun t3 s =>
 oh (aCall Tryz.prog D 110 [t2.strip,(.int .i64 21),t3.strip] s) fun t4 s =>
 some (.tup [],s)
theorem F227_eq (n:Nat)(t0:AV)(s:Heap):den C (n+1) 227 [t0] s=F227 (den C n) n t0 s :=
 (den_body rfl Tryz.func227 _ _).trans (by kernel_rfl)
theorem en227:enterable Tryz.prog 227=true:=by kernel_rfl
-- (*parser.parser).list
noncomputable def F228_L0 (D:Den)(n:Nat)(k0:Env→Heap→Ans)(e:Env)(s:Heap):Ans :=
 oh (some ((e 0).strip,s)) fun t7 s =>
 oh (some ((e 1).strip,s)) fun t8 s =>
 oh (mp (aBuildSlice Tryz.prog 215 1 [(0,t8)]) s) fun t9 s =>
 oh (aCall Tryz.prog D 106 [t7.strip,t9.strip] s) fun t10 s =>
 oh (mp (aUn .not t10) s) fun t11 s =>
 oh (some (t11.strip,s)) fun t12 s =>
 oh (gd (wA t12 true) s (some ((e 0).strip,s))) fun t13 s =>
 oh (gd (wA t12 true) s (aCall Tryz.prog D 59 [t13.strip] s)) fun t14 s =>
 oh (gd (wA t12 true) s (mp (aUn .not t14) s)) fun t15 s =>
 oh (mp (aPick t12 t15 (.bool false)) s) fun t16 s =>
 oh (some (t16.strip,s)) fun t17 s =>
 oh (gd (wA t17 true) s (some ((e 0).strip,s))) fun t18 s =>
 oh (gd (wA t17 true) s (aCall Tryz.prog D 279 [t18.strip] s)) fun t19 s =>
 oh (gd (wA t17 true) s (mp (aUn .not t19) s)) fun t20 s =>
 oh (mp (aPick t17 t20 (.bool false)) s) fun t21 s =>
 br t21
  (oh (some ((e 0).strip,s)) fun t22 s =>
 oh (mp (aNilCheck t22) s) fun t23 s =>
 oh (mp (aAddr 1 t23) s) fun t24 s =>
 oh (aLoad false false 1 t24 s) fun t25 s =>
 oh (some (t25,s)) fun t6 s =>
 oh (some ((e 2).strip,s)) fun t26 s =>
 oh (aCallV Tryz.prog D t26 [] s) fun t27 s =>
 oh (some ((e 0).strip,s)) fun t29 s =>
 oh (mp (aNilCheck t29) s) fun t30 s =>
 oh (mp (aAddr 1 t30) s) fun t31 s =>
 oh (aLoad false false 1 t31 s) fun t32 s =>
 oh (some (t6.strip,s)) fun t33 s =>
 oh (mp (aBin Tryz.prog .eql 3 t32 t33) s) fun t34 s =>
 oh (some (t34,s)) fun t28 s =>
 br t28
  (oh (some ((e 0).strip,s)) fun t35 s =>
 oh (aCall Tryz.prog D 280 [t35.strip] s) fun t36 s =>
 k0 (upds e [(7,t7),(8,t8),(9,t9),(10,t10),(11,t11),(12,t12),(13,t13),(14,t14),(15,t15),(16,t16),(17,t17),(18,t18),(19,t19),(20,t20),(21,t21),(22,t22),(23,t23),(24,t24),(25,t25),(25,t25.strip),(6,t6),(26,t26),(27,t27),(29,t29),(30,t30),(31,t31),(32,t32),(33,t33),(34,t34),(34,t34.strip),(28,t28),(35,t35),(36,t36)]) s)
  (oh (some ((e 0).strip,s)) fun t38 s =>
 oh (some ((e 1).strip,s)) fun t39 s =>
 oh (mp (aBuildSlice Tryz.prog 215 1 [(0,t39)]) s) fun t40 s =>
 oh (aCall Tryz.prog D 106 [t38.strip,t40.strip] s) fun t41 s =>
 oh (mp (aUn .not t41) s) fun t42 s =>
 oh (some (t42,s)) fun t37 s =>
 br t37
  (oh (some ((e 0).strip,s)) fun t43 s =>
 oh (aCall Tryz.prog D 184 [t43.strip,(.str [44])] s) fun t44 s =>
 k0 (upds e [(7,t7),(8,t8),(9,t9),(10,t10),(11,t11),(12,t12),(13,t13),(14,t14),(15,t15),(16,t16),(17,t17),(18,t18),(19,t19),(20,t20),(21,t21),(22,t22),(23,t23),(24,t24),(25,t25),(25,t25.strip),(6,t6),(26,t26),(27,t27),(29,t29),(30,t30),(31,t31),(32,t32),(33,t33),(34,t34),(34,t34.strip),(28,t28),(38,t38),(39,t39),(40,t40),(41,t41),(42,t42),(42,t42.strip),(37,t37),(43,t43),(44,t44)]) s)
  (k0 (upds e [(7,t7),(8,t8),(9,t9),(10,t10),(11,t11),(12,t12),(13,t13),(14,t14),(15,t15),(16,t16),(17,t17),(18,t18),(19,t19),(20,t20),(21,t21),(22,t22),(23,t23),(24,t24),(25,t25),(25,t25.strip),(6,t6),(26,t26),(27,t27),(29,t29),(30,t30),(31,t31),(32,t32),(33,t33),(34,t34),(34,t34.strip),(28,t28),(38,t38),(39,t39),(40,t40),(41,t41),(42,t42),(42,t42.strip),(37,t37)]) s)))
  (oh (some ((e 0).strip,s)) fun t45 s =>
 oh (some ((e 1).strip,s)) fun t46 s =>
 oh (aCall Tryz.prog D 184 [t45.strip,t46.strip] s) fun t47 s =>
 some (.tup [],s))
noncomputable def F228 (D:Den)(n:Nat)(t0 t1 t2:AV)(s:Heap):Ans :=
 aLoop (F228_L0 D n) n (argEnv [t0,t1,t2]) s
theorem F228_eq (n:Nat)(t0 t1 t2:AV)(s:Heap):den C (n+1) 228 [t0,t1,t2] s=F228 (den C n) n t0 t1 t2 s :=
 (den_body rfl Tryz.func228 _ _).trans (by kernel_rfl)
theorem en228:enterable Tryz.prog 228=true:=by kernel_rfl
-- (*parser.parser).dataType 1
noncomputable def F229 (D:Den)(n:Nat)(t0 t1:AV)(s:Heap):Ans :=
 oh (aLoad false false 1 t0 s) fun t6 s =>
 oh (aCall Tryz.prog D 230 [t6.strip] s) fun t7 s =>
 oh (mp (aUn .not t7) s) fun t8 s =>
 oh (some (t8,s)) fun t5 s =>
 br t5
  (some (.tup [],s))
  (oh (aLoad false false 1 t1 s) fun t10 s =>
 oh (mp (aBin Tryz.prog .eql 3 t10 (.int .i64 4)) s) fun t11 s =>
 oh (some (t11,s)) fun t9 s =>
 br t9
  (oh (aLoad false false 1 t0 s) fun t12 s =>
 oh (some ((.fn 231 [] [t0]),s)) fun t13 s =>
 oh (aCall Tryz.prog D 110 [t12.strip,(.int .i64 14),t13.strip] s) fun t14 s =>
 some (.tup [],s))
  (oh (aLoad false false 1 t0 s) fun t2 s =>
 oh (some ((.fn 232 [] [t0]),s)) fun t3 s =>
 oh (aCall Tryz.prog D 110 [t2.strip,(.int .i64 15),t3.strip] s) fun t4 s =>
 some (.tup [],s)))
theorem F229_eq (n:Nat)(t0 t1:AV)(s:Heap):den C (n+1) 229 [t0,t1] s=F229 (den C n) n t0 t1 s :=
 (den_body rfl Tryz.func229 _ _).trans (by kernel_rfl)
theorem en229:enterable Tryz.prog 229=true:=by kernel_rfl
-- (*parser.parser).atIdent
noncomputable def F230 (D:Den)(n:Nat)(t0:AV)(s:Heap):Ans :=
 oh (some ((.bool false),s)) fun t2 s =>
 oh (some (t0.strip,s)) fun t3 s =>
 oh (aCall Tryz.prog D 105 [t3.strip] s) fun t4 s =>
 oh (mp (aField Tryz.prog 80 0 t4) s) fun t5 s =>
 oh (mp (aBin Tryz.prog .eql 3 t5 (.int .i64 103)) s) fun t6 s =>
 oh (some (t6,s)) fun t2_2 s =>
 some (t2_2,s)
theorem F230_eq (n:Nat)(t0:AV)(s:Heap):den C (n+1) 230 [t0] s=F230 (den C n) n t0 s :=
 (den_body rfl Tryz.func230 _ _).trans (by kernel_rfl)
theorem en230:enterable Tryz.prog 230=true:=by kernel_rfl
-- (*parser.parser).dataType 1 1
noncomputable def F231 (D:Den)(n:Nat)(t0:AV)(s:Heap):Ans :=
 oh (aLoad false false 1 t0 s) fun t1 s =>
 oh (aCall Tryz.prog D 113 [t1.strip] s) fun t2 s =>
 oh (aLoad false false 1 t0 s) fun t3 s =>
 oh (aCall Tryz.prog D 184 [t3.strip,(.str [58])] s) fun t4 s =>
 oh (aLoad false false 1 t0 s) fun t5 s =>
 oh (aCall Tryz.prog D 185 [t5.strip] s) fun t6 s =>
 some (.tup [],s)
theorem F231_eq (n:Nat)(t0:AV)(s:Heap):den C (n+1) 231 [t0] s=F231 (den C n) n t0 s :=
 (den_body rfl Tryz.func231 _ _).trans (by kernel_rfl)
theorem en231:enterable Tryz.prog 231=true:=by kernel_rfl
-- (*parser.parser).dataType 1 2
noncomputable def F232 (D:Den)(n:Nat)(t0:AV)(s:Heap):Ans :=
 oh (aLoad false false 1 t0 s) fun t1 s =>
 oh (aCall Tryz.prog D 113 [t1.strip] s) fun t2 s =>
 oh (aLoad false false 1 t0 s) fun t3 s =>
 oh (mp (aBuildSlice Tryz.prog 215 1 [(0,(.str [40]))]) s) fun t4 s =>
 oh (aCall Tryz.prog D 112 [t3.strip,t4.strip] s) fun t5 s =>
 br t5
  (oh (aLoad false false 1 t0 s) fun t6 s =>
 oh (aLoad false false 1 t0 s) fun t7 s =>
 oh (some ((.fn 185 [t7] []),s)) fun t8 s =>
 oh (aCall Tryz.prog D 228 [t6.strip,(.str [41]),t8.strip] s) fun t9 s =>
 some (.tup [],s))
  (some (.tup [],s))
theorem F232_eq (n:Nat)(t0:AV)(s:Heap):den C (n+1) 232 [t0] s=F232 (den C n) n t0 s :=
 (den_body rfl Tryz.func232 _ _).trans (by kernel_rfl)
theorem en232:enterable Tryz.prog 232=true:=by kernel_rfl
-- (*parser.parser).missingToken
noncomputable def F233 (D:Den)(n:Nat)(t0:AV)(s:Heap):Ans :=
 oh (some (t0.strip,s)) fun t2 s =>
 oh (mp (aBuild Tryz.prog 52 [(0,(.int .i64 108))]) s) fun t3 s =>
 oh (aCall Tryz.prog D 188 [t2.strip,t3.strip] s) fun t4 s =>
 some (.tup [],s)
theorem F233_eq (n:Nat)(t0:AV)(s:Heap):den C (n+1) 233 [t0] s=F233 (den C n) n t0 s :=
 (den_body rfl Tryz.func233 _ _).trans (by kernel_rfl)
theorem en233:enterable Tryz.prog 233=true:=by kernel_rfl
-- (*parser.parser).members 1
noncomputable def F234 (D:Den)(n:Nat)(t0:AV)(s:Heap):Ans :=
 oh (aLoad false false 1 t0 s) fun t1 s =>
 oh (aCall Tryz.prog D 113 [t1.strip] s) fun t2 s =>
 oh (aLoad false false 1 t0 s) fun t3 s =>
 oh (aCall Tryz.prog D 179 [t3.strip,(.bool false)] s) fun t4 s =>
 some (.tup [],s)
theorem F234_eq (n:Nat)(t0:AV)(s:Heap):den C (n+1) 234 [t0] s=F234 (den C n) n t0 s :=
 (den_body rfl Tryz.func234 _ _).trans (by kernel_rfl)
theorem en234:enterable Tryz.prog 234=true:=by kernel_rfl
-- (*parser.parser).members 2
noncomputable def F235 (D:Den)(n:Nat)(t0:AV)(s:Heap):Ans :=
 oh (aLoad false false 1 t0 s) fun t1 s =>
 oh (aCall Tryz.prog D 113 [t1.strip] s) fun t2 s =>
 oh (aLoad false false 1 t0 s) fun t3 s =>
 oh (aCall Tryz.prog D 181 [t3.strip] s) fun t4 s =>
 oh (aLoad false false 1 t0 s) fun t5 s =>
 oh (aLoad false false 1 t0 s) fun t6 s =>
 oh (some ((.fn 185 [t6] []),s)) fun t7 s =>
 oh (aCall Tryz.prog D 225 [t5.strip,(.str [61]),t7.strip] s) fun t8 s =>
 oh (aLoad false false 1 t0 s) fun t9 s =>
 oh (aCall Tryz.prog D 184 [t9.strip,(.str [59])] s) fun t10 s =>
 some (.tup [],s)
theorem F235_eq (n:Nat)(t0:AV)(s:Heap):den C (n+1) 235 [t0] s=F235 (den C n) n t0 s :=
 (den_body rfl Tryz.func235 _ _).trans (by kernel_rfl)
theorem en235:enterable Tryz.prog 235=true:=by kernel_rfl
-- (*parser.parser).typeExpr 1
noncomputable def F237 (D:Den)(n:Nat)(t0:AV)(s:Heap):Ans :=
 oh (aLoad false false 1 t0 s) fun t1 s =>
 oh (aCall Tryz.prog D 113 [t1.strip] s) fun t2 s =>
 oh (aLoad false false 1 t0 s) fun t3 s =>
 oh (mp (aBuildSlice Tryz.prog 215 1 [(0,(.str [109,117,116]))]) s) fun t4 s =>
 oh (aCall Tryz.prog D 112 [t3.strip,t4.strip] s) fun t5 s =>
 oh (aLoad false false 1 t0 s) fun t6 s =>
 oh (aCall Tryz.prog D 185 [t6.strip] s) fun t7 s =>
 some (.tup [],s)
theorem F237_eq (n:Nat)(t0:AV)(s:Heap):den C (n+1) 237 [t0] s=F237 (den C n) n t0 s :=
 (den_body rfl Tryz.func237 _ _).trans (by kernel_rfl)
theorem en237:enterable Tryz.prog 237=true:=by kernel_rfl
-- (*parser.parser).typeExpr 2
noncomputable def F238 (D:Den)(n:Nat)(t0:AV)(s:Heap):Ans :=
 oh (aLoad false false 1 t0 s) fun t1 s =>
 oh (aCall Tryz.prog D 113 [t1.strip] s) fun t2 s =>
 oh (aLoad false false 1 t0 s) fun t3 s =>
 oh (aCall Tryz.prog D 184 [t3.strip,(.str [40])] s) fun t4 s =>
 oh (aLoad false false 1 t0 s) fun t5 s =>
 oh (aLoad false false 1 t0 s) fun t6 s =>
 oh (some ((.fn 185 [t6] []),s)) fun t7 s =>
 oh (aCall Tryz.prog D 228 [t5.strip,(.str [41]),t7.strip] s) fun t8 s =>
 oh (aLoad false false 1 t0 s) fun t9 s =>
 oh (aLoad false false 1 t0 s) fun t10 s =>
 oh (some ((.fn 185 [t10] []),s)) fun t11 s =>
 oh (aCall Tryz.prog D 225 [t9.strip,(.str [45,62]),t11.strip] s) fun t12 s =>
 some (.tup [],s)
theorem F238_eq (n:Nat)(t0:AV)(s:Heap):den C (n+1) 238 [t0] s=F238 (den C n) n t0 s :=
 (den_body rfl Tryz.func238 _ _).trans (by kernel_rfl)
theorem en238:enterable Tryz.prog 238=true:=by kernel_rfl
-- (*parser.parser).path
noncomputable def F239 (D:Den)(n:Nat)(t0 t1:AV)(s:Heap):Ans :=
 oh (aBox false 126 t0 s) fun t2 s =>
 oh (aBox false 4 t1 s) fun t3 s =>
 oh (aLoad false false 1 t2 s) fun t4 s =>
 oh (some ((.fn 283 [] [t2,t3]),s)) fun t5 s =>
 oh (aCall Tryz.prog D 110 [t4.strip,(.int .i64 17),t5.strip] s) fun t6 s =>
 some (.tup [],s)
theorem F239_eq (n:Nat)(t0 t1:AV)(s:Heap):den C (n+1) 239 [t0,t1] s=F239 (den C n) n t0 t1 s :=
 (den_body rfl Tryz.func239 _ _).trans (by kernel_rfl)
theorem en239:enterable Tryz.prog 239=true:=by kernel_rfl
-- (*parser.parser).missingNode
noncomputable def F240 (D:Den)(n:Nat)(t0:AV)(s:Heap):Ans :=
 oh (some (t0.strip,s)) fun t2 s =>
 oh (mp (aBuild Tryz.prog 52 [(0,(.int .i64 46))]) s) fun t3 s =>
 oh (aCall Tryz.prog D 188 [t2.strip,t3.strip] s) fun t4 s =>
 some (.tup [],s)
theorem F240_eq (n:Nat)(t0:AV)(s:Heap):den C (n+1) 240 [t0] s=F240 (den C n) n t0 s :=
 (den_body rfl Tryz.func240 _ _).trans (by kernel_rfl)
theorem en240:enterable Tryz.prog 240=true:=by kernel_rfl
-- (*parser.parser).binary
noncomputable def F241_L0 (D:Den)(n:Nat)(k0:Env→Heap→Ans)(e:Env)(s:Heap):Ans :=
 oh (aLoad false false 1 (e 2) s) fun t12 s1 =>
 oh (aLoad false false 1 (e 3) s1) fun t13 s2 =>
 oh (aCall Tryz.prog D 286 [t13.strip] s2) fun t14 s3 =>
 oh (aCall Tryz.prog D 106 [t12.strip,t14.strip] s3) fun t15 s4 =>
 drawOK C 241 (regOps Tryz.f241 4) [(kLoad false (e 2)),(kLoad false (e 3)),(dyn (kCall [t13.strip]) s2 s3),(dyn (kCall [t12.strip,t14.strip]) s3 s4)] <|
 br t15
  (oh (aLoad false false 1 (e 2) s4) fun t16 s =>
 oh (some ((.fn 288 [] [(e 2),(e 3)]),s)) fun t17 s =>
 oh (aCall Tryz.prog D 287 [t16.strip,(.int .i64 39),t17.strip] s) fun t18 s =>
 oh (aLoad false false 1 (e 3) s) fun t19 s =>
 oh (mp (aBin Tryz.prog .eql 3 t19 (.int .i64 2)) s) fun t20 s =>
 br t20
  (some (.tup [],s))
  (k0 (upds e [(12,t12),(13,t13),(14,t14),(15,t15),(16,t16),(17,t17),(18,t18),(19,t19),(20,t20)]) s))
  (some (.tup [],s4))
noncomputable def F241 (D:Den)(n:Nat)(t0 t1:AV)(s:Heap):Ans :=
 oh (aBox false 126 t0 s) fun t2 s =>
 oh (aBox false 3 t1 s) fun t3 s =>
 oh (aLoad false false 1 t3 s) fun t4 s =>
 oh (mp (aBin Tryz.prog .eql 3 t4 (.int .i64 5)) s) fun t5 s =>
 br t5
  (oh (aLoad false false 1 t2 s) fun t6 s =>
 oh (aCall Tryz.prog D 285 [t6.strip] s) fun t7 s =>
 some (.tup [],s))
  (oh (aLoad false false 1 t2 s) fun t8 s =>
 oh (aLoad false false 1 t3 s) fun t9 s =>
 oh (mp (aBin Tryz.prog .add 3 t9 (.int .i64 1)) s) fun t10 s =>
 oh (aCall Tryz.prog D 241 [t8.strip,t10.strip] s) fun t11 s =>
 aLoop (F241_L0 D n) n (upds (argEnv [t0,t1]) [(2,t2),(3,t3),(4,t4),(5,t5),(8,t8),(9,t9),(10,t10),(11,t11)]) s)
theorem F241_eq (n:Nat)(t0 t1:AV)(s:Heap):den C (n+1) 241 [t0,t1] s=F241 (den C n) n t0 t1 s :=
 (den_body rfl Tryz.func241 _ _).trans (by kernel_rfl)
theorem d241_4 {l0:List Nat}(x:Ans):drawOK C 241 (regOps Tryz.f241 4) [.silent,.silent,.silent,.call l0] x=x:=drawOK_base (by kernel_rfl)
theorem en241:enterable Tryz.prog 241=true:=by kernel_rfl
-- (*parser.parser).params 1
noncomputable def F242 (D:Den)(n:Nat)(t0 t1:AV)(s:Heap):Ans :=
 oh (aLoad false false 1 t0 s) fun t2 s =>
 oh (aLoad false false 1 t1 s) fun t3 s =>
 oh (some ((.fn 243 [] [t0]),s)) fun t4 s =>
 oh (aCall Tryz.prog D 228 [t2.strip,t3.strip,t4.strip] s) fun t5 s =>
 some (.tup [],s)
theorem F242_eq (n:Nat)(t0 t1:AV)(s:Heap):den C (n+1) 242 [t0,t1] s=F242 (den C n) n t0 t1 s :=
 (den_body rfl Tryz.func242 _ _).trans (by kernel_rfl)
theorem en242:enterable Tryz.prog 242=true:=by kernel_rfl
-- (*parser.parser).params 1 1
noncomputable def F243 (D:Den)(n:Nat)(t0:AV)(s:Heap):Ans :=
 oh (aLoad false false 1 t0 s) fun t1 s =>
 oh (aCall Tryz.prog D 230 [t1.strip] s) fun t2 s =>
 br t2
  (oh (aLoad false false 1 t0 s) fun t3 s =>
 oh (some ((.fn 244 [] [t0]),s)) fun t4 s =>
 oh (aCall Tryz.prog D 110 [t3.strip,(.int .i64 13),t4.strip] s) fun t5 s =>
 some (.tup [],s))
  (some (.tup [],s))
theorem F243_eq (n:Nat)(t0:AV)(s:Heap):den C (n+1) 243 [t0] s=F243 (den C n) n t0 s :=
 (den_body rfl Tryz.func243 _ _).trans (by kernel_rfl)
theorem en243:enterable Tryz.prog 243=true:=by kernel_rfl
-- (*parser.parser).params 1 1 1
noncomputable def F244 (D:Den)(n:Nat)(t0:AV)(s:Heap):Ans :=
 oh (aLoad false false 1 t0 s) fun t1 s =>
 oh (aCall Tryz.prog D 113 [t1.strip] s) fun t2 s =>
 oh (aLoad false false 1 t0 s) fun t3 s =>
 oh (aLoad false false 1 t0 s) fun t4 s =>
 oh (some ((.fn 185 [t4] []),s)) fun t5 s =>
 oh (aCall Tryz.prog D 225 [t3.strip,(.str [58]),t5.strip] s) fun t6 s =>
 some (.tup [],s)
theorem F244_eq (n:Nat)(t0:AV)(s:Heap):den C (n+1) 244 [t0] s=F244 (den C n) n t0 s :=
 (den_body rfl Tryz.func244 _ _).trans (by kernel_rfl)
theorem en244:enterable Tryz.prog 244=true:=by kernel_rfl
-- (*parser.parser).typeParams 1
noncomputable def F275 (D:Den)(n:Nat)(t0:AV)(s:Heap):Ans :=
 oh (aLoad false false 1 t0 s) fun t1 s =>
 oh (mp (aBuildSlice Tryz.prog 215 1 [(0,(.str [60]))]) s) fun t2 s =>
 oh (aCall Tryz.prog D 112 [t1.strip,t2.strip] s) fun t3 s =>
 br t3
  (oh (aLoad false false 1 t0 s) fun t4 s =>
 oh (aLoad false false 1 t0 s) fun t5 s =>
 oh (some ((.fn 276 [t5] []),s)) fun t6 s =>
 oh (aCall Tryz.prog D 228 [t4.strip,(.str [62]),t6.strip] s) fun t7 s =>
 some (.tup [],s))
  (some (.tup [],s))
theorem F275_eq (n:Nat)(t0:AV)(s:Heap):den C (n+1) 275 [t0] s=F275 (den C n) n t0 s :=
 (den_body rfl Tryz.func275 _ _).trans (by kernel_rfl)
theorem en275:enterable Tryz.prog 275=true:=by kernel_rfl
-- (*parser.parser).typeParam
noncomputable def F276 (D:Den)(n:Nat)(t0:AV)(s:Heap):Ans :=
 oh (aBox false 126 t0 s) fun t1 s =>
 oh (aLoad false false 1 t1 s) fun t2 s =>
 oh (aCall Tryz.prog D 230 [t2.strip] s) fun t3 s =>
 oh (mp (aUn .not t3) s) fun t4 s =>
 br t4
  (some (.tup [],s))
  (oh (aLoad false false 1 t1 s) fun t5 s =>
 oh (some ((.fn 314 [] [t1]),s)) fun t6 s =>
 oh (aCall Tryz.prog D 110 [t5.strip,(.int .i64 11),t6.strip] s) fun t7 s =>
 some (.tup [],s))
theorem F276_eq (n:Nat)(t0:AV)(s:Heap):den C (n+1) 276 [t0] s=F276 (den C n) n t0 s :=
 (den_body rfl Tryz.func276 _ _).trans (by kernel_rfl)
theorem en276:enterable Tryz.prog 276=true:=by kernel_rfl
-- (*parser.parser).block 1
noncomputable def F277_J1 (D:Den)(n:Nat)(e:Env)(s:Heap):Ans :=
 oh (aLoad false false 1 (e 0) s) fun t29 s =>
 oh (aCall Tryz.prog D 184 [t29.strip,(.str [125])] s) fun t30 s =>
 some (.tup [],s)
noncomputable def F277_L0 (D:Den)(n:Nat)(k0:Env→Heap→Ans)(e:Env)(s:Heap):Ans :=
 oh (some ((e 1).strip,s)) fun t4 s1 =>
 oh (mp (aUn .not t4) s1) fun t5 s2 =>
 oh (some (t5.strip,s2)) fun t6 s3 =>
 oh (gd (wA t6 true) s3 (aLoad false false 1 (e 0) s3)) fun t7 s4 =>
 oh (gd (wA t6 true) s4 (mp (aBuildSlice Tryz.prog 215 1 [(0,(.str [125]))]) s4)) fun t8 s5 =>
 oh (gd (wA t6 true) s5 (aCall Tryz.prog D 106 [t7.strip,t8.strip] s5)) fun t9 s6 =>
 oh (gd (wA t6 true) s6 (mp (aUn .not t9) s6)) fun t10 s7 =>
 oh (mp (aPick t6 t10 (.bool false)) s7) fun t11 s8 =>
 oh (some (t11.strip,s8)) fun t12 s9 =>
 oh (gd (wA t12 true) s9 (aLoad false false 1 (e 0) s9)) fun t13 s10 =>
 oh (gd (wA t12 true) s10 (aCall Tryz.prog D 59 [t13.strip] s10)) fun t14 s11 =>
 oh (gd (wA t12 true) s11 (mp (aUn .not t14) s11)) fun t15 s12 =>
 oh (mp (aPick t12 t15 (.bool false)) s12) fun t16 s13 =>
 oh (some (t16.strip,s13)) fun t17 s14 =>
 oh (gd (wA t17 true) s14 (aLoad false false 1 (e 0) s14)) fun t18 s15 =>
 oh (gd (wA t17 true) s15 (aCall Tryz.prog D 176 [] s15)) fun t19 s16 =>
 oh (gd (wA t17 true) s16 (aCall Tryz.prog D 106 [t18.strip,t19.strip] s16)) fun t20 s17 =>
 oh (gd (wA t17 true) s17 (mp (aUn .not t20) s17)) fun t21 s18 =>
 oh (mp (aPick t17 t21 (.bool false)) s18) fun t22 s19 =>
 drawOK C 277 (regOps Tryz.f277 2) [.silent,.silent,.silent,(kGd (wA t6 true) (kLoad false (e 0))),(kGd (wA t6 true) .silent),(kGd (wA t6 true) (dyn (kCall [t7.strip,t8.strip]) s5 s6)),(kGd (wA t6 true) .silent),.silent,.silent,(kGd (wA t12 true) (kLoad false (e 0))),(kGd (wA t12 true) (dyn (kCall [t13.strip]) s10 s11)),(kGd (wA t12 true) .silent),.silent,.silent,(kGd (wA t17 true) (kLoad false (e 0))),(kGd (wA t17 true) (dyn (kCall []) s15 s16)),(kGd (wA t17 true) (dyn (kCall [t18.strip,t19.strip]) s16 s17)),(kGd (wA t17 true) .silent),.silent] <|
 br t22
  (oh (aLoad false false 1 (e 0) s19) fun t23 s =>
 oh (aCall Tryz.prog D 278 [t23.strip] s) fun t24 s =>
 oh (some (t24,s)) fun t1_2 s =>
 k0 (upds e [(4,t4),(5,t5),(6,t6),(7,t7),(8,t8),(9,t9),(10,t10),(11,t11),(12,t12),(13,t13),(14,t14),(15,t15),(16,t16),(17,t17),(18,t18),(19,t19),(20,t20),(21,t21),(22,t22),(23,t23),(24,t24),(24,t24.strip),(1,t1_2)]) s)
  (oh (some ((e 1).strip,s19)) fun t25 s =>
 oh (mp (aUn .not t25) s) fun t26 s =>
 br t26
  (oh (aLoad false false 1 (e 0) s) fun t27 s =>
 oh (aCall Tryz.prog D 226 [t27.strip] s) fun t28 s =>
 F277_J1 D n (upds e [(4,t4),(5,t5),(6,t6),(7,t7),(8,t8),(9,t9),(10,t10),(11,t11),(12,t12),(13,t13),(14,t14),(15,t15),(16,t16),(17,t17),(18,t18),(19,t19),(20,t20),(21,t21),(22,t22),(25,t25),(26,t26),(27,t27),(28,t28)]) s)
  (F277_J1 D n (upds e [(4,t4),(5,t5),(6,t6),(7,t7),(8,t8),(9,t9),(10,t10),(11,t11),(12,t12),(13,t13),(14,t14),(15,t15),(16,t16),(17,t17),(18,t18),(19,t19),(20,t20),(21,t21),(22,t22),(25,t25),(26,t26)]) s))
noncomputable def F277 (D:Den)(n:Nat)(t0:AV)(s:Heap):Ans :=
 oh (aLoad false false 1 t0 s) fun t2 s =>
 oh (aCall Tryz.prog D 184 [t2.strip,(.str [123])] s) fun t3 s =>
 oh (some ((.bool false),s)) fun t1 s =>
 aLoop (F277_L0 D n) n (upds (argEnv [t0]) [(2,t2),(3,t3),(1,t1)]) s
theorem F277_eq (n:Nat)(t0:AV)(s:Heap):den C (n+1) 277 [t0] s=F277 (den C n) n t0 s :=
 (den_body rfl Tryz.func277 _ _).trans (by kernel_rfl)
theorem d277_2 {l0 l1 l2:List Nat}(x:Ans):drawOK C 277 (regOps Tryz.f277 2) [.silent,.silent,.silent,.silent,.silent,.call l0,.silent,.silent,.silent,.silent,.call l1,.silent,.silent,.silent,.silent,.silent,.call l2,.silent,.silent] x=x:=drawOK_base (by kernel_rfl)
theorem en277:enterable Tryz.prog 277=true:=by kernel_rfl
-- (*parser.parser).statement
noncomputable def F278_J0 (D:Den)(n:Nat)(e:Env)(s:Heap):Ans :=
 oh (aLoad false false 1 (e 1) s) fun t45 s =>
 oh (mp (aNilCheck t45) s) fun t46 s =>
 oh (mp (aAddr 1 t46) s) fun t47 s =>
 oh (aLoad false false 1 t47 s) fun t48 s =>
 oh (some ((e 3).strip,s)) fun t49 s =>
 oh (mp (aBin Tryz.prog .eql 3 t48 t49) s) fun t50 s =>
 oh (some (t50,s)) fun t44 s =>
 br t44
  (oh (aLoad false false 1 (e 1) s) fun t51 s =>
 oh (mp (aNilCheck t51) s) fun t52 s =>
 oh (mp (aAddr 2 t52) s) fun t53 s =>
 oh (aLoad false false 1 t53 s) fun t54 s =>
 oh (aLoad false false 1 (e 1) s) fun t55 s =>
 oh (mp (aNilCheck t55) s) fun t56 s =>
 oh (mp (aAddr 2 t56) s) fun t57 s =>
 oh (aLoad false false 1 t57 s) fun t58 s =>
 oh (mp (aLen Tryz.prog 50 t58) s) fun t59 s =>
 oh (mp (aBin Tryz.prog .sub 3 t59 (.int .i64 1)) s) fun t60 s =>
 oh (mp (aIndexAddr Tryz.prog 50 t54 t60) s) fun t61 s =>
 oh (some (t61,s)) fun t5 s =>
 drawOK C 278 (regOps Tryz.f278 17) [(kLoad false (e 1)),.silent,.silent,(kLoad false t53),(kLoad false (e 1)),.silent,.silent,(kLoad false t57),.silent,.silent,.silent,.silent] <|
 oh (some (t5.strip,s)) fun t62 s =>
 oh (some (t5.strip,s)) fun t63 s =>
 oh (mp (aNilCheck t63) s) fun t64 s =>
 oh (mp (aAddr 2 t64) s) fun t65 s =>
 oh (aLoad false false 1 t65 s) fun t66 s =>
 oh (some (t5.strip,s)) fun t67 s =>
 oh (mp (aNilCheck t67) s) fun t68 s =>
 oh (mp (aAddr 2 t68) s) fun t69 s =>
 oh (aLoad false false 1 t69 s) fun t70 s =>
 oh (mp (aLen Tryz.prog 50 t70) s) fun t71 s =>
 oh (mp (aBin Tryz.prog .sub 3 t71 (.int .i64 1)) s) fun t72 s =>
 oh (mp (aSl Tryz.prog 50 t66 none (some t72) none) s) fun t73 s =>
 oh (mp (aNilCheck t62) s) fun t74 s =>
 oh (mp (aAddr 2 t74) s) fun t75 s =>
 oh (sto (aStore 1 s t75 t73)) fun _r s =>
 drawOK C 278 (regOps Tryz.f278 18) [.silent,.silent,.silent,.silent,(kLoad false t65),.silent,.silent,.silent,(kLoad false t69),.silent,.silent,.silent,.silent,.silent,(kStore t75)] <|
 oh (aLoad false false 1 (e 1) s) fun t76 s =>
 oh (aCall Tryz.prog D 280 [t76.strip] s) fun t77 s =>
 oh (some ((.bool false),s)) fun t2_5 s =>
 some (t2_5,s))
  (oh (aLoad false false 1 (e 1) s) fun t79 s =>
 oh (mp (aBuildSlice Tryz.prog 215 1 [(0,(.str [125]))]) s) fun t80 s =>
 oh (aCall Tryz.prog D 106 [t79.strip,t80.strip] s) fun t81 s =>
 oh (some (t81,s)) fun t78 s =>
 br t78
  (oh (some ((.bool true),s)) fun t2_6 s =>
 some (t2_6,s))
  (oh (aLoad false false 1 (e 1) s) fun t83 s =>
 oh (mp (aBuildSlice Tryz.prog 215 1 [(0,(.str [61]))]) s) fun t84 s =>
 oh (aCall Tryz.prog D 106 [t83.strip,t84.strip] s) fun t85 s =>
 oh (some (t85,s)) fun t82 s =>
 br t82
  (oh (aLoad false false 1 (e 1) s) fun t86 s =>
 oh (some ((.fn 319 [] [(e 1)]),s)) fun t87 s =>
 oh (aCall Tryz.prog D 287 [t86.strip,(.int .i64 23),t87.strip] s) fun t88 s =>
 oh (some ((.bool false),s)) fun t2_8 s =>
 some (t2_8,s))
  (oh (aLoad false false 1 (e 1) s) fun t41 s =>
 oh (some ((.fn 320 [] [(e 1),(e 4)]),s)) fun t42 s =>
 oh (aCall Tryz.prog D 287 [t41.strip,(.int .i64 26),t42.strip] s) fun t43 s =>
 oh (some ((.bool false),s)) fun t2_9 s =>
 some (t2_9,s))))
noncomputable def F278 (D:Den)(n:Nat)(t0:AV)(s:Heap):Ans :=
 oh (aBox false 126 t0 s) fun t1 s =>
 oh (some ((.bool false),s)) fun t2 s =>
 oh (aLoad false false 1 t1 s) fun t7 s =>
 oh (mp (aBuildSlice Tryz.prog 215 1 [(0,(.str [108,101,116]))]) s) fun t8 s =>
 oh (aCall Tryz.prog D 106 [t7.strip,t8.strip] s) fun t9 s =>
 oh (some (t9,s)) fun t6 s =>
 br t6
  (oh (aLoad false false 1 t1 s) fun t10 s =>
 oh (aLoad false false 1 t1 s) fun t11 s =>
 oh (some ((.fn 315 [t11] []),s)) fun t12 s =>
 oh (aCall Tryz.prog D 110 [t10.strip,(.int .i64 22),t12.strip] s) fun t13 s =>
 oh (some ((.bool false),s)) fun t2_2 s =>
 some (t2_2,s))
  (oh (aLoad false false 1 t1 s) fun t15 s =>
 oh (mp (aBuildSlice Tryz.prog 215 1 [(0,(.str [119,104,105,108,101]))]) s) fun t16 s =>
 oh (aCall Tryz.prog D 106 [t15.strip,t16.strip] s) fun t17 s =>
 oh (some (t17,s)) fun t14 s =>
 br t14
  (oh (aLoad false false 1 t1 s) fun t18 s =>
 oh (some ((.fn 316 [] [t1]),s)) fun t19 s =>
 oh (aCall Tryz.prog D 110 [t18.strip,(.int .i64 24),t19.strip] s) fun t20 s =>
 oh (some ((.bool false),s)) fun t2_3 s =>
 some (t2_3,s))
  (oh (aLoad false false 1 t1 s) fun t22 s =>
 oh (mp (aBuildSlice Tryz.prog 215 1 [(0,(.str [114,101,116,117,114,110]))]) s) fun t23 s =>
 oh (aCall Tryz.prog D 106 [t22.strip,t23.strip] s) fun t24 s =>
 oh (some (t24,s)) fun t21 s =>
 br t21
  (oh (aLoad false false 1 t1 s) fun t25 s =>
 oh (aLoad false false 1 t1 s) fun t26 s =>
 oh (some ((.fn 317 [t26] []),s)) fun t27 s =>
 oh (aCall Tryz.prog D 110 [t25.strip,(.int .i64 25),t27.strip] s) fun t28 s =>
 oh (some ((.bool false),s)) fun t2_4 s =>
 some (t2_4,s))
  (oh (aLoad false false 1 t1 s) fun t29 s =>
 oh (mp (aNilCheck t29) s) fun t30 s =>
 oh (mp (aAddr 1 t30) s) fun t31 s =>
 oh (aLoad false false 1 t31 s) fun t32 s =>
 oh (some (t32,s)) fun t3 s =>
 oh (aLoad false false 1 t1 s) fun t33 s =>
 oh (mp (aBuildSlice Tryz.prog 215 3 [(0,(.str [105,102])),(1,(.str [109,97,116,99,104])),(2,(.str [123]))]) s) fun t34 s =>
 oh (aCall Tryz.prog D 106 [t33.strip,t34.strip] s) fun t35 s =>
 oh (aAlloc Tryz.prog 4 s) fun t4 s =>
 oh (sto (aStore 1 s t4 t35)) fun _r s =>
 oh (aLoad false false 1 t4 s) fun t36 s =>
 br t36
  (oh (aLoad false false 1 t1 s) fun t37 s =>
 oh (aCall Tryz.prog D 318 [t37.strip] s) fun t38 s =>
 F278_J0 D n (upds (argEnv [t0]) [(1,t1),(2,t2),(7,t7),(8,t8),(9,t9),(9,t9.strip),(6,t6),(15,t15),(16,t16),(17,t17),(17,t17.strip),(14,t14),(22,t22),(23,t23),(24,t24),(24,t24.strip),(21,t21),(29,t29),(30,t30),(31,t31),(32,t32),(32,t32.strip),(3,t3),(33,t33),(34,t34),(35,t35),(4,t4),(35,t35.strip),(36,t36),(37,t37),(38,t38)]) s)
  (oh (aLoad false false 1 t1 s) fun t39 s =>
 oh (aCall Tryz.prog D 186 [t39.strip] s) fun t40 s =>
 F278_J0 D n (upds (argEnv [t0]) [(1,t1),(2,t2),(7,t7),(8,t8),(9,t9),(9,t9.strip),(6,t6),(15,t15),(16,t16),(17,t17),(17,t17.strip),(14,t14),(22,t22),(23,t23),(24,t24),(24,t24.strip),(21,t21),(29,t29),(30,t30),(31,t31),(32,t32),(32,t32.strip),(3,t3),(33,t33),(34,t34),(35,t35),(4,t4),(35,t35.strip),(36,t36),(39,t39),(40,t40)]) s))))
theorem F278_eq (n:Nat)(t0:AV)(s:Heap):den C (n+1) 278 [t0] s=F278 (den C n) n t0 s :=
 (den_body rfl Tryz.func278 _ _).trans (by kernel_rfl)
theorem d278_17 {g0 g1:Nat}(x:Ans):drawOK C 278 (regOps Tryz.f278 17) [.silent,.silent,.silent,.get g0,.silent,.silent,.silent,.get g1,.silent,.silent,.silent,.silent] x=x:=drawOK_base (by kernel_rfl)
theorem d278_18 {g0 g1:Nat}(a:Nat)(x:Ans):drawOK C 278 (regOps Tryz.f278 18) [.silent,.silent,.silent,.silent,.get g0,.silent,.silent,.silent,.get g1,.silent,.silent,.silent,.silent,.silent,.put a] x=x:=drawOK_both (a:=a) (b:=a+1) (ks0:=[.silent,.silent,.silent,.silent,.reader,.silent,.silent,.silent,.reader,.silent,.silent,.silent,.silent,.silent,.put 0]) (by omega) (by kernel_rfl) rfl
theorem en278:enterable Tryz.prog 278=true:=by kernel_rfl
-- (*parser.parser).atItem
noncomputable def F279 (D:Den)(n:Nat)(t0:AV)(s:Heap):Ans :=
 oh (some ((.bool false),s)) fun t2 s =>
 oh (some (t0.strip,s)) fun t3 s =>
 oh (aCall Tryz.prog D 176 [] s) fun t4 s =>
 oh (aCall Tryz.prog D 106 [t3.strip,t4.strip] s) fun t5 s =>
 oh (some (t5.strip,s)) fun t6 s =>
 oh (gd (wA t6 true) s (some (t0.strip,s))) fun t7 s =>
 oh (gd (wA t6 true) s (mp (aBuildSlice Tryz.prog 215 1 [(0,(.str [102,110]))]) s)) fun t8 s =>
 oh (gd (wA t6 true) s (aCall Tryz.prog D 106 [t7.strip,t8.strip] s)) fun t9 s =>
 oh (gd (wA t6 true) s (mp (aUn .not t9) s)) fun t10 s =>
 oh (mp (aPick t6 t10 (.bool false)) s) fun t11 s =>
 oh (some (t11,s)) fun t2_2 s =>
 some (t2_2,s)
theorem F279_eq (n:Nat)(t0:AV)(s:Heap):den C (n+1) 279 [t0] s=F279 (den C n) n t0 s :=
 (den_body rfl Tryz.func279 _ _).trans (by kernel_rfl)
theorem en279:enterable Tryz.prog 279=true:=by kernel_rfl
-- (*parser.parser).unexpected
noncomputable def F280 (D:Den)(n:Nat)(t0:AV)(s:Heap):Ans :=
 oh (some (t0.strip,s)) fun t2 s =>
 oh (some (t0.strip,s)) fun t3 s =>
 oh (some ((.fn 113 [t3] []),s)) fun t4 s =>
 oh (aCall Tryz.prog D 110 [t2.strip,(.int .i64 46),t4.strip] s) fun t5 s =>
 some (.tup [],s)
theorem F280_eq (n:Nat)(t0:AV)(s:Heap):den C (n+1) 280 [t0] s=F280 (den C n) n t0 s :=
 (den_body rfl Tryz.func280 _ _).trans (by kernel_rfl)
theorem en280:enterable Tryz.prog 280=true:=by kernel_rfl
-- (*parser.parser).path 1
noncomputable def F283_L0 (D:Den)(n:Nat)(k0:Env→Heap→Ans)(e:Env)(s:Heap):Ans :=
 oh (some ((e 2).strip,s)) fun t3 s =>
 oh (some (t3.strip,s)) fun t4 s =>
 oh (gd (wA t4 false) s (aLoad false false 1 (e 0) s)) fun t5 s =>
 oh (gd (wA t4 false) s (mp (aBuildSlice Tryz.prog 215 1 [(0,(.str [58,58]))]) s)) fun t6 s =>
 oh (gd (wA t4 false) s (aCall Tryz.prog D 112 [t5.strip,t6.strip] s)) fun t7 s =>
 oh (mp (aPick t4 (.bool true) t7) s) fun t8 s =>
 br t8
  (oh (aLoad false false 1 (e 0) s) fun t9 s =>
 oh (some ((.fn 284 [] [(e 0),(e 1)]),s)) fun t10 s =>
 oh (aCall Tryz.prog D 110 [t9.strip,(.int .i64 18),t10.strip] s) fun t11 s =>
 oh (some ((.bool false),s)) fun t2_2 s =>
 k0 (upds e [(3,t3),(4,t4),(5,t5),(6,t6),(7,t7),(8,t8),(9,t9),(10,t10),(11,t11),(2,t2_2)]) s)
  (some (.tup [],s))
noncomputable def F283 (D:Den)(n:Nat)(t0 t1:AV)(s:Heap):Ans :=
 oh (some ((.bool true),s)) fun t2 s =>
 aLoop (F283_L0 D n) n (upds (argEnv [t0,t1]) [(2,t2)]) s
theorem F283_eq (n:Nat)(t0 t1:AV)(s:Heap):den C (n+1) 283 [t0,t1] s=F283 (den C n) n t0 t1 s :=
 (den_body rfl Tryz.func283 _ _).trans (by kernel_rfl)
theorem en283:enterable Tryz.prog 283=true:=by kernel_rfl
-- (*parser.parser).path 1 1
noncomputable def F284 (D:Den)(n:Nat)(t0 t1:AV)(s:Heap):Ans :=
 oh (aLoad false false 1 t0 s) fun t2 s =>
 oh (aCall Tryz.prog D 181 [t2.strip] s) fun t3 s =>
 oh (aLoad false false 1 t1 s) fun t4 s =>
 oh (some (t4.strip,s)) fun t5 s =>
 oh (gd (wA t5 true) s (aLoad false false 1 t0 s)) fun t6 s =>
 oh (gd (wA t5 true) s (mp (aBuildSlice Tryz.prog 215 1 [(0,(.str [60]))]) s)) fun t7 s =>
 oh (gd (wA t5 true) s (aCall Tryz.prog D 112 [t6.strip,t7.strip] s)) fun t8 s =>
 oh (mp (aPick t5 t8 (.bool false)) s) fun t9 s =>
 br t9
  (oh (aLoad false false 1 t0 s) fun t10 s =>
 oh (aLoad false false 1 t0 s) fun t11 s =>
 oh (some ((.fn 185 [t11] []),s)) fun t12 s =>
 oh (aCall Tryz.prog D 228 [t10.strip,(.str [62]),t12.strip] s) fun t13 s =>
 some (.tup [],s))
  (some (.tup [],s))
theorem F284_eq (n:Nat)(t0 t1:AV)(s:Heap):den C (n+1) 284 [t0,t1] s=F284 (den C n) n t0 t1 s :=
 (den_body rfl Tryz.func284 _ _).trans (by kernel_rfl)
theorem en284:enterable Tryz.prog 284=true:=by kernel_rfl
-- (*parser.parser).unary
noncomputable def F285 (D:Den)(n:Nat)(t0:AV)(s:Heap):Ans :=
 oh (aBox false 126 t0 s) fun t1 s =>
 oh (aLoad false false 1 t1 s) fun t7 s =>
 oh (mp (aBuildSlice Tryz.prog 215 3 [(0,(.str [45])),(1,(.str [33])),(2,(.str [42]))]) s) fun t8 s =>
 oh (aCall Tryz.prog D 106 [t7.strip,t8.strip] s) fun t9 s =>
 oh (some (t9,s)) fun t6 s =>
 br t6
  (oh (aLoad false false 1 t1 s) fun t10 s =>
 oh (some ((.fn 322 [] [t1]),s)) fun t11 s =>
 oh (aCall Tryz.prog D 110 [t10.strip,(.int .i64 40),t11.strip] s) fun t12 s =>
 some (.tup [],s))
  (oh (aLoad false false 1 t1 s) fun t14 s =>
 oh (mp (aBuildSlice Tryz.prog 215 1 [(0,(.str [38]))]) s) fun t15 s =>
 oh (aCall Tryz.prog D 106 [t14.strip,t15.strip] s) fun t16 s =>
 oh (some (t16,s)) fun t13 s =>
 br t13
  (oh (aLoad false false 1 t1 s) fun t17 s =>
 oh (some ((.fn 323 [] [t1]),s)) fun t18 s =>
 oh (aCall Tryz.prog D 110 [t17.strip,(.int .i64 41),t18.strip] s) fun t19 s =>
 some (.tup [],s))
  (oh (aLoad false false 1 t1 s) fun t2 s =>
 oh (aCall Tryz.prog D 318 [t2.strip] s) fun t3 s =>
 oh (aLoad false false 1 t1 s) fun t4 s =>
 oh (aCall Tryz.prog D 324 [t4.strip] s) fun t5 s =>
 some (.tup [],s)))
theorem F285_eq (n:Nat)(t0:AV)(s:Heap):den C (n+1) 285 [t0] s=F285 (den C n) n t0 s :=
 (den_body rfl Tryz.func285 _ _).trans (by kernel_rfl)
theorem en285:enterable Tryz.prog 285=true:=by kernel_rfl
-- parser.binaryOperators
noncomputable def F286 (D:Den)(n:Nat)(t0:AV)(s:Heap):Ans :=
 oh (some (.nils,s)) fun t2 s =>
 oh (mp (aBuildSlice Tryz.prog 215 1 [(0,(.str [124,124]))]) s) fun t3 s =>
 oh (mp (aBuildSlice Tryz.prog 215 1 [(0,(.str [38,38]))]) s) fun t4 s =>
 oh (mp (aBuildSlice Tryz.prog 215 2 [(0,(.str [61,61])),(1,(.str [60]))]) s) fun t5 s =>
 oh (mp (aBuildSlice Tryz.prog 215 2 [(0,(.str [43])),(1,(.str [45]))]) s) fun t6 s =>
 oh (mp (aBuildSlice Tryz.prog 215 2 [(0,(.str [42])),(1,(.str [47]))]) s) fun t7 s =>
 oh (mp (aBuildSlice Tryz.prog 345 5 [(0,t3),(1,t4),(2,t5),(3,t6),(4,t7)]) s) fun t8 s =>
 oh (some (t0.strip,s)) fun t9 s =>
 oh (mp (aIndexAddr Tryz.prog 345 t8 t9) s) fun t10 s =>
 oh (aLoad false false 1 t10 s) fun t11 s =>
 oh (some (t11,s)) fun t2_2 s =>
 some (t2_2,s)
theorem F286_eq (n:Nat)(t0:AV)(s:Heap):den C (n+1) 286 [t0] s=F286 (den C n) n t0 s :=
 (den_body rfl Tryz.func286 _ _).trans (by kernel_rfl)
theorem en286:enterable Tryz.prog 286=true:=by kernel_rfl
-- (*parser.parser).wrap
noncomputable def F287 (D:Den)(n:Nat)(t0 t1 t2:AV)(s:Heap):Ans :=
 oh (some (t0.strip,s)) fun t9 s =>
 oh (mp (aNilCheck t9) s) fun t10 s =>
 oh (mp (aAddr 2 t10) s) fun t11 s =>
 oh (aLoad false false 1 t11 s) fun t12 s =>
 oh (some (t0.strip,s)) fun t13 s =>
 oh (mp (aNilCheck t13) s) fun t14 s =>
 oh (mp (aAddr 2 t14) s) fun t15 s =>
 oh (aLoad false false 1 t15 s) fun t16 s =>
 oh (mp (aLen Tryz.prog 50 t16) s) fun t17 s =>
 oh (mp (aBin Tryz.prog .sub 3 t17 (.int .i64 1)) s) fun t18 s =>
 oh (mp (aIndexAddr Tryz.prog 50 t12 t18) s) fun t19 s =>
 oh (some (t19,s)) fun t6 s =>
 drawOK C 287 (regOps Tryz.f287 0) [.silent,.silent,.silent,(kLoad false t11),.silent,.silent,.silent,(kLoad false t15),.silent,.silent,.silent,.silent] <|
 oh (some (t6.strip,s)) fun t20 s =>
 oh (mp (aNilCheck t20) s) fun t21 s =>
 oh (mp (aAddr 2 t21) s) fun t22 s =>
 oh (aLoad false false 1 t22 s) fun t23 s =>
 oh (mp (aLen Tryz.prog 50 t23) s) fun t24 s =>
 oh (mp (aBin Tryz.prog .sub 3 t24 (.int .i64 1)) s) fun t25 s =>
 oh (some (t25,s)) fun t7 s =>
 oh (some (t6.strip,s)) fun t26 s =>
 oh (mp (aNilCheck t26) s) fun t27 s =>
 oh (mp (aAddr 2 t27) s) fun t28 s =>
 oh (aLoad false false 1 t28 s) fun t29 s =>
 oh (some (t7.strip,s)) fun t30 s =>
 oh (mp (aIndexAddr Tryz.prog 50 t29 t30) s) fun t31 s =>
 oh (aLoad false true 3 t31 s) fun t32 s =>
 oh (aAlloc Tryz.prog 52 s) fun t8 s =>
 oh (sto (aStore 3 s t8 t32)) fun _r s =>
 oh (some (t6.strip,s)) fun t33 s =>
 oh (some (t6.strip,s)) fun t34 s =>
 oh (mp (aNilCheck t34) s) fun t35 s =>
 oh (mp (aAddr 2 t35) s) fun t36 s =>
 oh (aLoad false false 1 t36 s) fun t37 s =>
 oh (some (t7.strip,s)) fun t38 s =>
 oh (mp (aSl Tryz.prog 50 t37 none (some t38) none) s) fun t39 s =>
 oh (mp (aNilCheck t33) s) fun t40 s =>
 oh (mp (aAddr 2 t40) s) fun t41 s =>
 oh (sto (aStore 1 s t41 t39)) fun _r s =>
 oh (some (t0.strip,s)) fun t42 s1 =>
 oh (mp (aNilCheck t42) s1) fun t43 s2 =>
 oh (mp (aAddr 2 t43) s2) fun t44 s3 =>
 oh (aLoad false false 1 t44 s3) fun t45 s4 =>
 oh (some (t1.strip,s4)) fun t46 s5 =>
 oh (aLoad false true 3 t8 s5) fun t47 s6 =>
 oh (aRsBuild Tryz.prog 50 1 [(0,t47)] s6) fun t48 s7 =>
 oh (mp (aBuild Tryz.prog 52 [(0,t46),(2,t48)]) s7) fun t49 s8 =>
 oh (mp (aLen Tryz.prog 50 t45) s8) fun t50 s9 =>
 oh (mp (aBuildSlice Tryz.prog 50 1 [(0,(.agg [(.int .i64 0),(.str []),.nils]))]) s9) fun t51 s10 =>
 oh (aRsAppend Tryz.prog 50 50 t45 t51 s10) fun t52 s11 =>
 oh (mp (aIndexAddr Tryz.prog 50 t52 t50) s11) fun t53 s12 =>
 oh (sto (aStore 3 s12 t53 t49)) fun _r s13 =>
 oh (mp (aNilCheck t42) s13) fun t54 s14 =>
 oh (mp (aAddr 2 t54) s14) fun t55 s15 =>
 oh (sto (aStore 1 s15 t55 t52.strip)) fun _r s16 =>
 drawOK C 287 (regOps Tryz.f287 4) [.silent,.silent,.silent,(kLoad false t44),.silent,(kLoad false t8),.alloc,.silent,.silent,.silent,(dyn (appK t45) s10 s11),.silent,(kStore t53),.silent,.silent,(kStore t55)] <|
 oh (some (t2.strip,s16)) fun t56 s =>
 oh (aCallV Tryz.prog D t56 [] s) fun t57 s =>
 oh (some (t0.strip,s)) fun t58 s =>
 oh (aCall Tryz.prog D 177 [t58.strip] s) fun t59 s =>
 some (.tup [],s)
theorem F287_eq (n:Nat)(t0 t1 t2:AV)(s:Heap):den C (n+1) 287 [t0,t1,t2] s=F287 (den C n) n t0 t1 t2 s :=
 (den_body rfl Tryz.func287 _ _).trans (by kernel_rfl)
theorem d287_0 {g0 g1:Nat}(x:Ans):drawOK C 287 (regOps Tryz.f287 0) [.silent,.silent,.silent,.get g0,.silent,.silent,.silent,.get g1,.silent,.silent,.silent,.silent] x=x:=drawOK_base (by kernel_rfl)
theorem d287_4 {g0 g1:Nat}{q0:Option Nat}(a b:Nat)(h:a≠b)(x:Ans):drawOK C 287 (regOps Tryz.f287 4) [.silent,.silent,.silent,.get g0,.silent,.get g1,.alloc,.silent,.silent,.silent,.app q0,.silent,.put a,.silent,.silent,.put b] x=x:=drawOK_both (ks0:=[.silent,.silent,.silent,.reader,.silent,.reader,.alloc,.silent,.silent,.silent,.writer,.silent,.put 0,.silent,.silent,.put 1]) h (by kernel_rfl) rfl
theorem en287:enterable Tryz.prog 287=true:=by kernel_rfl
-- (*parser.parser).binary 1
noncomputable def F288 (D:Den)(n:Nat)(t0 t1:AV)(s:Heap):Ans :=
 oh (aLoad false false 1 t0 s) fun t2 s =>
 oh (aCall Tryz.prog D 113 [t2.strip] s) fun t3 s =>
 oh (aLoad false false 1 t0 s) fun t4 s =>
 oh (aLoad false false 1 t1 s) fun t5 s =>
 oh (mp (aBin Tryz.prog .add 3 t5 (.int .i64 1)) s) fun t6 s =>
 oh (aCall Tryz.prog D 241 [t4.strip,t6.strip] s) fun t7 s =>
 some (.tup [],s)
theorem F288_eq (n:Nat)(t0 t1:AV)(s:Heap):den C (n+1) 288 [t0,t1] s=F288 (den C n) n t0 t1 s :=
 (den_body rfl Tryz.func288 _ _).trans (by kernel_rfl)
theorem en288:enterable Tryz.prog 288=true:=by kernel_rfl
-- (*parser.parser).typeParam 1
noncomputable def F314_L1 (D:Den)(n:Nat)(k0:Env→Heap→Ans)(e:Env)(s:Heap):Ans :=
 oh (aLoad false false 1 (e 0) s) fun t8 s =>
 oh (mp (aBuildSlice Tryz.prog 215 1 [(0,(.str [43]))]) s) fun t9 s =>
 oh (aCall Tryz.prog D 112 [t8.strip,t9.strip] s) fun t10 s =>
 br t10
  (oh (aLoad false false 1 (e 0) s) fun t11 s =>
 oh (aCall Tryz.prog D 239 [t11.strip,(.bool true)] s) fun t12 s =>
 k0 (upds e [(8,t8),(9,t9),(10,t10),(11,t11),(12,t12)]) s)
  (some (.tup [],s))
noncomputable def F314 (D:Den)(n:Nat)(t0:AV)(s:Heap):Ans :=
 oh (aLoad false false 1 t0 s) fun t1 s =>
 oh (aCall Tryz.prog D 113 [t1.strip] s) fun t2 s =>
 oh (aLoad false false 1 t0 s) fun t3 s =>
 oh (mp (aBuildSlice Tryz.prog 215 1 [(0,(.str [58]))]) s) fun t4 s =>
 oh (aCall Tryz.prog D 112 [t3.strip,t4.strip] s) fun t5 s =>
 br t5
  (oh (aLoad false false 1 t0 s) fun t6 s =>
 oh (aCall Tryz.prog D 239 [t6.strip,(.bool true)] s) fun t7 s =>
 aLoop (F314_L1 D n) n (upds (argEnv [t0]) [(1,t1),(2,t2),(3,t3),(4,t4),(5,t5),(6,t6),(7,t7)]) s)
  (some (.tup [],s))
theorem F314_eq (n:Nat)(t0:AV)(s:Heap):den C (n+1) 314 [t0] s=F314 (den C n) n t0 s :=
 (den_body rfl Tryz.func314 _ _).trans (by kernel_rfl)
theorem en314:enterable Tryz.prog 314=true:=by kernel_rfl
-- (*parser.parser).let
noncomputable def F315 (D:Den)(n:Nat)(t0:AV)(s:Heap):Ans :=
 oh (some (t0.strip,s)) fun t2 s =>
 oh (aCall Tryz.prog D 113 [t2.strip] s) fun t3 s =>
 oh (some (t0.strip,s)) fun t4 s =>
 oh (aCall Tryz.prog D 334 [t4.strip] s) fun t5 s =>
 oh (some (t0.strip,s)) fun t6 s =>
 oh (some (t0.strip,s)) fun t7 s =>
 oh (some ((.fn 185 [t7] []),s)) fun t8 s =>
 oh (aCall Tryz.prog D 225 [t6.strip,(.str [58]),t8.strip] s) fun t9 s =>
 oh (some (t0.strip,s)) fun t10 s =>
 oh (aCall Tryz.prog D 184 [t10.strip,(.str [61])] s) fun t11 s =>
 oh (some (t0.strip,s)) fun t12 s =>
 oh (aCall Tryz.prog D 186 [t12.strip] s) fun t13 s =>
 oh (some (t0.strip,s)) fun t14 s =>
 oh (aCall Tryz.prog D 184 [t14.strip,(.str [59])] s) fun t15 s =>
 some (.tup [],s)
theorem F315_eq (n:Nat)(t0:AV)(s:Heap):den C (n+1) 315 [t0] s=F315 (den C n) n t0 s :=
 (den_body rfl Tryz.func315 _ _).trans (by kernel_rfl)
theorem en315:enterable Tryz.prog 315=true:=by kernel_rfl
-- (*parser.parser).statement 1
noncomputable def F316 (D:Den)(n:Nat)(t0:AV)(s:Heap):Ans :=
 oh (aLoad false false 1 t0 s) fun t1 s =>
 oh (aCall Tryz.prog D 113 [t1.strip] s) fun t2 s =>
 oh (aLoad false false 1 t0 s) fun t3 s =>
 oh (aCall Tryz.prog D 186 [t3.strip] s) fun t4 s =>
 oh (aLoad false false 1 t0 s) fun t5 s =>
 oh (aCall Tryz.prog D 227 [t5.strip] s) fun t6 s =>
 some (.tup [],s)
theorem F316_eq (n:Nat)(t0:AV)(s:Heap):den C (n+1) 316 [t0] s=F316 (den C n) n t0 s :=
 (den_body rfl Tryz.func316 _ _).trans (by kernel_rfl)
theorem en316:enterable Tryz.prog 316=true:=by kernel_rfl
-- (*parser.parser).returnStmt
noncomputable def F317_J0 (D:Den)(n:Nat)(e:Env)(s:Heap):Ans :=
 oh (some ((e 0).strip,s)) fun t11 s =>
 oh (aCall Tryz.prog D 184 [t11.strip,(.str [59])] s) fun t12 s =>
 some (.tup [],s)
noncomputable def F317 (D:Den)(n:Nat)(t0:AV)(s:Heap):Ans :=
 oh (some (t0.strip,s)) fun t2 s =>
 oh (aCall Tryz.prog D 113 [t2.strip] s) fun t3 s =>
 oh (some (t0.strip,s)) fun t4 s =>
 oh (mp (aBuildSlice Tryz.prog 215 1 [(0,(.str [59]))]) s) fun t5 s =>
 oh (aCall Tryz.prog D 106 [t4.strip,t5.strip] s) fun t6 s =>
 br t6
  (oh (some (t0.strip,s)) fun t7 s =>
 oh (aCall Tryz.prog D 226 [t7.strip] s) fun t8 s =>
 F317_J0 D n (upds (argEnv [t0]) [(2,t2),(3,t3),(4,t4),(5,t5),(6,t6),(7,t7),(8,t8)]) s)
  (oh (some (t0.strip,s)) fun t9 s =>
 oh (aCall Tryz.prog D 186 [t9.strip] s) fun t10 s =>
 F317_J0 D n (upds (argEnv [t0]) [(2,t2),(3,t3),(4,t4),(5,t5),(6,t6),(9,t9),(10,t10)]) s)
theorem F317_eq (n:Nat)(t0:AV)(s:Heap):den C (n+1) 317 [t0] s=F317 (den C n) n t0 s :=
 (den_body rfl Tryz.func317 _ _).trans (by kernel_rfl)
theorem en317:enterable Tryz.prog 317=true:=by kernel_rfl
-- (*parser.parser).primary
noncomputable def F318 (D:Den)(n:Nat)(t0:AV)(s:Heap):Ans :=
 oh (aBox false 126 t0 s) fun t1 s =>
 oh (aLoad false false 1 t1 s) fun t3 s =>
 oh (aCall Tryz.prog D 105 [t3.strip] s) fun t4 s =>
 oh (aAlloc Tryz.prog 80 s) fun t2 s =>
 oh (sto (aStore 2 s t2 t4)) fun _r s =>
 oh (mp (aAddr 0 t2) s) fun t8 s =>
 oh (aLoad false false 1 t8 s) fun t9 s =>
 oh (mp (aBin Tryz.prog .eql 3 t9 (.int .i64 105)) s) fun t10 s =>
 oh (some (t10,s)) fun t7 s =>
 br t7
  (oh (aLoad false false 1 t1 s) fun t11 s =>
 oh (aLoad false false 1 t1 s) fun t12 s =>
 oh (some ((.fn 113 [t12] []),s)) fun t13 s =>
 oh (aCall Tryz.prog D 110 [t11.strip,(.int .i64 27),t13.strip] s) fun t14 s =>
 some (.tup [],s))
  (oh (mp (aAddr 0 t2) s) fun t16 s =>
 oh (aLoad false false 1 t16 s) fun t17 s =>
 oh (mp (aBin Tryz.prog .eql 3 t17 (.int .i64 106)) s) fun t18 s =>
 oh (some (t18,s)) fun t15 s =>
 br t15
  (oh (aLoad false false 1 t1 s) fun t19 s =>
 oh (aLoad false false 1 t1 s) fun t20 s =>
 oh (some ((.fn 113 [t20] []),s)) fun t21 s =>
 oh (aCall Tryz.prog D 110 [t19.strip,(.int .i64 29),t21.strip] s) fun t22 s =>
 some (.tup [],s))
  (oh (aLoad false false 1 t1 s) fun t24 s =>
 oh (mp (aBuildSlice Tryz.prog 215 2 [(0,(.str [116,114,117,101])),(1,(.str [102,97,108,115,101]))]) s) fun t25 s =>
 oh (aCall Tryz.prog D 106 [t24.strip,t25.strip] s) fun t26 s =>
 oh (some (t26,s)) fun t23 s =>
 br t23
  (oh (aLoad false false 1 t1 s) fun t27 s =>
 oh (aLoad false false 1 t1 s) fun t28 s =>
 oh (some ((.fn 113 [t28] []),s)) fun t29 s =>
 oh (aCall Tryz.prog D 110 [t27.strip,(.int .i64 28),t29.strip] s) fun t30 s =>
 some (.tup [],s))
  (oh (mp (aAddr 0 t2) s) fun t32 s =>
 oh (aLoad false false 1 t32 s) fun t33 s =>
 oh (mp (aBin Tryz.prog .eql 3 t33 (.int .i64 103)) s) fun t34 s =>
 oh (some (t34,s)) fun t31 s =>
 br t31
  (oh (aLoad false false 1 t1 s) fun t35 s =>
 oh (aCall Tryz.prog D 239 [t35.strip,(.bool false)] s) fun t36 s =>
 oh (aLoad false false 1 t1 s) fun t37 s =>
 oh (mp (aBuildSlice Tryz.prog 215 1 [(0,(.str [33]))]) s) fun t38 s =>
 oh (aCall Tryz.prog D 106 [t37.strip,t38.strip] s) fun t39 s =>
 oh (some (t39.strip,s)) fun t40 s =>
 oh (gd (wA t40 true) s (aLoad false false 1 t1 s)) fun t41 s =>
 oh (gd (wA t40 true) s (aCall Tryz.prog D 107 [t41.strip] s)) fun t42 s =>
 oh (gd (wA t40 true) s (mp (aBuildSlice Tryz.prog 215 1 [(0,(.str [40]))]) s)) fun t43 s =>
 oh (gd (wA t40 true) s (aCall Tryz.prog D 106 [t42.strip,t43.strip] s)) fun t44 s =>
 oh (mp (aPick t40 t44 (.bool false)) s) fun t45 s =>
 br t45
  (oh (aLoad false false 1 t1 s) fun t46 s =>
 oh (some ((.fn 335 [] [t1]),s)) fun t47 s =>
 oh (aCall Tryz.prog D 287 [t46.strip,(.int .i64 42),t47.strip] s) fun t48 s =>
 some (.tup [],s))
  (some (.tup [],s)))
  (oh (aLoad false false 1 t1 s) fun t50 s =>
 oh (mp (aBuildSlice Tryz.prog 215 1 [(0,(.str [40]))]) s) fun t51 s =>
 oh (aCall Tryz.prog D 106 [t50.strip,t51.strip] s) fun t52 s =>
 oh (some (t52,s)) fun t49 s =>
 br t49
  (oh (aLoad false false 1 t1 s) fun t53 s =>
 oh (some ((.fn 337 [] [t1]),s)) fun t54 s =>
 oh (aCall Tryz.prog D 110 [t53.strip,(.int .i64 60),t54.strip] s) fun t55 s =>
 some (.tup [],s))
  (oh (aLoad false false 1 t1 s) fun t57 s =>
 oh (mp (aBuildSlice Tryz.prog 215 1 [(0,(.str [123]))]) s) fun t58 s =>
 oh (aCall Tryz.prog D 106 [t57.strip,t58.strip] s) fun t59 s =>
 oh (some (t59,s)) fun t56 s =>
 br t56
  (oh (aLoad false false 1 t1 s) fun t60 s =>
 oh (aCall Tryz.prog D 227 [t60.strip] s) fun t61 s =>
 some (.tup [],s))
  (oh (aLoad false false 1 t1 s) fun t63 s =>
 oh (mp (aBuildSlice Tryz.prog 215 1 [(0,(.str [105,102]))]) s) fun t64 s =>
 oh (aCall Tryz.prog D 106 [t63.strip,t64.strip] s) fun t65 s =>
 oh (some (t65,s)) fun t62 s =>
 br t62
  (oh (aLoad false false 1 t1 s) fun t66 s =>
 oh (aCall Tryz.prog D 338 [t66.strip] s) fun t67 s =>
 some (.tup [],s))
  (oh (aLoad false false 1 t1 s) fun t69 s =>
 oh (mp (aBuildSlice Tryz.prog 215 1 [(0,(.str [109,97,116,99,104]))]) s) fun t70 s =>
 oh (aCall Tryz.prog D 106 [t69.strip,t70.strip] s) fun t71 s =>
 oh (some (t71,s)) fun t68 s =>
 br t68
  (oh (aLoad false false 1 t1 s) fun t72 s =>
 oh (aLoad false false 1 t1 s) fun t73 s =>
 oh (some ((.fn 339 [t73] []),s)) fun t74 s =>
 oh (aCall Tryz.prog D 110 [t72.strip,(.int .i64 35),t74.strip] s) fun t75 s =>
 some (.tup [],s))
  (oh (aLoad false false 1 t1 s) fun t77 s =>
 oh (mp (aBuildSlice Tryz.prog 215 1 [(0,(.str [110,101,119]))]) s) fun t78 s =>
 oh (aCall Tryz.prog D 106 [t77.strip,t78.strip] s) fun t79 s =>
 oh (some (t79,s)) fun t76 s =>
 br t76
  (oh (aLoad false false 1 t1 s) fun t80 s =>
 oh (aLoad false false 1 t1 s) fun t81 s =>
 oh (some ((.fn 340 [t81] []),s)) fun t82 s =>
 oh (aCall Tryz.prog D 110 [t80.strip,(.int .i64 33),t82.strip] s) fun t83 s =>
 some (.tup [],s))
  (oh (aLoad false false 1 t1 s) fun t85 s =>
 oh (mp (aBuildSlice Tryz.prog 215 2 [(0,(.str [124])),(1,(.str [124,124]))]) s) fun t86 s =>
 oh (aCall Tryz.prog D 106 [t85.strip,t86.strip] s) fun t87 s =>
 oh (some (t87,s)) fun t84 s =>
 br t84
  (oh (aLoad false false 1 t1 s) fun t88 s =>
 oh (aLoad false false 1 t1 s) fun t89 s =>
 oh (some ((.fn 341 [t89] []),s)) fun t90 s =>
 oh (aCall Tryz.prog D 110 [t88.strip,(.int .i64 38),t90.strip] s) fun t91 s =>
 some (.tup [],s))
  (oh (aLoad false false 1 t1 s) fun t5 s =>
 oh (aCall Tryz.prog D 240 [t5.strip] s) fun t6 s =>
 some (.tup [],s)))))))))))
theorem F318_eq (n:Nat)(t0:AV)(s:Heap):den C (n+1) 318 [t0] s=F318 (den C n) n t0 s :=
 (den_body rfl Tryz.func318 _ _).trans (by kernel_rfl)
theorem en318:enterable Tryz.prog 318=true:=by kernel_rfl
-- (*parser.parser).statement 2
noncomputable def F319 (D:Den)(n:Nat)(t0:AV)(s:Heap):Ans :=
 oh (aLoad false false 1 t0 s) fun t1 s =>
 oh (aCall Tryz.prog D 113 [t1.strip] s) fun t2 s =>
 oh (aLoad false false 1 t0 s) fun t3 s =>
 oh (aCall Tryz.prog D 186 [t3.strip] s) fun t4 s =>
 oh (aLoad false false 1 t0 s) fun t5 s =>
 oh (aCall Tryz.prog D 184 [t5.strip,(.str [59])] s) fun t6 s =>
 some (.tup [],s)
theorem F319_eq (n:Nat)(t0:AV)(s:Heap):den C (n+1) 319 [t0] s=F319 (den C n) n t0 s :=
 (den_body rfl Tryz.func319 _ _).trans (by kernel_rfl)
theorem en319:enterable Tryz.prog 319=true:=by kernel_rfl
-- (*parser.parser).statement 3
noncomputable def F320 (D:Den)(n:Nat)(t0 t1:AV)(s:Heap):Ans :=
 oh (aLoad false false 1 t0 s) fun t2 s =>
 oh (mp (aBuildSlice Tryz.prog 215 1 [(0,(.str [59]))]) s) fun t3 s =>
 oh (aCall Tryz.prog D 112 [t2.strip,t3.strip] s) fun t4 s =>
 oh (mp (aUn .not t4) s) fun t5 s =>
 oh (some (t5.strip,s)) fun t6 s =>
 oh (gd (wA t6 true) s (aLoad false false 1 t1 s)) fun t7 s =>
 oh (gd (wA t6 true) s (mp (aUn .not t7) s)) fun t8 s =>
 oh (mp (aPick t6 t8 (.bool false)) s) fun t9 s =>
 br t9
  (oh (aLoad false false 1 t0 s) fun t10 s =>
 oh (aCall Tryz.prog D 233 [t10.strip] s) fun t11 s =>
 some (.tup [],s))
  (some (.tup [],s))
theorem F320_eq (n:Nat)(t0 t1:AV)(s:Heap):den C (n+1) 320 [t0,t1] s=F320 (den C n) n t0 t1 s :=
 (den_body rfl Tryz.func320 _ _).trans (by kernel_rfl)
theorem en320:enterable Tryz.prog 320=true:=by kernel_rfl
-- (*parser.parser).unary 1
noncomputable def F322 (D:Den)(n:Nat)(t0:AV)(s:Heap):Ans :=
 oh (aLoad false false 1 t0 s) fun t1 s =>
 oh (aCall Tryz.prog D 113 [t1.strip] s) fun t2 s =>
 oh (aLoad false false 1 t0 s) fun t3 s =>
 oh (aCall Tryz.prog D 285 [t3.strip] s) fun t4 s =>
 some (.tup [],s)
theorem F322_eq (n:Nat)(t0:AV)(s:Heap):den C (n+1) 322 [t0] s=F322 (den C n) n t0 s :=
 (den_body rfl Tryz.func322 _ _).trans (by kernel_rfl)
theorem en322:enterable Tryz.prog 322=true:=by kernel_rfl
-- (*parser.parser).unary 2
noncomputable def F323 (D:Den)(n:Nat)(t0:AV)(s:Heap):Ans :=
 oh (aLoad false false 1 t0 s) fun t1 s =>
 oh (aCall Tryz.prog D 113 [t1.strip] s) fun t2 s =>
 oh (aLoad false false 1 t0 s) fun t3 s =>
 oh (mp (aBuildSlice Tryz.prog 215 1 [(0,(.str [109,117,116]))]) s) fun t4 s =>
 oh (aCall Tryz.prog D 112 [t3.strip,t4.strip] s) fun t5 s =>
 oh (aLoad false false 1 t0 s) fun t6 s =>
 oh (aCall Tryz.prog D 285 [t6.strip] s) fun t7 s =>
 some (.tup [],s)
theorem F323_eq (n:Nat)(t0:AV)(s:Heap):den C (n+1) 323 [t0] s=F323 (den C n) n t0 s :=
 (den_body rfl Tryz.func323 _ _).trans (by kernel_rfl)
theorem en323:enterable Tryz.prog 323=true:=by kernel_rfl
-- (*parser.parser).postfix
noncomputable def F324_L0 (D:Den)(n:Nat)(k0:Env→Heap→Ans)(e:Env)(s:Heap):Ans :=
 oh (aLoad false false 1 (e 1) s) fun t3 s =>
 oh (mp (aBuildSlice Tryz.prog 215 2 [(0,(.str [40])),(1,(.str [46]))]) s) fun t4 s =>
 oh (aCall Tryz.prog D 106 [t3.strip,t4.strip] s) fun t5 s =>
 br t5
  (oh (aLoad false false 1 (e 1) s) fun t6 s =>
 oh (mp (aBuildSlice Tryz.prog 215 1 [(0,(.str [40]))]) s) fun t7 s =>
 oh (aCall Tryz.prog D 106 [t6.strip,t7.strip] s) fun t8 s =>
 br t8
  (oh (aLoad false false 1 (e 1) s) fun t9 s =>
 oh (aLoad false false 1 (e 1) s) fun t10 s =>
 oh (some ((.fn 336 [t10] []),s)) fun t11 s =>
 oh (aCall Tryz.prog D 287 [t9.strip,(.int .i64 30),t11.strip] s) fun t12 s =>
 k0 (upds e [(3,t3),(4,t4),(5,t5),(6,t6),(7,t7),(8,t8),(9,t9),(10,t10),(11,t11),(12,t12)]) s)
  (oh (aLoad false false 1 (e 1) s) fun t13 s =>
 oh (aCall Tryz.prog D 107 [t13.strip] s) fun t14 s =>
 oh (some (t14,s)) fun t2 s =>
 oh (some (t2.strip,s)) fun t15 s =>
 oh (aCall Tryz.prog D 230 [t15.strip] s) fun t16 s =>
 oh (some (t16.strip,s)) fun t17 s =>
 oh (gd (wA t17 true) s (some (t2.strip,s))) fun t18 s =>
 oh (gd (wA t17 true) s (aCall Tryz.prog D 107 [t18.strip] s)) fun t19 s =>
 oh (gd (wA t17 true) s (mp (aBuildSlice Tryz.prog 215 1 [(0,(.str [40]))]) s)) fun t20 s =>
 oh (gd (wA t17 true) s (aCall Tryz.prog D 106 [t19.strip,t20.strip] s)) fun t21 s =>
 oh (mp (aPick t17 t21 (.bool false)) s) fun t22 s =>
 br t22
  (oh (aLoad false false 1 (e 1) s) fun t23 s =>
 oh (some ((.fn 343 [] [(e 1)]),s)) fun t24 s =>
 oh (aCall Tryz.prog D 287 [t23.strip,(.int .i64 31),t24.strip] s) fun t25 s =>
 k0 (upds e [(3,t3),(4,t4),(5,t5),(6,t6),(7,t7),(8,t8),(13,t13),(14,t14),(14,t14.strip),(2,t2),(15,t15),(16,t16),(17,t17),(18,t18),(19,t19),(20,t20),(21,t21),(22,t22),(23,t23),(24,t24),(25,t25)]) s)
  (oh (aLoad false false 1 (e 1) s) fun t26 s =>
 oh (some ((.fn 344 [] [(e 1)]),s)) fun t27 s =>
 oh (aCall Tryz.prog D 287 [t26.strip,(.int .i64 32),t27.strip] s) fun t28 s =>
 k0 (upds e [(3,t3),(4,t4),(5,t5),(6,t6),(7,t7),(8,t8),(13,t13),(14,t14),(14,t14.strip),(2,t2),(15,t15),(16,t16),(17,t17),(18,t18),(19,t19),(20,t20),(21,t21),(22,t22),(26,t26),(27,t27),(28,t28)]) s)))
  (some (.tup [],s))
noncomputable def F324 (D:Den)(n:Nat)(t0:AV)(s:Heap):Ans :=
 oh (aBox false 126 t0 s) fun t1 s =>
 aLoop (F324_L0 D n) n (upds (argEnv [t0]) [(1,t1)]) s
theorem F324_eq (n:Nat)(t0:AV)(s:Heap):den C (n+1) 324 [t0] s=F324 (den C n) n t0 s :=
 (den_body rfl Tryz.func324 _ _).trans (by kernel_rfl)
theorem en324:enterable Tryz.prog 324=true:=by kernel_rfl
-- (*parser.parser).pattern
noncomputable def F334 (D:Den)(n:Nat)(t0:AV)(s:Heap):Ans :=
 oh (aBox false 126 t0 s) fun t1 s =>
 oh (aLoad false false 1 t1 s) fun t3 s =>
 oh (aCall Tryz.prog D 105 [t3.strip] s) fun t4 s =>
 oh (aAlloc Tryz.prog 80 s) fun t2 s =>
 oh (sto (aStore 2 s t2 t4)) fun _r s =>
 oh (aLoad false false 1 t1 s) fun t8 s =>
 oh (mp (aBuildSlice Tryz.prog 215 1 [(0,(.str [109,117,116]))]) s) fun t9 s =>
 oh (aCall Tryz.prog D 106 [t8.strip,t9.strip] s) fun t10 s =>
 oh (some (t10,s)) fun t7 s =>
 br t7
  (oh (aLoad false false 1 t1 s) fun t11 s =>
 oh (some ((.fn 352 [] [t1]),s)) fun t12 s =>
 oh (aCall Tryz.prog D 110 [t11.strip,(.int .i64 44),t12.strip] s) fun t13 s =>
 some (.tup [],s))
  (oh (aLoad false false 1 t1 s) fun t15 s =>
 oh (aCall Tryz.prog D 230 [t15.strip] s) fun t16 s =>
 oh (some (t16.strip,s)) fun t17 s =>
 oh (gd (wA t17 true) s (mp (aAddr 1 t2) s)) fun t18 s =>
 oh (gd (wA t17 true) s (aLoad false false 1 t18 s)) fun t19 s =>
 oh (gd (wA t17 true) s (mp (aBin Tryz.prog .eql 9 t19 (.str [95])) s)) fun t20 s =>
 oh (mp (aPick t17 t20 (.bool false)) s) fun t21 s =>
 oh (some (t21,s)) fun t14 s =>
 br t14
  (oh (aLoad false false 1 t1 s) fun t22 s =>
 oh (aLoad false false 1 t1 s) fun t23 s =>
 oh (some ((.fn 113 [t23] []),s)) fun t24 s =>
 oh (aCall Tryz.prog D 110 [t22.strip,(.int .i64 43),t24.strip] s) fun t25 s =>
 some (.tup [],s))
  (oh (aLoad false false 1 t1 s) fun t27 s =>
 oh (aCall Tryz.prog D 230 [t27.strip] s) fun t28 s =>
 oh (some (t28.strip,s)) fun t29 s =>
 oh (gd (wA t29 true) s (aLoad false false 1 t1 s)) fun t30 s =>
 oh (gd (wA t29 true) s (aCall Tryz.prog D 107 [t30.strip] s)) fun t31 s =>
 oh (gd (wA t29 true) s (mp (aBuildSlice Tryz.prog 215 2 [(0,(.str [40])),(1,(.str [58,58]))]) s)) fun t32 s =>
 oh (gd (wA t29 true) s (aCall Tryz.prog D 106 [t31.strip,t32.strip] s)) fun t33 s =>
 oh (gd (wA t29 true) s (mp (aUn .not t33) s)) fun t34 s =>
 oh (mp (aPick t29 t34 (.bool false)) s) fun t35 s =>
 oh (some (t35,s)) fun t26 s =>
 br t26
  (oh (aLoad false false 1 t1 s) fun t36 s =>
 oh (aLoad false false 1 t1 s) fun t37 s =>
 oh (some ((.fn 113 [t37] []),s)) fun t38 s =>
 oh (aCall Tryz.prog D 110 [t36.strip,(.int .i64 44),t38.strip] s) fun t39 s =>
 some (.tup [],s))
  (oh (aLoad false false 1 t1 s) fun t41 s =>
 oh (aCall Tryz.prog D 230 [t41.strip] s) fun t42 s =>
 oh (some (t42,s)) fun t40 s =>
 br t40
  (oh (aLoad false false 1 t1 s) fun t43 s =>
 oh (some ((.fn 353 [] [t1]),s)) fun t44 s =>
 oh (aCall Tryz.prog D 110 [t43.strip,(.int .i64 45),t44.strip] s) fun t45 s =>
 some (.tup [],s))
  (oh (mp (aAddr 0 t2) s) fun t47 s =>
 oh (aLoad false false 1 t47 s) fun t48 s =>
 oh (mp (aBin Tryz.prog .eql 3 t48 (.int .i64 105)) s) fun t49 s =>
 oh (some (t49,s)) fun t46 s =>
 br t46
  (oh (aLoad false false 1 t1 s) fun t50 s =>
 oh (aLoad false false 1 t1 s) fun t51 s =>
 oh (some ((.fn 113 [t51] []),s)) fun t52 s =>
 oh (aCall Tryz.prog D 110 [t50.strip,(.int .i64 27),t52.strip] s) fun t53 s =>
 some (.tup [],s))
  (oh (aLoad false false 1 t1 s) fun t55 s =>
 oh (mp (aBuildSlice Tryz.prog 215 2 [(0,(.str [116,114,117,101])),(1,(.str [102,97,108,115,101]))]) s) fun t56 s =>
 oh (aCall Tryz.prog D 106 [t55.strip,t56.strip] s) fun t57 s =>
 oh (some (t57,s)) fun t54 s =>
 br t54
  (oh (aLoad false false 1 t1 s) fun t58 s =>
 oh (aLoad false false 1 t1 s) fun t59 s =>
 oh (some ((.fn 113 [t59] []),s)) fun t60 s =>
 oh (aCall Tryz.prog D 110 [t58.strip,(.int .i64 28),t60.strip] s) fun t61 s =>
 some (.tup [],s))
  (oh (aLoad false false 1 t1 s) fun t5 s =>
 oh (aCall Tryz.prog D 240 [t5.strip] s) fun t6 s =>
 some (.tup [],s)))))))
theorem F334_eq (n:Nat)(t0:AV)(s:Heap):den C (n+1) 334 [t0] s=F334 (den C n) n t0 s :=
 (den_body rfl Tryz.func334 _ _).trans (by kernel_rfl)
theorem en334:enterable Tryz.prog 334=true:=by kernel_rfl
-- (*parser.parser).primary 1
noncomputable def F335 (D:Den)(n:Nat)(t0:AV)(s:Heap):Ans :=
 oh (aLoad false false 1 t0 s) fun t1 s =>
 oh (aCall Tryz.prog D 113 [t1.strip] s) fun t2 s =>
 oh (aLoad false false 1 t0 s) fun t3 s =>
 oh (aCall Tryz.prog D 336 [t3.strip] s) fun t4 s =>
 some (.tup [],s)
theorem F335_eq (n:Nat)(t0:AV)(s:Heap):den C (n+1) 335 [t0] s=F335 (den C n) n t0 s :=
 (den_body rfl Tryz.func335 _ _).trans (by kernel_rfl)
theorem en335:enterable Tryz.prog 335=true:=by kernel_rfl
-- (*parser.parser).arguments
noncomputable def F336 (D:Den)(n:Nat)(t0:AV)(s:Heap):Ans :=
 oh (some (t0.strip,s)) fun t2 s =>
 oh (aCall Tryz.prog D 113 [t2.strip] s) fun t3 s =>
 oh (some (t0.strip,s)) fun t4 s =>
 oh (some (t0.strip,s)) fun t5 s =>
 oh (some ((.fn 186 [t5] []),s)) fun t6 s =>
 oh (aCall Tryz.prog D 228 [t4.strip,(.str [41]),t6.strip] s) fun t7 s =>
 some (.tup [],s)
theorem F336_eq (n:Nat)(t0:AV)(s:Heap):den C (n+1) 336 [t0] s=F336 (den C n) n t0 s :=
 (den_body rfl Tryz.func336 _ _).trans (by kernel_rfl)
theorem en336:enterable Tryz.prog 336=true:=by kernel_rfl
-- (*parser.parser).primary 2
noncomputable def F337 (D:Den)(n:Nat)(t0:AV)(s:Heap):Ans :=
 oh (aLoad false false 1 t0 s) fun t1 s =>
 oh (aCall Tryz.prog D 113 [t1.strip] s) fun t2 s =>
 oh (aLoad false false 1 t0 s) fun t3 s =>
 oh (aCall Tryz.prog D 186 [t3.strip] s) fun t4 s =>
 oh (aLoad false false 1 t0 s) fun t5 s =>
 oh (aCall Tryz.prog D 184 [t5.strip,(.str [41])] s) fun t6 s =>
 some (.tup [],s)
theorem F337_eq (n:Nat)(t0:AV)(s:Heap):den C (n+1) 337 [t0] s=F337 (den C n) n t0 s :=
 (den_body rfl Tryz.func337 _ _).trans (by kernel_rfl)
theorem en337:enterable Tryz.prog 337=true:=by kernel_rfl
-- (*parser.parser).ifExpr
noncomputable def F338 (D:Den)(n:Nat)(t0:AV)(s:Heap):Ans :=
 oh (aBox false 126 t0 s) fun t1 s =>
 oh (aLoad false false 1 t1 s) fun t2 s =>
 oh (some ((.fn 354 [] [t1]),s)) fun t3 s =>
 oh (aCall Tryz.prog D 110 [t2.strip,(.int .i64 37),t3.strip] s) fun t4 s =>
 some (.tup [],s)
theorem F338_eq (n:Nat)(t0:AV)(s:Heap):den C (n+1) 338 [t0] s=F338 (den C n) n t0 s :=
 (den_body rfl Tryz.func338 _ _).trans (by kernel_rfl)
theorem en338:enterable Tryz.prog 338=true:=by kernel_rfl
-- (*parser.parser).match
noncomputable def F339 (D:Den)(n:Nat)(t0:AV)(s:Heap):Ans :=
 oh (aBox false 126 t0 s) fun t1 s =>
 oh (aLoad false false 1 t1 s) fun t2 s =>
 oh (aCall Tryz.prog D 113 [t2.strip] s) fun t3 s =>
 oh (aLoad false false 1 t1 s) fun t4 s =>
 oh (aCall Tryz.prog D 186 [t4.strip] s) fun t5 s =>
 oh (aLoad false false 1 t1 s) fun t6 s =>
 oh (aCall Tryz.prog D 184 [t6.strip,(.str [123])] s) fun t7 s =>
 oh (aLoad false false 1 t1 s) fun t8 s =>
 oh (some ((.fn 356 [] [t1]),s)) fun t9 s =>
 oh (aCall Tryz.prog D 228 [t8.strip,(.str [125]),t9.strip] s) fun t10 s =>
 some (.tup [],s)
theorem F339_eq (n:Nat)(t0:AV)(s:Heap):den C (n+1) 339 [t0] s=F339 (den C n) n t0 s :=
 (den_body rfl Tryz.func339 _ _).trans (by kernel_rfl)
theorem en339:enterable Tryz.prog 339=true:=by kernel_rfl
-- (*parser.parser).structLit
noncomputable def F340 (D:Den)(n:Nat)(t0:AV)(s:Heap):Ans :=
 oh (aBox false 126 t0 s) fun t1 s =>
 oh (aLoad false false 1 t1 s) fun t2 s =>
 oh (aCall Tryz.prog D 113 [t2.strip] s) fun t3 s =>
 oh (aLoad false false 1 t1 s) fun t4 s =>
 oh (aCall Tryz.prog D 239 [t4.strip,(.bool false)] s) fun t5 s =>
 oh (aLoad false false 1 t1 s) fun t6 s =>
 oh (aCall Tryz.prog D 184 [t6.strip,(.str [123])] s) fun t7 s =>
 oh (aLoad false false 1 t1 s) fun t8 s =>
 oh (some ((.fn 359 [] [t1]),s)) fun t9 s =>
 oh (aCall Tryz.prog D 228 [t8.strip,(.str [125]),t9.strip] s) fun t10 s =>
 some (.tup [],s)
theorem F340_eq (n:Nat)(t0:AV)(s:Heap):den C (n+1) 340 [t0] s=F340 (den C n) n t0 s :=
 (den_body rfl Tryz.func340 _ _).trans (by kernel_rfl)
theorem en340:enterable Tryz.prog 340=true:=by kernel_rfl
-- (*parser.parser).lambda
noncomputable def F341_J0 (D:Den)(n:Nat)(e:Env)(s:Heap):Ans :=
 oh (some ((e 0).strip,s)) fun t13 s =>
 oh (aCall Tryz.prog D 186 [t13.strip] s) fun t14 s =>
 some (.tup [],s)
noncomputable def F341 (D:Den)(n:Nat)(t0:AV)(s:Heap):Ans :=
 oh (some (t0.strip,s)) fun t2 s =>
 oh (mp (aBuildSlice Tryz.prog 215 1 [(0,(.str [124,124]))]) s) fun t3 s =>
 oh (aCall Tryz.prog D 106 [t2.strip,t3.strip] s) fun t4 s =>
 br t4
  (oh (some (t0.strip,s)) fun t5 s =>
 oh (aCall Tryz.prog D 113 [t5.strip] s) fun t6 s =>
 oh (some (t0.strip,s)) fun t7 s =>
 oh (aCall Tryz.prog D 110 [t7.strip,(.int .i64 12),(.fn 361 [] [])] s) fun t8 s =>
 F341_J0 D n (upds (argEnv [t0]) [(2,t2),(3,t3),(4,t4),(5,t5),(6,t6),(7,t7),(8,t8)]) s)
  (oh (some (t0.strip,s)) fun t9 s =>
 oh (aCall Tryz.prog D 113 [t9.strip] s) fun t10 s =>
 oh (some (t0.strip,s)) fun t11 s =>
 oh (aCall Tryz.prog D 187 [t11.strip,(.str [124])] s) fun t12 s =>
 F341_J0 D n (upds (argEnv [t0]) [(2,t2),(3,t3),(4,t4),(9,t9),(10,t10),(11,t11),(12,t12)]) s)
theorem F341_eq (n:Nat)(t0:AV)(s:Heap):den C (n+1) 341 [t0] s=F341 (den C n) n t0 s :=
 (den_body rfl Tryz.func341 _ _).trans (by kernel_rfl)
theorem en341:enterable Tryz.prog 341=true:=by kernel_rfl
-- (*parser.parser).postfix 1
noncomputable def F343 (D:Den)(n:Nat)(t0:AV)(s:Heap):Ans :=
 oh (aLoad false false 1 t0 s) fun t1 s =>
 oh (aCall Tryz.prog D 113 [t1.strip] s) fun t2 s =>
 oh (aLoad false false 1 t0 s) fun t3 s =>
 oh (aCall Tryz.prog D 113 [t3.strip] s) fun t4 s =>
 oh (aLoad false false 1 t0 s) fun t5 s =>
 oh (aCall Tryz.prog D 336 [t5.strip] s) fun t6 s =>
 some (.tup [],s)
theorem F343_eq (n:Nat)(t0:AV)(s:Heap):den C (n+1) 343 [t0] s=F343 (den C n) n t0 s :=
 (den_body rfl Tryz.func343 _ _).trans (by kernel_rfl)
theorem en343:enterable Tryz.prog 343=true:=by kernel_rfl
-- (*parser.parser).postfix 2
noncomputable def F344 (D:Den)(n:Nat)(t0:AV)(s:Heap):Ans :=
 oh (aLoad false false 1 t0 s) fun t1 s =>
 oh (aCall Tryz.prog D 113 [t1.strip] s) fun t2 s =>
 oh (aLoad false false 1 t0 s) fun t3 s =>
 oh (aCall Tryz.prog D 181 [t3.strip] s) fun t4 s =>
 some (.tup [],s)
theorem F344_eq (n:Nat)(t0:AV)(s:Heap):den C (n+1) 344 [t0] s=F344 (den C n) n t0 s :=
 (den_body rfl Tryz.func344 _ _).trans (by kernel_rfl)
theorem en344:enterable Tryz.prog 344=true:=by kernel_rfl
-- (*parser.parser).pattern 1
noncomputable def F352 (D:Den)(n:Nat)(t0:AV)(s:Heap):Ans :=
 oh (aLoad false false 1 t0 s) fun t1 s =>
 oh (aCall Tryz.prog D 113 [t1.strip] s) fun t2 s =>
 oh (aLoad false false 1 t0 s) fun t3 s =>
 oh (aCall Tryz.prog D 181 [t3.strip] s) fun t4 s =>
 some (.tup [],s)
theorem F352_eq (n:Nat)(t0:AV)(s:Heap):den C (n+1) 352 [t0] s=F352 (den C n) n t0 s :=
 (den_body rfl Tryz.func352 _ _).trans (by kernel_rfl)
theorem en352:enterable Tryz.prog 352=true:=by kernel_rfl
-- (*parser.parser).pattern 2
noncomputable def F353 (D:Den)(n:Nat)(t0:AV)(s:Heap):Ans :=
 oh (aLoad false false 1 t0 s) fun t1 s =>
 oh (aCall Tryz.prog D 239 [t1.strip,(.bool false)] s) fun t2 s =>
 oh (aLoad false false 1 t0 s) fun t3 s =>
 oh (mp (aBuildSlice Tryz.prog 215 1 [(0,(.str [40]))]) s) fun t4 s =>
 oh (aCall Tryz.prog D 112 [t3.strip,t4.strip] s) fun t5 s =>
 br t5
  (oh (aLoad false false 1 t0 s) fun t6 s =>
 oh (aLoad false false 1 t0 s) fun t7 s =>
 oh (some ((.fn 334 [t7] []),s)) fun t8 s =>
 oh (aCall Tryz.prog D 228 [t6.strip,(.str [41]),t8.strip] s) fun t9 s =>
 some (.tup [],s))
  (some (.tup [],s))
theorem F353_eq (n:Nat)(t0:AV)(s:Heap):den C (n+1) 353 [t0] s=F353 (den C n) n t0 s :=
 (den_body rfl Tryz.func353 _ _).trans (by kernel_rfl)
theorem en353:enterable Tryz.prog 353=true:=by kernel_rfl
-- (*parser.parser).ifExpr 1
noncomputable def F354 (D:Den)(n:Nat)(t0:AV)(s:Heap):Ans :=
 oh (aLoad false false 1 t0 s) fun t1 s =>
 oh (aCall Tryz.prog D 113 [t1.strip] s) fun t2 s =>
 oh (aLoad false false 1 t0 s) fun t3 s =>
 oh (aCall Tryz.prog D 186 [t3.strip] s) fun t4 s =>
 oh (aLoad false false 1 t0 s) fun t5 s =>
 oh (aCall Tryz.prog D 227 [t5.strip] s) fun t6 s =>
 oh (aLoad false false 1 t0 s) fun t7 s =>
 oh (some ((.fn 355 [] [t0]),s)) fun t8 s =>
 oh (aCall Tryz.prog D 225 [t7.strip,(.str [101,108,115,101]),t8.strip] s) fun t9 s =>
 some (.tup [],s)
theorem F354_eq (n:Nat)(t0:AV)(s:Heap):den C (n+1) 354 [t0] s=F354 (den C n) n t0 s :=
 (den_body rfl Tryz.func354 _ _).trans (by kernel_rfl)
theorem en354:enterable Tryz.prog 354=true:=by kernel_rfl
-- (*parser.parser).ifExpr 1 1
noncomputable def F355 (D:Den)(n:Nat)(t0:AV)(s:Heap):Ans :=
 oh (aLoad false false 1 t0 s) fun t1 s =>
 oh (mp (aBuildSlice Tryz.prog 215 1 [(0,(.str [105,102]))]) s) fun t2 s =>
 oh (aCall Tryz.prog D 106 [t1.strip,t2.strip] s) fun t3 s =>
 br t3
  (oh (aLoad false false 1 t0 s) fun t4 s =>
 oh (aCall Tryz.prog D 338 [t4.strip] s) fun t5 s =>
 some (.tup [],s))
  (oh (aLoad false false 1 t0 s) fun t6 s =>
 oh (aCall Tryz.prog D 227 [t6.strip] s) fun t7 s =>
 some (.tup [],s))
theorem F355_eq (n:Nat)(t0:AV)(s:Heap):den C (n+1) 355 [t0] s=F355 (den C n) n t0 s :=
 (den_body rfl Tryz.func355 _ _).trans (by kernel_rfl)
theorem en355:enterable Tryz.prog 355=true:=by kernel_rfl
-- (*parser.parser).match 1
noncomputable def F356 (D:Den)(n:Nat)(t0:AV)(s:Heap):Ans :=
 oh (aLoad false false 1 t0 s) fun t1 s =>
 oh (aCall Tryz.prog D 357 [t1.strip] s) fun t2 s =>
 br t2
  (oh (aLoad false false 1 t0 s) fun t3 s =>
 oh (some ((.fn 358 [] [t0]),s)) fun t4 s =>
 oh (aCall Tryz.prog D 110 [t3.strip,(.int .i64 36),t4.strip] s) fun t5 s =>
 some (.tup [],s))
  (some (.tup [],s))
theorem F356_eq (n:Nat)(t0:AV)(s:Heap):den C (n+1) 356 [t0] s=F356 (den C n) n t0 s :=
 (den_body rfl Tryz.func356 _ _).trans (by kernel_rfl)
theorem en356:enterable Tryz.prog 356=true:=by kernel_rfl
-- (*parser.parser).atPattern
noncomputable def F357 (D:Den)(n:Nat)(t0:AV)(s:Heap):Ans :=
 oh (some ((.bool false),s)) fun t2 s =>
 oh (some (t0.strip,s)) fun t3 s =>
 oh (aCall Tryz.prog D 230 [t3.strip] s) fun t4 s =>
 oh (some (t4.strip,s)) fun t5 s =>
 oh (gd (wA t5 false) s (some (t0.strip,s))) fun t6 s =>
 oh (gd (wA t5 false) s (aCall Tryz.prog D 105 [t6.strip] s)) fun t7 s =>
 oh (gd (wA t5 false) s (mp (aField Tryz.prog 80 0 t7) s)) fun t8 s =>
 oh (gd (wA t5 false) s (mp (aBin Tryz.prog .eql 3 t8 (.int .i64 105)) s)) fun t9 s =>
 oh (mp (aPick t5 (.bool true) t9) s) fun t10 s =>
 oh (some (t10.strip,s)) fun t11 s =>
 oh (gd (wA t11 false) s (some (t0.strip,s))) fun t12 s =>
 oh (gd (wA t11 false) s (mp (aBuildSlice Tryz.prog 215 3 [(0,(.str [116,114,117,101])),(1,(.str [102,97,108,115,101])),(2,(.str [109,117,116]))]) s)) fun t13 s =>
 oh (gd (wA t11 false) s (aCall Tryz.prog D 106 [t12.strip,t13.strip] s)) fun t14 s =>
 oh (mp (aPick t11 (.bool true) t14) s) fun t15 s =>
 oh (some (t15,s)) fun t2_2 s =>
 some (t2_2,s)
theorem F357_eq (n:Nat)(t0:AV)(s:Heap):den C (n+1) 357 [t0] s=F357 (den C n) n t0 s :=
 (den_body rfl Tryz.func357 _ _).trans (by kernel_rfl)
theorem en357:enterable Tryz.prog 357=true:=by kernel_rfl
-- (*parser.parser).match 1 1
noncomputable def F358 (D:Den)(n:Nat)(t0:AV)(s:Heap):Ans :=
 oh (aLoad false false 1 t0 s) fun t1 s =>
 oh (aCall Tryz.prog D 334 [t1.strip] s) fun t2 s =>
 oh (aLoad false false 1 t0 s) fun t3 s =>
 oh (aCall Tryz.prog D 184 [t3.strip,(.str [61,62])] s) fun t4 s =>
 oh (aLoad false false 1 t0 s) fun t5 s =>
 oh (aCall Tryz.prog D 186 [t5.strip] s) fun t6 s =>
 some (.tup [],s)
theorem F358_eq (n:Nat)(t0:AV)(s:Heap):den C (n+1) 358 [t0] s=F358 (den C n) n t0 s :=
 (den_body rfl Tryz.func358 _ _).trans (by kernel_rfl)
theorem en358:enterable Tryz.prog 358=true:=by kernel_rfl
-- (*parser.parser).structLit 1
noncomputable def F359 (D:Den)(n:Nat)(t0:AV)(s:Heap):Ans :=
 oh (aLoad false false 1 t0 s) fun t1 s =>
 oh (aCall Tryz.prog D 230 [t1.strip] s) fun t2 s =>
 br t2
  (oh (aLoad false false 1 t0 s) fun t3 s =>
 oh (some ((.fn 360 [] [t0]),s)) fun t4 s =>
 oh (aCall Tryz.prog D 110 [t3.strip,(.int .i64 34),t4.strip] s) fun t5 s =>
 some (.tup [],s))
  (some (.tup [],s))
theorem F359_eq (n:Nat)(t0:AV)(s:Heap):den C (n+1) 359 [t0] s=F359 (den C n) n t0 s :=
 (den_body rfl Tryz.func359 _ _).trans (by kernel_rfl)
theorem en359:enterable Tryz.prog 359=true:=by kernel_rfl
-- (*parser.parser).structLit 1 1
noncomputable def F360 (D:Den)(n:Nat)(t0:AV)(s:Heap):Ans :=
 oh (aLoad false false 1 t0 s) fun t1 s =>
 oh (aCall Tryz.prog D 113 [t1.strip] s) fun t2 s =>
 oh (aLoad false false 1 t0 s) fun t3 s =>
 oh (aCall Tryz.prog D 184 [t3.strip,(.str [58])] s) fun t4 s =>
 oh (aLoad false false 1 t0 s) fun t5 s =>
 oh (aCall Tryz.prog D 186 [t5.strip] s) fun t6 s =>
 some (.tup [],s)
theorem F360_eq (n:Nat)(t0:AV)(s:Heap):den C (n+1) 360 [t0] s=F360 (den C n) n t0 s :=
 (den_body rfl Tryz.func360 _ _).trans (by kernel_rfl)
theorem en360:enterable Tryz.prog 360=true:=by kernel_rfl
-- (*parser.parser).lambda 1
noncomputable def F361 (D:Den)(n:Nat)(s:Heap):Ans :=
 some (.tup [],s)
theorem F361_eq (n:Nat)(s:Heap):den C (n+1) 361 [] s=F361 (den C n) n s :=
 (den_body rfl Tryz.func361 _ _).trans (by kernel_rfl)
theorem en361:enterable Tryz.prog 361=true:=by kernel_rfl
-- slices.Contains   string,string
noncomputable def F168 (D:Den)(n:Nat)(t0 t1:AV)(s:Heap):Ans :=
 oh (some ((.bool false),s)) fun t4 s =>
 oh (some (t0.strip,s)) fun t5 s =>
 oh (some (t1.strip,s)) fun t6 s =>
 oh (aCall Tryz.prog D 173 [t5.strip,t6.strip] s) fun t7 s =>
 oh (mp (aBin Tryz.prog .geq 3 t7 (.int .i64 0)) s) fun t8 s =>
 oh (some (t8,s)) fun t4_2 s =>
 some (t4_2,s)
theorem F168_eq (n:Nat)(t0 t1:AV)(s:Heap):den C (n+1) 168 [t0,t1] s=F168 (den C n) n t0 t1 s :=
 (den_body rfl Tryz.func168 _ _).trans (by kernel_rfl)
theorem en168:enterable Tryz.prog 168=true:=by kernel_rfl
-- slices.Index   string,string
noncomputable def F173_L0 (D:Den)(n:Nat)(k0:Env→Heap→Ans)(e:Env)(s:Heap):Ans :=
 oh (mp (aBin Tryz.prog .lss 3 (e 8) (e 7)) s) fun t9 s =>
 br t9
  (oh (some ((e 8).strip,s)) fun t10 s =>
 oh (some (t10,s)) fun t5 s =>
 oh (some ((e 1).strip,s)) fun t11 s =>
 oh (some ((e 0).strip,s)) fun t12 s =>
 oh (some (t5.strip,s)) fun t13 s =>
 oh (mp (aIndexAddr Tryz.prog 215 t12 t13) s) fun t14 s =>
 oh (aLoad false false 1 t14 s) fun t15 s =>
 oh (mp (aBin Tryz.prog .eql 9 t11 t15) s) fun t16 s =>
 br t16
  (oh (some (t5.strip,s)) fun t17 s =>
 oh (some (t17,s)) fun t4_2 s =>
 some (t4_2,s))
  (oh (mp (aBin Tryz.prog .add 3 (e 8) (.int .i64 1)) s) fun t18 s =>
 oh (some (t18.strip,s)) fun t8_2 s =>
 k0 (upds e [(9,t9),(10,t10),(10,t10.strip),(5,t5),(11,t11),(12,t12),(13,t13),(14,t14),(15,t15),(16,t16),(18,t18),(8,t8_2)]) s))
  (oh (some ((.int .i64 (-1)),s)) fun t4_3 s =>
 some (t4_3,s))
noncomputable def F173 (D:Den)(n:Nat)(t0 t1:AV)(s:Heap):Ans :=
 oh (some ((.int .i64 0),s)) fun t4 s =>
 oh (some (t0.strip,s)) fun t6 s =>
 oh (mp (aLen Tryz.prog 215 t6) s) fun t7 s =>
 oh (some ((.int .i64 0),s)) fun t8 s =>
 aLoop (F173_L0 D n) n (upds (argEnv [t0,t1]) [(4,t4),(6,t6),(7,t7),(8,t8)]) s
theorem F173_eq (n:Nat)(t0 t1:AV)(s:Heap):den C (n+1) 173 [t0,t1] s=F173 (den C n) n t0 t1 s :=
 (den_body rfl Tryz.func173 _ _).trans (by kernel_rfl)
theorem en173:enterable Tryz.prog 173=true:=by kernel_rfl
-- parser.Source
noncomputable def F33_L0 (D:Den)(n:Nat)(k0:Env→Heap→Ans)(e:Env)(s:Heap):Ans :=
 oh (mp (aBin Tryz.prog .lss 3 (e 14) (e 13)) s) fun t15 s =>
 br t15
  (oh (mp (aIndexAddr Tryz.prog 50 (e 12) (e 14)) s) fun t16 s =>
 oh (aLoad false true 3 t16 s) fun t17 s =>
 oh (aAlloc Tryz.prog 52 s) fun t5 s =>
 oh (sto (aStore 3 s t5 t17)) fun _r s =>
 oh (aLoad false true 3 t5 s) fun t18 s =>
 oh (aCall Tryz.prog D 33 [t18.strip] s) fun t19 s =>
 oh (aCall Tryz.prog D 50 [(e 3).strip,t19.strip] s) fun t20 s =>
 oh (mp (aBin Tryz.prog .add 3 (e 14) (.int .i64 1)) s) fun t21 s =>
 oh (some (t21.strip,s)) fun t14_2 s =>
 k0 (upds e [(15,t15),(16,t16),(17,t17),(5,t5),(17,t17.strip),(18,t18),(19,t19),(20,t20),(21,t21),(14,t14_2)]) s)
  (oh (aCall Tryz.prog D 51 [(e 3).strip] s) fun t22 s =>
 oh (some (t22,s)) fun t2_3 s =>
 some (t2_3,s))
noncomputable def F33 (D:Den)(n:Nat)(t0:AV)(s:Heap):Ans :=
 oh (aBox false 52 t0 s) fun t1 s =>
 oh (some ((.str []),s)) fun t2 s =>
 oh (mp (aAddr 0 t1) s) fun t6 s =>
 oh (aLoad false false 1 t6 s) fun t7 s =>
 oh (mp (aBin Tryz.prog .geq 3 t7 (.int .i64 100)) s) fun t8 s =>
 br t8
  (oh (mp (aAddr 1 t1) s) fun t9 s =>
 oh (aLoad false false 1 t9 s) fun t10 s =>
 oh (some (t10,s)) fun t2_2 s =>
 some (t2_2,s))
  (oh (aAlloc Tryz.prog 112 s) fun t3 s =>
 oh (mp (aAddr 2 t1) s) fun t11 s =>
 oh (aLoad false false 1 t11 s) fun t12 s =>
 oh (mp (aLen Tryz.prog 50 t12) s) fun t13 s =>
 oh (some ((.int .i64 0),s)) fun t14 s =>
 aLoop (F33_L0 D n) n (upds (argEnv [t0]) [(1,t1),(2,t2),(6,t6),(7,t7),(8,t8),(3,t3),(11,t11),(12,t12),(13,t13),(14,t14)]) s)
theorem F33_eq (n:Nat)(t0:AV)(s:Heap):den C (n+1) 33 [t0] s=F33 (den C n) n t0 s :=
 (den_body rfl Tryz.func33 _ _).trans (by kernel_rfl)
theorem en33:enterable Tryz.prog 33=true:=by kernel_rfl
-- (*strings.Builder).WriteString
noncomputable def F50 (D:Den)(n:Nat)(t0 t1:AV)(s:Heap):Ans :=
 oh (some ((.int .i64 0),s)) fun t4 s =>
 oh (some (.nili,s)) fun t5 s =>
 oh (some (t0.strip,s)) fun t6 s =>
 oh (aCall Tryz.prog D 101 [t6.strip] s) fun t7 s =>
 oh (some (t0.strip,s)) fun t8 s =>
 oh (some (t0.strip,s)) fun t9 s =>
 oh (mp (aNilCheck t9) s) fun t10 s =>
 oh (mp (aAddr 1 t10) s) fun t11 s =>
 oh (aLoad true false 1 t11 s) fun t12 s =>
 oh (some (t1.strip,s)) fun t13 s =>
 oh (mp (aAppend Tryz.prog 110 9 t12 t13) s) fun t14 s =>
 oh (mp (aNilCheck t8) s) fun t15 s =>
 oh (mp (aAddr 1 t15) s) fun t16 s =>
 oh (sto (aStore 1 s t16 t14)) fun _r s =>
 oh (some (t1.strip,s)) fun t17 s =>
 oh (mp (aLen Tryz.prog 9 t17) s) fun t18 s =>
 oh (some (t18,s)) fun t4_2 s =>
 oh (some (.nili,s)) fun t5_2 s =>
 some (.tup [t4_2,t5_2],s)
theorem F50_eq (n:Nat)(t0 t1:AV)(s:Heap):den C (n+1) 50 [t0,t1] s=F50 (den C n) n t0 t1 s :=
 (den_body rfl Tryz.func50 _ _).trans (by kernel_rfl)
theorem en50:enterable Tryz.prog 50=true:=by kernel_rfl
-- glossatorkeep1.sameTree
noncomputable def F25_L0 (D:Den)(n:Nat)(k0:Env→Heap→Ans)(e:Env)(s:Heap):Ans :=
 oh (mp (aBin Tryz.prog .lss 3 (e 30) (e 29)) s) fun t31 s =>
 br t31
  (oh (some ((e 30).strip,s)) fun t32 s =>
 oh (some (t32,s)) fun t5 s =>
 oh (mp (aAddr 2 (e 2)) s) fun t33 s1 =>
 oh (aLoad false false 1 t33 s1) fun t34 s2 =>
 oh (some (t5.strip,s2)) fun t35 s3 =>
 oh (mp (aIndexAddr Tryz.prog 50 t34 t35) s3) fun t36 s4 =>
 oh (aLoad false true 3 t36 s4) fun t37 s5 =>
 oh (mp (aAddr 2 (e 3)) s5) fun t38 s6 =>
 oh (aLoad false false 1 t38 s6) fun t39 s7 =>
 oh (some (t5.strip,s7)) fun t40 s8 =>
 oh (mp (aIndexAddr Tryz.prog 50 t39 t40) s8) fun t41 s9 =>
 oh (aLoad false true 3 t41 s9) fun t42 s10 =>
 oh (aCall Tryz.prog D 25 [t37.strip,t42.strip] s10) fun t43 s11 =>
 oh (mp (aUn .not t43) s11) fun t44 s12 =>
 drawOK C 25 (regOps Tryz.f25 6) [.silent,(kLoad false t33),.silent,.silent,(kLoad false t36),.silent,(kLoad false t38),.silent,.silent,(kLoad false t41),(dyn (kCall [t37.strip,t42.strip]) s10 s11),.silent] <|
 br t44
  (oh (some ((.bool false),s12)) fun t4_3 s =>
 some (t4_3,s))
  (oh (mp (aBin Tryz.prog .add 3 (e 30) (.int .i64 1)) s12) fun t45 s =>
 oh (some (t45.strip,s)) fun t30_2 s =>
 k0 (upds e [(31,t31),(32,t32),(32,t32.strip),(5,t5),(33,t33),(34,t34),(35,t35),(36,t36),(37,t37),(38,t38),(39,t39),(40,t40),(41,t41),(42,t42),(43,t43),(44,t44),(45,t45),(30,t30_2)]) s))
  (oh (some ((.bool true),s)) fun t4_4 s =>
 some (t4_4,s))
noncomputable def F25 (D:Den)(n:Nat)(t0 t1:AV)(s:Heap):Ans :=
 oh (aBox false 52 t0 s) fun t2 s =>
 oh (aBox false 52 t1 s) fun t3 s =>
 oh (some ((.bool false),s)) fun t4 s =>
 oh (mp (aAddr 0 t2) s) fun t6 s =>
 oh (aLoad false false 1 t6 s) fun t7 s =>
 oh (mp (aAddr 0 t3) s) fun t8 s =>
 oh (aLoad false false 1 t8 s) fun t9 s =>
 oh (mp (aBin Tryz.prog .neq 3 t7 t9) s) fun t10 s =>
 oh (some (t10.strip,s)) fun t11 s =>
 oh (gd (wA t11 false) s (mp (aAddr 1 t2) s)) fun t12 s =>
 oh (gd (wA t11 false) s (aLoad false false 1 t12 s)) fun t13 s =>
 oh (gd (wA t11 false) s (mp (aAddr 1 t3) s)) fun t14 s =>
 oh (gd (wA t11 false) s (aLoad false false 1 t14 s)) fun t15 s =>
 oh (gd (wA t11 false) s (mp (aBin Tryz.prog .neq 9 t13 t15) s)) fun t16 s =>
 oh (mp (aPick t11 (.bool true) t16) s) fun t17 s =>
 oh (some (t17.strip,s)) fun t18 s =>
 oh (gd (wA t18 false) s (mp (aAddr 2 t2) s)) fun t19 s =>
 oh (gd (wA t18 false) s (aLoad false false 1 t19 s)) fun t20 s =>
 oh (gd (wA t18 false) s (mp (aLen Tryz.prog 50 t20) s)) fun t21 s =>
 oh (gd (wA t18 false) s (mp (aAddr 2 t3) s)) fun t22 s =>
 oh (gd (wA t18 false) s (aLoad false false 1 t22 s)) fun t23 s =>
 oh (gd (wA t18 false) s (mp (aLen Tryz.prog 50 t23) s)) fun t24 s =>
 oh (gd (wA t18 false) s (mp (aBin Tryz.prog .neq 3 t21 t24) s)) fun t25 s =>
 oh (mp (aPick t18 (.bool true) t25) s) fun t26 s =>
 br t26
  (oh (some ((.bool false),s)) fun t4_2 s =>
 some (t4_2,s))
  (oh (mp (aAddr 2 t2) s) fun t27 s =>
 oh (aLoad false false 1 t27 s) fun t28 s =>
 oh (mp (aLen Tryz.prog 50 t28) s) fun t29 s =>
 oh (some ((.int .i64 0),s)) fun t30 s =>
 aLoop (F25_L0 D n) n (upds (argEnv [t0,t1]) [(2,t2),(3,t3),(4,t4),(6,t6),(7,t7),(8,t8),(9,t9),(10,t10),(11,t11),(12,t12),(13,t13),(14,t14),(15,t15),(16,t16),(17,t17),(18,t18),(19,t19),(20,t20),(21,t21),(22,t22),(23,t23),(24,t24),(25,t25),(26,t26),(27,t27),(28,t28),(29,t29),(30,t30)]) s)
theorem F25_eq (n:Nat)(t0 t1:AV)(s:Heap):den C (n+1) 25 [t0,t1] s=F25 (den C n) n t0 t1 s :=
 (den_body rfl Tryz.func25 _ _).trans (by kernel_rfl)
theorem en25:enterable Tryz.prog 25=true:=by kernel_rfl
-- glossatorkeep1.short
noncomputable def F22 (D:Den)(n:Nat)(t0 t1:AV)(s:Heap):Ans :=
 oh (some ((.str []),s)) fun t4 s =>
 oh (some (t0.strip,s)) fun t5 s =>
 oh (some (t0.strip,s)) fun t6 s =>
 oh (mp (aLen Tryz.prog 9 t6) s) fun t7 s =>
 oh (some (t1.strip,s)) fun t8 s =>
 oh (mp (aMin t7 t8) s) fun t9 s =>
 oh (mp (aSl Tryz.prog 9 t5 none (some t9) none) s) fun t10 s =>
 oh (some (t10,s)) fun t4_2 s =>
 some (t4_2,s)
theorem F22_eq (n:Nat)(t0 t1:AV)(s:Heap):den C (n+1) 22 [t0,t1] s=F22 (den C n) n t0 t1 s :=
 (den_body rfl Tryz.func22 _ _).trans (by kernel_rfl)
theorem en22:enterable Tryz.prog 22=true:=by kernel_rfl
-- glossatorkeep1.ParserLossless
end ParF
end
