/- ParC, ParF -/
import Derived.Test.YtndfoijecakkfaaGreatDoorB
import Derived.Test.YtndfoijecakkfaaGreatDoorProg
import Derived.KernelRfl
import Derived.Lib.Bytealg
import Derived.Lib.Fields
import Derived.Lib.BitFns
import Derived.Sort.Defs
set_option linter.all false
set_option maxRecDepth 10000

section
namespace ParF
open Go Go.Abs Go.Proofs
def u0 (args:List AV)(s:ag):Option (AV×ag):=match args with
 | [.str a,.int .u8 c]=>some (.int .i64 (Lib.indexByte a c.toNat.toUInt8),s)
 | _=>none
def tT (args:List AV)(s:ag):Option (AV×ag):=match args with
 | [.str a,.str b]=>some (.bool (Lib.hasPrefix a b),s)
 | _=>none
def lS (args:List AV)(s:ag):Option (AV×ag):=match args with
 | [.str a]=>if a.length<1000∧(a.all fun b=>b.toNat<128)=true then some (.sl 9 1 ((Lib.fields a).map .str) .sh,s) else none
 | _=>none
def nN (args:List AV)(s:ag):Option (AV×ag):=match args with
 | [.rs ty z id 0 len,.int .i64 k,.sl _ _ [x] _]=>match s[id]? with
  | some cs=>if cs.1=ty∧ty=89∧z=3∧0<len∧k=len-1∧x.cells.length=3∧len*3≤cs.2.length∧len<1000000000∧((cs.2.drop ((len-1)*3)).take 3).all (fun a=>!a.ct)=true then
    some (.rs ty 3 s.length 0 (len+1),kill s id++[(ty,cs.2.take ((len-1)*3)++x.cells.map AV.aa++(cs.2.drop ((len-1)*3)).take 3)]) else none
  | none=>none
 | _=>none
def digitsOf (x:List UInt8):Nat:=x.foldl (fun n c=>n*10+(c.toNat-48)) 0
def AO (args:List AV)(s:ag):Option (AV×ag):=match args with
 | [.str a]=>if a≠[]∧(a.all fun b=>decide (48≤b.toNat)&&decide (b.toNat≤57))=true∧a.length<100000 then
   (if digitsOf a≤9223372036854775807 then some (.aI [.int .i64 (digitsOf a),.gA],s) else some (.aI [.int .i64 9223372036854775807,.wx],s)) else none
 | _=>none
structure Dr where
 (c s e:Int)
 deriving DecidableEq,Inhabited
def Dr.row (d:Dr):List AV:=[.int .i64 d.c,.int .i64 0,.int .i64 d.s,.int .i64 d.e,.str []]
def Es:List AV→Option (List Dr)
 | []=>some []
 | .int .i64 c::.int .i64 0::.int .i64 s::.int .i64 e::.str []::r=>(Es r).map (⟨c,s,e⟩::·)
 | _=>none
def fp (a b:Int):Int:=if a<b then -1 else if b<a then 1 else 0
def WS (a b:Int):Int:=if a≠0 then a else b
def Dr.cmp (a b:Dr):Int:=WS (fp a.s b.s) (WS (fp a.e b.e) (fp a.c b.c))
def yH (d:List Dr):List Dr:=if d.length<2 then d else(Sort.pdq (fun x y=>decide (Dr.cmp x y<0)) d.toArray 0 d.length (Lib.bitLen d.length) true true).toList
def xh (args:List AV)(s:ag):Option (AV×ag):=match args with
 | [.aN,.fn 49 [] []]=>some (.aI [],s)
 | [.rs ty z id 0 len,.fn 49 [] []]=>match s[id]? with
  | some cs=>if cs.1=71∧ty=71∧z=5∧len*5≤cs.2.length∧len<1000000 then
    (Es (cs.2.take (len*5))).map fun d=>(.aI [],s.set id (71,(yH d).flatMap Dr.row++cs.2.drop (len*5))) else none
  | none=>none
 | _=>none
def fq:List Dr→List Dr
 | []=>[]
 | [d]=>[d]
 | a::b::r=>if a=b then fq (b::r) else a::fq (b::r)
def pC (args:List AV)(s:ag):Option (AV×ag):=match args with
 | [.aN]=>some (.aN,s)
 | [.rs ty z id 0 len]=>match s[id]? with
  | some cs=>if cs.1=71∧ty=71∧z=5∧len*5≤cs.2.length∧len<1000000 then
    (Es (cs.2.take (len*5))).map fun d=>(.sl 71 5 ((fq d).map fun r=>.agg r.row) .sh,kill s id) else none
  | none=>none
 | _=>none
def refs:List (Nat×Nat):=[(100,13),(100,15),(103,14),(153,23),(142,16),(210,48),(210,52),(46,18),(46,20),(46,33),(47,44),(47,55),(110,18),(31,20),(24,11),(24,26),(24,54),(24,70),(32,45),(29,24),(54,68),(19,19),(19,9),(11,4),(3,29),(3,42)]
def aba:List (Nat×Nat):=[(6,27),(9,16),(14,30),(23,34),(23,46),(55,40),(74,54),(126,12),(127,40),(129,38)]
noncomputable def C:dX:={ P:=Tryz.prog,sO:=fun _=>none,ext:=fun g=>if g=97 then some u0 else if g=88 then some tT else if g=137 then some lS else if g=182 then some nN else if g=193 then some (mV 187) else if g=157 then some (kF 5) else if g=155 then some AO else if g=48 then some xh else if g=50 then some pC else none,ref:=fun f t=>refs.contains (f,t),own:=fun f t=>aba.contains (f,t) }
end ParF
end

section
namespace ParF
open Go Go.Abs Go.Proofs
-- parser.Parse
noncomputable def u4 (D:a8)(n:Nat)(k0:Env→ag→aU)(e:Env)(s:ag):aU :=
 oh (some ((e 6).aa,s)) fun t21 s =>oh (ab Tryz.prog D 64 [t21.aa] s) fun t22 s =>oh (mp (pF .not t22) s) fun t23 s =>
 br t23 (oh (some ((e 6).aa,s)) fun t24 s =>oh (ab Tryz.prog D 65 [t24.aa] s) fun t25 s =>
 k0 (bf e [(21,t21),(22,t22),(23,t23),(24,t24),(25,t25)]) s) (oh (some ((e 6).aa,s)) fun t26 s =>oh (ab Tryz.prog D 66 [t26.aa] s) fun t27 s =>oh (some ((e 6).aa,s)) fun t28 s =>oh (mp (au t28) s) fun t29 s =>oh (mp (aD 2 t29) s) fun t30 s =>oh (af false false 1 t30 s) fun t31 s =>oh (mp (aA Tryz.prog 87 t31 (.int .i64 0)) s) fun t32 s =>oh (wD (af false true 3 t32 s)) fun t33 s =>oh (dZ (aB 3 s (e 2) t33.aa)) fun _r s =>oh (some ((.int .i64 0),s)) fun ru s =>
 uU ((wG [(af false true 3 (e 2) s).map (·.1),some ru]).map .aI) s)
noncomputable def F46 (D:a8)(n:Nat)(t0:AV)(s:ag):aU :=
 oh (bH Tryz.prog 89 s) fun t2 s =>oh (some ((.int .i64 0),s)) fun t3 s =>oh (some (t0.aa,s)) fun t8 s =>oh (ab Tryz.prog D 63 [t8.aa] s) fun t9 s =>oh (some (t9.aa,s)) fun t7 s =>oh (mp (bW 0 t7) s) fun t10 s =>oh (mp (bW 1 t7) s) fun t11 s =>oh (some (t10,s)) fun t4 s =>oh (some (t11,s)) fun t5 s =>oh (some (t5.aa,s)) fun t12 s =>oh (mp (aK Tryz.prog .neq 30 t12 (.int .i64 0)) s) fun t13 s =>
 br t13 (oh (mp (bn Tryz.prog 89 []) s) fun t14 s =>oh (some (t5.aa,s)) fun t15 s =>oh (dZ (aB 3 s t2 t14)) fun _r s =>oh (some (t15,s)) fun lT s =>
 uU ((wG [(af false true 3 t2 s).map (·.1),some lT]).map .aI) s) (oh (some (t4.aa,s)) fun t16 s =>oh (mp (bn Tryz.prog 89 [(0,(.int .i64 1))]) s) fun t17 s =>oh (fN Tryz.prog 87 1 [(0,t17)] s) fun t18 s =>oh (mp (bn Tryz.prog 116 [(0,t16),(2,t18)]) s) fun t19 s =>oh (cL true 116 t19 s) fun t20 s =>oh (some (t20,s)) fun t6 s =>
 aJ (u4 D n) n (bf (aH [t0]) [(2,t2),(3,t3),(8,t8),(9,t9),(7,t7),(10,t10),(11,t11),(10,t10.aa),(4,t4),(11,t11.aa),(5,t5),(12,t12),(13,t13),(16,t16),(17,t17),(18,t18),(19,t19),(20,t20),(20,t20.aa),(6,t6)]) s)
theorem Sm (n:Nat)(t0:AV)(s:ag):den C (n+1) 46 [t0] s=F46 (den C n) n t0 s :=
 (am rfl Tryz.func46 _ _).trans (by kernel_rfl)
theorem abb:ah Tryz.prog 46=true:=by kernel_rfl
-- (*parser.parser).atEOF
noncomputable def F64 (D:a8)(n:Nat)(t0:AV)(s:ag):aU :=
 oh (some ((.bool false),s)) fun t2 s =>oh (some (t0.aa,s)) fun t3 s =>oh (ab Tryz.prog D 98 [t3.aa] s) fun t4 s =>oh (mp (lL Tryz.prog 147 0 t4) s) fun t5 s =>oh (mp (aK Tryz.prog .eql 3 t5 (.int .i64 100)) s) fun t6 s =>oh (some (t6,s)) fun t2_2 s =>
 some (t2_2,s)
theorem Sn (n:Nat)(t0:AV)(s:ag):den C (n+1) 64 [t0] s=F64 (den C n) n t0 s :=
 (am rfl Tryz.func64 _ _).trans (by kernel_rfl)
theorem abc:ah Tryz.prog 64=true:=by kernel_rfl
-- (*parser.parser).item
noncomputable def u5 (D:a8)(n:Nat)(e:Env)(s:ag):aU :=
 oh (mp (aD 1 (e 2)) s) fun t12 s =>oh (af false false 1 t12 s) fun t13 s =>oh (ab Tryz.prog D 101 [t13.aa] s) fun t14 s =>oh (bH Tryz.prog 3 s) fun t3 s =>oh (dZ (aB 1 s t3 t14)) fun _r s =>oh (af false false 1 t3 s) fun t15 s =>oh (mp (aK Tryz.prog .eql 3 t15 (.int .i64 0)) s) fun t16 s =>oh (some (t16.aa,s)) fun t17 s =>oh (gd (wA t17 false) s (mp (aD 0 (e 2)) s)) fun t18 s =>oh (gd (wA t17 false) s (af false false 1 t18 s)) fun t19 s =>oh (gd (wA t17 false) s (mp (aK Tryz.prog .neq 3 t19 (.int .i64 104)) s)) fun t20 s =>oh (mp (bQ t17 (.bool true) t20) s) fun t21 s =>
 br t21 (oh (af false false 1 (e 1) s) fun t22 s =>oh (ab Tryz.prog D 102 [t22.aa] s) fun t23 s =>
 some (.aI [],s)) (oh (af false false 1 (e 1) s) fun t24 s =>oh (af false false 1 t3 s) fun t25 s =>oh (some ((.fn 104 [] [(e 1),t3]),s)) fun t26 s =>oh (ab Tryz.prog D 103 [t24.aa,t25.aa,t26.aa] s) fun t27 s =>
 some (.aI [],s))
noncomputable def F65 (D:a8)(n:Nat)(t0:AV)(s:ag):aU :=
 oh (cL false 114 t0 s) fun t1 s =>oh (af false false 1 t1 s) fun t4 s =>oh (ab Tryz.prog D 98 [t4.aa] s) fun t5 s =>oh (bH Tryz.prog 147 s) fun t2 s =>oh (dZ (aB 2 s t2 t5)) fun _r s =>oh (af false false 1 t1 s) fun t6 s =>oh (mp (ak Tryz.prog 75 1 [(0,(.str [112,117,98]))]) s) fun t7 s =>oh (ab Tryz.prog D 99 [t6.aa,t7.aa] s) fun t8 s =>
 br t8 (oh (af false false 1 t1 s) fun t9 s =>oh (ab Tryz.prog D 100 [t9.aa] s) fun t10 s =>oh (ab Tryz.prog D 98 [t10.aa] s) fun t11 s =>oh (dZ (aB 2 s t2 t11)) fun _r s =>
 u5 D n (bf (aH [t0]) [(1,t1),(4,t4),(5,t5),(2,t2),(5,t5.aa),(6,t6),(7,t7),(8,t8),(9,t9),(10,t10),(11,t11),(11,t11.aa)]) s)
  (u5 D n (bf (aH [t0]) [(1,t1),(4,t4),(5,t5),(2,t2),(5,t5.aa),(6,t6),(7,t7),(8,t8)]) s)
theorem IX (n:Nat)(t0:AV)(s:ag):den C (n+1) 65 [t0] s=F65 (den C n) n t0 s :=
 (am rfl Tryz.func65 _ _).trans (by kernel_rfl)
theorem WT:ah Tryz.prog 65=true:=by kernel_rfl
-- (*parser.parser).skipTrivia
noncomputable def u6 (D:a8)(n:Nat)(k0:Env→ag→aU)(e:Env)(s:ag):aU :=
 oh (some ((e 0).aa,s)) fun t2 s1 =>oh (mp (au t2) s1) fun t3 s2 =>oh (mp (aD 1 t3) s2) fun t4 s3 =>oh (af false false 1 t4 s3) fun t5 s4 =>oh (some ((e 0).aa,s4)) fun t6 s5 =>oh (mp (au t6) s5) fun t7 s6 =>oh (mp (aD 0 t7) s6) fun t8 s7 =>oh (af false false 1 t8 s7) fun t9 s8 =>oh (mp (bN Tryz.prog 111 t9) s8) fun t10 s9 =>oh (mp (aK Tryz.prog .lss 3 t5 t10) s9) fun t11 s10 =>oh (some (t11.aa,s10)) fun t12 s11 =>oh (gd (wA t12 true) s11 (some ((e 0).aa,s11))) fun t13 s12 =>oh (gd (wA t12 true) s12 (mp (au t13) s12)) fun t14 s13 =>oh (gd (wA t12 true) s13 (mp (aD 0 t14) s13)) fun t15 s14 =>oh (gd (wA t12 true) s14 (af false false 1 t15 s14)) fun t16 s15 =>oh (gd (wA t12 true) s15 (some ((e 0).aa,s15))) fun t17 s16 =>oh (gd (wA t12 true) s16 (mp (au t17) s16)) fun t18 s17 =>oh (gd (wA t12 true) s17 (mp (aD 1 t18) s17)) fun t19 s18 =>oh (gd (wA t12 true) s18 (af false false 1 t19 s18)) fun t20 s19 =>oh (gd (wA t12 true) s19 (mp (aA Tryz.prog 111 t16 t20) s19)) fun t21 s20 =>oh (gd (wA t12 true) s20 (mp (aD 0 t21) s20)) fun t22 s21 =>oh (gd (wA t12 true) s21 (af false false 1 t22 s21)) fun t23 s22 =>oh (gd (wA t12 true) s22 (ab Tryz.prog D 108 [t23.aa] s22)) fun t24 s23 =>oh (mp (bQ t12 t24 (.bool false)) s23) fun t25 s24 =>
 ba C 66 (bo Tryz.f66 0) [.ae,.ae,.ae,(bz false t4),.ae,.ae,.ae,(bz false t8),.ae,.ae,.ae,(iz (wA t12 true) .ae),(iz (wA t12 true) .ae),(iz (wA t12 true) .ae),(iz (wA t12 true) (bz false t15)),(iz (wA t12 true) .ae),(iz (wA t12 true) .ae),(iz (wA t12 true) .ae),(iz (wA t12 true) (bz false t19)),(iz (wA t12 true) .ae),(iz (wA t12 true) .ae),(iz (wA t12 true) (bz false t22)),(iz (wA t12 true) (dyn (ee [t23.aa]) s22 s23)),.ae] <|
 br t25 (oh (some ((e 0).aa,s24)) fun t26 s =>oh (ab Tryz.prog D 109 [t26.aa] s) fun t27 s =>
 k0 (bf e [(2,t2),(3,t3),(4,t4),(5,t5),(6,t6),(7,t7),(8,t8),(9,t9),(10,t10),(11,t11),(12,t12),(13,t13),(14,t14),(15,t15),(16,t16),(17,t17),(18,t18),(19,t19),(20,t20),(21,t21),(22,t22),(23,t23),(24,t24),(25,t25),(26,t26),(27,t27)]) s)
  (some (.aI [],s24))
noncomputable def F66 (D:a8)(n:Nat)(t0:AV)(s:ag):aU :=
 aJ (u6 D n) n (aH [t0]) s
theorem Sq (n:Nat)(t0:AV)(s:ag):den C (n+1) 66 [t0] s=F66 (den C n) n t0 s :=
 (am rfl Tryz.func66 _ _).trans (by kernel_rfl)
theorem IY {g0 g1 g2 g3:Nat}(x:aU):ba C 66 (bo Tryz.f66 0) [.ae,.ae,.ae,.get g0,.ae,.ae,.ae,.get g1,.ae,.ae,.ae,.ae,.ae,.ae,.get g2,.ae,.ae,.ae,.get g3,.ae,.ae,.ae,.ae,.ae] x=x:=bT (by kernel_rfl)
theorem abd:ah Tryz.prog 66=true:=by kernel_rfl
-- (*parser.parser).peek
noncomputable def u7 (D:a8)(n:Nat)(k0:Env→ag→aU)(e:Env)(s:ag):aU :=
 oh (some ((e 3).aa,s)) fun t8 s =>oh (some ((e 0).aa,s)) fun t9 s =>oh (mp (au t9) s) fun t10 s =>oh (mp (aD 0 t10) s) fun t11 s =>oh (af false false 1 t11 s) fun t12 s =>oh (mp (bN Tryz.prog 111 t12) s) fun t13 s =>oh (mp (aK Tryz.prog .lss 3 t8 t13) s) fun t14 s =>oh (some (t14.aa,s)) fun t15 s =>oh (gd (wA t15 true) s (some ((e 0).aa,s))) fun t16 s =>oh (gd (wA t15 true) s (mp (au t16) s)) fun t17 s =>oh (gd (wA t15 true) s (mp (aD 0 t17) s)) fun t18 s =>oh (gd (wA t15 true) s (af false false 1 t18 s)) fun t19 s =>oh (gd (wA t15 true) s (some ((e 3).aa,s))) fun t20 s =>oh (gd (wA t15 true) s (mp (aA Tryz.prog 111 t19 t20) s)) fun t21 s =>oh (gd (wA t15 true) s (mp (aD 0 t21) s)) fun t22 s =>oh (gd (wA t15 true) s (af false false 1 t22 s)) fun t23 s =>oh (gd (wA t15 true) s (ab Tryz.prog D 108 [t23.aa] s)) fun t24 s =>oh (mp (bQ t15 t24 (.bool false)) s) fun t25 s =>
 br t25 (oh (some ((e 3).aa,s)) fun t26 s =>oh (mp (aK Tryz.prog .add 3 t26 (.int .i64 1)) s) fun t27 s =>oh (some (t27,s)) fun lT s =>
 k0 (bf e [(8,t8),(9,t9),(10,t10),(11,t11),(12,t12),(13,t13),(14,t14),(15,t15),(16,t16),(17,t17),(18,t18),(19,t19),(20,t20),(21,t21),(22,t22),(23,t23),(24,t24),(25,t25),(26,t26),(27,t27),(27,t27.aa),(3,lT)]) s) (oh (some ((e 3).aa,s)) fun t28 s =>oh (some ((e 0).aa,s)) fun t29 s =>oh (mp (au t29) s) fun t30 s =>oh (mp (aD 0 t30) s) fun t31 s =>oh (af false false 1 t31 s) fun t32 s =>oh (mp (bN Tryz.prog 111 t32) s) fun t33 s =>oh (mp (aK Tryz.prog .eql 3 t28 t33) s) fun t34 s =>
 br t34 (oh (mp (bn Tryz.prog 147 [(0,(.int .i64 100))]) s) fun t35 s =>oh (dZ (aB 2 s (e 2) t35)) fun _r s =>
 uU ((af false true 2 (e 2) s).map (·.1)) s) (oh (some ((e 0).aa,s)) fun t36 s =>oh (mp (au t36) s) fun t37 s =>oh (mp (aD 0 t37) s) fun t38 s =>oh (af false false 1 t38 s) fun t39 s =>oh (some ((e 3).aa,s)) fun t40 s =>oh (mp (aA Tryz.prog 111 t39 t40) s) fun t41 s =>oh (af false true 2 t41 s) fun t42 s =>oh (dZ (aB 2 s (e 2) t42)) fun _r s =>
 uU ((af false true 2 (e 2) s).map (·.1)) s))
noncomputable def F98 (D:a8)(n:Nat)(t0:AV)(s:ag):aU :=
 oh (bH Tryz.prog 147 s) fun t2 s =>oh (some (t0.aa,s)) fun t4 s =>oh (mp (au t4) s) fun t5 s =>oh (mp (aD 1 t5) s) fun t6 s =>oh (af false false 1 t6 s) fun t7 s =>oh (some (t7,s)) fun t3 s =>
 aJ (u7 D n) n (bf (aH [t0]) [(2,t2),(4,t4),(5,t5),(6,t6),(7,t7),(7,t7.aa),(3,t3)]) s
theorem Sr (n:Nat)(t0:AV)(s:ag):den C (n+1) 98 [t0] s=F98 (den C n) n t0 s :=
 (am rfl Tryz.func98 _ _).trans (by kernel_rfl)
theorem abe:ah Tryz.prog 98=true:=by kernel_rfl
-- (*parser.parser).at
noncomputable def F99 (D:a8)(n:Nat)(t0 t1:AV)(s:ag):aU :=
 oh (some ((.bool false),s)) fun t4 s =>oh (some (t0.aa,s)) fun t6 s =>oh (ab Tryz.prog D 98 [t6.aa] s) fun t7 s =>oh (bH Tryz.prog 147 s) fun t5 s =>oh (dZ (aB 2 s t5 t7)) fun _r s =>oh (mp (aD 0 t5) s) fun t8 s =>oh (af false false 1 t8 s) fun t9 s =>oh (mp (aK Tryz.prog .eql 3 t9 (.int .i64 104)) s) fun t10 s =>oh (some (t10.aa,s)) fun t11 s =>oh (gd (wA t11 false) s (mp (aD 0 t5) s)) fun t12 s =>oh (gd (wA t11 false) s (af false false 1 t12 s)) fun t13 s =>oh (gd (wA t11 false) s (mp (aK Tryz.prog .eql 3 t13 (.int .i64 107)) s)) fun t14 s =>oh (mp (bQ t11 (.bool true) t14) s) fun t15 s =>oh (some (t15.aa,s)) fun t16 s =>oh (gd (wA t16 true) s (some (t1.aa,s))) fun t17 s =>oh (gd (wA t16 true) s (mp (aD 1 t5) s)) fun t18 s =>oh (gd (wA t16 true) s (af false false 1 t18 s)) fun t19 s =>oh (gd (wA t16 true) s (ab Tryz.prog D 93 [t17.aa,t19.aa] s)) fun t20 s =>oh (mp (bQ t16 t20 (.bool false)) s) fun t21 s =>oh (some (t21,s)) fun t4_2 s =>
 some (t4_2,s)
theorem Su (n:Nat)(t0 t1:AV)(s:ag):den C (n+1) 99 [t0,t1] s=F99 (den C n) n t0 t1 s :=
 (am rfl Tryz.func99 _ _).trans (by kernel_rfl)
theorem abf:ah Tryz.prog 99=true:=by kernel_rfl
-- (*parser.parser).lookahead
noncomputable def WU (D:a8)(n:Nat)(t0:AV)(s:ag):aU :=
 oh (some (.eA,s)) fun t2 s =>oh (some (t0.aa,s)) fun t4 s =>oh (mp (au t4) s) fun t5 s =>oh (mp (aD 0 t5) s) fun t6 s =>oh (af false false 1 t6 s) fun t7 s =>oh (some (t0.aa,s)) fun t8 s =>oh (mp (au t8) s) fun t9 s =>oh (mp (aD 1 t9) s) fun t10 s =>oh (af false false 1 t10 s) fun t11 s =>oh (mp (bn Tryz.prog 89 []) s) fun t12 s =>oh (fN Tryz.prog 87 1 [(0,t12)] s) fun t13 s =>oh (mp (bn Tryz.prog 116 [(0,t7),(1,t11),(2,t13)]) s) fun t14 s =>oh (cL true 116 t14 s) fun t15 s =>oh (some (t15,s)) fun t3 s =>
 ba C 100 (bo Tryz.f100 1) [.ae,.ae,.ae,(bz false t6),.ae,.ae,.ae,(bz false t10),.ae,.alloc,.ae,.bX,.ae] <|
 oh (some (t3.aa,s)) fun t16 s =>oh (ab Tryz.prog D 106 [t16.aa] s) fun t17 s =>oh (some (t3.aa,s)) fun t18 s =>oh (some (t18,s)) fun t2_2 s =>
 some (t2_2,s)
theorem Nh (n:Nat)(t0:AV)(s:ag):den C (n+1) 100 [t0] s=WU (den C n) n t0 s :=
 (am rfl Tryz.func100 _ _).trans (by kernel_rfl)
theorem Sv {g0 g1:Nat}(x:aU):ba C 100 (bo Tryz.f100 1) [.ae,.ae,.ae,.get g0,.ae,.ae,.ae,.get g1,.ae,.alloc,.ae,.bX,.ae] x=x:=bT (by kernel_rfl)
theorem WV:ah Tryz.prog 100=true:=by kernel_rfl
-- parser.itemKind
noncomputable def WW (D:a8)(n:Nat)(t0:AV)(s:ag):aU :=
 oh (some ((.int .i64 0),s)) fun t2 s =>oh (ab Tryz.prog D 137 [(.str [117,115,101,32,102,110,32,115,116,114,117,99,116,32,101,110,117,109,32,116,114,97,105,116,32,105,109,112,108,32,99,111,110,115,116,32,109,97,99,114,111])] s) fun t4 s =>oh (some (t0.aa,s)) fun t5 s =>oh (ab Tryz.prog D 136 [t4.aa,t5.aa] s) fun t6 s =>oh (some (t6,s)) fun t3 s =>oh (some (t3.aa,s)) fun t7 s =>oh (mp (aK Tryz.prog .lss 3 t7 (.int .i64 0)) s) fun t8 s =>
 br t8 (oh (some ((.int .i64 0),s)) fun t2_2 s =>
 some (t2_2,s)) (oh (some (t3.aa,s)) fun t9 s =>oh (mp (aK Tryz.prog .add 3 (.int .i64 2) t9) s) fun t10 s =>oh (some (t10,s)) fun t2_3 s =>
 some (t2_3,s))
theorem Ni (n:Nat)(t0:AV)(s:ag):den C (n+1) 101 [t0] s=WW (den C n) n t0 s :=
 (am rfl Tryz.func101 _ _).trans (by kernel_rfl)
theorem WX:ah Tryz.prog 101=true:=by kernel_rfl
-- (*parser.parser).skipToItem
noncomputable def WY (D:a8)(n:Nat)(t0:AV)(s:ag):aU :=
 oh (cL false 114 t0 s) fun t1 s =>oh (af false false 1 t1 s) fun t2 s =>oh (some ((.fn 140 [] [t1]),s)) fun t3 s =>oh (ab Tryz.prog D 103 [t2.aa,(.int .i64 46),t3.aa] s) fun t4 s =>
 some (.aI [],s)
theorem Nj (n:Nat)(t0:AV)(s:ag):den C (n+1) 102 [t0] s=WY (den C n) n t0 s :=
 (am rfl Tryz.func102 _ _).trans (by kernel_rfl)
theorem WZ:ah Tryz.prog 102=true:=by kernel_rfl
-- (*parser.parser).node
noncomputable def Sw (D:a8)(n:Nat)(t0 t1 t2:AV)(s:ag):aU :=
 oh (some (t0.aa,s)) fun t6 s1 =>oh (mp (au t6) s1) fun t7 s2 =>oh (mp (aD 2 t7) s2) fun t8 s3 =>oh (af false false 1 t8 s3) fun t9 s4 =>oh (some (t1.aa,s4)) fun t10 s5 =>oh (mp (bn Tryz.prog 89 [(0,t10)]) s5) fun t11 s6 =>oh (mp (bN Tryz.prog 87 t9) s6) fun t12 s7 =>oh (mp (ak Tryz.prog 87 1 [(0,(.agg [(.int .i64 0),(.str []),.aN]))]) s7) fun t13 s8 =>oh (bA Tryz.prog 87 87 t9 t13 s8) fun t14 s9 =>oh (mp (aA Tryz.prog 87 t14 t12) s9) fun t15 s10 =>oh (dZ (aB 3 s10 t15 t11)) fun _r s11 =>oh (mp (au t6) s11) fun t16 s12 =>oh (mp (aD 2 t16) s12) fun t17 s13 =>oh (dZ (aB 1 s13 t17 t14.aa)) fun _r s14 =>
 ba C 103 (bo Tryz.f103 0) [.ae,.ae,.ae,(bz false t8),.ae,.ae,.ae,.ae,(dyn (oS t9) s8 s9),.ae,(fQ t15),.ae,.ae,(fQ t17)] <|
 oh (some (t2.aa,s14)) fun t18 s =>oh (fP Tryz.prog D t18 [] s) fun t19 s =>oh (some (t0.aa,s)) fun t20 s =>oh (ab Tryz.prog D 142 [t20.aa] s) fun t21 s =>
 some (.aI [],s)
theorem Et (n:Nat)(t0 t1 t2:AV)(s:ag):den C (n+1) 103 [t0,t1,t2] s=Sw (den C n) n t0 t1 t2 s :=
 (am rfl Tryz.func103 _ _).trans (by kernel_rfl)
theorem IZ {g0:Nat}{q0:Option Nat}(a b:Nat)(h:a≠b)(x:aU):ba C 103 (bo Tryz.f103 0) [.ae,.ae,.ae,.get g0,.ae,.ae,.ae,.ae,.app q0,.ae,.put a,.ae,.ae,.put b] x=x:=dU (ks0:=[.ae,.ae,.ae,.cU,.ae,.ae,.ae,.ae,.bX,.ae,.put 0,.ae,.ae,.put 1]) h (by kernel_rfl) rfl
theorem QJ:ah Tryz.prog 103=true:=by kernel_rfl
-- (*parser.parser).item 1
noncomputable def W3 (D:a8)(n:Nat)(t0 t1:AV)(s:ag):aU :=
 oh (af false false 1 t0 s) fun t2 s =>oh (mp (ak Tryz.prog 75 1 [(0,(.str [112,117,98]))]) s) fun t3 s =>oh (ab Tryz.prog D 105 [t2.aa,t3.aa] s) fun t4 s =>oh (af false false 1 t0 s) fun t5 s =>oh (ab Tryz.prog D 106 [t5.aa] s) fun t6 s =>oh (af false false 1 t0 s) fun t7 s =>oh (af false false 1 t1 s) fun t8 s =>oh (ab Tryz.prog D 107 [t7.aa,t8.aa] s) fun t9 s =>
 some (.aI [],s)
theorem Nk (n:Nat)(t0 t1:AV)(s:ag):den C (n+1) 104 [t0,t1] s=W3 (den C n) n t0 t1 s :=
 (am rfl Tryz.func104 _ _).trans (by kernel_rfl)
theorem W4:ah Tryz.prog 104=true:=by kernel_rfl
-- (*parser.parser).accept
noncomputable def Sx (D:a8)(n:Nat)(t0 t1:AV)(s:ag):aU :=
 oh (some ((.bool false),s)) fun t4 s =>oh (some (t0.aa,s)) fun t5 s =>oh (some (t1.aa,s)) fun t6 s =>oh (ab Tryz.prog D 99 [t5.aa,t6.aa] s) fun t7 s =>
 br t7 (oh (some (t0.aa,s)) fun t8 s =>oh (ab Tryz.prog D 106 [t8.aa] s) fun t9 s =>oh (some ((.bool true),s)) fun t4_2 s =>
 some (t4_2,s)) (oh (some ((.bool false),s)) fun t4_3 s =>
 some (t4_3,s))
theorem Eu (n:Nat)(t0 t1:AV)(s:ag):den C (n+1) 105 [t0,t1] s=Sx (den C n) n t0 t1 s :=
 (am rfl Tryz.func105 _ _).trans (by kernel_rfl)
theorem QK:ah Tryz.prog 105=true:=by kernel_rfl
-- (*parser.parser).bump
noncomputable def SA (D:a8)(n:Nat)(t0:AV)(s:ag):aU :=
 oh (some (t0.aa,s)) fun t2 s =>oh (ab Tryz.prog D 66 [t2.aa] s) fun t3 s =>oh (some (t0.aa,s)) fun t4 s =>oh (mp (au t4) s) fun t5 s =>oh (mp (aD 1 t5) s) fun t6 s =>oh (af false false 1 t6 s) fun t7 s =>oh (some (t0.aa,s)) fun t8 s =>oh (mp (au t8) s) fun t9 s =>oh (mp (aD 0 t9) s) fun t10 s =>oh (af false false 1 t10 s) fun t11 s =>oh (mp (bN Tryz.prog 111 t11) s) fun t12 s =>oh (mp (aK Tryz.prog .lss 3 t7 t12) s) fun t13 s =>
 ba C 106 (bo Tryz.f106 1) [.ae,.ae,.ae,(bz false t6),.ae,.ae,.ae,(bz false t10),.ae,.ae] <|
 br t13 (oh (some (t0.aa,s)) fun t14 s =>oh (ab Tryz.prog D 109 [t14.aa] s) fun t15 s =>
 some (.aI [],s))
  (some (.aI [],s))
theorem Ev (n:Nat)(t0:AV)(s:ag):den C (n+1) 106 [t0] s=SA (den C n) n t0 s :=
 (am rfl Tryz.func106 _ _).trans (by kernel_rfl)
theorem I0 {g0 g1:Nat}(x:aU):ba C 106 (bo Tryz.f106 1) [.ae,.ae,.ae,.get g0,.ae,.ae,.ae,.get g1,.ae,.ae] x=x:=bT (by kernel_rfl)
theorem QL:ah Tryz.prog 106=true:=by kernel_rfl
-- (*parser.parser).itemBody
noncomputable def jv (D:a8)(n:Nat)(e:Env)(s:ag):aU :=
 br (e 13) (oh (some ((e 0).aa,s)) fun t16 s =>oh (some ((e 1).aa,s)) fun t17 s =>oh (ab Tryz.prog D 145 [t16.aa,t17.aa] s) fun t18 s =>
 some (.aI [],s)) (oh (mp (aK Tryz.prog .eql 3 (e 4) (.int .i64 6)) s) fun t20 s =>oh (some (t20,s)) fun t19 s =>
 br t19 (oh (some ((e 0).aa,s)) fun t21 s =>oh (ab Tryz.prog D 146 [t21.aa] s) fun t22 s =>oh (some ((e 0).aa,s)) fun t23 s =>oh (ab Tryz.prog D 147 [t23.aa] s) fun t24 s =>
 some (.aI [],s)) (oh (mp (aK Tryz.prog .eql 3 (e 4) (.int .i64 7)) s) fun t26 s =>oh (some (t26,s)) fun t25 s =>
 br t25 (oh (some ((e 0).aa,s)) fun t27 s =>oh (ab Tryz.prog D 148 [t27.aa] s) fun t28 s =>
 some (.aI [],s)) (oh (mp (aK Tryz.prog .eql 3 (e 4) (.int .i64 8)) s) fun t30 s =>oh (some (t30,s)) fun t29 s =>
 br t29 (oh (some ((e 0).aa,s)) fun t31 s =>oh (ab Tryz.prog D 146 [t31.aa] s) fun t32 s =>oh (some ((e 0).aa,s)) fun t33 s =>oh (ab Tryz.prog D 149 [t33.aa,(.str [58])] s) fun t34 s =>oh (some ((e 0).aa,s)) fun t35 s =>oh (ab Tryz.prog D 150 [t35.aa] s) fun t36 s =>oh (some ((e 0).aa,s)) fun t37 s =>oh (ab Tryz.prog D 149 [t37.aa,(.str [61])] s) fun t38 s =>oh (some ((e 0).aa,s)) fun t39 s =>oh (ab Tryz.prog D 151 [t39.aa] s) fun t40 s =>oh (some ((e 0).aa,s)) fun t41 s =>oh (ab Tryz.prog D 149 [t41.aa,(.str [59])] s) fun t42 s =>
 some (.aI [],s)) (oh (mp (aK Tryz.prog .eql 3 (e 4) (.int .i64 9)) s) fun t44 s =>oh (some (t44,s)) fun t43 s =>
 br t43 (oh (some ((e 0).aa,s)) fun t45 s =>oh (ab Tryz.prog D 146 [t45.aa] s) fun t46 s =>oh (some ((e 0).aa,s)) fun t47 s =>oh (ab Tryz.prog D 149 [t47.aa,(.str [40])] s) fun t48 s =>oh (some ((e 0).aa,s)) fun t49 s =>oh (ab Tryz.prog D 152 [t49.aa,(.str [41])] s) fun t50 s =>oh (some ((e 0).aa,s)) fun t51 s =>oh (ab Tryz.prog D 149 [t51.aa,(.str [61])] s) fun t52 s =>oh (some ((e 0).aa,s)) fun t53 s =>oh (ab Tryz.prog D 151 [t53.aa] s) fun t54 s =>oh (some ((e 0).aa,s)) fun t55 s =>oh (ab Tryz.prog D 149 [t55.aa,(.str [59])] s) fun t56 s =>
 some (.aI [],s))
  (some (.aI [],s))))))
noncomputable def yI (D:a8)(n:Nat)(t0 t1:AV)(s:ag):aU :=
 oh (some (t1.aa,s)) fun t4 s =>oh (mp (aK Tryz.prog .eql 3 t4 (.int .i64 2)) s) fun t6 s =>oh (some (t6,s)) fun t5 s =>
 br t5 (oh (some (t0.aa,s)) fun t7 s =>oh (ab Tryz.prog D 143 [t7.aa] s) fun t8 s =>
 some (.aI [],s)) (oh (mp (aK Tryz.prog .eql 3 t4 (.int .i64 3)) s) fun t10 s =>oh (some (t10,s)) fun t9 s =>
 br t9 (oh (some (t0.aa,s)) fun t11 s =>oh (ab Tryz.prog D 144 [t11.aa,(.bool true)] s) fun t12 s =>
 some (.aI [],s)) (oh (mp (aK Tryz.prog .eql 3 t4 (.int .i64 4)) s) fun t14 s =>oh (some (t14,s)) fun t13 s =>
 br t13
  (jv D n (bf (aH [t0,t1]) [(4,t4),(6,t6),(6,t6.aa),(5,t5),(10,t10),(10,t10.aa),(9,t9),(14,t14),(14,t14.aa),(13,t13)]) s) (oh (mp (aK Tryz.prog .eql 3 t4 (.int .i64 5)) s) fun t15 s =>oh (some (t15,s)) fun W5 s =>
 jv D n (bf (aH [t0,t1]) [(4,t4),(6,t6),(6,t6.aa),(5,t5),(10,t10),(10,t10.aa),(9,t9),(14,t14),(14,t14.aa),(13,t13),(15,t15),(15,t15.aa),(13,W5)]) s)))
theorem kG (n:Nat)(t0 t1:AV)(s:ag):den C (n+1) 107 [t0,t1] s=yI (den C n) n t0 t1 s :=
 (am rfl Tryz.func107 _ _).trans (by kernel_rfl)
theorem sv:ah Tryz.prog 107=true:=by kernel_rfl
-- parser.isTrivia
noncomputable def W6 (D:a8)(n:Nat)(t0:AV)(s:ag):aU :=
 oh (some ((.bool false),s)) fun t2 s =>oh (some (t0.aa,s)) fun t3 s =>oh (mp (aK Tryz.prog .eql 3 t3 (.int .i64 101)) s) fun t4 s =>oh (some (t4.aa,s)) fun t5 s =>oh (gd (wA t5 false) s (some (t0.aa,s))) fun t6 s =>oh (gd (wA t5 false) s (mp (aK Tryz.prog .eql 3 t6 (.int .i64 102)) s)) fun t7 s =>oh (mp (bQ t5 (.bool true) t7) s) fun t8 s =>oh (some (t8,s)) fun t2_2 s =>
 some (t2_2,s)
theorem Nl (n:Nat)(t0:AV)(s:ag):den C (n+1) 108 [t0] s=W6 (den C n) n t0 s :=
 (am rfl Tryz.func108 _ _).trans (by kernel_rfl)
theorem W7:ah Tryz.prog 108=true:=by kernel_rfl
-- (*parser.parser).addToken
noncomputable def W8 (D:a8)(n:Nat)(t0:AV)(s:ag):aU :=
 oh (some (t0.aa,s)) fun t2 s1 =>oh (some (t0.aa,s1)) fun t3 s2 =>oh (mp (au t3) s2) fun t4 s3 =>oh (mp (aD 0 t4) s3) fun t5 s4 =>oh (af false false 1 t5 s4) fun t6 s5 =>oh (some (t0.aa,s5)) fun t7 s6 =>oh (mp (au t7) s6) fun t8 s7 =>oh (mp (aD 1 t8) s7) fun t9 s8 =>oh (af false false 1 t9 s8) fun t10 s9 =>oh (mp (aA Tryz.prog 111 t6 t10) s9) fun t11 s10 =>oh (mp (aD 0 t11) s10) fun t12 s11 =>oh (af false false 1 t12 s11) fun t13 s12 =>oh (some (t0.aa,s12)) fun t14 s13 =>oh (mp (au t14) s13) fun t15 s14 =>oh (mp (aD 0 t15) s14) fun t16 s15 =>oh (af false false 1 t16 s15) fun t17 s16 =>oh (some (t0.aa,s16)) fun t18 s17 =>oh (mp (au t18) s17) fun t19 s18 =>oh (mp (aD 1 t19) s18) fun t20 s19 =>oh (af false false 1 t20 s19) fun t21 s20 =>oh (mp (aA Tryz.prog 111 t17 t21) s20) fun t22 s21 =>oh (mp (aD 1 t22) s21) fun t23 s22 =>oh (af false false 1 t23 s22) fun t24 s23 =>oh (mp (bn Tryz.prog 89 [(0,t13),(1,t24)]) s23) fun t25 s24 =>oh (ab Tryz.prog D 153 [t2.aa,t25.aa] s24) fun t26 s25 =>
 ba C 109 (bo Tryz.f109 0) [.ae,.ae,.ae,.ae,(bz false t5),.ae,.ae,.ae,(bz false t9),.ae,.ae,(bz false t12),.ae,.ae,.ae,(bz false t16),.ae,.ae,.ae,(bz false t20),.ae,.ae,(bz false t23),.ae,(dyn (ee [t2.aa,t25.aa]) s24 s25)] <|
 oh (some (t0.aa,s25)) fun t27 s =>oh (mp (au t27) s) fun t28 s =>oh (mp (aD 1 t28) s) fun t29 s =>oh (af false false 1 t29 s) fun t30 s =>oh (mp (aK Tryz.prog .add 3 t30 (.int .i64 1)) s) fun t31 s =>oh (mp (au t27) s) fun t32 s =>oh (mp (aD 1 t32) s) fun t33 s =>oh (dZ (aB 1 s t33 t31)) fun _r s =>
 some (.aI [],s)
theorem Nn (n:Nat)(t0:AV)(s:ag):den C (n+1) 109 [t0] s=W8 (den C n) n t0 s :=
 (am rfl Tryz.func109 _ _).trans (by kernel_rfl)
theorem SB {g0 g1 g2 g3:Nat}{l0:List Nat}(x:aU):ba C 109 (bo Tryz.f109 0) [.ae,.ae,.ae,.ae,.get g0,.ae,.ae,.ae,.get g1,.ae,.ae,.ae,.ae,.ae,.ae,.get g2,.ae,.ae,.ae,.get g3,.ae,.ae,.ae,.ae,.call l0] x=x:=bT (by kernel_rfl)
theorem W9:ah Tryz.prog 109=true:=by kernel_rfl
-- (*parser.parser).skipToItem 1
noncomputable def pX (D:a8)(n:Nat)(k0:Env→ag→aU)(e:Env)(s:ag):aU :=
 oh (af false false 1 (e 0) s) fun t3 s1 =>oh (ab Tryz.prog D 64 [t3.aa] s1) fun t4 s2 =>oh (mp (pF .not t4) s2) fun t5 s3 =>oh (some (t5.aa,s3)) fun t6 s4 =>oh (gd (wA t6 true) s4 (af false false 1 (e 0) s4)) fun t7 s5 =>oh (gd (wA t6 true) s5 (ab Tryz.prog D 141 [] s5)) fun t8 s6 =>oh (gd (wA t6 true) s6 (ab Tryz.prog D 99 [t7.aa,t8.aa] s6)) fun t9 s7 =>oh (gd (wA t6 true) s7 (mp (pF .not t9) s7)) fun t10 s8 =>oh (mp (bQ t6 t10 (.bool false)) s8) fun t11 s9 =>
 ba C 140 (bo Tryz.f140 1) [(bz false (e 0)),(dyn (ee [t3.aa]) s1 s2),.ae,.ae,(iz (wA t6 true) (bz false (e 0))),(iz (wA t6 true) (dyn (ee []) s5 s6)),(iz (wA t6 true) (dyn (ee [t7.aa,t8.aa]) s6 s7)),(iz (wA t6 true) .ae),.ae] <|
 br t11 (oh (af false false 1 (e 0) s9) fun t12 s =>oh (ab Tryz.prog D 106 [t12.aa] s) fun t13 s =>
 k0 (bf e [(3,t3),(4,t4),(5,t5),(6,t6),(7,t7),(8,t8),(9,t9),(10,t10),(11,t11),(12,t12),(13,t13)]) s)
  (some (.aI [],s9))
noncomputable def W_ (D:a8)(n:Nat)(t0:AV)(s:ag):aU :=
 oh (af false false 1 t0 s) fun t1 s =>oh (ab Tryz.prog D 106 [t1.aa] s) fun t2 s =>
 aJ (pX D n) n (bf (aH [t0]) [(1,t1),(2,t2)]) s
theorem No (n:Nat)(t0:AV)(s:ag):den C (n+1) 140 [t0] s=W_ (den C n) n t0 s :=
 (am rfl Tryz.func140 _ _).trans (by kernel_rfl)
theorem I1 {l0 l1:List Nat}(x:aU):ba C 140 (bo Tryz.f140 1) [.ae,.call l0,.ae,.ae,.ae,.ae,.call l1,.ae,.ae] x=x:=bT (by kernel_rfl)
theorem Xa:ah Tryz.prog 140=true:=by kernel_rfl
-- parser.itemKeywords
noncomputable def Xb (D:a8)(n:Nat)(s:ag):aU :=
 oh (some (.aN,s)) fun t0 s =>oh (ab Tryz.prog D 137 [(.str [117,115,101,32,112,117,98,32,102,110,32,115,116,114,117,99,116,32,101,110,117,109,32,116,114,97,105,116,32,105,109,112,108,32,99,111,110,115,116,32,109,97,99,114,111])] s) fun t1 s =>oh (some (t1,s)) fun pY s =>
 some (pY,s)
theorem Np (n:Nat)(s:ag):den C (n+1) 141 [] s=Xb (den C n) n s :=
 (am rfl Tryz.func141 _ _).trans (by kernel_rfl)
theorem Xc:ah Tryz.prog 141=true:=by kernel_rfl
-- (*parser.parser).finish
noncomputable def Xd (D:a8)(n:Nat)(t0:AV)(s:ag):aU :=
 oh (some (t0.aa,s)) fun t4 s =>oh (mp (au t4) s) fun t5 s =>oh (mp (aD 2 t5) s) fun t6 s =>oh (af false false 1 t6 s) fun t7 s =>oh (mp (bN Tryz.prog 87 t7) s) fun t8 s =>oh (mp (aK Tryz.prog .sub 3 t8 (.int .i64 1)) s) fun t9 s =>oh (some (t9,s)) fun t2 s =>oh (some (t0.aa,s)) fun t10 s =>oh (mp (au t10) s) fun t11 s =>oh (mp (aD 2 t11) s) fun t12 s =>oh (af false false 1 t12 s) fun t13 s =>oh (some (t2.aa,s)) fun t14 s =>oh (mp (aA Tryz.prog 87 t13 t14) s) fun t15 s =>oh (wD (af false true 3 t15 s)) fun t16 s =>oh (bH Tryz.prog 89 s) fun t3 s =>oh (dZ (aB 3 s t3 t16.aa)) fun _r s =>oh (some (t0.aa,s)) fun t17 s =>oh (some (t0.aa,s)) fun t18 s =>oh (mp (au t18) s) fun t19 s =>oh (mp (aD 2 t19) s) fun t20 s =>oh (af false false 1 t20 s) fun t21 s =>oh (some (t2.aa,s)) fun t22 s =>oh (mp (mL Tryz.prog 87 t21 none (some t22) none) s) fun t23 s =>oh (mp (au t17) s) fun t24 s =>oh (mp (aD 2 t24) s) fun t25 s =>oh (dZ (aB 1 s t25 t23)) fun _r s =>oh (some (t0.aa,s)) fun t26 s =>oh (af false true 3 t3 s) fun t27 s =>oh (ab Tryz.prog D 153 [t26.aa,t27.aa] s) fun t28 s =>
 some (.aI [],s)
theorem Nq (n:Nat)(t0:AV)(s:ag):den C (n+1) 142 [t0] s=Xd (den C n) n t0 s :=
 (am rfl Tryz.func142 _ _).trans (by kernel_rfl)
theorem Xe:ah Tryz.prog 142=true:=by kernel_rfl
-- (*parser.parser).use
noncomputable def nO (D:a8)(n:Nat)(e:Env)(s:ag):aU :=
 oh (af false false 1 (e 1) s) fun t18 s =>oh (ab Tryz.prog D 149 [t18.aa,(.str [59])] s) fun t19 s =>
 some (.aI [],s)
noncomputable def Nr (D:a8)(n:Nat)(t0:AV)(s:ag):aU :=
 oh (cL false 114 t0 s) fun t1 s =>oh (bH Tryz.prog 4 s) fun t2 s =>oh (dZ (aB 1 s t2 (.bool false))) fun _r s =>oh (af false false 1 t1 s) fun t3 s =>oh (some ((.fn 169 [] [t1,t2]),s)) fun t4 s =>oh (ab Tryz.prog D 103 [t3.aa,(.int .i64 17),t4.aa] s) fun t5 s =>oh (af false false 1 t2 s) fun t7 s =>oh (some (t7,s)) fun t6 s =>
 br t6 (oh (af false false 1 t1 s) fun t8 s =>oh (ab Tryz.prog D 106 [t8.aa] s) fun t9 s =>oh (af false false 1 t1 s) fun t10 s =>oh (ab Tryz.prog D 106 [t10.aa] s) fun t11 s =>
 nO D n (bf (aH [t0]) [(1,t1),(2,t2),(3,t3),(4,t4),(5,t5),(7,t7),(7,t7.aa),(6,t6),(8,t8),(9,t9),(10,t10),(11,t11)]) s) (oh (af false false 1 t1 s) fun t13 s =>oh (mp (ak Tryz.prog 75 1 [(0,(.str [97,115]))]) s) fun t14 s =>oh (ab Tryz.prog D 105 [t13.aa,t14.aa] s) fun t15 s =>oh (some (t15,s)) fun t12 s =>
 br t12 (oh (af false false 1 t1 s) fun t16 s =>oh (ab Tryz.prog D 146 [t16.aa] s) fun t17 s =>
 nO D n (bf (aH [t0]) [(1,t1),(2,t2),(3,t3),(4,t4),(5,t5),(7,t7),(7,t7.aa),(6,t6),(13,t13),(14,t14),(15,t15),(15,t15.aa),(12,t12),(16,t16),(17,t17)]) s)
  (nO D n (bf (aH [t0]) [(1,t1),(2,t2),(3,t3),(4,t4),(5,t5),(7,t7),(7,t7.aa),(6,t6),(13,t13),(14,t14),(15,t15),(15,t15.aa),(12,t12)]) s))
theorem yJ (n:Nat)(t0:AV)(s:ag):den C (n+1) 143 [t0] s=Nr (den C n) n t0 s :=
 (am rfl Tryz.func143 _ _).trans (by kernel_rfl)
theorem I3:ah Tryz.prog 143=true:=by kernel_rfl
-- (*parser.parser).function
noncomputable def Ns (D:a8)(n:Nat)(t0 t1:AV)(s:ag):aU :=
 oh (some (t0.aa,s)) fun t4 s =>oh (ab Tryz.prog D 146 [t4.aa] s) fun t5 s =>oh (some (t0.aa,s)) fun t6 s =>oh (ab Tryz.prog D 170 [t6.aa] s) fun t7 s =>oh (some (t0.aa,s)) fun t8 s =>oh (ab Tryz.prog D 149 [t8.aa,(.str [40])] s) fun t9 s =>oh (some (t0.aa,s)) fun t10 s =>oh (ab Tryz.prog D 152 [t10.aa,(.str [41])] s) fun t11 s =>oh (some (t0.aa,s)) fun t12 s =>oh (some (t0.aa,s)) fun t13 s =>oh (some ((.fn 150 [t13] []),s)) fun t14 s =>oh (ab Tryz.prog D 171 [t12.aa,(.str [45,62]),t14.aa] s) fun t15 s =>oh (some (t1.aa,s)) fun t16 s =>oh (mp (pF .not t16) s) fun t17 s =>oh (some (t17.aa,s)) fun t18 s =>oh (gd (wA t18 true) s (some (t0.aa,s))) fun t19 s =>oh (gd (wA t18 true) s (mp (ak Tryz.prog 75 1 [(0,(.str [59]))]) s)) fun t20 s =>oh (gd (wA t18 true) s (ab Tryz.prog D 105 [t19.aa,t20.aa] s)) fun t21 s =>oh (mp (bQ t18 t21 (.bool false)) s) fun t22 s =>
 br t22 (oh (some (t0.aa,s)) fun t23 s =>oh (ab Tryz.prog D 172 [t23.aa] s) fun t24 s =>
 some (.aI [],s)) (oh (some (t0.aa,s)) fun t25 s =>oh (ab Tryz.prog D 173 [t25.aa] s) fun t26 s =>
 some (.aI [],s))
theorem yK (n:Nat)(t0 t1:AV)(s:ag):den C (n+1) 144 [t0,t1] s=Ns (den C n) n t0 t1 s :=
 (am rfl Tryz.func144 _ _).trans (by kernel_rfl)
theorem I4:ah Tryz.prog 144=true:=by kernel_rfl
-- (*parser.parser).dataType
noncomputable def SC (D:a8)(n:Nat)(t0 t1:AV)(s:ag):aU :=
 oh (cL false 114 t0 s) fun t2 s =>oh (cL false 3 t1 s) fun t3 s =>oh (af false false 1 t2 s) fun t4 s =>oh (ab Tryz.prog D 146 [t4.aa] s) fun t5 s =>oh (af false false 1 t2 s) fun t6 s =>oh (ab Tryz.prog D 170 [t6.aa] s) fun t7 s =>oh (af false false 1 t2 s) fun t8 s =>oh (ab Tryz.prog D 149 [t8.aa,(.str [123])] s) fun t9 s =>oh (af false false 1 t2 s) fun t10 s =>oh (some ((.fn 175 [] [t2,t3]),s)) fun t11 s =>oh (ab Tryz.prog D 174 [t10.aa,(.str [125]),t11.aa] s) fun t12 s =>
 some (.aI [],s)
theorem Ew (n:Nat)(t0 t1:AV)(s:ag):den C (n+1) 145 [t0,t1] s=SC (den C n) n t0 t1 s :=
 (am rfl Tryz.func145 _ _).trans (by kernel_rfl)
theorem QM:ah Tryz.prog 145=true:=by kernel_rfl
-- (*parser.parser).expectIdent
noncomputable def SD (D:a8)(n:Nat)(t0:AV)(s:ag):aU :=
 oh (some (t0.aa,s)) fun t2 s =>oh (ab Tryz.prog D 176 [t2.aa] s) fun t3 s =>
 br t3 (oh (some (t0.aa,s)) fun t4 s =>oh (ab Tryz.prog D 106 [t4.aa] s) fun t5 s =>
 some (.aI [],s)) (oh (some (t0.aa,s)) fun t6 s =>oh (ab Tryz.prog D 179 [t6.aa] s) fun t7 s =>
 some (.aI [],s))
theorem Ey (n:Nat)(t0:AV)(s:ag):den C (n+1) 146 [t0] s=SD (den C n) n t0 s :=
 (am rfl Tryz.func146 _ _).trans (by kernel_rfl)
theorem QN:ah Tryz.prog 146=true:=by kernel_rfl
-- (*parser.parser).members
noncomputable def pZ (D:a8)(n:Nat)(k0:Env→ag→aU)(e:Env)(s:ag):aU :=
 oh (af false false 1 (e 1) s) fun t4 s =>oh (mp (ak Tryz.prog 75 2 [(0,(.str [116,121,112,101])),(1,(.str [102,110]))]) s) fun t5 s =>oh (ab Tryz.prog D 99 [t4.aa,t5.aa] s) fun t6 s =>
 br t6 (oh (af false false 1 (e 1) s) fun t7 s =>oh (mp (ak Tryz.prog 75 1 [(0,(.str [102,110]))]) s) fun t8 s =>oh (ab Tryz.prog D 99 [t7.aa,t8.aa] s) fun t9 s =>
 br t9 (oh (af false false 1 (e 1) s) fun t10 s =>oh (some ((.fn 180 [] [(e 1)]),s)) fun t11 s =>oh (ab Tryz.prog D 103 [t10.aa,(.int .i64 3),t11.aa] s) fun t12 s =>
 k0 (bf e [(4,t4),(5,t5),(6,t6),(7,t7),(8,t8),(9,t9),(10,t10),(11,t11),(12,t12)]) s) (oh (af false false 1 (e 1) s) fun t13 s =>oh (some ((.fn 181 [] [(e 1)]),s)) fun t14 s =>oh (ab Tryz.prog D 103 [t13.aa,(.int .i64 16),t14.aa] s) fun t15 s =>
 k0 (bf e [(4,t4),(5,t5),(6,t6),(7,t7),(8,t8),(9,t9),(13,t13),(14,t14),(15,t15)]) s)) (oh (af false false 1 (e 1) s) fun t16 s =>oh (ab Tryz.prog D 149 [t16.aa,(.str [125])] s) fun t17 s =>
 some (.aI [],s))
noncomputable def Xf (D:a8)(n:Nat)(t0:AV)(s:ag):aU :=
 oh (cL false 114 t0 s) fun t1 s =>oh (af false false 1 t1 s) fun t2 s =>oh (ab Tryz.prog D 149 [t2.aa,(.str [123])] s) fun t3 s =>
 aJ (pZ D n) n (bf (aH [t0]) [(1,t1),(2,t2),(3,t3)]) s
theorem Nt (n:Nat)(t0:AV)(s:ag):den C (n+1) 147 [t0] s=Xf (den C n) n t0 s :=
 (am rfl Tryz.func147 _ _).trans (by kernel_rfl)
theorem Xg:ah Tryz.prog 147=true:=by kernel_rfl
-- (*parser.parser).impl
noncomputable def tU (D:a8)(n:Nat)(e:Env)(s:ag):aU :=
 oh (some ((e 0).aa,s)) fun t41 s =>oh (ab Tryz.prog D 147 [t41.aa] s) fun t42 s =>
 some (.aI [],s)
noncomputable def SE (D:a8)(n:Nat)(t0:AV)(s:ag):aU :=
 oh (some (t0.aa,s)) fun t4 s =>oh (ab Tryz.prog D 170 [t4.aa] s) fun t5 s =>oh (some (t0.aa,s)) fun t6 s =>oh (ab Tryz.prog D 150 [t6.aa] s) fun t7 s =>oh (some (t0.aa,s)) fun t8 s =>oh (mp (ak Tryz.prog 75 1 [(0,(.str [102,111,114]))]) s) fun t9 s =>oh (ab Tryz.prog D 105 [t8.aa,t9.aa] s) fun t10 s =>
 br t10 (oh (some (t0.aa,s)) fun t11 s =>oh (ab Tryz.prog D 150 [t11.aa] s) fun t12 s =>
 tU D n (bf (aH [t0]) [(4,t4),(5,t5),(6,t6),(7,t7),(8,t8),(9,t9),(10,t10),(11,t11),(12,t12)]) s) (oh (some (t0.aa,s)) fun t13 s =>oh (mp (au t13) s) fun t14 s =>oh (mp (aD 2 t14) s) fun t15 s =>oh (af false false 1 t15 s) fun t16 s =>oh (some (t0.aa,s)) fun t17 s =>oh (mp (au t17) s) fun t18 s =>oh (mp (aD 2 t18) s) fun t19 s =>oh (af false false 1 t19 s) fun t20 s =>oh (mp (bN Tryz.prog 87 t20) s) fun t21 s =>oh (mp (aK Tryz.prog .sub 3 t21 (.int .i64 1)) s) fun t22 s =>oh (mp (aA Tryz.prog 87 t16 t22) s) fun t23 s =>oh (some (t23,s)) fun t2 s =>
 ba C 148 (bo Tryz.f148 4) [.ae,.ae,.ae,(bz false t15),.ae,.ae,.ae,(bz false t19),.ae,.ae,.ae,.ae] <|
 oh (some (t2.aa,s)) fun t24 s =>oh (mp (au t24) s) fun t25 s =>oh (mp (aD 2 t25) s) fun t26 s =>oh (af false false 1 t26 s) fun t27 s =>oh (mp (bN Tryz.prog 87 t27) s) fun t28 s =>oh (mp (aK Tryz.prog .sub 3 t28 (.int .i64 1)) s) fun t29 s =>oh (some (t29,s)) fun t3 s =>oh (some (t2.aa,s)) fun t30 s =>oh (some (t2.aa,s)) fun t31 s =>oh (mp (au t31) s) fun t32 s =>oh (mp (aD 2 t32) s) fun t33 s =>oh (af false false 1 t33 s) fun t34 s =>oh (some (t3.aa,s)) fun t35 s =>oh (mp (bn Tryz.prog 89 [(0,(.int .i64 0))]) s) fun t36 s =>oh (mp (ak Tryz.prog 87 1 [(0,t36)]) s) fun t37 s =>oh (ab Tryz.prog D 182 [t34.aa,t35.aa,t37.aa] s) fun t38 s =>oh (mp (au t30) s) fun t39 s =>oh (mp (aD 2 t39) s) fun t40 s =>oh (dZ (aB 1 s t40 t38)) fun _r s =>
 tU D n (bf (aH [t0]) [(4,t4),(5,t5),(6,t6),(7,t7),(8,t8),(9,t9),(10,t10),(13,t13),(14,t14),(15,t15),(16,t16),(17,t17),(18,t18),(19,t19),(20,t20),(21,t21),(22,t22),(23,t23),(23,t23.aa),(2,t2),(24,t24),(25,t25),(26,t26),(27,t27),(28,t28),(29,t29),(29,t29.aa),(3,t3),(30,t30),(31,t31),(32,t32),(33,t33),(34,t34),(35,t35),(36,t36),(37,t37),(38,t38),(39,t39),(40,t40),(38,t38.aa)]) s)
theorem Ez (n:Nat)(t0:AV)(s:ag):den C (n+1) 148 [t0] s=SE (den C n) n t0 s :=
 (am rfl Tryz.func148 _ _).trans (by kernel_rfl)
theorem SF {g0 g1:Nat}(x:aU):ba C 148 (bo Tryz.f148 4) [.ae,.ae,.ae,.get g0,.ae,.ae,.ae,.get g1,.ae,.ae,.ae,.ae] x=x:=bT (by kernel_rfl)
theorem QO:ah Tryz.prog 148=true:=by kernel_rfl
-- (*parser.parser).expect
noncomputable def SG (D:a8)(n:Nat)(t0 t1:AV)(s:ag):aU :=
 oh (some (t0.aa,s)) fun t4 s =>oh (some (t1.aa,s)) fun t5 s =>oh (mp (ak Tryz.prog 75 1 [(0,t5)]) s) fun t6 s =>oh (ab Tryz.prog D 105 [t4.aa,t6.aa] s) fun t7 s =>oh (mp (pF .not t7) s) fun t8 s =>
 br t8 (oh (some (t0.aa,s)) fun t9 s =>oh (ab Tryz.prog D 179 [t9.aa] s) fun t10 s =>
 some (.aI [],s))
  (some (.aI [],s))
theorem EA (n:Nat)(t0 t1:AV)(s:ag):den C (n+1) 149 [t0,t1] s=SG (den C n) n t0 t1 s :=
 (am rfl Tryz.func149 _ _).trans (by kernel_rfl)
theorem QP:ah Tryz.prog 149=true:=by kernel_rfl
-- (*parser.parser).typeExpr
noncomputable def I5 (D:a8)(n:Nat)(t0:AV)(s:ag):aU :=
 oh (cL false 114 t0 s) fun t1 s =>oh (af false false 1 t1 s) fun t5 s =>oh (mp (ak Tryz.prog 75 1 [(0,(.str [38]))]) s) fun t6 s =>oh (ab Tryz.prog D 99 [t5.aa,t6.aa] s) fun t7 s =>oh (some (t7,s)) fun t4 s =>
 br t4 (oh (af false false 1 t1 s) fun t8 s =>oh (some ((.fn 183 [] [t1]),s)) fun t9 s =>oh (ab Tryz.prog D 103 [t8.aa,(.int .i64 19),t9.aa] s) fun t10 s =>
 some (.aI [],s)) (oh (af false false 1 t1 s) fun t12 s =>oh (mp (ak Tryz.prog 75 1 [(0,(.str [102,110]))]) s) fun t13 s =>oh (ab Tryz.prog D 99 [t12.aa,t13.aa] s) fun t14 s =>oh (some (t14,s)) fun t11 s =>
 br t11 (oh (af false false 1 t1 s) fun t15 s =>oh (some ((.fn 184 [] [t1]),s)) fun t16 s =>oh (ab Tryz.prog D 103 [t15.aa,(.int .i64 20),t16.aa] s) fun t17 s =>
 some (.aI [],s)) (oh (af false false 1 t1 s) fun t19 s =>oh (ab Tryz.prog D 176 [t19.aa] s) fun t20 s =>oh (some (t20,s)) fun t18 s =>
 br t18 (oh (af false false 1 t1 s) fun t21 s =>oh (ab Tryz.prog D 185 [t21.aa,(.bool true)] s) fun t22 s =>
 some (.aI [],s)) (oh (af false false 1 t1 s) fun t2 s =>oh (ab Tryz.prog D 186 [t2.aa] s) fun t3 s =>
 some (.aI [],s))))
theorem tV (n:Nat)(t0:AV)(s:ag):den C (n+1) 150 [t0] s=I5 (den C n) n t0 s :=
 (am rfl Tryz.func150 _ _).trans (by kernel_rfl)
theorem EB:ah Tryz.prog 150=true:=by kernel_rfl
-- (*parser.parser).expr
noncomputable def Xh (D:a8)(n:Nat)(t0:AV)(s:ag):aU :=
 oh (some (t0.aa,s)) fun t2 s =>oh (ab Tryz.prog D 187 [t2.aa,(.int .i64 0)] s) fun t3 s =>
 some (.aI [],s)
theorem Nu (n:Nat)(t0:AV)(s:ag):den C (n+1) 151 [t0] s=Xh (den C n) n t0 s :=
 (am rfl Tryz.func151 _ _).trans (by kernel_rfl)
theorem Xi:ah Tryz.prog 151=true:=by kernel_rfl
-- (*parser.parser).params
noncomputable def Xj (D:a8)(n:Nat)(t0 t1:AV)(s:ag):aU :=
 oh (cL false 114 t0 s) fun t2 s =>oh (cL false 9 t1 s) fun t3 s =>oh (af false false 1 t2 s) fun t4 s =>oh (some ((.fn 188 [] [t2,t3]),s)) fun t5 s =>oh (ab Tryz.prog D 103 [t4.aa,(.int .i64 12),t5.aa] s) fun t6 s =>
 some (.aI [],s)
theorem Nv (n:Nat)(t0 t1:AV)(s:ag):den C (n+1) 152 [t0,t1] s=Xj (den C n) n t0 t1 s :=
 (am rfl Tryz.func152 _ _).trans (by kernel_rfl)
theorem Xk:ah Tryz.prog 152=true:=by kernel_rfl
-- (*parser.parser).add
noncomputable def Xl (D:a8)(n:Nat)(t0 t1:AV)(s:ag):aU :=
 oh (cL false 89 t1 s) fun t3 s =>oh (some (t0.aa,s)) fun t5 s =>oh (mp (au t5) s) fun t6 s =>oh (mp (aD 2 t6) s) fun t7 s =>oh (af false false 1 t7 s) fun t8 s =>oh (some (t0.aa,s)) fun t9 s =>oh (mp (au t9) s) fun t10 s =>oh (mp (aD 2 t10) s) fun t11 s =>oh (af false false 1 t11 s) fun t12 s =>oh (mp (bN Tryz.prog 87 t12) s) fun t13 s =>oh (mp (aK Tryz.prog .sub 3 t13 (.int .i64 1)) s) fun t14 s =>oh (mp (aA Tryz.prog 87 t8 t14) s) fun t15 s =>oh (some (t15,s)) fun t4 s =>
 ba C 153 (bo Tryz.f153 1) [.ae,.ae,.ae,(bz false t7),.ae,.ae,.ae,(bz false t11),.ae,.ae,.ae,.ae] <|
 oh (some (t4.aa,s)) fun t16 s1 =>oh (mp (au t16) s1) fun t17 s2 =>oh (mp (aD 2 t17) s2) fun t18 s3 =>oh (af false false 1 t18 s3) fun t19 s4 =>oh (af false true 3 t3 s4) fun t20 s5 =>oh (mp (bN Tryz.prog 87 t19) s5) fun t21 s6 =>oh (mp (ak Tryz.prog 87 1 [(0,(.agg [(.int .i64 0),(.str []),.aN]))]) s6) fun t22 s7 =>oh (bA Tryz.prog 87 87 t19 t22 s7) fun t23 s8 =>oh (mp (aA Tryz.prog 87 t23 t21) s8) fun t24 s9 =>oh (dZ (aB 3 s9 t24 t20)) fun _r s10 =>oh (mp (au t16) s10) fun t25 s11 =>oh (mp (aD 2 t25) s11) fun t26 s12 =>oh (dZ (aB 1 s12 t26 t23.aa)) fun _r s13 =>
 ba C 153 (bo Tryz.f153 2) [.ae,.ae,.ae,(bz false t18),(bz false t3),.ae,.ae,(dyn (oS t19) s7 s8),.ae,(fQ t24),.ae,.ae,(fQ t26)] <|
 some (.aI [],s13)
theorem Nw (n:Nat)(t0 t1:AV)(s:ag):den C (n+1) 153 [t0,t1] s=Xl (den C n) n t0 t1 s :=
 (am rfl Tryz.func153 _ _).trans (by kernel_rfl)
theorem SH {g0 g1:Nat}(x:aU):ba C 153 (bo Tryz.f153 1) [.ae,.ae,.ae,.get g0,.ae,.ae,.ae,.get g1,.ae,.ae,.ae,.ae] x=x:=bT (by kernel_rfl)
theorem SI {g0:Nat}{q0:Option Nat}(a b:Nat)(h:a≠b)(x:aU):ba C 153 (bo Tryz.f153 2) [.ae,.ae,.ae,.get g0,.ae,.ae,.ae,.app q0,.ae,.put a,.ae,.ae,.put b] x=x:=dU (ks0:=[.ae,.ae,.ae,.cU,.ae,.ae,.ae,.bX,.ae,.put 0,.ae,.ae,.put 1]) h (by kernel_rfl) rfl
theorem Xm:ah Tryz.prog 153=true:=by kernel_rfl
-- (*parser.parser).use 1
noncomputable def lU (D:a8)(n:Nat)(k0:Env→ag→aU)(e:Env)(s:ag):aU :=
 oh (af false false 1 (e 0) s) fun t6 s =>oh (mp (ak Tryz.prog 75 1 [(0,(.str [58,58]))]) s) fun t7 s =>oh (ab Tryz.prog D 99 [t6.aa,t7.aa] s) fun t8 s =>oh (some (t8.aa,s)) fun t9 s =>oh (gd (wA t9 true) s (af false false 1 (e 1) s)) fun t10 s =>oh (gd (wA t9 true) s (mp (pF .not t10) s)) fun t11 s =>oh (mp (bQ t9 t11 (.bool false)) s) fun t12 s =>
 br t12 (oh (af false false 1 (e 0) s) fun t13 s =>oh (ab Tryz.prog D 100 [t13.aa] s) fun t14 s =>oh (mp (ak Tryz.prog 75 1 [(0,(.str [42]))]) s) fun t15 s =>oh (ab Tryz.prog D 99 [t14.aa,t15.aa] s) fun t16 s =>oh (dZ (aB 1 s (e 1) t16)) fun _r s =>oh (af false false 1 (e 1) s) fun t17 s =>oh (mp (pF .not t17) s) fun t18 s =>
 br t18 (oh (af false false 1 (e 0) s) fun t19 s =>oh (ab Tryz.prog D 106 [t19.aa] s) fun t20 s =>oh (af false false 1 (e 0) s) fun t21 s =>oh (af false false 1 (e 0) s) fun t22 s =>oh (some ((.fn 146 [t22] []),s)) fun t23 s =>oh (ab Tryz.prog D 103 [t21.aa,(.int .i64 18),t23.aa] s) fun t24 s =>
 k0 (bf e [(6,t6),(7,t7),(8,t8),(9,t9),(10,t10),(11,t11),(12,t12),(13,t13),(14,t14),(15,t15),(16,t16),(16,t16.aa),(17,t17),(18,t18),(19,t19),(20,t20),(21,t21),(22,t22),(23,t23),(24,t24)]) s)
  (k0 (bf e [(6,t6),(7,t7),(8,t8),(9,t9),(10,t10),(11,t11),(12,t12),(13,t13),(14,t14),(15,t15),(16,t16),(16,t16.aa),(17,t17),(18,t18)]) s))
  (some (.aI [],s))
noncomputable def Xn (D:a8)(n:Nat)(t0 t1:AV)(s:ag):aU :=
 oh (af false false 1 t0 s) fun t2 s =>oh (af false false 1 t0 s) fun t3 s =>oh (some ((.fn 146 [t3] []),s)) fun t4 s =>oh (ab Tryz.prog D 103 [t2.aa,(.int .i64 18),t4.aa] s) fun t5 s =>
 aJ (lU D n) n (bf (aH [t0,t1]) [(2,t2),(3,t3),(4,t4),(5,t5)]) s
theorem Nx (n:Nat)(t0 t1:AV)(s:ag):den C (n+1) 169 [t0,t1] s=Xn (den C n) n t0 t1 s :=
 (am rfl Tryz.func169 _ _).trans (by kernel_rfl)
theorem Xo:ah Tryz.prog 169=true:=by kernel_rfl
-- (*parser.parser).typeParams
noncomputable def Xp (D:a8)(n:Nat)(t0:AV)(s:ag):aU :=
 oh (cL false 114 t0 s) fun t1 s =>oh (af false false 1 t1 s) fun t2 s =>oh (some ((.fn 198 [] [t1]),s)) fun t3 s =>oh (ab Tryz.prog D 103 [t2.aa,(.int .i64 10),t3.aa] s) fun t4 s =>
 some (.aI [],s)
theorem Ny (n:Nat)(t0:AV)(s:ag):den C (n+1) 170 [t0] s=Xp (den C n) n t0 s :=
 (am rfl Tryz.func170 _ _).trans (by kernel_rfl)
theorem Xq:ah Tryz.prog 170=true:=by kernel_rfl
-- (*parser.parser).optional
noncomputable def SJ (D:a8)(n:Nat)(t0 t1 t2:AV)(s:ag):aU :=
 oh (some (t0.aa,s)) fun t6 s =>oh (some (t1.aa,s)) fun t7 s =>oh (mp (ak Tryz.prog 75 1 [(0,t7)]) s) fun t8 s =>oh (ab Tryz.prog D 105 [t6.aa,t8.aa] s) fun t9 s =>
 br t9 (oh (some (t2.aa,s)) fun t10 s =>oh (fP Tryz.prog D t10 [] s) fun t11 s =>
 some (.aI [],s)) (oh (some (t0.aa,s)) fun t12 s =>oh (ab Tryz.prog D 172 [t12.aa] s) fun t13 s =>
 some (.aI [],s))
theorem EC (n:Nat)(t0 t1 t2:AV)(s:ag):den C (n+1) 171 [t0,t1,t2] s=SJ (den C n) n t0 t1 t2 s :=
 (am rfl Tryz.func171 _ _).trans (by kernel_rfl)
theorem QQ:ah Tryz.prog 171=true:=by kernel_rfl
-- (*parser.parser).absent
noncomputable def Xr (D:a8)(n:Nat)(t0:AV)(s:ag):aU :=
 oh (some (t0.aa,s)) fun t2 s =>oh (mp (bn Tryz.prog 89 [(0,(.int .i64 0))]) s) fun t3 s =>oh (ab Tryz.prog D 153 [t2.aa,t3.aa] s) fun t4 s =>
 some (.aI [],s)
theorem Nz (n:Nat)(t0:AV)(s:ag):den C (n+1) 172 [t0] s=Xr (den C n) n t0 s :=
 (am rfl Tryz.func172 _ _).trans (by kernel_rfl)
theorem Xs:ah Tryz.prog 172=true:=by kernel_rfl
-- (*parser.parser).block
noncomputable def Xt (D:a8)(n:Nat)(t0:AV)(s:ag):aU :=
 oh (cL false 114 t0 s) fun t1 s =>oh (af false false 1 t1 s) fun t2 s =>oh (some ((.fn 200 [] [t1]),s)) fun t3 s =>oh (ab Tryz.prog D 103 [t2.aa,(.int .i64 21),t3.aa] s) fun t4 s =>
 some (.aI [],s)
theorem NA (n:Nat)(t0:AV)(s:ag):den C (n+1) 173 [t0] s=Xt (den C n) n t0 s :=
 (am rfl Tryz.func173 _ _).trans (by kernel_rfl)
theorem Xu:ah Tryz.prog 173=true:=by kernel_rfl
-- (*parser.parser).list
noncomputable def kH (D:a8)(n:Nat)(k0:Env→ag→aU)(e:Env)(s:ag):aU :=
 oh (some ((e 0).aa,s)) fun t7 s =>oh (some ((e 1).aa,s)) fun t8 s =>oh (mp (ak Tryz.prog 75 1 [(0,t8)]) s) fun t9 s =>oh (ab Tryz.prog D 99 [t7.aa,t9.aa] s) fun t10 s =>oh (mp (pF .not t10) s) fun t11 s =>oh (some (t11.aa,s)) fun t12 s =>oh (gd (wA t12 true) s (some ((e 0).aa,s))) fun t13 s =>oh (gd (wA t12 true) s (ab Tryz.prog D 64 [t13.aa] s)) fun t14 s =>oh (gd (wA t12 true) s (mp (pF .not t14) s)) fun t15 s =>oh (mp (bQ t12 t15 (.bool false)) s) fun t16 s =>oh (some (t16.aa,s)) fun t17 s =>oh (gd (wA t17 true) s (some ((e 0).aa,s))) fun t18 s =>oh (gd (wA t17 true) s (ab Tryz.prog D 202 [t18.aa] s)) fun t19 s =>oh (gd (wA t17 true) s (mp (pF .not t19) s)) fun t20 s =>oh (mp (bQ t17 t20 (.bool false)) s) fun t21 s =>
 br t21 (oh (some ((e 0).aa,s)) fun t22 s =>oh (mp (au t22) s) fun t23 s =>oh (mp (aD 1 t23) s) fun t24 s =>oh (af false false 1 t24 s) fun t25 s =>oh (some (t25,s)) fun t6 s =>oh (some ((e 2).aa,s)) fun t26 s =>oh (fP Tryz.prog D t26 [] s) fun t27 s =>oh (some ((e 0).aa,s)) fun t29 s =>oh (mp (au t29) s) fun t30 s =>oh (mp (aD 1 t30) s) fun t31 s =>oh (af false false 1 t31 s) fun t32 s =>oh (some (t6.aa,s)) fun t33 s =>oh (mp (aK Tryz.prog .eql 3 t32 t33) s) fun t34 s =>oh (some (t34,s)) fun t28 s =>
 br t28 (oh (some ((e 0).aa,s)) fun t35 s =>oh (ab Tryz.prog D 203 [t35.aa] s) fun t36 s =>
 k0 (bf e [(7,t7),(8,t8),(9,t9),(10,t10),(11,t11),(12,t12),(13,t13),(14,t14),(15,t15),(16,t16),(17,t17),(18,t18),(19,t19),(20,t20),(21,t21),(22,t22),(23,t23),(24,t24),(25,t25),(25,t25.aa),(6,t6),(26,t26),(27,t27),(29,t29),(30,t30),(31,t31),(32,t32),(33,t33),(34,t34),(34,t34.aa),(28,t28),(35,t35),(36,t36)]) s) (oh (some ((e 0).aa,s)) fun t38 s =>oh (some ((e 1).aa,s)) fun t39 s =>oh (mp (ak Tryz.prog 75 1 [(0,t39)]) s) fun t40 s =>oh (ab Tryz.prog D 99 [t38.aa,t40.aa] s) fun t41 s =>oh (mp (pF .not t41) s) fun t42 s =>oh (some (t42,s)) fun t37 s =>
 br t37 (oh (some ((e 0).aa,s)) fun t43 s =>oh (ab Tryz.prog D 149 [t43.aa,(.str [44])] s) fun t44 s =>
 k0 (bf e [(7,t7),(8,t8),(9,t9),(10,t10),(11,t11),(12,t12),(13,t13),(14,t14),(15,t15),(16,t16),(17,t17),(18,t18),(19,t19),(20,t20),(21,t21),(22,t22),(23,t23),(24,t24),(25,t25),(25,t25.aa),(6,t6),(26,t26),(27,t27),(29,t29),(30,t30),(31,t31),(32,t32),(33,t33),(34,t34),(34,t34.aa),(28,t28),(38,t38),(39,t39),(40,t40),(41,t41),(42,t42),(42,t42.aa),(37,t37),(43,t43),(44,t44)]) s)
  (k0 (bf e [(7,t7),(8,t8),(9,t9),(10,t10),(11,t11),(12,t12),(13,t13),(14,t14),(15,t15),(16,t16),(17,t17),(18,t18),(19,t19),(20,t20),(21,t21),(22,t22),(23,t23),(24,t24),(25,t25),(25,t25.aa),(6,t6),(26,t26),(27,t27),(29,t29),(30,t30),(31,t31),(32,t32),(33,t33),(34,t34),(34,t34.aa),(28,t28),(38,t38),(39,t39),(40,t40),(41,t41),(42,t42),(42,t42.aa),(37,t37)]) s))) (oh (some ((e 0).aa,s)) fun t45 s =>oh (some ((e 1).aa,s)) fun t46 s =>oh (ab Tryz.prog D 149 [t45.aa,t46.aa] s) fun t47 s =>
 some (.aI [],s))
noncomputable def Xv (D:a8)(n:Nat)(t0 t1 t2:AV)(s:ag):aU :=
 aJ (kH D n) n (aH [t0,t1,t2]) s
theorem NB (n:Nat)(t0 t1 t2:AV)(s:ag):den C (n+1) 174 [t0,t1,t2] s=Xv (den C n) n t0 t1 t2 s :=
 (am rfl Tryz.func174 _ _).trans (by kernel_rfl)
theorem Xw:ah Tryz.prog 174=true:=by kernel_rfl
-- (*parser.parser).dataType 1
noncomputable def I6 (D:a8)(n:Nat)(t0 t1:AV)(s:ag):aU :=
 oh (af false false 1 t0 s) fun t6 s =>oh (ab Tryz.prog D 176 [t6.aa] s) fun t7 s =>oh (mp (pF .not t7) s) fun t8 s =>oh (some (t8,s)) fun t5 s =>
 br t5
  (some (.aI [],s)) (oh (af false false 1 t1 s) fun t10 s =>oh (mp (aK Tryz.prog .eql 3 t10 (.int .i64 4)) s) fun t11 s =>oh (some (t11,s)) fun t9 s =>
 br t9 (oh (af false false 1 t0 s) fun t12 s =>oh (some ((.fn 177 [] [t0]),s)) fun t13 s =>oh (ab Tryz.prog D 103 [t12.aa,(.int .i64 14),t13.aa] s) fun t14 s =>
 some (.aI [],s)) (oh (af false false 1 t0 s) fun t2 s =>oh (some ((.fn 178 [] [t0]),s)) fun t3 s =>oh (ab Tryz.prog D 103 [t2.aa,(.int .i64 15),t3.aa] s) fun t4 s =>
 some (.aI [],s)))
theorem tW (n:Nat)(t0 t1:AV)(s:ag):den C (n+1) 175 [t0,t1] s=I6 (den C n) n t0 t1 s :=
 (am rfl Tryz.func175 _ _).trans (by kernel_rfl)
theorem ED:ah Tryz.prog 175=true:=by kernel_rfl
-- (*parser.parser).atIdent
noncomputable def Xx (D:a8)(n:Nat)(t0:AV)(s:ag):aU :=
 oh (some ((.bool false),s)) fun t2 s =>oh (some (t0.aa,s)) fun t3 s =>oh (ab Tryz.prog D 98 [t3.aa] s) fun t4 s =>oh (mp (lL Tryz.prog 147 0 t4) s) fun t5 s =>oh (mp (aK Tryz.prog .eql 3 t5 (.int .i64 103)) s) fun t6 s =>oh (some (t6,s)) fun t2_2 s =>
 some (t2_2,s)
theorem NC (n:Nat)(t0:AV)(s:ag):den C (n+1) 176 [t0] s=Xx (den C n) n t0 s :=
 (am rfl Tryz.func176 _ _).trans (by kernel_rfl)
theorem Xy:ah Tryz.prog 176=true:=by kernel_rfl
-- (*parser.parser).dataType 1 1
noncomputable def Xz (D:a8)(n:Nat)(t0:AV)(s:ag):aU :=
 oh (af false false 1 t0 s) fun t1 s =>oh (ab Tryz.prog D 106 [t1.aa] s) fun t2 s =>oh (af false false 1 t0 s) fun t3 s =>oh (ab Tryz.prog D 149 [t3.aa,(.str [58])] s) fun t4 s =>oh (af false false 1 t0 s) fun t5 s =>oh (ab Tryz.prog D 150 [t5.aa] s) fun t6 s =>
 some (.aI [],s)
theorem ND (n:Nat)(t0:AV)(s:ag):den C (n+1) 177 [t0] s=Xz (den C n) n t0 s :=
 (am rfl Tryz.func177 _ _).trans (by kernel_rfl)
theorem XA:ah Tryz.prog 177=true:=by kernel_rfl
-- (*parser.parser).dataType 1 2
noncomputable def SK (D:a8)(n:Nat)(t0:AV)(s:ag):aU :=
 oh (af false false 1 t0 s) fun t1 s =>oh (ab Tryz.prog D 106 [t1.aa] s) fun t2 s =>oh (af false false 1 t0 s) fun t3 s =>oh (mp (ak Tryz.prog 75 1 [(0,(.str [40]))]) s) fun t4 s =>oh (ab Tryz.prog D 105 [t3.aa,t4.aa] s) fun t5 s =>
 br t5 (oh (af false false 1 t0 s) fun t6 s =>oh (af false false 1 t0 s) fun t7 s =>oh (some ((.fn 150 [t7] []),s)) fun t8 s =>oh (ab Tryz.prog D 174 [t6.aa,(.str [41]),t8.aa] s) fun t9 s =>
 some (.aI [],s))
  (some (.aI [],s))
theorem EE (n:Nat)(t0:AV)(s:ag):den C (n+1) 178 [t0] s=SK (den C n) n t0 s :=
 (am rfl Tryz.func178 _ _).trans (by kernel_rfl)
theorem QR:ah Tryz.prog 178=true:=by kernel_rfl
-- (*parser.parser).missingToken
noncomputable def XB (D:a8)(n:Nat)(t0:AV)(s:ag):aU :=
 oh (some (t0.aa,s)) fun t2 s =>oh (mp (bn Tryz.prog 89 [(0,(.int .i64 108))]) s) fun t3 s =>oh (ab Tryz.prog D 153 [t2.aa,t3.aa] s) fun t4 s =>
 some (.aI [],s)
theorem NE (n:Nat)(t0:AV)(s:ag):den C (n+1) 179 [t0] s=XB (den C n) n t0 s :=
 (am rfl Tryz.func179 _ _).trans (by kernel_rfl)
theorem XC:ah Tryz.prog 179=true:=by kernel_rfl
-- (*parser.parser).members 1
noncomputable def XD (D:a8)(n:Nat)(t0:AV)(s:ag):aU :=
 oh (af false false 1 t0 s) fun t1 s =>oh (ab Tryz.prog D 106 [t1.aa] s) fun t2 s =>oh (af false false 1 t0 s) fun t3 s =>oh (ab Tryz.prog D 144 [t3.aa,(.bool false)] s) fun t4 s =>
 some (.aI [],s)
theorem NF (n:Nat)(t0:AV)(s:ag):den C (n+1) 180 [t0] s=XD (den C n) n t0 s :=
 (am rfl Tryz.func180 _ _).trans (by kernel_rfl)
theorem XE:ah Tryz.prog 180=true:=by kernel_rfl
-- (*parser.parser).members 2
noncomputable def XF (D:a8)(n:Nat)(t0:AV)(s:ag):aU :=
 oh (af false false 1 t0 s) fun t1 s =>oh (ab Tryz.prog D 106 [t1.aa] s) fun t2 s =>oh (af false false 1 t0 s) fun t3 s =>oh (ab Tryz.prog D 146 [t3.aa] s) fun t4 s =>oh (af false false 1 t0 s) fun t5 s =>oh (af false false 1 t0 s) fun t6 s =>oh (some ((.fn 150 [t6] []),s)) fun t7 s =>oh (ab Tryz.prog D 171 [t5.aa,(.str [61]),t7.aa] s) fun t8 s =>oh (af false false 1 t0 s) fun t9 s =>oh (ab Tryz.prog D 149 [t9.aa,(.str [59])] s) fun t10 s =>
 some (.aI [],s)
theorem NG (n:Nat)(t0:AV)(s:ag):den C (n+1) 181 [t0] s=XF (den C n) n t0 s :=
 (am rfl Tryz.func181 _ _).trans (by kernel_rfl)
theorem XG:ah Tryz.prog 181=true:=by kernel_rfl
-- (*parser.parser).typeExpr 1
noncomputable def SL (D:a8)(n:Nat)(t0:AV)(s:ag):aU :=
 oh (af false false 1 t0 s) fun t1 s =>oh (ab Tryz.prog D 106 [t1.aa] s) fun t2 s =>oh (af false false 1 t0 s) fun t3 s =>oh (mp (ak Tryz.prog 75 1 [(0,(.str [109,117,116]))]) s) fun t4 s =>oh (ab Tryz.prog D 105 [t3.aa,t4.aa] s) fun t5 s =>oh (af false false 1 t0 s) fun t6 s =>oh (ab Tryz.prog D 150 [t6.aa] s) fun t7 s =>
 some (.aI [],s)
theorem EF (n:Nat)(t0:AV)(s:ag):den C (n+1) 183 [t0] s=SL (den C n) n t0 s :=
 (am rfl Tryz.func183 _ _).trans (by kernel_rfl)
theorem QS:ah Tryz.prog 183=true:=by kernel_rfl
-- (*parser.parser).typeExpr 2
noncomputable def XH (D:a8)(n:Nat)(t0:AV)(s:ag):aU :=
 oh (af false false 1 t0 s) fun t1 s =>oh (ab Tryz.prog D 106 [t1.aa] s) fun t2 s =>oh (af false false 1 t0 s) fun t3 s =>oh (ab Tryz.prog D 149 [t3.aa,(.str [40])] s) fun t4 s =>oh (af false false 1 t0 s) fun t5 s =>oh (af false false 1 t0 s) fun t6 s =>oh (some ((.fn 150 [t6] []),s)) fun t7 s =>oh (ab Tryz.prog D 174 [t5.aa,(.str [41]),t7.aa] s) fun t8 s =>oh (af false false 1 t0 s) fun t9 s =>oh (af false false 1 t0 s) fun t10 s =>oh (some ((.fn 150 [t10] []),s)) fun t11 s =>oh (ab Tryz.prog D 171 [t9.aa,(.str [45,62]),t11.aa] s) fun t12 s =>
 some (.aI [],s)
theorem NH (n:Nat)(t0:AV)(s:ag):den C (n+1) 184 [t0] s=XH (den C n) n t0 s :=
 (am rfl Tryz.func184 _ _).trans (by kernel_rfl)
theorem XI:ah Tryz.prog 184=true:=by kernel_rfl
-- (*parser.parser).path
noncomputable def XJ (D:a8)(n:Nat)(t0 t1:AV)(s:ag):aU :=
 oh (cL false 114 t0 s) fun t2 s =>oh (cL false 4 t1 s) fun t3 s =>oh (af false false 1 t2 s) fun t4 s =>oh (some ((.fn 206 [] [t2,t3]),s)) fun t5 s =>oh (ab Tryz.prog D 103 [t4.aa,(.int .i64 17),t5.aa] s) fun t6 s =>
 some (.aI [],s)
theorem NI (n:Nat)(t0 t1:AV)(s:ag):den C (n+1) 185 [t0,t1] s=XJ (den C n) n t0 t1 s :=
 (am rfl Tryz.func185 _ _).trans (by kernel_rfl)
theorem XK:ah Tryz.prog 185=true:=by kernel_rfl
-- (*parser.parser).missingNode
noncomputable def XL (D:a8)(n:Nat)(t0:AV)(s:ag):aU :=
 oh (some (t0.aa,s)) fun t2 s =>oh (mp (bn Tryz.prog 89 [(0,(.int .i64 46))]) s) fun t3 s =>oh (ab Tryz.prog D 153 [t2.aa,t3.aa] s) fun t4 s =>
 some (.aI [],s)
theorem NJ (n:Nat)(t0:AV)(s:ag):den C (n+1) 186 [t0] s=XL (den C n) n t0 s :=
 (am rfl Tryz.func186 _ _).trans (by kernel_rfl)
theorem XM:ah Tryz.prog 186=true:=by kernel_rfl
-- (*parser.parser).binary
noncomputable def p_ (D:a8)(n:Nat)(k0:Env→ag→aU)(e:Env)(s:ag):aU :=
 oh (af false false 1 (e 2) s) fun t12 s1 =>oh (af false false 1 (e 3) s1) fun t13 s2 =>oh (ab Tryz.prog D 209 [t13.aa] s2) fun t14 s3 =>oh (ab Tryz.prog D 99 [t12.aa,t14.aa] s3) fun t15 s4 =>
 ba C 187 (bo Tryz.f187 4) [(bz false (e 2)),(bz false (e 3)),(dyn (ee [t13.aa]) s2 s3),(dyn (ee [t12.aa,t14.aa]) s3 s4)] <|
 br t15 (oh (af false false 1 (e 2) s4) fun t16 s =>oh (some ((.fn 211 [] [(e 2),(e 3)]),s)) fun t17 s =>oh (ab Tryz.prog D 210 [t16.aa,(.int .i64 39),t17.aa] s) fun t18 s =>oh (af false false 1 (e 3) s) fun t19 s =>oh (mp (aK Tryz.prog .eql 3 t19 (.int .i64 2)) s) fun t20 s =>
 br t20
  (some (.aI [],s))
  (k0 (bf e [(12,t12),(13,t13),(14,t14),(15,t15),(16,t16),(17,t17),(18,t18),(19,t19),(20,t20)]) s))
  (some (.aI [],s4))
noncomputable def SM (D:a8)(n:Nat)(t0 t1:AV)(s:ag):aU :=
 oh (cL false 114 t0 s) fun t2 s =>oh (cL false 3 t1 s) fun t3 s =>oh (af false false 1 t3 s) fun t4 s =>oh (mp (aK Tryz.prog .eql 3 t4 (.int .i64 5)) s) fun t5 s =>
 br t5 (oh (af false false 1 t2 s) fun t6 s =>oh (ab Tryz.prog D 208 [t6.aa] s) fun t7 s =>
 some (.aI [],s)) (oh (af false false 1 t2 s) fun t8 s =>oh (af false false 1 t3 s) fun t9 s =>oh (mp (aK Tryz.prog .add 3 t9 (.int .i64 1)) s) fun t10 s =>oh (ab Tryz.prog D 187 [t8.aa,t10.aa] s) fun t11 s =>
 aJ (p_ D n) n (bf (aH [t0,t1]) [(2,t2),(3,t3),(4,t4),(5,t5),(8,t8),(9,t9),(10,t10),(11,t11)]) s)
theorem EG (n:Nat)(t0 t1:AV)(s:ag):den C (n+1) 187 [t0,t1] s=SM (den C n) n t0 t1 s :=
 (am rfl Tryz.func187 _ _).trans (by kernel_rfl)
theorem C4 {l0:List Nat}(x:aU):ba C 187 (bo Tryz.f187 4) [.ae,.ae,.ae,.call l0] x=x:=bT (by kernel_rfl)
theorem QT:ah Tryz.prog 187=true:=by kernel_rfl
-- (*parser.parser).params 1
noncomputable def XN (D:a8)(n:Nat)(t0 t1:AV)(s:ag):aU :=
 oh (af false false 1 t0 s) fun t2 s =>oh (af false false 1 t1 s) fun t3 s =>oh (some ((.fn 189 [] [t0]),s)) fun t4 s =>oh (ab Tryz.prog D 174 [t2.aa,t3.aa,t4.aa] s) fun t5 s =>
 some (.aI [],s)
theorem NK (n:Nat)(t0 t1:AV)(s:ag):den C (n+1) 188 [t0,t1] s=XN (den C n) n t0 t1 s :=
 (am rfl Tryz.func188 _ _).trans (by kernel_rfl)
theorem XO:ah Tryz.prog 188=true:=by kernel_rfl
-- (*parser.parser).params 1 1
noncomputable def SN (D:a8)(n:Nat)(t0:AV)(s:ag):aU :=
 oh (af false false 1 t0 s) fun t1 s =>oh (ab Tryz.prog D 176 [t1.aa] s) fun t2 s =>
 br t2 (oh (af false false 1 t0 s) fun t3 s =>oh (some ((.fn 190 [] [t0]),s)) fun t4 s =>oh (ab Tryz.prog D 103 [t3.aa,(.int .i64 13),t4.aa] s) fun t5 s =>
 some (.aI [],s))
  (some (.aI [],s))
theorem EH (n:Nat)(t0:AV)(s:ag):den C (n+1) 189 [t0] s=SN (den C n) n t0 s :=
 (am rfl Tryz.func189 _ _).trans (by kernel_rfl)
theorem QU:ah Tryz.prog 189=true:=by kernel_rfl
-- (*parser.parser).params 1 1 1
noncomputable def XP (D:a8)(n:Nat)(t0:AV)(s:ag):aU :=
 oh (af false false 1 t0 s) fun t1 s =>oh (ab Tryz.prog D 106 [t1.aa] s) fun t2 s =>oh (af false false 1 t0 s) fun t3 s =>oh (af false false 1 t0 s) fun t4 s =>oh (some ((.fn 150 [t4] []),s)) fun t5 s =>oh (ab Tryz.prog D 171 [t3.aa,(.str [58]),t5.aa] s) fun t6 s =>
 some (.aI [],s)
theorem NL (n:Nat)(t0:AV)(s:ag):den C (n+1) 190 [t0] s=XP (den C n) n t0 s :=
 (am rfl Tryz.func190 _ _).trans (by kernel_rfl)
theorem XQ:ah Tryz.prog 190=true:=by kernel_rfl
-- (*parser.parser).typeParams 1
noncomputable def SO (D:a8)(n:Nat)(t0:AV)(s:ag):aU :=
 oh (af false false 1 t0 s) fun t1 s =>oh (mp (ak Tryz.prog 75 1 [(0,(.str [60]))]) s) fun t2 s =>oh (ab Tryz.prog D 105 [t1.aa,t2.aa] s) fun t3 s =>
 br t3 (oh (af false false 1 t0 s) fun t4 s =>oh (af false false 1 t0 s) fun t5 s =>oh (some ((.fn 199 [t5] []),s)) fun t6 s =>oh (ab Tryz.prog D 174 [t4.aa,(.str [62]),t6.aa] s) fun t7 s =>
 some (.aI [],s))
  (some (.aI [],s))
theorem EI (n:Nat)(t0:AV)(s:ag):den C (n+1) 198 [t0] s=SO (den C n) n t0 s :=
 (am rfl Tryz.func198 _ _).trans (by kernel_rfl)
theorem QV:ah Tryz.prog 198=true:=by kernel_rfl
-- (*parser.parser).typeParam
noncomputable def SP (D:a8)(n:Nat)(t0:AV)(s:ag):aU :=
 oh (cL false 114 t0 s) fun t1 s =>oh (af false false 1 t1 s) fun t2 s =>oh (ab Tryz.prog D 176 [t2.aa] s) fun t3 s =>oh (mp (pF .not t3) s) fun t4 s =>
 br t4
  (some (.aI [],s)) (oh (af false false 1 t1 s) fun t5 s =>oh (some ((.fn 220 [] [t1]),s)) fun t6 s =>oh (ab Tryz.prog D 103 [t5.aa,(.int .i64 11),t6.aa] s) fun t7 s =>
 some (.aI [],s))
theorem EJ (n:Nat)(t0:AV)(s:ag):den C (n+1) 199 [t0] s=SP (den C n) n t0 s :=
 (am rfl Tryz.func199 _ _).trans (by kernel_rfl)
theorem QW:ah Tryz.prog 199=true:=by kernel_rfl
-- (*parser.parser).block 1
noncomputable def nR (D:a8)(n:Nat)(e:Env)(s:ag):aU :=
 oh (af false false 1 (e 0) s) fun t29 s =>oh (ab Tryz.prog D 149 [t29.aa,(.str [125])] s) fun t30 s =>
 some (.aI [],s)
noncomputable def jw (D:a8)(n:Nat)(k0:Env→ag→aU)(e:Env)(s:ag):aU :=
 oh (some ((e 1).aa,s)) fun t4 s1 =>oh (mp (pF .not t4) s1) fun t5 s2 =>oh (some (t5.aa,s2)) fun t6 s3 =>oh (gd (wA t6 true) s3 (af false false 1 (e 0) s3)) fun t7 s4 =>oh (gd (wA t6 true) s4 (mp (ak Tryz.prog 75 1 [(0,(.str [125]))]) s4)) fun t8 s5 =>oh (gd (wA t6 true) s5 (ab Tryz.prog D 99 [t7.aa,t8.aa] s5)) fun t9 s6 =>oh (gd (wA t6 true) s6 (mp (pF .not t9) s6)) fun t10 s7 =>oh (mp (bQ t6 t10 (.bool false)) s7) fun t11 s8 =>oh (some (t11.aa,s8)) fun t12 s9 =>oh (gd (wA t12 true) s9 (af false false 1 (e 0) s9)) fun t13 s10 =>oh (gd (wA t12 true) s10 (ab Tryz.prog D 64 [t13.aa] s10)) fun t14 s11 =>oh (gd (wA t12 true) s11 (mp (pF .not t14) s11)) fun t15 s12 =>oh (mp (bQ t12 t15 (.bool false)) s12) fun t16 s13 =>oh (some (t16.aa,s13)) fun t17 s14 =>oh (gd (wA t17 true) s14 (af false false 1 (e 0) s14)) fun t18 s15 =>oh (gd (wA t17 true) s15 (ab Tryz.prog D 141 [] s15)) fun t19 s16 =>oh (gd (wA t17 true) s16 (ab Tryz.prog D 99 [t18.aa,t19.aa] s16)) fun t20 s17 =>oh (gd (wA t17 true) s17 (mp (pF .not t20) s17)) fun t21 s18 =>oh (mp (bQ t17 t21 (.bool false)) s18) fun t22 s19 =>
 ba C 200 (bo Tryz.f200 2) [.ae,.ae,.ae,(iz (wA t6 true) (bz false (e 0))),(iz (wA t6 true) .ae),(iz (wA t6 true) (dyn (ee [t7.aa,t8.aa]) s5 s6)),(iz (wA t6 true) .ae),.ae,.ae,(iz (wA t12 true) (bz false (e 0))),(iz (wA t12 true) (dyn (ee [t13.aa]) s10 s11)),(iz (wA t12 true) .ae),.ae,.ae,(iz (wA t17 true) (bz false (e 0))),(iz (wA t17 true) (dyn (ee []) s15 s16)),(iz (wA t17 true) (dyn (ee [t18.aa,t19.aa]) s16 s17)),(iz (wA t17 true) .ae),.ae] <|
 br t22 (oh (af false false 1 (e 0) s19) fun t23 s =>oh (ab Tryz.prog D 201 [t23.aa] s) fun t24 s =>oh (some (t24,s)) fun SQ s =>
 k0 (bf e [(4,t4),(5,t5),(6,t6),(7,t7),(8,t8),(9,t9),(10,t10),(11,t11),(12,t12),(13,t13),(14,t14),(15,t15),(16,t16),(17,t17),(18,t18),(19,t19),(20,t20),(21,t21),(22,t22),(23,t23),(24,t24),(24,t24.aa),(1,SQ)]) s) (oh (some ((e 1).aa,s19)) fun t25 s =>oh (mp (pF .not t25) s) fun t26 s =>
 br t26 (oh (af false false 1 (e 0) s) fun t27 s =>oh (ab Tryz.prog D 172 [t27.aa] s) fun t28 s =>
 nR D n (bf e [(4,t4),(5,t5),(6,t6),(7,t7),(8,t8),(9,t9),(10,t10),(11,t11),(12,t12),(13,t13),(14,t14),(15,t15),(16,t16),(17,t17),(18,t18),(19,t19),(20,t20),(21,t21),(22,t22),(25,t25),(26,t26),(27,t27),(28,t28)]) s)
  (nR D n (bf e [(4,t4),(5,t5),(6,t6),(7,t7),(8,t8),(9,t9),(10,t10),(11,t11),(12,t12),(13,t13),(14,t14),(15,t15),(16,t16),(17,t17),(18,t18),(19,t19),(20,t20),(21,t21),(22,t22),(25,t25),(26,t26)]) s))
noncomputable def XR (D:a8)(n:Nat)(t0:AV)(s:ag):aU :=
 oh (af false false 1 t0 s) fun t2 s =>oh (ab Tryz.prog D 149 [t2.aa,(.str [123])] s) fun t3 s =>oh (some ((.bool false),s)) fun t1 s =>
 aJ (jw D n) n (bf (aH [t0]) [(2,t2),(3,t3),(1,t1)]) s
theorem NM (n:Nat)(t0:AV)(s:ag):den C (n+1) 200 [t0] s=XR (den C n) n t0 s :=
 (am rfl Tryz.func200 _ _).trans (by kernel_rfl)
theorem C5 {l0 l1 l2:List Nat}(x:aU):ba C 200 (bo Tryz.f200 2) [.ae,.ae,.ae,.ae,.ae,.call l0,.ae,.ae,.ae,.ae,.call l1,.ae,.ae,.ae,.ae,.ae,.call l2,.ae,.ae] x=x:=bT (by kernel_rfl)
theorem XS:ah Tryz.prog 200=true:=by kernel_rfl
-- (*parser.parser).statement
noncomputable def lV (D:a8)(n:Nat)(e:Env)(s:ag):aU :=
 oh (af false false 1 (e 1) s) fun t45 s =>oh (mp (au t45) s) fun t46 s =>oh (mp (aD 1 t46) s) fun t47 s =>oh (af false false 1 t47 s) fun t48 s =>oh (some ((e 3).aa,s)) fun t49 s =>oh (mp (aK Tryz.prog .eql 3 t48 t49) s) fun t50 s =>oh (some (t50,s)) fun t44 s =>
 br t44 (oh (af false false 1 (e 1) s) fun t51 s =>oh (mp (au t51) s) fun t52 s =>oh (mp (aD 2 t52) s) fun t53 s =>oh (af false false 1 t53 s) fun t54 s =>oh (af false false 1 (e 1) s) fun t55 s =>oh (mp (au t55) s) fun t56 s =>oh (mp (aD 2 t56) s) fun t57 s =>oh (af false false 1 t57 s) fun t58 s =>oh (mp (bN Tryz.prog 87 t58) s) fun t59 s =>oh (mp (aK Tryz.prog .sub 3 t59 (.int .i64 1)) s) fun t60 s =>oh (mp (aA Tryz.prog 87 t54 t60) s) fun t61 s =>oh (some (t61,s)) fun t5 s =>
 ba C 201 (bo Tryz.f201 17) [(bz false (e 1)),.ae,.ae,(bz false t53),(bz false (e 1)),.ae,.ae,(bz false t57),.ae,.ae,.ae,.ae] <|
 oh (some (t5.aa,s)) fun t62 s =>oh (some (t5.aa,s)) fun t63 s =>oh (mp (au t63) s) fun t64 s =>oh (mp (aD 2 t64) s) fun t65 s =>oh (af false false 1 t65 s) fun t66 s =>oh (some (t5.aa,s)) fun t67 s =>oh (mp (au t67) s) fun t68 s =>oh (mp (aD 2 t68) s) fun t69 s =>oh (af false false 1 t69 s) fun t70 s =>oh (mp (bN Tryz.prog 87 t70) s) fun t71 s =>oh (mp (aK Tryz.prog .sub 3 t71 (.int .i64 1)) s) fun t72 s =>oh (mp (mL Tryz.prog 87 t66 none (some t72) none) s) fun t73 s =>oh (mp (au t62) s) fun t74 s =>oh (mp (aD 2 t74) s) fun t75 s =>oh (dZ (aB 1 s t75 t73)) fun _r s =>
 ba C 201 (bo Tryz.f201 18) [.ae,.ae,.ae,.ae,(bz false t65),.ae,.ae,.ae,(bz false t69),.ae,.ae,.ae,.ae,.ae,(fQ t75)] <|
 oh (af false false 1 (e 1) s) fun t76 s =>oh (ab Tryz.prog D 203 [t76.aa] s) fun t77 s =>oh (some ((.bool false),s)) fun I7 s =>
 some (I7,s)) (oh (af false false 1 (e 1) s) fun t79 s =>oh (mp (ak Tryz.prog 75 1 [(0,(.str [125]))]) s) fun t80 s =>oh (ab Tryz.prog D 99 [t79.aa,t80.aa] s) fun t81 s =>oh (some (t81,s)) fun t78 s =>
 br t78 (oh (some ((.bool true),s)) fun SR s =>
 some (SR,s)) (oh (af false false 1 (e 1) s) fun t83 s =>oh (mp (ak Tryz.prog 75 1 [(0,(.str [61]))]) s) fun t84 s =>oh (ab Tryz.prog D 99 [t83.aa,t84.aa] s) fun t85 s =>oh (some (t85,s)) fun t82 s =>
 br t82 (oh (af false false 1 (e 1) s) fun t86 s =>oh (some ((.fn 225 [] [(e 1)]),s)) fun t87 s =>oh (ab Tryz.prog D 210 [t86.aa,(.int .i64 23),t87.aa] s) fun t88 s =>oh (some ((.bool false),s)) fun SS s =>
 some (SS,s)) (oh (af false false 1 (e 1) s) fun t41 s =>oh (some ((.fn 226 [] [(e 1),(e 4)]),s)) fun t42 s =>oh (ab Tryz.prog D 210 [t41.aa,(.int .i64 26),t42.aa] s) fun t43 s =>oh (some ((.bool false),s)) fun SU s =>
 some (SU,s))))
noncomputable def Gu (D:a8)(n:Nat)(t0:AV)(s:ag):aU :=
 oh (cL false 114 t0 s) fun t1 s =>oh (some ((.bool false),s)) fun t2 s =>oh (af false false 1 t1 s) fun t7 s =>oh (mp (ak Tryz.prog 75 1 [(0,(.str [108,101,116]))]) s) fun t8 s =>oh (ab Tryz.prog D 99 [t7.aa,t8.aa] s) fun t9 s =>oh (some (t9,s)) fun t6 s =>
 br t6 (oh (af false false 1 t1 s) fun t10 s =>oh (af false false 1 t1 s) fun t11 s =>oh (some ((.fn 221 [t11] []),s)) fun t12 s =>oh (ab Tryz.prog D 103 [t10.aa,(.int .i64 22),t12.aa] s) fun t13 s =>oh (some ((.bool false),s)) fun t2_2 s =>
 some (t2_2,s)) (oh (af false false 1 t1 s) fun t15 s =>oh (mp (ak Tryz.prog 75 1 [(0,(.str [119,104,105,108,101]))]) s) fun t16 s =>oh (ab Tryz.prog D 99 [t15.aa,t16.aa] s) fun t17 s =>oh (some (t17,s)) fun t14 s =>
 br t14 (oh (af false false 1 t1 s) fun t18 s =>oh (some ((.fn 222 [] [t1]),s)) fun t19 s =>oh (ab Tryz.prog D 103 [t18.aa,(.int .i64 24),t19.aa] s) fun t20 s =>oh (some ((.bool false),s)) fun t2_3 s =>
 some (t2_3,s)) (oh (af false false 1 t1 s) fun t22 s =>oh (mp (ak Tryz.prog 75 1 [(0,(.str [114,101,116,117,114,110]))]) s) fun t23 s =>oh (ab Tryz.prog D 99 [t22.aa,t23.aa] s) fun t24 s =>oh (some (t24,s)) fun t21 s =>
 br t21 (oh (af false false 1 t1 s) fun t25 s =>oh (af false false 1 t1 s) fun t26 s =>oh (some ((.fn 223 [t26] []),s)) fun t27 s =>oh (ab Tryz.prog D 103 [t25.aa,(.int .i64 25),t27.aa] s) fun t28 s =>oh (some ((.bool false),s)) fun I8 s =>
 some (I8,s)) (oh (af false false 1 t1 s) fun t29 s =>oh (mp (au t29) s) fun t30 s =>oh (mp (aD 1 t30) s) fun t31 s =>oh (af false false 1 t31 s) fun t32 s =>oh (some (t32,s)) fun t3 s =>oh (af false false 1 t1 s) fun t33 s =>oh (mp (ak Tryz.prog 75 3 [(0,(.str [105,102])),(1,(.str [109,97,116,99,104])),(2,(.str [123]))]) s) fun t34 s =>oh (ab Tryz.prog D 99 [t33.aa,t34.aa] s) fun t35 s =>oh (bH Tryz.prog 4 s) fun t4 s =>oh (dZ (aB 1 s t4 t35)) fun _r s =>oh (af false false 1 t4 s) fun t36 s =>
 br t36 (oh (af false false 1 t1 s) fun t37 s =>oh (ab Tryz.prog D 224 [t37.aa] s) fun t38 s =>
 lV D n (bf (aH [t0]) [(1,t1),(2,t2),(7,t7),(8,t8),(9,t9),(9,t9.aa),(6,t6),(15,t15),(16,t16),(17,t17),(17,t17.aa),(14,t14),(22,t22),(23,t23),(24,t24),(24,t24.aa),(21,t21),(29,t29),(30,t30),(31,t31),(32,t32),(32,t32.aa),(3,t3),(33,t33),(34,t34),(35,t35),(4,t4),(35,t35.aa),(36,t36),(37,t37),(38,t38)]) s) (oh (af false false 1 t1 s) fun t39 s =>oh (ab Tryz.prog D 151 [t39.aa] s) fun t40 s =>
 lV D n (bf (aH [t0]) [(1,t1),(2,t2),(7,t7),(8,t8),(9,t9),(9,t9.aa),(6,t6),(15,t15),(16,t16),(17,t17),(17,t17.aa),(14,t14),(22,t22),(23,t23),(24,t24),(24,t24.aa),(21,t21),(29,t29),(30,t30),(31,t31),(32,t32),(32,t32.aa),(3,t3),(33,t33),(34,t34),(35,t35),(4,t4),(35,t35.aa),(36,t36),(39,t39),(40,t40)]) s))))
theorem qf (n:Nat)(t0:AV)(s:ag):den C (n+1) 201 [t0] s=Gu (den C n) n t0 s :=
 (am rfl Tryz.func201 _ _).trans (by kernel_rfl)
theorem NN {g0 g1:Nat}(x:aU):ba C 201 (bo Tryz.f201 17) [.ae,.ae,.ae,.get g0,.ae,.ae,.ae,.get g1,.ae,.ae,.ae,.ae] x=x:=bT (by kernel_rfl)
theorem NO {g0 g1:Nat}(a:Nat)(x:aU):ba C 201 (bo Tryz.f201 18) [.ae,.ae,.ae,.ae,.get g0,.ae,.ae,.ae,.get g1,.ae,.ae,.ae,.ae,.ae,.put a] x=x:=dU (a:=a) (b:=a+1) (ks0:=[.ae,.ae,.ae,.ae,.cU,.ae,.ae,.ae,.cU,.ae,.ae,.ae,.ae,.ae,.put 0]) (by omega) (by kernel_rfl) rfl
theorem AQ:ah Tryz.prog 201=true:=by kernel_rfl
-- (*parser.parser).atItem
noncomputable def SV (D:a8)(n:Nat)(t0:AV)(s:ag):aU :=
 oh (some ((.bool false),s)) fun t2 s =>oh (some (t0.aa,s)) fun t3 s =>oh (ab Tryz.prog D 141 [] s) fun t4 s =>oh (ab Tryz.prog D 99 [t3.aa,t4.aa] s) fun t5 s =>oh (some (t5.aa,s)) fun t6 s =>oh (gd (wA t6 true) s (some (t0.aa,s))) fun t7 s =>oh (gd (wA t6 true) s (mp (ak Tryz.prog 75 1 [(0,(.str [102,110]))]) s)) fun t8 s =>oh (gd (wA t6 true) s (ab Tryz.prog D 99 [t7.aa,t8.aa] s)) fun t9 s =>oh (gd (wA t6 true) s (mp (pF .not t9) s)) fun t10 s =>oh (mp (bQ t6 t10 (.bool false)) s) fun t11 s =>oh (some (t11,s)) fun t2_2 s =>
 some (t2_2,s)
theorem EK (n:Nat)(t0:AV)(s:ag):den C (n+1) 202 [t0] s=SV (den C n) n t0 s :=
 (am rfl Tryz.func202 _ _).trans (by kernel_rfl)
theorem QX:ah Tryz.prog 202=true:=by kernel_rfl
-- (*parser.parser).unexpected
noncomputable def XT (D:a8)(n:Nat)(t0:AV)(s:ag):aU :=
 oh (some (t0.aa,s)) fun t2 s =>oh (some (t0.aa,s)) fun t3 s =>oh (some ((.fn 106 [t3] []),s)) fun t4 s =>oh (ab Tryz.prog D 103 [t2.aa,(.int .i64 46),t4.aa] s) fun t5 s =>
 some (.aI [],s)
theorem NP (n:Nat)(t0:AV)(s:ag):den C (n+1) 203 [t0] s=XT (den C n) n t0 s :=
 (am rfl Tryz.func203 _ _).trans (by kernel_rfl)
theorem XU:ah Tryz.prog 203=true:=by kernel_rfl
-- (*parser.parser).path 1
noncomputable def qg (D:a8)(n:Nat)(k0:Env→ag→aU)(e:Env)(s:ag):aU :=
 oh (some ((e 2).aa,s)) fun t3 s =>oh (some (t3.aa,s)) fun t4 s =>oh (gd (wA t4 false) s (af false false 1 (e 0) s)) fun t5 s =>oh (gd (wA t4 false) s (mp (ak Tryz.prog 75 1 [(0,(.str [58,58]))]) s)) fun t6 s =>oh (gd (wA t4 false) s (ab Tryz.prog D 105 [t5.aa,t6.aa] s)) fun t7 s =>oh (mp (bQ t4 (.bool true) t7) s) fun t8 s =>
 br t8 (oh (af false false 1 (e 0) s) fun t9 s =>oh (some ((.fn 207 [] [(e 0),(e 1)]),s)) fun t10 s =>oh (ab Tryz.prog D 103 [t9.aa,(.int .i64 18),t10.aa] s) fun t11 s =>oh (some ((.bool false),s)) fun t2_2 s =>
 k0 (bf e [(3,t3),(4,t4),(5,t5),(6,t6),(7,t7),(8,t8),(9,t9),(10,t10),(11,t11),(2,t2_2)]) s)
  (some (.aI [],s))
noncomputable def XV (D:a8)(n:Nat)(t0 t1:AV)(s:ag):aU :=
 oh (some ((.bool true),s)) fun t2 s =>
 aJ (qg D n) n (bf (aH [t0,t1]) [(2,t2)]) s
theorem NQ (n:Nat)(t0 t1:AV)(s:ag):den C (n+1) 206 [t0,t1] s=XV (den C n) n t0 t1 s :=
 (am rfl Tryz.func206 _ _).trans (by kernel_rfl)
theorem XW:ah Tryz.prog 206=true:=by kernel_rfl
-- (*parser.parser).path 1 1
noncomputable def RF (D:a8)(n:Nat)(t0 t1:AV)(s:ag):aU :=
 oh (af false false 1 t0 s) fun t2 s =>oh (ab Tryz.prog D 146 [t2.aa] s) fun t3 s =>oh (af false false 1 t1 s) fun t4 s =>oh (some (t4.aa,s)) fun t5 s =>oh (gd (wA t5 true) s (af false false 1 t0 s)) fun t6 s =>oh (gd (wA t5 true) s (mp (ak Tryz.prog 75 1 [(0,(.str [60]))]) s)) fun t7 s =>oh (gd (wA t5 true) s (ab Tryz.prog D 105 [t6.aa,t7.aa] s)) fun t8 s =>oh (mp (bQ t5 t8 (.bool false)) s) fun t9 s =>
 br t9 (oh (af false false 1 t0 s) fun t10 s =>oh (af false false 1 t0 s) fun t11 s =>oh (some ((.fn 150 [t11] []),s)) fun t12 s =>oh (ab Tryz.prog D 174 [t10.aa,(.str [62]),t12.aa] s) fun t13 s =>
 some (.aI [],s))
  (some (.aI [],s))
theorem yL (n:Nat)(t0 t1:AV)(s:ag):den C (n+1) 207 [t0,t1] s=RF (den C n) n t0 t1 s :=
 (am rfl Tryz.func207 _ _).trans (by kernel_rfl)
theorem I9:ah Tryz.prog 207=true:=by kernel_rfl
-- (*parser.parser).unary
noncomputable def NS (D:a8)(n:Nat)(t0:AV)(s:ag):aU :=
 oh (cL false 114 t0 s) fun t1 s =>oh (af false false 1 t1 s) fun t7 s =>oh (mp (ak Tryz.prog 75 3 [(0,(.str [45])),(1,(.str [33])),(2,(.str [42]))]) s) fun t8 s =>oh (ab Tryz.prog D 99 [t7.aa,t8.aa] s) fun t9 s =>oh (some (t9,s)) fun t6 s =>
 br t6 (oh (af false false 1 t1 s) fun t10 s =>oh (some ((.fn 228 [] [t1]),s)) fun t11 s =>oh (ab Tryz.prog D 103 [t10.aa,(.int .i64 40),t11.aa] s) fun t12 s =>
 some (.aI [],s)) (oh (af false false 1 t1 s) fun t14 s =>oh (mp (ak Tryz.prog 75 1 [(0,(.str [38]))]) s) fun t15 s =>oh (ab Tryz.prog D 99 [t14.aa,t15.aa] s) fun t16 s =>oh (some (t16,s)) fun t13 s =>
 br t13 (oh (af false false 1 t1 s) fun t17 s =>oh (some ((.fn 229 [] [t1]),s)) fun t18 s =>oh (ab Tryz.prog D 103 [t17.aa,(.int .i64 41),t18.aa] s) fun t19 s =>
 some (.aI [],s)) (oh (af false false 1 t1 s) fun t2 s =>oh (ab Tryz.prog D 224 [t2.aa] s) fun t3 s =>oh (af false false 1 t1 s) fun t4 s =>oh (ab Tryz.prog D 230 [t4.aa] s) fun t5 s =>
 some (.aI [],s)))
theorem yM (n:Nat)(t0:AV)(s:ag):den C (n+1) 208 [t0] s=NS (den C n) n t0 s :=
 (am rfl Tryz.func208 _ _).trans (by kernel_rfl)
theorem I_:ah Tryz.prog 208=true:=by kernel_rfl
-- parser.binaryOperators
noncomputable def abg (D:a8)(n:Nat)(t0:AV)(s:ag):aU :=
 oh (some (.aN,s)) fun t2 s =>oh (mp (ak Tryz.prog 75 1 [(0,(.str [124,124]))]) s) fun t3 s =>oh (mp (ak Tryz.prog 75 1 [(0,(.str [38,38]))]) s) fun t4 s =>oh (mp (ak Tryz.prog 75 2 [(0,(.str [61,61])),(1,(.str [60]))]) s) fun t5 s =>oh (mp (ak Tryz.prog 75 2 [(0,(.str [43])),(1,(.str [45]))]) s) fun t6 s =>oh (mp (ak Tryz.prog 75 2 [(0,(.str [42])),(1,(.str [47]))]) s) fun t7 s =>oh (mp (ak Tryz.prog 234 5 [(0,t3),(1,t4),(2,t5),(3,t6),(4,t7)]) s) fun t8 s =>oh (some (t0.aa,s)) fun t9 s =>oh (mp (aA Tryz.prog 234 t8 t9) s) fun t10 s =>oh (af false false 1 t10 s) fun t11 s =>oh (some (t11,s)) fun t2_2 s =>
 some (t2_2,s)
theorem NT (n:Nat)(t0:AV)(s:ag):den C (n+1) 209 [t0] s=abg (den C n) n t0 s :=
 (am rfl Tryz.func209 _ _).trans (by kernel_rfl)
theorem XX:ah Tryz.prog 209=true:=by kernel_rfl
-- (*parser.parser).wrap
noncomputable def XY (D:a8)(n:Nat)(t0 t1 t2:AV)(s:ag):aU :=
 oh (some (t0.aa,s)) fun t9 s =>oh (mp (au t9) s) fun t10 s =>oh (mp (aD 2 t10) s) fun t11 s =>oh (af false false 1 t11 s) fun t12 s =>oh (some (t0.aa,s)) fun t13 s =>oh (mp (au t13) s) fun t14 s =>oh (mp (aD 2 t14) s) fun t15 s =>oh (af false false 1 t15 s) fun t16 s =>oh (mp (bN Tryz.prog 87 t16) s) fun t17 s =>oh (mp (aK Tryz.prog .sub 3 t17 (.int .i64 1)) s) fun t18 s =>oh (mp (aA Tryz.prog 87 t12 t18) s) fun t19 s =>oh (some (t19,s)) fun t6 s =>
 ba C 210 (bo Tryz.f210 0) [.ae,.ae,.ae,(bz false t11),.ae,.ae,.ae,(bz false t15),.ae,.ae,.ae,.ae] <|
 oh (some (t6.aa,s)) fun t20 s =>oh (mp (au t20) s) fun t21 s =>oh (mp (aD 2 t21) s) fun t22 s =>oh (af false false 1 t22 s) fun t23 s =>oh (mp (bN Tryz.prog 87 t23) s) fun t24 s =>oh (mp (aK Tryz.prog .sub 3 t24 (.int .i64 1)) s) fun t25 s =>oh (some (t25,s)) fun t7 s =>oh (some (t6.aa,s)) fun t26 s =>oh (mp (au t26) s) fun t27 s =>oh (mp (aD 2 t27) s) fun t28 s =>oh (af false false 1 t28 s) fun t29 s =>oh (some (t7.aa,s)) fun t30 s =>oh (mp (aA Tryz.prog 87 t29 t30) s) fun t31 s =>oh (af false true 3 t31 s) fun t32 s =>oh (bH Tryz.prog 89 s) fun t8 s =>oh (dZ (aB 3 s t8 t32)) fun _r s =>oh (some (t6.aa,s)) fun t33 s =>oh (some (t6.aa,s)) fun t34 s =>oh (mp (au t34) s) fun t35 s =>oh (mp (aD 2 t35) s) fun t36 s =>oh (af false false 1 t36 s) fun t37 s =>oh (some (t7.aa,s)) fun t38 s =>oh (mp (mL Tryz.prog 87 t37 none (some t38) none) s) fun t39 s =>oh (mp (au t33) s) fun t40 s =>oh (mp (aD 2 t40) s) fun t41 s =>oh (dZ (aB 1 s t41 t39)) fun _r s =>oh (some (t0.aa,s)) fun t42 s1 =>oh (mp (au t42) s1) fun t43 s2 =>oh (mp (aD 2 t43) s2) fun t44 s3 =>oh (af false false 1 t44 s3) fun t45 s4 =>oh (some (t1.aa,s4)) fun t46 s5 =>oh (af false true 3 t8 s5) fun t47 s6 =>oh (fN Tryz.prog 87 1 [(0,t47)] s6) fun t48 s7 =>oh (mp (bn Tryz.prog 89 [(0,t46),(2,t48)]) s7) fun t49 s8 =>oh (mp (bN Tryz.prog 87 t45) s8) fun t50 s9 =>oh (mp (ak Tryz.prog 87 1 [(0,(.agg [(.int .i64 0),(.str []),.aN]))]) s9) fun t51 s10 =>oh (bA Tryz.prog 87 87 t45 t51 s10) fun t52 s11 =>oh (mp (aA Tryz.prog 87 t52 t50) s11) fun t53 s12 =>oh (dZ (aB 3 s12 t53 t49)) fun _r s13 =>oh (mp (au t42) s13) fun t54 s14 =>oh (mp (aD 2 t54) s14) fun t55 s15 =>oh (dZ (aB 1 s15 t55 t52.aa)) fun _r s16 =>
 ba C 210 (bo Tryz.f210 4) [.ae,.ae,.ae,(bz false t44),.ae,(bz false t8),.alloc,.ae,.ae,.ae,(dyn (oS t45) s10 s11),.ae,(fQ t53),.ae,.ae,(fQ t55)] <|
 oh (some (t2.aa,s16)) fun t56 s =>oh (fP Tryz.prog D t56 [] s) fun t57 s =>oh (some (t0.aa,s)) fun t58 s =>oh (ab Tryz.prog D 142 [t58.aa] s) fun t59 s =>
 some (.aI [],s)
theorem NU (n:Nat)(t0 t1 t2:AV)(s:ag):den C (n+1) 210 [t0,t1,t2] s=XY (den C n) n t0 t1 t2 s :=
 (am rfl Tryz.func210 _ _).trans (by kernel_rfl)
theorem SX {g0 g1:Nat}(x:aU):ba C 210 (bo Tryz.f210 0) [.ae,.ae,.ae,.get g0,.ae,.ae,.ae,.get g1,.ae,.ae,.ae,.ae] x=x:=bT (by kernel_rfl)
theorem SY {g0 g1:Nat}{q0:Option Nat}(a b:Nat)(h:a≠b)(x:aU):ba C 210 (bo Tryz.f210 4) [.ae,.ae,.ae,.get g0,.ae,.get g1,.alloc,.ae,.ae,.ae,.app q0,.ae,.put a,.ae,.ae,.put b] x=x:=dU (ks0:=[.ae,.ae,.ae,.cU,.ae,.cU,.alloc,.ae,.ae,.ae,.bX,.ae,.put 0,.ae,.ae,.put 1]) h (by kernel_rfl) rfl
theorem XZ:ah Tryz.prog 210=true:=by kernel_rfl
-- (*parser.parser).binary 1
noncomputable def X0 (D:a8)(n:Nat)(t0 t1:AV)(s:ag):aU :=
 oh (af false false 1 t0 s) fun t2 s =>oh (ab Tryz.prog D 106 [t2.aa] s) fun t3 s =>oh (af false false 1 t0 s) fun t4 s =>oh (af false false 1 t1 s) fun t5 s =>oh (mp (aK Tryz.prog .add 3 t5 (.int .i64 1)) s) fun t6 s =>oh (ab Tryz.prog D 187 [t4.aa,t6.aa] s) fun t7 s =>
 some (.aI [],s)
theorem NV (n:Nat)(t0 t1:AV)(s:ag):den C (n+1) 211 [t0,t1] s=X0 (den C n) n t0 t1 s :=
 (am rfl Tryz.func211 _ _).trans (by kernel_rfl)
theorem X1:ah Tryz.prog 211=true:=by kernel_rfl
-- (*parser.parser).typeParam 1
noncomputable def tX (D:a8)(n:Nat)(k0:Env→ag→aU)(e:Env)(s:ag):aU :=
 oh (af false false 1 (e 0) s) fun t8 s =>oh (mp (ak Tryz.prog 75 1 [(0,(.str [43]))]) s) fun t9 s =>oh (ab Tryz.prog D 105 [t8.aa,t9.aa] s) fun t10 s =>
 br t10 (oh (af false false 1 (e 0) s) fun t11 s =>oh (ab Tryz.prog D 185 [t11.aa,(.bool true)] s) fun t12 s =>
 k0 (bf e [(8,t8),(9,t9),(10,t10),(11,t11),(12,t12)]) s)
  (some (.aI [],s))
noncomputable def SZ (D:a8)(n:Nat)(t0:AV)(s:ag):aU :=
 oh (af false false 1 t0 s) fun t1 s =>oh (ab Tryz.prog D 106 [t1.aa] s) fun t2 s =>oh (af false false 1 t0 s) fun t3 s =>oh (mp (ak Tryz.prog 75 1 [(0,(.str [58]))]) s) fun t4 s =>oh (ab Tryz.prog D 105 [t3.aa,t4.aa] s) fun t5 s =>
 br t5 (oh (af false false 1 t0 s) fun t6 s =>oh (ab Tryz.prog D 185 [t6.aa,(.bool true)] s) fun t7 s =>
 aJ (tX D n) n (bf (aH [t0]) [(1,t1),(2,t2),(3,t3),(4,t4),(5,t5),(6,t6),(7,t7)]) s)
  (some (.aI [],s))
theorem EL (n:Nat)(t0:AV)(s:ag):den C (n+1) 220 [t0] s=SZ (den C n) n t0 s :=
 (am rfl Tryz.func220 _ _).trans (by kernel_rfl)
theorem QY:ah Tryz.prog 220=true:=by kernel_rfl
-- (*parser.parser).let
noncomputable def X2 (D:a8)(n:Nat)(t0:AV)(s:ag):aU :=
 oh (some (t0.aa,s)) fun t2 s =>oh (ab Tryz.prog D 106 [t2.aa] s) fun t3 s =>oh (some (t0.aa,s)) fun t4 s =>oh (ab Tryz.prog D 235 [t4.aa] s) fun t5 s =>oh (some (t0.aa,s)) fun t6 s =>oh (some (t0.aa,s)) fun t7 s =>oh (some ((.fn 150 [t7] []),s)) fun t8 s =>oh (ab Tryz.prog D 171 [t6.aa,(.str [58]),t8.aa] s) fun t9 s =>oh (some (t0.aa,s)) fun t10 s =>oh (ab Tryz.prog D 149 [t10.aa,(.str [61])] s) fun t11 s =>oh (some (t0.aa,s)) fun t12 s =>oh (ab Tryz.prog D 151 [t12.aa] s) fun t13 s =>oh (some (t0.aa,s)) fun t14 s =>oh (ab Tryz.prog D 149 [t14.aa,(.str [59])] s) fun t15 s =>
 some (.aI [],s)
theorem NW (n:Nat)(t0:AV)(s:ag):den C (n+1) 221 [t0] s=X2 (den C n) n t0 s :=
 (am rfl Tryz.func221 _ _).trans (by kernel_rfl)
theorem X3:ah Tryz.prog 221=true:=by kernel_rfl
-- (*parser.parser).statement 1
noncomputable def X4 (D:a8)(n:Nat)(t0:AV)(s:ag):aU :=
 oh (af false false 1 t0 s) fun t1 s =>oh (ab Tryz.prog D 106 [t1.aa] s) fun t2 s =>oh (af false false 1 t0 s) fun t3 s =>oh (ab Tryz.prog D 151 [t3.aa] s) fun t4 s =>oh (af false false 1 t0 s) fun t5 s =>oh (ab Tryz.prog D 173 [t5.aa] s) fun t6 s =>
 some (.aI [],s)
theorem NX (n:Nat)(t0:AV)(s:ag):den C (n+1) 222 [t0] s=X4 (den C n) n t0 s :=
 (am rfl Tryz.func222 _ _).trans (by kernel_rfl)
theorem X5:ah Tryz.prog 222=true:=by kernel_rfl
-- (*parser.parser).returnStmt
noncomputable def tY (D:a8)(n:Nat)(e:Env)(s:ag):aU :=
 oh (some ((e 0).aa,s)) fun t11 s =>oh (ab Tryz.prog D 149 [t11.aa,(.str [59])] s) fun t12 s =>
 some (.aI [],s)
noncomputable def S8 (D:a8)(n:Nat)(t0:AV)(s:ag):aU :=
 oh (some (t0.aa,s)) fun t2 s =>oh (ab Tryz.prog D 106 [t2.aa] s) fun t3 s =>oh (some (t0.aa,s)) fun t4 s =>oh (mp (ak Tryz.prog 75 1 [(0,(.str [59]))]) s) fun t5 s =>oh (ab Tryz.prog D 99 [t4.aa,t5.aa] s) fun t6 s =>
 br t6 (oh (some (t0.aa,s)) fun t7 s =>oh (ab Tryz.prog D 172 [t7.aa] s) fun t8 s =>
 tY D n (bf (aH [t0]) [(2,t2),(3,t3),(4,t4),(5,t5),(6,t6),(7,t7),(8,t8)]) s) (oh (some (t0.aa,s)) fun t9 s =>oh (ab Tryz.prog D 151 [t9.aa] s) fun t10 s =>
 tY D n (bf (aH [t0]) [(2,t2),(3,t3),(4,t4),(5,t5),(6,t6),(9,t9),(10,t10)]) s)
theorem EM (n:Nat)(t0:AV)(s:ag):den C (n+1) 223 [t0] s=S8 (den C n) n t0 s :=
 (am rfl Tryz.func223 _ _).trans (by kernel_rfl)
theorem QZ:ah Tryz.prog 223=true:=by kernel_rfl
-- (*parser.parser).primary
noncomputable def qh (D:a8)(n:Nat)(t0:AV)(s:ag):aU :=
 oh (cL false 114 t0 s) fun t1 s =>oh (af false false 1 t1 s) fun t3 s =>oh (ab Tryz.prog D 98 [t3.aa] s) fun t4 s =>oh (bH Tryz.prog 147 s) fun t2 s =>oh (dZ (aB 2 s t2 t4)) fun _r s =>oh (mp (aD 0 t2) s) fun t8 s =>oh (af false false 1 t8 s) fun t9 s =>oh (mp (aK Tryz.prog .eql 3 t9 (.int .i64 105)) s) fun t10 s =>oh (some (t10,s)) fun t7 s =>
 br t7 (oh (af false false 1 t1 s) fun t11 s =>oh (af false false 1 t1 s) fun t12 s =>oh (some ((.fn 106 [t12] []),s)) fun t13 s =>oh (ab Tryz.prog D 103 [t11.aa,(.int .i64 27),t13.aa] s) fun t14 s =>
 some (.aI [],s)) (oh (mp (aD 0 t2) s) fun t16 s =>oh (af false false 1 t16 s) fun t17 s =>oh (mp (aK Tryz.prog .eql 3 t17 (.int .i64 106)) s) fun t18 s =>oh (some (t18,s)) fun t15 s =>
 br t15 (oh (af false false 1 t1 s) fun t19 s =>oh (af false false 1 t1 s) fun t20 s =>oh (some ((.fn 106 [t20] []),s)) fun t21 s =>oh (ab Tryz.prog D 103 [t19.aa,(.int .i64 29),t21.aa] s) fun t22 s =>
 some (.aI [],s)) (oh (af false false 1 t1 s) fun t24 s =>oh (mp (ak Tryz.prog 75 2 [(0,(.str [116,114,117,101])),(1,(.str [102,97,108,115,101]))]) s) fun t25 s =>oh (ab Tryz.prog D 99 [t24.aa,t25.aa] s) fun t26 s =>oh (some (t26,s)) fun t23 s =>
 br t23 (oh (af false false 1 t1 s) fun t27 s =>oh (af false false 1 t1 s) fun t28 s =>oh (some ((.fn 106 [t28] []),s)) fun t29 s =>oh (ab Tryz.prog D 103 [t27.aa,(.int .i64 28),t29.aa] s) fun t30 s =>
 some (.aI [],s)) (oh (mp (aD 0 t2) s) fun t32 s =>oh (af false false 1 t32 s) fun t33 s =>oh (mp (aK Tryz.prog .eql 3 t33 (.int .i64 103)) s) fun t34 s =>oh (some (t34,s)) fun t31 s =>
 br t31 (oh (af false false 1 t1 s) fun t35 s =>oh (ab Tryz.prog D 185 [t35.aa,(.bool false)] s) fun t36 s =>oh (af false false 1 t1 s) fun t37 s =>oh (mp (ak Tryz.prog 75 1 [(0,(.str [33]))]) s) fun t38 s =>oh (ab Tryz.prog D 99 [t37.aa,t38.aa] s) fun t39 s =>oh (some (t39.aa,s)) fun t40 s =>oh (gd (wA t40 true) s (af false false 1 t1 s)) fun t41 s =>oh (gd (wA t40 true) s (ab Tryz.prog D 100 [t41.aa] s)) fun t42 s =>oh (gd (wA t40 true) s (mp (ak Tryz.prog 75 1 [(0,(.str [40]))]) s)) fun t43 s =>oh (gd (wA t40 true) s (ab Tryz.prog D 99 [t42.aa,t43.aa] s)) fun t44 s =>oh (mp (bQ t40 t44 (.bool false)) s) fun t45 s =>
 br t45 (oh (af false false 1 t1 s) fun t46 s =>oh (some ((.fn 236 [] [t1]),s)) fun t47 s =>oh (ab Tryz.prog D 210 [t46.aa,(.int .i64 42),t47.aa] s) fun t48 s =>
 some (.aI [],s))
  (some (.aI [],s))) (oh (af false false 1 t1 s) fun t50 s =>oh (mp (ak Tryz.prog 75 1 [(0,(.str [40]))]) s) fun t51 s =>oh (ab Tryz.prog D 99 [t50.aa,t51.aa] s) fun t52 s =>oh (some (t52,s)) fun t49 s =>
 br t49 (oh (af false false 1 t1 s) fun t53 s =>oh (some ((.fn 238 [] [t1]),s)) fun t54 s =>oh (ab Tryz.prog D 103 [t53.aa,(.int .i64 60),t54.aa] s) fun t55 s =>
 some (.aI [],s)) (oh (af false false 1 t1 s) fun t57 s =>oh (mp (ak Tryz.prog 75 1 [(0,(.str [123]))]) s) fun t58 s =>oh (ab Tryz.prog D 99 [t57.aa,t58.aa] s) fun t59 s =>oh (some (t59,s)) fun t56 s =>
 br t56 (oh (af false false 1 t1 s) fun t60 s =>oh (ab Tryz.prog D 173 [t60.aa] s) fun t61 s =>
 some (.aI [],s)) (oh (af false false 1 t1 s) fun t63 s =>oh (mp (ak Tryz.prog 75 1 [(0,(.str [105,102]))]) s) fun t64 s =>oh (ab Tryz.prog D 99 [t63.aa,t64.aa] s) fun t65 s =>oh (some (t65,s)) fun t62 s =>
 br t62 (oh (af false false 1 t1 s) fun t66 s =>oh (ab Tryz.prog D 239 [t66.aa] s) fun t67 s =>
 some (.aI [],s)) (oh (af false false 1 t1 s) fun t69 s =>oh (mp (ak Tryz.prog 75 1 [(0,(.str [109,97,116,99,104]))]) s) fun t70 s =>oh (ab Tryz.prog D 99 [t69.aa,t70.aa] s) fun t71 s =>oh (some (t71,s)) fun t68 s =>
 br t68 (oh (af false false 1 t1 s) fun t72 s =>oh (af false false 1 t1 s) fun t73 s =>oh (some ((.fn 240 [t73] []),s)) fun t74 s =>oh (ab Tryz.prog D 103 [t72.aa,(.int .i64 35),t74.aa] s) fun t75 s =>
 some (.aI [],s)) (oh (af false false 1 t1 s) fun t77 s =>oh (mp (ak Tryz.prog 75 1 [(0,(.str [110,101,119]))]) s) fun t78 s =>oh (ab Tryz.prog D 99 [t77.aa,t78.aa] s) fun t79 s =>oh (some (t79,s)) fun t76 s =>
 br t76 (oh (af false false 1 t1 s) fun t80 s =>oh (af false false 1 t1 s) fun t81 s =>oh (some ((.fn 241 [t81] []),s)) fun t82 s =>oh (ab Tryz.prog D 103 [t80.aa,(.int .i64 33),t82.aa] s) fun t83 s =>
 some (.aI [],s)) (oh (af false false 1 t1 s) fun t85 s =>oh (mp (ak Tryz.prog 75 2 [(0,(.str [124])),(1,(.str [124,124]))]) s) fun t86 s =>oh (ab Tryz.prog D 99 [t85.aa,t86.aa] s) fun t87 s =>oh (some (t87,s)) fun t84 s =>
 br t84 (oh (af false false 1 t1 s) fun t88 s =>oh (af false false 1 t1 s) fun t89 s =>oh (some ((.fn 242 [t89] []),s)) fun t90 s =>oh (ab Tryz.prog D 103 [t88.aa,(.int .i64 38),t90.aa] s) fun t91 s =>
 some (.aI [],s)) (oh (af false false 1 t1 s) fun t5 s =>oh (ab Tryz.prog D 186 [t5.aa] s) fun t6 s =>
 some (.aI [],s)))))))))))
theorem fZ (n:Nat)(t0:AV)(s:ag):den C (n+1) 224 [t0] s=qh (den C n) n t0 s :=
 (am rfl Tryz.func224 _ _).trans (by kernel_rfl)
theorem lq:ah Tryz.prog 224=true:=by kernel_rfl
-- (*parser.parser).statement 2
noncomputable def X6 (D:a8)(n:Nat)(t0:AV)(s:ag):aU :=
 oh (af false false 1 t0 s) fun t1 s =>oh (ab Tryz.prog D 106 [t1.aa] s) fun t2 s =>oh (af false false 1 t0 s) fun t3 s =>oh (ab Tryz.prog D 151 [t3.aa] s) fun t4 s =>oh (af false false 1 t0 s) fun t5 s =>oh (ab Tryz.prog D 149 [t5.aa,(.str [59])] s) fun t6 s =>
 some (.aI [],s)
theorem NY (n:Nat)(t0:AV)(s:ag):den C (n+1) 225 [t0] s=X6 (den C n) n t0 s :=
 (am rfl Tryz.func225 _ _).trans (by kernel_rfl)
theorem X7:ah Tryz.prog 225=true:=by kernel_rfl
-- (*parser.parser).statement 3
noncomputable def NZ (D:a8)(n:Nat)(t0 t1:AV)(s:ag):aU :=
 oh (af false false 1 t0 s) fun t2 s =>oh (mp (ak Tryz.prog 75 1 [(0,(.str [59]))]) s) fun t3 s =>oh (ab Tryz.prog D 105 [t2.aa,t3.aa] s) fun t4 s =>oh (mp (pF .not t4) s) fun t5 s =>oh (some (t5.aa,s)) fun t6 s =>oh (gd (wA t6 true) s (af false false 1 t1 s)) fun t7 s =>oh (gd (wA t6 true) s (mp (pF .not t7) s)) fun t8 s =>oh (mp (bQ t6 t8 (.bool false)) s) fun t9 s =>
 br t9 (oh (af false false 1 t0 s) fun t10 s =>oh (ab Tryz.prog D 179 [t10.aa] s) fun t11 s =>
 some (.aI [],s))
  (some (.aI [],s))
theorem yN (n:Nat)(t0 t1:AV)(s:ag):den C (n+1) 226 [t0,t1] s=NZ (den C n) n t0 t1 s :=
 (am rfl Tryz.func226 _ _).trans (by kernel_rfl)
theorem I':ah Tryz.prog 226=true:=by kernel_rfl
-- (*parser.parser).unary 1
noncomputable def X8 (D:a8)(n:Nat)(t0:AV)(s:ag):aU :=
 oh (af false false 1 t0 s) fun t1 s =>oh (ab Tryz.prog D 106 [t1.aa] s) fun t2 s =>oh (af false false 1 t0 s) fun t3 s =>oh (ab Tryz.prog D 208 [t3.aa] s) fun t4 s =>
 some (.aI [],s)
theorem N_ (n:Nat)(t0:AV)(s:ag):den C (n+1) 228 [t0] s=X8 (den C n) n t0 s :=
 (am rfl Tryz.func228 _ _).trans (by kernel_rfl)
theorem X9:ah Tryz.prog 228=true:=by kernel_rfl
-- (*parser.parser).unary 2
noncomputable def S9 (D:a8)(n:Nat)(t0:AV)(s:ag):aU :=
 oh (af false false 1 t0 s) fun t1 s =>oh (ab Tryz.prog D 106 [t1.aa] s) fun t2 s =>oh (af false false 1 t0 s) fun t3 s =>oh (mp (ak Tryz.prog 75 1 [(0,(.str [109,117,116]))]) s) fun t4 s =>oh (ab Tryz.prog D 105 [t3.aa,t4.aa] s) fun t5 s =>oh (af false false 1 t0 s) fun t6 s =>oh (ab Tryz.prog D 208 [t6.aa] s) fun t7 s =>
 some (.aI [],s)
theorem EN (n:Nat)(t0:AV)(s:ag):den C (n+1) 229 [t0] s=S9 (den C n) n t0 s :=
 (am rfl Tryz.func229 _ _).trans (by kernel_rfl)
theorem Q0:ah Tryz.prog 229=true:=by kernel_rfl
-- (*parser.parser).postfix
noncomputable def lW (D:a8)(n:Nat)(k0:Env→ag→aU)(e:Env)(s:ag):aU :=
 oh (af false false 1 (e 1) s) fun t3 s =>oh (mp (ak Tryz.prog 75 2 [(0,(.str [40])),(1,(.str [46]))]) s) fun t4 s =>oh (ab Tryz.prog D 99 [t3.aa,t4.aa] s) fun t5 s =>
 br t5 (oh (af false false 1 (e 1) s) fun t6 s =>oh (mp (ak Tryz.prog 75 1 [(0,(.str [40]))]) s) fun t7 s =>oh (ab Tryz.prog D 99 [t6.aa,t7.aa] s) fun t8 s =>
 br t8 (oh (af false false 1 (e 1) s) fun t9 s =>oh (af false false 1 (e 1) s) fun t10 s =>oh (some ((.fn 237 [t10] []),s)) fun t11 s =>oh (ab Tryz.prog D 210 [t9.aa,(.int .i64 30),t11.aa] s) fun t12 s =>
 k0 (bf e [(3,t3),(4,t4),(5,t5),(6,t6),(7,t7),(8,t8),(9,t9),(10,t10),(11,t11),(12,t12)]) s) (oh (af false false 1 (e 1) s) fun t13 s =>oh (ab Tryz.prog D 100 [t13.aa] s) fun t14 s =>oh (some (t14,s)) fun t2 s =>oh (some (t2.aa,s)) fun t15 s =>oh (ab Tryz.prog D 176 [t15.aa] s) fun t16 s =>oh (some (t16.aa,s)) fun t17 s =>oh (gd (wA t17 true) s (some (t2.aa,s))) fun t18 s =>oh (gd (wA t17 true) s (ab Tryz.prog D 100 [t18.aa] s)) fun t19 s =>oh (gd (wA t17 true) s (mp (ak Tryz.prog 75 1 [(0,(.str [40]))]) s)) fun t20 s =>oh (gd (wA t17 true) s (ab Tryz.prog D 99 [t19.aa,t20.aa] s)) fun t21 s =>oh (mp (bQ t17 t21 (.bool false)) s) fun t22 s =>
 br t22 (oh (af false false 1 (e 1) s) fun t23 s =>oh (some ((.fn 244 [] [(e 1)]),s)) fun t24 s =>oh (ab Tryz.prog D 210 [t23.aa,(.int .i64 31),t24.aa] s) fun t25 s =>
 k0 (bf e [(3,t3),(4,t4),(5,t5),(6,t6),(7,t7),(8,t8),(13,t13),(14,t14),(14,t14.aa),(2,t2),(15,t15),(16,t16),(17,t17),(18,t18),(19,t19),(20,t20),(21,t21),(22,t22),(23,t23),(24,t24),(25,t25)]) s) (oh (af false false 1 (e 1) s) fun t26 s =>oh (some ((.fn 245 [] [(e 1)]),s)) fun t27 s =>oh (ab Tryz.prog D 210 [t26.aa,(.int .i64 32),t27.aa] s) fun t28 s =>
 k0 (bf e [(3,t3),(4,t4),(5,t5),(6,t6),(7,t7),(8,t8),(13,t13),(14,t14),(14,t14.aa),(2,t2),(15,t15),(16,t16),(17,t17),(18,t18),(19,t19),(20,t20),(21,t21),(22,t22),(26,t26),(27,t27),(28,t28)]) s)))
  (some (.aI [],s))
noncomputable def X_ (D:a8)(n:Nat)(t0:AV)(s:ag):aU :=
 oh (cL false 114 t0 s) fun t1 s =>
 aJ (lW D n) n (bf (aH [t0]) [(1,t1)]) s
theorem N' (n:Nat)(t0:AV)(s:ag):den C (n+1) 230 [t0] s=X_ (den C n) n t0 s :=
 (am rfl Tryz.func230 _ _).trans (by kernel_rfl)
theorem X':ah Tryz.prog 230=true:=by kernel_rfl
-- (*parser.parser).pattern
noncomputable def kU (D:a8)(n:Nat)(t0:AV)(s:ag):aU :=
 oh (cL false 114 t0 s) fun t1 s =>oh (af false false 1 t1 s) fun t3 s =>oh (ab Tryz.prog D 98 [t3.aa] s) fun t4 s =>oh (bH Tryz.prog 147 s) fun t2 s =>oh (dZ (aB 2 s t2 t4)) fun _r s =>oh (af false false 1 t1 s) fun t8 s =>oh (mp (ak Tryz.prog 75 1 [(0,(.str [109,117,116]))]) s) fun t9 s =>oh (ab Tryz.prog D 99 [t8.aa,t9.aa] s) fun t10 s =>oh (some (t10,s)) fun t7 s =>
 br t7 (oh (af false false 1 t1 s) fun t11 s =>oh (some ((.fn 249 [] [t1]),s)) fun t12 s =>oh (ab Tryz.prog D 103 [t11.aa,(.int .i64 44),t12.aa] s) fun t13 s =>
 some (.aI [],s)) (oh (af false false 1 t1 s) fun t15 s =>oh (ab Tryz.prog D 176 [t15.aa] s) fun t16 s =>oh (some (t16.aa,s)) fun t17 s =>oh (gd (wA t17 true) s (mp (aD 1 t2) s)) fun t18 s =>oh (gd (wA t17 true) s (af false false 1 t18 s)) fun t19 s =>oh (gd (wA t17 true) s (mp (aK Tryz.prog .eql 9 t19 (.str [95])) s)) fun t20 s =>oh (mp (bQ t17 t20 (.bool false)) s) fun t21 s =>oh (some (t21,s)) fun t14 s =>
 br t14 (oh (af false false 1 t1 s) fun t22 s =>oh (af false false 1 t1 s) fun t23 s =>oh (some ((.fn 106 [t23] []),s)) fun t24 s =>oh (ab Tryz.prog D 103 [t22.aa,(.int .i64 43),t24.aa] s) fun t25 s =>
 some (.aI [],s)) (oh (af false false 1 t1 s) fun t27 s =>oh (ab Tryz.prog D 176 [t27.aa] s) fun t28 s =>oh (some (t28.aa,s)) fun t29 s =>oh (gd (wA t29 true) s (af false false 1 t1 s)) fun t30 s =>oh (gd (wA t29 true) s (ab Tryz.prog D 100 [t30.aa] s)) fun t31 s =>oh (gd (wA t29 true) s (mp (ak Tryz.prog 75 2 [(0,(.str [40])),(1,(.str [58,58]))]) s)) fun t32 s =>oh (gd (wA t29 true) s (ab Tryz.prog D 99 [t31.aa,t32.aa] s)) fun t33 s =>oh (gd (wA t29 true) s (mp (pF .not t33) s)) fun t34 s =>oh (mp (bQ t29 t34 (.bool false)) s) fun t35 s =>oh (some (t35,s)) fun t26 s =>
 br t26 (oh (af false false 1 t1 s) fun t36 s =>oh (af false false 1 t1 s) fun t37 s =>oh (some ((.fn 106 [t37] []),s)) fun t38 s =>oh (ab Tryz.prog D 103 [t36.aa,(.int .i64 44),t38.aa] s) fun t39 s =>
 some (.aI [],s)) (oh (af false false 1 t1 s) fun t41 s =>oh (ab Tryz.prog D 176 [t41.aa] s) fun t42 s =>oh (some (t42,s)) fun t40 s =>
 br t40 (oh (af false false 1 t1 s) fun t43 s =>oh (some ((.fn 250 [] [t1]),s)) fun t44 s =>oh (ab Tryz.prog D 103 [t43.aa,(.int .i64 45),t44.aa] s) fun t45 s =>
 some (.aI [],s)) (oh (mp (aD 0 t2) s) fun t47 s =>oh (af false false 1 t47 s) fun t48 s =>oh (mp (aK Tryz.prog .eql 3 t48 (.int .i64 105)) s) fun t49 s =>oh (some (t49,s)) fun t46 s =>
 br t46 (oh (af false false 1 t1 s) fun t50 s =>oh (af false false 1 t1 s) fun t51 s =>oh (some ((.fn 106 [t51] []),s)) fun t52 s =>oh (ab Tryz.prog D 103 [t50.aa,(.int .i64 27),t52.aa] s) fun t53 s =>
 some (.aI [],s)) (oh (af false false 1 t1 s) fun t55 s =>oh (mp (ak Tryz.prog 75 2 [(0,(.str [116,114,117,101])),(1,(.str [102,97,108,115,101]))]) s) fun t56 s =>oh (ab Tryz.prog D 99 [t55.aa,t56.aa] s) fun t57 s =>oh (some (t57,s)) fun t54 s =>
 br t54 (oh (af false false 1 t1 s) fun t58 s =>oh (af false false 1 t1 s) fun t59 s =>oh (some ((.fn 106 [t59] []),s)) fun t60 s =>oh (ab Tryz.prog D 103 [t58.aa,(.int .i64 28),t60.aa] s) fun t61 s =>
 some (.aI [],s)) (oh (af false false 1 t1 s) fun t5 s =>oh (ab Tryz.prog D 186 [t5.aa] s) fun t6 s =>
 some (.aI [],s)))))))
theorem dI (n:Nat)(t0:AV)(s:ag):den C (n+1) 235 [t0] s=kU (den C n) n t0 s :=
 (am rfl Tryz.func235 _ _).trans (by kernel_rfl)
theorem gH:ah Tryz.prog 235=true:=by kernel_rfl
-- (*parser.parser).primary 1
noncomputable def Ya (D:a8)(n:Nat)(t0:AV)(s:ag):aU :=
 oh (af false false 1 t0 s) fun t1 s =>oh (ab Tryz.prog D 106 [t1.aa] s) fun t2 s =>oh (af false false 1 t0 s) fun t3 s =>oh (ab Tryz.prog D 237 [t3.aa] s) fun t4 s =>
 some (.aI [],s)
theorem Oa (n:Nat)(t0:AV)(s:ag):den C (n+1) 236 [t0] s=Ya (den C n) n t0 s :=
 (am rfl Tryz.func236 _ _).trans (by kernel_rfl)
theorem Yb:ah Tryz.prog 236=true:=by kernel_rfl
-- (*parser.parser).arguments
noncomputable def Yc (D:a8)(n:Nat)(t0:AV)(s:ag):aU :=
 oh (some (t0.aa,s)) fun t2 s =>oh (ab Tryz.prog D 106 [t2.aa] s) fun t3 s =>oh (some (t0.aa,s)) fun t4 s =>oh (some (t0.aa,s)) fun t5 s =>oh (some ((.fn 151 [t5] []),s)) fun t6 s =>oh (ab Tryz.prog D 174 [t4.aa,(.str [41]),t6.aa] s) fun t7 s =>
 some (.aI [],s)
theorem Ob (n:Nat)(t0:AV)(s:ag):den C (n+1) 237 [t0] s=Yc (den C n) n t0 s :=
 (am rfl Tryz.func237 _ _).trans (by kernel_rfl)
theorem Yd:ah Tryz.prog 237=true:=by kernel_rfl
-- (*parser.parser).primary 2
noncomputable def Ye (D:a8)(n:Nat)(t0:AV)(s:ag):aU :=
 oh (af false false 1 t0 s) fun t1 s =>oh (ab Tryz.prog D 106 [t1.aa] s) fun t2 s =>oh (af false false 1 t0 s) fun t3 s =>oh (ab Tryz.prog D 151 [t3.aa] s) fun t4 s =>oh (af false false 1 t0 s) fun t5 s =>oh (ab Tryz.prog D 149 [t5.aa,(.str [41])] s) fun t6 s =>
 some (.aI [],s)
theorem Oc (n:Nat)(t0:AV)(s:ag):den C (n+1) 238 [t0] s=Ye (den C n) n t0 s :=
 (am rfl Tryz.func238 _ _).trans (by kernel_rfl)
theorem Yf:ah Tryz.prog 238=true:=by kernel_rfl
-- (*parser.parser).ifExpr
noncomputable def Yg (D:a8)(n:Nat)(t0:AV)(s:ag):aU :=
 oh (cL false 114 t0 s) fun t1 s =>oh (af false false 1 t1 s) fun t2 s =>oh (some ((.fn 251 [] [t1]),s)) fun t3 s =>oh (ab Tryz.prog D 103 [t2.aa,(.int .i64 37),t3.aa] s) fun t4 s =>
 some (.aI [],s)
theorem Od (n:Nat)(t0:AV)(s:ag):den C (n+1) 239 [t0] s=Yg (den C n) n t0 s :=
 (am rfl Tryz.func239 _ _).trans (by kernel_rfl)
theorem Yh:ah Tryz.prog 239=true:=by kernel_rfl
-- (*parser.parser).match
noncomputable def Yi (D:a8)(n:Nat)(t0:AV)(s:ag):aU :=
 oh (cL false 114 t0 s) fun t1 s =>oh (af false false 1 t1 s) fun t2 s =>oh (ab Tryz.prog D 106 [t2.aa] s) fun t3 s =>oh (af false false 1 t1 s) fun t4 s =>oh (ab Tryz.prog D 151 [t4.aa] s) fun t5 s =>oh (af false false 1 t1 s) fun t6 s =>oh (ab Tryz.prog D 149 [t6.aa,(.str [123])] s) fun t7 s =>oh (af false false 1 t1 s) fun t8 s =>oh (some ((.fn 253 [] [t1]),s)) fun t9 s =>oh (ab Tryz.prog D 174 [t8.aa,(.str [125]),t9.aa] s) fun t10 s =>
 some (.aI [],s)
theorem Oe (n:Nat)(t0:AV)(s:ag):den C (n+1) 240 [t0] s=Yi (den C n) n t0 s :=
 (am rfl Tryz.func240 _ _).trans (by kernel_rfl)
theorem Yj:ah Tryz.prog 240=true:=by kernel_rfl
-- (*parser.parser).structLit
noncomputable def Yk (D:a8)(n:Nat)(t0:AV)(s:ag):aU :=
 oh (cL false 114 t0 s) fun t1 s =>oh (af false false 1 t1 s) fun t2 s =>oh (ab Tryz.prog D 106 [t2.aa] s) fun t3 s =>oh (af false false 1 t1 s) fun t4 s =>oh (ab Tryz.prog D 185 [t4.aa,(.bool false)] s) fun t5 s =>oh (af false false 1 t1 s) fun t6 s =>oh (ab Tryz.prog D 149 [t6.aa,(.str [123])] s) fun t7 s =>oh (af false false 1 t1 s) fun t8 s =>oh (some ((.fn 256 [] [t1]),s)) fun t9 s =>oh (ab Tryz.prog D 174 [t8.aa,(.str [125]),t9.aa] s) fun t10 s =>
 some (.aI [],s)
theorem Of (n:Nat)(t0:AV)(s:ag):den C (n+1) 241 [t0] s=Yk (den C n) n t0 s :=
 (am rfl Tryz.func241 _ _).trans (by kernel_rfl)
theorem Yl:ah Tryz.prog 241=true:=by kernel_rfl
-- (*parser.parser).lambda
noncomputable def tZ (D:a8)(n:Nat)(e:Env)(s:ag):aU :=
 oh (some ((e 0).aa,s)) fun t13 s =>oh (ab Tryz.prog D 151 [t13.aa] s) fun t14 s =>
 some (.aI [],s)
noncomputable def S_ (D:a8)(n:Nat)(t0:AV)(s:ag):aU :=
 oh (some (t0.aa,s)) fun t2 s =>oh (mp (ak Tryz.prog 75 1 [(0,(.str [124,124]))]) s) fun t3 s =>oh (ab Tryz.prog D 99 [t2.aa,t3.aa] s) fun t4 s =>
 br t4 (oh (some (t0.aa,s)) fun t5 s =>oh (ab Tryz.prog D 106 [t5.aa] s) fun t6 s =>oh (some (t0.aa,s)) fun t7 s =>oh (ab Tryz.prog D 103 [t7.aa,(.int .i64 12),(.fn 258 [] [])] s) fun t8 s =>
 tZ D n (bf (aH [t0]) [(2,t2),(3,t3),(4,t4),(5,t5),(6,t6),(7,t7),(8,t8)]) s) (oh (some (t0.aa,s)) fun t9 s =>oh (ab Tryz.prog D 106 [t9.aa] s) fun t10 s =>oh (some (t0.aa,s)) fun t11 s =>oh (ab Tryz.prog D 152 [t11.aa,(.str [124])] s) fun t12 s =>
 tZ D n (bf (aH [t0]) [(2,t2),(3,t3),(4,t4),(9,t9),(10,t10),(11,t11),(12,t12)]) s)
theorem EO (n:Nat)(t0:AV)(s:ag):den C (n+1) 242 [t0] s=S_ (den C n) n t0 s :=
 (am rfl Tryz.func242 _ _).trans (by kernel_rfl)
theorem Q1:ah Tryz.prog 242=true:=by kernel_rfl
-- (*parser.parser).postfix 1
noncomputable def Ym (D:a8)(n:Nat)(t0:AV)(s:ag):aU :=
 oh (af false false 1 t0 s) fun t1 s =>oh (ab Tryz.prog D 106 [t1.aa] s) fun t2 s =>oh (af false false 1 t0 s) fun t3 s =>oh (ab Tryz.prog D 106 [t3.aa] s) fun t4 s =>oh (af false false 1 t0 s) fun t5 s =>oh (ab Tryz.prog D 237 [t5.aa] s) fun t6 s =>
 some (.aI [],s)
theorem Og (n:Nat)(t0:AV)(s:ag):den C (n+1) 244 [t0] s=Ym (den C n) n t0 s :=
 (am rfl Tryz.func244 _ _).trans (by kernel_rfl)
theorem Yn:ah Tryz.prog 244=true:=by kernel_rfl
-- (*parser.parser).postfix 2
noncomputable def Yo (D:a8)(n:Nat)(t0:AV)(s:ag):aU :=
 oh (af false false 1 t0 s) fun t1 s =>oh (ab Tryz.prog D 106 [t1.aa] s) fun t2 s =>oh (af false false 1 t0 s) fun t3 s =>oh (ab Tryz.prog D 146 [t3.aa] s) fun t4 s =>
 some (.aI [],s)
theorem Oh (n:Nat)(t0:AV)(s:ag):den C (n+1) 245 [t0] s=Yo (den C n) n t0 s :=
 (am rfl Tryz.func245 _ _).trans (by kernel_rfl)
theorem Yp:ah Tryz.prog 245=true:=by kernel_rfl
-- (*parser.parser).pattern 1
noncomputable def Yq (D:a8)(n:Nat)(t0:AV)(s:ag):aU :=
 oh (af false false 1 t0 s) fun t1 s =>oh (ab Tryz.prog D 106 [t1.aa] s) fun t2 s =>oh (af false false 1 t0 s) fun t3 s =>oh (ab Tryz.prog D 146 [t3.aa] s) fun t4 s =>
 some (.aI [],s)
theorem Oi (n:Nat)(t0:AV)(s:ag):den C (n+1) 249 [t0] s=Yq (den C n) n t0 s :=
 (am rfl Tryz.func249 _ _).trans (by kernel_rfl)
theorem Yr:ah Tryz.prog 249=true:=by kernel_rfl
-- (*parser.parser).pattern 2
noncomputable def S' (D:a8)(n:Nat)(t0:AV)(s:ag):aU :=
 oh (af false false 1 t0 s) fun t1 s =>oh (ab Tryz.prog D 185 [t1.aa,(.bool false)] s) fun t2 s =>oh (af false false 1 t0 s) fun t3 s =>oh (mp (ak Tryz.prog 75 1 [(0,(.str [40]))]) s) fun t4 s =>oh (ab Tryz.prog D 105 [t3.aa,t4.aa] s) fun t5 s =>
 br t5 (oh (af false false 1 t0 s) fun t6 s =>oh (af false false 1 t0 s) fun t7 s =>oh (some ((.fn 235 [t7] []),s)) fun t8 s =>oh (ab Tryz.prog D 174 [t6.aa,(.str [41]),t8.aa] s) fun t9 s =>
 some (.aI [],s))
  (some (.aI [],s))
theorem EP (n:Nat)(t0:AV)(s:ag):den C (n+1) 250 [t0] s=S' (den C n) n t0 s :=
 (am rfl Tryz.func250 _ _).trans (by kernel_rfl)
theorem Q2:ah Tryz.prog 250=true:=by kernel_rfl
-- (*parser.parser).ifExpr 1
noncomputable def Ys (D:a8)(n:Nat)(t0:AV)(s:ag):aU :=
 oh (af false false 1 t0 s) fun t1 s =>oh (ab Tryz.prog D 106 [t1.aa] s) fun t2 s =>oh (af false false 1 t0 s) fun t3 s =>oh (ab Tryz.prog D 151 [t3.aa] s) fun t4 s =>oh (af false false 1 t0 s) fun t5 s =>oh (ab Tryz.prog D 173 [t5.aa] s) fun t6 s =>oh (af false false 1 t0 s) fun t7 s =>oh (some ((.fn 252 [] [t0]),s)) fun t8 s =>oh (ab Tryz.prog D 171 [t7.aa,(.str [101,108,115,101]),t8.aa] s) fun t9 s =>
 some (.aI [],s)
theorem Oj (n:Nat)(t0:AV)(s:ag):den C (n+1) 251 [t0] s=Ys (den C n) n t0 s :=
 (am rfl Tryz.func251 _ _).trans (by kernel_rfl)
theorem Yt:ah Tryz.prog 251=true:=by kernel_rfl
-- (*parser.parser).ifExpr 1 1
noncomputable def Ta (D:a8)(n:Nat)(t0:AV)(s:ag):aU :=
 oh (af false false 1 t0 s) fun t1 s =>oh (mp (ak Tryz.prog 75 1 [(0,(.str [105,102]))]) s) fun t2 s =>oh (ab Tryz.prog D 99 [t1.aa,t2.aa] s) fun t3 s =>
 br t3 (oh (af false false 1 t0 s) fun t4 s =>oh (ab Tryz.prog D 239 [t4.aa] s) fun t5 s =>
 some (.aI [],s)) (oh (af false false 1 t0 s) fun t6 s =>oh (ab Tryz.prog D 173 [t6.aa] s) fun t7 s =>
 some (.aI [],s))
theorem EQ (n:Nat)(t0:AV)(s:ag):den C (n+1) 252 [t0] s=Ta (den C n) n t0 s :=
 (am rfl Tryz.func252 _ _).trans (by kernel_rfl)
theorem Q3:ah Tryz.prog 252=true:=by kernel_rfl
-- (*parser.parser).match 1
noncomputable def Tb (D:a8)(n:Nat)(t0:AV)(s:ag):aU :=
 oh (af false false 1 t0 s) fun t1 s =>oh (ab Tryz.prog D 254 [t1.aa] s) fun t2 s =>
 br t2 (oh (af false false 1 t0 s) fun t3 s =>oh (some ((.fn 255 [] [t0]),s)) fun t4 s =>oh (ab Tryz.prog D 103 [t3.aa,(.int .i64 36),t4.aa] s) fun t5 s =>
 some (.aI [],s))
  (some (.aI [],s))
theorem ER (n:Nat)(t0:AV)(s:ag):den C (n+1) 253 [t0] s=Tb (den C n) n t0 s :=
 (am rfl Tryz.func253 _ _).trans (by kernel_rfl)
theorem Q4:ah Tryz.prog 253=true:=by kernel_rfl
-- (*parser.parser).atPattern
noncomputable def Ol (D:a8)(n:Nat)(t0:AV)(s:ag):aU :=
 oh (some ((.bool false),s)) fun t2 s =>oh (some (t0.aa,s)) fun t3 s =>oh (ab Tryz.prog D 176 [t3.aa] s) fun t4 s =>oh (some (t4.aa,s)) fun t5 s =>oh (gd (wA t5 false) s (some (t0.aa,s))) fun t6 s =>oh (gd (wA t5 false) s (ab Tryz.prog D 98 [t6.aa] s)) fun t7 s =>oh (gd (wA t5 false) s (mp (lL Tryz.prog 147 0 t7) s)) fun t8 s =>oh (gd (wA t5 false) s (mp (aK Tryz.prog .eql 3 t8 (.int .i64 105)) s)) fun t9 s =>oh (mp (bQ t5 (.bool true) t9) s) fun t10 s =>oh (some (t10.aa,s)) fun t11 s =>oh (gd (wA t11 false) s (some (t0.aa,s))) fun t12 s =>oh (gd (wA t11 false) s (mp (ak Tryz.prog 75 3 [(0,(.str [116,114,117,101])),(1,(.str [102,97,108,115,101])),(2,(.str [109,117,116]))]) s)) fun t13 s =>oh (gd (wA t11 false) s (ab Tryz.prog D 99 [t12.aa,t13.aa] s)) fun t14 s =>oh (mp (bQ t11 (.bool true) t14) s) fun t15 s =>oh (some (t15,s)) fun t2_2 s =>
 some (t2_2,s)
theorem yO (n:Nat)(t0:AV)(s:ag):den C (n+1) 254 [t0] s=Ol (den C n) n t0 s :=
 (am rfl Tryz.func254 _ _).trans (by kernel_rfl)
theorem Ja:ah Tryz.prog 254=true:=by kernel_rfl
-- (*parser.parser).match 1 1
noncomputable def Yu (D:a8)(n:Nat)(t0:AV)(s:ag):aU :=
 oh (af false false 1 t0 s) fun t1 s =>oh (ab Tryz.prog D 235 [t1.aa] s) fun t2 s =>oh (af false false 1 t0 s) fun t3 s =>oh (ab Tryz.prog D 149 [t3.aa,(.str [61,62])] s) fun t4 s =>oh (af false false 1 t0 s) fun t5 s =>oh (ab Tryz.prog D 151 [t5.aa] s) fun t6 s =>
 some (.aI [],s)
theorem Om (n:Nat)(t0:AV)(s:ag):den C (n+1) 255 [t0] s=Yu (den C n) n t0 s :=
 (am rfl Tryz.func255 _ _).trans (by kernel_rfl)
theorem Yv:ah Tryz.prog 255=true:=by kernel_rfl
-- (*parser.parser).structLit 1
noncomputable def Tc (D:a8)(n:Nat)(t0:AV)(s:ag):aU :=
 oh (af false false 1 t0 s) fun t1 s =>oh (ab Tryz.prog D 176 [t1.aa] s) fun t2 s =>
 br t2 (oh (af false false 1 t0 s) fun t3 s =>oh (some ((.fn 257 [] [t0]),s)) fun t4 s =>oh (ab Tryz.prog D 103 [t3.aa,(.int .i64 34),t4.aa] s) fun t5 s =>
 some (.aI [],s))
  (some (.aI [],s))
theorem ES (n:Nat)(t0:AV)(s:ag):den C (n+1) 256 [t0] s=Tc (den C n) n t0 s :=
 (am rfl Tryz.func256 _ _).trans (by kernel_rfl)
theorem Q5:ah Tryz.prog 256=true:=by kernel_rfl
-- (*parser.parser).structLit 1 1
noncomputable def Yw (D:a8)(n:Nat)(t0:AV)(s:ag):aU :=
 oh (af false false 1 t0 s) fun t1 s =>oh (ab Tryz.prog D 106 [t1.aa] s) fun t2 s =>oh (af false false 1 t0 s) fun t3 s =>oh (ab Tryz.prog D 149 [t3.aa,(.str [58])] s) fun t4 s =>oh (af false false 1 t0 s) fun t5 s =>oh (ab Tryz.prog D 151 [t5.aa] s) fun t6 s =>
 some (.aI [],s)
theorem On (n:Nat)(t0:AV)(s:ag):den C (n+1) 257 [t0] s=Yw (den C n) n t0 s :=
 (am rfl Tryz.func257 _ _).trans (by kernel_rfl)
theorem Yx:ah Tryz.prog 257=true:=by kernel_rfl
-- (*parser.parser).lambda 1
noncomputable def Yy (D:a8)(n:Nat)(s:ag):aU :=
 some (.aI [],s)
theorem Oo (n:Nat)(s:ag):den C (n+1) 258 [] s=Yy (den C n) n s :=
 (am rfl Tryz.func258 _ _).trans (by kernel_rfl)
theorem Yz:ah Tryz.prog 258=true:=by kernel_rfl
-- slices.Contains   string,string
noncomputable def YA (D:a8)(n:Nat)(t0 t1:AV)(s:ag):aU :=
 oh (some ((.bool false),s)) fun t4 s =>oh (some (t0.aa,s)) fun t5 s =>oh (some (t1.aa,s)) fun t6 s =>oh (ab Tryz.prog D 136 [t5.aa,t6.aa] s) fun t7 s =>oh (mp (aK Tryz.prog .geq 3 t7 (.int .i64 0)) s) fun t8 s =>oh (some (t8,s)) fun t4_2 s =>
 some (t4_2,s)
theorem C6 (n:Nat)(t0 t1:AV)(s:ag):den C (n+1) 93 [t0,t1] s=YA (den C n) n t0 t1 s :=
 (am rfl Tryz.func93 _ _).trans (by kernel_rfl)
theorem Td:ah Tryz.prog 93=true:=by kernel_rfl
-- slices.Index   string,string
noncomputable def iK (D:a8)(n:Nat)(k0:Env→ag→aU)(e:Env)(s:ag):aU :=
 oh (mp (aK Tryz.prog .lss 3 (e 8) (e 7)) s) fun t9 s =>
 br t9 (oh (some ((e 8).aa,s)) fun t10 s =>oh (some (t10,s)) fun t5 s =>oh (some ((e 1).aa,s)) fun t11 s =>oh (some ((e 0).aa,s)) fun t12 s =>oh (some (t5.aa,s)) fun t13 s =>oh (mp (aA Tryz.prog 75 t12 t13) s) fun t14 s =>oh (af false false 1 t14 s) fun t15 s =>oh (mp (aK Tryz.prog .eql 9 t11 t15) s) fun t16 s =>
 br t16 (oh (some (t5.aa,s)) fun t17 s =>oh (some (t17,s)) fun t4_2 s =>
 some (t4_2,s)) (oh (mp (aK Tryz.prog .add 3 (e 8) (.int .i64 1)) s) fun t18 s =>oh (some (t18.aa,s)) fun t8_2 s =>
 k0 (bf e [(9,t9),(10,t10),(10,t10.aa),(5,t5),(11,t11),(12,t12),(13,t13),(14,t14),(15,t15),(16,t16),(18,t18),(8,t8_2)]) s)) (oh (some ((.int .i64 (-1)),s)) fun t4_3 s =>
 some (t4_3,s))
noncomputable def Jb (D:a8)(n:Nat)(t0 t1:AV)(s:ag):aU :=
 oh (some ((.int .i64 0),s)) fun t4 s =>oh (some (t0.aa,s)) fun t6 s =>oh (mp (bN Tryz.prog 75 t6) s) fun t7 s =>oh (some ((.int .i64 0),s)) fun t8 s =>
 aJ (iK D n) n (bf (aH [t0,t1]) [(4,t4),(6,t6),(7,t7),(8,t8)]) s
theorem yP (n:Nat)(t0 t1:AV)(s:ag):den C (n+1) 136 [t0,t1] s=Jb (den C n) n t0 t1 s :=
 (am rfl Tryz.func136 _ _).trans (by kernel_rfl)
theorem Jc:ah Tryz.prog 136=true:=by kernel_rfl
-- glossatorkeep1.short
noncomputable def Te (D:a8)(n:Nat)(t0 t1:AV)(s:ag):aU :=
 oh (some ((.str []),s)) fun t4 s =>oh (some (t0.aa,s)) fun t5 s =>oh (some (t0.aa,s)) fun t6 s =>oh (mp (bN Tryz.prog 9 t6) s) fun t7 s =>oh (some (t1.aa,s)) fun t8 s =>oh (mp (Ag t7 t8) s) fun t9 s =>oh (mp (mL Tryz.prog 9 t5 none (some t9) none) s) fun t10 s =>oh (some (t10,s)) fun t4_2 s =>
 some (t4_2,s)
theorem yQ (n:Nat)(t0 t1:AV)(s:ag):den C (n+1) 12 [t0,t1] s=Te (den C n) n t0 t1 s :=
 (am rfl Tryz.func12 _ _).trans (by kernel_rfl)
theorem Oq:ah Tryz.prog 12=true:=by kernel_rfl
end ParF
end
