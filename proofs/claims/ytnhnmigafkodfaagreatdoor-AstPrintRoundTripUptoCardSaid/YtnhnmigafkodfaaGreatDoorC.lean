/- WrdA, ParC, ParF -/
import Derived.Test.YtnhnmigafkodfaaGreatDoorB
import Derived.Test.YtnhnmigafkodfaaGreatDoorProg
import Derived.KernelRfl
import Derived.Lib.Bytealg
import Derived.Lib.Fields
import Derived.Lib.BitFns
import Derived.Sort.Defs
set_option linter.all false
set_option maxRecDepth 10000

section
namespace Go.Abs
open Go Go.Proofs
noncomputable def oMv (x:AV)(s:Heap)(k:AV→Heap→Ans):Ans:=oh (some (x.strip,s)) k
noncomputable def oCp (x:AV)(s:Heap)(k:AV→Heap→Ans):Ans:=oh (some (x,s)) k
noncomputable def oNc (x:AV)(s:Heap)(k:AV→Heap→Ans):Ans:=oh (mp (aNilCheck x) s) k
noncomputable def oAd (n:Nat)(x:AV)(s:Heap)(k:AV→Heap→Ans):Ans:=oh (mp (aAddr n x) s) k
noncomputable def oIx (t:TypeId)(x y:AV)(s:Heap)(k:AV→Heap→Ans):Ans:=oh (mp (aIndexAddr Tryz.prog t x y) s) k
noncomputable def oBn (o:BinOp)(t:TypeId)(x y:AV)(s:Heap)(k:AV→Heap→Ans):Ans:=oh (mp (aBin Tryz.prog o t x y) s) k
noncomputable def oLn (t:TypeId)(x:AV)(s:Heap)(k:AV→Heap→Ans):Ans:=oh (mp (aLen Tryz.prog t x) s) k
noncomputable def oXt (i:Nat)(x:AV)(s:Heap)(k:AV→Heap→Ans):Ans:=oh (mp (aExtract i x) s) k
noncomputable def oPk (x y z:AV)(s:Heap)(k:AV→Heap→Ans):Ans:=oh (mp (aPick x y z) s) k
noncomputable def oBs (t:TypeId)(n:Nat)(l:List (Nat×AV))(s:Heap)(k:AV→Heap→Ans):Ans:=oh (mp (aBuildSlice Tryz.prog t n l) s) k
noncomputable def oBd (t:TypeId)(l:List (Nat×AV))(s:Heap)(k:AV→Heap→Ans):Ans:=oh (mp (aBuild Tryz.prog t l) s) k
noncomputable def oL1 (x:AV)(s:Heap)(k:AV→Heap→Ans):Ans:=oh (aLoad false false 1 x s) k
noncomputable def oLa (n:Nat)(x:AV)(s:Heap)(k:AV→Heap→Ans):Ans:=oh (aLoad false true n x s) k
noncomputable def oCa (D:Den)(g:FuncId)(l:List AV)(s:Heap)(k:AV→Heap→Ans):Ans:=oh (aCall Tryz.prog D g l s) k
noncomputable def oAl (t:TypeId)(s:Heap)(k:AV→Heap→Ans):Ans:=oh (aAlloc Tryz.prog t s) k
noncomputable def oBx (t:TypeId)(x:AV)(s:Heap)(k:AV→Heap→Ans):Ans:=oh (aBox false t x s) k
noncomputable def oSr (n:Nat)(s:Heap)(x y:AV)(k:AV→Heap→Ans):Ans:=oh (sto (aStore n s x y)) k
noncomputable def oGt (x:AV)(s:Heap)(y:Option (AV×Heap))(k:AV→Heap→Ans):Ans:=oh (gd (wA x true) s y) k
noncomputable def oGf (x:AV)(s:Heap)(y:Option (AV×Heap))(k:AV→Heap→Ans):Ans:=oh (gd (wA x false) s y) k
theorem oMv_u (x:AV)(s:Heap)(k:AV→Heap→Ans):oMv x s k=k x.strip s:=(rfl)
theorem oCp_u (x:AV)(s:Heap)(k:AV→Heap→Ans):oCp x s k=k x s:=(rfl)
theorem oNc_u (x:AV)(s:Heap)(k:AV→Heap→Ans):oNc x s k=oh (mp (aNilCheck x) s) k:=(rfl)
theorem oAd_u (n:Nat)(x:AV)(s:Heap)(k:AV→Heap→Ans):oAd n x s k=oh (mp (aAddr n x) s) k:=(rfl)
theorem oIx_u (t:TypeId)(x y:AV)(s:Heap)(k:AV→Heap→Ans):oIx t x y s k=oh (mp (aIndexAddr Tryz.prog t x y) s) k:=(rfl)
theorem oBn_u (o:BinOp)(t:TypeId)(x y:AV)(s:Heap)(k:AV→Heap→Ans):oBn o t x y s k=oh (mp (aBin Tryz.prog o t x y) s) k:=(rfl)
theorem oLn_u (t:TypeId)(x:AV)(s:Heap)(k:AV→Heap→Ans):oLn t x s k=oh (mp (aLen Tryz.prog t x) s) k:=(rfl)
theorem oXt_u (i:Nat)(x:AV)(s:Heap)(k:AV→Heap→Ans):oXt i x s k=oh (mp (aExtract i x) s) k:=(rfl)
theorem oPk_u (x y z:AV)(s:Heap)(k:AV→Heap→Ans):oPk x y z s k=oh (mp (aPick x y z) s) k:=(rfl)
theorem oBs_u (t:TypeId)(n:Nat)(l:List (Nat×AV))(s:Heap)(k:AV→Heap→Ans):oBs t n l s k=oh (mp (aBuildSlice Tryz.prog t n l) s) k:=(rfl)
theorem oBd_u (t:TypeId)(l:List (Nat×AV))(s:Heap)(k:AV→Heap→Ans):oBd t l s k=oh (mp (aBuild Tryz.prog t l) s) k:=(rfl)
theorem oL1_u (x:AV)(s:Heap)(k:AV→Heap→Ans):oL1 x s k=oh (aLoad false false 1 x s) k:=(rfl)
theorem oLa_u (n:Nat)(x:AV)(s:Heap)(k:AV→Heap→Ans):oLa n x s k=oh (aLoad false true n x s) k:=(rfl)
theorem oCa_u (D:Den)(g:FuncId)(l:List AV)(s:Heap)(k:AV→Heap→Ans):oCa D g l s k=oh (aCall Tryz.prog D g l s) k:=(rfl)
theorem oAl_u (t:TypeId)(s:Heap)(k:AV→Heap→Ans):oAl t s k=oh (aAlloc Tryz.prog t s) k:=(rfl)
theorem oBx_u (t:TypeId)(x:AV)(s:Heap)(k:AV→Heap→Ans):oBx t x s k=oh (aBox false t x s) k:=(rfl)
theorem oSr_u (n:Nat)(s:Heap)(x y:AV)(k:AV→Heap→Ans):oSr n s x y k=oh (sto (aStore n s x y)) k:=(rfl)
theorem oGt_u (x:AV)(s:Heap)(y:Option (AV×Heap))(k:AV→Heap→Ans):oGt x s y k=oh (gd (wA x true) s y) k:=(rfl)
theorem oGf_u (x:AV)(s:Heap)(y:Option (AV×Heap))(k:AV→Heap→Ans):oGf x s y k=oh (gd (wA x false) s y) k:=(rfl)
theorem oNr (i o:Nat):(AV.ref i o).noRef=false:=by simp[AV.noRef]
def sW:=And.intro @oGf_u <| And.intro @oGt_u <| And.intro @oSr_u <| And.intro @oBx_u <| And.intro @oAl_u <| And.intro @oCa_u <| And.intro @oLa_u <| And.intro @oL1_u <| And.intro @oBd_u <| And.intro @oBs_u <| And.intro @oPk_u <| And.intro @oXt_u <| And.intro @oLn_u <| And.intro @oBn_u <| And.intro @oIx_u <| And.intro @oAd_u <| And.intro @oNc_u <| And.intro @oCp_u <| And.intro @oMv_u <| @oh_some
def sL:=And.intro @oNr <| And.intro @Bool.false_and sL0
end Go.Abs
end

section
namespace ParF
open Go Go.Abs Go.Proofs
def eIndex (args:List AV)(s:Heap):Option (AV×Heap):=match args with
 | [.str a,.int .u8 c]=>some (.int .i64 (Lib.indexByte a c.toNat.toUInt8),s)
 | _=>none
def ePrefix (args:List AV)(s:Heap):Option (AV×Heap):=match args with
 | [.str a,.str b]=>some (.bool (Lib.hasPrefix a b),s)
 | _=>none
def eFields (args:List AV)(s:Heap):Option (AV×Heap):=match args with
 | [.str a]=>if a.length<1000∧(a.all fun b=>b.toNat<128)=true then some (.sl 9 1 ((Lib.fields a).map .str) .sh,s) else none
 | _=>none
def eInsert (args:List AV)(s:Heap):Option (AV×Heap):=match args with
 | [.rs ty z id 0 len,.int .i64 k,.sl _ _ [x] _]=>match s[id]? with
  | some cs=>if cs.1=ty∧ty=65∧z=3∧0<len∧k=len-1∧x.cells.length=3∧len*3≤cs.2.length∧len<1000000000∧((cs.2.drop ((len-1)*3)).take 3).all (fun a=>!a.isOwn)=true then
    some (.rs ty 3 s.length 0 (len+1),kill s id++[(ty,cs.2.take ((len-1)*3)++x.cells.map AV.strip++(cs.2.drop ((len-1)*3)).take 3)]) else none
  | none=>none
 | _=>none
def digitsOf (x:List UInt8):Nat:=x.foldl (fun n c=>n*10+(c.toNat-48)) 0
def eAtoi (args:List AV)(s:Heap):Option (AV×Heap):=match args with
 | [.str a]=>if a≠[]∧(a.all fun b=>decide (48≤b.toNat)&&decide (b.toNat≤57))=true∧a.length<100000 then
   (if digitsOf a≤9223372036854775807 then some (.tup [.int .i64 (digitsOf a),.nili],s) else some (.tup [.int .i64 9223372036854775807,.ifc],s)) else none
 | _=>none
structure Dr where
 (c s e:Int)
 deriving DecidableEq,Inhabited
def Dr.row (d:Dr):List AV:=[.int .i64 d.c,.int .i64 0,.int .i64 d.s,.int .i64 d.e,.str []]
def drs:List AV→Option (List Dr)
 | []=>some []
 | .int .i64 c::.int .i64 0::.int .i64 s::.int .i64 e::.str []::r=>(drs r).map (⟨c,s,e⟩::·)
 | _=>none
def cmpI (a b:Int):Int:=if a<b then -1 else if b<a then 1 else 0
def or0 (a b:Int):Int:=if a≠0 then a else b
def Dr.cmp (a b:Dr):Int:=or0 (cmpI a.s b.s) (or0 (cmpI a.e b.e) (cmpI a.c b.c))
def srt (d:List Dr):List Dr:=if d.length<2 then d else(Sort.pdq (fun x y=>decide (Dr.cmp x y<0)) d.toArray 0 d.length (Lib.bitLen d.length) true true).toList
def eSort (args:List AV)(s:Heap):Option (AV×Heap):=match args with
 | [.nils,.fn 35 [] []]=>some (.tup [],s)
 | [.rs ty z id 0 len,.fn 35 [] []]=>match s[id]? with
  | some cs=>if cs.1=61∧ty=61∧z=5∧len*5≤cs.2.length∧len<1000000 then
    (drs (cs.2.take (len*5))).map fun d=>(.tup [],s.set id (61,(srt d).flatMap Dr.row++cs.2.drop (len*5))) else none
  | none=>none
 | _=>none
def cmpct:List Dr→List Dr
 | []=>[]
 | [d]=>[d]
 | a::b::r=>if a=b then cmpct (b::r) else a::cmpct (b::r)
def eCompact (args:List AV)(s:Heap):Option (AV×Heap):=match args with
 | [.nils]=>some (.nils,s)
 | [.rs ty z id 0 len]=>match s[id]? with
  | some cs=>if cs.1=61∧ty=61∧z=5∧len*5≤cs.2.length∧len<1000000 then
    (drs (cs.2.take (len*5))).map fun d=>(.sl 61 5 ((cmpct d).map fun r=>.agg r.row) .sh,kill s id) else none
  | none=>none
 | _=>none
def decA:Nat→Nat→List UInt8
 | 0,_=>[]
 | f+1,n=>if n<10 then[UInt8.ofNat (48+n)] else decA f (n / 10)++[UInt8.ofNat (48+n % 10)]
def itoaL (n:Int):List UInt8:=if n<0 then 45::decA 20 n.natAbs else decA 20 n.toNat
def eItoa (args:List AV)(s:Heap):Option (AV×Heap):=match args with
 | [.int .i64 n]=>if -9223372036854775808≤n∧n≤9223372036854775807 then some (.str (itoaL n),s) else none
 | _=>none
def quoteL (l:List UInt8):List UInt8:=l.flatMap fun c=>if c=92 then[92,92] else if c=34 then[92,34] else if c=10 then[92,110] else[c]
def eQuote (args:List AV)(s:Heap):Option (AV×Heap):=match args with
 | [.str a]=>if a.length<1000000000 then some (.str (34::(quoteL a++[34])),s) else none
 | _=>none
def refs:List (Nat×Nat):=[(101,13),(101,15),(104,14),(173,23),(162,16),(240,48),(240,52),(32,18),(32,20),(32,33),
 (33,44),(33,55),(111,18),(15,20),(133,10),(21,13),(27,25),(27,28)]
noncomputable def C:Cfg:={ P:=Tryz.prog,glob:=fun _=>none,ext:=fun g=>if g=71 then some eIndex else if g=62 then some ePrefix else if g=130 then some eFields else if g=207 then some eInsert else if g=144 then some (bCheck 113) else if g=81 then some (bString 5) else if g=175 then some eAtoi else if g=34 then some eSort else if g=36 then some eCompact else if g=141 then some eItoa else if g=25 then some eQuote else none,ref:=fun f t=>refs.contains (f,t),own:=fun f t=>false }
end ParF
end

section
namespace ParF
open Go Go.Abs Go.Proofs
-- parser.Parse
noncomputable def F32_L0 (D:Den)(n:Nat)(k0:Env→Heap→Ans)(e:Env)(s:Heap):Ans :=
 oMv (e 6) s fun t21 s =>
 oCa D 49 [t21.strip] s fun t22 s =>oh (mp (aUn .not t22) s) fun t23 s =>
 br t23
  (oMv (e 6) s fun t24 s =>
 oCa D 50 [t24.strip] s fun t25 s =>
 k0 (upds e [(21,t21),(22,t22),(23,t23),(24,t24),(25,t25)]) s)
  (oMv (e 6) s fun t26 s =>
 oCa D 51 [t26.strip] s fun t27 s =>
 oMv (e 6) s fun t28 s =>
 oNc t28 s fun t29 s =>
 oAd 2 t29 s fun t30 s =>
 oL1 t30 s fun t31 s =>
 oIx 63 t31 (.int .i64 0) s fun t32 s =>oh (pubR (aLoad false true 3 t32 s)) fun t33 s =>
 oSr 3 s (e 2) t33.strip fun _r s =>
 oCp (.int .i64 0) s fun t3_3 s =>
 fin1 ((resL [(aLoad false true 3 (e 2) s).map (·.1),some t3_3]).map .tup) s)
noncomputable def F32 (D:Den)(n:Nat)(t0:AV)(s:Heap):Ans :=
 oAl 65 s fun t2 s =>
 oCp (.int .i64 0) s fun t3 s =>
 oMv t0 s fun t8 s =>
 oCa D 17 [t8.strip] s fun t9 s =>
 oMv t9 s fun t7 s =>
 oXt 0 t7 s fun t10 s =>
 oXt 1 t7 s fun t11 s =>
 oCp t10 s fun t4 s =>
 oCp t11 s fun t5 s =>
 oMv t5 s fun t12 s =>
 oBn .neq 29 t12 (.int .i64 0) s fun t13 s =>
 br t13
  (oBd 65 [] s fun t14 s =>
 oMv t5 s fun t15 s =>
 oSr 3 s t2 t14 fun _r s =>
 oCp t15 s fun t3_2 s =>
 fin1 ((resL [(aLoad false true 3 t2 s).map (·.1),some t3_2]).map .tup) s)
  (oMv t4 s fun t16 s =>
 oBd 65 [(0,(.int .i64 1))] s fun t17 s =>oh (aRsBuild Tryz.prog 63 1 [(0,t17)] s) fun t18 s =>
 oBd 95 [(0,t16),(2,t18)] s fun t19 s =>oh (aBox true 95 t19 s) fun t20 s =>
 oCp t20 s fun t6 s =>
 aLoop (F32_L0 D n) n (upds (argEnv [t0]) [(2,t2),(3,t3),(8,t8),(9,t9),(7,t7),(10,t10),(11,t11),(10,t10.strip),(4,t4),(11,t11.strip),(5,t5),(12,t12),(13,t13),(16,t16),(17,t17),(18,t18),(19,t19),(20,t20),(20,t20.strip),(6,t6)]) s)
theorem F32_eq (n:Nat)(t0:AV)(s:Heap):den C (n+1) 32 [t0] s=F32 (den C n) n t0 s :=
 (den_body rfl Tryz.func32 _ _).trans (by kernel_rfl)
theorem en32:enterable Tryz.prog 32=true:=by kernel_rfl
-- (*parser.parser).atEOF
noncomputable def F49 (D:Den)(n:Nat)(t0:AV)(s:Heap):Ans :=
 oCp (.bool false) s fun t2 s =>
 oMv t0 s fun t3 s =>
 oCa D 99 [t3.strip] s fun t4 s =>oh (mp (aField Tryz.prog 53 0 t4) s) fun t5 s =>
 oBn .eql 3 t5 (.int .i64 100) s fun t6 s =>
 oCp t6 s fun t2_2 s =>
 some (t2_2,s)
theorem F49_eq (n:Nat)(t0:AV)(s:Heap):den C (n+1) 49 [t0] s=F49 (den C n) n t0 s :=
 (den_body rfl Tryz.func49 _ _).trans (by kernel_rfl)
theorem en49:enterable Tryz.prog 49=true:=by kernel_rfl
-- (*parser.parser).item
noncomputable def F50_J0 (D:Den)(n:Nat)(e:Env)(s:Heap):Ans :=
 oAd 1 (e 2) s fun t12 s =>
 oL1 t12 s fun t13 s =>
 oCa D 102 [t13.strip] s fun t14 s =>
 oAl 3 s fun t3 s =>
 oSr 1 s t3 t14 fun _r s =>
 oL1 t3 s fun t15 s =>
 oBn .eql 3 t15 (.int .i64 0) s fun t16 s =>
 oMv t16 s fun t17 s =>
 oGf t17 s (mp (aAddr 0 (e 2)) s) fun t18 s =>
 oGf t17 s (aLoad false false 1 t18 s) fun t19 s =>
 oGf t17 s (mp (aBin Tryz.prog .neq 3 t19 (.int .i64 104)) s) fun t20 s =>
 oPk t17 (.bool true) t20 s fun t21 s =>
 br t21
  (oL1 (e 1) s fun t22 s =>
 oCa D 103 [t22.strip] s fun t23 s =>
 some (.tup [],s))
  (oL1 (e 1) s fun t24 s =>
 oL1 t3 s fun t25 s =>
 oCp (.fn 105 [] [(e 1),t3]) s fun t26 s =>
 oCa D 104 [t24.strip,t25.strip,t26.strip] s fun t27 s =>
 some (.tup [],s))
noncomputable def F50 (D:Den)(n:Nat)(t0:AV)(s:Heap):Ans :=
 oBx 93 t0 s fun t1 s =>
 oL1 t1 s fun t4 s =>
 oCa D 99 [t4.strip] s fun t5 s =>
 oAl 53 s fun t2 s =>
 oSr 2 s t2 t5 fun _r s =>
 oL1 t1 s fun t6 s =>
 oBs 38 1 [(0,(.str [112,117,98]))] s fun t7 s =>
 oCa D 100 [t6.strip,t7.strip] s fun t8 s =>
 br t8
  (oL1 t1 s fun t9 s =>
 oCa D 101 [t9.strip] s fun t10 s =>
 oCa D 99 [t10.strip] s fun t11 s =>
 oSr 2 s t2 t11 fun _r s =>
 F50_J0 D n (upds (argEnv [t0]) [(1,t1),(4,t4),(5,t5),(2,t2),(5,t5.strip),(6,t6),(7,t7),(8,t8),(9,t9),(10,t10),(11,t11),(11,t11.strip)]) s)
  (F50_J0 D n (upds (argEnv [t0]) [(1,t1),(4,t4),(5,t5),(2,t2),(5,t5.strip),(6,t6),(7,t7),(8,t8)]) s)
theorem F50_eq (n:Nat)(t0:AV)(s:Heap):den C (n+1) 50 [t0] s=F50 (den C n) n t0 s :=
 (den_body rfl Tryz.func50 _ _).trans (by kernel_rfl)
theorem en50:enterable Tryz.prog 50=true:=by kernel_rfl
-- (*parser.parser).skipTrivia
noncomputable def F51_L0 (D:Den)(n:Nat)(k0:Env→Heap→Ans)(e:Env)(s:Heap):Ans :=
 oMv (e 0) s fun t2 s1 =>
 oNc t2 s1 fun t3 s2 =>
 oAd 1 t3 s2 fun t4 s3 =>
 oL1 t4 s3 fun t5 s4 =>
 oMv (e 0) s4 fun t6 s5 =>
 oNc t6 s5 fun t7 s6 =>
 oAd 0 t7 s6 fun t8 s7 =>
 oL1 t8 s7 fun t9 s8 =>
 oLn 34 t9 s8 fun t10 s9 =>
 oBn .lss 3 t5 t10 s9 fun t11 s10 =>
 oMv t11 s10 fun t12 s11 =>
 oGt t12 s11 (some ((e 0).strip,s11)) fun t13 s12 =>
 oGt t12 s12 (mp (aNilCheck t13) s12) fun t14 s13 =>
 oGt t12 s13 (mp (aAddr 0 t14) s13) fun t15 s14 =>
 oGt t12 s14 (aLoad false false 1 t15 s14) fun t16 s15 =>
 oGt t12 s15 (some ((e 0).strip,s15)) fun t17 s16 =>
 oGt t12 s16 (mp (aNilCheck t17) s16) fun t18 s17 =>
 oGt t12 s17 (mp (aAddr 1 t18) s17) fun t19 s18 =>
 oGt t12 s18 (aLoad false false 1 t19 s18) fun t20 s19 =>
 oGt t12 s19 (mp (aIndexAddr Tryz.prog 34 t16 t20) s19) fun t21 s20 =>
 oGt t12 s20 (mp (aAddr 0 t21) s20) fun t22 s21 =>
 oGt t12 s21 (aLoad false false 1 t22 s21) fun t23 s22 =>
 oGt t12 s22 (aCall Tryz.prog D 109 [t23.strip] s22) fun t24 s23 =>
 oPk t12 t24 (.bool false) s23 fun t25 s24 =>
 drawOK C 51 (regOps Tryz.f51 0) [.silent,.silent,.silent,(kLoad false t4),.silent,.silent,.silent,(kLoad false t8),.silent,.silent,.silent,(kGd (wA t12 true) .silent),(kGd (wA t12 true) .silent),(kGd (wA t12 true) .silent),(kGd (wA t12 true) (kLoad false t15)),(kGd (wA t12 true) .silent),(kGd (wA t12 true) .silent),(kGd (wA t12 true) .silent),(kGd (wA t12 true) (kLoad false t19)),(kGd (wA t12 true) .silent),(kGd (wA t12 true) .silent),(kGd (wA t12 true) (kLoad false t22)),(kGd (wA t12 true) (dyn (kCall [t23.strip]) s22 s23)),.silent] <|
 br t25
  (oMv (e 0) s24 fun t26 s =>
 oCa D 110 [t26.strip] s fun t27 s =>
 k0 (upds e [(2,t2),(3,t3),(4,t4),(5,t5),(6,t6),(7,t7),(8,t8),(9,t9),(10,t10),(11,t11),(12,t12),(13,t13),(14,t14),(15,t15),(16,t16),(17,t17),(18,t18),(19,t19),(20,t20),(21,t21),(22,t22),(23,t23),(24,t24),(25,t25),(26,t26),(27,t27)]) s)
  (some (.tup [],s24))
noncomputable def F51 (D:Den)(n:Nat)(t0:AV)(s:Heap):Ans :=
 aLoop (F51_L0 D n) n (argEnv [t0]) s
theorem F51_eq (n:Nat)(t0:AV)(s:Heap):den C (n+1) 51 [t0] s=F51 (den C n) n t0 s :=
 (den_body rfl Tryz.func51 _ _).trans (by kernel_rfl)
theorem d51_0 {g0 g1 g2 g3:Nat}(x:Ans):drawOK C 51 (regOps Tryz.f51 0) [.silent,.silent,.silent,.get g0,.silent,.silent,.silent,.get g1,.silent,.silent,.silent,.silent,.silent,.silent,.get g2,.silent,.silent,.silent,.get g3,.silent,.silent,.silent,.silent,.silent] x=x:=drawOK_base (by kernel_rfl)
theorem en51:enterable Tryz.prog 51=true:=by kernel_rfl
-- (*parser.parser).peek
noncomputable def F99_L0 (D:Den)(n:Nat)(k0:Env→Heap→Ans)(e:Env)(s:Heap):Ans :=
 oMv (e 3) s fun t8 s =>
 oMv (e 0) s fun t9 s =>
 oNc t9 s fun t10 s =>
 oAd 0 t10 s fun t11 s =>
 oL1 t11 s fun t12 s =>
 oLn 34 t12 s fun t13 s =>
 oBn .lss 3 t8 t13 s fun t14 s =>
 oMv t14 s fun t15 s =>
 oGt t15 s (some ((e 0).strip,s)) fun t16 s =>
 oGt t15 s (mp (aNilCheck t16) s) fun t17 s =>
 oGt t15 s (mp (aAddr 0 t17) s) fun t18 s =>
 oGt t15 s (aLoad false false 1 t18 s) fun t19 s =>
 oGt t15 s (some ((e 3).strip,s)) fun t20 s =>
 oGt t15 s (mp (aIndexAddr Tryz.prog 34 t19 t20) s) fun t21 s =>
 oGt t15 s (mp (aAddr 0 t21) s) fun t22 s =>
 oGt t15 s (aLoad false false 1 t22 s) fun t23 s =>
 oGt t15 s (aCall Tryz.prog D 109 [t23.strip] s) fun t24 s =>
 oPk t15 t24 (.bool false) s fun t25 s =>
 br t25
  (oMv (e 3) s fun t26 s =>
 oBn .add 3 t26 (.int .i64 1) s fun t27 s =>
 oCp t27 s fun t3_2 s =>
 k0 (upds e [(8,t8),(9,t9),(10,t10),(11,t11),(12,t12),(13,t13),(14,t14),(15,t15),(16,t16),(17,t17),(18,t18),(19,t19),(20,t20),(21,t21),(22,t22),(23,t23),(24,t24),(25,t25),(26,t26),(27,t27),(27,t27.strip),(3,t3_2)]) s)
  (oMv (e 3) s fun t28 s =>
 oMv (e 0) s fun t29 s =>
 oNc t29 s fun t30 s =>
 oAd 0 t30 s fun t31 s =>
 oL1 t31 s fun t32 s =>
 oLn 34 t32 s fun t33 s =>
 oBn .eql 3 t28 t33 s fun t34 s =>
 br t34
  (oBd 53 [(0,(.int .i64 100))] s fun t35 s =>
 oSr 2 s (e 2) t35 fun _r s =>
 fin1 ((aLoad false true 2 (e 2) s).map (·.1)) s)
  (oMv (e 0) s fun t36 s =>
 oNc t36 s fun t37 s =>
 oAd 0 t37 s fun t38 s =>
 oL1 t38 s fun t39 s =>
 oMv (e 3) s fun t40 s =>
 oIx 34 t39 t40 s fun t41 s =>
 oLa 2 t41 s fun t42 s =>
 oSr 2 s (e 2) t42 fun _r s =>
 fin1 ((aLoad false true 2 (e 2) s).map (·.1)) s))
noncomputable def F99 (D:Den)(n:Nat)(t0:AV)(s:Heap):Ans :=
 oAl 53 s fun t2 s =>
 oMv t0 s fun t4 s =>
 oNc t4 s fun t5 s =>
 oAd 1 t5 s fun t6 s =>
 oL1 t6 s fun t7 s =>
 oCp t7 s fun t3 s =>
 aLoop (F99_L0 D n) n (upds (argEnv [t0]) [(2,t2),(4,t4),(5,t5),(6,t6),(7,t7),(7,t7.strip),(3,t3)]) s
theorem F99_eq (n:Nat)(t0:AV)(s:Heap):den C (n+1) 99 [t0] s=F99 (den C n) n t0 s :=
 (den_body rfl Tryz.func99 _ _).trans (by kernel_rfl)
theorem en99:enterable Tryz.prog 99=true:=by kernel_rfl
-- (*parser.parser).at
noncomputable def F100 (D:Den)(n:Nat)(t0 t1:AV)(s:Heap):Ans :=
 oCp (.bool false) s fun t4 s =>
 oMv t0 s fun t6 s =>
 oCa D 99 [t6.strip] s fun t7 s =>
 oAl 53 s fun t5 s =>
 oSr 2 s t5 t7 fun _r s =>
 oAd 0 t5 s fun t8 s =>
 oL1 t8 s fun t9 s =>
 oBn .eql 3 t9 (.int .i64 104) s fun t10 s =>
 oMv t10 s fun t11 s =>
 oGf t11 s (mp (aAddr 0 t5) s) fun t12 s =>
 oGf t11 s (aLoad false false 1 t12 s) fun t13 s =>
 oGf t11 s (mp (aBin Tryz.prog .eql 3 t13 (.int .i64 107)) s) fun t14 s =>
 oPk t11 (.bool true) t14 s fun t15 s =>
 oMv t15 s fun t16 s =>
 oGt t16 s (some (t1.strip,s)) fun t17 s =>
 oGt t16 s (mp (aAddr 1 t5) s) fun t18 s =>
 oGt t16 s (aLoad false false 1 t18 s) fun t19 s =>
 oGt t16 s (aCall Tryz.prog D 67 [t17.strip,t19.strip] s) fun t20 s =>
 oPk t16 t20 (.bool false) s fun t21 s =>
 oCp t21 s fun t4_2 s =>
 some (t4_2,s)
theorem F100_eq (n:Nat)(t0 t1:AV)(s:Heap):den C (n+1) 100 [t0,t1] s=F100 (den C n) n t0 t1 s :=
 (den_body rfl Tryz.func100 _ _).trans (by kernel_rfl)
theorem en100:enterable Tryz.prog 100=true:=by kernel_rfl
-- (*parser.parser).lookahead
noncomputable def F101 (D:Den)(n:Nat)(t0:AV)(s:Heap):Ans :=
 oCp .nilp s fun t2 s =>
 oMv t0 s fun t4 s =>
 oNc t4 s fun t5 s =>
 oAd 0 t5 s fun t6 s =>
 oL1 t6 s fun t7 s =>
 oMv t0 s fun t8 s =>
 oNc t8 s fun t9 s =>
 oAd 1 t9 s fun t10 s =>
 oL1 t10 s fun t11 s =>
 oBd 65 [] s fun t12 s =>oh (aRsBuild Tryz.prog 63 1 [(0,t12)] s) fun t13 s =>
 oBd 95 [(0,t7),(1,t11),(2,t13)] s fun t14 s =>oh (aBox true 95 t14 s) fun t15 s =>
 oCp t15 s fun t3 s =>
 drawOK C 101 (regOps Tryz.f101 1) [.silent,.silent,.silent,(kLoad false t6),.silent,.silent,.silent,(kLoad false t10),.silent,.alloc,.silent,.writer,.silent] <|
 oMv t3 s fun t16 s =>
 oCa D 107 [t16.strip] s fun t17 s =>
 oMv t3 s fun t18 s =>
 oCp t18 s fun t2_2 s =>
 some (t2_2,s)
theorem F101_eq (n:Nat)(t0:AV)(s:Heap):den C (n+1) 101 [t0] s=F101 (den C n) n t0 s :=
 (den_body rfl Tryz.func101 _ _).trans (by kernel_rfl)
theorem d101_1 {g0 g1:Nat}(x:Ans):drawOK C 101 (regOps Tryz.f101 1) [.silent,.silent,.silent,.get g0,.silent,.silent,.silent,.get g1,.silent,.alloc,.silent,.writer,.silent] x=x:=drawOK_base (by kernel_rfl)
theorem en101:enterable Tryz.prog 101=true:=by kernel_rfl
-- parser.itemKind
noncomputable def F102 (D:Den)(n:Nat)(t0:AV)(s:Heap):Ans :=
 oCp (.int .i64 0) s fun t2 s =>
 oCa D 130 [(.str [117,115,101,32,102,110,32,115,116,114,117,99,116,32,101,110,117,109,32,116,114,97,105,116,32,105,109,112,108,32,99,111,110,115,116,32,109,97,99,114,111])] s fun t4 s =>
 oMv t0 s fun t5 s =>
 oCa D 129 [t4.strip,t5.strip] s fun t6 s =>
 oCp t6 s fun t3 s =>
 oMv t3 s fun t7 s =>
 oBn .lss 3 t7 (.int .i64 0) s fun t8 s =>
 br t8
  (oCp (.int .i64 0) s fun t2_2 s =>
 some (t2_2,s))
  (oMv t3 s fun t9 s =>
 oBn .add 3 (.int .i64 2) t9 s fun t10 s =>
 oCp t10 s fun t2_3 s =>
 some (t2_3,s))
theorem F102_eq (n:Nat)(t0:AV)(s:Heap):den C (n+1) 102 [t0] s=F102 (den C n) n t0 s :=
 (den_body rfl Tryz.func102 _ _).trans (by kernel_rfl)
theorem en102:enterable Tryz.prog 102=true:=by kernel_rfl
-- (*parser.parser).skipToItem
noncomputable def F103 (D:Den)(n:Nat)(t0:AV)(s:Heap):Ans :=
 oBx 93 t0 s fun t1 s =>
 oL1 t1 s fun t2 s =>
 oCp (.fn 160 [] [t1]) s fun t3 s =>
 oCa D 104 [t2.strip,(.int .i64 46),t3.strip] s fun t4 s =>
 some (.tup [],s)
theorem F103_eq (n:Nat)(t0:AV)(s:Heap):den C (n+1) 103 [t0] s=F103 (den C n) n t0 s :=
 (den_body rfl Tryz.func103 _ _).trans (by kernel_rfl)
theorem en103:enterable Tryz.prog 103=true:=by kernel_rfl
-- (*parser.parser).node
noncomputable def F104 (D:Den)(n:Nat)(t0 t1 t2:AV)(s:Heap):Ans :=
 oMv t0 s fun t6 s1 =>
 oNc t6 s1 fun t7 s2 =>
 oAd 2 t7 s2 fun t8 s3 =>
 oL1 t8 s3 fun t9 s4 =>
 oMv t1 s4 fun t10 s5 =>
 oBd 65 [(0,t10)] s5 fun t11 s6 =>
 oLn 63 t9 s6 fun t12 s7 =>
 oBs 63 1 [(0,(.agg [(.int .i64 0),(.str []),.nils]))] s7 fun t13 s8 =>oh (aRsAppend Tryz.prog 63 63 t9 t13 s8) fun t14 s9 =>
 oIx 63 t14 t12 s9 fun t15 s10 =>
 oSr 3 s10 t15 t11 fun _r s11 =>
 oNc t6 s11 fun t16 s12 =>
 oAd 2 t16 s12 fun t17 s13 =>
 oSr 1 s13 t17 t14.strip fun _r s14 =>
 drawOK C 104 (regOps Tryz.f104 0) [.silent,.silent,.silent,(kLoad false t8),.silent,.silent,.silent,.silent,(dyn (appK t9) s8 s9),.silent,(kStore t15),.silent,.silent,(kStore t17)] <|
 oMv t2 s14 fun t18 s =>oh (aCallV Tryz.prog D t18 [] s) fun t19 s =>
 oMv t0 s fun t20 s =>
 oCa D 162 [t20.strip] s fun t21 s =>
 some (.tup [],s)
theorem F104_eq (n:Nat)(t0 t1 t2:AV)(s:Heap):den C (n+1) 104 [t0,t1,t2] s=F104 (den C n) n t0 t1 t2 s :=
 (den_body rfl Tryz.func104 _ _).trans (by kernel_rfl)
theorem d104_0 {g0:Nat}{q0:Option Nat}(a b:Nat)(h:a≠b)(x:Ans):drawOK C 104 (regOps Tryz.f104 0) [.silent,.silent,.silent,.get g0,.silent,.silent,.silent,.silent,.app q0,.silent,.put a,.silent,.silent,.put b] x=x:=drawOK_both (ks0:=[.silent,.silent,.silent,.reader,.silent,.silent,.silent,.silent,.writer,.silent,.put 0,.silent,.silent,.put 1]) h (by kernel_rfl) rfl
theorem en104:enterable Tryz.prog 104=true:=by kernel_rfl
-- (*parser.parser).item 1
noncomputable def F105 (D:Den)(n:Nat)(t0 t1:AV)(s:Heap):Ans :=
 oL1 t0 s fun t2 s =>
 oBs 38 1 [(0,(.str [112,117,98]))] s fun t3 s =>
 oCa D 106 [t2.strip,t3.strip] s fun t4 s =>
 oL1 t0 s fun t5 s =>
 oCa D 107 [t5.strip] s fun t6 s =>
 oL1 t0 s fun t7 s =>
 oL1 t1 s fun t8 s =>
 oCa D 108 [t7.strip,t8.strip] s fun t9 s =>
 some (.tup [],s)
theorem F105_eq (n:Nat)(t0 t1:AV)(s:Heap):den C (n+1) 105 [t0,t1] s=F105 (den C n) n t0 t1 s :=
 (den_body rfl Tryz.func105 _ _).trans (by kernel_rfl)
theorem en105:enterable Tryz.prog 105=true:=by kernel_rfl
-- (*parser.parser).accept
noncomputable def F106 (D:Den)(n:Nat)(t0 t1:AV)(s:Heap):Ans :=
 oCp (.bool false) s fun t4 s =>
 oMv t0 s fun t5 s =>
 oMv t1 s fun t6 s =>
 oCa D 100 [t5.strip,t6.strip] s fun t7 s =>
 br t7
  (oMv t0 s fun t8 s =>
 oCa D 107 [t8.strip] s fun t9 s =>
 oCp (.bool true) s fun t4_2 s =>
 some (t4_2,s))
  (oCp (.bool false) s fun t4_3 s =>
 some (t4_3,s))
theorem F106_eq (n:Nat)(t0 t1:AV)(s:Heap):den C (n+1) 106 [t0,t1] s=F106 (den C n) n t0 t1 s :=
 (den_body rfl Tryz.func106 _ _).trans (by kernel_rfl)
theorem en106:enterable Tryz.prog 106=true:=by kernel_rfl
-- (*parser.parser).bump
noncomputable def F107 (D:Den)(n:Nat)(t0:AV)(s:Heap):Ans :=
 oMv t0 s fun t2 s =>
 oCa D 51 [t2.strip] s fun t3 s =>
 oMv t0 s fun t4 s =>
 oNc t4 s fun t5 s =>
 oAd 1 t5 s fun t6 s =>
 oL1 t6 s fun t7 s =>
 oMv t0 s fun t8 s =>
 oNc t8 s fun t9 s =>
 oAd 0 t9 s fun t10 s =>
 oL1 t10 s fun t11 s =>
 oLn 34 t11 s fun t12 s =>
 oBn .lss 3 t7 t12 s fun t13 s =>
 drawOK C 107 (regOps Tryz.f107 1) [.silent,.silent,.silent,(kLoad false t6),.silent,.silent,.silent,(kLoad false t10),.silent,.silent] <|
 br t13
  (oMv t0 s fun t14 s =>
 oCa D 110 [t14.strip] s fun t15 s =>
 some (.tup [],s))
  (some (.tup [],s))
theorem F107_eq (n:Nat)(t0:AV)(s:Heap):den C (n+1) 107 [t0] s=F107 (den C n) n t0 s :=
 (den_body rfl Tryz.func107 _ _).trans (by kernel_rfl)
theorem d107_1 {g0 g1:Nat}(x:Ans):drawOK C 107 (regOps Tryz.f107 1) [.silent,.silent,.silent,.get g0,.silent,.silent,.silent,.get g1,.silent,.silent] x=x:=drawOK_base (by kernel_rfl)
theorem en107:enterable Tryz.prog 107=true:=by kernel_rfl
-- (*parser.parser).itemBody
noncomputable def F108_J2 (D:Den)(n:Nat)(e:Env)(s:Heap):Ans :=
 br (e 13)
  (oMv (e 0) s fun t16 s =>
 oMv (e 1) s fun t17 s =>
 oCa D 165 [t16.strip,t17.strip] s fun t18 s =>
 some (.tup [],s))
  (oBn .eql 3 (e 4) (.int .i64 6) s fun t20 s =>
 oCp t20 s fun t19 s =>
 br t19
  (oMv (e 0) s fun t21 s =>
 oCa D 166 [t21.strip] s fun t22 s =>
 oMv (e 0) s fun t23 s =>
 oCa D 167 [t23.strip] s fun t24 s =>
 some (.tup [],s))
  (oBn .eql 3 (e 4) (.int .i64 7) s fun t26 s =>
 oCp t26 s fun t25 s =>
 br t25
  (oMv (e 0) s fun t27 s =>
 oCa D 168 [t27.strip] s fun t28 s =>
 some (.tup [],s))
  (oBn .eql 3 (e 4) (.int .i64 8) s fun t30 s =>
 oCp t30 s fun t29 s =>
 br t29
  (oMv (e 0) s fun t31 s =>
 oCa D 166 [t31.strip] s fun t32 s =>
 oMv (e 0) s fun t33 s =>
 oCa D 169 [t33.strip,(.str [58])] s fun t34 s =>
 oMv (e 0) s fun t35 s =>
 oCa D 170 [t35.strip] s fun t36 s =>
 oMv (e 0) s fun t37 s =>
 oCa D 169 [t37.strip,(.str [61])] s fun t38 s =>
 oMv (e 0) s fun t39 s =>
 oCa D 171 [t39.strip] s fun t40 s =>
 oMv (e 0) s fun t41 s =>
 oCa D 169 [t41.strip,(.str [59])] s fun t42 s =>
 some (.tup [],s))
  (oBn .eql 3 (e 4) (.int .i64 9) s fun t44 s =>
 oCp t44 s fun t43 s =>
 br t43
  (oMv (e 0) s fun t45 s =>
 oCa D 166 [t45.strip] s fun t46 s =>
 oMv (e 0) s fun t47 s =>
 oCa D 169 [t47.strip,(.str [40])] s fun t48 s =>
 oMv (e 0) s fun t49 s =>
 oCa D 172 [t49.strip,(.str [41])] s fun t50 s =>
 oMv (e 0) s fun t51 s =>
 oCa D 169 [t51.strip,(.str [61])] s fun t52 s =>
 oMv (e 0) s fun t53 s =>
 oCa D 171 [t53.strip] s fun t54 s =>
 oMv (e 0) s fun t55 s =>
 oCa D 169 [t55.strip,(.str [59])] s fun t56 s =>
 some (.tup [],s))
  (some (.tup [],s))))))
noncomputable def F108 (D:Den)(n:Nat)(t0 t1:AV)(s:Heap):Ans :=
 oMv t1 s fun t4 s =>
 oBn .eql 3 t4 (.int .i64 2) s fun t6 s =>
 oCp t6 s fun t5 s =>
 br t5
  (oMv t0 s fun t7 s =>
 oCa D 163 [t7.strip] s fun t8 s =>
 some (.tup [],s))
  (oBn .eql 3 t4 (.int .i64 3) s fun t10 s =>
 oCp t10 s fun t9 s =>
 br t9
  (oMv t0 s fun t11 s =>
 oCa D 164 [t11.strip,(.bool true)] s fun t12 s =>
 some (.tup [],s))
  (oBn .eql 3 t4 (.int .i64 4) s fun t14 s =>
 oCp t14 s fun t13 s =>
 br t13
  (F108_J2 D n (upds (argEnv [t0,t1]) [(4,t4),(6,t6),(6,t6.strip),(5,t5),(10,t10),(10,t10.strip),(9,t9),(14,t14),(14,t14.strip),(13,t13)]) s)
  (oBn .eql 3 t4 (.int .i64 5) s fun t15 s =>
 oCp t15 s fun t13_2 s =>
 F108_J2 D n (upds (argEnv [t0,t1]) [(4,t4),(6,t6),(6,t6.strip),(5,t5),(10,t10),(10,t10.strip),(9,t9),(14,t14),(14,t14.strip),(13,t13),(15,t15),(15,t15.strip),(13,t13_2)]) s)))
theorem F108_eq (n:Nat)(t0 t1:AV)(s:Heap):den C (n+1) 108 [t0,t1] s=F108 (den C n) n t0 t1 s :=
 (den_body rfl Tryz.func108 _ _).trans (by kernel_rfl)
theorem en108:enterable Tryz.prog 108=true:=by kernel_rfl
-- parser.isTrivia
noncomputable def F109 (D:Den)(n:Nat)(t0:AV)(s:Heap):Ans :=
 oCp (.bool false) s fun t2 s =>
 oMv t0 s fun t3 s =>
 oBn .eql 3 t3 (.int .i64 101) s fun t4 s =>
 oMv t4 s fun t5 s =>
 oGf t5 s (some (t0.strip,s)) fun t6 s =>
 oGf t5 s (mp (aBin Tryz.prog .eql 3 t6 (.int .i64 102)) s) fun t7 s =>
 oPk t5 (.bool true) t7 s fun t8 s =>
 oCp t8 s fun t2_2 s =>
 some (t2_2,s)
theorem F109_eq (n:Nat)(t0:AV)(s:Heap):den C (n+1) 109 [t0] s=F109 (den C n) n t0 s :=
 (den_body rfl Tryz.func109 _ _).trans (by kernel_rfl)
theorem en109:enterable Tryz.prog 109=true:=by kernel_rfl
-- (*parser.parser).addToken
noncomputable def F110 (D:Den)(n:Nat)(t0:AV)(s:Heap):Ans :=
 oMv t0 s fun t2 s1 =>
 oMv t0 s1 fun t3 s2 =>
 oNc t3 s2 fun t4 s3 =>
 oAd 0 t4 s3 fun t5 s4 =>
 oL1 t5 s4 fun t6 s5 =>
 oMv t0 s5 fun t7 s6 =>
 oNc t7 s6 fun t8 s7 =>
 oAd 1 t8 s7 fun t9 s8 =>
 oL1 t9 s8 fun t10 s9 =>
 oIx 34 t6 t10 s9 fun t11 s10 =>
 oAd 0 t11 s10 fun t12 s11 =>
 oL1 t12 s11 fun t13 s12 =>
 oMv t0 s12 fun t14 s13 =>
 oNc t14 s13 fun t15 s14 =>
 oAd 0 t15 s14 fun t16 s15 =>
 oL1 t16 s15 fun t17 s16 =>
 oMv t0 s16 fun t18 s17 =>
 oNc t18 s17 fun t19 s18 =>
 oAd 1 t19 s18 fun t20 s19 =>
 oL1 t20 s19 fun t21 s20 =>
 oIx 34 t17 t21 s20 fun t22 s21 =>
 oAd 1 t22 s21 fun t23 s22 =>
 oL1 t23 s22 fun t24 s23 =>
 oBd 65 [(0,t13),(1,t24)] s23 fun t25 s24 =>
 oCa D 173 [t2.strip,t25.strip] s24 fun t26 s25 =>
 drawOK C 110 (regOps Tryz.f110 0) [.silent,.silent,.silent,.silent,(kLoad false t5),.silent,.silent,.silent,(kLoad false t9),.silent,.silent,(kLoad false t12),.silent,.silent,.silent,(kLoad false t16),.silent,.silent,.silent,(kLoad false t20),.silent,.silent,(kLoad false t23),.silent,(dyn (kCall [t2.strip,t25.strip]) s24 s25)] <|
 oMv t0 s25 fun t27 s =>
 oNc t27 s fun t28 s =>
 oAd 1 t28 s fun t29 s =>
 oL1 t29 s fun t30 s =>
 oBn .add 3 t30 (.int .i64 1) s fun t31 s =>
 oNc t27 s fun t32 s =>
 oAd 1 t32 s fun t33 s =>
 oSr 1 s t33 t31 fun _r s =>
 some (.tup [],s)
theorem F110_eq (n:Nat)(t0:AV)(s:Heap):den C (n+1) 110 [t0] s=F110 (den C n) n t0 s :=
 (den_body rfl Tryz.func110 _ _).trans (by kernel_rfl)
theorem d110_0 {g0 g1 g2 g3:Nat}{l0:List Nat}(x:Ans):drawOK C 110 (regOps Tryz.f110 0) [.silent,.silent,.silent,.silent,.get g0,.silent,.silent,.silent,.get g1,.silent,.silent,.silent,.silent,.silent,.silent,.get g2,.silent,.silent,.silent,.get g3,.silent,.silent,.silent,.silent,.call l0] x=x:=drawOK_base (by kernel_rfl)
theorem en110:enterable Tryz.prog 110=true:=by kernel_rfl
-- (*parser.parser).skipToItem 1
noncomputable def F160_L0 (D:Den)(n:Nat)(k0:Env→Heap→Ans)(e:Env)(s:Heap):Ans :=
 oL1 (e 0) s fun t3 s1 =>
 oCa D 49 [t3.strip] s1 fun t4 s2 =>oh (mp (aUn .not t4) s2) fun t5 s3 =>
 oMv t5 s3 fun t6 s4 =>
 oGt t6 s4 (aLoad false false 1 (e 0) s4) fun t7 s5 =>
 oGt t6 s5 (aCall Tryz.prog D 161 [] s5) fun t8 s6 =>
 oGt t6 s6 (aCall Tryz.prog D 100 [t7.strip,t8.strip] s6) fun t9 s7 =>
 oGt t6 s7 (mp (aUn .not t9) s7) fun t10 s8 =>
 oPk t6 t10 (.bool false) s8 fun t11 s9 =>
 drawOK C 160 (regOps Tryz.f160 1) [(kLoad false (e 0)),(dyn (kCall [t3.strip]) s1 s2),.silent,.silent,(kGd (wA t6 true) (kLoad false (e 0))),(kGd (wA t6 true) (dyn (kCall []) s5 s6)),(kGd (wA t6 true) (dyn (kCall [t7.strip,t8.strip]) s6 s7)),(kGd (wA t6 true) .silent),.silent] <|
 br t11
  (oL1 (e 0) s9 fun t12 s =>
 oCa D 107 [t12.strip] s fun t13 s =>
 k0 (upds e [(3,t3),(4,t4),(5,t5),(6,t6),(7,t7),(8,t8),(9,t9),(10,t10),(11,t11),(12,t12),(13,t13)]) s)
  (some (.tup [],s9))
noncomputable def F160 (D:Den)(n:Nat)(t0:AV)(s:Heap):Ans :=
 oL1 t0 s fun t1 s =>
 oCa D 107 [t1.strip] s fun t2 s =>
 aLoop (F160_L0 D n) n (upds (argEnv [t0]) [(1,t1),(2,t2)]) s
theorem F160_eq (n:Nat)(t0:AV)(s:Heap):den C (n+1) 160 [t0] s=F160 (den C n) n t0 s :=
 (den_body rfl Tryz.func160 _ _).trans (by kernel_rfl)
theorem d160_1 {l0 l1:List Nat}(x:Ans):drawOK C 160 (regOps Tryz.f160 1) [.silent,.call l0,.silent,.silent,.silent,.silent,.call l1,.silent,.silent] x=x:=drawOK_base (by kernel_rfl)
theorem en160:enterable Tryz.prog 160=true:=by kernel_rfl
-- parser.itemKeywords
noncomputable def F161 (D:Den)(n:Nat)(s:Heap):Ans :=
 oCp .nils s fun t0 s =>
 oCa D 130 [(.str [117,115,101,32,112,117,98,32,102,110,32,115,116,114,117,99,116,32,101,110,117,109,32,116,114,97,105,116,32,105,109,112,108,32,99,111,110,115,116,32,109,97,99,114,111])] s fun t1 s =>
 oCp t1 s fun t0_2 s =>
 some (t0_2,s)
theorem F161_eq (n:Nat)(s:Heap):den C (n+1) 161 [] s=F161 (den C n) n s :=
 (den_body rfl Tryz.func161 _ _).trans (by kernel_rfl)
theorem en161:enterable Tryz.prog 161=true:=by kernel_rfl
-- (*parser.parser).finish
noncomputable def F162 (D:Den)(n:Nat)(t0:AV)(s:Heap):Ans :=
 oMv t0 s fun t4 s =>
 oNc t4 s fun t5 s =>
 oAd 2 t5 s fun t6 s =>
 oL1 t6 s fun t7 s =>
 oLn 63 t7 s fun t8 s =>
 oBn .sub 3 t8 (.int .i64 1) s fun t9 s =>
 oCp t9 s fun t2 s =>
 oMv t0 s fun t10 s =>
 oNc t10 s fun t11 s =>
 oAd 2 t11 s fun t12 s =>
 oL1 t12 s fun t13 s =>
 oMv t2 s fun t14 s =>
 oIx 63 t13 t14 s fun t15 s =>oh (pubR (aLoad false true 3 t15 s)) fun t16 s =>
 oAl 65 s fun t3 s =>
 oSr 3 s t3 t16.strip fun _r s =>
 oMv t0 s fun t17 s =>
 oMv t0 s fun t18 s =>
 oNc t18 s fun t19 s =>
 oAd 2 t19 s fun t20 s =>
 oL1 t20 s fun t21 s =>
 oMv t2 s fun t22 s =>oh (mp (aSl Tryz.prog 63 t21 none (some t22) none) s) fun t23 s =>
 oNc t17 s fun t24 s =>
 oAd 2 t24 s fun t25 s =>
 oSr 1 s t25 t23 fun _r s =>
 oMv t0 s fun t26 s =>
 oLa 3 t3 s fun t27 s =>
 oCa D 173 [t26.strip,t27.strip] s fun t28 s =>
 some (.tup [],s)
theorem F162_eq (n:Nat)(t0:AV)(s:Heap):den C (n+1) 162 [t0] s=F162 (den C n) n t0 s :=
 (den_body rfl Tryz.func162 _ _).trans (by kernel_rfl)
theorem en162:enterable Tryz.prog 162=true:=by kernel_rfl
-- (*parser.parser).use
noncomputable def F163_J0 (D:Den)(n:Nat)(e:Env)(s:Heap):Ans :=
 oL1 (e 1) s fun t18 s =>
 oCa D 169 [t18.strip,(.str [59])] s fun t19 s =>
 some (.tup [],s)
noncomputable def F163 (D:Den)(n:Nat)(t0:AV)(s:Heap):Ans :=
 oBx 93 t0 s fun t1 s =>
 oAl 4 s fun t2 s =>
 oSr 1 s t2 (.bool false) fun _r s =>
 oL1 t1 s fun t3 s =>
 oCp (.fn 194 [] [t1,t2]) s fun t4 s =>
 oCa D 104 [t3.strip,(.int .i64 17),t4.strip] s fun t5 s =>
 oL1 t2 s fun t7 s =>
 oCp t7 s fun t6 s =>
 br t6
  (oL1 t1 s fun t8 s =>
 oCa D 107 [t8.strip] s fun t9 s =>
 oL1 t1 s fun t10 s =>
 oCa D 107 [t10.strip] s fun t11 s =>
 F163_J0 D n (upds (argEnv [t0]) [(1,t1),(2,t2),(3,t3),(4,t4),(5,t5),(7,t7),(7,t7.strip),(6,t6),(8,t8),(9,t9),(10,t10),(11,t11)]) s)
  (oL1 t1 s fun t13 s =>
 oBs 38 1 [(0,(.str [97,115]))] s fun t14 s =>
 oCa D 106 [t13.strip,t14.strip] s fun t15 s =>
 oCp t15 s fun t12 s =>
 br t12
  (oL1 t1 s fun t16 s =>
 oCa D 166 [t16.strip] s fun t17 s =>
 F163_J0 D n (upds (argEnv [t0]) [(1,t1),(2,t2),(3,t3),(4,t4),(5,t5),(7,t7),(7,t7.strip),(6,t6),(13,t13),(14,t14),(15,t15),(15,t15.strip),(12,t12),(16,t16),(17,t17)]) s)
  (F163_J0 D n (upds (argEnv [t0]) [(1,t1),(2,t2),(3,t3),(4,t4),(5,t5),(7,t7),(7,t7.strip),(6,t6),(13,t13),(14,t14),(15,t15),(15,t15.strip),(12,t12)]) s))
theorem F163_eq (n:Nat)(t0:AV)(s:Heap):den C (n+1) 163 [t0] s=F163 (den C n) n t0 s :=
 (den_body rfl Tryz.func163 _ _).trans (by kernel_rfl)
theorem en163:enterable Tryz.prog 163=true:=by kernel_rfl
-- (*parser.parser).function
noncomputable def F164 (D:Den)(n:Nat)(t0 t1:AV)(s:Heap):Ans :=
 oMv t0 s fun t4 s =>
 oCa D 166 [t4.strip] s fun t5 s =>
 oMv t0 s fun t6 s =>
 oCa D 195 [t6.strip] s fun t7 s =>
 oMv t0 s fun t8 s =>
 oCa D 169 [t8.strip,(.str [40])] s fun t9 s =>
 oMv t0 s fun t10 s =>
 oCa D 172 [t10.strip,(.str [41])] s fun t11 s =>
 oMv t0 s fun t12 s =>
 oMv t0 s fun t13 s =>
 oCp (.fn 170 [t13] []) s fun t14 s =>
 oCa D 196 [t12.strip,(.str [45,62]),t14.strip] s fun t15 s =>
 oMv t1 s fun t16 s =>oh (mp (aUn .not t16) s) fun t17 s =>
 oMv t17 s fun t18 s =>
 oGt t18 s (some (t0.strip,s)) fun t19 s =>
 oGt t18 s (mp (aBuildSlice Tryz.prog 38 1 [(0,(.str [59]))]) s) fun t20 s =>
 oGt t18 s (aCall Tryz.prog D 106 [t19.strip,t20.strip] s) fun t21 s =>
 oPk t18 t21 (.bool false) s fun t22 s =>
 br t22
  (oMv t0 s fun t23 s =>
 oCa D 197 [t23.strip] s fun t24 s =>
 some (.tup [],s))
  (oMv t0 s fun t25 s =>
 oCa D 198 [t25.strip] s fun t26 s =>
 some (.tup [],s))
theorem F164_eq (n:Nat)(t0 t1:AV)(s:Heap):den C (n+1) 164 [t0,t1] s=F164 (den C n) n t0 t1 s :=
 (den_body rfl Tryz.func164 _ _).trans (by kernel_rfl)
theorem en164:enterable Tryz.prog 164=true:=by kernel_rfl
-- (*parser.parser).dataType
noncomputable def F165 (D:Den)(n:Nat)(t0 t1:AV)(s:Heap):Ans :=
 oBx 93 t0 s fun t2 s =>
 oBx 3 t1 s fun t3 s =>
 oL1 t2 s fun t4 s =>
 oCa D 166 [t4.strip] s fun t5 s =>
 oL1 t2 s fun t6 s =>
 oCa D 195 [t6.strip] s fun t7 s =>
 oL1 t2 s fun t8 s =>
 oCa D 169 [t8.strip,(.str [123])] s fun t9 s =>
 oL1 t2 s fun t10 s =>
 oCp (.fn 200 [] [t2,t3]) s fun t11 s =>
 oCa D 199 [t10.strip,(.str [125]),t11.strip] s fun t12 s =>
 some (.tup [],s)
theorem F165_eq (n:Nat)(t0 t1:AV)(s:Heap):den C (n+1) 165 [t0,t1] s=F165 (den C n) n t0 t1 s :=
 (den_body rfl Tryz.func165 _ _).trans (by kernel_rfl)
theorem en165:enterable Tryz.prog 165=true:=by kernel_rfl
-- (*parser.parser).expectIdent
noncomputable def F166 (D:Den)(n:Nat)(t0:AV)(s:Heap):Ans :=
 oMv t0 s fun t2 s =>
 oCa D 201 [t2.strip] s fun t3 s =>
 br t3
  (oMv t0 s fun t4 s =>
 oCa D 107 [t4.strip] s fun t5 s =>
 some (.tup [],s))
  (oMv t0 s fun t6 s =>
 oCa D 204 [t6.strip] s fun t7 s =>
 some (.tup [],s))
theorem F166_eq (n:Nat)(t0:AV)(s:Heap):den C (n+1) 166 [t0] s=F166 (den C n) n t0 s :=
 (den_body rfl Tryz.func166 _ _).trans (by kernel_rfl)
theorem en166:enterable Tryz.prog 166=true:=by kernel_rfl
-- (*parser.parser).members
noncomputable def F167_L0 (D:Den)(n:Nat)(k0:Env→Heap→Ans)(e:Env)(s:Heap):Ans :=
 oL1 (e 1) s fun t4 s =>
 oBs 38 2 [(0,(.str [116,121,112,101])),(1,(.str [102,110]))] s fun t5 s =>
 oCa D 100 [t4.strip,t5.strip] s fun t6 s =>
 br t6
  (oL1 (e 1) s fun t7 s =>
 oBs 38 1 [(0,(.str [102,110]))] s fun t8 s =>
 oCa D 100 [t7.strip,t8.strip] s fun t9 s =>
 br t9
  (oL1 (e 1) s fun t10 s =>
 oCp (.fn 205 [] [(e 1)]) s fun t11 s =>
 oCa D 104 [t10.strip,(.int .i64 3),t11.strip] s fun t12 s =>
 k0 (upds e [(4,t4),(5,t5),(6,t6),(7,t7),(8,t8),(9,t9),(10,t10),(11,t11),(12,t12)]) s)
  (oL1 (e 1) s fun t13 s =>
 oCp (.fn 206 [] [(e 1)]) s fun t14 s =>
 oCa D 104 [t13.strip,(.int .i64 16),t14.strip] s fun t15 s =>
 k0 (upds e [(4,t4),(5,t5),(6,t6),(7,t7),(8,t8),(9,t9),(13,t13),(14,t14),(15,t15)]) s))
  (oL1 (e 1) s fun t16 s =>
 oCa D 169 [t16.strip,(.str [125])] s fun t17 s =>
 some (.tup [],s))
noncomputable def F167 (D:Den)(n:Nat)(t0:AV)(s:Heap):Ans :=
 oBx 93 t0 s fun t1 s =>
 oL1 t1 s fun t2 s =>
 oCa D 169 [t2.strip,(.str [123])] s fun t3 s =>
 aLoop (F167_L0 D n) n (upds (argEnv [t0]) [(1,t1),(2,t2),(3,t3)]) s
theorem F167_eq (n:Nat)(t0:AV)(s:Heap):den C (n+1) 167 [t0] s=F167 (den C n) n t0 s :=
 (den_body rfl Tryz.func167 _ _).trans (by kernel_rfl)
theorem en167:enterable Tryz.prog 167=true:=by kernel_rfl
-- (*parser.parser).impl
noncomputable def F168_J0 (D:Den)(n:Nat)(e:Env)(s:Heap):Ans :=
 oMv (e 0) s fun t41 s =>
 oCa D 167 [t41.strip] s fun t42 s =>
 some (.tup [],s)
noncomputable def F168 (D:Den)(n:Nat)(t0:AV)(s:Heap):Ans :=
 oMv t0 s fun t4 s =>
 oCa D 195 [t4.strip] s fun t5 s =>
 oMv t0 s fun t6 s =>
 oCa D 170 [t6.strip] s fun t7 s =>
 oMv t0 s fun t8 s =>
 oBs 38 1 [(0,(.str [102,111,114]))] s fun t9 s =>
 oCa D 106 [t8.strip,t9.strip] s fun t10 s =>
 br t10
  (oMv t0 s fun t11 s =>
 oCa D 170 [t11.strip] s fun t12 s =>
 F168_J0 D n (upds (argEnv [t0]) [(4,t4),(5,t5),(6,t6),(7,t7),(8,t8),(9,t9),(10,t10),(11,t11),(12,t12)]) s)
  (oMv t0 s fun t13 s =>
 oNc t13 s fun t14 s =>
 oAd 2 t14 s fun t15 s =>
 oL1 t15 s fun t16 s =>
 oMv t0 s fun t17 s =>
 oNc t17 s fun t18 s =>
 oAd 2 t18 s fun t19 s =>
 oL1 t19 s fun t20 s =>
 oLn 63 t20 s fun t21 s =>
 oBn .sub 3 t21 (.int .i64 1) s fun t22 s =>
 oIx 63 t16 t22 s fun t23 s =>
 oCp t23 s fun t2 s =>
 drawOK C 168 (regOps Tryz.f168 4) [.silent,.silent,.silent,(kLoad false t15),.silent,.silent,.silent,(kLoad false t19),.silent,.silent,.silent,.silent] <|
 oMv t2 s fun t24 s =>
 oNc t24 s fun t25 s =>
 oAd 2 t25 s fun t26 s =>
 oL1 t26 s fun t27 s =>
 oLn 63 t27 s fun t28 s =>
 oBn .sub 3 t28 (.int .i64 1) s fun t29 s =>
 oCp t29 s fun t3 s =>
 oMv t2 s fun t30 s =>
 oMv t2 s fun t31 s =>
 oNc t31 s fun t32 s =>
 oAd 2 t32 s fun t33 s =>
 oL1 t33 s fun t34 s =>
 oMv t3 s fun t35 s =>
 oBd 65 [(0,(.int .i64 0))] s fun t36 s =>
 oBs 63 1 [(0,t36)] s fun t37 s =>
 oCa D 207 [t34.strip,t35.strip,t37.strip] s fun t38 s =>
 oNc t30 s fun t39 s =>
 oAd 2 t39 s fun t40 s =>
 oSr 1 s t40 t38 fun _r s =>
 F168_J0 D n (upds (argEnv [t0]) [(4,t4),(5,t5),(6,t6),(7,t7),(8,t8),(9,t9),(10,t10),(13,t13),(14,t14),(15,t15),(16,t16),(17,t17),(18,t18),(19,t19),(20,t20),(21,t21),(22,t22),(23,t23),(23,t23.strip),(2,t2),(24,t24),(25,t25),(26,t26),(27,t27),(28,t28),(29,t29),(29,t29.strip),(3,t3),(30,t30),(31,t31),(32,t32),(33,t33),(34,t34),(35,t35),(36,t36),(37,t37),(38,t38),(39,t39),(40,t40),(38,t38.strip)]) s)
theorem F168_eq (n:Nat)(t0:AV)(s:Heap):den C (n+1) 168 [t0] s=F168 (den C n) n t0 s :=
 (den_body rfl Tryz.func168 _ _).trans (by kernel_rfl)
theorem d168_4 {g0 g1:Nat}(x:Ans):drawOK C 168 (regOps Tryz.f168 4) [.silent,.silent,.silent,.get g0,.silent,.silent,.silent,.get g1,.silent,.silent,.silent,.silent] x=x:=drawOK_base (by kernel_rfl)
theorem en168:enterable Tryz.prog 168=true:=by kernel_rfl
-- (*parser.parser).expect
noncomputable def F169 (D:Den)(n:Nat)(t0 t1:AV)(s:Heap):Ans :=
 oMv t0 s fun t4 s =>
 oMv t1 s fun t5 s =>
 oBs 38 1 [(0,t5)] s fun t6 s =>
 oCa D 106 [t4.strip,t6.strip] s fun t7 s =>oh (mp (aUn .not t7) s) fun t8 s =>
 br t8
  (oMv t0 s fun t9 s =>
 oCa D 204 [t9.strip] s fun t10 s =>
 some (.tup [],s))
  (some (.tup [],s))
theorem F169_eq (n:Nat)(t0 t1:AV)(s:Heap):den C (n+1) 169 [t0,t1] s=F169 (den C n) n t0 t1 s :=
 (den_body rfl Tryz.func169 _ _).trans (by kernel_rfl)
theorem en169:enterable Tryz.prog 169=true:=by kernel_rfl
-- (*parser.parser).typeExpr
noncomputable def F170 (D:Den)(n:Nat)(t0:AV)(s:Heap):Ans :=
 oBx 93 t0 s fun t1 s =>
 oL1 t1 s fun t5 s =>
 oBs 38 1 [(0,(.str [38]))] s fun t6 s =>
 oCa D 100 [t5.strip,t6.strip] s fun t7 s =>
 oCp t7 s fun t4 s =>
 br t4
  (oL1 t1 s fun t8 s =>
 oCp (.fn 208 [] [t1]) s fun t9 s =>
 oCa D 104 [t8.strip,(.int .i64 19),t9.strip] s fun t10 s =>
 some (.tup [],s))
  (oL1 t1 s fun t12 s =>
 oBs 38 1 [(0,(.str [102,110]))] s fun t13 s =>
 oCa D 100 [t12.strip,t13.strip] s fun t14 s =>
 oCp t14 s fun t11 s =>
 br t11
  (oL1 t1 s fun t15 s =>
 oCp (.fn 209 [] [t1]) s fun t16 s =>
 oCa D 104 [t15.strip,(.int .i64 20),t16.strip] s fun t17 s =>
 some (.tup [],s))
  (oL1 t1 s fun t19 s =>
 oCa D 201 [t19.strip] s fun t20 s =>
 oCp t20 s fun t18 s =>
 br t18
  (oL1 t1 s fun t21 s =>
 oCa D 210 [t21.strip,(.bool true)] s fun t22 s =>
 some (.tup [],s))
  (oL1 t1 s fun t2 s =>
 oCa D 211 [t2.strip] s fun t3 s =>
 some (.tup [],s))))
theorem F170_eq (n:Nat)(t0:AV)(s:Heap):den C (n+1) 170 [t0] s=F170 (den C n) n t0 s :=
 (den_body rfl Tryz.func170 _ _).trans (by kernel_rfl)
theorem en170:enterable Tryz.prog 170=true:=by kernel_rfl
-- (*parser.parser).expr
noncomputable def F171 (D:Den)(n:Nat)(t0:AV)(s:Heap):Ans :=
 oMv t0 s fun t2 s =>
 oCa D 212 [t2.strip,(.int .i64 0)] s fun t3 s =>
 some (.tup [],s)
theorem F171_eq (n:Nat)(t0:AV)(s:Heap):den C (n+1) 171 [t0] s=F171 (den C n) n t0 s :=
 (den_body rfl Tryz.func171 _ _).trans (by kernel_rfl)
theorem en171:enterable Tryz.prog 171=true:=by kernel_rfl
-- (*parser.parser).params
noncomputable def F172 (D:Den)(n:Nat)(t0 t1:AV)(s:Heap):Ans :=
 oBx 93 t0 s fun t2 s =>
 oBx 9 t1 s fun t3 s =>
 oL1 t2 s fun t4 s =>
 oCp (.fn 213 [] [t2,t3]) s fun t5 s =>
 oCa D 104 [t4.strip,(.int .i64 12),t5.strip] s fun t6 s =>
 some (.tup [],s)
theorem F172_eq (n:Nat)(t0 t1:AV)(s:Heap):den C (n+1) 172 [t0,t1] s=F172 (den C n) n t0 t1 s :=
 (den_body rfl Tryz.func172 _ _).trans (by kernel_rfl)
theorem en172:enterable Tryz.prog 172=true:=by kernel_rfl
-- (*parser.parser).add
noncomputable def F173 (D:Den)(n:Nat)(t0 t1:AV)(s:Heap):Ans :=
 oBx 65 t1 s fun t3 s =>
 oMv t0 s fun t5 s =>
 oNc t5 s fun t6 s =>
 oAd 2 t6 s fun t7 s =>
 oL1 t7 s fun t8 s =>
 oMv t0 s fun t9 s =>
 oNc t9 s fun t10 s =>
 oAd 2 t10 s fun t11 s =>
 oL1 t11 s fun t12 s =>
 oLn 63 t12 s fun t13 s =>
 oBn .sub 3 t13 (.int .i64 1) s fun t14 s =>
 oIx 63 t8 t14 s fun t15 s =>
 oCp t15 s fun t4 s =>
 drawOK C 173 (regOps Tryz.f173 1) [.silent,.silent,.silent,(kLoad false t7),.silent,.silent,.silent,(kLoad false t11),.silent,.silent,.silent,.silent] <|
 oMv t4 s fun t16 s1 =>
 oNc t16 s1 fun t17 s2 =>
 oAd 2 t17 s2 fun t18 s3 =>
 oL1 t18 s3 fun t19 s4 =>
 oLa 3 t3 s4 fun t20 s5 =>
 oLn 63 t19 s5 fun t21 s6 =>
 oBs 63 1 [(0,(.agg [(.int .i64 0),(.str []),.nils]))] s6 fun t22 s7 =>oh (aRsAppend Tryz.prog 63 63 t19 t22 s7) fun t23 s8 =>
 oIx 63 t23 t21 s8 fun t24 s9 =>
 oSr 3 s9 t24 t20 fun _r s10 =>
 oNc t16 s10 fun t25 s11 =>
 oAd 2 t25 s11 fun t26 s12 =>
 oSr 1 s12 t26 t23.strip fun _r s13 =>
 drawOK C 173 (regOps Tryz.f173 2) [.silent,.silent,.silent,(kLoad false t18),(kLoad false t3),.silent,.silent,(dyn (appK t19) s7 s8),.silent,(kStore t24),.silent,.silent,(kStore t26)] <|
 some (.tup [],s13)
theorem F173_eq (n:Nat)(t0 t1:AV)(s:Heap):den C (n+1) 173 [t0,t1] s=F173 (den C n) n t0 t1 s :=
 (den_body rfl Tryz.func173 _ _).trans (by kernel_rfl)
theorem d173_1 {g0 g1:Nat}(x:Ans):drawOK C 173 (regOps Tryz.f173 1) [.silent,.silent,.silent,.get g0,.silent,.silent,.silent,.get g1,.silent,.silent,.silent,.silent] x=x:=drawOK_base (by kernel_rfl)
theorem d173_2 {g0:Nat}{q0:Option Nat}(a b:Nat)(h:a≠b)(x:Ans):drawOK C 173 (regOps Tryz.f173 2) [.silent,.silent,.silent,.get g0,.silent,.silent,.silent,.app q0,.silent,.put a,.silent,.silent,.put b] x=x:=drawOK_both (ks0:=[.silent,.silent,.silent,.reader,.silent,.silent,.silent,.writer,.silent,.put 0,.silent,.silent,.put 1]) h (by kernel_rfl) rfl
theorem en173:enterable Tryz.prog 173=true:=by kernel_rfl
-- (*parser.parser).use 1
noncomputable def F194_L0 (D:Den)(n:Nat)(k0:Env→Heap→Ans)(e:Env)(s:Heap):Ans :=
 oL1 (e 0) s fun t6 s =>
 oBs 38 1 [(0,(.str [58,58]))] s fun t7 s =>
 oCa D 100 [t6.strip,t7.strip] s fun t8 s =>
 oMv t8 s fun t9 s =>
 oGt t9 s (aLoad false false 1 (e 1) s) fun t10 s =>
 oGt t9 s (mp (aUn .not t10) s) fun t11 s =>
 oPk t9 t11 (.bool false) s fun t12 s =>
 br t12
  (oL1 (e 0) s fun t13 s =>
 oCa D 101 [t13.strip] s fun t14 s =>
 oBs 38 1 [(0,(.str [42]))] s fun t15 s =>
 oCa D 100 [t14.strip,t15.strip] s fun t16 s =>
 oSr 1 s (e 1) t16 fun _r s =>
 oL1 (e 1) s fun t17 s =>oh (mp (aUn .not t17) s) fun t18 s =>
 br t18
  (oL1 (e 0) s fun t19 s =>
 oCa D 107 [t19.strip] s fun t20 s =>
 oL1 (e 0) s fun t21 s =>
 oL1 (e 0) s fun t22 s =>
 oCp (.fn 166 [t22] []) s fun t23 s =>
 oCa D 104 [t21.strip,(.int .i64 18),t23.strip] s fun t24 s =>
 k0 (upds e [(6,t6),(7,t7),(8,t8),(9,t9),(10,t10),(11,t11),(12,t12),(13,t13),(14,t14),(15,t15),(16,t16),(16,t16.strip),(17,t17),(18,t18),(19,t19),(20,t20),(21,t21),(22,t22),(23,t23),(24,t24)]) s)
  (k0 (upds e [(6,t6),(7,t7),(8,t8),(9,t9),(10,t10),(11,t11),(12,t12),(13,t13),(14,t14),(15,t15),(16,t16),(16,t16.strip),(17,t17),(18,t18)]) s))
  (some (.tup [],s))
noncomputable def F194 (D:Den)(n:Nat)(t0 t1:AV)(s:Heap):Ans :=
 oL1 t0 s fun t2 s =>
 oL1 t0 s fun t3 s =>
 oCp (.fn 166 [t3] []) s fun t4 s =>
 oCa D 104 [t2.strip,(.int .i64 18),t4.strip] s fun t5 s =>
 aLoop (F194_L0 D n) n (upds (argEnv [t0,t1]) [(2,t2),(3,t3),(4,t4),(5,t5)]) s
theorem F194_eq (n:Nat)(t0 t1:AV)(s:Heap):den C (n+1) 194 [t0,t1] s=F194 (den C n) n t0 t1 s :=
 (den_body rfl Tryz.func194 _ _).trans (by kernel_rfl)
theorem en194:enterable Tryz.prog 194=true:=by kernel_rfl
-- (*parser.parser).typeParams
noncomputable def F195 (D:Den)(n:Nat)(t0:AV)(s:Heap):Ans :=
 oBx 93 t0 s fun t1 s =>
 oL1 t1 s fun t2 s =>
 oCp (.fn 228 [] [t1]) s fun t3 s =>
 oCa D 104 [t2.strip,(.int .i64 10),t3.strip] s fun t4 s =>
 some (.tup [],s)
theorem F195_eq (n:Nat)(t0:AV)(s:Heap):den C (n+1) 195 [t0] s=F195 (den C n) n t0 s :=
 (den_body rfl Tryz.func195 _ _).trans (by kernel_rfl)
theorem en195:enterable Tryz.prog 195=true:=by kernel_rfl
-- (*parser.parser).optional
noncomputable def F196 (D:Den)(n:Nat)(t0 t1 t2:AV)(s:Heap):Ans :=
 oMv t0 s fun t6 s =>
 oMv t1 s fun t7 s =>
 oBs 38 1 [(0,t7)] s fun t8 s =>
 oCa D 106 [t6.strip,t8.strip] s fun t9 s =>
 br t9
  (oMv t2 s fun t10 s =>oh (aCallV Tryz.prog D t10 [] s) fun t11 s =>
 some (.tup [],s))
  (oMv t0 s fun t12 s =>
 oCa D 197 [t12.strip] s fun t13 s =>
 some (.tup [],s))
theorem F196_eq (n:Nat)(t0 t1 t2:AV)(s:Heap):den C (n+1) 196 [t0,t1,t2] s=F196 (den C n) n t0 t1 t2 s :=
 (den_body rfl Tryz.func196 _ _).trans (by kernel_rfl)
theorem en196:enterable Tryz.prog 196=true:=by kernel_rfl
-- (*parser.parser).absent
noncomputable def F197 (D:Den)(n:Nat)(t0:AV)(s:Heap):Ans :=
 oMv t0 s fun t2 s =>
 oBd 65 [(0,(.int .i64 0))] s fun t3 s =>
 oCa D 173 [t2.strip,t3.strip] s fun t4 s =>
 some (.tup [],s)
theorem F197_eq (n:Nat)(t0:AV)(s:Heap):den C (n+1) 197 [t0] s=F197 (den C n) n t0 s :=
 (den_body rfl Tryz.func197 _ _).trans (by kernel_rfl)
theorem en197:enterable Tryz.prog 197=true:=by kernel_rfl
-- (*parser.parser).block
noncomputable def F198 (D:Den)(n:Nat)(t0:AV)(s:Heap):Ans :=
 oBx 93 t0 s fun t1 s =>
 oL1 t1 s fun t2 s =>
 oCp (.fn 230 [] [t1]) s fun t3 s =>
 oCa D 104 [t2.strip,(.int .i64 21),t3.strip] s fun t4 s =>
 some (.tup [],s)
theorem F198_eq (n:Nat)(t0:AV)(s:Heap):den C (n+1) 198 [t0] s=F198 (den C n) n t0 s :=
 (den_body rfl Tryz.func198 _ _).trans (by kernel_rfl)
theorem en198:enterable Tryz.prog 198=true:=by kernel_rfl
-- (*parser.parser).list
noncomputable def F199_L0 (D:Den)(n:Nat)(k0:Env→Heap→Ans)(e:Env)(s:Heap):Ans :=
 oMv (e 0) s fun t7 s =>
 oMv (e 1) s fun t8 s =>
 oBs 38 1 [(0,t8)] s fun t9 s =>
 oCa D 100 [t7.strip,t9.strip] s fun t10 s =>oh (mp (aUn .not t10) s) fun t11 s =>
 oMv t11 s fun t12 s =>
 oGt t12 s (some ((e 0).strip,s)) fun t13 s =>
 oGt t12 s (aCall Tryz.prog D 49 [t13.strip] s) fun t14 s =>
 oGt t12 s (mp (aUn .not t14) s) fun t15 s =>
 oPk t12 t15 (.bool false) s fun t16 s =>
 oMv t16 s fun t17 s =>
 oGt t17 s (some ((e 0).strip,s)) fun t18 s =>
 oGt t17 s (aCall Tryz.prog D 232 [t18.strip] s) fun t19 s =>
 oGt t17 s (mp (aUn .not t19) s) fun t20 s =>
 oPk t17 t20 (.bool false) s fun t21 s =>
 br t21
  (oMv (e 0) s fun t22 s =>
 oNc t22 s fun t23 s =>
 oAd 1 t23 s fun t24 s =>
 oL1 t24 s fun t25 s =>
 oCp t25 s fun t6 s =>
 oMv (e 2) s fun t26 s =>oh (aCallV Tryz.prog D t26 [] s) fun t27 s =>
 oMv (e 0) s fun t29 s =>
 oNc t29 s fun t30 s =>
 oAd 1 t30 s fun t31 s =>
 oL1 t31 s fun t32 s =>
 oMv t6 s fun t33 s =>
 oBn .eql 3 t32 t33 s fun t34 s =>
 oCp t34 s fun t28 s =>
 br t28
  (oMv (e 0) s fun t35 s =>
 oCa D 233 [t35.strip] s fun t36 s =>
 k0 (upds e [(7,t7),(8,t8),(9,t9),(10,t10),(11,t11),(12,t12),(13,t13),(14,t14),(15,t15),(16,t16),(17,t17),(18,t18),(19,t19),(20,t20),(21,t21),(22,t22),(23,t23),(24,t24),(25,t25),(25,t25.strip),(6,t6),(26,t26),(27,t27),(29,t29),(30,t30),(31,t31),(32,t32),(33,t33),(34,t34),(34,t34.strip),(28,t28),(35,t35),(36,t36)]) s)
  (oMv (e 0) s fun t38 s =>
 oMv (e 1) s fun t39 s =>
 oBs 38 1 [(0,t39)] s fun t40 s =>
 oCa D 100 [t38.strip,t40.strip] s fun t41 s =>oh (mp (aUn .not t41) s) fun t42 s =>
 oCp t42 s fun t37 s =>
 br t37
  (oMv (e 0) s fun t43 s =>
 oCa D 169 [t43.strip,(.str [44])] s fun t44 s =>
 k0 (upds e [(7,t7),(8,t8),(9,t9),(10,t10),(11,t11),(12,t12),(13,t13),(14,t14),(15,t15),(16,t16),(17,t17),(18,t18),(19,t19),(20,t20),(21,t21),(22,t22),(23,t23),(24,t24),(25,t25),(25,t25.strip),(6,t6),(26,t26),(27,t27),(29,t29),(30,t30),(31,t31),(32,t32),(33,t33),(34,t34),(34,t34.strip),(28,t28),(38,t38),(39,t39),(40,t40),(41,t41),(42,t42),(42,t42.strip),(37,t37),(43,t43),(44,t44)]) s)
  (k0 (upds e [(7,t7),(8,t8),(9,t9),(10,t10),(11,t11),(12,t12),(13,t13),(14,t14),(15,t15),(16,t16),(17,t17),(18,t18),(19,t19),(20,t20),(21,t21),(22,t22),(23,t23),(24,t24),(25,t25),(25,t25.strip),(6,t6),(26,t26),(27,t27),(29,t29),(30,t30),(31,t31),(32,t32),(33,t33),(34,t34),(34,t34.strip),(28,t28),(38,t38),(39,t39),(40,t40),(41,t41),(42,t42),(42,t42.strip),(37,t37)]) s)))
  (oMv (e 0) s fun t45 s =>
 oMv (e 1) s fun t46 s =>
 oCa D 169 [t45.strip,t46.strip] s fun t47 s =>
 some (.tup [],s))
noncomputable def F199 (D:Den)(n:Nat)(t0 t1 t2:AV)(s:Heap):Ans :=
 aLoop (F199_L0 D n) n (argEnv [t0,t1,t2]) s
theorem F199_eq (n:Nat)(t0 t1 t2:AV)(s:Heap):den C (n+1) 199 [t0,t1,t2] s=F199 (den C n) n t0 t1 t2 s :=
 (den_body rfl Tryz.func199 _ _).trans (by kernel_rfl)
theorem en199:enterable Tryz.prog 199=true:=by kernel_rfl
-- (*parser.parser).dataType 1
noncomputable def F200 (D:Den)(n:Nat)(t0 t1:AV)(s:Heap):Ans :=
 oL1 t0 s fun t6 s =>
 oCa D 201 [t6.strip] s fun t7 s =>oh (mp (aUn .not t7) s) fun t8 s =>
 oCp t8 s fun t5 s =>
 br t5
  (some (.tup [],s))
  (oL1 t1 s fun t10 s =>
 oBn .eql 3 t10 (.int .i64 4) s fun t11 s =>
 oCp t11 s fun t9 s =>
 br t9
  (oL1 t0 s fun t12 s =>
 oCp (.fn 202 [] [t0]) s fun t13 s =>
 oCa D 104 [t12.strip,(.int .i64 14),t13.strip] s fun t14 s =>
 some (.tup [],s))
  (oL1 t0 s fun t2 s =>
 oCp (.fn 203 [] [t0]) s fun t3 s =>
 oCa D 104 [t2.strip,(.int .i64 15),t3.strip] s fun t4 s =>
 some (.tup [],s)))
theorem F200_eq (n:Nat)(t0 t1:AV)(s:Heap):den C (n+1) 200 [t0,t1] s=F200 (den C n) n t0 t1 s :=
 (den_body rfl Tryz.func200 _ _).trans (by kernel_rfl)
theorem en200:enterable Tryz.prog 200=true:=by kernel_rfl
-- (*parser.parser).atIdent
noncomputable def F201 (D:Den)(n:Nat)(t0:AV)(s:Heap):Ans :=
 oCp (.bool false) s fun t2 s =>
 oMv t0 s fun t3 s =>
 oCa D 99 [t3.strip] s fun t4 s =>oh (mp (aField Tryz.prog 53 0 t4) s) fun t5 s =>
 oBn .eql 3 t5 (.int .i64 103) s fun t6 s =>
 oCp t6 s fun t2_2 s =>
 some (t2_2,s)
theorem F201_eq (n:Nat)(t0:AV)(s:Heap):den C (n+1) 201 [t0] s=F201 (den C n) n t0 s :=
 (den_body rfl Tryz.func201 _ _).trans (by kernel_rfl)
theorem en201:enterable Tryz.prog 201=true:=by kernel_rfl
-- (*parser.parser).dataType 1 1
noncomputable def F202 (D:Den)(n:Nat)(t0:AV)(s:Heap):Ans :=
 oL1 t0 s fun t1 s =>
 oCa D 107 [t1.strip] s fun t2 s =>
 oL1 t0 s fun t3 s =>
 oCa D 169 [t3.strip,(.str [58])] s fun t4 s =>
 oL1 t0 s fun t5 s =>
 oCa D 170 [t5.strip] s fun t6 s =>
 some (.tup [],s)
theorem F202_eq (n:Nat)(t0:AV)(s:Heap):den C (n+1) 202 [t0] s=F202 (den C n) n t0 s :=
 (den_body rfl Tryz.func202 _ _).trans (by kernel_rfl)
theorem en202:enterable Tryz.prog 202=true:=by kernel_rfl
-- (*parser.parser).dataType 1 2
noncomputable def F203 (D:Den)(n:Nat)(t0:AV)(s:Heap):Ans :=
 oL1 t0 s fun t1 s =>
 oCa D 107 [t1.strip] s fun t2 s =>
 oL1 t0 s fun t3 s =>
 oBs 38 1 [(0,(.str [40]))] s fun t4 s =>
 oCa D 106 [t3.strip,t4.strip] s fun t5 s =>
 br t5
  (oL1 t0 s fun t6 s =>
 oL1 t0 s fun t7 s =>
 oCp (.fn 170 [t7] []) s fun t8 s =>
 oCa D 199 [t6.strip,(.str [41]),t8.strip] s fun t9 s =>
 some (.tup [],s))
  (some (.tup [],s))
theorem F203_eq (n:Nat)(t0:AV)(s:Heap):den C (n+1) 203 [t0] s=F203 (den C n) n t0 s :=
 (den_body rfl Tryz.func203 _ _).trans (by kernel_rfl)
theorem en203:enterable Tryz.prog 203=true:=by kernel_rfl
-- (*parser.parser).missingToken
noncomputable def F204 (D:Den)(n:Nat)(t0:AV)(s:Heap):Ans :=
 oMv t0 s fun t2 s =>
 oBd 65 [(0,(.int .i64 108))] s fun t3 s =>
 oCa D 173 [t2.strip,t3.strip] s fun t4 s =>
 some (.tup [],s)
theorem F204_eq (n:Nat)(t0:AV)(s:Heap):den C (n+1) 204 [t0] s=F204 (den C n) n t0 s :=
 (den_body rfl Tryz.func204 _ _).trans (by kernel_rfl)
theorem en204:enterable Tryz.prog 204=true:=by kernel_rfl
-- (*parser.parser).members 1
noncomputable def F205 (D:Den)(n:Nat)(t0:AV)(s:Heap):Ans :=
 oL1 t0 s fun t1 s =>
 oCa D 107 [t1.strip] s fun t2 s =>
 oL1 t0 s fun t3 s =>
 oCa D 164 [t3.strip,(.bool false)] s fun t4 s =>
 some (.tup [],s)
theorem F205_eq (n:Nat)(t0:AV)(s:Heap):den C (n+1) 205 [t0] s=F205 (den C n) n t0 s :=
 (den_body rfl Tryz.func205 _ _).trans (by kernel_rfl)
theorem en205:enterable Tryz.prog 205=true:=by kernel_rfl
-- (*parser.parser).members 2
noncomputable def F206 (D:Den)(n:Nat)(t0:AV)(s:Heap):Ans :=
 oL1 t0 s fun t1 s =>
 oCa D 107 [t1.strip] s fun t2 s =>
 oL1 t0 s fun t3 s =>
 oCa D 166 [t3.strip] s fun t4 s =>
 oL1 t0 s fun t5 s =>
 oL1 t0 s fun t6 s =>
 oCp (.fn 170 [t6] []) s fun t7 s =>
 oCa D 196 [t5.strip,(.str [61]),t7.strip] s fun t8 s =>
 oL1 t0 s fun t9 s =>
 oCa D 169 [t9.strip,(.str [59])] s fun t10 s =>
 some (.tup [],s)
theorem F206_eq (n:Nat)(t0:AV)(s:Heap):den C (n+1) 206 [t0] s=F206 (den C n) n t0 s :=
 (den_body rfl Tryz.func206 _ _).trans (by kernel_rfl)
theorem en206:enterable Tryz.prog 206=true:=by kernel_rfl
-- (*parser.parser).typeExpr 1
noncomputable def F208 (D:Den)(n:Nat)(t0:AV)(s:Heap):Ans :=
 oL1 t0 s fun t1 s =>
 oCa D 107 [t1.strip] s fun t2 s =>
 oL1 t0 s fun t3 s =>
 oBs 38 1 [(0,(.str [109,117,116]))] s fun t4 s =>
 oCa D 106 [t3.strip,t4.strip] s fun t5 s =>
 oL1 t0 s fun t6 s =>
 oCa D 170 [t6.strip] s fun t7 s =>
 some (.tup [],s)
theorem F208_eq (n:Nat)(t0:AV)(s:Heap):den C (n+1) 208 [t0] s=F208 (den C n) n t0 s :=
 (den_body rfl Tryz.func208 _ _).trans (by kernel_rfl)
theorem en208:enterable Tryz.prog 208=true:=by kernel_rfl
-- (*parser.parser).typeExpr 2
noncomputable def F209 (D:Den)(n:Nat)(t0:AV)(s:Heap):Ans :=
 oL1 t0 s fun t1 s =>
 oCa D 107 [t1.strip] s fun t2 s =>
 oL1 t0 s fun t3 s =>
 oCa D 169 [t3.strip,(.str [40])] s fun t4 s =>
 oL1 t0 s fun t5 s =>
 oL1 t0 s fun t6 s =>
 oCp (.fn 170 [t6] []) s fun t7 s =>
 oCa D 199 [t5.strip,(.str [41]),t7.strip] s fun t8 s =>
 oL1 t0 s fun t9 s =>
 oL1 t0 s fun t10 s =>
 oCp (.fn 170 [t10] []) s fun t11 s =>
 oCa D 196 [t9.strip,(.str [45,62]),t11.strip] s fun t12 s =>
 some (.tup [],s)
theorem F209_eq (n:Nat)(t0:AV)(s:Heap):den C (n+1) 209 [t0] s=F209 (den C n) n t0 s :=
 (den_body rfl Tryz.func209 _ _).trans (by kernel_rfl)
theorem en209:enterable Tryz.prog 209=true:=by kernel_rfl
-- (*parser.parser).path
noncomputable def F210 (D:Den)(n:Nat)(t0 t1:AV)(s:Heap):Ans :=
 oBx 93 t0 s fun t2 s =>
 oBx 4 t1 s fun t3 s =>
 oL1 t2 s fun t4 s =>
 oCp (.fn 236 [] [t2,t3]) s fun t5 s =>
 oCa D 104 [t4.strip,(.int .i64 17),t5.strip] s fun t6 s =>
 some (.tup [],s)
theorem F210_eq (n:Nat)(t0 t1:AV)(s:Heap):den C (n+1) 210 [t0,t1] s=F210 (den C n) n t0 t1 s :=
 (den_body rfl Tryz.func210 _ _).trans (by kernel_rfl)
theorem en210:enterable Tryz.prog 210=true:=by kernel_rfl
-- (*parser.parser).missingNode
noncomputable def F211 (D:Den)(n:Nat)(t0:AV)(s:Heap):Ans :=
 oMv t0 s fun t2 s =>
 oBd 65 [(0,(.int .i64 46))] s fun t3 s =>
 oCa D 173 [t2.strip,t3.strip] s fun t4 s =>
 some (.tup [],s)
theorem F211_eq (n:Nat)(t0:AV)(s:Heap):den C (n+1) 211 [t0] s=F211 (den C n) n t0 s :=
 (den_body rfl Tryz.func211 _ _).trans (by kernel_rfl)
theorem en211:enterable Tryz.prog 211=true:=by kernel_rfl
-- (*parser.parser).binary
noncomputable def F212_L0 (D:Den)(n:Nat)(k0:Env→Heap→Ans)(e:Env)(s:Heap):Ans :=
 oL1 (e 2) s fun t12 s1 =>
 oL1 (e 3) s1 fun t13 s2 =>
 oCa D 239 [t13.strip] s2 fun t14 s3 =>
 oCa D 100 [t12.strip,t14.strip] s3 fun t15 s4 =>
 drawOK C 212 (regOps Tryz.f212 4) [(kLoad false (e 2)),(kLoad false (e 3)),(dyn (kCall [t13.strip]) s2 s3),(dyn (kCall [t12.strip,t14.strip]) s3 s4)] <|
 br t15
  (oL1 (e 2) s4 fun t16 s =>
 oCp (.fn 241 [] [(e 2),(e 3)]) s fun t17 s =>
 oCa D 240 [t16.strip,(.int .i64 39),t17.strip] s fun t18 s =>
 oL1 (e 3) s fun t19 s =>
 oBn .eql 3 t19 (.int .i64 2) s fun t20 s =>
 br t20
  (some (.tup [],s))
  (k0 (upds e [(12,t12),(13,t13),(14,t14),(15,t15),(16,t16),(17,t17),(18,t18),(19,t19),(20,t20)]) s))
  (some (.tup [],s4))
noncomputable def F212 (D:Den)(n:Nat)(t0 t1:AV)(s:Heap):Ans :=
 oBx 93 t0 s fun t2 s =>
 oBx 3 t1 s fun t3 s =>
 oL1 t3 s fun t4 s =>
 oBn .eql 3 t4 (.int .i64 5) s fun t5 s =>
 br t5
  (oL1 t2 s fun t6 s =>
 oCa D 238 [t6.strip] s fun t7 s =>
 some (.tup [],s))
  (oL1 t2 s fun t8 s =>
 oL1 t3 s fun t9 s =>
 oBn .add 3 t9 (.int .i64 1) s fun t10 s =>
 oCa D 212 [t8.strip,t10.strip] s fun t11 s =>
 aLoop (F212_L0 D n) n (upds (argEnv [t0,t1]) [(2,t2),(3,t3),(4,t4),(5,t5),(8,t8),(9,t9),(10,t10),(11,t11)]) s)
theorem F212_eq (n:Nat)(t0 t1:AV)(s:Heap):den C (n+1) 212 [t0,t1] s=F212 (den C n) n t0 t1 s :=
 (den_body rfl Tryz.func212 _ _).trans (by kernel_rfl)
theorem d212_4 {l0:List Nat}(x:Ans):drawOK C 212 (regOps Tryz.f212 4) [.silent,.silent,.silent,.call l0] x=x:=drawOK_base (by kernel_rfl)
theorem en212:enterable Tryz.prog 212=true:=by kernel_rfl
-- (*parser.parser).params 1
noncomputable def F213 (D:Den)(n:Nat)(t0 t1:AV)(s:Heap):Ans :=
 oL1 t0 s fun t2 s =>
 oL1 t1 s fun t3 s =>
 oCp (.fn 214 [] [t0]) s fun t4 s =>
 oCa D 199 [t2.strip,t3.strip,t4.strip] s fun t5 s =>
 some (.tup [],s)
theorem F213_eq (n:Nat)(t0 t1:AV)(s:Heap):den C (n+1) 213 [t0,t1] s=F213 (den C n) n t0 t1 s :=
 (den_body rfl Tryz.func213 _ _).trans (by kernel_rfl)
theorem en213:enterable Tryz.prog 213=true:=by kernel_rfl
-- (*parser.parser).params 1 1
noncomputable def F214 (D:Den)(n:Nat)(t0:AV)(s:Heap):Ans :=
 oL1 t0 s fun t1 s =>
 oCa D 201 [t1.strip] s fun t2 s =>
 br t2
  (oL1 t0 s fun t3 s =>
 oCp (.fn 215 [] [t0]) s fun t4 s =>
 oCa D 104 [t3.strip,(.int .i64 13),t4.strip] s fun t5 s =>
 some (.tup [],s))
  (some (.tup [],s))
theorem F214_eq (n:Nat)(t0:AV)(s:Heap):den C (n+1) 214 [t0] s=F214 (den C n) n t0 s :=
 (den_body rfl Tryz.func214 _ _).trans (by kernel_rfl)
theorem en214:enterable Tryz.prog 214=true:=by kernel_rfl
-- (*parser.parser).params 1 1 1
noncomputable def F215 (D:Den)(n:Nat)(t0:AV)(s:Heap):Ans :=
 oL1 t0 s fun t1 s =>
 oCa D 107 [t1.strip] s fun t2 s =>
 oL1 t0 s fun t3 s =>
 oL1 t0 s fun t4 s =>
 oCp (.fn 170 [t4] []) s fun t5 s =>
 oCa D 196 [t3.strip,(.str [58]),t5.strip] s fun t6 s =>
 some (.tup [],s)
theorem F215_eq (n:Nat)(t0:AV)(s:Heap):den C (n+1) 215 [t0] s=F215 (den C n) n t0 s :=
 (den_body rfl Tryz.func215 _ _).trans (by kernel_rfl)
theorem en215:enterable Tryz.prog 215=true:=by kernel_rfl
-- (*parser.parser).typeParams 1
noncomputable def F228 (D:Den)(n:Nat)(t0:AV)(s:Heap):Ans :=
 oL1 t0 s fun t1 s =>
 oBs 38 1 [(0,(.str [60]))] s fun t2 s =>
 oCa D 106 [t1.strip,t2.strip] s fun t3 s =>
 br t3
  (oL1 t0 s fun t4 s =>
 oL1 t0 s fun t5 s =>
 oCp (.fn 229 [t5] []) s fun t6 s =>
 oCa D 199 [t4.strip,(.str [62]),t6.strip] s fun t7 s =>
 some (.tup [],s))
  (some (.tup [],s))
theorem F228_eq (n:Nat)(t0:AV)(s:Heap):den C (n+1) 228 [t0] s=F228 (den C n) n t0 s :=
 (den_body rfl Tryz.func228 _ _).trans (by kernel_rfl)
theorem en228:enterable Tryz.prog 228=true:=by kernel_rfl
-- (*parser.parser).typeParam
noncomputable def F229 (D:Den)(n:Nat)(t0:AV)(s:Heap):Ans :=
 oBx 93 t0 s fun t1 s =>
 oL1 t1 s fun t2 s =>
 oCa D 201 [t2.strip] s fun t3 s =>oh (mp (aUn .not t3) s) fun t4 s =>
 br t4
  (some (.tup [],s))
  (oL1 t1 s fun t5 s =>
 oCp (.fn 263 [] [t1]) s fun t6 s =>
 oCa D 104 [t5.strip,(.int .i64 11),t6.strip] s fun t7 s =>
 some (.tup [],s))
theorem F229_eq (n:Nat)(t0:AV)(s:Heap):den C (n+1) 229 [t0] s=F229 (den C n) n t0 s :=
 (den_body rfl Tryz.func229 _ _).trans (by kernel_rfl)
theorem en229:enterable Tryz.prog 229=true:=by kernel_rfl
-- (*parser.parser).block 1
noncomputable def F230_J1 (D:Den)(n:Nat)(e:Env)(s:Heap):Ans :=
 oL1 (e 0) s fun t29 s =>
 oCa D 169 [t29.strip,(.str [125])] s fun t30 s =>
 some (.tup [],s)
noncomputable def F230_L0 (D:Den)(n:Nat)(k0:Env→Heap→Ans)(e:Env)(s:Heap):Ans :=
 oMv (e 1) s fun t4 s1 =>oh (mp (aUn .not t4) s1) fun t5 s2 =>
 oMv t5 s2 fun t6 s3 =>
 oGt t6 s3 (aLoad false false 1 (e 0) s3) fun t7 s4 =>
 oGt t6 s4 (mp (aBuildSlice Tryz.prog 38 1 [(0,(.str [125]))]) s4) fun t8 s5 =>
 oGt t6 s5 (aCall Tryz.prog D 100 [t7.strip,t8.strip] s5) fun t9 s6 =>
 oGt t6 s6 (mp (aUn .not t9) s6) fun t10 s7 =>
 oPk t6 t10 (.bool false) s7 fun t11 s8 =>
 oMv t11 s8 fun t12 s9 =>
 oGt t12 s9 (aLoad false false 1 (e 0) s9) fun t13 s10 =>
 oGt t12 s10 (aCall Tryz.prog D 49 [t13.strip] s10) fun t14 s11 =>
 oGt t12 s11 (mp (aUn .not t14) s11) fun t15 s12 =>
 oPk t12 t15 (.bool false) s12 fun t16 s13 =>
 oMv t16 s13 fun t17 s14 =>
 oGt t17 s14 (aLoad false false 1 (e 0) s14) fun t18 s15 =>
 oGt t17 s15 (aCall Tryz.prog D 161 [] s15) fun t19 s16 =>
 oGt t17 s16 (aCall Tryz.prog D 100 [t18.strip,t19.strip] s16) fun t20 s17 =>
 oGt t17 s17 (mp (aUn .not t20) s17) fun t21 s18 =>
 oPk t17 t21 (.bool false) s18 fun t22 s19 =>
 drawOK C 230 (regOps Tryz.f230 2) [.silent,.silent,.silent,(kGd (wA t6 true) (kLoad false (e 0))),(kGd (wA t6 true) .silent),(kGd (wA t6 true) (dyn (kCall [t7.strip,t8.strip]) s5 s6)),(kGd (wA t6 true) .silent),.silent,.silent,(kGd (wA t12 true) (kLoad false (e 0))),(kGd (wA t12 true) (dyn (kCall [t13.strip]) s10 s11)),(kGd (wA t12 true) .silent),.silent,.silent,(kGd (wA t17 true) (kLoad false (e 0))),(kGd (wA t17 true) (dyn (kCall []) s15 s16)),(kGd (wA t17 true) (dyn (kCall [t18.strip,t19.strip]) s16 s17)),(kGd (wA t17 true) .silent),.silent] <|
 br t22
  (oL1 (e 0) s19 fun t23 s =>
 oCa D 231 [t23.strip] s fun t24 s =>
 oCp t24 s fun t1_2 s =>
 k0 (upds e [(4,t4),(5,t5),(6,t6),(7,t7),(8,t8),(9,t9),(10,t10),(11,t11),(12,t12),(13,t13),(14,t14),(15,t15),(16,t16),(17,t17),(18,t18),(19,t19),(20,t20),(21,t21),(22,t22),(23,t23),(24,t24),(24,t24.strip),(1,t1_2)]) s)
  (oMv (e 1) s19 fun t25 s =>oh (mp (aUn .not t25) s) fun t26 s =>
 br t26
  (oL1 (e 0) s fun t27 s =>
 oCa D 197 [t27.strip] s fun t28 s =>
 F230_J1 D n (upds e [(4,t4),(5,t5),(6,t6),(7,t7),(8,t8),(9,t9),(10,t10),(11,t11),(12,t12),(13,t13),(14,t14),(15,t15),(16,t16),(17,t17),(18,t18),(19,t19),(20,t20),(21,t21),(22,t22),(25,t25),(26,t26),(27,t27),(28,t28)]) s)
  (F230_J1 D n (upds e [(4,t4),(5,t5),(6,t6),(7,t7),(8,t8),(9,t9),(10,t10),(11,t11),(12,t12),(13,t13),(14,t14),(15,t15),(16,t16),(17,t17),(18,t18),(19,t19),(20,t20),(21,t21),(22,t22),(25,t25),(26,t26)]) s))
noncomputable def F230 (D:Den)(n:Nat)(t0:AV)(s:Heap):Ans :=
 oL1 t0 s fun t2 s =>
 oCa D 169 [t2.strip,(.str [123])] s fun t3 s =>
 oCp (.bool false) s fun t1 s =>
 aLoop (F230_L0 D n) n (upds (argEnv [t0]) [(2,t2),(3,t3),(1,t1)]) s
theorem F230_eq (n:Nat)(t0:AV)(s:Heap):den C (n+1) 230 [t0] s=F230 (den C n) n t0 s :=
 (den_body rfl Tryz.func230 _ _).trans (by kernel_rfl)
theorem d230_2 {l0 l1 l2:List Nat}(x:Ans):drawOK C 230 (regOps Tryz.f230 2) [.silent,.silent,.silent,.silent,.silent,.call l0,.silent,.silent,.silent,.silent,.call l1,.silent,.silent,.silent,.silent,.silent,.call l2,.silent,.silent] x=x:=drawOK_base (by kernel_rfl)
theorem en230:enterable Tryz.prog 230=true:=by kernel_rfl
-- (*parser.parser).statement
noncomputable def F231_J0 (D:Den)(n:Nat)(e:Env)(s:Heap):Ans :=
 oL1 (e 1) s fun t45 s =>
 oNc t45 s fun t46 s =>
 oAd 1 t46 s fun t47 s =>
 oL1 t47 s fun t48 s =>
 oMv (e 3) s fun t49 s =>
 oBn .eql 3 t48 t49 s fun t50 s =>
 oCp t50 s fun t44 s =>
 br t44
  (oL1 (e 1) s fun t51 s =>
 oNc t51 s fun t52 s =>
 oAd 2 t52 s fun t53 s =>
 oL1 t53 s fun t54 s =>
 oL1 (e 1) s fun t55 s =>
 oNc t55 s fun t56 s =>
 oAd 2 t56 s fun t57 s =>
 oL1 t57 s fun t58 s =>
 oLn 63 t58 s fun t59 s =>
 oBn .sub 3 t59 (.int .i64 1) s fun t60 s =>
 oIx 63 t54 t60 s fun t61 s =>
 oCp t61 s fun t5 s =>
 drawOK C 231 (regOps Tryz.f231 17) [(kLoad false (e 1)),.silent,.silent,(kLoad false t53),(kLoad false (e 1)),.silent,.silent,(kLoad false t57),.silent,.silent,.silent,.silent] <|
 oMv t5 s fun t62 s =>
 oMv t5 s fun t63 s =>
 oNc t63 s fun t64 s =>
 oAd 2 t64 s fun t65 s =>
 oL1 t65 s fun t66 s =>
 oMv t5 s fun t67 s =>
 oNc t67 s fun t68 s =>
 oAd 2 t68 s fun t69 s =>
 oL1 t69 s fun t70 s =>
 oLn 63 t70 s fun t71 s =>
 oBn .sub 3 t71 (.int .i64 1) s fun t72 s =>oh (mp (aSl Tryz.prog 63 t66 none (some t72) none) s) fun t73 s =>
 oNc t62 s fun t74 s =>
 oAd 2 t74 s fun t75 s =>
 oSr 1 s t75 t73 fun _r s =>
 drawOK C 231 (regOps Tryz.f231 18) [.silent,.silent,.silent,.silent,(kLoad false t65),.silent,.silent,.silent,(kLoad false t69),.silent,.silent,.silent,.silent,.silent,(kStore t75)] <|
 oL1 (e 1) s fun t76 s =>
 oCa D 233 [t76.strip] s fun t77 s =>
 oCp (.bool false) s fun t2_5 s =>
 some (t2_5,s))
  (oL1 (e 1) s fun t79 s =>
 oBs 38 1 [(0,(.str [125]))] s fun t80 s =>
 oCa D 100 [t79.strip,t80.strip] s fun t81 s =>
 oCp t81 s fun t78 s =>
 br t78
  (oCp (.bool true) s fun t2_6 s =>
 some (t2_6,s))
  (oL1 (e 1) s fun t83 s =>
 oBs 38 1 [(0,(.str [61]))] s fun t84 s =>
 oCa D 100 [t83.strip,t84.strip] s fun t85 s =>
 oCp t85 s fun t82 s =>
 br t82
  (oL1 (e 1) s fun t86 s =>
 oCp (.fn 268 [] [(e 1)]) s fun t87 s =>
 oCa D 240 [t86.strip,(.int .i64 23),t87.strip] s fun t88 s =>
 oCp (.bool false) s fun t2_8 s =>
 some (t2_8,s))
  (oL1 (e 1) s fun t41 s =>
 oCp (.fn 269 [] [(e 1),(e 4)]) s fun t42 s =>
 oCa D 240 [t41.strip,(.int .i64 26),t42.strip] s fun t43 s =>
 oCp (.bool false) s fun t2_9 s =>
 some (t2_9,s))))
noncomputable def F231 (D:Den)(n:Nat)(t0:AV)(s:Heap):Ans :=
 oBx 93 t0 s fun t1 s =>
 oCp (.bool false) s fun t2 s =>
 oL1 t1 s fun t7 s =>
 oBs 38 1 [(0,(.str [108,101,116]))] s fun t8 s =>
 oCa D 100 [t7.strip,t8.strip] s fun t9 s =>
 oCp t9 s fun t6 s =>
 br t6
  (oL1 t1 s fun t10 s =>
 oL1 t1 s fun t11 s =>
 oCp (.fn 264 [t11] []) s fun t12 s =>
 oCa D 104 [t10.strip,(.int .i64 22),t12.strip] s fun t13 s =>
 oCp (.bool false) s fun t2_2 s =>
 some (t2_2,s))
  (oL1 t1 s fun t15 s =>
 oBs 38 1 [(0,(.str [119,104,105,108,101]))] s fun t16 s =>
 oCa D 100 [t15.strip,t16.strip] s fun t17 s =>
 oCp t17 s fun t14 s =>
 br t14
  (oL1 t1 s fun t18 s =>
 oCp (.fn 265 [] [t1]) s fun t19 s =>
 oCa D 104 [t18.strip,(.int .i64 24),t19.strip] s fun t20 s =>
 oCp (.bool false) s fun t2_3 s =>
 some (t2_3,s))
  (oL1 t1 s fun t22 s =>
 oBs 38 1 [(0,(.str [114,101,116,117,114,110]))] s fun t23 s =>
 oCa D 100 [t22.strip,t23.strip] s fun t24 s =>
 oCp t24 s fun t21 s =>
 br t21
  (oL1 t1 s fun t25 s =>
 oL1 t1 s fun t26 s =>
 oCp (.fn 266 [t26] []) s fun t27 s =>
 oCa D 104 [t25.strip,(.int .i64 25),t27.strip] s fun t28 s =>
 oCp (.bool false) s fun t2_4 s =>
 some (t2_4,s))
  (oL1 t1 s fun t29 s =>
 oNc t29 s fun t30 s =>
 oAd 1 t30 s fun t31 s =>
 oL1 t31 s fun t32 s =>
 oCp t32 s fun t3 s =>
 oL1 t1 s fun t33 s =>
 oBs 38 3 [(0,(.str [105,102])),(1,(.str [109,97,116,99,104])),(2,(.str [123]))] s fun t34 s =>
 oCa D 100 [t33.strip,t34.strip] s fun t35 s =>
 oAl 4 s fun t4 s =>
 oSr 1 s t4 t35 fun _r s =>
 oL1 t4 s fun t36 s =>
 br t36
  (oL1 t1 s fun t37 s =>
 oCa D 267 [t37.strip] s fun t38 s =>
 F231_J0 D n (upds (argEnv [t0]) [(1,t1),(2,t2),(7,t7),(8,t8),(9,t9),(9,t9.strip),(6,t6),(15,t15),(16,t16),(17,t17),(17,t17.strip),(14,t14),(22,t22),(23,t23),(24,t24),(24,t24.strip),(21,t21),(29,t29),(30,t30),(31,t31),(32,t32),(32,t32.strip),(3,t3),(33,t33),(34,t34),(35,t35),(4,t4),(35,t35.strip),(36,t36),(37,t37),(38,t38)]) s)
  (oL1 t1 s fun t39 s =>
 oCa D 171 [t39.strip] s fun t40 s =>
 F231_J0 D n (upds (argEnv [t0]) [(1,t1),(2,t2),(7,t7),(8,t8),(9,t9),(9,t9.strip),(6,t6),(15,t15),(16,t16),(17,t17),(17,t17.strip),(14,t14),(22,t22),(23,t23),(24,t24),(24,t24.strip),(21,t21),(29,t29),(30,t30),(31,t31),(32,t32),(32,t32.strip),(3,t3),(33,t33),(34,t34),(35,t35),(4,t4),(35,t35.strip),(36,t36),(39,t39),(40,t40)]) s))))
theorem F231_eq (n:Nat)(t0:AV)(s:Heap):den C (n+1) 231 [t0] s=F231 (den C n) n t0 s :=
 (den_body rfl Tryz.func231 _ _).trans (by kernel_rfl)
theorem d231_17 {g0 g1:Nat}(x:Ans):drawOK C 231 (regOps Tryz.f231 17) [.silent,.silent,.silent,.get g0,.silent,.silent,.silent,.get g1,.silent,.silent,.silent,.silent] x=x:=drawOK_base (by kernel_rfl)
theorem d231_18 {g0 g1:Nat}(a:Nat)(x:Ans):drawOK C 231 (regOps Tryz.f231 18) [.silent,.silent,.silent,.silent,.get g0,.silent,.silent,.silent,.get g1,.silent,.silent,.silent,.silent,.silent,.put a] x=x:=drawOK_both (a:=a) (b:=a+1) (ks0:=[.silent,.silent,.silent,.silent,.reader,.silent,.silent,.silent,.reader,.silent,.silent,.silent,.silent,.silent,.put 0]) (by omega) (by kernel_rfl) rfl
theorem en231:enterable Tryz.prog 231=true:=by kernel_rfl
-- (*parser.parser).atItem
noncomputable def F232 (D:Den)(n:Nat)(t0:AV)(s:Heap):Ans :=
 oCp (.bool false) s fun t2 s =>
 oMv t0 s fun t3 s =>
 oCa D 161 [] s fun t4 s =>
 oCa D 100 [t3.strip,t4.strip] s fun t5 s =>
 oMv t5 s fun t6 s =>
 oGt t6 s (some (t0.strip,s)) fun t7 s =>
 oGt t6 s (mp (aBuildSlice Tryz.prog 38 1 [(0,(.str [102,110]))]) s) fun t8 s =>
 oGt t6 s (aCall Tryz.prog D 100 [t7.strip,t8.strip] s) fun t9 s =>
 oGt t6 s (mp (aUn .not t9) s) fun t10 s =>
 oPk t6 t10 (.bool false) s fun t11 s =>
 oCp t11 s fun t2_2 s =>
 some (t2_2,s)
theorem F232_eq (n:Nat)(t0:AV)(s:Heap):den C (n+1) 232 [t0] s=F232 (den C n) n t0 s :=
 (den_body rfl Tryz.func232 _ _).trans (by kernel_rfl)
theorem en232:enterable Tryz.prog 232=true:=by kernel_rfl
-- (*parser.parser).unexpected
noncomputable def F233 (D:Den)(n:Nat)(t0:AV)(s:Heap):Ans :=
 oMv t0 s fun t2 s =>
 oMv t0 s fun t3 s =>
 oCp (.fn 107 [t3] []) s fun t4 s =>
 oCa D 104 [t2.strip,(.int .i64 46),t4.strip] s fun t5 s =>
 some (.tup [],s)
theorem F233_eq (n:Nat)(t0:AV)(s:Heap):den C (n+1) 233 [t0] s=F233 (den C n) n t0 s :=
 (den_body rfl Tryz.func233 _ _).trans (by kernel_rfl)
theorem en233:enterable Tryz.prog 233=true:=by kernel_rfl
-- (*parser.parser).path 1
noncomputable def F236_L0 (D:Den)(n:Nat)(k0:Env→Heap→Ans)(e:Env)(s:Heap):Ans :=
 oMv (e 2) s fun t3 s =>
 oMv t3 s fun t4 s =>
 oGf t4 s (aLoad false false 1 (e 0) s) fun t5 s =>
 oGf t4 s (mp (aBuildSlice Tryz.prog 38 1 [(0,(.str [58,58]))]) s) fun t6 s =>
 oGf t4 s (aCall Tryz.prog D 106 [t5.strip,t6.strip] s) fun t7 s =>
 oPk t4 (.bool true) t7 s fun t8 s =>
 br t8
  (oL1 (e 0) s fun t9 s =>
 oCp (.fn 237 [] [(e 0),(e 1)]) s fun t10 s =>
 oCa D 104 [t9.strip,(.int .i64 18),t10.strip] s fun t11 s =>
 oCp (.bool false) s fun t2_2 s =>
 k0 (upds e [(3,t3),(4,t4),(5,t5),(6,t6),(7,t7),(8,t8),(9,t9),(10,t10),(11,t11),(2,t2_2)]) s)
  (some (.tup [],s))
noncomputable def F236 (D:Den)(n:Nat)(t0 t1:AV)(s:Heap):Ans :=
 oCp (.bool true) s fun t2 s =>
 aLoop (F236_L0 D n) n (upds (argEnv [t0,t1]) [(2,t2)]) s
theorem F236_eq (n:Nat)(t0 t1:AV)(s:Heap):den C (n+1) 236 [t0,t1] s=F236 (den C n) n t0 t1 s :=
 (den_body rfl Tryz.func236 _ _).trans (by kernel_rfl)
theorem en236:enterable Tryz.prog 236=true:=by kernel_rfl
-- (*parser.parser).path 1 1
noncomputable def F237 (D:Den)(n:Nat)(t0 t1:AV)(s:Heap):Ans :=
 oL1 t0 s fun t2 s =>
 oCa D 166 [t2.strip] s fun t3 s =>
 oL1 t1 s fun t4 s =>
 oMv t4 s fun t5 s =>
 oGt t5 s (aLoad false false 1 t0 s) fun t6 s =>
 oGt t5 s (mp (aBuildSlice Tryz.prog 38 1 [(0,(.str [60]))]) s) fun t7 s =>
 oGt t5 s (aCall Tryz.prog D 106 [t6.strip,t7.strip] s) fun t8 s =>
 oPk t5 t8 (.bool false) s fun t9 s =>
 br t9
  (oL1 t0 s fun t10 s =>
 oL1 t0 s fun t11 s =>
 oCp (.fn 170 [t11] []) s fun t12 s =>
 oCa D 199 [t10.strip,(.str [62]),t12.strip] s fun t13 s =>
 some (.tup [],s))
  (some (.tup [],s))
theorem F237_eq (n:Nat)(t0 t1:AV)(s:Heap):den C (n+1) 237 [t0,t1] s=F237 (den C n) n t0 t1 s :=
 (den_body rfl Tryz.func237 _ _).trans (by kernel_rfl)
theorem en237:enterable Tryz.prog 237=true:=by kernel_rfl
-- (*parser.parser).unary
noncomputable def F238 (D:Den)(n:Nat)(t0:AV)(s:Heap):Ans :=
 oBx 93 t0 s fun t1 s =>
 oL1 t1 s fun t7 s =>
 oBs 38 3 [(0,(.str [45])),(1,(.str [33])),(2,(.str [42]))] s fun t8 s =>
 oCa D 100 [t7.strip,t8.strip] s fun t9 s =>
 oCp t9 s fun t6 s =>
 br t6
  (oL1 t1 s fun t10 s =>
 oCp (.fn 271 [] [t1]) s fun t11 s =>
 oCa D 104 [t10.strip,(.int .i64 40),t11.strip] s fun t12 s =>
 some (.tup [],s))
  (oL1 t1 s fun t14 s =>
 oBs 38 1 [(0,(.str [38]))] s fun t15 s =>
 oCa D 100 [t14.strip,t15.strip] s fun t16 s =>
 oCp t16 s fun t13 s =>
 br t13
  (oL1 t1 s fun t17 s =>
 oCp (.fn 272 [] [t1]) s fun t18 s =>
 oCa D 104 [t17.strip,(.int .i64 41),t18.strip] s fun t19 s =>
 some (.tup [],s))
  (oL1 t1 s fun t2 s =>
 oCa D 267 [t2.strip] s fun t3 s =>
 oL1 t1 s fun t4 s =>
 oCa D 273 [t4.strip] s fun t5 s =>
 some (.tup [],s)))
theorem F238_eq (n:Nat)(t0:AV)(s:Heap):den C (n+1) 238 [t0] s=F238 (den C n) n t0 s :=
 (den_body rfl Tryz.func238 _ _).trans (by kernel_rfl)
theorem en238:enterable Tryz.prog 238=true:=by kernel_rfl
-- parser.binaryOperators
noncomputable def F239 (D:Den)(n:Nat)(t0:AV)(s:Heap):Ans :=
 oCp .nils s fun t2 s =>
 oBs 38 1 [(0,(.str [124,124]))] s fun t3 s =>
 oBs 38 1 [(0,(.str [38,38]))] s fun t4 s =>
 oBs 38 2 [(0,(.str [61,61])),(1,(.str [60]))] s fun t5 s =>
 oBs 38 2 [(0,(.str [43])),(1,(.str [45]))] s fun t6 s =>
 oBs 38 2 [(0,(.str [42])),(1,(.str [47]))] s fun t7 s =>
 oBs 194 5 [(0,t3),(1,t4),(2,t5),(3,t6),(4,t7)] s fun t8 s =>
 oMv t0 s fun t9 s =>
 oIx 194 t8 t9 s fun t10 s =>
 oL1 t10 s fun t11 s =>
 oCp t11 s fun t2_2 s =>
 some (t2_2,s)
theorem F239_eq (n:Nat)(t0:AV)(s:Heap):den C (n+1) 239 [t0] s=F239 (den C n) n t0 s :=
 (den_body rfl Tryz.func239 _ _).trans (by kernel_rfl)
theorem en239:enterable Tryz.prog 239=true:=by kernel_rfl
-- (*parser.parser).wrap
noncomputable def F240 (D:Den)(n:Nat)(t0 t1 t2:AV)(s:Heap):Ans :=
 oMv t0 s fun t9 s =>
 oNc t9 s fun t10 s =>
 oAd 2 t10 s fun t11 s =>
 oL1 t11 s fun t12 s =>
 oMv t0 s fun t13 s =>
 oNc t13 s fun t14 s =>
 oAd 2 t14 s fun t15 s =>
 oL1 t15 s fun t16 s =>
 oLn 63 t16 s fun t17 s =>
 oBn .sub 3 t17 (.int .i64 1) s fun t18 s =>
 oIx 63 t12 t18 s fun t19 s =>
 oCp t19 s fun t6 s =>
 drawOK C 240 (regOps Tryz.f240 0) [.silent,.silent,.silent,(kLoad false t11),.silent,.silent,.silent,(kLoad false t15),.silent,.silent,.silent,.silent] <|
 oMv t6 s fun t20 s =>
 oNc t20 s fun t21 s =>
 oAd 2 t21 s fun t22 s =>
 oL1 t22 s fun t23 s =>
 oLn 63 t23 s fun t24 s =>
 oBn .sub 3 t24 (.int .i64 1) s fun t25 s =>
 oCp t25 s fun t7 s =>
 oMv t6 s fun t26 s =>
 oNc t26 s fun t27 s =>
 oAd 2 t27 s fun t28 s =>
 oL1 t28 s fun t29 s =>
 oMv t7 s fun t30 s =>
 oIx 63 t29 t30 s fun t31 s =>
 oLa 3 t31 s fun t32 s =>
 oAl 65 s fun t8 s =>
 oSr 3 s t8 t32 fun _r s =>
 oMv t6 s fun t33 s =>
 oMv t6 s fun t34 s =>
 oNc t34 s fun t35 s =>
 oAd 2 t35 s fun t36 s =>
 oL1 t36 s fun t37 s =>
 oMv t7 s fun t38 s =>oh (mp (aSl Tryz.prog 63 t37 none (some t38) none) s) fun t39 s =>
 oNc t33 s fun t40 s =>
 oAd 2 t40 s fun t41 s =>
 oSr 1 s t41 t39 fun _r s =>
 oMv t0 s fun t42 s1 =>
 oNc t42 s1 fun t43 s2 =>
 oAd 2 t43 s2 fun t44 s3 =>
 oL1 t44 s3 fun t45 s4 =>
 oMv t1 s4 fun t46 s5 =>
 oLa 3 t8 s5 fun t47 s6 =>oh (aRsBuild Tryz.prog 63 1 [(0,t47)] s6) fun t48 s7 =>
 oBd 65 [(0,t46),(2,t48)] s7 fun t49 s8 =>
 oLn 63 t45 s8 fun t50 s9 =>
 oBs 63 1 [(0,(.agg [(.int .i64 0),(.str []),.nils]))] s9 fun t51 s10 =>oh (aRsAppend Tryz.prog 63 63 t45 t51 s10) fun t52 s11 =>
 oIx 63 t52 t50 s11 fun t53 s12 =>
 oSr 3 s12 t53 t49 fun _r s13 =>
 oNc t42 s13 fun t54 s14 =>
 oAd 2 t54 s14 fun t55 s15 =>
 oSr 1 s15 t55 t52.strip fun _r s16 =>
 drawOK C 240 (regOps Tryz.f240 4) [.silent,.silent,.silent,(kLoad false t44),.silent,(kLoad false t8),.alloc,.silent,.silent,.silent,(dyn (appK t45) s10 s11),.silent,(kStore t53),.silent,.silent,(kStore t55)] <|
 oMv t2 s16 fun t56 s =>oh (aCallV Tryz.prog D t56 [] s) fun t57 s =>
 oMv t0 s fun t58 s =>
 oCa D 162 [t58.strip] s fun t59 s =>
 some (.tup [],s)
theorem F240_eq (n:Nat)(t0 t1 t2:AV)(s:Heap):den C (n+1) 240 [t0,t1,t2] s=F240 (den C n) n t0 t1 t2 s :=
 (den_body rfl Tryz.func240 _ _).trans (by kernel_rfl)
theorem d240_0 {g0 g1:Nat}(x:Ans):drawOK C 240 (regOps Tryz.f240 0) [.silent,.silent,.silent,.get g0,.silent,.silent,.silent,.get g1,.silent,.silent,.silent,.silent] x=x:=drawOK_base (by kernel_rfl)
theorem d240_4 {g0 g1:Nat}{q0:Option Nat}(a b:Nat)(h:a≠b)(x:Ans):drawOK C 240 (regOps Tryz.f240 4) [.silent,.silent,.silent,.get g0,.silent,.get g1,.alloc,.silent,.silent,.silent,.app q0,.silent,.put a,.silent,.silent,.put b] x=x:=drawOK_both (ks0:=[.silent,.silent,.silent,.reader,.silent,.reader,.alloc,.silent,.silent,.silent,.writer,.silent,.put 0,.silent,.silent,.put 1]) h (by kernel_rfl) rfl
theorem en240:enterable Tryz.prog 240=true:=by kernel_rfl
-- (*parser.parser).binary 1
noncomputable def F241 (D:Den)(n:Nat)(t0 t1:AV)(s:Heap):Ans :=
 oL1 t0 s fun t2 s =>
 oCa D 107 [t2.strip] s fun t3 s =>
 oL1 t0 s fun t4 s =>
 oL1 t1 s fun t5 s =>
 oBn .add 3 t5 (.int .i64 1) s fun t6 s =>
 oCa D 212 [t4.strip,t6.strip] s fun t7 s =>
 some (.tup [],s)
theorem F241_eq (n:Nat)(t0 t1:AV)(s:Heap):den C (n+1) 241 [t0,t1] s=F241 (den C n) n t0 t1 s :=
 (den_body rfl Tryz.func241 _ _).trans (by kernel_rfl)
theorem en241:enterable Tryz.prog 241=true:=by kernel_rfl
-- (*parser.parser).typeParam 1
noncomputable def F263_L1 (D:Den)(n:Nat)(k0:Env→Heap→Ans)(e:Env)(s:Heap):Ans :=
 oL1 (e 0) s fun t8 s =>
 oBs 38 1 [(0,(.str [43]))] s fun t9 s =>
 oCa D 106 [t8.strip,t9.strip] s fun t10 s =>
 br t10
  (oL1 (e 0) s fun t11 s =>
 oCa D 210 [t11.strip,(.bool true)] s fun t12 s =>
 k0 (upds e [(8,t8),(9,t9),(10,t10),(11,t11),(12,t12)]) s)
  (some (.tup [],s))
noncomputable def F263 (D:Den)(n:Nat)(t0:AV)(s:Heap):Ans :=
 oL1 t0 s fun t1 s =>
 oCa D 107 [t1.strip] s fun t2 s =>
 oL1 t0 s fun t3 s =>
 oBs 38 1 [(0,(.str [58]))] s fun t4 s =>
 oCa D 106 [t3.strip,t4.strip] s fun t5 s =>
 br t5
  (oL1 t0 s fun t6 s =>
 oCa D 210 [t6.strip,(.bool true)] s fun t7 s =>
 aLoop (F263_L1 D n) n (upds (argEnv [t0]) [(1,t1),(2,t2),(3,t3),(4,t4),(5,t5),(6,t6),(7,t7)]) s)
  (some (.tup [],s))
theorem F263_eq (n:Nat)(t0:AV)(s:Heap):den C (n+1) 263 [t0] s=F263 (den C n) n t0 s :=
 (den_body rfl Tryz.func263 _ _).trans (by kernel_rfl)
theorem en263:enterable Tryz.prog 263=true:=by kernel_rfl
-- (*parser.parser).let
noncomputable def F264 (D:Den)(n:Nat)(t0:AV)(s:Heap):Ans :=
 oMv t0 s fun t2 s =>
 oCa D 107 [t2.strip] s fun t3 s =>
 oMv t0 s fun t4 s =>
 oCa D 288 [t4.strip] s fun t5 s =>
 oMv t0 s fun t6 s =>
 oMv t0 s fun t7 s =>
 oCp (.fn 170 [t7] []) s fun t8 s =>
 oCa D 196 [t6.strip,(.str [58]),t8.strip] s fun t9 s =>
 oMv t0 s fun t10 s =>
 oCa D 169 [t10.strip,(.str [61])] s fun t11 s =>
 oMv t0 s fun t12 s =>
 oCa D 171 [t12.strip] s fun t13 s =>
 oMv t0 s fun t14 s =>
 oCa D 169 [t14.strip,(.str [59])] s fun t15 s =>
 some (.tup [],s)
theorem F264_eq (n:Nat)(t0:AV)(s:Heap):den C (n+1) 264 [t0] s=F264 (den C n) n t0 s :=
 (den_body rfl Tryz.func264 _ _).trans (by kernel_rfl)
theorem en264:enterable Tryz.prog 264=true:=by kernel_rfl
-- (*parser.parser).statement 1
noncomputable def F265 (D:Den)(n:Nat)(t0:AV)(s:Heap):Ans :=
 oL1 t0 s fun t1 s =>
 oCa D 107 [t1.strip] s fun t2 s =>
 oL1 t0 s fun t3 s =>
 oCa D 171 [t3.strip] s fun t4 s =>
 oL1 t0 s fun t5 s =>
 oCa D 198 [t5.strip] s fun t6 s =>
 some (.tup [],s)
theorem F265_eq (n:Nat)(t0:AV)(s:Heap):den C (n+1) 265 [t0] s=F265 (den C n) n t0 s :=
 (den_body rfl Tryz.func265 _ _).trans (by kernel_rfl)
theorem en265:enterable Tryz.prog 265=true:=by kernel_rfl
-- (*parser.parser).returnStmt
noncomputable def F266_J0 (D:Den)(n:Nat)(e:Env)(s:Heap):Ans :=
 oMv (e 0) s fun t11 s =>
 oCa D 169 [t11.strip,(.str [59])] s fun t12 s =>
 some (.tup [],s)
noncomputable def F266 (D:Den)(n:Nat)(t0:AV)(s:Heap):Ans :=
 oMv t0 s fun t2 s =>
 oCa D 107 [t2.strip] s fun t3 s =>
 oMv t0 s fun t4 s =>
 oBs 38 1 [(0,(.str [59]))] s fun t5 s =>
 oCa D 100 [t4.strip,t5.strip] s fun t6 s =>
 br t6
  (oMv t0 s fun t7 s =>
 oCa D 197 [t7.strip] s fun t8 s =>
 F266_J0 D n (upds (argEnv [t0]) [(2,t2),(3,t3),(4,t4),(5,t5),(6,t6),(7,t7),(8,t8)]) s)
  (oMv t0 s fun t9 s =>
 oCa D 171 [t9.strip] s fun t10 s =>
 F266_J0 D n (upds (argEnv [t0]) [(2,t2),(3,t3),(4,t4),(5,t5),(6,t6),(9,t9),(10,t10)]) s)
theorem F266_eq (n:Nat)(t0:AV)(s:Heap):den C (n+1) 266 [t0] s=F266 (den C n) n t0 s :=
 (den_body rfl Tryz.func266 _ _).trans (by kernel_rfl)
theorem en266:enterable Tryz.prog 266=true:=by kernel_rfl
-- (*parser.parser).primary
noncomputable def F267 (D:Den)(n:Nat)(t0:AV)(s:Heap):Ans :=
 oBx 93 t0 s fun t1 s =>
 oL1 t1 s fun t3 s =>
 oCa D 99 [t3.strip] s fun t4 s =>
 oAl 53 s fun t2 s =>
 oSr 2 s t2 t4 fun _r s =>
 oAd 0 t2 s fun t8 s =>
 oL1 t8 s fun t9 s =>
 oBn .eql 3 t9 (.int .i64 105) s fun t10 s =>
 oCp t10 s fun t7 s =>
 br t7
  (oL1 t1 s fun t11 s =>
 oL1 t1 s fun t12 s =>
 oCp (.fn 107 [t12] []) s fun t13 s =>
 oCa D 104 [t11.strip,(.int .i64 27),t13.strip] s fun t14 s =>
 some (.tup [],s))
  (oAd 0 t2 s fun t16 s =>
 oL1 t16 s fun t17 s =>
 oBn .eql 3 t17 (.int .i64 106) s fun t18 s =>
 oCp t18 s fun t15 s =>
 br t15
  (oL1 t1 s fun t19 s =>
 oL1 t1 s fun t20 s =>
 oCp (.fn 107 [t20] []) s fun t21 s =>
 oCa D 104 [t19.strip,(.int .i64 29),t21.strip] s fun t22 s =>
 some (.tup [],s))
  (oL1 t1 s fun t24 s =>
 oBs 38 2 [(0,(.str [116,114,117,101])),(1,(.str [102,97,108,115,101]))] s fun t25 s =>
 oCa D 100 [t24.strip,t25.strip] s fun t26 s =>
 oCp t26 s fun t23 s =>
 br t23
  (oL1 t1 s fun t27 s =>
 oL1 t1 s fun t28 s =>
 oCp (.fn 107 [t28] []) s fun t29 s =>
 oCa D 104 [t27.strip,(.int .i64 28),t29.strip] s fun t30 s =>
 some (.tup [],s))
  (oAd 0 t2 s fun t32 s =>
 oL1 t32 s fun t33 s =>
 oBn .eql 3 t33 (.int .i64 103) s fun t34 s =>
 oCp t34 s fun t31 s =>
 br t31
  (oL1 t1 s fun t35 s =>
 oCa D 210 [t35.strip,(.bool false)] s fun t36 s =>
 oL1 t1 s fun t37 s =>
 oBs 38 1 [(0,(.str [33]))] s fun t38 s =>
 oCa D 100 [t37.strip,t38.strip] s fun t39 s =>
 oMv t39 s fun t40 s =>
 oGt t40 s (aLoad false false 1 t1 s) fun t41 s =>
 oGt t40 s (aCall Tryz.prog D 101 [t41.strip] s) fun t42 s =>
 oGt t40 s (mp (aBuildSlice Tryz.prog 38 1 [(0,(.str [40]))]) s) fun t43 s =>
 oGt t40 s (aCall Tryz.prog D 100 [t42.strip,t43.strip] s) fun t44 s =>
 oPk t40 t44 (.bool false) s fun t45 s =>
 br t45
  (oL1 t1 s fun t46 s =>
 oCp (.fn 289 [] [t1]) s fun t47 s =>
 oCa D 240 [t46.strip,(.int .i64 42),t47.strip] s fun t48 s =>
 some (.tup [],s))
  (some (.tup [],s)))
  (oL1 t1 s fun t50 s =>
 oBs 38 1 [(0,(.str [40]))] s fun t51 s =>
 oCa D 100 [t50.strip,t51.strip] s fun t52 s =>
 oCp t52 s fun t49 s =>
 br t49
  (oL1 t1 s fun t53 s =>
 oCp (.fn 291 [] [t1]) s fun t54 s =>
 oCa D 104 [t53.strip,(.int .i64 60),t54.strip] s fun t55 s =>
 some (.tup [],s))
  (oL1 t1 s fun t57 s =>
 oBs 38 1 [(0,(.str [123]))] s fun t58 s =>
 oCa D 100 [t57.strip,t58.strip] s fun t59 s =>
 oCp t59 s fun t56 s =>
 br t56
  (oL1 t1 s fun t60 s =>
 oCa D 198 [t60.strip] s fun t61 s =>
 some (.tup [],s))
  (oL1 t1 s fun t63 s =>
 oBs 38 1 [(0,(.str [105,102]))] s fun t64 s =>
 oCa D 100 [t63.strip,t64.strip] s fun t65 s =>
 oCp t65 s fun t62 s =>
 br t62
  (oL1 t1 s fun t66 s =>
 oCa D 292 [t66.strip] s fun t67 s =>
 some (.tup [],s))
  (oL1 t1 s fun t69 s =>
 oBs 38 1 [(0,(.str [109,97,116,99,104]))] s fun t70 s =>
 oCa D 100 [t69.strip,t70.strip] s fun t71 s =>
 oCp t71 s fun t68 s =>
 br t68
  (oL1 t1 s fun t72 s =>
 oL1 t1 s fun t73 s =>
 oCp (.fn 293 [t73] []) s fun t74 s =>
 oCa D 104 [t72.strip,(.int .i64 35),t74.strip] s fun t75 s =>
 some (.tup [],s))
  (oL1 t1 s fun t77 s =>
 oBs 38 1 [(0,(.str [110,101,119]))] s fun t78 s =>
 oCa D 100 [t77.strip,t78.strip] s fun t79 s =>
 oCp t79 s fun t76 s =>
 br t76
  (oL1 t1 s fun t80 s =>
 oL1 t1 s fun t81 s =>
 oCp (.fn 294 [t81] []) s fun t82 s =>
 oCa D 104 [t80.strip,(.int .i64 33),t82.strip] s fun t83 s =>
 some (.tup [],s))
  (oL1 t1 s fun t85 s =>
 oBs 38 2 [(0,(.str [124])),(1,(.str [124,124]))] s fun t86 s =>
 oCa D 100 [t85.strip,t86.strip] s fun t87 s =>
 oCp t87 s fun t84 s =>
 br t84
  (oL1 t1 s fun t88 s =>
 oL1 t1 s fun t89 s =>
 oCp (.fn 295 [t89] []) s fun t90 s =>
 oCa D 104 [t88.strip,(.int .i64 38),t90.strip] s fun t91 s =>
 some (.tup [],s))
  (oL1 t1 s fun t5 s =>
 oCa D 211 [t5.strip] s fun t6 s =>
 some (.tup [],s)))))))))))
theorem F267_eq (n:Nat)(t0:AV)(s:Heap):den C (n+1) 267 [t0] s=F267 (den C n) n t0 s :=
 (den_body rfl Tryz.func267 _ _).trans (by kernel_rfl)
theorem en267:enterable Tryz.prog 267=true:=by kernel_rfl
-- (*parser.parser).statement 2
noncomputable def F268 (D:Den)(n:Nat)(t0:AV)(s:Heap):Ans :=
 oL1 t0 s fun t1 s =>
 oCa D 107 [t1.strip] s fun t2 s =>
 oL1 t0 s fun t3 s =>
 oCa D 171 [t3.strip] s fun t4 s =>
 oL1 t0 s fun t5 s =>
 oCa D 169 [t5.strip,(.str [59])] s fun t6 s =>
 some (.tup [],s)
theorem F268_eq (n:Nat)(t0:AV)(s:Heap):den C (n+1) 268 [t0] s=F268 (den C n) n t0 s :=
 (den_body rfl Tryz.func268 _ _).trans (by kernel_rfl)
theorem en268:enterable Tryz.prog 268=true:=by kernel_rfl
-- (*parser.parser).statement 3
noncomputable def F269 (D:Den)(n:Nat)(t0 t1:AV)(s:Heap):Ans :=
 oL1 t0 s fun t2 s =>
 oBs 38 1 [(0,(.str [59]))] s fun t3 s =>
 oCa D 106 [t2.strip,t3.strip] s fun t4 s =>oh (mp (aUn .not t4) s) fun t5 s =>
 oMv t5 s fun t6 s =>
 oGt t6 s (aLoad false false 1 t1 s) fun t7 s =>
 oGt t6 s (mp (aUn .not t7) s) fun t8 s =>
 oPk t6 t8 (.bool false) s fun t9 s =>
 br t9
  (oL1 t0 s fun t10 s =>
 oCa D 204 [t10.strip] s fun t11 s =>
 some (.tup [],s))
  (some (.tup [],s))
theorem F269_eq (n:Nat)(t0 t1:AV)(s:Heap):den C (n+1) 269 [t0,t1] s=F269 (den C n) n t0 t1 s :=
 (den_body rfl Tryz.func269 _ _).trans (by kernel_rfl)
theorem en269:enterable Tryz.prog 269=true:=by kernel_rfl
-- (*parser.parser).unary 1
noncomputable def F271 (D:Den)(n:Nat)(t0:AV)(s:Heap):Ans :=
 oL1 t0 s fun t1 s =>
 oCa D 107 [t1.strip] s fun t2 s =>
 oL1 t0 s fun t3 s =>
 oCa D 238 [t3.strip] s fun t4 s =>
 some (.tup [],s)
theorem F271_eq (n:Nat)(t0:AV)(s:Heap):den C (n+1) 271 [t0] s=F271 (den C n) n t0 s :=
 (den_body rfl Tryz.func271 _ _).trans (by kernel_rfl)
theorem en271:enterable Tryz.prog 271=true:=by kernel_rfl
-- (*parser.parser).unary 2
noncomputable def F272 (D:Den)(n:Nat)(t0:AV)(s:Heap):Ans :=
 oL1 t0 s fun t1 s =>
 oCa D 107 [t1.strip] s fun t2 s =>
 oL1 t0 s fun t3 s =>
 oBs 38 1 [(0,(.str [109,117,116]))] s fun t4 s =>
 oCa D 106 [t3.strip,t4.strip] s fun t5 s =>
 oL1 t0 s fun t6 s =>
 oCa D 238 [t6.strip] s fun t7 s =>
 some (.tup [],s)
theorem F272_eq (n:Nat)(t0:AV)(s:Heap):den C (n+1) 272 [t0] s=F272 (den C n) n t0 s :=
 (den_body rfl Tryz.func272 _ _).trans (by kernel_rfl)
theorem en272:enterable Tryz.prog 272=true:=by kernel_rfl
-- (*parser.parser).postfix
noncomputable def F273_L0 (D:Den)(n:Nat)(k0:Env→Heap→Ans)(e:Env)(s:Heap):Ans :=
 oL1 (e 1) s fun t3 s =>
 oBs 38 2 [(0,(.str [40])),(1,(.str [46]))] s fun t4 s =>
 oCa D 100 [t3.strip,t4.strip] s fun t5 s =>
 br t5
  (oL1 (e 1) s fun t6 s =>
 oBs 38 1 [(0,(.str [40]))] s fun t7 s =>
 oCa D 100 [t6.strip,t7.strip] s fun t8 s =>
 br t8
  (oL1 (e 1) s fun t9 s =>
 oL1 (e 1) s fun t10 s =>
 oCp (.fn 290 [t10] []) s fun t11 s =>
 oCa D 240 [t9.strip,(.int .i64 30),t11.strip] s fun t12 s =>
 k0 (upds e [(3,t3),(4,t4),(5,t5),(6,t6),(7,t7),(8,t8),(9,t9),(10,t10),(11,t11),(12,t12)]) s)
  (oL1 (e 1) s fun t13 s =>
 oCa D 101 [t13.strip] s fun t14 s =>
 oCp t14 s fun t2 s =>
 oMv t2 s fun t15 s =>
 oCa D 201 [t15.strip] s fun t16 s =>
 oMv t16 s fun t17 s =>
 oGt t17 s (some (t2.strip,s)) fun t18 s =>
 oGt t17 s (aCall Tryz.prog D 101 [t18.strip] s) fun t19 s =>
 oGt t17 s (mp (aBuildSlice Tryz.prog 38 1 [(0,(.str [40]))]) s) fun t20 s =>
 oGt t17 s (aCall Tryz.prog D 100 [t19.strip,t20.strip] s) fun t21 s =>
 oPk t17 t21 (.bool false) s fun t22 s =>
 br t22
  (oL1 (e 1) s fun t23 s =>
 oCp (.fn 297 [] [(e 1)]) s fun t24 s =>
 oCa D 240 [t23.strip,(.int .i64 31),t24.strip] s fun t25 s =>
 k0 (upds e [(3,t3),(4,t4),(5,t5),(6,t6),(7,t7),(8,t8),(13,t13),(14,t14),(14,t14.strip),(2,t2),(15,t15),(16,t16),(17,t17),(18,t18),(19,t19),(20,t20),(21,t21),(22,t22),(23,t23),(24,t24),(25,t25)]) s)
  (oL1 (e 1) s fun t26 s =>
 oCp (.fn 298 [] [(e 1)]) s fun t27 s =>
 oCa D 240 [t26.strip,(.int .i64 32),t27.strip] s fun t28 s =>
 k0 (upds e [(3,t3),(4,t4),(5,t5),(6,t6),(7,t7),(8,t8),(13,t13),(14,t14),(14,t14.strip),(2,t2),(15,t15),(16,t16),(17,t17),(18,t18),(19,t19),(20,t20),(21,t21),(22,t22),(26,t26),(27,t27),(28,t28)]) s)))
  (some (.tup [],s))
noncomputable def F273 (D:Den)(n:Nat)(t0:AV)(s:Heap):Ans :=
 oBx 93 t0 s fun t1 s =>
 aLoop (F273_L0 D n) n (upds (argEnv [t0]) [(1,t1)]) s
theorem F273_eq (n:Nat)(t0:AV)(s:Heap):den C (n+1) 273 [t0] s=F273 (den C n) n t0 s :=
 (den_body rfl Tryz.func273 _ _).trans (by kernel_rfl)
theorem en273:enterable Tryz.prog 273=true:=by kernel_rfl
-- (*parser.parser).pattern
noncomputable def F288 (D:Den)(n:Nat)(t0:AV)(s:Heap):Ans :=
 oBx 93 t0 s fun t1 s =>
 oL1 t1 s fun t3 s =>
 oCa D 99 [t3.strip] s fun t4 s =>
 oAl 53 s fun t2 s =>
 oSr 2 s t2 t4 fun _r s =>
 oL1 t1 s fun t8 s =>
 oBs 38 1 [(0,(.str [109,117,116]))] s fun t9 s =>
 oCa D 100 [t8.strip,t9.strip] s fun t10 s =>
 oCp t10 s fun t7 s =>
 br t7
  (oL1 t1 s fun t11 s =>
 oCp (.fn 303 [] [t1]) s fun t12 s =>
 oCa D 104 [t11.strip,(.int .i64 44),t12.strip] s fun t13 s =>
 some (.tup [],s))
  (oL1 t1 s fun t15 s =>
 oCa D 201 [t15.strip] s fun t16 s =>
 oMv t16 s fun t17 s =>
 oGt t17 s (mp (aAddr 1 t2) s) fun t18 s =>
 oGt t17 s (aLoad false false 1 t18 s) fun t19 s =>
 oGt t17 s (mp (aBin Tryz.prog .eql 9 t19 (.str [95])) s) fun t20 s =>
 oPk t17 t20 (.bool false) s fun t21 s =>
 oCp t21 s fun t14 s =>
 br t14
  (oL1 t1 s fun t22 s =>
 oL1 t1 s fun t23 s =>
 oCp (.fn 107 [t23] []) s fun t24 s =>
 oCa D 104 [t22.strip,(.int .i64 43),t24.strip] s fun t25 s =>
 some (.tup [],s))
  (oL1 t1 s fun t27 s =>
 oCa D 201 [t27.strip] s fun t28 s =>
 oMv t28 s fun t29 s =>
 oGt t29 s (aLoad false false 1 t1 s) fun t30 s =>
 oGt t29 s (aCall Tryz.prog D 101 [t30.strip] s) fun t31 s =>
 oGt t29 s (mp (aBuildSlice Tryz.prog 38 2 [(0,(.str [40])),(1,(.str [58,58]))]) s) fun t32 s =>
 oGt t29 s (aCall Tryz.prog D 100 [t31.strip,t32.strip] s) fun t33 s =>
 oGt t29 s (mp (aUn .not t33) s) fun t34 s =>
 oPk t29 t34 (.bool false) s fun t35 s =>
 oCp t35 s fun t26 s =>
 br t26
  (oL1 t1 s fun t36 s =>
 oL1 t1 s fun t37 s =>
 oCp (.fn 107 [t37] []) s fun t38 s =>
 oCa D 104 [t36.strip,(.int .i64 44),t38.strip] s fun t39 s =>
 some (.tup [],s))
  (oL1 t1 s fun t41 s =>
 oCa D 201 [t41.strip] s fun t42 s =>
 oCp t42 s fun t40 s =>
 br t40
  (oL1 t1 s fun t43 s =>
 oCp (.fn 304 [] [t1]) s fun t44 s =>
 oCa D 104 [t43.strip,(.int .i64 45),t44.strip] s fun t45 s =>
 some (.tup [],s))
  (oAd 0 t2 s fun t47 s =>
 oL1 t47 s fun t48 s =>
 oBn .eql 3 t48 (.int .i64 105) s fun t49 s =>
 oCp t49 s fun t46 s =>
 br t46
  (oL1 t1 s fun t50 s =>
 oL1 t1 s fun t51 s =>
 oCp (.fn 107 [t51] []) s fun t52 s =>
 oCa D 104 [t50.strip,(.int .i64 27),t52.strip] s fun t53 s =>
 some (.tup [],s))
  (oL1 t1 s fun t55 s =>
 oBs 38 2 [(0,(.str [116,114,117,101])),(1,(.str [102,97,108,115,101]))] s fun t56 s =>
 oCa D 100 [t55.strip,t56.strip] s fun t57 s =>
 oCp t57 s fun t54 s =>
 br t54
  (oL1 t1 s fun t58 s =>
 oL1 t1 s fun t59 s =>
 oCp (.fn 107 [t59] []) s fun t60 s =>
 oCa D 104 [t58.strip,(.int .i64 28),t60.strip] s fun t61 s =>
 some (.tup [],s))
  (oL1 t1 s fun t5 s =>
 oCa D 211 [t5.strip] s fun t6 s =>
 some (.tup [],s)))))))
theorem F288_eq (n:Nat)(t0:AV)(s:Heap):den C (n+1) 288 [t0] s=F288 (den C n) n t0 s :=
 (den_body rfl Tryz.func288 _ _).trans (by kernel_rfl)
theorem en288:enterable Tryz.prog 288=true:=by kernel_rfl
-- (*parser.parser).primary 1
noncomputable def F289 (D:Den)(n:Nat)(t0:AV)(s:Heap):Ans :=
 oL1 t0 s fun t1 s =>
 oCa D 107 [t1.strip] s fun t2 s =>
 oL1 t0 s fun t3 s =>
 oCa D 290 [t3.strip] s fun t4 s =>
 some (.tup [],s)
theorem F289_eq (n:Nat)(t0:AV)(s:Heap):den C (n+1) 289 [t0] s=F289 (den C n) n t0 s :=
 (den_body rfl Tryz.func289 _ _).trans (by kernel_rfl)
theorem en289:enterable Tryz.prog 289=true:=by kernel_rfl
-- (*parser.parser).arguments
noncomputable def F290 (D:Den)(n:Nat)(t0:AV)(s:Heap):Ans :=
 oMv t0 s fun t2 s =>
 oCa D 107 [t2.strip] s fun t3 s =>
 oMv t0 s fun t4 s =>
 oMv t0 s fun t5 s =>
 oCp (.fn 171 [t5] []) s fun t6 s =>
 oCa D 199 [t4.strip,(.str [41]),t6.strip] s fun t7 s =>
 some (.tup [],s)
theorem F290_eq (n:Nat)(t0:AV)(s:Heap):den C (n+1) 290 [t0] s=F290 (den C n) n t0 s :=
 (den_body rfl Tryz.func290 _ _).trans (by kernel_rfl)
theorem en290:enterable Tryz.prog 290=true:=by kernel_rfl
-- (*parser.parser).primary 2
noncomputable def F291 (D:Den)(n:Nat)(t0:AV)(s:Heap):Ans :=
 oL1 t0 s fun t1 s =>
 oCa D 107 [t1.strip] s fun t2 s =>
 oL1 t0 s fun t3 s =>
 oCa D 171 [t3.strip] s fun t4 s =>
 oL1 t0 s fun t5 s =>
 oCa D 169 [t5.strip,(.str [41])] s fun t6 s =>
 some (.tup [],s)
theorem F291_eq (n:Nat)(t0:AV)(s:Heap):den C (n+1) 291 [t0] s=F291 (den C n) n t0 s :=
 (den_body rfl Tryz.func291 _ _).trans (by kernel_rfl)
theorem en291:enterable Tryz.prog 291=true:=by kernel_rfl
-- (*parser.parser).ifExpr
noncomputable def F292 (D:Den)(n:Nat)(t0:AV)(s:Heap):Ans :=
 oBx 93 t0 s fun t1 s =>
 oL1 t1 s fun t2 s =>
 oCp (.fn 305 [] [t1]) s fun t3 s =>
 oCa D 104 [t2.strip,(.int .i64 37),t3.strip] s fun t4 s =>
 some (.tup [],s)
theorem F292_eq (n:Nat)(t0:AV)(s:Heap):den C (n+1) 292 [t0] s=F292 (den C n) n t0 s :=
 (den_body rfl Tryz.func292 _ _).trans (by kernel_rfl)
theorem en292:enterable Tryz.prog 292=true:=by kernel_rfl
-- (*parser.parser).match
noncomputable def F293 (D:Den)(n:Nat)(t0:AV)(s:Heap):Ans :=
 oBx 93 t0 s fun t1 s =>
 oL1 t1 s fun t2 s =>
 oCa D 107 [t2.strip] s fun t3 s =>
 oL1 t1 s fun t4 s =>
 oCa D 171 [t4.strip] s fun t5 s =>
 oL1 t1 s fun t6 s =>
 oCa D 169 [t6.strip,(.str [123])] s fun t7 s =>
 oL1 t1 s fun t8 s =>
 oCp (.fn 307 [] [t1]) s fun t9 s =>
 oCa D 199 [t8.strip,(.str [125]),t9.strip] s fun t10 s =>
 some (.tup [],s)
theorem F293_eq (n:Nat)(t0:AV)(s:Heap):den C (n+1) 293 [t0] s=F293 (den C n) n t0 s :=
 (den_body rfl Tryz.func293 _ _).trans (by kernel_rfl)
theorem en293:enterable Tryz.prog 293=true:=by kernel_rfl
-- (*parser.parser).structLit
noncomputable def F294 (D:Den)(n:Nat)(t0:AV)(s:Heap):Ans :=
 oBx 93 t0 s fun t1 s =>
 oL1 t1 s fun t2 s =>
 oCa D 107 [t2.strip] s fun t3 s =>
 oL1 t1 s fun t4 s =>
 oCa D 210 [t4.strip,(.bool false)] s fun t5 s =>
 oL1 t1 s fun t6 s =>
 oCa D 169 [t6.strip,(.str [123])] s fun t7 s =>
 oL1 t1 s fun t8 s =>
 oCp (.fn 310 [] [t1]) s fun t9 s =>
 oCa D 199 [t8.strip,(.str [125]),t9.strip] s fun t10 s =>
 some (.tup [],s)
theorem F294_eq (n:Nat)(t0:AV)(s:Heap):den C (n+1) 294 [t0] s=F294 (den C n) n t0 s :=
 (den_body rfl Tryz.func294 _ _).trans (by kernel_rfl)
theorem en294:enterable Tryz.prog 294=true:=by kernel_rfl
-- (*parser.parser).lambda
noncomputable def F295_J0 (D:Den)(n:Nat)(e:Env)(s:Heap):Ans :=
 oMv (e 0) s fun t13 s =>
 oCa D 171 [t13.strip] s fun t14 s =>
 some (.tup [],s)
noncomputable def F295 (D:Den)(n:Nat)(t0:AV)(s:Heap):Ans :=
 oMv t0 s fun t2 s =>
 oBs 38 1 [(0,(.str [124,124]))] s fun t3 s =>
 oCa D 100 [t2.strip,t3.strip] s fun t4 s =>
 br t4
  (oMv t0 s fun t5 s =>
 oCa D 107 [t5.strip] s fun t6 s =>
 oMv t0 s fun t7 s =>
 oCa D 104 [t7.strip,(.int .i64 12),(.fn 312 [] [])] s fun t8 s =>
 F295_J0 D n (upds (argEnv [t0]) [(2,t2),(3,t3),(4,t4),(5,t5),(6,t6),(7,t7),(8,t8)]) s)
  (oMv t0 s fun t9 s =>
 oCa D 107 [t9.strip] s fun t10 s =>
 oMv t0 s fun t11 s =>
 oCa D 172 [t11.strip,(.str [124])] s fun t12 s =>
 F295_J0 D n (upds (argEnv [t0]) [(2,t2),(3,t3),(4,t4),(9,t9),(10,t10),(11,t11),(12,t12)]) s)
theorem F295_eq (n:Nat)(t0:AV)(s:Heap):den C (n+1) 295 [t0] s=F295 (den C n) n t0 s :=
 (den_body rfl Tryz.func295 _ _).trans (by kernel_rfl)
theorem en295:enterable Tryz.prog 295=true:=by kernel_rfl
-- (*parser.parser).postfix 1
noncomputable def F297 (D:Den)(n:Nat)(t0:AV)(s:Heap):Ans :=
 oL1 t0 s fun t1 s =>
 oCa D 107 [t1.strip] s fun t2 s =>
 oL1 t0 s fun t3 s =>
 oCa D 107 [t3.strip] s fun t4 s =>
 oL1 t0 s fun t5 s =>
 oCa D 290 [t5.strip] s fun t6 s =>
 some (.tup [],s)
theorem F297_eq (n:Nat)(t0:AV)(s:Heap):den C (n+1) 297 [t0] s=F297 (den C n) n t0 s :=
 (den_body rfl Tryz.func297 _ _).trans (by kernel_rfl)
theorem en297:enterable Tryz.prog 297=true:=by kernel_rfl
-- (*parser.parser).postfix 2
noncomputable def F298 (D:Den)(n:Nat)(t0:AV)(s:Heap):Ans :=
 oL1 t0 s fun t1 s =>
 oCa D 107 [t1.strip] s fun t2 s =>
 oL1 t0 s fun t3 s =>
 oCa D 166 [t3.strip] s fun t4 s =>
 some (.tup [],s)
theorem F298_eq (n:Nat)(t0:AV)(s:Heap):den C (n+1) 298 [t0] s=F298 (den C n) n t0 s :=
 (den_body rfl Tryz.func298 _ _).trans (by kernel_rfl)
theorem en298:enterable Tryz.prog 298=true:=by kernel_rfl
-- (*parser.parser).pattern 1
noncomputable def F303 (D:Den)(n:Nat)(t0:AV)(s:Heap):Ans :=
 oL1 t0 s fun t1 s =>
 oCa D 107 [t1.strip] s fun t2 s =>
 oL1 t0 s fun t3 s =>
 oCa D 166 [t3.strip] s fun t4 s =>
 some (.tup [],s)
theorem F303_eq (n:Nat)(t0:AV)(s:Heap):den C (n+1) 303 [t0] s=F303 (den C n) n t0 s :=
 (den_body rfl Tryz.func303 _ _).trans (by kernel_rfl)
theorem en303:enterable Tryz.prog 303=true:=by kernel_rfl
-- (*parser.parser).pattern 2
noncomputable def F304 (D:Den)(n:Nat)(t0:AV)(s:Heap):Ans :=
 oL1 t0 s fun t1 s =>
 oCa D 210 [t1.strip,(.bool false)] s fun t2 s =>
 oL1 t0 s fun t3 s =>
 oBs 38 1 [(0,(.str [40]))] s fun t4 s =>
 oCa D 106 [t3.strip,t4.strip] s fun t5 s =>
 br t5
  (oL1 t0 s fun t6 s =>
 oL1 t0 s fun t7 s =>
 oCp (.fn 288 [t7] []) s fun t8 s =>
 oCa D 199 [t6.strip,(.str [41]),t8.strip] s fun t9 s =>
 some (.tup [],s))
  (some (.tup [],s))
theorem F304_eq (n:Nat)(t0:AV)(s:Heap):den C (n+1) 304 [t0] s=F304 (den C n) n t0 s :=
 (den_body rfl Tryz.func304 _ _).trans (by kernel_rfl)
theorem en304:enterable Tryz.prog 304=true:=by kernel_rfl
-- (*parser.parser).ifExpr 1
noncomputable def F305 (D:Den)(n:Nat)(t0:AV)(s:Heap):Ans :=
 oL1 t0 s fun t1 s =>
 oCa D 107 [t1.strip] s fun t2 s =>
 oL1 t0 s fun t3 s =>
 oCa D 171 [t3.strip] s fun t4 s =>
 oL1 t0 s fun t5 s =>
 oCa D 198 [t5.strip] s fun t6 s =>
 oL1 t0 s fun t7 s =>
 oCp (.fn 306 [] [t0]) s fun t8 s =>
 oCa D 196 [t7.strip,(.str [101,108,115,101]),t8.strip] s fun t9 s =>
 some (.tup [],s)
theorem F305_eq (n:Nat)(t0:AV)(s:Heap):den C (n+1) 305 [t0] s=F305 (den C n) n t0 s :=
 (den_body rfl Tryz.func305 _ _).trans (by kernel_rfl)
theorem en305:enterable Tryz.prog 305=true:=by kernel_rfl
-- (*parser.parser).ifExpr 1 1
noncomputable def F306 (D:Den)(n:Nat)(t0:AV)(s:Heap):Ans :=
 oL1 t0 s fun t1 s =>
 oBs 38 1 [(0,(.str [105,102]))] s fun t2 s =>
 oCa D 100 [t1.strip,t2.strip] s fun t3 s =>
 br t3
  (oL1 t0 s fun t4 s =>
 oCa D 292 [t4.strip] s fun t5 s =>
 some (.tup [],s))
  (oL1 t0 s fun t6 s =>
 oCa D 198 [t6.strip] s fun t7 s =>
 some (.tup [],s))
theorem F306_eq (n:Nat)(t0:AV)(s:Heap):den C (n+1) 306 [t0] s=F306 (den C n) n t0 s :=
 (den_body rfl Tryz.func306 _ _).trans (by kernel_rfl)
theorem en306:enterable Tryz.prog 306=true:=by kernel_rfl
-- (*parser.parser).match 1
noncomputable def F307 (D:Den)(n:Nat)(t0:AV)(s:Heap):Ans :=
 oL1 t0 s fun t1 s =>
 oCa D 308 [t1.strip] s fun t2 s =>
 br t2
  (oL1 t0 s fun t3 s =>
 oCp (.fn 309 [] [t0]) s fun t4 s =>
 oCa D 104 [t3.strip,(.int .i64 36),t4.strip] s fun t5 s =>
 some (.tup [],s))
  (some (.tup [],s))
theorem F307_eq (n:Nat)(t0:AV)(s:Heap):den C (n+1) 307 [t0] s=F307 (den C n) n t0 s :=
 (den_body rfl Tryz.func307 _ _).trans (by kernel_rfl)
theorem en307:enterable Tryz.prog 307=true:=by kernel_rfl
-- (*parser.parser).atPattern
noncomputable def F308 (D:Den)(n:Nat)(t0:AV)(s:Heap):Ans :=
 oCp (.bool false) s fun t2 s =>
 oMv t0 s fun t3 s =>
 oCa D 201 [t3.strip] s fun t4 s =>
 oMv t4 s fun t5 s =>
 oGf t5 s (some (t0.strip,s)) fun t6 s =>
 oGf t5 s (aCall Tryz.prog D 99 [t6.strip] s) fun t7 s =>
 oGf t5 s (mp (aField Tryz.prog 53 0 t7) s) fun t8 s =>
 oGf t5 s (mp (aBin Tryz.prog .eql 3 t8 (.int .i64 105)) s) fun t9 s =>
 oPk t5 (.bool true) t9 s fun t10 s =>
 oMv t10 s fun t11 s =>
 oGf t11 s (some (t0.strip,s)) fun t12 s =>
 oGf t11 s (mp (aBuildSlice Tryz.prog 38 3 [(0,(.str [116,114,117,101])),(1,(.str [102,97,108,115,101])),(2,(.str [109,117,116]))]) s) fun t13 s =>
 oGf t11 s (aCall Tryz.prog D 100 [t12.strip,t13.strip] s) fun t14 s =>
 oPk t11 (.bool true) t14 s fun t15 s =>
 oCp t15 s fun t2_2 s =>
 some (t2_2,s)
theorem F308_eq (n:Nat)(t0:AV)(s:Heap):den C (n+1) 308 [t0] s=F308 (den C n) n t0 s :=
 (den_body rfl Tryz.func308 _ _).trans (by kernel_rfl)
theorem en308:enterable Tryz.prog 308=true:=by kernel_rfl
-- (*parser.parser).match 1 1
noncomputable def F309 (D:Den)(n:Nat)(t0:AV)(s:Heap):Ans :=
 oL1 t0 s fun t1 s =>
 oCa D 288 [t1.strip] s fun t2 s =>
 oL1 t0 s fun t3 s =>
 oCa D 169 [t3.strip,(.str [61,62])] s fun t4 s =>
 oL1 t0 s fun t5 s =>
 oCa D 171 [t5.strip] s fun t6 s =>
 some (.tup [],s)
theorem F309_eq (n:Nat)(t0:AV)(s:Heap):den C (n+1) 309 [t0] s=F309 (den C n) n t0 s :=
 (den_body rfl Tryz.func309 _ _).trans (by kernel_rfl)
theorem en309:enterable Tryz.prog 309=true:=by kernel_rfl
-- (*parser.parser).structLit 1
noncomputable def F310 (D:Den)(n:Nat)(t0:AV)(s:Heap):Ans :=
 oL1 t0 s fun t1 s =>
 oCa D 201 [t1.strip] s fun t2 s =>
 br t2
  (oL1 t0 s fun t3 s =>
 oCp (.fn 311 [] [t0]) s fun t4 s =>
 oCa D 104 [t3.strip,(.int .i64 34),t4.strip] s fun t5 s =>
 some (.tup [],s))
  (some (.tup [],s))
theorem F310_eq (n:Nat)(t0:AV)(s:Heap):den C (n+1) 310 [t0] s=F310 (den C n) n t0 s :=
 (den_body rfl Tryz.func310 _ _).trans (by kernel_rfl)
theorem en310:enterable Tryz.prog 310=true:=by kernel_rfl
-- (*parser.parser).structLit 1 1
noncomputable def F311 (D:Den)(n:Nat)(t0:AV)(s:Heap):Ans :=
 oL1 t0 s fun t1 s =>
 oCa D 107 [t1.strip] s fun t2 s =>
 oL1 t0 s fun t3 s =>
 oCa D 169 [t3.strip,(.str [58])] s fun t4 s =>
 oL1 t0 s fun t5 s =>
 oCa D 171 [t5.strip] s fun t6 s =>
 some (.tup [],s)
theorem F311_eq (n:Nat)(t0:AV)(s:Heap):den C (n+1) 311 [t0] s=F311 (den C n) n t0 s :=
 (den_body rfl Tryz.func311 _ _).trans (by kernel_rfl)
theorem en311:enterable Tryz.prog 311=true:=by kernel_rfl
-- (*parser.parser).lambda 1
noncomputable def F312 (D:Den)(n:Nat)(s:Heap):Ans :=
 some (.tup [],s)
theorem F312_eq (n:Nat)(s:Heap):den C (n+1) 312 [] s=F312 (den C n) n s :=
 (den_body rfl Tryz.func312 _ _).trans (by kernel_rfl)
theorem en312:enterable Tryz.prog 312=true:=by kernel_rfl
-- slices.Contains   string,string
noncomputable def F67 (D:Den)(n:Nat)(t0 t1:AV)(s:Heap):Ans :=
 oCp (.bool false) s fun t4 s =>
 oMv t0 s fun t5 s =>
 oMv t1 s fun t6 s =>
 oCa D 129 [t5.strip,t6.strip] s fun t7 s =>
 oBn .geq 3 t7 (.int .i64 0) s fun t8 s =>
 oCp t8 s fun t4_2 s =>
 some (t4_2,s)
theorem F67_eq (n:Nat)(t0 t1:AV)(s:Heap):den C (n+1) 67 [t0,t1] s=F67 (den C n) n t0 t1 s :=
 (den_body rfl Tryz.func67 _ _).trans (by kernel_rfl)
theorem en67:enterable Tryz.prog 67=true:=by kernel_rfl
-- slices.Index   string,string
noncomputable def F129_L0 (D:Den)(n:Nat)(k0:Env→Heap→Ans)(e:Env)(s:Heap):Ans :=
 oBn .lss 3 (e 8) (e 7) s fun t9 s =>
 br t9
  (oMv (e 8) s fun t10 s =>
 oCp t10 s fun t5 s =>
 oMv (e 1) s fun t11 s =>
 oMv (e 0) s fun t12 s =>
 oMv t5 s fun t13 s =>
 oIx 38 t12 t13 s fun t14 s =>
 oL1 t14 s fun t15 s =>
 oBn .eql 9 t11 t15 s fun t16 s =>
 br t16
  (oMv t5 s fun t17 s =>
 oCp t17 s fun t4_2 s =>
 some (t4_2,s))
  (oBn .add 3 (e 8) (.int .i64 1) s fun t18 s =>
 oMv t18 s fun t8_2 s =>
 k0 (upds e [(9,t9),(10,t10),(10,t10.strip),(5,t5),(11,t11),(12,t12),(13,t13),(14,t14),(15,t15),(16,t16),(18,t18),(8,t8_2)]) s))
  (oCp (.int .i64 (-1)) s fun t4_3 s =>
 some (t4_3,s))
noncomputable def F129 (D:Den)(n:Nat)(t0 t1:AV)(s:Heap):Ans :=
 oCp (.int .i64 0) s fun t4 s =>
 oMv t0 s fun t6 s =>
 oLn 38 t6 s fun t7 s =>
 oCp (.int .i64 0) s fun t8 s =>
 aLoop (F129_L0 D n) n (upds (argEnv [t0,t1]) [(4,t4),(6,t6),(7,t7),(8,t8)]) s
theorem F129_eq (n:Nat)(t0 t1:AV)(s:Heap):den C (n+1) 129 [t0,t1] s=F129 (den C n) n t0 t1 s :=
 (den_body rfl Tryz.func129 _ _).trans (by kernel_rfl)
theorem en129:enterable Tryz.prog 129=true:=by kernel_rfl
-- (*strings.Builder).WriteString
noncomputable def F80 (D:Den)(n:Nat)(t0 t1:AV)(s:Heap):Ans :=
 oCp (.int .i64 0) s fun t4 s =>
 oCp .nili s fun t5 s =>
 oMv t0 s fun t6 s =>
 oCa D 144 [t6.strip] s fun t7 s =>
 oMv t0 s fun t8 s =>
 oMv t0 s fun t9 s =>
 oNc t9 s fun t10 s =>
 oAd 1 t10 s fun t11 s =>oh (aLoad true false 1 t11 s) fun t12 s =>
 oMv t1 s fun t13 s =>oh (mp (aAppend Tryz.prog 111 9 t12 t13) s) fun t14 s =>
 oNc t8 s fun t15 s =>
 oAd 1 t15 s fun t16 s =>
 oSr 1 s t16 t14 fun _r s =>
 oMv t1 s fun t17 s =>
 oLn 9 t17 s fun t18 s =>
 oCp t18 s fun t4_2 s =>
 oCp .nili s fun t5_2 s =>
 some (.tup [t4_2,t5_2],s)
theorem F80_eq (n:Nat)(t0 t1:AV)(s:Heap):den C (n+1) 80 [t0,t1] s=F80 (den C n) n t0 t1 s :=
 (den_body rfl Tryz.func80 _ _).trans (by kernel_rfl)
theorem en80:enterable Tryz.prog 80=true:=by kernel_rfl
-- glossatorkeep1.short
noncomputable def F13 (D:Den)(n:Nat)(t0 t1:AV)(s:Heap):Ans :=
 oCp (.str []) s fun t4 s =>
 oMv t0 s fun t5 s =>
 oMv t0 s fun t6 s =>
 oLn 9 t6 s fun t7 s =>
 oMv t1 s fun t8 s =>oh (mp (aMin t7 t8) s) fun t9 s =>oh (mp (aSl Tryz.prog 9 t5 none (some t9) none) s) fun t10 s =>
 oCp t10 s fun t4_2 s =>
 some (t4_2,s)
theorem F13_eq (n:Nat)(t0 t1:AV)(s:Heap):den C (n+1) 13 [t0,t1] s=F13 (den C n) n t0 t1 s :=
 (den_body rfl Tryz.func13 _ _).trans (by kernel_rfl)
theorem en13:enterable Tryz.prog 13=true:=by kernel_rfl
end ParF
end
