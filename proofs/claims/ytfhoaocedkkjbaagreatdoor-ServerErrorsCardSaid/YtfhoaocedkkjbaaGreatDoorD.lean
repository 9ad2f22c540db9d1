/- WrdA, SrvC, RopeF, SrvA, SrvB -/
import Derived.Test.YtfhoaocedkkjbaaGreatDoorC
import Derived.Test.YtfhoaocedkkjbaaGreatDoorProg
import Derived.Test.YtfhoaocedkkjbaaGreatDoorJ
import Derived.KernelRfl
import Derived.Lib.Bytealg
import Derived.Lib.Fields
import Derived.Lib.BitFns
set_option linter.all false
set_option maxRecDepth 100000

section
namespace Go.Abs
open Go Go.Proofs
noncomputable def oMv (x:AV)(s:Heap)(k:AV→Heap→Ans):Ans:=oh (some (x.strip,s)) k
noncomputable def oCp (x:AV)(s:Heap)(k:AV→Heap→Ans):Ans:=oh (some (x,s)) k
noncomputable def oNc (x:AV)(s:Heap)(k:AV→Heap→Ans):Ans:=oh (mp (aNilCheck x) s) k
noncomputable def oAd (n:Nat)(x:AV)(s:Heap)(k:AV→Heap→Ans):Ans:=oh (mp (aAddr n x) s) k
noncomputable def oIx (t:TypeId)(x y:AV)(s:Heap)(k:AV→Heap→Ans):Ans:=oh (mp (aIndexAddr Tryz.prog t x y) s) k
noncomputable def oBn (o:BinOp)(t:TypeId)(x y:AV)(s:Heap)(k:AV→Heap→Ans):Ans:=oh (mp (aBin Tryz.prog o t x y) s) k
noncomputable def oLn (t:TypeId)(x:AV)(s:Heap)(k:AV→Heap→Ans):Ans:=oh (mp (aLen Tryz.prog t x) s) k
noncomputable def oXt (i:Nat)(x:AV)(s:Heap)(k:AV→Heap→Ans):Ans:=oh (mp (aExtract i x) s) k
noncomputable def oPk (x y z:AV)(s:Heap)(k:AV→Heap→Ans):Ans:=oh (mp (aPick x y z) s) k
noncomputable def oBs (t:TypeId)(n:Nat)(l:List (Nat×AV))(s:Heap)(k:AV→Heap→Ans):Ans:=oh (mp (aBuildSlice Tryz.prog t n l) s) k
noncomputable def oBd (t:TypeId)(l:List (Nat×AV))(s:Heap)(k:AV→Heap→Ans):Ans:=oh (mp (aBuild Tryz.prog t l) s) k
noncomputable def oL1 (x:AV)(s:Heap)(k:AV→Heap→Ans):Ans:=oh (aLoad false false 1 x s) k
noncomputable def oLa (n:Nat)(x:AV)(s:Heap)(k:AV→Heap→Ans):Ans:=oh (aLoad false true n x s) k
noncomputable def oCa (D:Den)(g:FuncId)(l:List AV)(s:Heap)(k:AV→Heap→Ans):Ans:=oh (aCall Tryz.prog D g l s) k
noncomputable def oAl (t:TypeId)(s:Heap)(k:AV→Heap→Ans):Ans:=oh (aAlloc Tryz.prog t s) k
noncomputable def oBx (t:TypeId)(x:AV)(s:Heap)(k:AV→Heap→Ans):Ans:=oh (aBox false t x s) k
noncomputable def oSr (n:Nat)(s:Heap)(x y:AV)(k:AV→Heap→Ans):Ans:=oh (sto (aStore n s x y)) k
noncomputable def oGt (x:AV)(s:Heap)(y:Option (AV×Heap))(k:AV→Heap→Ans):Ans:=oh (gd (wA x true) s y) k
noncomputable def oGf (x:AV)(s:Heap)(y:Option (AV×Heap))(k:AV→Heap→Ans):Ans:=oh (gd (wA x false) s y) k
theorem oMv_u (x:AV)(s:Heap)(k:AV→Heap→Ans):oMv x s k=k x.strip s:=(rfl)
theorem oCp_u (x:AV)(s:Heap)(k:AV→Heap→Ans):oCp x s k=k x s:=(rfl)
theorem oNc_u (x:AV)(s:Heap)(k:AV→Heap→Ans):oNc x s k=oh (mp (aNilCheck x) s) k:=(rfl)
theorem oAd_u (n:Nat)(x:AV)(s:Heap)(k:AV→Heap→Ans):oAd n x s k=oh (mp (aAddr n x) s) k:=(rfl)
theorem oIx_u (t:TypeId)(x y:AV)(s:Heap)(k:AV→Heap→Ans):oIx t x y s k=oh (mp (aIndexAddr Tryz.prog t x y) s) k:=(rfl)
theorem oBn_u (o:BinOp)(t:TypeId)(x y:AV)(s:Heap)(k:AV→Heap→Ans):oBn o t x y s k=oh (mp (aBin Tryz.prog o t x y) s) k:=(rfl)
theorem oLn_u (t:TypeId)(x:AV)(s:Heap)(k:AV→Heap→Ans):oLn t x s k=oh (mp (aLen Tryz.prog t x) s) k:=(rfl)
theorem oXt_u (i:Nat)(x:AV)(s:Heap)(k:AV→Heap→Ans):oXt i x s k=oh (mp (aExtract i x) s) k:=(rfl)
theorem oPk_u (x y z:AV)(s:Heap)(k:AV→Heap→Ans):oPk x y z s k=oh (mp (aPick x y z) s) k:=(rfl)
theorem oBs_u (t:TypeId)(n:Nat)(l:List (Nat×AV))(s:Heap)(k:AV→Heap→Ans):oBs t n l s k=oh (mp (aBuildSlice Tryz.prog t n l) s) k:=(rfl)
theorem oBd_u (t:TypeId)(l:List (Nat×AV))(s:Heap)(k:AV→Heap→Ans):oBd t l s k=oh (mp (aBuild Tryz.prog t l) s) k:=(rfl)
theorem oL1_u (x:AV)(s:Heap)(k:AV→Heap→Ans):oL1 x s k=oh (aLoad false false 1 x s) k:=(rfl)
theorem oLa_u (n:Nat)(x:AV)(s:Heap)(k:AV→Heap→Ans):oLa n x s k=oh (aLoad false true n x s) k:=(rfl)
theorem oCa_u (D:Den)(g:FuncId)(l:List AV)(s:Heap)(k:AV→Heap→Ans):oCa D g l s k=oh (aCall Tryz.prog D g l s) k:=(rfl)
theorem oAl_u (t:TypeId)(s:Heap)(k:AV→Heap→Ans):oAl t s k=oh (aAlloc Tryz.prog t s) k:=(rfl)
theorem oBx_u (t:TypeId)(x:AV)(s:Heap)(k:AV→Heap→Ans):oBx t x s k=oh (aBox false t x s) k:=(rfl)
theorem oSr_u (n:Nat)(s:Heap)(x y:AV)(k:AV→Heap→Ans):oSr n s x y k=oh (sto (aStore n s x y)) k:=(rfl)
theorem oGt_u (x:AV)(s:Heap)(y:Option (AV×Heap))(k:AV→Heap→Ans):oGt x s y k=oh (gd (wA x true) s y) k:=(rfl)
theorem oGf_u (x:AV)(s:Heap)(y:Option (AV×Heap))(k:AV→Heap→Ans):oGf x s y k=oh (gd (wA x false) s y) k:=(rfl)
theorem oNr (i o:Nat):(AV.ref i o).noRef=false:=by simp[AV.noRef]
def sW:=And.intro @oGf_u <| And.intro @oGt_u <| And.intro @oSr_u <| And.intro @oBx_u <| And.intro @oAl_u <| And.intro @oCa_u <| And.intro @oLa_u <| And.intro @oL1_u <| And.intro @oBd_u <| And.intro @oBs_u <| And.intro @oPk_u <| And.intro @oXt_u <| And.intro @oLn_u <| And.intro @oBn_u <| And.intro @oIx_u <| And.intro @oAd_u <| And.intro @oNc_u <| And.intro @oCp_u <| And.intro @oMv_u <| @oh_some
def sL:=And.intro @oNr <| And.intro @Bool.false_and sL0
end Go.Abs
end

section
namespace Srv
open Go Go.Abs Go.Proofs
def eIndex (args:List AV)(s:Heap):Option (AV×Heap):=match args with
 | [.str a,.int .u8 c]=>some (.int .i64 (Lib.indexByte a c.toNat.toUInt8),s)
 | _=>none
def ePrefix (args:List AV)(s:Heap):Option (AV×Heap):=match args with
 | [.str a,.str b]=>some (.bool (Lib.hasPrefix a b),s)
 | _=>none
def eFields (args:List AV)(s:Heap):Option (AV×Heap):=match args with
 | [.str a]=>if a.length<1000∧(a.all fun b=>b.toNat<128)=true then some (.sl 9 1 ((Lib.fields a).map .str) .sh,s) else none
 | _=>none
def eCompare (args:List AV)(s:Heap):Option (AV×Heap):=match args with
 | [.str a,.str b]=>some (.int .i64 (Lib.compareBytes a b),s)
 | _=>none
def eIns (ty z:Nat)(args:List AV)(s:Heap):Option (AV×Heap):=match args with
 | [x,.int .i64 i,.sl _ z' [e] _]=>if e.cells.length=z∧z'=z then(match x with
  | .nils=>if i=0 then some (.rs ty z s.length 0 1,s++[(ty,e.cells.map AV.strip)]) else none
  | .sl ty' _ [] .full=>if i=0∧ty'=ty then some (.rs ty z s.length 0 1,s++[(ty,e.cells.map AV.strip)]) else none
  | .rs ty' z' id 0 len=>if(ty'=ty∧z'=z)∧(0≤i∧i≤(len:Int))∧(0<len∧len<1000000) then(match s[id]? with
   | some (t,cs)=>if t=ty∧len*z≤cs.length then some (.rs ty z s.length 0 (len+1),kill s id++[(ty,(cs.take (i.toNat*z)).map AV.strip++e.cells.map AV.strip++(((cs.take (len*z)).drop (i.toNat*z)).map AV.strip))]) else none
   | none=>none) else none
  | _=>none) else none
 | _=>none
def eDel (ty z:Nat)(zc:List AV)(args:List AV)(s:Heap):Option (AV×Heap):=match args with
 | [.rs ty' z' id off len,.int .i64 i,.int .i64 j]=>if(ty'=ty∧z'=z)∧(0≤i∧j=i+1∧j≤(len:Int))∧len<1000000 then(match s[id]? with
  | some (t,cs)=>if t=ty∧off+len*z≤cs.length then some (.rs ty z id off (len-1),s.set id (ty,setL cs (off+i.toNat*z) (((((cs.drop off).take (len*z)).drop ((i.toNat+1)*z)).map AV.strip)++zc))) else none
  | none=>none) else none
 | _=>none
def resKeys (s:Heap):List AV→Option (List (Int×AV))
 | []=>some []
 | k::.ref r 0::l=>(match s[r]? with
  | some (163,[_,_,_,_,_,_,.int .i64 u])=>(match k with
   | .agg [.int .i64 _,.int .i64 _,.int .i64 _]=>(resKeys s l).map fun q=>(u,k)::q
   | _=>none)
  | _=>none)
 | _=>none
def insK (x:Int×AV):List (Int×AV)→List (Int×AV)
 | []=>[x]
 | y::l=>if x.1<y.1 then x::y::l else y::insK x l
def sortK:List (Int×AV)→List (Int×AV)
 | []=>[]
 | x::l=>insK x (sortK l)
def distK:List (Int×AV)→Bool
 | []=>true
 | x::l=>(l.all fun y=>decide (x.1≠y.1))&&distK l
def k3A:AV→Int×Int×Int
 | .agg [.int _ a,.int _ b,.int _ c]=>(a,b,c)
 | _=>(0,0,0)
def eCached (args:List AV)(s:Heap):Option (AV×Heap):=match args with
 | [.ref d 0]=>(match s[d]? with
  | some (121,_::_::.mr rm::_)=>(match s[rm]? with
   | some (1000001,.undef::kvs)=>(match resKeys s kvs with
    | some l=>if distK l=true∧(l.all fun x=>decide (0≤x.1∧x.1<1000000000))=true∧l.length<1000000∧(l.map fun x=>k3A x.2).Nodup then(match l with
     | []=>some (.nils,s)
     | l=>some (.sl 79 3 ((sortK l).map (·.2)) .sh,s)) else none
    | none=>none)
   | _=>none)
  | _=>none)
 | _=>none
def refs:List (Nat×Nat):=[(11,1),(11,8),(34,10),(57,3),(49,7),(60,7),(54,7),(116,5),(107,5),(37,16),(37,21),(37,55),(37,59),(113,68),(105,16),(3,37),(34,6),(16,7),(24,7),(32,7),(32,22),
 (4,7),(4,26),(4,29),(5,10),(5,13),(6,17),(6,18),(6,20),(7,3),(7,18),(7,21),(7,35),(8,12),(8,15),(18,5),(38,16),(38,20),(38,25),(38,29),(41,23),(90,33),(118,2),(118,30),(118,39),(140,17),(139,19),(140,47),(42,42),(40,36),(22,65),(59,33),(36,39),(36,42),(36,45),(21,24),(19,42),(23,22),(26,4),(5,26),(6,101),(6,106)]
def owns:List (Nat×Nat):=[(44,12),(31,17),(31,32),(31,41),(30,22),(55,13)]
noncomputable def C0:Cfg:={ P:=Tryz.prog,glob:=fun _=>none,ext:=fun _=>none,ref:=fun f t=>refs.contains (f,t),own:=fun f t=>owns.contains (f,t) }
def bodyOf (fn:Func):Code:=fn.body.getD .skip
def cA:Code→Code
 | .seq a _=>a
 | _=>.skip
def cB:Code→Code
 | .seq _ b=>b
 | _=>.skip
noncomputable def eDfr2 (D:Den)(k:Heap→Ans)(e:Env)(s:Heap):Ans:=acode C0 D 106 27 1 (cB (cB (cB (bodyOf Tryz.f106)))) { norm:=fun _ s=>k s,ret:=fun _ _=>none,exit:=fun _ _ _=>none } e s
noncomputable def eDfr1 (D:Den)(x:AV)(k:Heap→Ans)(e:Env)(s:Heap):Ans:=acode C0 D 106 27 1 (cA (cB (bodyOf Tryz.f106))) { norm:=fun e s=>eDfr2 D k (upd (upd e 13 x) 3 x) s,ret:=fun _ _=>none,exit:=fun _ _ _=>none } e s
noncomputable def eDfr (D:Den)(x:AV)(args:List AV)(k:Heap→Ans)(s:Heap):Ans:=acode C0 D 106 27 1 (cA (bodyOf Tryz.f106)) { norm:=eDfr1 D x k,ret:=fun _ _=>none,exit:=fun _ _ _=>none } (argEnv args) s
noncomputable def fin90 (x:AV)(D:Den)(e0 e:Env)(s:Heap):Ans:=eDfr D x ([e0 3,e0 6,e0 7].map AV.strip) (fun s=>finK Tryz.prog Tryz.f90.results.toList e s) s
noncomputable def eGet3 (D:Den)(e0:Env)(s:Heap):Ans:=pcode C0 D (pBody C0 D (pBody C0 D fun _ _ _=>none)) 90 34 (fun a e s=>fin90 a D e0 e s) (cB (cB (cB (cB (bodyOf Tryz.f90))))) { norm:=fun e s=>fin90 .nili D e0 e s,ret:=fun e s=>fin90 .nili D e0 e s,exit:=fun _ _ _=>none } e0 s
noncomputable def eGet2 (D:Den)(e:Env)(s:Heap):Ans:=acode C0 D 90 34 1 (cA (cB (cB (bodyOf Tryz.f90)))) { norm:=fun e s=>eGet3 D (upd e 26 .undef) s,ret:=fun _ _=>none,exit:=fun _ _ _=>none } e s
noncomputable def eGet1 (D:Den)(e:Env)(s:Heap):Ans:=acode C0 D 90 34 1 (cA (cB (bodyOf Tryz.f90))) { norm:=eGet2 D,ret:=fun _ _=>none,exit:=fun _ _ _=>none } e s
noncomputable def eGet (D:Den)(args:List AV)(s:Heap):Ans:=if args.length=3 then acode C0 D 90 34 1 (cA (bodyOf Tryz.f90)) { norm:=eGet1 D,ret:=fun _ _=>none,exit:=fun _ _ _=>none } (argEnv args) s else none
noncomputable def extOf (g:FuncId):Option (Den→List AV→Heap→Option (AV×Heap)) :=
 if g=134 then some (fun _=>eIndex) else if g=125 then some (fun _=>ePrefix) else if g=154 then some (fun _=>eFields) else if g=77 then some (fun _=>bCheck 97) else if g=45 then some (fun _=>bString 5)
 else if g=66 then some (fun _=>eIns 45 2) else if g=67 then some (fun _=>eIns 3 1) else if g=68 then some (fun _=>eDel 45 2 [.str [],.str []]) else if g=69 then some (fun _=>eDel 3 1 [.int .i64 0]) else if g=71 then some (fun _=>eDel 33 5 [.int .i64 0,.int .i64 0,.int .i64 0,.int .i64 0,.str []])
 else if g=65 then some (fun _=>eCompare) else if g=75 then some (fun _=>eCached) else if g=90 then some eGet else none
noncomputable def C:Cfg:={ C0 with ext:=extOf }
theorem C_P:C.P=Tryz.prog:=rfl
theorem rn {f : FuncId} {fn : Func} {args : List AV} {n : Nat} {s : Heap} (hf : Tryz.prog.funcs[f]? = some fn) (hr : noRefL args = false) (hb : (fn.body.isSome && !(fn.name == "runtime.NumGoroutine")) = true := by kernel_rfl) (he : C.ext f = none := by exact rfl) :
  aCall Tryz.prog (den C (n+1)) f args s=rC C (den C n) n (finK Tryz.prog fn.results.toList) (compF C f refs owns fn args.length) (finK Tryz.prog fn.results.toList) (fun _ _ _=>none) (argEnv args) s:=by
 rw[aCall,if_pos (by unfold enterable;rw[hf];exact hb),if_neg (by rw[hr];exact Bool.noConfusion)]
 exact den_res C (rl:=refs) (ol:=owns) (fun _ _=>rfl) (fun _ _=>rfl) hf he args s
theorem rd {f:FuncId}{fn:Func}{args:List AV}{n:Nat}{s:Heap}(hf:Tryz.prog.funcs[f]?=some fn)(he:C.ext f=none:=by exact rfl) :
  den C (n+1) f args s=rC C (den C n) n (finK Tryz.prog fn.results.toList) (compF C f refs owns fn args.length) (finK Tryz.prog fn.results.toList) (fun _ _ _=>none) (argEnv args) s :=
 den_res C (rl:=refs) (ol:=owns) (fun _ _=>rfl) (fun _ _=>rfl) hf he args s
end Srv
end

section
namespace RopeF
open Go Go.Abs Go.Proofs Srv
-- textedit.Apply
noncomputable def F13_L0 (D:Den)(n:Nat)(k0:Env→Heap→Ans)(e:Env)(s:Heap):Ans :=
 oh (mp (aBin Tryz.prog .lss 3 (e 19) (e 18)) s) fun t20 s =>
 br t20 (oh (mp (aIndexAddr Tryz.prog 22 (e 17) (e 19)) s) fun t21 s =>oh (aLoad false true 3 t21 s) fun t22 s =>oh (aAlloc Tryz.prog 70 s) fun t10 s =>oh (sto (aStore 3 s t10 t22)) fun _r s =>oh (some ((e 0).strip,s)) fun t23 s1 =>oh (some ((e 8).strip,s1)) fun t24 s2 =>oh (mp (aAddr 0 t10) s2) fun t25 s3 =>oh (aLoad false false 1 t25 s3) fun t26 s4 =>oh (mp (aSl Tryz.prog 9 t23 (some t24) (some t26) none) s4) fun t27 s5 =>oh (mp (aAddr 2 t10) s5) fun t28 s6 =>oh (aLoad false false 1 t28 s6) fun t29 s7 =>oh (mp (aBin Tryz.prog .add 9 t27 t29) s7) fun t30 s8 =>oh (aCall Tryz.prog D 44 [(e 7).strip,t30.strip] s8) fun t31 s9 =>
 drawOK C 13 (regOps Tryz.f13 9) [.silent,.silent,.silent,(kLoad false t25),.silent,.silent,(kLoad false t28),.silent,(dyn (kCall [(e 7).strip,t30.strip]) s8 s9)] <|
 oh (mp (aAddr 1 t10) s9) fun t32 s =>oh (aLoad false false 1 t32 s) fun t33 s =>oh (some (t33,s)) fun t8_2 s =>oh (mp (aBin Tryz.prog .add 3 (e 19) (.int .i64 1)) s) fun t34 s =>oh (some (t34.strip,s)) fun t19_2 s =>
 k0 (upds e [(20,t20),(21,t21),(22,t22),(10,t10),(22,t22.strip),(23,t23),(24,t24),(25,t25),(26,t26),(27,t27),(28,t28),(29,t29),(30,t30),(31,t31),(32,t32),(33,t33),(33,t33.strip),(8,t8_2),(34,t34),(19,t19_2)]) s) (oh (some ((e 0).strip,s)) fun t35 s =>oh (some ((e 8).strip,s)) fun t36 s =>oh (mp (aSl Tryz.prog 9 t35 (some t36) none none) s) fun t37 s =>oh (aCall Tryz.prog D 44 [(e 7).strip,t37.strip] s) fun t38 s =>oh (aCall Tryz.prog D 45 [(e 7).strip] s) fun t39 s =>oh (some (t39,s)) fun t4_3 s =>oh (some ((.int .i64 0),s)) fun t5_3 s =>
 some (.tup [t4_3,t5_3],s))
noncomputable def F13 (D:Den)(n:Nat)(t0 t1:AV)(s:Heap):Ans :=
 oh (some ((.str []),s)) fun t4 s =>oh (some ((.int .i64 0),s)) fun t5 s =>oh (some (t0.strip,s)) fun t11 s =>oh (some (t1.strip,s)) fun t12 s =>oh (aCall Tryz.prog D 29 [t11.strip,t12.strip] s) fun t13 s =>oh (some (t13,s)) fun t6 s =>oh (some (t6.strip,s)) fun t14 s =>oh (mp (aBin Tryz.prog .neq 24 t14 (.int .i64 0)) s) fun t15 s =>
 br t15 (oh (some (t6.strip,s)) fun t16 s =>oh (some ((.str []),s)) fun t4_2 s =>oh (some (t16,s)) fun t5_2 s =>
 some (.tup [t4_2,t5_2],s)) (oh (aAlloc Tryz.prog 97 s) fun t7 s =>oh (some ((.int .i64 0),s)) fun t8 s =>oh (some (t1.strip,s)) fun t17 s =>oh (mp (aLen Tryz.prog 22 t17) s) fun t18 s =>oh (some ((.int .i64 0),s)) fun t19 s =>
 aLoop (F13_L0 D n) n (upds (argEnv [t0,t1]) [(4,t4),(5,t5),(11,t11),(12,t12),(13,t13),(13,t13.strip),(6,t6),(14,t14),(15,t15),(7,t7),(8,t8),(17,t17),(18,t18),(19,t19)]) s)
theorem F13_eq (n:Nat)(t0 t1:AV)(s:Heap):den C (n+1) 13 [t0,t1] s=F13 (den C n) n t0 t1 s :=
 (den_body rfl Tryz.func13 _ _).trans (by kernel_rfl)
theorem d13_9 {g0 g1:Nat}{l0:List Nat}(x:Ans):drawOK C 13 (regOps Tryz.f13 9) [.silent,.silent,.silent,.get g0,.silent,.silent,.get g1,.silent,.call l0] x=x:=drawOK_base (by kernel_rfl)
theorem en13:enterable Tryz.prog 13=true:=by kernel_rfl
-- rope.New
noncomputable def F14_L0 (D:Den)(n:Nat)(k0:Env→Heap→Ans)(e:Env)(s:Heap):Ans :=
 oh (some ((e 0).strip,s)) fun t5 s =>oh (mp (aLen Tryz.prog 9 t5) s) fun t6 s =>oh (mp (aBin Tryz.prog .gtr 3 t6 (.int .i64 0)) s) fun t7 s =>
 br t7 (oh (some ((e 0).strip,s)) fun t8 s =>oh (mp (aLen Tryz.prog 9 t8) s) fun t9 s =>oh (mp (aMin t9 (.int .i64 32)) s) fun t10 s =>oh (some (t10,s)) fun t4 s =>oh (some ((e 3).strip,s)) fun t11 s =>oh (some ((e 0).strip,s)) fun t12 s =>oh (some (t4.strip,s)) fun t13 s =>oh (mp (aSl Tryz.prog 9 t12 none (some t13) none) s) fun t14 s =>oh (aCall Tryz.prog D 47 [t14.strip] s) fun t15 s =>oh (aCall Tryz.prog D 46 [t11.strip,t15.strip] s) fun t16 s =>oh (some (t16,s)) fun t3_2 s =>oh (some ((e 0).strip,s)) fun t17 s =>oh (some (t4.strip,s)) fun t18 s =>oh (mp (aSl Tryz.prog 9 t17 (some t18) none none) s) fun t19 s =>oh (some (t19,s)) fun t0_2 s =>
 k0 (upds e [(5,t5),(6,t6),(7,t7),(8,t8),(9,t9),(10,t10),(10,t10.strip),(4,t4),(11,t11),(12,t12),(13,t13),(14,t14),(15,t15),(16,t16),(16,t16.strip),(3,t3_2),(17,t17),(18,t18),(19,t19),(19,t19.strip),(0,t0_2)]) s) (oh (some ((e 3).strip,s)) fun t20 s =>oh (mp (aBuild Tryz.prog 40 [(0,t20)]) s) fun t21 s =>oh (sto (aStore 1 s (e 2) t21)) fun _r s =>
 fin1 ((aLoad false true 1 (e 2) s).map (·.1)) s)
noncomputable def F14 (D:Den)(n:Nat)(t0:AV)(s:Heap):Ans :=
 oh (aAlloc Tryz.prog 40 s) fun t2 s =>oh (some (.nilp,s)) fun t3 s =>
 aLoop (F14_L0 D n) n (upds (argEnv [t0]) [(2,t2),(3,t3)]) s
theorem F14_eq (n:Nat)(t0:AV)(s:Heap):den C (n+1) 14 [t0] s=F14 (den C n) n t0 s :=
 (den_body rfl Tryz.func14 _ _).trans (by kernel_rfl)
theorem en14:enterable Tryz.prog 14=true:=by kernel_rfl
-- (rope.Rope).Apply
noncomputable def F15_L0 (D:Den)(n:Nat)(k0:Env→Heap→Ans)(e:Env)(s:Heap):Ans :=
 oh (mp (aBin Tryz.prog .lss 3 (e 26) (e 25)) s) fun t27 s =>
 br t27 (oh (mp (aIndexAddr Tryz.prog 22 (e 24) (e 26)) s) fun t28 s =>oh (aLoad false true 3 t28 s) fun t29 s =>oh (aAlloc Tryz.prog 70 s) fun t11 s =>oh (sto (aStore 3 s t11 t29)) fun _r s =>oh (some ((e 8).strip,s)) fun t31 s =>oh (mp (aAddr 0 t11) s) fun t32 s =>oh (aLoad false false 1 t32 s) fun t33 s =>oh (some ((e 9).strip,s)) fun t34 s =>oh (mp (aBin Tryz.prog .sub 3 t33 t34) s) fun t35 s =>oh (aCall Tryz.prog D 48 [t31.strip,t35.strip] s) fun t36 s =>oh (some (t36.strip,s)) fun t30 s =>oh (mp (aExtract 0 t30) s) fun t37 s =>oh (mp (aExtract 1 t30) s) fun t38 s =>oh (some (t37,s)) fun t12 s =>oh (some (t38,s)) fun t13 s =>oh (some (t13.strip,s)) fun t40 s =>oh (mp (aAddr 1 t11) s) fun t41 s =>oh (aLoad false false 1 t41 s) fun t42 s =>oh (mp (aAddr 0 t11) s) fun t43 s =>oh (aLoad false false 1 t43 s) fun t44 s =>oh (mp (aBin Tryz.prog .sub 3 t42 t44) s) fun t45 s =>oh (aCall Tryz.prog D 48 [t40.strip,t45.strip] s) fun t46 s =>oh (some (t46.strip,s)) fun t39 s =>oh (mp (aExtract 0 t39) s) fun t47 s =>oh (mp (aExtract 1 t39) s) fun t48 s =>oh (some (t48,s)) fun t13_2 s =>oh (some ((e 7).strip,s)) fun t49 s1 =>oh (some (t12.strip,s1)) fun t50 s2 =>oh (aCall Tryz.prog D 46 [t49.strip,t50.strip] s2) fun t51 s3 =>oh (mp (aAddr 2 t11) s3) fun t52 s4 =>oh (aLoad false false 1 t52 s4) fun t53 s5 =>oh (aCall Tryz.prog D 14 [t53.strip] s5) fun t54 s6 =>oh (mp (aField Tryz.prog 40 0 t54) s6) fun t55 s7 =>oh (aCall Tryz.prog D 46 [t51.strip,t55.strip] s7) fun t56 s8 =>oh (some (t56,s8)) fun t7_2 s9 =>
 drawOK C 15 (regOps Tryz.f15 11) [.silent,.silent,(dyn (kCall [t49.strip,t50.strip]) s2 s3),.silent,(kLoad false t52),(dyn (kCall [t53.strip]) s5 s6),.silent,(dyn (kCall [t51.strip,t55.strip]) s7 s8),.silent] <|
 oh (some (t13_2.strip,s9)) fun t57 s =>oh (mp (aAddr 1 t11) s) fun t58 s =>oh (aLoad false false 1 t58 s) fun t59 s =>oh (some (t57,s)) fun t8_2 s =>oh (some (t59,s)) fun t9_2 s =>
 drawOK C 15 (regOps Tryz.f15 12) [.silent,.silent,(kLoad false t58),.silent,.silent] <|
 oh (mp (aBin Tryz.prog .add 3 (e 26) (.int .i64 1)) s) fun t60 s =>oh (some (t60.strip,s)) fun t26_2 s =>
 k0 (upds e [(27,t27),(28,t28),(29,t29),(11,t11),(29,t29.strip),(31,t31),(32,t32),(33,t33),(34,t34),(35,t35),(36,t36),(30,t30),(37,t37),(38,t38),(37,t37.strip),(12,t12),(38,t38.strip),(13,t13),(40,t40),(41,t41),(42,t42),(43,t43),(44,t44),(45,t45),(46,t46),(39,t39),(47,t47),(48,t48),(48,t48.strip),(13,t13_2),(49,t49),(50,t50),(51,t51),(52,t52),(53,t53),(54,t54),(55,t55),(56,t56),(56,t56.strip),(7,t7_2),(57,t57),(58,t58),(59,t59),(57,t57.strip),(8,t8_2),(59,t59.strip),(9,t9_2),(60,t60),(26,t26_2)]) s) (oh (some ((e 7).strip,s)) fun t61 s =>oh (some ((e 8).strip,s)) fun t62 s =>oh (aCall Tryz.prog D 46 [t61.strip,t62.strip] s) fun t63 s =>oh (mp (aBuild Tryz.prog 40 [(0,t63)]) s) fun t64 s =>oh (sto (aStore 1 s (e 4) t64)) fun _r s =>oh (some ((.int .i64 0),s)) fun t5_3 s =>
 fin1 ((resL [(aLoad false true 1 (e 4) s).map (·.1),some t5_3]).map .tup) s)
noncomputable def F15 (D:Den)(n:Nat)(t0 t1:AV)(s:Heap):Ans :=
 oh (aBox false 40 t0 s) fun t2 s =>oh (aAlloc Tryz.prog 40 s) fun t4 s =>oh (some ((.int .i64 0),s)) fun t5 s =>oh (aLoad false true 1 t2 s) fun t14 s =>oh (aCall Tryz.prog D 17 [t14.strip] s) fun t15 s =>oh (some (t1.strip,s)) fun t16 s =>oh (aCall Tryz.prog D 29 [t15.strip,t16.strip] s) fun t17 s =>oh (some (t17,s)) fun t6 s =>oh (some (t6.strip,s)) fun t18 s =>oh (mp (aBin Tryz.prog .neq 24 t18 (.int .i64 0)) s) fun t19 s =>
 br t19 (oh (mp (aBuild Tryz.prog 40 []) s) fun t20 s =>oh (some (t6.strip,s)) fun t21 s =>oh (sto (aStore 1 s t4 t20)) fun _r s =>oh (some (t21,s)) fun t5_2 s =>
 fin1 ((resL [(aLoad false true 1 t4 s).map (·.1),some t5_2]).map .tup) s) (oh (some (.nilp,s)) fun t7 s =>oh (mp (aAddr 0 t2) s) fun t22 s =>oh (aLoad false false 1 t22 s) fun t23 s =>oh (some (t23,s)) fun t8 s =>oh (some ((.int .i64 0),s)) fun t9 s =>oh (some (t1.strip,s)) fun t24 s =>oh (mp (aLen Tryz.prog 22 t24) s) fun t25 s =>oh (some ((.int .i64 0),s)) fun t26 s =>
 aLoop (F15_L0 D n) n (upds (argEnv [t0,t1]) [(2,t2),(4,t4),(5,t5),(14,t14),(15,t15),(16,t16),(17,t17),(17,t17.strip),(6,t6),(18,t18),(19,t19),(7,t7),(22,t22),(23,t23),(23,t23.strip),(8,t8),(9,t9),(24,t24),(25,t25),(26,t26)]) s)
theorem F15_eq (n:Nat)(t0 t1:AV)(s:Heap):den C (n+1) 15 [t0,t1] s=F15 (den C n) n t0 t1 s :=
 (den_body rfl Tryz.func15 _ _).trans (by kernel_rfl)
theorem d15_11 {g0:Nat}(x:Ans):drawOK C 15 (regOps Tryz.f15 11) [.silent,.silent,.silent,.silent,.get g0,.silent,.silent,.silent,.silent] x=x:=drawOK_base (by kernel_rfl)
theorem d15_12 {g0:Nat}(x:Ans):drawOK C 15 (regOps Tryz.f15 12) [.silent,.silent,.get g0,.silent,.silent] x=x:=drawOK_base (by kernel_rfl)
theorem en15:enterable Tryz.prog 15=true:=by kernel_rfl
-- (rope.Rope).String
noncomputable def F17_J0 (D:Den)(n:Nat)(e:Env)(s:Heap):Ans :=
 oh (aCall Tryz.prog D 45 [(e 3).strip] s) fun t10 s =>oh (some (t10,s)) fun t2_2 s =>
 some (t2_2,s)
noncomputable def F17 (D:Den)(n:Nat)(t0:AV)(s:Heap):Ans :=
 oh (aBox false 40 t0 s) fun t1 s =>oh (some ((.str []),s)) fun t2 s =>oh (aAlloc Tryz.prog 97 s) fun t3 s =>oh (mp (aAddr 0 t1) s) fun t4 s =>oh (aLoad false false 1 t4 s) fun t5 s =>oh (mp (aBin Tryz.prog .neq 38 t5 .nilp) s) fun t6 s =>
 br t6 (oh (mp (aAddr 0 t1) s) fun t7 s =>oh (aLoad false false 1 t7 s) fun t8 s =>oh (aCall Tryz.prog D 50 [t8.strip,t3.strip] s) fun t9 s =>
 F17_J0 D n (upds (argEnv [t0]) [(1,t1),(2,t2),(3,t3),(4,t4),(5,t5),(6,t6),(7,t7),(8,t8),(9,t9)]) s)
  (F17_J0 D n (upds (argEnv [t0]) [(1,t1),(2,t2),(3,t3),(4,t4),(5,t5),(6,t6)]) s)
theorem F17_eq (n:Nat)(t0:AV)(s:Heap):den C (n+1) 17 [t0] s=F17 (den C n) n t0 s :=
 (den_body rfl Tryz.func17 _ _).trans (by kernel_rfl)
theorem en17:enterable Tryz.prog 17=true:=by kernel_rfl
-- textedit.Validate
noncomputable def F29_L0 (D:Den)(n:Nat)(k0:Env→Heap→Ans)(e:Env)(s:Heap):Ans :=
 oh (mp (aBin Tryz.prog .lss 3 (e 21) (e 20)) s) fun t22 s =>
 br t22 (oh (mp (aIndexAddr Tryz.prog 22 (e 19) (e 21)) s) fun t23 s =>oh (aLoad false true 3 t23 s) fun t24 s =>oh (aAlloc Tryz.prog 70 s) fun t8 s =>oh (sto (aStore 3 s t8 t24)) fun _r s =>oh (mp (aAddr 0 t8) s) fun t25 s =>oh (aLoad false false 1 t25 s) fun t26 s =>oh (some ((e 5).strip,s)) fun t27 s =>oh (mp (aBin Tryz.prog .leq 3 t26 t27) s) fun t28 s =>oh (some (t28.strip,s)) fun t29 s =>oh (gd (wA t29 false) s (mp (aAddr 1 t8) s)) fun t30 s =>oh (gd (wA t29 false) s (aLoad false false 1 t30 s)) fun t31 s =>oh (gd (wA t29 false) s (mp (aAddr 0 t8) s)) fun t32 s =>oh (gd (wA t29 false) s (aLoad false false 1 t32 s)) fun t33 s =>oh (gd (wA t29 false) s (mp (aBin Tryz.prog .lss 3 t31 t33) s)) fun t34 s =>oh (mp (aPick t29 (.bool true) t34) s) fun t35 s =>oh (some (t35.strip,s)) fun t36 s =>oh (gd (wA t36 false) s (mp (aAddr 1 t8) s)) fun t37 s =>oh (gd (wA t36 false) s (aLoad false false 1 t37 s)) fun t38 s =>oh (gd (wA t36 false) s (some ((e 0).strip,s))) fun t39 s =>oh (gd (wA t36 false) s (mp (aLen Tryz.prog 9 t39) s)) fun t40 s =>oh (gd (wA t36 false) s (mp (aBin Tryz.prog .gtr 3 t38 t40) s)) fun t41 s =>oh (mp (aPick t36 (.bool true) t41) s) fun t42 s =>
 br t42 (oh (some ((.int .i64 3),s)) fun t4_3 s =>
 some (t4_3,s)) (oh (mp (aAddr 1 t8) s) fun t43 s =>oh (aLoad false false 1 t43 s) fun t44 s =>oh (some (t44,s)) fun t5_2 s =>oh (some ((e 6).strip,s)) fun t45 s =>oh (mp (aAddr 2 t8) s) fun t46 s =>oh (aLoad false false 1 t46 s) fun t47 s =>oh (mp (aLen Tryz.prog 9 t47) s) fun t48 s =>oh (mp (aAddr 1 t8) s) fun t49 s =>oh (aLoad false false 1 t49 s) fun t50 s =>oh (mp (aAddr 0 t8) s) fun t51 s =>oh (aLoad false false 1 t51 s) fun t52 s =>oh (mp (aBin Tryz.prog .sub 3 t50 t52) s) fun t53 s =>oh (mp (aBin Tryz.prog .sub 3 t48 t53) s) fun t54 s =>oh (mp (aBin Tryz.prog .add 3 t45 t54) s) fun t55 s =>oh (some (t55,s)) fun t6_2 s =>oh (mp (aBin Tryz.prog .add 3 (e 21) (.int .i64 1)) s) fun t56 s =>oh (some (t56.strip,s)) fun t21_2 s =>
 k0 (upds e [(22,t22),(23,t23),(24,t24),(8,t8),(24,t24.strip),(25,t25),(26,t26),(27,t27),(28,t28),(29,t29),(30,t30),(31,t31),(32,t32),(33,t33),(34,t34),(35,t35),(36,t36),(37,t37),(38,t38),(39,t39),(40,t40),(41,t41),(42,t42),(43,t43),(44,t44),(44,t44.strip),(5,t5_2),(45,t45),(46,t46),(47,t47),(48,t48),(49,t49),(50,t50),(51,t51),(52,t52),(53,t53),(54,t54),(55,t55),(55,t55.strip),(6,t6_2),(56,t56),(21,t21_2)]) s)) (oh (some ((e 6).strip,s)) fun t57 s =>oh (mp (aBin Tryz.prog .gtr 3 t57 (.int .i64 2000)) s) fun t58 s =>
 br t58 (oh (some ((.int .i64 2),s)) fun t4_4 s =>
 some (t4_4,s)) (oh (some ((.int .i64 0),s)) fun t4_5 s =>
 some (t4_5,s)))
noncomputable def F29 (D:Den)(n:Nat)(t0 t1:AV)(s:Heap):Ans :=
 oh (some ((.int .i64 0),s)) fun t4 s =>oh (some (t0.strip,s)) fun t9 s =>oh (mp (aLen Tryz.prog 9 t9) s) fun t10 s =>oh (mp (aBin Tryz.prog .gtr 3 t10 (.int .i64 2000)) s) fun t11 s =>oh (some (t11.strip,s)) fun t12 s =>oh (gd (wA t12 false) s (some (t1.strip,s))) fun t13 s =>oh (gd (wA t12 false) s (mp (aLen Tryz.prog 22 t13) s)) fun t14 s =>oh (gd (wA t12 false) s (mp (aBin Tryz.prog .gtr 3 t14 (.int .i64 50)) s)) fun t15 s =>oh (mp (aPick t12 (.bool true) t15) s) fun t16 s =>
 br t16 (oh (some ((.int .i64 2),s)) fun t4_2 s =>
 some (t4_2,s)) (oh (some (t0.strip,s)) fun t17 s =>oh (mp (aLen Tryz.prog 9 t17) s) fun t18 s =>oh (some ((.int .i64 (-1)),s)) fun t5 s =>oh (some (t18,s)) fun t6 s =>oh (some (t1.strip,s)) fun t19 s =>oh (mp (aLen Tryz.prog 22 t19) s) fun t20 s =>oh (some ((.int .i64 0),s)) fun t21 s =>
 aLoop (F29_L0 D n) n (upds (argEnv [t0,t1]) [(4,t4),(9,t9),(10,t10),(11,t11),(12,t12),(13,t13),(14,t14),(15,t15),(16,t16),(17,t17),(18,t18),(5,t5),(18,t18.strip),(6,t6),(19,t19),(20,t20),(21,t21)]) s)
theorem F29_eq (n:Nat)(t0 t1:AV)(s:Heap):den C (n+1) 29 [t0,t1] s=F29 (den C n) n t0 t1 s :=
 (den_body rfl Tryz.func29 _ _).trans (by kernel_rfl)
theorem en29:enterable Tryz.prog 29=true:=by kernel_rfl
-- (*strings.Builder).WriteString
noncomputable def F44 (D:Den)(n:Nat)(t0 t1:AV)(s:Heap):Ans :=
 oh (some ((.int .i64 0),s)) fun t4 s =>oh (some (.nili,s)) fun t5 s =>oh (some (t0.strip,s)) fun t6 s =>oh (aCall Tryz.prog D 77 [t6.strip] s) fun t7 s =>oh (some (t0.strip,s)) fun t8 s =>oh (some (t0.strip,s)) fun t9 s =>oh (mp (aNilCheck t9) s) fun t10 s =>oh (mp (aAddr 1 t10) s) fun t11 s =>oh (aLoad true false 1 t11 s) fun t12 s =>oh (some (t1.strip,s)) fun t13 s =>oh (mp (aAppend Tryz.prog 95 9 t12 t13) s) fun t14 s =>oh (mp (aNilCheck t8) s) fun t15 s =>oh (mp (aAddr 1 t15) s) fun t16 s =>oh (sto (aStore 1 s t16 t14)) fun _r s =>oh (some (t1.strip,s)) fun t17 s =>oh (mp (aLen Tryz.prog 9 t17) s) fun t18 s =>oh (some (t18,s)) fun t4_2 s =>oh (some (.nili,s)) fun t5_2 s =>
 some (.tup [t4_2,t5_2],s)
theorem F44_eq (n:Nat)(t0 t1:AV)(s:Heap):den C (n+1) 44 [t0,t1] s=F44 (den C n) n t0 t1 s :=
 (den_body rfl Tryz.func44 _ _).trans (by kernel_rfl)
theorem en44:enterable Tryz.prog 44=true:=by kernel_rfl
-- rope.concat
noncomputable def F46 (D:Den)(n:Nat)(t0 t1:AV)(s:Heap):Ans :=
 oh (some (.nilp,s)) fun t4 s =>oh (some (t0.strip,s)) fun t6 s =>oh (mp (aBin Tryz.prog .eql 38 t6 .nilp) s) fun t7 s =>oh (some (t7,s)) fun t5 s =>
 br t5 (oh (some (t1.strip,s)) fun t8 s =>oh (some (t8,s)) fun t4_2 s =>
 some (t4_2,s)) (oh (some (t1.strip,s)) fun t10 s =>oh (mp (aBin Tryz.prog .eql 38 t10 .nilp) s) fun t11 s =>oh (some (t11,s)) fun t9 s =>
 br t9 (oh (some (t0.strip,s)) fun t12 s =>oh (some (t12,s)) fun t4_3 s =>
 some (t4_3,s)) (oh (some (t0.strip,s)) fun t14 s =>oh (mp (aNilCheck t14) s) fun t15 s =>oh (mp (aAddr 4 t15) s) fun t16 s =>oh (aLoad false false 1 t16 s) fun t17 s =>oh (mp (aBin Tryz.prog .eql 3 t17 (.int .i64 0)) s) fun t18 s =>oh (some (t18.strip,s)) fun t19 s =>oh (gd (wA t19 true) s (some (t1.strip,s))) fun t20 s =>oh (gd (wA t19 true) s (mp (aNilCheck t20) s)) fun t21 s =>oh (gd (wA t19 true) s (mp (aAddr 4 t21) s)) fun t22 s =>oh (gd (wA t19 true) s (aLoad false false 1 t22 s)) fun t23 s =>oh (gd (wA t19 true) s (mp (aBin Tryz.prog .eql 3 t23 (.int .i64 0)) s)) fun t24 s =>oh (mp (aPick t19 t24 (.bool false)) s) fun t25 s =>oh (some (t25.strip,s)) fun t26 s =>oh (gd (wA t26 true) s (some (t0.strip,s))) fun t27 s =>oh (gd (wA t26 true) s (mp (aNilCheck t27) s)) fun t28 s =>oh (gd (wA t26 true) s (mp (aAddr 3 t28) s)) fun t29 s =>oh (gd (wA t26 true) s (aLoad false false 1 t29 s)) fun t30 s =>oh (gd (wA t26 true) s (some (t1.strip,s))) fun t31 s =>oh (gd (wA t26 true) s (mp (aNilCheck t31) s)) fun t32 s =>oh (gd (wA t26 true) s (mp (aAddr 3 t32) s)) fun t33 s =>oh (gd (wA t26 true) s (aLoad false false 1 t33 s)) fun t34 s =>oh (gd (wA t26 true) s (mp (aBin Tryz.prog .add 3 t30 t34) s)) fun t35 s =>oh (gd (wA t26 true) s (mp (aBin Tryz.prog .leq 3 t35 (.int .i64 32)) s)) fun t36 s =>oh (mp (aPick t26 t36 (.bool false)) s) fun t37 s =>oh (some (t37,s)) fun t13 s =>
 drawOK C 46 (regOps Tryz.f46 5) [.silent,.silent,.silent,(kLoad false t16),.silent,.silent,(kGd (wA t19 true) .silent),(kGd (wA t19 true) .silent),(kGd (wA t19 true) .silent),(kGd (wA t19 true) (kLoad false t22)),(kGd (wA t19 true) .silent),.silent,.silent,(kGd (wA t26 true) .silent),(kGd (wA t26 true) .silent),(kGd (wA t26 true) .silent),(kGd (wA t26 true) (kLoad false t29)),(kGd (wA t26 true) .silent),(kGd (wA t26 true) .silent),(kGd (wA t26 true) .silent),(kGd (wA t26 true) (kLoad false t33)),(kGd (wA t26 true) .silent),(kGd (wA t26 true) .silent),.silent,.silent] <|
 br t13 (oh (some (t0.strip,s)) fun t38 s1 =>oh (mp (aNilCheck t38) s1) fun t39 s2 =>oh (mp (aAddr 2 t39) s2) fun t40 s3 =>oh (aLoad false false 1 t40 s3) fun t41 s4 =>oh (some (t1.strip,s4)) fun t42 s5 =>oh (mp (aNilCheck t42) s5) fun t43 s6 =>oh (mp (aAddr 2 t43) s6) fun t44 s7 =>oh (aLoad false false 1 t44 s7) fun t45 s8 =>oh (mp (aBin Tryz.prog .add 9 t41 t45) s8) fun t46 s9 =>oh (aCall Tryz.prog D 47 [t46.strip] s9) fun t47 s10 =>oh (some (t47,s10)) fun t4_4 s11 =>
 drawOK C 46 (regOps Tryz.f46 6) [.silent,.silent,.silent,(kLoad false t40),.silent,.silent,.silent,(kLoad false t44),.silent,(dyn (kCall [t46.strip]) s9 s10),.silent] <|
 some (t4_4,s11)) (oh (some (t0.strip,s)) fun t49 s =>oh (mp (aNilCheck t49) s) fun t50 s =>oh (mp (aAddr 4 t50) s) fun t51 s =>oh (aLoad false false 1 t51 s) fun t52 s =>oh (some (t1.strip,s)) fun t53 s =>oh (mp (aNilCheck t53) s) fun t54 s =>oh (mp (aAddr 4 t54) s) fun t55 s =>oh (aLoad false false 1 t55 s) fun t56 s =>oh (mp (aBin Tryz.prog .add 3 t56 (.int .i64 1)) s) fun t57 s =>oh (mp (aBin Tryz.prog .gtr 3 t52 t57) s) fun t58 s =>oh (some (t58,s)) fun t48 s =>
 drawOK C 46 (regOps Tryz.f46 7) [.silent,.silent,.silent,(kLoad false t51),.silent,.silent,.silent,(kLoad false t55),.silent,.silent,.silent] <|
 br t48 (oh (some (t0.strip,s)) fun t59 s12 =>oh (mp (aNilCheck t59) s12) fun t60 s13 =>oh (mp (aAddr 0 t60) s13) fun t61 s14 =>oh (aLoad false false 1 t61 s14) fun t62 s15 =>oh (some (t0.strip,s15)) fun t63 s16 =>oh (mp (aNilCheck t63) s16) fun t64 s17 =>oh (mp (aAddr 1 t64) s17) fun t65 s18 =>oh (aLoad false false 1 t65 s18) fun t66 s19 =>oh (some (t1.strip,s19)) fun t67 s20 =>oh (aCall Tryz.prog D 46 [t66.strip,t67.strip] s20) fun t68 s21 =>oh (aCall Tryz.prog D 78 [t62.strip,t68.strip] s21) fun t69 s22 =>oh (some (t69,s22)) fun t4_5 s23 =>
 drawOK C 46 (regOps Tryz.f46 8) [.silent,.silent,.silent,(kLoad false t61),.silent,.silent,.silent,(kLoad false t65),.silent,(dyn (kCall [t66.strip,t67.strip]) s20 s21),(dyn (kCall [t62.strip,t68.strip]) s21 s22),.silent] <|
 some (t4_5,s23)) (oh (some (t1.strip,s)) fun t71 s =>oh (mp (aNilCheck t71) s) fun t72 s =>oh (mp (aAddr 4 t72) s) fun t73 s =>oh (aLoad false false 1 t73 s) fun t74 s =>oh (some (t0.strip,s)) fun t75 s =>oh (mp (aNilCheck t75) s) fun t76 s =>oh (mp (aAddr 4 t76) s) fun t77 s =>oh (aLoad false false 1 t77 s) fun t78 s =>oh (mp (aBin Tryz.prog .add 3 t78 (.int .i64 1)) s) fun t79 s =>oh (mp (aBin Tryz.prog .gtr 3 t74 t79) s) fun t80 s =>oh (some (t80,s)) fun t70 s =>
 drawOK C 46 (regOps Tryz.f46 9) [.silent,.silent,.silent,(kLoad false t73),.silent,.silent,.silent,(kLoad false t77),.silent,.silent,.silent] <|
 br t70 (oh (some (t0.strip,s)) fun t81 s24 =>oh (some (t1.strip,s24)) fun t82 s25 =>oh (mp (aNilCheck t82) s25) fun t83 s26 =>oh (mp (aAddr 0 t83) s26) fun t84 s27 =>oh (aLoad false false 1 t84 s27) fun t85 s28 =>oh (aCall Tryz.prog D 46 [t81.strip,t85.strip] s28) fun t86 s29 =>oh (some (t1.strip,s29)) fun t87 s30 =>oh (mp (aNilCheck t87) s30) fun t88 s31 =>oh (mp (aAddr 1 t88) s31) fun t89 s32 =>oh (aLoad false false 1 t89 s32) fun t90 s33 =>oh (aCall Tryz.prog D 78 [t86.strip,t90.strip] s33) fun t91 s34 =>oh (some (t91,s34)) fun t4_6 s35 =>
 drawOK C 46 (regOps Tryz.f46 10) [.silent,.silent,.silent,.silent,(kLoad false t84),(dyn (kCall [t81.strip,t85.strip]) s28 s29),.silent,.silent,.silent,(kLoad false t89),(dyn (kCall [t86.strip,t90.strip]) s33 s34),.silent] <|
 some (t4_6,s35)) (oh (some (t0.strip,s)) fun t92 s =>oh (some (t1.strip,s)) fun t93 s =>oh (aCall Tryz.prog D 79 [t92.strip,t93.strip] s) fun t94 s =>oh (some (t94,s)) fun t4_7 s =>
 some (t4_7,s))))))
theorem F46_eq (n:Nat)(t0 t1:AV)(s:Heap):den C (n+1) 46 [t0,t1] s=F46 (den C n) n t0 t1 s :=
 (den_body rfl Tryz.func46 _ _).trans (by kernel_rfl)
theorem d46_5 (x:Ans):drawOK C 46 (regOps Tryz.f46 5) [.silent,.silent,.silent,.silent,.silent,.silent,.silent,.silent,.silent,.silent,.silent,.silent,.silent,.silent,.silent,.silent,.silent,.silent,.silent,.silent,.silent,.silent,.silent,.silent,.silent] x=x:=drawOK_ok (by kernel_rfl)
theorem d46_6 (x:Ans):drawOK C 46 (regOps Tryz.f46 6) [.silent,.silent,.silent,.silent,.silent,.silent,.silent,.silent,.silent,.silent,.silent] x=x:=drawOK_ok (by kernel_rfl)
theorem d46_7 (x:Ans):drawOK C 46 (regOps Tryz.f46 7) [.silent,.silent,.silent,.silent,.silent,.silent,.silent,.silent,.silent,.silent,.silent] x=x:=drawOK_ok (by kernel_rfl)
theorem d46_8 (x:Ans):drawOK C 46 (regOps Tryz.f46 8) [.silent,.silent,.silent,.silent,.silent,.silent,.silent,.silent,.silent,.silent,.silent,.silent] x=x:=drawOK_ok (by kernel_rfl)
theorem d46_9 (x:Ans):drawOK C 46 (regOps Tryz.f46 9) [.silent,.silent,.silent,.silent,.silent,.silent,.silent,.silent,.silent,.silent,.silent] x=x:=drawOK_ok (by kernel_rfl)
theorem d46_10 (x:Ans):drawOK C 46 (regOps Tryz.f46 10) [.silent,.silent,.silent,.silent,.silent,.silent,.silent,.silent,.silent,.silent,.silent,.silent] x=x:=drawOK_ok (by kernel_rfl)
theorem en46:enterable Tryz.prog 46=true:=by kernel_rfl
-- rope.newLeaf
noncomputable def F47 (D:Den)(n:Nat)(t0:AV)(s:Heap):Ans :=
 oh (some (.nilp,s)) fun t2 s =>oh (some (t0.strip,s)) fun t3 s =>oh (some (t0.strip,s)) fun t4 s =>oh (mp (aLen Tryz.prog 9 t4) s) fun t5 s =>oh (mp (aBuild Tryz.prog 144 [(2,t3),(3,t5),(5,(.int .i64 1))]) s) fun t6 s =>oh (aBox false 144 t6 s) fun t7 s =>oh (some (t7,s)) fun t2_2 s =>
 some (t2_2,s)
theorem F47_eq (n:Nat)(t0:AV)(s:Heap):den C (n+1) 47 [t0] s=F47 (den C n) n t0 s :=
 (den_body rfl Tryz.func47 _ _).trans (by kernel_rfl)
theorem en47:enterable Tryz.prog 47=true:=by kernel_rfl
-- rope.split
noncomputable def F48 (D:Den)(n:Nat)(t0 t1:AV)(s:Heap):Ans :=
 oh (some (.nilp,s)) fun t4 s =>oh (some (.nilp,s)) fun t5 s =>oh (some (t0.strip,s)) fun t11 s =>oh (mp (aBin Tryz.prog .eql 38 t11 .nilp) s) fun t12 s =>oh (some (t12.strip,s)) fun t13 s =>oh (gd (wA t13 false) s (some (t1.strip,s))) fun t14 s =>oh (gd (wA t13 false) s (mp (aBin Tryz.prog .leq 3 t14 (.int .i64 0)) s)) fun t15 s =>oh (mp (aPick t13 (.bool true) t15) s) fun t16 s =>oh (some (t16,s)) fun t10 s =>
 br t10 (oh (some (t0.strip,s)) fun t17 s =>oh (some (.nilp,s)) fun t4_2 s =>oh (some (t17,s)) fun t5_2 s =>
 some (.tup [t4_2,t5_2],s)) (oh (some (t1.strip,s)) fun t19 s =>oh (some (t0.strip,s)) fun t20 s =>oh (mp (aNilCheck t20) s) fun t21 s =>oh (mp (aAddr 3 t21) s) fun t22 s =>oh (aLoad false false 1 t22 s) fun t23 s =>oh (mp (aBin Tryz.prog .geq 3 t19 t23) s) fun t24 s =>oh (some (t24,s)) fun t18 s =>
 br t18 (oh (some (t0.strip,s)) fun t25 s =>oh (some (t25,s)) fun t4_3 s =>oh (some (.nilp,s)) fun t5_3 s =>
 some (.tup [t4_3,t5_3],s)) (oh (some (t0.strip,s)) fun t27 s =>oh (mp (aNilCheck t27) s) fun t28 s =>oh (mp (aAddr 4 t28) s) fun t29 s =>oh (aLoad false false 1 t29 s) fun t30 s =>oh (mp (aBin Tryz.prog .eql 3 t30 (.int .i64 0)) s) fun t31 s =>oh (some (t31,s)) fun t26 s =>
 br t26 (oh (some (t0.strip,s)) fun t32 s1 =>oh (mp (aNilCheck t32) s1) fun t33 s2 =>oh (mp (aAddr 2 t33) s2) fun t34 s3 =>oh (aLoad false false 1 t34 s3) fun t35 s4 =>oh (some (t1.strip,s4)) fun t36 s5 =>oh (mp (aSl Tryz.prog 9 t35 none (some t36) none) s5) fun t37 s6 =>oh (aCall Tryz.prog D 47 [t37.strip] s6) fun t38 s7 =>oh (some (t0.strip,s7)) fun t39 s8 =>oh (mp (aNilCheck t39) s8) fun t40 s9 =>oh (mp (aAddr 2 t40) s9) fun t41 s10 =>oh (aLoad false false 1 t41 s10) fun t42 s11 =>oh (some (t1.strip,s11)) fun t43 s12 =>oh (mp (aSl Tryz.prog 9 t42 (some t43) none none) s12) fun t44 s13 =>oh (aCall Tryz.prog D 47 [t44.strip] s13) fun t45 s14 =>oh (some (t38,s14)) fun t4_4 s15 =>oh (some (t45,s15)) fun t5_4 s16 =>
 drawOK C 48 (regOps Tryz.f48 6) [.silent,.silent,.silent,(kLoad false t34),.silent,.silent,(dyn (kCall [t37.strip]) s6 s7),.silent,.silent,.silent,(kLoad false t41),.silent,.silent,(dyn (kCall [t44.strip]) s13 s14),.silent,.silent] <|
 some (.tup [t4_4,t5_4],s16)) (oh (some (t1.strip,s)) fun t47 s =>oh (some (t0.strip,s)) fun t48 s =>oh (mp (aNilCheck t48) s) fun t49 s =>oh (mp (aAddr 0 t49) s) fun t50 s =>oh (aLoad false false 1 t50 s) fun t51 s =>oh (mp (aNilCheck t51) s) fun t52 s =>oh (mp (aAddr 3 t52) s) fun t53 s =>oh (aLoad false false 1 t53 s) fun t54 s =>oh (mp (aBin Tryz.prog .lss 3 t47 t54) s) fun t55 s =>oh (some (t55,s)) fun t46 s =>
 br t46 (oh (some (t0.strip,s)) fun t57 s =>oh (mp (aNilCheck t57) s) fun t58 s =>oh (mp (aAddr 0 t58) s) fun t59 s =>oh (aLoad false false 1 t59 s) fun t60 s =>oh (some (t1.strip,s)) fun t61 s =>oh (aCall Tryz.prog D 48 [t60.strip,t61.strip] s) fun t62 s =>oh (some (t62.strip,s)) fun t56 s =>oh (mp (aExtract 0 t56) s) fun t63 s =>oh (mp (aExtract 1 t56) s) fun t64 s =>oh (some (t63,s)) fun t6 s =>oh (some (t64,s)) fun t7 s =>oh (some (t6.strip,s)) fun t65 s =>oh (some (t7.strip,s)) fun t66 s =>oh (some (t0.strip,s)) fun t67 s =>oh (mp (aNilCheck t67) s) fun t68 s =>oh (mp (aAddr 1 t68) s) fun t69 s =>oh (aLoad false false 1 t69 s) fun t70 s =>oh (aCall Tryz.prog D 46 [t66.strip,t70.strip] s) fun t71 s =>oh (some (t65,s)) fun t4_5 s =>oh (some (t71,s)) fun t5_5 s =>
 some (.tup [t4_5,t5_5],s)) (oh (some (t0.strip,s)) fun t73 s17 =>oh (mp (aNilCheck t73) s17) fun t74 s18 =>oh (mp (aAddr 1 t74) s18) fun t75 s19 =>oh (aLoad false false 1 t75 s19) fun t76 s20 =>oh (some (t1.strip,s20)) fun t77 s21 =>oh (some (t0.strip,s21)) fun t78 s22 =>oh (mp (aNilCheck t78) s22) fun t79 s23 =>oh (mp (aAddr 0 t79) s23) fun t80 s24 =>oh (aLoad false false 1 t80 s24) fun t81 s25 =>oh (mp (aNilCheck t81) s25) fun t82 s26 =>oh (mp (aAddr 3 t82) s26) fun t83 s27 =>oh (aLoad false false 1 t83 s27) fun t84 s28 =>oh (mp (aBin Tryz.prog .sub 3 t77 t84) s28) fun t85 s29 =>oh (aCall Tryz.prog D 48 [t76.strip,t85.strip] s29) fun t86 s30 =>oh (some (t86.strip,s30)) fun t72 s31 =>oh (mp (aExtract 0 t72) s31) fun t87 s32 =>oh (mp (aExtract 1 t72) s32) fun t88 s33 =>oh (some (t87,s33)) fun t8 s34 =>oh (some (t88,s34)) fun t9 s35 =>
 drawOK C 48 (regOps Tryz.f48 10) [.silent,.silent,.silent,(kLoad false t75),.silent,.silent,.silent,.silent,(kLoad false t80),.silent,.silent,(kLoad false t83),.silent,(dyn (kCall [t76.strip,t85.strip]) s29 s30),.silent,.silent,.silent,.silent,.silent] <|
 oh (some (t0.strip,s35)) fun t89 s =>oh (mp (aNilCheck t89) s) fun t90 s =>oh (mp (aAddr 0 t90) s) fun t91 s =>oh (aLoad false false 1 t91 s) fun t92 s =>oh (some (t8.strip,s)) fun t93 s =>oh (aCall Tryz.prog D 46 [t92.strip,t93.strip] s) fun t94 s =>oh (some (t9.strip,s)) fun t95 s =>oh (some (t94,s)) fun t4_6 s =>oh (some (t95,s)) fun t5_6 s =>
 some (.tup [t4_6,t5_6],s)))))
theorem F48_eq (n:Nat)(t0 t1:AV)(s:Heap):den C (n+1) 48 [t0,t1] s=F48 (den C n) n t0 t1 s :=
 (den_body rfl Tryz.func48 _ _).trans (by kernel_rfl)
theorem d48_6 (x:Ans):drawOK C 48 (regOps Tryz.f48 6) [.silent,.silent,.silent,.silent,.silent,.silent,.silent,.silent,.silent,.silent,.silent,.silent,.silent,.silent,.silent,.silent] x=x:=drawOK_ok (by kernel_rfl)
theorem d48_10 (x:Ans):drawOK C 48 (regOps Tryz.f48 10) [.silent,.silent,.silent,.silent,.silent,.silent,.silent,.silent,.silent,.silent,.silent,.silent,.silent,.silent,.silent,.silent,.silent,.silent,.silent] x=x:=drawOK_ok (by kernel_rfl)
theorem en48:enterable Tryz.prog 48=true:=by kernel_rfl
-- (*rope.node).write
noncomputable def F50 (D:Den)(n:Nat)(t0 t1:AV)(s:Heap):Ans :=
 oh (some (t0.strip,s)) fun t4 s =>oh (mp (aNilCheck t4) s) fun t5 s =>oh (mp (aAddr 4 t5) s) fun t6 s =>oh (aLoad false false 1 t6 s) fun t7 s =>oh (mp (aBin Tryz.prog .eql 3 t7 (.int .i64 0)) s) fun t8 s =>
 br t8 (oh (some (t1.strip,s)) fun t9 s =>oh (some (t0.strip,s)) fun t10 s =>oh (mp (aNilCheck t10) s) fun t11 s =>oh (mp (aAddr 2 t11) s) fun t12 s =>oh (aLoad false false 1 t12 s) fun t13 s =>oh (aCall Tryz.prog D 44 [t9.strip,t13.strip] s) fun t14 s =>
 some (.tup [],s)) (oh (some (t0.strip,s)) fun t15 s =>oh (mp (aNilCheck t15) s) fun t16 s =>oh (mp (aAddr 0 t16) s) fun t17 s =>oh (aLoad false false 1 t17 s) fun t18 s =>oh (some (t1.strip,s)) fun t19 s =>oh (aCall Tryz.prog D 50 [t18.strip,t19.strip] s) fun t20 s =>oh (some (t0.strip,s)) fun t21 s =>oh (mp (aNilCheck t21) s) fun t22 s =>oh (mp (aAddr 1 t22) s) fun t23 s =>oh (aLoad false false 1 t23 s) fun t24 s =>oh (some (t1.strip,s)) fun t25 s =>oh (aCall Tryz.prog D 50 [t24.strip,t25.strip] s) fun t26 s =>
 some (.tup [],s))
theorem F50_eq (n:Nat)(t0 t1:AV)(s:Heap):den C (n+1) 50 [t0,t1] s=F50 (den C n) n t0 t1 s :=
 (den_body rfl Tryz.func50 _ _).trans (by kernel_rfl)
theorem en50:enterable Tryz.prog 50=true:=by kernel_rfl
-- rope.rebalance
noncomputable def F78 (D:Den)(n:Nat)(t0 t1:AV)(s:Heap):Ans :=
 oh (some (.nilp,s)) fun t4 s =>oh (some (t0.strip,s)) fun t6 s =>oh (mp (aNilCheck t6) s) fun t7 s =>oh (mp (aAddr 4 t7) s) fun t8 s =>oh (aLoad false false 1 t8 s) fun t9 s =>oh (some (t1.strip,s)) fun t10 s =>oh (mp (aNilCheck t10) s) fun t11 s =>oh (mp (aAddr 4 t11) s) fun t12 s =>oh (aLoad false false 1 t12 s) fun t13 s =>oh (mp (aBin Tryz.prog .add 3 t13 (.int .i64 1)) s) fun t14 s =>oh (mp (aBin Tryz.prog .gtr 3 t9 t14) s) fun t15 s =>oh (some (t15.strip,s)) fun t16 s =>oh (gd (wA t16 true) s (some (t0.strip,s))) fun t17 s =>oh (gd (wA t16 true) s (mp (aNilCheck t17) s)) fun t18 s =>oh (gd (wA t16 true) s (mp (aAddr 0 t18) s)) fun t19 s =>oh (gd (wA t16 true) s (aLoad false false 1 t19 s)) fun t20 s =>oh (gd (wA t16 true) s (mp (aNilCheck t20) s)) fun t21 s =>oh (gd (wA t16 true) s (mp (aAddr 4 t21) s)) fun t22 s =>oh (gd (wA t16 true) s (aLoad false false 1 t22 s)) fun t23 s =>oh (gd (wA t16 true) s (some (t0.strip,s))) fun t24 s =>oh (gd (wA t16 true) s (mp (aNilCheck t24) s)) fun t25 s =>oh (gd (wA t16 true) s (mp (aAddr 1 t25) s)) fun t26 s =>oh (gd (wA t16 true) s (aLoad false false 1 t26 s)) fun t27 s =>oh (gd (wA t16 true) s (mp (aNilCheck t27) s)) fun t28 s =>oh (gd (wA t16 true) s (mp (aAddr 4 t28) s)) fun t29 s =>oh (gd (wA t16 true) s (aLoad false false 1 t29 s)) fun t30 s =>oh (gd (wA t16 true) s (mp (aBin Tryz.prog .geq 3 t23 t30) s)) fun t31 s =>oh (mp (aPick t16 t31 (.bool false)) s) fun t32 s =>oh (some (t32,s)) fun t5 s =>
 drawOK C 78 (regOps Tryz.f78 1) [.silent,.silent,.silent,(kLoad false t8),.silent,.silent,.silent,(kLoad false t12),.silent,.silent,.silent,(kGd (wA t16 true) .silent),(kGd (wA t16 true) .silent),(kGd (wA t16 true) .silent),(kGd (wA t16 true) (kLoad false t19)),(kGd (wA t16 true) .silent),(kGd (wA t16 true) .silent),(kGd (wA t16 true) (kLoad false t22)),(kGd (wA t16 true) .silent),(kGd (wA t16 true) .silent),(kGd (wA t16 true) .silent),(kGd (wA t16 true) (kLoad false t26)),(kGd (wA t16 true) .silent),(kGd (wA t16 true) .silent),(kGd (wA t16 true) (kLoad false t29)),(kGd (wA t16 true) .silent),.silent,.silent] <|
 br t5 (oh (some (t0.strip,s)) fun t33 s1 =>oh (mp (aNilCheck t33) s1) fun t34 s2 =>oh (mp (aAddr 0 t34) s2) fun t35 s3 =>oh (aLoad false false 1 t35 s3) fun t36 s4 =>oh (some (t0.strip,s4)) fun t37 s5 =>oh (mp (aNilCheck t37) s5) fun t38 s6 =>oh (mp (aAddr 1 t38) s6) fun t39 s7 =>oh (aLoad false false 1 t39 s7) fun t40 s8 =>oh (some (t1.strip,s8)) fun t41 s9 =>oh (aCall Tryz.prog D 79 [t40.strip,t41.strip] s9) fun t42 s10 =>oh (aCall Tryz.prog D 79 [t36.strip,t42.strip] s10) fun t43 s11 =>oh (some (t43,s11)) fun t4_2 s12 =>
 drawOK C 78 (regOps Tryz.f78 2) [.silent,.silent,.silent,(kLoad false t35),.silent,.silent,.silent,(kLoad false t39),.silent,(dyn (kCall [t40.strip,t41.strip]) s9 s10),(dyn (kCall [t36.strip,t42.strip]) s10 s11),.silent] <|
 some (t4_2,s12)) (oh (some (t0.strip,s)) fun t45 s =>oh (mp (aNilCheck t45) s) fun t46 s =>oh (mp (aAddr 4 t46) s) fun t47 s =>oh (aLoad false false 1 t47 s) fun t48 s =>oh (some (t1.strip,s)) fun t49 s =>oh (mp (aNilCheck t49) s) fun t50 s =>oh (mp (aAddr 4 t50) s) fun t51 s =>oh (aLoad false false 1 t51 s) fun t52 s =>oh (mp (aBin Tryz.prog .add 3 t52 (.int .i64 1)) s) fun t53 s =>oh (mp (aBin Tryz.prog .gtr 3 t48 t53) s) fun t54 s =>oh (some (t54,s)) fun t44 s =>
 drawOK C 78 (regOps Tryz.f78 3) [.silent,.silent,.silent,(kLoad false t47),.silent,.silent,.silent,(kLoad false t51),.silent,.silent,.silent] <|
 br t44 (oh (some (t0.strip,s)) fun t55 s13 =>oh (mp (aNilCheck t55) s13) fun t56 s14 =>oh (mp (aAddr 0 t56) s14) fun t57 s15 =>oh (aLoad false false 1 t57 s15) fun t58 s16 =>oh (some (t0.strip,s16)) fun t59 s17 =>oh (mp (aNilCheck t59) s17) fun t60 s18 =>oh (mp (aAddr 1 t60) s18) fun t61 s19 =>oh (aLoad false false 1 t61 s19) fun t62 s20 =>oh (mp (aNilCheck t62) s20) fun t63 s21 =>oh (mp (aAddr 0 t63) s21) fun t64 s22 =>oh (aLoad false false 1 t64 s22) fun t65 s23 =>oh (aCall Tryz.prog D 79 [t58.strip,t65.strip] s23) fun t66 s24 =>oh (some (t0.strip,s24)) fun t67 s25 =>oh (mp (aNilCheck t67) s25) fun t68 s26 =>oh (mp (aAddr 1 t68) s26) fun t69 s27 =>oh (aLoad false false 1 t69 s27) fun t70 s28 =>oh (mp (aNilCheck t70) s28) fun t71 s29 =>oh (mp (aAddr 1 t71) s29) fun t72 s30 =>oh (aLoad false false 1 t72 s30) fun t73 s31 =>oh (some (t1.strip,s31)) fun t74 s32 =>oh (aCall Tryz.prog D 79 [t73.strip,t74.strip] s32) fun t75 s33 =>oh (aCall Tryz.prog D 79 [t66.strip,t75.strip] s33) fun t76 s34 =>oh (some (t76,s34)) fun t4_3 s35 =>
 drawOK C 78 (regOps Tryz.f78 4) [.silent,.silent,.silent,(kLoad false t57),.silent,.silent,.silent,(kLoad false t61),.silent,.silent,(kLoad false t64),(dyn (kCall [t58.strip,t65.strip]) s23 s24),.silent,.silent,.silent,(kLoad false t69),.silent,.silent,(kLoad false t72),.silent,(dyn (kCall [t73.strip,t74.strip]) s32 s33),(dyn (kCall [t66.strip,t75.strip]) s33 s34),.silent] <|
 some (t4_3,s35)) (oh (some (t1.strip,s)) fun t78 s =>oh (mp (aNilCheck t78) s) fun t79 s =>oh (mp (aAddr 4 t79) s) fun t80 s =>oh (aLoad false false 1 t80 s) fun t81 s =>oh (some (t0.strip,s)) fun t82 s =>oh (mp (aNilCheck t82) s) fun t83 s =>oh (mp (aAddr 4 t83) s) fun t84 s =>oh (aLoad false false 1 t84 s) fun t85 s =>oh (mp (aBin Tryz.prog .add 3 t85 (.int .i64 1)) s) fun t86 s =>oh (mp (aBin Tryz.prog .gtr 3 t81 t86) s) fun t87 s =>oh (some (t87.strip,s)) fun t88 s =>oh (gd (wA t88 true) s (some (t1.strip,s))) fun t89 s =>oh (gd (wA t88 true) s (mp (aNilCheck t89) s)) fun t90 s =>oh (gd (wA t88 true) s (mp (aAddr 1 t90) s)) fun t91 s =>oh (gd (wA t88 true) s (aLoad false false 1 t91 s)) fun t92 s =>oh (gd (wA t88 true) s (mp (aNilCheck t92) s)) fun t93 s =>oh (gd (wA t88 true) s (mp (aAddr 4 t93) s)) fun t94 s =>oh (gd (wA t88 true) s (aLoad false false 1 t94 s)) fun t95 s =>oh (gd (wA t88 true) s (some (t1.strip,s))) fun t96 s =>oh (gd (wA t88 true) s (mp (aNilCheck t96) s)) fun t97 s =>oh (gd (wA t88 true) s (mp (aAddr 0 t97) s)) fun t98 s =>oh (gd (wA t88 true) s (aLoad false false 1 t98 s)) fun t99 s =>oh (gd (wA t88 true) s (mp (aNilCheck t99) s)) fun t100 s =>oh (gd (wA t88 true) s (mp (aAddr 4 t100) s)) fun t101 s =>oh (gd (wA t88 true) s (aLoad false false 1 t101 s)) fun t102 s =>oh (gd (wA t88 true) s (mp (aBin Tryz.prog .geq 3 t95 t102) s)) fun t103 s =>oh (mp (aPick t88 t103 (.bool false)) s) fun t104 s =>oh (some (t104,s)) fun t77 s =>
 drawOK C 78 (regOps Tryz.f78 5) [.silent,.silent,.silent,(kLoad false t80),.silent,.silent,.silent,(kLoad false t84),.silent,.silent,.silent,(kGd (wA t88 true) .silent),(kGd (wA t88 true) .silent),(kGd (wA t88 true) .silent),(kGd (wA t88 true) (kLoad false t91)),(kGd (wA t88 true) .silent),(kGd (wA t88 true) .silent),(kGd (wA t88 true) (kLoad false t94)),(kGd (wA t88 true) .silent),(kGd (wA t88 true) .silent),(kGd (wA t88 true) .silent),(kGd (wA t88 true) (kLoad false t98)),(kGd (wA t88 true) .silent),(kGd (wA t88 true) .silent),(kGd (wA t88 true) (kLoad false t101)),(kGd (wA t88 true) .silent),.silent,.silent] <|
 br t77 (oh (some (t0.strip,s)) fun t105 s36 =>oh (some (t1.strip,s36)) fun t106 s37 =>oh (mp (aNilCheck t106) s37) fun t107 s38 =>oh (mp (aAddr 0 t107) s38) fun t108 s39 =>oh (aLoad false false 1 t108 s39) fun t109 s40 =>oh (aCall Tryz.prog D 79 [t105.strip,t109.strip] s40) fun t110 s41 =>oh (some (t1.strip,s41)) fun t111 s42 =>oh (mp (aNilCheck t111) s42) fun t112 s43 =>oh (mp (aAddr 1 t112) s43) fun t113 s44 =>oh (aLoad false false 1 t113 s44) fun t114 s45 =>oh (aCall Tryz.prog D 79 [t110.strip,t114.strip] s45) fun t115 s46 =>oh (some (t115,s46)) fun t4_4 s47 =>
 drawOK C 78 (regOps Tryz.f78 6) [.silent,.silent,.silent,.silent,(kLoad false t108),(dyn (kCall [t105.strip,t109.strip]) s40 s41),.silent,.silent,.silent,(kLoad false t113),(dyn (kCall [t110.strip,t114.strip]) s45 s46),.silent] <|
 some (t4_4,s47)) (oh (some (t1.strip,s)) fun t117 s =>oh (mp (aNilCheck t117) s) fun t118 s =>oh (mp (aAddr 4 t118) s) fun t119 s =>oh (aLoad false false 1 t119 s) fun t120 s =>oh (some (t0.strip,s)) fun t121 s =>oh (mp (aNilCheck t121) s) fun t122 s =>oh (mp (aAddr 4 t122) s) fun t123 s =>oh (aLoad false false 1 t123 s) fun t124 s =>oh (mp (aBin Tryz.prog .add 3 t124 (.int .i64 1)) s) fun t125 s =>oh (mp (aBin Tryz.prog .gtr 3 t120 t125) s) fun t126 s =>oh (some (t126,s)) fun t116 s =>
 drawOK C 78 (regOps Tryz.f78 7) [.silent,.silent,.silent,(kLoad false t119),.silent,.silent,.silent,(kLoad false t123),.silent,.silent,.silent] <|
 br t116 (oh (some (t0.strip,s)) fun t127 s48 =>oh (some (t1.strip,s48)) fun t128 s49 =>oh (mp (aNilCheck t128) s49) fun t129 s50 =>oh (mp (aAddr 0 t129) s50) fun t130 s51 =>oh (aLoad false false 1 t130 s51) fun t131 s52 =>oh (mp (aNilCheck t131) s52) fun t132 s53 =>oh (mp (aAddr 0 t132) s53) fun t133 s54 =>oh (aLoad false false 1 t133 s54) fun t134 s55 =>oh (aCall Tryz.prog D 79 [t127.strip,t134.strip] s55) fun t135 s56 =>oh (some (t1.strip,s56)) fun t136 s57 =>oh (mp (aNilCheck t136) s57) fun t137 s58 =>oh (mp (aAddr 0 t137) s58) fun t138 s59 =>oh (aLoad false false 1 t138 s59) fun t139 s60 =>oh (mp (aNilCheck t139) s60) fun t140 s61 =>oh (mp (aAddr 1 t140) s61) fun t141 s62 =>oh (aLoad false false 1 t141 s62) fun t142 s63 =>oh (some (t1.strip,s63)) fun t143 s64 =>oh (mp (aNilCheck t143) s64) fun t144 s65 =>oh (mp (aAddr 1 t144) s65) fun t145 s66 =>oh (aLoad false false 1 t145 s66) fun t146 s67 =>oh (aCall Tryz.prog D 79 [t142.strip,t146.strip] s67) fun t147 s68 =>oh (aCall Tryz.prog D 79 [t135.strip,t147.strip] s68) fun t148 s69 =>oh (some (t148,s69)) fun t4_5 s70 =>
 drawOK C 78 (regOps Tryz.f78 8) [.silent,.silent,.silent,.silent,(kLoad false t130),.silent,.silent,(kLoad false t133),(dyn (kCall [t127.strip,t134.strip]) s55 s56),.silent,.silent,.silent,(kLoad false t138),.silent,.silent,(kLoad false t141),.silent,.silent,.silent,(kLoad false t145),(dyn (kCall [t142.strip,t146.strip]) s67 s68),(dyn (kCall [t135.strip,t147.strip]) s68 s69),.silent] <|
 some (t4_5,s70)) (oh (some (t0.strip,s)) fun t149 s =>oh (some (t1.strip,s)) fun t150 s =>oh (aCall Tryz.prog D 79 [t149.strip,t150.strip] s) fun t151 s =>oh (some (t151,s)) fun t4_6 s =>
 some (t4_6,s)))))
theorem F78_eq (n:Nat)(t0 t1:AV)(s:Heap):den C (n+1) 78 [t0,t1] s=F78 (den C n) n t0 t1 s :=
 (den_body rfl Tryz.func78 _ _).trans (by kernel_rfl)
theorem d78_1 (x:Ans):drawOK C 78 (regOps Tryz.f78 1) [.silent,.silent,.silent,.silent,.silent,.silent,.silent,.silent,.silent,.silent,.silent,.silent,.silent,.silent,.silent,.silent,.silent,.silent,.silent,.silent,.silent,.silent,.silent,.silent,.silent,.silent,.silent,.silent] x=x:=drawOK_ok (by kernel_rfl)
theorem d78_2 (x:Ans):drawOK C 78 (regOps Tryz.f78 2) [.silent,.silent,.silent,.silent,.silent,.silent,.silent,.silent,.silent,.silent,.silent,.silent] x=x:=drawOK_ok (by kernel_rfl)
theorem d78_3 (x:Ans):drawOK C 78 (regOps Tryz.f78 3) [.silent,.silent,.silent,.silent,.silent,.silent,.silent,.silent,.silent,.silent,.silent] x=x:=drawOK_ok (by kernel_rfl)
theorem d78_4 (x:Ans):drawOK C 78 (regOps Tryz.f78 4) [.silent,.silent,.silent,.silent,.silent,.silent,.silent,.silent,.silent,.silent,.silent,.silent,.silent,.silent,.silent,.silent,.silent,.silent,.silent,.silent,.silent,.silent,.silent] x=x:=drawOK_ok (by kernel_rfl)
theorem d78_5 (x:Ans):drawOK C 78 (regOps Tryz.f78 5) [.silent,.silent,.silent,.silent,.silent,.silent,.silent,.silent,.silent,.silent,.silent,.silent,.silent,.silent,.silent,.silent,.silent,.silent,.silent,.silent,.silent,.silent,.silent,.silent,.silent,.silent,.silent,.silent] x=x:=drawOK_ok (by kernel_rfl)
theorem d78_6 (x:Ans):drawOK C 78 (regOps Tryz.f78 6) [.silent,.silent,.silent,.silent,.silent,.silent,.silent,.silent,.silent,.silent,.silent,.silent] x=x:=drawOK_ok (by kernel_rfl)
theorem d78_7 (x:Ans):drawOK C 78 (regOps Tryz.f78 7) [.silent,.silent,.silent,.silent,.silent,.silent,.silent,.silent,.silent,.silent,.silent] x=x:=drawOK_ok (by kernel_rfl)
theorem d78_8 (x:Ans):drawOK C 78 (regOps Tryz.f78 8) [.silent,.silent,.silent,.silent,.silent,.silent,.silent,.silent,.silent,.silent,.silent,.silent,.silent,.silent,.silent,.silent,.silent,.silent,.silent,.silent,.silent,.silent,.silent] x=x:=drawOK_ok (by kernel_rfl)
theorem en78:enterable Tryz.prog 78=true:=by kernel_rfl
-- rope.newNode
noncomputable def F79 (D:Den)(n:Nat)(t0 t1:AV)(s:Heap):Ans :=
 oh (some (.nilp,s)) fun t4 s =>oh (some (t0.strip,s)) fun t5 s =>oh (some (t1.strip,s)) fun t6 s =>oh (some (t0.strip,s)) fun t7 s =>oh (mp (aNilCheck t7) s) fun t8 s =>oh (mp (aAddr 3 t8) s) fun t9 s =>oh (aLoad false false 1 t9 s) fun t10 s =>oh (some (t1.strip,s)) fun t11 s =>oh (mp (aNilCheck t11) s) fun t12 s =>oh (mp (aAddr 3 t12) s) fun t13 s =>oh (aLoad false false 1 t13 s) fun t14 s =>oh (mp (aBin Tryz.prog .add 3 t10 t14) s) fun t15 s =>oh (some (t0.strip,s)) fun t16 s =>oh (mp (aNilCheck t16) s) fun t17 s =>oh (mp (aAddr 4 t17) s) fun t18 s =>oh (aLoad false false 1 t18 s) fun t19 s =>oh (some (t1.strip,s)) fun t20 s =>oh (mp (aNilCheck t20) s) fun t21 s =>oh (mp (aAddr 4 t21) s) fun t22 s =>oh (aLoad false false 1 t22 s) fun t23 s =>oh (mp (aMax t19 t23) s) fun t24 s =>oh (mp (aBin Tryz.prog .add 3 t24 (.int .i64 1)) s) fun t25 s =>oh (some (t0.strip,s)) fun t26 s =>oh (mp (aNilCheck t26) s) fun t27 s =>oh (mp (aAddr 5 t27) s) fun t28 s =>oh (aLoad false false 1 t28 s) fun t29 s =>oh (some (t1.strip,s)) fun t30 s =>oh (mp (aNilCheck t30) s) fun t31 s =>oh (mp (aAddr 5 t31) s) fun t32 s =>oh (aLoad false false 1 t32 s) fun t33 s =>oh (mp (aBin Tryz.prog .add 3 t29 t33) s) fun t34 s =>oh (mp (aBuild Tryz.prog 144 [(0,t5),(1,t6),(3,t15),(4,t25),(5,t34)]) s) fun t35 s =>oh (aBox false 144 t35 s) fun t36 s =>oh (some (t36,s)) fun t4_2 s =>
 drawOK C 79 (regOps Tryz.f79 1) [.silent,.silent,.silent,.silent,.silent,(kLoad false t9),.silent,.silent,.silent,(kLoad false t13),.silent,.silent,.silent,.silent,(kLoad false t18),.silent,.silent,.silent,(kLoad false t22),.silent,.silent,.silent,.silent,.silent,(kLoad false t28),.silent,.silent,.silent,(kLoad false t32),.silent,.silent,.silent,.silent] <|
 some (t4_2,s)
theorem F79_eq (n:Nat)(t0 t1:AV)(s:Heap):den C (n+1) 79 [t0,t1] s=F79 (den C n) n t0 t1 s :=
 (den_body rfl Tryz.func79 _ _).trans (by kernel_rfl)
theorem d79_1 (x:Ans):drawOK C 79 (regOps Tryz.f79 1) [.silent,.silent,.silent,.silent,.silent,.silent,.silent,.silent,.silent,.silent,.silent,.silent,.silent,.silent,.silent,.silent,.silent,.silent,.silent,.silent,.silent,.silent,.silent,.silent,.silent,.silent,.silent,.silent,.silent,.silent,.silent,.silent,.silent] x=x:=drawOK_ok (by kernel_rfl)
theorem en79:enterable Tryz.prog 79=true:=by kernel_rfl
end RopeF
end

section
namespace Srv
open Go Go.Abs Go.Proofs
abbrev Bytes:=List UInt8
theorem strip_rs (a b c d e:Nat):(AV.rs a b c d e).strip=.rs a b c d e:=rfl
theorem strip_mr (a:Nat):(AV.mr a).strip=.mr a:=rfl
theorem strip_nilf:AV.nilf.strip=.nilf:=rfl
abbrev I (n:Int):AV:=.int .i64 n
theorem gset_ne {s:Heap}{i j:Nat}{v:TypeId×List AV}(h:i≠j):(s.set i v)[j]?=s[j]?:=List.getElem?_set_ne h
theorem gset_eq {s:Heap}{i:Nat}{v w:TypeId×List AV}(h:s[i]?=some w):(s.set i v)[i]?=some v:=List.getElem?_set_self (List.getElem?_eq_some_iff.1 h).1
theorem gapp_old {s:Heap}{x:TypeId×List AV}{j:Nat}(h:j<s.length):(s++[x])[j]?=s[j]?:=List.getElem?_append_left h
theorem gapp_new {s:Heap}{x:TypeId×List AV}:(s++[x])[s.length]?=some x:=by simp
theorem set_length (s:Heap)(i:Nat)(v:TypeId×List AV):(s.set i v).length=s.length:=List.length_set
theorem app_length (s:Heap)(x:TypeId×List AV):(s++[x]).length=s.length+1:=by simp
theorem glt {s:Heap}{i:Nat}{w:TypeId×List AV}(h:s[i]?=some w):i<s.length:=(List.getElem?_eq_some_iff.1 h).1
theorem set_end (s:Heap)(x y:TypeId×List AV):(s++[x]).set s.length y=s++[y]:=by
 rw[List.set_append_right _ _ (Nat.le_refl _),Nat.sub_self];rfl
theorem ld {s:Heap}{i o n:Nat}{ty:TypeId}{cs:List AV}{v:AV}(h:s[i]?=some (ty,cs))(ht:ty<deadTy)(hv:cs[o]?=some v)(hn:n≠0):aLoad false false n (.ref i o) s=some (v.strip,s):=by
 have:¬deadTy≤ty:=Nat.not_le.2 ht
 simp[aLoad,aLoadR,h,this,hn,aLoadC,hv]
theorem ldv {s:Heap}{i o:Nat}{ty:TypeId}{cs:List AV}{w:AV}(h:s[i]?=some (ty,cs))(ht:ty<deadTy)(hv:cs[o]?=some w)(hw:w.strip=w:=by rfl):aLoad false false 1 (.ref i o) s=some (w,s):=by
 rw[ld h ht hv (by decide),hw]
theorem ldA {s:Heap}{i o n:Nat}{ty:TypeId}{cs:List AV}(h:s[i]?=some (ty,cs))(ht:ty<deadTy)(hv:o+n≤cs.length)(hn:n≠0):aLoad false true n (.ref i o) s=some (.agg ((cs.drop o).take n),s):=by
 have:¬deadTy≤ty:=Nat.not_le.2 ht
 simp[aLoad,aLoadR,h,this,hn,aLoadC,hv]
theorem st {s:Heap}{i o n:Nat}{ty:TypeId}{cs:List AV}{v:AV}(h:s[i]?=some (ty,cs))(ht:ty<deadTy)(hs:v.solid=true)(hl:v.cells.length=n)(ho:o+n≤cs.length):aStore n s (.ref i o) v=some (s.set i (ty,setL cs o (stCells v))):=by
 simp[aStore,h,ht,hs,hl,ho]
theorem allocG {t:Nat}{zc:List AV}(hz:zeroOf Tryz.prog t=some (.agg zc))(ht:t<deadTy)(h:zc≠[]∧zc.map AV.strip=zc)(s:Heap):aAlloc Tryz.prog t s=some (.ref s.length 0,s++[(t,zc)]):=by
 have h1:zc.isEmpty=false:=by cases zc with|nil=>exact absurd rfl h.1|cons=>rfl
 simp[aAlloc,hz,h.2,h1,ht]
theorem boxG {n:Nat}{a:List AV}(h:a.length=n)(tk:Bool)(s:Heap):aLoad tk true n (.box a 0) s=some (.agg a,s):=by
 rw[aLoad_agg _ _ _ _ _ (by omega),List.drop_zero,List.take_of_length_le (by omega)]
theorem boxR {t:Nat}{x:AV}(ht:t<deadTy)(hs:x.solid=true)(hc:x.cells≠[])(s:Heap):aBox true t x s=some (.ref s.length 0,s++[(t,x.cells.map AV.strip)]):=by
 have h1:x.cells.isEmpty=false:=by cases h:x.cells with|nil=>exact absurd h hc|cons=>rfl
 have h2:¬deadTy≤t:=Nat.not_le.2 ht
 simp[aBox,hs,h1,h2]
theorem boxV {t:Nat}{x:AV}(hs:x.solid=true)(s:Heap):aBox false t x s=some (.box x.cells 0,s):=by simp[aBox,hs]
theorem mkmap (s:Heap):aMakeMap s=some (.mr s.length,s++[(mapTy,[.undef])]):=rfl
theorem in_new (n:Nat)(s:Heap):den C (n+1) 57 [] s=some (.ref (s.length+1) 0,s++[(mapTy,[.undef])]++[(148,[I 0,I 0,I 0,I 0,.mr s.length])]):=by
 have bd:aBuild Tryz.prog 148 [(2,.mr s.length)]=some (.agg [I 0,I 0,I 0,I 0,.mr s.length]):=by
  have:∀x,aBuild Tryz.prog 148 [(2,.mr x)]=some (.agg [I 0,I 0,I 0,I 0,.mr x]):=fun x=>by kernel_rfl
  exact this _
 rw[rd Tryz.func57];conv in compF _ _ _ _ _ _=>cbv
 simp only[strip_rs,strip_mr,strip_nilf,Bool.false_eq_true,if_false,↓kR,kE,kK,sL,C_P,Nat.reduceEqDiff,reduceIte,Tryz.f57,mkmap,bd,boxR (t:=148) (by decide) (rfl:(AV.agg [I 0,I 0,I 0,I 0,.mr s.length]).solid=true) (by simp[AV.cells]),app_length]
def Gr (s s':Heap):Prop:=∃t,s'=s++t
theorem Gr.refl (s:Heap):Gr s s:=⟨[],by simp⟩
theorem Gr.trans {a b c:Heap}(h:Gr a b)(k:Gr b c):Gr a c:=by obtain⟨t,rfl⟩:=h;obtain⟨u,rfl⟩:=k;exact⟨t++u,by simp⟩
theorem Gr.app (s:Heap)(v:TypeId×List AV):Gr s (s++[v]):=⟨[v],rfl⟩
theorem Gr.get {s s':Heap}(h:Gr s s'){i:Nat}(hi:i<s.length):s'[i]?=s[i]?:=by obtain⟨t,rfl⟩:=h;exact List.getElem?_append_left hi
theorem Gr.at {s s':Heap}(h:Gr s s'){i:Nat}{x:TypeId×List AV}(hi:s[i]?=some x):s'[i]?=some x:=(h.get (glt hi)).trans hi
theorem Gr.len {s s':Heap}(h:Gr s s'):s.length≤s'.length:=by obtain⟨t,rfl⟩:=h;simp
def Info (e z:Nat):Prop:=∃i zz,Tryz.prog.info? e=some i∧i.size=z∧i.zero=some zz∧zz.cells.size=z∧i.bytes≤200
theorem infoG {e z:Nat}(h:(Tryz.prog.info? e).map (fun i=>(i.size,i.zero.map (·.cells.size),decide (i.bytes≤200)))=some (z,some z,true)):Info e z:=by
 rw[Option.map_eq_some_iff]at h
 obtain⟨i,h1,h2⟩:=h
 simp only[Prod.mk.injEq,Option.map_eq_some_iff,decide_eq_true_eq]at h2
 obtain⟨a,⟨zz,b,c⟩,d⟩:=h2
 exact⟨i,zz,h1,a,b,c,d⟩
theorem apS {t t2 e e2 z:Nat}(hu:Tryz.prog.underlying t=some (.slice e))(hu2:Tryz.prog.underlying t2=some (.slice e2))(hi:Info e z)(hz:z≠0)(he:e<deadTy){s:Heap}{y x:AV}{ys:List AV}(hx:x=.nils∨x=.sl e z [] .full)(h:srcH z y s=some ys)(hn:ys.length<1000000000) :
  (ys=[]→aRsAppend Tryz.prog t t2 x y s=some (x,s))∧(ys≠[]→aRsAppend Tryz.prog t t2 x y s=some (.rs e z s.length 0 ys.length,s++[(e,(cellsOf ys).map AV.strip)])):=by
 obtain⟨i,zz,h1,h2,h3,h4,h5⟩:=hi
 have hb:bound i ys.length:=bound_of (by
  have:(2*ys.length+768)*i.bytes≤(2*ys.length+768)*200:=Nat.mul_le_mul_left _ h5
  omega) (by omega)
 subst h2
 have h6:¬deadTy≤e:=Nat.not_le.2 he
 unfold aRsAppend
 rw[hu,hu2]
 simp only[h1,h,h3,h4,h6,hz,ne_eq,not_true_eq_false,or_self,if_false]
 refine⟨fun hy=>?_,fun hy=>?_⟩
 ·subst hy
  rcases hx with rfl|rfl
  ·simp only[if_pos hb]
  ·simp only[if_pos hb]
 ·cases ys with
  | nil=>exact absurd rfl hy
  | cons a r =>
   rcases hx with rfl|rfl
   ·simp only[if_pos hb]
   ·simp only[if_pos hb]
theorem iS (i:Nat):I ((i:Int)+1)=I ((i+1:Nat):Int):=by simp
theorem under59:Tryz.prog.underlying 59=some (.slice 3):=by kernel_rfl
theorem sz3:szOf Tryz.prog 3=some 1:=by kernel_rfl
inductive NV (s:Heap):AV→List Int→Prop
 | nil:NV s .nils []
 | sl (xs:List Int) (f:Flag) (hb:xs.length<1000000000):NV s (.sl 3 1 (xs.map I) f) xs
 | rs (Q:Nat) (junk:List AV) (ns:List Int) (h:s[Q]?=some (3,ns.map I++junk)) (hb:ns.length<1000000000) (hp:0<ns.length):NV s (.rs 3 1 Q 0 ns.length) ns
theorem NV.gr {s s':Heap}{v:AV}{xs:List Int}(h:NV s v xs)(g:Gr s s'):NV s' v xs:=by
 cases h with
 | nil=>exact .nil
 | sl xs f hb=>exact .sl xs f hb
 | rs Q junk ns h hb hp=>exact .rs Q junk _ (g.at h) hb hp
theorem NV.fr {s s':Heap}{v:AV}{xs:List Int}(h:NV s v xs)(g:∀Q n,v=.rs 3 1 Q 0 n→s'[Q]?=s[Q]?):NV s' v xs:=by
 cases h with
 | nil=>exact .nil
 | sl xs f hb=>exact .sl xs f hb
 | rs Q junk ns h hb hp=>exact .rs Q junk _ ((g Q _ rfl).trans h) hb hp
theorem NV.bnd {s:Heap}{v:AV}{xs:List Int}(h:NV s v xs):xs.length<1000000000:=by
 cases h with
 | nil=>decide
 | sl xs f hb=>exact hb
 | rs Q junk ns h hb hp=>exact hb
theorem NV.row {s:Heap}{v:AV}{xs:List Int}(h:NV s v xs){Q n:Nat}(e:v=.rs 3 1 Q 0 n):∃cs,s[Q]?=some (3,cs):=by
 cases h with
 | nil=>cases e
 | sl xs f hb=>cases e
 | rs Q junk ns h hb hp=>cases e;exact⟨_,h⟩
theorem NV.len {s:Heap}{v:AV}{xs:List Int}(h:NV s v xs):aLen Tryz.prog 59 v=some (I xs.length):=by
 cases h with
 | nil=>simp[aLen,under59]
 | sl xs f hb=>simp[aLen,under59]
 | rs Q junk ns h hb hp=>simp[aLen,under59]
theorem NV.strip {s:Heap}{v:AV}{xs:List Int}(h:NV s v xs):NV s v.strip xs:=by
 cases h with
 | nil=>exact .nil
 | sl xs f hb=>cases f<;>exact .sl xs _ hb
 | rs Q junk ns h hb hp=>exact .rs Q junk _ h hb hp
def Rd (p:AV):Prop:=(∃a o,p=.box a o)∨∃i o,p=.ref i o
theorem rd_compat {p q:AV}(h:Rd p)(k:Rd q):compat (kLoad false p) (kLoad false q)=true:=by
 rcases h with ⟨_,_,rfl⟩|⟨_,_,rfl⟩<;>rcases k with ⟨_,_,rfl⟩|⟨_,_,rfl⟩<;>rfl
theorem NV.at {s:Heap}{v:AV}{xs:List Int}(h:NV s v xs){i:Nat}(hi:i<xs.length):∃p,aIndexAddr Tryz.prog 59 v (I i)=some p∧aLoad false false 1 p s=some (I xs[i],s)∧Rd p:=by
 cases h with
 | nil=>cases hi
 | sl xs f hb =>
  refine⟨.box [I xs[i]] 0,?_,by rw[aLoad_one];rfl,.inl ⟨_,_,rfl⟩⟩
  have:(xs.map I)[i]?=some (I xs[i]):=by rw[List.getElem?_map,List.getElem?_eq_getElem hi];rfl
  simp[aIndexAddr,under59,sz3,this,AV.cells]
 | rs Q junk _ h hb hp =>
  have hlt:(i:Int)<xs.length:=by omega
  refine⟨.ref Q i,by simp[aIndexAddr,under59,sz3,hlt],?_,.inr ⟨_,_,rfl⟩⟩
  refine ld (n:=1) (v:=I xs[i]) h (by decide) ?_ (by decide)
  rw[List.getElem?_append_left (by simpa using hi),List.getElem?_map,List.getElem?_eq_getElem hi];rfl
theorem fkc {i t n:Nat}{agg:Bool}{env:Env}{s:Heap}{x:AV}(h1:isAggT Tryz.prog t=some agg)(h2:szOf Tryz.prog t=some n)(h:aLoad false agg n (env i) s=some (x,s)):finK Tryz.prog [.cell i t] env s=some (x,s):=by
 simp[finK,aResult,aRes1,h1,h2,h]
theorem fkc3 {i t n j k:Nat}{agg:Bool}{env:Env}{s:Heap}{x:AV}(h1:isAggT Tryz.prog t=some agg)(h2:szOf Tryz.prog t=some n)(h:aLoad false agg n (env i) s=some (x,s)):finK Tryz.prog [.cell i t,.tmp j,.tmp k] env s=some (.tup [x,env j,env k],s):=by
 simp[finK,aResult,aResL,aRes1,h1,h2,h]
theorem cFs {D:Den}{g:FuncId}(args:List AV)(s:Heap)(h:enterable Tryz.prog g=true):aCallF Tryz.prog D g args s=D g args s:=if_pos h
theorem Gr.set {s s1:Heap}{x y:TypeId×List AV}(h:Gr (s++[x]) s1):Gr s (s1.set s.length y)∧(s1.set s.length y)[s.length]?=some y∧∀i,i≠s.length→(s1.set s.length y)[i]?=s1[i]?:=by
 obtain⟨t,rfl⟩:=h
 refine⟨⟨y::t,?_⟩,gset_eq (w:=x) (by rw[List.append_assoc,List.getElem?_append_right (Nat.le_refl _)];simp),fun i hi=>gset_ne (Ne.symm hi)⟩
 rw[List.append_assoc,List.set_append_right _ _ (Nat.le_refl _),Nat.sub_self];rfl
theorem stW {s:Heap}{i n:Nat}{ty:TypeId}{cs a:List AV}(h:s[i]?=some (ty,cs))(ht:ty<deadTy)(hl:a.length=n)(hc:cs.length=n)(hs:a.map AV.strip=a):aStore n s (.ref i 0) (.agg a)=some (s.set i (ty,a)):=by
 rw[st (n:=n) (o:=0) (v:=.agg a) h ht rfl (by show a.length=n;exact hl) (by omega)]
 have:=setL_eq (a.map AV.strip) cs 0 (by simp;omega)
 show some (s.set i (ty,setL cs 0 (a.map AV.strip)))=_
 rw[this,hs,List.take_zero,List.nil_append,List.drop_of_length_le (by omega),List.append_nil]
end Srv
end

section
namespace Srv
open Go Go.Abs Go.Proofs
theorem info3:Info 3 1:=infoG (by kernel_rfl)
theorem cells_I (xs:List Int):cellsOf (xs.map I)=xs.map I:=by
 induction xs with
 | nil=>rfl
 | cons x xs ih=>show [I x]++cellsOf (xs.map I)=_;rw[ih];rfl
theorem strip_I (xs:List Int):(xs.map I).map AV.strip=xs.map I:=by
 rw[List.map_map];rfl
theorem NV.src {s:Heap}{v:AV}{xs:List Int}(h:NV s v xs):∃ys,srcH 1 v s=some ys∧ys.length=xs.length∧(cellsOf ys).map AV.strip=xs.map I∧xs.length<1000000000:=by
 cases h with
 | nil=>exact⟨[],rfl,rfl,rfl,by decide⟩
 | sl xs f hb=>exact⟨_,rfl,by simp,by rw[cells_I,strip_I],hb⟩
 | rs Q junk _ h hb hp =>
  have hl:xs.length*1≤(xs.map I++junk).length:=by simp
  have hne:xs.map I++junk≠[]:=by
   intro e;rw[e]at hl;simp only[List.length_nil,Nat.mul_one]at hl;omega
  refine⟨chunkH 1 xs.length (xs.map I++junk),?_,chunkH_length ..,?_,hb⟩
  ·simp only[srcH,h,true_and,and_self,if_true]
   rw[if_pos ⟨by decide,hl,hne⟩]
  ·rw[(chunkH_cells 1 xs.length _ hl).1,Nat.mul_one,List.take_left' (by simp),strip_I]
def NewR (s:Heap)(v:AV):Prop:=∀Q n,v=.rs 3 1 Q 0 n→s.length≤Q
theorem NewR.nil (s:Heap):NewR s .nils:=fun _ _ e=>(by cases e)
theorem NewR.sl (s:Heap)(xs:List AV)(f:Flag):NewR s (.sl 3 1 xs f):=fun _ _ e=>(by cases e)
theorem c60 (n:Nat){s:Heap}{v:AV}{xs:List Int}(h:NV s v xs):∃v' s',den C (n+1) 60 [v] s=some (v',s')∧NV s' v' xs∧Gr s s'∧NewR s v':=by
 rw[rd Tryz.func60];conv in compF _ _ _ _ _ _=>cbv
 simp only[strip_rs,strip_mr,strip_nilf,Bool.false_eq_true,if_false,↓kR,kE,kK,sL,C_P,Nat.reduceEqDiff,reduceIte,Tryz.f60,]
 have hs:=h.strip
 have bs:aBuildSlice Tryz.prog 59 0 []=some (.sl 3 1 [] .full):=by kernel_rfl
 generalize v.strip=w at hs ⊢
 have k:w≠.nils→aBin Tryz.prog .eql 59 w .nils=some (.bool false)→∃v' s',(oh (mp (aBin Tryz.prog .eql 59 w .nils) s) fun r s'=>br r (some (AV.nils,s')) (oh (mp (aBuildSlice Tryz.prog 59 0 []) s') fun r s'=>oh (aRsAppend Tryz.prog 59 59 r w s') fun r s'=>some (r,s')))=some (v',s')∧NV s' v' xs∧Gr s s'∧NewR s v':=by
  intro _ e
  obtain⟨ys,h1,h2,h3,h4⟩:=hs.src
  obtain⟨a1,a2⟩:=apS (x:=.sl 3 1 [] .full) under59 under59 info3 (by decide) (by decide) (.inr rfl) h1 (by omega)
  by_cases hy:ys=[]
  ·subst hy
   have:xs=[]:=List.length_eq_zero_iff.1 h2.symm
   subst this
   exact⟨.sl 3 1 [] .full,s,by simp only[e,bs,a1 rfl,sL],.sl [] _ (by decide),.refl _,.sl _ _ _⟩
  ·refine⟨.rs 3 1 s.length 0 xs.length,s++[(3,xs.map I)],by simp only[e,bs,a2 hy,h3,h2,sL],?_,Gr.app ..,fun Q n e=>by cases e;exact Nat.le_refl _⟩
   have hp:0<xs.length:=by rw[←h2];exact List.length_pos_iff.2 hy
   exact .rs _ [] xs (by rw[gapp_new,List.append_nil]) h4 hp
 cases hs with
 | nil=>exact⟨.nils,s,by kernel_rfl,.nil,.refl _,.nil _⟩
 | sl _ f hb=>exact k nofun (by simp[aBin,aEq,under59,eqOp])
 | rs Q junk _ h hb hp=>exact k nofun (by simp[aBin,aEq,under59,eqOp])
theorem loopI {body:(Env→Heap→Ans)→Env→Heap→Ans}{R:Ans→Prop}(Inv:Nat→Env→Heap→Prop)(N:Nat)
  (step:∀i e s k,i<N→Inv i e s→(∀e' s',Inv (i+1) e' s'→R (k e' s'))→R (body k e s))
  (stop:∀e s k,Inv N e s→R (body k e s)):∀(d i:Nat),d+i=N→∀n,d<n→∀e s,Inv i e s→R (aLoop body n e s)
 | 0,i,hi,n,hn,e,s,h=>by
  obtain⟨m,rfl⟩:=Nat.exists_eq_succ_of_ne_zero (by omega:n≠0)
  rw[Nat.zero_add]at hi;subst hi
  exact stop e s _ h
 | d+1,i,hi,n,hn,e,s,h=>by
  obtain⟨m,rfl⟩:=Nat.exists_eq_succ_of_ne_zero (by omega:n≠0)
  exact step i e s _ (by omega) h fun e' s' h'=>loopI Inv N step stop d (i+1) (by omega) m (by omega) e' s' h'
theorem c157 (n:Nat){s:Heap}{v w:AV}{xs ys:List Int}(h:NV s v xs)(k:NV s w ys)(hn:xs.length<n):den C (n+1) 157 [v,w] s=some (.bool (decide (xs=ys)),s):=by
 rw[rd Tryz.func157];conv in compF _ _ _ _ _ _=>cbv
 simp only[strip_rs,strip_mr,strip_nilf,Bool.false_eq_true,if_false,↓kR,kE,kK,sL,C_P,Nat.reduceEqDiff,reduceIte,Tryz.f157,]
 have hs:=h.strip
 have ks:=k.strip
 generalize hv:v.strip=v' at hs ⊢
 generalize hw:w.strip=w' at ks ⊢
 simp only[strip_rs,strip_mr,strip_nilf,Bool.false_eq_true,if_false,↓kR,kE,kK,sL,C_P,Nat.reduceEqDiff,reduceIte,hs.len,ks.len,sL]
 have hb:=h.bnd
 by_cases hl:xs.length=ys.length
 ·have e1:((xs.length:Int) != ys.length)=false:=by simp[hl]
  rw[e1]
  simp only[sL]
  refine loopI (R:=fun a=>a=some (AV.bool (decide (xs=ys)),s)) (fun i e s1=>s1=s∧e 0=v∧e 1=w∧e 12=I xs.length∧e 13=I i∧xs.take i=ys.take i) xs.length ?_ ?_ xs.length 0 (by omega) n hn _ _ ⟨rfl,rfl,rfl,rfl,rfl,rfl⟩
  ·rintro i e _ k hi ⟨rfl,e0,e1,e12,e13,ht⟩ hk
   obtain⟨p,p1,p2,p3⟩:=hs.at hi
   obtain⟨q,q1,q2,q3⟩:=ks.at (hl▸hi)
   have hlt:=decide_eq_true hi
   simp only[strip_rs,strip_mr,strip_nilf,Bool.false_eq_true,if_false,↓kR,kE,kK,sL,C_P,Nat.reduceEqDiff,reduceIte,e0,e1,e12,e13,hv,hw,p1,p2,q1,q2,rd_compat p3 q3,hlt,sL]
   by_cases hx:xs[i]=ys[i]
   ·rw[hx,bne_self_eq_false]
    simp only[sL]
    rw[wrap64 (by omega) (by omega)]
    refine hk _ _ ⟨rfl,e0,e1,e12,iS i,?_⟩
    rw[List.take_succ,List.take_succ,ht,List.getElem?_eq_getElem hi,List.getElem?_eq_getElem (hl▸hi),hx]
   ·rw[(by simpa using hx:(xs[i] != ys[i])=true)]
    simp only[sL]
    rw[decide_eq_false (fun e:xs=ys=>hx (by subst e;rfl))]
  ·rintro e _ k ⟨rfl,e0,e1,e12,e13,ht⟩
   have hlt:=decide_eq_false (Nat.lt_irrefl xs.length)
   simp only[strip_rs,strip_mr,strip_nilf,Bool.false_eq_true,if_false,↓kR,kE,kK,sL,C_P,Nat.reduceEqDiff,reduceIte,e12,e13,hlt,sL]
   rw[List.take_length,hl,List.take_length]at ht
   rw[decide_eq_true ht]
 ·have e1:((xs.length:Int) != ys.length)=true:=by simp;omega
  rw[e1]
  simp only[sL]
  rw[decide_eq_false (fun e:xs=ys=>hl (by rw[e]))]
theorem ag82:isAggT Tryz.prog 82=some true:=by kernel_rfl
theorem sz82:szOf Tryz.prog 82=some 2:=by kernel_rfl
theorem z82:zeroOf Tryz.prog 82=some (.agg [.nils,.str []]):=by kernel_rfl
theorem b82 {s:Heap}{w:AV}{xs:List Int}(h:NV s w xs)(t:Bytes):aBuild Tryz.prog 82 [(0,w),(1,.str t)]=some (.agg [w,.str t]):=by
 cases h<;>kernel_rfl
theorem c116 (n:Nat){s:Heap}{v:AV}{xs:List Int}(h:NV s v xs)(t:Bytes):∃v' s',den C (n+2) 116 [.agg [v,.str t]] s=some (.agg [v',.str t],s')∧NV s' v' xs∧Gr s s'∧v'.strip=v'∧NewR s v':=by
 rw[rd Tryz.func116];conv in compF _ _ _ _ _ _=>cbv
 simp only[strip_rs,strip_mr,strip_nilf,Bool.false_eq_true,if_false,↓kR,kE,kK,sL,C_P,Nat.reduceEqDiff,reduceIte,Tryz.f116,]
 obtain⟨w,s1,h1,h2,h3,h4⟩:=c60 n (h.strip.strip.gr (Gr.app s (82,[.nils,.str []])))
 obtain⟨g1,g2,g3⟩:=h3.set (y:=(82,[w.strip,.str t]))
 simp only[strip_rs,strip_mr,strip_nilf,Bool.false_eq_true,if_false,↓kR,kE,kK,sL,C_P,Nat.reduceEqDiff,reduceIte,allocG z82 (by decide) ⟨nofun,rfl⟩,b82 h2,cFs _ _ (by kernel_rfl:enterable Tryz.prog 60=true),h1,sL]
 have hst:aStore 2 s1 (.ref s.length 0) (.agg [w,.str t])=some (s1.set s.length (82,[w.strip,.str t])):=by
  have hat:=h3.at gapp_new
  rw[st (n:=2) (o:=0) (v:=.agg [w,.str t]) hat (by decide) (by cases h2<;>rfl) rfl (by decide)]
  rfl
 rw[hst]
 simp only[sL]
 rw[fkc ag82 sz82 (x:=.agg [w.strip,.str t]) (by rw[show (upd _ 8 _:Env) 2=AV.ref s.length 0 from rfl];exact ldA g2 (by decide) (by simp) (by decide))]
 refine⟨w.strip,_,rfl,h2.strip.fr fun Q n' e=>?_,g1,?_,fun Q n' e=>?_⟩
 ·refine g3 Q fun e'=>?_
  obtain⟨cs,hc⟩:=h2.strip.row e
  rw[e',h3.at gapp_new]at hc
  cases hc
 ·cases h2<;>first|rfl|(rename_i f _;cases f<;>rfl)
 ·have h4':=h4 Q n' (by cases h2<;>first|exact e|cases e|(rename_i f _;cases f<;>cases e))
  rw[app_length]at h4';omega
theorem NV.pure {s s':Heap}{v:AV}{xs:List Int}(h:NV s v xs)(hr:v.noRef=true):NV s' v xs:=by
 cases h with
 | nil=>exact .nil
 | sl xs f hb=>exact .sl xs f hb
 | rs Q junk ns h hb hp=>cases hr
theorem aC {D:Den}{g:FuncId}{args:List AV}{s:Heap}{r:AV}(en:enterable Tryz.prog g=true)(hr:r.noRef=true)(h:noRefL args=true→∃s1,D g args []=some (r,s1))(k:noRefL args=false→D g args s=some (r,s)):aCall Tryz.prog D g args s=some (r,s):=by
 rw[aCall,if_pos en]
 cases hn:noRefL args with
 | true=>obtain⟨s1,e⟩:=h hn;simp only[if_true,e,hr]
 | false=>simp only[Bool.false_eq_true,if_false,k hn]
theorem a157 (n:Nat){s:Heap}{v w:AV}{xs ys:List Int}(h:NV s v xs)(k:NV s w ys)(hn:xs.length<n):aCall Tryz.prog (den C (n+1)) 157 [v,w] s=some (.bool (decide (xs=ys)),s):=by
 refine aC (by kernel_rfl) rfl (fun e=>⟨[],?_⟩) fun _=>c157 n h k hn
 simp only[noRefL_cons,Bool.and_eq_true]at e
 exact c157 n (h.pure e.1) (k.pure e.2.1) hn
theorem c135 (n:Nat){s:Heap}{v w:AV}{xs ys:List Int}(h:NV s v xs)(k:NV s w ys)(hn:xs.length<n)(t u:Bytes):den C (n+2) 135 [.agg [v,.str t],.agg [w,.str u]] s=some (.bool (t==u&&decide (xs=ys)),s):=by
 rw[rd Tryz.func135];conv in compF _ _ _ _ _ _=>cbv
 simp only[strip_rs,strip_mr,strip_nilf,Bool.false_eq_true,if_false,↓kR,kE,kK,sL,C_P,Nat.reduceEqDiff,reduceIte,Tryz.f135,]
 cases hb:(t==u) with
 | true=>simp only[sL,a157 n h.strip.strip k.strip.strip hn,Bool.true_and]
 | false=>simp only[sL,Bool.false_and]
theorem a135 (n:Nat){s:Heap}{v w:AV}{xs ys:List Int}(h:NV s v xs)(k:NV s w ys)(hn:xs.length<n)(t u:Bytes):aCall Tryz.prog (den C (n+2)) 135 [.agg [v,.str t],.agg [w,.str u]] s=some (.bool (t==u&&decide (xs=ys)),s):=by
 refine aC (by kernel_rfl) rfl (fun e=>⟨[],?_⟩) fun _=>c135 n h k hn t u
 simp only[noRefL_cons,noRef_agg,Bool.and_eq_true]at e
 exact c135 n (h.pure e.1.1) (k.pure e.2.1.1) hn t u
end Srv
end
