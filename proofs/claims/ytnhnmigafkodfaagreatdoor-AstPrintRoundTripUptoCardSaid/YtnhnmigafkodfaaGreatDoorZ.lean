/- QutC, QutF, QutE, QutA, QutG, QutH -/
import Derived.Test.YtnhnmigafkodfaaGreatDoorB
import Derived.Test.YtnhnmigafkodfaaGreatDoorC
import Derived.Test.YtnhnmigafkodfaaGreatDoorProg
import Derived.KernelRfl
import Derived.Lib.Bytealg
import Derived.Test.YtnhnmigafkodfaaGreatDoorL
import Derived.Test.YtnhnmigafkodfaaGreatDoorE
set_option linter.all false
set_option maxRecDepth 100000
set_option maxHeartbeats 1000000

section
namespace QutF
open Go Go.Abs Go.Proofs
def eCount (args:List AV)(s:Heap):Option (AV×Heap):=match args with
 | [.str a,.str [c]]=>some (.int .i64 (Lib.countByte a c),s)
 | _=>none
def refs:List (Nat×Nat):=[(25,4),(44,11),(158,94),(158,124),(341,85),(341,112),(341,120)]
noncomputable def Cq0:Cfg:={ P:=Tryz.prog,glob:=fun _=>none,ext:=fun g=>if g=343 then some eCount else none,ref:=fun f t=>refs.contains (f,t),own:=fun _ _=>false }
def cellI (k:IntKind)(n:Int):AV→Bool
 | .int k' n'=>k==k'&&n==n'
 | _=>false
noncomputable def eOnce (args:List AV)(s:Heap):Option (AV×Heap):=match args with
 | [.ref i 0,.fn 92 [.ref j 0] []]=>match s[i]? with
  | some cs=>if cs.1=140∧i=j∧((cs.2[0]?).map (cellI .u32 0))=some true∧((cs.2[1]?).map (cellI .i32 0))=some true then
    match den Cq0 40 92 [.ref j 0] (s.set i (140,cs.2.set 1 (.int .i32 1))) with
    | some (.tup [],s2)=>match s2[i]? with
     | some ds=>if ds.1=140∧((ds.2[0]?).map (cellI .u32 0))=some true∧((ds.2[1]?).map (cellI .i32 1))=some true then some (.tup [],s2.set i (140,(ds.2.set 0 (.int .u32 1)).set 1 (.int .i32 0))) else none
     | none=>none
    | _=>none
   else none
  | none=>none
 | _=>none
noncomputable def Cq:Cfg:={ P:=Tryz.prog,glob:=fun _=>none,ext:=fun g=>if g=91 then some eOnce else if g=343 then some eCount else none,ref:=fun f t=>refs.contains (f,t),own:=fun _ _=>false }
def oldnew:List AV:=[.str [92],.str [92,92],.str [34],.str [92,34],.str [10],.str [92,110]]
def H1:Heap:=[(140,[.int .u32 0,.int .i32 0,.int .u32 0,.nili,.sl 9 1 oldnew .sh])]
theorem new_eval:den Cq 10 44 [.sl 9 1 oldnew .sh] []=some (.ref 0 0,H1):=by kernel_rfl
end QutF
end

section
namespace QutF
open Go Go.Abs Go.Proofs
-- ast.QuoteString
noncomputable def F25 (D:Den)(n:Nat)(t0:AV)(s:Heap):Ans :=
 oCp (.str []) s fun t2 s =>
 oBs 38 6 [(0,(.str [92])),(1,(.str [92,92])),(2,(.str [34])),(3,(.str [92,34])),(4,(.str [10])),(5,(.str [92,110]))] s fun t3 s =>oh (aCallF Tryz.prog D 44 [t3.strip] s) fun t4 s =>
 oMv t0 s fun t5 s =>
 oCa D 45 [t4.strip,t5.strip] s fun t6 s =>
 oBn .add 9 (.str [34]) t6 s fun t7 s =>
 oBn .add 9 t7 (.str [34]) s fun t8 s =>
 oCp t8 s fun t2_2 s =>
 some (t2_2,s)
theorem F25_eq (n:Nat)(t0:AV)(s:Heap):den Cq (n+1) 25 [t0] s=F25 (den Cq n) n t0 s :=
 (den_body rfl Tryz.func25 _ _).trans (by kernel_rfl)
theorem en25:enterable Tryz.prog 25=true:=by kernel_rfl
-- (*strings.Replacer).Replace
noncomputable def F45 (D:Den)(n:Nat)(t0 t1:AV)(s:Heap):Ans :=
 oCp (.str []) s fun t4 s =>
 oMv t0 s fun t5 s =>
 oNc t5 s fun t6 s =>
 oAd 0 t6 s fun t7 s =>
 oMv t0 s fun t8 s =>
 oCp (.fn 92 [t8] []) s fun t9 s =>
 oCa D 91 [t7.strip,t9.strip] s fun t10 s =>
 oMv t0 s fun t11 s =>
 oNc t11 s fun t12 s =>
 oAd 3 t12 s fun t13 s =>
 oL1 t13 s fun t14 s =>
 oMv t1 s fun t15 s =>oh (aInv Tryz.prog D t14 "Replace" [t15] s) fun t16 s =>
 oCp t16 s fun t4_2 s =>
 some (t4_2,s)
theorem F45_eq (n:Nat)(t0 t1:AV)(s:Heap):den Cq (n+1) 45 [t0,t1] s=F45 (den Cq n) n t0 t1 s :=
 (den_body rfl Tryz.func45 _ _).trans (by kernel_rfl)
theorem en45:enterable Tryz.prog 45=true:=by kernel_rfl
-- (*strings.byteStringReplacer).Replace
noncomputable def F341_J2 (D:Den)(n:Nat)(k0:Env→Heap→Ans)(e:Env)(s:Heap):Ans :=
 oMv (e 14) s fun t90 s =>
 oBn .add 3 t90 (.int .i64 1) s fun t91 s =>
 oCp t91 s fun t14_2 s =>
 k0 (upds e [(90,t90),(91,t91),(91,t91.strip),(14,t14_2)]) s
noncomputable def F341_L1 (D:Den)(n:Nat)(k0:Env→Heap→Ans)(e:Env)(s:Heap):Ans :=
 oMv (e 14) s fun t86 s =>
 oMv (e 1) s fun t87 s =>
 oLn 9 t87 s fun t88 s =>
 oBn .lss 3 t86 t88 s fun t89 s =>
 br t89
  (oMv (e 1) s fun t92 s =>
 oMv (e 14) s fun t93 s =>oh (mp (aIndex Tryz.prog 9 t92 t93) s) fun t94 s =>
 oCp t94 s fun t15 s =>
 oMv (e 0) s fun t95 s =>
 oMv t15 s fun t96 s =>
 oNc t95 s fun t97 s =>
 oAd 0 t97 s fun t98 s =>
 oIx 204 t98 t96 s fun t99 s =>
 oL1 t99 s fun t100 s =>
 oBn .neq 111 t100 .nils s fun t101 s =>
 br t101
  (oMv (e 13) s fun t102 s1 =>
 oMv (e 12) s1 fun t103 s2 =>
 oMv (e 13) s2 fun t104 s3 =>oh (mp (aSl Tryz.prog 111 t103 (some t104) none none) s3) fun t105 s4 =>
 oMv (e 0) s4 fun t106 s5 =>
 oMv t15 s5 fun t107 s6 =>
 oNc t106 s6 fun t108 s7 =>
 oAd 0 t108 s7 fun t109 s8 =>
 oIx 204 t109 t107 s8 fun t110 s9 =>
 oL1 t110 s9 fun t111 s10 =>oh (aCopy Tryz.prog 111 t105 t111 s10) fun t112 s11 =>
 oBn .add 3 t102 t112 s11 fun t113 s12 =>
 oCp t113 s12 fun t13_2 s13 =>
 drawOK Cq 341 (regOps Tryz.f341 28) [.silent,.silent,.silent,.silent,.silent,.silent,.silent,.silent,.silent,(kLoad false t110),(dyn .writer s10 s11),.silent,.silent] <|
 F341_J2 D n k0 (upds e [(86,t86),(87,t87),(88,t88),(89,t89),(92,t92),(93,t93),(94,t94),(94,t94.strip),(15,t15),(95,t95),(96,t96),(97,t97),(98,t98),(99,t99),(100,t100),(101,t101),(102,t102),(103,t103),(104,t104),(105,t105),(106,t106),(107,t107),(108,t108),(109,t109),(110,t110),(111,t111),(112,t112),(113,t113),(113,t113.strip),(13,t13_2)]) s13)
  (oMv (e 12) s fun t114 s =>
 oMv (e 13) s fun t115 s =>
 oMv t15 s fun t116 s =>
 oIx 111 t114 t115 s fun t117 s =>
 oSr 1 s t117 t116 fun _r s =>
 oMv (e 13) s fun t118 s =>
 oBn .add 3 t118 (.int .i64 1) s fun t119 s =>
 oCp t119 s fun t13_3 s =>
 F341_J2 D n k0 (upds e [(86,t86),(87,t87),(88,t88),(89,t89),(92,t92),(93,t93),(94,t94),(94,t94.strip),(15,t15),(95,t95),(96,t96),(97,t97),(98,t98),(99,t99),(100,t100),(101,t101),(114,t114),(115,t115),(116,t116),(117,t117),(116,t116.strip),(118,t118),(119,t119),(119,t119.strip),(13,t13_3)]) s)) (oh (aPub (e 12).strip s) fun t120 s =>oh (mp (aConv Tryz.prog 111 9 t120) s) fun t121 s =>
 oCp t121 s fun t4_3 s =>
 some (t4_3,s))
noncomputable def F341_J0 (D:Den)(n:Nat)(e:Env)(s:Heap):Ans :=
 oMv (e 6) s fun t81 s =>oh (mp (aUn .not t81) s) fun t82 s =>
 br t82
  (oMv (e 1) s fun t83 s =>
 oCp t83 s fun t4_2 s =>
 some (t4_2,s))
  (oMv (e 5) s fun t84 s =>oh (aRsMake Tryz.prog 111 t84 t84 s) fun t85 s =>
 oCp t85 s fun t12 s =>
 oCp (.int .i64 0) s fun t13 s =>
 oCp (.int .i64 0) s fun t14 s =>
 aLoop (F341_L1 D n) n (upds e [(81,t81),(82,t82),(84,t84),(85,t85),(85,t85.strip),(12,t12),(13,t13),(14,t14)]) s)
noncomputable def F341_J4 (D:Den)(n:Nat)(k0:Env→Heap→Ans)(e:Env)(s:Heap):Ans :=
 oBn .add 3 (e 32) (.int .i64 1) s fun t54 s =>
 oMv t54 s fun t32_2 s =>
 k0 (upds e [(54,t54),(32,t32_2)]) s
noncomputable def F341_L3 (D:Den)(n:Nat)(k0:Env→Heap→Ans)(e:Env)(s:Heap):Ans :=
 oBn .lss 3 (e 32) (e 31) s fun t33 s =>
 br t33
  (oIx 38 (e 30) (e 32) s fun t34 s =>
 oL1 t34 s fun t35 s =>
 oCp t35 s fun t8 s =>
 oMv (e 1) s fun t36 s =>
 oMv t8 s fun t37 s =>
 oCa D 343 [t36.strip,t37.strip] s fun t38 s =>
 oCp t38 s fun t9 s =>
 oMv t9 s fun t39 s =>
 oBn .neq 3 t39 (.int .i64 0) s fun t40 s =>
 br t40
  (oMv (e 5) s fun t41 s =>
 oMv t9 s fun t42 s =>
 oMv (e 0) s fun t43 s =>
 oMv t8 s fun t44 s =>oh (mp (aIndex Tryz.prog 9 t44 (.int .i64 0)) s) fun t45 s =>
 oNc t43 s fun t46 s =>
 oAd 0 t46 s fun t47 s =>
 oIx 204 t47 t45 s fun t48 s =>
 oL1 t48 s fun t49 s =>
 oLn 111 t49 s fun t50 s =>
 oBn .sub 3 t50 (.int .i64 1) s fun t51 s =>
 oBn .mul 3 t42 t51 s fun t52 s =>
 oBn .add 3 t41 t52 s fun t53 s =>
 oCp t53 s fun t5_2 s =>
 drawOK Cq 341 (regOps Tryz.f341 9) [.silent,.silent,.silent,.silent,.silent,.silent,.silent,.silent,(kLoad false t48),.silent,.silent,.silent,.silent,.silent] <|
 oCp (.bool true) s fun t6_2 s =>
 F341_J4 D n k0 (upds e [(33,t33),(34,t34),(35,t35),(35,t35.strip),(8,t8),(36,t36),(37,t37),(38,t38),(38,t38.strip),(9,t9),(39,t39),(40,t40),(41,t41),(42,t42),(43,t43),(44,t44),(45,t45),(46,t46),(47,t47),(48,t48),(49,t49),(50,t50),(51,t51),(52,t52),(53,t53),(53,t53.strip),(5,t5_2),(6,t6_2)]) s)
  (F341_J4 D n k0 (upds e [(33,t33),(34,t34),(35,t35),(35,t35.strip),(8,t8),(36,t36),(37,t37),(38,t38),(38,t38.strip),(9,t9),(39,t39),(40,t40)]) s))
  (F341_J0 D n (upds e [(33,t33)]) s)
noncomputable def F341_J6 (D:Den)(n:Nat)(k0:Env→Heap→Ans)(e:Env)(s:Heap):Ans :=
 oMv (e 10) s fun t59 s =>
 oBn .add 3 t59 (.int .i64 1) s fun t60 s =>
 oCp t60 s fun t10_2 s =>
 k0 (upds e [(59,t59),(60,t60),(60,t60.strip),(10,t10_2)]) s
noncomputable def F341_L5 (D:Den)(n:Nat)(k0:Env→Heap→Ans)(e:Env)(s:Heap):Ans :=
 oMv (e 10) s fun t55 s =>
 oMv (e 1) s fun t56 s =>
 oLn 9 t56 s fun t57 s =>
 oBn .lss 3 t55 t57 s fun t58 s =>
 br t58
  (oMv (e 1) s fun t61 s =>
 oMv (e 10) s fun t62 s =>oh (mp (aIndex Tryz.prog 9 t61 t62) s) fun t63 s =>
 oCp t63 s fun t11 s =>
 oMv (e 0) s fun t64 s =>
 oMv t11 s fun t65 s =>
 oNc t64 s fun t66 s =>
 oAd 0 t66 s fun t67 s =>
 oIx 204 t67 t65 s fun t68 s =>
 oL1 t68 s fun t69 s =>
 oBn .neq 111 t69 .nils s fun t70 s =>
 br t70
  (oMv (e 5) s fun t71 s =>
 oMv (e 0) s fun t72 s =>
 oMv t11 s fun t73 s =>
 oNc t72 s fun t74 s =>
 oAd 0 t74 s fun t75 s =>
 oIx 204 t75 t73 s fun t76 s =>
 oL1 t76 s fun t77 s =>
 oLn 111 t77 s fun t78 s =>
 oBn .sub 3 t78 (.int .i64 1) s fun t79 s =>
 oBn .add 3 t71 t79 s fun t80 s =>
 oCp t80 s fun t5_3 s =>
 oCp (.bool true) s fun t6_3 s =>
 F341_J6 D n k0 (upds e [(55,t55),(56,t56),(57,t57),(58,t58),(61,t61),(62,t62),(63,t63),(63,t63.strip),(11,t11),(64,t64),(65,t65),(66,t66),(67,t67),(68,t68),(69,t69),(70,t70),(71,t71),(72,t72),(73,t73),(74,t74),(75,t75),(76,t76),(77,t77),(78,t78),(79,t79),(80,t80),(80,t80.strip),(5,t5_3),(6,t6_3)]) s)
  (F341_J6 D n k0 (upds e [(55,t55),(56,t56),(57,t57),(58,t58),(61,t61),(62,t62),(63,t63),(63,t63.strip),(11,t11),(64,t64),(65,t65),(66,t66),(67,t67),(68,t68),(69,t69),(70,t70)]) s))
  (F341_J0 D n (upds e [(55,t55),(56,t56),(57,t57),(58,t58)]) s)
noncomputable def F341 (D:Den)(n:Nat)(t0 t1:AV)(s:Heap):Ans :=
 oCp (.str []) s fun t4 s =>
 oMv t1 s fun t16 s =>
 oLn 9 t16 s fun t17 s =>
 oCp t17 s fun t5 s =>
 oCp (.bool false) s fun t6 s =>
 oMv t0 s fun t18 s =>
 oNc t18 s fun t19 s =>
 oAd 256 t19 s fun t20 s =>
 oL1 t20 s fun t21 s =>
 oLn 38 t21 s fun t22 s =>
 oBn .mul 3 t22 (.int .i64 8) s fun t23 s =>
 oMv t1 s fun t24 s =>
 oLn 9 t24 s fun t25 s =>
 oBn .leq 3 t23 t25 s fun t26 s =>
 br t26
  (oMv t0 s fun t27 s =>
 oNc t27 s fun t28 s =>
 oAd 256 t28 s fun t29 s =>
 oL1 t29 s fun t30 s =>
 oLn 38 t30 s fun t31 s =>
 oCp (.int .i64 0) s fun t32 s =>
 aLoop (F341_L3 D n) n (upds (argEnv [t0,t1]) [(4,t4),(16,t16),(17,t17),(17,t17.strip),(5,t5),(6,t6),(18,t18),(19,t19),(20,t20),(21,t21),(22,t22),(23,t23),(24,t24),(25,t25),(26,t26),(27,t27),(28,t28),(29,t29),(30,t30),(31,t31),(32,t32)]) s)
  (oCp (.int .i64 0) s fun t10 s =>
 aLoop (F341_L5 D n) n (upds (argEnv [t0,t1]) [(4,t4),(16,t16),(17,t17),(17,t17.strip),(5,t5),(6,t6),(18,t18),(19,t19),(20,t20),(21,t21),(22,t22),(23,t23),(24,t24),(25,t25),(26,t26),(10,t10)]) s)
theorem F341_eq (n:Nat)(t0 t1:AV)(s:Heap):den Cq (n+1) 341 [t0,t1] s=F341 (den Cq n) n t0 t1 s :=
 (den_body rfl Tryz.func341 _ _).trans (by kernel_rfl)
theorem en341:enterable Tryz.prog 341=true:=by kernel_rfl
end QutF
end

section
namespace QutF
open Go Go.Abs Go.Proofs
def rep (b:Nat):List UInt8:=if b=92 then[92,92] else if b=34 then[92,34] else if b=10 then[92,110] else[]
def repV (b:Nat):AV:=if rep b=[] then .nils else .sl 5 1 (byteAV (rep b)) .sh
noncomputable def H2:Heap:=match eOnce [.ref 0 0,.fn 92 [.ref 0 0] []] H1 with
 | some (_,s)=>s
 | none=>[]
def isNil:AV→Bool
 | .tup []=>true
 | _=>false
theorem once_ok:(match eOnce [.ref 0 0,.fn 92 [.ref 0 0] []] H1 with|some (v,_)=>isNil v|none=>false)=true:=by kernel_rfl
noncomputable def hAt (i j:Nat)(a:AV):Bool:=match (H2[i]?).bind fun cs=>cs.2[j]? with
 | some b=>same b a
 | none=>false
theorem h2_a:hAt 0 3 (.ifv 207 (.ref 2 0))=true:=by kernel_rfl
theorem h2_b:hAt 2 256 (.rs 9 1 5 0 3)=true:=by kernel_rfl
theorem h2_c:(hAt 5 0 (.str [10])&&hAt 5 1 (.str [34])&&hAt 5 2 (.str [92]))=true:=by kernel_rfl
theorem h2_d:((List.range 256).all fun b=>hAt 2 b (repV b))=true:=by kernel_rfl
theorem h2_e:((H2[0]?).map (·.1),(H2[2]?).map (·.1),(H2[5]?).map (·.1),(H2[2]?).map (·.2.length))=(some 140,some 206,some 9,some 257):=by kernel_rfl
end QutF
end

section
namespace QutF
open Go Go.Abs Go.Proofs ParF
abbrev I (n:Int):AV:=.int .i64 n
abbrev U (c:UInt8):AV:=.int .u8 c.toNat
def esc (x:List UInt8):List UInt8:=x.flatMap fun c=>if rep c.toNat=[] then[c] else rep c.toNat
def spc (c:UInt8):Bool:=!(rep c.toNat).isEmpty
theorem rep_two (b:Nat):rep b=[]∨∃p q,rep b=[p,q]:=by
 unfold rep
 repeat' split
 ·exact .inr ⟨_,_,rfl⟩
 ·exact .inr ⟨_,_,rfl⟩
 ·exact .inr ⟨_,_,rfl⟩
 ·exact .inl rfl
theorem esc_one {c:UInt8}(h:rep c.toNat=[]):esc [c]=[c]:=by
 show (if rep c.toNat=[] then[c] else rep c.toNat)++[]=_
 rw[if_pos h];rfl
theorem esc_rep {c:UInt8}(h:rep c.toNat≠[]):esc [c]=rep c.toNat:=by
 show (if rep c.toNat=[] then[c] else rep c.toNat)++[]=_
 rw[if_neg h,List.append_nil]
theorem esc_app (a b:List UInt8):esc (a++b)=esc a++esc b:=List.flatMap_append ..
theorem esc_len:∀x:List UInt8,(esc x).length=x.length+x.countP spc
 | []=>rfl
 | c::x=>by
  have e:esc (c::x)=esc [c]++esc x:=by rw[←esc_app];rfl
  rw[e,List.length_append,esc_len x,List.countP_cons,List.length_cons]
  by_cases h:rep c.toNat=[]
  ·have hs:spc c=false:=by simp[spc,h]
   rw[esc_one h,hs]
   simp
   omega
  ·have hs:spc c=true:=by simp[spc,h]
   rw[esc_rep h,hs]
   rcases rep_two c.toNat with k|⟨p,q,k⟩
   ·exact absurd k h
   ·rw[k];simp;omega
theorem esc_id:∀x:List UInt8,x.countP spc=0→esc x=x
 | [],_=>rfl
 | c::x,h=>by
  rw[List.countP_cons]at h
  have hs:spc c=false:=by
   cases hc:spc c with
   | false=>rfl
   | true=>rw[hc]at h;simp at h
  have hr:rep c.toNat=[]:=by simpa[spc] using hs
  have e:esc (c::x)=esc [c]++esc x:=by rw[←esc_app];rfl
  rw[e,esc_one hr,esc_id x (by omega)];rfl
theorem cnt3:∀x:List UInt8,x.count 10+x.count 34+x.count 92=x.countP spc
 | []=>rfl
 | c::x=>by
  have ih:=cnt3 x
  rw[List.count_cons,List.count_cons,List.count_cons,List.countP_cons]
  have key:∀d:UInt8,(c==d)=decide (c.toNat=d.toNat):=fun d=>by
   by_cases h:c=d
   ·subst h;simp
   ·have:c.toNat≠d.toNat:=fun e=>h (UInt8.toNat_inj.1 e)
    simp[h,this]
  rw[key,key,key]
  have h10:(10:UInt8).toNat=10:=rfl
  have h34:(34:UInt8).toNat=34:=rfl
  have h92:(92:UInt8).toNat=92:=rfl
  rw[h10,h34,h92]
  revert ih
  generalize List.countP spc x=N
  intro ih
  unfold spc rep
  by_cases a:c.toNat=92
  ·simp[a];omega
  ·by_cases b:c.toNat=34
   ·simp[a,b];omega
   ·by_cases d:c.toNat=10
    ·simp[a,b,d];omega
    ·simp[a,b,d];omega
structure Tb (s:Heap):Prop where
 t:∃tbl,s[2]?=some (206,tbl)∧(∀b,b<256→tbl[b]?=some (repV b))∧tbl[256]?=some (.rs 9 1 5 0 3)
 r:∃row,s[5]?=some (9,row)∧row[0]?=some (.str [10])∧row[1]?=some (.str [34])∧row[2]?=some (.str [92])
theorem hAt_eq {i j:Nat}{a:AV}(h:hAt i j a=true):∃cs,H2[i]?=some cs∧cs.2[j]?=some a:=by
 unfold hAt at h
 split at h
 ·rename_i b hb
  rw[Option.bind_eq_some_iff]at hb
  obtain⟨cs,h1,h2⟩:=hb
  exact⟨cs,h1,by rw[h2,same_eq _ _ h]⟩
 ·cases h
theorem tb2:Tb H2:=by
 have he:=h2_e
 simp only[Prod.mk.injEq,Option.map_eq_some_iff]at he
 obtain⟨-,⟨cs,c1,c2⟩,⟨rs,r1,r2⟩,-⟩:=he
 refine⟨⟨cs.2,by rw[c1,←c2],fun b hb=>?_,?_⟩,⟨rs.2,by rw[r1,←r2],?_,?_,?_⟩⟩
 ·obtain⟨ds,d1,d2⟩:=hAt_eq (List.all_eq_true.1 h2_d b (List.mem_range.2 hb))
  rw[c1]at d1;cases d1;exact d2
 ·obtain⟨ds,d1,d2⟩:=hAt_eq h2_b
  rw[c1]at d1;cases d1;exact d2
 all_goals
  have hc:=h2_c
  rw[Bool.and_eq_true,Bool.and_eq_true]at hc
 ·obtain⟨ds,d1,d2⟩:=hAt_eq hc.1.1
  rw[r1]at d1;cases d1;exact d2
 ·obtain⟨ds,d1,d2⟩:=hAt_eq hc.1.2
  rw[r1]at d1;cases d1;exact d2
 ·obtain⟨ds,d1,d2⟩:=hAt_eq hc.2
  rw[r1]at d1;cases d1;exact d2
theorem Tb.set {s:Heap}(h:Tb s){B:Nat}(h2:B≠2)(h5:B≠5)(v:TypeId×List AV):Tb (s.set B v):=by
 obtain⟨⟨t,t1,t2⟩,⟨r,r1,r2⟩⟩:=h
 exact⟨⟨t,by rw[List.getElem?_set_ne h2];exact t1,t2⟩,⟨r,by rw[List.getElem?_set_ne h5];exact r1,r2⟩⟩
theorem u204:Tryz.prog.underlying 204=some (.array 256 111):=by kernel_rfl
theorem u111:Tryz.prog.underlying 111=some (.slice 5):=by kernel_rfl
theorem u38:Tryz.prog.underlying 38=some (.slice 9):=by kernel_rfl
theorem u5:Tryz.prog.underlying 5=some (.int .u8):=by kernel_rfl
theorem u9:Tryz.prog.underlying 9=some .string:=by kernel_rfl
theorem z111:szOf Tryz.prog 111=some 1:=by kernel_rfl
theorem z5:szOf Tryz.prog 5=some 1:=by kernel_rfl
theorem z9:szOf Tryz.prog 9=some 1:=by kernel_rfl
theorem ia (c:UInt8):aIndexAddr Tryz.prog 204 (.ref 2 0) (U c)=some (.ref 2 c.toNat):=by
 have:c.toNat<256:=c.toNat_lt
 simp[aIndexAddr,u204,z111]
 omega
theorem repV_strip (b:Nat):(repV b).strip=repV b:=by unfold repV;split<;>rfl
theorem ldT {s:Heap}(h:Tb s)(c:UInt8):aLoad false false 1 (.ref 2 c.toNat) s=some (repV c.toNat,s):=by
 obtain⟨⟨t,t1,t2,-⟩,-⟩:=h
 rw[ParF.ld (n:=1) (o:=c.toNat) t1 (by decide) (t2 _ c.toNat_lt) (by decide),repV_strip]
theorem ne_nil {b:Nat}(h:rep b=[]):aBin Tryz.prog .neq 111 (repV b) .nils=some (.bool false):=by
 unfold repV
 rw[if_pos h]
 simp[aBin,aEq,u111,eqOp]
theorem ne_sl {b:Nat}(h:rep b≠[]):aBin Tryz.prog .neq 111 (repV b) .nils=some (.bool true):=by
 unfold repV
 rw[if_neg h]
 simp[aBin,aEq,u111,eqOp]
theorem len9q (s:List UInt8):aLen Tryz.prog 9 (.str s)=some (I s.length):=by simp[aLen]
theorem idx9q {s:List UInt8}{i:Nat}{x:UInt8}(h:s[i]?=some x):aIndex Tryz.prog 9 (.str s) (I i)=some (U x):=by simp[aIndex,u9,h]
theorem wadd1q {a:Nat}(h:a<3000000000):IntKind.i64.wrap ((a:Int)+1)=((a+1:Nat):Int):=by rw[wrap64]<;>omega
theorem waddq {a b:Nat}(h:a+b<3000000000):IntKind.i64.wrap ((a:Int)+(b:Int))=((a+b:Nat):Int):=by rw[wrap64]<;>omega
theorem j2 (D:Den)(n:Nat)(k0:Env→Heap→Ans)(e:Env)(s:Heap)(i:Nat)(e14:e 14=I i)(hi:i<2000000000) :
  F341_J2 D n k0 e s=k0 (upds e [(90,I i),(91,I (i+1:Nat)),(91,I (i+1:Nat)),(14,I (i+1:Nat))]) s:=by
 have w1:=wadd1q (a:=i) (by omega)
 rw[F341_J2]
 simp only[↓sW,sL,e14,w1]
theorem chunks_bytes:∀l:List UInt8,chunks 1 l.length (byteAV l)=byteAV l
 | []=>rfl
 | c::l=>by
  have:=chunks_bytes l
  show (if 1=1 then(byteAV (c::l)).headD .undef else _)::chunks 1 l.length ((byteAV (c::l)).drop 1)=_
  rw[if_pos rfl]
  show U c::chunks 1 l.length (byteAV l)=_
  rw[this];rfl
theorem byteAV_strip (l:List UInt8):(byteAV l).map AV.strip=byteAV l:=by
 unfold byteAV;rw[List.map_map];rfl
theorem byteAV_plain (l:List UInt8):(byteAV l).all plainC=true:=by
 unfold byteAV;rw[List.all_map];exact List.all_eq_true.2 fun _ _=>rfl
theorem byteAV_len (l:List UInt8):(byteAV l).length=l.length:=by simp[byteAV]
theorem byteAV_app (a b:List UInt8):byteAV (a++b)=byteAV a++byteAV b:=by simp[byteAV]
theorem setL_mid (l r j:List AV)(n:Nat)(v:AV)(h:r.length≤n):setL (l++List.replicate n v) l.length r=(l++r)++List.replicate (n-r.length) v:=by
 have e:l++List.replicate n v=(l++List.replicate r.length v)++List.replicate (n-r.length) v:=by
  rw[List.append_assoc,List.replicate_append_replicate];congr 2;omega
 rw[e,setL_append _ _ _ _ (by simp),ParF.setL_end _ _ _ (by simp)]
theorem d28 {g0:Nat}{l0:List Nat}(x:Ans):drawOK Cq 341 (regOps Tryz.f341 28) [.silent,.silent,.silent,.silent,.silent,.silent,.silent,.silent,.silent,.get g0,.call l0,.silent,.silent] x=x:=drawOK_base (by kernel_rfl)
theorem d9 {g0:Nat}(x:Ans):drawOK Cq 341 (regOps Tryz.f341 9) [.silent,.silent,.silent,.silent,.silent,.silent,.silent,.silent,.get g0,.silent,.silent,.silent,.silent,.silent] x=x:=drawOK_base (by kernel_rfl)
theorem fill_loop {x:List UInt8}{m B:Nat}(hm:m=(esc x).length)(hb:m<2000000000)(hB2:B≠2)(hB5:B≠5)(f n':Nat):∀(k i:Nat),x.length-i=k→i≤x.length →
  ∀w,k<w→∀e s,Tb s→s[B]?=some (5,byteAV (esc (x.take i))++List.replicate (m-(esc (x.take i)).length) (.int .u8 0))→e 14=I i→e 13=I ((esc (x.take i)).length:Nat)→e 12=.rs 5 1 B 0 m→e 1=.str x→e 0=.ref 2 0 →
   ∃s',aLoop (F341_L1 (den Cq f) n') w e s=some (.str (esc x),s'):=by
 have hxl:x.length≤m:=by rw[hm,esc_len];omega
 intro k
 induction k with
 | zero =>
  intro i hk hi w hw e s hT hs e14 e13 e12 e1 e0
  obtain⟨w,rfl⟩:∃j,w=j+1:=⟨w-1,by omega⟩
  rw[List.take_of_length_le (by omega),←hm,Nat.sub_self,List.replicate_zero,List.append_nil]at hs
  have c:¬i<x.length:=by omega
  have hpub:aPub (.rs 5 1 B 0 m) s=some (.sl 5 1 (byteAV (esc x)) .sh,kill s B):=by
   rw[show aPub (.rs 5 1 B 0 m) s=aPub1 (.rs 5 1 B 0 m) s from rfl]
   have hc1:(1:Nat)≠0∧(5:Nat)≠deadTy∧m*1≤(byteAV (esc x)).length∧((byteAV (esc x)).take (m*1)).all plainC=true:=by
    refine⟨by decide,by decide,by rw[byteAV_len];omega,?_⟩
    rw[List.take_of_length_le (by rw[byteAV_len];omega)];exact byteAV_plain _
   unfold aPub1
   simp only[hs,true_and]
   rw[if_pos hc1,List.take_of_length_le (by rw[byteAV_len];omega),byteAV_strip,hm,chunks_bytes]
  have hst:(AV.rs 5 1 B 0 m).strip=.rs 5 1 B 0 m:=rfl
  have hcv:aConv Tryz.prog 111 9 (.sl 5 1 (byteAV (esc x)) .sh)=some (.str (esc x)):=by
   simp[aConv,u111,u9,isU8,u5,byteAV_bytes]
  refine⟨kill s B,?_⟩
  rw[aLoop,F341_L1]
  simp only[↓sW,sL,e14,e1,e12,len9q,c,hst,hpub,hcv]
 | succ k ih =>
  intro i hk hi w hw e s hT hs e14 e13 e12 e1 e0
  obtain⟨w,rfl⟩:∃j,w=j+1:=⟨w-1,by omega⟩
  have hlt:i<x.length:=by omega
  obtain⟨c,hc⟩:∃c,c=x[i]:=⟨_,rfl⟩
  have hx:x[i]?=some c:=by rw[List.getElem?_eq_getElem hlt,hc]
  have ht1:x.take (i+1)=x.take i++[c]:=by rw[List.take_add_one,hx];rfl
  obtain⟨P,hP⟩:∃P,P=esc (x.take i):=⟨_,rfl⟩
  have hE:esc (x.take (i+1))=P++esc [c]:=by rw[ht1,esc_app,hP]
  have hEm:(P++esc [c]).length≤m:=by
   rw[←hE,hm]
   have:esc x=esc (x.take (i+1))++esc (x.drop (i+1)):=by rw[←esc_app,List.take_append_drop]
   rw[this,List.length_append];omega
  rw[List.length_append]at hEm
  rw[←hP]at hs e13
  have hl:=ldT hT c
  have hst:(AV.rs 5 1 B 0 m).strip=.rs 5 1 B 0 m:=rfl
  have hia:=ia c
  have cx:i<x.length:=hlt
  by_cases hr:rep c.toNat=[]
  ·rw[esc_one hr]at hE hEm
   have hn:=ne_nil hr
   have ix:aIndexAddr Tryz.prog 111 (.rs 5 1 B 0 m) (I P.length)=some (.ref B P.length):=by
    have:(0:Int)≤(P.length:Int)∧(P.length:Int)<(m:Int):=by simp at hEm;omega
    simp[aIndexAddr,u111,z5,this]
   obtain⟨s1,hs1⟩:∃s1,s1=s.set B (5,byteAV (P++[c])++List.replicate (m-(P++[c]).length) (.int .u8 0)):=⟨_,rfl⟩
   have sto:aStore 1 s (.ref B P.length) (U c)=some s1:=by
    rw[ParF.st (n:=1) (o:=P.length) (v:=U c) hs (by decide) rfl rfl (by rw[List.length_append,byteAV_len,List.length_replicate];simp at hEm;omega),hs1]
    have:=setL_mid (byteAV P) [U c] [] (m-P.length) (.int .u8 0) (by simp at hEm ⊢;omega)
    rw[byteAV_len]at this
    show some (s.set B (5,setL _ P.length [U c]))=_
    rw[this,byteAV_app,List.length_append]
    congr 4<;>omega
   have hT1:Tb s1:=by rw[hs1];exact hT.set hB2 hB5 _
   have hsB:s1[B]?=some (5,byteAV (esc (x.take (i+1)))++List.replicate (m-(esc (x.take (i+1))).length) (.int .u8 0)):=by
    rw[hs1,hE];exact ParF.gset_eq hs
   have w1:=wadd1q (a:=P.length) (by simp at hEm;omega)
   have q:=ih (i+1) (by omega) (by omega) w (by omega)
   rw[aLoop,F341_L1]
   simp only[↓sW,sL,e14,e1,e0,e12,e13,len9q,cx,idx9q hx,hia,hl,hn,hst,ix,sto,w1]
   rw[j2 (i:=i) _ _ _ _ _ ((upds_get _ _ _ rfl).trans e14) (by omega)]
   exact q _ _ hT1 hsB (by simp[upds_at,upd_at]) (by rw[hE];simp[upds_at,upd_at]) ((upds_get _ _ _ rfl).trans ((upds_get _ _ _ rfl).trans e12)) ((upds_get _ _ _ rfl).trans ((upds_get _ _ _ rfl).trans e1)) ((upds_get _ _ _ rfl).trans ((upds_get _ _ _ rfl).trans e0))
  ·rcases rep_two c.toNat with hr'|⟨p,q',hr'⟩
   ·exact absurd hr' hr
   rw[esc_rep hr,hr']at hE hEm
   have hn:=ne_sl hr
   have hv:repV c.toNat=.sl 5 1 (byteAV [p,q']) .sh:=by unfold repV;rw[if_neg hr,hr']
   rw[hv]at hl hn
   have hEm':P.length+2≤m:=hEm
   have sl:aSl Tryz.prog 111 (.rs 5 1 B 0 m) (some (I P.length)) none none=some (.rs 5 1 B P.length (m-P.length)):=by
    have h1:(0:Int)≤(P.length:Int)∧(P.length:Int)≤(m:Int):=by omega
    have h2:P.length<m:=by omega
    simp[aSl,u111,z5,aRsTake,aBound,h1,h2]
   obtain⟨s1,hs1⟩:∃s1,s1=s.set B (5,byteAV (P++[p,q'])++List.replicate (m-(P++[p,q']).length) (.int .u8 0)):=⟨_,rfl⟩
   have cp:aCopy Tryz.prog 111 (.rs 5 1 B P.length (m-P.length)) (.sl 5 1 (byteAV [p,q']) .sh) s=some (I (2:Nat),s1):=by
    have hmin:min (byteAV [p,q']).length (m-P.length)=2:=by rw[byteAV_len];simp;omega
    have hc1:szOf Tryz.prog 5=some 1∧(5:Nat)≠deadTy∧P.length+2≤(byteAV P++List.replicate (m-P.length) (AV.int .u8 0)).length :=
     ⟨z5,by decide,by rw[List.length_append,byteAV_len,List.length_replicate];omega⟩
    unfold aCopy
    simp only[u111,hs,hmin,true_and]
    rw[if_pos hc1,hs1]
    have:=setL_mid (byteAV P) [U p,U q'] [] (m-P.length) (.int .u8 0) (by simp;omega)
    rw[byteAV_len]at this
    show some (I (2:Nat),s.set B (5,setL _ P.length [U p,U q']))=_
    rw[this,byteAV_app,List.length_append]
    congr 5<;>(try simp)<;>(try omega)
   have hT1:Tb s1:=by rw[hs1];exact hT.set hB2 hB5 _
   have hsB:s1[B]?=some (5,byteAV (esc (x.take (i+1)))++List.replicate (m-(esc (x.take (i+1))).length) (.int .u8 0)):=by
    rw[hs1,hE];exact ParF.gset_eq hs
   have w1:IntKind.i64.wrap ((P.length:Int)+((2:Nat):Int))=((P.length+2:Nat):Int):=waddq (a:=P.length) (b:=2) (by omega)
   have q:=ih (i+1) (by omega) (by omega) w (by omega)
   rw[aLoop,F341_L1]
   simp only[↓sW,sL,e14,e1,e0,e12,e13,len9q,cx,idx9q hx,hia,hl,hn,hst,sl,cp,w1,d28]
   rw[j2 (i:=i) _ _ _ _ _ ((upds_get _ _ _ rfl).trans e14) (by omega)]
   exact q _ _ hT1 hsB (by simp[upds_at,upd_at]) (by rw[hE];simp[upds_at,upd_at]) ((upds_get _ _ _ rfl).trans ((upds_get _ _ _ rfl).trans e12)) ((upds_get _ _ _ rfl).trans ((upds_get _ _ _ rfl).trans e1)) ((upds_get _ _ _ rfl).trans ((upds_get _ _ _ rfl).trans e0))
end QutF
end

section
namespace QutF
open Go Go.Abs Go.Proofs ParF
theorem Tb.lt {s:Heap}(h:Tb s):5<s.length:=by
 obtain⟨-,⟨r,r1,-⟩⟩:=h
 exact ParF.glt r1
theorem Tb.app {s:Heap}(h:Tb s)(v:TypeId×List AV):Tb (s++[v]):=by
 have hl:=h.lt
 obtain⟨⟨t,t1,t2⟩,⟨r,r1,r2⟩⟩:=h
 exact⟨⟨t,by rw[List.getElem?_append_left (by omega)];exact t1,t2⟩,⟨r,by rw[List.getElem?_append_left (by omega)];exact r1,r2⟩⟩
theorem info5:(Tryz.prog.info? 5).map (fun i=>(i.size,i.bytes))=some (1,1):=by kernel_rfl
theorem zero5:zeroOf Tryz.prog 5=some (.int .u8 0):=by kernel_rfl
theorem mk111 {m:Nat}(h0:0<m)(hm:m<3000000000)(s:Heap):aRsMake Tryz.prog 111 (I m) (I m) s=some (.rs 5 1 s.length 0 m,s++[(5,List.replicate m (.int .u8 0))]):=by
 have hi:=info5
 rw[Option.map_eq_some_iff]at hi
 obtain⟨i,h1,h2⟩:=hi
 simp only[Prod.mk.injEq]at h2
 have hc:((0:Int)≤m∧(m:Int)≤m∧0<(m:Int))∧(i.bytes:Int)*(m:Int)≤281474976710656∧(m:Int)≤9223372036854775807∧i.size=1∧oneZ (.int .u8 0)=true:=by
  refine⟨by omega,?_,by omega,h2.1,rfl⟩
  rw[h2.2];omega
 unfold aRsMake newMk
 simp only[u111,h1,zero5]
 rw[if_pos hc]
 rfl
theorem fin_run {x:List UInt8}(hb:x.length<1000000000){b:Bool}(hbb:b=decide (x.countP spc≠0))(f n':Nat)(hn:x.length<n')(e:Env)(s:Heap)(hT:Tb s)(e6:e 6=.bool b)(e5:e 5=I (x.length+x.countP spc:Nat))(e1:e 1=.str x)(e0:e 0=.ref 2 0) :
  ∃s',F341_J0 (den Cq f) n' e s=some (.str (esc x),s'):=by
 have hcl:x.countP spc≤x.length:=List.countP_le_length
 rw[F341_J0]
 cases b with
 | false =>
  have h0:x.countP spc=0:=by simpa using hbb.symm
  rw[esc_id x h0]
  refine⟨s,?_⟩
  simp only[↓sW,sL,e6,e1]
 | true =>
  have h0:x.countP spc≠0:=by simpa using hbb.symm
  have hm:=esc_len x
  have mk:=mk111 (m:=x.length+x.countP spc) (by omega) (by omega) s
  have hl:=hT.lt
  obtain⟨s1,hs1⟩:∃s1,s1=s++[(5,List.replicate (x.length+x.countP spc) (AV.int .u8 0))]:=⟨_,rfl⟩
  rw[←hs1]at mk
  have hst:(AV.rs 5 1 s.length 0 (x.length+x.countP spc)).strip=.rs 5 1 s.length 0 (x.length+x.countP spc):=rfl
  have hT1:Tb s1:=by rw[hs1];exact hT.app _
  have hsB:s1[s.length]?=some (5,byteAV (esc (x.take 0))++List.replicate (x.length+x.countP spc-(esc (x.take 0)).length) (.int .u8 0)):=by
   rw[hs1,ParF.gapp_new,List.take_zero];rfl
  simp only[↓sW,sL,e6,e5,mk,hst]
  exact fill_loop (x:=x) (m:=x.length+x.countP spc) (B:=s.length) hm.symm (by omega) (by omega) (by omega) f n' x.length 0 (by omega) (by omega) n' hn _ s1 hT1 hsB (by simp[upds_at,upd_at]) (by simp[upds_at,upd_at,esc]) (by simp[upds_at,upd_at]) ((upds_get _ _ _ rfl).trans e1) ((upds_get _ _ _ rfl).trans e0)
theorem ln111 {c:UInt8}(h:rep c.toNat≠[]):aLen Tryz.prog 111 (repV c.toNat)=some (I 2):=by
 unfold repV
 rw[if_neg h]
 rcases rep_two c.toNat with k|⟨p,q,k⟩
 ·exact absurd k h
 ·rw[k]
  simp[aLen,u111,byteAV]
theorem w21:IntKind.i64.wrap (2-1)=1:=by rw[wrap64]<;>omega
theorem j6 (D:Den)(n:Nat)(k0:Env→Heap→Ans)(e:Env)(s:Heap)(i:Nat)(e10:e 10=I i)(hi:i<2000000000) :
  F341_J6 D n k0 e s=k0 (upds e [(59,I i),(60,I (i+1:Nat)),(60,I (i+1:Nat)),(10,I (i+1:Nat))]) s:=by
 have w1:=wadd1q (a:=i) (by omega)
 rw[F341_J6]
 simp only[↓sW,sL,e10,w1]
theorem cnt_loop {x:List UInt8}(hb:x.length<1000000000)(f n':Nat)(hn:x.length<n'):∀(k i:Nat),x.length-i=k→i≤x.length→∀w,k<w→∀e s,Tb s→e 10=I i→e 5=I (x.length+(x.take i).countP spc:Nat)→e 6=.bool (decide ((x.take i).countP spc≠0)) →
  e 1=.str x→e 0=.ref 2 0→∃s',aLoop (F341_L5 (den Cq f) n') w e s=some (.str (esc x),s'):=by
 intro k
 induction k with
 | zero =>
  intro i hk hi w hw e s hT e10 e5 e6 e1 e0
  obtain⟨w,rfl⟩:∃j,w=j+1:=⟨w-1,by omega⟩
  rw[List.take_of_length_le (by omega)]at e5 e6
  have c:¬i<x.length:=by omega
  rw[aLoop,F341_L5]
  simp only[↓sW,sL,e10,e1,len9q,c]
  exact fin_run hb rfl f n' hn _ s hT ((upds_get _ _ _ rfl).trans e6) ((upds_get _ _ _ rfl).trans e5) ((upds_get _ _ _ rfl).trans e1) ((upds_get _ _ _ rfl).trans e0)
 | succ k ih =>
  intro i hk hi w hw e s hT e10 e5 e6 e1 e0
  obtain⟨w,rfl⟩:∃j,w=j+1:=⟨w-1,by omega⟩
  have hlt:i<x.length:=by omega
  obtain⟨c,hc⟩:∃c,c=x[i]:=⟨_,rfl⟩
  have hx:x[i]?=some c:=by rw[List.getElem?_eq_getElem hlt,hc]
  have ht1:(x.take (i+1)).countP spc=(x.take i).countP spc+(if spc c then 1 else 0):=by
   rw[List.take_add_one,hx,List.countP_append]
   show _+List.countP spc [c]=_
   rw[List.countP_singleton]
  have hle:(x.take i).countP spc≤x.length:=Nat.le_trans List.countP_le_length (by rw[List.length_take];omega)
  have hl:=ldT hT c
  have hia:=ia c
  have q:=ih (i+1) (by omega) (by omega) w (by omega)
  by_cases hr:rep c.toNat=[]
  ·have hs:spc c=false:=by simp[spc,hr]
   rw[hs]at ht1
   have ht1:(x.take (i+1)).countP spc=(x.take i).countP spc:=by simpa using ht1
   have hn:=ne_nil hr
   rw[aLoop,F341_L5]
   simp only[↓sW,sL,e10,e1,e0,len9q,hlt,idx9q hx,hia,hl,hn]
   rw[j6 (i:=i) _ _ _ _ _ ((upds_get _ _ _ rfl).trans e10) (by omega)]
   exact q _ s hT (by simp[upds_at,upd_at]) (((upds_get _ _ _ rfl).trans ((upds_get _ _ _ rfl).trans e5)).trans (by rw[ht1])) (((upds_get _ _ _ rfl).trans ((upds_get _ _ _ rfl).trans e6)).trans (by rw[ht1])) ((upds_get _ _ _ rfl).trans ((upds_get _ _ _ rfl).trans e1)) ((upds_get _ _ _ rfl).trans ((upds_get _ _ _ rfl).trans e0))
  ·have hs:spc c=true:=by simp[spc,hr]
   rw[hs]at ht1
   have ht1:(x.take (i+1)).countP spc=(x.take i).countP spc+1:=by simpa using ht1
   have hn:=ne_sl hr
   have ln:=ln111 hr
   have w1:IntKind.i64.wrap ((x.length+(x.take i).countP spc:Nat)+(1:Int))=((x.length+(x.take (i+1)).countP spc:Nat):Int):=by
    rw[ht1,←Nat.add_assoc];exact wadd1q (by omega)
   rw[aLoop,F341_L5]
   simp only[↓sW,sL,e10,e1,e0,e5,len9q,hlt,idx9q hx,hia,hl,hn,ln,w21,w1]
   rw[j6 (i:=i) _ _ _ _ _ ((upds_get _ _ _ rfl).trans e10) (by omega)]
   exact q _ s hT (by simp[upds_at,upd_at]) (by simp[upds_at,upd_at]) (by rw[ht1];simp[upds_at,upd_at]) ((upds_get _ _ _ rfl).trans ((upds_get _ _ _ rfl).trans e1)) ((upds_get _ _ _ rfl).trans ((upds_get _ _ _ rfl).trans e0))
theorem count_at (f:Nat)(x:List UInt8)(c:UInt8)(s:Heap):aCall Tryz.prog (den Cq (f+1)) 343 [.str x,.str [c]] s=some (I (x.count c),s):=by
 have hd:den Cq (f+1) 343 [.str x,.str [c]] []=some (I (x.count c),[]):=by
  rw[den_ext (e:=eCount) (by rfl)];rfl
 have he:enterable Tryz.prog 343=true:=by kernel_rfl
 simp[aCall,he,noRefL_cons,noRefL_nil,noRef_str,hd,noRef_int]
theorem j4 (D:Den)(n:Nat)(k0:Env→Heap→Ans)(e:Env)(s:Heap)(i:Nat)(e32:e 32=I i)(hi:i<2000000000) :
  F341_J4 D n k0 e s=k0 (upds e [(54,I (i+1:Nat)),(32,I (i+1:Nat))]) s:=by
 have w1:=wadd1q (a:=i) (by omega)
 rw[F341_J4]
 simp only[↓sW,sL,e32,w1]
def cs3:List UInt8:=[10,34,92]
theorem cs3_at:∀i,i<3→∃c,cs3[i]?=some c∧rep c.toNat≠[]
 | 0,_=>⟨10,rfl,by decide⟩
 | 1,_=>⟨34,rfl,by decide⟩
 | 2,_=>⟨92,rfl,by decide⟩
theorem ix38 {i:Nat}(h:i<3):aIndexAddr Tryz.prog 38 (.rs 9 1 5 0 3) (I i)=some (.ref 5 i):=by
 have:(0:Int)≤(i:Int)∧(i:Int)<(3:Nat):=by omega
 have h2:((0:Int)≤(i:Int)∧(i:Int)<3):=by omega
 simp[aIndexAddr,u38,z9,h2]
theorem bin_mul' (a b:Int):aBin Tryz.prog .mul 3 (.int .i64 a) (.int .i64 b)=some (.int .i64 (IntKind.i64.wrap (a*b))):=by simp[aBin,intBin]
theorem big_loop {x:List UInt8}(hb:x.length<1000000000)(f n':Nat)(hn:x.length<n'):∀(k i:Nat),3-i=k→i≤3→∀w,k<w→∀e s,Tb s→e 32=I i→e 31=I 3→e 30=.rs 9 1 5 0 3→e 5=I (x.length+((cs3.take i).map x.count).sum:Nat)→e 6=.bool (decide (((cs3.take i).map x.count).sum≠0)) →
  e 1=.str x→e 0=.ref 2 0→∃s',aLoop (F341_L3 (den Cq (f+1)) n') w e s=some (.str (esc x),s'):=by
 have hc3:(cs3.map x.count).sum=x.countP spc:=by
  rw[←cnt3 x]
  show x.count 10+(x.count 34+(x.count 92+0))=_
  omega
 have hcl:x.countP spc≤x.length:=List.countP_le_length
 intro k
 induction k with
 | zero =>
  intro i hk hi w hw e s hT e32 e31 e30 e5 e6 e1 e0
  obtain⟨w,rfl⟩:∃j,w=j+1:=⟨w-1,by omega⟩
  have:cs3.take i=cs3:=List.take_of_length_le (by show 3≤i;omega)
  rw[this,hc3]at e5 e6
  have c:¬((i:Int)<3):=by omega
  rw[aLoop,F341_L3]
  simp only[↓sW,sL,e32,e31,c]
  exact fin_run hb rfl (f+1) n' hn _ s hT ((upds_get _ _ _ rfl).trans e6) ((upds_get _ _ _ rfl).trans e5) ((upds_get _ _ _ rfl).trans e1) ((upds_get _ _ _ rfl).trans e0)
 | succ k ih =>
  intro i hk hi w hw e s hT e32 e31 e30 e5 e6 e1 e0
  obtain⟨w,rfl⟩:∃j,w=j+1:=⟨w-1,by omega⟩
  have hlt:i<3:=by omega
  obtain⟨c,hc,hr⟩:=cs3_at i hlt
  have ht1:((cs3.take (i+1)).map x.count).sum=((cs3.take i).map x.count).sum+x.count c:=by
   rw[List.take_add_one,hc];simp
  have hle:((cs3.take (i+1)).map x.count).sum≤x.length:=by
   have h1:cs3=cs3.take (i+1)++cs3.drop (i+1):=(List.take_append_drop _ _).symm
   have h2:(cs3.map x.count).sum=((cs3.take (i+1)).map x.count).sum+((cs3.drop (i+1)).map x.count).sum:=by
    rw[←List.sum_append,←List.map_append,←h1]
   omega
  have ld5:aLoad false false 1 (.ref 5 i) s=some (.str [c],s):=by
   obtain⟨-,⟨r,r1,r2,r3,r4⟩⟩:=hT
   have hrow:r[i]?=some (.str [c]):=by
    match i,hlt,hc with
    | 0,_,hc=>cases hc;exact r2
    | 1,_,hc=>cases hc;exact r3
    | 2,_,hc=>cases hc;exact r4
   rw[ParF.ld (n:=1) (o:=i) r1 (by decide) hrow (by decide)];rfl
  have hl:=ldT hT c
  have hia:=ia c
  have ix:=ix38 hlt
  have cl:(i:Int)<3:=by omega
  have hct:=count_at f x c s
  have i0:aIndex Tryz.prog 9 (.str [c]) (.int .i64 0)=some (U c):=idx9q (s:=[c]) (i:=0) rfl
  have q:=ih (i+1) (by omega) (by omega) w (by omega)
  by_cases h0:x.count c=0
  ·rw[h0]at ht1
   rw[h0]at hct
   have z:(((0:Nat):Int) != 0)=false:=rfl
   rw[aLoop,F341_L3]
   simp only[↓sW,sL,e32,e31,e30,e1,cl,ix,ld5,hct,z]
   rw[j4 (i:=i) _ _ _ _ _ ((upds_get _ _ _ rfl).trans e32) (by omega)]
   exact q _ s hT (by simp[upds_at,upd_at]) ((upds_get _ _ _ rfl).trans ((upds_get _ _ _ rfl).trans e31)) ((upds_get _ _ _ rfl).trans ((upds_get _ _ _ rfl).trans e30)) (((upds_get _ _ _ rfl).trans ((upds_get _ _ _ rfl).trans e5)).trans (by rw[ht1,Nat.add_zero])) (((upds_get _ _ _ rfl).trans ((upds_get _ _ _ rfl).trans e6)).trans (by rw[ht1,Nat.add_zero])) ((upds_get _ _ _ rfl).trans ((upds_get _ _ _ rfl).trans e1)) ((upds_get _ _ _ rfl).trans ((upds_get _ _ _ rfl).trans e0))
  ·have z:((x.count c:Int) != 0)=true:=by
    rw[bne_iff_ne];omega
   have ln:=ln111 hr
   have wm:IntKind.i64.wrap ((x.count c:Int)*1)=x.count c:=by rw[wrap64]<;>omega
   have wa:IntKind.i64.wrap ((x.length+((cs3.take i).map x.count).sum:Nat)+(x.count c:Int))=((x.length+((cs3.take (i+1)).map x.count).sum:Nat):Int):=by
    rw[ht1,←Nat.add_assoc];exact waddq (by omega)
   have hne:((cs3.take (i+1)).map x.count).sum≠0:=by omega
   rw[aLoop,F341_L3]
   simp only[↓sW,sL,e32,e31,e30,e1,e0,e5,cl,ix,ld5,hct,z,i0,hia,hl,ln,w21,bin_mul',wm,wa,d9]
   rw[j4 (i:=i) _ _ _ _ _ ((upds_get _ _ _ rfl).trans e32) (by omega)]
   exact q _ s hT (by simp[upds_at,upd_at]) ((upds_get _ _ _ rfl).trans ((upds_get _ _ _ rfl).trans e31)) ((upds_get _ _ _ rfl).trans ((upds_get _ _ _ rfl).trans e30)) (by simp[upds_at,upd_at]) (by rw[decide_eq_true hne];simp[upds_at,upd_at]) ((upds_get _ _ _ rfl).trans ((upds_get _ _ _ rfl).trans e1)) ((upds_get _ _ _ rfl).trans ((upds_get _ _ _ rfl).trans e0))
theorem rep_run {x:List UInt8}(hb:x.length<1000000000)(f:Nat)(hf:x.length+10<f){s:Heap}(hT:Tb s):∃s',den Cq (f+1) 341 [.ref 2 0,.str x] s=some (.str (esc x),s'):=by
 obtain⟨f,rfl⟩:∃j,f=j+1:=⟨f-1,by omega⟩
 have l256:aLoad false false 1 (.ref 2 256) s=some (.rs 9 1 5 0 3,s):=by
  obtain⟨⟨t,t1,-,t3⟩,-⟩:=hT
  rw[ParF.ld (n:=1) (o:=256) t1 (by decide) t3 (by decide)];rfl
 have ln:aLen Tryz.prog 38 (.rs 9 1 5 0 3)=some (I 3):=by simp[aLen,u38]
 have w24:IntKind.i64.wrap (3*8)=24:=by rw[wrap64]<;>omega
 rw[F341_eq,F341]
 by_cases c:(24:Int)≤x.length
 ·simp only[↓sW,sL,len9q,l256,ln,bin_mul',w24,c]
  exact big_loop hb f (f+1) (by omega) 3 0 rfl (by omega) (f+1) (by omega) _ s hT (by simp[upds_at,upd_at]) (by simp[upds_at,upd_at]) (by simp[upds_at,upd_at]) (by simp[upds_at,upd_at]) (by simp[upds_at,upd_at]) (by simp[upds_at,upd_at,argEnv]) (by simp[upds_at,upd_at,argEnv])
 ·simp only[↓sW,sL,len9q,l256,ln,bin_mul',w24,c]
  exact cnt_loop hb (f+1) (f+1) (by omega) x.length 0 (by omega) (by omega) (f+1) (by omega) _ s hT (by simp[upds_at,upd_at]) (by simp[upds_at,upd_at]) (by simp[upds_at,upd_at]) (by simp[upds_at,upd_at,argEnv]) (by simp[upds_at,upd_at,argEnv])
end QutF
end

section
namespace QutF
open Go Go.Abs Go.Proofs ParF
theorem once_eval:eOnce [.ref 0 0,.fn 92 [.ref 0 0] []] H1=some (.tup [],H2):=by
 have h:=once_ok
 unfold H2
 revert h
 generalize eOnce [.ref 0 0,.fn 92 [.ref 0 0] []] H1=r
 intro h
 match r,h with
 | some (v,s),h =>
  have h:isNil v=true:=h
  have:v=.tup []:=by
   unfold isNil at h
   split at h
   ·rfl
   ·cases h
  rw[this]
theorem do_at (f:Nat):aCall Tryz.prog (den Cq (f+1)) 91 [.ref 0 0,.fn 92 [.ref 0 0] []] H1=some (.tup [],H2):=by
 have he:enterable Tryz.prog 91=true:=by kernel_rfl
 have hd:den Cq (f+1) 91 [.ref 0 0,.fn 92 [.ref 0 0] []] H1=some (.tup [],H2):=by
  rw[den_ext (e:=eOnce) (by rfl)];exact once_eval
 have hn:noRefL [.ref 0 0,.fn 92 [.ref 0 0] []]=false:=by rfl
 simp[aCall,he,hn,hd]
theorem ld_ifc:aLoad false false 1 (.ref 0 3) H2=some (.ifv 207 (.ref 2 0),H2):=by
 obtain⟨cs,c1,c2⟩:=hAt_eq h2_a
 have he:=h2_e
 simp only[Prod.mk.injEq,Option.map_eq_some_iff]at he
 obtain⟨⟨ds,d1,d2⟩,-⟩:=he
 rw[c1]at d1
 cases d1
 have c1:H2[0]?=some (140,cs.2):=by rw[c1,←d2]
 rw[ParF.ld (n:=1) (o:=3) c1 (by decide) c2 (by decide)];rfl
theorem meth_rep : methOf Tryz.prog 207 "Replace" = some 341 := by kernel_rfl
theorem inv_at {x : List UInt8} (hb : x.length < 1000000000) (f : Nat) (hf : x.length + 10 < f) : ∃ s', aInv Tryz.prog (den Cq (f + 1)) (.ifv 207 (.ref 2 0)) "Replace" [.str x] H2 = some (.str (esc x), s') := by
 obtain⟨s',h⟩:=rep_run hb f hf tb2
 have he:=en341
 have hn:noRefL [.ref 2 0,.str x]=false:=by rfl
 refine⟨s',?_⟩
 simp only[aInv,meth_rep]
 show aCall Tryz.prog (den Cq (f+1)) 341 [.ref 2 0,.str x] H2=_
 simp[aCall,he,hn,h]
theorem repl_run {x:List UInt8}(hb:x.length<1000000000)(f:Nat)(hf:x.length+10<f):∃s',den Cq (f+2) 45 [.ref 0 0,.str x] H1=some (.str (esc x),s'):=by
 obtain⟨s',hi⟩:=inv_at hb f hf
 have hd:=do_at f
 refine⟨s',?_⟩
 rw[F45_eq,F45]
 simp only[↓sW,sL,hd,ld_ifc,hi]
theorem quote_run (x:List UInt8)(hb:x.length<1000000000):AC Cq 25 [.str x] (.str (34::(esc x++[34]))):=by
 refine .intro en25 rfl rfl ⟨x.length+30,fun f hf=>?_⟩
 obtain⟨g,rfl⟩:∃g,f=g+2:=⟨f-2,by omega⟩
 obtain⟨s',hr⟩:=repl_run hb g (by omega)
 have hbs:aBuildSlice Tryz.prog 38 6 [(0,(.str [92])),(1,(.str [92,92])),(2,(.str [34])),(3,(.str [92,34])),(4,(.str [10])),(5,(.str [92,110]))]=some (.sl 9 1 oldnew .own):=by kernel_rfl
 have hnew:aCallF Tryz.prog (den Cq (g+2)) 44 [.sl 9 1 oldnew .sh] []=some (.ref 0 0,H1):=by
  have he:enterable Tryz.prog 44=true:=by kernel_rfl
  have:=den_mono Cq (show 10≤g+2 by omega) _ _ _ _ new_eval
  simp[aCallF,he,this]
 have hrep:aCall Tryz.prog (den Cq (g+2)) 45 [.ref 0 0,.str x] H1=some (.str (esc x),s'):=by
  have hn:noRefL [.ref 0 0,.str x]=false:=by rfl
  simp[aCall,en45,hn,hr]
 have hcl:(esc x).length≤2000000000:=by
  rw[esc_len]
  have:x.countP spc≤x.length:=List.countP_le_length
  omega
 have a1:aBin Tryz.prog .add 9 (.str [34]) (.str (esc x))=some (.str (34::esc x)):=str_add _ _ (a:=[34]) (b:=esc x) (by show 1+(esc x).length≤_;omega)
 have a2:aBin Tryz.prog .add 9 (.str (34::esc x)) (.str [34])=some (.str (34::(esc x++[34]))):=str_add _ _ (a:=34::esc x) (b:=[34]) (by rw[List.length_cons];show (esc x).length+1+1≤_;omega)
 refine⟨s',?_⟩
 rw[F25_eq,F25]
 simp only[↓sW,sL,hbs,strip_own,hnew,hrep,a1,a2]
theorem esc_quote (x:List UInt8):esc x=quoteL x:=by
 unfold esc quoteL
 congr 1
 funext c
 have key:∀d:UInt8,(c=d)↔c.toNat=d.toNat:=fun d=>UInt8.toNat_inj.symm
 have h10:(10:UInt8).toNat=10:=rfl
 have h34:(34:UInt8).toNat=34:=rfl
 have h92:(92:UInt8).toNat=92:=rfl
 unfold rep
 simp only[key,h10,h34,h92]
 by_cases a:c.toNat=92
 ·simp[a]
 ·by_cases b:c.toNat=34
  ·simp[a,b]
  ·by_cases d:c.toNat=10
   ·simp[a,b,d]
   ·simp[a,b,d]
end QutF
end
