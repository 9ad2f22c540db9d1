/- PrtT, PrtF, PrtA, PrtB -/
import Derived.Test.YtnhnmigafkodfaaGreatDoorJ
import Derived.Test.YtnhnmigafkodfaaGreatDoorC
set_option linter.all false
set_option maxRecDepth 100000
set_option maxHeartbeats 1000000

section
namespace Pm
open ParF (itoaL quoteL szN szNL)
def Nd.kd:Nd→Int|.mk k _ _ _ _ _ _=>k
def Sd.kd:Sd→Int|.mk k _ _ _=>k
def Sd.cs:Sd→List Sd|.mk _ _ _ cs=>cs
def zSd:Sd:=.mk 0 0 [] []
def zNd:Nd:=.mk 0 0 [] 0 0 0 []
def andI (a b:Int):Int:=Go.IntKind.i64.wrap ((BitVec.ofInt 64 a &&& BitVec.ofInt 64 b).toNat:Nat)
def flagP (v:Int)(w:Bytes):Bytes:=if andI v 1=1 then w else[]
def kwP (k:Int):Bytes:=if 9<k then[116,121,112,101] else(([[117,115,101],[102,110],[115,116,114,117,99,116],[101,110,117,109],[116,114,97,105,116],[105,109,112,108],[99,111,110,115,116],[109,97,99,114,111]]:List Bytes)[(k-2).toNat]?).getD []
def tailP (N:Sd→List Bytes)(w:Bytes):List Sd→List Bytes
 | []=>[]
 | t::ts=>w::(N t++tailP N w ts)
def listP (N:Sd→List Bytes)(w:Bytes):List Sd→List Bytes
 | []=>[]
 | t::ts=>N t++tailP N w ts
def encP (N:Sd→List Bytes)(a:Bytes)(ns:List Sd)(w b:Bytes):List Bytes:=a::(listP N w ns++[b])
def optP (N:Sd→List Bytes)(w:Bytes)(t:Sd):List Bytes:=if t.kd=0 then[] else w::N t
def targP (N:Sd→List Bytes)(ns:List Sd):List Bytes:=if ns=[] then[] else encP N [60] ns [44] [62]
def prim (k:Int):Bool:=k==27 || k==28 || k==29 || k==17 || k==30 || k==31 || k==32 || k==42
def opndP (N:Sd→List Bytes)(t:Sd):List Bytes:=if prim t.kd then N t else encP N [40] [t] [] [41]
def chS (cs:List Sd)(i:Nat):Sd:=cs.getD i zSd
section
variable (N:Sd→List Bytes)(k v:Int)(x:Bytes)(cs:List Sd)
def itemP:List (List Bytes):=[flagP v [112,117,98],kwP k]::(if k=2 then[N (chS cs 0),if andI v 2=0 then[] else[[58,58],[42]],if x=[] then[] else[[97,115],x],[[59]]]
 else if k=3 then[[x],N (chS cs 0),encP N [40] (chS cs 1).cs [44] [41],optP N [45,62] (chS cs 2),if(chS cs 3).kd=0 then[[59]] else[],N (chS cs 3)]
 else if k=4∨k=5 then[[x],N (chS cs 0),encP N [123] (cs.drop 1) [44] [125]]
 else if k=6 then[[x],encP N [123] cs [] [125]]
 else if k=7 then[N (chS cs 0),N (chS cs 1),if(chS cs 1).kd=0 then[] else[[102,111,114]],N (chS cs 2),encP N [123] (cs.drop 3) [] [125]]
 else if k=8 then[[x],optP N [58] (chS cs 0),optP N [61] (chS cs 1),[[59]]]
 else if k=9 then[[x],encP N [40] (chS cs 0).cs [44] [41],optP N [61] (chS cs 1),[[59]]]
 else if k=16 then[[x],optP N [61] (chS cs 0),[[59]]] else[])
def partP:List (List Bytes):=if k=10 then[targP N cs]
 else if k=11 then[x]::(if cs=[] then[] else[[[58]],listP N [43] cs])
 else if k=13∨k=14 then[[x],optP N [58] (chS cs 0)]
 else if k=15 then[x]::(if cs=[] then[] else[encP N [40] cs [44] [41]])
 else if k=17 then[listP N [58,58] cs]
 else if k=18 then[[x],targP N cs]
 else if k=19 then[[[38],flagP v [109,117,116]],N (chS cs 0)]
 else if k=20 then[[[102,110]],encP N [40] (cs.take (cs.length-1)) [44] [41],optP N [45,62] (chS cs (cs.length-1))] else[]
def stmtP:List (List Bytes):=if k=22 then[[[108,101,116]],N (chS cs 0),optP N [58] (chS cs 1),optP N [61] (chS cs 2),[[59]]]
 else if k=23 then[N (chS cs 0),optP N [61] (chS cs 1),[[59]]]
 else if k=24 then[[[119,104,105,108,101]],N (chS cs 0),N (chS cs 1)]
 else if k=25 then[[[114,101,116,117,114,110]],N (chS cs 0),[[59]]]
 else if k=26 then[N (chS cs 0),[[59]]] else[]
def boolP:Bytes:=if v=1 then[116,114,117,101] else[102,97,108,115,101]
def quoP:Bytes:=34::(quoteL x++[34])
def exprP:List (List Bytes):=if k=27 then[[itoaL v]]
 else if k=28 then[[boolP v]]
 else if k=29 then[[quoP x]]
 else if k=30 then[opndP N (chS cs 0),encP N [40] (cs.drop 1) [44] [41]]
 else if k=31 then[opndP N (chS cs 0),[[46],x],encP N [40] (cs.drop 1) [44] [41]]
 else if k=32 then[opndP N (chS cs 0),[[46],x]]
 else if k=39 then[opndP N (chS cs 0),[x],opndP N (chS cs 1)]
 else if k=40 then[[x],opndP N (chS cs 0)]
 else if k=41 then[[[38],flagP v [109,117,116]],opndP N (chS cs 0)]
 else if k=42 then[N (chS cs 0),[[33]],encP N [40] (cs.drop 1) [44] [41]] else[]
def consP:List (List Bytes):=if k=21 then[encP N [123] cs [] [125]]
 else if k=33 then[[[110,101,119]],N (chS cs 0),encP N [123] (cs.drop 1) [44] [125]]
 else if k=34 then[[x],optP N [58] (chS cs 0)]
 else if k=35 then[[[109,97,116,99,104]],N (chS cs 0),encP N [123] (cs.drop 1) [44] [125]]
 else if k=36 then[N (chS cs 0),optP N [61,62] (chS cs 1)]
 else if k=37 then[[[105,102]],N (chS cs 0),N (chS cs 1),optP N [101,108,115,101] (chS cs 2)]
 else if k=38 then[encP N [124] (chS cs 0).cs [44] [124],N (chS cs 1)]
 else if k=43 then[[[95]]]
 else if k=44 then[[flagP v [109,117,116],x]]
 else if k=45 then N (chS cs 0)::(if 1<cs.length∨(chS cs 0).cs.length<2 then[encP N [40] (cs.drop 1) [44] [41]] else[]) else[]
def nodeP:List (List Bytes):=if k=1 then[listP N [] cs]
 else if 2≤k∧k≤9∨k=16 then itemP N k v x cs
 else if 10≤k∧k≤20 then partP N k v x cs
 else if 22≤k∧k≤26 then stmtP N k cs
 else if 27≤k∧k≤32∨39≤k∧k≤42 then exprP N k v x cs
 else consP N k v x cs
end
mutual
def fitN:Nd→Prop
 | .mk _ v x _ _ _ cs=>(-9223372036854775808≤v∧v≤9223372036854775807∧x.length<1000000000)∧fitL cs
def fitL:List Nd→Prop
 | []=>True
 | t::ts=>fitN t∧fitL ts
end
theorem fitL_mem:∀{cs:List Nd}{u:Nd},fitL cs→u∈cs→fitN u
 | [],u,_,h=>by cases h
 | c::cs,u,w,h=>by
  rw[fitL]at w
  rcases List.mem_cons.1 h with rfl|h
  ·exact w.1
  ·exact fitL_mem w.2 h
def prN:Nat→Sd→List Bytes
 | 0,_=>[]
 | f+1,.mk k v x cs=>(nodeP (prN f) k v x cs).flatten
theorem prN_zero (f:Nat):prN f zSd=[]:=by cases f<;>rfl
end Pm
end

section
namespace PrtF
open Go Go.Abs Go.Proofs ParF
-- (*ast.printer).put
noncomputable def F133 (D:Den)(n:Nat)(t0 t1:AV)(s:Heap):Ans :=
 oMv t0 s fun t4 s =>
 oMv t0 s fun t5 s =>
 oNc t5 s fun t6 s =>
 oAd 0 t6 s fun t7 s =>
 oL1 t7 s fun t8 s =>
 oMv t1 s fun t9 s =>oh (aRsAppend Tryz.prog 38 38 t8 t9 s) fun t10 s =>
 oNc t4 s fun t11 s =>
 oAd 0 t11 s fun t12 s =>
 oSr 1 s t12 t10.strip fun _r s =>
 some (.tup [],s)
theorem F133_eq (n:Nat)(t0 t1:AV)(s:Heap):den C (n+1) 133 [t0,t1] s=F133 (den C n) n t0 t1 s :=
 (den_body rfl Tryz.func133 _ _).trans (by kernel_rfl)
theorem en133:enterable Tryz.prog 133=true:=by kernel_rfl
-- ast.flag
noncomputable def F134 (D:Den)(n:Nat)(t0 t1:AV)(s:Heap):Ans :=
 oBx 27 t0 s fun t2 s =>
 oCp (.str []) s fun t4 s =>
 oAd 1 t2 s fun t5 s =>
 oL1 t5 s fun t6 s =>
 oBn .and 3 t6 (.int .i64 1) s fun t7 s =>
 oBn .eql 3 t7 (.int .i64 1) s fun t8 s =>
 br t8
  (oMv t1 s fun t9 s =>
 oCp t9 s fun t4_2 s =>
 some (t4_2,s))
  (oCp (.str []) s fun t4_3 s =>
 some (t4_3,s))
theorem F134_eq (n:Nat)(t0 t1:AV)(s:Heap):den C (n+1) 134 [t0,t1] s=F134 (den C n) n t0 t1 s :=
 (den_body rfl Tryz.func134 _ _).trans (by kernel_rfl)
theorem en134:enterable Tryz.prog 134=true:=by kernel_rfl
-- ast.itemKeyword
noncomputable def F135 (D:Den)(n:Nat)(t0:AV)(s:Heap):Ans :=
 oCp (.str []) s fun t2 s =>
 oMv t0 s fun t3 s =>
 oBn .gtr 3 t3 (.int .i64 9) s fun t4 s =>
 br t4
  (oCp (.str [116,121,112,101]) s fun t2_2 s =>
 some (t2_2,s))
  (oCa D 130 [(.str [117,115,101,32,102,110,32,115,116,114,117,99,116,32,101,110,117,109,32,116,114,97,105,116,32,105,109,112,108,32,99,111,110,115,116,32,109,97,99,114,111])] s fun t5 s =>
 oMv t0 s fun t6 s =>
 oBn .sub 3 t6 (.int .i64 2) s fun t7 s =>
 oIx 38 t5 t7 s fun t8 s =>
 oL1 t8 s fun t9 s =>
 oCp t9 s fun t2_3 s =>
 some (t2_3,s))
theorem F135_eq (n:Nat)(t0:AV)(s:Heap):den C (n+1) 135 [t0] s=F135 (den C n) n t0 s :=
 (den_body rfl Tryz.func135 _ _).trans (by kernel_rfl)
theorem en135:enterable Tryz.prog 135=true:=by kernel_rfl
-- ast.child
noncomputable def F136 (D:Den)(n:Nat)(t0 t1:AV)(s:Heap):Ans :=
 oBx 27 t0 s fun t2 s =>
 oAl 27 s fun t4 s =>
 oMv t1 s fun t5 s =>
 oAd 6 t2 s fun t6 s =>
 oL1 t6 s fun t7 s =>
 oLn 25 t7 s fun t8 s =>
 oBn .geq 3 t5 t8 s fun t9 s =>
 br t9
  (oBd 27 [] s fun t10 s =>
 oSr 7 s t4 t10 fun _r s =>
 fin1 ((aLoad false true 7 t4 s).map (·.1)) s)
  (oAd 6 t2 s fun t11 s =>
 oL1 t11 s fun t12 s =>
 oMv t1 s fun t13 s =>
 oIx 25 t12 t13 s fun t14 s =>
 oLa 7 t14 s fun t15 s =>
 oSr 7 s t4 t15 fun _r s =>
 fin1 ((aLoad false true 7 t4 s).map (·.1)) s)
theorem F136_eq (n:Nat)(t0 t1:AV)(s:Heap):den C (n+1) 136 [t0,t1] s=F136 (den C n) n t0 t1 s :=
 (den_body rfl Tryz.func136 _ _).trans (by kernel_rfl)
theorem en136:enterable Tryz.prog 136=true:=by kernel_rfl
-- ast.childrenFrom
noncomputable def F139 (D:Den)(n:Nat)(t0 t1:AV)(s:Heap):Ans :=
 oBx 27 t0 s fun t2 s =>
 oCp .nils s fun t4 s =>
 oAd 6 t2 s fun t5 s =>
 oL1 t5 s fun t6 s =>
 oMv t1 s fun t7 s =>
 oAd 6 t2 s fun t8 s =>
 oL1 t8 s fun t9 s =>
 oLn 25 t9 s fun t10 s =>oh (mp (aMin t7 t10) s) fun t11 s =>oh (mp (aSl Tryz.prog 25 t6 (some t11) none none) s) fun t12 s =>
 oCp t12 s fun t4_2 s =>
 some (t4_2,s)
theorem F139_eq (n:Nat)(t0 t1:AV)(s:Heap):den C (n+1) 139 [t0,t1] s=F139 (den C n) n t0 t1 s :=
 (den_body rfl Tryz.func139 _ _).trans (by kernel_rfl)
theorem en139:enterable Tryz.prog 139=true:=by kernel_rfl
-- (*ast.printer).list
noncomputable def F72_J1 (D:Den)(n:Nat)(k0:Env→Heap→Ans)(e:Env)(s:Heap):Ans :=
 oMv (e 0) s fun t21 s =>
 oLa 7 (e 7) s fun t22 s =>
 oCa D 39 [t21.strip,t22.strip] s fun t23 s =>
 oBn .add 3 (e 10) (.int .i64 1) s fun t24 s =>
 oMv t24 s fun t10_2 s =>
 k0 (upds e [(21,t21),(22,t22),(23,t23),(24,t24),(10,t10_2)]) s
noncomputable def F72_L0 (D:Den)(n:Nat)(k0:Env→Heap→Ans)(e:Env)(s:Heap):Ans :=
 oBn .lss 3 (e 10) (e 9) s fun t11 s =>
 br t11
  (oMv (e 10) s fun t12 s =>
 oIx 25 (e 8) (e 10) s fun t13 s =>
 oLa 7 t13 s fun t14 s =>
 oAl 27 s fun t7 s =>
 oCp t12 s fun t6 s =>
 oSr 7 s t7 t14 fun _r s =>
 oMv t6 s fun t15 s =>
 oBn .gtr 3 t15 (.int .i64 0) s fun t16 s =>
 br t16
  (oMv (e 0) s fun t17 s =>
 oMv (e 2) s fun t18 s =>
 oBs 38 1 [(0,t18)] s fun t19 s =>
 oCa D 133 [t17.strip,t19.strip] s fun t20 s =>
 F72_J1 D n k0 (upds e [(11,t11),(12,t12),(13,t13),(14,t14),(7,t7),(12,t12.strip),(6,t6),(14,t14.strip),(15,t15),(16,t16),(17,t17),(18,t18),(19,t19),(20,t20)]) s)
  (F72_J1 D n k0 (upds e [(11,t11),(12,t12),(13,t13),(14,t14),(7,t7),(12,t12.strip),(6,t6),(14,t14.strip),(15,t15),(16,t16)]) s))
  (some (.tup [],s))
noncomputable def F72 (D:Den)(n:Nat)(t0 t1 t2:AV)(s:Heap):Ans :=
 oMv t1 s fun t8 s =>
 oLn 25 t8 s fun t9 s =>
 oCp (.int .i64 0) s fun t10 s =>
 aLoop (F72_L0 D n) n (upds (argEnv [t0,t1,t2]) [(8,t8),(9,t9),(10,t10)]) s
theorem F72_eq (n:Nat)(t0 t1 t2:AV)(s:Heap):den C (n+1) 72 [t0,t1,t2] s=F72 (den C n) n t0 t1 t2 s :=
 (den_body rfl Tryz.func72 _ _).trans (by kernel_rfl)
theorem en72:enterable Tryz.prog 72=true:=by kernel_rfl
-- (*ast.printer).enclosed
noncomputable def F137 (D:Den)(n:Nat)(t0 t1 t2 t3 t4:AV)(s:Heap):Ans :=
 oMv t0 s fun t10 s =>
 oMv t1 s fun t11 s =>
 oBs 38 1 [(0,t11)] s fun t12 s =>
 oCa D 133 [t10.strip,t12.strip] s fun t13 s =>
 oMv t0 s fun t14 s =>
 oMv t2 s fun t15 s =>
 oMv t3 s fun t16 s =>
 oCa D 72 [t14.strip,t15.strip,t16.strip] s fun t17 s =>
 oMv t0 s fun t18 s =>
 oMv t4 s fun t19 s =>
 oBs 38 1 [(0,t19)] s fun t20 s =>
 oCa D 133 [t18.strip,t20.strip] s fun t21 s =>
 some (.tup [],s)
theorem F137_eq (n:Nat)(t0 t1 t2 t3 t4:AV)(s:Heap):den C (n+1) 137 [t0,t1,t2,t3,t4] s=F137 (den C n) n t0 t1 t2 t3 t4 s :=
 (den_body rfl Tryz.func137 _ _).trans (by kernel_rfl)
theorem en137:enterable Tryz.prog 137=true:=by kernel_rfl
-- (*ast.printer).optional
noncomputable def F138 (D:Den)(n:Nat)(t0 t1 t2:AV)(s:Heap):Ans :=
 oBx 27 t2 s fun t5 s =>
 oAd 0 t5 s fun t6 s =>
 oL1 t6 s fun t7 s =>
 oBn .neq 3 t7 (.int .i64 0) s fun t8 s =>
 br t8
  (oMv t0 s fun t9 s =>
 oMv t1 s fun t10 s =>
 oBs 38 1 [(0,t10)] s fun t11 s =>
 oCa D 133 [t9.strip,t11.strip] s fun t12 s =>
 oMv t0 s fun t13 s =>
 oLa 7 t5 s fun t14 s =>
 oCa D 39 [t13.strip,t14.strip] s fun t15 s =>
 some (.tup [],s))
  (some (.tup [],s))
theorem F138_eq (n:Nat)(t0 t1 t2:AV)(s:Heap):den C (n+1) 138 [t0,t1,t2] s=F138 (den C n) n t0 t1 t2 s :=
 (den_body rfl Tryz.func138 _ _).trans (by kernel_rfl)
theorem en138:enterable Tryz.prog 138=true:=by kernel_rfl
-- (*ast.printer).typeArgs
noncomputable def F140 (D:Den)(n:Nat)(t0 t1:AV)(s:Heap):Ans :=
 oMv t1 s fun t4 s =>
 oLn 25 t4 s fun t5 s =>
 oBn .gtr 3 t5 (.int .i64 0) s fun t6 s =>
 br t6
  (oMv t0 s fun t7 s =>
 oMv t1 s fun t8 s =>
 oCa D 137 [t7.strip,(.str [60]),t8.strip,(.str [44]),(.str [62])] s fun t9 s =>
 some (.tup [],s))
  (some (.tup [],s))
theorem F140_eq (n:Nat)(t0 t1:AV)(s:Heap):den C (n+1) 140 [t0,t1] s=F140 (den C n) n t0 t1 s :=
 (den_body rfl Tryz.func140 _ _).trans (by kernel_rfl)
theorem en140:enterable Tryz.prog 140=true:=by kernel_rfl
-- (*ast.printer).operand
noncomputable def F143_J0 (D:Den)(n:Nat)(e:Env)(s:Heap):Ans :=
 br (e 10)
  (oMv (e 0) s fun t19 s =>
 oLa 7 (e 3) s fun t20 s =>
 oCa D 39 [t19.strip,t20.strip] s fun t21 s =>
 some (.tup [],s))
  (oMv (e 0) s fun t6 s =>
 oLa 7 (e 3) s fun t7 s =>
 oBs 25 1 [(0,t7)] s fun t8 s =>
 oCa D 137 [t6.strip,(.str [40]),t8.strip,(.str []),(.str [41])] s fun t9 s =>
 some (.tup [],s))
noncomputable def F143 (D:Den)(n:Nat)(t0 t1:AV)(s:Heap):Ans :=
 oBx 27 t1 s fun t3 s =>
 oAd 0 t3 s fun t4 s =>
 oL1 t4 s fun t5 s =>
 oBn .eql 3 t5 (.int .i64 27) s fun t11 s =>
 oCp t11 s fun t10 s =>
 br t10
  (F143_J0 D n (upds (argEnv [t0,t1]) [(3,t3),(4,t4),(5,t5),(11,t11),(11,t11.strip),(10,t10)]) s)
  (oBn .eql 3 t5 (.int .i64 28) s fun t12 s =>
 oCp t12 s fun t10_2 s =>
 br t10_2
  (F143_J0 D n (upds (argEnv [t0,t1]) [(3,t3),(4,t4),(5,t5),(11,t11),(11,t11.strip),(10,t10),(12,t12),(12,t12.strip),(10,t10_2)]) s)
  (oBn .eql 3 t5 (.int .i64 29) s fun t13 s =>
 oCp t13 s fun t10_3 s =>
 br t10_3
  (F143_J0 D n (upds (argEnv [t0,t1]) [(3,t3),(4,t4),(5,t5),(11,t11),(11,t11.strip),(10,t10),(12,t12),(12,t12.strip),(10,t10_2),(13,t13),(13,t13.strip),(10,t10_3)]) s)
  (oBn .eql 3 t5 (.int .i64 17) s fun t14 s =>
 oCp t14 s fun t10_4 s =>
 br t10_4
  (F143_J0 D n (upds (argEnv [t0,t1]) [(3,t3),(4,t4),(5,t5),(11,t11),(11,t11.strip),(10,t10),(12,t12),(12,t12.strip),(10,t10_2),(13,t13),(13,t13.strip),(10,t10_3),(14,t14),(14,t14.strip),(10,t10_4)]) s)
  (oBn .eql 3 t5 (.int .i64 30) s fun t15 s =>
 oCp t15 s fun t10_5 s =>
 br t10_5
  (F143_J0 D n (upds (argEnv [t0,t1]) [(3,t3),(4,t4),(5,t5),(11,t11),(11,t11.strip),(10,t10),(12,t12),(12,t12.strip),(10,t10_2),(13,t13),(13,t13.strip),(10,t10_3),(14,t14),(14,t14.strip),(10,t10_4),(15,t15),(15,t15.strip),(10,t10_5)]) s)
  (oBn .eql 3 t5 (.int .i64 31) s fun t16 s =>
 oCp t16 s fun t10_6 s =>
 br t10_6
  (F143_J0 D n (upds (argEnv [t0,t1]) [(3,t3),(4,t4),(5,t5),(11,t11),(11,t11.strip),(10,t10),(12,t12),(12,t12.strip),(10,t10_2),(13,t13),(13,t13.strip),(10,t10_3),(14,t14),(14,t14.strip),(10,t10_4),(15,t15),(15,t15.strip),(10,t10_5),(16,t16),(16,t16.strip),(10,t10_6)]) s)
  (oBn .eql 3 t5 (.int .i64 32) s fun t17 s =>
 oCp t17 s fun t10_7 s =>
 br t10_7
  (F143_J0 D n (upds (argEnv [t0,t1]) [(3,t3),(4,t4),(5,t5),(11,t11),(11,t11.strip),(10,t10),(12,t12),(12,t12.strip),(10,t10_2),(13,t13),(13,t13.strip),(10,t10_3),(14,t14),(14,t14.strip),(10,t10_4),(15,t15),(15,t15.strip),(10,t10_5),(16,t16),(16,t16.strip),(10,t10_6),(17,t17),(17,t17.strip),(10,t10_7)]) s)
  (oBn .eql 3 t5 (.int .i64 42) s fun t18 s =>
 oCp t18 s fun t10_8 s =>
 F143_J0 D n (upds (argEnv [t0,t1]) [(3,t3),(4,t4),(5,t5),(11,t11),(11,t11.strip),(10,t10),(12,t12),(12,t12.strip),(10,t10_2),(13,t13),(13,t13.strip),(10,t10_3),(14,t14),(14,t14.strip),(10,t10_4),(15,t15),(15,t15.strip),(10,t10_5),(16,t16),(16,t16.strip),(10,t10_6),(17,t17),(17,t17.strip),(10,t10_7),(18,t18),(18,t18.strip),(10,t10_8)]) s)))))))
theorem F143_eq (n:Nat)(t0 t1:AV)(s:Heap):den C (n+1) 143 [t0,t1] s=F143 (den C n) n t0 t1 s :=
 (den_body rfl Tryz.func143 _ _).trans (by kernel_rfl)
theorem en143:enterable Tryz.prog 143=true:=by kernel_rfl
-- strconv.FormatBool
noncomputable def F142 (D:Den)(n:Nat)(t0:AV)(s:Heap):Ans :=
 oCp (.str []) s fun t2 s =>
 oMv t0 s fun t3 s =>
 oCa D 185 [t3.strip] s fun t4 s =>
 oCp t4 s fun t2_2 s =>
 some (t2_2,s)
theorem F142_eq (n:Nat)(t0:AV)(s:Heap):den C (n+1) 142 [t0] s=F142 (den C n) n t0 s :=
 (den_body rfl Tryz.func142 _ _).trans (by kernel_rfl)
theorem en142:enterable Tryz.prog 142=true:=by kernel_rfl
-- internal/strconv.FormatBool
noncomputable def F185 (D:Den)(n:Nat)(t0:AV)(s:Heap):Ans :=
 oCp (.str []) s fun t2 s =>
 oMv t0 s fun t3 s =>
 br t3
  (oCp (.str [116,114,117,101]) s fun t2_2 s =>
 some (t2_2,s))
  (oCp (.str [102,97,108,115,101]) s fun t2_3 s =>
 some (t2_3,s))
theorem F185_eq (n:Nat)(t0:AV)(s:Heap):den C (n+1) 185 [t0] s=F185 (den C n) n t0 s :=
 (den_body rfl Tryz.func185 _ _).trans (by kernel_rfl)
theorem en185:enterable Tryz.prog 185=true:=by kernel_rfl
-- (*ast.printer).item
noncomputable def F73_J3 (D:Den)(n:Nat)(e:Env)(s:Heap):Ans :=
 oMv (e 0) s fun t48 s =>
 oBs 38 1 [(0,(.str [59]))] s fun t49 s =>
 oCa D 133 [t48.strip,t49.strip] s fun t50 s =>
 some (.tup [],s)
noncomputable def F73_J2 (D:Den)(n:Nat)(e:Env)(s:Heap):Ans :=
 oAd 2 (e 3) s fun t40 s =>
 oL1 t40 s fun t41 s =>
 oBn .neq 9 t41 (.str []) s fun t42 s =>
 br t42
  (oMv (e 0) s fun t43 s =>
 oAd 2 (e 3) s fun t44 s =>
 oL1 t44 s fun t45 s =>
 oBs 38 2 [(0,(.str [97,115])),(1,t45)] s fun t46 s =>
 oCa D 133 [t43.strip,t46.strip] s fun t47 s =>
 F73_J3 D n (upds e [(40,t40),(41,t41),(42,t42),(43,t43),(44,t44),(45,t45),(46,t46),(47,t47)]) s)
  (F73_J3 D n (upds e [(40,t40),(41,t41),(42,t42)]) s)
noncomputable def F73_J5 (D:Den)(n:Nat)(e:Env)(s:Heap):Ans :=
 oMv (e 0) s fun t73 s =>
 oLa 7 (e 3) s fun t74 s =>
 oCa D 136 [t74.strip,(.int .i64 3)] s fun t75 s =>
 oCa D 39 [t73.strip,t75.strip] s fun t76 s =>
 some (.tup [],s)
noncomputable def F73_J10 (D:Den)(n:Nat)(e:Env)(s:Heap):Ans :=
 oMv (e 0) s fun t111 s =>
 oLa 7 (e 3) s fun t112 s =>
 oCa D 136 [t112.strip,(.int .i64 2)] s fun t113 s =>
 oCa D 39 [t111.strip,t113.strip] s fun t114 s =>
 oMv (e 0) s fun t115 s =>
 oLa 7 (e 3) s fun t116 s =>
 oCa D 139 [t116.strip,(.int .i64 3)] s fun t117 s =>
 oCa D 137 [t115.strip,(.str [123]),t117.strip,(.str []),(.str [125])] s fun t118 s =>
 some (.tup [],s)
noncomputable def F73_J6 (D:Den)(n:Nat)(e:Env)(s:Heap):Ans :=
 br (e 77)
  (oMv (e 0) s fun t80 s =>
 oLa 7 (e 3) s fun t81 s =>
 oCa D 136 [t81.strip,(.int .i64 0)] s fun t82 s =>
 oCa D 39 [t80.strip,t82.strip] s fun t83 s =>
 oMv (e 0) s fun t84 s =>
 oLa 7 (e 3) s fun t85 s =>
 oCa D 139 [t85.strip,(.int .i64 1)] s fun t86 s =>
 oCa D 137 [t84.strip,(.str [123]),t86.strip,(.str [44]),(.str [125])] s fun t87 s =>
 some (.tup [],s))
  (oBn .eql 3 (e 26) (.int .i64 6) s fun t89 s =>
 oCp t89 s fun t88 s =>
 br t88
  (oMv (e 0) s fun t90 s =>
 oAd 6 (e 3) s fun t91 s =>
 oL1 t91 s fun t92 s =>
 oCa D 137 [t90.strip,(.str [123]),t92.strip,(.str []),(.str [125])] s fun t93 s =>
 some (.tup [],s))
  (oBn .eql 3 (e 26) (.int .i64 7) s fun t95 s =>
 oCp t95 s fun t94 s =>
 br t94
  (oMv (e 0) s fun t96 s =>
 oLa 7 (e 3) s fun t97 s =>
 oCa D 136 [t97.strip,(.int .i64 0)] s fun t98 s =>
 oCa D 39 [t96.strip,t98.strip] s fun t99 s =>
 oMv (e 0) s fun t100 s =>
 oLa 7 (e 3) s fun t101 s =>
 oCa D 136 [t101.strip,(.int .i64 1)] s fun t102 s =>
 oCa D 39 [t100.strip,t102.strip] s fun t103 s =>
 oLa 7 (e 3) s fun t104 s =>
 oCa D 136 [t104.strip,(.int .i64 1)] s fun t105 s =>oh (mp (aField Tryz.prog 27 0 t105) s) fun t106 s =>
 oBn .neq 3 t106 (.int .i64 0) s fun t107 s =>
 br t107
  (oMv (e 0) s fun t108 s =>
 oBs 38 1 [(0,(.str [102,111,114]))] s fun t109 s =>
 oCa D 133 [t108.strip,t109.strip] s fun t110 s =>
 F73_J10 D n (upds e [(89,t89),(89,t89.strip),(88,t88),(95,t95),(95,t95.strip),(94,t94),(96,t96),(97,t97),(98,t98),(99,t99),(100,t100),(101,t101),(102,t102),(103,t103),(104,t104),(105,t105),(106,t106),(107,t107),(108,t108),(109,t109),(110,t110)]) s)
  (F73_J10 D n (upds e [(89,t89),(89,t89.strip),(88,t88),(95,t95),(95,t95.strip),(94,t94),(96,t96),(97,t97),(98,t98),(99,t99),(100,t100),(101,t101),(102,t102),(103,t103),(104,t104),(105,t105),(106,t106),(107,t107)]) s))
  (oBn .eql 3 (e 26) (.int .i64 8) s fun t120 s =>
 oCp t120 s fun t119 s =>
 br t119
  (oMv (e 0) s fun t121 s =>
 oLa 7 (e 3) s fun t122 s =>
 oCa D 136 [t122.strip,(.int .i64 0)] s fun t123 s =>
 oCa D 138 [t121.strip,(.str [58]),t123.strip] s fun t124 s =>
 oMv (e 0) s fun t125 s =>
 oLa 7 (e 3) s fun t126 s =>
 oCa D 136 [t126.strip,(.int .i64 1)] s fun t127 s =>
 oCa D 138 [t125.strip,(.str [61]),t127.strip] s fun t128 s =>
 oMv (e 0) s fun t129 s =>
 oBs 38 1 [(0,(.str [59]))] s fun t130 s =>
 oCa D 133 [t129.strip,t130.strip] s fun t131 s =>
 some (.tup [],s))
  (oBn .eql 3 (e 26) (.int .i64 9) s fun t133 s =>
 oCp t133 s fun t132 s =>
 br t132
  (oMv (e 0) s fun t134 s =>
 oLa 7 (e 3) s fun t135 s =>
 oCa D 136 [t135.strip,(.int .i64 0)] s fun t136 s =>oh (mp (aField Tryz.prog 27 6 t136) s) fun t137 s =>
 oCa D 137 [t134.strip,(.str [40]),t137.strip,(.str [44]),(.str [41])] s fun t138 s =>
 oMv (e 0) s fun t139 s =>
 oLa 7 (e 3) s fun t140 s =>
 oCa D 136 [t140.strip,(.int .i64 1)] s fun t141 s =>
 oCa D 138 [t139.strip,(.str [61]),t141.strip] s fun t142 s =>
 oMv (e 0) s fun t143 s =>
 oBs 38 1 [(0,(.str [59]))] s fun t144 s =>
 oCa D 133 [t143.strip,t144.strip] s fun t145 s =>
 some (.tup [],s))
  (oBn .eql 3 (e 26) (.int .i64 16) s fun t147 s =>
 oCp t147 s fun t146 s =>
 br t146
  (oMv (e 0) s fun t148 s =>
 oLa 7 (e 3) s fun t149 s =>
 oCa D 136 [t149.strip,(.int .i64 0)] s fun t150 s =>
 oCa D 138 [t148.strip,(.str [61]),t150.strip] s fun t151 s =>
 oMv (e 0) s fun t152 s =>
 oBs 38 1 [(0,(.str [59]))] s fun t153 s =>
 oCa D 133 [t152.strip,t153.strip] s fun t154 s =>
 some (.tup [],s))
  (some (.tup [],s)))))))
noncomputable def F73_J0 (D:Den)(n:Nat)(e:Env)(s:Heap):Ans :=
 oAd 0 (e 3) s fun t25 s =>
 oL1 t25 s fun t26 s =>
 oBn .eql 3 t26 (.int .i64 2) s fun t28 s =>
 oCp t28 s fun t27 s =>
 br t27
  (oMv (e 0) s fun t29 s =>
 oLa 7 (e 3) s fun t30 s =>
 oCa D 136 [t30.strip,(.int .i64 0)] s fun t31 s =>
 oCa D 39 [t29.strip,t31.strip] s fun t32 s =>
 oAd 1 (e 3) s fun t33 s =>
 oL1 t33 s fun t34 s =>
 oBn .and 3 t34 (.int .i64 2) s fun t35 s =>
 oBn .neq 3 t35 (.int .i64 0) s fun t36 s =>
 br t36
  (oMv (e 0) s fun t37 s =>
 oBs 38 2 [(0,(.str [58,58])),(1,(.str [42]))] s fun t38 s =>
 oCa D 133 [t37.strip,t38.strip] s fun t39 s =>
 F73_J2 D n (upds e [(25,t25),(26,t26),(28,t28),(28,t28.strip),(27,t27),(29,t29),(30,t30),(31,t31),(32,t32),(33,t33),(34,t34),(35,t35),(36,t36),(37,t37),(38,t38),(39,t39)]) s)
  (F73_J2 D n (upds e [(25,t25),(26,t26),(28,t28),(28,t28.strip),(27,t27),(29,t29),(30,t30),(31,t31),(32,t32),(33,t33),(34,t34),(35,t35),(36,t36)]) s))
  (oBn .eql 3 t26 (.int .i64 3) s fun t52 s =>
 oCp t52 s fun t51 s =>
 br t51
  (oMv (e 0) s fun t53 s =>
 oLa 7 (e 3) s fun t54 s =>
 oCa D 136 [t54.strip,(.int .i64 0)] s fun t55 s =>
 oCa D 39 [t53.strip,t55.strip] s fun t56 s =>
 oMv (e 0) s fun t57 s =>
 oLa 7 (e 3) s fun t58 s =>
 oCa D 136 [t58.strip,(.int .i64 1)] s fun t59 s =>oh (mp (aField Tryz.prog 27 6 t59) s) fun t60 s =>
 oCa D 137 [t57.strip,(.str [40]),t60.strip,(.str [44]),(.str [41])] s fun t61 s =>
 oMv (e 0) s fun t62 s =>
 oLa 7 (e 3) s fun t63 s =>
 oCa D 136 [t63.strip,(.int .i64 2)] s fun t64 s =>
 oCa D 138 [t62.strip,(.str [45,62]),t64.strip] s fun t65 s =>
 oLa 7 (e 3) s fun t66 s =>
 oCa D 136 [t66.strip,(.int .i64 3)] s fun t67 s =>oh (mp (aField Tryz.prog 27 0 t67) s) fun t68 s =>
 oBn .eql 3 t68 (.int .i64 0) s fun t69 s =>
 br t69
  (oMv (e 0) s fun t70 s =>
 oBs 38 1 [(0,(.str [59]))] s fun t71 s =>
 oCa D 133 [t70.strip,t71.strip] s fun t72 s =>
 F73_J5 D n (upds e [(25,t25),(26,t26),(28,t28),(28,t28.strip),(27,t27),(52,t52),(52,t52.strip),(51,t51),(53,t53),(54,t54),(55,t55),(56,t56),(57,t57),(58,t58),(59,t59),(60,t60),(61,t61),(62,t62),(63,t63),(64,t64),(65,t65),(66,t66),(67,t67),(68,t68),(69,t69),(70,t70),(71,t71),(72,t72)]) s)
  (F73_J5 D n (upds e [(25,t25),(26,t26),(28,t28),(28,t28.strip),(27,t27),(52,t52),(52,t52.strip),(51,t51),(53,t53),(54,t54),(55,t55),(56,t56),(57,t57),(58,t58),(59,t59),(60,t60),(61,t61),(62,t62),(63,t63),(64,t64),(65,t65),(66,t66),(67,t67),(68,t68),(69,t69)]) s))
  (oBn .eql 3 t26 (.int .i64 4) s fun t78 s =>
 oCp t78 s fun t77 s =>
 br t77
  (F73_J6 D n (upds e [(25,t25),(26,t26),(28,t28),(28,t28.strip),(27,t27),(52,t52),(52,t52.strip),(51,t51),(78,t78),(78,t78.strip),(77,t77)]) s)
  (oBn .eql 3 t26 (.int .i64 5) s fun t79 s =>
 oCp t79 s fun t77_2 s =>
 F73_J6 D n (upds e [(25,t25),(26,t26),(28,t28),(28,t28.strip),(27,t27),(52,t52),(52,t52.strip),(51,t51),(78,t78),(78,t78.strip),(77,t77),(79,t79),(79,t79.strip),(77,t77_2)]) s)))
noncomputable def F73 (D:Den)(n:Nat)(t0 t1:AV)(s:Heap):Ans :=
 oBx 27 t1 s fun t3 s =>
 oMv t0 s fun t4 s1 =>
 oLa 7 t3 s1 fun t5 s2 =>
 oCa D 134 [t5.strip,(.str [112,117,98])] s2 fun t6 s3 =>
 oAd 0 t3 s3 fun t7 s4 =>
 oL1 t7 s4 fun t8 s5 =>
 oCa D 135 [t8.strip] s5 fun t9 s6 =>
 oBs 38 2 [(0,t6),(1,t9)] s6 fun t10 s7 =>
 oCa D 133 [t4.strip,t10.strip] s7 fun t11 s8 =>
 drawOK C 73 (regOps Tryz.f73 1) [.silent,(kLoad false t3),(dyn (kCall [t5.strip,(.str [112,117,98])]) s2 s3),.silent,(kLoad false t7),(dyn (kCall [t8.strip]) s5 s6),.silent,(dyn (kCall [t4.strip,t10.strip]) s7 s8)] <|
 oAd 0 t3 s8 fun t12 s =>
 oL1 t12 s fun t13 s =>
 oBn .neq 3 t13 (.int .i64 2) s fun t14 s =>
 oMv t14 s fun t15 s =>
 oGt t15 s (mp (aAddr 0 t3) s) fun t16 s =>
 oGt t15 s (aLoad false false 1 t16 s) fun t17 s =>
 oGt t15 s (mp (aBin Tryz.prog .neq 3 t17 (.int .i64 7)) s) fun t18 s =>
 oPk t15 t18 (.bool false) s fun t19 s =>
 br t19
  (oMv t0 s fun t20 s =>
 oAd 2 t3 s fun t21 s =>
 oL1 t21 s fun t22 s =>
 oBs 38 1 [(0,t22)] s fun t23 s =>
 oCa D 133 [t20.strip,t23.strip] s fun t24 s =>
 F73_J0 D n (upds (argEnv [t0,t1]) [(3,t3),(4,t4),(5,t5),(6,t6),(7,t7),(8,t8),(9,t9),(10,t10),(11,t11),(12,t12),(13,t13),(14,t14),(15,t15),(16,t16),(17,t17),(18,t18),(19,t19),(20,t20),(21,t21),(22,t22),(23,t23),(24,t24)]) s)
  (F73_J0 D n (upds (argEnv [t0,t1]) [(3,t3),(4,t4),(5,t5),(6,t6),(7,t7),(8,t8),(9,t9),(10,t10),(11,t11),(12,t12),(13,t13),(14,t14),(15,t15),(16,t16),(17,t17),(18,t18),(19,t19)]) s)
theorem F73_eq (n:Nat)(t0 t1:AV)(s:Heap):den C (n+1) 73 [t0,t1] s=F73 (den C n) n t0 t1 s :=
 (den_body rfl Tryz.func73 _ _).trans (by kernel_rfl)
theorem d73_1 {l0:List Nat}(x:Ans):drawOK C 73 (regOps Tryz.f73 1) [.silent,.silent,.silent,.silent,.silent,.silent,.silent,.call l0] x=x:=drawOK_base (by kernel_rfl)
theorem en73:enterable Tryz.prog 73=true:=by kernel_rfl
-- (*ast.printer).part
noncomputable def F74_J3 (D:Den)(n:Nat)(e:Env)(s:Heap):Ans :=
 br (e 31)
  (oMv (e 0) s fun t34 s =>
 oAd 2 (e 3) s fun t35 s =>
 oL1 t35 s fun t36 s =>
 oBs 38 1 [(0,t36)] s fun t37 s =>
 oCa D 133 [t34.strip,t37.strip] s fun t38 s =>
 oMv (e 0) s fun t39 s =>
 oLa 7 (e 3) s fun t40 s =>
 oCa D 136 [t40.strip,(.int .i64 0)] s fun t41 s =>
 oCa D 138 [t39.strip,(.str [58]),t41.strip] s fun t42 s =>
 some (.tup [],s))
  (oBn .eql 3 (e 6) (.int .i64 15) s fun t44 s =>
 oCp t44 s fun t43 s =>
 br t43
  (oMv (e 0) s fun t45 s =>
 oAd 2 (e 3) s fun t46 s =>
 oL1 t46 s fun t47 s =>
 oBs 38 1 [(0,t47)] s fun t48 s =>
 oCa D 133 [t45.strip,t48.strip] s fun t49 s =>
 oAd 6 (e 3) s fun t50 s =>
 oL1 t50 s fun t51 s =>
 oLn 25 t51 s fun t52 s =>
 oBn .gtr 3 t52 (.int .i64 0) s fun t53 s =>
 br t53
  (oMv (e 0) s fun t54 s =>
 oAd 6 (e 3) s fun t55 s =>
 oL1 t55 s fun t56 s =>
 oCa D 137 [t54.strip,(.str [40]),t56.strip,(.str [44]),(.str [41])] s fun t57 s =>
 some (.tup [],s))
  (some (.tup [],s)))
  (oBn .eql 3 (e 6) (.int .i64 17) s fun t59 s =>
 oCp t59 s fun t58 s =>
 br t58
  (oMv (e 0) s fun t60 s =>
 oAd 6 (e 3) s fun t61 s =>
 oL1 t61 s fun t62 s =>
 oCa D 72 [t60.strip,t62.strip,(.str [58,58])] s fun t63 s =>
 some (.tup [],s))
  (oBn .eql 3 (e 6) (.int .i64 18) s fun t65 s =>
 oCp t65 s fun t64 s =>
 br t64
  (oMv (e 0) s fun t66 s =>
 oAd 2 (e 3) s fun t67 s =>
 oL1 t67 s fun t68 s =>
 oBs 38 1 [(0,t68)] s fun t69 s =>
 oCa D 133 [t66.strip,t69.strip] s fun t70 s =>
 oMv (e 0) s fun t71 s =>
 oAd 6 (e 3) s fun t72 s =>
 oL1 t72 s fun t73 s =>
 oCa D 140 [t71.strip,t73.strip] s fun t74 s =>
 some (.tup [],s))
  (oBn .eql 3 (e 6) (.int .i64 19) s fun t76 s =>
 oCp t76 s fun t75 s =>
 br t75
  (oMv (e 0) s fun t77 s =>
 oLa 7 (e 3) s fun t78 s =>
 oCa D 134 [t78.strip,(.str [109,117,116])] s fun t79 s =>
 oBs 38 2 [(0,(.str [38])),(1,t79)] s fun t80 s =>
 oCa D 133 [t77.strip,t80.strip] s fun t81 s =>
 oMv (e 0) s fun t82 s =>
 oLa 7 (e 3) s fun t83 s =>
 oCa D 136 [t83.strip,(.int .i64 0)] s fun t84 s =>
 oCa D 39 [t82.strip,t84.strip] s fun t85 s =>
 some (.tup [],s))
  (oBn .eql 3 (e 6) (.int .i64 20) s fun t87 s =>
 oCp t87 s fun t86 s =>
 br t86
  (oAd 6 (e 3) s fun t88 s =>
 oL1 t88 s fun t89 s =>
 oLn 25 t89 s fun t90 s =>
 oBn .sub 3 t90 (.int .i64 1) s fun t91 s =>oh (mp (aMax t91 (.int .i64 0)) s) fun t92 s =>
 oCp t92 s fun t4 s =>
 oMv (e 0) s fun t93 s =>
 oBs 38 1 [(0,(.str [102,110]))] s fun t94 s =>
 oCa D 133 [t93.strip,t94.strip] s fun t95 s =>
 oMv (e 0) s fun t96 s =>
 oAd 6 (e 3) s fun t97 s =>
 oL1 t97 s fun t98 s =>
 oMv t4 s fun t99 s =>oh (mp (aSl Tryz.prog 25 t98 none (some t99) none) s) fun t100 s =>
 oCa D 137 [t96.strip,(.str [40]),t100.strip,(.str [44]),(.str [41])] s fun t101 s =>
 oMv (e 0) s fun t102 s =>
 oLa 7 (e 3) s fun t103 s =>
 oMv t4 s fun t104 s =>
 oCa D 136 [t103.strip,t104.strip] s fun t105 s =>
 oCa D 138 [t102.strip,(.str [45,62]),t105.strip] s fun t106 s =>
 some (.tup [],s))
  (some (.tup [],s)))))))
noncomputable def F74 (D:Den)(n:Nat)(t0 t1:AV)(s:Heap):Ans :=
 oBx 27 t1 s fun t3 s =>
 oAd 0 t3 s fun t5 s =>
 oL1 t5 s fun t6 s =>
 oBn .eql 3 t6 (.int .i64 10) s fun t8 s =>
 oCp t8 s fun t7 s =>
 br t7
  (oMv t0 s fun t9 s =>
 oAd 6 t3 s fun t10 s =>
 oL1 t10 s fun t11 s =>
 oCa D 140 [t9.strip,t11.strip] s fun t12 s =>
 some (.tup [],s))
  (oBn .eql 3 t6 (.int .i64 11) s fun t14 s =>
 oCp t14 s fun t13 s =>
 br t13
  (oMv t0 s fun t15 s =>
 oAd 2 t3 s fun t16 s =>
 oL1 t16 s fun t17 s =>
 oBs 38 1 [(0,t17)] s fun t18 s =>
 oCa D 133 [t15.strip,t18.strip] s fun t19 s =>
 oAd 6 t3 s fun t20 s =>
 oL1 t20 s fun t21 s =>
 oLn 25 t21 s fun t22 s =>
 oBn .gtr 3 t22 (.int .i64 0) s fun t23 s =>
 br t23
  (oMv t0 s fun t24 s =>
 oBs 38 1 [(0,(.str [58]))] s fun t25 s =>
 oCa D 133 [t24.strip,t25.strip] s fun t26 s =>
 oMv t0 s fun t27 s =>
 oAd 6 t3 s fun t28 s =>
 oL1 t28 s fun t29 s =>
 oCa D 72 [t27.strip,t29.strip,(.str [43])] s fun t30 s =>
 some (.tup [],s))
  (some (.tup [],s)))
  (oBn .eql 3 t6 (.int .i64 13) s fun t32 s =>
 oCp t32 s fun t31 s =>
 br t31
  (F74_J3 D n (upds (argEnv [t0,t1]) [(3,t3),(5,t5),(6,t6),(8,t8),(8,t8.strip),(7,t7),(14,t14),(14,t14.strip),(13,t13),(32,t32),(32,t32.strip),(31,t31)]) s)
  (oBn .eql 3 t6 (.int .i64 14) s fun t33 s =>
 oCp t33 s fun t31_2 s =>
 F74_J3 D n (upds (argEnv [t0,t1]) [(3,t3),(5,t5),(6,t6),(8,t8),(8,t8.strip),(7,t7),(14,t14),(14,t14.strip),(13,t13),(32,t32),(32,t32.strip),(31,t31),(33,t33),(33,t33.strip),(31,t31_2)]) s)))
theorem F74_eq (n:Nat)(t0 t1:AV)(s:Heap):den C (n+1) 74 [t0,t1] s=F74 (den C n) n t0 t1 s :=
 (den_body rfl Tryz.func74 _ _).trans (by kernel_rfl)
theorem en74:enterable Tryz.prog 74=true:=by kernel_rfl
-- (*ast.printer).statement
noncomputable def F75 (D:Den)(n:Nat)(t0 t1:AV)(s:Heap):Ans :=
 oBx 27 t1 s fun t3 s =>
 oAd 0 t3 s fun t4 s =>
 oL1 t4 s fun t5 s =>
 oBn .eql 3 t5 (.int .i64 22) s fun t7 s =>
 oCp t7 s fun t6 s =>
 br t6
  (oMv t0 s fun t8 s =>
 oBs 38 1 [(0,(.str [108,101,116]))] s fun t9 s =>
 oCa D 133 [t8.strip,t9.strip] s fun t10 s =>
 oMv t0 s fun t11 s =>
 oLa 7 t3 s fun t12 s =>
 oCa D 136 [t12.strip,(.int .i64 0)] s fun t13 s =>
 oCa D 39 [t11.strip,t13.strip] s fun t14 s =>
 oMv t0 s fun t15 s =>
 oLa 7 t3 s fun t16 s =>
 oCa D 136 [t16.strip,(.int .i64 1)] s fun t17 s =>
 oCa D 138 [t15.strip,(.str [58]),t17.strip] s fun t18 s =>
 oMv t0 s fun t19 s =>
 oLa 7 t3 s fun t20 s =>
 oCa D 136 [t20.strip,(.int .i64 2)] s fun t21 s =>
 oCa D 138 [t19.strip,(.str [61]),t21.strip] s fun t22 s =>
 oMv t0 s fun t23 s =>
 oBs 38 1 [(0,(.str [59]))] s fun t24 s =>
 oCa D 133 [t23.strip,t24.strip] s fun t25 s =>
 some (.tup [],s))
  (oBn .eql 3 t5 (.int .i64 23) s fun t27 s =>
 oCp t27 s fun t26 s =>
 br t26
  (oMv t0 s fun t28 s =>
 oLa 7 t3 s fun t29 s =>
 oCa D 136 [t29.strip,(.int .i64 0)] s fun t30 s =>
 oCa D 39 [t28.strip,t30.strip] s fun t31 s =>
 oMv t0 s fun t32 s =>
 oLa 7 t3 s fun t33 s =>
 oCa D 136 [t33.strip,(.int .i64 1)] s fun t34 s =>
 oCa D 138 [t32.strip,(.str [61]),t34.strip] s fun t35 s =>
 oMv t0 s fun t36 s =>
 oBs 38 1 [(0,(.str [59]))] s fun t37 s =>
 oCa D 133 [t36.strip,t37.strip] s fun t38 s =>
 some (.tup [],s))
  (oBn .eql 3 t5 (.int .i64 24) s fun t40 s =>
 oCp t40 s fun t39 s =>
 br t39
  (oMv t0 s fun t41 s =>
 oBs 38 1 [(0,(.str [119,104,105,108,101]))] s fun t42 s =>
 oCa D 133 [t41.strip,t42.strip] s fun t43 s =>
 oMv t0 s fun t44 s =>
 oLa 7 t3 s fun t45 s =>
 oCa D 136 [t45.strip,(.int .i64 0)] s fun t46 s =>
 oCa D 39 [t44.strip,t46.strip] s fun t47 s =>
 oMv t0 s fun t48 s =>
 oLa 7 t3 s fun t49 s =>
 oCa D 136 [t49.strip,(.int .i64 1)] s fun t50 s =>
 oCa D 39 [t48.strip,t50.strip] s fun t51 s =>
 some (.tup [],s))
  (oBn .eql 3 t5 (.int .i64 25) s fun t53 s =>
 oCp t53 s fun t52 s =>
 br t52
  (oMv t0 s fun t54 s =>
 oBs 38 1 [(0,(.str [114,101,116,117,114,110]))] s fun t55 s =>
 oCa D 133 [t54.strip,t55.strip] s fun t56 s =>
 oMv t0 s fun t57 s =>
 oLa 7 t3 s fun t58 s =>
 oCa D 136 [t58.strip,(.int .i64 0)] s fun t59 s =>
 oCa D 39 [t57.strip,t59.strip] s fun t60 s =>
 oMv t0 s fun t61 s =>
 oBs 38 1 [(0,(.str [59]))] s fun t62 s =>
 oCa D 133 [t61.strip,t62.strip] s fun t63 s =>
 some (.tup [],s))
  (oBn .eql 3 t5 (.int .i64 26) s fun t65 s =>
 oCp t65 s fun t64 s =>
 br t64
  (oMv t0 s fun t66 s =>
 oLa 7 t3 s fun t67 s =>
 oCa D 136 [t67.strip,(.int .i64 0)] s fun t68 s =>
 oCa D 39 [t66.strip,t68.strip] s fun t69 s =>
 oMv t0 s fun t70 s =>
 oBs 38 1 [(0,(.str [59]))] s fun t71 s =>
 oCa D 133 [t70.strip,t71.strip] s fun t72 s =>
 some (.tup [],s))
  (some (.tup [],s))))))
theorem F75_eq (n:Nat)(t0 t1:AV)(s:Heap):den C (n+1) 75 [t0,t1] s=F75 (den C n) n t0 t1 s :=
 (den_body rfl Tryz.func75 _ _).trans (by kernel_rfl)
theorem en75:enterable Tryz.prog 75=true:=by kernel_rfl
-- (*ast.printer).expression
noncomputable def F76 (D:Den)(n:Nat)(t0 t1:AV)(s:Heap):Ans :=
 oBx 27 t1 s fun t3 s =>
 oAd 0 t3 s fun t4 s =>
 oL1 t4 s fun t5 s =>
 oBn .eql 3 t5 (.int .i64 27) s fun t7 s =>
 oCp t7 s fun t6 s =>
 br t6
  (oMv t0 s fun t8 s =>
 oAd 1 t3 s fun t9 s =>
 oL1 t9 s fun t10 s =>
 oCa D 141 [t10.strip] s fun t11 s =>
 oBs 38 1 [(0,t11)] s fun t12 s =>
 oCa D 133 [t8.strip,t12.strip] s fun t13 s =>
 some (.tup [],s))
  (oBn .eql 3 t5 (.int .i64 28) s fun t15 s =>
 oCp t15 s fun t14 s =>
 br t14
  (oMv t0 s fun t16 s =>
 oAd 1 t3 s fun t17 s =>
 oL1 t17 s fun t18 s =>
 oBn .eql 3 t18 (.int .i64 1) s fun t19 s =>
 oCa D 142 [t19.strip] s fun t20 s =>
 oBs 38 1 [(0,t20)] s fun t21 s =>
 oCa D 133 [t16.strip,t21.strip] s fun t22 s =>
 some (.tup [],s))
  (oBn .eql 3 t5 (.int .i64 29) s fun t24 s =>
 oCp t24 s fun t23 s =>
 br t23
  (oMv t0 s fun t25 s =>
 oAd 2 t3 s fun t26 s =>
 oL1 t26 s fun t27 s =>
 oCa D 25 [t27.strip] s fun t28 s =>
 oBs 38 1 [(0,t28)] s fun t29 s =>
 oCa D 133 [t25.strip,t29.strip] s fun t30 s =>
 some (.tup [],s))
  (oBn .eql 3 t5 (.int .i64 30) s fun t32 s =>
 oCp t32 s fun t31 s =>
 br t31
  (oMv t0 s fun t33 s =>
 oLa 7 t3 s fun t34 s =>
 oCa D 136 [t34.strip,(.int .i64 0)] s fun t35 s =>
 oCa D 143 [t33.strip,t35.strip] s fun t36 s =>
 oMv t0 s fun t37 s =>
 oLa 7 t3 s fun t38 s =>
 oCa D 139 [t38.strip,(.int .i64 1)] s fun t39 s =>
 oCa D 137 [t37.strip,(.str [40]),t39.strip,(.str [44]),(.str [41])] s fun t40 s =>
 some (.tup [],s))
  (oBn .eql 3 t5 (.int .i64 31) s fun t42 s =>
 oCp t42 s fun t41 s =>
 br t41
  (oMv t0 s fun t43 s =>
 oLa 7 t3 s fun t44 s =>
 oCa D 136 [t44.strip,(.int .i64 0)] s fun t45 s =>
 oCa D 143 [t43.strip,t45.strip] s fun t46 s =>
 oMv t0 s fun t47 s =>
 oAd 2 t3 s fun t48 s =>
 oL1 t48 s fun t49 s =>
 oBs 38 2 [(0,(.str [46])),(1,t49)] s fun t50 s =>
 oCa D 133 [t47.strip,t50.strip] s fun t51 s =>
 oMv t0 s fun t52 s =>
 oLa 7 t3 s fun t53 s =>
 oCa D 139 [t53.strip,(.int .i64 1)] s fun t54 s =>
 oCa D 137 [t52.strip,(.str [40]),t54.strip,(.str [44]),(.str [41])] s fun t55 s =>
 some (.tup [],s))
  (oBn .eql 3 t5 (.int .i64 32) s fun t57 s =>
 oCp t57 s fun t56 s =>
 br t56
  (oMv t0 s fun t58 s =>
 oLa 7 t3 s fun t59 s =>
 oCa D 136 [t59.strip,(.int .i64 0)] s fun t60 s =>
 oCa D 143 [t58.strip,t60.strip] s fun t61 s =>
 oMv t0 s fun t62 s =>
 oAd 2 t3 s fun t63 s =>
 oL1 t63 s fun t64 s =>
 oBs 38 2 [(0,(.str [46])),(1,t64)] s fun t65 s =>
 oCa D 133 [t62.strip,t65.strip] s fun t66 s =>
 some (.tup [],s))
  (oBn .eql 3 t5 (.int .i64 39) s fun t68 s =>
 oCp t68 s fun t67 s =>
 br t67
  (oMv t0 s fun t69 s =>
 oLa 7 t3 s fun t70 s =>
 oCa D 136 [t70.strip,(.int .i64 0)] s fun t71 s =>
 oCa D 143 [t69.strip,t71.strip] s fun t72 s =>
 oMv t0 s fun t73 s =>
 oAd 2 t3 s fun t74 s =>
 oL1 t74 s fun t75 s =>
 oBs 38 1 [(0,t75)] s fun t76 s =>
 oCa D 133 [t73.strip,t76.strip] s fun t77 s =>
 oMv t0 s fun t78 s =>
 oLa 7 t3 s fun t79 s =>
 oCa D 136 [t79.strip,(.int .i64 1)] s fun t80 s =>
 oCa D 143 [t78.strip,t80.strip] s fun t81 s =>
 some (.tup [],s))
  (oBn .eql 3 t5 (.int .i64 40) s fun t83 s =>
 oCp t83 s fun t82 s =>
 br t82
  (oMv t0 s fun t84 s =>
 oAd 2 t3 s fun t85 s =>
 oL1 t85 s fun t86 s =>
 oBs 38 1 [(0,t86)] s fun t87 s =>
 oCa D 133 [t84.strip,t87.strip] s fun t88 s =>
 oMv t0 s fun t89 s =>
 oLa 7 t3 s fun t90 s =>
 oCa D 136 [t90.strip,(.int .i64 0)] s fun t91 s =>
 oCa D 143 [t89.strip,t91.strip] s fun t92 s =>
 some (.tup [],s))
  (oBn .eql 3 t5 (.int .i64 41) s fun t94 s =>
 oCp t94 s fun t93 s =>
 br t93
  (oMv t0 s fun t95 s =>
 oLa 7 t3 s fun t96 s =>
 oCa D 134 [t96.strip,(.str [109,117,116])] s fun t97 s =>
 oBs 38 2 [(0,(.str [38])),(1,t97)] s fun t98 s =>
 oCa D 133 [t95.strip,t98.strip] s fun t99 s =>
 oMv t0 s fun t100 s =>
 oLa 7 t3 s fun t101 s =>
 oCa D 136 [t101.strip,(.int .i64 0)] s fun t102 s =>
 oCa D 143 [t100.strip,t102.strip] s fun t103 s =>
 some (.tup [],s))
  (oBn .eql 3 t5 (.int .i64 42) s fun t105 s =>
 oCp t105 s fun t104 s =>
 br t104
  (oMv t0 s fun t106 s =>
 oLa 7 t3 s fun t107 s =>
 oCa D 136 [t107.strip,(.int .i64 0)] s fun t108 s =>
 oCa D 39 [t106.strip,t108.strip] s fun t109 s =>
 oMv t0 s fun t110 s =>
 oBs 38 1 [(0,(.str [33]))] s fun t111 s =>
 oCa D 133 [t110.strip,t111.strip] s fun t112 s =>
 oMv t0 s fun t113 s =>
 oLa 7 t3 s fun t114 s =>
 oCa D 139 [t114.strip,(.int .i64 1)] s fun t115 s =>
 oCa D 137 [t113.strip,(.str [40]),t115.strip,(.str [44]),(.str [41])] s fun t116 s =>
 some (.tup [],s))
  (some (.tup [],s)))))))))))
theorem F76_eq (n:Nat)(t0 t1:AV)(s:Heap):den C (n+1) 76 [t0,t1] s=F76 (den C n) n t0 t1 s :=
 (den_body rfl Tryz.func76 _ _).trans (by kernel_rfl)
theorem en76:enterable Tryz.prog 76=true:=by kernel_rfl
-- (*ast.printer).construct
noncomputable def F77 (D:Den)(n:Nat)(t0 t1:AV)(s:Heap):Ans :=
 oBx 27 t1 s fun t3 s =>
 oAd 0 t3 s fun t4 s =>
 oL1 t4 s fun t5 s =>
 oBn .eql 3 t5 (.int .i64 21) s fun t7 s =>
 oCp t7 s fun t6 s =>
 br t6
  (oMv t0 s fun t8 s =>
 oAd 6 t3 s fun t9 s =>
 oL1 t9 s fun t10 s =>
 oCa D 137 [t8.strip,(.str [123]),t10.strip,(.str []),(.str [125])] s fun t11 s =>
 some (.tup [],s))
  (oBn .eql 3 t5 (.int .i64 33) s fun t13 s =>
 oCp t13 s fun t12 s =>
 br t12
  (oMv t0 s fun t14 s =>
 oBs 38 1 [(0,(.str [110,101,119]))] s fun t15 s =>
 oCa D 133 [t14.strip,t15.strip] s fun t16 s =>
 oMv t0 s fun t17 s =>
 oLa 7 t3 s fun t18 s =>
 oCa D 136 [t18.strip,(.int .i64 0)] s fun t19 s =>
 oCa D 39 [t17.strip,t19.strip] s fun t20 s =>
 oMv t0 s fun t21 s =>
 oLa 7 t3 s fun t22 s =>
 oCa D 139 [t22.strip,(.int .i64 1)] s fun t23 s =>
 oCa D 137 [t21.strip,(.str [123]),t23.strip,(.str [44]),(.str [125])] s fun t24 s =>
 some (.tup [],s))
  (oBn .eql 3 t5 (.int .i64 34) s fun t26 s =>
 oCp t26 s fun t25 s =>
 br t25
  (oMv t0 s fun t27 s =>
 oAd 2 t3 s fun t28 s =>
 oL1 t28 s fun t29 s =>
 oBs 38 1 [(0,t29)] s fun t30 s =>
 oCa D 133 [t27.strip,t30.strip] s fun t31 s =>
 oMv t0 s fun t32 s =>
 oLa 7 t3 s fun t33 s =>
 oCa D 136 [t33.strip,(.int .i64 0)] s fun t34 s =>
 oCa D 138 [t32.strip,(.str [58]),t34.strip] s fun t35 s =>
 some (.tup [],s))
  (oBn .eql 3 t5 (.int .i64 35) s fun t37 s =>
 oCp t37 s fun t36 s =>
 br t36
  (oMv t0 s fun t38 s =>
 oBs 38 1 [(0,(.str [109,97,116,99,104]))] s fun t39 s =>
 oCa D 133 [t38.strip,t39.strip] s fun t40 s =>
 oMv t0 s fun t41 s =>
 oLa 7 t3 s fun t42 s =>
 oCa D 136 [t42.strip,(.int .i64 0)] s fun t43 s =>
 oCa D 39 [t41.strip,t43.strip] s fun t44 s =>
 oMv t0 s fun t45 s =>
 oLa 7 t3 s fun t46 s =>
 oCa D 139 [t46.strip,(.int .i64 1)] s fun t47 s =>
 oCa D 137 [t45.strip,(.str [123]),t47.strip,(.str [44]),(.str [125])] s fun t48 s =>
 some (.tup [],s))
  (oBn .eql 3 t5 (.int .i64 36) s fun t50 s =>
 oCp t50 s fun t49 s =>
 br t49
  (oMv t0 s fun t51 s =>
 oLa 7 t3 s fun t52 s =>
 oCa D 136 [t52.strip,(.int .i64 0)] s fun t53 s =>
 oCa D 39 [t51.strip,t53.strip] s fun t54 s =>
 oMv t0 s fun t55 s =>
 oLa 7 t3 s fun t56 s =>
 oCa D 136 [t56.strip,(.int .i64 1)] s fun t57 s =>
 oCa D 138 [t55.strip,(.str [61,62]),t57.strip] s fun t58 s =>
 some (.tup [],s))
  (oBn .eql 3 t5 (.int .i64 37) s fun t60 s =>
 oCp t60 s fun t59 s =>
 br t59
  (oMv t0 s fun t61 s =>
 oBs 38 1 [(0,(.str [105,102]))] s fun t62 s =>
 oCa D 133 [t61.strip,t62.strip] s fun t63 s =>
 oMv t0 s fun t64 s =>
 oLa 7 t3 s fun t65 s =>
 oCa D 136 [t65.strip,(.int .i64 0)] s fun t66 s =>
 oCa D 39 [t64.strip,t66.strip] s fun t67 s =>
 oMv t0 s fun t68 s =>
 oLa 7 t3 s fun t69 s =>
 oCa D 136 [t69.strip,(.int .i64 1)] s fun t70 s =>
 oCa D 39 [t68.strip,t70.strip] s fun t71 s =>
 oMv t0 s fun t72 s =>
 oLa 7 t3 s fun t73 s =>
 oCa D 136 [t73.strip,(.int .i64 2)] s fun t74 s =>
 oCa D 138 [t72.strip,(.str [101,108,115,101]),t74.strip] s fun t75 s =>
 some (.tup [],s))
  (oBn .eql 3 t5 (.int .i64 38) s fun t77 s =>
 oCp t77 s fun t76 s =>
 br t76
  (oMv t0 s fun t78 s =>
 oLa 7 t3 s fun t79 s =>
 oCa D 136 [t79.strip,(.int .i64 0)] s fun t80 s =>oh (mp (aField Tryz.prog 27 6 t80) s) fun t81 s =>
 oCa D 137 [t78.strip,(.str [124]),t81.strip,(.str [44]),(.str [124])] s fun t82 s =>
 oMv t0 s fun t83 s =>
 oLa 7 t3 s fun t84 s =>
 oCa D 136 [t84.strip,(.int .i64 1)] s fun t85 s =>
 oCa D 39 [t83.strip,t85.strip] s fun t86 s =>
 some (.tup [],s))
  (oBn .eql 3 t5 (.int .i64 43) s fun t88 s =>
 oCp t88 s fun t87 s =>
 br t87
  (oMv t0 s fun t89 s =>
 oBs 38 1 [(0,(.str [95]))] s fun t90 s =>
 oCa D 133 [t89.strip,t90.strip] s fun t91 s =>
 some (.tup [],s))
  (oBn .eql 3 t5 (.int .i64 44) s fun t93 s =>
 oCp t93 s fun t92 s =>
 br t92
  (oMv t0 s fun t94 s1 =>
 oLa 7 t3 s1 fun t95 s2 =>
 oCa D 134 [t95.strip,(.str [109,117,116])] s2 fun t96 s3 =>
 oAd 2 t3 s3 fun t97 s4 =>
 oL1 t97 s4 fun t98 s5 =>
 oBs 38 2 [(0,t96),(1,t98)] s5 fun t99 s6 =>
 oCa D 133 [t94.strip,t99.strip] s6 fun t100 s7 =>
 drawOK C 77 (regOps Tryz.f77 29) [.silent,(kLoad false t3),(dyn (kCall [t95.strip,(.str [109,117,116])]) s2 s3),.silent,(kLoad false t97),.silent,(dyn (kCall [t94.strip,t99.strip]) s6 s7)] <|
 some (.tup [],s7))
  (oBn .eql 3 t5 (.int .i64 45) s fun t102 s =>
 oCp t102 s fun t101 s =>
 br t101
  (oMv t0 s fun t103 s =>
 oLa 7 t3 s fun t104 s =>
 oCa D 136 [t104.strip,(.int .i64 0)] s fun t105 s =>
 oCa D 39 [t103.strip,t105.strip] s fun t106 s =>
 oAd 6 t3 s fun t107 s =>
 oL1 t107 s fun t108 s =>
 oLn 25 t108 s fun t109 s =>
 oBn .gtr 3 t109 (.int .i64 1) s fun t110 s =>
 oMv t110 s fun t111 s =>
 oGf t111 s (aLoad false true 7 t3 s) fun t112 s =>
 oGf t111 s (aCall Tryz.prog D 136 [t112.strip,(.int .i64 0)] s) fun t113 s =>
 oGf t111 s (mp (aField Tryz.prog 27 6 t113) s) fun t114 s =>
 oGf t111 s (mp (aLen Tryz.prog 25 t114) s) fun t115 s =>
 oGf t111 s (mp (aBin Tryz.prog .lss 3 t115 (.int .i64 2)) s) fun t116 s =>
 oPk t111 (.bool true) t116 s fun t117 s =>
 br t117
  (oMv t0 s fun t118 s =>
 oLa 7 t3 s fun t119 s =>
 oCa D 139 [t119.strip,(.int .i64 1)] s fun t120 s =>
 oCa D 137 [t118.strip,(.str [40]),t120.strip,(.str [44]),(.str [41])] s fun t121 s =>
 some (.tup [],s))
  (some (.tup [],s)))
  (some (.tup [],s)))))))))))
theorem F77_eq (n:Nat)(t0 t1:AV)(s:Heap):den C (n+1) 77 [t0,t1] s=F77 (den C n) n t0 t1 s :=
 (den_body rfl Tryz.func77 _ _).trans (by kernel_rfl)
theorem d77_29 {l0:List Nat}(x:Ans):drawOK C 77 (regOps Tryz.f77 29) [.silent,.silent,.silent,.silent,.silent,.silent,.call l0] x=x:=drawOK_base (by kernel_rfl)
theorem en77:enterable Tryz.prog 77=true:=by kernel_rfl
-- (*ast.printer).node
noncomputable def F39 (D:Den)(n:Nat)(t0 t1:AV)(s:Heap):Ans :=
 oBx 27 t1 s fun t3 s =>
 oAd 0 t3 s fun t8 s =>
 oL1 t8 s fun t9 s =>
 oBn .eql 3 t9 (.int .i64 1) s fun t10 s =>
 oCp t10 s fun t7 s =>
 br t7
  (oMv t0 s fun t11 s =>
 oAd 6 t3 s fun t12 s =>
 oL1 t12 s fun t13 s =>
 oCa D 72 [t11.strip,t13.strip,(.str [])] s fun t14 s =>
 some (.tup [],s))
  (oAd 0 t3 s fun t16 s =>
 oL1 t16 s fun t17 s =>
 oBn .geq 3 t17 (.int .i64 2) s fun t18 s =>
 oMv t18 s fun t19 s =>
 oGt t19 s (mp (aAddr 0 t3) s) fun t20 s =>
 oGt t19 s (aLoad false false 1 t20 s) fun t21 s =>
 oGt t19 s (mp (aBin Tryz.prog .leq 3 t21 (.int .i64 9)) s) fun t22 s =>
 oPk t19 t22 (.bool false) s fun t23 s =>
 oMv t23 s fun t24 s =>
 oGf t24 s (mp (aAddr 0 t3) s) fun t25 s =>
 oGf t24 s (aLoad false false 1 t25 s) fun t26 s =>
 oGf t24 s (mp (aBin Tryz.prog .eql 3 t26 (.int .i64 16)) s) fun t27 s =>
 oPk t24 (.bool true) t27 s fun t28 s =>
 oCp t28 s fun t15 s =>
 br t15
  (oMv t0 s fun t29 s =>
 oLa 7 t3 s fun t30 s =>
 oCa D 73 [t29.strip,t30.strip] s fun t31 s =>
 some (.tup [],s))
  (oAd 0 t3 s fun t33 s =>
 oL1 t33 s fun t34 s =>
 oBn .geq 3 t34 (.int .i64 10) s fun t35 s =>
 oMv t35 s fun t36 s =>
 oGt t36 s (mp (aAddr 0 t3) s) fun t37 s =>
 oGt t36 s (aLoad false false 1 t37 s) fun t38 s =>
 oGt t36 s (mp (aBin Tryz.prog .leq 3 t38 (.int .i64 20)) s) fun t39 s =>
 oPk t36 t39 (.bool false) s fun t40 s =>
 oCp t40 s fun t32 s =>
 br t32
  (oMv t0 s fun t41 s =>
 oLa 7 t3 s fun t42 s =>
 oCa D 74 [t41.strip,t42.strip] s fun t43 s =>
 some (.tup [],s))
  (oAd 0 t3 s fun t45 s =>
 oL1 t45 s fun t46 s =>
 oBn .geq 3 t46 (.int .i64 22) s fun t47 s =>
 oMv t47 s fun t48 s =>
 oGt t48 s (mp (aAddr 0 t3) s) fun t49 s =>
 oGt t48 s (aLoad false false 1 t49 s) fun t50 s =>
 oGt t48 s (mp (aBin Tryz.prog .leq 3 t50 (.int .i64 26)) s) fun t51 s =>
 oPk t48 t51 (.bool false) s fun t52 s =>
 oCp t52 s fun t44 s =>
 br t44
  (oMv t0 s fun t53 s =>
 oLa 7 t3 s fun t54 s =>
 oCa D 75 [t53.strip,t54.strip] s fun t55 s =>
 some (.tup [],s))
  (oAd 0 t3 s fun t57 s =>
 oL1 t57 s fun t58 s =>
 oBn .geq 3 t58 (.int .i64 27) s fun t59 s =>
 oMv t59 s fun t60 s =>
 oGt t60 s (mp (aAddr 0 t3) s) fun t61 s =>
 oGt t60 s (aLoad false false 1 t61 s) fun t62 s =>
 oGt t60 s (mp (aBin Tryz.prog .leq 3 t62 (.int .i64 32)) s) fun t63 s =>
 oPk t60 t63 (.bool false) s fun t64 s =>
 oMv t64 s fun t65 s =>
 oGf t65 s (mp (aAddr 0 t3) s) fun t66 s =>
 oGf t65 s (aLoad false false 1 t66 s) fun t67 s =>
 oGf t65 s (mp (aBin Tryz.prog .geq 3 t67 (.int .i64 39)) s) fun t68 s =>
 oGf t65 s (some (t68.strip,s)) fun t69 s =>
 oGt t69 s (mp (aAddr 0 t3) s) fun t70 s =>
 oGt t69 s (aLoad false false 1 t70 s) fun t71 s =>
 oGt t69 s (mp (aBin Tryz.prog .leq 3 t71 (.int .i64 42)) s) fun t72 s =>
 oGf t65 s (mp (aPick t69 t72 (.bool false)) s) fun t73 s =>
 oPk t65 (.bool true) t73 s fun t74 s =>
 oCp t74 s fun t56 s =>
 br t56
  (oMv t0 s fun t75 s =>
 oLa 7 t3 s fun t76 s =>
 oCa D 76 [t75.strip,t76.strip] s fun t77 s =>
 some (.tup [],s))
  (oMv t0 s fun t4 s =>
 oLa 7 t3 s fun t5 s =>
 oCa D 77 [t4.strip,t5.strip] s fun t6 s =>
 some (.tup [],s))))))
theorem F39_eq (n:Nat)(t0 t1:AV)(s:Heap):den C (n+1) 39 [t0,t1] s=F39 (den C n) n t0 t1 s :=
 (den_body rfl Tryz.func39 _ _).trans (by kernel_rfl)
theorem en39:enterable Tryz.prog 39=true:=by kernel_rfl
-- ast.exceeds
noncomputable def F38_L0 (D:Den)(n:Nat)(k0:Env→Heap→Ans)(e:Env)(s:Heap):Ans :=
 oBn .lss 3 (e 25) (e 24) s fun t26 s =>
 br t26
  (oIx 25 (e 23) (e 25) s fun t27 s =>
 oLa 7 t27 s fun t28 s =>
 oAl 27 s fun t8 s =>
 oSr 7 s t8 t28 fun _r s =>
 oLa 7 t8 s fun t29 s =>
 oMv (e 1) s fun t30 s =>
 oBn .add 3 t30 (.int .i64 1) s fun t31 s =>
 oMv (e 2) s fun t32 s =>
 oCa D 38 [t29.strip,t31.strip,t32.strip] s fun t33 s =>
 br t33
  (oCp (.bool true) s fun t6_3 s =>
 some (t6_3,s))
  (oBn .add 3 (e 25) (.int .i64 1) s fun t34 s =>
 oMv t34 s fun t25_2 s =>
 k0 (upds e [(26,t26),(27,t27),(28,t28),(8,t8),(28,t28.strip),(29,t29),(30,t30),(31,t31),(32,t32),(33,t33),(34,t34),(25,t25_2)]) s))
  (oCp (.bool false) s fun t6_4 s =>
 some (t6_4,s))
noncomputable def F38 (D:Den)(n:Nat)(t0 t1 t2:AV)(s:Heap):Ans :=
 oBx 27 t0 s fun t3 s =>
 oCp (.bool false) s fun t6 s =>
 oMv t2 s fun t9 s =>
 oNc t9 s fun t10 s =>
 oL1 t10 s fun t11 s =>
 oBn .sub 3 t11 (.int .i64 1) s fun t12 s =>
 oNc t9 s fun t13 s =>
 oSr 1 s t13 t12 fun _r s =>
 oMv t2 s fun t14 s =>
 oNc t14 s fun t15 s =>
 oL1 t15 s fun t16 s =>
 oBn .lss 3 t16 (.int .i64 0) s fun t17 s =>
 oMv t17 s fun t18 s =>
 oGf t18 s (some (t1.strip,s)) fun t19 s =>
 oGf t18 s (mp (aBin Tryz.prog .gtr 3 t19 (.int .i64 30)) s) fun t20 s =>
 oPk t18 (.bool true) t20 s fun t21 s =>
 br t21
  (oCp (.bool true) s fun t6_2 s =>
 some (t6_2,s))
  (oAd 6 t3 s fun t22 s =>
 oL1 t22 s fun t23 s =>
 oLn 25 t23 s fun t24 s =>
 oCp (.int .i64 0) s fun t25 s =>
 aLoop (F38_L0 D n) n (upds (argEnv [t0,t1,t2]) [(3,t3),(6,t6),(9,t9),(10,t10),(11,t11),(12,t12),(13,t13),(12,t12.strip),(14,t14),(15,t15),(16,t16),(17,t17),(18,t18),(19,t19),(20,t20),(21,t21),(22,t22),(23,t23),(24,t24),(25,t25)]) s)
theorem F38_eq (n:Nat)(t0 t1 t2:AV)(s:Heap):den C (n+1) 38 [t0,t1,t2] s=F38 (den C n) n t0 t1 t2 s :=
 (den_body rfl Tryz.func38 _ _).trans (by kernel_rfl)
theorem en38:enterable Tryz.prog 38=true:=by kernel_rfl
-- (*strings.Builder).Len
noncomputable def F78 (D:Den)(n:Nat)(t0:AV)(s:Heap):Ans :=
 oCp (.int .i64 0) s fun t2 s =>
 oMv t0 s fun t3 s =>
 oNc t3 s fun t4 s =>
 oAd 1 t4 s fun t5 s =>
 oL1 t5 s fun t6 s =>
 oLn 111 t6 s fun t7 s =>
 oCp t7 s fun t2_2 s =>
 some (t2_2,s)
theorem F78_eq (n:Nat)(t0:AV)(s:Heap):den C (n+1) 78 [t0] s=F78 (den C n) n t0 s :=
 (den_body rfl Tryz.func78 _ _).trans (by kernel_rfl)
theorem en78:enterable Tryz.prog 78=true:=by kernel_rfl
-- ast.joinTokens
noncomputable def F40_J1 (D:Den)(n:Nat)(k0:Env→Heap→Ans)(e:Env)(s:Heap):Ans :=
 oMv (e 5) s fun t19 s =>
 oCa D 80 [(e 3).strip,t19.strip] s fun t20 s =>
 oBn .add 3 (e 8) (.int .i64 1) s fun t21 s =>
 oMv t21 s fun t8_2 s =>
 k0 (upds e [(19,t19),(20,t20),(21,t21),(8,t8_2)]) s
noncomputable def F40_L0 (D:Den)(n:Nat)(k0:Env→Heap→Ans)(e:Env)(s:Heap):Ans :=
 oBn .lss 3 (e 8) (e 7) s fun t9 s =>
 br t9
  (oIx 38 (e 6) (e 8) s fun t10 s =>
 oL1 t10 s fun t11 s =>
 oCp t11 s fun t5 s =>
 oMv t5 s fun t12 s =>
 oBn .neq 9 t12 (.str []) s fun t13 s =>
 oMv t13 s fun t14 s =>
 oGt t14 s (aCall Tryz.prog D 78 [(e 3).strip] s) fun t15 s =>
 oGt t14 s (mp (aBin Tryz.prog .gtr 3 t15 (.int .i64 0)) s) fun t16 s =>
 oPk t14 t16 (.bool false) s fun t17 s =>
 br t17
  (oCa D 79 [(e 3).strip,(.int .u8 32)] s fun t18 s =>
 F40_J1 D n k0 (upds e [(9,t9),(10,t10),(11,t11),(11,t11.strip),(5,t5),(12,t12),(13,t13),(14,t14),(15,t15),(16,t16),(17,t17),(18,t18)]) s)
  (F40_J1 D n k0 (upds e [(9,t9),(10,t10),(11,t11),(11,t11.strip),(5,t5),(12,t12),(13,t13),(14,t14),(15,t15),(16,t16),(17,t17)]) s))
  (oCa D 81 [(e 3).strip] s fun t22 s =>
 oCp t22 s fun t2_2 s =>
 some (t2_2,s))
noncomputable def F40 (D:Den)(n:Nat)(t0:AV)(s:Heap):Ans :=
 oCp (.str []) s fun t2 s =>
 oAl 113 s fun t3 s =>
 oMv t0 s fun t6 s =>
 oLn 38 t6 s fun t7 s =>
 oCp (.int .i64 0) s fun t8 s =>
 aLoop (F40_L0 D n) n (upds (argEnv [t0]) [(2,t2),(3,t3),(6,t6),(7,t7),(8,t8)]) s
theorem F40_eq (n:Nat)(t0:AV)(s:Heap):den C (n+1) 40 [t0] s=F40 (den C n) n t0 s :=
 (den_body rfl Tryz.func40 _ _).trans (by kernel_rfl)
theorem en40:enterable Tryz.prog 40=true:=by kernel_rfl
-- ast.Print
noncomputable def F21 (D:Den)(n:Nat)(t0:AV)(s:Heap):Ans :=
 oBx 27 t0 s fun t1 s =>
 oCp (.str []) s fun t2 s =>
 oCp (.int .i64 0) s fun t3 s =>
 oAl 3 s fun t4 s =>
 oSr 1 s t4 (.int .i64 800) fun _r s =>
 oLa 7 t1 s fun t10 s =>
 oCa D 38 [t10.strip,(.int .i64 1),t4.strip] s fun t11 s =>
 br t11
  (oCp (.str []) s fun t2_2 s =>
 oCp (.int .i64 2) s fun t3_2 s =>
 some (.tup [t2_2,t3_2],s))
  (oBd 81 [] s fun t12 s =>oh (aBox true 81 t12 s) fun t13 s =>
 oCp t13 s fun t5 s =>
 oMv t5 s fun t14 s =>
 oLa 7 t1 s fun t15 s =>
 oCa D 39 [t14.strip,t15.strip] s fun t16 s =>
 oMv t5 s fun t17 s =>
 oNc t17 s fun t18 s =>
 oAd 0 t18 s fun t19 s =>
 oL1 t19 s fun t20 s =>
 oCa D 40 [t20.strip] s fun t21 s =>
 oCp t21 s fun t6 s =>
 oMv t6 s fun t23 s =>
 oCa D 15 [t23.strip] s fun t24 s =>
 oMv t24 s fun t22 s =>
 oXt 0 t22 s fun t25 s =>
 oXt 1 t22 s fun t26 s =>
 oXt 2 t22 s fun t27 s =>
 oAl 27 s fun t7 s =>
 oSr 7 s t7 t25 fun _r s =>
 oCp t26 s fun t8 s =>
 oCp t27 s fun t9 s =>
 oMv t9 s fun t29 s =>
 oBn .neq 29 t29 (.int .i64 0) s fun t30 s =>
 oCp t30 s fun t28 s =>
 br t28
  (oMv t9 s fun t31 s =>
 oCp (.str []) s fun t2_3 s =>
 oCp t31 s fun t3_3 s =>
 some (.tup [t2_3,t3_3],s))
  (oMv t8 s fun t33 s =>
 oLn 28 t33 s fun t34 s =>
 oBn .gtr 3 t34 (.int .i64 0) s fun t35 s =>
 oMv t35 s fun t36 s =>
 oGf t36 s (aLoad false true 7 t7 s) fun t37 s =>
 oGf t36 s (aLoad false true 7 t1 s) fun t38 s =>
 oGf t36 s (aCall Tryz.prog D 16 [t37.strip,t38.strip] s) fun t39 s =>
 oGf t36 s (mp (aUn .not t39) s) fun t40 s =>
 oPk t36 (.bool true) t40 s fun t41 s =>
 oCp t41 s fun t32 s =>
 br t32
  (oCp (.str []) s fun t2_4 s =>
 oCp (.int .i64 3) s fun t3_4 s =>
 some (.tup [t2_4,t3_4],s))
  (oMv t6 s fun t42 s =>
 oCp t42 s fun t2_5 s =>
 oCp (.int .i64 0) s fun t3_5 s =>
 some (.tup [t2_5,t3_5],s))))
theorem F21_eq (n:Nat)(t0:AV)(s:Heap):den C (n+1) 21 [t0] s=F21 (den C n) n t0 s :=
 (den_body rfl Tryz.func21 _ _).trans (by kernel_rfl)
theorem en21:enterable Tryz.prog 21=true:=by kernel_rfl
-- ast.Validate
noncomputable def F26 (D:Den)(n:Nat)(t0:AV)(s:Heap):Ans :=
 oBx 27 t0 s fun t1 s =>
 oCp (.int .i64 0) s fun t2 s =>
 oLa 7 t1 s fun t6 s =>
 oCa D 21 [t6.strip] s fun t7 s =>
 oMv t7 s fun t5 s =>
 oXt 0 t5 s fun t8 s =>
 oXt 1 t5 s fun t9 s =>
 oCp t8 s fun t3 s =>
 oCp t9 s fun t4 s =>
 oMv t4 s fun t10 s =>
 oCp t10 s fun t2_2 s =>
 some (t2_2,s)
theorem F26_eq (n:Nat)(t0:AV)(s:Heap):den C (n+1) 26 [t0] s=F26 (den C n) n t0 s :=
 (den_body rfl Tryz.func26 _ _).trans (by kernel_rfl)
theorem en26:enterable Tryz.prog 26=true:=by kernel_rfl
-- glossatorkeep1.AstPrintRoundTrip
noncomputable def F9 (D:Den)(n:Nat)(t0:AV)(s:Heap):Ans :=
 oBx 27 t0 s fun t1 s =>
 oCp (.bool false) s fun t2 s =>
 oCa D 20 [] s fun t10 s =>oh (mp (aUn .not t10) s) fun t11 s =>
 br t11
  (oCp (.bool false) s fun t2_2 s =>
 some (t2_2,s))
  (oLa 7 t1 s fun t13 s =>
 oCa D 21 [t13.strip] s fun t14 s =>
 oMv t14 s fun t12 s =>
 oXt 0 t12 s fun t15 s =>
 oXt 1 t12 s fun t16 s =>
 oCp t15 s fun t3 s =>
 oCp t16 s fun t4 s =>
 oMv t4 s fun t17 s =>
 oBn .neq 29 t17 (.int .i64 0) s fun t18 s =>
 br t18
  (oCa D 20 [] s fun t19 s =>
 oMv t19 s fun t20 s =>
 oGt t20 s (some (t3.strip,s)) fun t21 s =>
 oGt t20 s (mp (aBin Tryz.prog .eql 9 t21 (.str [])) s) fun t22 s =>
 oPk t20 t22 (.bool false) s fun t23 s =>
 oMv t23 s fun t24 s =>
 oGt t24 s (aLoad false true 7 t1 s) fun t25 s =>
 oGt t24 s (aCall Tryz.prog D 26 [t25.strip] s) fun t26 s =>
 oGt t24 s (some (t4.strip,s)) fun t27 s =>
 oGt t24 s (mp (aBin Tryz.prog .eql 29 t26 t27) s) fun t28 s =>
 oPk t24 t28 (.bool false) s fun t29 s =>
 oCp t29 s fun t2_3 s =>
 some (t2_3,s))
  (oMv t3 s fun t31 s =>
 oCa D 15 [t31.strip] s fun t32 s =>
 oMv t32 s fun t30 s =>
 oXt 0 t30 s fun t33 s =>
 oXt 1 t30 s fun t34 s =>
 oXt 2 t30 s fun t35 s =>
 oAl 27 s fun t5 s =>
 oSr 7 s t5 t33 fun _r s =>
 oCp t34 s fun t6 s =>
 oCp t35 s fun t7 s =>
 oLa 7 t5 s fun t37 s =>
 oCa D 21 [t37.strip] s fun t38 s =>
 oMv t38 s fun t36 s =>
 oXt 0 t36 s fun t39 s =>
 oXt 1 t36 s fun t40 s =>
 oCp t39 s fun t8 s =>
 oCp t40 s fun t9 s =>
 oCa D 20 [] s fun t41 s =>
 oMv t41 s fun t42 s =>
 oGt t42 s (some (t7.strip,s)) fun t43 s =>
 oGt t42 s (mp (aBin Tryz.prog .eql 29 t43 (.int .i64 0)) s) fun t44 s =>
 oPk t42 t44 (.bool false) s fun t45 s =>
 oMv t45 s fun t46 s =>
 oGt t46 s (some (t6.strip,s)) fun t47 s =>
 oGt t46 s (mp (aLen Tryz.prog 28 t47) s) fun t48 s =>
 oGt t46 s (mp (aBin Tryz.prog .eql 3 t48 (.int .i64 0)) s) fun t49 s =>
 oPk t46 t49 (.bool false) s fun t50 s =>
 oMv t50 s fun t51 s =>
 oGt t51 s (aLoad false true 7 t5 s) fun t52 s =>
 oGt t51 s (aLoad false true 7 t1 s) fun t53 s =>
 oGt t51 s (aCall Tryz.prog D 16 [t52.strip,t53.strip] s) fun t54 s =>
 oPk t51 t54 (.bool false) s fun t55 s =>
 oMv t55 s fun t56 s =>
 oGt t56 s (some (t9.strip,s)) fun t57 s =>
 oGt t56 s (mp (aBin Tryz.prog .eql 29 t57 (.int .i64 0)) s) fun t58 s =>
 oPk t56 t58 (.bool false) s fun t59 s =>
 oMv t59 s fun t60 s =>
 oGt t60 s (some (t8.strip,s)) fun t61 s =>
 oGt t60 s (some (t3.strip,s)) fun t62 s =>
 oGt t60 s (mp (aBin Tryz.prog .eql 9 t61 t62) s) fun t63 s =>
 oPk t60 t63 (.bool false) s fun t64 s =>
 oMv t64 s fun t65 s =>
 oGt t65 s (aLoad false true 7 t1 s) fun t66 s =>
 oGt t65 s (aCall Tryz.prog D 26 [t66.strip] s) fun t67 s =>
 oGt t65 s (mp (aBin Tryz.prog .eql 29 t67 (.int .i64 0)) s) fun t68 s =>
 oPk t65 t68 (.bool false) s fun t69 s =>
 oCp t69 s fun t2_4 s =>
 some (t2_4,s)))
theorem F9_eq (n:Nat)(t0:AV)(s:Heap):den C (n+1) 9 [t0] s=F9 (den C n) n t0 s :=
 (den_body rfl Tryz.func9 _ _).trans (by kernel_rfl)
theorem en9:enterable Tryz.prog 9=true:=by kernel_rfl
end PrtF
end

section
namespace ParF
open Go Go.Abs Go.Proofs Pm AstF PrtF
def PT (s:Heap)(H:Nat)(ts:List Bytes)(q:Option Nat):Prop:=s[H]?=some (81,[rsv 9 1 ts.length q])∧RowAt 9 s (ts.map AV.str) q∧q≠some H
def Aft (s:Heap)(H:Nat)(q:Option Nat)(ts:List Bytes)(s':Heap):Prop:=∃q',PT s' H ts q'∧s.length≤s'.length∧(∀Q,q'=some Q→q=some Q∨s.length≤Q)∧∀x,x<s.length→x≠H→q≠some x→s'[x]?=s[x]?
def En (H:Nat)(s:Heap)(ts:List Bytes)(q:Option Nat)(pp:List (List Bytes))(Q:Ans):Prop:=PT s H ts q→ts.length+pp.flatten.length≤900000000→∃s',Q=some (.tup [],s')∧Aft s H q (ts++pp.flatten) s'
def EmAt (n g:Nat)(args:List AV)(p:List Bytes):Prop:=∀H s ts q,PT s H ts q→ts.length+p.length≤900000000→∃s',aCall Tryz.prog (den C n) g (.ref H 0::args) s=some (.tup [],s')∧Aft s H q (ts++p) s'
theorem Aft.trans {s s1 s2:Heap}{H:Nat}{q q1:Option Nat}{t2:List Bytes}(l1:s.length≤s1.length)(o1:∀Q,q1=some Q→q=some Q∨s.length≤Q)(f1:∀x,x<s.length→x≠H→q≠some x→s1[x]?=s[x]?)(h:Aft s1 H q1 t2 s2):Aft s H q t2 s2:=by
 obtain⟨q',p,l2,o2,f2⟩:=h
 refine⟨q',p,by omega,fun Q hQ=>?_,fun x hx hH hq=>?_⟩
 ·rcases o2 Q hQ with h|h
  ·exact o1 Q h
  ·exact .inr (by omega)
 ·rw[f2 x (by omega) hH (fun e=>?_),f1 x hx hH hq]
  rcases o1 x e with h|h
  ·exact hq h
  ·omega
section
variable {H:Nat}{s:Heap}{ts:List Bytes}{q:Option Nat}{p:List Bytes}{pp:List (List Bytes)}
theorem en_nil:En H s ts q [] (some (.tup [],s)):=fun h _=>⟨s,rfl,by rw[List.flatten_nil,List.append_nil];exact⟨q,h,Nat.le_refl _,fun Q h=>.inl h,fun _ _ _ _=>rfl⟩⟩
theorem en_skip {Q:Ans}(h:En H s ts q pp Q):En H s ts q ([]::pp) Q:=h
theorem en_call {n g:Nat}{args:List AV}{k:AV→Heap→Ans}(h:EmAt n g args p)(hk:∀s' q',En H s' (ts++p) q' pp (k (.tup []) s')):En H s ts q (p::pp) (oh (aCall Tryz.prog (den C n) g (.ref H 0::args) s) k):=by
 intro hP hb
 rw[List.flatten_cons,List.length_append]at hb
 obtain⟨s1,e1,q1,p1,l1,o1,f1⟩:=h H s ts q hP (by omega)
 obtain⟨s2,e2,a2⟩:=hk s1 q1 p1 (by rw[List.length_append];omega)
 rw[List.flatten_cons,←List.append_assoc]
 exact⟨s2,by rw[e1];exact e2,a2.trans l1 o1 f1⟩
theorem en_callF {n g:Nat}{args:List AV}{k:AV→Heap→Ans}(h:EmAt n g args p)(hk:∀s' q',(∀x,x<s.length→x≠H→q≠some x→s'[x]?=s[x]?)→s.length≤s'.length→(∀Q,q'=some Q→q=some Q∨s.length≤Q)→En H s' (ts++p) q' pp (k (.tup []) s')):En H s ts q (p::pp) (oh (aCall Tryz.prog (den C n) g (.ref H 0::args) s) k):=by
 intro hP hb
 rw[List.flatten_cons,List.length_append]at hb
 obtain⟨s1,e1,q1,p1,l1,o1,f1⟩:=h H s ts q hP (by omega)
 obtain⟨s2,e2,a2⟩:=hk s1 q1 f1 l1 o1 p1 (by rw[List.length_append];omega)
 rw[List.flatten_cons,←List.append_assoc]
 exact⟨s2,by rw[e1];exact e2,a2.trans l1 o1 f1⟩
theorem en_grow {Q:Ans}{s1:Heap}(l:s.length≤s1.length)(f:∀x,x<s.length→s1[x]?=s[x]?)(h:(H<s.length∧∀Q,q=some Q→Q<s.length)→En H s1 ts q pp Q):En H s ts q pp Q:=by
 intro hP hb
 obtain⟨h1,h2,h3⟩:=hP
 have lt:H<s.length∧∀Q,q=some Q→Q<s.length:=⟨glt h1,fun Q hq=>h2.lt hq⟩
 obtain⟨s2,e2,a2⟩:=h lt ⟨(f H lt.1).trans h1,h2.frame fun Q hq=>f Q (lt.2 Q hq),h3⟩ hb
 exact⟨s2,e2,a2.trans l (fun Q hq=>.inl hq) fun x hx _ _=>f x hx⟩
theorem en_congr {Q:Ans}{pp':List (List Bytes)}(e:pp'.flatten=pp.flatten)(h:En H s ts q pp' Q):En H s ts q pp Q:=by unfold En at h ⊢;rw[←e];exact h
end
theorem em_of {n g:Nat}{args:List AV}{p:List Bytes}{pp:List (List Bytes)}(he:enterable Tryz.prog g=true)(hp:p=pp.flatten)(h:∀H s ts q,En H s ts q pp (den C n g (.ref H 0::args) s)):EmAt n g args p:=by
 intro H s ts q hP hb
 obtain⟨s',e,a⟩:=h H s ts q hP (by rw[←hp];exact hb)
 refine⟨s',?_,by rw[hp];exact a⟩
 have hr:noRefL (.ref H 0::args)=false:=by rw[noRefL_cons];rfl
 simp only[aCall,he,hr,if_true]
 exact e
theorem pcall {n g:Nat}{args:List AV}{v:AV}{s1:Heap}(he:enterable Tryz.prog g=true)(hr:noRefL args=true)(hv:v.noRef=true)(h:den C n g args []=some (v,s1))(s:Heap):aCall Tryz.prog (den C n) g args s=some (v,s):=by
 simp only[aCall,he,hr,h,hv,if_true]
theorem cellsOf_wds:∀ws:List Bytes,cellsOf (ws.map AV.str)=ws.map AV.str
 | []=>rfl
 | w::ws=>by
  have:=cellsOf_wds ws
  show [AV.str w]++cellsOf (ws.map AV.str)=_
  rw[this];rfl
theorem wst_strip:∀ws:List Bytes,(ws.map AV.str).map AV.strip=ws.map AV.str
 | []=>rfl
 | w::ws=>by rw[List.map_cons,List.map_cons,wst_strip ws];rfl
theorem info9:Info 9 1:=infoG (by kernel_rfl)
theorem under38:Tryz.prog.underlying 38=some (.slice 9):=by kernel_rfl
theorem pushS {s:Heap}{cs ws:List Bytes}{q:Option Nat}(h:RowAt 9 s (cs.map AV.str) q)(hn:cs.length+ws.length<1000000000)(hw:ws≠[])(f:Flag) :
  ∃s0,aRsAppend Tryz.prog 38 38 (rsv 9 1 cs.length q) (.sl 9 1 (ws.map AV.str) f) s=some (.rs 9 1 s.length 0 (cs.length+ws.length),s0)∧s0.length=s.length+1∧s0[s.length]?=some (9,(cs++ws).map AV.str)∧∀x,x<s.length→q≠some x→s0[x]?=s[x]?:=by
 obtain⟨i,zz,h1,h2,h3,h4,h5⟩:=info9
 have hb:bound i (cs.length+ws.length):=bound_of (by
  have:(2*(cs.length+ws.length)+768)*i.bytes≤(2*(cs.length+ws.length)+768)*100:=Nat.mul_le_mul_left _ h5
  omega) (by omega)
 obtain⟨w,ws,rfl⟩:∃w l,ws=w::l:=by cases ws with|nil=>exact absurd rfl hw|cons w l=>exact⟨w,l,rfl⟩
 have hc:cellsOf (AV.str w::ws.map AV.str)=AV.str w::ws.map AV.str:=cellsOf_wds (w::ws)
 have hst:(AV.str w::ws.map AV.str).map AV.strip=AV.str w::ws.map AV.str:=wst_strip (w::ws)
 have hu:=under38
 cases q with
 | none =>
  have hc0:=h.1 rfl
  obtain rfl:cs=[]:=by cases cs with|nil=>rfl|cons=>cases hc0
  have hb1:bound i (ws.length+1):=by simpa using hb
  refine⟨s++[(9,(w::ws).map AV.str)],?_,app_length ..,by rw[gapp_new];rfl,fun x hx _=>gapp_old hx⟩
  simp only[aRsAppend,rsv,hu,h1,srcOf,h2,h3,h4,deadTy,List.map_cons,List.length_cons,List.length_map,hb1,hc,hst,List.length_nil,Nat.zero_add]
  simp[hb1,h4]
  rw[hc,hst]
 | some Q =>
  obtain⟨hne,junk,hQ⟩:=h.2 Q rfl
  refine⟨kill s Q++[(9,(cs++w::ws).map AV.str)],?_,by rw[app_length,kill_length],by rw[←kill_length s Q,gapp_new],fun x hx hq=>by rw[gapp_old (by rw[kill_length];exact hx),gkill_ne (fun e=>hq (by rw[e]))]⟩
  have tk:(cs.map AV.str++junk).take (cs.length*1)=cs.map AV.str:=by rw[List.take_append_of_le_length (by rw[List.length_map];omega),List.take_of_length_le (by rw[List.length_map];omega)]
  have hne':¬(cs.map AV.str++junk)=[]:=by intro e;exact hne (List.append_eq_nil_iff.1 e).1
  have hle:cs.length*1≤(cs.map AV.str++junk).length:=by rw[List.length_append,List.length_map];omega
  have hb1:bound i (cs.length+(ws.length+1)):=hb
  simp only[aRsAppend,rsv,hu,h1,srcOf,h2,h3,h4,deadTy,List.map_cons,List.length_cons,List.length_map,hb1,hc,hst,hQ,tk]
  rw[h3]at *
  simp[hb1,h4,hle,hne',hc,hst,tk]
theorem put_run {n:Nat}{ws:List Bytes}(hw:ws≠[])(f:Flag)(hf:f=.sh∨f=.own):EmAt (n+1) 133 [.sl 9 1 (ws.map AV.str) f] ws:=by
 refine em_of (pp:=[ws]) en133 (by simp) fun H s ts q=>?_
 intro hP hb
 obtain⟨h1,h2,h3⟩:=hP
 simp only[List.flatten_cons,List.flatten_nil,List.append_nil]at hb ⊢
 obtain⟨s0,ap,l0,g0,f0⟩:=pushS h2 (by omega) hw .sh
 have hH:=glt h1
 have ld0:aLoad false false 1 (.ref H 0) s=some (rsv 9 1 ts.length q,s):=by rw[ld (n:=1) (o:=0) h1 (by decide) rfl (by decide),rsv_strip]
 have hH0:s0[H]?=some (81,[rsv 9 1 ts.length q]):=(f0 H hH h3).trans h1
 have st0:aStore 1 s0 (.ref H 0) (.rs 9 1 s.length 0 (ts.length+ws.length))=some (s0.set H (81,[.rs 9 1 s.length 0 (ts.length+ws.length)])):=by
  rw[st (n:=1) (o:=0) hH0 (by decide) rfl rfl (by show 0+1≤1;decide)];rfl
 have hst:(AV.sl 9 1 (ws.map AV.str) f).strip=.sl 9 1 (ws.map AV.str) .sh:=by rcases hf with rfl|rfl<;>rfl
 refine⟨s0.set H (81,[.rs 9 1 s.length 0 (ts.length+ws.length)]),?_,some s.length,⟨?_,⟨(fun e=>by cases e),fun Q hQ=>?_⟩,(fun e=>by cases e;omega)⟩,by rw[set_length];omega,fun Q hQ=>by cases hQ;exact .inr (Nat.le_refl _),fun x hx hH hq=>by rw[gset_ne (Ne.symm hH),f0 x hx hq]⟩
 ·rw[F133_eq,F133]
  simp only[↓sW,sL,hst,ld0,ap,strip_rs,st0]
 ·rw[gset_eq hH0,List.length_append];rfl
 ·cases hQ
  refine⟨?_,[],by rw[gset_ne (by omega),g0,List.append_nil]⟩
  cases ws with
  | nil=>exact absurd rfl hw
  | cons w l=>simp
theorem put1 {n:Nat}{w:Bytes}:EmAt (n+1) 133 [.sl 9 1 [.str w] .sh] [w]:=put_run (ws:=[w]) (by simp) .sh (.inl rfl)
theorem put2 {n:Nat}{w u:Bytes}:EmAt (n+1) 133 [.sl 9 1 [.str w,.str u] .sh] [w,u]:=put_run (ws:=[w,u]) (by simp) .sh (.inl rfl)
theorem own_strip (e z:Nat)(l:List AV):(AV.sl e z l .own).strip=.sl e z l .sh:=rfl
end ParF
end

section
namespace ParF
open Go Go.Abs Go.Proofs Pm AstF PrtF
theorem sdL_len:∀cs:List Nd,(sdL cs).length=cs.length
 | []=>rfl
 | c::cs=>by rw[sdL,List.length_cons,List.length_cons,sdL_len cs]
theorem sdL_drop:∀(i:Nat)(cs:List Nd),sdL (cs.drop i)=(sdL cs).drop i
 | 0,cs=>rfl
 | i+1,[]=>rfl
 | i+1,c::cs=>by rw[List.drop_succ_cons,sdL,List.drop_succ_cons,sdL_drop i cs]
theorem sdL_take:∀(i:Nat)(cs:List Nd),sdL (cs.take i)=(sdL cs).take i
 | 0,cs=>rfl
 | i+1,[]=>rfl
 | i+1,c::cs=>by rw[List.take_succ_cons,sdL,sdL,List.take_succ_cons,sdL_take i cs]
theorem chS_sd:∀(cs:List Nd)(i:Nat),chS (sdL cs) i=sd (cs.getD i zNd)
 | [],i=>by rw[sdL];cases i<;>rfl
 | c::cs,0=>by rw[sdL];rfl
 | c::cs,i+1=>by rw[sdL];exact chS_sd cs i
theorem sd_kd (t:Nd):(sd t).kd=t.kd:=by cases t;rfl
theorem sd_cs (t:Nd):(sd t).cs=sdL t.cs:=by cases t;rfl
theorem aBin_and (a b:Int)(t:Nat):aBin Tryz.prog .and t (I a) (I b)=some (I (andI a b)):=by rw[bin_int];rfl
def NL (ns:List Nd)(v:AV):Prop:=v.strip=v∧((v=.nils∧ns=[])∨∃rows,v=.sl 27 7 rows .sh∧IsNL ns rows)
theorem IsNC.nl {cs:List Nd}{ch:AV}(h:IsNC cs ch):NL cs ch:=by
 cases h with
 | nil=>exact⟨rfl,.inl ⟨rfl,rfl⟩⟩
 | sl cs rows h=>exact⟨rfl,.inr ⟨rows,rfl,h⟩⟩
theorem NL.len {ns:List Nd}{v:AV}(h:NL ns v):aLen Tryz.prog 25 v=some (I ns.length):=by
 rcases h.2 with ⟨rfl,rfl⟩|⟨rows,rfl,hr⟩
 ·exact len25_nil
 ·rw[len25,hr.length]
theorem NL.idx {ns:List Nd}{v:AV}(h:NL ns v){i:Nat}{t:Nd}(hi:ns[i]?=some t):∃a,aIndexAddr Tryz.prog 25 v (I i)=some (.box a.cells 0)∧IsN t a:=by
 rcases h.2 with ⟨rfl,rfl⟩|⟨rows,rfl,hr⟩
 ·simp at hi
 ·obtain⟨a,h1,h2⟩:=hr.at hi
  exact⟨a,idx25 h1,h2⟩
theorem NL.noRef {ns:List Nd}{v:AV}(h:NL ns v):v.noRef=true:=by
 rcases h.2 with ⟨rfl,rfl⟩|⟨rows,rfl,hr⟩
 ·rfl
 ·rw[noRef_sl];exact hr.noRef
theorem IsNL.drop:∀{ns:List Nd}{rows:List AV}(i:Nat),IsNL ns rows→IsNL (ns.drop i) (rows.drop i)
 | _,_,0,h=>h
 | _,_,i+1,.nil=>.nil
 | _,_,i+1,.cons _ _ _ _ _ h=>h.drop i
theorem IsNL.take:∀{ns:List Nd}{rows:List AV}(i:Nat),IsNL ns rows→IsNL (ns.take i) (rows.take i)
 | _,_,0,h=>.nil
 | _,_,i+1,.nil=>.nil
 | _,_,i+1,.cons _ _ _ _ a h=>.cons _ _ _ _ a (h.take i)
theorem IsN.strip {t:Nd}{a:AV}(h:IsN t a):a.strip=a:=by rw[h.cells.2.2.2];rfl
theorem IsN.box {t:Nd}{a:AV}(h:IsN t a)(s:Heap):aLoad false true 7 (.box a.cells 0) s=some (a,s):=box7 s h.cells.1 h.cells.2.2.2
theorem isN_z:IsN zNd (.agg [I 0,I 0,.str [],I 0,I 0,I 0,.nils]):=.mk _ _ _ _ _ _ _ _ .nil
theorem IsN.f0 {t:Nd}{a:AV}(h:IsN t a):aField Tryz.prog 27 0 a=some (I t.kd):=by
 cases h with
 | mk k v x s e ns cs ch h=>show aField Tryz.prog 27 0 (.agg [I k,I v,.str x,I s,I e,I ns,ch])=some (I k);kernel_rfl
theorem IsN.f6 {t:Nd}{a:AV}(h:IsN t a):∃c,aField Tryz.prog 27 6 a=some c∧NL t.cs c:=by
 cases h with
 | mk k v x s e ns cs ch h =>
  refine⟨ch,?_,h.nl⟩
  show aField Tryz.prog 27 6 (.agg [I k,I v,.str x,I s,I e,I ns,ch])=some ch
  have:(aField Tryz.prog 27 6 (.agg [I k,I v,.str x,I s,I e,I ns,ch]))=some ch.strip:=by kernel_rfl
  rw[this,h.strip.1]
section
variable {k v:Int}{x:Bytes}{s0 e0 n0:Int}{cs:List Nd}{ch:AV}(hch:IsNC cs ch)
include hch
theorem nd_noRef:(AV.agg [I k,I v,.str x,I s0,I e0,I n0,ch]).noRef=true:=(IsN.mk k v x s0 e0 n0 cs ch hch).noRef
theorem nd_box (s:Heap):aBox false 27 (.agg [I k,I v,.str x,I s0,I e0,I n0,ch]) s=some (.box [I k,I v,.str x,I s0,I e0,I n0,ch] 0,s):=by
 rw[aBox_f _ _ _ rfl];exact congrArg (fun c=>some (AV.box c 0,s)) (by simp[hch.strip.1,AV.strip])
theorem nd_ld (s:Heap):aLoad false true 7 (.box [I k,I v,.str x,I s0,I e0,I n0,ch] 0) s=some (.agg [I k,I v,.str x,I s0,I e0,I n0,ch],s):=boxG (n:=7) rfl _ s
theorem nd_l6 (s:Heap):aLoad false false 1 (.box [I k,I v,.str x,I s0,I e0,I n0,ch] 6) s=some (ch,s):=by rw[aLoad_one];simp[hch.strip.1]
theorem pflag_run (n:Nat)(w:Bytes)(s:Heap):aCall Tryz.prog (den C (n+1)) 134 [.agg [I k,I v,.str x,I s0,I e0,I n0,ch],.str w] s=some (.str (flagP v w),s):=by
 refine pcall (s1:=[]) en134 (by rw[noRefL_cons,nd_noRef hch];rfl) rfl ?_ s
 rw[F134_eq,F134]
 simp only[↓sW,sL,nd_box hch,aBin_and]
 unfold flagP
 by_cases c:andI v 1=1
 ·simp only[↓sW,sL,c,beq_self_eq_true]
 ·have c1:(andI v 1==1)=false:=by simpa using c
  simp only[↓sW,sL,c1,if_neg c]
theorem child_run (i:Nat){j:Int}(hj:j=i):∃b,IsN (cs.getD i zNd) b∧∀n s,aCall Tryz.prog (den C (n+1)) 136 [.agg [I k,I v,.str x,I s0,I e0,I n0,ch],I j] s=some (b,s):=by
 subst hj
 have zz:aAlloc Tryz.prog 27 []=some (.ref 0 0,[(27,zrow7)]):=by rw[zero27];rfl
 by_cases c:i<cs.length
 ·obtain⟨a,ha,hT⟩:=hch.nl.idx (List.getElem?_eq_getElem c)
  have hT':IsN (cs.getD i zNd) a:=by rw[List.getD_eq_getElem?_getD,List.getElem?_eq_getElem c];exact hT
  refine⟨a,hT',fun n s=>?_⟩
  refine pcall (s1:=[(27,a.cells)]) en136 (by rw[noRefL_cons,nd_noRef hch];rfl) hT.noRef ?_ s
  obtain⟨a1,a2,a3,a4⟩:=hT.cells
  have sto:aStore 7 [(27,zrow7)] (.ref 0 0) a=some [(27,a.cells)]:=by rw[st7 (s:=[(27,zrow7)]) (i:=0) rfl rfl a1 a2 a4];rfl
  have ld:=ld7 (s:=[(27,a.cells)]) (i:=0) (a:=a) rfl a1 a4
  have c2:¬(cs.length≤i):=by omega
  rw[F136_eq,F136]
  simp only[↓sW,sL,nd_box hch,zz,nd_l6 hch,hch.nl.len,c2,ha,hT.box,sto,ld]
 ·have bd:aBuild Tryz.prog 27 []=some (.agg [I 0,I 0,.str [],I 0,I 0,I 0,.nils]):=by kernel_rfl
  refine⟨.agg [I 0,I 0,.str [],I 0,I 0,I 0,.nils],by rw[List.getD_eq_getElem?_getD,List.getElem?_eq_none (by omega)];exact isN_z,fun n s=>?_⟩
  refine pcall (s1:=[(27,zrow7)]) en136 (by rw[noRefL_cons,nd_noRef hch];rfl) rfl ?_ s
  obtain⟨a1,a2,a3,a4⟩:=isN_z.cells
  have sto:aStore 7 [(27,zrow7)] (.ref 0 0) (.agg [I 0,I 0,.str [],I 0,I 0,I 0,.nils])=some [(27,zrow7)]:=by rw[st7 (s:=[(27,zrow7)]) (i:=0) rfl rfl a1 a2 a4];rfl
  have ld:aLoad false true 7 (.ref 0 0) [(27,zrow7)]=some (.agg [I 0,I 0,.str [],I 0,I 0,I 0,.nils],[(27,zrow7)]):=ld7 (s:=[(27,zrow7)]) (i:=0) (a:=.agg [I 0,I 0,.str [],I 0,I 0,I 0,.nils]) rfl a1 a4
  have c2:cs.length≤i:=by omega
  rw[F136_eq,F136]
  simp only[↓sW,sL,nd_box hch,zz,nd_l6 hch,hch.nl.len,c2,bd,sto,ld]
theorem from_run (i:Nat){j:Int}(hj:j=i):∃b,NL (cs.drop i) b∧∀n s,aCall Tryz.prog (den C (n+1)) 139 [.agg [I k,I v,.str x,I s0,I e0,I n0,ch],I j] s=some (b,s):=by
 subst hj
 have hx:∃b,NL (cs.drop i) b∧aSl Tryz.prog 25 ch (some (I ((min i cs.length:Nat):Int))) none none=some b:=by
  cases hch with
  | nil=>exact⟨.nils,⟨rfl,.inl ⟨rfl,by simp⟩⟩,by simp[aSl,under25]⟩
  | sl cs rows h =>
   have hl:=h.length
   refine⟨.sl 27 7 (rows.drop i) .sh,⟨rfl,.inr ⟨_,rfl,h.drop i⟩⟩,?_⟩
   have hm:min i cs.length≤rows.length:=by omega
   have e:rows.drop (min i cs.length)=rows.drop i:=by
    by_cases c:i≤cs.length
    ·rw[Nat.min_eq_left c]
    ·rw[Nat.min_eq_right (by omega),List.drop_of_length_le (by omega),List.drop_of_length_le (by omega)]
   simp only[aSl,under25,sz27,if_true,aSlice,aBound]
   rw[if_pos (by omega),Int.toNat_natCast]
   simp only[e]
 obtain⟨b,hb,h1⟩:=hx
 refine⟨b,hb,fun n s=>pcall (s1:=[]) en139 (by rw[noRefL_cons,nd_noRef hch];rfl) hb.noRef ?_ s⟩
 have hm:(if cs.length<i then(cs.length:Int) else(i:Int))=((min i cs.length:Nat):Int):=by split<;>omega
 rw[F139_eq,F139]
 simp only[↓sW,sL,nd_box hch,nd_l6 hch,hch.nl.len,hm,h1]
end
theorem pkw_run {k:Int}(h:k=2∨k=3∨k=4∨k=5∨k=6∨k=7∨k=8∨k=9∨k=16)(n:Nat)(s:Heap):aCall Tryz.prog (den C (n+2)) 135 [I k] s=some (.str (kwP k),s):=by
 have hf:∀s,aCall Tryz.prog (den C (n+1)) 130 [.str [117,115,101,32,102,110,32,115,116,114,117,99,116,32,101,110,117,109,32,116,114,97,105,116,32,105,109,112,108,32,99,111,110,115,116,32,109,97,99,114,111]] s=some (.sl 9 1 [.str [117,115,101],.str [102,110],.str [115,116,114,117,99,116],.str [101,110,117,109],.str [116,114,97,105,116],.str [105,109,112,108],.str [99,111,110,115,116],.str [109,97,99,114,111]] .sh,s):=fun s =>
  pcall (s1:=[]) (by kernel_rfl) rfl rfl (by rw[den_ext (e:=eFields) (by rfl)];kernel_rfl) s
 have hi:∀(i:Nat) (w:Bytes),([[117,115,101],[102,110],[115,116,114,117,99,116],[101,110,117,109],[116,114,97,105,116],[105,109,112,108],[99,111,110,115,116],[109,97,99,114,111]]:List Bytes)[i]?=some w→aIndexAddr Tryz.prog 38 (.sl 9 1 [.str [117,115,101],.str [102,110],.str [115,116,114,117,99,116],.str [101,110,117,109],.str [116,114,97,105,116],.str [105,109,112,108],.str [99,111,110,115,116],.str [109,97,99,114,111]] .sh) (I i)=some (.box [.str w] 0):=fun i w h=>by
  have h2:(([[117,115,101],[102,110],[115,116,114,117,99,116],[101,110,117,109],[116,114,97,105,116],[105,109,112,108],[99,111,110,115,116],[109,97,99,114,111]]:List Bytes).map AV.str)[i]?=some (.str w):=by rw[List.getElem?_map,h];rfl
  exact idxG under38 (by kernel_rfl) h2
 refine pcall (s1:=[]) en135 rfl rfl ?_ s
 rw[F135_eq,F135]
 rcases h with rfl|rfl|rfl|rfl|rfl|rfl|rfl|rfl|rfl
 ·simp only[↓sW,sL,show ¬(9:Int)<2 by decide,hf,show IntKind.i64.wrap (2-2)=((0:Nat):Int) by decide,hi 0 _ rfl,kwP]
  rfl
 ·simp only[↓sW,sL,show ¬(9:Int)<3 by decide,hf,show IntKind.i64.wrap (3-2)=((1:Nat):Int) by decide,hi 1 _ rfl,kwP]
  rfl
 ·simp only[↓sW,sL,show ¬(9:Int)<4 by decide,hf,show IntKind.i64.wrap (4-2)=((2:Nat):Int) by decide,hi 2 _ rfl,kwP]
  rfl
 ·simp only[↓sW,sL,show ¬(9:Int)<5 by decide,hf,show IntKind.i64.wrap (5-2)=((3:Nat):Int) by decide,hi 3 _ rfl,kwP]
  rfl
 ·simp only[↓sW,sL,show ¬(9:Int)<6 by decide,hf,show IntKind.i64.wrap (6-2)=((4:Nat):Int) by decide,hi 4 _ rfl,kwP]
  rfl
 ·simp only[↓sW,sL,show ¬(9:Int)<7 by decide,hf,show IntKind.i64.wrap (7-2)=((5:Nat):Int) by decide,hi 5 _ rfl,kwP]
  rfl
 ·simp only[↓sW,sL,show ¬(9:Int)<8 by decide,hf,show IntKind.i64.wrap (8-2)=((6:Nat):Int) by decide,hi 6 _ rfl,kwP]
  rfl
 ·simp only[↓sW,sL,show ¬(9:Int)<9 by decide,hf,show IntKind.i64.wrap (9-2)=((7:Nat):Int) by decide,hi 7 _ rfl,kwP]
  rfl
 ·simp only[↓sW,sL,show (9:Int)<16 by decide,kwP]
theorem pbool_run (v:Int)(n:Nat)(s:Heap):aCall Tryz.prog (den C (n+2)) 142 [.bool (v==1)] s=some (.str (boolP v),s):=by
 have h:∀s,aCall Tryz.prog (den C (n+1)) 185 [.bool (v==1)] s=some (.str (boolP v),s):=fun s=>by
  refine pcall (s1:=[]) en185 rfl rfl ?_ s
  rw[F185_eq,F185]
  unfold boolP
  by_cases c:v=1
  ·subst c;rfl
  ·have c1:(v==1)=false:=by simpa using c
   simp only[↓sW,sL,c1,if_neg c]
 refine pcall (s1:=[]) en142 rfl rfl ?_ s
 rw[F142_eq,F142]
 simp only[↓sW,sL,h]
theorem pitoa_run {v:Int}(h:-9223372036854775808≤v∧v≤9223372036854775807)(n:Nat)(s:Heap):aCall Tryz.prog (den C (n+1)) 141 [I v] s=some (.str (itoaL v),s) :=
 pcall (s1:=[]) (by kernel_rfl) rfl rfl (by rw[den_ext (e:=eItoa) (by rfl)];simp only[eItoa];rw[if_pos h]) s
theorem pquo_run {x:Bytes}(h:x.length<1000000000)(n:Nat)(s:Heap):aCall Tryz.prog (den C (n+1)) 25 [.str x] s=some (.str (quoP x),s) :=
 pcall (s1:=[]) (by kernel_rfl) rfl rfl (by rw[den_ext (e:=eQuote) (by rfl)];simp only[eQuote];rw[if_pos h];rfl) s
def Okp (n:Nat)(N:Sd→List Bytes)(t:Nd):Prop:=∀a,IsN t a→EmAt n 39 [a] (N (sd t))
def restP (N:Sd→List Bytes)(w:Bytes)(i:Nat)(l:List Sd):List Bytes:=if i=0 then listP N w l else tailP N w l
theorem plist_loop {n:Nat}{N:Sd→List Bytes}{w:Bytes}{ns:List Nd}{v:AV}(hv:NL ns v)(hn:ns.length<1800000000000)(ok:∀t∈ns,Okp (n+1) N t)(H:Nat):∀(j i:Nat),ns.length-i=j→i≤ns.length→∀(f:Nat),j<f→∀(e:Env)(s:Heap) ts q,e 0=.ref H 0→e 2=.str w→e 8=v→e 9=I ns.length→e 10=I i →
  En H s ts q [restP N w i (sdL (ns.drop i))] (aLoop (F72_L0 (den C (n+1)) (n+1)) f e s):=by
 intro j
 induction j with
 | zero =>
  intro i hj hi f hf e s ts q e0 e2 e8 e9 e10
  obtain⟨f,rfl⟩:∃g,f=g+1:=⟨f-1,by omega⟩
  have c:¬i<ns.length:=by omega
  rw[List.drop_of_length_le (by omega),sdL]
  have hr:restP N w i []=[]:=by unfold restP;split<;>rfl
  rw[hr,aLoop,F72_L0]
  simp only[↓sW,sL,e9,e10,c]
  exact en_skip en_nil
 | succ j ih =>
  intro i hj hi f hf e s ts q e0 e2 e8 e9 e10
  obtain⟨f,rfl⟩:∃g,f=g+1:=⟨f-1,by omega⟩
  have c:i<ns.length:=by omega
  obtain⟨a,ha,hT⟩:=hv.idx (List.getElem?_eq_getElem c)
  obtain⟨a1,a2,a3,a4⟩:=hT.cells
  have em:=ok _ (List.getElem_mem c) a hT
  rw[List.drop_eq_getElem_cons c,sdL]
  have z:aAlloc Tryz.prog 27 s=some (.ref s.length 0,s++[(27,zrow7)]):=by rw[zero27]
  obtain⟨s1,hs1⟩:∃s1,s++[(27,a.cells)]=s1:=⟨_,rfl⟩
  have sto:aStore 7 (s++[(27,zrow7)]) (.ref s.length 0) a=some s1:=by rw[st7 (gapp_new) rfl a1 a2 a4,set_end,hs1]
  have l1:s1.length=s.length+1:=by rw[←hs1,app_length]
  have f1:∀x,x<s.length→s1[x]?=s[x]?:=fun x hx=>by rw[←hs1,gapp_old hx]
  have ldt:s1[s.length]?=some (27,a.cells):=by rw[←hs1,gapp_new]
  have w1:=wadd1L (a:=i) (by omega)
  refine en_grow (s1:=s1) (by omega) f1 fun⟨lH,lq⟩=>?_
  have lda:aLoad false true 7 (.ref s.length 0) s1=some (a,s1):=ld7 ldt a1 a4
  have bx:=fun s=>hT.box s
  by_cases c0:i=0
  ·subst c0
   refine en_congr (pp':=[N (sd ns[0]),restP N w 1 (sdL (ns.drop 1))]) (by simp[restP,listP]) ?_
   rw[aLoop,F72_L0]
   simp only[↓sW,sL,e9,e10,e8,e0,e2,c,ha,bx,z,hT.strip,sto,F72_J1,show ¬((0:Int)<((0:Nat):Int)) by decide,lda,upds_at,upds_nil,upd_at,Nat.reduceEqDiff,reduceIte]
   refine en_call em fun s' q'=>?_
   simp only[↓sW,sL,e9,e10,e8,e0,e2,upds_at,upds_nil,upd_at,Nat.reduceEqDiff,reduceIte,w1]
   exact ih 1 (by omega) (by omega) f (by omega) _ _ _ _ (by simp[upds_at,upd_at,e0]) (by simp[upds_at,upd_at,e2]) (by simp[upds_at,upd_at,e8]) (by simp[upds_at,upd_at,e9]) (by simp[upds_at,upd_at])
  ·have c1:(0:Int)<(i:Int):=by omega
   refine en_congr (pp':=[[w],N (sd ns[i]),restP N w (i+1) (sdL (ns.drop (i+1)))]) (by simp[restP,c0,tailP]) ?_
   rw[aLoop,F72_L0]
   simp only[↓sW,sL,e9,e10,e8,e0,e2,c,c1,ha,bx,z,hT.strip,sto,F72_J1,lda,bs1,own_strip,upds_at,upds_nil,upd_at,Nat.reduceEqDiff,reduceIte]
   refine en_callF put1 fun s' q' f2 l2 o2=>?_
   have lda2:aLoad false true 7 (.ref s.length 0) s'=some (a,s'):=ld7 ((f2 _ (by omega) (by omega) (fun e=>by have:=lq _ e;omega)).trans ldt) a1 a4
   simp only[↓sW,sL,e9,e10,e8,e0,e2,upds_at,upds_nil,upd_at,Nat.reduceEqDiff,reduceIte,lda2,hT.strip]
   refine en_call em fun s'' q''=>?_
   simp only[↓sW,sL,e9,e10,e8,e0,e2,upds_at,upds_nil,upd_at,Nat.reduceEqDiff,reduceIte,w1]
   exact ih (i+1) (by omega) (by omega) f (by omega) _ _ _ _ (by simp[upds_at,upd_at,e0]) (by simp[upds_at,upd_at,e2]) (by simp[upds_at,upd_at,e8]) (by simp[upds_at,upd_at,e9]) (by simp[upds_at,upd_at])
def OKp (K:Nat)(N:Sd→List Bytes)(t:Nd):Prop:=∀m,K≤m→Okp m N t
section
variable {K m:Nat}{N:Sd→List Bytes}{ns:List Nd}{v:AV}(hv:NL ns v)(ok:∀t∈ns,OKp K N t)(hl:ns.length<K)(hb:ns.length<1800000000000)
include hv ok hl hb
theorem list_em (w:Bytes)(hm:K+1≤m):EmAt m 72 [v,.str w] (listP N w (sdL ns)):=by
 obtain⟨n,rfl⟩:∃n,m=n+2:=⟨m-2,by omega⟩
 refine em_of (pp:=[restP N w 0 (sdL (ns.drop 0))]) en72 (by simp[restP]) fun H s ts q=>?_
 have lp:=plist_loop (w:=w) hv hb (fun t ht=>ok t ht (n+1) (by omega)) H ns.length 0 (by omega) (by omega) (n+1) (by omega)
 rw[F72_eq,F72]
 simp only[↓sW,sL,hv.1,hv.len]
 exact lp _ _ _ _ (by simp[upds_at,upd_at];rfl) (by simp[upds_at,upd_at];rfl) (by simp[upds_at,upd_at]) (by simp[upds_at,upd_at]) (by simp[upds_at,upd_at])
theorem enc_em (a w b:Bytes)(hm:K+2≤m):EmAt m 137 [.str a,v,.str w,.str b] (encP N a (sdL ns) w b):=by
 obtain⟨n,rfl⟩:∃n,m=n+2:=⟨m-2,by omega⟩
 have l1:=list_em hv ok hl hb w (m:=n+1) (by omega)
 refine em_of (pp:=[[a],listP N w (sdL ns),[b]]) en137 (by simp[encP]) fun H s ts q=>?_
 rw[F137_eq,F137]
 simp only[↓sW,sL,bs1,own_strip,hv.1]
 refine en_call put1 fun s' q'=>?_
 try simp only[↓sW,sL,bs1,own_strip,hv.1]
 refine en_call l1 fun s' q'=>?_
 try simp only[↓sW,sL,bs1,own_strip,hv.1]
 exact en_call put1 fun s' q'=>en_nil
theorem targ_em (hm:K+3≤m):EmAt m 140 [v] (targP N (sdL ns)):=by
 obtain⟨n,rfl⟩:∃n,m=n+1:=⟨m-1,by omega⟩
 have l1:=enc_em hv ok hl hb [60] [44] [62] (m:=n) (by omega)
 by_cases c:ns=[]
 ·subst c
  refine em_of (pp:=[]) en140 (by simp[targP,sdL]) fun H s ts q=>?_
  rw[F140_eq,F140]
  simp only[↓sW,sL,hv.1,hv.len,show ¬(0:Int)<(([]:List Nd).length:Int) by simp]
  exact en_nil
 ·have c1:(0:Int)<(ns.length:Int):=by cases ns with|nil=>exact absurd rfl c|cons=>simp
  have c2:sdL ns≠[]:=by intro e;have:=congrArg List.length e;rw[sdL_len]at this;simp at this;exact c this
  refine em_of (pp:=[encP N [60] (sdL ns) [44] [62]]) en140 (by simp[targP,c2]) fun H s ts q=>?_
  rw[F140_eq,F140]
  simp only[↓sW,sL,hv.1,hv.len,c1]
  exact en_call l1 fun s' q'=>en_nil
end
section
variable {K m:Nat}{N:Sd→List Bytes}{t:Nd}{a:AV}(hT:IsN t a)(ok:OKp K N t)
include hT ok
theorem opt_em (w:Bytes)(hm:K+1≤m)(hK:1≤K):EmAt m 138 [.str w,a] (optP N w (sd t)):=by
 obtain⟨n,rfl⟩:∃n,m=n+1:=⟨m-1,by omega⟩
 have e1:=ok n (by omega) a hT
 by_cases hn:n=0
 ·subst hn;omega
 obtain⟨n,rfl⟩:∃p,n=p+1:=⟨n-1,by omega⟩
 have hs:=hT.strip
 cases hT with
 | mk k v x s0 e0 n0 cs ch hch =>
 by_cases c:k=0
 ·subst c
  refine em_of (pp:=[]) en138 (by simp[optP,sd_kd,Nd.kd]) fun H s ts q=>?_
  rw[F138_eq,F138]
  simp only[↓sW,sL,nd_box hch,bne_self_eq_false]
  exact en_nil
 ·have c1:(k != 0)=true:=by simpa using c
  refine em_of (pp:=[[w],N (sd (.mk k v x s0 e0 n0 cs))]) en138 (by simp[optP,sd_kd,Nd.kd,c]) fun H s ts q=>?_
  rw[F138_eq,F138]
  simp only[↓sW,sL,nd_box hch,c1,bs1,own_strip]
  refine en_call put1 fun s' q'=>?_
  simp only[↓sW,sL,nd_ld hch,hs]
  exact en_call e1 fun s' q'=>en_nil
theorem opnd_em (hm:K+3≤m)(hK:2≤K):EmAt m 143 [a] (opndP N (sd t)):=by
 obtain⟨n,rfl⟩:∃n,m=n+1:=⟨m-1,by omega⟩
 have e1:=ok n (by omega) a hT
 have l1:=enc_em (K:=K) (N:=N) (ns:=[t]) (v:=.sl 27 7 [a] .sh) (m:=n) ⟨rfl,.inr ⟨[a],rfl,.cons _ _ _ _ hT .nil⟩⟩ (fun t' ht'=>by rcases List.mem_singleton.1 ht' with rfl;exact ok) (by simp;omega) (by simp) [40] [] [41] (by omega)
 obtain⟨a1,a2,a3,a4⟩:=hT.cells
 have lt:=lit27 a1 a2 a4
 have hs:=hT.strip
 obtain⟨t',ht'⟩:∃t',t'=t:=⟨_,rfl⟩
 rw[←ht']at l1 e1
 cases hT with
 | mk k v x s0 e0 n0 cs ch hch =>
 have hp:EmAt (n+1) 143 [.agg [I k,I v,.str x,I s0,I e0,I n0,ch]] [if prim k then N (sd t') else encP N [40] (sdL [t']) [] [41]].flatten:=by
  refine em_of (pp:=[if prim k then N (sd t') else encP N [40] (sdL [t']) [] [41]]) en143 rfl fun H s ts q=>?_
  rw[F143_eq,F143]
  by_cases p:prim k=true
  ·rw[if_pos p]
   have p':=p
   simp only[prim,Bool.or_eq_true,beq_iff_eq]at p'
   rcases p' with ((((((rfl|rfl)|rfl)|rfl)|rfl)|rfl)|rfl)|rfl
   all_goals
    simp only[↓sW,sL,nd_box hch,beq_self_eq_true,Int.reduceBEq,F143_J0,upds_at,upds_nil,upd_at,Nat.reduceEqDiff,reduceIte,argEnv_0,nd_ld hch,hs]
    exact en_call e1 fun s' q'=>en_nil
  ·rw[if_neg p]
   have p':=p
   simp only[prim,Bool.or_eq_true,not_or,Bool.not_eq_true]at p'
   obtain⟨⟨⟨⟨⟨⟨⟨p1,p2⟩,p3⟩,p4⟩,p5⟩,p6⟩,p7⟩,p8⟩:=p'
   simp only[↓sW,sL,nd_box hch,p1,p2,p3,p4,p5,p6,p7,p8,F143_J0,upds_at,upds_nil,upd_at,Nat.reduceEqDiff,reduceIte,argEnv_0,nd_ld hch,lt,own_strip]
   exact en_call l1 fun s' q'=>en_nil
 rw[ht']at hp
 simpa[opndP,sd_kd,Nd.kd,sdL] using hp
end
end ParF
end
