/- NdSz, WalkG, SymF, SymA, SymB, SymC, SymD, SymE, SymG, SymH, NdSz2, SymI, SymJ, SylF, SymK, SymX2, SymN, SymP, SymQ, SymR -/
import Derived.Test.YtndfoijecakkfaaGreatDoorG
import Derived.Test.YtndfoijecakkfaaGreatDoorH
import Derived.Test.YtndfoijecakkfaaGreatDoorC
import Derived.Test.YtndfoijecakkfaaGreatDoorI
import Derived.Test.YtndfoijecakkfaaGreatDoorB
set_option linter.all false
set_option maxRecDepth 100000
set_option maxHeartbeats 1000000

section
namespace ParF
open Pm
mutual
def sI:Nd→Nat
 | .mk _ _ _ _ _ _ cs=>1+mI cs
def mI:List Nd→Nat
 | []=>0
 | t::ts=>sI t+mI ts
end
theorem nC (k v:Int)(x:Bytes)(s e ns:Int)(cs:List Nd):sI (.mk k v x s e ns cs)=1+mI cs:=by rw[sI]
theorem Fo:∀{cs:List Nd}{u:Nd},u∈cs→sI u≤mI cs
 | [],u,h=>by cases h
 | c::cs,u,h=>by
  rw[mI]
  rcases List.mem_cons.1 h with rfl|h
  ·omega
  ·have:=Fo h;omega
theorem Fp (n:Nd):1≤sI n:=by cases n;rw[sI];omega
theorem vP:∀cs:List Nd,cs.length≤mI cs
 | []=>Nat.zero_le _
 | c::cs=>by rw[mI,List.length_cons];have:=vP cs;have:=Fp c;omega
end ParF
end

section
namespace ParF
open Go Go.Abs Go.Proofs Pm
section
variable {t e z:Nat}{rows:List AV}{f:om}
theorem HC (hu:Tryz.prog.underlying t=some (.slice e))(hz:da Tryz.prog e=some z){i:Nat}{a:AV}(h:rows[i]?=some a):aA Tryz.prog t (.sl e z rows f) (I i)=some (.box a.cells 0):=by
 simp[aA,hu,hz,h]
theorem K7 (hu:Tryz.prog.underlying t=some (.slice e)):bN Tryz.prog t (.sl e z rows f)=some (I rows.length):=by simp[bN,hu]
theorem Z6 (hu:Tryz.prog.underlying t=some (.slice e)):bN Tryz.prog t .aN=some (I 0):=by simp[bN,hu]
theorem Z7 (hu:Tryz.prog.underlying t=some (.slice e))(i o n:Nat):bN Tryz.prog t (.rs e z i o n)=some (I n):=by simp[bN,hu]
end
theorem nD {t:Nat}{zc:List AV}(hz:zeroOf Tryz.prog t=some (.agg zc))(h:zc≠[]∧zc.map AV.aa=zc)(s:ag):bH Tryz.prog t s=some (.ref s.length 0,s++[(t,zc)]):=by
 have h1:zc.isEmpty=false:=by cases zc with|nil=>exact absurd rfl h.1|cons=>rfl
 simp[bH,hz,h.2,h1]
theorem BH {t n:Nat}{zc a:List AV}(hn:n≠0)(ht:t≠cI)(hl:zc.length=n)(ha:a.length=n)(hs:a.map AV.aa=a)(s:ag):aB n (s++[(t,zc)]) (.ref s.length 0) (.agg a)=some (s++[(t,a)]):=by
 rw[ParF.st (n:=n) (o:=0) (v:=.agg a) aW ht rfl (by show a.length=n;exact ha) (by omega),eG]
 have:=gp [] a zc (by omega)
 rw[List.nil_append,List.nil_append]at this
 show some (s++[(t,bZ zc 0 (a.map AV.aa))])=_
 rw[hs,show bZ zc 0 a=a from this]
theorem zH {n:Nat}{a:List AV}(h:a.length=n)(tk:Bool)(s:ag):af tk true n (.box a 0) s=some (.agg a,s):=by
 rw[nM _ _ _ _ _ (by omega),List.drop_zero,List.take_of_length_le (by omega)]
theorem Wh {t o:Nat}{a:List AV}{v:AV}(ht:t≠cI)(hv:a[o]?=some v)(s:ag):af false false 1 (.ref s.length o) (s++[(t,a)])=some (v.aa,s++[(t,a)]):=ld (n:=1) (o:=o) aW ht hv (by decide)
theorem UW {t n:Nat}{a:List AV}(hn:n≠0)(ht:t≠cI)(h:a.length=n)(s:ag):af false true n (.ref s.length 0) (s++[(t,a)])=some (.agg a,s++[(t,a)]):=by
 rw[Jr (n:=n) (o:=0) aW ht (by omega) hn,List.drop_zero,List.take_of_length_le (by omega)]
def Fq (e z n:Nat)(q:Option Nat):AV:=match q with
 | none=>.aN
 | some Q=>.rs e z Q 0 n
theorem HD (e z n:Nat)(q:Option Nat):(Fq e z n q).aa=Fq e z n q:=by unfold Fq;cases q<;>rfl
def vQ (e:Nat)(s:ag)(cs:List AV)(q:Option Nat):Prop:=(q=none→cs=[])∧∀Q,q=some Q→cs≠[]∧∃junk,s[Q]?=some (e,cs++junk)
theorem vQ.lt {e:Nat}{s:ag}{cs:List AV}{q:Option Nat}(h:vQ e s cs q){Q:Nat}(hq:q=some Q):Q<s.length:=by
 obtain⟨_,_,k⟩:=h.2 Q hq;exact iN k
theorem vQ.frame {e:Nat}{s s':ag}{cs:List AV}{q:Option Nat}(h:vQ e s cs q)(k:∀Q,q=some Q→s'[Q]?=s[Q]?):vQ e s' cs q :=
 ⟨h.1,fun Q hq=>by obtain⟨a,j,b⟩:=h.2 Q hq;exact⟨a,j,(k Q hq).trans b⟩⟩
def BI (e z:Nat):Prop:=∃i zz,Tryz.prog.info? e=some i∧i.size=z∧i.zero=some zz∧zz.cells.size=z∧i.bytes≤100
theorem Ft {e z:Nat}(h:(Tryz.prog.info? e).map (fun i=>(i.size,i.zero.map (·.cells.size),decide (i.bytes≤100)))=some (z,some z,true)):BI e z:=by
 rw[Option.map_eq_some_iff]at h
 obtain⟨i,h1,h2⟩:=h
 simp only[Prod.mk.injEq,Option.map_eq_some_iff,decide_eq_true_eq]at h2
 obtain⟨a,⟨zz,b,c⟩,d⟩:=h2
 exact⟨i,zz,h1,a,b,c,d⟩
theorem Z8 {t e z:Nat}(hu:Tryz.prog.underlying t=some (.slice e))(hi:BI e z)(hz:z≠0)(he:e≠cI){s:ag}{cs:List AV}{q:Option Nat}{n:Nat}(h:vQ e s cs q)(hl:cs.length=n*z)(hn:n<1000000000)
  {a:List AV}(ha:a.length=z)(hs:a.map AV.aa=a) :
  ∃s0,bA Tryz.prog t t (Fq e z n q) (.sl e z [.agg a] .own) s=some (.rs e z s.length 0 (n+1),s0)∧s0.length=s.length+1∧s0[s.length]?=some (e,cs++a)∧∀x,x<s.length→q≠some x→s0[x]?=s[x]?:=by
 obtain⟨i,zz,h1,h2,h3,h4,h5⟩:=hi
 have hb:mv i (n+1):=⟨by
  have:(2*(n+1)+768)*i.bytes≤(2*(n+1)+768)*100:=Nat.mul_le_mul_left _ h5
  omega,by omega⟩
 cases q with
 | none =>
  have hc:=h.1 rfl
  subst hc
  have hn0:n=0:=by
   rcases Nat.mul_eq_zero.1 hl.symm with e|e
   ·exact e
   ·exact absurd e hz
  subst hn0
  have hb1:mv i 1:=hb
  refine⟨s++[(e,a)],?_,aP ..,by rw[aW];rfl,fun x hx _=>bE hx⟩
  have h6:¬e=1000000:=he
  simp[bA,Fq,hu,h1,iQ,h2,h3,h4,hb1,cI,cellsOf,AV.cells,hs,h6,hz]
 | some Q =>
  obtain⟨hne,junk,hQ⟩:=h.2 Q rfl
  refine⟨kill s Q++[(e,cs++a)],?_,by rw[aP,bw],by rw[←bw s Q,aW],fun x hx hq=>by rw[bE (by rw[bw];exact hx),fS (fun e=>hq (by rw[e]))]⟩
  have h6:¬e=1000000:=he
  have tk:(cs++junk).take (n*z)=cs:=by rw[List.take_append_of_le_length (by omega),List.take_of_length_le (by omega)]
  have hne':¬(cs++junk)=[]:=by simp[hne]
  have hle:n*z≤(cs++junk).length:=by rw[List.length_append];omega
  simp only[List.length_append]at hle
  simp[bA,Fq,hu,h1,iQ,h2,h3,h4,hb,cI,cellsOf,AV.cells,hs,h6,hz,hQ,tk,hne,hle]
end ParF
end

section
namespace sU
open Go Go.Abs Go.Proofs ParF
-- symbols.symbolKind
noncomputable def zI (D:a8)(n:Nat)(k0:Env→ag→aU)(e:Env)(s:ag):aU :=
 oh (mp (aK Tryz.prog .lss 3 (e 49) (e 48)) s) fun t50 s =>
 br t50 (oh (mp (aA Tryz.prog 123 (e 47) (e 49)) s) fun t51 s =>oh (af false true 2 t51 s) fun t52 s =>oh (bH Tryz.prog 122 s) fun t7 s =>oh (dZ (aB 2 s t7 t52)) fun _r s =>oh (mp (aA Tryz.prog 122 t7 (.int .i64 0)) s) fun t53 s =>oh (af false false 1 t53 s) fun t54 s =>oh (mp (aD 0 (e 2)) s) fun t55 s =>oh (af false false 1 t55 s) fun t56 s =>oh (mp (aK Tryz.prog .eql 3 t54 t56) s) fun t57 s =>
 br t57 (oh (mp (aA Tryz.prog 122 t7 (.int .i64 1)) s) fun t58 s =>oh (af false false 1 t58 s) fun t59 s =>oh (some (t59,s)) fun t4_6 s =>
 some (t4_6,s)) (oh (mp (aK Tryz.prog .add 3 (e 49) (.int .i64 1)) s) fun t60 s =>oh (some (t60.aa,s)) fun Z9 s =>
 k0 (bf e [(50,t50),(51,t51),(52,t52),(7,t7),(52,t52.aa),(53,t53),(54,t54),(55,t55),(56,t56),(57,t57),(60,t60),(49,Z9)]) s)) (oh (some ((.int .i64 0),s)) fun t4_7 s =>
 some (t4_7,s))
noncomputable def F51 (D:a8)(n:Nat)(t0 t1:AV)(s:ag):aU :=
 oh (cL false 58 t0 s) fun t2 s =>oh (some ((.int .i64 0),s)) fun t4 s =>oh (mp (aD 0 t2) s) fun t9 s =>oh (af false false 1 t9 s) fun t10 s =>oh (mp (aK Tryz.prog .eql 3 t10 (.int .i64 7)) s) fun t11 s =>oh (some (t11,s)) fun t8 s =>
 br t8 (oh (some ((.int .i64 6),s)) fun t4_2 s =>
 some (t4_2,s)) (oh (mp (aD 5 t2) s) fun t13 s =>oh (af false false 1 t13 s) fun t14 s =>oh (mp (aK Tryz.prog .lss 3 t14 (.int .i64 0)) s) fun t15 s =>oh (some (t15,s)) fun t12 s =>
 br t12 (oh (some ((.int .i64 0),s)) fun t4_3 s =>
 some (t4_3,s)) (oh (mp (aD 0 t2) s) fun t17 s =>oh (af false false 1 t17 s) fun t18 s =>oh (mp (aK Tryz.prog .eql 3 t18 (.int .i64 13)) s) fun t19 s =>oh (some (t19.aa,s)) fun t20 s =>oh (gd (wA t20 true) s (some (t1.aa,s))) fun t21 s =>oh (mp (bQ t20 t21 (.bool false)) s) fun t22 s =>oh (some (t22.aa,s)) fun t23 s =>oh (gd (wA t23 false) s (mp (aD 0 t2) s)) fun t24 s =>oh (gd (wA t23 false) s (af false false 1 t24 s)) fun t25 s =>oh (gd (wA t23 false) s (mp (aK Tryz.prog .eql 3 t25 (.int .i64 44)) s)) fun t26 s =>oh (mp (bQ t23 (.bool true) t26) s) fun t27 s =>oh (some (t27,s)) fun t16 s =>
 br t16 (oh (some ((.int .i64 14),s)) fun t4_4 s =>
 some (t4_4,s)) (oh (mp (aD 0 t2) s) fun t29 s =>oh (af false false 1 t29 s) fun t30 s =>oh (mp (aK Tryz.prog .geq 3 t30 (.int .i64 3)) s) fun t31 s =>oh (some (t31.aa,s)) fun t32 s =>oh (gd (wA t32 true) s (mp (aD 0 t2) s)) fun t33 s =>oh (gd (wA t32 true) s (af false false 1 t33 s)) fun t34 s =>oh (gd (wA t32 true) s (mp (aK Tryz.prog .leq 3 t34 (.int .i64 9)) s)) fun t35 s =>oh (mp (bQ t32 t35 (.bool false)) s) fun t36 s =>oh (some (t36,s)) fun t28 s =>
 br t28 (oh (mp (aD 0 t2) s) fun t37 s =>oh (af false false 1 t37 s) fun t38 s =>oh (mp (aK Tryz.prog .sub 3 t38 (.int .i64 3)) s) fun t39 s =>oh (mp (aK Tryz.prog .add 3 t39 (.int .i64 2)) s) fun t40 s =>oh (some (t40,s)) fun t4_5 s =>
 some (t4_5,s)) (oh (mp (bn Tryz.prog 122 [(0,(.int .i64 11)),(1,(.int .i64 9))]) s) fun t41 s =>oh (mp (bn Tryz.prog 122 [(0,(.int .i64 13)),(1,(.int .i64 10))]) s) fun t42 s =>oh (mp (bn Tryz.prog 122 [(0,(.int .i64 14)),(1,(.int .i64 11))]) s) fun t43 s =>oh (mp (bn Tryz.prog 122 [(0,(.int .i64 15)),(1,(.int .i64 12))]) s) fun t44 s =>oh (mp (bn Tryz.prog 122 [(0,(.int .i64 16)),(1,(.int .i64 13))]) s) fun t45 s =>oh (mp (ak Tryz.prog 123 5 [(0,t41),(1,t42),(2,t43),(3,t44),(4,t45)]) s) fun t46 s =>oh (some (t46,s)) fun t5 s =>oh (some (t5.aa,s)) fun t47 s =>oh (mp (bN Tryz.prog 123 t47) s) fun t48 s =>oh (some ((.int .i64 0),s)) fun t49 s =>
 aJ (zI D n) n (bf (aH [t0,t1]) [(2,t2),(4,t4),(9,t9),(10,t10),(11,t11),(11,t11.aa),(8,t8),(13,t13),(14,t14),(15,t15),(15,t15.aa),(12,t12),(17,t17),(18,t18),(19,t19),(20,t20),(21,t21),(22,t22),(23,t23),(24,t24),(25,t25),(26,t26),(27,t27),(27,t27.aa),(16,t16),(29,t29),(30,t30),(31,t31),(32,t32),(33,t33),(34,t34),(35,t35),(36,t36),(36,t36.aa),(28,t28),(41,t41),(42,t42),(43,t43),(44,t44),(45,t45),(46,t46),(46,t46.aa),(5,t5),(47,t47),(48,t48),(49,t49)]) s))))
theorem UX (n:Nat)(t0 t1:AV)(s:ag):den C (n+1) 51 [t0,t1] s=F51 (den C n) n t0 t1 s :=
 (am rfl Tryz.func51 _ _).trans (by kernel_rfl)
theorem adn:ah Tryz.prog 51=true:=by kernel_rfl
-- symbols.declarationStart
noncomputable def F52 (D:a8)(n:Nat)(t0:AV)(s:ag):aU :=
 oh (cL false 58 t0 s) fun t1 s =>oh (some ((.int .i64 0),s)) fun t2 s =>oh (mp (aD 0 t1) s) fun t3 s =>oh (af false false 1 t3 s) fun t4 s =>oh (mp (aK Tryz.prog .eql 3 t4 (.int .i64 7)) s) fun t5 s =>
 br t5 (oh (mp (aD 3 t1) s) fun t6 s =>oh (af false false 1 t6 s) fun t7 s =>oh (some (t7,s)) fun t2_2 s =>
 some (t2_2,s)) (oh (mp (aD 5 t1) s) fun t8 s =>oh (af false false 1 t8 s) fun t9 s =>oh (some (t9,s)) fun t2_3 s =>
 some (t2_3,s))
theorem UY (n:Nat)(t0:AV)(s:ag):den C (n+1) 52 [t0] s=F52 (den C n) n t0 s :=
 (am rfl Tryz.func52 _ _).trans (by kernel_rfl)
theorem ado:ah Tryz.prog 52=true:=by kernel_rfl
-- symbols.IsContainer
noncomputable def F53 (D:a8)(n:Nat)(t0:AV)(s:ag):aU :=
 oh (some ((.bool false),s)) fun t2 s =>oh (some (t0.aa,s)) fun t3 s =>oh (mp (aK Tryz.prog .geq 3 t3 (.int .i64 2)) s) fun t4 s =>oh (some (t4.aa,s)) fun t5 s =>oh (gd (wA t5 true) s (some (t0.aa,s))) fun t6 s =>oh (gd (wA t5 true) s (mp (aK Tryz.prog .leq 3 t6 (.int .i64 8)) s)) fun t7 s =>oh (mp (bQ t5 t7 (.bool false)) s) fun t8 s =>oh (some (t8,s)) fun t2_2 s =>
 some (t2_2,s)
theorem UZ (n:Nat)(t0:AV)(s:ag):den C (n+1) 53 [t0] s=F53 (den C n) n t0 s :=
 (am rfl Tryz.func53 _ _).trans (by kernel_rfl)
theorem adp:ah Tryz.prog 53=true:=by kernel_rfl
-- (*symbols.collector).visit
noncomputable def zJ (D:a8)(n:Nat)(k0:Env→ag→aU)(e:Env)(s:ag):aU :=
 oh (mp (aK Tryz.prog .lss 3 (e 75) (e 74)) s) fun t76 s =>
 br t76 (oh (mp (aA Tryz.prog 50 (e 73) (e 75)) s) fun t77 s =>oh (af false true 7 t77 s) fun t78 s =>oh (bH Tryz.prog 58 s) fun t12 s =>oh (dZ (aB 7 s t12 t78)) fun _r s =>oh (some ((e 0).aa,s)) fun t79 s =>oh (af false true 7 t12 s) fun t80 s =>oh (some ((e 2).aa,s)) fun t81 s =>oh (some ((e 10).aa,s)) fun t82 s =>oh (ab Tryz.prog D 32 [t79.aa,t80.aa,t81.aa,t82.aa] s) fun t83 s =>oh (mp (aK Tryz.prog .add 3 (e 75) (.int .i64 1)) s) fun t84 s =>oh (some (t84.aa,s)) fun Z_ s =>
 k0 (bf e [(76,t76),(77,t77),(78,t78),(12,t12),(78,t78.aa),(79,t79),(80,t80),(81,t81),(82,t82),(83,t83),(84,t84),(75,Z_)]) s)
  (some (.aI [],s))
noncomputable def rY (D:a8)(n:Nat)(e:Env)(s:ag):aU :=
 oh (mp (aD 0 (e 5)) s) fun t56 s =>oh (af false false 1 t56 s) fun t57 s =>oh (mp (aK Tryz.prog .eql 3 t57 (.int .i64 12)) s) fun t58 s =>oh (some (t58.aa,s)) fun t59 s =>oh (gd (wA t59 true) s (some ((e 3).aa,s))) fun t60 s =>oh (mp (bQ t59 t60 (.bool false)) s) fun t61 s =>oh (some (t61.aa,s)) fun t62 s =>oh (gd (wA t62 false) s (mp (aD 0 (e 5)) s)) fun t63 s =>oh (gd (wA t62 false) s (af false false 1 t63 s)) fun t64 s =>oh (gd (wA t62 false) s (mp (aK Tryz.prog .eql 3 t64 (.int .i64 9)) s)) fun t65 s =>oh (mp (bQ t62 (.bool true) t65) s) fun t66 s =>oh (some (t66.aa,s)) fun t67 s =>oh (gd (wA t67 false) s (mp (aD 0 (e 5)) s)) fun t68 s =>oh (gd (wA t67 false) s (af false false 1 t68 s)) fun t69 s =>oh (gd (wA t67 false) s (mp (aK Tryz.prog .eql 3 t69 (.int .i64 38)) s)) fun t70 s =>oh (mp (bQ t67 (.bool true) t70) s) fun t71 s =>oh (some (t71,s)) fun t10 s =>oh (mp (aD 6 (e 5)) s) fun t72 s =>oh (af false false 1 t72 s) fun t73 s =>oh (mp (bN Tryz.prog 50 t73) s) fun t74 s =>oh (some ((.int .i64 0),s)) fun t75 s =>
 aJ (zJ D n) n (bf e [(56,t56),(57,t57),(58,t58),(59,t59),(60,t60),(61,t61),(62,t62),(63,t63),(64,t64),(65,t65),(66,t66),(67,t67),(68,t68),(69,t69),(70,t70),(71,t71),(71,t71.aa),(10,t10),(72,t72),(73,t73),(74,t74),(75,t75)]) s
noncomputable def F32 (D:a8)(n:Nat)(t0 t1 t2 t3:AV)(s:ag):aU :=
 oh (cL false 58 t1 s) fun t5 s =>oh (af false true 7 t5 s) fun t13 s =>oh (some (t3.aa,s)) fun t14 s =>oh (ab Tryz.prog D 51 [t13.aa,t14.aa] s) fun t15 s =>oh (some (t15,s)) fun t8 s =>oh (some (t8.aa,s)) fun t16 s =>oh (mp (aK Tryz.prog .neq 3 t16 (.int .i64 0)) s) fun t17 s =>
 br t17 (oh (mp (aD 0 t5) s) fun t18 s =>oh (af false false 1 t18 s) fun t19 s =>oh (mp (aK Tryz.prog .leq 3 t19 (.int .i64 9)) s) fun t20 s =>oh (some (t20.aa,s)) fun t21 s =>oh (gd (wA t21 true) s (mp (aD 1 t5) s)) fun t22 s =>oh (gd (wA t21 true) s (af false false 1 t22 s)) fun t23 s =>oh (gd (wA t21 true) s (mp (aK Tryz.prog .and 3 t23 (.int .i64 1)) s)) fun t24 s =>oh (gd (wA t21 true) s (mp (aK Tryz.prog .neq 3 t24 (.int .i64 0)) s)) fun t25 s =>oh (mp (bQ t21 t25 (.bool false)) s) fun t26 s =>oh (some (t26,s)) fun t9 s =>oh (some (t0.aa,s)) fun t27 s1 =>oh (some (t0.aa,s1)) fun t28 s2 =>oh (mp (au t28) s2) fun t29 s3 =>oh (mp (aD 1 t29) s3) fun t30 s4 =>oh (af false false 1 t30 s4) fun t31 s5 =>oh (some (t8.aa,s5)) fun t32 s6 =>oh (some (t0.aa,s6)) fun t33 s7 =>oh (mp (au t33) s7) fun t34 s8 =>oh (mp (aD 0 t34) s8) fun t35 s9 =>oh (af false false 1 t35 s9) fun t36 s10 =>oh (af false true 7 t5 s10) fun t37 s11 =>oh (ab Tryz.prog D 52 [t37.aa] s11) fun t38 s12 =>oh (some (t2.aa,s12)) fun t39 s13 =>oh (mp (aD 2 t5) s13) fun t40 s14 =>oh (af false false 1 t40 s14) fun t41 s15 =>oh (some (t9.aa,s15)) fun t42 s16 =>oh (mp (bn Tryz.prog 36 [(0,t32),(1,t36),(2,t38),(3,t39),(4,t41),(5,t42)]) s16) fun t43 s17 =>oh (mp (ak Tryz.prog 29 1 [(0,t43)]) s17) fun t44 s18 =>oh (bA Tryz.prog 29 29 t31 t44 s18) fun t45 s19 =>oh (mp (au t27) s19) fun t46 s20 =>oh (mp (aD 1 t46) s20) fun t47 s21 =>oh (dZ (aB 1 s21 t47 t45.aa)) fun _r s22 =>
 ba C 32 (bo Tryz.f32 4) [.ae,.ae,.ae,.ae,(bz false t30),.ae,.ae,.ae,.ae,(bz false t35),(bz false t5),(dyn (ee [t37.aa]) s11 s12),.ae,.ae,(bz false t40),.ae,.ae,.ae,(dyn (oS t31) s18 s19),.ae,.ae,(fQ t47)] <|
 oh (some (t8.aa,s22)) fun t48 s =>oh (ab Tryz.prog D 53 [t48.aa] s) fun t49 s =>
 br t49 (oh (some (t0.aa,s)) fun t50 s =>oh (mp (au t50) s) fun t51 s =>oh (mp (aD 1 t51) s) fun t52 s =>oh (af false false 1 t52 s) fun t53 s =>oh (mp (bN Tryz.prog 29 t53) s) fun t54 s =>oh (mp (aK Tryz.prog .sub 3 t54 (.int .i64 1)) s) fun t55 s =>oh (some (t55,s)) fun t2_2 s =>
 rY D n (bf (aH [t0,t1,t2,t3]) [(5,t5),(13,t13),(14,t14),(15,t15),(15,t15.aa),(8,t8),(16,t16),(17,t17),(18,t18),(19,t19),(20,t20),(21,t21),(22,t22),(23,t23),(24,t24),(25,t25),(26,t26),(26,t26.aa),(9,t9),(27,t27),(28,t28),(29,t29),(30,t30),(31,t31),(32,t32),(33,t33),(34,t34),(35,t35),(36,t36),(37,t37),(38,t38),(39,t39),(40,t40),(41,t41),(42,t42),(43,t43),(44,t44),(31,t31.aa),(45,t45),(46,t46),(47,t47),(48,t48),(49,t49),(50,t50),(51,t51),(52,t52),(53,t53),(54,t54),(55,t55),(55,t55.aa),(2,t2_2)]) s)
  (rY D n (bf (aH [t0,t1,t2,t3]) [(5,t5),(13,t13),(14,t14),(15,t15),(15,t15.aa),(8,t8),(16,t16),(17,t17),(18,t18),(19,t19),(20,t20),(21,t21),(22,t22),(23,t23),(24,t24),(25,t25),(26,t26),(26,t26.aa),(9,t9),(27,t27),(28,t28),(29,t29),(30,t30),(31,t31),(32,t32),(33,t33),(34,t34),(35,t35),(36,t36),(37,t37),(38,t38),(39,t39),(40,t40),(41,t41),(42,t42),(43,t43),(44,t44),(31,t31.aa),(45,t45),(46,t46),(47,t47),(48,t48),(49,t49)]) s))
  (rY D n (bf (aH [t0,t1,t2,t3]) [(5,t5),(13,t13),(14,t14),(15,t15),(15,t15.aa),(8,t8),(16,t16),(17,t17)]) s)
theorem U0 (n:Nat)(t0 t1 t2 t3:AV)(s:ag):den C (n+1) 32 [t0,t1,t2,t3] s=F32 (den C n) n t0 t1 t2 t3 s :=
 (am rfl Tryz.func32 _ _).trans (by kernel_rfl)
theorem RH {g0 g1:Nat}{q0:Option Nat}(a:Nat)(x:aU):ba C 32 (bo Tryz.f32 4) [.ae,.ae,.ae,.ae,.get g0,.ae,.ae,.ae,.ae,.get g1,.ae,.ae,.ae,.ae,.ae,.ae,.ae,.ae,.app q0,.ae,.ae,.put a] x=x:=dU (a:=a) (b:=a+1) (ks0:=[.ae,.ae,.ae,.ae,.cU,.ae,.ae,.ae,.ae,.cU,.ae,.ae,.ae,.ae,.ae,.ae,.ae,.ae,.bX,.ae,.ae,.put 0]) (by omega) (by kernel_rfl) rfl
theorem adq:ah Tryz.prog 32=true:=by kernel_rfl
-- symbols.List
noncomputable def rZ (D:a8)(n:Nat)(k0:Env→ag→aU)(e:Env)(s:ag):aU :=
 oh (mp (aK Tryz.prog .lss 3 (e 32) (e 31)) s) fun t33 s =>
 br t33 (oh (some ((e 32).aa,s)) fun t34 s =>oh (mp (aA Tryz.prog 50 (e 30) (e 32)) s) fun t35 s =>oh (af false true 7 t35 s) fun t36 s =>oh (bH Tryz.prog 58 s) fun t9 s =>oh (some (t34,s)) fun t8 s =>oh (dZ (aB 7 s t9 t36)) fun _r s =>oh (some ((e 5).aa,s)) fun t37 s =>oh (some (t8.aa,s)) fun t38 s =>oh (mp (au t37) s) fun t39 s =>oh (mp (aD 0 t39) s) fun t40 s =>oh (dZ (aB 1 s t40 t38)) fun _r s =>oh (some ((e 5).aa,s)) fun t41 s1 =>oh (some ((e 5).aa,s1)) fun t42 s2 =>oh (mp (au t42) s2) fun t43 s3 =>oh (mp (aD 1 t43) s3) fun t44 s4 =>oh (af false false 1 t44 s4) fun t45 s5 =>oh (some (t8.aa,s5)) fun t46 s6 =>oh (some ((e 0).aa,s6)) fun t47 s7 =>oh (some (t8.aa,s7)) fun t48 s8 =>oh (mp (aA Tryz.prog 22 t47 t48) s8) fun t49 s9 =>oh (mp (aD 0 t49) s9) fun t50 s10 =>oh (af false false 1 t50 s10) fun t51 s11 =>oh (mp (bn Tryz.prog 36 [(0,(.int .i64 1)),(1,t46),(2,(.int .i64 (-1))),(3,(.int .i64 (-1))),(4,t51),(5,(.bool true))]) s11) fun t52 s12 =>oh (mp (ak Tryz.prog 29 1 [(0,t52)]) s12) fun t53 s13 =>oh (bA Tryz.prog 29 29 t45 t53 s13) fun t54 s14 =>oh (mp (au t41) s14) fun t55 s15 =>oh (mp (aD 1 t55) s15) fun t56 s16 =>oh (dZ (aB 1 s16 t56 t54.aa)) fun _r s17 =>
 ba C 24 (bo Tryz.f24 11) [.ae,.ae,.ae,.ae,(bz false t44),.ae,.ae,.ae,.ae,.ae,(bz false t50),.ae,.ae,(dyn (oS t45) s13 s14),.ae,.ae,(fQ t56)] <|
 oh (some ((e 5).aa,s17)) fun t57 s18 =>oh (af false true 7 t9 s18) fun t58 s19 =>oh (some ((e 5).aa,s19)) fun t59 s20 =>oh (mp (au t59) s20) fun t60 s21 =>oh (mp (aD 1 t60) s21) fun t61 s22 =>oh (af false false 1 t61 s22) fun t62 s23 =>oh (mp (bN Tryz.prog 29 t62) s23) fun t63 s24 =>oh (mp (aK Tryz.prog .sub 3 t63 (.int .i64 1)) s24) fun t64 s25 =>oh (ab Tryz.prog D 32 [t57.aa,t58.aa,t64.aa,(.bool false)] s25) fun t65 s26 =>
 ba C 24 (bo Tryz.f24 12) [.ae,(bz false t9),.ae,.ae,.ae,(bz false t61),.ae,.ae,(dyn (ee [t57.aa,t58.aa,t64.aa,(.bool false)]) s25 s26)] <|
 oh (mp (aK Tryz.prog .add 3 (e 32) (.int .i64 1)) s26) fun t66 s =>oh (some (t66.aa,s)) fun Z' s =>
 k0 (bf e [(33,t33),(34,t34),(35,t35),(36,t36),(9,t9),(34,t34.aa),(8,t8),(36,t36.aa),(37,t37),(38,t38),(39,t39),(40,t40),(38,t38.aa),(41,t41),(42,t42),(43,t43),(44,t44),(45,t45),(46,t46),(47,t47),(48,t48),(49,t49),(50,t50),(51,t51),(52,t52),(53,t53),(45,t45.aa),(54,t54),(55,t55),(56,t56),(57,t57),(58,t58),(59,t59),(60,t60),(61,t61),(62,t62),(63,t63),(64,t64),(65,t65),(66,t66),(32,Z')]) s) (oh (some ((e 5).aa,s)) fun t67 s =>oh (mp (au t67) s) fun t68 s =>oh (mp (aD 1 t68) s) fun t69 s =>oh (wD (af false false 1 t69 s)) fun t70 s =>oh (some (t70,s)) fun t4_2 s =>
 some (t4_2,s))
noncomputable def vR (D:a8)(n:Nat)(k0:Env→ag→aU)(e:Env)(s:ag):aU :=
 oh (mp (aK Tryz.prog .lss 3 (e 14) (e 13)) s) fun t15 s =>
 br t15 (oh (mp (aA Tryz.prog 75 (e 12) (e 14)) s) fun t16 s =>oh (af false false 1 t16 s) fun t17 s =>oh (some (t17,s)) fun t7 s =>oh (some ((e 5).aa,s)) fun t18 s =>oh (some ((e 5).aa,s)) fun t19 s =>oh (mp (au t19) s) fun t20 s =>oh (mp (aD 1 t20) s) fun t21 s =>oh (af false false 1 t21 s) fun t22 s =>oh (some (t7.aa,s)) fun t23 s =>oh (mp (bn Tryz.prog 36 [(0,(.int .i64 15)),(1,(.int .i64 (-1))),(2,(.int .i64 (-1))),(3,(.int .i64 (-1))),(4,t23)]) s) fun t24 s =>oh (mp (ak Tryz.prog 29 1 [(0,t24)]) s) fun t25 s =>oh (bA Tryz.prog 29 29 t22 t25 s) fun t26 s =>oh (mp (au t18) s) fun t27 s =>oh (mp (aD 1 t27) s) fun t28 s =>oh (dZ (aB 1 s t28 t26.aa)) fun _r s =>oh (mp (aK Tryz.prog .add 3 (e 14) (.int .i64 1)) s) fun t29 s =>oh (some (t29.aa,s)) fun aaa s =>
 k0 (bf e [(15,t15),(16,t16),(17,t17),(17,t17.aa),(7,t7),(18,t18),(19,t19),(20,t20),(21,t21),(22,t22),(23,t23),(24,t24),(25,t25),(22,t22.aa),(26,t26),(27,t27),(28,t28),(29,t29),(14,aaa)]) s) (oh (some ((e 1).aa,s)) fun t30 s =>oh (mp (bN Tryz.prog 50 t30) s) fun t31 s =>oh (some ((.int .i64 0),s)) fun t32 s =>
 aJ (rZ D n) n (bf e [(15,t15),(30,t30),(31,t31),(32,t32)]) s)
noncomputable def F24 (D:a8)(n:Nat)(t0 t1:AV)(s:ag):aU :=
 oh (some (.aN,s)) fun t4 s =>oh (mp (bn Tryz.prog 74 []) s) fun t10 s =>oh (cL true 74 t10 s) fun t11 s =>oh (some (t11,s)) fun t5 s =>oh (mp (ak Tryz.prog 75 4 [(0,(.str [105,110,116])),(1,(.str [98,111,111,108])),(2,(.str [115,116,114,105,110,103])),(3,(.str [83,101,108,102]))]) s) fun t12 s =>oh (mp (bN Tryz.prog 75 t12) s) fun t13 s =>oh (some ((.int .i64 0),s)) fun t14 s =>
 aJ (vR D n) n (bf (aH [t0,t1]) [(4,t4),(10,t10),(11,t11),(11,t11.aa),(5,t5),(12,t12),(13,t13),(14,t14)]) s
theorem U1 (n:Nat)(t0 t1:AV)(s:ag):den C (n+1) 24 [t0,t1] s=F24 (den C n) n t0 t1 s :=
 (am rfl Tryz.func24 _ _).trans (by kernel_rfl)
theorem K8 {g0:Nat}{q0:Option Nat}(a:Nat)(x:aU):ba C 24 (bo Tryz.f24 11) [.ae,.ae,.ae,.ae,.get g0,.ae,.ae,.ae,.ae,.ae,.ae,.ae,.ae,.app q0,.ae,.ae,.put a] x=x:=dU (a:=a) (b:=a+1) (ks0:=[.ae,.ae,.ae,.ae,.cU,.ae,.ae,.ae,.ae,.ae,.ae,.ae,.ae,.bX,.ae,.ae,.put 0]) (by omega) (by kernel_rfl) rfl
theorem U2 {g0 g1:Nat}{l0:List Nat}(x:aU):ba C 24 (bo Tryz.f24 12) [.ae,.get g0,.ae,.ae,.ae,.get g1,.ae,.ae,.call l0] x=x:=bT (by kernel_rfl)
theorem adr:ah Tryz.prog 24=true:=by kernel_rfl
-- symbols.findNode
-- slices.IndexFunc   api.Module,api.Module
noncomputable def K9 (D:a8)(n:Nat)(k0:Env→ag→aU)(e:Env)(s:ag):aU :=
 oh (mp (aK Tryz.prog .lss 3 (e 8) (e 7)) s) fun t9 s =>
 br t9 (oh (some ((e 8).aa,s)) fun t10 s =>oh (some (t10,s)) fun t5 s =>oh (some ((e 1).aa,s)) fun t11 s =>oh (some ((e 0).aa,s)) fun t12 s =>oh (some (t5.aa,s)) fun t13 s =>oh (mp (aA Tryz.prog 22 t12 t13) s) fun t14 s =>oh (af false true 2 t14 s) fun t15 s =>oh (fP Tryz.prog D t11 [t15] s) fun t16 s =>
 br t16 (oh (some (t5.aa,s)) fun t17 s =>oh (some (t17,s)) fun t4_2 s =>
 some (t4_2,s)) (oh (mp (aK Tryz.prog .add 3 (e 8) (.int .i64 1)) s) fun t18 s =>oh (some (t18.aa,s)) fun t8_2 s =>
 k0 (bf e [(9,t9),(10,t10),(10,t10.aa),(5,t5),(11,t11),(12,t12),(13,t13),(14,t14),(15,t15),(16,t16),(18,t18),(8,t8_2)]) s)) (oh (some ((.int .i64 (-1)),s)) fun t4_3 s =>
 some (t4_3,s))
noncomputable def F60 (D:a8)(n:Nat)(t0 t1:AV)(s:ag):aU :=
 oh (some ((.int .i64 0),s)) fun t4 s =>oh (some (t0.aa,s)) fun t6 s =>oh (mp (bN Tryz.prog 22 t6) s) fun t7 s =>oh (some ((.int .i64 0),s)) fun t8 s =>
 aJ (K9 D n) n (bf (aH [t0,t1]) [(4,t4),(6,t6),(7,t7),(8,t8)]) s
theorem U3 (n:Nat)(t0 t1:AV)(s:ag):den C (n+1) 60 [t0,t1] s=F60 (den C n) n t0 t1 s :=
 (am rfl Tryz.func60 _ _).trans (by kernel_rfl)
theorem ads:ah Tryz.prog 60=true:=by kernel_rfl
-- workspace.IndexOf 1
noncomputable def F62 (D:a8)(n:Nat)(t0 t1:AV)(s:ag):aU :=
 oh (cL false 27 t0 s) fun t2 s =>oh (some ((.bool false),s)) fun t3 s =>oh (mp (aD 0 t2) s) fun t4 s =>oh (af false false 1 t4 s) fun t5 s =>oh (af false false 1 t1 s) fun t6 s =>oh (mp (aK Tryz.prog .eql 9 t5 t6) s) fun t7 s =>oh (some (t7,s)) fun lT s =>
 some (lT,s)
theorem U4 (n:Nat)(t0 t1:AV)(s:ag):den C (n+1) 62 [t0,t1] s=F62 (den C n) n t0 t1 s :=
 (am rfl Tryz.func62 _ _).trans (by kernel_rfl)
theorem adt:ah Tryz.prog 62=true:=by kernel_rfl
-- workspace.IndexOf
noncomputable def F45 (D:a8)(n:Nat)(t0 t1:AV)(s:ag):aU :=
 oh (cL false 9 t1 s) fun t3 s =>oh (some ((.int .i64 0),s)) fun t4 s =>oh (some (t0.aa,s)) fun t5 s =>oh (some ((.fn 62 [] [t3]),s)) fun t6 s =>oh (ab Tryz.prog D 60 [t5.aa,t6.aa] s) fun t7 s =>oh (some (t7,s)) fun t4_2 s =>
 some (t4_2,s)
theorem U5 (n:Nat)(t0 t1:AV)(s:ag):den C (n+1) 45 [t0,t1] s=F45 (den C n) n t0 t1 s :=
 (am rfl Tryz.func45 _ _).trans (by kernel_rfl)
theorem adu:ah Tryz.prog 45=true:=by kernel_rfl
-- slices.ContainsFunc   api.Module,api.Module
noncomputable def F41 (D:a8)(n:Nat)(t0 t1:AV)(s:ag):aU :=
 oh (some ((.bool false),s)) fun t4 s =>oh (some (t0.aa,s)) fun t5 s =>oh (some (t1.aa,s)) fun t6 s =>oh (ab Tryz.prog D 60 [t5.aa,t6.aa] s) fun t7 s =>oh (mp (aK Tryz.prog .geq 3 t7 (.int .i64 0)) s) fun t8 s =>oh (some (t8,s)) fun t4_2 s =>
 some (t4_2,s)
theorem U6 (n:Nat)(t0 t1:AV)(s:ag):den C (n+1) 41 [t0,t1] s=F41 (den C n) n t0 t1 s :=
 (am rfl Tryz.func41 _ _).trans (by kernel_rfl)
theorem adv:ah Tryz.prog 41=true:=by kernel_rfl
-- workspace.Validate 1
noncomputable def F42 (D:a8)(n:Nat)(t0:AV)(s:ag):aU :=
 oh (cL false 27 t0 s) fun t1 s =>oh (some ((.bool false),s)) fun t2 s =>oh (mp (aD 1 t1) s) fun t3 s =>oh (af false false 1 t3 s) fun t4 s =>oh (mp (bN Tryz.prog 9 t4) s) fun t5 s =>oh (mp (aK Tryz.prog .gtr 3 t5 (.int .i64 2000)) s) fun t6 s =>oh (some (t6,s)) fun t2_2 s =>
 some (t2_2,s)
theorem U7 (n:Nat)(t0:AV)(s:ag):den C (n+1) 42 [t0] s=F42 (den C n) n t0 s :=
 (am rfl Tryz.func42 _ _).trans (by kernel_rfl)
theorem adw:ah Tryz.prog 42=true:=by kernel_rfl
-- workspace.Validate 2
noncomputable def F43 (D:a8)(n:Nat)(t0:AV)(s:ag):aU :=
 oh (cL false 27 t0 s) fun t1 s =>oh (some ((.bool false),s)) fun t2 s =>oh (mp (aD 0 t1) s) fun t3 s =>oh (af false false 1 t3 s) fun t4 s =>oh (ab Tryz.prog D 44 [t4.aa] s) fun t5 s =>oh (mp (pF .not t5) s) fun t6 s =>oh (some (t6,s)) fun t2_2 s =>
 some (t2_2,s)
theorem U8 (n:Nat)(t0:AV)(s:ag):den C (n+1) 43 [t0] s=F43 (den C n) n t0 s :=
 (am rfl Tryz.func43 _ _).trans (by kernel_rfl)
theorem adx:ah Tryz.prog 43=true:=by kernel_rfl
-- lexer.IsIdentifier
noncomputable def F44 (D:a8)(n:Nat)(t0:AV)(s:ag):aU :=
 oh (some ((.bool false),s)) fun t2 s =>oh (some (t0.aa,s)) fun t5 s =>oh (mp (bN Tryz.prog 9 t5) s) fun t6 s =>oh (mp (aK Tryz.prog .eql 3 t6 (.int .i64 0)) s) fun t7 s =>oh (some (t7.aa,s)) fun t8 s =>oh (gd (wA t8 false) s (some (t0.aa,s))) fun t9 s =>oh (gd (wA t8 false) s (mp (bN Tryz.prog 9 t9) s)) fun t10 s =>oh (gd (wA t8 false) s (mp (aK Tryz.prog .gtr 3 t10 (.int .i64 30)) s)) fun t11 s =>oh (mp (bQ t8 (.bool true) t11) s) fun t12 s =>
 br t12 (oh (some ((.bool false),s)) fun t2_2 s =>
 some (t2_2,s)) (oh (some (t0.aa,s)) fun t14 s =>oh (ab Tryz.prog D 61 [t14.aa] s) fun t15 s =>oh (some (t15.aa,s)) fun t13 s =>oh (mp (bW 0 t13) s) fun t16 s =>oh (mp (bW 1 t13) s) fun t17 s =>oh (some (t16,s)) fun t3 s =>oh (some (t17,s)) fun t4 s =>oh (some (t3.aa,s)) fun t18 s =>oh (some (t0.aa,s)) fun t19 s =>oh (mp (bN Tryz.prog 9 t19) s) fun t20 s =>oh (mp (aK Tryz.prog .eql 3 t18 t20) s) fun t21 s =>oh (some (t21.aa,s)) fun t22 s =>oh (gd (wA t22 true) s (some (t4.aa,s))) fun t23 s =>oh (gd (wA t22 true) s (mp (aK Tryz.prog .eql 3 t23 (.int .i64 103)) s)) fun t24 s =>oh (mp (bQ t22 t24 (.bool false)) s) fun t25 s =>oh (some (t25,s)) fun t2_3 s =>
 some (t2_3,s))
theorem DJ (n:Nat)(t0:AV)(s:ag):den C (n+1) 44 [t0] s=F44 (den C n) n t0 s :=
 (am rfl Tryz.func44 _ _).trans (by kernel_rfl)
theorem U9:ah Tryz.prog 44=true:=by kernel_rfl
-- workspace.Validate
noncomputable def zK (D:a8)(n:Nat)(k0:Env→ag→aU)(e:Env)(s:ag):aU :=
 oh (mp (aK Tryz.prog .lss 3 (e 16) (e 15)) s) fun t17 s =>
 br t17 (oh (some ((e 16).aa,s)) fun t18 s =>oh (mp (aA Tryz.prog 22 (e 14) (e 16)) s) fun t19 s =>oh (af false true 2 t19 s) fun t20 s =>oh (bH Tryz.prog 27 s) fun t4 s =>oh (some (t18,s)) fun t3 s =>oh (dZ (aB 2 s t4 t20)) fun _r s =>oh (some ((e 0).aa,s)) fun t21 s1 =>oh (some (t3.aa,s1)) fun t22 s2 =>oh (mp (mL Tryz.prog 22 t21 none (some t22) none) s2) fun t23 s3 =>oh (mp (aD 0 t4) s3) fun t24 s4 =>oh (af false false 1 t24 s4) fun t25 s5 =>oh (ab Tryz.prog D 45 [t23.aa,t25.aa] s5) fun t26 s6 =>oh (mp (aK Tryz.prog .geq 3 t26 (.int .i64 0)) s6) fun t27 s7 =>
 ba C 30 (bo Tryz.f30 8) [.ae,.ae,.ae,.ae,(bz false t24),(dyn (ee [t23.aa,t25.aa]) s5 s6),.ae] <|
 br t27 (oh (some ((.int .i64 6),s7)) fun I8 s =>
 some (I8,s)) (oh (mp (aK Tryz.prog .add 3 (e 16) (.int .i64 1)) s7) fun t28 s =>oh (some (t28.aa,s)) fun aab s =>
 k0 (bf e [(17,t17),(18,t18),(19,t19),(20,t20),(4,t4),(18,t18.aa),(3,t3),(20,t20.aa),(21,t21),(22,t22),(23,t23),(24,t24),(25,t25),(26,t26),(27,t27),(28,t28),(16,aab)]) s)) (oh (some ((.int .i64 0),s)) fun I7 s =>
 some (I7,s))
noncomputable def F30 (D:a8)(n:Nat)(t0:AV)(s:ag):aU :=
 oh (some ((.int .i64 0),s)) fun t2 s =>oh (some (t0.aa,s)) fun t5 s =>oh (mp (bN Tryz.prog 22 t5) s) fun t6 s =>oh (mp (aK Tryz.prog .gtr 3 t6 (.int .i64 8)) s) fun t7 s =>oh (some (t7.aa,s)) fun t8 s =>oh (gd (wA t8 false) s (some (t0.aa,s))) fun t9 s =>oh (gd (wA t8 false) s (ab Tryz.prog D 41 [t9.aa,(.fn 42 [] [])] s)) fun t10 s =>oh (mp (bQ t8 (.bool true) t10) s) fun t11 s =>
 br t11 (oh (some ((.int .i64 2),s)) fun t2_2 s =>
 some (t2_2,s)) (oh (some (t0.aa,s)) fun t12 s =>oh (ab Tryz.prog D 41 [t12.aa,(.fn 43 [] [])] s) fun t13 s =>
 br t13 (oh (some ((.int .i64 3),s)) fun t2_3 s =>
 some (t2_3,s)) (oh (some (t0.aa,s)) fun t14 s =>oh (mp (bN Tryz.prog 22 t14) s) fun t15 s =>oh (some ((.int .i64 0),s)) fun t16 s =>
 aJ (zK D n) n (bf (aH [t0]) [(2,t2),(5,t5),(6,t6),(7,t7),(8,t8),(9,t9),(10,t10),(11,t11),(12,t12),(13,t13),(14,t14),(15,t15),(16,t16)]) s))
theorem U_ (n:Nat)(t0:AV)(s:ag):den C (n+1) 30 [t0] s=F30 (den C n) n t0 s :=
 (am rfl Tryz.func30 _ _).trans (by kernel_rfl)
theorem RI {g0:Nat}(x:aU):ba C 30 (bo Tryz.f30 8) [.ae,.ae,.ae,.ae,.get g0,.ae,.ae] x=x:=bT (by kernel_rfl)
theorem ady:ah Tryz.prog 30=true:=by kernel_rfl
-- workspace.ParseAll
noncomputable def pt (D:a8)(n:Nat)(k0:Env→ag→aU)(k1:Env→ag→aU)(e:Env)(s:ag):aU :=
 oh (mp (aK Tryz.prog .lss 3 (e 40) (e 39)) s) fun t41 s =>
 br t41 (oh (mp (aA Tryz.prog 51 (e 38) (e 40)) s) fun t42 s =>oh (af false true 5 t42 s) fun t43 s =>oh (bH Tryz.prog 71 s) fun t14 s =>oh (dZ (aB 5 s t14 t43)) fun _r s =>oh (some ((e 8).aa,s)) fun t44 s =>oh (mp (aD 1 t14) s) fun t45 s =>oh (dZ (aB 1 s t45 t44)) fun _r s =>oh (some ((e 7),s)) fun t46 s =>oh (af false true 5 t14 s) fun t47 s =>oh (mp (ak Tryz.prog 51 1 [(0,t47)]) s) fun t48 s =>oh (mp (eB Tryz.prog 51 51 t46 t48) s) fun t49 s =>oh (some (t49,s)) fun adz s =>oh (mp (aK Tryz.prog .add 3 (e 40) (.int .i64 1)) s) fun t50 s =>oh (some (t50.aa,s)) fun Kf s =>
 k1 (bf e [(41,t41),(42,t42),(43,t43),(14,t14),(43,t43.aa),(44,t44),(45,t45),(44,t44.aa),(7,(e 7).aa),(46,t46),(47,t47),(48,t48),(46,t46.aa),(49,t49),(49,t49.aa),(7,adz),(50,t50),(40,Kf)]) s) (oh (mp (aK Tryz.prog .add 3 (e 22) (.int .i64 1)) s) fun t51 s =>oh (some (t51.aa,s)) fun aac s =>
 k0 (bf e [(41,t41),(51,t51),(22,aac)]) s)
noncomputable def pu (D:a8)(n:Nat)(k0:Env→ag→aU)(e:Env)(s:ag):aU :=
 oh (mp (aK Tryz.prog .lss 3 (e 22) (e 21)) s) fun t23 s =>
 br t23 (oh (some ((e 22).aa,s)) fun t24 s =>oh (mp (aA Tryz.prog 22 (e 20) (e 22)) s) fun t25 s =>oh (af false true 2 t25 s) fun t26 s =>oh (bH Tryz.prog 27 s) fun t9 s =>oh (some (t24,s)) fun t8 s =>oh (dZ (aB 2 s t9 t26)) fun _r s =>oh (mp (aD 1 t9) s) fun t28 s =>oh (af false false 1 t28 s) fun t29 s =>oh (ab Tryz.prog D 31 [t29.aa] s) fun t30 s =>oh (some (t30.aa,s)) fun t27 s =>oh (mp (bW 0 t27) s) fun t31 s =>oh (mp (bW 1 t27) s) fun t32 s =>oh (mp (bW 2 t27) s) fun t33 s =>oh (bH Tryz.prog 58 s) fun t10 s =>oh (dZ (aB 7 s t10 t31)) fun _r s =>oh (some (t32,s)) fun t11 s =>oh (some (t33,s)) fun t12 s =>oh (some ((e 6),s)) fun t34 s =>oh (af false true 7 t10 s) fun t35 s =>oh (mp (ak Tryz.prog 50 1 [(0,t35)]) s) fun t36 s =>oh (mp (eB Tryz.prog 50 50 t34 t36) s) fun t37 s =>oh (some (t37,s)) fun rM s =>oh (some (t11.aa,s)) fun t38 s =>oh (mp (bN Tryz.prog 51 t38) s) fun t39 s =>oh (some ((.int .i64 0),s)) fun t40 s =>
 aJ (pt D n k0) n (bf e [(23,t23),(24,t24),(25,t25),(26,t26),(9,t9),(24,t24.aa),(8,t8),(26,t26.aa),(28,t28),(29,t29),(30,t30),(27,t27),(31,t31),(32,t32),(33,t33),(10,t10),(31,t31.aa),(32,t32.aa),(11,t11),(33,t33.aa),(12,t12),(6,(e 6).aa),(34,t34),(35,t35),(36,t36),(34,t34.aa),(37,t37),(37,t37.aa),(6,rM),(38,t38),(39,t39),(40,t40)]) s) (oh (some ((e 6).aa,s)) fun t52 s =>oh (some ((e 7).aa,s)) fun t53 s =>oh (some (t52,s)) fun t2_3 s =>oh (some (t53,s)) fun ru s =>oh (some ((.int .i64 0),s)) fun t4_3 s =>
 some (.aI [t2_3,ru,t4_3],s))
noncomputable def F23 (D:a8)(n:Nat)(t0:AV)(s:ag):aU :=
 oh (some (.aN,s)) fun t2 s =>oh (some (.aN,s)) fun t3 s =>oh (some ((.int .i64 0),s)) fun t4 s =>oh (some (t0.aa,s)) fun t15 s =>oh (ab Tryz.prog D 30 [t15.aa] s) fun t16 s =>oh (some (t16,s)) fun t5 s =>oh (some (t5.aa,s)) fun t17 s =>oh (mp (aK Tryz.prog .neq 30 t17 (.int .i64 0)) s) fun t18 s =>
 br t18 (oh (some (t5.aa,s)) fun t19 s =>oh (some (.aN,s)) fun t2_2 s =>oh (some (.aN,s)) fun lT s =>oh (some (t19,s)) fun t4_2 s =>
 some (.aI [t2_2,lT,t4_2],s)) (oh (some (.aN,s)) fun t6 s =>oh (some (.aN,s)) fun t7 s =>oh (some (t0.aa,s)) fun t20 s =>oh (mp (bN Tryz.prog 22 t20) s) fun t21 s =>oh (some ((.int .i64 0),s)) fun t22 s =>
 aJ (pu D n) n (bf (aH [t0]) [(2,t2),(3,t3),(4,t4),(15,t15),(16,t16),(16,t16.aa),(5,t5),(17,t17),(18,t18),(6,t6),(7,t7),(20,t20),(21,t21),(22,t22)]) s)
theorem K_ (n:Nat)(t0:AV)(s:ag):den C (n+1) 23 [t0] s=F23 (den C n) n t0 s :=
 (am rfl Tryz.func23 _ _).trans (by kernel_rfl)
theorem aad:ah Tryz.prog 23=true:=by kernel_rfl
-- symbols.Collect
noncomputable def F13 (D:a8)(n:Nat)(t0:AV)(s:ag):aU :=
 oh (some (.aN,s)) fun t2 s =>oh (some ((.int .i64 0),s)) fun t3 s =>oh (some (t0.aa,s)) fun t8 s =>oh (ab Tryz.prog D 23 [t8.aa] s) fun t9 s =>oh (some (t9.aa,s)) fun t7 s =>oh (mp (bW 0 t7) s) fun t10 s =>oh (mp (bW 1 t7) s) fun t11 s =>oh (mp (bW 2 t7) s) fun t12 s =>oh (some (t10,s)) fun t4 s =>oh (some (t11,s)) fun t5 s =>oh (some (t12,s)) fun t6 s =>oh (some (t6.aa,s)) fun t13 s =>oh (mp (aK Tryz.prog .neq 30 t13 (.int .i64 0)) s) fun t14 s =>
 br t14 (oh (some (t6.aa,s)) fun t15 s =>oh (some (.aN,s)) fun t2_2 s =>oh (some (t15,s)) fun lT s =>
 some (.aI [t2_2,lT],s)) (oh (some (t0.aa,s)) fun t16 s =>oh (some (t4.aa,s)) fun t17 s =>oh (ab Tryz.prog D 24 [t16.aa,t17.aa] s) fun t18 s =>oh (some (t18,s)) fun t2_3 s =>oh (some ((.int .i64 0),s)) fun ru s =>
 some (.aI [t2_3,ru],s))
theorem La (n:Nat)(t0:AV)(s:ag):den C (n+1) 13 [t0] s=F13 (den C n) n t0 s :=
 (am rfl Tryz.func13 _ _).trans (by kernel_rfl)
theorem aae:ah Tryz.prog 13=true:=by kernel_rfl
-- symbols.NodeOf
-- symbols.RangeOf
-- slices.IndexFunc   api.Symbol,api.Symbol
-- symbols.FindAt 1
-- symbols.FindAt
-- glossatorkeep1.few
noncomputable def Fu (D:a8)(n:Nat)(k0:Env→ag→aU)(e:Env)(s:ag):aU :=
 oh (mp (aK Tryz.prog .lss 3 (e 12) (e 11)) s) fun t13 s =>
 br t13 (oh (mp (aA Tryz.prog 22 (e 10) (e 12)) s) fun t14 s =>oh (af false true 2 t14 s) fun t15 s =>oh (bH Tryz.prog 27 s) fun t5 s =>oh (dZ (aB 2 s t5 t15)) fun _r s =>oh (some ((e 3),s)) fun t16 s1 =>oh (mp (aD 0 t5) s1) fun t17 s2 =>oh (af false false 1 t17 s2) fun t18 s3 =>oh (mp (aD 1 t5) s3) fun t19 s4 =>oh (af false false 1 t19 s4) fun t20 s5 =>oh (ab Tryz.prog D 12 [t20.aa,(.int .i64 250)] s5) fun t21 s6 =>oh (mp (bn Tryz.prog 27 [(0,t18),(1,t21)]) s6) fun t22 s7 =>oh (mp (ak Tryz.prog 22 1 [(0,t22)]) s7) fun t23 s8 =>oh (mp (eB Tryz.prog 22 22 t16 t23) s8) fun t24 s9 =>oh (some (t24,s9)) fun lT s10 =>
 ba C 9 (bo Tryz.f9 5) [.ae,.ae,(bz false t17),.ae,(bz false t19),(dyn (ee [t20.aa,(.int .i64 250)]) s5 s6),.ae,.ae,.ae,.ae] <|
 oh (mp (aK Tryz.prog .add 3 (e 12) (.int .i64 1)) s10) fun t25 s =>oh (some (t25.aa,s)) fun aaf s =>
 k0 (bf e [(13,t13),(14,t14),(15,t15),(5,t5),(15,t15.aa),(3,(e 3).aa),(16,t16),(17,t17),(18,t18),(19,t19),(20,t20),(21,t21),(22,t22),(23,t23),(16,t16.aa),(24,t24),(24,t24.aa),(3,lT),(25,t25),(12,aaf)]) s) (oh (some ((e 3).aa,s)) fun t26 s =>oh (some (t26,s)) fun t2_2 s =>
 some (t2_2,s))
noncomputable def F9 (D:a8)(n:Nat)(t0:AV)(s:ag):aU :=
 oh (some (.aN,s)) fun t2 s =>oh (some (.aN,s)) fun t3 s =>oh (some (t0.aa,s)) fun t6 s =>oh (some (t0.aa,s)) fun t7 s =>oh (mp (bN Tryz.prog 22 t7) s) fun t8 s =>oh (mp (Ag t8 (.int .i64 3)) s) fun t9 s =>oh (mp (mL Tryz.prog 22 t6 none (some t9) none) s) fun t10 s =>oh (mp (bN Tryz.prog 22 t10) s) fun t11 s =>oh (some ((.int .i64 0),s)) fun t12 s =>
 aJ (Fu D n) n (bf (aH [t0]) [(2,t2),(3,t3),(6,t6),(7,t7),(8,t8),(9,t9),(10,t10),(11,t11),(12,t12)]) s
theorem aag (n:Nat)(t0:AV)(s:ag):den C (n+1) 9 [t0] s=F9 (den C n) n t0 s :=
 (am rfl Tryz.func9 _ _).trans (by kernel_rfl)
theorem adD {g0 g1:Nat}(x:aU):ba C 9 (bo Tryz.f9 5) [.ae,.ae,.get g0,.ae,.get g1,.ae,.ae,.ae,.ae,.ae] x=x:=bT (by kernel_rfl)
theorem en9:ah Tryz.prog 9=true:=by kernel_rfl
-- glossatorkeep1.one
end sU
end

section
namespace ParF
open Go Go.Abs Go.Proofs Pm sU
theorem BJ:Tryz.prog.underlying 123=some (.slice 122):=by kernel_rfl
theorem aah:da Tryz.prog 122=some 2:=by kernel_rfl
theorem Fv:zeroOf Tryz.prog 122=some (.agg [I 0,I 0]):=by kernel_rfl
theorem aai (i:Nat)(s:ag):aA Tryz.prog 122 (.ref s.length 0) (I 0)=some (.ref s.length 0)∧aA Tryz.prog 122 (.ref s.length 0) (I 1)=some (.ref s.length 1):=by
 have hu:Tryz.prog.underlying 122=some (.array 2 3):=by kernel_rfl
 have hs:da Tryz.prog 3=some 1:=by kernel_rfl
 constructor<;>simp[aA,hu,hs]
def jm:List (Int×Int):=[(11,9),(13,10),(14,11),(15,12),(16,13)]
def HE (p:Int×Int):AV:=.agg [I p.1,I p.2]
def BK (k:Int):List (Int×Int)→Int
 | []=>0
 | p::r=>if p.1=k then p.2 else BK k r
theorem DK:ak Tryz.prog 123 5 [(0,.agg [I 11,I 9]),(1,.agg [I 13,I 10]),(2,.agg [I 14,I 11]),(3,.agg [I 15,I 12]),(4,.agg [I 16,I 13])]=some (.sl 122 2 (jm.map HE) .own):=by kernel_rfl
theorem py (a b:Int):bn Tryz.prog 122 [(0,I a),(1,I b)]=some (.agg [I a,I b]):=by
 have hu:Tryz.prog.underlying 122=some (.array 2 3):=by kernel_rfl
 have hs:da Tryz.prog 3=some 1:=by kernel_rfl
 simp[bn,Fv,hu,hs,uH,bZ,AV.cells,AV.ce]
theorem aaj {k:Int}{cs:List AV}(hc:cs[0]?=some (I k)):∀(j i:Nat),i+j=5→∀m,j<m→∀(D:a8) n' e s,e 49=I i→e 48=I 5→e 47=.sl 122 2 (jm.map HE) .sh→e 2=.box cs 0→∃s',aJ (zI D n') m e s=some (I (BK k (jm.drop i)),s'):=by
 intro j
 induction j with
 | zero =>
  intro i hi m hm D n' e s e49 RN e47 e2
  obtain⟨m,rfl⟩:∃j,m=j+1:=⟨m-1,by omega⟩
  have hi:i=5:=by omega
  subst hi
  refine⟨s,?_⟩
  rw[aJ,zI]
  simp -implicitDefEqProofs only[sL,e49,RN,show ¬((5:Nat):Int)<5 by decide]
  rfl
 | succ j ih =>
  intro i hi m hm D n' e s e49 RN e47 e2
  obtain⟨m,rfl⟩:∃j,m=j+1:=⟨m-1,by omega⟩
  have hl:i<jm.length:=by show i<5;omega
  have hlt:(i:Int)<5:=by omega
  have hr:(jm.map HE)[i]?=some (HE jm[i]):=by rw[List.getElem?_map,List.getElem?_eq_getElem hl];rfl
  have ia:=HC (f:=.sh) BJ aah hr
  have z:=nD Fv ⟨by simp,rfl⟩ s
  have st:=BH (t:=122) (n:=2) (zc:=[I 0,I 0]) (a:=[I jm[i].1,I jm[i].2]) (by decide) (by decide) rfl rfl rfl s
  have b2:=fun s:ag=>zH (n:=2) (a:=[I jm[i].1,I jm[i].2]) rfl false s
  obtain⟨a0,a1⟩:=aai i s
  have l0:=Wh (t:=122) (o:=0) (a:=[I jm[i].1,I jm[i].2]) (v:=I jm[i].1) (by decide) rfl s
  have l1:=Wh (t:=122) (o:=1) (a:=[I jm[i].1,I jm[i].2]) (v:=I jm[i].2) (by decide) rfl s
  have bk:=fun s:ag=>show af false false 1 (.box cs 0) s=some (I k,s) by rw[cu,hc];rfl
  have w:=gL (a:=i) (by omega)
  have kc:(HE jm[i]).cells=[I jm[i].1,I jm[i].2]:=rfl
  rw[List.drop_eq_getElem_cons hl,BK,aJ,zI]
  by_cases c:jm[i].1=k
  ·have c1:=ey c
   rw[if_pos c]
   refine⟨s++[(122,[I jm[i].1,I jm[i].2])],?_⟩
   simp -implicitDefEqProofs only[sL,e49,RN,e47,e2,hlt,ia,kc,b2,z,st,a0,a1,l0,l1,bk,c1]
  ·have c1:=dm c
   rw[if_neg c]
   simp -implicitDefEqProofs only[sL,e49,RN,e47,e2,hlt,ia,kc,b2,z,st,a0,a1,l0,l1,bk,c1,w]
   exact ih (i+1) (by omega) m (by omega) D n' _ _ (by simp[ai,an]) ((ao _ _ _ rfl).trans RN) ((ao _ _ _ rfl).trans e47) ((ao _ _ _ rfl).trans e2)
def _root_.Pm.Nd.kindOf:Nd→Bool→Int|.mk k _ _ _ _ ns _,loc=>dO k ns loc
theorem BL {T:Nd}{a:AV}(h:qK T a)(loc:Bool):AC C 51 [a,.bool loc] (I (T.kindOf loc)):=by
 have nr:aV [a,.bool loc]=true:=by rw[aC,aC,aY,h.a_];rfl
 refine .intro adn nr rfl ⟨10,fun f hf=>?_⟩
 cases h with
 | mk k v x st e ns cs ch h =>
 obtain⟨c1,c2,c3⟩:=h.aa
 obtain⟨r,hr⟩:∃r,r=[I k,I v,.str x,I st,I e,I ns,ch]:=⟨_,rfl⟩
 have b1:cL false 58 (.agg [I k,I v,.str x,I st,I e,I ns,ch]) []=some (.box r 0,[]):=by rw[kT _ _ _ rfl,hr];rfl
 have x0:∀s:ag,af false false 1 (.box r 0) s=some (I k,s):=fun s=>by rw[cu,hr];rfl
 have x5:∀s:ag,af false false 1 (.box r 5) s=some (I ns,s):=fun s=>by rw[cu,hr];rfl
 have r0:r[0]?=some (I k):=by rw[hr];rfl
 rw[UX,F51]
 show ∃s1,_=some (I (dO k ns loc),s1)
 unfold dO
 by_cases c7:k=7
 ·rw[if_pos c7]
  have e7:=ey c7
  refine⟨[],?_⟩
  simp -implicitDefEqProofs only[sL,b1,x0,e7]
 rw[if_neg c7]
 have e7:=dm c7
 by_cases cn:ns<0
 ·rw[if_pos cn]
  refine⟨[],?_⟩
  simp -implicitDefEqProofs only[sL,b1,x0,x5,e7,cn]
 rw[if_neg cn]
 by_cases c13:(k=13∧loc=true)∨k=44
 ·rw[if_pos c13]
  refine⟨[],?_⟩
  rcases c13 with ⟨h1,h2⟩|h1
  ·have xD:=ey h1
   subst h2
   simp -implicitDefEqProofs only[sL,b1,x0,x5,e7,cn,xD]
  ·have Wi:=ey h1
   have xD:(k==13)=false:=dm (by omega)
   simp -implicitDefEqProofs only[sL,b1,x0,x5,e7,cn,xD,Wi]
 rw[if_neg c13]
 have Wi:(k==44)=false:=dm (fun q=>c13 (.inr q))
 have YS:((k==13)=true∧loc=false)∨(k==13)=false:=by
  by_cases q:k=13
  ·refine .inl ⟨ey q,?_⟩
   cases loc with
   | false=>rfl
   | true=>exact absurd (.inl ⟨q,rfl⟩) c13
  ·exact .inr (dm q)
 by_cases Wj:3≤k∧k≤9
 ·rw[if_pos Wj]
  have w1:IntKind.i64.wrap (k-3)=k-3:=by rw[wrap64]<;>omega
  have w2:IntKind.i64.wrap (k-3+2)=k-3+2:=by rw[wrap64]<;>omega
  refine⟨[],?_⟩
  have xD:(k==13)=false:=dm (by omega)
  simp -implicitDefEqProofs only[sL,b1,x0,x5,e7,cn,xD,Wi,Wj.1,Wj.2,w1,w2]
 rw[if_neg Wj]
 have tab:(if k=11 then(9:Int) else if k=13 then 10 else if k=14 then 11 else if k=15 then 12 else if k=16 then 13 else 0)=BK k jm:=by
  simp only[BK,jm,eq_comm]
 rw[tab]
 have d3:∀(P:Bool→Prop),(∀b,(b=true→(decide (3≤k)=true∧¬k≤9))→P b)→P (decide (3≤k)):=fun P h=>h _ (fun q=>⟨q,fun q'=>Wj ⟨by simpa using q,q'⟩⟩)
 have ls:bN Tryz.prog 123 (.sl 122 2 (jm.map HE) .sh)=some (I 5):=K7 BJ
 have go:=fun(e:Env) (s:ag) h1 h2 h3 h4=>aaj r0 5 0 rfl f (by omega) (den C f) f e s h1 h2 h3 h4
 rw[List.drop_zero]at go
 by_cases c3:3≤k
 ·have c9:¬k≤9:=fun q=>Wj ⟨c3,q⟩
  rcases YS with ⟨xD,hl⟩|xD
  ·subst hl
   simp -implicitDefEqProofs only[sL,b1,x0,x5,e7,cn,xD,Wi,c3,c9,py,DK,aj,ls]
   exact go _ _ (by simp[ai,an]) (by simp[ai,an]) (by simp[ai,an]) (by simp[ai,an])
  ·simp -implicitDefEqProofs only[sL,b1,x0,x5,e7,cn,xD,Wi,c3,c9,py,DK,aj,ls]
   exact go _ _ (by simp[ai,an]) (by simp[ai,an]) (by simp[ai,an]) (by simp[ai,an])
 ·have xD:(k==13)=false:=dm (by omega)
  simp -implicitDefEqProofs only[sL,b1,x0,x5,e7,cn,xD,Wi,c3,py,DK,aj,ls]
  exact go _ _ (by simp[ai,an]) (by simp[ai,an]) (by simp[ai,an]) (by simp[ai,an])
theorem PP {T:Nd}{a:AV}(h:qK T a):AC C 52 [a] (I T.UU):=by
 have nr:aV [a]=true:=by rw[aC,aY,h.a_];rfl
 refine .intro ado nr rfl ⟨1,fun f hf=>⟨[],?_⟩⟩
 cases h with
 | mk k v x st e ns cs ch h =>
 obtain⟨r,hr⟩:∃r,r=[I k,I v,.str x,I st,I e,I ns,ch]:=⟨_,rfl⟩
 have b1:cL false 58 (.agg [I k,I v,.str x,I st,I e,I ns,ch]) []=some (.box r 0,[]):=by rw[kT _ _ _ rfl,hr];rfl
 have x0:∀s:ag,af false false 1 (.box r 0) s=some (I k,s):=fun s=>by rw[cu,hr];rfl
 have x3:∀s:ag,af false false 1 (.box r 3) s=some (I st,s):=fun s=>by rw[cu,hr];rfl
 have x5:∀s:ag,af false false 1 (.box r 5) s=some (I ns,s):=fun s=>by rw[cu,hr];rfl
 rw[UY,F52]
 show _=some (I (kX k st ns),_)
 unfold kX
 by_cases c7:k=7
 ·rw[if_pos c7]
  have e7:=ey c7
  simp -implicitDefEqProofs only[sL,b1,x0,x3,e7]
 ·rw[if_neg c7]
  have e7:=dm c7
  simp -implicitDefEqProofs only[sL,b1,x0,x5,e7]
theorem BM (k:Int):AC C 53 [I k] (.bool (iI k)):=by
 refine .intro adp rfl rfl ⟨1,fun f hf=>⟨[],?_⟩⟩
 rw[UZ,F53]
 unfold iI
 by_cases c2:2≤k
 ·by_cases c8:k≤8
  ·simp -implicitDefEqProofs only[sL,c2,c8]
  ·simp -implicitDefEqProofs only[sL,c2,c8,Bool.and_false]
 ·simp -implicitDefEqProofs only[sL,c2,Bool.false_and]
end ParF
end

section
namespace ParF
open Go Go.Abs Go.Proofs Pm sU
def fW (a b:Int):Int:=((BitVec.ofInt 64 a &&& BitVec.ofInt 64 b).toInt)
theorem Fw (t:TypeId)(a b:Int):aK Tryz.prog .and t (I a) (I b)=some (I (fW a b)):=by
 rw[yF]
 show some (AV.int .i64 (IntKind.i64.wrap _))=_
 congr 2
 exact Fb _
def ug (v:Int):Bool:=fW v 1 != 0
def _root_.Pm.Sym.row (y:Sym):List AV:=[I y.kind,I y.module,I y.start,I y.parent,.str y.name,.bool y.Wg]
theorem mm:Tryz.prog.underlying 29=some (.slice 36):=by kernel_rfl
theorem Lc:BI 36 6:=Ft (by kernel_rfl)
theorem Vc:da Tryz.prog 36=some 6:=by kernel_rfl
theorem Ld:zeroOf Tryz.prog 36=some (.agg [I 0,I 0,I 0,I 0,.str [],.bool false]):=by kernel_rfl
theorem nE (l:List Sym):(l.flatMap Sym.row).length=l.length*6:=by
 induction l with
 | nil=>rfl
 | cons a l ih=>rw[List.flatMap_cons,List.length_append,ih,List.length_cons];show 6+l.length*6=_;omega
theorem Fx (y:Sym):bn Tryz.prog 36 [(0,I y.kind),(1,I y.module),(2,I y.start),(3,I y.parent),(4,.str y.name),(5,.bool y.Wg)]=some (.agg y.row):=by
 have hu:(match Tryz.prog.underlying 36 with|some (.struct fs)=>dN Tryz.prog fs.toList|_=>none)=some [(0,1),(1,1),(2,1),(3,1),(4,1),(5,1)]:=by kernel_rfl
 unfold bn
 split at hu
 ·rename_i fs hh
  rw[Ld,hh]
  simp[hu,jo,bZ,AV.cells,AV.ce,Sym.row]
 ·cases hu
theorem Le (y:Sym):ak Tryz.prog 29 1 [(0,.agg y.row)]=some (.sl 36 6 [.agg y.row] .own):=by
 obtain⟨i,z,h1,h2,h3,h4,h5⟩:=Lc
 simp[ak,mm,Vc,h1,h3,h4,k7,AV.cells,AV.ce,Sym.row]
structure CS (B:Nat)(m:Int)(s:ag)(l:List Sym)(q:Option Nat):Prop where
 par:s[B]?=some (74,[I m,Fq 36 6 l.length q])
 row:vQ 36 s (l.flatMap Sym.row) q
 ne:q≠some B
theorem CS.lt {B:Nat}{m:Int}{s:ag}{l:List Sym}{q:Option Nat}(h:CS B m s l q):∀x∈JB B q,x<s.length:=by
 intro x hx
 rcases List.mem_cons.1 hx with rfl|hx
 ·exact iN h.par
 ·rw[Option.mem_toList]at hx;exact h.row.lt hx
theorem CS.frame {B:Nat}{m:Int}{s s':ag}{l:List Sym}{q:Option Nat}(h:CS B m s l q)(k:∀x∈JB B q,s'[x]?=s[x]?):CS B m s' l q :=
 ⟨(k B (List.mem_cons_self ..)).trans h.par,h.row.frame fun Q hq=>k Q (List.mem_cons_of_mem _ (by rw[Option.mem_toList];exact hq)),h.ne⟩
theorem CS.app {B:Nat}{m:Int}{s:ag}{l:List Sym}{q:Option Nat}(h:CS B m s l q)(v:TypeId×List AV):CS B m (s++[v]) l q :=
 h.frame fun x hx=>bE (h.lt x hx)
theorem CS.ld {B:Nat}{m:Int}{s:ag}{l:List Sym}{q:Option Nat}(h:CS B m s l q):af false false 1 (.ref B 0) s=some (I m,s)∧af false false 1 (.ref B 1) s=some (Fq 36 6 l.length q,s) :=
 ⟨ParF.ld (o:=0) h.par (by decide) rfl (by decide),by rw[ParF.ld (o:=1) h.par (by decide) rfl (by decide),HD]⟩
theorem CS.push {B:Nat}{m:Int}{s:ag}{l:List Sym}{q:Option Nat}(h:CS B m s l q)(hn:l.length<1000000)(y:Sym) :
  ∃s0 s1:ag,bA Tryz.prog 29 29 (Fq 36 6 l.length q) (.sl 36 6 [.agg y.row] .own) s=some (.rs 36 6 s.length 0 (l.length+1),s0)∧aB 1 s0 (.ref B 1) (.rs 36 6 s.length 0 (l.length+1))=some s1 ∧
   CS B m s1 (l++[y]) (some s.length)∧Ex s s1 (JB B q) (JB B (some s.length)):=by
 have hB:=iN h.par
 obtain⟨s0,h1,h2,h3,h4⟩:=Z8 mm Lc (by decide) (by decide) h.row (nE l) (by omega) (a:=y.row) rfl rfl
 have hb:s0[B]?=some (74,[I m,Fq 36 6 l.length q]):=(h4 B hB h.ne).trans h.par
 have hst:aB 1 s0 (.ref B 1) (.rs 36 6 s.length 0 (l.length+1))=some (s0.set B (74,[I m,.rs 36 6 s.length 0 (l.length+1)])):=st hb (by decide) rfl rfl (by show 2≤2;decide)
 have hfm:(l++[y]).flatMap Sym.row=l.flatMap Sym.row++y.row:=by simp
 refine⟨s0,_,h1,hst,⟨?_,⟨nofun,fun Q e=>?_⟩,fun e=>by cases e;omega⟩,⟨by rw[bh,h2];omega,fun x hx hj=>?_,fun x hx=>?_⟩⟩
 ·rw[bK hb,Fq,List.length_append];rfl
 ·cases e
  refine⟨by rw[hfm];simp[Sym.row],[],?_⟩
  rw[bu (by omega),h3,hfm,List.append_nil]
 ·have hxB:x≠B:=fun e=>hj (by rw[e];exact List.mem_cons_self ..)
  rw[bu (Ne.symm hxB),h4 x hx (fun e=>hj (by rw[e];simp[JB]))]
 ·rcases List.mem_cons.1 hx with rfl|hx
  ·exact .inl (List.mem_cons_self ..)
  ·rw[Option.mem_toList]at hx;cases hx;exact .inr (Nat.le_refl _)
theorem DL:zeroOf Tryz.prog 58=some (.agg [I 0,I 0,.str [],I 0,I 0,I 0,.aN]):=by kernel_rfl
def S7 (T:Nd):Prop:=∀(a:AV),qK T a→∃N,∀n,N≤n→∀(B:Nat)(m:Nat)(s:ag)(l:List Sym)(q:Option Nat)(parent:Int)(loc:Bool),CS B m s l q→l.length+sI T<1000000 →
 ∃s' q',ab Tryz.prog (den C n) 32 [.ref B 0,a,I parent,.bool loc] s=some (.aI [],s')∧CS B m s' (l++(ew ug l.length parent loc T).map (Sy.at m)) q'∧Ex s s' (JB B q) (JB B q')
mutual
theorem nZ (fl:Int→Bool):∀(base:Nat)(parent:Int)(loc:Bool)(T:Nd),(ew fl base parent loc T).length≤sI T
 | base,parent,loc,.mk k v x s e ns cs=>by
  rw[ig,nC]
  split
  ·have:=pz fl base parent (nz k loc) cs;omega
  ·rw[List.length_cons]
   have:=pz fl (base+1) (if iI (dO k ns loc)=true then(base:Int) else parent) (nz k loc) cs;omega
theorem pz (fl:Int→Bool):∀(base:Nat)(parent:Int)(loc:Bool)(cs:List Nd),(cQ fl base parent loc cs).length≤mI cs
 | base,parent,loc,[]=>by rw[cQ];exact Nat.zero_le _
 | base,parent,loc,n::ns=>by
  rw[cQ,mI,List.length_append]
  have:=nZ fl base parent loc n
  have:=pz fl (base+(ew fl base parent loc n).length) parent loc ns;omega
end
theorem aak {ch:AV}{cs:List Nd}(w7:nx cs ch)(ih:∀t∈cs,S7 t):∀(k i:Nat),cs.length-i=k→i≤cs.length →
  ∃N,∀f,N≤f→∀w,k<w→∀n' e (B m:Nat) (s:ag) (l:List Sym) (q:Option Nat) (parent:Int) (loc:Bool),CS B m s l q→cs.length<1000000∧l.length+mI (cs.drop i)<1000000 →
   e 75=I i→e 74=I cs.length→e 73=ch→e 0=.ref B 0→e 2=I parent→e 10=.bool loc →
   ∃s' q',aJ (zJ (den C f) n') w e s=some (.aI [],s')∧CS B m s' (l++(cQ ug l.length parent loc (cs.drop i)).map (Sy.at m)) q'∧Ex s s' (JB B q) (JB B q'):=by
 obtain⟨hl,RA⟩:=w7.facts
 intro k
 induction k with
 | zero =>
  intro i hk hi
  refine⟨0,fun f _ w hw n' e B m s l q parent loc hB hb e75 e74 e73 e0 e2 mQ=>⟨s,q,?_,?_,.refl _ _⟩⟩
  ·obtain⟨w,rfl⟩:∃j,w=j+1:=⟨w-1,by omega⟩
   have c:¬i<cs.length:=by omega
   rw[aJ,zJ]
   simp -implicitDefEqProofs only[sL,e75,e74,c]
  ·rw[List.drop_of_length_le (by omega),cQ,List.map_nil,List.append_nil];exact hB
 | succ k ih2 =>
  intro i hk hi
  have hlt:i<cs.length:=by omega
  obtain⟨a,ha,hT⟩:=RA (List.getElem?_eq_getElem hlt)
  obtain⟨a1,a2,a3,a4⟩:=hT.cells
  have hst:a.aa=a:=by rw[a4];rfl
  obtain⟨N1,q1⟩:=ih _ (List.getElem_mem hlt) a hT
  obtain⟨N2,q2⟩:=ih2 (i+1) (by omega) (by omega)
  refine⟨N1+N2,fun f hf w hw n' e B m s l q parent loc hB hb e75 e74 e73 e0 e2 mQ=>?_⟩
  obtain⟨w,rfl⟩:∃j,w=j+1:=⟨w-1,by omega⟩
  obtain⟨hcl,hb⟩:=hb
  rw[List.drop_eq_getElem_cons hlt,mI]at hb
  have b7:=fun s=>zH a1 false s
  rw[←a4]at b7
  have z:=nD DL ⟨by simp,rfl⟩ s
  have st:=BH (t:=58) (n:=7) (zc:=[I 0,I 0,.str [],I 0,I 0,I 0,.aN]) (by decide) (by decide) rfl a1 a2 s
  rw[←a4]at st
  have l7:=UW (t:=58) (n:=7) (by decide) (by decide) a1 s
  rw[←a4]at l7
  obtain⟨s1,r1,c1,d1,x1⟩:=q1 f (by omega) B m _ l q parent loc (hB.app (58,a.cells)) (by omega)
  have vl:=nZ ug l.length parent loc cs[i]
  have hlen:(l++(ew ug l.length parent loc cs[i]).map (Sy.at m)).length=l.length+(ew ug l.length parent loc cs[i]).length:=by rw[List.length_append,List.length_map]
  have w1:=gL (a:=i) (by omega)
  obtain⟨s2,r2,c2,d2,x2⟩:=q2 f (by omega) w (by omega) n' (bf (bf e [(76,.bool true),(77,.box a.cells 0),(78,a),(12,.ref s.length 0),(78,a.aa),(79,.ref B 0),(80,a),(81,I parent),(82,.bool loc),(83,.aI []),(84,I ((i+1:Nat):Int)),(75,I ((i+1:Nat):Int))]) []) B m s1 _ r1 parent loc d1 ⟨hcl,by rw[hlen];omega⟩
   (by simp[ai,an]) ((ao _ _ _ rfl).trans e74) ((ao _ _ _ rfl).trans e73) ((ao _ _ _ rfl).trans e0) ((ao _ _ _ rfl).trans e2) ((ao _ _ _ rfl).trans mQ)
  refine⟨s2,r2,?_,?_,(Ex.ac_ s (JB B q) _).trans (x1.trans x2)⟩
  ·rw[aJ,zJ]
   simp -implicitDefEqProofs only[sL,e75,e74,e73,e0,e2,mQ,hlt,ha,b7,z,st,l7,hst,c1,w1]
   rw[cV,hst]at c2
   exact c2
  ·rw[hlen]at d2
   rw[List.drop_eq_getElem_cons hlt,cQ,List.map_append,←List.append_assoc]
   exact d2
theorem Vd {T:Nd}{k v:Int}{x:Bytes}{st en ns:Int}{cs:List Nd}{ch:AV}(w7:nx cs ch)(ih:∀t∈cs,S7 t){r:List AV}(hr:r=[I k,I v,.str x,I st,I en,I ns,ch]) :
  ∃N,∀f,N≤f→∀n',N≤n'→∀e (B m:Nat) (s:ag) (l:List Sym) (q:Option Nat) (parent:Int) (loc:Bool),CS B m s l q→l.length+mI cs<1000000 →
   e 5=.box r 0→e 0=.ref B 0→e 2=I parent→e 3=.bool loc →
   ∃s' q',rY (den C f) n' e s=some (.aI [],s')∧CS B m s' (l++(cQ ug l.length parent (nz k loc) cs).map (Sy.at m)) q'∧Ex s s' (JB B q) (JB B q'):=by
 obtain⟨c1,c2,c3⟩:=w7.aa
 obtain⟨hl,-⟩:=w7.facts
 obtain⟨N,h⟩:=aak w7 ih cs.length 0 (by omega) (by omega)
 rw[List.drop_zero]at h
 refine⟨N+cs.length+1,fun f hf n' RW e B m s l q parent loc hB hb e5 e0 e2 e3=>?_⟩
 have x0:∀s:ag,af false false 1 (.box r 0) s=some (I k,s):=fun s=>by rw[cu,hr];rfl
 have x6:∀s:ag,af false false 1 (.box r 6) s=some (ch,s):=fun s=>by rw[cu,hr];simp[c1]
 have h:=fun e=>h f (by omega) n' (by omega) n' e B m s l q parent (nz k loc) hB ⟨by have:=vP cs;omega,hb⟩
 unfold rY
 unfold nz at h ⊢
 by_cases vx:k=12
 ·have f12:=ey vx
  cases loc with
  | true =>
   have hb:(decide (k=12)&&true || decide (k=9) || decide (k=38))=true:=by simp[vx]
   rw[hb]at h ⊢
   simp -implicitDefEqProofs only[sL,e5,e0,e2,e3,x0,x6,f12,hl]
   exact h _ (by simp[ai,an]) (by simp[ai,an]) (by simp[ai,an]) ((ao _ _ _ rfl).trans e0) ((ao _ _ _ rfl).trans e2) (by simp[ai,an])
  | false =>
   have f9:(k==9)=false:=dm (by omega)
   have f38:(k==38)=false:=dm (by omega)
   have hb:(decide (k=12)&&false || decide (k=9) || decide (k=38))=false:=by simp[vx]
   rw[hb]at h ⊢
   simp -implicitDefEqProofs only[sL,e5,e0,e2,e3,x0,x6,f12,f9,f38,hl]
   exact h _ (by simp[ai,an]) (by simp[ai,an]) (by simp[ai,an]) ((ao _ _ _ rfl).trans e0) ((ao _ _ _ rfl).trans e2) (by simp[ai,an])
 ·have f12:=dm vx
  by_cases e9:k=9
  ·have f9:=ey e9
   have hb:(decide (k=12)&&loc || decide (k=9) || decide (k=38))=true:=by simp[e9]
   rw[hb]at h ⊢
   simp -implicitDefEqProofs only[sL,e5,e0,e2,e3,x0,x6,f12,f9,hl]
   exact h _ (by simp[ai,an]) (by simp[ai,an]) (by simp[ai,an]) ((ao _ _ _ rfl).trans e0) ((ao _ _ _ rfl).trans e2) (by simp[ai,an])
  ·have f9:=dm e9
   by_cases My:k=38
   ·have f38:=ey My
    have hb:(decide (k=12)&&loc || decide (k=9) || decide (k=38))=true:=by simp[My]
    rw[hb]at h ⊢
    simp -implicitDefEqProofs only[sL,e5,e0,e2,e3,x0,x6,f12,f9,f38,hl]
    exact h _ (by simp[ai,an]) (by simp[ai,an]) (by simp[ai,an]) ((ao _ _ _ rfl).trans e0) ((ao _ _ _ rfl).trans e2) (by simp[ai,an])
   ·have f38:=dm My
    have hb:(decide (k=12)&&loc || decide (k=9) || decide (k=38))=false:=by simp[vx,e9,My]
    rw[hb]at h ⊢
    simp -implicitDefEqProofs only[sL,e5,e0,e2,e3,x0,x6,f12,f9,f38,hl]
    exact h _ (by simp[ai,an]) (by simp[ai,an]) (by simp[ai,an]) ((ao _ _ _ rfl).trans e0) ((ao _ _ _ rfl).trans e2) (by simp[ai,an])
end ParF
end

section
namespace ParF
open Go Go.Abs Go.Proofs Pm sU
theorem DM {T:Nd}{k v:Int}{x:Bytes}{st en ns:Int}{cs:List Nd}(hT:T=.mk k v x st en ns cs)(ih:∀t∈cs,S7 t):S7 T:=by
 intro a ha
 obtain⟨N1,p1⟩:=ep.AC.at (BL ha true)
 obtain⟨N2,p2⟩:=ep.AC.at (BL ha false)
 obtain⟨N3,p3⟩:=ep.AC.at (PP ha)
 obtain⟨a1,a2,a3,a4⟩:=ha.cells
 have hst:a.aa=a:=by rw[a4];rfl
 have nrf:=ha.a_
 subst hT
 cases ha with
 | mk _ _ _ _ _ _ _ ch w7 =>
 obtain⟨N4,p4⟩:=ep.AC.at (BM (dO k ns true))
 obtain⟨N5,p5⟩:=ep.AC.at (BM (dO k ns false))
 obtain⟨r,hr⟩:∃r,r=[I k,I v,.str x,I st,I en,I ns,ch]:=⟨_,rfl⟩
 obtain⟨N6,p6⟩:=Vd (T:=.mk k v x st en ns cs) (v:=v) (x:=x) (st:=st) (en:=en) (ns:=ns) w7 ih hr
 refine⟨N1+N2+N3+N4+N5+N6+1,fun n hn B m s l q parent loc hB hb=>?_⟩
 obtain⟨n,rfl⟩:∃j,n=j+1:=⟨n-1,by omega⟩
 have hk:∀s:ag,ab Tryz.prog (den C n) 51 [.agg r,.bool loc] s=some (I (dO k ns loc),s):=by
  intro s;subst hr;cases loc;exact p2 n (by omega) s;exact p1 n (by omega) s
 have hd:∀s:ag,ab Tryz.prog (den C n) 52 [.agg r] s=some (I (kX k st ns),s):=by
  intro s;subst hr;exact p3 n (by omega) s
 have hc:∀s:ag,ab Tryz.prog (den C n) 53 [I (dO k ns loc)] s=some (.bool (iI (dO k ns loc)),s):=by
  intro s;cases loc;exact p5 n (by omega) s;exact p4 n (by omega) s
 have b1:cL false 58 (.agg [I k,I v,.str x,I st,I en,I ns,ch]) s=some (.box r 0,s):=by rw[kT _ _ _ rfl,hr];rfl
 have x0:∀s:ag,af false false 1 (.box r 0) s=some (I k,s):=fun s=>by rw[cu,hr];rfl
 have x1:∀s:ag,af false false 1 (.box r 1) s=some (I v,s):=fun s=>by rw[cu,hr];rfl
 have x2:∀s:ag,af false false 1 (.box r 2) s=some (.str x,s):=fun s=>by rw[cu,hr];rfl
 have b7:∀s:ag,af false true 7 (.box r 0) s=some (.agg r,s):=fun s=>zH (by rw[hr];rfl) false s
 have nrr:aV [.agg r]=true:=by rw[aC,aY,hr,nrf];rfl
 have PQ:aV r=true:=by rw[hr];rw[lm]at nrf;exact nrf
 obtain⟨l0,l1⟩:=hB.ld
 rw[nC]at hb
 rw[ig]
 rw[aF adq (a7 ..),U0,F32]
 by_cases c0:dO k ns loc=0
 ·rw[if_pos c0]
  have e0:(dO k ns loc != 0)=false:=by simp[c0]
  obtain⟨s',q',r1,r2,r3⟩:=p6 n (by omega) n (by omega) (bf (aH [.ref B 0,.agg [I k,I v,.str x,I st,I en,I ns,ch],I parent,.bool loc]) [(5,.box r 0),(13,.agg r),(14,.bool loc),(15,I (dO k ns loc)),(15,I (dO k ns loc)),(8,I (dO k ns loc)),(16,I (dO k ns loc)),(17,.bool false)]) B m s l q parent loc hB (by omega)
   (by simp[ai,an]) (by simp[ai,an,aH]) (by simp[ai,an,aH]) (by simp[ai,an,aH])
  refine⟨s',q',?_,r2,r3⟩
  simp -implicitDefEqProofs only[sL,b1,b7,hk,e0]
  exact r1
 rw[if_neg c0]
 have e0:(dO k ns loc != 0)=true:=by simpa using c0
 obtain⟨pb,hpb⟩:∃pb,pb=(decide (k≤9)&&ug v):=⟨_,rfl⟩
 rw[←hpb]
 obtain⟨s0,s1,g1,g2,g3,g4⟩:=hB.push (by omega) ⟨dO k ns loc,m,kX k st ns,parent,x,pb⟩
 have MC:=Fx ⟨dO k ns loc,m,kX k st ns,parent,x,pb⟩
 simp only at MC
 have RJ:=Le ⟨dO k ns loc,m,kX k st ns,parent,x,pb⟩
 obtain⟨L0,L1⟩:=g3.ld
 have zi:(l++[(⟨dO k ns loc,m,kX k st ns,parent,x,pb⟩:Sym)]).length=l.length+1:=by rw[List.length_append];rfl
 rw[zi]at L1
 replace L1:af false false 1 (.ref B 1) s1=some (.rs 36 6 s.length 0 (l.length+1),s1):=L1
 have ll:=Z7 (e:=36) (z:=6) mm s.length 0 (l.length+1)
 have w1:IntKind.i64.wrap (((l.length+1:Nat):Int)-1)=(l.length:Int):=by rw[wrap64]<;>omega
 have dk:∀X:aU,ba C 32 (bo Tryz.f32 4) [.ae,.ae,.ae,.ae,.get B,.ae,.ae,.ae,.ae,.get B,.ae,.ae,.ae,.ae,.ae,.ae,.ae,.ae,dyn (oS (Fq 36 6 l.length q)) s s0,.ae,.ae,.put B] X=X:=by
  intro X
  cases q with
  | none=>exact RH B X
  | some Q=>exact RH B X
 have fin:∀(e:Env),e 5=.box r 0→e 0=.ref B 0→e 2=I (if iI (dO k ns loc)=true then(l.length:Int) else parent)→e 3=.bool loc →
   ∃s' q',rY (den C n) n e s1=some (.aI [],s')∧CS B m s' (l++List.map (Sy.at m) (⟨dO k ns loc,kX k st ns,parent,x,pb⟩::cQ ug (l.length+1) (if iI (dO k ns loc)=true then(l.length:Int) else parent) (nz k loc) cs)) q'∧Ex s s' (JB B q) (JB B q'):=by
  intro e e5 e0 e2 e3
  obtain⟨s',q',r1,r2,r3⟩:=p6 n (by omega) n (by omega) e B m s1 _ (some s.length) _ loc g3 (by rw[zi];omega) e5 e0 e2 e3
  refine⟨s',q',r1,?_,g4.trans r3⟩
  rw[zi]at r2
  rw[List.map_cons,List.append_cons]
  exact r2
 by_cases c9:k≤9
 ·have hv:(fW v 1 != 0)=pb:=by rw[hpb];simp[c9,ug]
  cases hc':iI (dO k ns loc) with
  | true =>
   rw[hc']at hc fin
   rw[if_pos rfl]at fin ⊢
   simp -implicitDefEqProofs only[sL,b1,b7,hk,e0,x0,x1,x2,c9,Fw,hv,l0,l1,hd,nrr,PQ,MC,RJ,g1,dD,g2,dk,hc,L1,cM,ll,w1]
   exact fin _ (by simp[ai,an]) (by simp[ai,an,aH]) (by simp[ai,an]) (by simp[ai,an,aH])
  | false =>
   rw[hc']at hc fin
   rw[if_neg Bool.false_ne_true]at fin ⊢
   simp -implicitDefEqProofs only[sL,b1,b7,hk,e0,x0,x1,x2,c9,Fw,hv,l0,l1,hd,nrr,PQ,MC,RJ,g1,dD,g2,dk,cM,hc]
   exact fin _ (by simp[ai,an]) (by simp[ai,an,aH]) (by simp[ai,an,aH]) (by simp[ai,an,aH])
 ·have hv:pb=false:=by rw[hpb];simp[c9]
  subst hv
  cases hc':iI (dO k ns loc) with
  | true =>
   rw[hc']at hc fin
   rw[if_pos rfl]at fin ⊢
   simp -implicitDefEqProofs only[sL,b1,b7,hk,e0,x0,x1,x2,c9,l0,l1,hd,nrr,PQ,MC,RJ,g1,dD,g2,dk,hc,L1,cM,ll,w1]
   exact fin _ (by simp[ai,an]) (by simp[ai,an,aH]) (by simp[ai,an]) (by simp[ai,an,aH])
  | false =>
   rw[hc']at hc fin
   rw[if_neg Bool.false_ne_true]at fin ⊢
   simp -implicitDefEqProofs only[sL,b1,b7,hk,e0,x0,x1,x2,c9,l0,l1,hd,nrr,PQ,MC,RJ,g1,dD,g2,dk,cM,hc]
   exact fin _ (by simp[ai,an]) (by simp[ai,an,aH]) (by simp[ai,an,aH]) (by simp[ai,an,aH])
theorem HF:∀(n:Nat)(T:Nd),sI T≤n→S7 T:=by
 intro n
 induction n with
 | zero=>intro T h;have:=Fp T;omega
 | succ n ih =>
  intro T h
  cases T with
  | mk k v x s e ns cs =>
   rw[nC]at h
   exact DM rfl fun t ht=>ih t (by have:=Fo ht;omega)
end ParF
end

section
namespace ParF
open Go Go.Abs Go.Proofs Pm sU
abbrev Mo:=Bytes×Bytes
def pA (m:Mo):AV:=.agg [.str m.1,.str m.2]
def gu (a:AV)(ms:List Mo):Prop:=(a=.aN∧ms=[])∨a=.sl 27 2 (ms.map pA) .sh
theorem ij:Tryz.prog.underlying 22=some (.slice 27):=by kernel_rfl
theorem Fy:da Tryz.prog 27=some 2:=by kernel_rfl
theorem uh:zeroOf Tryz.prog 27=some (.agg [.str [],.str []]):=by kernel_rfl
theorem vS (ms:List Mo):aV (ms.map pA)=true:=by
 induction ms with
 | nil=>rfl
 | cons m r ih=>rw[List.map_cons,aC,ih];rfl
theorem gu.a_ {a:AV}{ms:List Mo}(h:gu a ms):a.a_=true:=by
 rcases h with ⟨rfl,_⟩|rfl
 ·rfl
 ·rw[cE,vS]
theorem gu.aa {a:AV}{ms:List Mo}(h:gu a ms):a.aa=a:=by
 rcases h with ⟨rfl,_⟩|rfl<;>rfl
theorem gu.len {a:AV}{ms:List Mo}(h:gu a ms):bN Tryz.prog 22 a=some (I ms.length):=by
 rcases h with ⟨rfl,rfl⟩|rfl
 ·exact Z6 ij
 ·rw[K7 ij,List.length_map]
theorem gu.at {a:AV}{ms:List Mo}(h:gu a ms){i:Nat}(hi:i<ms.length):aA Tryz.prog 22 a (I i)=some (.box [.str ms[i].1,.str ms[i].2] 0):=by
 rcases h with ⟨rfl,rfl⟩|rfl
 ·cases hi
 ·exact HC ij Fy (a:=pA ms[i]) (by rw[List.getElem?_map,List.getElem?_eq_getElem hi];rfl)
def PT (y:Sym):AV:=.agg y.row
def ji (l:List Sym):AV:=.sl 36 6 (l.map PT) .sh
theorem DN (l:List Sym):chunks 6 l.length (l.flatMap Sym.row)=l.map PT:=by
 induction l with
 | nil=>rfl
 | cons y l ih=>rw[List.length_cons,List.flatMap_cons,chunks,if_neg (by decide),List.map_cons,List.take_append_of_le_length (Nat.le_refl 6),List.take_of_length_le (Nat.le_refl 6),List.drop_append_of_le_length (Nat.le_refl 6),List.drop_of_length_le (Nat.le_refl 6),List.nil_append,ih];rfl
theorem DO (l:List Sym):(l.flatMap Sym.row).all gg=true∧(l.flatMap Sym.row).map AV.aa=l.flatMap Sym.row:=by
 induction l with
 | nil=>exact⟨rfl,rfl⟩
 | cons y l ih=>rw[List.flatMap_cons,List.all_append,List.map_append,ih.1,ih.2];exact⟨rfl,rfl⟩
theorem CS.Wg {B:Nat}{m:Int}{s:ag}{l:List Sym}{q:Option Nat}(h:CS B m s l q)(hl:l≠[]):∃s',wD (af false false 1 (.ref B 1) s)=some (ji l,s'):=by
 rw[h.ld.2]
 have hq:q≠none:=fun e=>by
  have:=h.row.1 e
  have e2:=nE l
  rw[this]at e2
  cases l with
  | nil=>exact hl rfl
  | cons a l=>simp at e2
 cases q with
 | none=>exact absurd rfl hq
 | some Q =>
  obtain⟨hne,junk,hQ⟩:=h.row.2 Q rfl
  refine⟨kill s Q,?_⟩
  have hr:=nE l
  have tk:(l.flatMap Sym.row++junk).take (l.length*6)=l.flatMap Sym.row:=by rw[List.take_append_of_le_length (by omega),List.take_of_length_le (by omega)]
  have hle:l.length*6≤(l.flatMap Sym.row++junk).length:=by rw[List.length_append];omega
  have hp:=DO l
  have key:jp (.rs 36 6 Q 0 l.length) s=some (ji l,kill s Q):=by
   unfold jp
   simp only[hQ]
   rw[if_pos ⟨trivial,by decide,by decide,hle,by rw[tk];exact hp.1⟩,tk,hp.2,DN];rfl
  exact key
theorem CS.adE {B:Nat}{m:Int}{s:ag}{l:List Sym}{q:Option Nat}(h:CS B m s l q)(i:Nat):∃s',aB 1 s (.ref B 0) (I i)=some s'∧CS B i s' l q∧Ex s s' (JB B q) (JB B q):=by
 have hst:aB 1 s (.ref B 0) (I i)=some (s.set B (74,[I i,Fq 36 6 l.length q])):=st h.par (by decide) rfl rfl (by show 1≤2;decide)
 refine⟨_,hst,⟨bK h.par,h.row.frame fun Q hq=>bu fun e=>h.ne (by rw[hq,e]),h.ne⟩,.qL s _ (List.mem_cons_self ..) _⟩
theorem aal {mo ch:AV}{ms:List Mo}{ps:List (Bytes×Nd)}(hm:gu mo ms)(U':ms.map Prod.fst=ps.map Prod.fst)(w7:nx (ps.map Prod.snd) ch)(hp:ps.length<1000000):∀(k i:Nat),ps.length-i=k→i≤ps.length →
  ∃N,∀f,N≤f→∀w,k<w→∀n' e (B:Nat) (m:Int) (s:ag) (l:List Sym) (q:Option Nat),CS B m s l q→l≠[]→l.length+((ps.drop i).map fun p=>1+sI p.2).sum<1000000 →
   e 32=I i→e 31=I ps.length→e 30=ch→e 5=.ref B 0→e 0=mo →
   ∃s',aJ (rZ (den C f) n') w e s=some (ji (l++Cm ug i l.length (ps.drop i)),s'):=by
 obtain⟨hl,RA⟩:=w7.facts
 have hml:ms.length=ps.length:=by have:=congrArg List.length U';simpa using this
 intro k
 induction k with
 | zero =>
  intro i hk hi
  refine⟨0,fun f _ w hw n' e B m s l q hB hne hb TX Rj TV e5 e0=>?_⟩
  obtain⟨w,rfl⟩:∃j,w=j+1:=⟨w-1,by omega⟩
  have c:¬i<ps.length:=by omega
  obtain⟨s',h⟩:=hB.Wg hne
  refine⟨s',?_⟩
  rw[List.drop_of_length_le (by omega),Cm,List.append_nil,aJ,rZ]
  simp -implicitDefEqProofs only[sL,TX,Rj,e5,c,h]
 | succ k ih2 =>
  intro i hk hi
  have hlt:i<ps.length:=by omega
  have Cu:(ps.map Prod.snd)[i]?=some ps[i].2:=by rw[List.getElem?_map,List.getElem?_eq_getElem hlt];rfl
  obtain⟨a,ha,hT⟩:=RA Cu
  obtain⟨a1,a2,a3,a4⟩:=hT.cells
  have hst:a.aa=a:=by rw[a4];rfl
  obtain⟨N1,q1⟩:=HF _ ps[i].2 (Nat.le_refl _) a hT
  obtain⟨N2,q2⟩:=ih2 (i+1) (by omega) (by omega)
  refine⟨N1+N2,fun f hf w hw n' e B m s l q hB hne hb TX Rj TV e5 e0=>?_⟩
  obtain⟨w,rfl⟩:∃j,w=j+1:=⟨w-1,by omega⟩
  rw[List.drop_eq_getElem_cons hlt,List.map_cons,List.sum_cons]at hb
  have b7:=fun s=>zH a1 false s
  rw[←a4]at b7
  have z:=nD DL ⟨by simp,rfl⟩ s
  have st:=BH (t:=58) (n:=7) (zc:=[I 0,I 0,.str [],I 0,I 0,I 0,.aN]) (by decide) (by decide) rfl a1 a2 s
  rw[←a4]at st
  -- the module's own symbol
  obtain⟨s1,g1,h1,x1⟩:=(hB.app (58,a.cells)).adE i
  have Va:ms[i]'(by omega)=(ps[i].1,(ms[i]'(by omega)).2):=by
   have:=congrArg (fun l=>l[i]?) U'
   simp only[List.getElem?_map,List.getElem?_eq_getElem hlt,List.getElem?_eq_getElem (show i<ms.length by omega),Option.map_some,Option.some.injEq]at this
   rw[←this]
  have ia:=hm.at (i:=i) (by omega)
  rw[Va]at ia
  have x0:∀s:ag,af false false 1 (.box [.str ps[i].1,.str (ms[i]'(by omega)).2] 0) s=some (.str ps[i].1,s):=fun s=>by rw[cu];rfl
  obtain⟨s2,s3,g2,g3,h3,x3⟩:=h1.push (by omega) ⟨1,i,-1,-1,ps[i].1,true⟩
  have MC:=Fx ⟨1,i,-1,-1,ps[i].1,true⟩
  simp only at MC
  have RJ:=Le ⟨1,i,-1,-1,ps[i].1,true⟩
  obtain⟨L0,L1⟩:=h1.ld
  obtain⟨M0,M1⟩:=h3.ld
  have zi:(l++[(⟨1,i,-1,-1,ps[i].1,true⟩:Sym)]).length=l.length+1:=by rw[List.length_append];rfl
  rw[zi]at M1
  replace M1:af false false 1 (.ref B 1) s3=some (.rs 36 6 s1.length 0 (l.length+1),s3):=M1
  have ll:=Z7 (e:=36) (z:=6) mm s1.length 0 (l.length+1)
  have w1:IntKind.i64.wrap (((l.length+1:Nat):Int)-1)=(l.length:Int):=by rw[wrap64]<;>omega
  have dk:∀X:aU,ba C 24 (bo Tryz.f24 11) [.ae,.ae,.ae,.ae,.get B,.ae,.ae,.ae,.ae,.ae,.ae,.ae,.ae,dyn (oS (Fq 36 6 l.length q)) s1 s2,.ae,.ae,.put B] X=X:=by
   intro X
   cases q with
   | none=>exact K8 B X
   | some Q=>exact K8 B X
  -- the tree's variable is as it was
  have hA:s3[s.length]?=some (58,a.cells):=by
   have n1:s.length∉JB B q:=fun k=>by have:=hB.lt _ k;omega
   rw[x3.fr _ (by have:=x1.len;rw[aP]at this;omega) n1,x1.fr _ (by rw[aP];omega) n1,aW]
  have l7:af false true 7 (.ref s.length 0) s3=some (a,s3):=MA hA a1 a4
  obtain⟨s4,q4,c4,h4,x4⟩:=q1 f (by omega) B i s3 _ _ (l.length:Int) false h3 (by rw[zi];omega)
  have vl:=nZ ug (l.length+1) (l.length:Int) false ps[i].2
  have hlen:(l++[(⟨1,i,-1,-1,ps[i].1,true⟩:Sym)]++(ew ug (l++[(⟨1,i,-1,-1,ps[i].1,true⟩:Sym)]).length (l.length:Int) false ps[i].2).map (Sy.at i))=l++gb ug i l.length ps[i].1 ps[i].2:=by
   rw[zi,List.append_assoc];rfl
  rw[hlen]at h4
  have aeT:(gb ug i l.length ps[i].1 ps[i].2).length≤1+sI ps[i].2:=by unfold gb;rw[List.length_cons,List.length_map];omega
  have w2:=gL (a:=i) (by omega)
  have nrB:(AV.ref B 0).a_=false:=by simp[AV.a_]
  have fin:∀e:Env,e 32=I ((i+1:Nat):Int)→e 31=I ps.length→e 30=ch→e 5=.ref B 0→e 0=mo→∃s',aJ (rZ (den C f) n') w e s4=some (ji (l++Cm ug i l.length (ps.drop i)),s'):=by
   intro e TX Rj TV e5 e0
   obtain⟨s5,r⟩:=q2 f (by omega) w (by omega) n' e B _ s4 _ q4 h4 (by simp[hne]) (by rw[List.length_append];omega) TX Rj TV e5 e0
   refine⟨s5,?_⟩
   rw[r,List.drop_eq_getElem_cons hlt,Cm,List.length_append,List.append_assoc]
  rw[aJ,rZ]
  simp -implicitDefEqProofs only[sL,TX,Rj,TV,e5,e0,hlt,ha,b7,z,st,hst,g1,L0,L1,ia,x0,MC,RJ,g2,dD,g3,dk,cM,M1,ll,w1,l7,c4,w2,hm.aa,nrB,Bool.false_and,Bool.false_eq_true,if_false,U2]
  exact fin _ (by simp[ai,an]) ((ao _ _ _ rfl).trans Rj) ((ao _ _ _ rfl).trans TV) ((ao _ _ _ rfl).trans e5) ((ao _ _ _ rfl).trans e0)
end ParF
end

section
namespace ParF
open Go Go.Abs Go.Proofs Pm sU
def fD:List Bytes:=[[105,110,116],[98,111,111,108],[115,116,114,105,110,103],[83,101,108,102]]
def MD (n:Bytes):Sym:=⟨15,-1,-1,-1,n,false⟩
theorem Bt:lG=fD.map MD:=rfl
theorem Fz:Tryz.prog.underlying 75=some (.slice 9):=by kernel_rfl
theorem Lf (n:Bytes):bn Tryz.prog 36 [(0,I 15),(1,I (-1)),(2,I (-1)),(3,I (-1)),(4,.str n)]=some (.agg (MD n).row):=by
 have hu:(match Tryz.prog.underlying 36 with|some (.struct fs)=>dN Tryz.prog fs.toList|_=>none)=some [(0,1),(1,1),(2,1),(3,1),(4,1),(5,1)]:=by kernel_rfl
 unfold bn
 split at hu
 ·rename_i fs hh
  rw[Ld,hh]
  simp[hu,jo,bZ,AV.cells,AV.ce,Sym.row,MD]
 ·cases hu
theorem Ve:ak Tryz.prog 75 4 [(0,.str [105,110,116]),(1,.str [98,111,111,108]),(2,.str [115,116,114,105,110,103]),(3,.str [83,101,108,102])]=some (.sl 9 1 (fD.map .str) .own):=by kernel_rfl
theorem PU:bn Tryz.prog 74 []=some (.agg [I 0,.aN]):=by kernel_rfl
theorem aam {mo ch:AV}{len:Nat}(hc:ch.aa=ch)(hl:bN Tryz.prog 50 ch=some (I len)):∀(k i:Nat),i+k=4→∀w,k<w→∀(D:a8) n' e (B:Nat)(s:ag)(q:Option Nat),CS B 0 s ((fD.take i).map MD) q →
   e 14=I i→e 13=I 4→e 12=.sl 9 1 (fD.map .str) .own→e 5=.ref B 0→e 0=mo→e 1=ch →
   ∃s' q' e',aJ (vR D n') w e s=aJ (rZ D n') n' e' s'∧CS B 0 s' lG q'∧e' 32=I 0∧e' 31=I len∧e' 30=ch∧e' 5=.ref B 0∧e' 0=mo:=by
 intro k
 induction k with
 | zero =>
  intro i hi w hw D n' e B s q hB E5 xD vx e5 e0 e1
  obtain⟨w,rfl⟩:∃j,w=j+1:=⟨w-1,by omega⟩
  have hi:i=4:=by omega
  subst hi
  refine⟨s,q,bf e [(15,.bool false),(30,ch),(31,I len),(32,I 0)],?_,hB,by simp[ai,an],by simp[ai,an],by simp[ai,an],(ao _ _ _ rfl).trans e5,(ao _ _ _ rfl).trans e0⟩
  rw[aJ,vR]
  simp -implicitDefEqProofs only[sL,E5,xD,e1,hc,hl,show ¬((4:Nat):Int)<4 by decide]
 | succ k ih =>
  intro i hi w hw D n' e B s q hB E5 xD vx e5 e0 e1
  obtain⟨w,rfl⟩:∃j,w=j+1:=⟨w-1,by omega⟩
  have hlt:(i:Int)<4:=by omega
  have hl4:i<fD.length:=by show i<4;omega
  have hr:(fD.map AV.str)[i]?=some (.str fD[i]):=by rw[List.getElem?_map,List.getElem?_eq_getElem hl4];rfl
  have ia:=HC (f:=.own) Fz To hr
  have bx:∀s:ag,af false false 1 (.box (AV.str fD[i]).cells 0) s=some (.str fD[i],s):=fun s=>by rw[cu];rfl
  have hlen:((fD.take i).map MD).length<1000000:=by rw[List.length_map,List.length_take];omega
  obtain⟨s0,s1,g1,g2,g3,g4⟩:=hB.push hlen (MD fD[i])
  have RJ:=Le (MD fD[i])
  have MC:=Lf fD[i]
  obtain⟨L0,L1⟩:=hB.ld
  have w1:=gL (a:=i) (by omega)
  have hcs:(fD.take i).map MD++[MD fD[i]]=(fD.take (i+1)).map MD:=by rw[List.take_succ_eq_append_getElem hl4,List.map_append];rfl
  rw[hcs]at g3
  rw[aJ,vR]
  simp -implicitDefEqProofs only[sL,E5,xD,vx,e5,hlt,ia,bx,L0,L1,MC,RJ,g1,dD,g2,w1]
  exact ih (i+1) (by omega) w (by omega) D n' _ B s1 _ g3 (by simp[ai,an]) ((ao _ _ _ rfl).trans xD) ((ao _ _ _ rfl).trans vx) ((ao _ _ _ rfl).trans e5) ((ao _ _ _ rfl).trans e0) ((ao _ _ _ rfl).trans e1)
theorem kq (l:List Sym):(ji l).a_=true:=by
 unfold ji
 rw[cE]
 induction l with
 | nil=>rfl
 | cons y l ih=>rw[List.map_cons,aC,ih];rfl
theorem Lg {mo ch:AV}{ms:List Mo}{ps:List (Bytes×Nd)}(hm:gu mo ms)(U':ms.map Prod.fst=ps.map Prod.fst)(w7:nx (ps.map Prod.snd) ch)(hb:(ps.map fun p=>1+sI p.2).sum<900000) :
  AC C 24 [mo,ch] (ji (rX ug ps)):=by
 obtain⟨c1,c2,c3⟩:=w7.aa
 obtain⟨hl,-⟩:=w7.facts
 rw[List.length_map]at hl
 have hp:ps.length≤(ps.map fun p=>1+sI p.2).sum:=by
  clear hb hl w7 U'
  induction ps with
  | nil=>exact Nat.zero_le _
  | cons p r ih=>rw[List.map_cons,List.sum_cons,List.length_cons];omega
 have nr:aV [mo,ch]=true:=by rw[aC,aC,aY,hm.a_,c3];rfl
 obtain⟨N,h⟩:=aal hm U' w7 (by omega) ps.length 0 (by omega) (by omega)
 refine .intro adr nr (kq _) ⟨N+ps.length+10,fun f hf=>?_⟩
 have bx:cL true 74 (.agg [I 0,.aN]) []=some (.ref 0 0,[(74,[I 0,.aN])]):=by simp[cL,AV.aa]
 have hB:CS 0 0 [(74,[I 0,.aN])] ((fD.take 0).map MD) none:=⟨rfl,⟨fun _=>rfl,nofun⟩,nofun⟩
 have l4:bN Tryz.prog 75 (.sl 9 1 (fD.map .str) .own)=some (I 4):=K7 Fz
 have go:∀e:Env,e 14=I 0→e 13=I 4→e 12=.sl 9 1 (fD.map .str) .own→e 5=.ref 0 0→e 0=mo→e 1=ch→∃s',aJ (vR (den C f) f) f e [(74,[I 0,.aN])]=some (ji (rX ug ps),s'):=by
  intro e h1 h2 h3 h4 h5 h6
  obtain⟨s',q',e',r1,r2,r3,r4,r5,r6,r7⟩:=aam (mo:=mo) c1 hl 4 0 rfl f (by omega) (den C f) f e 0 _ none hB h1 h2 h3 h4 h5 h6
  obtain⟨s9,k⟩:=h f (by omega) f (by omega) f e' 0 0 s' lG q' r2 (by decide) (by rw[List.drop_zero];show 4+_<_;omega) r3 r4 r5 r6 r7
  exact⟨s9,by rw[r1,k];rfl⟩
 rw[U1,F24]
 simp -implicitDefEqProofs only[sL,PU,bx,Ve,l4]
 exact go _ (by simp[ai,an]) (by simp[ai,an]) (by simp[ai,an]) (by simp[ai,an]) (by simp[ai,an,aH]) (by simp[ai,an,aH])
end ParF
end

section
namespace ParF
open Go Go.Abs Go.Proofs Pm sU
def nF (e z:Nat):List AV→AV
 | []=>.aN
 | x::r=>.sl e z (x::r) .own
def zL (e z:Nat):List AV→AV
 | []=>.aN
 | x::r=>.sl e z (x::r) .sh
theorem vT (e z:Nat)(xs:List AV):(nF e z xs).aa=zL e z xs:=by cases xs<;>rfl
theorem lH (e z:Nat)(xs:List AV):(zL e z xs).aa=zL e z xs:=by cases xs<;>rfl
theorem Vf {t e z:Nat}(hu:Tryz.prog.underlying t=some (.slice e))(hi:BI e z){xs:List AV}(hn:xs.length<1000000000)(x:AV):eB Tryz.prog t t (nF e z xs) (.sl e z [x] .own)=some (nF e z (xs++[x])):=by
 obtain⟨i,zz,h1,h2,h3,h4,h5⟩:=hi
 have hb:(2*(xs.length+1)+768)*i.bytes≤281474976710656:=by
  have:(2*(xs.length+1)+768)*i.bytes≤(2*(xs.length+1)+768)*100:=Nat.mul_le_mul_left _ h5
  omega
 have hb2:xs.length+1≤2305843009213693951:=by omega
 cases xs with
 | nil =>
  have hb1:(2*1+768)*i.bytes≤281474976710656:=hb
  simp[eB,nF,hu,h1,iQ,h2,h3,h4,hb1]
 | cons a r =>
  rw[List.length_cons]at hb hb2
  simp[eB,nF,hu,h1,iQ,h2,h3,h4,hb,hb2]
noncomputable def IXL (t z:Nat)(D:a8)(n:Nat)(k0:Env→ag→aU)(e:Env)(s:ag):aU :=
 oh (mp (aK Tryz.prog .lss 3 (e 8) (e 7)) s) fun t9 s =>
 br t9 (oh (some ((e 8).aa,s)) fun t10 s =>oh (some (t10,s)) fun t5 s =>oh (some ((e 1).aa,s)) fun t11 s =>oh (some ((e 0).aa,s)) fun t12 s =>oh (some (t5.aa,s)) fun t13 s =>oh (mp (aA Tryz.prog t t12 t13) s) fun t14 s =>oh (af false true z t14 s) fun t15 s =>oh (fP Tryz.prog D t11 [t15] s) fun t16 s =>
 br t16 (oh (some (t5.aa,s)) fun t17 s =>oh (some (t17,s)) fun t4_2 s =>
 some (t4_2,s)) (oh (mp (aK Tryz.prog .add 3 (e 8) (.int .i64 1)) s) fun t18 s =>oh (some (t18.aa,s)) fun t8_2 s =>
 k0 (bf e [(9,t9),(10,t10),(10,t10.aa),(5,t5),(11,t11),(12,t12),(13,t13),(14,t14),(15,t15),(16,t16),(18,t18),(8,t8_2)]) s)) (oh (some ((.int .i64 (-1)),s)) fun t4_3 s =>
 some (t4_3,s))
theorem aan:K9=IXL 22 2:=rfl
def BN:Nat→List Bool→Int
 | _,[]=>-1
 | i,b::r=>if b=true then i else BN (i+1) r
def Lh (fv a:AV)(b:Bool):Prop:=∃N,∀n,N≤n→∀s,fP Tryz.prog (den C n) fv [a] s=some (.bool b,s)
def aap (z:Nat)(rows:List AV):Prop:=∀a∈rows,a=.agg a.cells∧a.cells.length=z
theorem Li {t e z:Nat}(hu:Tryz.prog.underlying t=some (.slice e))(hz:da Tryz.prog e=some z){v fv:AV}{rows:List AV}(hv:v=.sl e z rows .sh∨(v=.aN∧rows=[]))(hr:aap z rows)(ME:fv.aa=fv){bs:List Bool}(hl:bs.length=rows.length)
  (hc:∀(i:Nat) a b,rows[i]?=some a→bs[i]?=some b→Lh fv a b)(hn:rows.length<1000000000):∀(k i:Nat),rows.length-i=k→i≤rows.length →
  ∃N,∀f,N≤f→∀w,k<w→∀n' e s,e 8=I i→e 7=I rows.length→e 1=fv→e 0=v→aJ (IXL t z (den C f) n') w e s=some (I (BN i (bs.drop i)),s):=by
 have hvs:v.aa=v:=by rcases hv with rfl|⟨rfl,_⟩<;>rfl
 intro k
 induction k with
 | zero =>
  intro i hk hi
  refine⟨0,fun f _ w hw n' e s e8 e7 e1 e0=>?_⟩
  obtain⟨w,rfl⟩:∃j,w=j+1:=⟨w-1,by omega⟩
  have c:¬i<rows.length:=by omega
  rw[List.drop_of_length_le (by omega),BN,aJ,IXL]
  simp -implicitDefEqProofs only[sL,e8,e7,c]
 | succ k ih =>
  intro i hk hi
  have hlt:i<rows.length:=by omega
  obtain⟨N2,q2⟩:=ih (i+1) (by omega) (by omega)
  have ha:=List.getElem?_eq_getElem hlt
  have hb:=List.getElem?_eq_getElem (l:=bs) (i:=i) (by omega)
  obtain⟨N1,q1⟩:=hc i _ _ ha hb
  refine⟨N1+N2,fun f hf w hw n' e s e8 e7 e1 e0=>?_⟩
  obtain⟨w,rfl⟩:∃j,w=j+1:=⟨w-1,by omega⟩
  have ia:aA Tryz.prog t v (I i)=some (.box rows[i].cells 0):=by
   rcases hv with rfl|⟨_,rfl⟩
   ·exact HC hu hz ha
   ·cases hlt
  obtain⟨r1,r2⟩:=hr _ (List.getElem_mem hlt)
  have bx:=fun s=>zH r2 false s
  rw[←r1]at bx
  have w1:=gL (a:=i) (by omega)
  have q1:=q1 f (by omega)
  rw[List.drop_eq_getElem_cons (l:=bs) (i:=i) (by omega),BN,aJ,IXL]
  cases hbv:bs[i] with
  | true =>
   rw[hbv]at q1
   simp -implicitDefEqProofs only[sL,e8,e7,e1,e0,hvs,ME,hlt,ia,bx,q1]
  | false =>
   rw[hbv]at q1
   rw[if_neg Bool.false_ne_true]
   simp -implicitDefEqProofs only[sL,e8,e7,e1,e0,hvs,ME,hlt,ia,bx,q1,w1]
   exact q2 f (by omega) w (by omega) n' _ _ (by simp[ai,an]) ((ao _ _ _ rfl).trans e7) ((ao _ _ _ rfl).trans e1) ((ao _ _ _ rfl).trans e0)
end ParF
end

section
namespace ParF
open Go Go.Abs Go.Proofs Pm sU
theorem zM:∀(bs:List Bool)(i:Nat),(0≤BN i bs)↔bs.any id=true
 | [],i=>by simp[BN]
 | b::r,i=>by
  rw[BN,List.any_cons]
  cases b with
  | true=>simp
  | false=>simpa using zM r (i+1)
theorem FA {v:AV}{ms:List Mo}(hv:gu v ms){fv:AV}(hn:fv.a_=true)(ME:fv.aa=fv)(p:Mo→Bool)(hc:∀m∈ms,Lh fv (pA m) (p m))(hb:ms.length<1000000000):AC C 60 [v,fv] (I (BN 0 (ms.map p))):=by
 have hv':v=.sl 27 2 (ms.map pA) .sh∨(v=.aN∧ms.map pA=[]):=by
  rcases hv with ⟨h1,h2⟩|h
  ·exact .inr ⟨h1,by rw[h2];rfl⟩
  ·exact .inl h
 obtain⟨N,h⟩:=Li ij Fy hv' (fun a ha=>by obtain⟨m,_,rfl⟩:=List.mem_map.1 ha;exact⟨rfl,rfl⟩) ME (bs:=ms.map p) (by simp) (fun i a b ha hb=>by
  rw[List.getElem?_map,Option.map_eq_some_iff]at ha hb
  obtain⟨m,h1,rfl⟩:=ha
  obtain⟨m',h2,rfl⟩:=hb
  rw[h1]at h2;cases h2
  exact hc m (List.mem_of_getElem? h1)) (by simpa using hb) (ms.map pA).length 0 (by omega) (by omega)
 rw[List.drop_zero]at h
 refine .intro ads (by rw[aC,aC,aY,hv.a_,hn];rfl) rfl ⟨N+ms.length+1,fun f hf=>⟨[],?_⟩⟩
 have hl:=hv.len
 rw[U3,F60,aan]
 simp -implicitDefEqProofs only[sL,hv.aa,hl]
 exact h f (by omega) f (by rw[List.length_map];omega) f _ _ (by simp[ai,an]) (by simp[ai,an]) (by simp[ai,an,aH]) (by simp[ai,an,aH])
theorem HG {D:a8}{g:Nat}{cap:List AV}{a:AV}{s:ag}:fP Tryz.prog D (.fn g [] cap) [a] s=ab Tryz.prog D g ((a::cap).map AV.aa) s:=rfl
theorem AC.PV {g:Nat}{cap:List AV}{a:AV}{b:Bool}(h:AC C g ((a::cap).map AV.aa) (.bool b)):Lh (.fn g [] cap) a b:=by
 obtain⟨N,q⟩:=ep.AC.at h
 exact⟨N,fun n hn s=>by rw[HG];exact q n hn s⟩
theorem Lj (m:Mo):cL false 27 (pA m) []=some (.box [.str m.1,.str m.2] 0,[]):=by rw[pA,kT _ _ _ rfl];rfl
theorem PW (m:Mo)(n:Bytes):AC C 62 [pA m,.box [.str n] 0] (.bool (m.1==n)):=by
 refine .intro adt rfl rfl ⟨1,fun f hf=>⟨[],?_⟩⟩
 rw[U4,F62]
 simp -implicitDefEqProofs only[sL,Lj]
theorem BO {v:AV}{ms:List Mo}(hv:gu v ms)(n:Bytes)(hb:ms.length<1000000000):AC C 45 [v,.str n] (I (BN 0 (ms.map fun m=>m.1==n))):=by
 obtain⟨N,h⟩:=ep.AC.at (FA hv (fv:=.fn 62 [] [.box [.str n] 0]) (by rfl) rfl (fun m=>m.1==n) (fun m _=>AC.PV (PW m n)) hb)
 refine .intro adu (by rw[aC,aC,aY,hv.a_];rfl) rfl ⟨N,fun f hf=>⟨[],?_⟩⟩
 have h:=h f hf
 have bx:cL false 9 (.str n) []=some (.box [.str n] 0,[]):=by rw[kT _ _ _ rfl];rfl
 rw[U5,F45]
 simp -implicitDefEqProofs only[sL,bx,hv.aa,h]
theorem oI {v:AV}{ms:List Mo}(hv:gu v ms){fv:AV}(hn:fv.a_=true)(ME:fv.aa=fv)(p:Mo→Bool)(hc:∀m∈ms,Lh fv (pA m) (p m))(hb:ms.length<1000000000):AC C 41 [v,fv] (.bool (ms.any p)):=by
 obtain⟨N,h⟩:=ep.AC.at (FA hv hn ME p hc hb)
 refine .intro adv (by rw[aC,aC,aY,hv.a_,hn];rfl) rfl ⟨N,fun f hf=>⟨[],?_⟩⟩
 have h:=h f hf
 have e:=zM (ms.map p) 0
 have ea:(ms.map p).any id=ms.any p:=by rw[List.any_map];rfl
 rw[ea]at e
 rw[U6,F41]
 cases hp:ms.any p with
 | true =>
  have e':=e.2 hp
  simp -implicitDefEqProofs only[sL,hv.aa,ME,h,e']
 | false =>
  have e':¬(0≤BN 0 (ms.map p)):=fun q=>by rw[e.1 q]at hp;cases hp
  simp -implicitDefEqProofs only[sL,hv.aa,ME,h,e']
def Wk (l:Bytes):Bool:=decide (l≠[])&&decide (l.length≤30)&&(((ep.first l).1:Int)==(l.length:Int))&&(((ep.first l).2:Int)==103)
theorem Lk (l:Bytes):AC C 44 [.str l] (.bool (Wk l)):=by
 unfold Wk
 by_cases h0:l=[]
 ·subst h0
  refine .intro U9 rfl rfl ⟨1,fun f hf=>⟨[],?_⟩⟩
  rw[DJ,F44]
  simp -implicitDefEqProofs only[sL,iq,show ((([]:Bytes).length:Int)==0)=true from rfl]
  rfl
 obtain⟨c,r,rfl⟩:∃c r,l=c::r:=by cases l with|nil=>exact absurd rfl h0|cons c r=>exact⟨c,r,rfl⟩
 have e0:(((c::r).length:Int)==0)=false:=dm (by rw[List.length_cons];omega)
 by_cases h30:(c::r).length≤30
 ·obtain⟨N,q⟩:=ep.AC.at (ep.xV c r (by omega))
  refine .intro U9 rfl rfl ⟨N+1,fun f hf=>⟨[],?_⟩⟩
  have q:=q f (by omega)
  have e1:¬(30:Int)<((c::r).length:Int):=by omega
  rw[DJ,F44]
  have d0:decide (c::r≠[])=true:=by simp
  have d1:decide ((c::r).length≤30)=true:=by simpa using h30
  rw[d0,d1,Bool.true_and,Bool.true_and]
  cases h1:(((ep.first (c::r)).1:Int)==((c::r).length:Int)) with
  | true =>
   simp -implicitDefEqProofs only[sL,iq,e0,e1,q,ep.gn,h1,Bool.true_and]
  | false =>
   simp -implicitDefEqProofs only[sL,iq,e0,e1,q,ep.gn,h1,Bool.false_and]
 ·refine .intro U9 rfl rfl ⟨1,fun f hf=>⟨[],?_⟩⟩
  have e1:(30:Int)<((c::r).length:Int):=by omega
  rw[DJ,F44]
  have d1:decide ((c::r).length≤30)=false:=by simpa using h30
  rw[d1,Bool.and_false,Bool.false_and,Bool.false_and]
  simp -implicitDefEqProofs only[sL,iq,e0,e1]
theorem Vg (m:Mo):AC C 42 [pA m] (.bool (decide ((2000:Int)<m.2.length))):=by
 refine .intro adw rfl rfl ⟨1,fun f hf=>⟨[],?_⟩⟩
 rw[U7,F42]
 simp -implicitDefEqProofs only[sL,Lj,iq]
theorem Vh (m:Mo):AC C 43 [pA m] (.bool (!Wk m.1)):=by
 obtain⟨N,q⟩:=ep.AC.at (Lk m.1)
 refine .intro adx rfl rfl ⟨N,fun f hf=>⟨[],?_⟩⟩
 have q:=q f hf
 rw[U8,F43]
 simp -implicitDefEqProofs only[sL,Lj,q,Er]
def Ll:List Mo→List Mo→Bool
 | _,[]=>false
 | pre,m::r=>if(pre.any fun x=>x.1==m.1)=true then true else Ll (pre++[m]) r
def qR (ms:List Mo):Int:=if((8:Int)<ms.length)∨(ms.any fun m=>decide ((2000:Int)<m.2.length))=true then 2 else if(ms.any fun m=>!Wk m.1)=true then 3 else if Ll [] ms=true then 6 else 0
theorem gu.take {v:AV}{ms:List Mo}(h:v=.sl 27 2 (ms.map pA) .sh){i:Nat}(hi:i≤ms.length):mL Tryz.prog 22 v none (some (I i)) none=some (.sl 27 2 ((ms.take i).map pA) .sh):=by
 subst h
 simp[mL,ij,Fy,uz,dQ,hi,List.map_take]
theorem Vi {v:AV}{ms:List Mo}(hv:gu v ms)(hb:ms.length<1000000):∀(k i:Nat),ms.length-i=k→i≤ms.length →
  ∃N,∀f,N≤f→∀w,k<w→∀n' e s,e 16=I i→e 15=I ms.length→e 14=v→e 0=v→∃s',aJ (zK (den C f) n') w e s=some (I (if Ll (ms.take i) (ms.drop i)=true then 6 else 0),s'):=by
 intro k
 induction k with
 | zero =>
  intro i hk hi
  refine⟨0,fun f _ w hw n' e s Dt GS E5 e0=>⟨s,?_⟩⟩
  obtain⟨w,rfl⟩:∃j,w=j+1:=⟨w-1,by omega⟩
  have c:¬i<ms.length:=by omega
  rw[List.drop_of_length_le (by omega),Ll,aJ,zK]
  simp -implicitDefEqProofs only[sL,Dt,GS,c]
  rfl
 | succ k ih =>
  intro i hk hi
  have hlt:i<ms.length:=by omega
  have H2:v=.sl 27 2 (ms.map pA) .sh:=by
   rcases hv with ⟨_,rfl⟩|h
   ·cases hlt
   ·exact h
  obtain⟨N1,q1⟩:=ep.AC.at (BO (v:=.sl 27 2 ((ms.take i).map pA) .sh) (ms:=ms.take i) (.inr rfl) ms[i].1 (by rw[List.length_take];omega))
  obtain⟨N2,q2⟩:=ih (i+1) (by omega) (by omega)
  refine⟨N1+N2,fun f hf w hw n' e s Dt GS E5 e0=>?_⟩
  obtain⟨w,rfl⟩:∃j,w=j+1:=⟨w-1,by omega⟩
  have ia:=hv.at hlt
  have b2:=fun s:ag=>zH (n:=2) (a:=[.str ms[i].1,.str ms[i].2]) rfl false s
  have z:=nD uh ⟨by simp,rfl⟩ s
  have st:=BH (t:=27) (n:=2) (zc:=[.str [],.str []]) (a:=[.str ms[i].1,.str ms[i].2]) (by decide) (by decide) rfl rfl rfl s
  have l0:=Wh (t:=27) (o:=0) (a:=[.str ms[i].1,.str ms[i].2]) (v:=.str ms[i].1) (by decide) rfl s
  have tk:=gu.take H2 hi
  have w1:=gL (a:=i) (by omega)
  have q1:=q1 f (by omega)
  have e:=zM ((ms.take i).map fun m=>m.1==ms[i].1) 0
  have ea:((ms.take i).map fun m=>m.1==ms[i].1).any id=(ms.take i).any fun m=>m.1==ms[i].1:=by rw[List.any_map];rfl
  rw[ea]at e
  have nr:aV ((ms.take i).map pA)=true:=vS _
  rw[List.drop_eq_getElem_cons hlt,Ll,aJ,zK]
  cases hp:(ms.take i).any fun m=>m.1==ms[i].1 with
  | true =>
   have e':=e.2 hp
   rw[if_pos rfl,if_pos rfl]
   refine⟨s++[(27,[.str ms[i].1,.str ms[i].2])],?_⟩
   simp -implicitDefEqProofs only[sL,Dt,GS,E5,e0,hlt,ia,b2,z,st,hv.aa,tk,l0,eF,q1,e',cE,nr,RI]
  | false =>
   have e':¬(0≤BN 0 ((ms.take i).map fun m=>m.1==ms[i].1)):=fun q=>by rw[e.1 q]at hp;cases hp
   rw[if_neg Bool.false_ne_true]
   have Me:ms.take i++[ms[i]]=ms.take (i+1):=(List.take_succ_eq_append_getElem hlt).symm
   rw[Me]
   simp -implicitDefEqProofs only[sL,Dt,GS,E5,e0,hlt,ia,b2,z,st,hv.aa,tk,l0,eF,q1,e',cE,nr,RI,w1]
   exact q2 f (by omega) w (by omega) n' _ _ (by simp[ai,an]) ((ao _ _ _ rfl).trans GS) ((ao _ _ _ rfl).trans E5) ((ao _ _ _ rfl).trans e0)
theorem xW {v:AV}{ms:List Mo}(hv:gu v ms)(hb:ms.length<1000000):AC C 30 [v] (I (qR ms)):=by
 obtain⟨N1,q1⟩:=ep.AC.at (oI hv (fv:=.fn 42 [] []) (by rfl) rfl (fun m=>decide ((2000:Int)<m.2.length)) (fun m _=>AC.PV (Vg m)) (by omega))
 obtain⟨N2,q2⟩:=ep.AC.at (oI hv (fv:=.fn 43 [] []) (by rfl) rfl (fun m=>!Wk m.1) (fun m _=>AC.PV (Vh m)) (by omega))
 obtain⟨N3,q3⟩:=Vi hv hb ms.length 0 (by omega) (by omega)
 rw[List.take_zero,List.drop_zero]at q3
 refine .intro ady (by rw[aC,aY,hv.a_];rfl) rfl ⟨N1+N2+N3+ms.length+1,fun f hf=>?_⟩
 have q1:=q1 f (by omega)
 have q2:=q2 f (by omega)
 rw[U_,F30]
 unfold qR
 by_cases c8:(8:Int)<ms.length
 ·rw[if_pos (.inl c8)]
  refine⟨[],?_⟩
  simp -implicitDefEqProofs only[sL,hv.aa,hv.len,c8]
 cases hp:ms.any fun m=>decide ((2000:Int)<m.2.length) with
 | true =>
  rw[hp]at q1
  rw[if_pos (.inr rfl)]
  refine⟨[],?_⟩
  simp -implicitDefEqProofs only[sL,hv.aa,hv.len,c8,q1]
 | false =>
  rw[hp]at q1
  rw[if_neg (by rintro(h|h);exact c8 h;cases h)]
  cases hq:ms.any fun m=>!Wk m.1 with
  | true =>
   rw[hq]at q2
   rw[if_pos rfl]
   refine⟨[],?_⟩
   simp -implicitDefEqProofs only[sL,hv.aa,hv.len,c8,q1,q2]
  | false =>
   rw[hq]at q2
   rw[if_neg Bool.false_ne_true]
   simp -implicitDefEqProofs only[sL,hv.aa,hv.len,c8,q1,q2]
   exact q3 f (by omega) f (by omega) f _ _ (by simp[ai,an]) (by simp[ai,an]) (by simp[ai,an]) (by simp[ai,an,aH])
end ParF
end

section
namespace ParF
open Go Go.Abs Go.Proofs Pm
theorem xX (a b:Int)(n:Nd):sI (n.place a b)=sI n:=by cases n;rw[Nd.place,nC,nC]
mutual
theorem szB (src:Bytes):∀(o:Nat)(t:az),sI (aS src o t).1≤yU t
 | o,.mk k x cs=>by
  have i:=Vj src k o (h0 o) cs
  rw[eX,aZ]
  unfold gP
  simp only
  split
  ·rw[xX]
   cases hn:(aQ src k o (h0 o) cs).ns with
   | nil=>show sI (.mk _ _ _ _ _ _ [])≤_;rw[nC,mI];omega
   | cons a r =>
    rw[hn,mI]at i
    show sI a≤_;omega
  ·split
   ·rw[nC,mI];omega
   ·rw[nC];omega
theorem Vj (src:Bytes)(k:Int):∀(o:Nat)(h:Hd)(cs:List az),mI (aQ src k o h cs).ns≤dC cs
 | o,h,[]=>by rw[db,mI];omega
 | o,h,t::ts=>by
  by_cases c:100≤t.kind
  ·rw[cA src k o h t ts c,dC]
   have:=Vj src k (o+t.text.length) (cP k h t.kind t.text o).1 ts
   simp only;omega
  ·rw[cS src k o h t ts c,dC]
   have:=Vj src k (o+(dj t).length) (h.ext (aS src o t).1.s (aS src o t).1.e) ts
   have:=szB src o t
   simp only[mI];omega
end
theorem szA (src:Bytes)(t:az):sI (kV src t).1≤yU t:=by
 show sI (((aS src 0 t).1).place 0 src.length)≤_
 rw[xX];exact szB src 0 t
theorem n_:∀d:List Dr,(fq d).length≤d.length
 | []=>Nat.le_refl _
 | [d]=>Nat.le_refl _
 | a::b::r=>by
  have:=n_ (b::r)
  rw[fq]
  split
  ·rw[List.length_cons];omega
  ·rw[List.length_cons,List.length_cons];omega
end ParF
end

section
namespace ParF
open Go Go.Abs Go.Proofs Pm sU
def AP (l:Bytes)(p:az×AV):Prop:=pn (ep.gm l) p.1∧qK (kV l p.1).1 p.2∧AC C 31 [.str l] (.aI [p.2,jg (kV l p.1).2,I 0])
instance:Nonempty (az×AV):=⟨default⟩
noncomputable def pB (l:Bytes):az×AV:=Classical.epsilon (AP l)
theorem jP {l:Bytes}(hl:l.length≤2000):AP l (pB l):=Classical.epsilon_spec (p:=AP l) (by
 obtain⟨T,a,h1,h2,h3⟩:=PJ l hl
 exact⟨(T,a),h1,h2,h3⟩)
noncomputable def zN (l:Bytes):Nd:=(kV l (pB l).1).1
noncomputable def sV (l:Bytes):List Dg:=(kV l (pB l).1).2
theorem PX {l:Bytes}(hl:l.length≤2000):sI (zN l)≤48001:=by
 have h:=ie (by omega) (jP hl).1
 have:=szA l (pB l).1
 unfold zN;omega
def HI (ds:List Dg):List Dr:=if ds=[] then[] else fq (yH (ds.map qP))
theorem Lm (ds:List Dg):jg ds=zL 71 5 ((HI ds).map fun r=>.agg r.row):=by
 unfold jg HI
 by_cases h:ds=[]
 ·rw[if_pos h,if_pos h];rfl
 ·rw[if_neg h,if_neg h]
  have h2:fq (yH (ds.map qP))≠[]:=Bw _ (fun e=>by
   have:=congrArg List.length e
   rw[mj,List.length_map]at this
   exact h (List.length_eq_zero_iff.1 this))
  cases hc:fq (yH (ds.map qP)) with
  | nil=>exact absurd hc h2
  | cons a r=>rfl
theorem Ln {l:Bytes}(hl:l.length≤2000):(HI (sV l)).length≤60000:=by
 obtain⟨h1,h2,h3,-⟩:=ie (by omega) (jP hl).1
 have:=vK l 0 (pB l).1 h1
 rw[h2]at this
 have e:(sV l).length=(aS l 0 (pB l).1).2.length:=rfl
 unfold HI
 split
 ·exact Nat.zero_le _
 ·have a:=n_ (yH ((sV l).map qP))
  rw[mj,List.length_map]at a
  omega
def Vk (i:Nat)(r:Dr):AV:=.agg [I r.c,I i,I r.s,I r.e,.str []]
noncomputable def Vl:Nat→List Mo→List AV
 | _,[]=>[]
 | i,m::r=>(HI (sV m.2)).map (Vk i)++Vl (i+1) r
noncomputable def MF (m:Mo):AV:=(pB m.2).2
theorem qS:Tryz.prog.underlying 51=some (.slice 71):=by kernel_rfl
theorem aaq:da Tryz.prog 71=some 5:=by kernel_rfl
theorem Lo:BI 71 5:=Ft (by kernel_rfl)
theorem Lq:BI 58 7:=Ft (by kernel_rfl)
theorem Vm:zeroOf Tryz.prog 71=some (.agg [I 0,I 0,I 0,I 0,.str []]):=by kernel_rfl
theorem Vn {t e z:Nat}(hu:Tryz.prog.underlying t=some (.slice e))(hs:da Tryz.prog e=some z)(hi:BI e z)(hz:z<1000){a:List AV}(ha:a.length=z):ak Tryz.prog t 1 [(0,.agg a)]=some (.sl e z [.agg a] .own):=by
 obtain⟨i,zz,h1,h2,h3,h4,h5⟩:=hi
 have:z≤16777216:=by omega
 simp[ak,hu,hs,h1,h3,h4,k7,AV.cells,AV.ce,ha,this]
theorem Vo {k0:Env→ag→aU}{rows:List Dr}{v:AV}(hv:v=zL 71 5 (rows.map fun r=>.agg r.row))(hr:rows.length<1000000)(mi:Nat):∀(k j:Nat),rows.length-j=k→j≤rows.length→∀w,k<w→∀(D:a8) n' e s (acc:List AV),acc.length+(rows.length-j)<1000000 →
  e 40=I j→e 39=I rows.length→e 38=v→e 8=I mi→e 7=nF 71 5 acc→(Va:mi<1000000)→e 22=I mi →
  ∃e' s',aJ (pt D n' k0) w e s=k0 e' s'∧e' 22=I ((mi+1:Nat):Int)∧e' 7=nF 71 5 (acc++(rows.drop j).map (Vk mi))∧∀x,x=0∨x=6∨x=20∨x=21→e' x=e x:=by
 intro k
 induction k with
 | zero =>
  intro j hk hj w hw D n' e s acc ha e40 Wa My e8 e7 Va rc
  obtain⟨w,rfl⟩:∃j,w=j+1:=⟨w-1,by omega⟩
  have c:¬j<rows.length:=by omega
  have w1:=gL (a:=mi) (by omega)
  refine⟨bf e [(41,.bool false),(51,I ((mi+1:Nat):Int)),(22,I ((mi+1:Nat):Int))],s,?_,by simp[ai,an],?_,fun x hx=>ao _ _ _ (by rcases hx with rfl|rfl|rfl|rfl<;>rfl)⟩
  ·rw[aJ,pt]
   simp -implicitDefEqProofs only[sL,e40,Wa,rc,c,w1]
  ·rw[List.drop_of_length_le (by omega),List.map_nil,List.append_nil]
   exact(ao _ _ _ rfl).trans e7
 | succ k ih =>
  intro j hk hj w hw D n' e s acc ha e40 Wa My e8 e7 Va rc
  obtain⟨w,rfl⟩:∃j,w=j+1:=⟨w-1,by omega⟩
  have hlt:j<rows.length:=by omega
  have H2:v=.sl 71 5 (rows.map fun r=>.agg r.row) .sh:=by
   rw[hv]
   cases rows with
   | nil=>cases hlt
   | cons a r=>rfl
  have ia:aA Tryz.prog 51 v (I j)=some (.box rows[j].row 0):=by
   rw[H2]
   exact HC qS aaq (a:=.agg rows[j].row) (by rw[List.getElem?_map,List.getElem?_eq_getElem hlt];rfl)
  have b5:=fun s:ag=>zH (n:=5) (a:=rows[j].row) rfl false s
  have z:=nD Vm ⟨by simp,rfl⟩ s
  have st:=BH (t:=71) (n:=5) (zc:=[I 0,I 0,I 0,I 0,.str []]) (a:=rows[j].row) (by decide) (by decide) rfl rfl rfl s
  have st1:aB 1 (s++[(71,rows[j].row)]) (.ref s.length 1) (I mi)=some (s++[(71,[I rows[j].c,I mi,I rows[j].s,I rows[j].e,.str []])]):=by
   rw[ParF.st (n:=1) (o:=1) (v:=I mi) aW (by decide) rfl rfl (by show 2≤5;decide),eG];rfl
  have l5:=UW (t:=71) (n:=5) (a:=[I rows[j].c,I mi,I rows[j].s,I rows[j].e,.str []]) (by decide) (by decide) rfl s
  have li:=Vn qS aaq Lo (by decide) (a:=[I rows[j].c,I mi,I rows[j].s,I rows[j].e,.str []]) rfl
  have ap:=Vf qS Lo (xs:=acc) (by omega) (Vk mi rows[j])
  have w1:=gL (a:=j) (by omega)
  have step:∃e1 s1,aJ (pt D n' k0) (w+1) e s=aJ (pt D n' k0) w e1 s1∧e1 40=I ((j+1:Nat):Int)∧e1 7=nF 71 5 (acc++[Vk mi rows[j]])∧∀x,x=39∨x=38∨x=8∨x=22∨x=0∨x=6∨x=20∨x=21→e1 x=e x:=by
   rw[aJ,pt]
   unfold Vk at ap ⊢
   simp -implicitDefEqProofs only[sL,e40,Wa,My,e8,e7,hlt,ia,b5,z,st,st1,l5,li,ap,w1]
   exact⟨_,_,rfl,by simp[ai,an],by simp[ai,an],fun x hx=>ao _ _ _ (by rcases hx with rfl|rfl|rfl|rfl|rfl|rfl|rfl|rfl<;>rfl)⟩
  obtain⟨e1,s1,g1,g2,g3,g4⟩:=step
  obtain⟨e',s',h1,h2,h3,h4⟩:=ih (j+1) (by omega) (by omega) w (by omega) D n' e1 s1 (acc++[Vk mi rows[j]]) (by rw[List.length_append,List.length_singleton];omega)
   g2 ((g4 39 (by omega)).trans Wa) ((g4 38 (by omega)).trans My) ((g4 8 (by omega)).trans e8) g3 Va ((g4 22 (by omega)).trans rc)
  refine⟨e',s',g1.trans h1,h2,?_,fun x hx=>(h4 x hx).trans (g4 x (by omega))⟩
  rw[h3,List.drop_eq_getElem_cons hlt,List.map_cons,List.append_assoc];rfl
theorem aar {v:AV}{ms:List Mo}(hv:gu v ms)(hs:∀m∈ms,m.2.length≤2000)(hb:ms.length≤8):∀(k i:Nat),ms.length-i=k→i≤ms.length →
  ∃N,∀f,N≤f→∀w,k<w→∀n',N≤n'→∀e s (tr dg:List AV),tr.length≤i→dg.length≤60000*i→e 22=I i→e 21=I ms.length→e 20=v→e 6=nF 58 7 tr→e 7=nF 71 5 dg →
   ∃s',aJ (pu (den C f) n') w e s=some (.aI [zL 58 7 (tr++(ms.drop i).map MF),zL 71 5 (dg++Vl i (ms.drop i)),I 0],s'):=by
 intro k
 induction k with
 | zero =>
  intro i hk hi
  refine⟨0,fun f _ w hw n' _ e s tr dg ht hd rc Ck xE e6 e7=>⟨s,?_⟩⟩
  obtain⟨w,rfl⟩:∃j,w=j+1:=⟨w-1,by omega⟩
  have c:¬i<ms.length:=by omega
  rw[List.drop_of_length_le (by omega),List.map_nil,List.append_nil,Vl,List.append_nil,aJ,pu]
  simp -implicitDefEqProofs only[sL,rc,Ck,e6,e7,c,vT]
 | succ k ih =>
  intro i hk hi
  have hlt:i<ms.length:=by omega
  have Mb:=hs _ (List.getElem_mem hlt)
  obtain⟨p1,p2,p3⟩:=jP Mb
  obtain⟨N1,q1⟩:=ep.AC.at p3
  obtain⟨N2,q2⟩:=ih (i+1) (by omega) (by omega)
  refine⟨N1+N2+60001,fun f hf w hw n' RW e s tr dg ht hd rc Ck xE e6 e7=>?_⟩
  obtain⟨w,rfl⟩:∃j,w=j+1:=⟨w-1,by omega⟩
  have q1:=q1 f (by omega)
  obtain⟨a1,a2,a3,a4⟩:=p2.cells
  have ia:=hv.at hlt
  have b2:=fun s:ag=>zH (n:=2) (a:=[.str ms[i].1,.str ms[i].2]) rfl false s
  have z:=nD uh ⟨by simp,rfl⟩ s
  have st:=BH (t:=27) (n:=2) (zc:=[.str [],.str []]) (a:=[.str ms[i].1,.str ms[i].2]) (by decide) (by decide) rfl rfl rfl s
  have l1:=Wh (t:=27) (o:=1) (a:=[.str ms[i].1,.str ms[i].2]) (v:=.str ms[i].2) (by decide) rfl s
  obtain⟨s1,Cg⟩:∃s1,s++[(27,[AV.str ms[i].1,AV.str ms[i].2])]=s1:=⟨_,rfl⟩
  rw[Cg]at st l1
  have z7:=nD DL ⟨by simp,rfl⟩ s1
  have H_:=BH (t:=58) (n:=7) (zc:=[I 0,I 0,.str [],I 0,I 0,I 0,.aN]) (by decide) (by decide) rfl a1 a2 s1
  rw[←a4]at H_
  have l7:=UW (t:=58) (n:=7) (by decide) (by decide) a1 s1
  rw[←a4]at l7
  have hst:(pB ms[i].2).2.aa=(pB ms[i].2).2:=by rw[a4];rfl
  have li:=Vn iO Py Lq (by decide) a1
  rw[←a4]at li
  have ap:=Vf iO Lq (xs:=tr) (by omega) (MF ms[i])
  unfold MF at ap
  have hdl:=Ln Mb
  have eo:jg (kV ms[i].2 (pB ms[i].2).1).2=zL 71 5 ((HI (sV ms[i].2)).map fun r=>.agg r.row):=Lm _
  rw[eo]at q1
  have adF:bN Tryz.prog 51 (zL 71 5 ((HI (sV ms[i].2)).map fun r=>.agg r.row))=some (I (HI (sV ms[i].2)).length):=by
   cases HI (sV ms[i].2) with
   | nil=>exact Z6 qS
   | cons a r=>rw[List.map_cons,zL,K7 qS,List.length_cons,List.length_cons,List.length_map]
  have step:∃e1 s2,aJ (pu (den C f) n') (w+1) e s=aJ (pt (den C f) n' (aJ (pu (den C f) n') w)) n' e1 s2∧e1 40=I 0∧e1 39=I (HI (sV ms[i].2)).length∧e1 38=zL 71 5 ((HI (sV ms[i].2)).map fun r=>.agg r.row)∧e1 8=I i∧e1 6=nF 58 7 (tr++[MF ms[i]])∧∀x,x=7∨x=22∨x=0∨x=20∨x=21→e1 x=e x:=by
   rw[aJ,pu]
   unfold MF
   simp -implicitDefEqProofs only[sL,rc,Ck,xE,e6,e7,hlt,ia,b2,z,st,l1,Cg,q1,lH,hst,z7,H_,l7,li,ap,adF]
   exact⟨_,_,rfl,by simp[ai,an],by simp[ai,an],by simp[ai,an],by simp[ai,an],by simp[ai,an],fun x hx=>ao _ _ _ (by rcases hx with rfl|rfl|rfl|rfl|rfl<;>rfl)⟩
  obtain⟨e1,s2,g1,g2,g3,g4,g5,g6,g7⟩:=step
  obtain⟨e2,s3,h1,h2,h3,h4⟩:=Vo (k0:=aJ (pu (den C f) n') w) (rows:=HI (sV ms[i].2)) rfl (by omega) i _ 0 rfl (by omega) n' (by omega) (den C f) n' e1 s2 dg (by omega) g2 g3 g4 g5 ((g7 7 (by omega)).trans e7) (by omega) ((g7 22 (by omega)).trans rc)
  rw[List.drop_zero]at h3
  obtain⟨s9,r⟩:=q2 f (by omega) w (by omega) n' (by omega) e2 s3 (tr++[MF ms[i]]) (dg++(HI (sV ms[i].2)).map (Vk i)) (by rw[List.length_append,List.length_singleton];omega) (by rw[List.length_append,List.length_map];omega)
   h2 (((h4 21 (by omega)).trans (g7 21 (by omega))).trans Ck) (((h4 20 (by omega)).trans (g7 20 (by omega))).trans xE) ((h4 6 (by omega)).trans g6) h3
  refine⟨s9,?_⟩
  rw[g1,h1,r,List.drop_eq_getElem_cons hlt,List.map_cons,Vl,List.append_assoc,List.append_assoc];rfl
theorem r8 (e z:Nat){xs:List AV}(h:aV xs=true):(zL e z xs).a_=true:=by
 cases xs with
 | nil=>rfl
 | cons a r=>rw[zL,cE];exact h
theorem xY {xs:List AV}(h:∀x∈xs,x.a_=true):aV xs=true:=by
 induction xs with
 | nil=>rfl
 | cons a r ih=>rw[aC,h a (List.mem_cons_self ..),ih fun x hx=>h x (List.mem_cons_of_mem _ hx)];rfl
theorem xZ:∀(i:Nat)(ms:List Mo),aV (Vl i ms)=true
 | _,[]=>rfl
 | i,m::r=>by
  refine xY fun x hx=>?_
  rw[Vl]at hx
  rcases List.mem_append.1 hx with hx|hx
  ·obtain⟨d,_,rfl⟩:=List.mem_map.1 hx;rfl
  ·have:=xZ (i+1) r
   have all:∀(l:List AV),aV l=true→∀x∈l,x.a_=true:=by
    intro l
    induction l with
    | nil=>intro _ x hx;cases hx
    | cons a l ih =>
     intro h x hx
     rw[aC,Bool.and_eq_true]at h
     rcases List.mem_cons.1 hx with rfl|hx
     ·exact h.1
     ·exact ih h.2 x hx
   exact all _ this x hx
theorem zO {ms:List Mo}(h:qR ms=0):ms.length≤8∧∀m∈ms,m.2.length≤2000:=by
 unfold qR at h
 split at h
 ·cases h
 ·rename_i c
  rw[not_or]at c
  refine⟨by omega,fun m hm=>?_⟩
  have:=c.2
  by_cases q:m.2.length≤2000
  ·exact q
  ·exact absurd (List.any_eq_true.2 ⟨m,hm,by simp;omega⟩) this
theorem Lr {v:AV}{ms:List Mo}(hv:gu v ms)(hb:ms.length<1000000)(h0:qR ms=0):AC C 23 [v] (.aI [zL 58 7 (ms.map MF),zL 71 5 (Vl 0 ms),I 0]):=by
 obtain⟨h8,hs⟩:=zO h0
 obtain⟨N1,q1⟩:=ep.AC.at (xW hv hb)
 obtain⟨N2,q2⟩:=aar hv hs h8 ms.length 0 (by omega) (by omega)
 rw[h0]at q1
 have nt:aV (ms.map MF)=true:=xY fun x hx=>by
  obtain⟨m,hm,rfl⟩:=List.mem_map.1 hx
  exact(jP (hs m hm)).2.1.a_
 refine .intro aad (by rw[aC,aY,hv.a_];rfl) (by rw[jK,aC,aC,r8 _ _ nt,r8 _ _ (xZ 0 ms)];rfl) ⟨N1+N2+ms.length+1,fun f hf=>?_⟩
 have q1:=q1 f (by omega)
 have q2:=q2 f (by omega) f (by omega) f (by omega)
 rw[List.drop_zero]at q2
 rw[K_,F23]
 simp -implicitDefEqProofs only[sL,hv.aa,hv.len,q1,show ((0:Int) != 0)=false from rfl]
 exact q2 _ _ [] [] (by simp) (by simp) (by simp[ai,an]) (by simp[ai,an]) (by simp[ai,an]) (by simp[ai,an,nF]) (by simp[ai,an,nF])
theorem PY {v:AV}{ms:List Mo}(hv:gu v ms)(hb:ms.length<1000000)(h0:qR ms≠0):AC C 23 [v] (.aI [.aN,.aN,I (qR ms)]):=by
 obtain⟨N1,q1⟩:=ep.AC.at (xW hv hb)
 refine .intro aad (by rw[aC,aY,hv.a_];rfl) rfl ⟨N1,fun f hf=>⟨[],?_⟩⟩
 have q1:=q1 f (by omega)
 have e:(qR ms != 0)=true:=by simpa using h0
 rw[K_,F23]
 simp -implicitDefEqProofs only[sL,hv.aa,hv.len,q1,e]
noncomputable def r9 (ms:List Mo):List (Bytes×Nd):=ms.map fun m=>(m.1,zN m.2)
theorem PZ {ms:List Mo}(hs:∀m∈ms,m.2.length≤2000):nx ((r9 ms).map Prod.snd) (zL 58 7 (ms.map MF)):=by
 have hl:iH ((r9 ms).map Prod.snd) (ms.map MF):=by
  unfold r9
  induction ms with
  | nil=>exact .nil
  | cons m r ih=>exact .cons _ _ _ _ (jP (hs m (List.mem_cons_self ..))).2.1 (ih fun x hx=>hs x (List.mem_cons_of_mem _ hx))
 cases ms with
 | nil=>exact .nil
 | cons m r=>exact .sl _ _ hl
theorem FB {ms:List Mo}(h8:ms.length≤8)(hs:∀m∈ms,m.2.length≤2000):((r9 ms).map fun p=>1+sI p.2).sum<900000:=by
 have:∀l:List Mo,(∀m∈l,m.2.length≤2000)→((r9 l).map fun p=>1+sI p.2).sum≤48002*l.length:=by
  intro l
  induction l with
  | nil=>intro _;exact Nat.le_refl _
  | cons m r ih =>
   intro h
   have a:=ih fun x hx=>h x (List.mem_cons_of_mem _ hx)
   have b:=PX (h m (List.mem_cons_self ..))
   show 1+sI (zN m.2)+((r9 r).map fun p=>1+sI p.2).sum≤_
   rw[List.length_cons];omega
 have:=this ms hs
 omega
noncomputable def dM (ms:List Mo):List Sym:=rX ug (r9 ms)
theorem BP {v:AV}{ms:List Mo}(hv:gu v ms)(hb:ms.length<1000000)(h0:qR ms=0):AC C 13 [v] (.aI [ji (dM ms),I 0]):=by
 obtain⟨h8,hs⟩:=zO h0
 obtain⟨N1,q1⟩:=ep.AC.at (Lr hv hb h0)
 obtain⟨N2,q2⟩:=ep.AC.at (Lg hv (ps:=r9 ms) (by unfold r9;rw[List.map_map];rfl) (PZ hs) (FB h8 hs))
 refine .intro aae (by rw[aC,aY,hv.a_];rfl) (by rw[jK,aC,kq];rfl) ⟨N1+N2,fun f hf=>⟨[],?_⟩⟩
 have q1:=q1 f (by omega)
 have q2:=q2 f (by omega)
 rw[La,F13]
 simp -implicitDefEqProofs only[sL,hv.aa,q1,lH,show ((0:Int) != 0)=false from rfl,q2]
 rfl
theorem DP {v:AV}{ms:List Mo}(hv:gu v ms)(hb:ms.length<1000000)(h0:qR ms≠0):AC C 13 [v] (.aI [.aN,I (qR ms)]):=by
 obtain⟨N1,q1⟩:=ep.AC.at (PY hv hb h0)
 refine .intro aae (by rw[aC,aY,hv.a_];rfl) rfl ⟨N1,fun f hf=>⟨[],?_⟩⟩
 have q1:=q1 f (by omega)
 have e:(qR ms != 0)=true:=by simpa using h0
 rw[La,F13]
 simp -implicitDefEqProofs only[sL,hv.aa,q1,e]
end ParF
end

section
namespace ParF
open Go Go.Abs Go.Proofs Pm sU
abbrev dG:List AV:=[I 0,I 0,.str [],I 0,I 0,I 0,.aN]
def FR (o:Option Nd)(r:AV):Prop:=match o with
 | some m=>qK m r
 | none=>r=.agg dG
theorem FR.cells {o:Option Nd}{r:AV}(h:FR o r):r.cells.length=7∧r.cells.map AV.aa=r.cells∧r=.agg r.cells∧r.a_=true:=by
 cases o with
 | none=>have h:r=.agg dG:=h;subst h;exact⟨rfl,rfl,rfl,rfl⟩
 | some m=>obtain⟨a,b,c,d⟩:=qK.cells (t:=m) h;exact⟨a,b,d,qK.a_ (t:=m) h⟩
theorem BQ (l:List Sym):bN Tryz.prog 29 (ji l)=some (I l.length):=by unfold ji;rw[K7 mm,List.length_map]
theorem P0 {l:List Sym}{k:Nat}{y:Sym}(h:l[k]?=some y):aA Tryz.prog 29 (ji l) (I k)=some (.box y.row 0) :=
 HC mm Vc (a:=PT y) (by rw[List.getElem?_map,h];rfl)
theorem kQ (l:List Sym):(ji l).aa=ji l:=rfl
end ParF
end

section
namespace Vp
open Go Go.Abs Go.Proofs ParF
-- glossatorref1.Mod
noncomputable def pg (D:a8)(n:Nat)(e:Env)(s:ag):aU :=
 oh (some ((e 5).aa,s)) fun t14 s =>oh (some (t14,s)) fun t4_2 s =>
 some (t4_2,s)
noncomputable def ZK (D:a8)(n:Nat)(t0 t1:AV)(s:ag):aU :=
 oh (some ((.int .i64 0),s)) fun t4 s =>oh (some (t0.aa,s)) fun t6 s =>oh (some (t1.aa,s)) fun t7 s =>oh (mp (aK Tryz.prog .rem 3 t6 t7) s) fun t8 s =>oh (some (t8,s)) fun t5 s =>oh (some (t5.aa,s)) fun t9 s =>oh (mp (aK Tryz.prog .lss 3 t9 (.int .i64 0)) s) fun t10 s =>
 br t10 (oh (some (t5.aa,s)) fun t11 s =>oh (some (t1.aa,s)) fun t12 s =>oh (mp (aK Tryz.prog .add 3 t11 t12) s) fun t13 s =>oh (some (t13,s)) fun UC s =>
 pg D n (bf (aH [t0,t1]) [(4,t4),(6,t6),(7,t7),(8,t8),(8,t8.aa),(5,t5),(9,t9),(10,t10),(11,t11),(12,t12),(13,t13),(13,t13.aa),(5,UC)]) s)
  (pg D n (bf (aH [t0,t1]) [(4,t4),(6,t6),(7,t7),(8,t8),(8,t8.aa),(5,t5),(9,t9),(10,t10)]) s)
theorem Dw (n:Nat)(t0 t1:AV)(s:ag):den C (n+1) 10 [t0,t1] s=ZK (den C n) n t0 t1 s :=
 (am rfl Tryz.func10 _ _).trans (by kernel_rfl)
theorem UD:ah Tryz.prog 10=true:=by kernel_rfl
-- glossatorkeep1.short
noncomputable def Te (D:a8)(n:Nat)(t0 t1:AV)(s:ag):aU :=
 oh (some ((.str []),s)) fun t4 s =>oh (some (t0.aa,s)) fun t5 s =>oh (some (t0.aa,s)) fun t6 s =>oh (mp (bN Tryz.prog 9 t6) s) fun t7 s =>oh (some (t1.aa,s)) fun t8 s =>oh (mp (Ag t7 t8) s) fun t9 s =>oh (mp (mL Tryz.prog 9 t5 none (some t9) none) s) fun t10 s =>oh (some (t10,s)) fun t4_2 s =>
 some (t4_2,s)
theorem yQ (n:Nat)(t0 t1:AV)(s:ag):den C (n+1) 12 [t0,t1] s=Te (den C n) n t0 t1 s :=
 (am rfl Tryz.func12 _ _).trans (by kernel_rfl)
theorem Oq:ah Tryz.prog 12=true:=by kernel_rfl
-- glossatorref1.Clone api.Module
noncomputable def F11 (D:a8)(n:Nat)(t0:AV)(s:ag):aU :=
 oh (some (.aN,s)) fun t2 s =>oh (some (t0.aa,s)) fun t3 s =>oh (bA Tryz.prog 22 22 .aN t3 s) fun t4 s =>oh (some (t4,s)) fun t2_2 s =>
 some (t2_2,s)
theorem PN (n:Nat)(t0:AV)(s:ag):den C (n+1) 11 [t0] s=F11 (den C n) n t0 s :=
 (am rfl Tryz.func11 _ _).trans (by kernel_rfl)
theorem ac1:ah Tryz.prog 11=true:=by kernel_rfl
-- glossatorref1.SymbolAt
noncomputable def BE (D:a8)(n:Nat)(k0:Env→ag→aU)(e:Env)(s:ag):aU :=
 oh (mp (aK Tryz.prog .lss 3 (e 11) (e 10)) s) fun t12 s =>
 br t12 (oh (some ((e 11).aa,s)) fun t13 s =>oh (mp (aA Tryz.prog 29 (e 9) (e 11)) s) fun t14 s =>oh (af false true 6 t14 s) fun t15 s =>oh (bH Tryz.prog 36 s) fun t8 s =>oh (some (t13,s)) fun t7 s =>oh (dZ (aB 6 s t8 t15)) fun _r s =>oh (mp (aD 1 t8) s) fun t16 s =>oh (af false false 1 t16 s) fun t17 s =>oh (some ((e 1).aa,s)) fun t18 s =>oh (mp (aK Tryz.prog .eql 3 t17 t18) s) fun t19 s =>oh (some (t19.aa,s)) fun t20 s =>oh (gd (wA t20 true) s (mp (aD 2 t8) s)) fun t21 s =>oh (gd (wA t20 true) s (af false false 1 t21 s)) fun t22 s =>oh (gd (wA t20 true) s (some ((e 2).aa,s))) fun t23 s =>oh (gd (wA t20 true) s (mp (aK Tryz.prog .eql 3 t22 t23) s)) fun t24 s =>oh (mp (bQ t20 t24 (.bool false)) s) fun t25 s =>
 br t25 (oh (some (t7.aa,s)) fun t26 s =>oh (some (t26,s)) fun rM s =>
 some (rM,s)) (oh (mp (aK Tryz.prog .add 3 (e 11) (.int .i64 1)) s) fun t27 s =>oh (some (t27.aa,s)) fun Vb s =>
 k0 (bf e [(12,t12),(13,t13),(14,t14),(15,t15),(8,t8),(13,t13.aa),(7,t7),(15,t15.aa),(16,t16),(17,t17),(18,t18),(19,t19),(20,t20),(21,t21),(22,t22),(23,t23),(24,t24),(25,t25),(27,t27),(11,Vb)]) s)) (oh (some ((.int .i64 (-1)),s)) fun Uw s =>
 some (Uw,s))
noncomputable def F20 (D:a8)(n:Nat)(t0 t1 t2:AV)(s:ag):aU :=
 oh (some ((.int .i64 0),s)) fun t6 s =>oh (some (t0.aa,s)) fun t9 s =>oh (mp (bN Tryz.prog 29 t9) s) fun t10 s =>oh (some ((.int .i64 0),s)) fun t11 s =>
 aJ (BE D n) n (bf (aH [t0,t1,t2]) [(6,t6),(9,t9),(10,t10),(11,t11)]) s
theorem PO (n:Nat)(t0 t1 t2:AV)(s:ag):den C (n+1) 20 [t0,t1,t2] s=F20 (den C n) n t0 t1 t2 s :=
 (am rfl Tryz.func20 _ _).trans (by kernel_rfl)
theorem adm:ah Tryz.prog 20=true:=by kernel_rfl
-- glossatorref1.OfModule
noncomputable def BF (D:a8)(n:Nat)(k0:Env→ag→aU)(e:Env)(s:ag):aU :=
 oh (mp (aK Tryz.prog .add 3 (e 14) (.int .i64 1)) s) fun t34 s =>oh (some (t34.aa,s)) fun aaa s =>
 k0 (bf e [(34,t34),(14,aaa)]) s
noncomputable def BG (D:a8)(n:Nat)(k0:Env→ag→aU)(e:Env)(s:ag):aU :=
 oh (some ((e 5),s)) fun t30 s =>oh (af false true 6 (e 8) s) fun t31 s =>oh (mp (ak Tryz.prog 29 1 [(0,t31)]) s) fun t32 s =>oh (mp (eB Tryz.prog 29 29 t30 t32) s) fun t33 s =>oh (some (t33,s)) fun UC s =>
 BF D n k0 (bf e [(5,(e 5).aa),(30,t30),(31,t31),(32,t32),(30,t30.aa),(33,t33),(33,t33.aa),(5,UC)]) s
noncomputable def rq (D:a8)(n:Nat)(k0:Env→ag→aU)(e:Env)(s:ag):aU :=
 oh (mp (aK Tryz.prog .lss 3 (e 14) (e 13)) s) fun t15 s =>
 br t15 (oh (mp (aA Tryz.prog 29 (e 12) (e 14)) s) fun t16 s =>oh (af false true 6 t16 s) fun t17 s =>oh (bH Tryz.prog 36 s) fun t8 s =>oh (dZ (aB 6 s t8 t17)) fun _r s =>oh (mp (aD 1 t8) s) fun t18 s =>oh (af false false 1 t18 s) fun t19 s =>oh (some ((e 1).aa,s)) fun t20 s =>oh (mp (aK Tryz.prog .neq 3 t19 t20) s) fun t21 s =>
 br t21
  (BF D n k0 (bf e [(15,t15),(16,t16),(17,t17),(8,t8),(17,t17.aa),(18,t18),(19,t19),(20,t20),(21,t21)]) s) (oh (mp (aD 3 t8) s) fun t22 s =>oh (af false false 1 t22 s) fun t23 s =>oh (mp (aK Tryz.prog .geq 3 t23 (.int .i64 0)) s) fun t24 s =>
 br t24 (oh (mp (aD 3 t8) s) fun t25 s =>oh (af false false 1 t25 s) fun t26 s =>oh (some ((e 6).aa,s)) fun t27 s =>oh (mp (aK Tryz.prog .sub 3 t26 t27) s) fun t28 s =>oh (mp (aD 3 t8) s) fun t29 s =>oh (dZ (aB 1 s t29 t28)) fun _r s =>
 BG D n k0 (bf e [(15,t15),(16,t16),(17,t17),(8,t8),(17,t17.aa),(18,t18),(19,t19),(20,t20),(21,t21),(22,t22),(23,t23),(24,t24),(25,t25),(26,t26),(27,t27),(28,t28),(29,t29),(28,t28.aa)]) s)
  (BG D n k0 (bf e [(15,t15),(16,t16),(17,t17),(8,t8),(17,t17.aa),(18,t18),(19,t19),(20,t20),(21,t21),(22,t22),(23,t23),(24,t24)]) s))) (oh (some ((e 5).aa,s)) fun t35 s =>oh (some (t35,s)) fun t4_2 s =>
 some (t4_2,s))
noncomputable def F14 (D:a8)(n:Nat)(t0 t1:AV)(s:ag):aU :=
 oh (some (.aN,s)) fun t4 s =>oh (some (.aN,s)) fun t5 s =>oh (some (t0.aa,s)) fun t9 s =>oh (some (t1.aa,s)) fun t10 s =>oh (ab Tryz.prog D 20 [t9.aa,t10.aa,(.int .i64 (-1))] s) fun t11 s =>oh (some (t11,s)) fun t6 s =>oh (some (t0.aa,s)) fun t12 s =>oh (mp (bN Tryz.prog 29 t12) s) fun t13 s =>oh (some ((.int .i64 0),s)) fun t14 s =>
 aJ (rq D n) n (bf (aH [t0,t1]) [(4,t4),(5,t5),(9,t9),(10,t10),(11,t11),(11,t11.aa),(6,t6),(12,t12),(13,t13),(14,t14)]) s
theorem P3 (n:Nat)(t0 t1:AV)(s:ag):den C (n+1) 14 [t0,t1] s=F14 (den C n) n t0 t1 s :=
 (am rfl Tryz.func14 _ _).trans (by kernel_rfl)
theorem adA:ah Tryz.prog 14=true:=by kernel_rfl
-- glossatorref1.EqualLists api.Symbol
noncomputable def Ct (D:a8)(n:Nat)(k0:Env→ag→aU)(e:Env)(s:ag):aU :=
 oh (mp (aK Tryz.prog .lss 3 (e 13) (e 12)) s) fun t14 s =>
 br t14 (oh (some ((e 13).aa,s)) fun t15 s =>oh (some (t15,s)) fun t5 s =>oh (some ((e 0).aa,s)) fun t16 s =>oh (some (t5.aa,s)) fun t17 s =>oh (mp (aA Tryz.prog 29 t16 t17) s) fun t18 s =>oh (af false true 6 t18 s) fun t19 s =>oh (some ((e 1).aa,s)) fun t20 s =>oh (some (t5.aa,s)) fun t21 s =>oh (mp (aA Tryz.prog 29 t20 t21) s) fun t22 s =>oh (af false true 6 t22 s) fun t23 s =>oh (mp (aK Tryz.prog .neq 36 t19 t23) s) fun t24 s =>
 ba C 15 (bo Tryz.f15 6) [.ae,.ae,.ae,(bz false t18),.ae,.ae,.ae,(bz false t22),.ae] <|
 br t24 (oh (some ((.bool false),s)) fun t4_3 s =>
 some (t4_3,s)) (oh (mp (aK Tryz.prog .add 3 (e 13) (.int .i64 1)) s) fun t25 s =>oh (some (t25.aa,s)) fun W5 s =>
 k0 (bf e [(14,t14),(15,t15),(15,t15.aa),(5,t5),(16,t16),(17,t17),(18,t18),(19,t19),(20,t20),(21,t21),(22,t22),(23,t23),(24,t24),(25,t25),(13,W5)]) s)) (oh (some ((.bool true),s)) fun t4_4 s =>
 some (t4_4,s))
noncomputable def F15 (D:a8)(n:Nat)(t0 t1:AV)(s:ag):aU :=
 oh (some ((.bool false),s)) fun t4 s =>oh (some (t0.aa,s)) fun t6 s =>oh (mp (bN Tryz.prog 29 t6) s) fun t7 s =>oh (some (t1.aa,s)) fun t8 s =>oh (mp (bN Tryz.prog 29 t8) s) fun t9 s =>oh (mp (aK Tryz.prog .neq 3 t7 t9) s) fun t10 s =>
 br t10 (oh (some ((.bool false),s)) fun t4_2 s =>
 some (t4_2,s)) (oh (some (t0.aa,s)) fun t11 s =>oh (mp (bN Tryz.prog 29 t11) s) fun t12 s =>oh (some ((.int .i64 0),s)) fun t13 s =>
 aJ (Ct D n) n (bf (aH [t0,t1]) [(4,t4),(6,t6),(7,t7),(8,t8),(9,t9),(10,t10),(11,t11),(12,t12),(13,t13)]) s)
theorem P6 (n:Nat)(t0 t1:AV)(s:ag):den C (n+1) 15 [t0,t1] s=F15 (den C n) n t0 t1 s :=
 (am rfl Tryz.func15 _ _).trans (by kernel_rfl)
theorem Wz (x:aU):ba C 15 (bo Tryz.f15 6) [.ae,.ae,.ae,.ae,.ae,.ae,.ae,.ae,.ae] x=x:=jL (by kernel_rfl)
theorem adB:ah Tryz.prog 15=true:=by kernel_rfl
-- glossatorkeep1.SymbolsModules
noncomputable def RL (D:a8)(n:Nat)(k0:Env→ag→aU)(e:Env)(s:ag):aU :=
 oh (mp (aK Tryz.prog .add 3 (e 60) (.int .i64 1)) s) fun t76 s =>oh (some (t76.aa,s)) fun aas s =>
 k0 (bf e [(76,t76),(60,aas)]) s
noncomputable def aat (D:a8)(n:Nat)(k0:Env→ag→aU)(e:Env)(s:ag):aU :=
 oh (mp (aK Tryz.prog .lss 3 (e 60) (e 59)) s) fun t61 s =>
 br t61 (oh (some ((e 60).aa,s)) fun t62 s =>oh (some (t62,s)) fun t13 s =>oh (some (t13.aa,s)) fun t63 s =>oh (some ((e 7).aa,s)) fun t64 s =>oh (mp (aK Tryz.prog .eql 3 t63 t64) s) fun t65 s =>
 br t65
  (RL D n k0 (bf e [(61,t61),(62,t62),(62,t62.aa),(13,t13),(63,t63),(64,t64),(65,t65)]) s) (oh (some ((e 9).aa,s)) fun t66 s =>oh (some (t13.aa,s)) fun t67 s =>oh (ab Tryz.prog D 14 [t66.aa,t67.aa] s) fun t68 s =>oh (some ((e 11).aa,s)) fun t69 s =>oh (some (t13.aa,s)) fun t70 s =>oh (ab Tryz.prog D 14 [t69.aa,t70.aa] s) fun t71 s =>oh (some (t68,s)) fun t14 s =>oh (some (t71,s)) fun t15 s =>oh (some (t14.aa,s)) fun t72 s =>oh (some (t15.aa,s)) fun t73 s =>oh (ab Tryz.prog D 15 [t72.aa,t73.aa] s) fun t74 s =>oh (mp (pF .not t74) s) fun t75 s =>
 br t75 (oh (some ((.bool false),s)) fun adG s =>
 some (adG,s))
  (RL D n k0 (bf e [(61,t61),(62,t62),(62,t62.aa),(13,t13),(63,t63),(64,t64),(65,t65),(66,t66),(67,t67),(68,t68),(69,t69),(70,t70),(71,t71),(68,t68.aa),(14,t14),(71,t71.aa),(15,t15),(72,t72),(73,t73),(74,t74),(75,t75)]) s))) (oh (ab Tryz.prog D 8 [] s) fun t77 s =>oh (some (t77,s)) fun adH s =>
 some (adH,s))
noncomputable def F3 (D:a8)(n:Nat)(t0 t1 t2:AV)(s:ag):aU :=
 oh (some ((.bool false),s)) fun t6 s =>oh (ab Tryz.prog D 8 [] s) fun t16 s =>oh (mp (pF .not t16) s) fun t17 s =>
 br t17 (oh (some ((.bool false),s)) fun rM s =>
 some (rM,s)) (oh (some (t0.aa,s)) fun t18 s =>oh (ab Tryz.prog D 9 [t18.aa] s) fun t19 s =>oh (some (t19,s)) fun pY s =>oh (some (pY.aa,s)) fun t20 s =>oh (mp (bN Tryz.prog 22 t20) s) fun t21 s =>oh (mp (aK Tryz.prog .eql 3 t21 (.int .i64 0)) s) fun t22 s =>
 br t22 (oh (ab Tryz.prog D 8 [] s) fun t23 s =>oh (some (t23,s)) fun Uw s =>
 some (Uw,s)) (oh (some (t2.aa,s)) fun t24 s =>oh (some (pY.aa,s)) fun t25 s =>oh (mp (bN Tryz.prog 22 t25) s) fun t26 s =>oh (ab Tryz.prog D 10 [t24.aa,t26.aa] s) fun t27 s =>oh (some (t27,s)) fun t7 s =>oh (some (pY.aa,s)) fun t28 s =>oh (oR Tryz.prog D 11 [t28.aa] s) fun t29 s =>oh (some (t29,s)) fun t8 s =>oh (some (t8.aa,s)) fun t30 s =>oh (some (t7.aa,s)) fun t31 s =>oh (some (t1.aa,s)) fun t32 s =>oh (ab Tryz.prog D 12 [t32.aa,(.int .i64 250)] s) fun t33 s =>oh (mp (aA Tryz.prog 22 t30 t31) s) fun t34 s =>oh (mp (aD 1 t34) s) fun t35 s =>oh (dZ (aB 1 s t35 t33)) fun _r s =>oh (some (pY.aa,s)) fun t37 s =>oh (ab Tryz.prog D 13 [t37.aa] s) fun t38 s =>oh (some (t38.aa,s)) fun t36 s =>oh (mp (bW 0 t36) s) fun t39 s =>oh (mp (bW 1 t36) s) fun t40 s =>oh (some (t39,s)) fun t9 s =>oh (some (t40,s)) fun t10 s =>oh (CC t8.aa s) fun t42 s =>oh (ab Tryz.prog D 13 [t42.aa] s) fun t43 s =>oh (some (t43.aa,s)) fun t41 s =>oh (mp (bW 0 t41) s) fun t44 s =>oh (mp (bW 1 t41) s) fun t45 s =>oh (some (t44,s)) fun t11 s =>oh (some (t45,s)) fun t12 s =>oh (some (t10.aa,s)) fun t46 s =>oh (mp (aK Tryz.prog .neq 30 t46 (.int .i64 0)) s) fun t47 s =>oh (some (t47.aa,s)) fun t48 s =>oh (gd (wA t48 false) s (some (t12.aa,s))) fun t49 s =>oh (gd (wA t48 false) s (mp (aK Tryz.prog .neq 30 t49 (.int .i64 0)) s)) fun t50 s =>oh (mp (bQ t48 (.bool true) t50) s) fun t51 s =>
 br t51 (oh (ab Tryz.prog D 8 [] s) fun t52 s =>oh (some (t52.aa,s)) fun t53 s =>oh (gd (wA t53 true) s (some (t10.aa,s))) fun t54 s =>oh (gd (wA t53 true) s (some (t12.aa,s))) fun t55 s =>oh (gd (wA t53 true) s (mp (aK Tryz.prog .eql 30 t54 t55) s)) fun t56 s =>oh (mp (bQ t53 t56 (.bool false)) s) fun t57 s =>oh (some (t57,s)) fun adI s =>
 some (adI,s)) (oh (some (pY.aa,s)) fun t58 s =>oh (mp (bN Tryz.prog 22 t58) s) fun t59 s =>oh (some ((.int .i64 0),s)) fun t60 s =>
 aJ (aat D n) n (bf (aH [t0,t1,t2]) [(6,t6),(16,t16),(17,t17),(18,t18),(19,t19),(19,t19.aa),(0,pY),(20,t20),(21,t21),(22,t22),(24,t24),(25,t25),(26,t26),(27,t27),(27,t27.aa),(7,t7),(28,t28),(29,t29),(29,t29.aa),(8,t8),(30,t30),(31,t31),(32,t32),(33,t33),(34,t34),(35,t35),(33,t33.aa),(37,t37),(38,t38),(36,t36),(39,t39),(40,t40),(39,t39.aa),(9,t9),(40,t40.aa),(10,t10),(42,t42),(43,t43),(41,t41),(44,t44),(45,t45),(44,t44.aa),(11,t11),(45,t45.aa),(12,t12),(46,t46),(47,t47),(48,t48),(49,t49),(50,t50),(51,t51),(58,t58),(59,t59),(60,t60)]) s)))
theorem K3 (n:Nat)(t0 t1 t2:AV)(s:ag):den C (n+1) 3 [t0,t1,t2] s=F3 (den C n) n t0 t1 t2 s :=
 (am rfl Tryz.func3 _ _).trans (by kernel_rfl)
theorem en3:ah Tryz.prog 3=true:=by kernel_rfl
-- glossatorkeep1.SymbolsFind
-- glossatorkeep1.SymbolsTree
end Vp
end

section
namespace ParF
open Go Go.Abs Go.Proofs Pm sU Vp
theorem K4:∀(bs:List Bool)(i k:Nat),bs[k]?=some true→(∀j,j<k→bs[j]?=some false)→BN i bs=((i+k:Nat):Int)
 | [],i,k,h,_=>by simp at h
 | b::r,i,0,h,_=>by simp at h;subst h;rw[BN,if_pos rfl];rfl
 | b::r,i,k+1,h,hj=>by
  have h0:=hj 0 (by omega)
  simp at h0;subst h0
  rw[List.getElem?_cons_succ]at h
  rw[BN,if_neg Bool.false_ne_true,K4 r (i+1) k h (fun j hjk=>by have:=hj (j+1) (by omega);rwa [List.getElem?_cons_succ]at this)]
  congr 1;omega
theorem oc {s:List UInt8}{i:Nat}(h:i≤s.length):mL Tryz.prog 9 (.str s) none (some (I i)) none=some (.str (s.take i)):=by
 simp[mL,ep.pm,lM,dQ,h]
theorem x_ (s:List UInt8)(k:Nat):AC C 12 [.str s,I k] (.str (s.take k)):=by
 refine .intro Oq (by simp[aC,aY,eR,eQ]) (by rfl) ⟨0,fun n hn=>⟨[],?_⟩⟩
 have e1:=oc (s:=s) (i:=min s.length k) (by omega)
 have e2:s.take (min s.length k)=s.take k:=by
  rw[Nat.min_def];split
  ·rw[List.take_of_length_le (Nat.le_refl _),List.take_of_length_le (by assumption)]
  ·rfl
 have e:(if k<s.length then(k:Int) else(s.length:Int))=((min s.length k:Nat):Int):=by split<;>omega
 rw[yQ,Te]
 simp -implicitDefEqProofs only[sL,iq,e,e1,e2]
def Rz (ms:List Mo):List Mo:=(ms.take 3).map fun m=>(m.1,m.2.take 250)
theorem FC:BI 27 2:=Ft (by kernel_rfl)
theorem Lu (a b:Bytes):bn Tryz.prog 27 [(0,.str a),(1,.str b)]=some (pA (a,b)):=by
 have hu:(match Tryz.prog.underlying 27 with|some (.struct fs)=>dN Tryz.prog fs.toList|_=>none)=some [(0,1),(1,1)]:=by kernel_rfl
 unfold bn
 split at hu
 ·rename_i fs hh
  rw[uh,hh]
  simp[hu,jo,bZ,AV.cells,AV.ce,pA]
 ·cases hu
theorem Lw {v:AV}{ms:List Mo}(hv:gu v ms)(hb:ms.length<1000000):∀(k i:Nat),ms.length-i=k→i≤ms.length →
  ∃N,∀f,N≤f→∀w,k<w→∀n' e s (acc:List Mo),acc.length≤i→e 12=I i→e 11=I ms.length→e 10=v→e 3=nF 27 2 (acc.map pA) →
   ∃s',aJ (Fu (den C f) n') w e s=some (zL 27 2 ((acc++(ms.drop i).map fun m=>(m.1,m.2.take 250)).map pA),s'):=by
 intro k
 induction k with
 | zero =>
  intro i hk hi
  refine⟨0,fun f _ w hw n' e s acc ha vx wN mQ e3=>⟨s,?_⟩⟩
  obtain⟨w,rfl⟩:∃j,w=j+1:=⟨w-1,by omega⟩
  have c:¬i<ms.length:=by omega
  rw[List.drop_of_length_le (by omega),List.map_nil,List.append_nil,aJ,Fu]
  simp -implicitDefEqProofs only[sL,vx,wN,e3,c,vT]
 | succ k ih =>
  intro i hk hi
  have hlt:i<ms.length:=by omega
  obtain⟨N1,q1⟩:=ep.AC.at (x_ ms[i].2 250)
  obtain⟨N2,q2⟩:=ih (i+1) (by omega) (by omega)
  refine⟨N1+N2,fun f hf w hw n' e s acc ha vx wN mQ e3=>?_⟩
  obtain⟨w,rfl⟩:∃j,w=j+1:=⟨w-1,by omega⟩
  have q1:∀s:ag,ab Tryz.prog (den C f) 12 [.str ms[i].2,I 250] s=some (.str (ms[i].2.take 250),s):=q1 f (by omega)
  have ia:=hv.at hlt
  have b2:=fun s:ag=>zH (n:=2) (a:=[.str ms[i].1,.str ms[i].2]) rfl false s
  have z:=nD uh ⟨by simp,rfl⟩ s
  have dZ:=BH (t:=27) (n:=2) (zc:=[.str [],.str []]) (a:=[.str ms[i].1,.str ms[i].2]) (by decide) (by decide) rfl rfl rfl s
  have l0:=Wh (t:=27) (o:=0) (a:=[.str ms[i].1,.str ms[i].2]) (v:=.str ms[i].1) (by decide) rfl s
  have l1:=Wh (t:=27) (o:=1) (a:=[.str ms[i].1,.str ms[i].2]) (v:=.str ms[i].2) (by decide) rfl s
  have bd:bn Tryz.prog 27 [(0,.str ms[i].1),(1,.str (ms[i].2.take 250))]=some (.agg [.str ms[i].1,.str (ms[i].2.take 250)]):=Lu _ _
  have li:=Vn ij Fy FC (by decide) (a:=[.str ms[i].1,.str (ms[i].2.take 250)]) rfl
  have ap:eB Tryz.prog 22 22 (nF 27 2 (acc.map pA)) (.sl 27 2 [.agg [.str ms[i].1,.str (ms[i].2.take 250)]] .own)=some (nF 27 2 ((acc++[(ms[i].1,ms[i].2.take 250)]).map pA)):=by
   rw[List.map_append];exact Vf ij FC (xs:=acc.map pA) (by rw[List.length_map];omega) (pA (ms[i].1,ms[i].2.take 250))
  have w1:=gL (a:=i) (by omega)
  rw[List.drop_eq_getElem_cons hlt,List.map_cons,List.append_cons,aJ,Fu]
  simp -implicitDefEqProofs only[sL,vx,wN,mQ,e3,hlt,ia,b2,z,dZ,l0,l1,q1,bd,li,ap,adD,w1]
  exact q2 f (by omega) w (by omega) n' _ _ (acc++[(ms[i].1,ms[i].2.take 250)]) (by simp;omega) (by simp[ai,an]) ((ao _ _ _ rfl).trans wN) ((ao _ _ _ rfl).trans mQ) rfl
theorem Lx (ms:List Mo):gu (zL 27 2 (ms.map pA)) ms:=by
 cases ms with
 | nil=>exact .inl ⟨rfl,rfl⟩
 | cons m r=>exact .inr rfl
theorem P4 {v:AV}{ms:List Mo}(hv:gu v ms):AC C 9 [v] (zL 27 2 ((Rz ms).map pA)):=by
 obtain⟨v',hv',sl⟩:∃v',gu v' (ms.take 3)∧mL Tryz.prog 22 v none (some (I (ms.take 3).length)) none=some v':=by
  rcases hv with ⟨rfl,rfl⟩|hv
  ·exact⟨.aN,.inl ⟨rfl,rfl⟩,by simp[mL,ij]⟩
  ·have e:ms.take (ms.take 3).length=ms.take 3:=by rw[List.length_take,Nat.min_def];split;rfl;rw[List.take_of_length_le (Nat.le_refl _),List.take_of_length_le (by omega)]
   exact⟨_,.inr rfl,by rw[gu.take hv (by rw[List.length_take];omega),e]⟩
 obtain⟨N,h⟩:=Lw hv' (by rw[List.length_take];omega) (ms.take 3).length 0 (by omega) (by omega)
 refine .intro en9 (by rw[aC,aY,hv.a_];rfl) (r8 _ _ (vS _)) ⟨N+5,fun f hf=>?_⟩
 have e:(if(3:Int)<(ms.length:Int) then(3:Int) else(ms.length:Int))=(((ms.take 3).length:Nat):Int):=by rw[List.length_take];split<;>omega
 have hl:=hv'.len
 have h:=fun e s h1 h2 h3 h4=>h f (by omega) f (by rw[List.length_take];omega) f e s [] (Nat.zero_le _) h1 h2 h3 h4
 rw[List.drop_zero]at h
 rw[aag,F9]
 simp -implicitDefEqProofs only[sL,hv.aa,hv.len,e,sl,hl]
 exact h _ _ (by simp[ai,an]) (by simp[ai,an]) (by simp[ai,an]) (by simp[ai,an,nF])
theorem P5 (x:Int){n:Nat}(hn:0<n)(hb:n<1000000):∃r:Nat,r<n∧AC C 10 [I x,I n] (I r):=by
 have h1:=Int.tmod_lt_of_pos x (b:=n) (by omega)
 have h2:=Int.tmod_lt_of_pos (-x) (b:=n) (by omega)
 rw[Int.neg_tmod]at h2
 have hr:aK Tryz.prog .rem 3 (I x) (I n)=some (I (x.tmod n)):=by
  rw[yF];simp[iu];omega
 by_cases c:x.tmod n<0
 ·have w:IntKind.i64.wrap (x.tmod n+(n:Int))=x.tmod n+n:=by rw[wrap64]<;>omega
  refine⟨(x.tmod n+n).toNat,by omega,.intro UD rfl rfl ⟨0,fun f hf=>⟨[],?_⟩⟩⟩
  have e:(((x.tmod n+n).toNat:Nat):Int)=x.tmod n+n:=by omega
  rw[Dw,ZK]
  simp -implicitDefEqProofs only[sL,hr,c,w,pg]
  simp[ai,an,aH,oh,e,AV.aa]
 ·refine⟨(x.tmod n).toNat,by omega,.intro UD rfl rfl ⟨0,fun f hf=>⟨[],?_⟩⟩⟩
  have e:(((x.tmod n).toNat:Nat):Int)=x.tmod n:=by omega
  rw[Dw,ZK]
  simp -implicitDefEqProofs only[sL,hr,c,pg]
  simp[ai,an,aH,oh,e,AV.aa]
theorem Fm (l:List Sym)(m st:Int)(hb:l.length<1000000):∀(k i:Nat),l.length-i=k→i≤l.length→∀w,k<w→∀(D:a8) n' e s,e 11=I i→e 10=I l.length→e 9=ji l→e 1=I m→e 2=I st →
  ∃s',aJ (BE D n') w e s=some (I (BN i ((l.drop i).map fun y=>y.module==m&&y.start==st)),s'):=by
 intro k
 induction k with
 | zero =>
  intro i hk hi w hw D n' e s wN mQ e9 e1 e2
  obtain⟨w,rfl⟩:∃j,w=j+1:=⟨w-1,by omega⟩
  have c:¬i<l.length:=by omega
  refine⟨s,?_⟩
  rw[List.drop_of_length_le (by omega),List.map_nil,BN,aJ,BE]
  simp -implicitDefEqProofs only[sL,wN,mQ,c]
 | succ k ih =>
  intro i hk hi w hw D n' e s wN mQ e9 e1 e2
  obtain⟨w,rfl⟩:∃j,w=j+1:=⟨w-1,by omega⟩
  have hlt:i<l.length:=by omega
  have ia:=P0 (List.getElem?_eq_getElem hlt)
  have b6:=fun s:ag=>zH (n:=6) (a:=l[i].row) rfl false s
  have z:=nD Ld ⟨by simp,rfl⟩ s
  have dZ:=BH (t:=36) (n:=6) (zc:=[I 0,I 0,I 0,I 0,.str [],.bool false]) (a:=l[i].row) (by decide) (by decide) rfl rfl rfl s
  have l1:=Wh (t:=36) (o:=1) (a:=l[i].row) (v:=I l[i].module) (by decide) rfl s
  have l2:=Wh (t:=36) (o:=2) (a:=l[i].row) (v:=I l[i].start) (by decide) rfl s
  have w1:=gL (a:=i) (by omega)
  rw[List.drop_eq_getElem_cons hlt,List.map_cons,BN,aJ,BE]
  cases h1:l[i].module==m with
  | true =>
   cases h2:l[i].start==st with
   | true =>
    rw[Bool.true_and,if_pos rfl]
    refine⟨s++[(36,l[i].row)],?_⟩
    simp -implicitDefEqProofs only[sL,wN,mQ,e9,e1,e2,hlt,ia,b6,z,dZ,l1,l2,h1,h2]
   | false =>
    rw[Bool.true_and,if_neg Bool.false_ne_true]
    simp -implicitDefEqProofs only[sL,wN,mQ,e9,e1,e2,hlt,ia,b6,z,dZ,l1,l2,h1,h2,w1]
    exact ih (i+1) (by omega) (by omega) w (by omega) D n' _ _ (by simp[ai,an]) ((ao _ _ _ rfl).trans mQ) ((ao _ _ _ rfl).trans e9) ((ao _ _ _ rfl).trans e1) ((ao _ _ _ rfl).trans e2)
  | false =>
   rw[Bool.false_and,if_neg Bool.false_ne_true]
   simp -implicitDefEqProofs only[sL,wN,mQ,e9,e1,e2,hlt,ia,b6,z,dZ,l1,l2,h1,w1]
   exact ih (i+1) (by omega) (by omega) w (by omega) D n' _ _ (by simp[ai,an]) ((ao _ _ _ rfl).trans mQ) ((ao _ _ _ rfl).trans e9) ((ao _ _ _ rfl).trans e1) ((ao _ _ _ rfl).trans e2)
theorem HB (l:List Sym)(m st:Int)(hb:l.length<1000000):AC C 20 [ji l,I m,I st] (I (BN 0 (l.map fun y=>y.module==m&&y.start==st))):=by
 refine .intro adm (by rw[aC,kq];rfl) rfl ⟨l.length+1,fun f hf=>?_⟩
 have sl:=BQ l
 have h:=Fm l m st hb l.length 0 (by omega) (by omega) f (by omega) (den C f) f
 rw[List.drop_zero]at h
 rw[PO,F20]
 simp -implicitDefEqProofs only[sL,kQ,sl]
 exact h _ _ (by simp[ai,an]) (by simp[ai,an]) (by simp[ai,an]) (by simp[ai,an,aH]) (by simp[ai,an,aH])
theorem K5 (l:List Sym)(m first:Int)(hfi:-1≤first∧first<1000000)(hb:l.length<1000000)(hp:∀y∈l,y.parent<1000000):∀(k i:Nat),l.length-i=k→i≤l.length→∀w,k<w→∀(D:a8) n' e s (acc:List Sym),acc.length≤i→e 14=I i→e 13=I l.length→e 12=ji l→e 1=I m→e 6=I first→e 5=nF 36 6 (acc.map PT) →
  ∃s',aJ (rq D n') w e s=some (zL 36 6 ((acc++nB (l.drop i) m first).map PT),s'):=by
 intro k
 induction k with
 | zero =>
  intro i hk hi w hw D n' e s acc ha E5 xD vx e1 e6 e5
  obtain⟨w,rfl⟩:∃j,w=j+1:=⟨w-1,by omega⟩
  have c:¬i<l.length:=by omega
  refine⟨s,?_⟩
  rw[List.drop_of_length_le (by omega),show nB [] m first=[] from rfl,List.append_nil,aJ,rq]
  simp -implicitDefEqProofs only[sL,E5,xD,e5,c,vT]
 | succ k ih =>
  intro i hk hi w hw D n' e s acc ha E5 xD vx e1 e6 e5
  obtain⟨w,rfl⟩:∃j,w=j+1:=⟨w-1,by omega⟩
  have hlt:i<l.length:=by omega
  have hpi:=hp _ (List.getElem_mem hlt)
  have ia:=P0 (List.getElem?_eq_getElem hlt)
  have b6:=fun s:ag=>zH (n:=6) (a:=l[i].row) rfl false s
  have z:=nD Ld ⟨by simp,rfl⟩ s
  have dZ:=BH (t:=36) (n:=6) (zc:=[I 0,I 0,I 0,I 0,.str [],.bool false]) (a:=l[i].row) (by decide) (by decide) rfl rfl rfl s
  have l1:=Wh (t:=36) (o:=1) (a:=l[i].row) (v:=I l[i].module) (by decide) rfl s
  have l3:=Wh (t:=36) (o:=3) (a:=l[i].row) (v:=I l[i].parent) (by decide) rfl s
  have w1:=gL (a:=i) (by omega)
  have hof:nB (l.drop i) m first=if l[i].module=m then zD first l[i]::nB (l.drop (i+1)) m first else nB (l.drop (i+1)) m first:=by
   rw[List.drop_eq_getElem_cons hlt]
   unfold nB
   by_cases h:l[i].module=m
   ·rw[if_pos h,List.filter_cons_of_pos (by simpa using h),List.map_cons]
   ·rw[if_neg h,List.filter_cons_of_neg (by simpa using h)]
  rw[hof]
  have j1:∀(K6:List Sym),K6.length≤i+1→∀e:Env,∀s:ag,e 14=I i→e 13=I l.length→e 12=ji l→e 1=I m→e 6=I first→e 5=nF 36 6 (K6.map PT)→∃s',BF D n' (aJ (rq D n') w) e s=some (zL 36 6 ((K6++nB (l.drop (i+1)) m first).map PT),s'):=by
   intro K6 ha' e s E5 xD vx e1 e6 e5
   unfold BF
   simp -implicitDefEqProofs only[sL,E5,w1]
   exact ih (i+1) (by omega) (by omega) w (by omega) D n' _ _ K6 ha' (by simp[ai,an]) ((ao _ _ _ rfl).trans xD) ((ao _ _ _ rfl).trans vx) ((ao _ _ _ rfl).trans e1) ((ao _ _ _ rfl).trans e6) ((ao _ _ _ rfl).trans e5)
  by_cases h1:l[i].module=m
  ·have n1:(l[i].module != m)=false:=by simp[h1]
   rw[if_pos h1]
   have tail:∀(y:Sym),zD first l[i]=y→∀e:Env,∀s:ag,e 14=I i→e 13=I l.length→e 12=ji l→e 1=I m→e 6=I first→e 5=nF 36 6 (acc.map PT)→e 8=.ref (s.length-1) 0→0<s.length→s[s.length-1]?=some (36,y.row) →
     ∃s',BG D n' (aJ (rq D n') w) e s=some (zL 36 6 ((acc++zD first l[i]::nB (l.drop (i+1)) m first).map PT),s'):=by
    intro y hy e s E5 xD vx e1 e6 e5 e8 BC hs
    have la:af false true 6 (.ref (s.length-1) 0) s=some (.agg y.row,s):=by rw[Jr (n:=6) (o:=0) hs (by decide) (by show 0+6≤6;decide) (by decide)];rfl
    have li:=Vn mm Vc Lc (by decide) (a:=y.row) rfl
    have ap:eB Tryz.prog 29 29 (nF 36 6 (acc.map PT)) (.sl 36 6 [.agg y.row] .own)=some (nF 36 6 ((acc++[y]).map PT)):=by
     rw[List.map_append];exact Vf mm Lc (xs:=acc.map PT) (by rw[List.length_map];omega) (PT y)
    unfold BG
    simp -implicitDefEqProofs only[sL,e8,e5,la,li,ap]
    rw[hy,List.append_cons acc y (nB (l.drop (i+1)) m first)]
    exact j1 (acc++[y]) (by simp;omega) _ _ ((ao _ _ _ rfl).trans E5) ((ao _ _ _ rfl).trans xD) ((ao _ _ _ rfl).trans vx) ((ao _ _ _ rfl).trans e1) ((ao _ _ _ rfl).trans e6) rfl
   have H2:(s++[((36:Nat),l[i].row)]).length-1=s.length:=by rw[aP];omega
   by_cases h3:0≤l[i].parent
   ·have w2:IntKind.i64.wrap (l[i].parent-first)=l[i].parent-first:=by rw[wrap64]<;>omega
    have st1:aB 1 (s++[(36,l[i].row)]) (.ref s.length 3) (I (l[i].parent-first))=some (s++[(36,(zD first l[i]).row)]):=by
     rw[ParF.st (n:=1) (o:=3) (v:=I (l[i].parent-first)) aW (by decide) rfl rfl (by show 4≤6;decide),eG]
     unfold zD;rw[if_pos h3];rfl
    rw[aJ,rq]
    simp -implicitDefEqProofs only[sL,E5,xD,vx,e1,e6,hlt,ia,b6,z,dZ,l1,l3,n1,h3,w2,st1]
    refine tail (zD first l[i]) rfl _ _ ((ao _ _ _ rfl).trans E5) ((ao _ _ _ rfl).trans xD) ((ao _ _ _ rfl).trans vx) ((ao _ _ _ rfl).trans e1) ((ao _ _ _ rfl).trans e6) ((ao _ _ _ rfl).trans e5) ?_ (by rw[aP];omega) ?_
    ·rw[aP,Nat.add_sub_cancel];simp[ai,an]
    ·rw[aP,Nat.add_sub_cancel,aW]
   ·rw[aJ,rq]
    simp -implicitDefEqProofs only[sL,E5,xD,vx,e1,e6,hlt,ia,b6,z,dZ,l1,l3,n1,h3]
    refine tail l[i] (by unfold zD;rw[if_neg h3]) _ _ ((ao _ _ _ rfl).trans E5) ((ao _ _ _ rfl).trans xD) ((ao _ _ _ rfl).trans vx) ((ao _ _ _ rfl).trans e1) ((ao _ _ _ rfl).trans e6) ((ao _ _ _ rfl).trans e5) ?_ (by rw[aP];omega) ?_
    ·rw[aP,Nat.add_sub_cancel];simp[ai,an]
    ·rw[aP,Nat.add_sub_cancel,aW]
  ·have n1:(l[i].module != m)=true:=by simpa using h1
   rw[if_neg h1,aJ,rq]
   simp -implicitDefEqProofs only[sL,E5,xD,vx,e1,e6,hlt,ia,b6,z,dZ,l1,n1]
   exact j1 acc (by omega) _ _ ((ao _ _ _ rfl).trans E5) ((ao _ _ _ rfl).trans xD) ((ao _ _ _ rfl).trans vx) ((ao _ _ _ rfl).trans e1) ((ao _ _ _ rfl).trans e6) ((ao _ _ _ rfl).trans e5)
end ParF
end

section
namespace ParF
open Go Go.Abs Go.Proofs
theorem Vq:(den C 150 8 [] []).map (·.1)=some (.bool true):=by kernel_rfl
theorem en8:ah C.P 8=true:=by kernel_rfl
theorem Vr:AC C 8 [] (.bool true):=by
 have h:=Vq
 rw[Option.map_eq_some_iff]at h
 obtain⟨⟨v,s⟩,h1,h2⟩:=h
 cases h2
 exact AC.one en8 rfl rfl h1
end ParF
end

section
namespace ParF
open Go Go.Abs Go.Proofs Pm sU Vp
theorem FD (fl:Int→Bool):∀(ps:List (Bytes×Nd))(i base:Nat),(Cm fl i base ps).length≤(ps.map fun p=>1+sI p.2).sum
 | [],i,base=>by rw[Cm];exact Nat.zero_le _
 | p::r,i,base=>by
  rw[Cm,List.length_append,List.map_cons,List.sum_cons]
  have a:=FD fl r (i+1) (base+(gb fl i base p.1 p.2).length)
  have b:=nZ fl (base+1) base false p.2
  have c:(gb fl i base p.1 p.2).length=1+(ew fl (base+1) base false p.2).length:=by unfold gb;rw[List.length_cons,List.length_map];omega
  omega
theorem P8 (ms:List Mo):(Rz ms).length≤3∧∀m∈Rz ms,m.2.length≤250:=by
 unfold Rz
 refine⟨by rw[List.length_map,List.length_take];omega,fun m hm=>?_⟩
 obtain⟨x,_,rfl⟩:=List.mem_map.1 hm
 show (x.2.take 250).length≤250
 rw[List.length_take];omega
end ParF
end

section
namespace ParF
open Go Go.Abs Go.Proofs Pm sU Vp
end ParF
end

section
namespace ParF
open Go Go.Abs Go.Proofs Pm sU Vp
theorem Hu (fl:Int→Bool):∀(ps:List (Bytes×Nd))(i base:Nat),∀y∈Cm fl i base ps,y.parent<((base+(Cm fl i base ps).length:Nat):Int)
 | [],i,base=>by rw[Cm];intro y hy;cases hy
 | p::r,i,base=>by
  rw[Cm]
  intro y hy
  rw[List.length_append]
  rcases List.mem_append.1 hy with hy|hy
  ·have hl:(gb fl i base p.1 p.2).length=1+(ew fl (base+1) base false p.2).length:=by unfold gb;rw[List.length_cons,List.length_map];omega
   rcases List.mem_cons.1 hy with e|hy
   ·rw[e];show (-1:Int)<_;omega
   ·obtain⟨z,hz,rfl⟩:=List.mem_map.1 hy
    obtain⟨j,hj⟩:=List.mem_iff_getElem?.1 hz
    have hjl:=(List.getElem?_eq_some_iff.1 hj).1
    show z.parent<_
    rcases Hq fl (base+1) base false p.2 j z hj with q|⟨_,q⟩<;>omega
  ·have:=Hu fl r (i+1) _ y hy
   omega
theorem Hw {ms:List Mo}:∀y∈dM ms,y.parent<(dM ms).length:=by
 intro y hy
 have e:(dM ms).length=4+(Cm ug 0 4 (r9 ms)).length:=by unfold dM rX;rw[List.length_append];rfl
 unfold dM rX at hy
 rcases List.mem_append.1 hy with hy|hy
 ·rw[Bt]at hy
  obtain⟨n,_,rfl⟩:=List.mem_map.1 hy
  show (-1:Int)<_;omega
 ·have:=Hu ug _ 0 4 y hy
  rw[e];exact this
theorem Lb:∀(bs:List Bool)(i:Nat),-1≤BN i bs∧BN i bs<((i+bs.length+1:Nat):Int)
 | [],i=>by rw[BN];constructor<;>omega
 | b::r,i=>by
  have:=Lb r (i+1)
  rw[BN,List.length_cons]
  split<;>constructor<;>omega
theorem z8 (l:List Sym):aV (l.map PT)=true:=by
 induction l with
 | nil=>rfl
 | cons y l ih=>rw[List.map_cons,aC,ih];rfl
theorem Hy (l:List Sym)(m:Int)(hb:l.length<900000)(hp:∀y∈l,y.parent<1000000):AC C 14 [ji l,I m] (zL 36 6 ((nB l m (BN 0 (l.map fun y=>y.module==m&&y.start==-1))).map PT)):=by
 obtain⟨N,q⟩:=ep.AC.at (HB l m (-1) (by omega))
 have hfi:=Lb (l.map fun y=>y.module==m&&y.start==-1) 0
 rw[List.length_map]at hfi
 refine .intro adA (by rw[aC,kq];rfl) (r8 _ _ (z8 _)) ⟨N+l.length+1,fun f hf=>?_⟩
 have q:=q f (by omega)
 have h:=K5 l m _ ⟨hfi.1,by omega⟩ (by omega) hp l.length 0 (by omega) (by omega) f (by omega) (den C f) f
 have sl:=BQ l
 rw[P3,F14]
 simp -implicitDefEqProofs only[sL,kQ,q,sl]
 have h:=fun e s=>h e s [] (Nat.zero_le _)
 simp only[List.drop_zero,List.nil_append]at h
 exact h _ _ (by simp[ai,an]) (by simp[ai,an]) (by simp[ai,an]) (by simp[ai,an,aH]) (by simp[ai,an]) (by simp[ai,an,nF])
theorem aao (y:Sym):aK Tryz.prog .neq 36 (.agg y.row) (.agg y.row)=some (.bool false):=by
 have h:aK Tryz.prog .neq 36 (.agg y.row) (.agg y.row)=some (.bool !((y.kind==y.kind)&&((y.module==y.module)&&((y.start==y.start)&&((y.parent==y.parent)&&((y.name==y.name)&&((y.Wg==y.Wg)&&true))))))):=by kernel_rfl
 rw[h];simp
theorem NR {xs:List Sym}:bN Tryz.prog 29 (zL 36 6 (xs.map PT))=some (I xs.length):=by
 cases xs with
 | nil=>exact Z6 mm
 | cons a r=>rw[List.map_cons,zL,K7 mm,List.length_cons,List.length_cons,List.length_map]
theorem P7 {xs:List Sym}{i:Nat}(h:i<xs.length):aA Tryz.prog 29 (zL 36 6 (xs.map PT)) (I i)=some (.box xs[i].row 0):=by
 cases xs with
 | nil=>cases h
 | cons a r=>exact P0 (l:=a::r) (List.getElem?_eq_getElem h)
theorem PL (l:List Sym)(hb:l.length<1000000):AC C 15 [zL 36 6 (l.map PT),zL 36 6 (l.map PT)] (.bool true):=by
 have nr:=r8 36 6 (z8 l)
 refine .intro adB (by rw[aC,aC,aY,nr];rfl) rfl ⟨l.length+1,fun f hf=>⟨[],?_⟩⟩
 have lp:∀(k i:Nat),l.length-i=k→i≤l.length→∀w,k<w→∀(D:a8) n' e s,e 13=I i→e 12=I l.length→e 0=zL 36 6 (l.map PT)→e 1=zL 36 6 (l.map PT)→aJ (Ct D n') w e s=some (.bool true,s):=by
  intro k
  induction k with
  | zero =>
   intro i hk hi w hw D n' e s xD vx e0 e1
   obtain⟨w,rfl⟩:∃j,w=j+1:=⟨w-1,by omega⟩
   have c:¬i<l.length:=by omega
   rw[aJ,Ct]
   simp -implicitDefEqProofs only[sL,xD,vx,c]
  | succ k ih =>
   intro i hk hi w hw D n' e s xD vx e0 e1
   obtain⟨w,rfl⟩:∃j,w=j+1:=⟨w-1,by omega⟩
   have hlt:i<l.length:=by omega
   have ia:=P7 hlt
   have b6:=fun s:ag=>zH (n:=6) (a:=l[i].row) rfl false s
   have ne:=aao l[i]
   have w1:=gL (a:=i) (by omega)
   rw[aJ,Ct]
   simp -implicitDefEqProofs only[sL,xD,vx,e0,e1,lH,hlt,ia,b6,ne,w1,Wz]
   exact ih (i+1) (by omega) (by omega) w (by omega) D n' _ _ (by simp[ai,an]) ((ao _ _ _ rfl).trans vx) ((ao _ _ _ rfl).trans e0) ((ao _ _ _ rfl).trans e1)
 have el:((l.length:Int) != (l.length:Int))=false:=by simp
 rw[P6,F15]
 simp -implicitDefEqProofs only[sL,lH,NR,el]
 exact lp l.length 0 (by omega) (by omega) f (by omega) (den C f) f _ _ (by simp[ai,an]) (by simp[ai,an]) (by simp[ai,an,aH]) (by simp[ai,an,aH])
theorem Ls {ms:List Mo}{j:Nat}(hj:j<ms.length):nB (dM ms) j (BN 0 ((dM ms).map fun y=>y.module==(j:Int)&&y.start==-1))=gb ug j 0 ms[j].1 (zN ms[j].2):=by
 have hp:(r9 ms)[j]?=some (ms[j].1,zN ms[j].2):=by unfold r9;rw[List.getElem?_map,List.getElem?_eq_getElem hj];rfl
 obtain⟨k,h1,h2,h3⟩:=DQ ug (r9 ms) 0 lG j _ hp (fun s hs=>by
  rw[Bt]at hs
  obtain⟨n,_,rfl⟩:=List.mem_map.1 hs
  show (-1:Int)≠_;omega)
 rw[Nat.zero_add]at h1 h2 h3
 have hw:=RM ug hp
 have e:BN 0 ((dM ms).map fun y=>y.module==(j:Int)&&y.start==-1)=(k:Int):=by
  rw[K4 _ 0 k (by rw[List.getElem?_map];show ((dM ms)[k]?).map _=_;rw[show (dM ms)[k]?=_ from h2];simp) (fun i hi=>?_),Nat.zero_add]
  rw[List.getElem?_map]
  have hlk:=(List.getElem?_eq_some_iff.1 h2).1
  have hil:i<(dM ms).length:=by show i<(lG++Cm ug 0 4 (r9 ms)).length;exact Nat.lt_trans hi hlk
  rw[List.getElem?_eq_getElem hil,Option.map_some]
  have:=h3 i _ hi (List.getElem?_eq_getElem (l:=dM ms) hil)
  rw[dm this,Bool.false_and]
 rw[e]
 have e4:lG.length=4:=rfl
 rw[e4]at h1
 rw[←h1]
 exact hw
def jh (ms:List Mo):List AV:=ms.flatMap fun m=>[.str m.1,.str m.2]
theorem sX (ms:List Mo):cellsOf (ms.map pA)=jh ms∧(jh ms).map AV.aa=jh ms∧(jh ms).length=ms.length*2∧(jh ms).all gg=true∧chunks 2 ms.length (jh ms)=ms.map pA:=by
 induction ms with
 | nil=>exact⟨rfl,rfl,rfl,rfl,rfl⟩
 | cons m r ih =>
  obtain⟨h1,h2,h3,h4,h5⟩:=ih
  have e:jh (m::r)=[.str m.1,.str m.2]++jh r:=rfl
  refine⟨?_,?_,?_,?_,?_⟩
  ·rw[List.map_cons,e,←h1];rfl
  ·rw[e,List.map_append,h2];rfl
  ·rw[e,List.length_append,h3];show 2+r.length*2=(r.length+1)*2;omega
  ·rw[e,List.all_append,h4];rfl
  ·rw[e,List.length_cons,chunks,if_neg (by decide),List.map_cons,List.take_append_of_le_length (Nat.le_refl 2),List.take_of_length_le (Nat.le_refl 2),List.drop_append_of_le_length (Nat.le_refl 2),List.drop_of_length_le (Nat.le_refl 2),List.nil_append,h5];rfl
theorem Hz:∀(ms:List Mo)(k:Nat)(h:k<ms.length)(x:Bytes),bZ (jh ms) (k*2+1) [.str x]=jh (ms.set k (ms[k].1,x))
 | m::r,0,_,x=>by
  show bZ (AV.str m.1::AV.str m.2::jh r) 1 [.str x]=AV.str m.1::AV.str x::jh r
  rfl
 | m::r,k+1,h,x=>by
  have ih:=Hz r k (by simpa using h) x
  have e:(k+1)*2+1=(k*2+1)+1+1:=by omega
  rw[e]
  show bZ (AV.str m.1::AV.str m.2::jh r) (k*2+1+1+1) [.str x]=AV.str m.1::AV.str m.2::jh (r.set k ((r[k]'(by simpa using h)).1,x))
  rw[←ih]
  rfl
theorem z6:∀(a b pa pb:List Mo),a.map Prod.fst=b.map Prod.fst→pa.map Prod.fst=pb.map Prod.fst→Ll pa a=Ll pb b
 | [],[],_,_,_,_=>rfl
 | [],_::_,_,_,h,_=>by simp at h
 | _::_,[],_,_,h,_=>by simp at h
 | m::r,m'::r',pa,pb,h,hp=>by
  simp only[List.map_cons,List.cons.injEq]at h
  have any:∀(l:List Mo) (n:Bytes),(l.any fun x=>x.1==n)=(l.map Prod.fst).any fun x=>x==n:=by intro l n;rw[List.any_map];rfl
  rw[Ll,Ll,any pa,any pb,hp,h.1,z6 r r' (pa++[m]) (pb++[m']) h.2 (by rw[List.map_append,List.map_append,hp];simp[h.1])]
theorem F4 {a b:List Mo}(h:a.map Prod.fst=b.map Prod.fst)(ha:∀m∈a,m.2.length≤2000)(hb:∀m∈b,m.2.length≤2000):qR a=qR b:=by
 have hl:a.length=b.length:=by have:=congrArg List.length h;simpa using this
 have big:∀l:List Mo,(∀m∈l,m.2.length≤2000)→(l.any fun m=>decide ((2000:Int)<m.2.length))=false:=by
  intro l hl
  rw[List.any_eq_false]
  intro m hm
  have:=hl m hm
  simp;omega
 have idq:∀l:List Mo,(l.any fun m=>!Wk m.1)=(l.map Prod.fst).any fun n=>!Wk n:=by intro l;rw[List.any_map];rfl
 unfold qR
 rw[big a ha,big b hb,idq a,idq b,h,hl,z6 a b [] [] h rfl]
theorem BD {v:AV}{ms:List Mo}(hv:v=.sl 27 2 (ms.map pA) .sh)(hne:ms≠[])(hb:ms.length<1000000)(n:Nat)(s:ag):oR Tryz.prog (den C (n+1)) 11 [v] s=some (.rs 27 2 s.length 0 ms.length,s++[(27,jh ms)]):=by
 obtain⟨i,zz,h1,h2,h3,h4,h5⟩:=FC
 have he:ah Tryz.prog 11=true:=ac1
 obtain⟨c1,c2,c3,c4,c5⟩:=sX ms
 have MC:mv i (ms.map pA).length:=by
  rw[List.length_map]
  have:(2*ms.length+768)*i.bytes≤(2*ms.length+768)*100:=Nat.mul_le_mul_left _ h5
  exact⟨by omega,by omega⟩
 have ap:bA Tryz.prog 22 22 .aN v s=some (.rs 27 2 s.length 0 ms.length,s++[(27,jh ms)]):=by
  subst hv
  cases hm:ms.map pA with
  | nil=>exact absurd (List.map_eq_nil_iff.1 hm) hne
  | cons a r =>
   rw[hm]at c1 MC
   have hl:r.length+1=ms.length:=by have:=congrArg List.length hm;simpa using this.symm
   rw[←c2,←c1,←hl]
   simp only[List.length_cons]at MC
   simp[bA,ij,h1,iQ,h2,h3,h4,MC,cI]
 have hs:v.aa=v:=by rw[hv];rfl
 unfold oR
 rw[if_pos he,PN,F11]
 simp -implicitDefEqProofs only[sL,hs,ap]
end ParF
end

section
namespace ParF
open Go Go.Abs Go.Proofs Pm sU Vp
theorem HJ (fl:Int→Bool)(i base:Nat)(n:Bytes)(t:Nd):(gb fl i base n t).length≤1+sI t:=by
 have:=nZ fl (base+1) base false t
 unfold gb;rw[List.length_cons,List.length_map];omega
theorem Lt {fs gs:List Mo}{k:Nat}(hk:k<fs.length)(hl:fs.length=gs.length)(hlen:fs.length<1000)(hsame:∀(j:Nat)(h1:j<fs.length)(h2:j<gs.length),j≠k→fs[j]=gs[j])(hf:∀m∈fs,m.2.length≤2000)(hf8:fs.length≤8)(hg:∀m∈gs,m.2.length≤2000)
  (lf:(dM fs).length<900000)(lg:(dM gs).length<900000):∀(c i:Nat),fs.length-i=c→i≤fs.length →
  ∃N,∀f,N≤f→∀w,c<w→∀n' e s,e 60=I i→e 59=I fs.length→e 7=I k→e 9=ji (dM fs)→e 11=ji (dM gs)→∃s',aJ (aat (den C f) n') w e s=some (.bool true,s'):=by
 intro c
 induction c with
 | zero =>
  intro i hc hi
  obtain⟨N1,q1⟩:=ep.AC.at Vr
  refine⟨N1,fun f hff w hw n' e s Ly LA e7 e9 wN=>⟨s,?_⟩⟩
  obtain⟨w,rfl⟩:∃j,w=j+1:=⟨w-1,by omega⟩
  have q1:=q1 f hff
  have cc:¬i<fs.length:=by omega
  rw[aJ,aat]
  simp -implicitDefEqProofs only[sL,Ly,LA,cc,q1]
 | succ c ih =>
  intro i hc hi
  have hlt:i<fs.length:=by omega
  obtain⟨N2,q2⟩:=ih (i+1) (by omega) (by omega)
  have w1:=gL (a:=i) (by omega)
  by_cases hik:i=k
  ·refine⟨N2,fun f hff w hw n' e s Ly LA e7 e9 wN=>?_⟩
   obtain⟨w,rfl⟩:∃j,w=j+1:=⟨w-1,by omega⟩
   have ek:((i:Int)==(k:Int))=true:=ey (by omega)
   have j1:∀e s,e 60=I i→e 59=I fs.length→e 7=I k→e 9=ji (dM fs)→e 11=ji (dM gs)→∃s',RL (den C f) n' (aJ (aat (den C f) n') w) e s=some (.bool true,s'):=by
    intro e s Ly LA e7 e9 wN
    unfold RL
    simp -implicitDefEqProofs only[sL,Ly,w1]
    exact q2 f (by omega) w (by omega) n' _ _ (by simp[ai,an]) ((ao _ _ _ rfl).trans LA) ((ao _ _ _ rfl).trans e7) ((ao _ _ _ rfl).trans e9) ((ao _ _ _ rfl).trans wN)
   rw[aJ,aat]
   simp -implicitDefEqProofs only[sL,Ly,LA,e7,hlt,ek]
   exact j1 _ _ ((ao _ _ _ rfl).trans Ly) ((ao _ _ _ rfl).trans LA) ((ao _ _ _ rfl).trans e7) ((ao _ _ _ rfl).trans e9) ((ao _ _ _ rfl).trans wN)
  ·have sm:=hsame i hlt (by omega) hik
   obtain⟨N3,q3⟩:=ep.AC.at (Hy (dM fs) i lf (fun y hy=>by have:=Hw y hy;omega))
   obtain⟨N4,q4⟩:=ep.AC.at (Hy (dM gs) i lg (fun y hy=>by have:=Hw y hy;omega))
   rw[Ls hlt]at q3
   rw[Ls (show i<gs.length by omega),←sm]at q4
   have hsz:=PX (hf _ (List.getElem_mem hlt))
   have hml:=HJ ug i 0 fs[i].1 (zN fs[i].2)
   obtain⟨N5,q5⟩:=ep.AC.at (PL (gb ug i 0 fs[i].1 (zN fs[i].2)) (by omega))
   refine⟨N2+N3+N4+N5,fun f hff w hw n' e s Ly LA e7 e9 wN=>?_⟩
   obtain⟨w,rfl⟩:∃j,w=j+1:=⟨w-1,by omega⟩
   have q3:=q3 f (by omega)
   have q4:=q4 f (by omega)
   have q5:=q5 f (by omega)
   have ek:((i:Int)==(k:Int))=false:=dm (by omega)
   have j1:∀e s,e 60=I i→e 59=I fs.length→e 7=I k→e 9=ji (dM fs)→e 11=ji (dM gs)→∃s',RL (den C f) n' (aJ (aat (den C f) n') w) e s=some (.bool true,s'):=by
    intro e s Ly LA e7 e9 wN
    unfold RL
    simp -implicitDefEqProofs only[sL,Ly,w1]
    exact q2 f (by omega) w (by omega) n' _ _ (by simp[ai,an]) ((ao _ _ _ rfl).trans LA) ((ao _ _ _ rfl).trans e7) ((ao _ _ _ rfl).trans e9) ((ao _ _ _ rfl).trans wN)
   rw[aJ,aat]
   simp -implicitDefEqProofs only[sL,Ly,LA,e7,e9,wN,hlt,ek,kQ,q3,q4,lH,q5,Er]
   exact j1 _ _ ((ao _ _ _ rfl).trans Ly) ((ao _ _ _ rfl).trans LA) ((ao _ _ _ rfl).trans e7) ((ao _ _ _ rfl).trans e9) ((ao _ _ _ rfl).trans wN)
theorem CI {v:AV}{ms:List Mo}(hv:gu v ms)(src:Bytes)(x:Int):AC C 3 [v,.str src,I x] (.bool true):=by
 have nr:aV [v,.str src,I x]=true:=by rw[aC,hv.a_];rfl
 obtain⟨N1,q1⟩:=ep.AC.at Vr
 obtain⟨N2,q2⟩:=ep.AC.at (P4 hv)
 obtain⟨f3,f250⟩:=P8 ms
 generalize Rz ms=fs at *
 have hm:=Lx fs
 have hlen:=hm.len
 by_cases hz:fs=[]
 ·subst hz
  refine .intro en3 nr rfl ⟨N1+N2,fun f hf=>⟨[],?_⟩⟩
  have q1:=q1 f (by omega)
  have q2:=q2 f (by omega)
  rw[K3,F3]
  simp -implicitDefEqProofs only[sL,q1,Er,hv.aa,q2,lH,hlen,show ((([]:List Mo).length:Int)==0)=true from rfl]
 have hpos:0<fs.length:=List.length_pos_iff.2 hz
 obtain⟨k,hk,mr⟩:=P5 x (n:=fs.length) hpos (by omega)
 obtain⟨N3,q3⟩:=ep.AC.at mr
 obtain⟨N4,q4⟩:=ep.AC.at (x_ src 250)
 obtain⟨gs,hgs⟩:∃gs,fs.set k (fs[k].1,src.take 250)=gs:=⟨_,rfl⟩
 have Mc:fs.length=gs.length:=by rw[←hgs,List.length_set]
 have aau:∀m∈gs,m.2.length≤250:=by
  intro m hm
  rw[←hgs]at hm
  rcases List.mem_or_eq_of_mem_set hm with h|h
  ·exact f250 m h
  ·rw[h];show (src.take 250).length≤250;rw[List.length_take];omega
 have Qo:fs.map Prod.fst=gs.map Prod.fst:=by
  rw[←hgs,List.map_set]
  show fs.map Prod.fst=(fs.map Prod.fst).set k fs[k].1
  have:(fs.map Prod.fst)[k]'(by simpa using hk)=fs[k].1:=by simp
  rw[←this,List.set_getElem_self]
 have hve:=F4 Qo (fun m hm=>by have:=f250 m hm;omega) (fun m hm=>by have:=aau m hm;omega)
 have hvs:zL 27 2 (fs.map pA)=.sl 27 2 (fs.map pA) .sh:=by
  cases fs with
  | nil=>exact absurd rfl hz
  | cons a r=>rfl
 have hmg:gu (.sl 27 2 (gs.map pA) .sh) gs:=.inr rfl
 obtain⟨d1,d2,d3,d4,d5⟩:=sX gs
 obtain⟨c1,c2,c3,c4,c5⟩:=sX fs
 -- the store,and what is given out
 have ir:aA Tryz.prog 22 (.rs 27 2 0 0 fs.length) (I k)=some (.ref 0 (k*2)):=by
  have:(k:Int)<fs.length:=by omega
  simp[aA,ij,Fy,this]
 have dZ:aB 1 ([]++[(27,jh fs)]) (.ref 0 (k*2+1)) (.str (src.take 250))=some [(27,jh gs)]:=by
  have h0:([]++[((27:Nat),jh fs)]:ag)[0]?=some (27,jh fs):=rfl
  rw[ParF.st (n:=1) (o:=k*2+1) (v:=.str (src.take 250)) h0 (by decide) rfl rfl (by rw[c3];omega)]
  show some (([(27,jh fs)]:ag).set 0 (27,bZ (jh fs) (k*2+1) [.str (src.take 250)]))=_
  rw[Hz fs k hk,hgs];rfl
 have Wg:CC (.rs 27 2 0 0 fs.length) [(27,jh gs)]=some (.sl 27 2 (gs.map pA) .sh,kill [(27,jh gs)] 0):=by
  show jp (.rs 27 2 0 0 fs.length) [(27,jh gs)]=_
  have tk:(jh gs).take (gs.length*2)=jh gs:=List.take_of_length_le (by omega)
  have hq:([(27,jh gs)]:ag)[0]?=some (27,jh gs):=rfl
  unfold jp
  simp only[hq]
  rw[Mc,if_pos ⟨trivial,by decide,by decide,by omega,by rw[tk];exact d4⟩,tk,d2,d5]
 have nrg:(AV.sl 27 2 (gs.map pA) .sh).a_=true:=hmg.a_
 have el:((fs.length:Int)==0)=false:=dm (by omega)
 have shg:(AV.sl 27 2 (gs.map pA) .sh).aa=.sl 27 2 (gs.map pA) .sh:=rfl
 have rss:(AV.rs 27 2 0 0 fs.length).aa=.rs 27 2 0 0 fs.length:=rfl
 by_cases h0:qR fs=0
 ·have h0g:qR gs=0:=hve▸h0
  obtain⟨h8,hs⟩:=zO h0
  obtain⟨h8g,hsg⟩:=zO h0g
  obtain⟨N5,q5⟩:=ep.AC.at (BP hm (by omega) h0)
  obtain⟨N6,q6⟩:=ep.AC.at (BP hmg (by omega) h0g)
  have small:∀l:List Mo,l.length≤3→(∀m∈l,m.2.length≤2000)→(dM l).length<900000:=by
   intro l h3 hl
   have a:=FD ug (r9 l) 0 4
   have b:((r9 l).map fun p=>1+sI p.2).sum≤48002*l.length:=by
    clear a h3
    induction l with
    | nil=>exact Nat.le_refl _
    | cons m r ih =>
     have a:=ih fun x hx=>hl x (List.mem_cons_of_mem _ hx)
     have b:=PX (hl m (List.mem_cons_self ..))
     show 1+sI (zN m.2)+((r9 r).map fun p=>1+sI p.2).sum≤_
     rw[List.length_cons];omega
   have:(dM l).length=4+(Cm ug 0 4 (r9 l)).length:=by unfold dM rX;rw[List.length_append];rfl
   omega
  obtain⟨N7,q7⟩:=Lt (gs:=gs) hk Mc (by omega) (fun j j1 j2 hj=>by subst hgs;rw[List.getElem_set_ne (Ne.symm hj)]) hs h8 hsg (small fs f3 hs) (small gs (by omega) hsg) fs.length 0 (by omega) (by omega)
  refine .intro en3 nr rfl ⟨N1+N2+N3+N4+N5+N6+N7+fs.length+2,fun f hf=>?_⟩
  have q1:=q1 f (by omega)
  have q2:=q2 f (by omega)
  have q3:=q3 f (by omega)
  have q4:∀s:ag,ab Tryz.prog (den C f) 12 [.str src,I 250] s=some (.str (src.take 250),s):=q4 f (by omega)
  have q5:=q5 f (by omega)
  have q6:=q6 f (by omega)
  have q7:=q7 f (by omega) f (by omega) f
  obtain⟨f',WA⟩:∃f',f=f'+1:=⟨f-1,by omega⟩
  have cl:=BD hvs hz (by omega) f' []
  rw[←WA]at cl
  replace cl:oR Tryz.prog (den C f) 11 [zL 27 2 (fs.map pA)] []=some (.rs 27 2 0 0 fs.length,[]++[(27,jh fs)]):=cl
  rw[K3,F3]
  simp -implicitDefEqProofs only[sL,q1,Er,hv.aa,q2,lH,hlen,el,q3,cl,q4,dD,ir,dZ,q5,Wg,shg,q6,kQ,show ((0:Int) != 0)=false from rfl]
  exact q7 _ _ (by simp[ai,an]) (by simp[ai,an]) (by simp[ai,an]) (by simp[ai,an]) (by simp[ai,an])
 ·have h0g:qR gs≠0:=hve▸h0
  obtain⟨N5,q5⟩:=ep.AC.at (DP hm (by omega) h0)
  obtain⟨N6,q6⟩:=ep.AC.at (DP hmg (by omega) h0g)
  refine .intro en3 nr rfl ⟨N1+N2+N3+N4+N5+N6+2,fun f hf=>⟨kill [(27,jh gs)] 0,?_⟩⟩
  have q1:=q1 f (by omega)
  have q2:=q2 f (by omega)
  have q3:=q3 f (by omega)
  have q4:∀s:ag,ab Tryz.prog (den C f) 12 [.str src,I 250] s=some (.str (src.take 250),s):=q4 f (by omega)
  have q5:=q5 f (by omega)
  have q6:=q6 f (by omega)
  obtain⟨f',WA⟩:∃f',f=f'+1:=⟨f-1,by omega⟩
  have cl:=BD hvs hz (by omega) f' []
  rw[←WA]at cl
  replace cl:oR Tryz.prog (den C f) 11 [zL 27 2 (fs.map pA)] []=some (.rs 27 2 0 0 fs.length,[]++[(27,jh fs)]):=cl
  have e1:(qR fs != 0)=true:=by simpa using h0
  have e2:(qR fs==qR gs)=true:=ey hve
  rw[K3,F3]
  simp -implicitDefEqProofs only[sL,q1,Er,hv.aa,q2,lH,hlen,el,q3,cl,q4,dD,ir,dZ,q5,Wg,shg,q6,e1,e2]
end ParF
end
