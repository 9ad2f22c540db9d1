/- StrF, ExaA, ExaB, AqF, AqT, AqU, AqW -/
import Derived.Test.YtnhnmigafkodfaaGreatDoorC
import Derived.Test.YtnhnmigafkodfaaGreatDoorB
import Derived.Test.YtnhnmigafkodfaaGreatDoorH
set_option linter.all false
set_option maxRecDepth 100000
set_option maxHeartbeats 1000000

section
namespace StrF
open Go Go.Abs Go.Proofs ParF
-- ast.StripPositions
-- glossatorref1.SameNode
-- glossatorkeep1.AstStrip
-- glossatorkeep1.astExample
noncomputable def F20 (D:Den)(n:Nat)(s:Heap):Ans :=
 oh (some ((.bool false),s)) fun t0 s =>oh (aCall Tryz.prog D 15 [(.str [102,110,32,102,40,41,123,49,42,40,50,43,51,41,125])] s) fun t7 s =>oh (some (t7.strip,s)) fun t6 s =>oh (mp (aExtract 0 t6) s) fun t8 s =>oh (mp (aExtract 1 t6) s) fun t9 s =>oh (mp (aExtract 2 t6) s) fun t10 s =>oh (aAlloc Tryz.prog 27 s) fun t1 s =>oh (sto (aStore 7 s t1 t8)) fun _r s =>oh (some (t9,s)) fun t2 s =>oh (some (t10,s)) fun t3 s =>oh (aLoad false true 7 t1 s) fun t12 s =>oh (aCall Tryz.prog D 21 [t12.strip] s) fun t13 s =>oh (some (t13.strip,s)) fun t11 s =>oh (mp (aExtract 0 t11) s) fun t14 s =>oh (mp (aExtract 1 t11) s) fun t15 s =>oh (some (t14,s)) fun t4 s =>oh (some (t15,s)) fun t5 s =>oh (some (t3.strip,s)) fun t16 s =>oh (mp (aBin Tryz.prog .eql 29 t16 (.int .i64 0)) s) fun t17 s =>oh (some (t17.strip,s)) fun t18 s =>oh (gd (wA t18 true) s (some (t2.strip,s))) fun t19 s =>oh (gd (wA t18 true) s (mp (aLen Tryz.prog 28 t19) s)) fun t20 s =>oh (gd (wA t18 true) s (mp (aBin Tryz.prog .eql 3 t20 (.int .i64 0)) s)) fun t21 s =>oh (mp (aPick t18 t21 (.bool false)) s) fun t22 s =>oh (some (t22.strip,s)) fun t23 s =>oh (gd (wA t23 true) s (some (t5.strip,s))) fun t24 s =>oh (gd (wA t23 true) s (mp (aBin Tryz.prog .eql 29 t24 (.int .i64 0)) s)) fun t25 s =>oh (mp (aPick t23 t25 (.bool false)) s) fun t26 s =>oh (some (t26.strip,s)) fun t27 s =>oh (gd (wA t27 true) s (some (t4.strip,s))) fun t28 s =>oh (gd (wA t27 true) s (mp (aBin Tryz.prog .eql 9 t28 (.str [102,110,32,102,32,40,32,41,32,123,32,49,32,42,32,40,32,50,32,43,32,51,32,41,32,125])) s)) fun t29 s =>oh (mp (aPick t27 t29 (.bool false)) s) fun t30 s =>oh (some (t30,s)) fun t0_2 s =>
 some (t0_2,s)
theorem F20_eq (n:Nat)(s:Heap):den C (n+1) 20 [] s=F20 (den C n) n s :=
 (den_body rfl Tryz.func20 _ _).trans (by kernel_rfl)
theorem en20:enterable Tryz.prog 20=true:=by kernel_rfl
end StrF
end

section
namespace ParF
open Go Go.Abs Go.Proofs
def exS1:List UInt8:=[102,110,32,102,40,41,123,49,42,40,50,43,51,41,125]
def exS2:List UInt8:=[102,110,32,102,32,40,32,41,32,123,32,49,32,42,32,40,32,50,32,43,32,51,32,41,32,125]
def exN (k v:Int)(x:List UInt8)(s e ns:Int)(cs:List AV):AV:=.agg [.int .i64 k,.int .i64 v,.str x,.int .i64 s,.int .i64 e,.int .i64 ns,if cs.isEmpty then .nils else .sl 27 7 cs .sh]
def exN1:AV:=exN 1 0 [] 0 15 (-1) [exN 3 0 [102] 0 15 3 [exN 10 0 [] 4 4 (-1) [],exN 12 0 [] 5 6 (-1) [],exN 0 0 [] 6 6 (-1) [],exN 21 0 [] 6 15 (-1) [exN 39 0 [42] 7 14 (-1) [exN 27 1 [] 7 8 (-1) [],exN 39 0 [43] 9 14 (-1) [exN 27 2 [] 10 11 (-1) [],exN 27 3 [] 12 13 (-1) []]]]]]
theorem exP1:(den C 150 15 [.str exS1] []).map (·.1)=some (.tup [exN1,.nils,.int .i64 0]):=by kernel_rfl
theorem exQ:(den C 150 21 [exN1] []).map (·.1)=some (.tup [.str exS2,.int .i64 0]):=by kernel_rfl
end ParF
end

section
namespace ParF
open Go Go.Abs Go.Proofs Pm StrF AstF
theorem exP_run:AC C 15 [.str exS1] (.tup [exN1,.nils,I 0]):=by
 have h:=exP1
 rw[Option.map_eq_some_iff]at h
 obtain⟨⟨v,s⟩,h1,h2⟩:=h
 cases h2
 exact AC.one en15 rfl (by rfl) h1
theorem en21x:enterable C.P 21=true:=by kernel_rfl
theorem exQ_run:AC C 21 [exN1] (.tup [.str exS2,I 0]):=by
 have h:=exQ
 rw[Option.map_eq_some_iff]at h
 obtain⟨⟨v,s⟩,h1,h2⟩:=h
 cases h2
 exact AC.one en21x (by rfl) rfl h1
theorem exa_run:AC C 20 [] (.bool true):=by
 obtain⟨N1,q1⟩:=LexF.AC.at exP_run
 obtain⟨N2,q2⟩:=LexF.AC.at exQ_run
 refine .intro en20 rfl rfl ⟨N1+N2,fun f hf=>⟨[(27,exN1.cells)],?_⟩⟩
 have q1:∀s,aCall Tryz.prog (den C f) 15 [.str [102,110,32,102,40,41,123,49,42,40,50,43,51,41,125]] s=some (.tup [exN1,.nils,I 0],s):=q1 f (by omega)
 have q2:=q2 f (by omega)
 have zz1:aAlloc Tryz.prog 27 []=some (.ref 0 0,[(27,zrow7)]):=by rw[zero27];rfl
 have s1:aStore 7 [(27,zrow7)] (.ref 0 0) exN1=some [(27,exN1.cells)]:=by rw[st7 (s:=[(27,zrow7)]) (i:=0) rfl rfl rfl rfl rfl];rfl
 have l0:aLoad false true 7 (.ref 0 0) [(27,exN1.cells)]=some (exN1,[(27,exN1.cells)]):=ld7 rfl rfl rfl
 have st:exN1.strip=exN1:=rfl
 have ln:aLen Tryz.prog 28 .nils=some (I 0):=by
  have hu:Tryz.prog.underlying 28=some (.slice 61):=by kernel_rfl
  simp[aLen,hu]
 have z1:((0:Int)==0)=true:=rfl
 have se:aBin Tryz.prog .eql 9 (.str exS2) (.str [102,110,32,102,32,40,32,41,32,123,32,49,32,42,32,40,32,50,32,43,32,51,32,41,32,125])=some (.bool true):=by simp[aBin,exS2,strBin]
 rw[F20_eq,F20]
 simp -implicitDefEqProofs only[sL,q1,zz1,s1,l0,st,q2,ln,z1,se]
end ParF
end

section
namespace AqF
open Go Go.Abs Go.Proofs ParF
-- glossatorkeep1.AstQuote
noncomputable def F8 (D:Den)(n:Nat)(t0:AV)(s:Heap):Ans :=
 oh (some ((.bool false),s)) fun t2 s =>oh (aCall Tryz.prog D 20 [] s) fun t9 s =>oh (mp (aUn .not t9) s) fun t10 s =>
 br t10 (oh (some ((.bool false),s)) fun t2_2 s =>
 some (t2_2,s)) (oh (some (t0.strip,s)) fun t11 s =>oh (aCall Tryz.prog D 13 [t11.strip,(.int .i64 300)] s) fun t12 s =>oh (some (t12,s)) fun t0_2 s =>oh (some (t0_2.strip,s)) fun t13 s =>oh (aCall Tryz.prog D 25 [t13.strip] s) fun t14 s =>oh (some (t14,s)) fun t3 s =>oh (some (t3.strip,s)) fun t16 s =>oh (aCall Tryz.prog D 17 [t16.strip] s) fun t17 s =>oh (some (t17.strip,s)) fun t15 s =>oh (mp (aExtract 0 t15) s) fun t18 s =>oh (mp (aExtract 1 t15) s) fun t19 s =>oh (some (t18,s)) fun t4 s =>oh (some (t19,s)) fun t5 s =>oh (some (t3.strip,s)) fun t21 s =>oh (mp (aBin Tryz.prog .add 9 (.str [99,111,110,115,116,32,99,58,32,115,116,114,105,110,103,32,61,32]) t21) s) fun t22 s =>oh (mp (aBin Tryz.prog .add 9 t22 (.str [59])) s) fun t23 s =>oh (aCall Tryz.prog D 15 [t23.strip] s) fun t24 s =>oh (some (t24.strip,s)) fun t20 s =>oh (mp (aExtract 0 t20) s) fun t25 s =>oh (mp (aExtract 1 t20) s) fun t26 s =>oh (mp (aExtract 2 t20) s) fun t27 s =>oh (aAlloc Tryz.prog 27 s) fun t6 s =>oh (sto (aStore 7 s t6 t25)) fun _r s =>oh (some (t26,s)) fun t7 s =>oh (some (t27,s)) fun t8 s =>oh (aCall Tryz.prog D 20 [] s) fun t28 s =>oh (mp (aUn .not t28) s) fun t29 s =>oh (some (t29.strip,s)) fun t30 s =>oh (gd (wA t30 false) s (some (t5.strip,s))) fun t31 s =>oh (gd (wA t30 false) s (mp (aBin Tryz.prog .neq 29 t31 (.int .i64 0)) s)) fun t32 s =>oh (mp (aPick t30 (.bool true) t32) s) fun t33 s =>oh (some (t33.strip,s)) fun t34 s =>oh (gd (wA t34 false) s (some (t8.strip,s))) fun t35 s =>oh (gd (wA t34 false) s (mp (aBin Tryz.prog .neq 29 t35 (.int .i64 0)) s)) fun t36 s =>oh (mp (aPick t34 (.bool true) t36) s) fun t37 s =>oh (some (t37.strip,s)) fun t38 s =>oh (gd (wA t38 false) s (some (t7.strip,s))) fun t39 s =>oh (gd (wA t38 false) s (mp (aLen Tryz.prog 28 t39) s)) fun t40 s =>oh (gd (wA t38 false) s (mp (aBin Tryz.prog .gtr 3 t40 (.int .i64 0)) s)) fun t41 s =>oh (mp (aPick t38 (.bool true) t41) s) fun t42 s =>oh (some (t42.strip,s)) fun t43 s =>oh (gd (wA t43 false) s (some (t4.strip,s))) fun t44 s =>oh (gd (wA t43 false) s (mp (aLen Tryz.prog 34 t44) s)) fun t45 s =>oh (gd (wA t43 false) s (mp (aBin Tryz.prog .neq 3 t45 (.int .i64 1)) s)) fun t46 s =>oh (mp (aPick t43 (.bool true) t46) s) fun t47 s =>oh (some (t47.strip,s)) fun t48 s =>oh (gd (wA t48 false) s (some (t4.strip,s))) fun t49 s =>oh (gd (wA t48 false) s (mp (aIndexAddr Tryz.prog 34 t49 (.int .i64 0)) s)) fun t50 s =>oh (gd (wA t48 false) s (mp (aAddr 0 t50) s)) fun t51 s =>oh (gd (wA t48 false) s (aLoad false false 1 t51 s)) fun t52 s =>oh (gd (wA t48 false) s (mp (aBin Tryz.prog .neq 3 t52 (.int .i64 106)) s)) fun t53 s =>oh (mp (aPick t48 (.bool true) t53) s) fun t54 s =>
 br t54 (oh (some ((.bool false),s)) fun t2_3 s =>
 some (t2_3,s)) (oh (mp (aAddr 6 t6) s) fun t55 s =>oh (aLoad false false 1 t55 s) fun t56 s =>oh (mp (aLen Tryz.prog 25 t56) s) fun t57 s =>oh (mp (aBin Tryz.prog .eql 3 t57 (.int .i64 1)) s) fun t58 s =>oh (some (t58.strip,s)) fun t59 s =>oh (gd (wA t59 true) s (mp (aAddr 6 t6) s)) fun t60 s =>oh (gd (wA t59 true) s (aLoad false false 1 t60 s)) fun t61 s =>oh (gd (wA t59 true) s (mp (aIndexAddr Tryz.prog 25 t61 (.int .i64 0)) s)) fun t62 s =>oh (gd (wA t59 true) s (mp (aAddr 6 t62) s)) fun t63 s =>oh (gd (wA t59 true) s (aLoad false false 1 t63 s)) fun t64 s =>oh (gd (wA t59 true) s (mp (aLen Tryz.prog 25 t64) s)) fun t65 s =>oh (gd (wA t59 true) s (mp (aBin Tryz.prog .eql 3 t65 (.int .i64 2)) s)) fun t66 s =>oh (mp (aPick t59 t66 (.bool false)) s) fun t67 s =>oh (some (t67.strip,s)) fun t68 s =>oh (gd (wA t68 true) s (mp (aAddr 6 t6) s)) fun t69 s =>oh (gd (wA t68 true) s (aLoad false false 1 t69 s)) fun t70 s =>oh (gd (wA t68 true) s (mp (aIndexAddr Tryz.prog 25 t70 (.int .i64 0)) s)) fun t71 s =>oh (gd (wA t68 true) s (mp (aAddr 6 t71) s)) fun t72 s =>oh (gd (wA t68 true) s (aLoad false false 1 t72 s)) fun t73 s =>oh (gd (wA t68 true) s (mp (aIndexAddr Tryz.prog 25 t73 (.int .i64 1)) s)) fun t74 s =>oh (gd (wA t68 true) s (mp (aAddr 0 t74) s)) fun t75 s =>oh (gd (wA t68 true) s (aLoad false false 1 t75 s)) fun t76 s =>oh (gd (wA t68 true) s (mp (aBin Tryz.prog .eql 3 t76 (.int .i64 29)) s)) fun t77 s =>oh (mp (aPick t68 t77 (.bool false)) s) fun t78 s =>oh (some (t78.strip,s)) fun t79 s =>oh (gd (wA t79 true) s (mp (aAddr 6 t6) s)) fun t80 s =>oh (gd (wA t79 true) s (aLoad false false 1 t80 s)) fun t81 s =>oh (gd (wA t79 true) s (mp (aIndexAddr Tryz.prog 25 t81 (.int .i64 0)) s)) fun t82 s =>oh (gd (wA t79 true) s (mp (aAddr 6 t82) s)) fun t83 s =>oh (gd (wA t79 true) s (aLoad false false 1 t83 s)) fun t84 s =>oh (gd (wA t79 true) s (mp (aIndexAddr Tryz.prog 25 t84 (.int .i64 1)) s)) fun t85 s =>oh (gd (wA t79 true) s (mp (aAddr 2 t85) s)) fun t86 s =>oh (gd (wA t79 true) s (aLoad false false 1 t86 s)) fun t87 s =>oh (gd (wA t79 true) s (some (t0_2.strip,s))) fun t88 s =>oh (gd (wA t79 true) s (mp (aBin Tryz.prog .eql 9 t87 t88) s)) fun t89 s =>oh (mp (aPick t79 t89 (.bool false)) s) fun t90 s =>oh (some (t90,s)) fun t2_4 s =>
 some (t2_4,s)))
theorem F8_eq (n:Nat)(t0:AV)(s:Heap):den C (n+1) 8 [t0] s=F8 (den C n) n t0 s :=
 (den_body rfl Tryz.func8 _ _).trans (by kernel_rfl)
theorem en8:enterable Tryz.prog 8=true:=by kernel_rfl
end AqF
end

section
namespace ParF
open Go Go.Abs Go.Proofs Pm
theorem quote_cons (c:UInt8)(x:List UInt8):quoteL (c::x)=(if c=92 then[92,92] else if c=34 then[92,34] else if c=10 then[92,110] else[c])++quoteL x:=rfl
theorem sc_quote:∀(x r:List UInt8)(i:Nat),LexF.sc (quoteL x++34::r) i=some (i+(quoteL x).length+1)
 | [],r,i=>by
  show LexF.sc (34::r) i=_
  cases r<;>simp[LexF.sc,quoteL]
 | c::x,r,i=>by
  have ih:=sc_quote x r
  obtain⟨b,t,hb⟩:∃b t,quoteL x++34::r=b::t:=by
   cases quoteL x with
   | nil=>exact⟨_,_,rfl⟩
   | cons b t=>exact⟨_,_,rfl⟩
  rw[quote_cons]
  by_cases h1:c=92
  ·rw[if_pos h1]
   show LexF.sc (92::92::(quoteL x++34::r)) i=_
   rw[LexF.sc,ih]
   simp
   omega
  ·by_cases h2:c=34
   ·rw[if_neg h1,if_pos h2]
    show LexF.sc (92::34::(quoteL x++34::r)) i=_
    rw[LexF.sc,ih]
    simp
    omega
   ·by_cases h3:c=10
    ·rw[if_neg h1,if_neg h2,if_pos h3]
     show LexF.sc (92::110::(quoteL x++34::r)) i=_
     rw[LexF.sc,ih]
     simp
     omega
    ·rw[if_neg h1,if_neg h2,if_neg h3]
     show LexF.sc (c::(quoteL x++34::r)) i=some (i+(quoteL x).length.succ+1)
     have ih:=ih (i+1)
     rw[hb]at ih ⊢
     rw[LexF.sc,if_neg h3,if_neg h2,if_neg (fun h=>h1 h.1),ih]
     congr 1
     omega
theorem unq_quote:∀(x:List UInt8)(o:Int),unq o (quoteL x++[34])=(x,[])
 | [],o=>by
  show unq o [34]=_
  simp[unq]
 | c::x,o=>by
  have ih:=unq_quote x
  obtain⟨b,t,hb⟩:∃b t,quoteL x++[34]=b::t:=by
   cases quoteL x with
   | nil=>exact⟨_,_,rfl⟩
   | cons b t=>exact⟨_,_,rfl⟩
  rw[quote_cons]
  by_cases h1:c=92
  ·rw[if_pos h1]
   show unq o (92::92::(quoteL x++[34]))=_
   rw[unq,ih,h1]
   simp
  ·by_cases h2:c=34
   ·rw[if_neg h1,if_pos h2]
    show unq o (92::34::(quoteL x++[34]))=_
    rw[unq,ih,h2]
    simp
   ·by_cases h3:c=10
    ·rw[if_neg h1,if_neg h2,if_pos h3]
     show unq o (92::110::(quoteL x++[34]))=_
     rw[unq,ih,h3]
     simp
    ·rw[if_neg h1,if_neg h2,if_neg h3]
     show unq o (c::(quoteL x++[34]))=_
     have ih:=ih (o+1)
     rw[hb]at ih ⊢
     rw[unq,if_neg h1,ih]
def quo (x:List UInt8):List UInt8:=34::(quoteL x++[34])
theorem quo_app (x r:List UInt8):quo x++r=34::(quoteL x++34::r):=by simp[quo]
theorem first_q (x r:List UInt8):LexF.first (quo x++r)=((quo x).length,106):=by
 rw[quo_app]
 have hp:Lib.hasPrefix (34::(quoteL x++34::r)) [47,47]=false:=by simp[Lib.hasPrefix,List.isPrefixOf]
 have h1:LexF.isSp 34=false:=by decide +kernel
 have h2:LexF.isLet 34=false:=by decide +kernel
 have h3:LexF.isDig 34=false:=by decide +kernel
 rw[LexF.first,h1,hp,h2,h3,if_neg Bool.false_ne_true,if_neg Bool.false_ne_true,if_neg Bool.false_ne_true,if_neg Bool.false_ne_true,if_pos rfl]
 unfold LexF.scanStr
 show (match LexF.sc (quoteL x++34::r) 1 with|some n=>(n,106)|none=>_)=_
 rw[sc_quote]
 simp[quo]
 omega
theorem tokz_q (x r:List UInt8):LexF.tokz (quo x++r)=(106,quo x)::LexF.tokz r:=by
 have hne:quo x++r≠[]:=by simp[quo]
 rw[LexF.tokz_cons hne,first_q,List.take_left' rfl,List.drop_left' rfl]
theorem first_sp (c:UInt8)(t:List UInt8)(h:LexF.isSp c=false):LexF.first (32::c::t)=(1,101):=by
 have h1:LexF.isSp 32=true:=by decide +kernel
 rw[LexF.first,if_pos h1]
 simp[LexF.scanN,List.takeWhile_cons,h1,h]
theorem first_p (c d:UInt8)(t:List UInt8)(h1:LexF.isSp c=false)(h2:c≠47)(h3:LexF.isLet c=false)(h4:LexF.isDig c=false)(h5:c≠34)(h6:[c,d]∉LexF.two)(h7:0≤Lib.indexByte LexF.punct c):LexF.first (c::d::t)=(1,107):=by
 have hp:Lib.hasPrefix (c::d::t) [47,47]=false:=by simp[Lib.hasPrefix,List.isPrefixOf,Ne.symm h2]
 rw[LexF.first,h1,hp,h3,h4,if_neg Bool.false_ne_true,if_neg Bool.false_ne_true,if_neg Bool.false_ne_true,if_neg Bool.false_ne_true,if_neg h5,if_neg (fun h=>h6 h.2),if_pos h7]
theorem first_w (w:List UInt8)(c:UInt8)(t:List UInt8)(hw:w≠[])(h1:(w.all LexF.isWord)=true)(h2:LexF.isWord c=false)(h3:(w.head?.map LexF.isLet)=some true)(h4:(w.head?.map LexF.isSp)=some false)(h5:(w.head?.map (·==47))=some false) :
  LexF.first (w++c::t)=(w.length,if w∈LexF.kw then 104 else 103):=by
 cases w with
 | nil=>exact absurd rfl hw
 | cons a w =>
  have h3:LexF.isLet a=true:=by simpa using h3
  have h4:LexF.isSp a=false:=by simpa using h4
  have h5:a≠47:=by simpa using h5
  have hs:LexF.scanN LexF.isWord ((a::w)++c::t)=(a::w).length:=by
   unfold LexF.scanN
   rw[List.takeWhile_append_of_pos (fun b hb=>List.all_eq_true.1 h1 b hb),List.takeWhile_cons,h2]
   simp
  have hp:Lib.hasPrefix ((a::w)++c::t) [47,47]=false:=by simp[Lib.hasPrefix,List.isPrefixOf,Ne.symm h5]
  show LexF.first (a::(w++c::t))=_
  rw[LexF.first]
  have e:a::(w++c::t)=(a::w)++c::t:=rfl
  rw[e,h4,hp,h3,if_neg Bool.false_ne_true,if_neg Bool.false_ne_true,if_pos rfl,hs,List.take_left' rfl]
  by_cases k:a::w∈LexF.kw
  ·rw[if_pos k,if_pos k]
  ·rw[if_neg k,if_neg k]
def cst:List UInt8:=[99,111,110,115,116,32,99,58,32,115,116,114,105,110,103,32,61,32]
def cstT (q:List UInt8):List Tok:=[(104,[99,111,110,115,116]),(101,[32]),(103,[99]),(107,[58]),(101,[32]),(103,[115,116,114,105,110,103]),(101,[32]),(107,[61]),(101,[32]),(106,q),(107,[59])]
theorem tokz_cst (x:List UInt8):LexF.tokz (cst++(quo x++[59]))=cstT (quo x):=by
 obtain⟨q,hq⟩:∃q,q=quo x++[59]:=⟨_,rfl⟩
 have e1:LexF.tokz q=[(106,quo x),(107,[59])]:=by
  rw[hq,tokz_q]
  have:LexF.tokz [59]=[(107,[59])]:=by decide +kernel
  rw[this]
 obtain⟨q',hq'⟩:∃q',q=34::q':=⟨quoteL x++[34]++[59],by rw[hq];rfl⟩
 have nx:∀(w t:List UInt8) (k:Nat),w≠[]→LexF.first (w++t)=(w.length,k)→LexF.tokz (w++t)=(k,w)::LexF.tokz t:=by
  intro w t k hw hf
  rw[LexF.tokz_cons (by simp[hw]),hf,List.take_left' rfl,List.drop_left' rfl]
 have kc:[99,111,110,115,116]∈LexF.kw:=by decide +kernel
 have k1:[99]∉LexF.kw:=by decide +kernel
 have k2:[115,116,114,105,110,103]∉LexF.kw:=by decide +kernel
 have a9:LexF.tokz ([32]++q)=(101,[32])::LexF.tokz q:=nx _ _ _ (by simp) (by rw[hq'];exact first_sp 34 _ (by decide +kernel))
 have a8:LexF.tokz ([61]++([32]++q))=(107,[61])::LexF.tokz ([32]++q):=nx _ _ _ (by simp) (first_p 61 32 _ (by decide +kernel) (by decide) (by decide +kernel) (by decide +kernel) (by decide) (by decide +kernel) (by decide +kernel))
 have a7:LexF.tokz ([32]++([61]++([32]++q)))=(101,[32])::LexF.tokz ([61]++([32]++q)):=nx _ _ _ (by simp) (first_sp 61 _ (by decide +kernel))
 obtain⟨r7,hr7⟩:∃r,r=[32]++([61]++([32]++q)):=⟨_,rfl⟩
 have a6:LexF.tokz ([115,116,114,105,110,103]++r7)=(103,[115,116,114,105,110,103])::LexF.tokz r7:=nx _ _ _ (by simp) (by
  rw[hr7]
  exact(first_w [115,116,114,105,110,103] 32 _ (by simp) (by decide +kernel) (by decide +kernel) (by decide +kernel) (by decide +kernel) (by decide +kernel)).trans (by rw[if_neg k2]))
 obtain⟨r6,hr6⟩:∃r,r=[115,116,114,105,110,103]++r7:=⟨_,rfl⟩
 have a5:LexF.tokz ([32]++r6)=(101,[32])::LexF.tokz r6:=nx _ _ _ (by simp) (by rw[hr6];exact first_sp 115 _ (by decide +kernel))
 have a4:LexF.tokz ([58]++([32]++r6))=(107,[58])::LexF.tokz ([32]++r6):=nx _ _ _ (by simp) (first_p 58 32 _ (by decide +kernel) (by decide) (by decide +kernel) (by decide +kernel) (by decide) (by decide +kernel) (by decide +kernel))
 obtain⟨r4,hr4⟩:∃r,r=[58]++([32]++r6):=⟨_,rfl⟩
 have a3:LexF.tokz ([99]++r4)=(103,[99])::LexF.tokz r4:=nx _ _ _ (by simp) (by
  rw[hr4]
  exact(first_w [99] 58 _ (by simp) (by decide +kernel) (by decide +kernel) (by decide +kernel) (by decide +kernel) (by decide +kernel)).trans (by rw[if_neg k1]))
 have a2:LexF.tokz ([32]++([99]++r4))=(101,[32])::LexF.tokz ([99]++r4):=nx _ _ _ (by simp) (first_sp 99 _ (by decide +kernel))
 obtain⟨r2,hr2⟩:∃r,r=[32]++([99]++r4):=⟨_,rfl⟩
 have a1:LexF.tokz ([99,111,110,115,116]++r2)=(104,[99,111,110,115,116])::LexF.tokz r2:=nx _ _ _ (by simp) (by
  rw[hr2]
  exact(first_w [99,111,110,115,116] 32 _ (by simp) (by decide +kernel) (by decide +kernel) (by decide +kernel) (by decide +kernel) (by decide +kernel)).trans (by rw[if_pos kc]))
 have e:cst++(quo x++[59])=[99,111,110,115,116]++r2:=by rw[hr2,hr4,hr6,hr7,hq];rfl
 rw[e,a1,hr2,a2,a3,hr4,a4,a5,hr6,a6,hr7,a7,a8,a9,e1]
 rfl
def cstR (q:List UInt8):Tree:=.mk 8 [] [.mk 104 [99,111,110,115,116] [],.mk 101 [32] [],.mk 103 [99] [],.mk 107 [58] [],.mk 17 [] [.mk 18 [] [.mk 101 [32] [],.mk 103 [115,116,114,105,110,103] []]],.mk 101 [32] [],.mk 107 [61] [],
 .mk 29 [] [.mk 101 [32] [],.mk 106 q []],.mk 107 [59] []]
theorem cst_run (q:List UInt8):run 40 gFile (cstT q) []=some (false,[],[cstR q]):=by rfl
theorem cst_tree (x:List UInt8){T:Tree}(F:IsFile (LexF.tokz (cst++(quo x++[59]))) T):T=.mk 1 [] [cstR (quo x)]:=by
 rw[tokz_cst]at F
 obtain⟨t',es,h1,h2,rfl,-,-⟩:=F
 obtain⟨-,rfl,rfl⟩:=runs_det h1 (runs_of _ _ _ _ _ _ _ (cst_run (quo x)))
 rfl
end ParF
end

section
namespace ParF
open Go Go.Abs Go.Proofs Pm
theorem unq_drop (x:List UInt8)(o:Int):unq o ((quo x).drop 1)=(x,[]):=unq_quote x o
theorem nodeN {src:Bytes}{o k:Nat}{cs:List Tree}(h1:(k:Int)≠60)(h2:(k:Int)≠46):nodeB src o (.mk k [] cs)=(.mk k (kidsB src k o (h0 o) cs).h.v (kidsB src k o (h0 o) cs).h.x (kidsB src k o (h0 o) cs).h.s (max (kidsB src k o (h0 o) cs).h.e (kidsB src k o (h0 o) cs).h.s) (kidsB src k o (h0 o) cs).h.ns (kidsB src k o (h0 o) cs).ns,(kidsB src k o (h0 o) cs).ds):=by
 rw[nodeB_mk]
 unfold finN
 simp only
 rw[if_neg h1,if_neg h2]
theorem kleaf {src:Bytes}{k:Int}{o:Nat}{h:Hd}{c:Nat}{x:Bytes}{ts:List Tree}(hc:100≤c):(kidsB src k o h (.mk c x []::ts)).ns=(kidsB src k (o+x.length) (tokH k h c x o).1 ts).ns∧(kidsB src k o h (.mk c x []::ts)).ds=(tokH k h c x o).2++(kidsB src k (o+x.length) (tokH k h c x o).1 ts).ds∧(kidsB src k o h (.mk c x []::ts)).h=(kidsB src k (o+x.length) (tokH k h c x o).1 ts).h:=by
 rw[kidsB_leaf _ _ _ _ _ _ (show 100≤(Tree.mk c x []).kind from hc)]
 exact⟨rfl,rfl,rfl⟩
theorem knode {src:Bytes}{k:Int}{o:Nat}{h:Hd}{t:Tree}{ts:List Tree}(hc:¬100≤t.kind):∃o' h',(kidsB src k o h (t::ts)).ns=(nodeB src o t).1::(kidsB src k o' h' ts).ns∧(kidsB src k o h (t::ts)).ds=(nodeB src o t).2++(kidsB src k o' h' ts).ds:=by
 rw[kidsB_node _ _ _ _ _ _ hc]
 exact⟨_,_,rfl,rfl⟩
theorem tok_no {k:Int}{h:Hd}{c:Nat}{x:Bytes}{o:Int}(h1:c≠108)(h2:c≠105)(h3:c≠106)(h4:c=103→x.length≤30):(tokH k h c x o).2=[]:=by
 unfold tokH
 by_cases c1:c=101∨c=102
 ·rw[if_pos c1]
 rw[if_neg c1,if_neg h1]
 by_cases c3:c=103
 ·rw[if_pos c3]
  show (identH k h x o).2=[]
  unfold identH
  simp only
  rw[if_neg (by have:=h4 c3;omega)]
 ·rw[if_neg c3,if_neg h2,if_neg h3]
theorem lfx (src:Bytes)(k:Int)(o:Nat)(h:Hd){c:Nat}{y:Bytes}(ts:List Tree)(h1:100≤c)(h2:c≠108)(h3:c≠105)(h4:c≠106)(h5:c=103→y.length≤30):∃o' h',kidsB src k o h (.mk c y []::ts)=kidsB src k o' h' ts:=by
 refine⟨o+y.length,(tokH k h c y o).1,?_⟩
 rw[kidsB_leaf _ _ _ _ _ _ (show 100≤(Tree.mk c y []).kind from h1)]
 show Kd.mk _ _ ((tokH k h c y o).2++_)=_
 rw[tok_no h2 h3 h4 h5]
 rfl
theorem strx (src x:Bytes)(k:Int)(o:Nat)(h:Hd):∃H:Hd,H.x=x∧kidsB src k o h [.mk 106 (quo x) []]=⟨H,[],[]⟩:=by
 have e:tokH k h 106 (quo x) o=((Hd.mk h.v (unq (o+1) ((quo x).drop 1)).1 h.s h.e h.ns).ext o (o+(quo x).length),(unq (o+1) ((quo x).drop 1)).2):=rfl
 rw[unq_drop]at e
 rw[kidsB_leaf _ _ _ _ _ _ (show 100≤(Tree.mk 106 (quo x) []).kind from by show 100≤106;decide),kidsB_nil]
 show ∃H:Hd,H.x=x∧Kd.mk (tokH k h 106 (quo x) o).1 [] ((tokH k h 106 (quo x) o).2++[])=⟨H,[],[]⟩
 rw[e]
 exact⟨_,rfl,rfl⟩
theorem str_node (src x:Bytes)(o:Nat):∃v s e ns,nodeB src o (.mk 29 [] [.mk 101 [32] [],.mk 106 (quo x) []])=(.mk 29 v x s e ns [],[]):=by
 rw[nodeN (by decide) (by decide)]
 obtain⟨o1,g1,p1⟩:=lfx src (29:Nat) o (h0 o) (c:=101) (y:=[32]) [.mk 106 (quo x) []] (by decide) (by decide) (by decide) (by decide) (fun h=>absurd h (by decide))
 obtain⟨H,hx,p2⟩:=strx src x (29:Nat) o1 g1
 rw[p1,p2]
 simp only
 rw[hx]
 exact⟨_,_,_,_,rfl⟩
theorem path_node (src:Bytes)(o:Nat):(nodeB src o (.mk 17 [] [.mk 18 [] [.mk 101 [32] [],.mk 103 [115,116,114,105,110,103] []]])).2=[]:=by
 rw[nodeN (by decide) (by decide)]
 obtain⟨o',h',-,a2⟩:=knode (src:=src) (k:=(17:Nat)) (o:=o) (h:=h0 o) (t:=.mk 18 [] [.mk 101 [32] [],.mk 103 [115,116,114,105,110,103] []]) (ts:=[]) (by show ¬100≤18;decide)
 rw[a2,nodeN (by decide) (by decide),kidsB_nil]
 obtain⟨o1,g1,p1⟩:=lfx src (18:Nat) o (h0 o) (c:=101) (y:=[32]) [.mk 103 [115,116,114,105,110,103] []] (by decide) (by decide) (by decide) (by decide) (fun h=>absurd h (by decide))
 obtain⟨o2,g2,p2⟩:=lfx src (18:Nat) o1 g1 (c:=103) (y:=[115,116,114,105,110,103]) [] (by decide) (by decide) (by decide) (by decide) (fun _=>by decide)
 rw[p1,p2,kidsB_nil]
 rfl
theorem cst_node (src x:Bytes)(o:Nat):∃v y s e ns p v' s' e' ns',nodeB src o (cstR (quo x))=(.mk 8 v y s e ns [p,.mk 29 v' x s' e' ns' []],[]):=by
 unfold cstR
 rw[nodeN (by decide) (by decide)]
 have lf:∀(o:Nat) (h:Hd) (c:Nat) (y:Bytes) (ts:List Tree),100≤c→c≠108→c≠105→c≠106→(c=103→y.length≤30)→∃o' h',(kidsB src (8:Nat) o h (.mk c y []::ts)).ns=(kidsB src (8:Nat) o' h' ts).ns∧(kidsB src (8:Nat) o h (.mk c y []::ts)).ds=(kidsB src (8:Nat) o' h' ts).ds:=by
  intro o h c y ts h1 h2 h3 h4 h5
  obtain⟨a1,a2,-⟩:=kleaf (src:=src) (k:=(8:Nat)) (o:=o) (h:=h) (c:=c) (x:=y) (ts:=ts) h1
  exact⟨_,_,a1,by rw[a2,tok_no h2 h3 h4 h5];rfl⟩
 obtain⟨o1,g1,p1,q1⟩:=lf o (h0 o) 104 [99,111,110,115,116] _ (by decide) (by decide) (by decide) (by decide) (fun h=>absurd h (by decide))
 rw[p1,q1]
 obtain⟨o2,g2,p2,q2⟩:=lf o1 g1 101 [32] _ (by decide) (by decide) (by decide) (by decide) (fun h=>absurd h (by decide))
 rw[p2,q2]
 obtain⟨o3,g3,p3,q3⟩:=lf o2 g2 103 [99] _ (by decide) (by decide) (by decide) (by decide) (fun h=>by decide)
 rw[p3,q3]
 obtain⟨o4,g4,p4,q4⟩:=lf o3 g3 107 [58] _ (by decide) (by decide) (by decide) (by decide) (fun h=>absurd h (by decide))
 rw[p4,q4]
 obtain⟨o5,g5,p5,q5⟩:=knode (src:=src) (k:=(8:Nat)) (o:=o4) (h:=g4) (t:=.mk 17 [] [.mk 18 [] [.mk 101 [32] [],.mk 103 [115,116,114,105,110,103] []]]) (ts:=[.mk 101 [32] [],.mk 107 [61] [],.mk 29 [] [.mk 101 [32] [],.mk 106 (quo x) []],.mk 107 [59] []]) (by show ¬100≤17;decide)
 rw[p5,q5,path_node]
 obtain⟨o6,g6,p6,q6⟩:=lf o5 g5 101 [32] _ (by decide) (by decide) (by decide) (by decide) (fun h=>absurd h (by decide))
 rw[p6,q6]
 obtain⟨o7,g7,p7,q7⟩:=lf o6 g6 107 [61] _ (by decide) (by decide) (by decide) (by decide) (fun h=>absurd h (by decide))
 rw[p7,q7]
 obtain⟨o8,g8,p8,q8⟩:=knode (src:=src) (k:=(8:Nat)) (o:=o7) (h:=g7) (t:=.mk 29 [] [.mk 101 [32] [],.mk 106 (quo x) []]) (ts:=[.mk 107 [59] []]) (by show ¬100≤29;decide)
 obtain⟨v,s,e,ns,hs⟩:=str_node src x o7
 rw[p8,q8,hs]
 obtain⟨o9,g9,p9,q9⟩:=lf o8 g8 107 [59] [] (by decide) (by decide) (by decide) (by decide) (fun h=>absurd h (by decide))
 rw[p9,q9,kidsB_nil]
 exact⟨_,_,_,_,_,_,_,_,_,_,rfl⟩
theorem cst_ast (src x:Bytes):∃v1 y1 s1 e1 n1 v y s e ns p v' s' e' ns',(astB src (.mk 1 [] [cstR (quo x)])).1=.mk 1 v1 y1 s1 e1 n1 [.mk 8 v y s e ns [p,.mk 29 v' x s' e' ns' []]]∧(astB src (.mk 1 [] [cstR (quo x)])).2=[]:=by
 unfold astB
 rw[nodeN (by decide) (by decide)]
 obtain⟨o',h',p,q⟩:=knode (src:=src) (k:=(1:Nat)) (o:=0) (h:=h0 (0:Nat)) (t:=cstR (quo x)) (ts:=[]) (by show ¬100≤8;decide)
 obtain⟨v,y,s,e,ns,pp,v',s',e',ns',hc⟩:=cst_node src x 0
 rw[p,q,hc,kidsB_nil]
 exact⟨_,_,_,_,_,_,_,_,_,_,_,_,_,_,_,rfl,rfl⟩
end ParF
end

section
namespace ParF
open Go Go.Abs Go.Proofs Pm AqF AstF
theorem quote_ext (x:List UInt8)(h:x.length<1000000000):AC C 25 [.str x] (.str (quo x)) :=
 .intro (by kernel_rfl) rfl rfl ⟨0,fun n _=>⟨[],by rw[den_ext (e:=eQuote) (by rfl)];simp[eQuote,quo,h]⟩⟩
theorem quo_len (x:List UInt8):(quo x).length≤2*x.length+2:=by
 have:∀x:List UInt8,(quoteL x).length≤2*x.length:=by
  intro x
  induction x with
  | nil=>exact Nat.le_refl _
  | cons c x ih =>
   rw[quote_cons,List.length_append,List.length_cons]
   have:(if c=92 then[92,92] else if c=34 then[92,34] else if c=10 then[92,110] else[c]).length≤2:=by
    by_cases h1:c=92
    ·rw[if_pos h1];exact Nat.le_refl _
    ·rw[if_neg h1]
     by_cases h2:c=34
     ·rw[if_pos h2];exact Nat.le_refl _
     ·rw[if_neg h2]
      by_cases h3:c=10
      ·rw[if_pos h3];exact Nat.le_refl _
      ·rw[if_neg h3];exact Nat.le_succ _
   omega
 have:=this x
 simp[quo]
 omega
theorem aq_run (src:Bytes):AC C 8 [.str src] (.bool true):=by
 obtain⟨w,hw⟩:∃w,w=src.take 300:=⟨_,rfl⟩
 have hwl:w.length≤300:=by rw[hw,List.length_take];omega
 have hql:=quo_len w
 have hne:quo w≠[]:=by simp[quo]
 have htz:LexF.tokz (quo w)=[(106,quo w)]:=by
  have:=tokz_q w []
  rwa [List.append_nil,LexF.tokz_nil]at this
 obtain⟨l,hl⟩:∃l,l=cst++(quo w++[59]):=⟨_,rfl⟩
 have hll:l.length≤2000:=by
  rw[hl,List.length_append,List.length_append]
  show 18+((quo w).length+1)≤_
  omega
 obtain⟨T,a,F,A,r⟩:=ast_run l hll
 rw[hl]at F
 have hT:=cst_tree w F
 subst hT
 obtain⟨v1,y1,s1,e1,n1,v,y,s,e,ns,p,v',s',e',ns',hn,hd⟩:=cst_ast l w
 rw[hd]at r
 rw[hn]at A
 have A0:=A
 cases A with
 | mk _ _ _ _ _ _ _ ch hch =>
 cases hch with
 | sl _ rows hrows =>
 cases hrows with
 | cons _ a8 _ rows' h8 hr8 =>
 cases hr8
 cases h8 with
 | mk _ _ _ _ _ _ _ ch8 hch8 =>
 cases hch8 with
 | sl _ rows8 hrows8 =>
 cases hrows8 with
 | cons _ ap _ rowsp hp hrp =>
 cases hrp with
 | cons _ a29 _ rows29 h29 hr29 =>
 cases hr29
 cases h29 with
 | mk _ _ _ _ _ _ _ ch29 hch29 =>
 have hds:dgOut []=.nils:=rfl
 rw[hds]at r
 obtain⟨ap',hap⟩:∃q,q=ap:=⟨_,rfl⟩
 obtain⟨c29,hc29⟩:∃q,q=[I 29,I v',.str w,I s',I e',I ns',ch29]:=⟨_,rfl⟩
 rw[←hc29]at r A0
 obtain⟨c8,hc8⟩:∃q,q=[I 8,I v,.str y,I s,I e,I ns,.sl 27 7 [ap,.agg c29] .sh]:=⟨_,rfl⟩
 rw[←hc8]at r A0
 obtain⟨c1,hc1⟩:∃q,q=[I 1,I v1,.str y1,I s1,I e1,I n1,.sl 27 7 [.agg c8] .sh]:=⟨_,rfl⟩
 rw[←hc1]at r A0
 obtain⟨a1,a2,a3,a4⟩:=A0.cells
 have a1:c1.length=7:=a1
 have a2:c1.map AV.strip=c1:=a2
 obtain⟨N0,q0⟩:=LexF.AC.at exa_run
 obtain⟨N1,q1⟩:=LexF.AC.at (LexF.short_run src 300)
 obtain⟨N2,q2⟩:=LexF.AC.at (quote_ext w (by omega))
 obtain⟨N3,q3⟩:=LexF.AC.at (LexF.tok_run (quo w))
 obtain⟨N4,q4⟩:=LexF.AC.at r
 have htr:LexF.tokR (quo w)=.tup [.sl 53 2 [.agg [I 106,.str (quo w)]] .sh,I 0]:=by
  unfold LexF.tokR
  rw[if_neg (by omega),htz]
  rfl
 rw[htr]at q3
 refine .intro en8 rfl rfl ⟨N0+N1+N2+N3+N4,fun n hn=>⟨[(27,c1)],?_⟩⟩
 have q0:=q0 n (by omega)
 have q1:∀s',aCall Tryz.prog (den C n) 13 [.str src,.int .i64 300] s'=some (.str w,s'):=by rw[hw];exact q1 n (by omega)
 have q2:=q2 n (by omega)
 have q3:=q3 n (by omega)
 have q4:∀s',aCall Tryz.prog (den C n) 15 [.str l] s'=some (.tup [.agg c1,.nils,I 0],s'):=q4 n (by omega)
 have ad1:aBin Tryz.prog .add 9 (.str [99,111,110,115,116,32,99,58,32,115,116,114,105,110,103,32,61,32]) (.str (quo w))=some (.str (cst++quo w)):=str_add _ _ (a:=cst) (b:=quo w) (by show 18+(quo w).length≤_;omega)
 have ad2:aBin Tryz.prog .add 9 (.str (cst++quo w)) (.str [59])=some (.str l):=by
  have:=str_add Tryz.prog 9 (a:=cst++quo w) (b:=[59]) (by rw[List.length_append];show 18+(quo w).length+1≤_;omega)
  rw[hl,←List.append_assoc];exact this
 have zz1:aAlloc Tryz.prog 27 []=some (.ref 0 0,[(27,zrow7)]):=by rw[zero27];rfl
 have st1:aStore 7 [(27,zrow7)] (.ref 0 0) (.agg c1)=some [(27,c1)]:=by rw[st7 (s:=[(27,zrow7)]) (i:=0) (a:=.agg c1) rfl rfl a1 a2 rfl];rfl
 have l6:aLoad false false 1 (.ref 0 6) [(27,c1)]=some (.sl 27 7 [.agg c8] .sh,[(27,c1)]):=by
  rw[ld (n:=1) (o:=6) (v:=.sl 27 7 [.agg c8] .sh) (show [(27,c1)][0]?=some (27,c1) from rfl) (by decide) (by rw[hc1];rfl) (by decide)];rfl
 have n1:aLen Tryz.prog 25 (.sl 27 7 [.agg c8] .sh)=some (I 1):=len25 _ _
 have n2:aLen Tryz.prog 25 (.sl 27 7 [ap,.agg c29] .sh)=some (I 2):=len25 _ _
 have i1:aIndexAddr Tryz.prog 25 (.sl 27 7 [.agg c8] .sh) (.int .i64 0)=some (.box c8 0):=idx25 (i:=0) (a:=.agg c8) rfl
 have i2:aIndexAddr Tryz.prog 25 (.sl 27 7 [ap,.agg c29] .sh) (.int .i64 1)=some (.box c29 0):=idx25 (i:=1) (a:=.agg c29) rfl
 have b86:∀s:Heap,aLoad false false 1 (.box c8 6) s=some (.sl 27 7 [ap,.agg c29] .sh,s):=fun s=>by rw[aLoad_one,hc8];rfl
 have b290:∀s:Heap,aLoad false false 1 (.box c29 0) s=some (I 29,s):=fun s=>by rw[aLoad_one,hc29];rfl
 have b292:∀s:Heap,aLoad false false 1 (.box c29 2) s=some (.str w,s):=fun s=>by rw[aLoad_one,hc29];rfl
 have t1:aLen Tryz.prog 34 (.sl 53 2 [.agg [I 106,.str (quo w)]] .sh)=some (I 1):=LexF.IsT.len (ts:=[(106,quo w)]) (.inl rfl)
 have t2:aIndexAddr Tryz.prog 34 (.sl 53 2 [.agg [I 106,.str (quo w)]] .sh) (.int .i64 0)=some (.box [I 106,.str (quo w)] 0):=LexF.IsT.at (ts:=[(106,quo w)]) (.inl rfl) (i:=0) rfl
 have t3:∀s:Heap,aLoad false false 1 (.box [I 106,.str (quo w)] 0) s=some (I 106,s):=fun s=>by rw[aLoad_one];rfl
 have d0:aLen Tryz.prog 28 .nils=some (I 0):=by
  have hu:Tryz.prog.underlying 28=some (.slice 61):=by kernel_rfl
  simp[aLen,hu]
 have z0:((0:Int) != 0)=false:=rfl
 have z1:((1:Int) != 1)=false:=rfl
 have z106:((106:Int) != 106)=false:=rfl
 have y1:((1:Int)==1)=true:=rfl
 have y2:((2:Int)==2)=true:=rfl
 have y29:((29:Int)==29)=true:=rfl
 have g0:¬((0:Int)<0):=by decide
 have yw:aBin Tryz.prog .eql 9 (.str w) (.str w)=some (.bool true):=by rw[str_eql,beq_self_eq_true]
 rw[F8_eq,F8]
 simp -implicitDefEqProofs only[sL,q0,Bool.not_true,q1,q2,q3,strip_sh,ad1,ad2,q4,zz1,st1,z0,d0,g0,t1,z1,t2,t3,z106,l6,n1,y1,i1,b86,n2,y2,i2,b290,y29,b292,yw]
end ParF
end
