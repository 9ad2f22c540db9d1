/- NdSz, NdSz2, StrF, ExaA, ExaB, WalkG, IxG, PthF, PthA, PthB -/
import Derived.Test.YtnhnmigafkodfaaGreatDoorG
import Derived.Test.YtnhnmigafkodfaaGreatDoorH
import Derived.Test.YtnhnmigafkodfaaGreatDoorC
import Derived.Test.YtnhnmigafkodfaaGreatDoorB
set_option linter.all false
set_option maxRecDepth 100000
set_option maxHeartbeats 1000000

section
namespace ParF
open Pm
mutual
def szN:Nd→Nat
 | .mk _ _ _ _ _ _ cs=>1+szNL cs
def szNL:List Nd→Nat
 | []=>0
 | t::ts=>szN t+szNL ts
end
theorem szN_mk (k v:Int)(x:Bytes)(s e ns:Int)(cs:List Nd):szN (.mk k v x s e ns cs)=1+szNL cs:=by rw[szN]
theorem szN_mem:∀{cs:List Nd}{u:Nd},u∈cs→szN u≤szNL cs
 | [],u,h=>by cases h
 | c::cs,u,h=>by
  rw[szNL]
  rcases List.mem_cons.1 h with rfl|h
  ·omega
  ·have:=szN_mem h;omega
theorem szN_pos (n:Nd):1≤szN n:=by cases n;rw[szN];omega
theorem len_le_szN:∀cs:List Nd,cs.length≤szNL cs
 | []=>Nat.zero_le _
 | c::cs=>by rw[szNL,List.length_cons];have:=len_le_szN cs;have:=szN_pos c;omega
end ParF
end

section
namespace ParF
open Go Go.Abs Go.Proofs Pm
theorem szN_place (a b:Int)(n:Nd):szN (n.place a b)=szN n:=by cases n;rw[Nd.place,szN_mk,szN_mk]
mutual
theorem szB (src:Bytes):∀(o:Nat)(t:Tree),szN (nodeB src o t).1≤szT t
 | o,.mk k x cs=>by
  have i:=szBL src k o (h0 o) cs
  rw[nodeB_mk,szT_mk]
  unfold finN
  simp only
  split
  ·rw[szN_place]
   cases hn:(kidsB src k o (h0 o) cs).ns with
   | nil=>show szN (.mk _ _ _ _ _ _ [])≤_;rw[szN_mk,szNL];omega
   | cons a r =>
    rw[hn,szNL]at i
    show szN a≤_;omega
  ·split
   ·rw[szN_mk,szNL];omega
   ·rw[szN_mk];omega
theorem szBL (src:Bytes)(k:Int):∀(o:Nat)(h:Hd)(cs:List Tree),szNL (kidsB src k o h cs).ns≤szL cs
 | o,h,[]=>by rw[kidsB_nil,szNL];omega
 | o,h,t::ts=>by
  by_cases c:100≤t.kind
  ·rw[kidsB_leaf src k o h t ts c,szL]
   have:=szBL src k (o+t.text.length) (tokH k h t.kind t.text o).1 ts
   simp only;omega
  ·rw[kidsB_node src k o h t ts c,szL]
   have:=szBL src k (o+(srcT t).length) (h.ext (nodeB src o t).1.s (nodeB src o t).1.e) ts
   have:=szB src o t
   simp only[szNL];omega
end
theorem szA (src:Bytes)(t:Tree):szN (astB src t).1≤szT t:=by
 show szN (((nodeB src 0 t).1).place 0 src.length)≤_
 rw[szN_place];exact szB src 0 t
theorem cmpct_len:∀d:List Dr,(cmpct d).length≤d.length
 | []=>Nat.le_refl _
 | [d]=>Nat.le_refl _
 | a::b::r=>by
  have:=cmpct_len (b::r)
  rw[cmpct]
  split
  ·rw[List.length_cons];omega
  ·rw[List.length_cons,List.length_cons];omega
end ParF
end

section
namespace StrF
open Go Go.Abs Go.Proofs ParF
-- ast.StripPositions
-- glossatorref1.SameNode
-- glossatorkeep1.AstStrip
-- glossatorkeep1.astExample
noncomputable def F20 (D:Den)(n:Nat)(s:Heap):Ans :=
 oh (some ((.bool false),s)) fun t0 s =>oh (aCall Tryz.prog D 15 [(.str [102,110,32,102,40,41,123,49,42,40,50,43,51,41,125])] s) fun t7 s =>oh (some (t7.strip,s)) fun t6 s =>oh (mp (aExtract 0 t6) s) fun t8 s =>oh (mp (aExtract 1 t6) s) fun t9 s =>oh (mp (aExtract 2 t6) s) fun t10 s =>oh (aAlloc Tryz.prog 27 s) fun t1 s =>oh (sto (aStore 7 s t1 t8)) fun _r s =>oh (some (t9,s)) fun t2 s =>oh (some (t10,s)) fun t3 s =>oh (aLoad false true 7 t1 s) fun t12 s =>oh (aCall Tryz.prog D 21 [t12.strip] s) fun t13 s =>oh (some (t13.strip,s)) fun t11 s =>oh (mp (aExtract 0 t11) s) fun t14 s =>oh (mp (aExtract 1 t11) s) fun t15 s =>oh (some (t14,s)) fun t4 s =>oh (some (t15,s)) fun t5 s =>oh (some (t3.strip,s)) fun t16 s =>oh (mp (aBin Tryz.prog .eql 29 t16 (.int .i64 0)) s) fun t17 s =>oh (some (t17.strip,s)) fun t18 s =>oh (gd (wA t18 true) s (some (t2.strip,s))) fun t19 s =>oh (gd (wA t18 true) s (mp (aLen Tryz.prog 28 t19) s)) fun t20 s =>oh (gd (wA t18 true) s (mp (aBin Tryz.prog .eql 3 t20 (.int .i64 0)) s)) fun t21 s =>oh (mp (aPick t18 t21 (.bool false)) s) fun t22 s =>oh (some (t22.strip,s)) fun t23 s =>oh (gd (wA t23 true) s (some (t5.strip,s))) fun t24 s =>oh (gd (wA t23 true) s (mp (aBin Tryz.prog .eql 29 t24 (.int .i64 0)) s)) fun t25 s =>oh (mp (aPick t23 t25 (.bool false)) s) fun t26 s =>oh (some (t26.strip,s)) fun t27 s =>oh (gd (wA t27 true) s (some (t4.strip,s))) fun t28 s =>oh (gd (wA t27 true) s (mp (aBin Tryz.prog .eql 9 t28 (.str [102,110,32,102,32,40,32,41,32,123,32,49,32,42,32,40,32,50,32,43,32,51,32,41,32,125])) s)) fun t29 s =>oh (mp (aPick t27 t29 (.bool false)) s) fun t30 s =>oh (some (t30,s)) fun t0_2 s =>
 some (t0_2,s)
theorem F20_eq (n:Nat)(s:Heap):den C (n+1) 20 [] s=F20 (den C n) n s :=
 (den_body rfl Tryz.func20 _ _).trans (by kernel_rfl)
theorem en20:enterable Tryz.prog 20=true:=by kernel_rfl
end StrF
end

section
namespace ParF
open Go Go.Abs Go.Proofs
def exS1:List UInt8:=[102,110,32,102,40,41,123,49,42,40,50,43,51,41,125]
def exS2:List UInt8:=[102,110,32,102,32,40,32,41,32,123,32,49,32,42,32,40,32,50,32,43,32,51,32,41,32,125]
def exN (k v:Int)(x:List UInt8)(s e ns:Int)(cs:List AV):AV:=.agg [.int .i64 k,.int .i64 v,.str x,.int .i64 s,.int .i64 e,.int .i64 ns,if cs.isEmpty then .nils else .sl 27 7 cs .sh]
def exN1:AV:=exN 1 0 [] 0 15 (-1) [exN 3 0 [102] 0 15 3 [exN 10 0 [] 4 4 (-1) [],exN 12 0 [] 5 6 (-1) [],exN 0 0 [] 6 6 (-1) [],exN 21 0 [] 6 15 (-1) [exN 39 0 [42] 7 14 (-1) [exN 27 1 [] 7 8 (-1) [],exN 39 0 [43] 9 14 (-1) [exN 27 2 [] 10 11 (-1) [],exN 27 3 [] 12 13 (-1) []]]]]]
theorem exP1:(den C 150 15 [.str exS1] []).map (·.1)=some (.tup [exN1,.nils,.int .i64 0]):=by kernel_rfl
theorem exQ:(den C 150 21 [exN1] []).map (·.1)=some (.tup [.str exS2,.int .i64 0]):=by kernel_rfl
end ParF
end

section
namespace ParF
open Go Go.Abs Go.Proofs Pm StrF AstF
theorem exP_run:AC C 15 [.str exS1] (.tup [exN1,.nils,I 0]):=by
 have h:=exP1
 rw[Option.map_eq_some_iff]at h
 obtain⟨⟨v,s⟩,h1,h2⟩:=h
 cases h2
 exact AC.one en15 rfl (by rfl) h1
theorem en21x:enterable C.P 21=true:=by kernel_rfl
theorem exQ_run:AC C 21 [exN1] (.tup [.str exS2,I 0]):=by
 have h:=exQ
 rw[Option.map_eq_some_iff]at h
 obtain⟨⟨v,s⟩,h1,h2⟩:=h
 cases h2
 exact AC.one en21x (by rfl) rfl h1
theorem exa_run:AC C 20 [] (.bool true):=by
 obtain⟨N1,q1⟩:=LexF.AC.at exP_run
 obtain⟨N2,q2⟩:=LexF.AC.at exQ_run
 refine .intro en20 rfl rfl ⟨N1+N2,fun f hf=>⟨[(27,exN1.cells)],?_⟩⟩
 have q1:∀s,aCall Tryz.prog (den C f) 15 [.str [102,110,32,102,40,41,123,49,42,40,50,43,51,41,125]] s=some (.tup [exN1,.nils,I 0],s):=q1 f (by omega)
 have q2:=q2 f (by omega)
 have zz1:aAlloc Tryz.prog 27 []=some (.ref 0 0,[(27,zrow7)]):=by rw[zero27];rfl
 have s1:aStore 7 [(27,zrow7)] (.ref 0 0) exN1=some [(27,exN1.cells)]:=by rw[st7 (s:=[(27,zrow7)]) (i:=0) rfl rfl rfl rfl rfl];rfl
 have l0:aLoad false true 7 (.ref 0 0) [(27,exN1.cells)]=some (exN1,[(27,exN1.cells)]):=ld7 rfl rfl rfl
 have st:exN1.strip=exN1:=rfl
 have ln:aLen Tryz.prog 28 .nils=some (I 0):=by
  have hu:Tryz.prog.underlying 28=some (.slice 61):=by kernel_rfl
  simp[aLen,hu]
 have z1:((0:Int)==0)=true:=rfl
 have se:aBin Tryz.prog .eql 9 (.str exS2) (.str [102,110,32,102,32,40,32,41,32,123,32,49,32,42,32,40,32,50,32,43,32,51,32,41,32,125])=some (.bool true):=by simp[aBin,exS2,strBin]
 rw[F20_eq,F20]
 simp -implicitDefEqProofs only[sL,q1,zz1,s1,l0,st,q2,ln,z1,se]
end ParF
end

section
namespace ParF
open Go Go.Abs Go.Proofs Pm
section
variable {t e z:Nat}{rows:List AV}{f:Flag}
theorem idxG (hu:Tryz.prog.underlying t=some (.slice e))(hz:szOf Tryz.prog e=some z){i:Nat}{a:AV}(h:rows[i]?=some a):aIndexAddr Tryz.prog t (.sl e z rows f) (I i)=some (.box a.cells 0):=by
 simp[aIndexAddr,hu,hz,h]
theorem lenG (hu:Tryz.prog.underlying t=some (.slice e)):aLen Tryz.prog t (.sl e z rows f)=some (I rows.length):=by simp[aLen,hu]
theorem lenN (hu:Tryz.prog.underlying t=some (.slice e)):aLen Tryz.prog t .nils=some (I 0):=by simp[aLen,hu]
end
theorem boxG {n:Nat}{a:List AV}(h:a.length=n)(tk:Bool)(s:Heap):aLoad tk true n (.box a 0) s=some (.agg a,s):=by
 rw[aLoad_agg _ _ _ _ _ (by omega),List.drop_zero,List.take_of_length_le (by omega)]
def RowAt (e:Nat)(s:Heap)(cs:List AV)(q:Option Nat):Prop:=(q=none→cs=[])∧∀Q,q=some Q→cs≠[]∧∃junk,s[Q]?=some (e,cs++junk)
theorem RowAt.lt {e:Nat}{s:Heap}{cs:List AV}{q:Option Nat}(h:RowAt e s cs q){Q:Nat}(hq:q=some Q):Q<s.length:=by
 obtain⟨_,_,k⟩:=h.2 Q hq;exact glt k
theorem RowAt.frame {e:Nat}{s s':Heap}{cs:List AV}{q:Option Nat}(h:RowAt e s cs q)(k:∀Q,q=some Q→s'[Q]?=s[Q]?):RowAt e s' cs q :=
 ⟨h.1,fun Q hq=>by obtain⟨a,j,b⟩:=h.2 Q hq;exact⟨a,j,(k Q hq).trans b⟩⟩
def Info (e z:Nat):Prop:=∃i zz,Tryz.prog.info? e=some i∧i.size=z∧i.zero=some zz∧zz.cells.size=z∧i.bytes≤100
theorem infoG {e z:Nat}(h:(Tryz.prog.info? e).map (fun i=>(i.size,i.zero.map (·.cells.size),decide (i.bytes≤100)))=some (z,some z,true)):Info e z:=by
 rw[Option.map_eq_some_iff]at h
 obtain⟨i,h1,h2⟩:=h
 simp only[Prod.mk.injEq,Option.map_eq_some_iff,decide_eq_true_eq]at h2
 obtain⟨a,⟨zz,b,c⟩,d⟩:=h2
 exact⟨i,zz,h1,a,b,c,d⟩
end ParF
end

section
namespace ParF
open Go Go.Abs Go.Proofs Pm
noncomputable def IXL (t z:Nat)(D:Den)(n:Nat)(k0:Env→Heap→Ans)(e:Env)(s:Heap):Ans :=
 oh (mp (aBin Tryz.prog .lss 3 (e 8) (e 7)) s) fun t9 s =>
 br t9 (oh (some ((e 8).strip,s)) fun t10 s =>oh (some (t10,s)) fun t5 s =>oh (some ((e 1).strip,s)) fun t11 s =>oh (some ((e 0).strip,s)) fun t12 s =>oh (some (t5.strip,s)) fun t13 s =>oh (mp (aIndexAddr Tryz.prog t t12 t13) s) fun t14 s =>oh (aLoad false true z t14 s) fun t15 s =>oh (aCallV Tryz.prog D t11 [t15] s) fun t16 s =>
 br t16 (oh (some (t5.strip,s)) fun t17 s =>oh (some (t17,s)) fun t4_2 s =>
 some (t4_2,s)) (oh (mp (aBin Tryz.prog .add 3 (e 8) (.int .i64 1)) s) fun t18 s =>oh (some (t18.strip,s)) fun t8_2 s =>
 k0 (upds e [(9,t9),(10,t10),(10,t10.strip),(5,t5),(11,t11),(12,t12),(13,t13),(14,t14),(15,t15),(16,t16),(18,t18),(8,t8_2)]) s)) (oh (some ((.int .i64 (-1)),s)) fun t4_3 s =>
 some (t4_3,s))
def ixB:Nat→List Bool→Int
 | _,[]=>-1
 | i,b::r=>if b=true then i else ixB (i+1) r
def ClsB (fv a:AV)(b:Bool):Prop:=∃N,∀n,N≤n→∀s,aCallV Tryz.prog (den C n) fv [a] s=some (.bool b,s)
def RowsZ (z:Nat)(rows:List AV):Prop:=∀a∈rows,a=.agg a.cells∧a.cells.length=z
theorem ixloop {t e z:Nat}(hu:Tryz.prog.underlying t=some (.slice e))(hz:szOf Tryz.prog e=some z){v fv:AV}{rows:List AV}(hv:v=.sl e z rows .sh∨(v=.nils∧rows=[]))(hr:RowsZ z rows)(hfs:fv.strip=fv){bs:List Bool}(hl:bs.length=rows.length)
  (hc:∀(i:Nat) a b,rows[i]?=some a→bs[i]?=some b→ClsB fv a b)(hn:rows.length<1000000000):∀(k i:Nat),rows.length-i=k→i≤rows.length →
  ∃N,∀f,N≤f→∀w,k<w→∀n' e s,e 8=I i→e 7=I rows.length→e 1=fv→e 0=v→aLoop (IXL t z (den C f) n') w e s=some (I (ixB i (bs.drop i)),s):=by
 have hvs:v.strip=v:=by rcases hv with rfl|⟨rfl,_⟩<;>rfl
 intro k
 induction k with
 | zero =>
  intro i hk hi
  refine⟨0,fun f _ w hw n' e s e8 e7 e1 e0=>?_⟩
  obtain⟨w,rfl⟩:∃j,w=j+1:=⟨w-1,by omega⟩
  have c:¬i<rows.length:=by omega
  rw[List.drop_of_length_le (by omega),ixB,aLoop,IXL]
  simp -implicitDefEqProofs only[sL,e8,e7,c]
 | succ k ih =>
  intro i hk hi
  have hlt:i<rows.length:=by omega
  obtain⟨N2,q2⟩:=ih (i+1) (by omega) (by omega)
  have ha:=List.getElem?_eq_getElem hlt
  have hb:=List.getElem?_eq_getElem (l:=bs) (i:=i) (by omega)
  obtain⟨N1,q1⟩:=hc i _ _ ha hb
  refine⟨N1+N2,fun f hf w hw n' e s e8 e7 e1 e0=>?_⟩
  obtain⟨w,rfl⟩:∃j,w=j+1:=⟨w-1,by omega⟩
  have ia:aIndexAddr Tryz.prog t v (I i)=some (.box rows[i].cells 0):=by
   rcases hv with rfl|⟨_,rfl⟩
   ·exact idxG hu hz ha
   ·cases hlt
  obtain⟨r1,r2⟩:=hr _ (List.getElem_mem hlt)
  have bx:=fun s=>boxG r2 false s
  rw[←r1]at bx
  have w1:=wadd1 (a:=i) (by omega)
  have q1:=q1 f (by omega)
  rw[List.drop_eq_getElem_cons (l:=bs) (i:=i) (by omega),ixB,aLoop,IXL]
  cases hbv:bs[i] with
  | true =>
   rw[hbv]at q1
   simp -implicitDefEqProofs only[sL,e8,e7,e1,e0,hvs,hfs,hlt,ia,bx,q1]
  | false =>
   rw[hbv]at q1
   rw[if_neg Bool.false_ne_true]
   simp -implicitDefEqProofs only[sL,e8,e7,e1,e0,hvs,hfs,hlt,ia,bx,q1,w1]
   exact q2 f (by omega) w (by omega) n' _ _ (by simp[upds_at,upd_at]) ((upds_get _ _ _ rfl).trans e7) ((upds_get _ _ _ rfl).trans e1) ((upds_get _ _ _ rfl).trans e0)
end ParF
end

section
namespace PthF
open Go Go.Abs Go.Proofs ParF
-- slices.IndexFunc   api.Node,api.Node
noncomputable def F46_L0 (D:Den)(n:Nat)(k0:Env→Heap→Ans)(e:Env)(s:Heap):Ans :=
 oh (mp (aBin Tryz.prog .lss 3 (e 8) (e 7)) s) fun t9 s =>
 br t9 (oh (some ((e 8).strip,s)) fun t10 s =>oh (some (t10,s)) fun t5 s =>oh (some ((e 1).strip,s)) fun t11 s =>oh (some ((e 0).strip,s)) fun t12 s =>oh (some (t5.strip,s)) fun t13 s =>oh (mp (aIndexAddr Tryz.prog 25 t12 t13) s) fun t14 s =>oh (aLoad false true 7 t14 s) fun t15 s =>oh (aCallV Tryz.prog D t11 [t15] s) fun t16 s =>
 br t16 (oh (some (t5.strip,s)) fun t17 s =>oh (some (t17,s)) fun t4_2 s =>
 some (t4_2,s)) (oh (mp (aBin Tryz.prog .add 3 (e 8) (.int .i64 1)) s) fun t18 s =>oh (some (t18.strip,s)) fun t8_2 s =>
 k0 (upds e [(9,t9),(10,t10),(10,t10.strip),(5,t5),(11,t11),(12,t12),(13,t13),(14,t14),(15,t15),(16,t16),(18,t18),(8,t8_2)]) s)) (oh (some ((.int .i64 (-1)),s)) fun t4_3 s =>
 some (t4_3,s))
noncomputable def F46 (D:Den)(n:Nat)(t0 t1:AV)(s:Heap):Ans :=
 oh (some ((.int .i64 0),s)) fun t4 s =>oh (some (t0.strip,s)) fun t6 s =>oh (mp (aLen Tryz.prog 25 t6) s) fun t7 s =>oh (some ((.int .i64 0),s)) fun t8 s =>
 aLoop (F46_L0 D n) n (upds (argEnv [t0,t1]) [(4,t4),(6,t6),(7,t7),(8,t8)]) s
theorem F46_eq (n:Nat)(t0 t1:AV)(s:Heap):den C (n+1) 46 [t0,t1] s=F46 (den C n) n t0 t1 s :=
 (den_body rfl Tryz.func46 _ _).trans (by kernel_rfl)
theorem en46:enterable Tryz.prog 46=true:=by kernel_rfl
-- ast.PathAt 1
noncomputable def F47 (D:Den)(n:Nat)(t0 t1:AV)(s:Heap):Ans :=
 oh (aBox false 27 t0 s) fun t2 s =>oh (some ((.bool false),s)) fun t3 s =>oh (mp (aAddr 3 t2) s) fun t4 s =>oh (aLoad false false 1 t4 s) fun t5 s =>oh (aLoad false false 1 t1 s) fun t6 s =>oh (mp (aBin Tryz.prog .leq 3 t5 t6) s) fun t7 s =>oh (some (t7.strip,s)) fun t8 s =>oh (gd (wA t8 true) s (aLoad false false 1 t1 s)) fun t9 s =>oh (gd (wA t8 true) s (mp (aAddr 4 t2) s)) fun t10 s =>oh (gd (wA t8 true) s (aLoad false false 1 t10 s)) fun t11 s =>oh (gd (wA t8 true) s (mp (aBin Tryz.prog .lss 3 t9 t11) s)) fun t12 s =>oh (mp (aPick t8 t12 (.bool false)) s) fun t13 s =>oh (some (t13,s)) fun t3_2 s =>
 some (t3_2,s)
theorem F47_eq (n:Nat)(t0 t1:AV)(s:Heap):den C (n+1) 47 [t0,t1] s=F47 (den C n) n t0 t1 s :=
 (den_body rfl Tryz.func47 _ _).trans (by kernel_rfl)
theorem en47:enterable Tryz.prog 47=true:=by kernel_rfl
-- ast.PathAt
noncomputable def F29 (D:Den)(n:Nat)(t0 t1:AV)(s:Heap):Ans :=
 oh (aBox false 27 t0 s) fun t2 s =>oh (aBox false 3 t1 s) fun t3 s =>oh (some (.nils,s)) fun t4 s =>oh (mp (aAddr 6 t2) s) fun t6 s =>oh (aLoad false false 1 t6 s) fun t7 s =>oh (some ((.fn 47 [] [t3]),s)) fun t8 s =>oh (aCall Tryz.prog D 46 [t7.strip,t8.strip] s) fun t9 s =>oh (some (t9,s)) fun t5 s =>oh (some (t5.strip,s)) fun t10 s =>oh (mp (aBin Tryz.prog .lss 3 t10 (.int .i64 0)) s) fun t11 s =>
 br t11 (oh (some (.nils,s)) fun t4_2 s =>
 some (t4_2,s)) (oh (some (t5.strip,s)) fun t12 s1 =>oh (mp (aBuildSlice Tryz.prog 44 1 [(0,t12)]) s1) fun t13 s2 =>oh (mp (aAddr 6 t2) s2) fun t14 s3 =>oh (aLoad false false 1 t14 s3) fun t15 s4 =>oh (some (t5.strip,s4)) fun t16 s5 =>oh (mp (aIndexAddr Tryz.prog 25 t15 t16) s5) fun t17 s6 =>oh (aLoad false true 7 t17 s6) fun t18 s7 =>oh (aLoad false false 1 t3 s7) fun t19 s8 =>oh (aCall Tryz.prog D 29 [t18.strip,t19.strip] s8) fun t20 s9 =>oh (mp (aAppend Tryz.prog 44 44 t13 t20) s9) fun t21 s10 =>oh (some (t21,s10)) fun t4_3 s11 =>
 drawOK C 29 (regOps Tryz.f29 4) [.silent,.silent,.silent,(kLoad false t14),.silent,.silent,(kLoad false t17),(kLoad false t3),(dyn (kCall [t18.strip,t19.strip]) s8 s9),.silent,.silent] <|
 some (t4_3,s11))
theorem F29_eq (n:Nat)(t0 t1:AV)(s:Heap):den C (n+1) 29 [t0,t1] s=F29 (den C n) n t0 t1 s :=
 (den_body rfl Tryz.func29 _ _).trans (by kernel_rfl)
theorem en29:enterable Tryz.prog 29=true:=by kernel_rfl
-- glossatorkeep1.AstPath
noncomputable def F11_L1 (D:Den)(n:Nat)(k0:Env→Heap→Ans)(e:Env)(s:Heap):Ans :=
 oh (mp (aBin Tryz.prog .lss 3 (e 60) (e 59)) s) fun t61 s =>
 br t61 (oh (mp (aIndexAddr Tryz.prog 25 (e 58) (e 60)) s) fun t62 s =>oh (aLoad false true 7 t62 s) fun t63 s =>oh (aAlloc Tryz.prog 27 s) fun t12 s =>oh (sto (aStore 7 s t12 t63)) fun _r s =>oh (mp (aAddr 3 t12) s) fun t64 s =>oh (aLoad false false 1 t64 s) fun t65 s =>oh (some ((e 1).strip,s)) fun t66 s =>oh (mp (aBin Tryz.prog .leq 3 t65 t66) s) fun t67 s =>oh (some (t67.strip,s)) fun t68 s =>oh (gd (wA t68 true) s (some ((e 1).strip,s))) fun t69 s =>oh (gd (wA t68 true) s (mp (aAddr 4 t12) s)) fun t70 s =>oh (gd (wA t68 true) s (aLoad false false 1 t70 s)) fun t71 s =>oh (gd (wA t68 true) s (mp (aBin Tryz.prog .lss 3 t69 t71) s)) fun t72 s =>oh (mp (aPick t68 t72 (.bool false)) s) fun t73 s =>
 br t73 (oh (some ((.bool false),s)) fun t4_5 s =>
 some (t4_5,s)) (oh (mp (aBin Tryz.prog .add 3 (e 60) (.int .i64 1)) s) fun t74 s =>oh (some (t74.strip,s)) fun t60_2 s =>
 k0 (upds e [(61,t61),(62,t62),(63,t63),(12,t12),(63,t63.strip),(64,t64),(65,t65),(66,t66),(67,t67),(68,t68),(69,t69),(70,t70),(71,t71),(72,t72),(73,t73),(74,t74),(60,t60_2)]) s)) (oh (aCall Tryz.prog D 20 [] s) fun t75 s =>oh (some (t75.strip,s)) fun t76 s =>oh (gd (wA t76 true) s (some ((e 7).strip,s))) fun t77 s =>oh (gd (wA t76 true) s (mp (aBin Tryz.prog .eql 29 t77 (.int .i64 0)) s)) fun t78 s =>oh (mp (aPick t76 t78 (.bool false)) s) fun t79 s =>oh (some (t79,s)) fun t4_6 s =>
 some (t4_6,s))
noncomputable def F11_L0 (D:Den)(n:Nat)(k0:Env→Heap→Ans)(e:Env)(s:Heap):Ans :=
 oh (mp (aBin Tryz.prog .lss 3 (e 28) (e 27)) s) fun t29 s =>
 br t29 (oh (mp (aIndexAddr Tryz.prog 44 (e 26) (e 28)) s) fun t30 s =>oh (aLoad false false 1 t30 s) fun t31 s =>oh (some (t31,s)) fun t10 s =>oh (some (t10.strip,s)) fun t32 s =>oh (mp (aBin Tryz.prog .lss 3 t32 (.int .i64 0)) s) fun t33 s =>oh (some (t33.strip,s)) fun t34 s =>oh (gd (wA t34 false) s (some (t10.strip,s))) fun t35 s =>oh (gd (wA t34 false) s (mp (aAddr 6 (e 8)) s)) fun t36 s =>oh (gd (wA t34 false) s (aLoad false false 1 t36 s)) fun t37 s =>oh (gd (wA t34 false) s (mp (aLen Tryz.prog 25 t37) s)) fun t38 s =>oh (gd (wA t34 false) s (mp (aBin Tryz.prog .geq 3 t35 t38) s)) fun t39 s =>oh (mp (aPick t34 (.bool true) t39) s) fun t40 s =>
 br t40 (oh (some ((.bool false),s)) fun t4_3 s =>
 some (t4_3,s)) (oh (mp (aAddr 6 (e 8)) s) fun t41 s =>oh (aLoad false false 1 t41 s) fun t42 s =>oh (some (t10.strip,s)) fun t43 s =>oh (mp (aIndexAddr Tryz.prog 25 t42 t43) s) fun t44 s =>oh (aLoad false true 7 t44 s) fun t45 s =>oh (sto (aStore 7 s (e 8) t45)) fun _r s =>oh (some ((e 1).strip,s)) fun t46 s =>oh (mp (aAddr 3 (e 8)) s) fun t47 s =>oh (aLoad false false 1 t47 s) fun t48 s =>oh (mp (aBin Tryz.prog .lss 3 t46 t48) s) fun t49 s =>oh (some (t49.strip,s)) fun t50 s =>oh (gd (wA t50 false) s (some ((e 1).strip,s))) fun t51 s =>oh (gd (wA t50 false) s (mp (aAddr 4 (e 8)) s)) fun t52 s =>oh (gd (wA t50 false) s (aLoad false false 1 t52 s)) fun t53 s =>oh (gd (wA t50 false) s (mp (aBin Tryz.prog .geq 3 t51 t53) s)) fun t54 s =>oh (mp (aPick t50 (.bool true) t54) s) fun t55 s =>
 br t55 (oh (some ((.bool false),s)) fun t4_4 s =>
 some (t4_4,s)) (oh (mp (aBin Tryz.prog .add 3 (e 28) (.int .i64 1)) s) fun t56 s =>oh (some (t56.strip,s)) fun t28_2 s =>
 k0 (upds e [(29,t29),(30,t30),(31,t31),(31,t31.strip),(10,t10),(32,t32),(33,t33),(34,t34),(35,t35),(36,t36),(37,t37),(38,t38),(39,t39),(40,t40),(41,t41),(42,t42),(43,t43),(44,t44),(45,t45),(45,t45.strip),(46,t46),(47,t47),(48,t48),(49,t49),(50,t50),(51,t51),(52,t52),(53,t53),(54,t54),(55,t55),(56,t56),(28,t28_2)]) s))) (oh (mp (aAddr 6 (e 8)) s) fun t57 s =>oh (aLoad false false 1 t57 s) fun t58 s =>oh (mp (aLen Tryz.prog 25 t58) s) fun t59 s =>oh (some ((.int .i64 0),s)) fun t60 s =>
 aLoop (F11_L1 D n) n (upds e [(29,t29),(57,t57),(58,t58),(59,t59),(60,t60)]) s)
noncomputable def F11 (D:Den)(n:Nat)(t0 t1:AV)(s:Heap):Ans :=
 oh (some ((.bool false),s)) fun t4 s =>oh (aCall Tryz.prog D 20 [] s) fun t13 s =>oh (mp (aUn .not t13) s) fun t14 s =>
 br t14 (oh (some ((.bool false),s)) fun t4_2 s =>
 some (t4_2,s)) (oh (some (t0.strip,s)) fun t15 s =>oh (aCall Tryz.prog D 13 [t15.strip,(.int .i64 400)] s) fun t16 s =>oh (some (t16,s)) fun t0_2 s =>oh (some (t0_2.strip,s)) fun t18 s =>oh (aCall Tryz.prog D 15 [t18.strip] s) fun t19 s =>oh (some (t19.strip,s)) fun t17 s =>oh (mp (aExtract 0 t17) s) fun t20 s =>oh (mp (aExtract 1 t17) s) fun t21 s =>oh (mp (aExtract 2 t17) s) fun t22 s =>oh (aAlloc Tryz.prog 27 s) fun t5 s =>oh (sto (aStore 7 s t5 t20)) fun _r s =>oh (some (t21,s)) fun t6 s =>oh (some (t22,s)) fun t7 s =>oh (aLoad false true 7 t5 s) fun t23 s =>oh (aAlloc Tryz.prog 27 s) fun t8 s =>oh (sto (aStore 7 s t8 t23)) fun _r s =>oh (aLoad false true 7 t5 s) fun t24 s =>oh (some (t1.strip,s)) fun t25 s =>oh (aCall Tryz.prog D 29 [t24.strip,t25.strip] s) fun t26 s =>oh (mp (aLen Tryz.prog 44 t26) s) fun t27 s =>oh (some ((.int .i64 0),s)) fun t28 s =>
 aLoop (F11_L0 D n) n (upds (argEnv [t0,t1]) [(4,t4),(13,t13),(14,t14),(15,t15),(16,t16),(16,t16.strip),(0,t0_2),(18,t18),(19,t19),(17,t17),(20,t20),(21,t21),(22,t22),(5,t5),(20,t20.strip),(21,t21.strip),(6,t6),(22,t22.strip),(7,t7),(23,t23),(8,t8),(23,t23.strip),(24,t24),(25,t25),(26,t26),(27,t27),(28,t28)]) s)
theorem F11_eq (n:Nat)(t0 t1:AV)(s:Heap):den C (n+1) 11 [t0,t1] s=F11 (den C n) n t0 t1 s :=
 (den_body rfl Tryz.func11 _ _).trans (by kernel_rfl)
theorem en11:enterable Tryz.prog 11=true:=by kernel_rfl
end PthF
end

section
namespace ParF
open Go Go.Abs Go.Proofs Pm PthF AstF
theorem AC.clsB {g:FuncId}{a:AV}{cap:List AV}{b:Bool}(h:AC C g ([a]++cap) (.bool b))(hc:cap.map AV.strip=cap)(ha:a.strip=a):ClsB (.fn g [] cap) a b:=by
 obtain⟨N,h⟩:=LexF.AC.at h
 refine⟨N,fun n hn s=>?_⟩
 have h:=h n hn s
 rw[aCallV,List.nil_append,List.map_append,hc,List.map_cons,List.map_nil,ha]
 exact h
def cov (off:Int)(t:Nd):Bool:=decide (t.s≤off)&&decide (off<t.e)
theorem cov_run {T:Nd}{a:AV}(h:IsN T a)(off:Int):AC C 47 [a,.box [I off] 0] (.bool (cov off T)):=by
 have nr:noRefL [a,.box [I off] 0]=true:=by rw[noRefL_cons,h.noRef];rfl
 refine .intro en47 nr rfl ⟨1,fun f hf=>⟨[],?_⟩⟩
 cases h with
 | mk k v x st e ns cs ch h =>
 obtain⟨r,hr⟩:∃r,r=[I k,I v,.str x,I st,I e,I ns,ch]:=⟨_,rfl⟩
 have b1:aBox false 27 (.agg [I k,I v,.str x,I st,I e,I ns,ch]) []=some (.box r 0,[]):=by rw[aBox_f _ _ _ rfl,hr];exact congrArg (fun c=>some (AV.box c 0,([]:Heap))) (by simp[h.strip.1,AV.strip])
 have x3:∀s:Heap,aLoad false false 1 (.box r 3) s=some (I st,s):=fun s=>by rw[aLoad_one,hr];rfl
 have x4:∀s:Heap,aLoad false false 1 (.box r 4) s=some (I e,s):=fun s=>by rw[aLoad_one,hr];rfl
 have hv:cov off (.mk k v x st e ns cs)=(decide (st≤off)&&decide (off<e)):=rfl
 rw[F47_eq,F47,hv]
 by_cases c:st≤off
 ·simp -implicitDefEqProofs only[sL,b1,x3,x4,c,Bool.true_and]
 ·simp -implicitDefEqProofs only[sL,b1,x3,x4,c,Bool.false_and]
theorem IsNL.rows:∀{cs:List Nd}{rows:List AV},IsNL cs rows→rows.length=cs.length∧∀(i:Nat) a,rows[i]?=some a→∃t,cs[i]?=some t∧IsN t a
 | _,_,.nil=>⟨rfl,fun i a h=>by simp at h⟩
 | _,_,.cons t a cs rows h h'=>by
  obtain⟨h1,h2⟩:=IsNL.rows h'
  refine⟨by rw[List.length_cons,List.length_cons,h1],fun i b hb=>?_⟩
  cases i with
  | zero=>rw[List.getElem?_cons_zero]at hb;cases hb;exact⟨t,rfl,h⟩
  | succ i=>exact h2 i b hb
theorem ixB_cases:∀(bs:List Bool)(i:Nat),(ixB i bs=-1∧∀b∈bs,b=false)∨∃k:Nat,ixB i bs=((i+k:Nat):Int)∧bs[k]?=some true
 | [],i=>.inl ⟨rfl,fun b h=>by cases h⟩
 | b::r,i=>by
  rw[ixB]
  cases b with
  | true=>exact .inr ⟨0,by rw[if_pos rfl];rfl,rfl⟩
  | false =>
   rw[if_neg Bool.false_ne_true]
   rcases ixB_cases r (i+1) with ⟨h1,h2⟩|⟨k,h1,h2⟩
   ·refine .inl ⟨h1,fun b hb=>?_⟩
    rcases List.mem_cons.1 hb with rfl|hb
    ·rfl
    ·exact h2 b hb
   ·exact .inr ⟨k+1,by rw[h1];congr 1;omega,h2⟩
theorem ixl46:F46_L0=IXL 25 7:=rfl
theorem index46 {cs:List Nd}{ch:AV}(hch:IsNC cs ch)(off:Int)(hn:cs.length<900000000):AC C 46 [ch,.fn 47 [] [.box [I off] 0]] (I (ixB 0 (cs.map (cov off)))):=by
 obtain⟨c1,c2,c3⟩:=hch.strip
 obtain⟨hl,-⟩:=hch.facts
 obtain⟨rows,hv,hL⟩:∃rows,(ch=.sl 27 7 rows .sh∨(ch=.nils∧rows=[]))∧IsNL cs rows:=by
  cases hch with
  | nil=>exact⟨[],.inr ⟨rfl,rfl⟩,.nil⟩
  | sl cs rows h=>exact⟨rows,.inl rfl,h⟩
 obtain⟨l1,l2⟩:=hL.rows
 obtain⟨N,h⟩:=ixloop under25 sz27 (v:=ch) (fv:=.fn 47 [] [.box [I off] 0]) hv (fun a ha=>by
  obtain⟨i,hi⟩:=List.mem_iff_getElem?.1 ha
  obtain⟨t,_,ht⟩:=l2 i a hi
  obtain⟨a1,a2,a3,a4⟩:=ht.cells
  exact⟨a4,a1⟩) rfl (bs:=cs.map (cov off)) (by rw[List.length_map,l1]) (fun i a b ha hb=>by
  obtain⟨t,h1,ht⟩:=l2 i a ha
  rw[List.getElem?_map,h1]at hb
  cases hb
  obtain⟨a1,a2,a3,a4⟩:=ht.cells
  exact AC.clsB (cov_run ht off) rfl (by rw[a4];rfl)) (by omega) rows.length 0 (by omega) (by omega)
 rw[List.drop_zero]at h
 refine .intro en46 (by rw[noRefL_cons,hch.noRef];rfl) rfl ⟨N+rows.length+1,fun f hf=>⟨[],?_⟩⟩
 have hl':aLen Tryz.prog 25 ch=some (I rows.length):=by rw[l1];exact hl
 rw[F46_eq,F46,ixl46]
 simp -implicitDefEqProofs only[sL,c1,hl']
 exact h f (by omega) f (by omega) f _ _ (by simp[upds_at,upd_at]) (by simp[upds_at,upd_at]) (by simp[upds_at,upd_at,argEnv]) (by simp[upds_at,upd_at,argEnv])
inductive PathOK (off:Int):Nd→List Nat→Prop
 | here (T:Nd) (h:∀c∈T.cs,cov off c=false):PathOK off T []
 | down (T:Nd) (i:Nat) (c:Nd) (p:List Nat) (h:T.cs[i]?=some c) (hc:cov off c=true) (hp:PathOK off c p):PathOK off T (i::p)
def natsV:List Nat→AV
 | []=>.nils
 | x::r=>.sl 3 1 ((x::r).map fun(i:Nat)=>I i) .own
theorem under44:Tryz.prog.underlying 44=some (.slice 3):=by kernel_rfl
theorem info3:Info 3 1:=infoG (by kernel_rfl)
theorem noRef_ints:∀(p:List Nat),noRefL (p.map fun(i:Nat)=>I i)=true
 | []=>noRefL_nil
 | x::r=>by rw[List.map_cons,noRefL_cons,noRef_ints r];rfl
theorem natsV_noRef (p:List Nat):(natsV p).noRef=true:=by
 cases p with
 | nil=>rfl
 | cons x r=>rw[natsV,noRef_sl];exact noRef_ints _
theorem lit44 (i:Nat):aBuildSlice Tryz.prog 44 1 [(0,I i)]=some (.sl 3 1 [I i] .own):=by
 obtain⟨j,zz,h1,h2,h3,h4,h5⟩:=info3
 have hs:szOf Tryz.prog 3=some 1:=by kernel_rfl
 simp[aBuildSlice,under44,hs,h1,h3,h4,inRow,AV.cells,AV.solid]
theorem app44 (i:Nat)(p:List Nat)(hp:p.length<900000000):aAppend Tryz.prog 44 44 (.sl 3 1 [I i] .own) (natsV p)=some (natsV (i::p)):=by
 obtain⟨j,zz,h1,h2,h3,h4,h5⟩:=info3
 have hb:(2*(p.length+1)+768)*j.bytes≤281474976710656:=by
  have:(2*(p.length+1)+768)*j.bytes≤(2*(p.length+1)+768)*100:=Nat.mul_le_mul_left _ h5
  omega
 have hb2:p.length+1≤2305843009213693951:=by omega
 cases p with
 | nil=>have hb:(2*1+768)*j.bytes≤281474976710656:=hb;simp[aAppend,natsV,under44,h1,srcOf,h2,h3,h4,hb]
 | cons x r =>
  rw[List.length_cons]at hb hb2
  have e1:1+(r.length+1)=r.length+1+1:=by omega
  simp[aAppend,natsV,under44,h1,srcOf,h2,h3,h4,e1,hb,hb2]
theorem d29_4s (x:Ans):drawOK C 29 (regOps Tryz.f29 4) [.silent,.silent,.silent,.silent,.silent,.silent,.silent,.silent,.silent,.silent,.silent] x=x:=drawOK_base (by kernel_rfl)
theorem path_run (off:Int):∀(n:Nat)(T:Nd)(a:AV),szN T≤n→IsN T a→szN T<800000000→∃p,PathOK off T p∧p.length≤szN T∧AC C 29 [a,I off] (natsV p):=by
 intro n
 induction n with
 | zero=>intro T a hz;have:=szN_pos T;omega
 | succ n ih =>
  intro T a hz hT hsz
  have nr:noRefL [a,I off]=true:=by rw[noRefL_cons,hT.noRef];rfl
  cases hT with
  | mk k v x s0 e0 n0 cs ch hch =>
  rw[szN_mk]at hz hsz
  have hcl:=len_le_szN cs
  obtain⟨c1,c2,c3⟩:=hch.strip
  obtain⟨hl,hat⟩:=hch.facts
  obtain⟨r,hr⟩:∃r,r=[I k,I v,.str x,I s0,I e0,I n0,ch]:=⟨_,rfl⟩
  have b1:aBox false 27 (.agg [I k,I v,.str x,I s0,I e0,I n0,ch]) []=some (.box r 0,[]):=by rw[aBox_f _ _ _ rfl,hr];exact congrArg (fun c=>some (AV.box c 0,([]:Heap))) (by simp[c1,AV.strip])
  have b2:aBox false 3 (I off) []=some (.box [I off] 0,[]):=by rw[aBox_f _ _ _ rfl];rfl
  have x6:∀s:Heap,aLoad false false 1 (.box r 6) s=some (ch,s):=fun s=>by rw[aLoad_one,hr];simp[c1]
  have xo:∀s:Heap,aLoad false false 1 (.box [I off] 0) s=some (I off,s):=fun s=>by rw[aLoad_one];rfl
  have fs:(AV.fn 47 [] [.box [I off] 0]).strip=.fn 47 [] [.box [I off] 0]:=rfl
  obtain⟨N1,q1⟩:=LexF.AC.at (index46 hch off (by omega))
  rcases ixB_cases (cs.map (cov off)) 0 with ⟨h1,h2⟩|⟨i,h1,h2⟩
  ·rw[h1]at q1
   refine⟨[],.here _ (fun c hc=>h2 _ (List.mem_map_of_mem hc)),Nat.zero_le _,.intro en29 nr rfl ⟨N1,fun f hf=>⟨[],?_⟩⟩⟩
   have q1:=q1 f (by omega)
   rw[F29_eq,F29]
   simp -implicitDefEqProofs only[sL,b1,b2,x6,c1,fs,q1,show ((-1:Int)<0) from by decide]
   rfl
  ·rw[Nat.zero_add]at h1
   rw[h1]at q1
   rw[List.getElem?_map,Option.map_eq_some_iff]at h2
   obtain⟨c,hc,hv⟩:=h2
   obtain⟨b,hb,hU⟩:=hat hc
   obtain⟨b1',b2',b3',b4'⟩:=hU.cells
   have hst:b.strip=b:=by rw[b4'];rfl
   have hm:=szN_mem (List.mem_of_getElem? hc)
   obtain⟨p,hp1,hp2,hp3⟩:=ih c b (by omega) hU (by omega)
   obtain⟨N2,q2⟩:=LexF.AC.at hp3
   refine⟨i::p,.down _ i c p hc hv hp1,by rw[List.length_cons,szN_mk];omega,.intro en29 nr (natsV_noRef _) ⟨N1+N2,fun f hf=>⟨[],?_⟩⟩⟩
   have q1:=q1 f (by omega)
   have q2:=q2 f (by omega)
   have ldb:=fun s=>box7 s b1' b4'
   have ap:=app44 i p (by omega)
   have hi0:¬((i:Int)<0):=by omega
   rw[F29_eq,F29]
   simp -implicitDefEqProofs only[sL,b1,b2,x6,xo,c1,fs,q1,hi0,lit44,hb,ldb,hst,hU.noRef,q2,ap,d29_4s]
end ParF
end

section
namespace ParF
open Go Go.Abs Go.Proofs Pm PthF AstF
theorem natsV_len (p:List Nat):aLen Tryz.prog 44 (natsV p)=some (I p.length):=by
 cases p with
 | nil=>exact lenN under44
 | cons x r=>rw[natsV,lenG under44,List.length_map]
theorem natsV_at {p:List Nat}{i:Nat}(h:i<p.length):aIndexAddr Tryz.prog 44 (natsV p) (I i)=some (.box [I p[i]] 0):=by
 have hs:szOf Tryz.prog 3=some 1:=by kernel_rfl
 cases p with
 | nil=>cases h
 | cons x r =>
  have:=idxG (f:=.own) (rows:=(x::r).map fun(i:Nat)=>I i) (i:=i) (a:=I (x::r)[i]) under44 hs (by rw[List.getElem?_map,List.getElem?_eq_getElem h];rfl)
  exact this
theorem IsN.se {t:Nd}{a:AV}(h:IsN t a):a.cells[3]?=some (I t.s)∧a.cells[4]?=some (I t.e)∧∃ch,a.cells[6]?=some ch∧IsNC t.cs ch:=by
 cases h with
 | mk k v x s e ns cs ch h=>exact⟨rfl,rfl,ch,rfl,h⟩
theorem pth_l1 {off:Int}{cs:List Nd}{ch:AV}(hch:IsNC cs ch)(hn:cs.length<900000000)(hc:∀c∈cs,cov off c=false):∀(k i:Nat),cs.length-i=k→i≤cs.length →
  ∃N,∀f,N≤f→∀w,k<w→∀n' e s,e 60=I i→e 59=I cs.length→e 58=ch→e 1=I off→e 7=I 0→∃s',aLoop (F11_L1 (den C f) n') w e s=some (.bool true,s'):=by
 obtain⟨hl,hat⟩:=hch.facts
 intro k
 induction k with
 | zero =>
  intro i hk hi
  obtain⟨N,q⟩:=LexF.AC.at exa_run
  refine⟨N,fun f hf w hw n' e s e60 e59 e58 e1 e7=>⟨s,?_⟩⟩
  obtain⟨w,rfl⟩:∃j,w=j+1:=⟨w-1,by omega⟩
  have q:=q f hf
  have c:¬i<cs.length:=by omega
  have z1:((0:Int)==0)=true:=rfl
  rw[aLoop,F11_L1]
  simp -implicitDefEqProofs only[sL,e60,e59,e7,c,q,z1]
 | succ k ih =>
  intro i hk hi
  have hlt:i<cs.length:=by omega
  obtain⟨a,ha,hT⟩:=hat (List.getElem?_eq_getElem hlt)
  obtain⟨N,q⟩:=ih (i+1) (by omega) (by omega)
  refine⟨N,fun f hf w hw n' e s e60 e59 e58 e1 e7=>?_⟩
  obtain⟨w,rfl⟩:∃j,w=j+1:=⟨w-1,by omega⟩
  obtain⟨a1,a2,a3,a4⟩:=hT.cells
  obtain⟨g3,g4,-⟩:=hT.se
  have hcv:(decide (cs[i].s≤off)&&decide (off<cs[i].e))=false:=hc _ (List.getElem_mem hlt)
  have b7:=fun s=>box7 s a1 a4
  have z:aAlloc Tryz.prog 27 s=some (.ref s.length 0,s++[(27,zrow7)]):=by rw[zero27]
  obtain⟨s1,hs1⟩:∃s1,s++[(27,a.cells)]=s1:=⟨_,rfl⟩
  have sto:aStore 7 (s++[(27,zrow7)]) (.ref s.length 0) a=some s1:=by rw[st7 (gapp_new) rfl a1 a2 a4,set_end,hs1]
  have hs:s1[s.length]?=some (27,a.cells):=by rw[←hs1,gapp_new]
  have l3:aLoad false false 1 (.ref s.length 3) s1=some (I cs[i].s,s1):=ld (n:=1) (o:=3) hs (by decide) g3 (by decide)
  have l4:aLoad false false 1 (.ref s.length 4) s1=some (I cs[i].e,s1):=ld (n:=1) (o:=4) hs (by decide) g4 (by decide)
  have w1:=wadd1 (a:=i) (by omega)
  rw[aLoop,F11_L1]
  by_cases c1:cs[i].s≤off
  ·have c2:¬off<cs[i].e:=by simpa[c1] using hcv
   simp -implicitDefEqProofs only[sL,e60,e59,e58,e1,hlt,ha,b7,z,sto,l3,l4,c1,c2,w1]
   exact q f (by omega) w (by omega) n' _ _ (by simp[upds_at,upd_at]) ((upds_get _ _ _ rfl).trans e59) ((upds_get _ _ _ rfl).trans e58) ((upds_get _ _ _ rfl).trans e1) ((upds_get _ _ _ rfl).trans e7)
  ·simp -implicitDefEqProofs only[sL,e60,e59,e58,e1,hlt,ha,b7,z,sto,l3,l4,c1,w1]
   exact q f (by omega) w (by omega) n' _ _ (by simp[upds_at,upd_at]) ((upds_get _ _ _ rfl).trans e59) ((upds_get _ _ _ rfl).trans e58) ((upds_get _ _ _ rfl).trans e1) ((upds_get _ _ _ rfl).trans e7)
theorem pth_l0 {off:Int}{p:List Nat}(hp:p.length<900000000):∀(k i:Nat),p.length-i=k→i≤p.length→∀(T:Nd)(a:AV),IsN T a→szN T<800000000→PathOK off T (p.drop i) →
  ∃N,∀f,N≤f→∀w,k<w→∀n' e s H,900000000≤n'→s[H]?=some (27,a.cells)→e 28=I i→e 27=I p.length→e 26=natsV p→e 8=.ref H 0→e 1=I off→e 7=I 0→∃s',aLoop (F11_L0 (den C f) n') w e s=some (.bool true,s'):=by
 intro k
 induction k with
 | zero =>
  intro i hk hi T a hT hz hP
  rw[List.drop_of_length_le (by omega)]at hP
  obtain⟨-,-,ch,g6,hch⟩:=hT.se
  have hcl:=len_le_szN T.cs
  have hcz:szNL T.cs≤szN T:=by cases T;rw[szN_mk];exact Nat.le_add_left _ _
  obtain⟨hl,-⟩:=hch.facts
  obtain⟨c1,-,-⟩:=hch.strip
  obtain⟨N,q⟩:=pth_l1 hch (by omega) (off:=off) (by cases hP with|here _ h=>exact h) T.cs.length 0 (by omega) (by omega)
  refine⟨N,fun f hf w hw n' e s H hn' hH e28 e27 e26 e8 e1 e7=>?_⟩
  obtain⟨w,rfl⟩:∃j,w=j+1:=⟨w-1,by omega⟩
  have c:¬i<p.length:=by omega
  have l6:aLoad false false 1 (.ref H 6) s=some (ch,s):=by rw[ld (n:=1) (o:=6) hH (by decide) g6 (by decide),c1]
  rw[aLoop,F11_L0]
  simp -implicitDefEqProofs only[sL,e28,e27,e8,c,l6,hl]
  exact q f hf n' (by omega) n' _ _ (by simp[upds_at,upd_at]) (by simp[upds_at,upd_at]) (by simp[upds_at,upd_at]) ((upds_get _ _ _ rfl).trans e1) ((upds_get _ _ _ rfl).trans e7)
 | succ k ih =>
  intro i hk hi T a hT hz hP
  have hlt:i<p.length:=by omega
  rw[List.drop_eq_getElem_cons hlt]at hP
  obtain⟨x,hx⟩:∃x,x=p[i]:=⟨_,rfl⟩
  rw[←hx]at hP
  cases hP with
  | down _ _ c _ hc hv hP =>
  obtain⟨-,-,ch,g6,hch⟩:=hT.se
  have hcz:szNL T.cs≤szN T:=by cases T;rw[szN_mk];exact Nat.le_add_left _ _
  have hcl:=len_le_szN T.cs
  obtain⟨hl,hat⟩:=hch.facts
  obtain⟨c1,-,-⟩:=hch.strip
  obtain⟨b,hb,hU⟩:=hat hc
  obtain⟨b1,b2,b3,b4⟩:=hU.cells
  obtain⟨g3,g4,-⟩:=hU.se
  have hm:=szN_mem (List.mem_of_getElem? hc)
  obtain⟨N,q⟩:=ih (i+1) (by omega) (by omega) c b hU (by omega) hP
  refine⟨N,fun f hf w hw n' e s H hn' hH e28 e27 e26 e8 e1 e7=>?_⟩
  obtain⟨w,rfl⟩:∃j,w=j+1:=⟨w-1,by omega⟩
  have ia:=natsV_at hlt
  rw[←hx]at ia
  have b0:∀s:Heap,aLoad false false 1 (.box [I x] 0) s=some (I x,s):=fun s=>by rw[aLoad_one];rfl
  have l6:aLoad false false 1 (.ref H 6) s=some (ch,s):=by rw[ld (n:=1) (o:=6) hH (by decide) g6 (by decide),c1]
  have b7:=fun s=>box7 s b1 b4
  obtain⟨s1,hs1⟩:∃s1,s.set H (27,b.cells)=s1:=⟨_,rfl⟩
  obtain⟨d1,-,-,-⟩:=hT.cells
  have sto:aStore 7 s (.ref H 0) b=some s1:=by rw[st7 hH d1 b1 b2 b4,hs1]
  have hs:s1[H]?=some (27,b.cells):=by rw[←hs1];exact gset_eq hH
  have l3:aLoad false false 1 (.ref H 3) s1=some (I c.s,s1):=ld (n:=1) (o:=3) hs (by decide) g3 (by decide)
  have l4:aLoad false false 1 (.ref H 4) s1=some (I c.e,s1):=ld (n:=1) (o:=4) hs (by decide) g4 (by decide)
  have hv':(decide (c.s≤off)&&decide (off<c.e))=true:=hv
  rw[Bool.and_eq_true,decide_eq_true_eq,decide_eq_true_eq]at hv'
  have n1:¬off<c.s:=by omega
  have n2:¬c.e≤off:=by omega
  have x0:¬((x:Int)<0):=by omega
  have hxl:x<T.cs.length:=(List.getElem?_eq_some_iff.1 hc).1
  have x1:¬T.cs.length≤x:=by omega
  have w1:=wadd1 (a:=i) (by omega)
  rw[aLoop,F11_L0]
  simp -implicitDefEqProofs only[sL,e28,e27,e26,e8,e1,hlt,ia,b0,x0,l6,hl,x1,hb,b7,sto,l3,l4,n1,n2,w1]
  exact q f (by omega) w (by omega) n' _ s1 H hn' hs (by simp[upds_at,upd_at]) ((upds_get _ _ _ rfl).trans e27) ((upds_get _ _ _ rfl).trans e26) ((upds_get _ _ _ rfl).trans e8) ((upds_get _ _ _ rfl).trans e1) ((upds_get _ _ _ rfl).trans e7)
theorem pth_run (src:Bytes)(off:Int):AC C 11 [.str src,I off] (.bool true):=by
 obtain⟨w,hw⟩:∃w,w=src.take 400:=⟨_,rfl⟩
 have hwl:w.length≤400:=by rw[hw,List.length_take];omega
 obtain⟨T,a,F,A,r⟩:=ast_run w (by omega)
 have hsz:szN (astB w T).1<800000000:=by have:=szA w T;have:=(isFile_facts (by omega) F).2.2.1;omega
 obtain⟨p,P,pl,pr⟩:=path_run off _ _ a (Nat.le_refl _) A hsz
 obtain⟨a1,a2,a3,a4⟩:=A.cells
 have ast:a.strip=a:=by rw[a4];rfl
 have dst:(dgOut (astB w T).2).strip=dgOut (astB w T).2:=by unfold dgOut;split<;>rfl
 obtain⟨N0,q0⟩:=LexF.AC.at exa_run
 obtain⟨N1,q1⟩:=LexF.AC.at (LexF.short_run src 400)
 obtain⟨N2,q2⟩:=LexF.AC.at r
 obtain⟨N3,q3⟩:=LexF.AC.at pr
 obtain⟨N4,q4⟩:=pth_l0 (off:=off) (p:=p) (by omega) p.length 0 (by omega) (by omega) _ a A hsz (by rw[List.drop_zero];exact P)
 refine .intro en11 rfl rfl ⟨N0+N1+N2+N3+N4+p.length+900000000,fun n hn=>?_⟩
 have q0:=q0 n (by omega)
 have q1:∀s',aCall Tryz.prog (den C n) 13 [.str src,.int .i64 400] s'=some (.str w,s'):=by rw[hw];exact q1 n (by omega)
 have q2:=q2 n (by omega)
 have q3:=q3 n (by omega)
 have zz1:aAlloc Tryz.prog 27 []=some (.ref 0 0,[(27,zrow7)]):=by rw[zero27];rfl
 have zz2:aAlloc Tryz.prog 27 [(27,a.cells)]=some (.ref 1 0,[(27,a.cells),(27,zrow7)]):=by rw[zero27];rfl
 have s1:aStore 7 [(27,zrow7)] (.ref 0 0) a=some [(27,a.cells)]:=by rw[st7 (s:=[(27,zrow7)]) (i:=0) rfl rfl a1 a2 a4];rfl
 have s2:aStore 7 [(27,a.cells),(27,zrow7)] (.ref 1 0) a=some [(27,a.cells),(27,a.cells)]:=by rw[st7 (s:=[(27,a.cells),(27,zrow7)]) (i:=1) rfl rfl a1 a2 a4];rfl
 have l0:aLoad false true 7 (.ref 0 0) [(27,a.cells)]=some (a,[(27,a.cells)]):=ld7 rfl a1 a4
 have l1:aLoad false true 7 (.ref 0 0) [(27,a.cells),(27,a.cells)]=some (a,[(27,a.cells),(27,a.cells)]):=ld7 rfl a1 a4
 have nl:=natsV_len p
 rw[F11_eq,F11]
 simp -implicitDefEqProofs only[sL,q0,Bool.not_true,q1,q2,ast,dst,zz1,s1,l0,zz2,s2,l1,q3,nl]
 exact q4 n (by omega) n (by omega) n _ _ 1 (by omega) rfl (by simp[upds_at,upd_at]) (by simp[upds_at,upd_at]) (by simp[upds_at,upd_at]) (by simp[upds_at,upd_at]) (by simp[upds_at,upd_at,argEnv]) (by simp[upds_at,upd_at])
end ParF
end
