/- StrF, NdSz, NdSz2, WalkG, AstE, ExaA, ExaB -/
import Derived.Test.YtnhnmigafkodfaaGreatDoorC
import Derived.Test.YtnhnmigafkodfaaGreatDoorG
import Derived.Test.YtnhnmigafkodfaaGreatDoorH
import Derived.Test.YtnhnmigafkodfaaGreatDoorB
set_option linter.all false
set_option maxRecDepth 100000
set_option maxHeartbeats 1000000

section
namespace StrF
open Go Go.Abs Go.Proofs ParF
-- ast.StripPositions
-- glossatorref1.SameNode
-- glossatorkeep1.AstStrip
-- glossatorkeep1.astExample
noncomputable def F20 (D:Den)(n:Nat)(s:Heap):Ans :=
 oCp (.bool false) s fun t0 s =>
 oCa D 15 [(.str [102,110,32,102,40,41,123,49,42,40,50,43,51,41,125])] s fun t7 s =>
 oMv t7 s fun t6 s =>
 oXt 0 t6 s fun t8 s =>
 oXt 1 t6 s fun t9 s =>
 oXt 2 t6 s fun t10 s =>
 oAl 27 s fun t1 s =>
 oSr 7 s t1 t8 fun _r s =>
 oCp t9 s fun t2 s =>
 oCp t10 s fun t3 s =>
 oLa 7 t1 s fun t12 s =>
 oCa D 21 [t12.strip] s fun t13 s =>
 oMv t13 s fun t11 s =>
 oXt 0 t11 s fun t14 s =>
 oXt 1 t11 s fun t15 s =>
 oCp t14 s fun t4 s =>
 oCp t15 s fun t5 s =>
 oMv t3 s fun t16 s =>
 oBn .eql 29 t16 (.int .i64 0) s fun t17 s =>
 oMv t17 s fun t18 s =>
 oGt t18 s (some (t2.strip,s)) fun t19 s =>
 oGt t18 s (mp (aLen Tryz.prog 28 t19) s) fun t20 s =>
 oGt t18 s (mp (aBin Tryz.prog .eql 3 t20 (.int .i64 0)) s) fun t21 s =>
 oPk t18 t21 (.bool false) s fun t22 s =>
 oMv t22 s fun t23 s =>
 oGt t23 s (some (t5.strip,s)) fun t24 s =>
 oGt t23 s (mp (aBin Tryz.prog .eql 29 t24 (.int .i64 0)) s) fun t25 s =>
 oPk t23 t25 (.bool false) s fun t26 s =>
 oMv t26 s fun t27 s =>
 oGt t27 s (some (t4.strip,s)) fun t28 s =>
 oGt t27 s (mp (aBin Tryz.prog .eql 9 t28 (.str [102,110,32,102,32,40,32,41,32,123,32,49,32,42,32,40,32,50,32,43,32,51,32,41,32,125])) s) fun t29 s =>
 oPk t27 t29 (.bool false) s fun t30 s =>
 oCp t30 s fun t0_2 s =>
 some (t0_2,s)
theorem F20_eq (n:Nat)(s:Heap):den C (n+1) 20 [] s=F20 (den C n) n s :=
 (den_body rfl Tryz.func20 _ _).trans (by kernel_rfl)
theorem en20:enterable Tryz.prog 20=true:=by kernel_rfl
end StrF
end

section
namespace ParF
open Pm
mutual
def szN:Nd→Nat
 | .mk _ _ _ _ _ _ cs=>1+szNL cs
def szNL:List Nd→Nat
 | []=>0
 | t::ts=>szN t+szNL ts
end
theorem szN_mk (k v:Int)(x:Bytes)(s e ns:Int)(cs:List Nd):szN (.mk k v x s e ns cs)=1+szNL cs:=by rw[szN]
theorem szN_mem:∀{cs:List Nd}{u:Nd},u∈cs→szN u≤szNL cs
 | [],u,h=>by cases h
 | c::cs,u,h=>by
  rw[szNL]
  rcases List.mem_cons.1 h with rfl|h
  ·omega
  ·have:=szN_mem h;omega
theorem szN_pos (n:Nd):1≤szN n:=by cases n;rw[szN];omega
theorem len_le_szN:∀cs:List Nd,cs.length≤szNL cs
 | []=>Nat.zero_le _
 | c::cs=>by rw[szNL,List.length_cons];have:=len_le_szN cs;have:=szN_pos c;omega
end ParF
end

section
namespace ParF
open Go Go.Abs Go.Proofs Pm
theorem szN_place (a b:Int)(n:Nd):szN (n.place a b)=szN n:=by cases n;rw[Nd.place,szN_mk,szN_mk]
mutual
theorem szB (src:Bytes):∀(o:Nat)(t:Tree),szN (nodeB src o t).1≤szT t
 | o,.mk k x cs=>by
  have i:=szBL src k o (h0 o) cs
  rw[nodeB_mk,szT_mk]
  unfold finN
  simp only
  split
  ·rw[szN_place]
   cases hn:(kidsB src k o (h0 o) cs).ns with
   | nil=>show szN (.mk _ _ _ _ _ _ [])≤_;rw[szN_mk,szNL];omega
   | cons a r =>
    rw[hn,szNL]at i
    show szN a≤_;omega
  ·split
   ·rw[szN_mk,szNL];omega
   ·rw[szN_mk];omega
theorem szBL (src:Bytes)(k:Int):∀(o:Nat)(h:Hd)(cs:List Tree),szNL (kidsB src k o h cs).ns≤szL cs
 | o,h,[]=>by rw[kidsB_nil,szNL];omega
 | o,h,t::ts=>by
  by_cases c:100≤t.kind
  ·rw[kidsB_leaf src k o h t ts c,szL]
   have:=szBL src k (o+t.text.length) (tokH k h t.kind t.text o).1 ts
   simp only;omega
  ·rw[kidsB_node src k o h t ts c,szL]
   have:=szBL src k (o+(srcT t).length) (h.ext (nodeB src o t).1.s (nodeB src o t).1.e) ts
   have:=szB src o t
   simp only[szNL];omega
end
theorem szA (src:Bytes)(t:Tree):szN (astB src t).1≤szT t:=by
 show szN (((nodeB src 0 t).1).place 0 src.length)≤_
 rw[szN_place];exact szB src 0 t
theorem cmpct_len:∀d:List Dr,(cmpct d).length≤d.length
 | []=>Nat.le_refl _
 | [d]=>Nat.le_refl _
 | a::b::r=>by
  have:=cmpct_len (b::r)
  rw[cmpct]
  split
  ·rw[List.length_cons];omega
  ·rw[List.length_cons,List.length_cons];omega
end ParF
end

section
namespace ParF
open Go Go.Abs Go.Proofs Pm
section
variable {t e z:Nat}{rows:List AV}{f:Flag}
theorem idxG (hu:Tryz.prog.underlying t=some (.slice e))(hz:szOf Tryz.prog e=some z){i:Nat}{a:AV}(h:rows[i]?=some a):aIndexAddr Tryz.prog t (.sl e z rows f) (I i)=some (.box a.cells 0):=by
 simp[aIndexAddr,hu,hz,h]
theorem lenG (hu:Tryz.prog.underlying t=some (.slice e)):aLen Tryz.prog t (.sl e z rows f)=some (I rows.length):=by simp[aLen,hu]
theorem lenN (hu:Tryz.prog.underlying t=some (.slice e)):aLen Tryz.prog t .nils=some (I 0):=by simp[aLen,hu]
theorem lenR (hu:Tryz.prog.underlying t=some (.slice e))(i o n:Nat):aLen Tryz.prog t (.rs e z i o n)=some (I n):=by simp[aLen,hu]
end
theorem boxG {n:Nat}{a:List AV}(h:a.length=n)(tk:Bool)(s:Heap):aLoad tk true n (.box a 0) s=some (.agg a,s):=by
 rw[aLoad_agg _ _ _ _ _ (by omega),List.drop_zero,List.take_of_length_le (by omega)]
def rsv (e z n:Nat)(q:Option Nat):AV:=match q with
 | none=>.nils
 | some Q=>.rs e z Q 0 n
theorem rsv_strip (e z n:Nat)(q:Option Nat):(rsv e z n q).strip=rsv e z n q:=by unfold rsv;cases q<;>rfl
def RowAt (e:Nat)(s:Heap)(cs:List AV)(q:Option Nat):Prop:=(q=none→cs=[])∧∀Q,q=some Q→cs≠[]∧∃junk,s[Q]?=some (e,cs++junk)
theorem RowAt.lt {e:Nat}{s:Heap}{cs:List AV}{q:Option Nat}(h:RowAt e s cs q){Q:Nat}(hq:q=some Q):Q<s.length:=by
 obtain⟨_,_,k⟩:=h.2 Q hq;exact glt k
theorem RowAt.frame {e:Nat}{s s':Heap}{cs:List AV}{q:Option Nat}(h:RowAt e s cs q)(k:∀Q,q=some Q→s'[Q]?=s[Q]?):RowAt e s' cs q :=
 ⟨h.1,fun Q hq=>by obtain⟨a,j,b⟩:=h.2 Q hq;exact⟨a,j,(k Q hq).trans b⟩⟩
def Info (e z:Nat):Prop:=∃i zz,Tryz.prog.info? e=some i∧i.size=z∧i.zero=some zz∧zz.cells.size=z∧i.bytes≤100
theorem infoG {e z:Nat}(h:(Tryz.prog.info? e).map (fun i=>(i.size,i.zero.map (·.cells.size),decide (i.bytes≤100)))=some (z,some z,true)):Info e z:=by
 rw[Option.map_eq_some_iff]at h
 obtain⟨i,h1,h2⟩:=h
 simp only[Prod.mk.injEq,Option.map_eq_some_iff,decide_eq_true_eq]at h2
 obtain⟨a,⟨zz,b,c⟩,d⟩:=h2
 exact⟨i,zz,h1,a,b,c,d⟩
end ParF
end

section
namespace ParF
open Go Go.Abs Go.Proofs Pm AstF
mutual
def eqN:Nd→Nd→Bool
 | .mk k v x _ _ _ cs,.mk k' v' x' _ _ _ cs'=>k==k'&&v==v'&&x==x'&&eqNL cs cs'
def eqNL:List Nd→List Nd→Bool
 | [],[]=>true
 | c::cs,d::ds=>eqN c d&&eqNL cs ds
 | _,_=>false
end
theorem eqNL_len:∀{cs ds:List Nd},eqNL cs ds=true→cs.length=ds.length
 | [],[],_=>rfl
 | c::cs,d::ds,h=>by
  rw[eqNL,Bool.and_eq_true]at h
  rw[List.length_cons,List.length_cons,eqNL_len h.2]
 | [],_::_,h=>by simp[eqNL]at h
 | _::_,[],h=>by simp[eqNL]at h
mutual
theorem eqN_iff:∀(a b:Nd),eqN a b=true↔sd a=sd b
 | .mk k v x _ _ _ cs,.mk k' v' x' _ _ _ cs'=>by
  rw[eqN,sd,sd,Bool.and_eq_true,Bool.and_eq_true,Bool.and_eq_true,beq_iff_eq,beq_iff_eq,beq_iff_eq,eqNL_iff cs cs',Sd.mk.injEq,and_assoc,and_assoc]
theorem eqNL_iff:∀(a b:List Nd),eqNL a b=true↔sdL a=sdL b
 | [],[]=>by simp[eqNL,sdL]
 | c::cs,d::ds=>by rw[eqNL,sdL,sdL,Bool.and_eq_true,eqN_iff c d,eqNL_iff cs ds,List.cons.injEq]
 | [],_::_=>by simp[eqNL,sdL]
 | _::_,[]=>by simp[eqNL,sdL]
end
mutual
def widN:Nd→Prop
 | .mk _ _ _ _ _ _ cs=>cs.length<1800000000000∧widL cs
def widL:List Nd→Prop
 | []=>True
 | t::ts=>widN t∧widL ts
end
theorem widL_mem:∀{cs:List Nd}{u:Nd},widL cs→u∈cs→widN u
 | [],u,_,h=>by cases h
 | c::cs,u,w,h=>by
  rw[widL]at w
  rcases List.mem_cons.1 h with rfl|h
  ·exact w.1
  ·exact widL_mem w.2 h
mutual
theorem widN_sz:∀t:Nd,szN t<1800000000000→widN t
 | .mk _ _ _ _ _ _ cs=>fun h=>by rw[szN_mk]at h;rw[widN];exact⟨by have:=len_le_szN cs;omega,widL_sz cs (by omega)⟩
theorem widL_sz:∀ts:List Nd,szNL ts<1800000000000→widL ts
 | []=>fun _=>by rw[widL];trivial
 | t::ts=>fun h=>by rw[szNL]at h;rw[widL];exact⟨widN_sz t (by omega),widL_sz ts (by omega)⟩
end
theorem wadd1L {a:Nat}(h:a<4000000000000):IntKind.i64.wrap ((a:Int)+1)=((a+1:Nat):Int):=by rw[wrap64]<;>omega
theorem d16_6b (x:Ans):drawOK C 16 (regOps Tryz.f16 6) [.silent,.silent,.silent,.silent,.silent,.silent,.silent,.silent,.silent,.silent,.silent,.silent] x=x:=drawOK_base (by kernel_rfl)
theorem equal_loop {ch dh:AV}{cs ds:List Nd}(hch:IsNC cs ch)(hdh:IsNC ds dh)(hcd:cs.length=ds.length)(hc:cs.length<1800000000000){r1 r2:List AV}(g1:r1[6]?=some ch)(g2:r2[6]?=some dh)
  (ih:∀t∈cs,∀u a b,IsN t a→IsN u b→AC C 16 [a,b] (.bool (eqN t u))):∀(k i:Nat),cs.length-i=k→i≤cs.length →
  ∃N,∀f,N≤f→∀m,k<m→∀n' e s,e 37=I i→e 36=I cs.length→e 2=.box r1 0→e 3=.box r2 0→∃s',aLoop (F16_L0 (den C f) n') m e s=some (.bool (eqNL (cs.drop i) (ds.drop i)),s'):=by
 obtain⟨hl,hat⟩:=hch.facts
 obtain⟨hl',hat'⟩:=hdh.facts
 obtain⟨c1,c2,c3⟩:=hch.strip
 obtain⟨c1',c2',c3'⟩:=hdh.strip
 have L1:∀s,aLoad false false 1 (.box r1 6) s=some (ch,s):=fun s=>by rw[aLoad_one,g1];simp[c1]
 have L2:∀s,aLoad false false 1 (.box r2 6) s=some (dh,s):=fun s=>by rw[aLoad_one,g2];simp[c1']
 intro k
 induction k with
 | zero =>
  intro i hk hi
  rw[List.drop_of_length_le (by omega),List.drop_of_length_le (by omega),eqNL]
  refine⟨1,fun f hf m hm n' e s h30 h29 h2 h3=>⟨s,?_⟩⟩
  obtain⟨m,rfl⟩:∃j,m=j+1:=⟨m-1,by omega⟩
  have c:¬i<cs.length:=by omega
  rw[aLoop,F16_L0]
  simp only[↓sW,sL,h30,h29,c,decide_false]
 | succ k ih2 =>
  intro i hk hi
  have hlt:i<cs.length:=by omega
  have hlt':i<ds.length:=by omega
  obtain⟨a,ha,hT⟩:=hat (List.getElem?_eq_getElem hlt)
  obtain⟨b,hb,hU⟩:=hat' (List.getElem?_eq_getElem hlt')
  obtain⟨a1,a2,a3,a4⟩:=hT.cells
  obtain⟨b1,b2,b3,b4⟩:=hU.cells
  have hst:a.strip=a:=by rw[a4];rfl
  have hst':b.strip=b:=by rw[b4];rfl
  rw[List.drop_eq_getElem_cons hlt,List.drop_eq_getElem_cons hlt',eqNL]
  obtain⟨N1,q1⟩:=LexF.AC.at (ih _ (List.getElem_mem hlt) ds[i] a b hT hU)
  obtain⟨N3,q3⟩:=ih2 (i+1) (by omega) (by omega)
  refine⟨N1+N3,fun f hf m hm n' e s h30 h29 h2 h3=>?_⟩
  obtain⟨m,rfl⟩:∃j,m=j+1:=⟨m-1,by omega⟩
  have q1:=q1 f (by omega)
  have lda:=fun s=>box7 s a1 a4
  have ldb:=fun s=>box7 s b1 b4
  have e2:=wadd1L (a:=i) (by omega)
  rw[aLoop,F16_L0]
  cases hv:eqN cs[i] ds[i] with
  | false =>
   rw[hv]at q1
   refine⟨s,?_⟩
   simp only[↓sW,sL,h30,h29,h2,h3,hlt,L1,L2,ha,hb,lda,ldb,hst,hst',q1,hT.noRef,hU.noRef,d16_6b,Bool.false_and]
  | true =>
   rw[hv]at q1
   simp only[↓sW,sL,h30,h29,h2,h3,hlt,L1,L2,ha,hb,lda,ldb,hst,hst',q1,hT.noRef,hU.noRef,d16_6b,e2,Bool.true_and]
   exact q3 f (by omega) m (by omega) n' _ _ (by simp only[upds_at,upds_nil,upd_at,if_true]) ((upds_get _ _ _ rfl).trans h29) ((upds_get _ _ _ rfl).trans h2) ((upds_get _ _ _ rfl).trans h3)
theorem equal_runW:∀(n:Nat)(T U:Nd)(a b:AV),szN T≤n→IsN T a→IsN U b→widN T→AC C 16 [a,b] (.bool (eqN T U)):=by
 intro n
 induction n with
 | zero=>intro T U a b hz;have:=szN_pos T;omega
 | succ n ih =>
  intro T U a b hz hT hU hsz
  have nr:noRefL [a,b]=true:=by rw[noRefL_cons,noRefL_cons,noRefL_nil,hT.noRef,hU.noRef];rfl
  cases hT with
  | mk k v t s0 e0 n0 cs ch hch =>
  cases hU with
  | mk k' v' t' s1 e1' n1 ds dh hdh =>
  rw[szN_mk]at hz
  rw[widN]at hsz
  obtain⟨c1,c2,c3⟩:=hch.strip
  obtain⟨hl,-⟩:=hch.facts
  obtain⟨c1',c2',c3'⟩:=hdh.strip
  obtain⟨hl',-⟩:=hdh.facts
  refine .intro en16 nr (by rfl) ?_
  rw[eqN]
  have vn:∀{x y:Int},x=y→(x != y)=false:=fun h=>by simp[h]
  have vy:∀{x y:Int},¬x=y→(x != y)=true:=fun h=>by simpa using h
  have B:∀(r:List AV) (o:Nat) (w:AV),r[o]?=some w→w.strip=w→∀s2:Heap,aLoad false false 1 (.box r o) s2=some (w,s2):=by
   intro r o w es e2 s2
   rw[aLoad_one,es];simp[e2]
  obtain⟨r1,hr1⟩:∃r1,r1=[I k,I v,.str t,I s0,I e0,I n0,ch]:=⟨_,rfl⟩
  obtain⟨r2,hr2⟩:∃r2,r2=[I k',I v',.str t',I s1,I e1',I n1,dh]:=⟨_,rfl⟩
  have b1:aBox false 27 (.agg [I k,I v,.str t,I s0,I e0,I n0,ch]) []=some (.box r1 0,[]):=by rw[aBox_f _ _ _ rfl,hr1];rfl
  have b2:aBox false 27 (.agg [I k',I v',.str t',I s1,I e1',I n1,dh]) []=some (.box r2 0,[]):=by rw[aBox_f _ _ _ rfl,hr2];rfl
  have x0:=B r1 0 (I k) (by rw[hr1];rfl) rfl
  have x1:=B r1 1 (I v) (by rw[hr1];rfl) rfl
  have x2:=B r1 2 (.str t) (by rw[hr1];rfl) rfl
  have x6:=B r1 6 ch (by rw[hr1];rfl) c1
  have y0:=B r2 0 (I k') (by rw[hr2];rfl) rfl
  have y1:=B r2 1 (I v') (by rw[hr2];rfl) rfl
  have y2:=B r2 2 (.str t') (by rw[hr2];rfl) rfl
  have y6:=B r2 6 dh (by rw[hr2];rfl) c1'
  by_cases e1:k=k'
  ·have z1:=vn e1
   by_cases ev:v=v'
   ·have zv:=vn ev
    by_cases e2:t=t'
    ·have z2:aBin Tryz.prog .neq 9 (.str t) (.str t')=some (.bool false):=by simp[aBin,strBin,e2]
     by_cases e3:cs.length=ds.length
     ·obtain⟨N,q⟩:=equal_loop hch hdh e3 hsz.1 (r1:=r1) (r2:=r2) (by rw[hr1];rfl) (by rw[hr2];rfl) (fun x hx u a b h1 h2=>ih x u a b (by have:=szN_mem hx;omega) h1 h2 (widL_mem hsz.2 hx)) cs.length 0 (by omega) (by omega)
      rw[List.drop_zero,List.drop_zero]at q
      refine⟨N+cs.length+1,fun f hf=>?_⟩
      have z3:((cs.length:Int) != (ds.length:Int))=false:=by simp[e3]
      rw[F16_eq,F16,show (k==k'&&v==v'&&t==t'&&eqNL cs ds)=eqNL cs ds by simp[e1,ev,e2]]
      simp only[↓sW,sL,b1,b2,x0,y0,x1,y1,x2,y2,x6,y6,hl,hl',z1,zv,z2,z3]
      exact q f (by omega) f (by omega) f _ _ (by simp[upds_at,upd_at]) (by simp[upds_at,upd_at]) (by simp[upds_at,upd_at]) (by simp[upds_at,upd_at])
     ·have z:eqNL cs ds=false:=by
       cases h:eqNL cs ds with
       | false=>rfl
       | true=>exact absurd (eqNL_len h) e3
      have z3:((cs.length:Int) != (ds.length:Int))=true:=by simp;omega
      refine⟨1,fun f hf=>⟨[],?_⟩⟩
      rw[F16_eq,F16,z,Bool.and_false]
      simp only[↓sW,sL,b1,b2,x0,y0,x1,y1,x2,y2,x6,y6,hl,hl',z1,zv,z2,z3]
    ·have z2:aBin Tryz.prog .neq 9 (.str t) (.str t')=some (.bool true):=by simp[aBin,strBin,e2]
     have z:(t==t')=false:=by simp[e2]
     refine⟨1,fun f hf=>⟨[],?_⟩⟩
     rw[F16_eq,F16,z,Bool.and_false,Bool.false_and]
     simp only[↓sW,sL,b1,b2,x0,y0,x1,y1,x2,y2,z1,zv,z2]
   ·have zv:=vy ev
    have z:(v==v')=false:=by simp[ev]
    refine⟨1,fun f hf=>⟨[],?_⟩⟩
    rw[F16_eq,F16,z,Bool.and_false,Bool.false_and,Bool.false_and]
    simp only[↓sW,sL,b1,b2,x0,y0,x1,y1,z1,zv]
  ·have z1:=vy e1
   have z:(k==k')=false:=by simp[e1]
   refine⟨1,fun f hf=>⟨[],?_⟩⟩
   rw[F16_eq,F16,z,Bool.false_and,Bool.false_and,Bool.false_and]
   simp only[↓sW,sL,b1,b2,x0,y0,z1]
theorem equal_run (n:Nat)(T U:Nd)(a b:AV)(hz:szN T≤n)(hT:IsN T a)(hU:IsN U b)(h:szN T<900000000):AC C 16 [a,b] (.bool (eqN T U)):=equal_runW n T U a b hz hT hU (widN_sz T (by omega))
end ParF
end

section
namespace ParF
open Go Go.Abs Go.Proofs
def exS1:List UInt8:=[102,110,32,102,40,41,123,49,42,40,50,43,51,41,125]
def exS2:List UInt8:=[102,110,32,102,32,40,32,41,32,123,32,49,32,42,32,40,32,50,32,43,32,51,32,41,32,125]
def exN (k v:Int)(x:List UInt8)(s e ns:Int)(cs:List AV):AV:=.agg [.int .i64 k,.int .i64 v,.str x,.int .i64 s,.int .i64 e,.int .i64 ns,if cs.isEmpty then .nils else .sl 27 7 cs .sh]
def exN1:AV:=exN 1 0 [] 0 15 (-1) [exN 3 0 [102] 0 15 3 [exN 10 0 [] 4 4 (-1) [],exN 12 0 [] 5 6 (-1) [],exN 0 0 [] 6 6 (-1) [],exN 21 0 [] 6 15 (-1) [exN 39 0 [42] 7 14 (-1) [exN 27 1 [] 7 8 (-1) [],exN 39 0 [43] 9 14 (-1) [exN 27 2 [] 10 11 (-1) [],exN 27 3 [] 12 13 (-1) []]]]]]
theorem exP1:(den C 150 15 [.str exS1] []).map (·.1)=some (.tup [exN1,.nils,.int .i64 0]):=by kernel_rfl
theorem exQ:(den C 150 21 [exN1] []).map (·.1)=some (.tup [.str exS2,.int .i64 0]):=by kernel_rfl
end ParF
end

section
namespace ParF
open Go Go.Abs Go.Proofs Pm StrF AstF
theorem exP_run:AC C 15 [.str exS1] (.tup [exN1,.nils,I 0]):=by
 have h:=exP1
 rw[Option.map_eq_some_iff]at h
 obtain⟨⟨v,s⟩,h1,h2⟩:=h
 cases h2
 exact AC.one en15 rfl (by rfl) h1
theorem en21x:enterable C.P 21=true:=by kernel_rfl
theorem exQ_run:AC C 21 [exN1] (.tup [.str exS2,I 0]):=by
 have h:=exQ
 rw[Option.map_eq_some_iff]at h
 obtain⟨⟨v,s⟩,h1,h2⟩:=h
 cases h2
 exact AC.one en21x (by rfl) rfl h1
theorem exa_run:AC C 20 [] (.bool true):=by
 obtain⟨N1,q1⟩:=LexF.AC.at exP_run
 obtain⟨N2,q2⟩:=LexF.AC.at exQ_run
 refine .intro en20 rfl rfl ⟨N1+N2,fun f hf=>⟨[(27,exN1.cells)],?_⟩⟩
 have q1:∀s,aCall Tryz.prog (den C f) 15 [.str [102,110,32,102,40,41,123,49,42,40,50,43,51,41,125]] s=some (.tup [exN1,.nils,I 0],s):=q1 f (by omega)
 have q2:=q2 f (by omega)
 have zz1:aAlloc Tryz.prog 27 []=some (.ref 0 0,[(27,zrow7)]):=by rw[zero27];rfl
 have s1:aStore 7 [(27,zrow7)] (.ref 0 0) exN1=some [(27,exN1.cells)]:=by rw[st7 (s:=[(27,zrow7)]) (i:=0) rfl rfl rfl rfl rfl];rfl
 have l0:aLoad false true 7 (.ref 0 0) [(27,exN1.cells)]=some (exN1,[(27,exN1.cells)]):=ld7 rfl rfl rfl
 have st:exN1.strip=exN1:=rfl
 have ln:aLen Tryz.prog 28 .nils=some (I 0):=by
  have hu:Tryz.prog.underlying 28=some (.slice 61):=by kernel_rfl
  simp[aLen,hu]
 have z1:((0:Int)==0)=true:=rfl
 have se:aBin Tryz.prog .eql 9 (.str exS2) (.str [102,110,32,102,32,40,32,41,32,123,32,49,32,42,32,40,32,50,32,43,32,51,32,41,32,125])=some (.bool true):=by simp[aBin,exS2,strBin]
 rw[F20_eq,F20]
 simp only[↓sW,sL,q1,zz1,s1,l0,st,q2,ln,z1,se]
end ParF
end
