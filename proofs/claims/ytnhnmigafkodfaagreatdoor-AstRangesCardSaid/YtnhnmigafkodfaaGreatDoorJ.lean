/- NdSz, NdSz2, StrF, ExaA, ExaB, WalkG, RngT, RngG, RngF, RngA, RngB -/
import Derived.Test.YtnhnmigafkodfaaGreatDoorG
import Derived.Test.YtnhnmigafkodfaaGreatDoorH
import Derived.Test.YtnhnmigafkodfaaGreatDoorC
import Derived.Test.YtnhnmigafkodfaaGreatDoorB
set_option linter.all false
set_option maxRecDepth 100000
set_option maxHeartbeats 1000000

section
namespace ParF
open Pm
mutual
def szN:Nd→Nat
 | .mk _ _ _ _ _ _ cs=>1+szNL cs
def szNL:List Nd→Nat
 | []=>0
 | t::ts=>szN t+szNL ts
end
theorem szN_mk (k v:Int)(x:Bytes)(s e ns:Int)(cs:List Nd):szN (.mk k v x s e ns cs)=1+szNL cs:=by rw[szN]
theorem szN_mem:∀{cs:List Nd}{u:Nd},u∈cs→szN u≤szNL cs
 | [],u,h=>by cases h
 | c::cs,u,h=>by
  rw[szNL]
  rcases List.mem_cons.1 h with rfl|h
  ·omega
  ·have:=szN_mem h;omega
theorem szN_pos (n:Nd):1≤szN n:=by cases n;rw[szN];omega
theorem len_le_szN:∀cs:List Nd,cs.length≤szNL cs
 | []=>Nat.zero_le _
 | c::cs=>by rw[szNL,List.length_cons];have:=len_le_szN cs;have:=szN_pos c;omega
end ParF
end

section
namespace ParF
open Go Go.Abs Go.Proofs Pm
theorem szN_place (a b:Int)(n:Nd):szN (n.place a b)=szN n:=by cases n;rw[Nd.place,szN_mk,szN_mk]
mutual
theorem szB (src:Bytes):∀(o:Nat)(t:Tree),szN (nodeB src o t).1≤szT t
 | o,.mk k x cs=>by
  have i:=szBL src k o (h0 o) cs
  rw[nodeB_mk,szT_mk]
  unfold finN
  simp only
  split
  ·rw[szN_place]
   cases hn:(kidsB src k o (h0 o) cs).ns with
   | nil=>show szN (.mk _ _ _ _ _ _ [])≤_;rw[szN_mk,szNL];omega
   | cons a r =>
    rw[hn,szNL]at i
    show szN a≤_;omega
  ·split
   ·rw[szN_mk,szNL];omega
   ·rw[szN_mk];omega
theorem szBL (src:Bytes)(k:Int):∀(o:Nat)(h:Hd)(cs:List Tree),szNL (kidsB src k o h cs).ns≤szL cs
 | o,h,[]=>by rw[kidsB_nil,szNL];omega
 | o,h,t::ts=>by
  by_cases c:100≤t.kind
  ·rw[kidsB_leaf src k o h t ts c,szL]
   have:=szBL src k (o+t.text.length) (tokH k h t.kind t.text o).1 ts
   simp only;omega
  ·rw[kidsB_node src k o h t ts c,szL]
   have:=szBL src k (o+(srcT t).length) (h.ext (nodeB src o t).1.s (nodeB src o t).1.e) ts
   have:=szB src o t
   simp only[szNL];omega
end
theorem szA (src:Bytes)(t:Tree):szN (astB src t).1≤szT t:=by
 show szN (((nodeB src 0 t).1).place 0 src.length)≤_
 rw[szN_place];exact szB src 0 t
theorem cmpct_len:∀d:List Dr,(cmpct d).length≤d.length
 | []=>Nat.le_refl _
 | [d]=>Nat.le_refl _
 | a::b::r=>by
  have:=cmpct_len (b::r)
  rw[cmpct]
  split
  ·rw[List.length_cons];omega
  ·rw[List.length_cons,List.length_cons];omega
end ParF
end

section
namespace StrF
open Go Go.Abs Go.Proofs ParF
-- ast.StripPositions
-- glossatorref1.SameNode
-- glossatorkeep1.AstStrip
-- glossatorkeep1.astExample
noncomputable def F20 (D:Den)(n:Nat)(s:Heap):Ans :=
 oh (some ((.bool false),s)) fun t0 s =>oh (aCall Tryz.prog D 15 [(.str [102,110,32,102,40,41,123,49,42,40,50,43,51,41,125])] s) fun t7 s =>oh (some (t7.strip,s)) fun t6 s =>oh (mp (aExtract 0 t6) s) fun t8 s =>oh (mp (aExtract 1 t6) s) fun t9 s =>oh (mp (aExtract 2 t6) s) fun t10 s =>oh (aAlloc Tryz.prog 27 s) fun t1 s =>oh (sto (aStore 7 s t1 t8)) fun _r s =>oh (some (t9,s)) fun t2 s =>oh (some (t10,s)) fun t3 s =>oh (aLoad false true 7 t1 s) fun t12 s =>oh (aCall Tryz.prog D 21 [t12.strip] s) fun t13 s =>oh (some (t13.strip,s)) fun t11 s =>oh (mp (aExtract 0 t11) s) fun t14 s =>oh (mp (aExtract 1 t11) s) fun t15 s =>oh (some (t14,s)) fun t4 s =>oh (some (t15,s)) fun t5 s =>oh (some (t3.strip,s)) fun t16 s =>oh (mp (aBin Tryz.prog .eql 29 t16 (.int .i64 0)) s) fun t17 s =>oh (some (t17.strip,s)) fun t18 s =>oh (gd (wA t18 true) s (some (t2.strip,s))) fun t19 s =>oh (gd (wA t18 true) s (mp (aLen Tryz.prog 28 t19) s)) fun t20 s =>oh (gd (wA t18 true) s (mp (aBin Tryz.prog .eql 3 t20 (.int .i64 0)) s)) fun t21 s =>oh (mp (aPick t18 t21 (.bool false)) s) fun t22 s =>oh (some (t22.strip,s)) fun t23 s =>oh (gd (wA t23 true) s (some (t5.strip,s))) fun t24 s =>oh (gd (wA t23 true) s (mp (aBin Tryz.prog .eql 29 t24 (.int .i64 0)) s)) fun t25 s =>oh (mp (aPick t23 t25 (.bool false)) s) fun t26 s =>oh (some (t26.strip,s)) fun t27 s =>oh (gd (wA t27 true) s (some (t4.strip,s))) fun t28 s =>oh (gd (wA t27 true) s (mp (aBin Tryz.prog .eql 9 t28 (.str [102,110,32,102,32,40,32,41,32,123,32,49,32,42,32,40,32,50,32,43,32,51,32,41,32,125])) s)) fun t29 s =>oh (mp (aPick t27 t29 (.bool false)) s) fun t30 s =>oh (some (t30,s)) fun t0_2 s =>
 some (t0_2,s)
theorem F20_eq (n:Nat)(s:Heap):den C (n+1) 20 [] s=F20 (den C n) n s :=
 (den_body rfl Tryz.func20 _ _).trans (by kernel_rfl)
theorem en20:enterable Tryz.prog 20=true:=by kernel_rfl
end StrF
end

section
namespace ParF
open Go Go.Abs Go.Proofs
def exS1:List UInt8:=[102,110,32,102,40,41,123,49,42,40,50,43,51,41,125]
def exS2:List UInt8:=[102,110,32,102,32,40,32,41,32,123,32,49,32,42,32,40,32,50,32,43,32,51,32,41,32,125]
def exN (k v:Int)(x:List UInt8)(s e ns:Int)(cs:List AV):AV:=.agg [.int .i64 k,.int .i64 v,.str x,.int .i64 s,.int .i64 e,.int .i64 ns,if cs.isEmpty then .nils else .sl 27 7 cs .sh]
def exN1:AV:=exN 1 0 [] 0 15 (-1) [exN 3 0 [102] 0 15 3 [exN 10 0 [] 4 4 (-1) [],exN 12 0 [] 5 6 (-1) [],exN 0 0 [] 6 6 (-1) [],exN 21 0 [] 6 15 (-1) [exN 39 0 [42] 7 14 (-1) [exN 27 1 [] 7 8 (-1) [],exN 39 0 [43] 9 14 (-1) [exN 27 2 [] 10 11 (-1) [],exN 27 3 [] 12 13 (-1) []]]]]]
theorem exP1:(den C 150 15 [.str exS1] []).map (·.1)=some (.tup [exN1,.nils,.int .i64 0]):=by kernel_rfl
theorem exQ:(den C 150 21 [exN1] []).map (·.1)=some (.tup [.str exS2,.int .i64 0]):=by kernel_rfl
end ParF
end

section
namespace ParF
open Go Go.Abs Go.Proofs Pm StrF AstF
theorem exP_run:AC C 15 [.str exS1] (.tup [exN1,.nils,I 0]):=by
 have h:=exP1
 rw[Option.map_eq_some_iff]at h
 obtain⟨⟨v,s⟩,h1,h2⟩:=h
 cases h2
 exact AC.one en15 rfl (by rfl) h1
theorem en21x:enterable C.P 21=true:=by kernel_rfl
theorem exQ_run:AC C 21 [exN1] (.tup [.str exS2,I 0]):=by
 have h:=exQ
 rw[Option.map_eq_some_iff]at h
 obtain⟨⟨v,s⟩,h1,h2⟩:=h
 cases h2
 exact AC.one en21x (by rfl) rfl h1
theorem exa_run:AC C 20 [] (.bool true):=by
 obtain⟨N1,q1⟩:=LexF.AC.at exP_run
 obtain⟨N2,q2⟩:=LexF.AC.at exQ_run
 refine .intro en20 rfl rfl ⟨N1+N2,fun f hf=>⟨[(27,exN1.cells)],?_⟩⟩
 have q1:∀s,aCall Tryz.prog (den C f) 15 [.str [102,110,32,102,40,41,123,49,42,40,50,43,51,41,125]] s=some (.tup [exN1,.nils,I 0],s):=q1 f (by omega)
 have q2:=q2 f (by omega)
 have zz1:aAlloc Tryz.prog 27 []=some (.ref 0 0,[(27,zrow7)]):=by rw[zero27];rfl
 have s1:aStore 7 [(27,zrow7)] (.ref 0 0) exN1=some [(27,exN1.cells)]:=by rw[st7 (s:=[(27,zrow7)]) (i:=0) rfl rfl rfl rfl rfl];rfl
 have l0:aLoad false true 7 (.ref 0 0) [(27,exN1.cells)]=some (exN1,[(27,exN1.cells)]):=ld7 rfl rfl rfl
 have st:exN1.strip=exN1:=rfl
 have ln:aLen Tryz.prog 28 .nils=some (I 0):=by
  have hu:Tryz.prog.underlying 28=some (.slice 61):=by kernel_rfl
  simp[aLen,hu]
 have z1:((0:Int)==0)=true:=rfl
 have se:aBin Tryz.prog .eql 9 (.str exS2) (.str [102,110,32,102,32,40,32,41,32,123,32,49,32,42,32,40,32,50,32,43,32,51,32,41,32,125])=some (.bool true):=by simp[aBin,exS2,strBin]
 rw[F20_eq,F20]
 simp -implicitDefEqProofs only[sL,q1,zz1,s1,l0,st,q2,ln,z1,se]
end ParF
end

section
namespace ParF
open Go Go.Abs Go.Proofs Pm
section
variable {t e z:Nat}{rows:List AV}{f:Flag}
theorem idxG (hu:Tryz.prog.underlying t=some (.slice e))(hz:szOf Tryz.prog e=some z){i:Nat}{a:AV}(h:rows[i]?=some a):aIndexAddr Tryz.prog t (.sl e z rows f) (I i)=some (.box a.cells 0):=by
 simp[aIndexAddr,hu,hz,h]
theorem lenG (hu:Tryz.prog.underlying t=some (.slice e)):aLen Tryz.prog t (.sl e z rows f)=some (I rows.length):=by simp[aLen,hu]
end
theorem allocG {t:Nat}{zc:List AV}(hz:zeroOf Tryz.prog t=some (.agg zc))(h:zc≠[]∧zc.map AV.strip=zc)(s:Heap):aAlloc Tryz.prog t s=some (.ref s.length 0,s++[(t,zc)]):=by
 have h1:zc.isEmpty=false:=by cases zc with|nil=>exact absurd rfl h.1|cons=>rfl
 simp[aAlloc,hz,h.2,h1]
theorem boxG {n:Nat}{a:List AV}(h:a.length=n)(tk:Bool)(s:Heap):aLoad tk true n (.box a 0) s=some (.agg a,s):=by
 rw[aLoad_agg _ _ _ _ _ (by omega),List.drop_zero,List.take_of_length_le (by omega)]
def RowAt (e:Nat)(s:Heap)(cs:List AV)(q:Option Nat):Prop:=(q=none→cs=[])∧∀Q,q=some Q→cs≠[]∧∃junk,s[Q]?=some (e,cs++junk)
theorem RowAt.lt {e:Nat}{s:Heap}{cs:List AV}{q:Option Nat}(h:RowAt e s cs q){Q:Nat}(hq:q=some Q):Q<s.length:=by
 obtain⟨_,_,k⟩:=h.2 Q hq;exact glt k
theorem RowAt.frame {e:Nat}{s s':Heap}{cs:List AV}{q:Option Nat}(h:RowAt e s cs q)(k:∀Q,q=some Q→s'[Q]?=s[Q]?):RowAt e s' cs q :=
 ⟨h.1,fun Q hq=>by obtain⟨a,j,b⟩:=h.2 Q hq;exact⟨a,j,(k Q hq).trans b⟩⟩
end ParF
end

section
namespace Pm
theorem rx_s {h:Hd}(he:0≤h.e)(a b:Int):(h.ext a b).s=h.s:=by
 unfold Hd.ext;simp only;rw[if_neg (by omega)]
def Chn:Int→Int→List Nd→Prop
 | _,_,[]=>True
 | a,e,c::cs=>a≤c.s∧c.s≤c.e∧c.e≤e∧Chn c.e e cs
theorem Chn.lo {e:Int}:∀{a b:Int}{cs:List Nd},Chn a e cs→b≤a→Chn b e cs
 | _,_,[],_,_=>trivial
 | _,_,c::cs,⟨h1,h2,h3,h4⟩,h=>⟨by omega,h2,h3,h4⟩
theorem Chn.hi {e e':Int}:∀{a:Int}{cs:List Nd},Chn a e cs→e≤e'→Chn a e' cs
 | _,[],_,_=>trivial
 | _,c::cs,⟨h1,h2,h3,h4⟩,h=>⟨h1,h2,by omega,Chn.hi h4 h⟩
theorem Chn.start {e a b:Int}:∀{cs:List Nd},Chn a e cs→(∀c∈cs,b≤c.s)→Chn b e cs
 | [],_,_=>trivial
 | c::cs,⟨h1,h2,h3,h4⟩,h=>⟨h c (List.mem_cons_self ..),h2,h3,h4⟩
def NmOk (src x:Bytes)(ns s e:Int):Prop:=ns=-1∨(s≤ns∧ns+x.length≤e∧slice src ns (ns+x.length)=x)
inductive Rng (src:Bytes):Nd→Prop
 | mk (k v:Int) (x:Bytes) (s e ns:Int) (cs:List Nd) (h0:0≤s) (h1:s≤e) (h2:e≤src.length) (hc:Chn s e cs) (hr:∀c∈cs,Rng src c) (hn:NmOk src x ns s e):Rng src (.mk k v x s e ns cs)
theorem Rng.place {src:Bytes}{n:Nd}(h:Rng src n){a b:Int}(h0:0≤a)(h1:a≤n.s)(h2:n.e≤b)(h3:b≤src.length):Rng src (n.place a b):=by
 cases h with
 | mk k v x s e ns cs g0 g1 g2 hc hr hn =>
  have h1:a≤s:=h1
  have h2:e≤b:=h2
  refine .mk k v x a b ns cs h0 (by omega) h3 ((hc.lo h1).hi h2) hr ?_
  rcases hn with hn|⟨n1,n2,n3⟩
  ·exact .inl hn
  ·exact .inr ⟨by omega,by omega,n3⟩
mutual
def nmT:Tree→Bool
 | .mk k _ cs=>(!(hasName k) || cs.all fun t=>t.kind != 106)&&nmL' cs
def nmL':List Tree→Bool
 | []=>true
 | t::ts=>nmT t&&nmL' ts
end
def NI (src:Bytes)(k:Int)(h:Hd):Prop:=h.ns=-1∨(hasName k=true∧0≤h.e∧0≤h.ns∧h.s≤h.ns∧h.ns+h.x.length≤h.e∧slice src h.ns (h.ns+h.x.length)=h.x)
theorem NI.ext {src:Bytes}{k:Int}{h:Hd}(n:NI src k h){a b:Int}(hb:h.e≤b):NI src k (h.ext a b):=by
 rcases n with n|⟨n1,n2,n3,n4,n5,n6⟩
 ·exact .inl n
 ·refine .inr ⟨n1,by show (0:Int)≤b;omega,n3,?_,by show h.ns+h.x.length≤b;omega,n6⟩
  rw[rx_s n2];exact n4
theorem hasName_not {k:Int}(h:hasName k=true):k≠39∧k≠40∧k≠60∧k≠46:=by
 refine⟨?_,?_,?_,?_⟩<;>(rintro rfl;revert h;decide)
theorem NI.tok {src:Bytes}{k:Int}{h:Hd}{c:Nat}{x:Bytes}{b o:Nat}(n:NI src k h)(iv:Inv b o h)(hc:hasName k=true→c≠106)(hs:slice src o (o+x.length)=x):NI src k (tokH k h c x o).1:=by
 have he:h.e≤((o:Int)+x.length):=by rcases iv.2.2 with v|v<;>omega
 unfold tokH
 by_cases c1:c=101∨c=102
 ·rw[if_pos c1];exact n
 rw[if_neg c1]
 by_cases c2:c=108
 ·rw[if_pos c2]
  split
  ·exact n
  ·exact n.ext he
 rw[if_neg c2]
 by_cases c3:c=103
 ·rw[if_pos c3]
  show NI src k ((identH k h x o).1.ext o (o+x.length))
  unfold identH
  by_cases cn:(hasName k&&decide (h.ns<0))=true
  ·rw[if_pos cn]
   rw[Bool.and_eq_true,decide_eq_true_eq]at cn
   refine .inr ⟨cn.1,by show (0:Int)≤o+x.length;omega,by show (0:Int)≤o;omega,?_,Int.le_refl _,hs⟩
   show (if h.e<0 then(o:Int) else h.s)≤o
   have:=iv.1
   split
   ·exact Int.le_refl _
   ·rcases iv.2.2 with v|v<;>omega
  ·rw[if_neg cn];exact n.ext he
 rw[if_neg c3]
 by_cases c4:c=105
 ·rw[if_pos c4]
  have:NI src k (Hd.mk (intV x o).1 h.x h.s h.e h.ns):=n
  exact this.ext he
 rw[if_neg c4]
 by_cases c5:c=106
 ·rw[if_pos c5]
  rcases n with n|⟨n1,_⟩
  ·exact .inl n
  ·exact absurd c5 (hc n1)
 rw[if_neg c5]
 rcases n with n|n
 ·exact .inl ((flagH_se k h x).2.2.trans n)
 ·have nn:=hasName_not n.1
  have hx:(flagH k h x).x=h.x:=by
   unfold flagH
   repeat' split
   all_goals first|rfl|(rename_i q;omega)
  obtain⟨f1,f2,f3⟩:=flagH_se k h x
  have:NI src k (flagH k h x):=.inr (by rw[f1,f2,f3,hx];exact n)
  exact this.ext (by rw[f2];exact he)
theorem slice_pre {src x r:Bytes}{o:Nat}(h:src.drop o=x++r):slice src o ((o:Int)+x.length)=x:=by
 have e:((o:Int)+x.length).toNat-(o:Int).toNat=x.length:=by omega
 unfold slice
 rw[e,show (o:Int).toNat=o from rfl,h,List.take_left']
 rfl
theorem tok_grow' {k:Int}{h:Hd}{c:Nat}{x:Bytes}{o:Nat}(h0:0≤h.e)(he:h.e≤o):(tokH k h c x o).1.s=h.s∧h.e≤(tokH k h c x o).1.e∧0≤(tokH k h c x o).1.e:=by
 have key:∀h':Hd,h'.s=h.s→h'.e=h.e→(h'.ext o (o+x.length)).s=h.s∧h.e≤(h'.ext o (o+x.length)).e∧0≤(h'.ext o (o+x.length)).e:=fun h' e1 e2 =>
  ⟨by rw[rx_s (by rw[e2];exact h0),e1],by show h.e≤(o:Int)+x.length;omega,by show (0:Int)≤o+x.length;omega⟩
 unfold tokH
 repeat' split
 ·exact⟨rfl,Int.le_refl _,h0⟩
 ·exact⟨rfl,Int.le_refl _,h0⟩
 ·exact key _ rfl rfl
 ·exact key _ (identH_se ..).1 (identH_se ..).2
 ·exact key _ rfl rfl
 ·exact key _ rfl rfl
 ·exact key _ (flagH_se ..).1 (flagH_se ..).2.1
theorem drop_app {src x y:Bytes}{o:Nat}{r:Bytes}(h:src.drop o=(x++y)++r):src.drop o=x++(y++r)∧src.drop (o+x.length)=y++r:=by
 rw[List.append_assoc]at h
 refine⟨h,?_⟩
 rw[←List.drop_drop,h,List.drop_left']
 rfl
mutual
theorem node_rng (src:Bytes):∀(o:Nat)(t:Tree),okT t=true→par60 t=true→nmT t=true→(∃r,src.drop o=srcT t++r)→o+(srcT t).length≤src.length→Rng src (nodeB src o t).1
 | o,.mk k x cs,h,p6,nm,hd,hl=>by
  obtain⟨-,h2,h3⟩:=okT_mk k x cs h
  rw[par60,Bool.and_eq_true]at p6
  rw[nmT,Bool.and_eq_true]at nm
  have hnk:hasName k=true→∀t∈cs,t.kind≠106:=by
   intro hh
   have n1:=nm.1
   rw[hh]at n1
   simpa using n1
  have hlen:o+(srcL cs).length≤src.length:=by rw[srcT,List.length_append]at hl;omega
  have hlt:(srcL cs).length≤(srcT (.mk k x cs)).length:=by rw[srcT,List.length_append];omega
  by_cases k100:100≤k
  ·have:cs=[]:=(okT_mk k x cs h).1 k100
   subst this
   rw[nodeB_mk,kidsB_nil]
   unfold finN
   simp only
   rw[if_neg (by omega),if_neg (by omega)]
   have:max (h0 (o:Int)).e (h0 (o:Int)).s=o:=by show max (-1:Int) o=o;omega
   rw[this]
   exact .mk _ _ _ _ _ _ _ (by show (0:Int)≤o;omega) (Int.le_refl _) (by omega) trivial (fun c hc=>by cases hc) (.inl rfl)
  ·have hx:=h2 (by omega)
   subst hx
   have hd':∃r,src.drop o=srcL cs++r:=by obtain⟨r,hr⟩:=hd;rw[srcT,List.nil_append]at hr;exact⟨r,hr⟩
   obtain⟨i1,i2,i3,i4,i5⟩:=kids_rng src k o o (h0 o) cs h3 p6.2 nm.2 hnk (inv0 o) hd' hlen
   have rg:=kids_rg src k o o (h0 o) cs h3 (inv0 o)
   have ni:=i5 (.inl rfl)
   have hne:k=60→(kidsB src k o (h0 o) cs).ns≠[]:=by
    intro e
    refine kids_ne src k o (h0 o) cs ?_
    have:=p6.1
    rw[e]at this
    simpa using this
   rw[nodeB_mk]
   revert i1 i2 i3 i4 i5 rg ni hne
   generalize kidsB src k o (h0 o) cs=z
   intro i1 i2 i3 i4 i5 rg ni hne
   obtain⟨r1,r2,r3⟩:=rg
   have hm1:=Int.le_max_left z.h.e z.h.s
   have hm2:=Int.le_max_right z.h.e z.h.s
   have hm:max z.h.e z.h.s≤src.length:=by omega
   have hs0:(0:Int)≤z.h.s:=by omega
   have hch:Chn z.h.s (max z.h.e z.h.s) z.ns:=(i2.hi hm1).start i3
   unfold finN
   by_cases c60:(k:Int)=60
   ·simp only
    rw[if_pos c60]
    cases hz:z.ns with
    | nil=>exact absurd hz (hne (by omega))
    | cons a r =>
     rw[hz]at i1 hch
     exact(i1 a (List.mem_cons_self ..)).place hs0 hch.1 hch.2.2.1 hm
   ·simp only
    rw[if_neg c60]
    by_cases c46:(k:Int)=46
    ·rw[if_pos c46]
     exact .mk _ _ _ _ _ _ _ hs0 hm2 hm trivial (fun c hc=>by cases hc) (.inl rfl)
    ·rw[if_neg c46]
     refine .mk _ _ _ _ _ _ _ hs0 hm2 hm hch i1 ?_
     rcases ni with ni|⟨n1,n2,n3,n4,n5,n6⟩
     ·exact .inl ni
     ·exact .inr ⟨n4,by omega,n6⟩
theorem kids_rng (src:Bytes)(k:Int):∀(b o:Nat)(h:Hd)(cs:List Tree),okL cs=true→par60L cs=true→nmL' cs=true→(hasName k=true→∀t∈cs,t.kind≠106)→Inv b o h →
  (∃r,src.drop o=srcL cs++r)→o+(srcL cs).length≤src.length →
  (∀c∈(kidsB src k o h cs).ns,Rng src c)∧Chn o (kidsB src k o h cs).h.e (kidsB src k o h cs).ns∧(∀c∈(kidsB src k o h cs).ns,(kidsB src k o h cs).h.s≤c.s) ∧
  (0≤h.e→(kidsB src k o h cs).h.s=h.s∧h.e≤(kidsB src k o h cs).h.e)∧(NI src k h→NI src k (kidsB src k o h cs).h)
 | b,o,h,[],_,_,_,_,_,_,_=>by rw[kidsB_nil];exact⟨fun c hc=>(by cases hc),trivial,fun c hc=>(by cases hc),fun _=>⟨rfl,Int.le_refl _⟩,id⟩
 | b,o,h,t::ts,ok,p6,nm,hnk,iv,hd,hl=>by
  rw[okL_cons,Bool.and_eq_true]at ok
  rw[par60L,Bool.and_eq_true]at p6
  rw[nmL',Bool.and_eq_true]at nm
  obtain⟨r,hr⟩:=hd
  rw[srcL]at hr
  rw[srcL,List.length_append]at hl
  obtain⟨d1,d2⟩:=drop_app hr
  have hnk':hasName k=true→∀u∈ts,u.kind≠106:=fun hh u hu=>hnk hh u (List.mem_cons_of_mem _ hu)
  by_cases c:100≤t.kind
  ·have st:=srcT_leafk ok.1 c
   rw[st]at d1 d2 hl
   rw[kidsB_leaf _ _ _ _ _ _ c]
   obtain⟨i1,i2,i3,i4,i5⟩:=kids_rng src k b (o+t.text.length) (tokH k h t.kind t.text o).1 ts ok.2 p6.2 nm.2 hnk' (iv.tok k t.kind t.text) ⟨r,d2⟩ (by omega)
   refine⟨i1,i2.lo (by omega),i3,fun he=>?_,fun n=>i5 (n.tok iv (fun hh=>hnk hh t (List.mem_cons_self ..)) (slice_pre d1))⟩
   have hle:h.e≤o:=by rcases iv.2.2 with v|v<;>omega
   obtain⟨g1,g2,g3⟩:=tok_grow' (k:=k) (c:=t.kind) (x:=t.text) he hle
   obtain⟨j1,j2⟩:=i4 g3
   exact⟨j1.trans g1,Int.le_trans g2 j2⟩
  ·rw[kidsB_node _ _ _ _ _ _ c]
   obtain⟨g1,g2,g3⟩:=node_rg src o t ok.1
   have nn:=node_rng src o t ok.1 p6.1 nm.1 ⟨_,d1⟩ (by omega)
   have hle:h.e≤(nodeB src o t).1.e:=by rcases iv.2.2 with v|v<;>omega
   have iv':Inv b (o+(srcT t).length) (h.ext (nodeB src o t).1.s (nodeB src o t).1.e):=iv.ext g1 g2 g3
   obtain⟨i1,i2,i3,i4,i5⟩:=kids_rng src k b (o+(srcT t).length) (h.ext (nodeB src o t).1.s (nodeB src o t).1.e) ts ok.2 p6.2 nm.2 hnk' iv' ⟨r,d2⟩ (by omega)
   have he':0≤(h.ext (nodeB src o t).1.s (nodeB src o t).1.e).e:=by show (0:Int)≤(nodeB src o t).1.e;omega
   obtain⟨j1,j2⟩:=i4 he'
   have j2:(nodeB src o t).1.e≤(kidsB src k (o+(srcT t).length) (h.ext (nodeB src o t).1.s (nodeB src o t).1.e) ts).h.e:=j2
   have hs:(h.ext (nodeB src o t).1.s (nodeB src o t).1.e).s≤(nodeB src o t).1.s:=by
    unfold Hd.ext;simp only
    split
    ·exact Int.le_refl _
    ·rcases iv.2.2 with v|v<;>omega
   refine⟨fun c hc=>?_,⟨g1,g2,j2,i2.lo (by omega)⟩,fun c hc=>?_,fun he=>⟨?_,?_⟩,fun n=>i5 (n.ext hle)⟩
   ·rcases List.mem_cons.1 hc with e|hc
    ·rw[e];exact nn
    ·exact i1 c hc
   ·rcases List.mem_cons.1 hc with e|hc
    ·rw[e];show (kidsB src k (o+(srcT t).length) (h.ext (nodeB src o t).1.s (nodeB src o t).1.e) ts).h.s≤_;rw[j1];exact hs
    ·exact i3 c hc
   ·show (kidsB src k (o+(srcT t).length) (h.ext (nodeB src o t).1.s (nodeB src o t).1.e) ts).h.s=h.s
    rw[j1,rx_s he]
   ·show h.e≤(kidsB src k (o+(srcT t).length) (h.ext (nodeB src o t).1.s (nodeB src o t).1.e) ts).h.e
    omega
end
end Pm
end

section
namespace Pm
abbrev PrT:=Tok→Tok→Tok→Prop
def stP (P:PrT)(ts:List Tok):Prop:=P (pk ts) (pk (la ts)) (pk (la (la ts)))
def lf (f:Nat):Bool:=f==1 || f==4 || f==6
def wp:Bool→G→(Bool→PrT→Bool→Prop)→PrT→Bool→Prop
 | _,.ret b,Q,P,l=>Q b P l
 | nm,.bump,Q,P,_=>(nm=true→∀t u v,P t u v→t.1≠106)∧Q false (fun t u _=>∃s,P s t u) false
 | _,.put k,Q,P,_=>k≠106∧Q false P (decide (k<100))
 | nm,.seq a b,Q,P,l=>wp nm a (fun _ P l=>wp nm b Q P l) P l
 | _,.node k g,Q,P,_=>wp (hasName k) g (fun r P _=>Q r P true) P false
 | _,.wrap k g,Q,P,l=>(hasName k=true→l=true)∧wp (hasName k) g (fun r P _=>Q r P true) P l
 | nm,.ite c a b,Q,P,l=>wp nm a Q (fun t u v=>P t u v∧c t u v=true) l∧wp nm b Q (fun t u v=>P t u v∧c t u v=false) l
 | nm,.bra g a b,Q,P,l=>wp nm g (fun r P l=>(r=true→wp nm a Q P l)∧(r=false→wp nm b Q P l)) P l
 | nm,.prog g a b,Q,P,l=>wp nm g (fun _ P l=>wp nm a Q P l∧wp nm b Q P l) P l
 | nm,.stm g b,Q,P,l=>wp nm g (fun _ P l=>(∀P',Q false P' true)∧wp nm b Q P l) P l
 | nm,.whil c g,Q,_,l=>∃li,(li=true→l=true)∧Q false (fun t u v=>c t u v=false) li∧wp nm g (fun r P' l'=>(r=true→Q true P' l')∧(r=false→li=true→l'=true)) (fun t u v=>c t u v=true) li
 | _,.insN,Q,P,l=>Q false P l
 | _,.call f,Q,_,_=>∀r,Q r (fun _ _ _=>True) (lf f)
def LastN (cs:List Tree):Prop:=∃ds t,cs=ds++[t]∧t.kind<100
theorem LastN.one (cs:List Tree){t:Tree}(h:t.kind<100):LastN (cs++[t]):=⟨cs,t,rfl,h⟩
def no106 (nm:Bool)(cs:List Tree):Prop:=(∀c∈cs,nmT c=true)∧(nm=true→∀c∈cs,c.kind≠106)
theorem no106.nil (nm:Bool):no106 nm []:=⟨fun c h=>(by cases h),fun _ c h=>(by cases h)⟩
theorem no106.app {nm:Bool}{a b:List Tree}(h:no106 nm a)(k:no106 nm b):no106 nm (a++b) :=
 ⟨fun c hc=>(List.mem_append.1 hc).elim (h.1 c) (k.1 c),fun e c hc=>(List.mem_append.1 hc).elim (h.2 e c) (k.2 e c)⟩
theorem no106.one {nm:Bool}{t:Tree}(h:nmT t=true)(k:nm=true→t.kind≠106):no106 nm [t] :=
 ⟨fun c hc=>by rw[List.mem_singleton.1 hc];exact h,fun e c hc=>by rw[List.mem_singleton.1 hc];exact k e⟩
theorem no106.left {nm:Bool}{a b:List Tree}(h:no106 nm (a++b)):no106 nm a:=⟨fun c hc=>h.1 c (List.mem_append_left _ hc),fun e c hc=>h.2 e c (List.mem_append_left _ hc)⟩
theorem no106.right {nm:Bool}{a b:List Tree}(h:no106 nm (a++b)):no106 nm b:=⟨fun c hc=>h.1 c (List.mem_append_right _ hc),fun e c hc=>h.2 e c (List.mem_append_right _ hc)⟩
theorem nm_leaf (k:Nat)(x:Bytes):nmT (.mk k x [])=true:=by rw[nmT,nmL'];simp
theorem nmL_all:∀{cs:List Tree},(∀c∈cs,nmT c=true)→nmL' cs=true
 | [],_=>by rw[nmL']
 | t::ts,h=>by rw[nmL',h t (List.mem_cons_self ..),nmL_all fun c hc=>h c (List.mem_cons_of_mem _ hc)];rfl
theorem nm_node {k:Nat}{cs:List Tree}(h:no106 (hasName k) cs):nmT (.mk k [] cs)=true:=by
 rw[nmT,nmL_all h.1,Bool.and_true]
 cases hk:hasName k with
 | false=>rfl
 | true=>simpa using h.2 hk
theorem tw_tr {a:Tok}:∀{ts:List Tok},a∈ts.takeWhile triv→triv a=true
 | [],h=>by cases h
 | t::ts,h=>by
  rw[List.takeWhile_cons]at h
  by_cases c:triv t=true
  ·rw[if_pos c]at h
   rcases List.mem_cons.1 h with e|h
   ·rw[e];exact c
   ·exact tw_tr h
  ·rw[if_neg c]at h;cases h
theorem wp_ok (hd:∀nm f,wp nm (defs f) (fun _ _ l=>lf f=true→l=true) (fun _ _ _=>True) false){g:G}{ts:List Tok}{cs:List Tree}{r:Bool}{ts':List Tok}{cs':List Tree}(h:Runs g ts cs r ts' cs') :
  ∀nm Q P l,wp nm g Q P l→stP P ts→(l=true→LastN cs)→no106 nm cs→∃P' l',Q r P' l'∧stP P' ts'∧(l'=true→LastN cs')∧no106 nm cs':=by
 induction h with
 | ret b ts cs=>exact fun nm Q P l w hp hl hc=>⟨P,l,w,hp,hl,hc⟩
 | bump ts cs =>
  intro nm Q P l w hp hl hc
  refine⟨_,_,w.2,⟨_,hp⟩,nofun,hc.app (no106.app ⟨fun c h=>?_,fun e c h=>?_⟩ ⟨fun c h=>?_,fun e c h=>?_⟩)⟩
  ·obtain⟨t,_,rfl⟩:=List.mem_map.1 h;exact nm_leaf _ _
  ·obtain⟨t,ht,rfl⟩:=List.mem_map.1 h
   have:=tw_tr ht
   have h2:t.1=101∨t.1=102:=by simpa[triv] using this
   show t.1≠106
   omega
  ·obtain⟨t,_,rfl⟩:=List.mem_map.1 h;exact nm_leaf _ _
  ·obtain⟨t,ht,rfl⟩:=List.mem_map.1 h
   have h1:=w.1 e _ _ _ hp
   have:pk ts=t:=by
    unfold pk
    cases hs:skp ts with
    | nil=>rw[hs]at ht;cases ht
    | cons a r=>rw[hs]at ht;have:=List.mem_singleton.1 ht;rw[this];rfl
   rw[this]at h1
   exact h1
 | put k ts cs=>exact fun nm Q P l w hp hl hc=>⟨_,_,w.2,hp,fun e=>LastN.one _ (of_decide_eq_true e),hc.app (no106.one (nm_leaf _ _) fun _=>w.1)⟩
 | insN ts cs t =>
  intro nm Q P l w hp hl hc
  have e0:cs++[Tree.mk 0 [] [],t]=cs++[.mk 0 [] []]++[t]:=by simp
  refine⟨_,_,w,hp,fun e=>?_,by rw[e0];exact(hc.left.app (no106.one (nm_leaf _ _) fun _=>(by decide:(0:Nat)≠106))).app hc.right⟩
  obtain⟨ds,u,h1,h2⟩:=hl e
  have:=List.append_inj' h1 rfl
  cases this.2
  exact⟨cs++[.mk 0 [] []],t,by simp,h2⟩
 | seq h1 h2 i1 i2 =>
  intro nm Q P l w hp hl hc
  obtain⟨P1,l1,w1,p1,ll1,c1⟩:=i1 nm _ P l w hp hl hc
  exact i2 nm Q P1 l1 w1 p1 ll1 c1
 | node cs hk h i =>
  intro nm Q P l w hp hl hc
  rename_i k g ts ts1 ds b
  obtain⟨P1,l1,w1,p1,ll1,c1⟩:=i _ _ P false w hp nofun (no106.nil _)
  exact⟨P1,true,w1,p1,fun _=>LastN.one _ hk,hc.app (no106.one (nm_node c1) fun _ e=>by have e:k=106:=e;omega)⟩
 | wrap cs hk h i =>
  intro nm Q P l w hp hl hc
  rename_i k g ts ts1 ds t b
  have ln:l=true→t.kind<100:=fun e=>by
   obtain⟨ds',u,h1,h2⟩:=hl e
   have:=List.append_inj' h1 rfl
   cases this.2
   exact h2
  obtain⟨P1,l1,w1,p1,ll1,c1⟩:=i _ _ P l w.2 hp (fun e=>⟨[],t,rfl,ln e⟩) (no106.one (hc.right.1 t (List.mem_singleton.2 rfl)) fun e=>by have:=ln (w.1 e);omega)
  exact⟨P1,true,w1,p1,fun _=>LastN.one _ hk,hc.left.app (no106.one (nm_node c1) fun _ e=>by have e:k=106:=e;omega)⟩
 | ite1 hc' h i=>exact fun nm Q P l w hp hl hc=>i nm Q _ l w.1 ⟨hp,hc'⟩ hl hc
 | ite2 hc' h i=>exact fun nm Q P l w hp hl hc=>i nm Q _ l w.2 ⟨hp,hc'⟩ hl hc
 | bra1 h1 h2 i1 i2 =>
  intro nm Q P l w hp hl hc
  obtain⟨P1,l1,w1,p1,ll1,c1⟩:=i1 nm _ P l w hp hl hc
  exact i2 nm Q P1 l1 (w1.1 rfl) p1 ll1 c1
 | bra2 h1 h2 i1 i2 =>
  intro nm Q P l w hp hl hc
  obtain⟨P1,l1,w1,p1,ll1,c1⟩:=i1 nm _ P l w hp hl hc
  exact i2 nm Q P1 l1 (w1.2 rfl) p1 ll1 c1
 | prog1 h1 hl' h2 i1 i2 =>
  intro nm Q P l w hp hl hc
  obtain⟨P1,l1,w1,p1,ll1,c1⟩:=i1 nm _ P l w hp hl hc
  exact i2 nm Q P1 l1 w1.1 p1 ll1 c1
 | prog2 h1 hl' h2 i1 i2 =>
  intro nm Q P l w hp hl hc
  obtain⟨P1,l1,w1,p1,ll1,c1⟩:=i1 nm _ P l w hp hl hc
  exact i2 nm Q P1 l1 w1.2 p1 ll1 c1
 | stm1 h1 hl' ht h2 i1 i2 =>
  intro nm Q P l w hp hl hc
  obtain⟨P1,l1,w1,p1,ll1,c1⟩:=i1 nm _ P l w hp hl hc
  have wu:wp nm gUnexp Q P1 false:=⟨nofun,w1.1 _⟩
  exact i2 nm Q P1 false wu p1 nofun c1.left
 | stm2 h1 hl' h2 i1 i2 =>
  intro nm Q P l w hp hl hc
  obtain⟨P1,l1,w1,p1,ll1,c1⟩:=i1 nm _ P l w hp hl hc
  exact i2 nm Q P1 l1 w1.2 p1 ll1 c1
 | whil0 hc' =>
  intro nm Q P l w hp hl hc
  obtain⟨li,w1,w2,w3⟩:=w
  exact⟨_,li,w2,hc',fun e=>hl (w1 e),hc⟩
 | whil1 hc' h i =>
  intro nm Q P l w hp hl hc
  obtain⟨li,w1,w2,w3⟩:=w
  obtain⟨P1,l1,v1,p1,ll1,c1⟩:=i nm _ _ li w3 hc' (fun e=>hl (w1 e)) hc
  exact⟨P1,l1,v1.1 rfl,p1,ll1,c1⟩
 | whil2 hc' h h2 i1 i2 =>
  intro nm Q P l w hp hl hc
  obtain⟨li,w1,w2,w3⟩:=w
  obtain⟨P1,l1,v1,p1,ll1,c1⟩:=i1 nm _ _ li w3 hc' (fun e=>hl (w1 e)) hc
  exact i2 nm Q P1 li ⟨li,id,w2,w3⟩ p1 (fun e=>ll1 (v1.2 rfl e)) c1
 | call h i =>
  intro nm Q P l w hp hl hc
  obtain⟨P1,l1,v1,p1,ll1,c1⟩:=i nm _ _ false (hd nm _) trivial nofun hc
  exact⟨_,_,w _,trivial,fun e=>ll1 (v1 e),c1⟩
def W (nm:Bool)(g:G):Prop:=∀Q P l,(∀r P l,Q r P l)→wp nm g Q P l
def W1 (nm:Bool)(g:G):Prop:=∀Q P l,(∀r P,Q r P true)→wp nm g Q P l
theorem W1.w {nm:Bool}{g:G}(h:W1 nm g):W nm g:=fun Q P l hq=>h Q P l fun r P=>hq r P true
theorem W.nop (nm:Bool):W nm nop:=fun Q P l hq=>hq ..
theorem W.ret (nm b:Bool):W nm (.ret b):=fun Q P l hq=>hq ..
theorem W.bump:W false .bump:=fun Q P l hq=>⟨nofun,hq ..⟩
theorem W.put (nm:Bool){k:Nat}(h:k≠106):W nm (.put k):=fun Q P l hq=>⟨h,hq ..⟩
theorem W1.put (nm:Bool){k:Nat}(h:k<100):W1 nm (.put k):=fun Q P l hq=>⟨by omega,by rw[decide_eq_true h];exact hq ..⟩
theorem W.seq {nm:Bool}{a b:G}(ha:W nm a)(hb:W nm b):W nm (.seq a b):=fun Q P l hq=>ha _ _ _ fun _ P l=>hb Q P l hq
theorem W1.seq {nm:Bool}{a b:G}(ha:W nm a)(hb:W1 nm b):W1 nm (.seq a b):=fun Q P l hq=>ha _ _ _ fun _ P l=>hb Q P l hq
theorem W1.node (nm:Bool){k:Nat}{g:G}(h:W (hasName k) g):W1 nm (.node k g):=fun Q P l hq=>h _ _ _ fun r P _=>hq r P
theorem W1.nod (nm:Bool){k:Nat}{g:G}(e:hasName k=false)(h:W false g):W1 nm (.node k g):=.node nm (by rw[e];exact h)
theorem W1.wrp (nm:Bool){k:Nat}{g:G}(e:hasName k=false)(h:W false g):W1 nm (.wrap k g):=fun Q P l hq=>⟨fun q=>by rw[e]at q;(cases q),(by rw[e];exact h:W (hasName k) g) _ _ _ fun r P _=>hq r P⟩
theorem W.ite {nm:Bool}{c:Cnd}{a b:G}(ha:W nm a)(hb:W nm b):W nm (.ite c a b):=fun Q P l hq=>⟨ha _ _ _ hq,hb _ _ _ hq⟩
theorem W1.ite {nm:Bool}{c:Cnd}{a b:G}(ha:W1 nm a)(hb:W1 nm b):W1 nm (.ite c a b):=fun Q P l hq=>⟨ha _ _ _ hq,hb _ _ _ hq⟩
theorem W.bra {nm:Bool}{g a b:G}(h:W nm g)(ha:W nm a)(hb:W nm b):W nm (.bra g a b):=fun Q P l hq=>h _ _ _ fun r P l=>⟨fun _=>ha _ _ _ hq,fun _=>hb _ _ _ hq⟩
theorem W.prog {nm:Bool}{g a b:G}(h:W nm g)(ha:W nm a)(hb:W nm b):W nm (.prog g a b):=fun Q P l hq=>h _ _ _ fun r P l=>⟨ha _ _ _ hq,hb _ _ _ hq⟩
theorem W.stm {nm:Bool}{g b:G}(h:W nm g)(hb:W nm b):W nm (.stm g b):=fun Q P l hq=>h _ _ _ fun r P l=>⟨fun P'=>hq ..,hb _ _ _ hq⟩
theorem W.whil {nm:Bool}{c:Cnd}{g:G}(h:W nm g):W nm (.whil c g):=fun Q P l hq=>⟨false,nofun,hq ..,h _ _ _ fun r P l=>⟨fun _=>hq ..,fun _=>nofun⟩⟩
theorem W.call (nm:Bool)(f:Nat):W nm (.call f):=fun Q P l hq r=>hq ..
theorem W1.call (nm:Bool){f:Nat}(h:lf f=true):W1 nm (.call f):=fun Q P l hq r=>by rw[h];exact hq ..
def No (c:Cnd):Prop:=∀t u v,c t u v=true→t.1≠106
theorem no_at {ws:List Bytes}{t:Tok}(h:atT ws t=true):t.1≠106:=by
 unfold atT at h
 rw[Bool.and_eq_true,Bool.or_eq_true,beq_iff_eq,beq_iff_eq]at h
 omega
theorem no_rAt (ws:List Bytes):No (rAt ws):=fun t u v h=>no_at h
theorem no_id:No rId:=fun t u v h=>by have:(t.1==103)=true:=h;rw[beq_iff_eq]at this;omega
theorem W.gb {nm:Bool}{c:Cnd}{g b:G}(hc:No c)(h:W nm g)(hb:W nm b):W nm (.ite c (.seq .bump g) b):=fun Q P l hq=>⟨⟨fun _ t u v k=>hc t u v k.2,h _ _ _ hq⟩,hb _ _ _ hq⟩
theorem W.gb1 {nm:Bool}{c:Cnd}{b:G}(hc:No c)(hb:W nm b):W nm (.ite c .bump b):=fun Q P l hq=>⟨⟨fun _ t u v k=>hc t u v k.2,hq ..⟩,hb _ _ _ hq⟩
theorem W.gn {nm:Bool}{c:Cnd}{k:Nat}{g b:G}(hc:No c)(h:W (hasName k) g)(hb:W nm b):W nm (.ite c (.node k (.seq .bump g)) b):=fun Q P l hq=>⟨⟨fun _ t u v k=>hc t u v k.2,h _ _ _ fun r P _=>hq r P true⟩,hb _ _ _ hq⟩
theorem W.gn1 {nm:Bool}{c:Cnd}{k:Nat}{b:G}(hc:No c)(hb:W nm b):W nm (.ite c (.node k .bump) b):=fun Q P l hq=>⟨⟨fun _ t u v k=>hc t u v k.2,hq ..⟩,hb _ _ _ hq⟩
variable (nm:Bool)
theorem w_expect (w:Bytes):W nm (gExpect w):=.gb1 (no_rAt _) (.put nm (by decide))
theorem w_ident:W nm gIdent:=.gb1 no_id (.put nm (by decide))
theorem w_opt (w:Bytes){g:G}(h:W nm g):W nm (gOpt w g):=.gb (no_rAt _) h (.put nm (by decide))
theorem w_if (ws:List Bytes){g:G}(h:W nm g):W nm (gIf ws g):=.gb (no_rAt _) h (.nop nm)
theorem w_46:W nm (.node 46 .bump):=(W1.nod nm (by decide) .bump).w
theorem w_list (cl:Bytes){el:G}(h:W nm el):W nm (gList cl el):=.seq (.whil (.prog h (w_46 nm) (.ite (.nop nm) (w_expect nm _)))) (w_expect nm _)
theorem w_seg (ty:Bool):W1 nm (gSeg ty):=.node nm (.seq (w_ident _) (by cases ty<;>first|exact .nop _|exact w_if _ _ (w_list _ _ (.call _ _))))
theorem w_path (ty:Bool):W1 nm (gPath ty):=.nod nm (by decide) (.seq (w_seg _ ty).w (.whil (.seq .bump (w_seg _ ty).w)))
theorem w_type:W nm gType:=.ite (W1.nod nm (by decide) (.seq .bump (.seq (w_if _ _ (.nop _)) (.call _ _)))).w (.ite (W1.nod nm (by decide) (.seq .bump (.seq (w_expect _ _) (.seq (w_list _ _ (.call _ _)) (w_opt _ _ (.call _ _)))))).w (.ite (w_path nm true).w (.put nm (by decide))))
theorem W.wgb {nm:Bool}{c:Cnd}{g:G}(hc:No c)(h:W nm g):W nm (.whil c (.seq .bump g)):=fun Q P l hq=>⟨false,nofun,hq ..,fun _ t u v k=>hc t u v k,h _ _ _ fun r P l=>⟨fun _=>hq ..,fun _=>nofun⟩⟩
theorem w_typeParam:W nm gTypeParam:=.gn no_id (w_if _ _ (.seq (w_path _ true).w (.wgb (no_rAt _) (w_path _ true).w))) (.nop nm)
theorem w_typeParams:W1 nm gTypeParams:=.nod nm (by decide) (w_if _ _ (w_list _ _ (w_typeParam _)))
theorem w_param:W nm gParam:=.gn no_id (w_opt _ _ (.call _ _)) (.nop _)
theorem w_params (cl:Bytes):W1 nm (gParams cl):=.nod nm (by decide) (w_list _ _ (w_param _))
theorem w_function (nb:Bool):W nm (gFunction nb):=.seq (w_ident _) (.seq (w_typeParams _).w (.seq (w_expect _ _) (.seq (w_params _ _).w (.seq (w_opt _ _ (.call _ _)) (by cases nb<;>first|exact .call _ _|exact .gb (no_rAt _) (.put _ (by decide)) (.call _ _))))))
theorem w_data (st:Bool):W nm (gData st):=.seq (w_ident _) (.seq (w_typeParams _).w (.seq (w_expect _ _) (w_list _ _ (by
 cases st
 ·exact .gn no_id (w_if _ _ (w_list _ _ (.call _ _))) (.nop _)
 ·exact .gn no_id (.seq (w_expect _ _) (.call _ _)) (.nop _)))))
theorem w_mem:W nm (.whil (rAt [wType,wFn]) (.ite (rAt [wFn]) (.node 3 (.seq .bump (.seq (gFunction false) nop))) gAssoc)):=fun Q P l hq =>
 ⟨false,nofun,hq ..,⟨fun _ t u v k=>no_at k.1,(W.seq (w_function _ false) (.nop _)) _ _ _ fun r P l=>⟨fun _=>hq ..,fun _=>nofun⟩⟩,
  ⟨fun _ t u v k=>no_at k.1,(W.seq (w_ident _) (.seq (w_opt _ _ (.call _ _)) (w_expect _ _))) _ _ _ fun r P l=>⟨fun _=>hq ..,fun _=>nofun⟩⟩⟩
theorem w_members:W nm gMembers:=.seq (w_expect _ _) (.seq (w_mem _) (w_expect _ _))
theorem W.insN (nm:Bool):W nm .insN:=fun Q P l hq=>hq ..
theorem w_impl:W nm gImpl:=.seq (w_typeParams _).w (.seq (.call _ _) (.seq (.gb (no_rAt _) (.call _ _) (.insN _)) (w_members _)))
theorem w_use:W nm gUse:=.seq (fun Q P l hq=>(W1.node false (w_ident _)) _ _ false fun r P =>
 ⟨false,nofun,⟨nofun,fun _=>w_if _ _ (w_ident _) _ _ _ hq⟩,⟨fun _=>⟨fun _=>⟨fun _ t u v k=>no_at k.1,fun _ t u v ⟨s,k⟩=>no_at k.2,hq ..⟩,nofun⟩,nofun⟩,
  ⟨fun e=>absurd e (by decide),(W1.node false (w_ident _)) _ _ false fun r P=>⟨nofun,fun _=>nofun⟩⟩⟩) (w_expect _ _)
theorem w_const:W nm gConst:=.seq (w_ident _) (.seq (w_expect _ _) (.seq (.call _ _) (.seq (w_expect _ _) (.seq (.call _ _) (w_expect _ _)))))
theorem w_macro:W nm gMacro:=.seq (w_ident _) (.seq (w_expect _ _) (.seq (w_params _ _).w (.seq (w_expect _ _) (.seq (.call _ _) (w_expect _ _)))))
theorem w_body (k:Nat):W nm (gBody k):=by
 unfold gBody
 split
 ·exact w_use _
 ·exact w_function _ _
 ·exact w_data _ _
 ·exact w_data _ _
 ·exact .seq (w_ident _) (w_members _)
 ·exact w_impl _
 ·exact w_const _
 ·exact w_macro _
theorem item_pub {k:Nat}{s t u:Tok}(h:itemIs k s t u=true)(p:rAt [wPub] s t u=true):t.1≠106:=by
 have p:atT [wPub] s=true:=p
 unfold itemIs at h
 simp[p]at h
 omega
theorem item_not {k:Nat}{s t u:Tok}(h:itemIs k s t u=true)(p:rAt [wPub] s t u=false):s.1≠106:=by
 have p:atT [wPub] s=false:=p
 unfold itemIs at h
 simp[p]at h
 omega
theorem W.iti {nm:Bool}{k:Nat}{b:G}(hb:W nm b):W nm (.ite (itemIs k) (gItemAs k) b):=fun Q P l hq =>
 ⟨⟨⟨fun _ t u v k=>no_at k.2,fun _ t u v ⟨s,k⟩=>item_pub k.1.2 k.2,w_body _ k _ _ _ fun r P l=>hq ..⟩,fun _ t u v k=>item_not k.1.2 k.2,w_body _ k _ _ _ fun r P l=>hq ..⟩,hb _ _ _ hq⟩
theorem w_skip:W nm gSkip:=(W1.nod nm (by decide) (.seq .bump (.whil .bump))).w
theorem w_item:W nm gItem:=.iti (.iti (.iti (.iti (.iti (.iti (.iti (.iti (w_skip _))))))))
theorem w_file:W nm gFile:=.whil (.seq (w_item _) (.nop _))
theorem w_block:W1 nm gBlock:=.nod nm (by decide) (.seq (w_expect _ _) (.seq (.bra (.whil (.call _ _)) (.nop _) (.put _ (by decide))) (w_expect _ _)))
theorem w_stm (bl:Bool){g:G}(h:W nm g):W nm (gStm bl g):=.stm h (.ite (.ret _ _) (.ite (.seq (W1.wrp nm (by decide) (.seq .bump (.seq (.call _ _) (w_expect _ _)))).w (.nop _))
 (.seq (W1.wrp nm (by decide) (.ite .bump (by cases bl<;>first|exact .nop _|exact .put _ (by decide)))).w (.nop _))))
theorem w_statement:W nm gStatement:=.ite (.seq (W1.nod nm (by decide) (.seq .bump (.seq (.call _ _) (.seq (w_opt _ _ (.call _ _)) (.seq (w_expect _ _) (.seq (.call _ _) (w_expect _ _))))))).w (.nop _))
 (.ite (.seq (W1.nod nm (by decide) (.seq .bump (.seq (.call _ _) (.call _ _)))).w (.nop _)) (.ite (.seq (W1.nod nm (by decide) (.seq .bump (.seq (.ite (.put _ (by decide)) (.call _ _)) (w_expect _ _)))).w (.nop _))
 (.ite (w_stm _ _ (.call _ _)) (w_stm _ _ (.call _ _)))))
theorem w_binary (l:Nat):W nm (gBinary l):=.seq (.call _ _) (.seq (.whil (.seq (W1.wrp nm (by decide) (.seq .bump (.call _ _))).w (.ret _ _))) (.nop _))
theorem w_args:W false gArgs:=.seq .bump (w_list _ _ (.call _ _))
theorem w_postfix (Q:Bool→PrT→Bool→Prop)(P:PrT)(hq:∀r P l,Q r P l):wp nm gPostfix Q P true :=
 ⟨true,id,hq ..,⟨fun e=>absurd e (by decide),w_args _ _ _ fun r P l=>⟨fun _=>hq ..,fun _ _=>rfl⟩⟩,
  ⟨fun _=>rfl,fun _ t u v k=>no_at k.1.1,fun _ t u v ⟨s,k⟩=>by
    have k:=k.2
    rw[Bool.and_eq_true,beq_iff_eq]at k
    omega,fun _ t u v ⟨s,s',k⟩=>by
    have k:=k.2
    rw[Bool.and_eq_true]at k
    exact no_at k.2,w_list _ _ (.call _ _) _ _ _ fun r P l=>⟨fun _=>hq ..,fun _ _=>rfl⟩⟩,
  ⟨fun _=>rfl,fun _ t u v k=>no_at k.1.1,w_ident _ _ _ _ fun r P l=>⟨fun _=>hq ..,fun _ _=>rfl⟩⟩⟩
theorem w_unary:W nm gUnary:=.ite (W1.nod nm (by decide) (.seq .bump (.call _ _))).w (.ite (W1.nod nm (by decide) (.seq .bump (.seq (w_if _ _ (.nop _)) (.call _ _)))).w (fun Q P l hq r=>w_postfix nm Q _ hq))
theorem w_arm:W nm gArm:=.ite (W1.nod nm (by decide) (.seq (.call _ _) (.seq (w_expect _ _) (.call _ _)))).w (.nop _)
theorem w_match:W1 nm gMatch:=.nod nm (by decide) (.seq .bump (.seq (.call _ _) (.seq (w_expect _ _) (w_list _ _ (w_arm _)))))
theorem w_init:W nm gInit:=.gn no_id (.seq (w_expect _ _) (.call _ _)) (.nop _)
theorem w_lit:W1 nm gLit:=.nod nm (by decide) (.seq .bump (.seq (w_path _ false).w (.seq (w_expect _ _) (w_list _ _ (w_init _)))))
theorem w_lambda:W1 nm gLambda:=.nod nm (by decide) (.seq (.ite (.seq .bump (W1.nod false (by decide) (.nop _)).w) (.seq .bump (w_params _ _).w)) (.call _ _))
theorem w_paren:W1 nm gParen:=.nod nm (by decide) (.seq .bump (.seq (.call _ _) (w_expect _ _)))
theorem w_primary:W1 nm gPrimary:=.ite (.nod nm (by decide) .bump) (.ite (.nod nm (by decide) .bump) (.ite (.nod nm (by decide) .bump)
 (.ite (fun Q P l hq=>w_path nm false _ _ false fun r P=>⟨(W1.wrp nm (by decide) (.seq .bump w_args)) _ _ _ hq,hq ..⟩)
 (.ite (w_paren _) (.ite (.call _ rfl) (.ite (.call _ rfl) (.ite (w_match _) (.ite (w_lit _) (.ite (w_lambda _) (.put _ (by decide)))))))))))
theorem w_ifExpr:W1 nm gIfExpr:=.nod nm (by decide) (.seq .bump (.seq (.call _ _) (.seq (.call _ _) (w_opt _ _ (.ite (.call _ _) (.call _ _))))))
theorem no_103 (f:Tok→Tok→Bool):No (fun t u _=>t.1==103&&f t u):=fun t u v h=>by rw[Bool.and_eq_true,beq_iff_eq]at h;omega
theorem w_pattern:W nm gPattern:=.gn (no_rAt _) (w_ident _) (.gn1 (no_103 fun t _=>t.2==wUnder) (.gn1 (no_103 fun _ u=>!atT [wLPar,wColCol] u)
 (.ite (W1.nod nm (by decide) (.seq (w_path _ false).w (w_if _ _ (w_list _ _ (.call _ _))))).w (.ite (W1.nod nm (by decide) .bump).w (.ite (W1.nod nm (by decide) .bump).w (.put _ (by decide)))))))
theorem defs_wp (f:Nat):wp nm (defs f) (fun _ _ l=>lf f=true→l=true) (fun _ _ _=>True) false:=by
 unfold defs
 split
 ·exact w_type nm _ _ _ fun _ _ _=>nofun
 ·exact w_block nm _ _ _ fun _ _ _=>rfl
 ·exact w_statement nm _ _ _ fun _ _ _=>nofun
 ·exact w_primary nm _ _ _ fun _ _ _=>rfl
 ·exact w_pattern nm _ _ _ fun _ _ _=>nofun
 ·exact w_ifExpr nm _ _ _ fun _ _ _=>rfl
 ·exact w_binary nm _ _ _ _ fun _ _ _=>nofun
 ·exact w_binary nm _ _ _ _ fun _ _ _=>nofun
 ·exact w_binary nm _ _ _ _ fun _ _ _=>nofun
 ·exact w_binary nm _ _ _ _ fun _ _ _=>nofun
 ·exact w_binary nm _ _ _ _ fun _ _ _=>nofun
 ·refine w_unary nm _ _ _ fun _ _ _ e=>?_
  unfold lf at e
  simp at e
  rcases e with (e|e)|e<;>simp_all
theorem file_nm {ts:List Tok}{es:List Tree}{t':List Tok}{r:Bool}(h:Runs gFile ts [] r t' es):∀c∈es,nmT c=true:=by
 obtain⟨P',l',_,_,_,h2⟩:=wp_ok (fun nm f=>defs_wp nm f) h false (fun _ _ _=>True) (fun _ _ _=>True) false (w_file false _ _ _ fun _ _ _=>trivial) trivial nofun (no106.nil _)
 exact h2.1
end Pm
namespace ParF
open Go Go.Abs Go.Proofs Pm
theorem file_rng {l:Bytes}(hl:l.length<100000){T:Tree}(F:IsFile (LexF.tokz l) T):Rng l (astB l T).1:=by
 obtain⟨ok,hs,sz,p60,_,cs,hT⟩:=isFile_facts hl F
 have nm:nmT T=true:=by
  obtain⟨t',es,h1,h2,rfl,h4,h5⟩:=F
  refine nm_node ⟨fun c hc=>?_,fun e=>absurd e (by decide)⟩
  rcases List.mem_append.1 hc with hc|hc
  ·exact file_nm h1 c hc
  ·obtain⟨a,_,rfl⟩:=List.mem_map.1 hc
   exact nm_leaf _ _
 have h:=node_rng l 0 T ok p60 nm ⟨[],by rw[hs,List.append_nil];rfl⟩ (by rw[hs];omega)
 obtain⟨g1,g2,g3⟩:=node_rg l 0 T ok
 rw[hs]at g3
 exact h.place (Int.le_refl _) (by omega) (by omega) (Int.le_refl _)
end ParF
end

section
namespace RngF
open Go Go.Abs Go.Proofs ParF
-- glossatorkeep1.nested
noncomputable def F23_L0 (D:Den)(n:Nat)(k0:Env→Heap→Ans)(e:Env)(s:Heap):Ans :=
 oh (mp (aBin Tryz.prog .lss 3 (e 13) (e 12)) s) fun t14 s =>
 br t14 (oh (mp (aIndexAddr Tryz.prog 25 (e 11) (e 13)) s) fun t15 s =>oh (aLoad false true 7 t15 s) fun t16 s =>oh (aAlloc Tryz.prog 27 s) fun t7 s =>oh (sto (aStore 7 s t7 t16)) fun _r s =>oh (mp (aAddr 3 t7) s) fun t17 s =>oh (aLoad false false 1 t17 s) fun t18 s =>oh (some ((e 5).strip,s)) fun t19 s =>oh (mp (aBin Tryz.prog .lss 3 t18 t19) s) fun t20 s =>oh (some (t20.strip,s)) fun t21 s =>oh (gd (wA t21 false) s (mp (aAddr 4 t7) s)) fun t22 s =>oh (gd (wA t21 false) s (aLoad false false 1 t22 s)) fun t23 s =>oh (gd (wA t21 false) s (mp (aAddr 3 t7) s)) fun t24 s =>oh (gd (wA t21 false) s (aLoad false false 1 t24 s)) fun t25 s =>oh (gd (wA t21 false) s (mp (aBin Tryz.prog .lss 3 t23 t25) s)) fun t26 s =>oh (mp (aPick t21 (.bool true) t26) s) fun t27 s =>oh (some (t27.strip,s)) fun t28 s =>oh (gd (wA t28 false) s (mp (aAddr 4 t7) s)) fun t29 s =>oh (gd (wA t28 false) s (aLoad false false 1 t29 s)) fun t30 s =>oh (gd (wA t28 false) s (mp (aAddr 4 (e 2)) s)) fun t31 s =>oh (gd (wA t28 false) s (aLoad false false 1 t31 s)) fun t32 s =>oh (gd (wA t28 false) s (mp (aBin Tryz.prog .gtr 3 t30 t32) s)) fun t33 s =>oh (mp (aPick t28 (.bool true) t33) s) fun t34 s =>oh (some (t34.strip,s)) fun t35 s =>oh (gd (wA t35 false) s (aLoad false true 7 t7 s)) fun t36 s =>oh (gd (wA t35 false) s (some ((e 1).strip,s))) fun t37 s =>oh (gd (wA t35 false) s (aCall Tryz.prog D 23 [t36.strip,t37.strip] s)) fun t38 s =>oh (gd (wA t35 false) s (mp (aUn .not t38) s)) fun t39 s =>oh (mp (aPick t35 (.bool true) t39) s) fun t40 s =>
 br t40 (oh (some ((.bool false),s)) fun t4_2 s =>
 some (t4_2,s)) (oh (mp (aAddr 4 t7) s) fun t41 s =>oh (aLoad false false 1 t41 s) fun t42 s =>oh (some (t42,s)) fun t5_2 s =>oh (mp (aBin Tryz.prog .add 3 (e 13) (.int .i64 1)) s) fun t43 s =>oh (some (t43.strip,s)) fun t13_2 s =>
 k0 (upds e [(14,t14),(15,t15),(16,t16),(7,t7),(16,t16.strip),(17,t17),(18,t18),(19,t19),(20,t20),(21,t21),(22,t22),(23,t23),(24,t24),(25,t25),(26,t26),(27,t27),(28,t28),(29,t29),(30,t30),(31,t31),(32,t32),(33,t33),(34,t34),(35,t35),(36,t36),(37,t37),(38,t38),(39,t39),(40,t40),(41,t41),(42,t42),(42,t42.strip),(5,t5_2),(43,t43),(13,t13_2)]) s)) (oh (mp (aAddr 3 (e 2)) s) fun t44 s =>oh (aLoad false false 1 t44 s) fun t45 s =>oh (mp (aBin Tryz.prog .geq 3 t45 (.int .i64 0)) s) fun t46 s =>oh (some (t46.strip,s)) fun t47 s =>oh (gd (wA t47 true) s (mp (aAddr 4 (e 2)) s)) fun t48 s =>oh (gd (wA t47 true) s (aLoad false false 1 t48 s)) fun t49 s =>oh (gd (wA t47 true) s (some ((e 1).strip,s))) fun t50 s =>oh (gd (wA t47 true) s (mp (aBin Tryz.prog .leq 3 t49 t50) s)) fun t51 s =>oh (mp (aPick t47 t51 (.bool false)) s) fun t52 s =>oh (some (t52.strip,s)) fun t53 s =>oh (gd (wA t53 true) s (mp (aAddr 5 (e 2)) s)) fun t54 s =>oh (gd (wA t53 true) s (aLoad false false 1 t54 s)) fun t55 s =>oh (gd (wA t53 true) s (mp (aBin Tryz.prog .eql 3 t55 (.int .i64 (-1))) s)) fun t56 s =>oh (gd (wA t53 true) s (some (t56.strip,s))) fun t57 s =>oh (gd (wA t57 false) s (mp (aAddr 5 (e 2)) s)) fun t58 s =>oh (gd (wA t57 false) s (aLoad false false 1 t58 s)) fun t59 s =>oh (gd (wA t57 false) s (mp (aAddr 3 (e 2)) s)) fun t60 s =>oh (gd (wA t57 false) s (aLoad false false 1 t60 s)) fun t61 s =>oh (gd (wA t57 false) s (mp (aBin Tryz.prog .geq 3 t59 t61) s)) fun t62 s =>oh (gd (wA t57 false) s (some (t62.strip,s))) fun t63 s =>oh (gd (wA t63 true) s (mp (aAddr 5 (e 2)) s)) fun t64 s =>oh (gd (wA t63 true) s (aLoad false false 1 t64 s)) fun t65 s =>oh (gd (wA t63 true) s (mp (aAddr 2 (e 2)) s)) fun t66 s =>oh (gd (wA t63 true) s (aLoad false false 1 t66 s)) fun t67 s =>oh (gd (wA t63 true) s (mp (aLen Tryz.prog 9 t67) s)) fun t68 s =>oh (gd (wA t63 true) s (mp (aBin Tryz.prog .add 3 t65 t68) s)) fun t69 s =>oh (gd (wA t63 true) s (mp (aAddr 4 (e 2)) s)) fun t70 s =>oh (gd (wA t63 true) s (aLoad false false 1 t70 s)) fun t71 s =>oh (gd (wA t63 true) s (mp (aBin Tryz.prog .leq 3 t69 t71) s)) fun t72 s =>oh (gd (wA t57 false) s (mp (aPick t63 t72 (.bool false)) s)) fun t73 s =>oh (gd (wA t53 true) s (mp (aPick t57 (.bool true) t73) s)) fun t74 s =>oh (mp (aPick t53 t74 (.bool false)) s) fun t75 s =>oh (some (t75,s)) fun t4_3 s =>
 some (t4_3,s))
noncomputable def F23 (D:Den)(n:Nat)(t0 t1:AV)(s:Heap):Ans :=
 oh (aBox false 27 t0 s) fun t2 s =>oh (some ((.bool false),s)) fun t4 s =>oh (mp (aAddr 3 t2) s) fun t8 s =>oh (aLoad false false 1 t8 s) fun t9 s =>oh (some (t9,s)) fun t5 s =>oh (mp (aAddr 6 t2) s) fun t10 s =>oh (aLoad false false 1 t10 s) fun t11 s =>oh (mp (aLen Tryz.prog 25 t11) s) fun t12 s =>oh (some ((.int .i64 0),s)) fun t13 s =>
 aLoop (F23_L0 D n) n (upds (argEnv [t0,t1]) [(2,t2),(4,t4),(8,t8),(9,t9),(9,t9.strip),(5,t5),(10,t10),(11,t11),(12,t12),(13,t13)]) s
theorem F23_eq (n:Nat)(t0 t1:AV)(s:Heap):den C (n+1) 23 [t0,t1] s=F23 (den C n) n t0 t1 s :=
 (den_body rfl Tryz.func23 _ _).trans (by kernel_rfl)
theorem en23:enterable Tryz.prog 23=true:=by kernel_rfl
-- glossatorref1.Clone api.Node
noncomputable def F89 (D:Den)(n:Nat)(t0:AV)(s:Heap):Ans :=
 oh (some (.nils,s)) fun t2 s =>oh (some (t0.strip,s)) fun t3 s =>oh (mp (aAppend Tryz.prog 25 25 .nils t3) s) fun t4 s =>oh (some (t4,s)) fun t2_2 s =>
 some (t2_2,s)
theorem F89_eq (n:Nat)(t0:AV)(s:Heap):den C (n+1) 89 [t0] s=F89 (den C n) n t0 s :=
 (den_body rfl Tryz.func89 _ _).trans (by kernel_rfl)
theorem en89:enterable Tryz.prog 89=true:=by kernel_rfl
-- glossatorref1.Clone int
noncomputable def F90 (D:Den)(n:Nat)(t0:AV)(s:Heap):Ans :=
 oh (some (.nils,s)) fun t2 s =>oh (some (t0.strip,s)) fun t3 s =>oh (mp (aAppend Tryz.prog 44 44 .nils t3) s) fun t4 s =>oh (some (t4,s)) fun t2_2 s =>
 some (t2_2,s)
theorem F90_eq (n:Nat)(t0:AV)(s:Heap):den C (n+1) 90 [t0] s=F90 (den C n) n t0 s :=
 (den_body rfl Tryz.func90 _ _).trans (by kernel_rfl)
theorem en90:enterable Tryz.prog 90=true:=by kernel_rfl
-- glossatorref1.preOrder
noncomputable def F43_L0 (D:Den)(n:Nat)(k0:Env→Heap→Ans)(e:Env)(s:Heap):Ans :=
 oh (mp (aBin Tryz.prog .lss 3 (e 12) (e 11)) s) fun t13 s =>
 br t13 (oh (some ((e 12).strip,s)) fun t14 s =>oh (mp (aIndexAddr Tryz.prog 25 (e 10) (e 12)) s) fun t15 s =>oh (aLoad false true 7 t15 s) fun t16 s =>oh (aAlloc Tryz.prog 27 s) fun t5 s =>oh (some (t14,s)) fun t4 s =>oh (sto (aStore 7 s t5 t16)) fun _r s =>oh (some ((e 3),s)) fun t17 s1 =>oh (aLoad false true 7 t5 s1) fun t18 s2 =>oh (mp (aAddr 7 (e 1)) s2) fun t19 s3 =>oh (aLoad false false 1 t19 s3) fun t20 s4 =>oh (aCall Tryz.prog D 89 [t20.strip] s4) fun t21 s5 =>oh (mp (aAddr 0 (e 1)) s5) fun t22 s6 =>oh (aLoad false true 7 t22 s6) fun t23 s7 =>oh (mp (aBuildSlice Tryz.prog 25 1 [(0,t23)]) s7) fun t24 s8 =>oh (mp (aAppend Tryz.prog 25 25 t21 t24) s8) fun t25 s9 =>oh (mp (aAddr 8 (e 1)) s9) fun t26 s10 =>oh (aLoad false false 1 t26 s10) fun t27 s11 =>oh (aCall Tryz.prog D 90 [t27.strip] s11) fun t28 s12 =>oh (some (t4.strip,s12)) fun t29 s13 =>oh (mp (aBuildSlice Tryz.prog 44 1 [(0,t29)]) s13) fun t30 s14 =>oh (mp (aAppend Tryz.prog 44 44 t28 t30) s14) fun t31 s15 =>oh (mp (aBuild Tryz.prog 51 [(0,t18),(1,t25),(2,t31)]) s15) fun t32 s16 =>oh (aCall Tryz.prog D 43 [t32.strip] s16) fun t33 s17 =>oh (mp (aAppend Tryz.prog 48 48 t17 t33) s17) fun t34 s18 =>oh (some (t34,s18)) fun t3_2 s19 =>
 drawOK C 43 (regOps Tryz.f43 5) [.silent,(kLoad false t5),.silent,(kLoad false t19),(dyn (kCall [t20.strip]) s4 s5),.silent,(kLoad false t22),.silent,.silent,.silent,(kLoad false t26),(dyn (kCall [t27.strip]) s11 s12),.silent,.silent,.silent,.silent,(dyn (kCall [t32.strip]) s16 s17),.silent,.silent] <|
 oh (mp (aBin Tryz.prog .add 3 (e 12) (.int .i64 1)) s19) fun t35 s =>oh (some (t35.strip,s)) fun t12_2 s =>
 k0 (upds e [(13,t13),(14,t14),(15,t15),(16,t16),(5,t5),(14,t14.strip),(4,t4),(16,t16.strip),(3,(e 3).strip),(17,t17),(18,t18),(19,t19),(20,t20),(21,t21),(22,t22),(23,t23),(24,t24),(21,t21.strip),(25,t25),(26,t26),(27,t27),(28,t28),(29,t29),(30,t30),(28,t28.strip),(31,t31),(32,t32),(33,t33),(17,t17.strip),(34,t34),(34,t34.strip),(3,t3_2),(35,t35),(12,t12_2)]) s) (oh (some ((e 3).strip,s)) fun t36 s =>oh (some (t36,s)) fun t2_2 s =>
 some (t2_2,s))
noncomputable def F43 (D:Den)(n:Nat)(t0:AV)(s:Heap):Ans :=
 oh (aBox false 51 t0 s) fun t1 s =>oh (some (.nils,s)) fun t2 s =>oh (aLoad false true 9 t1 s) fun t6 s =>oh (mp (aBuildSlice Tryz.prog 48 1 [(0,t6)]) s) fun t7 s =>oh (some (t7,s)) fun t3 s =>oh (mp (aAddr 0 t1) s) fun t8 s =>oh (mp (aAddr 6 t8) s) fun t9 s =>oh (aLoad false false 1 t9 s) fun t10 s =>oh (mp (aLen Tryz.prog 25 t10) s) fun t11 s =>oh (some ((.int .i64 0),s)) fun t12 s =>
 aLoop (F43_L0 D n) n (upds (argEnv [t0]) [(1,t1),(2,t2),(6,t6),(7,t7),(7,t7.strip),(3,t3),(8,t8),(9,t9),(10,t10),(11,t11),(12,t12)]) s
theorem F43_eq (n:Nat)(t0:AV)(s:Heap):den C (n+1) 43 [t0] s=F43 (den C n) n t0 s :=
 (den_body rfl Tryz.func43 _ _).trans (by kernel_rfl)
theorem d43_5 {g0:Nat}(x:Ans):drawOK C 43 (regOps Tryz.f43 5) [.silent,.get g0,.silent,.silent,.silent,.silent,.silent,.silent,.silent,.silent,.silent,.silent,.silent,.silent,.silent,.silent,.silent,.silent,.silent] x=x:=drawOK_base (by kernel_rfl)
theorem en43:enterable Tryz.prog 43=true:=by kernel_rfl
-- glossatorref1.PreOrder
noncomputable def F24 (D:Den)(n:Nat)(t0:AV)(s:Heap):Ans :=
 oh (aBox false 27 t0 s) fun t1 s =>oh (some (.nils,s)) fun t2 s =>oh (aLoad false true 7 t1 s) fun t3 s =>oh (mp (aBuild Tryz.prog 51 [(0,t3)]) s) fun t4 s =>oh (aCall Tryz.prog D 43 [t4.strip] s) fun t5 s =>oh (some (t5,s)) fun t2_2 s =>
 some (t2_2,s)
theorem F24_eq (n:Nat)(t0:AV)(s:Heap):den C (n+1) 24 [t0] s=F24 (den C n) n t0 s :=
 (den_body rfl Tryz.func24 _ _).trans (by kernel_rfl)
theorem en24:enterable Tryz.prog 24=true:=by kernel_rfl
-- glossatorkeep1.AstRanges
noncomputable def F7_L0 (D:Den)(n:Nat)(k0:Env→Heap→Ans)(e:Env)(s:Heap):Ans :=
 oh (mp (aBin Tryz.prog .lss 3 (e 35) (e 34)) s) fun t36 s =>
 br t36 (oh (mp (aIndexAddr Tryz.prog 48 (e 33) (e 35)) s) fun t37 s =>oh (aLoad false true 9 t37 s) fun t38 s =>oh (aAlloc Tryz.prog 51 s) fun t7 s =>oh (sto (aStore 9 s t7 t38)) fun _r s =>oh (mp (aAddr 0 t7) s) fun t39 s =>oh (aLoad false true 7 t39 s) fun t40 s =>oh (aAlloc Tryz.prog 27 s) fun t8 s =>oh (sto (aStore 7 s t8 t40)) fun _r s =>oh (mp (aAddr 5 t8) s) fun t41 s =>oh (aLoad false false 1 t41 s) fun t42 s =>oh (mp (aBin Tryz.prog .geq 3 t42 (.int .i64 0)) s) fun t43 s =>oh (some (t43.strip,s)) fun t44 s =>oh (gd (wA t44 true) s (some ((e 0).strip,s))) fun t45 s =>oh (gd (wA t44 true) s (mp (aAddr 5 t8) s)) fun t46 s =>oh (gd (wA t44 true) s (aLoad false false 1 t46 s)) fun t47 s =>oh (gd (wA t44 true) s (mp (aAddr 5 t8) s)) fun t48 s =>oh (gd (wA t44 true) s (aLoad false false 1 t48 s)) fun t49 s =>oh (gd (wA t44 true) s (mp (aAddr 2 t8) s)) fun t50 s =>oh (gd (wA t44 true) s (aLoad false false 1 t50 s)) fun t51 s =>oh (gd (wA t44 true) s (mp (aLen Tryz.prog 9 t51) s)) fun t52 s =>oh (gd (wA t44 true) s (mp (aBin Tryz.prog .add 3 t49 t52) s)) fun t53 s =>oh (gd (wA t44 true) s (mp (aSl Tryz.prog 9 t45 (some t47) (some t53) none) s)) fun t54 s =>oh (gd (wA t44 true) s (mp (aAddr 2 t8) s)) fun t55 s =>oh (gd (wA t44 true) s (aLoad false false 1 t55 s)) fun t56 s =>oh (gd (wA t44 true) s (mp (aBin Tryz.prog .neq 9 t54 t56) s)) fun t57 s =>oh (mp (aPick t44 t57 (.bool false)) s) fun t58 s =>
 drawOK C 7 (regOps Tryz.f7 11) [.silent,(kLoad false t41),.silent,.silent,(kGd (wA t44 true) .silent),(kGd (wA t44 true) .silent),(kGd (wA t44 true) (kLoad false t46)),(kGd (wA t44 true) .silent),(kGd (wA t44 true) (kLoad false t48)),(kGd (wA t44 true) .silent),(kGd (wA t44 true) (kLoad false t50)),(kGd (wA t44 true) .silent),(kGd (wA t44 true) .silent),(kGd (wA t44 true) .silent),(kGd (wA t44 true) .silent),(kGd (wA t44 true) (kLoad false t55)),(kGd (wA t44 true) .silent),.silent] <|
 br t58 (oh (some ((.bool false),s)) fun t2_4 s =>
 some (t2_4,s)) (oh (mp (aBin Tryz.prog .add 3 (e 35) (.int .i64 1)) s) fun t59 s =>oh (some (t59.strip,s)) fun t35_2 s =>
 k0 (upds e [(36,t36),(37,t37),(38,t38),(7,t7),(38,t38.strip),(39,t39),(40,t40),(8,t8),(40,t40.strip),(41,t41),(42,t42),(43,t43),(44,t44),(45,t45),(46,t46),(47,t47),(48,t48),(49,t49),(50,t50),(51,t51),(52,t52),(53,t53),(54,t54),(55,t55),(56,t56),(57,t57),(58,t58),(59,t59),(35,t35_2)]) s)) (oh (some ((.bool true),s)) fun t2_5 s =>
 some (t2_5,s))
noncomputable def F7 (D:Den)(n:Nat)(t0:AV)(s:Heap):Ans :=
 oh (some ((.bool false),s)) fun t2 s =>oh (aCall Tryz.prog D 20 [] s) fun t9 s =>oh (mp (aUn .not t9) s) fun t10 s =>
 br t10 (oh (some ((.bool false),s)) fun t2_2 s =>
 some (t2_2,s)) (oh (some (t0.strip,s)) fun t11 s =>oh (aCall Tryz.prog D 13 [t11.strip,(.int .i64 400)] s) fun t12 s =>oh (some (t12,s)) fun t0_2 s =>oh (some (t0_2.strip,s)) fun t14 s =>oh (aCall Tryz.prog D 15 [t14.strip] s) fun t15 s =>oh (some (t15.strip,s)) fun t13 s =>oh (mp (aExtract 0 t13) s) fun t16 s =>oh (mp (aExtract 1 t13) s) fun t17 s =>oh (mp (aExtract 2 t13) s) fun t18 s =>oh (aAlloc Tryz.prog 27 s) fun t3 s =>oh (sto (aStore 7 s t3 t16)) fun _r s =>oh (some (t17,s)) fun t4 s =>oh (some (t18,s)) fun t5 s =>oh (aCall Tryz.prog D 20 [] s) fun t19 s =>oh (mp (aUn .not t19) s) fun t20 s =>oh (some (t20.strip,s)) fun t21 s =>oh (gd (wA t21 false) s (some (t5.strip,s))) fun t22 s =>oh (gd (wA t21 false) s (mp (aBin Tryz.prog .neq 29 t22 (.int .i64 0)) s)) fun t23 s =>oh (mp (aPick t21 (.bool true) t23) s) fun t24 s =>oh (some (t24.strip,s)) fun t25 s =>oh (gd (wA t25 false) s (aLoad false true 7 t3 s)) fun t26 s =>oh (gd (wA t25 false) s (some (t0_2.strip,s))) fun t27 s =>oh (gd (wA t25 false) s (mp (aLen Tryz.prog 9 t27) s)) fun t28 s =>oh (gd (wA t25 false) s (aCall Tryz.prog D 23 [t26.strip,t28.strip] s)) fun t29 s =>oh (gd (wA t25 false) s (mp (aUn .not t29) s)) fun t30 s =>oh (mp (aPick t25 (.bool true) t30) s) fun t31 s =>
 br t31 (oh (some ((.bool false),s)) fun t2_3 s =>
 some (t2_3,s)) (oh (aLoad false true 7 t3 s) fun t32 s =>oh (aCall Tryz.prog D 24 [t32.strip] s) fun t33 s =>oh (mp (aLen Tryz.prog 48 t33) s) fun t34 s =>oh (some ((.int .i64 0),s)) fun t35 s =>
 aLoop (F7_L0 D n) n (upds (argEnv [t0]) [(2,t2),(9,t9),(10,t10),(11,t11),(12,t12),(12,t12.strip),(0,t0_2),(14,t14),(15,t15),(13,t13),(16,t16),(17,t17),(18,t18),(3,t3),(16,t16.strip),(17,t17.strip),(4,t4),(18,t18.strip),(5,t5),(19,t19),(20,t20),(21,t21),(22,t22),(23,t23),(24,t24),(25,t25),(26,t26),(27,t27),(28,t28),(29,t29),(30,t30),(31,t31),(32,t32),(33,t33),(34,t34),(35,t35)]) s))
theorem F7_eq (n:Nat)(t0:AV)(s:Heap):den C (n+1) 7 [t0] s=F7 (den C n) n t0 s :=
 (den_body rfl Tryz.func7 _ _).trans (by kernel_rfl)
theorem d7_11 {g0 g1 g2 g3 g4:Nat}(x:Ans):drawOK C 7 (regOps Tryz.f7 11) [.silent,.get g0,.silent,.silent,.silent,.silent,.get g1,.silent,.get g2,.silent,.get g3,.silent,.silent,.silent,.silent,.get g4,.silent,.silent] x=x:=drawOK_base (by kernel_rfl)
theorem en7:enterable Tryz.prog 7=true:=by kernel_rfl
end RngF
end

section
namespace ParF
open Go Go.Abs Go.Proofs Pm RngF AstF
theorem nest_loop {L:Int}{cs:List Nd}{ch:AV}(hch:IsNC cs ch)(hn:cs.length<900000000){k v:Int}{x:Bytes}{s0 e0 n0:Int}{r:List AV}(hr:r=[I k,I v,.str x,I s0,I e0,I n0,ch])
  (h0:0≤s0)(he:e0≤L)(hL:L<1000000000)(hnm:n0=-1∨(s0≤n0∧n0+x.length≤e0))(ih:∀c∈cs,∀b,IsN c b→AC C 23 [b,I L] (.bool true)) :
  ∀(j i:Nat),cs.length-i=j→i≤cs.length→∀l,Chn l e0 (cs.drop i)→∃N,∀f,N≤f→∀w,j<w→∀n' e s,e 13=I i→e 12=I cs.length→e 11=ch→e 2=.box r 0→e 5=I l→e 1=I L →
   ∃s',aLoop (F23_L0 (den C f) n') w e s=some (.bool true,s'):=by
 obtain⟨hl,hat⟩:=hch.facts
 have x2:∀s:Heap,aLoad false false 1 (.box r 2) s=some (.str x,s):=fun s=>by rw[aLoad_one,hr];rfl
 have x3:∀s:Heap,aLoad false false 1 (.box r 3) s=some (I s0,s):=fun s=>by rw[aLoad_one,hr];rfl
 have x4:∀s:Heap,aLoad false false 1 (.box r 4) s=some (I e0,s):=fun s=>by rw[aLoad_one,hr];rfl
 have x5:∀s:Heap,aLoad false false 1 (.box r 5) s=some (I n0,s):=fun s=>by rw[aLoad_one,hr];rfl
 intro j
 induction j with
 | zero =>
  intro i hj hi l hc
  refine⟨0,fun f hf w hw n' e s e13 e12 e11 e2 e5 e1=>⟨s,?_⟩⟩
  obtain⟨w,rfl⟩:∃q,w=q+1:=⟨w-1,by omega⟩
  have c:¬i<cs.length:=by omega
  have h0':s0 ≥ 0:=h0
  rw[aLoop,F23_L0]
  rcases hnm with hnm|⟨m1,m2⟩
  ·subst hnm
   have z1:((-1:Int)==-1)=true:=rfl
   simp -implicitDefEqProofs only[sL,e13,e12,e2,e1,c,x3,x4,x5,h0',he,z1]
  ·have z1:(n0==-1)=false:=by rw[beq_eq_false_iff_ne];omega
   have m1':n0 ≥ s0:=m1
   have ww:IntKind.i64.wrap (n0+(x.length:Int))=n0+x.length:=by rw[wrap64]<;>omega
   simp -implicitDefEqProofs only[sL,e13,e12,e2,e1,c,x2,x3,x4,x5,h0',he,z1,m1',len9a,ww,m2]
 | succ j ihj =>
  intro i hj hi l hc
  have hlt:i<cs.length:=by omega
  rw[List.drop_eq_getElem_cons hlt]at hc
  obtain⟨c1,c2,c3,c4⟩:=hc
  obtain⟨a,ha,hT⟩:=hat (List.getElem?_eq_getElem hlt)
  obtain⟨N1,q1⟩:=LexF.AC.at (ih _ (List.getElem_mem hlt) a hT)
  obtain⟨N2,q2⟩:=ihj (i+1) (by omega) (by omega) _ c4
  refine⟨N1+N2,fun f hf w hw n' e s e13 e12 e11 e2 e5 e1=>?_⟩
  obtain⟨w,rfl⟩:∃q,w=q+1:=⟨w-1,by omega⟩
  obtain⟨a1,a2,a3,a4⟩:=hT.cells
  have ast:a.strip=a:=by rw[a4];rfl
  obtain⟨g3,g4⟩:a.cells[3]?=some (I cs[i].s)∧a.cells[4]?=some (I cs[i].e):=by
   revert hT;generalize cs[i]=t;intro hT
   cases hT with
   | mk=>exact⟨rfl,rfl⟩
  have b7:=fun s=>box7 s a1 a4
  have z:aAlloc Tryz.prog 27 s=some (.ref s.length 0,s++[(27,zrow7)]):=by rw[zero27]
  obtain⟨s1,hs1⟩:∃s1,s++[(27,a.cells)]=s1:=⟨_,rfl⟩
  have sto:aStore 7 (s++[(27,zrow7)]) (.ref s.length 0) a=some s1:=by rw[st7 (gapp_new) rfl a1 a2 a4,set_end,hs1]
  have hs:s1[s.length]?=some (27,a.cells):=by rw[←hs1,gapp_new]
  have l3:aLoad false false 1 (.ref s.length 3) s1=some (I cs[i].s,s1):=ld (n:=1) (o:=3) hs (by decide) g3 (by decide)
  have l4:aLoad false false 1 (.ref s.length 4) s1=some (I cs[i].e,s1):=ld (n:=1) (o:=4) hs (by decide) g4 (by decide)
  have l7:aLoad false true 7 (.ref s.length 0) s1=some (a,s1):=ld7 hs a1 a4
  have w1:=wadd1 (a:=i) (by omega)
  have q1:=q1 f (by omega)
  have n1:¬cs[i].s<l:=by omega
  have n2:¬cs[i].e<cs[i].s:=by omega
  have n3:¬e0<cs[i].e:=by omega
  rw[aLoop,F23_L0]
  simp -implicitDefEqProofs only[sL,e13,e12,e11,e2,e5,e1,hlt,ha,b7,z,sto,l3,l4,l7,x4,n1,n2,n3,ast,q1,w1]
  exact q2 f (by omega) w (by omega) n' _ _ (by simp[upds_at,upd_at]) ((upds_get _ _ _ rfl).trans e12) ((upds_get _ _ _ rfl).trans e11) ((upds_get _ _ _ rfl).trans e2) (by simp[upds_at,upd_at]) ((upds_get _ _ _ rfl).trans e1)
theorem nested_run (src:Bytes)(hL:src.length<1000000000):∀(n:Nat)(T:Nd)(a:AV),szN T≤n→IsN T a→szN T<800000000→Rng src T→AC C 23 [a,I src.length] (.bool true):=by
 intro n
 induction n with
 | zero=>intro T a hz;have:=szN_pos T;omega
 | succ n ih =>
  intro T a hz hT hsz hR
  have nr:noRefL [a,I src.length]=true:=by rw[noRefL_cons,hT.noRef];rfl
  cases hT with
  | mk k v x s0 e0 n0 cs ch hch =>
  cases hR with
  | mk _ _ _ _ _ _ _ h0 h1 h2 hc hrr hn =>
  rw[szN_mk]at hz hsz
  have hcl:=len_le_szN cs
  obtain⟨c1,c2,c3⟩:=hch.strip
  obtain⟨hl,hat⟩:=hch.facts
  obtain⟨r,hr⟩:∃r,r=[I k,I v,.str x,I s0,I e0,I n0,ch]:=⟨_,rfl⟩
  obtain⟨N,q⟩:=nest_loop (L:=src.length) hch (by omega) hr h0 h2 (by omega) (hn.imp id fun h=>⟨h.1,h.2.1⟩) (fun c hm b hb=>by
   have hm':=szN_mem hm
   exact ih c b (by omega) hb (by omega) (hrr c hm)) cs.length 0 (by omega) (by omega) s0 (by rw[List.drop_zero];exact hc)
  refine .intro en23 nr rfl ⟨N+cs.length+1,fun f hf=>?_⟩
  have b1:aBox false 27 (.agg [I k,I v,.str x,I s0,I e0,I n0,ch]) []=some (.box r 0,[]):=by rw[aBox_f _ _ _ rfl,hr];rfl
  have x3:∀s:Heap,aLoad false false 1 (.box r 3) s=some (I s0,s):=fun s=>by rw[aLoad_one,hr];rfl
  have x6:∀s:Heap,aLoad false false 1 (.box r 6) s=some (ch,s):=fun s=>by rw[aLoad_one,hr];simp[c1]
  rw[F23_eq,F23]
  simp -implicitDefEqProofs only[sL,b1,x3,x6,c1,hl]
  exact q f (by omega) f (by omega) f _ _ (by simp[upds_at,upd_at]) (by simp[upds_at,upd_at]) (by simp[upds_at,upd_at]) (by simp[upds_at,upd_at]) (by simp[upds_at,upd_at]) (by simp[upds_at,upd_at,argEnv])
mutual
def preN:Nd→List Nd
 | .mk k v x s e ns cs=>.mk k v x s e ns cs::preNL cs
def preNL:List Nd→List Nd
 | []=>[]
 | c::cs=>preN c++preNL cs
end
mutual
theorem pre_rng {src:Bytes}:∀{T:Nd},Rng src T→∀t∈preN T,Rng src t
 | .mk k v x s e ns cs,h,t,ht=>by
  rw[preN]at ht
  rcases List.mem_cons.1 ht with rfl|ht
  ·exact h
  ·cases h with
   | mk _ _ _ _ _ _ _ _ _ _ _ hr _=>exact preL_rng hr t ht
theorem preL_rng {src:Bytes}:∀{cs:List Nd},(∀c∈cs,Rng src c)→∀t∈preNL cs,Rng src t
 | [],_,t,ht=>by rw[preNL]at ht;cases ht
 | c::cs,h,t,ht=>by
  rw[preNL]at ht
  rcases List.mem_append.1 ht with ht|ht
  ·exact pre_rng (h c (List.mem_cons_self ..)) t ht
  ·exact preL_rng (fun c hc=>h c (List.mem_cons_of_mem _ hc)) t ht
end
mutual
theorem preN_len:∀T:Nd,(preN T).length=szN T
 | .mk k v x s e ns cs=>by rw[preN,szN_mk,List.length_cons,preNL_len cs,Nat.add_comm]
theorem preNL_len:∀cs:List Nd,(preNL cs).length=szNL cs
 | []=>by rw[preNL,szNL];rfl
 | c::cs=>by rw[preNL,szNL,List.length_append,preN_len c,preNL_len cs]
end
theorem preNL_app:∀a b:List Nd,preNL (a++b)=preNL a++preNL b
 | [],b=>by rw[preNL];rfl
 | c::a,b=>by rw[List.cons_append,preNL,preNL,preNL_app a b,List.append_assoc]
theorem szNL_app:∀a b:List Nd,szNL (a++b)=szNL a+szNL b
 | [],b=>by rw[szNL,List.nil_append,Nat.zero_add]
 | c::a,b=>by rw[List.cons_append,szNL,szNL,szNL_app a b,Nat.add_assoc]
inductive PreR:List Nd→List AV→Prop
 | nil:PreR [] []
 | cons (t:Nd) (b p q:AV) (ts:List Nd) (rows:List AV) (h:IsN t b) (hp:p.noRef=true) (hq:q.noRef=true) (r:PreR ts rows):PreR (t::ts) (.agg (b.cells++[p,q])::rows)
theorem PreR.append:∀{a b:List Nd}{x y:List AV},PreR a x→PreR b y→PreR (a++b) (x++y)
 | _,_,_,_,.nil,k=>k
 | _,_,_,_,.cons t b p q ts rows h hp hq r,k=>.cons t b p q _ _ h hp hq (r.append k)
theorem PreR.length:∀{a:List Nd}{x:List AV},PreR a x→x.length=a.length
 | _,_,.nil=>rfl
 | _,_,.cons t b p q ts rows h hp hq r=>by rw[List.length_cons,List.length_cons,r.length]
theorem noRefL_app:∀(a b:List AV),noRefL a=true→noRefL b=true→noRefL (a++b)=true
 | [],_,_,h=>h
 | x::a,b,h,k=>by
  rw[noRefL_cons,Bool.and_eq_true]at h
  rw[List.cons_append,noRefL_cons,h.1,noRefL_app a b h.2 k];rfl
theorem row_noRef {t:Nd}{b p q:AV}(h:IsN t b)(hp:p.noRef=true)(hq:q.noRef=true):(AV.agg (b.cells++[p,q])).noRef=true:=by
 have hb:=h.noRef
 obtain⟨_,_,_,h4⟩:=h.cells
 rw[h4,noRef_agg]at hb
 rw[noRef_agg]
 exact noRefL_app _ _ hb (by rw[noRefL_cons,noRefL_cons,hp,hq];rfl)
theorem PreR.noRef:∀{a:List Nd}{x:List AV},PreR a x→noRefL x=true
 | _,_,.nil=>noRefL_nil
 | _,_,.cons t b p q ts rows h hp hq r=>by rw[noRefL_cons,row_noRef h hp hq,r.noRef];rfl
theorem PreR.at:∀{a:List Nd}{x:List AV},PreR a x→∀{i:Nat}{t:Nd},a[i]?=some t→∃b p q,x[i]?=some (.agg (b.cells++[p,q]))∧IsN t b
 | _,_,.nil,i,t,h=>by simp at h
 | _,_,.cons t b p q ts rows h hp hq r,0,t',e=>by rw[List.getElem?_cons_zero]at e;cases e;exact⟨b,p,q,rfl,h⟩
 | _,_,.cons t b p q ts rows h hp hq r,i+1,t',e=>r.at e
def slV (e z:Nat)(f:Flag):List AV→AV
 | []=>.nils
 | x::r=>.sl e z (x::r) f
theorem slV_own (e z:Nat)(xs:List AV):(slV e z .own xs).strip=slV e z .sh xs:=by cases xs<;>rfl
theorem slV_sh (e z:Nat)(xs:List AV):(slV e z .sh xs).strip=slV e z .sh xs:=by cases xs<;>rfl
theorem slV_noRef (e z:Nat)(f:Flag)(xs:List AV)(h:noRefL xs=true):(slV e z f xs).noRef=true:=by
 cases xs with
 | nil=>rfl
 | cons x r=>rw[slV,noRef_sl];exact h
def Info2 (e z:Nat):Prop:=∃i zz,Tryz.prog.info? e=some i∧i.size=z∧i.zero=some zz∧zz.cells.size=z∧i.bytes≤200
theorem info2 {e z:Nat}(h:(Tryz.prog.info? e).map (fun i=>(i.size,i.zero.map (·.cells.size),decide (i.bytes≤200)))=some (z,some z,true)):Info2 e z:=by
 rw[Option.map_eq_some_iff]at h
 obtain⟨i,h1,h2⟩:=h
 simp only[Prod.mk.injEq,Option.map_eq_some_iff,decide_eq_true_eq]at h2
 obtain⟨a,⟨zz,b,c⟩,d⟩:=h2
 exact⟨i,zz,h1,a,b,c,d⟩
theorem src_slV (e z:Nat)(f:Flag)(ys:List AV):srcOf z (slV e z f ys)=some ys:=by
 cases ys with
 | nil=>rfl
 | cons y r=>simp[slV,srcOf]
theorem appV {t e z:Nat}(hu:Tryz.prog.underlying t=some (.slice e))(hi:Info2 e z)(xs ys:List AV)(f:Flag)(hn:xs.length+ys.length<500000000):aAppend Tryz.prog t t (slV e z .own xs) (slV e z f ys)=some (slV e z .own (xs++ys)):=by
 obtain⟨i,zz,h1,h2,h3,h4,h5⟩:=hi
 have hb:(2*(xs.length+ys.length)+768)*i.bytes≤281474976710656:=by
  have:(2*(xs.length+ys.length)+768)*i.bytes≤(2*(xs.length+ys.length)+768)*200:=Nat.mul_le_mul_left _ h5
  omega
 have hb2:xs.length+ys.length≤2305843009213693951:=by omega
 have hs:=src_slV e z f ys
 rw[←h2]at hs ⊢
 have hzz:¬zz.cells.size≠i.size:=by omega
 cases xs with
 | nil =>
  rw[List.length_nil,Nat.zero_add]at hb hb2
  simp only[aAppend,hu,h1,hs,h3,if_neg hzz]
  rw[show slV e i.size .own []=.nils from rfl]
  simp only[if_pos (show (2*ys.length+768)*i.bytes≤281474976710656∧ys.length≤2305843009213693951 from⟨hb,hb2⟩)]
  cases ys<;>rfl
 | cons a r =>
  simp only[aAppend,hu,h1,hs,h3,if_neg hzz]
  rw[show slV e i.size .own (a::r)=.sl e i.size (a::r) .own from rfl]
  first|exact if_pos ⟨rfl,rfl,hb,hb2⟩|(simp only[true_and];exact if_pos ⟨hb,hb2⟩)
theorem under25':Tryz.prog.underlying 25=some (.slice 27):=by kernel_rfl
theorem under44':Tryz.prog.underlying 44=some (.slice 3):=by kernel_rfl
theorem under48':Tryz.prog.underlying 48=some (.slice 51):=by kernel_rfl
theorem i27:Info2 27 7:=info2 (by kernel_rfl)
theorem i3:Info2 3 1:=info2 (by kernel_rfl)
theorem i51:Info2 51 9:=info2 (by kernel_rfl)
theorem litV {t e z:Nat}(hu:Tryz.prog.underlying t=some (.slice e))(hz:szOf Tryz.prog e=some z)(hi:Info2 e z)(hz2:z≤1000){a:AV}(h1:a.solid=true)(h2:a.cells.length=z):aBuildSlice Tryz.prog t 1 [(0,a)]=some (slV e z .own [a]):=by
 obtain⟨j,zz,g1,g2,g3,g4,g5⟩:=hi
 have hzb:z≤16777216:=by omega
 simp[aBuildSlice,hu,hz,g1,g3,g4,inRow,h1,h2,hzb,slV]
theorem clone89 (xs:List AV)(hx:noRefL xs=true)(hn:xs.length<500000000):AC C 89 [slV 27 7 .sh xs] (slV 27 7 .own xs):=by
 refine .intro en89 (by rw[noRefL_cons,slV_noRef _ _ _ _ hx];rfl) (slV_noRef _ _ _ _ hx) ⟨0,fun f _=>⟨[],?_⟩⟩
 have ap:=appV under25' i27 [] xs .sh (by simpa using hn)
 rw[List.nil_append,show slV 27 7 .own []=.nils from rfl]at ap
 rw[F89_eq,F89]
 simp -implicitDefEqProofs only[sL,slV_sh,ap]
theorem clone90 (xs:List AV)(hx:noRefL xs=true)(hn:xs.length<500000000):AC C 90 [slV 3 1 .sh xs] (slV 3 1 .own xs):=by
 refine .intro en90 (by rw[noRefL_cons,slV_noRef _ _ _ _ hx];rfl) (slV_noRef _ _ _ _ hx) ⟨0,fun f _=>⟨[],?_⟩⟩
 have ap:=appV under44' i3 [] xs .sh (by simpa using hn)
 rw[List.nil_append,show slV 3 1 .own []=.nils from rfl]at ap
 rw[F90_eq,F90]
 simp -implicitDefEqProofs only[sL,slV_sh,ap]
theorem zero51:zeroOf Tryz.prog 51=some (.agg [I 0,I 0,.str [],I 0,I 0,I 0,.nils,.nils,.nils]):=by kernel_rfl
theorem places51:(match Tryz.prog.underlying 51 with|some (.struct fs)=>placesOf Tryz.prog fs.toList|_=>none)=some [(0,7),(7,1),(8,1)]:=by kernel_rfl
theorem build51 {t:Nd}{b:AV}(h:IsN t b){p q:AV}(hp:p.solid=true∧p.cells=[p])(hq:q.solid=true∧q.cells=[q]):aBuild Tryz.prog 51 [(0,b),(1,p),(2,q)]=some (.agg (b.cells++[p,q])):=by
 have hu:=places51
 unfold aBuild
 split at hu
 ·rename_i fs hh
  rw[zero51,hh]
  cases h with
  | mk=>simp[hu,aFill,setL,hp.1,hq.1,hp.2,hq.2]
 ·cases hu
theorem build51r {t:Nd}{b:AV}(h:IsN t b):aBuild Tryz.prog 51 [(0,b)]=some (.agg (b.cells++[.nils,.nils])):=by
 have hu:=places51
 unfold aBuild
 split at hu
 ·rename_i fs hh
  rw[zero51,hh]
  cases h with
  | mk=>simp[hu,aFill,setL,AV.cells,AV.solid]
 ·cases hu
theorem slV_cell (e z:Nat)(f:Flag)(xs:List AV):(slV e z f xs).solid=true∧(slV e z f xs).cells=[slV e z f xs]:=by cases xs<;>exact⟨rfl,rfl⟩
end ParF
end

section
namespace ParF
open Go Go.Abs Go.Proofs Pm RngF AstF
def PreRun (T:Nd):Prop:=∀a p q ps qs,IsN T a→p.strip=slV 27 7 .sh ps→q.strip=slV 3 1 .sh qs→noRefL ps=true→noRefL qs=true→p.noRef=true→q.noRef=true→ps.length+szN T<200000000→qs.length+szN T<200000000 →
 ∃rows,PreR (preN T) rows∧AC C 43 [.agg (a.cells++[p,q])] (.sl 51 9 rows .sh)
theorem pre_loop {k v:Int}{x:Bytes}{s0 e0 n0:Int}{cs:List Nd}{ch a p q:AV}{ps qs r:List AV}(hch:IsNC cs ch)(ha:a=.agg [I k,I v,.str x,I s0,I e0,I n0,ch])(hr:r=a.cells++[p,q])
  (hp:p.strip=slV 27 7 .sh ps)(hq:q.strip=slV 3 1 .sh qs)(np:noRefL ps=true)(nq:noRefL qs=true)(hz:ps.length+1+szNL cs<200000000)(hz2:qs.length+1+szNL cs<200000000)(ih:∀c∈cs,PreRun c) :
  ∀(j i:Nat),cs.length-i=j→i≤cs.length→∀rows,PreR (.mk k v x s0 e0 n0 cs::preNL (cs.take i)) rows→∃rows',PreR (preN (.mk k v x s0 e0 n0 cs)) rows'∧∃N,∀f,N≤f→∀w,j<w→∀n' e s,
   e 12=I i→e 11=I cs.length→e 10=ch→e 1=.box r 0→e 3=.sl 51 9 rows .own→∃s',aLoop (F43_L0 (den C f) n') w e s=some (.sl 51 9 rows' .sh,s'):=by
 obtain⟨hl,hat⟩:=hch.facts
 have hA:IsN (.mk k v x s0 e0 n0 cs) a:=by rw[ha];exact .mk _ _ _ _ _ _ _ _ hch
 obtain⟨t1,t2,t3,t4⟩:=hA.cells
 have hcl:=len_le_szN cs
 have x0:∀s:Heap,aLoad false true 7 (.box r 0) s=some (a,s):=fun s=>by
  rw[aLoad_agg _ _ _ _ _ (by rw[hr,List.length_append,t1];exact Nat.le_add_right 7 _),List.drop_zero,hr,List.take_left' t1,←t4]
 have x7:∀s:Heap,aLoad false false 1 (.box r 7) s=some (slV 27 7 .sh ps,s):=fun s=>by rw[aLoad_one,hr,ha,←hp];rfl
 have x8:∀s:Heap,aLoad false false 1 (.box r 8) s=some (slV 3 1 .sh qs,s):=fun s=>by rw[aLoad_one,hr,ha,←hq];rfl
 intro j
 induction j with
 | zero =>
  intro i hj hi rows hR
  rw[List.take_of_length_le (by omega)]at hR
  refine⟨rows,by rw[preN];exact hR,0,fun f hf w hw n' e s e12 e11 e10 e1 e3=>⟨s,?_⟩⟩
  obtain⟨w,rfl⟩:∃q,w=q+1:=⟨w-1,by omega⟩
  have c:¬i<cs.length:=by omega
  rw[aLoop,F43_L0]
  simp -implicitDefEqProofs only[sL,e12,e11,e3,c,strip_own]
 | succ j ihj =>
  intro i hj hi rows hR
  have hlt:i<cs.length:=by omega
  have hm:=List.getElem_mem hlt
  obtain⟨b,hb,hT⟩:=hat (List.getElem?_eq_getElem hlt)
  have hzc:=szN_mem hm
  have nPa:noRefL (ps++[a])=true:=noRefL_app _ _ np (by rw[noRefL_cons,hA.noRef];rfl)
  have nQi:noRefL (qs++[I i])=true:=noRefL_app _ _ nq (by rw[noRefL_cons];rfl)
  have hcp:=szN_pos cs[i]
  obtain⟨rows1,hR1,hc43⟩:=ih _ hm b (slV 27 7 .own (ps++[a])) (slV 3 1 .own (qs++[I i])) _ _ hT (slV_own _ _ _) (slV_own _ _ _) nPa nQi (slV_noRef _ _ _ _ nPa) (slV_noRef _ _ _ _ nQi)
   (by rw[List.length_append,List.length_singleton];omega) (by rw[List.length_append,List.length_singleton];omega)
  have hRR:PreR (.mk k v x s0 e0 n0 cs::preNL (cs.take (i+1))) (rows++rows1):=by
   have e:cs.take (i+1)=cs.take i++[cs[i]]:=by rw[List.take_add_one,List.getElem?_eq_getElem hlt];rfl
   have:=hR.append hR1
   rw[e,preNL_app,preNL,preNL,List.append_nil]
   exact this
  obtain⟨rows',hR',N2,q2⟩:=ihj (i+1) (by omega) (by omega) _ hRR
  obtain⟨N1,q1⟩:=LexF.AC.at hc43
  obtain⟨N3,q3⟩:=LexF.AC.at (clone89 ps np (by omega))
  obtain⟨N4,q4⟩:=LexF.AC.at (clone90 qs nq (by omega))
  refine⟨rows',hR',N1+N2+N3+N4,fun f hf w hw n' e s e12 e11 e10 e1 e3=>?_⟩
  obtain⟨w,rfl⟩:∃q,w=q+1:=⟨w-1,by omega⟩
  obtain⟨b1,b2,b3,b4⟩:=hT.cells
  have b7:=fun s=>box7 s b1 b4
  have z:aAlloc Tryz.prog 27 s=some (.ref s.length 0,s++[(27,zrow7)]):=by rw[zero27]
  obtain⟨s1,hs1⟩:∃s1,s++[(27,b.cells)]=s1:=⟨_,rfl⟩
  have sto:aStore 7 (s++[(27,zrow7)]) (.ref s.length 0) b=some s1:=by rw[st7 (gapp_new) rfl b1 b2 b4,set_end,hs1]
  have hs:s1[s.length]?=some (27,b.cells):=by rw[←hs1,gapp_new]
  have l7:aLoad false true 7 (.ref s.length 0) s1=some (b,s1):=ld7 hs b1 b4
  have w1:=wadd1 (a:=i) (by omega)
  have q1:=q1 f (by omega)
  have q3:=q3 f (by omega)
  have q4:=q4 f (by omega)
  have n1:=slV_noRef 27 7 .sh ps np
  have n2:=slV_noRef 3 1 .sh qs nq
  have n3:=row_noRef hT (slV_noRef 27 7 .own _ nPa) (slV_noRef 3 1 .own _ nQi)
  have b24:=litV under25' (show szOf Tryz.prog 27=some 7 by kernel_rfl) i27 (by omega) (a:=a) (by rw[t4];rfl) t1
  have b30:=litV under44' (show szOf Tryz.prog 3=some 1 by kernel_rfl) i3 (by omega) (a:=I i) rfl rfl
  have a25:=appV under25' i27 ps [a] .own (by rw[List.length_singleton];omega)
  have a31:=appV under44' i3 qs [I i] .own (by rw[List.length_singleton];omega)
  have b32:=build51 hT (slV_cell 27 7 .own (ps++[a])) (slV_cell 3 1 .own (qs++[I i]))
  have e34:aAppend Tryz.prog 48 48 (.sl 51 9 rows .own) (.sl 51 9 rows1 .sh)=some (.sl 51 9 (rows++rows1) .own):=by
   have hl1:=hR.length
   have hl2:=hR1.length
   rw[preN_len]at hl2
   rw[List.length_cons,preNL_len]at hl1
   have hst:szNL (cs.take i)+szN cs[i]≤szNL cs:=by
    have e:cs=cs.take i++(cs[i]::cs.drop (i+1)):=by rw[←List.drop_eq_getElem_cons hlt,List.take_append_drop]
    have:szNL cs=szNL (cs.take i)+szNL (cs[i]::cs.drop (i+1)):=by rw[←szNL_app,←e]
    rw[szNL]at this
    omega
   have:=appV under48' i51 rows rows1 .sh (by omega)
   cases rows with
   | nil=>simp at hl1
   | cons x1 r1 =>
    cases rows1 with
    | nil=>simp at hl2;omega
    | cons y1 r2=>exact this
  rw[aLoop,F43_L0]
  simp -implicitDefEqProofs only[sL,e12,e11,e10,e1,e3,hlt,hb,b7,z,sto,l7,x7,slV_sh,q3,x0,b24,a25,x8,q4,b30,a31,b32,q1,e34,n1,n2,n3,d43_5,w1]
  exact q2 f (by omega) w (by omega) n' _ _ (by simp[upds_at,upd_at]) ((upds_get _ _ _ rfl).trans e11) ((upds_get _ _ _ rfl).trans e10) ((upds_get _ _ _ rfl).trans e1) (by simp[upds_at,upd_at])
theorem pre_run:∀(n:Nat)(T:Nd),szN T≤n→szN T<100000000→PreRun T:=by
 intro n
 induction n with
 | zero=>intro T hz;have:=szN_pos T;omega
 | succ n ih =>
  intro T hz hsz a p q ps qs hT hp hq np nq pn qn hl1 hl2
  have nr:=row_noRef hT pn qn
  cases hT with
  | mk k v x s0 e0 n0 cs ch hch =>
  obtain⟨a,ha⟩:∃a,a=AV.agg [I k,I v,.str x,I s0,I e0,I n0,ch]:=⟨_,rfl⟩
  rw[←ha]at nr ⊢
  rw[szN_mk]at hz hsz hl1 hl2
  obtain⟨r,hr⟩:∃r,r=a.cells++[p,q]:=⟨_,rfl⟩
  have hA:IsN (.mk k v x s0 e0 n0 cs) a:=by rw[ha];exact .mk _ _ _ _ _ _ _ _ hch
  obtain⟨c1,c2,c3⟩:=hch.strip
  obtain⟨hl,hat⟩:=hch.facts
  have hrl:r.length=9:=by rw[hr,ha];rfl
  obtain⟨rows',hR',N,qq⟩:=pre_loop hch ha hr hp hq np nq (by omega) (by omega) (fun c hc=>by have:=szN_mem hc;exact ih c (by omega) (by omega)) cs.length 0 (by omega) (by omega) [.agg r]
   (by rw[List.take_zero,preNL,hr];exact .cons _ _ _ _ _ _ hA pn qn .nil)
  refine⟨rows',hR',.intro en43 (by rw[noRefL_cons,nr];rfl) (by rw[noRef_sl];exact hR'.noRef) ⟨N+cs.length+1,fun f hf=>?_⟩⟩
  rw[←hr]at nr ⊢
  have b1:aBox false 51 (.agg r) []=some (.box r 0,[]):=by rw[aBox_f _ _ _ rfl];rfl
  have x9:∀s:Heap,aLoad false true 9 (.box r 0) s=some (.agg r,s):=fun s=>boxG hrl false s
  have b7:=litV under48' (show szOf Tryz.prog 51=some 9 by kernel_rfl) i51 (by omega) (a:=.agg r) rfl hrl
  rw[show slV 51 9 .own [.agg r]=.sl 51 9 [.agg r] .own from rfl]at b7
  have x6:∀s:Heap,aLoad false false 1 (.box r 6) s=some (ch,s):=fun s=>by rw[aLoad_one,hr,ha];exact congrArg (fun c=>some (c,s)) c1
  rw[F43_eq,F43]
  simp -implicitDefEqProofs only[sL,b1,x9,b7,x6,hl]
  exact qq f (by omega) f (by omega) f _ _ (by simp[upds_at,upd_at]) (by simp[upds_at,upd_at]) (by simp[upds_at,upd_at]) (by simp[upds_at,upd_at]) (by simp[upds_at,upd_at])
theorem order_run {T:Nd}{a:AV}(hT:IsN T a)(hsz:szN T<100000000):∃rows,PreR (preN T) rows∧AC C 24 [a] (.sl 51 9 rows .sh):=by
 obtain⟨rows,hR,hc⟩:=pre_run _ T (Nat.le_refl _) hsz a .nils .nils [] [] hT rfl rfl noRefL_nil noRefL_nil rfl rfl (by simp;omega) (by simp;omega)
 obtain⟨N,q⟩:=LexF.AC.at hc
 refine⟨rows,hR,.intro en24 (by rw[noRefL_cons,hT.noRef];rfl) (by rw[noRef_sl];exact hR.noRef) ⟨N,fun f hf=>⟨[],?_⟩⟩⟩
 obtain⟨t1,t2,t3,t4⟩:=hT.cells
 have b1:aBox false 27 a []=some (.box a.cells 0,[]):=by rw[aBox_f _ _ _ (by rw[t4];rfl)]
 have b7:=fun s=>box7 s t1 t4
 have b5:=build51r hT
 have q:=q f hf
 rw[F24_eq,F24]
 simp -implicitDefEqProofs only[sL,b1,b7,b5,q]
theorem d7_11f {g0:Nat}(x:Ans):drawOK C 7 (regOps Tryz.f7 11) [.silent,.get g0,.silent,.silent,.silent,.silent,.silent,.silent,.silent,.silent,.silent,.silent,.silent,.silent,.silent,.silent,.silent,.silent] x=x:=drawOK_base (by kernel_rfl)
theorem rng_loop {src:Bytes}(hL:src.length<1000000000){l:List Nd}{rows:List AV}(hR:PreR l rows)(hl:l.length<900000000)(hg:∀t∈l,Rng src t):∀(j i:Nat),l.length-i=j→i≤l.length →
  ∃N,∀f,N≤f→∀w,j<w→∀n' e s,e 35=I i→e 34=I l.length→e 33=.sl 51 9 rows .sh→e 0=.str src→∃s',aLoop (F7_L0 (den C f) n') w e s=some (.bool true,s'):=by
 intro j
 induction j with
 | zero =>
  intro i hj hi
  refine⟨0,fun f hf w hw n' e s e35 e34 e33 e0=>⟨s,?_⟩⟩
  obtain⟨w,rfl⟩:∃q,w=q+1:=⟨w-1,by omega⟩
  have c:¬i<l.length:=by omega
  rw[aLoop,F7_L0]
  simp -implicitDefEqProofs only[sL,e35,e34,c]
 | succ j ihj =>
  intro i hj hi
  have hlt:i<l.length:=by omega
  obtain⟨N,q⟩:=ihj (i+1) (by omega) (by omega)
  obtain⟨b,p,qq,hrow,hT⟩:=hR.at (List.getElem?_eq_getElem hlt)
  have hG:=hg _ (List.getElem_mem hlt)
  refine⟨N,fun f hf w hw n' e s e35 e34 e33 e0=>?_⟩
  obtain⟨w,rfl⟩:∃q,w=q+1:=⟨w-1,by omega⟩
  revert hT hG
  generalize l[i]=t
  intro hT hG
  obtain⟨b1,b2,b3,b4⟩:=hT.cells
  have ix:=idxG (f:=.sh) under48' (show szOf Tryz.prog 51=some 9 by kernel_rfl) hrow
  obtain⟨rw9,hrw9⟩:∃c,c=b.cells++[p,qq]:=⟨_,rfl⟩
  rw[←hrw9]at ix
  have hrl:rw9.length=9:=by rw[hrw9,List.length_append,b1];rfl
  have b9:=fun s=>boxG hrl false s
  have z9:=allocG zero51 ⟨by decide,rfl⟩
  obtain⟨m9,hm9⟩:∃c,c=rw9.map AV.strip:=⟨_,rfl⟩
  have hml:m9.length=9:=by rw[hm9,List.length_map,hrl]
  have s9:∀s:Heap,aStore 9 (s++[(51,[I 0,I 0,.str [],I 0,I 0,I 0,.nils,.nils,.nils])]) (.ref s.length 0) (.agg rw9)=some (s++[(51,m9)]):=fun s=>by
   rw[ParF.st (n:=9) (o:=0) (v:=.agg rw9) gapp_new (by decide) rfl (by show rw9.length=9;exact hrl) (by show 0+9≤9;decide),set_end]
   have:=setL_end [] m9 [I 0,I 0,.str [],I 0,I 0,I 0,.nils,.nils,.nils] (by rw[hml];rfl)
   rw[List.nil_append,List.nil_append]at this
   show some (s++[(51,setL _ 0 (rw9.map AV.strip))])=_
   rw[←hm9,show setL [I 0,I 0,.str [],I 0,I 0,I 0,.nils,.nils,.nils] 0 m9=m9 from this]
  have ht7:(m9.drop 0).take 7=b.cells:=by
   rw[List.drop_zero,hm9,hrw9,List.map_append,b2,List.take_left' b1]
  have l9:∀s:Heap,aLoad false true 7 (.ref s.length 0) (s++[(51,m9)])=some (b,s++[(51,m9)]):=fun s=>by
   rw[ldA (n:=7) (o:=0) gapp_new (by decide) (by omega) (by decide),ht7,←b4]
  obtain⟨s1,hs1⟩:∃s1,s++[(51,m9)]=s1:=⟨_,rfl⟩
  have s9:=s9 s
  have l9:=l9 s
  rw[hs1]at s9 l9
  have z7:aAlloc Tryz.prog 27 s1=some (.ref s1.length 0,s1++[(27,zrow7)]):=by rw[zero27]
  obtain⟨s2,hs2⟩:∃s2,s1++[(27,b.cells)]=s2:=⟨_,rfl⟩
  have sto:aStore 7 (s1++[(27,zrow7)]) (.ref s1.length 0) b=some s2:=by rw[st7 (gapp_new) rfl b1 b2 b4,set_end,hs2]
  have hs:s2[s1.length]?=some (27,b.cells):=by rw[←hs2,gapp_new]
  have w1:=wadd1 (a:=i) (by omega)
  cases hG with
  | mk k v x st en n0 cs h0 h1 h2 hc hrr hn =>
  obtain⟨g2,g5⟩:b.cells[2]?=some (.str x)∧b.cells[5]?=some (I n0):=by
   cases hT with
   | mk=>exact⟨rfl,rfl⟩
  have l2:aLoad false false 1 (.ref s1.length 2) s2=some (.str x,s2):=ld (n:=1) (o:=2) hs (by decide) g2 (by decide)
  have l5:aLoad false false 1 (.ref s1.length 5) s2=some (I n0,s2):=ld (n:=1) (o:=5) hs (by decide) g5 (by decide)
  rw[aLoop,F7_L0]
  rcases hn with hn|⟨m1,m2,m3⟩
  ·have c:¬(0≤n0):=by omega
   simp -implicitDefEqProofs only[sL,e35,e34,e33,e0,hlt,ix,b9,z9,s9,l9,z7,sto,l5,c,d7_11f,w1]
   exact q f (by omega) w (by omega) n' _ _ (by simp[upds_at,upd_at]) ((upds_get _ _ _ rfl).trans e34) ((upds_get _ _ _ rfl).trans e33) ((upds_get _ _ _ rfl).trans e0)
  ·have c:0≤n0:=by omega
   have ww:IntKind.i64.wrap (n0+(x.length:Int))=n0+x.length:=by rw[wrap64]<;>omega
   have sb:=sub9 (s:=src) (a:=n0) (b:=n0+x.length) c (by omega) (by omega)
   rw[m3]at sb
   have nq:aBin Tryz.prog .neq 9 (.str x) (.str x)=some (.bool false):=by rw[str_neq,beq_self_eq_true];rfl
   simp -implicitDefEqProofs only[sL,e35,e34,e33,e0,hlt,ix,b9,z9,s9,l9,z7,sto,l5,l2,c,len9a,ww,sb,nq,d7_11,w1]
   exact q f (by omega) w (by omega) n' _ _ (by simp[upds_at,upd_at]) ((upds_get _ _ _ rfl).trans e34) ((upds_get _ _ _ rfl).trans e33) ((upds_get _ _ _ rfl).trans e0)
theorem rng_run (src:Bytes):AC C 7 [.str src] (.bool true):=by
 obtain⟨w,hw⟩:∃w,w=src.take 400:=⟨_,rfl⟩
 have hwl:w.length≤400:=by rw[hw,List.length_take];omega
 obtain⟨T,a,F,A,r⟩:=ast_run w (by omega)
 have hsz:szN (astB w T).1<100000000:=by have:=szA w T;have:=(isFile_facts (by omega) F).2.2.1;omega
 have hR:=file_rng (by omega) F
 obtain⟨rows,pR,pr⟩:=order_run A hsz
 obtain⟨a1,a2,a3,a4⟩:=A.cells
 have ast:a.strip=a:=by rw[a4];rfl
 have dst:(dgOut (astB w T).2).strip=dgOut (astB w T).2:=by unfold dgOut;split<;>rfl
 obtain⟨N0,q0⟩:=LexF.AC.at exa_run
 obtain⟨N1,q1⟩:=LexF.AC.at (LexF.short_run src 400)
 obtain⟨N2,q2⟩:=LexF.AC.at r
 obtain⟨N3,q3⟩:=LexF.AC.at pr
 obtain⟨N5,q5⟩:=LexF.AC.at (nested_run w (by omega) _ _ a (Nat.le_refl _) A (by omega) hR)
 have hpl:=preN_len (astB w T).1
 obtain⟨N4,q4⟩:=rng_loop (src:=w) (by omega) pR (by omega) (pre_rng hR) (preN (astB w T).1).length 0 (by omega) (by omega)
 refine .intro en7 rfl rfl ⟨N0+N1+N2+N3+N4+N5+(preN (astB w T).1).length+1,fun n hn=>?_⟩
 have q0:=q0 n (by omega)
 have q1:∀s',aCall Tryz.prog (den C n) 13 [.str src,.int .i64 400] s'=some (.str w,s'):=by rw[hw];exact q1 n (by omega)
 have q2:=q2 n (by omega)
 have q3:=q3 n (by omega)
 have q5:=q5 n (by omega)
 have zz1:aAlloc Tryz.prog 27 []=some (.ref 0 0,[(27,zrow7)]):=by rw[zero27];rfl
 have s1:aStore 7 [(27,zrow7)] (.ref 0 0) a=some [(27,a.cells)]:=by rw[st7 (s:=[(27,zrow7)]) (i:=0) rfl rfl a1 a2 a4];rfl
 have l0:aLoad false true 7 (.ref 0 0) [(27,a.cells)]=some (a,[(27,a.cells)]):=ld7 rfl a1 a4
 have nl:aLen Tryz.prog 48 (.sl 51 9 rows .sh)=some (I (preN (astB w T).1).length):=by rw[lenG under48',pR.length]
 have z1:((0:Int) != 0)=false:=rfl
 rw[F7_eq,F7]
 simp -implicitDefEqProofs only[sL,q0,Bool.not_true,q1,q2,ast,dst,zz1,s1,l0,z1,len9a,q5,q3,nl]
 exact q4 n (by omega) n (by omega) n _ _ (by simp[upds_at,upd_at]) (by simp[upds_at,upd_at]) (by simp[upds_at,upd_at]) (by simp[upds_at,upd_at])
end ParF
end
