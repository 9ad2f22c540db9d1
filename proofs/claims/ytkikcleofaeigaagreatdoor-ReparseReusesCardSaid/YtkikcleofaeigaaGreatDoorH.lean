/- RepA, RepB, RepC, RepD, RepE, RepG, RepH, RepI, RepJ, RepK, RepL, RepM, RepN, RepO, RepP, RepQ, RepR -/
import Derived.Test.YtkikcleofaeigaaGreatDoorG
import Derived.Test.YtkikcleofaeigaaGreatDoorP
import Derived.Test.YtkikcleofaeigaaGreatDoorQ
import Derived.Test.YtkikcleofaeigaaGreatDoorL
set_option linter.all false

section
set_option maxRecDepth 100000
set_option maxHeartbeats 1000000
namespace RepF
open Go Go.Abs Go.Proofs ParF Pm
theorem callV2 (D:Den)(g:FuncId)(a b:AV)(s:Heap):aCallV Tryz.prog D (.fn g [] []) [a,b] s=aCall Tryz.prog D g [a.strip,b.strip] s:=rfl
theorem al52 (s:Heap):aAlloc Tryz.prog 52 s=some (.ref s.length 0,s++[(52,[I 0,.str [],.nils])]):=by rw[zero52]
theorem ldx {s:Heap}{i:Nat}{a:AV}(h:s[i]?=some (52,a.cells))(h1:a.cells.length=3)(h4:a=.agg a.cells):aLoad false true 3 (.ref i 0) s=some (a,s):=by
 rw[ldA (o:=0) h (by decide) (by omega) (by decide),List.drop_zero,List.take_of_length_le (by omega),←h4]
theorem ldb {a:AV}(h1:a.cells.length=3)(h4:a=.agg a.cells)(s:Heap):aLoad false true 3 (.box a.cells 0) s=some (a,s):=by
 rw[aLoad_agg _ _ _ _ _ (by omega),List.drop_zero,List.take_of_length_le (by omega),←h4]
theorem eqf_loop {ch dh:AV}{cs ds:List Tree}(hch:IsC cs ch)(hdh:IsC ds dh)(hcd:cs.length=ds.length)(hc:cs.length<900000000)
  (ih:∀t∈cs,∀u a b,IsT t a→IsT u b→AC C 68 [a,b] (.bool (eqT t u))):∀(k i:Nat),cs.length-i=k→i≤cs.length →
  ∃N,∀f,N≤f→∀m,k<m→∀n' e s,e 17=I i→e 16=I cs.length→e 15=ch→e 1=dh→e 2=.fn 68 [] []→∃s',aLoop (F126_L0 (den C f) n') m e s=some (.bool (eqL (cs.drop i) (ds.drop i)),s'):=by
 obtain⟨hl,hat⟩:=hch.facts
 obtain⟨hl',hat'⟩:=hdh.facts
 obtain⟨c1,c2,c3⟩:=hch.strip
 obtain⟨c1',c2',c3'⟩:=hdh.strip
 intro k
 induction k with
 | zero =>
  intro i hk hi
  rw[List.drop_of_length_le (by omega),List.drop_of_length_le (by omega),eqL]
  refine⟨1,fun f hf m hm n' e s h30 h29 h2 h3 h4=>⟨s,?_⟩⟩
  obtain⟨m,rfl⟩:∃j,m=j+1:=⟨m-1,by omega⟩
  have c:¬i<cs.length:=by omega
  rw[aLoop,F126_L0]
  simp -implicitDefEqProofs only[sL,h30,h29,c,decide_false]
 | succ k ih2 =>
  intro i hk hi
  have hlt:i<cs.length:=by omega
  have hlt':i<ds.length:=by omega
  obtain⟨a,ha,hT⟩:=hat (List.getElem?_eq_getElem hlt)
  obtain⟨b,hb,hU⟩:=hat' (List.getElem?_eq_getElem hlt')
  obtain⟨a1,a2,a3,a4⟩:=hT.cells
  obtain⟨b1,b2,b3,b4⟩:=hU.cells
  have hst:a.strip=a:=by rw[a4];rfl
  have hst':b.strip=b:=by rw[b4];rfl
  rw[List.drop_eq_getElem_cons hlt,List.drop_eq_getElem_cons hlt',eqL]
  obtain⟨N1,q1⟩:=LexF.AC.at (ih _ (List.getElem_mem hlt) ds[i] a b hT hU)
  obtain⟨N3,q3⟩:=ih2 (i+1) (by omega) (by omega)
  refine⟨N1+N3,fun f hf m hm n' e s h30 h29 h2 h3 h4=>?_⟩
  obtain⟨m,rfl⟩:∃j,m=j+1:=⟨m-1,by omega⟩
  have q1:=q1 f (by omega)
  have e2:=ParF.wadd1 (a:=i) (by omega)
  let s1:Heap:=s++[(52,a.cells)]
  let s2:Heap:=s1++[(52,b.cells)]
  have w1:=al52 s
  have u1:aStore 3 (s++[(52,[I 0,.str [],.nils])]) (.ref s.length 0) a=some s1:=store_new hT
  have w2:=al52 s1
  have u2:aStore 3 (s1++[(52,[I 0,.str [],.nils])]) (.ref s1.length 0) b=some s2:=store_new hU
  have lx:aLoad false true 3 (.ref s.length 0) s2=some (a,s2):=ldx ((gapp_old (by rw[app_length];omega)).trans gapp_new) a1 a4
  have ly:aLoad false true 3 (.ref s1.length 0) s2=some (b,s2):=ldx gapp_new b1 b4
  rw[aLoop,F126_L0]
  cases hv:eqT cs[i] ds[i] with
  | false =>
   rw[hv]at q1
   refine⟨s2,?_⟩
   simp -implicitDefEqProofs only[sL,h30,h29,h2,h3,h4,hlt,c1,c1',ha,hb,ldb a1 a4,ldb b1 b4,hst,hst',w1,u1,w2,u2,lx,ly,callV2,q1,Bool.false_and]
  | true =>
   rw[hv]at q1
   simp -implicitDefEqProofs only[sL,h30,h29,h2,h3,h4,hlt,c1,c1',ha,hb,ldb a1 a4,ldb b1 b4,hst,hst',w1,u1,w2,u2,lx,ly,callV2,q1,e2,Bool.true_and]
   exact q3 f (by omega) m (by omega) n' _ _ (by simp only[upds_at,upds_nil,upd_at,if_true]) ((upds_get _ _ _ rfl).trans h29) ((upds_get _ _ _ rfl).trans h2) ((upds_get _ _ _ rfl).trans h3) ((upds_get _ _ _ rfl).trans h4)
theorem eqf_run {ch dh:AV}{cs ds:List Tree}(hch:IsC cs ch)(hdh:IsC ds dh)(hc:cs.length<900000000)
  (ih:∀t∈cs,∀u a b,IsT t a→IsT u b→AC C 68 [a,b] (.bool (eqT t u))):AC C 126 [ch,dh,.fn 68 [] []] (.bool (eqL cs ds)):=by
 obtain⟨c1,c2,c3⟩:=hch.strip
 obtain⟨hl,-⟩:=hch.facts
 obtain⟨c1',c2',c3'⟩:=hdh.strip
 obtain⟨hl',-⟩:=hdh.facts
 refine .intro en126 (by rw[noRefL_cons,noRefL_cons,noRefL_cons,noRefL_nil,c3,c3'];rfl) rfl ?_
 by_cases e3:cs.length=ds.length
 ·obtain⟨N,q⟩:=eqf_loop hch hdh e3 hc ih cs.length 0 (by omega) (by omega)
  rw[List.drop_zero,List.drop_zero]at q
  refine⟨N+cs.length+1,fun f hf=>?_⟩
  have z3:((ds.length:Int) != (ds.length:Int))=false:=by simp
  rw[e3]at hl
  rw[F126_eq,F126]
  simp -implicitDefEqProofs only[sL,c1,c1',hl,hl',z3]
  exact q f (by omega) f (by omega) f _ _ (by simp[upds_at,upd_at]) (by simp[upds_at,upd_at,e3]) (by simp[upds_at,upd_at]) (by simp[upds_at,upd_at,argEnv]) (by simp[upds_at,upd_at,argEnv])
 ·have z:eqL cs ds=false:=by
   cases h:eqL cs ds with
   | false=>rfl
   | true=>exact absurd (eqL_len h) e3
  have z3:((cs.length:Int) != (ds.length:Int))=true:=by simp;omega
  refine⟨1,fun f hf=>⟨[],?_⟩⟩
  rw[F126_eq,F126,z]
  simp -implicitDefEqProofs only[sL,c1,c1',hl,hl',z3]
theorem equal_run:∀(n:Nat)(T U:Tree)(a b:AV),szT T≤n→IsT T a→IsT U b→szT T<900000000→AC C 68 [a,b] (.bool (eqT T U)):=by
 intro n
 induction n with
 | zero=>intro T U a b hz;cases T;rw[szT_mk]at hz;omega
 | succ n ih =>
  intro T U a b hz hT hU hsz
  have nr:noRefL [a,b]=true:=by rw[noRefL_cons,noRefL_cons,noRefL_nil,hT.noRef,hU.noRef];rfl
  cases hT with
  | mk k t cs ch hch =>
  cases hU with
  | mk k' t' ds dh hdh =>
  rw[szT_mk]at hz hsz
  obtain⟨c1,c2,c3⟩:=hch.strip
  obtain⟨c1',c2',c3'⟩:=hdh.strip
  obtain⟨N,q⟩:=LexF.AC.at (eqf_run hch hdh (by have:=len_le_sz cs;omega) (fun x hx u a b h1 h2=>ih x u a b (by have:=szL_mem x hx;omega) h1 h2 (by have:=szL_mem x hx;omega)))
  refine .intro en68 nr (by rfl) ⟨N,fun f hf=>⟨[],?_⟩⟩
  have q:=q f hf
  rw[eqT,F68_eq,F68]
  have z1:((k:Int)==(k':Int))=(k==k'):=by rw[Bool.eq_iff_iff];simp;omega
  have z2:∀x y:List UInt8,aBin Tryz.prog .eql 9 (.str x) (.str y)=some (.bool (x==y)):=fun x y=>by simp[aBin,strBin]
  cases e1:(k==k') with
  | false =>
   rw[e1]at z1
   simp -implicitDefEqProofs only[sL,z1,Bool.false_and]
  | true =>
   rw[e1]at z1
   cases e2:(t==t') with
   | false=>simp -implicitDefEqProofs only[sL,z1,z2,e2,Bool.true_and,Bool.false_and]
   | true=>simp -implicitDefEqProofs only[sL,z1,z2,e2,c1,c1',q,Bool.true_and]
end RepF
end

section
set_option maxRecDepth 100000
set_option maxHeartbeats 1000000
namespace RepF
open Go Go.Abs Go.Proofs ParF Pm
theorem sigW_triv {t:Tok}(h:triv t=true)(r:List Tok):sigW (t::r)=t.2.length+sigW r:=by
 unfold sigW
 have e1:(t::r).takeWhile triv=t::r.takeWhile triv:=by rw[List.takeWhile_cons,h];rfl
 have e2:skp (t::r)=skp r:=by unfold skp;rw[List.dropWhile_cons,h];rfl
 rw[e1,e2,List.cons_append,bl_cons]
theorem sigW_sig {t:Tok}(h:triv t=false)(r:List Tok):sigW (t::r)=t.2.length:=by
 unfold sigW
 have e1:(t::r).takeWhile triv=[]:=by rw[List.takeWhile_cons,h];rfl
 have e2:skp (t::r)=t::r:=by unfold skp;rw[List.dropWhile_cons,h];rfl
 rw[e1,e2,List.nil_append,List.take_succ_cons,List.take_zero,bl_cons,bl_nil];omega
theorem sigW_le (ts:List Tok):sigW ts≤bl ts:=by have:=sig_la ts;omega
theorem wsum {a b:Nat}(h:a+b<2000000000):IntKind.i64.wrap ((a:Int)+(b:Int))=((a+b:Nat):Int):=by rw[wrap64]<;>omega
theorem wdif {a b:Nat}(h:b≤a)(ha:a<2000000000):IntKind.i64.wrap ((a:Int)-(b:Int))=((a-b:Nat):Int):=by rw[wrap64]<;>omega
theorem sig_loop (l:List UInt8)(hl:l.length<100000):∀(k o:Nat),l.length-o≤k→o≤l.length→∃N,∀f,N≤f→∀r,k<r→∀n' e s,e 3=I o→e 0=.str l →
  aLoop (F131_L1 (den C f) n') r e s=some (I (o+sigW (LexF.tokz (l.drop o)):Nat),s):=by
 intro k
 induction k with
 | zero =>
  intro o hk ho
  refine⟨0,fun f hf r hr n' e s h3 h0=>?_⟩
  obtain⟨r,rfl⟩:∃j,r=j+1:=⟨r-1,by omega⟩
  have c:¬o<l.length:=by omega
  have hd:LexF.tokz (l.drop o)=[]:=by rw[List.drop_of_length_le (by omega)];rfl
  rw[aLoop,F131_L1,hd]
  simp -implicitDefEqProofs only[sL,h3,h0,LexF.len9,c]
  rw[F131_J0]
  simp -implicitDefEqProofs only[sL,upds_at,upds_nil,upd_at,h3]
  rfl
 | succ k ih =>
  intro o hk ho
  by_cases c:o<l.length
  ·obtain⟨x,r0,hx⟩:∃x r,l.drop o=x::r:=by
    cases h:l.drop o with
    | nil=>have:=congrArg List.length h;rw[List.length_drop,List.length_nil]at this;omega
    | cons x r=>exact⟨x,r,rfl⟩
   have hxl:(x::r0).length=l.length-o:=by rw[←hx,List.length_drop]
   have hb:=LexF.first_bounds (x::r0) (by simp)
   obtain⟨N1,q1⟩:=LexF.AC.at (LexF.first_run x r0 (by omega))
   have htok:=LexF.tokz_cons (l:=x::r0) (by simp)
   have hdd:(x::r0).drop (LexF.first (x::r0)).1=l.drop (o+(LexF.first (x::r0)).1):=by rw[←hx,List.drop_drop]
   have htl:((x::r0).take (LexF.first (x::r0)).1).length=(LexF.first (x::r0)).1:=by rw[List.length_take];omega
   rw[hx,htok,hdd]
   unfold LexF.firstV at q1
   generalize (LexF.first (x::r0)).1=z at *
   generalize (LexF.first (x::r0)).2=y at *
   generalize (x::r0).take z=tk at *
   obtain⟨N2,q2⟩:=ih (o+z) (by omega) (by omega)
   have e1:=LexF.subDrop (s:=l) (i:=o) (by omega)
   rw[hx]at e1
   have w:=wsum (a:=o) (b:=z) (by omega)
   refine⟨N1+N2,fun f hf r hr n' e s h3 h0=>?_⟩
   obtain⟨r,rfl⟩:∃j,r=j+1:=⟨r-1,by omega⟩
   have q1:=q1 f (by omega)
   have q2:=q2 f (by omega) r (by omega) n'
   rw[aLoop,F131_L1]
   by_cases c1:y=101
   ·subst c1
    rw[sigW_triv (by rfl),htl,←Nat.add_assoc]
    have z1:(((101:Nat):Int) != 101)=false:=rfl
    simp -implicitDefEqProofs only[sL,h3,h0,LexF.len9,c,e1,q1,w,z1]
    exact q2 _ s (by simp[upds_at,upd_at]) (by simp[upds_at,upd_at,h0])
   ·have z1:((y:Int) != 101)=true:=by simp;omega
    by_cases c2:y=102
    ·subst c2
     rw[sigW_triv (by rfl),htl,←Nat.add_assoc]
     have z2:(((102:Nat):Int) != 102)=false:=rfl
     simp -implicitDefEqProofs only[sL,h3,h0,LexF.len9,c,e1,q1,w,z1,z2]
     exact q2 _ s (by simp[upds_at,upd_at]) (by simp[upds_at,upd_at,h0])
    ·have z2:((y:Int) != 102)=true:=by simp;omega
     rw[sigW_sig (by simp[triv,c1,c2]),htl]
     simp -implicitDefEqProofs only[sL,h3,h0,LexF.len9,c,e1,q1,w,z1,z2]
     rw[F131_J0]
     simp -implicitDefEqProofs only[sL,upds_at,upds_nil,upd_at,if_true]
     try rfl
  ·obtain⟨N2,q2⟩:=ih o (by omega) ho
   exact⟨N2,fun f hf r hr n' e s=>q2 f hf r (by omega) n' e s⟩
theorem sig_run (l:List UInt8)(hl:l.length<100000):AC C 131 [.str l] (I (sigW (LexF.tokz l):Nat)):=by
 obtain⟨N,q⟩:=sig_loop l hl l.length 0 (by omega) (by omega)
 refine .intro en131 rfl rfl ⟨N+l.length+1,fun f hf=>⟨[],?_⟩⟩
 rw[List.drop_zero,Nat.zero_add]at q
 have q:=q f (by omega) f (by omega) f
 rw[F131_eq,F131]
 simp -implicitDefEqProofs only[sL,]
 exact q _ _ (by simp[upds_at,upd_at]) (by simp[upds_at,upd_at,argEnv])
def isTk:Tree→Bool
 | .mk k _ _=>decide (100≤k)
theorem isTk_run {t:Tree}{a:AV}(h:IsT t a):AC C 132 [a] (.bool (isTk t)):=by
 have nr:noRefL [a]=true:=by rw[noRefL_cons,noRefL_nil,h.noRef];rfl
 cases h with
 | mk k x cs ch hc =>
  refine .intro en132 nr rfl ⟨0,fun f hf=>⟨[],?_⟩⟩
  have z:decide ((100:Int)≤(k:Int))=isTk (.mk k x cs):=by
   unfold isTk;exact decide_eq_decide.2 (by omega)
  rw[F132_eq,F132]
  simp -implicitDefEqProofs only[sL,z]
theorem skip_loop:∀(xs w:List Tok)(v:AV),LexF.IsT v (xs++w)→Full (xs++w)→bl xs<100000→∃u,LexF.IsT u w∧∀D r,xs.length<r→∀n' e s,e 0=v→e 1=I (bl xs:Nat)→aLoop (F73_L0 D n') r e s=some (u,s)
 | [],w,v,hv,hf,hb=>by
  refine⟨v,hv,fun D r hr n' e s h0 h1=>?_⟩
  obtain⟨r,rfl⟩:∃j,r=j+1:=⟨r-1,by omega⟩
  have c:¬(0:Int)<((0:Nat):Int):=by omega
  have st:=hv.strip
  rw[bl_nil]at h1
  rw[aLoop,F73_L0]
  simp -implicitDefEqProofs only[sL,h0,h1,c,st]
 | x::xs,w,v,hv,hf,hb=>by
  rw[List.cons_append]at hv hf
  have hne:=hf x (List.mem_cons_self ..)
  have hpos:0<x.2.length:=List.length_pos_iff.2 hne
  obtain⟨v',e1,hv'⟩:=hv.drop (i:=1) (by simp)
  rw[List.drop_succ_cons,List.drop_zero]at hv'
  rw[bl_cons]at hb
  obtain⟨u,hu,q⟩:=skip_loop xs w v' hv' (fun t ht=>hf t (List.mem_cons_of_mem _ ht)) (by omega)
  refine⟨u,hu,fun D r hr n' e s h0 h1=>?_⟩
  obtain⟨r,rfl⟩:∃j,r=j+1:=⟨r-1,by omega⟩
  rw[bl_cons]at h1
  have e2:aIndexAddr Tryz.prog 74 v (I 0)=some (.box [I x.1,.str x.2] 0):=hv.at (i:=0) rfl
  have c:(0:Int)<((x.2.length+bl xs:Nat):Int):=by omega
  have w:=wdif (a:=x.2.length+bl xs) (b:=x.2.length) (by omega) (by omega)
  rw[Nat.add_sub_cancel_left]at w
  have st:=hv.strip
  have e1:aSl Tryz.prog 74 v (some (I 1)) none none=some v':=e1
  rw[aLoop,F73_L0]
  simp -implicitDefEqProofs only[sL,h0,h1,c,st,e2,LexF.len9,w,e1]
  exact q D r (by simpa using hr) n' _ s (by simp[upds_at,upd_at]) (by simp[upds_at,upd_at])
theorem skip_run {xs w:List Tok}{v:AV}(hv:LexF.IsT v (xs++w))(hf:Full (xs++w))(hb:bl xs<100000):∃u,LexF.IsT u w∧AC C 73 [v,I (bl xs:Nat)] u:=by
 obtain⟨u,hu,q⟩:=skip_loop xs w v hv hf hb
 refine⟨u,hu,.intro en73 (by rw[noRefL_cons,noRefL_cons,noRefL_nil,hv.noRef];rfl) hu.noRef ⟨xs.length+1,fun f hf=>⟨[],?_⟩⟩⟩
 rw[F73_eq,F73]
 simp -implicitDefEqProofs only[sL,]
 exact q (den C f) f (by omega) f _ _ (by simp[upds_at,upd_at,argEnv]) (by simp[upds_at,upd_at,argEnv])
end RepF
end

section
set_option maxRecDepth 100000
set_option maxHeartbeats 1000000
namespace RepF
open Go Go.Abs Go.Proofs ParF Pm
theorem end_loop (v:AV)(ts:List Tok)(hv:LexF.IsT v ts)(ht:ts.length<100000)(hs:bl ts<1000000):∀(k i:Nat),ts.length-i=k→i≤ts.length→∀D r,k<r→∀n' e s,e 11=v→e 12=I ts.length→e 13=I i→e 8=I (bl (ts.take i):Nat) →
  ∃e' s',aLoop (F71_L0 D n') r e s=aLoop (F71_L2 D n') n' e' s'∧e' 8=I (bl ts:Nat)∧e' 7=e 7∧e' 0=e 0∧e' 1=e 1∧e' 5=e 5:=by
 intro k
 induction k with
 | zero =>
  intro i hk hi D r hr n' e s h11 h12 h13 h8
  obtain⟨r,rfl⟩:∃j,r=j+1:=⟨r-1,by omega⟩
  have c:¬i<ts.length:=by omega
  rw[List.take_of_length_le (by omega)]at h8
  rw[aLoop,F71_L0]
  simp -implicitDefEqProofs only[sL,h11,h12,h13,c]
  exact⟨_,_,rfl,(upds_get _ _ _ rfl).trans h8,upds_get _ _ _ rfl,upds_get _ _ _ rfl,upds_get _ _ _ rfl,upds_get _ _ _ rfl⟩
 | succ k ih =>
  intro i hk hi D r hr n' e s h11 h12 h13 h8
  obtain⟨r,rfl⟩:∃j,r=j+1:=⟨r-1,by omega⟩
  have c:i<ts.length:=by omega
  have e1:=hv.at (List.getElem?_eq_getElem c)
  have e2:=ParF.wadd1 (a:=i) (by omega)
  have htk:bl (ts.take (i+1))=bl (ts.take i)+ts[i].2.length:=by
   rw[List.take_succ,List.getElem?_eq_getElem c]
   show bl (ts.take i++[ts[i]])=_
   rw[bl_app,bl_cons,bl_nil];omega
  have hle:bl (ts.take (i+1))≤bl ts:=by
   have:=bl_app (ts.take (i+1)) (ts.drop (i+1))
   rw[List.take_append_drop]at this;omega
  have e3:=wsum (a:=bl (ts.take i)) (b:=ts[i].2.length) (by omega)
  rw[←htk]at e3
  generalize ts[i]=t at *
  obtain⟨e',s',q1,q2,q3,q4,q5,q6⟩:=ih (i+1) (by omega) (by omega) D r (by omega) n' (upds e [(14,.bool true),(15,.box [I t.1,.str t.2] 0),(16,.agg [I t.1,.str t.2]),(10,.ref s.length 0),(16,.agg [I t.1,.str t.2]),(17,I (bl (ts.take i):Nat)),(18,.ref s.length 1),(19,.str t.2),(20,I t.2.length),(21,I (bl (ts.take (i+1)):Nat)),(21,I (bl (ts.take (i+1)):Nat)),(8,I (bl (ts.take (i+1)):Nat)),(22,I (i+1:Nat)),(13,I (i+1:Nat))]) (s++[(80,[I t.1,.str t.2])])
   ((upds_get _ _ _ rfl).trans h11) ((upds_get _ _ _ rfl).trans h12) rfl rfl
  refine⟨e',s',?_,q2,q3.trans (upds_get _ _ _ rfl),q4.trans (upds_get _ _ _ rfl),q5.trans (upds_get _ _ _ rfl),q6.trans (upds_get _ _ _ rfl)⟩
  rw[←q1,aLoop,F71_L0]
  simp -implicitDefEqProofs only[sL,h11,h12,h13,h8,c,e1,e2,e3,LexF.len9,LexF.load2',LexF.alloc39,LexF.store39,LexF.load39]
  try rfl
def Tail (ts us:List Tok)(n:Nat):Prop:=n≤ts.length∧n≤us.length∧ts.drop (ts.length-n)=us.drop (us.length-n)
theorem Tail.step {ts us:List Tok}{n:Nat}(h:Tail ts us n)(h1:n<ts.length)(h2:n<us.length)(he:ts[ts.length-1-n]'(by omega)=us[us.length-1-n]'(by omega)):Tail ts us (n+1):=by
 refine⟨by omega,by omega,?_⟩
 have a1:ts.length-(n+1)<ts.length:=by omega
 have a2:us.length-(n+1)<us.length:=by omega
 rw[List.drop_eq_getElem_cons a1,List.drop_eq_getElem_cons a2]
 have b1:ts.length-(n+1)+1=ts.length-n:=by omega
 have b2:us.length-(n+1)+1=us.length-n:=by omega
 have c1:ts.length-(n+1)=ts.length-1-n:=by omega
 have c2:us.length-(n+1)=us.length-1-n:=by omega
 rw[b1,b2,h.2.2]
 congr 1
 simp only[c1,c2];exact he
theorem eq80 (a b:Int)(t u:List UInt8):aBin Tryz.prog .eql 80 (.agg [I a,.str t]) (.agg [I b,.str u])=some (.bool ((a==b)&&((t==u)&&true))):=by kernel_rfl
theorem eqTok (x y:Tok):aBin Tryz.prog .eql 80 (.agg [I x.1,.str x.2]) (.agg [I y.1,.str y.2])=some (.bool (decide (x=y))):=by
 rw[eq80]
 congr 2
 rw[Bool.eq_iff_iff,Bool.and_true,Bool.and_eq_true,beq_iff_eq,beq_iff_eq,decide_eq_true_eq]
 obtain⟨a,b⟩:=x;obtain⟨c,d⟩:=y
 simp only[Prod.mk.injEq]
 exact and_congr_left fun _=>by omega
theorem st_loop (v u:AV)(ts us:List Tok)(hv:LexF.IsT v ts)(hu:LexF.IsT u us)(ht:ts.length<100000)(hus:us.length<100000)(hs:bl ts<1000000)(a b:Nat)(tx:AV):∀(k i:Nat),ts.length-i≤k→Tail ts us i →
  ∃m,Tail ts us m∧∀D r,k<r→∀n' e s,e 0=v→e 1=u→e 5=.box [I a,I b,tx] 0→e 7=I i→e 8=I (bl (ts.take (ts.length-i)):Nat)→aLoop (F71_L2 D n') r e s=some (I m,s):=by
 have l1:=hv.len
 have l2:=hu.len
 have st1:=hv.strip
 have st2:=hu.strip
 intro k
 induction k with
 | zero =>
  intro i hk hT
  have hi:i=ts.length:=by have:=hT.1;omega
  subst hi
  refine⟨_,hT,fun D r hr n' e s h0 h1 h5 h7 h8=>?_⟩
  obtain⟨r,rfl⟩:∃j,r=j+1:=⟨r-1,by omega⟩
  have c:¬ts.length<ts.length:=by omega
  rw[aLoop,F71_L2]
  simp -implicitDefEqProofs only[sL,h0,h1,h5,h7,h8,st1,st2,l1,l2,c,d71_7]
  rw[F71_J1]
  simp -implicitDefEqProofs only[sL,upds_at,upds_nil,upd_at,h7]
  try rfl
 | succ k ih =>
  intro i hk hT
  by_cases c1:i<ts.length
  ·by_cases c2:i<us.length
   ·have x1:ts.length-1-i<ts.length:=by omega
    have x2:us.length-1-i<us.length:=by omega
    have e1:=hv.at (List.getElem?_eq_getElem x1)
    have e2:=hu.at (List.getElem?_eq_getElem x2)
    have w1:=wdif (a:=ts.length) (b:=1) (by omega) (by omega)
    have w2:=wdif (a:=ts.length-1) (b:=i) (by omega) (by omega)
    have w3:=wdif (a:=us.length) (b:=1) (by omega) (by omega)
    have w4:=wdif (a:=us.length-1) (b:=i) (by omega) (by omega)
    have w1:IntKind.i64.wrap ((ts.length:Int)-1)=((ts.length-1:Nat):Int):=w1
    have w3:IntKind.i64.wrap ((us.length:Int)-1)=((us.length-1:Nat):Int):=w3
    have hq:=eqTok ts[ts.length-1-i] us[us.length-1-i]
    have hsp:bl (ts.take (ts.length-i))=bl (ts.take (ts.length-(i+1)))+ts[ts.length-1-i].2.length:=by
     have hx:ts.length-i=(ts.length-1-i)+1:=by omega
     have hy:ts.length-(i+1)=ts.length-1-i:=by omega
     rw[hx,hy,List.take_succ,List.getElem?_eq_getElem x1]
     show bl (ts.take (ts.length-1-i)++[ts[ts.length-1-i]])=_
     rw[bl_app,bl_cons,bl_nil];omega
    have hble:bl (ts.take (ts.length-i))≤bl ts:=by
     have:=bl_app (ts.take (ts.length-i)) (ts.drop (ts.length-i))
     rw[List.take_append_drop]at this;omega
    by_cases ce:ts[ts.length-1-i]=us[us.length-1-i]
    ·have hT':=hT.step c1 c2 ce
     rw[decide_eq_true ce]at hq
     have w5:=wdif (a:=bl (ts.take (ts.length-i))) (b:=ts[ts.length-1-i].2.length) (by omega) (by omega)
     have hsub:bl (ts.take (ts.length-i))-ts[ts.length-1-i].2.length=bl (ts.take (ts.length-(i+1))):=by omega
     rw[hsub]at w5
     have w6:=ParF.wadd1 (a:=i) (by omega)
     obtain⟨m,hm,q⟩:=ih (i+1) (by omega) hT'
     generalize ts[ts.length-1-i]=x at *
     generalize us[us.length-1-i]=y at *
     by_cases c3:(bl (ts.take (ts.length-(i+1))):Int)<(b:Int)
     ·refine⟨i,hT,fun D r hr n' e s h0 h1 h5 h7 h8=>?_⟩
      obtain⟨r,rfl⟩:∃j,r=j+1:=⟨r-1,by omega⟩
      rw[aLoop,F71_L2]
      simp -implicitDefEqProofs only[sL,h0,h1,h5,h7,h8,st1,st2,l1,l2,c1,c2,w1,w2,w3,w4,e1,e2,LexF.load2',hq,d71_7,LexF.len9,w5,c3]
      rw[F71_J1]
      simp -implicitDefEqProofs only[sL,upds_at,upds_nil,upd_at,h7]
      try rfl
     ·refine⟨m,hm,fun D r hr n' e s h0 h1 h5 h7 h8=>?_⟩
      obtain⟨r,rfl⟩:∃j,r=j+1:=⟨r-1,by omega⟩
      rw[aLoop,F71_L2]
      simp -implicitDefEqProofs only[sL,h0,h1,h5,h7,h8,st1,st2,l1,l2,c1,c2,w1,w2,w3,w4,e1,e2,LexF.load2',hq,d71_7,LexF.len9,w5,c3,w6]
      exact q D r (by omega) n' _ s ((upds_get _ _ _ rfl).trans h0) ((upds_get _ _ _ rfl).trans h1) ((upds_get _ _ _ rfl).trans h5) rfl rfl
    ·rw[decide_eq_false ce]at hq
     refine⟨i,hT,fun D r hr n' e s h0 h1 h5 h7 h8=>?_⟩
     obtain⟨r,rfl⟩:∃j,r=j+1:=⟨r-1,by omega⟩
     generalize ts[ts.length-1-i]=x at *
     generalize us[us.length-1-i]=y at *
     rw[aLoop,F71_L2]
     simp -implicitDefEqProofs only[sL,h0,h1,h5,h7,h8,st1,st2,l1,l2,c1,c2,w1,w2,w3,w4,e1,e2,LexF.load2',hq,d71_7]
     rw[F71_J1]
     simp -implicitDefEqProofs only[sL,upds_at,upds_nil,upd_at,h7]
     try rfl
   ·refine⟨i,hT,fun D r hr n' e s h0 h1 h5 h7 h8=>?_⟩
    obtain⟨r,rfl⟩:∃j,r=j+1:=⟨r-1,by omega⟩
    rw[aLoop,F71_L2]
    simp -implicitDefEqProofs only[sL,h0,h1,h5,h7,h8,st1,st2,l1,l2,c1,c2,d71_7]
    rw[F71_J1]
    simp -implicitDefEqProofs only[sL,upds_at,upds_nil,upd_at,h7]
    try rfl
  ·obtain⟨m,hm,q⟩:=ih i (by have:=hT.1;omega) hT
   exact⟨m,hm,fun D r hr n' e s=>q D r (by omega) n' e s⟩
theorem stable_run {v u:AV}{ts us:List Tok}(hv:LexF.IsT v ts)(hu:LexF.IsT u us)(ht:ts.length<100000)(hus:us.length<100000)(hs:bl ts<1000000)(a b:Nat)(t:List UInt8) :
  ∃m,Tail ts us m∧AC C 71 [v,u,.agg [I a,I b,.str t]] (I m):=by
 obtain⟨m,hm,q⟩:=st_loop v u ts us hv hu ht hus hs a b (.str t) ts.length 0 (by omega) ⟨Nat.zero_le _,Nat.zero_le _,by rw[Nat.sub_zero,Nat.sub_zero,List.drop_length,List.drop_length]⟩
 have st1:=hv.strip
 have l1:=hv.len
 refine⟨m,hm,.intro en71 (by rw[noRefL_cons,noRefL_cons,noRefL_cons,noRefL_nil,hv.noRef,hu.noRef];rfl) rfl ⟨ts.length+1,fun f hf=>?_⟩⟩
 have bx:∀s,aBox false 67 (.agg [I a,I b,.str t]) s=some (.box [I a,I b,.str t] 0,s):=fun s=>rfl
 rw[F71_eq,F71]
 simp -implicitDefEqProofs only[sL,bx,st1,l1]
 have key:∀E:Env,E 11=v→E 12=I ts.length→E 13=I (0:Nat)→E 8=I (0:Nat)→E 7=I (0:Nat)→E 0=v→E 1=u→E 5=.box [I a,I b,.str t] 0→∃s',aLoop (F71_L0 (den C f) f) f E []=some (I m,s'):=by
  intro E h11 h12 h13 h8 h7 h0 h1 h5
  obtain⟨e',s',q1,q2,q3,q4,q5,q6⟩:=end_loop v ts hv ht hs ts.length 0 (by omega) (by omega) (den C f) f (by omega) f E [] h11 h12 h13 h8
  refine⟨s',?_⟩
  rw[q1]
  exact q (den C f) f (by omega) f e' s' (q4.trans h0) (q5.trans h1) (q6.trans h5) (q3.trans h7) (by rw[q2,Nat.sub_zero,List.take_of_length_le (Nat.le_refl _)])
 refine key _ ?_ ?_ ?_ ?_ ?_ ?_ ?_ ?_<;>first|rfl|(simp[upds_at,upd_at,argEnv])
end RepF
end

section
set_option maxRecDepth 100000
set_option maxHeartbeats 1000000
namespace RepF
open Go Go.Abs Go.Proofs ParF Pm
structure Ch where
 t:Tree
 s:Nat
 e:Nat
 l:Nat
def sg (src:Bytes)(o:Nat):Nat:=sigW (LexF.tokz (src.drop o))
def laF (src:Bytes)(e:Nat):Nat:=(e+sg src e)+sg src (e+sg src e)
def chs (src:Bytes):Nat→List Tree→List Ch
 | _,[]=>[]
 | o,t::ts=>⟨t,o,o+(srcT t).length,laF src (o+(srcT t).length)⟩::chs src (o+(srcT t).length) ts
theorem chs_length (src:Bytes):∀(ts:List Tree)(o:Nat),(chs src o ts).length=ts.length
 | [],o=>rfl
 | t::ts,o=>by rw[chs,List.length_cons,chs_length src ts,List.length_cons]
def IsCh (c:Ch)(a:AV):Prop:=∃ta,IsT c.t ta∧a=.agg (ta.cells++[I c.s,I c.e,I c.l])
def IsChs (cs:List Ch)(rows:List AV):Prop:=rows.length=cs.length∧∀(i:Nat)(c:Ch),cs[i]?=some c→∃a,rows[i]?=some a∧IsCh c a
def IsO (v:AV)(cs:List Ch):Prop:=∃rows,IsChs cs rows∧((v=.sl 207 6 rows .sh)∨(v=.nils∧rows=[]))
theorem IsCh.facts {c:Ch}{a:AV}(h:IsCh c a):a.strip=a∧a.noRef=true∧a.cells.length=6∧a=.agg a.cells:=by
 obtain⟨ta,h1,rfl⟩:=h
 obtain⟨a1,a2,a3,a4⟩:=h1.cells
 refine⟨rfl,?_,?_,rfl⟩
 ·have:=h1.noRef
  rw[a4]at this
  rw[noRef_agg]at this ⊢
  have key:∀xs ys:List AV,noRefL (xs++ys)=(noRefL xs&&noRefL ys):=by
   intro xs ys
   induction xs with
   | nil=>rw[List.nil_append,noRefL_nil,Bool.true_and]
   | cons x xs ih=>rw[List.cons_append,noRefL_cons,noRefL_cons,ih,Bool.and_assoc]
  rw[key]
  have h2:noRefL ta.cells=true:=this
  rw[h2];rfl
 ·show (ta.cells++_).length=6
  rw[List.length_append,a1];rfl
theorem IsChs.noRef {cs:List Ch}{rows:List AV}(h:IsChs cs rows):noRefL rows=true:=by
 have:∀a∈rows,a.noRef=true:=by
  intro a ha
  obtain⟨i,hi⟩:=List.mem_iff_getElem?.1 ha
  have hlt:i<cs.length:=by rw[←h.1];exact(List.getElem?_eq_some_iff.1 hi).1
  obtain⟨b,h1,h2⟩:=h.2 i _ (List.getElem?_eq_getElem hlt)
  rw[hi]at h1;cases h1
  exact h2.facts.2.1
 clear h
 induction rows with
 | nil=>rfl
 | cons a rows ih=>rw[noRefL_cons,this a (List.mem_cons_self ..),ih fun b hb=>this b (List.mem_cons_of_mem _ hb)];rfl
theorem IsChs.snoc {cs:List Ch}{rows:List AV}{c:Ch}{a:AV}(h:IsChs cs rows)(ha:IsCh c a):IsChs (cs++[c]) (rows++[a]):=by
 refine⟨by rw[List.length_append,List.length_append,h.1];rfl,fun i x hx=>?_⟩
 rcases Nat.lt_or_ge i cs.length with hl|hl
 ·rw[List.getElem?_append_left hl]at hx
  rw[List.getElem?_append_left (by rw[h.1];exact hl)]
  exact h.2 i x hx
 ·rw[List.getElem?_append_right hl]at hx
  obtain⟨rfl,rfl⟩:i=cs.length∧c=x:=by
   cases hk:i-cs.length with
   | zero=>rw[hk]at hx;simp at hx;exact⟨by omega,hx⟩
   | succ n=>rw[hk]at hx;simp at hx
  rw[←h.1,List.getElem?_append_right (Nat.le_refl _),Nat.sub_self]
  exact⟨a,rfl,ha⟩
theorem under140:Tryz.prog.underlying 140=some (.slice 207):=by kernel_rfl
theorem sz207:szOf Tryz.prog 207=some 6:=by kernel_rfl
theorem IsO.strip {v:AV}{cs:List Ch}(h:IsO v cs):v.strip=v:=by obtain⟨rows,h1,rfl|⟨rfl,_⟩⟩:=h<;>rfl
theorem IsO.noRef {v:AV}{cs:List Ch}(h:IsO v cs):v.noRef=true:=by
 obtain⟨rows,h1,rfl|⟨rfl,_⟩⟩:=h
 ·rw[noRef_sl];exact h1.noRef
 ·rfl
theorem IsO.len {v:AV}{cs:List Ch}(h:IsO v cs):aLen Tryz.prog 140 v=some (I cs.length):=by
 obtain⟨rows,h1,rfl|⟨rfl,rfl⟩⟩:=h
 ·simp[aLen,under140,h1.1]
 ·have:cs=[]:=List.length_eq_zero_iff.1 h1.1.symm
  subst this
  simp[aLen,under140]
theorem IsO.at {v:AV}{cs:List Ch}(h:IsO v cs){i:Nat}{c:Ch}(hc:cs[i]?=some c):∃a,IsCh c a∧aIndexAddr Tryz.prog 140 v (I i)=some (.box a.cells 0):=by
 obtain⟨rows,h1,rfl|⟨rfl,rfl⟩⟩:=h
 ·obtain⟨a,h2,h3⟩:=h1.2 i c hc
  exact⟨a,h3,by simp[aIndexAddr,under140,sz207,h2]⟩
 ·have:cs=[]:=List.length_eq_zero_iff.1 h1.1.symm
  subst this;simp at hc
def accR (rows:List AV):AV:=match rows with
 | []=>.nils
 | x::r=>.sl 207 6 (x::r) .own
theorem accR_is {cs:List Ch}{rows:List AV}(h:IsChs cs rows):IsO (accR rows).strip cs:=by
 refine⟨rows,h,?_⟩
 cases rows with
 | nil=>exact .inr ⟨rfl,rfl⟩
 | cons t r=>exact .inl rfl
theorem info207':((Tryz.prog.info? 207).map fun i=>(i.size,i.bytes,i.zero.map fun z=>z.cells.size))=some (6,72,some 6):=by kernel_rfl
theorem info207:∃i,Tryz.prog.info? 207=some i∧i.size=6∧i.bytes=72∧∃z,i.zero=some z∧z.cells.size=6:=by
 have h:=info207'
 rw[Option.map_eq_some_iff]at h
 obtain⟨i,h1,h2⟩:=h
 simp only[Prod.mk.injEq,Option.map_eq_some_iff]at h2
 exact⟨i,h1,h2.1,h2.2.1,h2.2.2⟩
theorem app140 (xs:List AV)(x:AV)(h:xs.length<1000000):aAppend Tryz.prog 140 140 (accR xs) (.sl 207 6 [x] .own)=some (accR (xs++[x])):=by
 obtain⟨i,h1,h2,h3,z,h4,h5⟩:=info207
 unfold aAppend
 rw[under140]
 simp only[h1,h2,srcOf,if_true,h4,h5,ne_eq,not_true,if_false,h3]
 cases xs with
 | nil =>
  simp only[accR,List.nil_append,List.length_cons,List.length_nil]
  rw[if_pos (by omega)]
 | cons b r =>
  simp only[accR,List.length_cons,List.length_nil,List.cons_append]at *
  rw[if_pos ⟨trivial,trivial,by omega,by omega⟩]
theorem bd207 (k:Int)(x:Bytes)(c:AV)(a b d:Int):aBuild Tryz.prog 207 [(0,.agg [I k,.str x,c]),(1,I a),(2,I b),(3,I d)]=some (.agg [I k,.str x,c,I a,I b,I d]):=by kernel_rfl
theorem bs140 (k:Int)(x:Bytes)(c:AV)(a b d:Int):aBuildSlice Tryz.prog 140 1 [(0,.agg [I k,.str x,c,I a,I b,I d])]=some (.sl 207 6 [.agg [I k,.str x,c,I a,I b,I d]] .own):=by kernel_rfl
theorem bl_tokz (l:Bytes):bl (LexF.tokz l)=l.length:=by
 show (srcK _).length=_
 rw[srcK_eq,LexF.tokz_src _ l (Nat.le_refl _)]
theorem sg_le (src:Bytes)(o:Nat)(h:o≤src.length):o+sg src o≤src.length:=by
 have:=sigW_le (LexF.tokz (src.drop o))
 rw[bl_tokz,List.length_drop]at this
 unfold sg;omega
theorem tree_cells {t:Tree}{a:AV}(h:IsT t a):∃(kk:Nat)(x:Bytes)(ch':AV),a=.agg [I kk,.str x,ch']:=by
 cases h with
 | mk k t cs ch h=>exact⟨_,_,_,rfl⟩
theorem look_one (src:Bytes)(hl:src.length<100000)(L j:Nat)(hL:L≤src.length)(hj:j<2):∃N,∀f,N≤f→∀n' r k0 e s,e 24=I j→e 10=I L→e 0=.str src →
  ∃e',aLoop (F70_L1 (den C f) n' k0) (r+1) e s=aLoop (F70_L1 (den C f) n' k0) r e' s∧e' 24=I (j+1:Nat)∧e' 10=I (L+sg src L:Nat)∧e' 0=.str src∧e' 5=e 5∧e' 6=e 6∧e' 8=e 8∧e' 9=e 9∧e' 14=e 14∧e' 12=e 12∧e' 13=e 13:=by
 obtain⟨N,q⟩:=LexF.AC.at (sig_run (src.drop L) (by rw[List.length_drop];omega))
 have e1:=LexF.subDrop (s:=src) (i:=L) hL
 have hle:=sg_le src L hL
 have w1:=wsum (a:=L) (b:=sg src L) (by omega)
 have w2:=ParF.wadd1 (a:=j) (by omega)
 have c:(j:Int)<2:=by omega
 refine⟨N,fun f hf n' r k0 e s h24 h10 h0=>?_⟩
 have q:∀s,aCall Tryz.prog (den C f) 131 [.str (src.drop L)] s=some (I (sg src L:Nat),s):=q f hf
 refine⟨upds e [(25,.bool true),(26,I L),(27,.str src),(28,I L),(29,.str (src.drop L)),(30,I (sg src L:Nat)),(31,I (L+sg src L:Nat)),(31,I (L+sg src L:Nat)),(10,I (L+sg src L:Nat)),(32,I (j+1:Nat)),(24,I (j+1:Nat))],?_,rfl,rfl,(upds_get _ _ _ rfl).trans h0,upds_get _ _ _ rfl,upds_get _ _ _ rfl,upds_get _ _ _ rfl,upds_get _ _ _ rfl,upds_get _ _ _ rfl,upds_get _ _ _ rfl,upds_get _ _ _ rfl⟩
 rw[aLoop,F70_L1]
 simp -implicitDefEqProofs only[sL,h24,h10,h0,c,e1,q,w1,w2]
 try rfl
theorem kids_loop (src:Bytes)(hl:src.length<100000){cs:List Tree}{ch:AV}(hch:IsC cs ch)(hc:cs.length<1000000)(ho:okL cs=true)(hz:szL cs<900000000)(hsl:(srcL cs).length≤src.length):∀(k i:Nat)(rows:List AV)(done:List Ch),cs.length-i=k→i≤cs.length→rows.length=i→IsChs done rows→done++chs src (srcL (cs.take i)).length (cs.drop i)=chs src 0 cs →
  ∃v,IsO v (chs src 0 cs)∧∃N,∀f,N≤f→∀r,k<r→∀n',2<n'→∀e s,e 14=I i→e 13=I cs.length→e 12=ch→e 6=I (srcL (cs.take i)).length→e 5=accR rows→e 0=.str src →
   ∃s',aLoop (F70_L0 (den C f) n') r e s=some (v,s'):=by
 have hF:=hch.facts
 intro k
 induction k with
 | zero =>
  intro i rows done hk hi hr hd he
  have hi':i=cs.length:=by omega
  rw[List.drop_of_length_le (by omega),chs,List.append_nil]at he
  subst he
  refine⟨(accR rows).strip,accR_is hd,0,fun f hf r hr n' hn e s h14 h13 h12 h6 h5 h0=>⟨s,?_⟩⟩
  obtain⟨r,rfl⟩:∃j,r=j+1:=⟨r-1,by omega⟩
  have c:¬i<cs.length:=by omega
  rw[aLoop,F70_L0]
  simp -implicitDefEqProofs only[sL,h14,h13,h5,c]
 | succ k ih =>
  intro i rows done hk hi hr hd he
  have c:i<cs.length:=by omega
  obtain⟨a,g1,ha⟩:=hF.2 (List.getElem?_eq_getElem c)
  obtain⟨a1,a2,a3,a4⟩:=ha.cells
  have hst:a.strip=a:=by rw[a4];rfl
  have hmem:=List.getElem_mem c
  obtain⟨N1,q1⟩:=LexF.AC.at (src_run (szT cs[i]) cs[i] a (Nat.le_refl _) ha (okL_mem ho _ hmem) (by have:=srcL_mem _ hmem;omega) (by have:=szL_mem _ hmem;omega))
  have hsum:(srcL (cs.take (i+1))).length=(srcL (cs.take i)).length+(srcT cs[i]).length:=by
   rw[List.take_succ,List.getElem?_eq_getElem c]
   show (srcL (cs.take i++[cs[i]])).length=_
   rw[srcL_append,List.length_append,srcL_one]
  have hle:(srcL (cs.take (i+1))).length≤src.length:=by
   have:=srcL_append (cs.take (i+1)) (cs.drop (i+1))
   rw[List.take_append_drop]at this
   have:=congrArg List.length this
   rw[List.length_append]at this;omega
  have w1:=wsum (a:=(srcL (cs.take i)).length) (b:=(srcT cs[i]).length) (by omega)
  rw[←hsum]at w1
  generalize hE:(srcL (cs.take (i+1))).length=E at *
  obtain⟨N2,q2⟩:=look_one src hl E 0 hle (by omega)
  have hle2:=sg_le src E hle
  obtain⟨N3,q3⟩:=look_one src hl (E+sg src E) 1 hle2 (by omega)
  have hlaE:(E+sg src E)+sg src (E+sg src E)=laF src E:=rfl
  rw[hlaE]at q3
  have w2:=ParF.wadd1 (a:=i) (by omega)
  obtain⟨kk,x,ch',hka⟩:=tree_cells ha
  have hcell:a.cells=[I kk,.str x,ch']:=by rw[hka];rfl
  let row:AV:=.agg [I kk,.str x,ch',I (srcL (cs.take i)).length,I E,I (laF src E)]
  have hrow:IsCh ⟨cs[i],(srcL (cs.take i)).length,E,laF src E⟩ row:=⟨a,ha,by rw[hcell];rfl⟩
  have he':(done++[⟨cs[i],(srcL (cs.take i)).length,E,laF src E⟩])++chs src E (cs.drop (i+1))=chs src 0 cs:=by
   rw[←he,List.drop_eq_getElem_cons c,chs,←hsum,List.append_assoc];rfl
  obtain⟨v,hv,N4,q4⟩:=ih (i+1) (rows++[row]) _ (by omega) (by omega) (by rw[List.length_append,hr];rfl) (hd.snoc hrow) (by rw[hE];exact he')
  refine⟨v,hv,N1+N2+N3+N4,fun f hf r hr' n' hn e s h14 h13 h12 h6 h5 h0=>?_⟩
  obtain⟨r,rfl⟩:∃j,r=j+1:=⟨r-1,by omega⟩
  obtain⟨n',rfl⟩:∃j,n'=j+3:=⟨n'-3,by omega⟩
  have q1:=q1 f (by omega)
  have q2:=q2 f (by omega) (n'+3) (n'+2) (aLoop (F70_L0 (den C f) (n'+3)) r)
  have q3:=q3 f (by omega) (n'+3) (n'+1) (aLoop (F70_L0 (den C f) (n'+3)) r)
  have q4:=q4 f (by omega) r (by omega) (n'+3) hn
  let s1:Heap:=s++[(52,a.cells)]
  have z1:=al52 s
  have t1:aStore 3 (s++[(52,[I 0,.str [],.nils])]) (.ref s.length 0) a=some s1:=store_new ha
  have lN:aLoad false true 3 (.ref s.length 0) s1=some (a,s1):=ldx gapp_new a1 a4
  have ap:=app140 rows row (by omega)
  have key:∀e':Env,e' 24=I (0:Nat)→e' 10=I E→e' 0=.str src→e' 5=accR rows→e' 6=I (srcL (cs.take i)).length→e' 8=.ref s.length 0→e' 9=I E→e' 14=I i→e' 12=ch→e' 13=I cs.length →
    ∃s',aLoop (F70_L1 (den C f) (n'+3) (aLoop (F70_L0 (den C f) (n'+3)) r)) (n'+3) e' s1=some (v,s'):=by
   intro e' k24 k10 k0 k5 k6 k8 k9 k14 k12 k13
   obtain⟨e2,p1,p24,p10,p0,p5,p6,p8,p9,p14,p12,p13⟩:=q2 e' s1 k24 k10 k0
   obtain⟨e3,r1,r24,r10,r0,r5,r6,r8,r9,r14,r12,r13⟩:=q3 e2 s1 p24 p10 p0
   have u5:=(r5.trans p5).trans k5
   have u6:=(r6.trans p6).trans k6
   have u8:=(r8.trans p8).trans k8
   have u9:=(r9.trans p9).trans k9
   have u14:=(r14.trans p14).trans k14
   have u12:=(r12.trans p12).trans k12
   have u13:=(r13.trans p13).trans k13
   rw[p1,r1,aLoop,F70_L1]
   have c2:¬(((1+1:Nat):Int)<2):=by decide
   have b1:=bd207 kk x ch' (srcL (cs.take i)).length E (laF src E)
   have b2:=bs140 kk x ch' (srcL (cs.take i)).length E (laF src E)
   have lN':aLoad false true 3 (.ref s.length 0) s1=some (.agg [I kk,.str x,ch'],s1):=by rw[lN,hka]
   have ap':aAppend Tryz.prog 140 140 (accR rows) (.sl 207 6 [.agg [I kk,.str x,ch',I (srcL (cs.take i)).length,I E,I (laF src E)]] .own)=some (accR (rows++[row])):=ap
   simp -implicitDefEqProofs only[sL,r24,c2,u5,u6,u8,u9,r10,u14,lN',b1,b2,ap',w2]
   exact q4 _ s1 rfl ((upds_get _ _ _ rfl).trans u13) ((upds_get _ _ _ rfl).trans u12) (by rw[hE];rfl) rfl ((upds_get _ _ _ rfl).trans r0)
  rw[aLoop,F70_L0]
  simp -implicitDefEqProofs only[sL,h14,h13,h12,h6,h5,h0,c,g1,ldb a1 a4,z1,t1,lN,hst,q1,LexF.len9,w1]
  refine key _ ?_ ?_ ?_ ?_ ?_ ?_ ?_ ?_ ?_ ?_<;>first|rfl|(exact(upds_get _ _ _ rfl).trans h0)|(exact(upds_get _ _ _ rfl).trans h5)|(exact(upds_get _ _ _ rfl).trans h6)|(exact(upds_get _ _ _ rfl).trans h14)|(exact(upds_get _ _ _ rfl).trans h12)|(exact(upds_get _ _ _ rfl).trans h13)
theorem fileKids_run (src:Bytes)(hl:src.length<100000){cs:List Tree}{a:AV}{k:Nat}(ha:IsT (.mk k [] cs) a)(hc:cs.length<1000000)(ho:okL cs=true)(hz:szL cs<900000000)(hsl:(srcL cs).length≤src.length):∃v,IsO v (chs src 0 cs)∧AC C 70 [.str src,a] v:=by
 have nr:noRefL [.str src,a]=true:=by rw[noRefL_cons,noRefL_cons,noRefL_nil,ha.noRef];rfl
 cases ha with
 | mk _ _ _ ch hch =>
  obtain⟨v,hv,N,q⟩:=kids_loop src hl hch hc ho hz hsl cs.length 0 [] [] (by omega) (by omega) rfl ⟨rfl,fun i c h=>by simp at h⟩ (by simp[srcL])
  obtain⟨hl',-⟩:=hch.facts
  obtain⟨c1,c2,c3⟩:=hch.strip
  refine⟨v,hv,.intro en70 nr hv.noRef ⟨N+cs.length+3,fun f hf=>?_⟩⟩
  have q:=q f (by omega) f (by omega) f (by omega)
  rw[F70_eq,F70]
  simp -implicitDefEqProofs only[sL,c1,hl']
  exact q _ _ rfl rfl rfl (by simp[upds_at,upd_at,srcL]) rfl rfl
end RepF
end

section
set_option maxRecDepth 100000
set_option maxHeartbeats 1000000
namespace RepF
open Go Go.Abs Go.Proofs ParF Pm
def rid:AV→Option Nat
 | .rs _ _ R _ _=>some R
 | _=>none
def ChAt (h:Heap)(ch:AV)(cs:List Tree):Prop:=(ch=.nils∧cs=[])∨∃R rows,ch=.rs 52 3 R 0 cs.length∧h[R]?=some (52,cellsOf rows)∧IsL cs rows∧cs≠[]
theorem ChAt.frame {s s':Heap}{v:AV}{A:List Tree}(h:ChAt s v A)(k:∀R,rid v=some R→s'[R]?=s[R]?):ChAt s' v A:=by
 rcases h with h|⟨R,rows,rfl,h2,h3⟩
 ·exact .inl h
 ·exact .inr ⟨R,rows,rfl,(k R rfl).trans h2,h3⟩
theorem ChAt.strip {s:Heap}{v:AV}{A:List Tree}(h:ChAt s v A):v.strip=v:=by
 rcases h with ⟨rfl,_⟩|⟨R,rows,rfl,_⟩<;>rfl
theorem ChAt.lt {s:Heap}{v:AV}{A:List Tree}(h:ChAt s v A):∀R,rid v=some R→R<s.length:=by
 rcases h with ⟨rfl,_⟩|⟨R,rows,rfl,h2,h3⟩
 ·nofun
 ·intro R' e;cases e;exact glt h2
theorem ChAt.app {s:Heap}{v:AV}{A:List Tree}(h:ChAt s v A):∃o,appK v=.app o:=by
 rcases h with ⟨rfl,_⟩|⟨R,rows,rfl,_⟩<;>exact⟨_,rfl⟩
theorem i52:∃i zv,Tryz.prog.info? 52=some i∧i.size=3∧i.zero=some zv∧zv.cells.size=3∧i.bytes≤48:=by
 have h:=info52
 cases hi:Tryz.prog.info? 52 with
 | none=>rw[hi]at h;cases h
 | some i =>
  rw[hi]at h
  simp only[Option.map_some,Option.some.injEq,Prod.mk.injEq,decide_eq_true_eq]at h
  obtain⟨h1,h2,h3⟩:=h
  cases hz:i.zero with
  | none=>rw[hz]at h2;cases h2
  | some zv =>
   rw[hz]at h2
   simp only[Option.map_some,Option.some.injEq]at h2
   exact⟨i,zv,rfl,h1,hz,h2,h3⟩
theorem appT_nil (s:Heap){a:AV}(h4:a.cells.length=3):aRsAppend Tryz.prog 50 50 .nils (.sl 52 3 [a] .own) s=some (.rs 52 3 s.length 0 1,s++[(52,a.cells.map AV.strip)]):=by
 obtain⟨i,zv,hi,h1,hz,h2,h3⟩:=i52
 have hb:bound i 1:=⟨by omega,by omega⟩
 have e:cellsOf [a]=a.cells:=by show a.cells++[]=_;rw[List.append_nil]
 simp[aRsAppend,under50,hi,srcOf,h1,hz,h2,hb,deadTy,e]
theorem appT_rs {s:Heap}{id len:Nat}{cs:List AV}{a:AV}(h4:a.cells.length=3)(h:s[id]?=some (52,cs))(hl:len*3≤cs.length)(hne:cs≠[])(hn:len<1000000000) :
  aRsAppend Tryz.prog 50 50 (.rs 52 3 id 0 len) (.sl 52 3 [a] .own) s=some (.rs 52 3 s.length 0 (len+1),kill s id++[(52,cs.take (len*3)++a.cells.map AV.strip)]):=by
 obtain⟨i,zv,hi,h1,hz,h2,h3⟩:=i52
 have hb:bound i (len+1):=⟨by
  have:(2*(len+1)+768)*i.bytes≤(2*(len+1)+768)*48:=Nat.mul_le_mul_left _ h3
  omega,by omega⟩
 have e:cellsOf [a]=a.cells:=by show a.cells++[]=_;rw[List.append_nil]
 simp[aRsAppend,under50,hi,srcOf,h1,hz,h2,hb,deadTy,e,h,hl,hne]
structure Stp (s s':Heap)(O:Nat)(v v':AV):Prop where
 len:s.length≤s'.length
 fr:∀x,x<s.length→x≠O→rid v≠some x→s'[x]?=s[x]?
 rid:rid v'=rid v∨∃R,RepF.rid v'=some R∧s.length≤R
theorem Stp.trans {s s' s'':Heap}{O:Nat}{v v' v'':AV}(h:Stp s s' O v v')(k:Stp s' s'' O v' v''):Stp s s'' O v v'':=by
 refine⟨Nat.le_trans h.len k.len,fun x hx h1 h2=>?_,?_⟩
 ·rw[k.fr x (Nat.lt_of_lt_of_le hx h.len) h1 ?_,h.fr x hx h1 h2]
  rcases h.rid with e|⟨R,e,hR⟩
  ·rw[e];exact h2
  ·rw[e];intro e';cases e';omega
 ·rcases k.rid with e|⟨R,e,hR⟩
  ·rw[e];exact h.rid
  ·exact .inr ⟨R,e,Nat.le_trans h.len hR⟩
theorem bsZ:aBuildSlice Tryz.prog 50 1 [(0,.agg [I 0,.str [],.nils])]=some (.sl 52 3 [.agg [I 0,.str [],.nils]] .own):=by kernel_rfl
theorem zeroT:IsT (.mk 0 [] []) (.agg [I 0,.str [],.nils]):=.mk 0 [] [] .nils .nil
theorem ChAt.len {s:Heap}{v:AV}{ns:List Tree}(h:ChAt s v ns):aLen Tryz.prog 50 v=some (I ns.length):=by
 rcases h with ⟨rfl,rfl⟩|⟨R,rows,rfl,_⟩<;>simp[aLen,under50]
theorem ixR (R n m:Nat)(h:m<n):aIndexAddr Tryz.prog 50 (.rs 52 3 R 0 n) (I m)=some (.ref R (m*3)):=by
 have hz:szOf Tryz.prog 52=some 3:=by kernel_rfl
 simp[aIndexAddr,under50,hz,h]
theorem push_place {s:Heap}{v:AV}{ns:List Tree}(h:ChAt s v ns)(hA:ns.length<900000000){a:AV}{t:Tree}(ha:IsT t a) :
  ∃s9 s11,aRsAppend Tryz.prog 50 50 v (.sl 52 3 [.agg [I 0,.str [],.nils]] .own) s=some (.rs 52 3 s.length 0 (ns.length+1),s9)∧aStore 3 s9 (.ref s.length (ns.length*3)) a=some s11∧s9.length=s.length+1∧s11.length=s.length+1∧ChAt s11 (.rs 52 3 s.length 0 (ns.length+1)) (ns++[t])∧(∀x,x<s.length→rid v≠some x→s9[x]?=s[x]?)∧∀x,x<s.length→rid v≠some x→s11[x]?=s[x]?:=by
 obtain⟨a1,a2,a3,a4⟩:=ha.cells
 have hsol:a.solid=true:=by rw[a4];rfl
 have hstc:stCells a=a.cells:=by rw[a4];exact a2
 have key:∀(s9:Heap)(C0:List AV),s9[s.length]?=some (52,C0++[I 0,.str [],.nils])→C0.length=ns.length*3→aStore 3 s9 (.ref s.length (ns.length*3)) a=some (s9.set s.length (52,C0++a.cells)):=by
  intro s9 C0 h9 hl
  rw[ParF.st (n:=3) (o:=ns.length*3) (v:=a) h9 (by decide) hsol a1 (by rw[List.length_append,hl];exact Nat.le_refl _),hstc]
  have:=setL_end C0 a.cells [I 0,.str [],.nils] (by rw[a1];rfl)
  rw[hl]at this
  rw[this]
 rcases h with ⟨rfl,rfl⟩|⟨R,rows,rfl,h2,h3,hne⟩
 ·have e1:aRsAppend Tryz.prog 50 50 .nils (.sl 52 3 [.agg [I 0,.str [],.nils]] .own) s=some (.rs 52 3 s.length 0 1,s++[(52,[I 0,.str [],.nils])]):=appT_nil s (a:=.agg [I 0,.str [],.nils]) rfl
  have g9:(s++[(52,([I 0,.str [],.nils]:List AV))])[s.length]?=some (52,[]++[I 0,.str [],.nils]):=gapp_new
  refine⟨_,_,e1,key _ [] g9 rfl,app_length _ _,by rw[List.length_set];exact app_length _ _,.inr ⟨s.length,[a],rfl,?_,.cons _ _ _ _ ha .nil,by simp⟩,fun x hx _=>gapp_old hx,fun x hx _=>?_⟩
  ·rw[gset_eq g9];show some (52,[]++a.cells)=some (52,a.cells++[]);rw[List.append_nil,List.nil_append]
  ·rw[gset_ne (by omega)];exact gapp_old hx
 ·obtain⟨r1,r2,r3,r4⟩:=h3.cells
  have hne':cellsOf rows≠[]:=by
   intro e
   rw[e]at r1
   have:ns.length=0:=by simp at r1;omega
   exact hne (List.length_eq_zero_iff.1 this)
  have e1:aRsAppend Tryz.prog 50 50 (.rs 52 3 R 0 ns.length) (.sl 52 3 [.agg [I 0,.str [],.nils]] .own) s=some (.rs 52 3 s.length 0 (ns.length+1),kill s R++[(52,(cellsOf rows).take (ns.length*3)++[I 0,.str [],.nils])]):=appT_rs (len:=ns.length) (a:=.agg [I 0,.str [],.nils]) rfl h2 (by omega) hne' (by omega)
  rw[List.take_of_length_le (by omega)]at e1
  have g9:(kill s R++[(52,cellsOf rows++[I 0,.str [],.nils])])[s.length]?=some (52,cellsOf rows++[I 0,.str [],.nils]):=by
   have:=gapp_new (s:=kill s R) (x:=(52,cellsOf rows++[I 0,.str [],.nils]))
   rw[kill_length]at this;exact this
  have l9:(kill s R++[(52,cellsOf rows++[I 0,.str [],.nils])]).length=s.length+1:=by rw[app_length,kill_length]
  refine⟨_,_,e1,key _ (cellsOf rows) g9 (by omega),l9,by rw[List.length_set];exact l9,.inr ⟨s.length,rows++[a],by rw[List.length_append];rfl,?_,h3.snoc ha,by simp⟩,fun x hx hn=>?_,fun x hx hn=>?_⟩
  ·rw[gset_eq g9,cellsOf_snoc]
  ·rw[gapp_old (by rw[kill_length];exact hx),gkill_ne (fun e=>hn (by rw[e];rfl))]
  ·rw[gset_ne (by omega),gapp_old (by rw[kill_length];exact hx),gkill_ne (fun e=>hn (by rw[e];rfl))]
structure IsU (h:Heap)(u:Nat)(old tk:AV)(o sh sb re:Int)(nd:AV)(ns:List Tree):Prop where
 cell:h[u]?=some (144,[old,tk,I o,I sh,I sb,I re,nd])
 ch:ChAt h nd ns
 ne:rid nd≠some u
theorem al207 (s:Heap):aAlloc Tryz.prog 207 s=some (.ref s.length 0,s++[(207,[I 0,.str [],.nils,I 0,I 0,I 0])]):=by
 have h:zeroOf Tryz.prog 207=some (.agg [I 0,.str [],.nils,I 0,I 0,I 0]):=by kernel_rfl
 simp[aAlloc,h]
def pfx (a:Nat):Nat→List Ch→Nat × List Tree
 | o,[]=>(o,[])
 | o,c::cs=>if a≤c.l∨isTk c.t=true then(o,[]) else((pfx a c.e cs).1,c.t::(pfx a c.e cs).2)
end RepF
end

section
set_option maxRecDepth 100000
set_option maxHeartbeats 2000000
namespace RepF
open Go Go.Abs Go.Proofs ParF Pm
theorem stU {h:Heap}{u k:Nat}{cs cs':List AV}{v:AV}(hu:h[u]?=some (144,cs))(hl:cs.length=7)(hk:k<7)(h1:v.cells=[v])(h2:v.solid=true)(h3:v.strip=v)(h4:stCells v=[v])(hs:setL cs k [v]=cs'):aStore 1 h (.ref u k) v=some (h.set u (144,cs')):=by
 rw[ParF.st (n:=1) (o:=k) (v:=v) hu (by decide) h2 (by rw[h1];rfl) (by omega),h4,hs]
theorem ldU {h:Heap}{u k:Nat}{cs:List AV}{v:AV}(hu:h[u]?=some (144,cs))(hv:cs[k]?=some v)(h3:v.strip=v):aLoad false false 1 (.ref u k) h=some (v,h):=by
 rw[ld (o:=k) (v:=v) hu (by decide) hv (by decide),h3]
theorem put207 (s:Heap){c:Ch}{a:AV}(ha:IsCh c a):aStore 6 (s++[(207,[I 0,.str [],.nils,I 0,I 0,I 0])]) (.ref s.length 0) a=some (s++[(207,a.cells)]):=by
 obtain⟨f1,f2,f3,f4⟩:=ha.facts
 obtain⟨ta,h1,rfl⟩:=ha
 obtain⟨a1,a2,a3,a4⟩:=h1.cells
 have hstc:stCells (.agg (ta.cells++[I c.s,I c.e,I c.l]))=ta.cells++[I c.s,I c.e,I c.l]:=by
  show (ta.cells++[I c.s,I c.e,I c.l]).map AV.strip=_
  rw[List.map_append,a2];rfl
 rw[ParF.st (n:=6) (o:=0) (ty:=207) (cs:=[I 0,.str [],.nils,I 0,I 0,I 0]) gapp_new (by decide) rfl f3 (Nat.le_refl 6),hstc]
 have:=setL_end [] (ta.cells++[I c.s,I c.e,I c.l]) [I 0,.str [],.nils,I 0,I 0,I 0] (by rw[List.length_append,a1];rfl)
 rw[List.nil_append,List.nil_append]at this
 rw[show setL [I 0,.str [],.nils,I 0,I 0,I 0] 0 (ta.cells++[I c.s,I c.e,I c.l])=_ from this]
 exact congrArg some (set_end s _ _)
theorem ld207 {s:Heap}{i:Nat}{c:Ch}{ta:AV}(h1:IsT c.t ta)(h:s[i]?=some (207,ta.cells++[I c.s,I c.e,I c.l])):aLoad false true 3 (.ref i 0) s=some (ta,s)∧aLoad false false 1 (.ref i 3) s=some (I c.s,s)∧aLoad false false 1 (.ref i 4) s=some (I c.e,s)∧aLoad false false 1 (.ref i 5) s=some (I c.l,s):=by
 obtain⟨a1,a2,a3,a4⟩:=h1.cells
 refine⟨?_,?_,?_,?_⟩
 ·rw[ldA (o:=0) h (by decide) (by rw[List.length_append,a1,List.length_cons];omega) (by decide),List.drop_zero,List.take_append_of_le_length (by omega),List.take_of_length_le (by omega),←a4]
 ·rw[ld (o:=3) (v:=I c.s) h (by decide) (by rw[List.getElem?_append_right (by omega),a1];rfl) (by decide)];rfl
 ·rw[ld (o:=4) (v:=I c.e) h (by decide) (by rw[List.getElem?_append_right (by omega),a1];rfl) (by decide)];rfl
 ·rw[ld (o:=5) (v:=I c.l) h (by decide) (by rw[List.getElem?_append_right (by omega),a1];rfl) (by decide)];rfl
theorem pfx_nil (a o:Nat):pfx a o []=(o,[]):=rfl
theorem pfx_cons (a o:Nat)(c:Ch)(cs:List Ch):pfx a o (c::cs)=if a≤c.l∨isTk c.t=true then(o,[]) else((pfx a c.e cs).1,c.t::(pfx a c.e cs).2):=rfl
theorem pre_loop {old:AV}{cs:List Ch}(hO:IsO old cs)(hcl:cs.length<900000){tk:AV}(a u:Nat)(sh sb:Int):∀(k i:Nat),cs.length-i=k→i≤cs.length→∃N,∀f,N≤f→∀r,k<r→∀n' e s (o re:Nat) nd ns,IsU s u old tk o sh sb re nd ns→e 0=.ref u 0→e 1=I a→e 9=old→e 10=I cs.length→e 11=I i→ns.length+k<900000→re+k<900000 →
  ∃s' nd',aLoop (F72_L0 (den C f) n') r e s=some (.tup [],s')∧IsU s' u old tk (pfx a o (cs.drop i)).1 sh sb (re+(pfx a o (cs.drop i)).2.length:Nat) nd' (ns++(pfx a o (cs.drop i)).2)∧Stp s s' u nd nd':=by
 intro k
 induction k with
 | zero =>
  intro i hk hi
  refine⟨0,fun f hf r hr n' e s o re nd ns hU h0 h1 h9 h10 h11 hn hre=>⟨s,nd,?_,?_,Nat.le_refl _,fun _ _ _ _=>rfl,.inl rfl⟩⟩
  ·obtain⟨r,rfl⟩:∃j,r=j+1:=⟨r-1,by omega⟩
   have cc:¬((i:Int)<(cs.length:Int)):=by omega
   rw[aLoop,F72_L0]
   simp -implicitDefEqProofs only[sL,h11,h10,cc]
  ·rw[List.drop_of_length_le (by omega),pfx_nil,List.append_nil];exact hU
 | succ k ih =>
  intro i hk hi
  have ci:i<cs.length:=by omega
  obtain⟨N,q⟩:=ih (i+1) (by omega) (by omega)
  obtain⟨row,hrow,ix⟩:=hO.at (List.getElem?_eq_getElem ci)
  obtain⟨f1,f2,f3,f4⟩:=hrow.facts
  have hrow':=hrow
  obtain⟨ta,hta,er⟩:=hrow
  obtain⟨N1,q1⟩:=LexF.AC.at (isTk_run hta)
  obtain⟨a1,a2,a3,a4⟩:=hta.cells
  have hst:ta.strip=ta:=by rw[a4];rfl
  rw[List.drop_eq_getElem_cons ci]
  generalize cs[i]=c at *
  refine⟨N+N1,fun f hf r hr n' e s o re nd ns hU h0 h1 h9 h10 h11 hn hre=>?_⟩
  obtain⟨r,rfl⟩:∃j,r=j+1:=⟨r-1,by omega⟩
  rw[pfx_cons]
  have q1:=q1 f (by omega)
  have q:=q f (by omega) r (by omega) n'
  have cc:(i:Int)<(cs.length:Int):=by omega
  have lrow:∀s,aLoad false true 6 (.box row.cells 0) s=some (row,s):=fun s=>by
   rw[aLoad_agg _ _ _ _ _ (by omega),List.drop_zero,List.take_of_length_le (by omega),←f4]
  let s1:Heap:=s++[(207,row.cells)]
  have z1:=al207 s
  have t1:aStore 6 (s++[(207,[I 0,.str [],.nils,I 0,I 0,I 0])]) (.ref s.length 0) row=some s1:=put207 s hrow'
  have e1:s1[s.length]?=some (207,ta.cells++[I c.s,I c.e,I c.l]):=by rw[show s1[s.length]?=some (207,row.cells) from gapp_new,er];rfl
  obtain⟨l0,l3,l4,l5⟩:=ld207 hta e1
  by_cases c1:a≤c.l
  ·rw[if_pos (.inl c1)]
   have z2:(a:Int)≤(c.l:Int):=by omega
   refine⟨s1,nd,?_,⟨by rw[show s1[u]?=s[u]? from gapp_old (glt hU.cell)];exact hU.cell,by rw[List.append_nil];exact hU.ch.frame fun R e=>gapp_old (hU.ch.lt R e),hU.ne⟩,by rw[app_length];omega,fun x hx _ _=>gapp_old hx,.inl rfl⟩
   rw[aLoop,F72_L0]
   simp -implicitDefEqProofs only[sL,h11,h10,cc,h9,ix,lrow,z1,t1,l5,h1,z2]
  ·have z2:¬(a:Int)≤(c.l:Int):=by omega
   cases c2:isTk c.t with
   | true =>
    rw[if_pos (.inr rfl)]
    rw[c2]at q1
    refine⟨s1,nd,?_,⟨by rw[show s1[u]?=s[u]? from gapp_old (glt hU.cell)];exact hU.cell,by rw[List.append_nil];exact hU.ch.frame fun R e=>gapp_old (hU.ch.lt R e),hU.ne⟩,by rw[app_length];omega,fun x hx _ _=>gapp_old hx,.inl rfl⟩
    rw[aLoop,F72_L0]
    simp -implicitDefEqProofs only[sL,h11,h10,cc,h9,ix,lrow,z1,t1,l5,h1,z2,l0,hst,q1]
   | false =>
    rw[if_neg (by rintro(h|h);exact c1 h;cases h)]
    rw[c2]at q1
    have hul:=glt hU.cell
    have hch1:ChAt s1 nd ns:=hU.ch.frame fun R e=>gapp_old (hU.ch.lt R e)
    have eu1:s1[u]?=some (144,[old,tk,I o,I sh,I sb,I re,nd]):=(gapp_old hul).trans hU.cell
    have l1:s1.length=s.length+1:=app_length _ _
    obtain⟨s9,s11,p1,p2,p3,p4,p5,p6,p7⟩:=push_place hch1 (by omega) hta
    have ln:=hch1.len
    have hsn:=hch1.strip
    obtain⟨oo,ka⟩:=hch1.app
    have ixp:=ixR s1.length (ns.length+1) ns.length (by omega)
    have eu11:s11[u]?=some (144,[old,tk,I o,I sh,I sb,I re,nd]):=by rw[p7 u (by omega) hU.ne];exact eu1
    have hrs:rid nd≠some s.length:=fun e=>by have:=hU.ch.lt _ e;omega
    have e11:s11[s.length]?=some (207,ta.cells++[I c.s,I c.e,I c.l]):=by rw[p7 s.length (by omega) hrs];exact e1
    let v:AV:=.rs 52 3 s1.length 0 (ns.length+1)
    let s12:Heap:=s11.set u (144,[old,tk,I o,I sh,I sb,I re,v])
    let s13:Heap:=s11.set u (144,[old,tk,I c.e,I sh,I sb,I re,v])
    let s14:Heap:=s11.set u (144,[old,tk,I c.e,I sh,I sb,I (re+1:Nat),v])
    have eu12:s12[u]?=some (144,[old,tk,I o,I sh,I sb,I re,v]):=gset_eq eu11
    have eu13:s13[u]?=some (144,[old,tk,I c.e,I sh,I sb,I re,v]):=gset_eq eu11
    have lu:aLoad false false 1 (.ref u 6) s1=some (nd,s1):=ldU eu1 rfl hsn
    have su1:aStore 1 s11 (.ref u 6) (.rs 52 3 s1.length 0 (ns.length+1))=some s12:=stU eu11 rfl (by decide) rfl rfl rfl rfl rfl
    have nus:u≠s.length:=by omega
    obtain⟨_,_,l4',_⟩:=ld207 (s:=s12) hta (by rw[show s12[s.length]?=s11[s.length]? from gset_ne nus];exact e11)
    have su2:aStore 1 s12 (.ref u 2) (I c.e)=some s13:=by
     rw[stU eu12 rfl (by decide) rfl rfl rfl rfl (cs':=[old,tk,I c.e,I sh,I sb,I re,v]) rfl]
     show some ((s11.set u _).set u _)=_
     rw[List.set_set]
    have lr:aLoad false false 1 (.ref u 5) s13=some (I re,s13):=ldU eu13 rfl rfl
    have w1:=ParF.wadd1 (a:=re) (by omega)
    have su3:aStore 1 s13 (.ref u 5) (I (re+1:Nat))=some s14:=by
     rw[stU eu13 rfl (by decide) rfl rfl rfl rfl (cs':=[old,tk,I c.e,I sh,I sb,I (re+1:Nat),v]) rfl]
     show some ((s11.set u _).set u _)=_
     rw[List.set_set]
    have w2:=ParF.wadd1 (a:=i) (by omega)
    have nR:s1.length≠u:=by omega
    have hU':IsU s14 u old tk c.e sh sb (re+1:Nat) v (ns++[c.t]):=⟨gset_eq eu11,p5.frame fun R e=>by cases e;exact gset_ne (Ne.symm nR),fun e=>by injection e with e;exact nR e⟩
    have nc:∀i o,aNilCheck (.ref i o)=some (.ref i o):=fun _ _=>rfl
    have kl1:kLoad false (.ref u 6)=.get u:=rfl
    have kl2:kLoad false (.ref s.length 0)=.get s.length:=rfl
    have ks1:kStore (.ref s1.length (ns.length*3))=.put s1.length:=rfl
    have ks2:kStore (.ref u 6)=.put u:=rfl
    have dk:∀s s':Heap,dyn (.app oo) s s'=.app oo:=fun _ _=>rfl
    have hrest:=q (upds e [(12,.bool true),(13,.box row.cells 0),(14,row),(5,.ref s.length 0),(14,row),(15,.ref s.length 5),(16,I c.l),(17,I a),(18,.bool false),(19,.bool false),(20,.ref s.length 0),(21,ta),(22,.bool false),(23,.bool false),(24,.ref u 0),(25,.ref u 0),(26,.ref u 6),(27,nd),(28,.ref s.length 0),(29,ta),(30,I ns.length),(31,.sl 52 3 [.agg [I 0,.str [],.nils]] .own),(27,nd),(32,v),(33,.ref s1.length (ns.length*3)),(29,ta),(34,.ref u 0),(35,.ref u 6),(36,.ref u 0),(37,.ref s.length 4),(38,I c.e),(39,.ref u 0),(40,.ref u 2),(38,I c.e),(41,.ref u 0),(42,.ref u 0),(43,.ref u 5),(44,I re),(45,I (re+1:Nat)),(46,.ref u 0),(47,.ref u 5),(45,I (re+1:Nat)),(48,I (i+1:Nat)),(11,I (i+1:Nat))]) s14 c.e (re+1) v (ns++[c.t]) hU' ((upds_get _ _ _ rfl).trans h0) ((upds_get _ _ _ rfl).trans h1) ((upds_get _ _ _ rfl).trans h9) ((upds_get _ _ _ rfl).trans h10) rfl (by rw[List.length_append,List.length_cons,List.length_nil];omega) (by omega)
    obtain⟨s',nd',r1,r2,r3⟩:=hrest
    refine⟨s',nd',?_,?_,?_⟩
    ·rw[←r1,aLoop,F72_L0]
     have f1':row.strip=row:=f1
     have bz:=bsZ
     have sv:(AV.rs 52 3 s1.length 0 (ns.length+1)).strip=.rs 52 3 s1.length 0 (ns.length+1):=rfl
     simp -implicitDefEqProofs only[sL,h11,h10,cc,h9,ix,lrow,z1,t1,l5,h1,z2,l0,hst,q1,h0,nc,lu,ln,bz,p1,ixp,p2,su1,ka,dk,kl1,kl2,ks1,ks2,d72_4 s1.length u nR,l4',su2,lr,w1,su3,w2,hsn,f1',sv]
     try rfl
    ·rw[show ns++c.t::(pfx a c.e (cs.drop (i+1))).2=(ns++[c.t])++(pfx a c.e (cs.drop (i+1))).2 by rw[List.append_assoc];rfl,List.length_cons,show re+((pfx a c.e (cs.drop (i+1))).2.length+1)=re+1+(pfx a c.e (cs.drop (i+1))).2.length by omega]
     exact r2
    ·have r0:Stp s s14 u nd v:=by
      refine⟨by show s.length≤(s11.set u _).length;rw[List.length_set];omega,fun x hx hxu hxr=>?_,.inr ⟨s1.length,rfl,by omega⟩⟩
      rw[show s14[x]?=s11[x]? from gset_ne (Ne.symm hxu),p7 x (by omega) hxr]
      exact gapp_old hx
     exact r0.trans r3
end RepF
end

section
set_option maxRecDepth 100000
set_option maxHeartbeats 2000000
namespace RepF
open Go Go.Abs Go.Proofs ParF Pm
theorem ldB {L:Heap}{cs:List AV}{k:Nat}{v:AV}(h:cs[k]?=some v)(h3:v.strip=v):aLoad false false 1 (.box cs k) L=some (v,L):=by
 simp[aLoad,aLoadC_one,h,h3]
theorem pre_run {old:AV}{cs:List Ch}(hO:IsO old cs)(hcl:cs.length<900000){tk:AV}(a u:Nat)(sh sb:Int):∃N,∀f,N≤f→∀s (o:Nat) nd,IsU s u old tk o sh sb (0:Nat) nd [] →
  ∃s' nd',aCall Tryz.prog (den C f) 72 [.ref u 0,I a] s=some (.tup [],s')∧IsU s' u old tk (pfx a o cs).1 sh sb ((pfx a o cs).2.length:Nat) nd' (pfx a o cs).2∧Stp s s' u nd nd':=by
 obtain⟨N,q⟩:=pre_loop hO hcl (tk:=tk) a u sh sb cs.length 0 (by omega) (by omega)
 refine⟨N+cs.length+2,fun f hf s o nd hU=>?_⟩
 obtain⟨f,rfl⟩:∃j,f=j+1:=⟨f-1,by omega⟩
 have l0:aLoad false false 1 (.ref u 0) s=some (old,s):=ldU hU.cell rfl hO.strip
 have nc:∀i o,aNilCheck (.ref i o)=some (.ref i o):=fun _ _=>rfl
 have ln:=hO.len
 have key:∀E:Env,E 0=.ref u 0→E 1=I a→E 9=old→E 10=I cs.length→E 11=I (0:Nat)→∃s' nd',aLoop (F72_L0 (den C f) f) f E s=some (.tup [],s')∧IsU s' u old tk (pfx a o cs).1 sh sb ((pfx a o cs).2.length:Nat) nd' (pfx a o cs).2∧Stp s s' u nd nd':=by
  intro E h0 h1 h9 h10 h11
  have:=q f (by omega) f (by omega) f E s o 0 nd [] hU h0 h1 h9 h10 h11 (by simp;omega) (by omega)
  rw[List.drop_zero,Nat.zero_add,List.nil_append]at this
  exact this
 unfold aCall
 rw[if_pos en72,if_neg (by rw[noRefL_cons,noRef_ref];simp),F72_eq,F72]
 simp -implicitDefEqProofs only[sL,nc,l0,ln]
 exact key _ rfl rfl rfl rfl rfl
theorem start_run {old tk nd row:AV}{c:Ch}{o:Nat}{sh sb re:Int}{u:Nat}{ns:List Tree}(hc:IsCh c row)(h0:o<1000000)(h1:-1000000<sh)(h2:sh<1000000)(f:Nat)(s:Heap)(hU:IsU s u old tk o sh sb re nd ns) :
  aCall Tryz.prog (den C (f+1)) 134 [row,.box [.ref u 0] 0] s=some (.bool (decide ((c.s:Int)=o-sh)),s):=by
 obtain⟨f1,f2,f3,f4⟩:=hc.facts
 obtain⟨ta,hta,er⟩:=hc
 obtain⟨a1,a2,a3,a4⟩:=hta.cells
 have hsol:row.solid=true:=by rw[f4];rfl
 have bx:∀s,aBox false 207 row s=some (.box row.cells 0,s):=fun s=>aBox_f _ _ _ hsol
 have hcell:row.cells[3]?=some (I c.s):=by rw[er];show (ta.cells++[I c.s,I c.e,I c.l])[3]?=_;rw[List.getElem?_append_right (by omega),a1];rfl
 have l3:∀s,aLoad false false 1 (.box row.cells 3) s=some (I c.s,s):=fun s=>ldB hcell rfl
 have lp:∀s,aLoad false false 1 (.box [.ref u 0] 0) s=some (.ref u 0,s):=fun s=>ldB rfl rfl
 have lo:aLoad false false 1 (.ref u 2) s=some (I o,s):=ldU hU.cell rfl rfl
 have ls:aLoad false false 1 (.ref u 3) s=some (I sh,s):=ldU hU.cell rfl rfl
 have nc:∀i o,aNilCheck (.ref i o)=some (.ref i o):=fun _ _=>rfl
 have w:IntKind.i64.wrap ((o:Int)-sh)=(o:Int)-sh:=by rw[wrap64]<;>omega
 have z:((c.s:Int)==(o:Int)-sh)=decide ((c.s:Int)=o-sh):=rfl
 have k1:kLoad false (.box row.cells 3)=.silent:=rfl
 have k2:kLoad false (.box [.ref u 0] 0)=.silent:=rfl
 have k3:kLoad false (.ref u 2)=.get u:=rfl
 have k4:kLoad false (.ref u 3)=.get u:=rfl
 unfold aCall
 rw[if_pos en134,if_neg (by rw[noRefL_cons,noRefL_cons,f2];simp[AV.noRef,noRefL]),F134_eq,F134]
 simp -implicitDefEqProofs only[sL,bx,l3,lp,lo,ls,nc,w,z,k1,k2,k3,k4,d134_1]
def idx (q:Int)(cs:List Ch):Option Nat:=cs.findIdx? fun c=>decide ((c.s:Int)=q)
def idxI (q:Int)(cs:List Ch):Int:=match idx q cs with
 | some i=>i
 | none=>-1
theorem idx_some {q:Int}{cs:List Ch}{i:Nat}(h:idx q cs=some i):∃c,cs[i]?=some c∧(c.s:Int)=q:=by
 obtain⟨hlt,h1,_⟩:=List.findIdx?_eq_some_iff_getElem.1 h
 exact⟨cs[i],List.getElem?_eq_getElem hlt,by simpa using h1⟩
theorem idx_loop {old:AV}{cs:List Ch}(hO:IsO old cs)(hcl:cs.length<900000){tk nd:AV}{o:Nat}{sh sb re:Int}{u:Nat}{ns:List Tree}(h0:o<1000000)(h1:-1000000<sh)(h2:sh<1000000):∀(k i:Nat),cs.length-i=k→i≤cs.length →
  (∀j,j<i→∀c,cs[j]?=some c→(c.s:Int)≠o-sh)→∀f r,k<r→∀n' e s,IsU s u old tk o sh sb re nd ns→e 0=old→e 1=.fn 134 [] [.box [.ref u 0] 0]→e 7=I cs.length→e 8=I i →
  aLoop (F133_L0 (den C (f+1)) n') r e s=some (I (idxI (o-sh) cs),s):=by
 have sto:=hO.strip
 intro k
 induction k with
 | zero =>
  intro i hk hi hb f r hr n' e s hU e0 e1 e7 e8
  obtain⟨r,rfl⟩:∃j,r=j+1:=⟨r-1,by omega⟩
  have cc:¬((i:Int)<(cs.length:Int)):=by omega
  have hid:idx ((o:Int)-sh) cs=none:=by
   unfold idx
   rw[List.findIdx?_eq_none_iff]
   intro c hc
   obtain⟨j,hj⟩:=List.mem_iff_getElem?.1 hc
   have:=hb j (by have:=(List.getElem?_eq_some_iff.1 hj).1;omega) c hj
   simpa using this
  have z:idxI ((o:Int)-sh) cs=-1:=by unfold idxI;rw[hid]
  rw[aLoop,F133_L0,z]
  simp -implicitDefEqProofs only[sL,e7,e8,cc]
  try rfl
 | succ k ih =>
  intro i hk hi hb f r hr n' e s hU e0 e1 e7 e8
  obtain⟨r,rfl⟩:∃j,r=j+1:=⟨r-1,by omega⟩
  have ci:i<cs.length:=by omega
  have cc:((i:Int)<(cs.length:Int)):=by omega
  obtain⟨row,hrow,ix⟩:=hO.at (List.getElem?_eq_getElem ci)
  obtain⟨f1,f2,f3,f4⟩:=hrow.facts
  have lrow:∀s,aLoad false true 6 (.box row.cells 0) s=some (row,s):=fun s=>by
   rw[aLoad_agg _ _ _ _ _ (by omega),List.drop_zero,List.take_of_length_le (by omega),←f4]
  have q:=start_run hrow h0 h1 h2 f s hU
  have cv:∀s,aCallV Tryz.prog (den C (f+1)) (.fn 134 [] [.box [.ref u 0] 0]) [row] s=aCall Tryz.prog (den C (f+1)) 134 [row,.box [.ref u 0] 0] s:=fun s=>by
   show aCall Tryz.prog (den C (f+1)) 134 ([row,.box [.ref u 0] 0].map AV.strip) s=_
   rw[List.map_cons,f1];rfl
  have w:=ParF.wadd1 (a:=i) (by omega)
  have sf:(AV.fn 134 [] [.box [.ref u 0] 0]).strip=.fn 134 [] [.box [.ref u 0] 0]:=rfl
  by_cases hq:((cs[i].s:Int)=o-sh)
  ·rw[decide_eq_true hq]at q
   have hid:idx ((o:Int)-sh) cs=some i:=by
    unfold idx
    rw[List.findIdx?_eq_some_iff_getElem]
    refine⟨ci,by simpa using hq,fun j hj=>?_⟩
    have:=hb j hj cs[j] (List.getElem?_eq_getElem (by omega))
    simpa using this
   have z:idxI ((o:Int)-sh) cs=i:=by unfold idxI;rw[hid]
   rw[aLoop,F133_L0,z]
   simp -implicitDefEqProofs only[sL,e0,e1,e7,e8,cc,sto,ix,lrow,cv,q,sf]
  ·rw[decide_eq_false hq]at q
   have hrest:=ih (i+1) (by omega) (by omega) (fun j hj c hc=>by
    rcases Nat.lt_or_eq_of_le (Nat.le_of_lt_succ hj) with h|h
    ·exact hb j h c hc
    ·subst h;rw[List.getElem?_eq_getElem ci]at hc;cases hc;exact hq) f r (by omega) n'
   rw[aLoop,F133_L0]
   simp -implicitDefEqProofs only[sL,e0,e1,e7,e8,cc,sto,ix,lrow,cv,q,sf,w]
   exact hrest _ s hU ((upds_get _ _ _ rfl).trans e0) ((upds_get _ _ _ rfl).trans e1) ((upds_get _ _ _ rfl).trans e7) rfl
theorem idx_run {old:AV}{cs:List Ch}(hO:IsO old cs)(hcl:cs.length<900000){tk nd:AV}{o:Nat}{sh sb re:Int}{u:Nat}{ns:List Tree}(h0:o<1000000)(h1:-1000000<sh)(h2:sh<1000000)(f:Nat)(hf:cs.length+2≤f)(s:Heap)(hU:IsU s u old tk o sh sb re nd ns) :
  aCall Tryz.prog (den C f) 133 [old,.fn 134 [] [.box [.ref u 0] 0]] s=some (I (idxI (o-sh) cs),s):=by
 obtain⟨f,rfl⟩:∃j,f=j+2:=⟨f-2,by omega⟩
 have q:=idx_loop (tk:=tk) (nd:=nd) (sb:=sb) (re:=re) (u:=u) (ns:=ns) hO hcl h0 h1 h2 cs.length 0 (by omega) (by omega) (fun j hj=>by omega) f (f+1) (by omega) (f+1)
 have ln:=hO.len
 have sto:=hO.strip
 unfold aCall
 rw[if_pos en133,if_neg (by rw[noRefL_cons,hO.noRef];simp[AV.noRef,noRefL]),F133_eq,F133]
 simp -implicitDefEqProofs only[sL,sto,ln]
 exact q _ s hU rfl rfl rfl rfl
end RepF
end

section
set_option maxRecDepth 100000
set_option maxHeartbeats 4000000
namespace RepF
open Go Go.Abs Go.Proofs ParF Pm
def items (cs:List Ch):Nat:=cs.countP fun c=>!isTk c.t
theorem items_cons (c:Ch)(cs:List Ch):items (c::cs)=items cs+if isTk c.t then 0 else 1:=by
 unfold items
 rw[List.countP_cons]
 cases isTk c.t<;>simp
theorem bs1 {t:Tree}{a:AV}(h:IsT t a):aBuildSlice Tryz.prog 50 1 [(0,a)]=some (.sl 52 3 [a] .own):=by
 have key:∀(k:Int)(x:Bytes)(c:AV),aBuildSlice Tryz.prog 50 1 [(0,.agg [I k,.str x,c])]=some (.sl 52 3 [.agg [I k,.str x,c]] .own):=fun k x c=>by kernel_rfl
 obtain⟨kk,x,c,rfl⟩:=tree_cells h
 exact key kk x c
theorem tidy_dead (s:Heap)(b:Bool):tidy (s++[(4,[.bool b])]) s.length=s++[(deadTy,[.undef])]:=by
 unfold tidy
 have:has (s++[(4,[.bool b])]) s.length=true:=by simp[has]
 rw[if_pos this]
 exact set_end s _ _
theorem rest_J {u:Nat}{old tk:AV}{o:Nat}{sh sb:Int}{c:Ch}{ta:AV}(hta:IsT c.t ta):∃N,∀f,N≤f→∀n' k0 (s:Heap)(O i re:Nat) nd ns,IsU s u old tk o sh sb re nd ns→s[O]?=some (207,ta.cells++[I c.s,I c.e,I c.l])→i<900000→re<900000 →
  ∃s',IsU s' u old tk o sh sb ((re+if isTk c.t then 0 else 1:Nat):Int) nd ns∧s'.length=s.length∧(∀x,x≠u→s'[x]?=s[x]?) ∧
   ∀e:Env,e 5=.ref O 0→e 1=.box [.ref u 0] 0→e 33=I i→∃e',F74_J1 (den C f) n' k0 e s=k0 e' s'∧e' 33=I (i+1:Nat)∧e' 1=e 1∧e' 31=e 31∧e' 32=e 32:=by
 obtain⟨N,q⟩:=LexF.AC.at (isTk_run hta)
 obtain⟨a1,a2,a3,a4⟩:=hta.cells
 have hst:ta.strip=ta:=by rw[a4];rfl
 refine⟨N,fun f hf n' k0 s O i re nd ns hU hO hi hre=>?_⟩
 have q:=q f hf
 obtain⟨l0,-,-,-⟩:=ld207 hta hO
 have nc:∀i o,aNilCheck (.ref i o)=some (.ref i o):=fun _ _=>rfl
 have lp:∀s,aLoad false false 1 (.box [.ref u 0] 0) s=some (.ref u 0,s):=fun s=>ldB rfl rfl
 have lr:aLoad false false 1 (.ref u 5) s=some (I re,s):=ldU hU.cell rfl rfl
 have w1:=ParF.wadd1 (a:=re) (by omega)
 have w2:=ParF.wadd1 (a:=i) (by omega)
 cases c2:isTk c.t with
 | true =>
  rw[c2]at q
  refine⟨s,hU,rfl,fun _ _=>rfl,fun e h5 h1 h33=>?_⟩
  rw[F74_J1]
  simp -implicitDefEqProofs only[sL,h5,l0,hst,q]
  rw[F74_J2]
  simp -implicitDefEqProofs only[sL,upds_at,upds_nil,upd_at,h33,w2]
  exact⟨_,rfl,(by show AV.int .i64 (IntKind.i64.wrap _)=_;rw[w2]),rfl,rfl,rfl⟩
 | false =>
  rw[c2]at q
  let s1:Heap:=s.set u (144,[old,tk,I o,I sh,I sb,I (re+1:Nat),nd])
  have su:aStore 1 s (.ref u 5) (I (re+1:Nat))=some s1:=stU hU.cell rfl (by decide) rfl rfl rfl rfl rfl
  refine⟨s1,⟨gset_eq hU.cell,hU.ch.frame fun R e=>gset_ne (fun h=>hU.ne (by rw[e,h])),hU.ne⟩,List.length_set,fun x hx=>gset_ne (Ne.symm hx),fun e h5 h1 h33=>?_⟩
  rw[F74_J1]
  simp -implicitDefEqProofs only[sL,h5,l0,hst,q,h1,lp,nc,lr,w1,su]
  rw[F74_J2]
  simp -implicitDefEqProofs only[sL,upds_at,upds_nil,upd_at,h33,w2]
  exact⟨_,rfl,(by show AV.int .i64 (IntKind.i64.wrap _)=_;rw[w2]),(by first|rfl|exact h1),rfl,rfl⟩
theorem push_both {s:Heap}{v:AV}{ns:List Tree}(h:ChAt s v ns)(hA:ns.length<900000000){a:AV}{t:Tree}(ha:IsT t a) :
  ∃s9 sB,aRsAppend Tryz.prog 50 50 v (.sl 52 3 [.agg [I 0,.str [],.nils]] .own) s=some (.rs 52 3 s.length 0 (ns.length+1),s9)∧aRsAppend Tryz.prog 50 50 v (.sl 52 3 [a] .own) s=some (.rs 52 3 s.length 0 (ns.length+1),sB)∧s9.length=s.length+1∧sB.length=s.length+1∧ChAt sB (.rs 52 3 s.length 0 (ns.length+1)) (ns++[t])∧(∀x,x<s.length→rid v≠some x→s9[x]?=s[x]?)∧(∀x,x<s.length→rid v≠some x→sB[x]?=s[x]?) ∧
   ∀(u:Nat)(X:TypeId × List AV),u<s.length→aStore 3 (s9.set u X) (.ref s.length (ns.length*3)) a=some (sB.set u X):=by
 obtain⟨a1,a2,a3,a4⟩:=ha.cells
 have hsol:a.solid=true:=by rw[a4];rfl
 have hstc:stCells a=a.cells:=by rw[a4];exact a2
 have key:∀(Y:Heap)(C0:List AV),Y.length=s.length→C0.length=ns.length*3→∀(u:Nat)(X:TypeId × List AV),u<s.length→aStore 3 ((Y++[(52,C0++[I 0,.str [],.nils])]).set u X) (.ref s.length (ns.length*3)) a=some ((Y++[(52,C0++a.cells)]).set u X):=by
  intro Y C0 hY hl u X hu
  have e1:∀z:TypeId × List AV,(Y++[z]).set u X=Y.set u X++[z]:=fun z=>List.set_append_left _ _ (by omega)
  rw[e1,e1]
  have hYl:(Y.set u X).length=s.length:=by rw[List.length_set];exact hY
  generalize Y.set u X=Z at hYl
  have g9:(Z++[(52,C0++[I 0,.str [],.nils])])[s.length]?=some (52,C0++[I 0,.str [],.nils]):=by rw[←hYl];exact gapp_new
  rw[ParF.st (n:=3) (o:=ns.length*3) (v:=a) g9 (by decide) hsol a1 (by rw[List.length_append,hl];exact Nat.le_refl _),hstc]
  have:=setL_end C0 a.cells [I 0,.str [],.nils] (by rw[a1];rfl)
  rw[hl]at this
  rw[this,←hYl]
  exact congrArg some (set_end Z _ _)
 rcases h with ⟨rfl,rfl⟩|⟨R,rows,rfl,h2,h3,hne⟩
 ·have e1:aRsAppend Tryz.prog 50 50 .nils (.sl 52 3 [.agg [I 0,.str [],.nils]] .own) s=some (.rs 52 3 s.length 0 1,s++[(52,[I 0,.str [],.nils])]):=appT_nil s (a:=.agg [I 0,.str [],.nils]) rfl
  have e2:=appT_nil s a1
  rw[a2]at e2
  refine⟨_,_,e1,e2,app_length _ _,app_length _ _,.inr ⟨s.length,[a],rfl,?_,.cons _ _ _ _ ha .nil,by simp⟩,fun x hx _=>gapp_old hx,fun x hx _=>gapp_old hx,fun u X hu=>key s [] rfl rfl u X hu⟩
  rw[gapp_new];show some (52,a.cells)=some (52,a.cells++[]);rw[List.append_nil]
 ·obtain⟨r1,r2,r3,r4⟩:=h3.cells
  have hne':cellsOf rows≠[]:=by
   intro e
   rw[e]at r1
   have:ns.length=0:=by simp at r1;omega
   exact hne (List.length_eq_zero_iff.1 this)
  have e1:aRsAppend Tryz.prog 50 50 (.rs 52 3 R 0 ns.length) (.sl 52 3 [.agg [I 0,.str [],.nils]] .own) s=some (.rs 52 3 s.length 0 (ns.length+1),kill s R++[(52,(cellsOf rows).take (ns.length*3)++[I 0,.str [],.nils])]):=appT_rs (len:=ns.length) (a:=.agg [I 0,.str [],.nils]) rfl h2 (by omega) hne' (by omega)
  have e2:=appT_rs (len:=ns.length) a1 h2 (by omega) hne' (by omega)
  rw[List.take_of_length_le (by omega)]at e1 e2
  rw[a2]at e2
  have fr:∀z:TypeId × List AV,∀x,x<s.length→rid (.rs 52 3 R 0 ns.length)≠some x→(kill s R++[z])[x]?=s[x]?:=fun z x hx hn=>by
   rw[gapp_old (by rw[kill_length];exact hx),gkill_ne (fun e=>hn (by rw[e];rfl))]
  refine⟨_,_,e1,e2,by rw[app_length,kill_length],by rw[app_length,kill_length],.inr ⟨s.length,rows++[a],by rw[List.length_append];rfl,?_,h3.snoc ha,by simp⟩,fr _,fr _,fun u X hu=>key (kill s R) (cellsOf rows) (kill_length _ _) (by omega) u X hu⟩
  have:=gapp_new (s:=kill s R) (x:=(52,cellsOf rows++a.cells))
  rw[kill_length]at this
  rw[cellsOf_snoc];exact this
theorem al4 (s:Heap):aAlloc Tryz.prog 4 s=some (.ref s.length 0,s++[(4,[.bool false])]):=by
 have h:zeroOf Tryz.prog 4=some (.bool false):=by kernel_rfl
 simp[aAlloc,h,AV.cells,AV.strip]
theorem st4 (s:Heap)(b d:Bool):aStore 1 (s++[(4,[.bool b])]) (.ref s.length 0) (.bool d)=some (s++[(4,[.bool d])]):=by
 rw[ParF.st (n:=1) (o:=0) (v:=.bool d) (ty:=4) (cs:=[.bool b]) gapp_new (by decide) rfl rfl (Nat.le_refl 1)]
 exact congrArg some (set_end s _ _)
theorem ld4 (s:Heap)(b:Bool):aLoad false false 1 (.ref s.length 0) (s++[(4,[.bool b])])=some (.bool b,s++[(4,[.bool b])]):=by
 rw[ld (o:=0) (v:=.bool b) (ty:=4) (cs:=[.bool b]) gapp_new (by decide) rfl (by decide)];rfl
theorem rest_loop {old v31:AV}{cs:List Ch}(hO:IsO v31 cs)(hcl:cs.length<400000){tk:AV}(htk:tk.strip=tk){o:Nat}{sh sb:Int}{u:Nat}:∀(k i:Nat),cs.length-i=k→i≤cs.length→∃N,∀f,N≤f→∀r,k<r→∀n' s (re:Nat) nd ns,IsU s u old tk o sh sb re nd ns→ns.length+k<900000→re+k<900000 →
  ∃s' nd',IsU s' u old tk o sh sb (re+items (cs.drop i):Nat) nd' (ns++(cs.drop i).map (·.t))∧Stp s s' u nd nd'∧∀e:Env,e 1=.box [.ref u 0] 0→e 31=v31→e 32=I cs.length→e 33=I i→aLoop (F74_L0 (den C f) n') r e s=some (.bool true,s'):=by
 intro k
 induction k with
 | zero =>
  intro i hk hi
  refine⟨0,fun f hf r hr n' s re nd ns hU hn hre=>⟨s,nd,?_,⟨Nat.le_refl _,fun _ _ _ _=>rfl,.inl rfl⟩,fun e h1 h31 h32 h33=>?_⟩⟩
  rotate_left
  ·obtain⟨r,rfl⟩:∃j,r=j+1:=⟨r-1,by omega⟩
   have cc:¬((i:Int)<(cs.length:Int)):=by omega
   rw[aLoop,F74_L0]
   simp -implicitDefEqProofs only[sL,h33,h32,cc]
  ·rw[List.drop_of_length_le (by omega),List.map_nil,List.append_nil];exact hU
 | succ k ih =>
  intro i hk hi
  have ci:i<cs.length:=by omega
  obtain⟨N,q⟩:=ih (i+1) (by omega) (by omega)
  obtain⟨row,hrow,ix⟩:=hO.at (List.getElem?_eq_getElem ci)
  obtain⟨f1,f2,f3,f4⟩:=hrow.facts
  have hrow':=hrow
  obtain⟨ta,hta,er⟩:=hrow
  obtain⟨N1,q1⟩:=rest_J (u:=u) (old:=old) (tk:=tk) (o:=o) (sh:=sh) (sb:=sb) hta
  obtain⟨a1,a2,a3,a4⟩:=hta.cells
  have hst:ta.strip=ta:=by rw[a4];rfl
  rw[List.drop_eq_getElem_cons ci]
  generalize cs[i]=c at *
  refine⟨N+N1,fun f hf r hr n' s re nd ns hU hn hre=>?_⟩
  obtain⟨r,rfl⟩:∃j,r=j+1:=⟨r-1,by omega⟩
  have q1:=q1 f (by omega) n' (aLoop (F74_L0 (den C f) n') r)
  have q:=q f (by omega) r (by omega) n'
  have cc:(i:Int)<(cs.length:Int):=by omega
  have lrow:∀s,aLoad false true 6 (.box row.cells 0) s=some (row,s):=fun s=>by
   rw[aLoad_agg _ _ _ _ _ (by omega),List.drop_zero,List.take_of_length_le (by omega),←f4]
  let s1:Heap:=s++[(207,row.cells)]
  have z1:=al207 s
  have t1:aStore 6 (s++[(207,[I 0,.str [],.nils,I 0,I 0,I 0])]) (.ref s.length 0) row=some s1:=put207 s hrow'
  have l1:s1.length=s.length+1:=app_length _ _
  let sd:Heap:=s1++[(deadTy,[.undef])]
  have ld:sd.length=s.length+2:=by rw[show sd.length=s1.length+1 from app_length _ _,l1]
  have frd:∀x,x<s.length→sd[x]?=s[x]?:=fun x hx=>(gapp_old (by omega)).trans (gapp_old hx)
  have ed:sd[s.length]?=some (207,ta.cells++[I c.s,I c.e,I c.l]):=by
   rw[show sd[s.length]?=s1[s.length]? from gapp_old (by omega),show s1[s.length]?=some (207,row.cells) from gapp_new,er];rfl
  obtain⟨l0,-,-,-⟩:=ld207 hta ed
  have hul:=glt hU.cell
  have eud:sd[u]?=some (144,[old,tk,I o,I sh,I sb,I re,nd]):=(frd u hul).trans hU.cell
  have hchd:ChAt sd nd ns:=hU.ch.frame fun R e=>frd R (hU.ch.lt R e)
  have ln:=hchd.len
  have hsn:=hchd.strip
  obtain⟨oo,ka⟩:=hchd.app
  have lu:aLoad false false 1 (.ref u 6) sd=some (nd,sd):=ldU eud rfl hsn
  have lp:∀s,aLoad false false 1 (.box [.ref u 0] 0) s=some (.ref u 0,s):=fun s=>ldB rfl rfl
  have nc:∀i o,aNilCheck (.ref i o)=some (.ref i o):=fun _ _=>rfl
  have nR:sd.length≠u:=by omega
  have hrs:rid nd≠some s.length:=fun e=>by have:=hU.ch.lt _ e;omega
  let v:AV:=.rs 52 3 sd.length 0 (ns.length+1)
  obtain⟨s9,sB,p1,p2,p3,p4,p5,p6,p7,p8⟩:=push_both hchd (by omega) hta
  let X:TypeId × List AV:=(144,[old,tk,I o,I sh,I sb,I re,v])
  have eu9:s9[u]?=some (144,[old,tk,I o,I sh,I sb,I re,nd]):=by rw[p6 u (by omega) hU.ne];exact eud
  have euB:sB[u]?=some (144,[old,tk,I o,I sh,I sb,I re,nd]):=by rw[p7 u (by omega) hU.ne];exact eud
  let s12:Heap:=sB.set u X
  have hU12:IsU s12 u old tk o sh sb re v (ns++[c.t]):=⟨gset_eq euB,p5.frame fun R e=>by cases e;exact gset_ne (Ne.symm nR),fun e=>by injection e with e;exact nR e⟩
  have nus:u≠s.length:=by omega
  have e12:s12[s.length]?=some (207,ta.cells++[I c.s,I c.e,I c.l]):=by rw[show s12[s.length]?=sB[s.length]? from gset_ne nus,p7 s.length (by omega) hrs];exact ed
  obtain⟨s',r2,r7,r8,r1⟩:=q1 s12 s.length i re v (ns++[c.t]) hU12 e12 (by omega) (by omega)
  have hle:(if isTk c.t then 0 else 1)≤1:=by split<;>omega
  obtain⟨s2,nd',w2,w3,w1⟩:=q s' _ v (ns++[c.t]) r2 (by rw[List.length_append,List.length_cons,List.length_nil];omega) (by omega)
  have fin:∀E:Env,E 5=.ref s.length 0→E 1=.box [.ref u 0] 0→E 33=I i→E 31=v31→E 32=I cs.length→F74_J1 (den C f) n' (aLoop (F74_L0 (den C f) n') r) E s12=some (.bool true,s2):=by
   intro E e5 e1 e33 e31 e32
   obtain⟨e',k1,k2,k3,k4,k5⟩:=r1 E e5 e1 e33
   rw[k1]
   exact w1 e' (k3.trans e1) (k4.trans e31) (k5.trans e32) k2
  refine⟨s2,nd',?_,?_,?_⟩
  ·rw[items_cons,List.map_cons,show ns++c.t::(cs.drop (i+1)).map (·.t)=(ns++[c.t])++(cs.drop (i+1)).map (·.t) by rw[List.append_assoc];rfl,show re+(items (cs.drop (i+1))+if isTk c.t then 0 else 1)=(re+if isTk c.t then 0 else 1)+items (cs.drop (i+1)) by omega]
   exact w2
  ·have l12:s12.length=sd.length+1:=by show (sB.set u _).length=_;rw[List.length_set,p4]
   have r0:Stp s s' u nd v:=by
    refine⟨by omega,fun x hx hxu hxr=>?_,.inr ⟨sd.length,rfl,by omega⟩⟩
    rw[r8 x hxu,show s12[x]?=sB[x]? from gset_ne (Ne.symm hxu),p7 x (by omega) hxr]
    exact frd x hx
   exact r0.trans w3
  ·intro e h1 h31 h32 h33
   have su9:aStore 1 s9 (.ref u 6) (.rs 52 3 sd.length 0 (ns.length+1))=some (s9.set u X):=stU eu9 rfl (by decide) rfl rfl rfl rfl rfl
   have suB:aStore 1 sB (.ref u 6) (.rs 52 3 sd.length 0 (ns.length+1))=some s12:=stU euB rfl (by decide) rfl rfl rfl rfl rfl
   have sp:aStore 3 (s9.set u X) (.ref sd.length (ns.length*3)) ta=some s12:=p8 u X (by omega)
   have ixp:=ixR sd.length (ns.length+1) ns.length (by omega)
   have kl1:kLoad false (.ref u 6)=.get u:=rfl
   have kl2:kLoad false (.ref s.length 0)=.get s.length:=rfl
   have kl3:kLoad false (.box [.ref u 0] 0)=.silent:=rfl
   have ks2:kStore (.ref u 6)=.put u:=rfl
   have dk:∀s s':Heap,dyn (.app oo) s s'=.app oo:=fun _ _=>rfl
   have sv:(AV.rs 52 3 sd.length 0 (ns.length+1)).strip=.rs 52 3 sd.length 0 (ns.length+1):=rfl
   have td:∀b,tidy (s1++[(4,[.bool b])]) s1.length=sd:=fun b=>tidy_dead s1 b
   have bz:=bsZ
   have b1:=bs1 hta
   have f1':row.strip=row:=f1
   rw[aLoop,F74_L0]
   simp -implicitDefEqProofs only[sL,h33,h32,cc,h31,ix,lrow,z1,t1,f1',twoA,al4,st4,ld4]
   refine both_of ?_ ?_
   ·simp -implicitDefEqProofs only[sL,upds_at,upds_nil,upd_at,reduceIte,Nat.reduceEqDiff,h1,lp,td,nc,lu,l0,hsn,b1,p2,suB,ka,dk,kl1,kl2,kl3,ks2,d74_10,hst,sv]
    refine fin _ ?_ ?_ ?_ ?_ ?_
    ·exact rfl
    ·exact h1
    ·exact h33
    ·exact h31
    ·exact h32
   ·simp -implicitDefEqProofs only[sL,upds_at,upds_nil,upd_at,reduceIte,Nat.reduceEqDiff,h1,lp,td,nc,lu,l0,hsn,ln,bz,p1,su9,ka,dk,kl1,kl2,kl3,ks2,d74_8,hst,sv,ixp,sp]
    refine fin _ ?_ ?_ ?_ ?_ ?_
    ·exact rfl
    ·exact h1
    ·exact h33
    ·exact h31
    ·exact h32
end RepF
end

section
set_option maxRecDepth 100000
set_option maxHeartbeats 2000000
namespace RepF
open Go Go.Abs Go.Proofs ParF Pm
theorem IsO.drop {v:AV}{cs:List Ch}(h:IsO v cs){i:Nat}(hi:i≤cs.length):∃w,aSl Tryz.prog 140 v (some (I i)) none none=some w∧IsO w (cs.drop i):=by
 obtain⟨rows,h1,rfl|⟨rfl,rfl⟩⟩:=h
 ·have hr:i≤rows.length:=by rw[h1.1];exact hi
  refine⟨.sl 207 6 (rows.drop i) .sh,by simp[aSl,under140,sz207,aSlice,aBound,hr],rows.drop i,⟨by rw[List.length_drop,List.length_drop,h1.1],fun j c hc=>?_⟩,.inl rfl⟩
  rw[List.getElem?_drop]at hc ⊢
  exact h1.2 _ c hc
 ·have:cs=[]:=List.length_eq_zero_iff.1 h1.1.symm
  subst this
  have hz:i=0:=by simpa using hi
  subst hz
  exact⟨.nils,by simp[aSl,under140],[],⟨rfl,fun j c hc=>by simp at hc⟩,.inr ⟨rfl,rfl⟩⟩
theorem d74_2z (x:Ans):drawOK C 74 (regOps Tryz.f74 2) [.silent,.silent,.silent,.silent,.silent,.silent,.silent,.silent,.silent,.silent,.silent,.silent,.silent,.silent] x=x:=drawOK_ok (by kernel_rfl)
theorem rest_run {old:AV}{cs:List Ch}(hO:IsO old cs)(hcl:cs.length<400000){tk:AV}{w:List Tok}(hw:LexF.IsT tk w){o sb u:Nat}{sh:Int}(h0:o<1000000)(h1:-1000000<sh)(h2:sh<1000000):∃N,∀f,N≤f→∀s (re:Nat) nd ns,IsU s u old tk o sh sb re nd ns→ns.length+cs.length<900000→re+cs.length<900000 →
  aCall Tryz.prog (den C f) 74 [.ref u 0] s=some (.bool false,s) ∨
  ∃i s' nd',idx (o-sh) cs=some i∧w.length≤sb∧aCall Tryz.prog (den C f) 74 [.ref u 0] s=some (.bool true,s')∧IsU s' u old tk o sh sb (re+items (cs.drop i):Nat) nd' (ns++(cs.drop i).map (·.t))∧Stp s s' u nd nd':=by
 have stO:=hO.strip
 have stK:=hw.strip
 have lk:=hw.len
 have lp:∀s,aLoad false false 1 (.box [.ref u 0] 0) s=some (.ref u 0,s):=fun s=>ldB rfl rfl
 have nc:∀i o,aNilCheck (.ref i o)=some (.ref i o):=fun _ _=>rfl
 have bx:∀s,aBox false 139 (.ref u 0) s=some (.box [.ref u 0] 0,s):=fun s=>aBox_f _ _ _ rfl
 have sf:(AV.fn 134 [] [.box [.ref u 0] 0]).strip=.fn 134 [] [.box [.ref u 0] 0]:=rfl
 have kl1:kLoad false (.box [.ref u 0] 0)=.silent:=rfl
 have kl2:kLoad false (.ref u 1)=.get u:=rfl
 have kl3:kLoad false (.ref u 4)=.get u:=rfl
 cases hid:idx ((o:Int)-sh) cs with
 | none =>
  refine⟨cs.length+5,fun f hf s re nd ns hU hn hre=>.inl ?_⟩
  obtain⟨f,rfl⟩:∃j,f=j+1:=⟨f-1,by omega⟩
  have q:=idx_run hO (by omega) h0 h1 h2 f (by omega) s hU
  have z:idxI ((o:Int)-sh) cs=-1:=by unfold idxI;rw[hid]
  rw[z]at q
  have l0:aLoad false false 1 (.ref u 0) s=some (old,s):=ldU hU.cell rfl stO
  have zz:((-1:Int)<0):=by decide
  unfold aCall
  rw[if_pos en74,if_neg (by rw[noRefL_cons,noRef_ref];simp),F74_eq,F74]
  simp -implicitDefEqProofs only[sL,bx,lp,nc,l0,stO,sf,q,zz,d74_2z]
 | some i =>
  obtain⟨c,hc,_⟩:=idx_some hid
  have hi:i<cs.length:=(List.getElem?_eq_some_iff.1 hc).1
  obtain⟨v31,e31,hO31⟩:=hO.drop (i:=i) (by omega)
  obtain⟨N,q2⟩:=rest_loop (old:=old) hO31 (by rw[List.length_drop];omega) stK (o:=o) (sh:=sh) (sb:=(sb:Int)) (u:=u) (cs.drop i).length 0 (by omega) (by omega)
  have z:idxI ((o:Int)-sh) cs=i:=by unfold idxI;rw[hid]
  have zz:¬((i:Int)<0):=by omega
  have ln:=hO31.len
  refine⟨N+cs.length+5,fun f hf s re nd ns hU hn hre=>?_⟩
  obtain⟨f,rfl⟩:∃j,f=j+1:=⟨f-1,by omega⟩
  have q:=idx_run hO (by omega) h0 h1 h2 f (by omega) s hU
  rw[z]at q
  have l0:aLoad false false 1 (.ref u 0) s=some (old,s):=ldU hU.cell rfl stO
  have l1:aLoad false false 1 (.ref u 1) s=some (tk,s):=ldU hU.cell rfl stK
  have l4:aLoad false false 1 (.ref u 4) s=some (I sb,s):=ldU hU.cell rfl rfl
  by_cases cw:w.length≤sb
  ·have cz:¬((sb:Int)<(w.length:Int)):=by omega
   right
   obtain⟨s',nd',w2,w3,w1⟩:=q2 f (by omega) f (by rw[List.length_drop];omega) f s re nd ns hU (by rw[List.length_drop];omega) (by rw[List.length_drop];omega)
   rw[List.drop_zero]at w2
   refine⟨i,s',nd',rfl,cw,?_,w2,w3⟩
   unfold aCall
   rw[if_pos en74,if_neg (by rw[noRefL_cons,noRef_ref];simp),F74_eq,F74]
   simp -implicitDefEqProofs only[sL,bx,lp,nc,l0,stO,sf,q,zz,l1,lk,l4,cz,kl1,kl2,kl3,d74_2,e31,ln]
   refine w1 _ ?_ ?_ ?_ ?_
   ·exact rfl
   ·exact rfl
   ·exact rfl
   ·exact rfl
  ·have cz:((sb:Int)<(w.length:Int)):=by omega
   left
   unfold aCall
   rw[if_pos en74,if_neg (by rw[noRefL_cons,noRef_ref];simp),F74_eq,F74]
   simp -implicitDefEqProofs only[sL,bx,lp,nc,l0,stO,sf,q,zz,l1,lk,l4,cz,kl1,kl2,kl3,d74_2]
end RepF
end

section
set_option maxRecDepth 100000
set_option maxHeartbeats 2000000
namespace RepF
open Go Go.Abs Go.Proofs ParF Pm
theorem toks_of {v:AV}{ts:List Tok}(h:LexF.IsT v ts):IsToks v ts:=by
 rcases h with h|⟨h1,h2⟩
 ·exact .inr ⟨80,h⟩
 ·exact .inl ⟨h2,h1⟩
abbrev s0 (tk:AV):Heap:=[(52,[I 0,.str [],.nils]),(52,[I 1,.str [],.nils]),(128,[tk,I 0,.rs 52 3 1 0 1])]
theorem ps0 {tk:AV}{w:List Tok}(ht:IsToks tk w)(hl:w.length≤2000):PS w 2 (s0 tk) 0 ([]++[⟨1,[],none⟩]) (JJ 2 1 [] ⟨1,[],none⟩) :=
 Fs.ps (tk:=tk) (junk:=[]) ⟨ht,rfl,rfl,by decide,nofun,nofun,List.nodup_nil,rfl,nofun,Nat.zero_le _,by omega⟩
theorem b128 {tk:AV}{w:List Tok}(tokI:IsToks tk w):aBuild Tryz.prog 128 [(0,tk),(2,.rs 52 3 1 0 1)]=some (.agg [tk,I 0,.rs 52 3 1 0 1]):=by
 have hst:=toks_strip tokI
 have hz:zeroOf Tryz.prog 128=some (.agg [.nils,I 0,.nils]):=by kernel_rfl
 have hu:(match Tryz.prog.underlying 128 with|some (.struct fs)=>placesOf Tryz.prog fs.toList|_=>none)=some [(0,1),(1,1),(2,1)]:=by kernel_rfl
 have c1:tk.cells=[tk]:=by rcases tokI with ⟨e,_⟩|⟨T,e⟩<;>rw[e]<;>rfl
 have c2:tk.solid=true:=by rcases tokI with ⟨e,_⟩|⟨T,e⟩<;>rw[e]<;>rfl
 have c4:(AV.rs 52 3 1 0 1).cells=[.rs 52 3 1 0 1]:=rfl
 have c5:(AV.rs 52 3 1 0 1).solid=true:=rfl
 unfold aBuild
 split at hu
 ·rename_i fs hh
  rw[hz,hh]
  simp[hu,aFill,setL,c1,c2,hst,c4,c5,strip_rs,cells_int]
 ·cases hu
theorem bd52z:aBuild Tryz.prog 52 []=some (.agg [I 0,.str [],.nils]):=by kernel_rfl
theorem item_end {tk:AV}{w:List Tok}(hw:LexF.IsT tk w)(hl:w.length≤2000)(he:(pk w).1=100):AC C 135 [tk] (.tup [.agg [I 0,.str [],.nils],I 0]):=by
 have ht:=toks_of hw
 have hst:=hw.strip
 have ps:=ps0 ht hl
 obtain⟨sa,qa,pa,xa⟩:=(eof_rd w).use (n:=w.length+200) (by omega) (P:=2) (s:=s0 tk) (rest:=w) (base:=[]) (k:=1) (cs:=[]) ⟨0,none,rfl,ps⟩
 have he2:ev rEof w=true:=by show ((pk w).1==100)=true;simp[he]
 have qa2:aCall Tryz.prog (den C (w.length+200)) 59 [.ref 2 0] (s0 tk)=some (.bool (ev rEof w),sa):=qa
 rw[he2]at qa2
 have h0:sa[0]?=some (52,[I 0,.str [],.nils]):=(xa.fr 0 (by show 0<3;decide) (by unfold JJ;simp)).trans rfl
 have st0:aStore 3 sa (.ref 0 0) (.agg [I 0,.str [],.nils])=some (sa.set 0 (52,[I 0,.str [],.nils])):=by
  rw[ParF.st (n:=3) (o:=0) (v:=.agg [I 0,.str [],.nils]) h0 (by decide) rfl rfl (Nat.le_refl 3)];rfl
 have l0:aLoad false true 3 (.ref 0 0) (sa.set 0 (52,[I 0,.str [],.nils]))=some (.agg [I 0,.str [],.nils],sa.set 0 (52,[I 0,.str [],.nils])):=by
  rw[ldA (o:=0) (gset_eq h0) (by decide) (Nat.le_refl 3) (by decide)];rfl
 refine AC.one (n:=w.length+200+1) (s1:=sa.set 0 (52,[I 0,.str [],.nils])) en135 (by rw[noRefL_cons,noRefL_nil,hw.noRef];rfl) rfl ?_
 generalize w.length+200=n at *
 have hb:=build52_1 (I 1) rfl rfl rfl
 have z52:aAlloc Tryz.prog 52 []=some (.ref 0 0,[(52,[I 0,.str [],.nils])]):=by rw[zero52];rfl
 have rb:aRsBuild Tryz.prog 50 1 [(0,.agg [I 1,.str [],.nils])] [(52,[I 0,.str [],.nils])]=some (.rs 52 3 1 0 1,[(52,[I 0,.str [],.nils]),(52,[I 1,.str [],.nils])]):=rsbuild (s:=[(52,[I 0,.str [],.nils])]) (a:=.agg [I 1,.str [],.nils]) (t:=.mk 1 [] []) (.mk _ _ _ _ .nil)
 have bx:aBox true 128 (.agg [tk,I 0,.rs 52 3 1 0 1]) [(52,[I 0,.str [],.nils]),(52,[I 1,.str [],.nils])]=some (.ref 2 0,s0 tk):=by
  simp[aBox,hst,strip_rs]
 rw[F135_eq,F135]
 simp -implicitDefEqProofs only[sL,z52,hst,hb,rb,b128 ht,bx,qa2,bd52z,st0,l0,fin1,resL,Option.map_some]
 try rfl
theorem item_at {tk:AV}{w t1:List Tok}{x:Tree}{b:Bool}(hw:LexF.IsT tk w)(hl:w.length≤2000)(hx:Runs gItem w [] b t1 [x])(he:(pk w).1≠100)(hz:szT x<800000000):∃a,IsT x a∧AC C 135 [tk] (.tup [a,I (w.length-t1.length:Nat)]):=by
 have ht:=toks_of hw
 have hst:=hw.strip
 have ps:=ps0 ht hl
 obtain⟨m,hm⟩:=run_of hx
 let n:=m*20+w.length+200
 obtain⟨sa,qa,pa,xa⟩:=(eof_rd w).use (n:=n) (by omega) (P:=2) (s:=s0 tk) (rest:=w) (base:=[]) (k:=1) (cs:=[]) ⟨0,none,rfl,ps⟩
 have he2:ev rEof w=false:=by show ((pk w).1==100)=false;simp[he]
 have qa2:aCall Tryz.prog (den C n) 59 [.ref 2 0] (s0 tk)=some (.bool (ev rEof w),sa):=qa
 rw[he2]at qa2
 have hzl:szL [x]=szT x:=szL_one x
 obtain⟨s',J',q1,p1,x1⟩:=s60 w m n (by omega) 2 sa w [] 1 [] _ b t1 [x] pa hm (by show 0+_<_;omega)
 have e1:aCall Tryz.prog (den C n) 60 [.ref 2 0] sa=some (.tup [],s'):=q1
 have xx:=xa.trans x1
 obtain⟨pos,i,rfl,hp⟩:=p1
 obtain⟨tk',Q,junk,f,rfl⟩:=hp.facts
 have hpos:=f.pos
 have hpl:w.length-(w.drop pos).length=pos:=by rw[List.length_drop];omega
 rw[hpl]
 have hok:=f.ok
 have hQ0:Q≠0:=by
  intro e
  rcases xx.sub Q (by unfold JJ;simp) with h|h
  ·rw[e]at h;unfold JJ at h;simp at h
  ·rw[e]at h;have:(s0 tk).length=3:=rfl;omega
 have h0:s'[0]?=some (52,[I 0,.str [],.nils]):=(xx.fr 0 (by show 0<3;decide) (by unfold JJ;simp)).trans rfl
 cases hi:i with
 | none =>
  subst hi
  exact absurd (show [x]=([]:List Tree) from hok) (by simp)
 | some R =>
  subst hi
  obtain⟨rows,jk,r1,r2,r3⟩:=hok
  cases r2 with
  | cons _ a _ rs hTa hnil =>
  cases hnil
  obtain⟨a1,a2,a3,a4⟩:=hTa.cells
  have hsta:a.strip=a:=by rw[a4];rfl
  have hsol:a.solid=true:=by rw[a4];rfl
  have hstc:stCells a=a.cells:=by rw[a4];exact a2
  have hc:cellsOf [a]=a.cells:=by show a.cells++[]=_;rw[List.append_nil]
  rw[hc]at r1
  have hfr:=f.row
  have hfp:=f.par
  have l2:aLoad false false 1 (.ref 2 2) s'=some (.rs 52 3 Q 0 1,s'):=ld (o:=2) (v:=.rs 52 3 Q 0 1) hfp (by decide) rfl (by decide)
  have l1:aLoad false false 1 (.ref 2 1) s'=some (I pos,s'):=ld (o:=1) (v:=I pos) hfp (by decide) rfl (by decide)
  have lQ:aLoad false false 1 (.ref Q 2) s'=some (.rs 52 3 R 0 1,s'):=ld (o:=2) (v:=.rs 52 3 R 0 1) hfr (by decide) rfl (by decide)
  have lR:aLoad false true 3 (.ref R 0) s'=some (a,s'):=by
   rw[ldA (o:=0) r1 (by decide) (by rw[List.length_append];omega) (by decide),List.drop_zero,List.take_append_of_le_length (by omega),List.take_of_length_le (by omega),←a4]
  have pb:pubR (some (a,s'))=some (a,s'):=by
   cases hTa with
   | mk k t cs ch hch=>cases hch<;>rfl
  have st0:aStore 3 s' (.ref 0 0) a=some (s'.set 0 (52,a.cells)):=by
   rw[ParF.st (n:=3) (o:=0) (v:=a) h0 (by decide) hsol a1 (Nat.le_refl 3),hstc]
   have:=setL_end [] a.cells [I 0,.str [],.nils] (by rw[a1];rfl)
   rw[List.nil_append,List.nil_append]at this
   rw[show setL [I 0,.str [],.nils] 0 a.cells=a.cells from this]
  have l0:aLoad false true 3 (.ref 0 0) (s'.set 0 (52,a.cells))=some (a,s'.set 0 (52,a.cells)):=ldx (gset_eq h0) a1 a4
  have nc:∀i o,aNilCheck (.ref i o)=some (.ref i o):=fun _ _=>rfl
  have kl1:kLoad false (.ref 2 2)=.get 2:=rfl
  have kl2:kLoad false (.ref Q 2)=.get Q:=rfl
  have kl3:kLoad false (.ref 2 1)=.get 2:=rfl
  have ks:kStore (.ref 0 0)=.put 0:=rfl
  have dk:∀s s':Heap,dyn .writer s s'=.call (kept s s'):=fun _ _=>rfl
  have dr:=d135_5 (g0:=2) (g1:=Q) (g2:=2) (l0:=kept s' s') 0 (by
   intro g hg l hl
   simp only[List.mem_cons,List.not_mem_nil,or_false]at hg hl
   subst hl
   have hg':g=2∨g=Q:=by
    rcases hg with h|h|h
    ·exact .inl h
    ·exact .inr h
    ·exact .inl h
   rcases hg' with rfl|rfl
   ·exact kept_of (glt hfp) rfl
   ·exact kept_of (glt hfr) rfl) (by
   intro g hg p hp
   simp only[List.mem_cons,List.not_mem_nil,or_false]at hg hp
   subst hp
   rcases hg with h|h|h
   ·rw[h];decide
   ·rw[h];exact hQ0
   ·rw[h];decide)
  refine⟨a,hTa,AC.one (n:=n+1) (s1:=s'.set 0 (52,a.cells)) en135 (by rw[noRefL_cons,noRefL_nil,hw.noRef];rfl) (by rw[noRef_tup,noRefL_cons,noRefL_cons,noRefL_nil,noRef_int,hTa.noRef];rfl) ?_⟩
  generalize n=n at *
  have hb:=build52_1 (I 1) rfl rfl rfl
  have z52:aAlloc Tryz.prog 52 []=some (.ref 0 0,[(52,[I 0,.str [],.nils])]):=by rw[zero52];rfl
  have rb:aRsBuild Tryz.prog 50 1 [(0,.agg [I 1,.str [],.nils])] [(52,[I 0,.str [],.nils])]=some (.rs 52 3 1 0 1,[(52,[I 0,.str [],.nils]),(52,[I 1,.str [],.nils])]):=rsbuild (s:=[(52,[I 0,.str [],.nils])]) (a:=.agg [I 1,.str [],.nils]) (t:=.mk 1 [] []) (.mk _ _ _ _ .nil)
  have bx:aBox true 128 (.agg [tk,I 0,.rs 52 3 1 0 1]) [(52,[I 0,.str [],.nils]),(52,[I 1,.str [],.nils])]=some (.ref 2 0,s0 tk):=by
   simp[aBox,hst,strip_rs]
  have ixQ:=ixR Q 1 0 (by omega)
  have ixP:=ixR R 1 0 (by omega)
  rw[F135_eq,F135]
  simp -implicitDefEqProofs only[sL,z52,hst,hb,rb,b128 ht,bx,qa2,e1,nc,l2,idx_0,lQ,lR,pb,l1,st0,hsta,kl1,kl2,kl3,ks,dk,dr,l0,fin1,resL,Option.map_some]
  try rfl
end RepF
end

section
set_option maxRecDepth 100000
set_option maxHeartbeats 4000000
namespace RepF
open Go Go.Abs Go.Proofs ParF Pm
theorem bdLeaf (k:Int)(x:Bytes):aBuild Tryz.prog 52 [(0,I k),(1,.str x)]=some (.agg [I k,.str x,.nils]):=by kernel_rfl
theorem leafT (t:Tok):IsT (leaf t) (.agg [I t.1,.str t.2,.nils]):=.mk t.1 t.2 [] .nils .nil
theorem leaf_loop {tk:AV}{w:List Tok}(hw:LexF.IsT tk w)(hl:w.length<400000){old:AV}{o re:Nat}{sh sb:Int}{u:Nat}:∀(k i:Nat),w.length-i=k→i≤w.length→∀f r,k<r→∀n' e s nd ns,IsU s u old tk o sh sb re nd ns→ns.length+k<900000→e 0=.ref u 0→e 21=tk→e 22=I w.length→e 23=I i →
  ∃s' nd',aLoop (F75_L0 (den C f) n') r e s=some (.tup [],s')∧IsU s' u old .nils o sh sb re nd' (ns++(w.drop i).map leaf)∧Stp s s' u nd nd':=by
 have nc:∀i o,aNilCheck (.ref i o)=some (.ref i o):=fun _ _=>rfl
 intro k
 induction k with
 | zero =>
  intro i hk hi f r hr n' e s nd ns hU hn e0 e21 e22 e23
  obtain⟨r,rfl⟩:∃j,r=j+1:=⟨r-1,by omega⟩
  have cc:¬((i:Int)<(w.length:Int)):=by omega
  let s1:Heap:=s.set u (144,[old,.nils,I o,I sh,I sb,I re,nd])
  have su:aStore 1 s (.ref u 1) .nils=some s1:=stU hU.cell rfl (by decide) rfl rfl rfl rfl rfl
  refine⟨s1,nd,?_,?_,by show s.length≤(s.set u _).length;rw[List.length_set];exact Nat.le_refl _,fun x hx h1 h2=>gset_ne (Ne.symm h1),.inl rfl⟩
  ·rw[aLoop,F75_L0]
   simp -implicitDefEqProofs only[sL,e23,e22,cc,e0,nc,su]
  ·rw[List.drop_of_length_le (by omega),List.map_nil,List.append_nil]
   exact⟨gset_eq hU.cell,hU.ch.frame fun R e=>gset_ne (fun h=>hU.ne (by rw[e,h])),hU.ne⟩
 | succ k ih =>
  intro i hk hi f r hr n' e s nd ns hU hn e0 e21 e22 e23
  obtain⟨r,rfl⟩:∃j,r=j+1:=⟨r-1,by omega⟩
  have ci:i<w.length:=by omega
  have cc:(i:Int)<(w.length:Int):=by omega
  have ix:=hw.at (List.getElem?_eq_getElem ci)
  have q:=ih (i+1) (by omega) (by omega) f r (by omega) n'
  rw[List.drop_eq_getElem_cons ci]
  generalize w[i]=t at *
  have hul:=glt hU.cell
  let s1:Heap:=s++[(80,[I t.1,.str t.2])]
  have l1:s1.length=s.length+1:=app_length _ _
  have frd:∀x,x<s.length→s1[x]?=s[x]?:=fun x hx=>gapp_old hx
  have e1:s1[s.length]?=some (80,[I t.1,.str t.2]):=gapp_new
  have lk:aLoad false false 1 (.ref s.length 0) s1=some (I t.1,s1):=ld (o:=0) (v:=I t.1) e1 (by decide) rfl (by decide)
  have lt:aLoad false false 1 (.ref s.length 1) s1=some (.str t.2,s1):=ld (o:=1) (v:=.str t.2) e1 (by decide) rfl (by decide)
  have eu1:s1[u]?=some (144,[old,tk,I o,I sh,I sb,I re,nd]):=(frd u hul).trans hU.cell
  have hch1:ChAt s1 nd ns:=hU.ch.frame fun R e=>frd R (hU.ch.lt R e)
  have ln:=hch1.len
  have hsn:=hch1.strip
  obtain⟨oo,ka⟩:=hch1.app
  have lu:aLoad false false 1 (.ref u 6) s1=some (nd,s1):=ldU eu1 rfl hsn
  obtain⟨s9,s11,p1,p2,p3,p4,p5,p6,p7⟩:=push_place hch1 (by omega) (leafT t)
  have eu11:s11[u]?=some (144,[old,tk,I o,I sh,I sb,I re,nd]):=by rw[p7 u (by omega) hU.ne];exact eu1
  let v:AV:=.rs 52 3 s1.length 0 (ns.length+1)
  let s12:Heap:=s11.set u (144,[old,tk,I o,I sh,I sb,I re,v])
  have su1:aStore 1 s11 (.ref u 6) (.rs 52 3 s1.length 0 (ns.length+1))=some s12:=stU eu11 rfl (by decide) rfl rfl rfl rfl rfl
  have nR:s1.length≠u:=by omega
  have hU':IsU s12 u old tk o sh sb re v (ns++[leaf t]):=⟨gset_eq eu11,p5.frame fun R e=>by cases e;exact gset_ne (Ne.symm nR),fun e=>by injection e with e;exact nR e⟩
  have ixp:=ixR s1.length (ns.length+1) ns.length (by omega)
  have kl1:kLoad false (.ref u 6)=.get u:=rfl
  have kl2:kLoad false (.ref s.length 0)=.get s.length:=rfl
  have kl3:kLoad false (.ref s.length 1)=.get s.length:=rfl
  have ks1:kStore (.ref s1.length (ns.length*3))=.put s1.length:=rfl
  have ks2:kStore (.ref u 6)=.put u:=rfl
  have dk:∀s s':Heap,dyn (.app oo) s s'=.app oo:=fun _ _=>rfl
  have sv:(AV.rs 52 3 s1.length 0 (ns.length+1)).strip=.rs 52 3 s1.length 0 (ns.length+1):=rfl
  have w2:=ParF.wadd1 (a:=i) (by omega)
  have bz:=bsZ
  have bl:=bdLeaf t.1 t.2
  have al:aAlloc Tryz.prog 80 s=some (.ref s.length 0,s++[(80,[I 0,.str []])]):=LexF.alloc39 s
  have sl:aStore 2 (s++[(80,[I 0,.str []])]) (.ref s.length 0) (.agg [I t.1,.str t.2])=some s1:=LexF.store39 s (I 0) (.str []) t
  have fin:∀E:Env,E 0=.ref u 0→E 21=tk→E 22=I w.length→E 23=I (i+1:Nat)→∃s' nd',aLoop (F75_L0 (den C f) n') r E s12=some (.tup [],s')∧IsU s' u old .nils o sh sb re nd' (ns++(t::w.drop (i+1)).map leaf)∧Stp s s' u nd nd':=by
   intro E k0 k21 k22 k23
   obtain⟨s',nd',r1,r2,r3⟩:=q E s12 v (ns++[leaf t]) hU' (by rw[List.length_append,List.length_cons,List.length_nil];omega) k0 k21 k22 k23
   refine⟨s',nd',r1,by rw[List.map_cons,show ns++leaf t::(w.drop (i+1)).map leaf=(ns++[leaf t])++(w.drop (i+1)).map leaf by rw[List.append_assoc];rfl];exact r2,?_⟩
   have r0:Stp s s12 u nd v:=by
    refine⟨by show s.length≤(s11.set u _).length;rw[List.length_set];omega,fun x hx hxu hxr=>?_,.inr ⟨s1.length,rfl,by omega⟩⟩
    rw[show s12[x]?=s11[x]? from gset_ne (Ne.symm hxu),p7 x (by omega) hxr]
    exact frd x hx
   exact r0.trans r3
  rw[aLoop,F75_L0]
  simp -implicitDefEqProofs only[sL,e23,e22,cc,e21,ix,LexF.load2',al,sl,e0,nc,lu,lk,lt,bl,ln,bz,p1,ixp,p2,su1,ka,dk,kl1,kl2,kl3,ks1,ks2,d75_5 s1.length u nR,w2,hsn,sv]
  refine fin _ ?_ ?_ ?_ ?_
  ·exact(upds_get _ _ _ rfl).trans e0
  ·exact(upds_get _ _ _ rfl).trans e21
  ·exact(upds_get _ _ _ rfl).trans e22
  ·exact rfl
theorem parse_end {tk:AV}{w:List Tok}(hw:LexF.IsT tk w)(hl:w.length≤2000)(he:(pk w).1=100){old:AV}{o re:Nat}{sh sb:Int}{u:Nat}:∃N,∀f,N≤f→∀s nd ns,IsU s u old tk o sh sb re nd ns→ns.length+w.length<900000 →
  ∃s' nd',aCall Tryz.prog (den C f) 75 [.ref u 0] s=some (.tup [],s')∧IsU s' u old .nils o sh sb re nd' (ns++w.map leaf)∧Stp s s' u nd nd':=by
 obtain⟨N,q⟩:=LexF.AC.at (item_end hw hl he)
 refine⟨N+w.length+3,fun f hf s nd ns hU hn=>?_⟩
 obtain⟨f,rfl⟩:∃j,f=j+1:=⟨f-1,by omega⟩
 have q:=q f (by omega)
 have nc:∀i o,aNilCheck (.ref i o)=some (.ref i o):=fun _ _=>rfl
 have stK:=hw.strip
 have lk:=hw.len
 have l1:aLoad false false 1 (.ref u 1) s=some (tk,s):=ldU hU.cell rfl stK
 let s1:Heap:=s++[(52,[I 0,.str [],.nils])]
 have z1:aAlloc Tryz.prog 52 s=some (.ref s.length 0,s1):=al52 s
 have t1:aStore 3 s1 (.ref s.length 0) (.agg [I 0,.str [],.nils])=some s1:=store_new zeroT
 have eu1:s1[u]?=some (144,[old,tk,I o,I sh,I sb,I re,nd]):=(gapp_old (glt hU.cell)).trans hU.cell
 have hU1:IsU s1 u old tk o sh sb re nd ns:=⟨eu1,hU.ch.frame fun R e=>gapp_old (hU.ch.lt R e),hU.ne⟩
 have l1':aLoad false false 1 (.ref u 1) s1=some (tk,s1):=ldU eu1 rfl stK
 have zz:((0:Int)==0)=true:=rfl
 have fin:∀E:Env,E 0=.ref u 0→E 21=tk→E 22=I w.length→E 23=I (0:Nat)→∃s' nd',aLoop (F75_L0 (den C f) f) f E s1=some (.tup [],s')∧IsU s' u old .nils o sh sb re nd' (ns++w.map leaf)∧Stp s s' u nd nd':=by
  intro E k0 k21 k22 k23
  obtain⟨s',nd',r1,r2,r3⟩:=leaf_loop hw (by omega) (old:=old) (o:=o) (re:=re) (sh:=sh) (sb:=sb) (u:=u) w.length 0 (by omega) (by omega) f f (by omega) f E s1 nd ns hU1 (by omega) k0 k21 k22 k23
  rw[List.drop_zero]at r2
  have r0:Stp s s1 u nd nd:=⟨by rw[show s1.length=s.length+1 from app_length _ _];omega,fun x hx _ _=>gapp_old hx,.inl rfl⟩
  exact⟨s',nd',r1,r2,r0.trans r3⟩
 unfold aCall
 rw[if_pos en75,if_neg (by rw[noRefL_cons,noRef_ref];simp),F75_eq,F75]
 simp -implicitDefEqProofs only[sL,nc,l1,stK,q,z1,t1,zz,l1',lk]
 refine fin _ ?_ ?_ ?_ ?_
 ·exact rfl
 ·exact rfl
 ·exact rfl
 ·exact rfl
end RepF
end

section
set_option maxRecDepth 100000
set_option maxHeartbeats 4000000
namespace RepF
open Go Go.Abs Go.Proofs ParF Pm
theorem item_loop {tk tk' v51:AV}{w X t1:List Tok}(hw:LexF.IsT tk w)(e:w=X++t1)(h51:LexF.IsT v51 X)(hsl:aSl Tryz.prog 74 tk (some (I X.length)) none none=some tk')(hst':tk'.strip=tk')(hc':tk'.cells=[tk']∧tk'.solid=true∧stCells tk'=[tk'])(hl:w.length<400000)(hbl:bl w<400000){a:AV}{x:Tree}(ha:IsT x a){old:AV}{o re:Nat}(ho:o<400000){sh sb:Int}{u T:Nat}(hTu:T≠u):∀(k i:Nat),X.length-i=k→i≤X.length→∀f r,k<r→∀n' e s nd ns,IsU s u old tk (o+bl (X.take i):Nat) sh sb re nd ns→s[T]?=some (52,a.cells)→rid nd≠some T→ns.length<800000→e 0=.ref u 0→e 2=.ref T 0→e 3=I X.length→e 51=v51→e 52=I X.length→e 53=I i →
  ∃s' nd',aLoop (F75_L1 (den C f) n') r e s=some (.tup [],s')∧IsU s' u old tk' (o+bl X:Nat) sh sb re nd' (ns++[x])∧Stp s s' u nd nd':=by
 have nc:∀i o,aNilCheck (.ref i o)=some (.ref i o):=fun _ _=>rfl
 have stK:=hw.strip
 obtain⟨a1,a2,a3,a4⟩:=ha.cells
 have hsta:a.strip=a:=by rw[a4];rfl
 have hbX:bl X≤bl w:=by rw[e,bl_app];omega
 intro k
 induction k with
 | zero =>
  intro i hk hi f r hr n' e s nd ns hU hT hrT hn e0 e2 e3 e51 e52 e53
  obtain⟨r,rfl⟩:∃j,r=j+1:=⟨r-1,by omega⟩
  have cc:¬((i:Int)<(X.length:Int)):=by omega
  rw[List.take_of_length_le (by omega)]at hU
  have hul:=glt hU.cell
  have hTl:=glt hT
  have l1:aLoad false false 1 (.ref u 1) s=some (tk,s):=ldU hU.cell rfl stK
  let s1:Heap:=s.set u (144,[old,tk',I (o+bl X:Nat),I sh,I sb,I re,nd])
  have su0:aStore 1 s (.ref u 1) tk'=some s1:=stU hU.cell rfl (by decide) hc'.1 hc'.2.1 hst' hc'.2.2 rfl
  have ll:s1.length=s.length:=List.length_set
  have eu1:s1[u]?=some (144,[old,tk',I (o+bl X:Nat),I sh,I sb,I re,nd]):=gset_eq hU.cell
  have hch1:ChAt s1 nd ns:=hU.ch.frame fun R e=>gset_ne (fun h=>hU.ne (by rw[e,h]))
  have eT:s1[T]?=some (52,a.cells):=(gset_ne (Ne.symm hTu)).trans hT
  have lT:aLoad false true 3 (.ref T 0) s1=some (a,s1):=ldx eT a1 a4
  have ln:=hch1.len
  have hsn:=hch1.strip
  obtain⟨oo,ka⟩:=hch1.app
  have lu:aLoad false false 1 (.ref u 6) s1=some (nd,s1):=ldU eu1 rfl hsn
  obtain⟨s9,s11,p1,p2,p3,p4,p5,p6,p7⟩:=push_place hch1 (by omega) ha
  have eu11:s11[u]?=some (144,[old,tk',I (o+bl X:Nat),I sh,I sb,I re,nd]):=by rw[p7 u (by omega) hU.ne];exact eu1
  let v:AV:=.rs 52 3 s1.length 0 (ns.length+1)
  let s12:Heap:=s11.set u (144,[old,tk',I (o+bl X:Nat),I sh,I sb,I re,v])
  have su1:aStore 1 s11 (.ref u 6) (.rs 52 3 s1.length 0 (ns.length+1))=some s12:=stU eu11 rfl (by decide) rfl rfl rfl rfl rfl
  have nR:s1.length≠u:=by omega
  have hU':IsU s12 u old tk' (o+bl X:Nat) sh sb re v (ns++[x]):=⟨gset_eq eu11,p5.frame fun R e=>by cases e;exact gset_ne (Ne.symm nR),fun e=>by injection e with e;exact nR e⟩
  have ixp:=ixR s1.length (ns.length+1) ns.length (by omega)
  have kl1:kLoad false (.ref u 6)=.get u:=rfl
  have kl2:kLoad false (.ref T 0)=.get T:=rfl
  have ks1:kStore (.ref s1.length (ns.length*3))=.put s1.length:=rfl
  have ks2:kStore (.ref u 6)=.put u:=rfl
  have dk:∀s s':Heap,dyn (.app oo) s s'=.app oo:=fun _ _=>rfl
  have sv:(AV.rs 52 3 s1.length 0 (ns.length+1)).strip=.rs 52 3 s1.length 0 (ns.length+1):=rfl
  have bz:=bsZ
  refine⟨s12,v,?_,hU',?_⟩
  ·rw[aLoop,F75_L1]
   simp -implicitDefEqProofs only[sL,e53,e52,cc,e0,nc,l1,e3,hsl,hst',su0,lu,e2,lT,ln,bz,p1,ixp,p2,su1,ka,dk,kl1,kl2,ks1,ks2,d75_14 s1.length u nR,hsn,sv,hsta]
  ·refine⟨by show s.length≤(s11.set u _).length;rw[List.length_set];omega,fun y hy hyu hyr=>?_,.inr ⟨s1.length,rfl,by omega⟩⟩
   rw[show s12[y]?=s11[y]? from gset_ne (Ne.symm hyu),p7 y (by omega) hyr]
   exact gset_ne (Ne.symm hyu)
 | succ k ih =>
  intro i hk hi f r hr n' e s nd ns hU hT hrT hn e0 e2 e3 e51 e52 e53
  obtain⟨r,rfl⟩:∃j,r=j+1:=⟨r-1,by omega⟩
  have ci:i<X.length:=by omega
  have cc:(i:Int)<(X.length:Int):=by omega
  have ix:=h51.at (List.getElem?_eq_getElem ci)
  have q:=ih (i+1) (by omega) (by omega) f r (by omega) n'
  have htk:bl (X.take (i+1))=bl (X.take i)+X[i].2.length:=by
   rw[List.take_succ,List.getElem?_eq_getElem ci]
   show bl (X.take i++[X[i]])=_
   rw[bl_app,bl_cons,bl_nil];omega
  have hle:bl (X.take (i+1))≤bl X:=by
   have:=bl_app (X.take (i+1)) (X.drop (i+1))
   rw[List.take_append_drop]at this;omega
  have w1:=wsum (a:=o+bl (X.take i)) (b:=X[i].2.length) (by omega)
  rw[show o+bl (X.take i)+X[i].2.length=o+bl (X.take (i+1)) by omega]at w1
  have hXl:X.length≤w.length:=by rw[‹w=X++t1›,List.length_append];omega
  have w2:=ParF.wadd1 (a:=i) (by omega)
  generalize X[i]=t at *
  have hul:=glt hU.cell
  let s1:Heap:=s++[(80,[I t.1,.str t.2])]
  have frd:∀x,x<s.length→s1[x]?=s[x]?:=fun x hx=>gapp_old hx
  have e1:s1[s.length]?=some (80,[I t.1,.str t.2]):=gapp_new
  have lt:aLoad false false 1 (.ref s.length 1) s1=some (.str t.2,s1):=ld (o:=1) (v:=.str t.2) e1 (by decide) rfl (by decide)
  have eu1:s1[u]?=some (144,[old,tk,I (o+bl (X.take i):Nat),I sh,I sb,I re,nd]):=(frd u hul).trans hU.cell
  have lo:aLoad false false 1 (.ref u 2) s1=some (I (o+bl (X.take i):Nat),s1):=ldU eu1 rfl rfl
  let s2:Heap:=s1.set u (144,[old,tk,I (o+bl (X.take (i+1)):Nat),I sh,I sb,I re,nd])
  have su:aStore 1 s1 (.ref u 2) (I (o+bl (X.take (i+1)):Nat))=some s2:=stU eu1 rfl (by decide) rfl rfl rfl rfl rfl
  have hU2:IsU s2 u old tk (o+bl (X.take (i+1)):Nat) sh sb re nd ns:=⟨gset_eq eu1,(hU.ch.frame fun R e=>frd R (hU.ch.lt R e)).frame fun R e=>gset_ne (fun h=>hU.ne (by rw[e,h])),hU.ne⟩
  have hT2:s2[T]?=some (52,a.cells):=(gset_ne (Ne.symm hTu)).trans ((frd T (glt hT)).trans hT)
  have kl1:kLoad false (.ref u 2)=.get u:=rfl
  have kl2:kLoad false (.ref s.length 1)=.get s.length:=rfl
  have ks2:kStore (.ref u 2)=.put u:=rfl
  have al:aAlloc Tryz.prog 80 s=some (.ref s.length 0,s++[(80,[I 0,.str []])]):=LexF.alloc39 s
  have sl:aStore 2 (s++[(80,[I 0,.str []])]) (.ref s.length 0) (.agg [I t.1,.str t.2])=some s1:=LexF.store39 s (I 0) (.str []) t
  have fin:∀E:Env,E 0=.ref u 0→E 2=.ref T 0→E 3=I X.length→E 51=v51→E 52=I X.length→E 53=I (i+1:Nat)→∃s' nd',aLoop (F75_L1 (den C f) n') r E s2=some (.tup [],s')∧IsU s' u old tk' (o+bl X:Nat) sh sb re nd' (ns++[x])∧Stp s s' u nd nd':=by
   intro E k0 k2 k3 k51 k52 k53
   obtain⟨s',nd',r1,r2,r3⟩:=q E s2 nd ns hU2 hT2 hrT hn k0 k2 k3 k51 k52 k53
   refine⟨s',nd',r1,r2,?_⟩
   have r0:Stp s s2 u nd nd:=⟨by show s.length≤(s1.set u _).length;rw[List.length_set,show s1.length=s.length+1 from app_length _ _];omega,fun y hy hyu _=>(gset_ne (Ne.symm hyu)).trans (frd y hy),.inl rfl⟩
   exact r0.trans r3
  rw[aLoop,F75_L1]
  simp -implicitDefEqProofs only[sL,e53,e52,cc,e51,ix,LexF.load2',al,sl,e0,nc,lo,lt,LexF.len9,w1,su,kl1,kl2,ks2,d75_11 u,w2]
  refine fin _ ?_ ?_ ?_ ?_ ?_ ?_
  ·exact(upds_get _ _ _ rfl).trans e0
  ·exact(upds_get _ _ _ rfl).trans e2
  ·exact(upds_get _ _ _ rfl).trans e3
  ·exact(upds_get _ _ _ rfl).trans e51
  ·exact(upds_get _ _ _ rfl).trans e52
  ·exact rfl
end RepF
end

section
set_option maxRecDepth 100000
set_option maxHeartbeats 4000000
namespace RepF
open Go Go.Abs Go.Proofs ParF Pm
theorem parse_item {tk:AV}{w t1:List Tok}{x:Tree}{b:Bool}(hw:LexF.IsT tk w)(hl:w.length≤2000)(hbl:bl w<400000)(hx:Runs gItem w [] b t1 [x])(he:(pk w).1≠100)(hz:szT x<800000000){old:AV}{o re:Nat}(ho:o<400000){sh sb:Int}{u:Nat} :
  ∃tk' X,w=X++t1∧bl X=(srcT x).length∧LexF.IsT tk' t1∧∃N,∀f,N≤f→∀s nd ns,IsU s u old tk o sh sb re nd ns→ns.length<800000 →
  ∃s' nd',aCall Tryz.prog (den C f) 75 [.ref u 0] s=some (.tup [],s')∧IsU s' u old tk' (o+bl X:Nat) sh sb re nd' (ns++[x])∧Stp s s' u nd nd':=by
 obtain⟨X,eX,bX⟩:=runs_split hx
 rw[srcL_one]at bX
 obtain⟨a,ha,hi⟩:=item_at hw hl hx he hz
 obtain⟨N,q⟩:=LexF.AC.at hi
 obtain⟨x',ex,-,hlt⟩:=item_one he hx
 have hn:w.length-t1.length=X.length:=by rw[eX,List.length_append];omega
 have hpos:0<X.length:=by omega
 rw[hn]at q
 have hXw:X.length≤w.length:=by omega
 obtain⟨tk',e1,h1⟩:=hw.drop hXw
 obtain⟨v51,e2,h2⟩:=hw.take hXw
 have hd:w.drop X.length=t1:=by rw[eX,List.drop_left]
 have ht:w.take X.length=X:=by rw[eX,List.take_left]
 rw[hd]at h1
 rw[ht]at h2
 have hc':tk'.cells=[tk']∧tk'.solid=true∧stCells tk'=[tk']:=by rcases h1 with rfl|⟨_,rfl⟩<;>exact⟨rfl,rfl,rfl⟩
 refine⟨tk',X,eX,bX,h1,N+w.length+3,fun f hf s nd ns hU hns=>?_⟩
 obtain⟨f,rfl⟩:∃j,f=j+1:=⟨f-1,by omega⟩
 have q:=q f (by omega)
 have nc:∀i o,aNilCheck (.ref i o)=some (.ref i o):=fun _ _=>rfl
 have stK:=hw.strip
 obtain⟨a1,a2,a3,a4⟩:=ha.cells
 have hsta:a.strip=a:=by rw[a4];rfl
 have l1:aLoad false false 1 (.ref u 1) s=some (tk,s):=ldU hU.cell rfl stK
 let s1:Heap:=s++[(52,a.cells)]
 have z1:=al52 s
 have t1':aStore 3 (s++[(52,[I 0,.str [],.nils])]) (.ref s.length 0) a=some s1:=store_new ha
 have eu1:s1[u]?=some (144,[old,tk,I o,I sh,I sb,I re,nd]):=(gapp_old (glt hU.cell)).trans hU.cell
 have hul:=glt hU.cell
 have hU1:IsU s1 u old tk (o+bl (X.take 0):Nat) sh sb re nd ns:=⟨by rw[List.take_zero,bl_nil,Nat.add_zero];exact eu1,hU.ch.frame fun R e=>gapp_old (hU.ch.lt R e),hU.ne⟩
 have l1':aLoad false false 1 (.ref u 1) s1=some (tk,s1):=ldU eu1 rfl stK
 have zz:(((X.length:Nat):Int)==0)=false:=by rw[beq_eq_false_iff_ne];omega
 have lv:=h2.len
 have fin:∀E:Env,E 0=.ref u 0→E 2=.ref s.length 0→E 3=I X.length→E 51=v51→E 52=I X.length→E 53=I (0:Nat)→∃s' nd',aLoop (F75_L1 (den C f) f) f E s1=some (.tup [],s')∧IsU s' u old tk' (o+bl X:Nat) sh sb re nd' (ns++[x])∧Stp s s' u nd nd':=by
  intro E k0 k2 k3 k51 k52 k53
  obtain⟨s',nd',r1,r2,r3⟩:=item_loop hw eX h2 e1 h1.strip hc' (by omega) hbl ha (old:=old) (o:=o) (re:=re) ho (sh:=sh) (sb:=sb) (u:=u) (T:=s.length) (by omega) X.length 0 (by omega) (by omega) f f (by omega) f E s1 nd ns hU1 gapp_new (fun e=>by have:=hU.ch.lt _ e;omega) hns k0 k2 k3 k51 k52 k53
  have r0:Stp s s1 u nd nd:=⟨by rw[show s1.length=s.length+1 from app_length _ _];omega,fun x hx _ _=>gapp_old hx,.inl rfl⟩
  exact⟨s',nd',r1,r2,r0.trans r3⟩
 unfold aCall
 rw[if_pos en75,if_neg (by rw[noRefL_cons,noRef_ref];simp),F75_eq,F75]
 simp -implicitDefEqProofs only[sL,nc,l1,stK,q,hsta,z1,t1',zz,l1',e2,lv]
 refine fin _ ?_ ?_ ?_ ?_ ?_ ?_
 ·exact rfl
 ·exact rfl
 ·exact rfl
 ·exact rfl
 ·exact rfl
 ·exact rfl
end RepF
end

section
set_option maxRecDepth 100000
namespace RepF
open Go Go.Abs Go.Proofs ParF Pm
theorem tokz_cut {l:Bytes}{A r:List Tok}(h:LexF.tokz l=A++r):LexF.tokz (l.drop (bl A))=r:=by
 have:=LexF.tokz_from l A.length
 have e:LexF.offOf (LexF.tokz l) A.length=bl A:=by
  unfold LexF.offOf
  rw[h,List.take_left]
  show (LexF.srcOfT A).length=(srcK A).length
  rw[srcK_eq]
 rw[e]at this
 rw[this,h,List.drop_left]
theorem pfx_law {src:Bytes}{a:Nat}(ha:a≤src.length){ts:List Tok}{es:List Tree}{t':List Tok}(h:Items ts es t'):(∀t∈ts,100<t.1)→∀(o:Nat)(us:List Tok),ts=LexF.tokz (src.drop o)→o≤src.length→Ed a o ts us →
  ∃xs us1,us=xs++us1∧o+bl xs=(pfx a o (chs src o (es++t'.map leaf))).1∧∀ks,Kids us1 ks→Kids us ((pfx a o (chs src o (es++t'.map leaf))).2++ks):=by
 induction h with
 | done ts h =>
  intro hk o us ht ho hE
  have e:pfx a o (chs src o ([]++ts.map leaf))=(o,[]):=by
   rw[List.nil_append]
   cases ts with
   | nil=>rfl
   | cons t r =>
    rw[List.map_cons,chs,pfx_cons,if_pos]
    right
    have:=hk t (List.mem_cons_self ..)
    show decide (100≤t.1)=true
    rw[decide_eq_true_eq];omega
  rw[e]
  exact⟨[],us,rfl,rfl,fun ks hks=>hks⟩
 | @step ts t1 t' x es b h hi hr ih =>
  intro hk o us ht ho hE
  rw[List.cons_append,chs,pfx_cons]
  split
  ·exact⟨[],us,rfl,rfl,fun ks hks=>hks⟩
  ·rename_i hc
   have hl:¬a≤laF src (o+(srcT x).length):=fun e=>hc (.inl e)
   obtain⟨X,eX,bX⟩:=runs_split hi
   rw[srcL_one]at bX
   have hbl:bl ts=src.length-o:=by rw[ht,bl_tokz,List.length_drop]
   have hb2:bl ts=bl X+bl t1:=by rw[eX,bl_app]
   have e1:t1=LexF.tokz (src.drop (o+(srcT x).length)):=by
    have:=tokz_cut (l:=src.drop o) (A:=X) (r:=t1) (by rw[←ht];exact eX)
    rw[List.drop_drop,bX]at this
    exact this.symm
   obtain⟨A,pA,qA,_⟩:=bump_pre t1
   have e2:la t1=LexF.tokz (src.drop (o+(srcT x).length+sigW t1)):=by
    have:=tokz_cut (l:=src.drop (o+(srcT x).length)) (A:=A) (r:=la t1) (by rw[←e1];exact pA)
    rw[List.drop_drop,qA]at this
    exact this.symm
   have hla:laF src (o+(srcT x).length)=o+(srcT x).length+sigW t1+sigW (la t1):=by
    unfold laF sg
    rw[←e1,←e2]
   obtain⟨us1,xs,k1,k2,k3,k4,k5⟩:=item_kept hi hE (by omega) (by omega)
   obtain⟨ys,us2,m1,m2,m3⟩:=ih (fun t h=>hk t (by rw[eX];exact List.mem_append_right _ h)) (o+(srcT x).length) us1 e1 (by omega) k4
   refine⟨xs++ys,us2,by rw[k1,m1,List.append_assoc],by rw[bl_app,k2,←m2];omega,fun ks hks=>?_⟩
   have hne:(pk us).1≠100:=by rw[k5];exact h
   exact kids_step hne k3 (m3 ks hks)
end RepF
end

section
set_option maxRecDepth 100000
namespace RepF
open Go Go.Abs Go.Proofs ParF Pm
theorem chs_at (src:Bytes):∀(cs:List Tree)(o i:Nat)(c:Ch),(chs src o cs)[i]?=some c→c.s=o+(srcL (cs.take i)).length∧cs[i]?=some c.t
 | [],o,i,c,h=>by simp[chs]at h
 | t::cs,o,0,c,h=>by
  rw[chs]at h;simp at h;subst h
  exact⟨by simp[srcL],rfl⟩
 | t::cs,o,i+1,c,h=>by
  rw[chs]at h
  obtain⟨h1,h2⟩:=chs_at src cs _ i c (by simpa using h)
  refine⟨?_,by simpa using h2⟩
  rw[h1,List.take_succ_cons,srcL,List.length_append];omega
theorem rest_law {src:Bytes}{ts us V w:List Tok}{cs:List Tree}(hk:∀t∈ts,t.1≠100)(hf:Full ts)(h:Kids ts cs){m:Nat}(hT:Tail ts us m)(e:us=V++w)(hw:w.length≤m){i:Nat}{c:Ch}(hi:(chs src 0 cs)[i]?=some c)(hs:(c.s:Int)=(bl V:Int)-((bl us:Int)-(bl ts:Int))):Kids w (cs.drop i):=by
 obtain⟨t1,t2,t3⟩:=hT
 have hVl:us.length=V.length+w.length:=by rw[e,List.length_append]
 have hd:ts.drop (ts.length-w.length)=w:=by
  have e1:ts.drop (ts.length-w.length)=(ts.drop (ts.length-m)).drop (m-w.length):=by rw[List.drop_drop];congr 1;omega
  have e2:us.drop (us.length-w.length)=(us.drop (us.length-m)).drop (m-w.length):=by rw[List.drop_drop];congr 1;omega
  have e3:us.drop (us.length-w.length)=w:=by
   rw[hVl,Nat.add_sub_cancel,e,List.drop_left]
  rw[e1,t3,←e2,e3]
 have hsp:ts=ts.take (ts.length-w.length)++w:=by
  have:=List.take_append_drop (ts.length-w.length) ts
  rw[hd]at this;exact this.symm
 obtain⟨s1,s2⟩:=chs_at src cs 0 i c hi
 have hb1:bl ts=bl (ts.take (ts.length-w.length))+bl w:=by
  have:=congrArg bl hsp
  rw[bl_app]at this;exact this
 have hb2:bl us=bl V+bl w:=by rw[e,bl_app]
 have hic:i<cs.length:=(List.getElem?_eq_some_iff.1 s2).1
 exact kids_rest hk hf h hsp (by omega) (by omega)
end RepF
end

section
set_option maxRecDepth 100000
set_option maxHeartbeats 1000000
namespace RepF
open Go Go.Abs Go.Proofs ParF Pm
theorem pub_nd {h:Heap}{nd:AV}{ns:List Tree}(hc:ChAt h nd ns):∃v h',pubR (some (nd,h))=some (v,h')∧IsC ns v∧h'.length=h.length∧∀y,rid nd≠some y→h'[y]?=h[y]?:=by
 rcases hc with ⟨rfl,rfl⟩|⟨R,rows,rfl,h2,h3,hne⟩
 ·exact⟨.nils,h,rfl,.nil,rfl,fun _ _=>rfl⟩
 ·obtain⟨r1,r2,r3,r4⟩:=h3.cells
  have tk:(cellsOf rows).take (ns.length*3)=cellsOf rows:=List.take_of_length_le (by omega)
  refine⟨.sl 52 3 rows .sh,kill h R,?_,.sl _ _ h3,kill_length _ _,fun y hy=>gkill_ne (fun e=>hy (by rw[e];rfl))⟩
  have p1:aPub1 (.rs 52 3 R 0 ns.length) h=some (.sl 52 3 rows .sh,kill h R):=by
   unfold aPub1
   simp only[h2,tk,r3,r2,r4]
   rw[if_pos ⟨trivial,by decide,by decide,by omega,trivial⟩]
  exact p1
end RepF
end

section
set_option maxRecDepth 100000
namespace RepF
open Go Go.Abs Go.Proofs ParF Pm
theorem file_kids {ts:List Tok}{T:Tree}(h:IsFile ts T):∃cs,T=.mk 1 [] cs∧Kids ts cs∧szL cs≤24*ts.length:=by
 obtain⟨t',es,h1,h2,h3,h4,h5⟩:=h
 obtain⟨es',e,k⟩:=items_of h1 rfl rfl
 rw[List.nil_append]at e
 subst e
 refine⟨_,h3,⟨_,t',k,rfl⟩,?_⟩
 rw[szL_append,szL_leaf];omega
theorem kids_file {ts:List Tok}{cs:List Tree}(h:Kids ts cs):IsFile ts (.mk 1 [] cs):=by
 obtain⟨T,hT⟩:=isFile_ex ts
 obtain⟨cs',rfl,k,_⟩:=file_kids hT
 rw[kids_det h k];exact hT
theorem file_det {ts:List Tok}{T U:Tree}(h:IsFile ts T)(k:IsFile ts U):T=U:=by
 obtain⟨cs,rfl,k1,_⟩:=file_kids h
 obtain⟨ds,rfl,k2,_⟩:=file_kids k
 rw[kids_det k1 k2]
theorem kids_sz {ts:List Tok}{cs:List Tree}(h:Kids ts cs):szL cs≤24*ts.length:=by
 obtain⟨cs',e,k,hz⟩:=file_kids (kids_file h)
 rw[kids_det h k];exact hz
theorem kids_len {ts:List Tok}{cs:List Tree}(h:Kids ts cs):cs.length≤24*ts.length:=Nat.le_trans (len_le_sz cs) (kids_sz h)
theorem kids_nil:Kids [] []:=kids_end (ts:=[]) (by decide)
structure Good (us:List Tok)(o:Nat)(w:List Tok)(ns:List Tree):Prop where
 sp:∃V,us=V++w∧o=bl V
 kids:∀ks,Kids w ks→Kids us (ns++ks)
theorem Good.done {us:List Tok}{o:Nat}{ns:List Tree}(h:Good us o [] ns):Kids us ns:=by
 have:=h.kids [] kids_nil
 rwa [List.append_nil]at this
theorem Good.len {us w:List Tok}{o:Nat}{ns:List Tree}(h:Good us o w ns):ns.length≤24*us.length:=by
 obtain⟨ks,k⟩:=kids_ex w
 have:=kids_len (h.kids ks k)
 rw[List.length_append]at this;omega
theorem Good.step {us w t1 X:List Tok}{o:Nat}{ns:List Tree}(h:Good us o w ns){x:Tree}{b:Bool}(he:(pk w).1≠100)(hx:Runs gItem w [] b t1 [x])(e:w=X++t1):Good us (o+bl X) t1 (ns++[x]):=by
 obtain⟨V,e1,e2⟩:=h.sp
 refine⟨⟨V++X,by rw[e1,e,List.append_assoc],by rw[bl_app,e2]⟩,fun ks hk=>?_⟩
 have:=h.kids (x::ks) (kids_step he hx hk)
 rwa [List.append_assoc]
theorem Good.last {us w:List Tok}{o:Nat}{ns:List Tree}(h:Good us o w ns)(he:(pk w).1=100):Kids us (ns++w.map leaf):=h.kids _ (kids_end he)
theorem item_ex {w:List Tok}(he:(pk w).1≠100):∃x t1,Runs gItem w [] false t1 [x]∧t1.length<w.length∧szT x≤24*w.length:=by
 obtain⟨ks,k⟩:=kids_ex w
 have hz:=kids_sz k
 obtain⟨es,t',k1,rfl⟩:=k
 cases k1 with
 | done _ h=>exact absurd h he
 | @step _ t1 _ x es b h hi hr =>
  obtain⟨x',e,hr',hlt⟩:=item_one h hi
  rw[List.nil_append]at e
  cases e
  refine⟨x,t1,hr',hlt,?_⟩
  have:szL (x::es++t'.map leaf)=szT x+szL (es++t'.map leaf):=by rw[List.cons_append,szL]
  omega
end RepF
end
