/- SsF, SsG, SsH, SsI, SsJ, SsK, SsL, SsM, SsN, SsO, SsP -/
import Derived.Test.YtfhoaocedkkjbaaGreatDoorG
import Derived.Test.YtfhoaocedkkjbaaGreatDoorH
set_option linter.all false
set_option maxRecDepth 100000

section
namespace Srv
open Go Go.Abs Go.Proofs
abbrev Ed:=RopeF.Ed
noncomputable def edt (st:St)(nm:Bytes)(ver:Int)(es:List Ed):Int×St :=
 if st.ms.any (nmP nm)=true then
  if st.vs.getD (st.ms.findIdx (nmP nm)) 0=ver then
   if RopeF.validate (st.ms.getD (st.ms.findIdx (nmP nm)) ([],[])).2 es=0 then wr st nm (RopeF.applyS (st.ms.getD (st.ms.findIdx (nmP nm)) ([],[])).2 0 es)
   else(RopeF.validate (st.ms.getD (st.ms.findIdx (nmP nm)) ([],[])).2 es,st)
  else(11,st)
 else(5,st)
theorem SL.at1 {s:Heap}{v:AV}{xs:List Int}(h:SL 3 1 s v (xs.map intC)){i:Nat}(hi:i<xs.length):∃p,aIndexAddr Tryz.prog 59 v (I i)=some p∧aLoad false false 1 p s=some (I xs[i],s)∧Rd p:=by
 obtain⟨p,p1,p2,p3,p4⟩:=h.at under59 sz3 (by decide) (by decide) (i:=i) (by rw[List.length_map];exact hi)
 obtain⟨q,q1,q2,q3⟩:=p4 0 (I xs[i]) (by simp)
 refine⟨p,p1,?_,p3⟩
 have:q=p:=by
  rcases p3 with ⟨a,o,rfl⟩|⟨j,o,rfl⟩
  ·simp[aAddr]at q1;exact q1.symm
  ·simp[aAddr]at q1;exact q1.symm
 rw[this]at q2
 exact q2
theorem SrvI.wid {s:Heap}{V:Nat}{G G':Foot}{st:St}{B:Int}(h:SrvI s V G st B)(k:∀i,G i→G' i)(l:∀i,G' i→i<s.length):SrvI s V G' st B:=by
 obtain⟨F,S,M,D,Mr,Ma,Av,r,f,comps,clock,ql,mv,vv,pv,h,b1,b2,b3,b4⟩:=h
 exact⟨F,S,M,D,Mr,Ma,Av,r,f,comps,clock,ql,mv,vv,pv,⟨h.m,h.sv,h.mm,h.vm,h.pm,h.sp,h.enc,h.ok,h.vl,h.nF,h.pl,h.pk,h.pq,fun i hi=>k i (h.G1 i hi),⟨k _ h.G2.1,k _ h.G2.2.1,k _ h.G2.2.2.1,k _ h.G2.2.2.2.1,fun e he=>k _ (h.G2.2.2.2.2.1 e he),fun P hP=>k _ (h.G2.2.2.2.2.2 P hP)⟩,l,h.bd⟩,b1,b2,b3,b4⟩
theorem SrvI.fn2 {s s1 s2:Heap}{V:Nat}{G:Foot}{st:St}{B:Int}(h:SrvI s2 V (FN (FN G s s1) s1 s2) st B)(hG:∀i,G i→i<s.length)(l1:s.length≤s1.length)(l2:s1.length≤s2.length):SrvI s2 V (FN G s s2) st B :=
 h.wid (fun i hi=>by
  rcases hi with (hi|hi)|hi
  ·exact .inl hi
  ·exact .inr ⟨hi.1,by omega⟩
  ·exact .inr ⟨by omega,hi.2⟩) fun i hi=>hi.elim (fun h=>by have:=hG i h;omega) (·.2)
theorem SrvI.GL {s:Heap}{V:Nat}{G:Foot}{st:St}{B:Int}(h:SrvI s V G st B):∀i,G i→i<s.length:=by
 obtain⟨F,S,M,D,Mr,Ma,Av,r,f,comps,clock,ql,mv,vv,pv,h,_⟩:=h
 exact h.GL
theorem SrvI.mono {s:Heap}{V:Nat}{G:Foot}{st:St}{B B':Int}(h:SrvI s V G st B)(hB:B≤B'):SrvI s V G st B':=by
 obtain⟨F,S,M,D,Mr,Ma,Av,r,f,comps,clock,ql,mv,vv,pv,h,b1,b2,b3,b4⟩:=h
 exact⟨F,S,M,D,Mr,Ma,Av,r,f,comps,clock,ql,mv,vv,pv,h,by omega,by omega,by omega,by omega⟩
theorem c39 (n:Nat)(hn:20<n){s:Heap}{V:Nat}{G:Foot}{st:St}{B:Int}(h:SrvI s V G st B)(hB:B<700000000)(nm:Bytes)(ver:Int)(es:List Ed){ev:AV}(hev:RopeF.IsE ev es)(ht:∀x∈es,x.t.length≤140737488355328):∃s',den C (n+323) 39 [.ref V 0,.str nm,I ver,ev] s=some (I (edt st nm ver es).1,s')∧SrvI s' V (FN G s s') (edt st nm ver es).2 (B+20)∧Fg G s s':=by
 have h0:=h
 obtain⟨F,S,M,D,Mr,Ma,Av,r,f,comps,clock,ql,mv,vv,pv,h,b1,b2,b3,b4⟩:=h
 have h8:=SI.len8 h.ok
 obtain⟨s1,c1,g1⟩:=a61 (n+315) h nm (by omega)
 have h1:=h.gr g1
 have stay:SrvI s1 V (FN G s s1) st (B+20):=⟨F,S,M,D,Mr,Ma,Av,r,f,comps,clock,ql,mv,vv,pv,srvI_fn h1 g1.len,by omega,by omega,by omega,by omega⟩
 unfold edt
 cases hany:st.ms.any (nmP nm) with
 | false =>
  have hfx:fidx (nmP nm) st.ms=-1:=by unfold fidx;rw[hany];rfl
  rw[hfx]at c1
  have q:decide ((-1:Int)<0)=true:=rfl
  rw[if_neg (by decide)]
  rw[rd Tryz.func39];conv in compF _ _ _ _ _ _=>cbv
  simp only[strip_rs,strip_mr,strip_nilf,Bool.false_eq_true,if_false,↓kR,kE,kK,sL,C_P,Nat.reduceEqDiff,reduceIte,Tryz.f39,c1,q,↓rC_seqj,sL]
  exact⟨s1,rfl,stay,g1.fg G⟩
 | true =>
  obtain⟨hk,hp⟩:=findIdx_any hany
  rw[if_pos rfl]
  obtain⟨k,hkk⟩:∃k,st.ms.findIdx (nmP nm)=k:=⟨_,rfl⟩
  have hfx:fidx (nmP nm) st.ms=(k:Int):=by unfold fidx;rw[if_pos hany,hkk]
  rw[hfx]at c1
  rw[hkk]at hk ⊢
  have hvl:=h.vl
  have qk:decide ((k:Int)<0)=false:=decide_eq_false (by omega)
  have l0:aLoad false false 1 (.ref V 0) s1=some (mv,s1):=ldv h1.sv (by decide) rfl h.sp.1
  have l1:aLoad false false 1 (.ref V 1) s1=some (vv,s1):=ldv h1.sv (by decide) rfl h.sp.2.1
  have hkv:k<st.vs.length:=by omega
  obtain⟨p,p1,p2,p3⟩:=h1.vm.at1 hkv
  obtain⟨a,a1,a2,a3,a4⟩:=h1.mm.at und46 sz45 (by decide) (by decide) (i:=k) (by rw[List.length_map];exact hk)
  obtain⟨b,k1,k2,k3⟩:=a4 1 (.str st.ms[k].2) (by simp)
  have gv:st.vs.getD k 0=st.vs[k]:=by rw[List.getD_eq_getElem?_getD,List.getElem?_eq_getElem hkv];rfl
  have gm:(st.ms.getD k ([],[])).2=st.ms[k].2:=by rw[List.getD_eq_getElem?_getD,List.getElem?_eq_getElem hk];rfl
  rw[gv,gm]
  have hes:=hev.strip
  by_cases hver:st.vs[k]=ver
  ·rw[if_pos hver]
   have q3:(st.vs[k] != ver)=false:=by simp[hver]
   have ap:=RopeF.apply_run st.ms[k].2 ev es hev ht (n+322) (by omega) s1
   by_cases hval:RopeF.validate st.ms[k].2 es=0
   ·rw[if_pos hval]at ap ⊢
    have h0':SrvI s1 V (FN G s s1) st B:=⟨F,S,M,D,Mr,Ma,Av,r,f,comps,clock,ql,mv,vv,pv,srvI_fn h1 g1.len,by omega,by omega,by omega,by omega⟩
    obtain⟨s2,w1,w2,w3⟩:=c37 n hn h0' (by omega) nm (RopeF.applyS st.ms[k].2 0 es)
    have cl:aCall Tryz.prog (den C (n+322)) 37 [.ref V 0,.str nm,.str (RopeF.applyS st.ms[k].2 0 es)] s1=some (I (wr st nm (RopeF.applyS st.ms[k].2 0 es)).1,s2):=by
     rw[aCall,if_pos (by kernel_rfl),if_neg (by simp[noRefL_cons,AV.noRef])];exact w1
    rw[rd Tryz.func39];conv in compF _ _ _ _ _ _=>cbv
    simp only[strip_rs,strip_mr,strip_nilf,Bool.false_eq_true,if_false,↓kR,kE,kK,sL,C_P,Nat.reduceEqDiff,reduceIte,Tryz.f39,c1,qk,↓rC_seqj,l0,h.sp.1,l1,h.sp.2.1,p1,p2,q3,a1,k1,k2,hes,ap,bne_self_eq_false,cl,ohX,sL]
    have l3:=g1.len
    have l4:=w3.len
    exact⟨s2,rfl,w2.fn2 h.GL l3 l4,(g1.fg G).trans w3 fun i hi=>hi.imp id (·.1)⟩
   ·rw[if_neg hval]at ap ⊢
    have q4:(RopeF.validate st.ms[k].2 es != 0)=true:=by simpa using hval
    rw[rd Tryz.func39];conv in compF _ _ _ _ _ _=>cbv
    simp only[strip_rs,strip_mr,strip_nilf,Bool.false_eq_true,if_false,↓kR,kE,kK,sL,C_P,Nat.reduceEqDiff,reduceIte,Tryz.f39,c1,qk,↓rC_seqj,l0,h.sp.1,l1,h.sp.2.1,p1,p2,q3,a1,k1,k2,hes,ap,q4,sL]
    exact⟨s1,rfl,stay,g1.fg G⟩
  ·rw[if_neg hver]
   have q3:(st.vs[k] != ver)=true:=by simpa using hver
   rw[rd Tryz.func39];conv in compF _ _ _ _ _ _=>cbv
   simp only[strip_rs,strip_mr,strip_nilf,Bool.false_eq_true,if_false,↓kR,kE,kK,sL,C_P,Nat.reduceEqDiff,reduceIte,Tryz.f39,c1,qk,↓rC_seqj,l1,h.sp.2.1,p1,p2,q3,sL]
   exact⟨s1,rfl,stay,g1.fg G⟩
end Srv
end

section
namespace Srv
open Go Go.Abs Go.Proofs
theorem c88 {N:Nat}{s:Heap}{v f:AV}{l:List Req}(h:SL 33 5 s v (l.map reqC))(hf:f.strip=f)(p:Req→Bool)(hp:∀s1,Gr s s1→∀d∈l,∃s2,aCallV Tryz.prog (den C N) f [.agg (reqC d)] s1=some (.bool (p d),s2)∧Gr s1 s2)(hn:l.length<N) :
  ∃s',den C (N+1) 88 [v,f] s=some (I (fidx p l),s')∧Gr s s':=by
 have hs:=h.strip
 have hlen:aLen Tryz.prog 57 v.strip=some (I l.length):=by have:=hs.len und57;rwa [List.length_map]at this
 have hb:=h.els.2
 rw[List.length_map]at hb
 rw[rd Tryz.func88];conv in compF _ _ _ _ _ _=>cbv
 simp only[strip_rs,strip_mr,strip_nilf,Bool.false_eq_true,if_false,↓kR,kE,kK,sL,C_P,Nat.reduceEqDiff,reduceIte,Tryz.f88,hlen,sL]
 refine loopI (R:=fun a=>∃s',a=some (I (fidx p l),s')∧Gr s s') (fun i e s1=>Gr s s1∧e 0=v∧e 1=f∧e 7=I l.length∧e 8=I i∧∀x∈l.take i,p x=false) l.length ?_ ?_ l.length 0 (by omega) N hn _ _ ⟨.refl _,rfl,rfl,rfl,rfl,by simp⟩
 ·rintro i e s1 q hi ⟨g1,e0,e1,e7,e8,ht⟩ hk
  have hi':i<(l.map reqC).length:=by rw[List.length_map];exact hi
  obtain⟨a,p1,p2,p3,_⟩:=(hs.gr g1).at und57 sz33 (by decide) (by decide) hi'
  rw[List.getElem_map]at p2
  have hlt:decide (i<l.length)=true:=decide_eq_true hi
  obtain⟨s2,c1,c2⟩:=hp s1 g1 l[i] (List.getElem_mem hi)
  simp only[strip_rs,strip_mr,strip_nilf,Bool.false_eq_true,if_false,↓kR,kE,kK,sL,C_P,Nat.reduceEqDiff,reduceIte,e0,e1,e7,e8,hf,hlt,p1,p2,c1,sL]
  by_cases hx:p l[i]=true
  ·rw[hx]
   simp only[sL]
   rw[fidx_at hi hx ht]
   exact⟨s2,rfl,g1.trans c2⟩
  ·have hx:p l[i]=false:=by simpa using hx
   rw[hx]
   simp only[sL]
   rw[wrap64 (by omega) (by omega)]
   refine hk _ _ ⟨g1.trans c2,e0,e1,e7,iS i,?_⟩
   rw[List.take_succ,List.getElem?_eq_getElem hi]
   intro x hx'
   rcases List.mem_append.1 hx' with hx'|hx'
   ·exact ht x hx'
   ·simp only[Option.toList_some,List.mem_singleton]at hx'
    rw[hx'];exact hx
 ·rintro e s1 q ⟨g1,e0,e1,e7,e8,ht⟩
  have hlt:decide (l.length<l.length)=false:=decide_eq_false (by omega)
  simp only[strip_rs,strip_mr,strip_nilf,Bool.false_eq_true,if_false,↓kR,kE,kK,sL,C_P,Nat.reduceEqDiff,reduceIte,e7,e8,hlt,sL]
  rw[List.take_length]at ht
  rw[fidx_no ht]
  exact⟨s1,rfl,g1⟩
abbrev rqP (c id:Int)(r:Req):Bool:=r.c==c&&r.id==id
theorem c89 (n:Nat)(r:Req)(c id:Int)(s:Heap):den C (n+1) 89 [.agg (reqC r),.box [I c] 0,.box [I id] 0] s=some (.bool (rqP c id r),s):=by
 have bx:∀s,aBox false 33 (.agg (reqC r)) s=some (.box (reqC r) 0,s):=fun s=>boxV rfl s
 have l0:∀s:Heap,aLoad false false 1 (.box (reqC r) 0) s=some (I r.c,s):=fun s=>by rw[aLoad_one];rfl
 have l1:∀s:Heap,aLoad false false 1 (.box (reqC r) 1) s=some (I r.id,s):=fun s=>by rw[aLoad_one];rfl
 have l2:∀(x:Int) (s:Heap),aLoad false false 1 (.box [I x] 0) s=some (I x,s):=fun x s=>by rw[aLoad_one];rfl
 rw[rd Tryz.func89];conv in compF _ _ _ _ _ _=>cbv
 simp only[strip_rs,strip_mr,strip_nilf,Bool.false_eq_true,if_false,↓kR,kE,kK,sL,C_P,Nat.reduceEqDiff,reduceIte,Tryz.f89,bx,l0,l1,l2,sL]
 cases hx:(r.c==c) with
 | true =>
  simp only[strip_rs,strip_mr,strip_nilf,Bool.false_eq_true,if_false,↓kR,kE,kK,sL,C_P,Nat.reduceEqDiff,reduceIte,l1,l2,sL]
  simp[rqP,hx]
 | false =>
  simp only[strip_rs,strip_mr,strip_nilf,Bool.false_eq_true,if_false,↓kR,kE,kK,sL,C_P,Nat.reduceEqDiff,reduceIte,sL]
  simp[rqP,hx]
section
variable {s s':Heap}{V:Nat}{G F:Foot}{S M D Mr Ma Av:Nat}{r:Int}{f:Inp}{comps clock:Int}{ql:List Ent}{mv vv pv:AV}{st:St}
theorem a70 (n:Nat)(h:SI s V G F S M D Mr Ma Av r f comps clock ql mv vv pv st)(c id:Int)(hn:30<n):∃s',aCall Tryz.prog (den C (n+5)) 70 [.ref V 0,I c,I id] s=some (I (fidx (rqP c id) st.pd),s')∧Gr s s':=by
 have l0:aLoad false false 1 (.ref V 2) s=some (pv,s):=ldv h.sv (by decide) rfl h.pst
 have bx:∀(x:Int) s,aBox false 3 (I x) s=some (.box [I x] 0,s):=fun x s=>boxV rfl s
 have hpl:=h.pl
 have k:∀{s:Heap} {v:AV},SL 33 5 s v (st.pd.map reqC)→∃s',den C (n+4) 88 [v,.fn 89 [] [.box [I c] 0,.box [I id] 0]] s=some (I (fidx (rqP c id) st.pd),s')∧Gr s s':=fun {s v} h=>c88 (N:=n+3) h rfl (rqP c id) (fun s1 g1 d hd=>⟨s1,by
  show aCall Tryz.prog (den C (n+3)) 89 [.agg (reqC d),.box [I c] 0,.box [I id] 0] s1=_
  exact aC (by kernel_rfl) rfl (fun _=>⟨[],c89 (n+2) d c id []⟩) fun e=>(nomatch (show true=false from e)),.refl _⟩) (by omega)
 obtain⟨s1,c1,c2⟩:=aGr (D:=den C (n+4)) (args:=[pv,.fn 89 [] [.box [I c] 0,.box [I id] 0]]) (by kernel_rfl:enterable Tryz.prog 88=true) rfl (fun hr=>(k (s:=[]) (h.pm.pure (noRefL2 hr))).imp fun _ h=>h.1) (fun _=>k h.pm)
 refine⟨s1,?_,c2⟩
 rw[aCall,if_pos (by kernel_rfl),if_neg (by simp[noRefL_cons,AV.noRef])]
 rw[rd Tryz.func70];conv in compF _ _ _ _ _ _=>cbv
 simp only[strip_rs,strip_mr,strip_nilf,Bool.false_eq_true,if_false,↓kR,kE,kK,sL,C_P,Nat.reduceEqDiff,reduceIte,Tryz.f70,bx,l0,h.pst,c1,sL]
theorem SI.pend (h:SI s V G F S M D Mr Ma Av r f comps clock ql mv vv pv st){pv':AV}{pd':List Req}(hl:s.length≤s'.length)(hV:s'[V]?=some (86,[mv,vv,pv',I st.rev,.ref D 0]))(k:∀(i:Nat),i<s.length→i≠V→rowOf pv≠some i→s'[i]?=s[i]?)(pm:SL 33 5 s' pv' (pd'.map reqC))(pf:pv'=.nils∨∃P off n,pv'=.rs 33 5 P off n)(pr:∀P,rowOf pv'=some P→rowOf pv=some P∨s.length≤P)(pl:pd'.length≤20)(pk:(pd'.map fun r=>(r.c,r.id)).Nodup)(pq:∀r∈pd',1≤r.q∧r.q≤8) :
  SI s' V (FN G s s') F S M D Mr Ma Av r f comps clock ql mv vv pv' { st with pd:=pd' }∧Fg G s s':=by
 have ty:∀(i:Nat) (t:TypeId) (cs:List AV),s[i]?=some (t,cs)→t≠86→t≠33→s'[i]?=some (t,cs):=fun i t cs hi t1 t2=>by
  rw[k i (glt hi) (ty_ne hi h.sv t1) (fun e=>by obtain⟨cs',hc⟩:=h.row e;rw[hi]at hc;cases hc;exact t2 rfl),hi]
 have prl:∀P,rowOf pv'=some P→P<s'.length:=fun P hP=>by
  rcases pf with rfl|⟨P',off,n,rfl⟩
  ·cases hP
  ·cases hP
   obtain⟨cs,hc⟩:=pm.row rfl
   exact glt hc
 refine⟨⟨h.m.fr hl ty fun i hi=>k i (h.m.hF i hi) (fun e=>h.nF.1 (e▸hi)) (fun e=>h.nF.2 i e hi),hV,h.mm.tf fun i cs hi=>ty i _ cs hi (by decide) (by decide),h.vm.tf fun i cs hi=>ty i _ cs hi (by decide) (by decide),pm,⟨h.sp.1,h.sp.2.1,pf⟩,h.enc,h.ok,h.vl,⟨h.nF.1,fun P hP hF=>?_⟩,pl,pk,pq,fun i hi=>.inl (h.G1 i hi),⟨.inl h.G2.1,.inl h.G2.2.1,.inl h.G2.2.2.1,.inl h.G2.2.2.2.1,fun e he=>.inl (h.G2.2.2.2.2.1 e he),fun P hP=>?_⟩,fun i hi=>?_,h.bd⟩,⟨hl,fun i hi hg=>k i hi (fun e=>hg (e▸h.G2.1)) (fun e=>hg (h.G2.2.2.2.2.2 i e)),fun i t cs hi a1 _ _ _ _ a6=>ty i t cs hi a1 a6⟩⟩
 ·rcases pr P hP with e|e
  ·exact h.nF.2 P e hF
  ·have:=h.m.hF P hF;omega
 ·rcases pr P hP with e|e
  ·exact .inl (h.G2.2.2.2.2.2 P e)
  ·exact .inr ⟨e,prl P hP⟩
 ·rcases hi with hi|hi
  ·have:=h.GL i hi;omega
  ·exact hi.2
end
def reqS (st:St)(r:Req):Int×St:=if st.pd.any (rqP r.c r.id)=true then(6,st) else if 20≤st.pd.length then(2,st) else if r.q<1∨8<r.q then(7,st) else(0,{ st with pd:=st.pd++[r] })
theorem reqC_els (l:List Req)(h:l.length<1000000):Els 5 (l.map reqC):=⟨fun e he=>by obtain⟨k,_,rfl⟩:=List.mem_map.1 he;exact⟨rfl,rfl⟩,by rw[List.length_map];exact h⟩
theorem rq_any {l:List Req}{c id:Int}:l.any (rqP c id)=true↔(c,id)∈l.map fun r=>(r.c,r.id):=by
 rw[List.any_eq_true]
 simp only[rqP,Bool.and_eq_true,beq_iff_eq,List.mem_map,Prod.mk.injEq]
theorem c40 (n:Nat)(hn:30<n){s:Heap}{V:Nat}{G:Foot}{st:St}{B:Int}(h:SrvI s V G st B)(q:Req):∃s',den C (n+6) 40 [.ref V 0,.agg (reqC q)] s=some (I (reqS st q).1,s')∧SrvI s' V (FN G s s') (reqS st q).2 B∧Fg G s s':=by
 obtain⟨F,S,M,D,Mr,Ma,Av,r,f,comps,clock,ql,mv,vv,pv,h,b1,b2,b3,b4⟩:=h
 have bx:∀s,aBox false 33 (.agg (reqC q)) s=some (.box (reqC q) 0,s):=fun s=>boxV rfl s
 have l0:∀s:Heap,aLoad false false 1 (.box (reqC q) 0) s=some (I q.c,s):=fun s=>by rw[aLoad_one];rfl
 have l1:∀s:Heap,aLoad false false 1 (.box (reqC q) 1) s=some (I q.id,s):=fun s=>by rw[aLoad_one];rfl
 have l2:∀s:Heap,aLoad false false 1 (.box (reqC q) 2) s=some (I q.q,s):=fun s=>by rw[aLoad_one];rfl
 have lA:∀s,aLoad false true 5 (.box (reqC q) 0) s=some (.agg (reqC q),s):=fun s=>boxG (n:=5) rfl false s
 obtain⟨s1,c1,g1⟩:=a70 n h q.c q.id hn
 have h1:=h.gr g1
 have stay:SrvI s1 V (FN G s s1) st B:=⟨F,S,M,D,Mr,Ma,Av,r,f,comps,clock,ql,mv,vv,pv,srvI_fn h1 g1.len,b1,b2,b3,b4⟩
 have q1:decide (fidx (rqP q.c q.id) st.pd ≥ 0)=st.pd.any (rqP q.c q.id):=fidx_nn _ _
 have q2:=fidx_nn (rqP q.c q.id) st.pd
 have lp:aLoad false false 1 (.ref V 2) s1=some (pv,s1):=ldv h1.sv (by decide) rfl h.pst
 have hlen:aLen Tryz.prog 57 pv=some (I st.pd.length):=by have:=h.pm.len und57;rwa [List.length_map]at this
 unfold reqS
 cases hany:st.pd.any (rqP q.c q.id) with
 | true =>
  rw[hany]at q1 q2
  rw[if_pos rfl]
  rw[rd Tryz.func40];conv in compF _ _ _ _ _ _=>cbv
  simp only[strip_rs,strip_mr,strip_nilf,Bool.false_eq_true,if_false,↓kR,kE,kK,sL,C_P,Nat.reduceEqDiff,reduceIte,Tryz.f40,bx,l0,l1,c1,q1,q2,↓rC_seqj,sL]
  exact⟨s1,rfl,stay,g1.fg G⟩
 | false =>
  rw[hany]at q1 q2
  rw[if_neg (by decide)]
  by_cases h20:20≤st.pd.length
  ·have q3:decide ((st.pd.length:Int) ≥ 20)=true:=decide_eq_true (by omega)
   have q4:decide ((20:Int)≤st.pd.length)=true:=decide_eq_true (by omega)
   rw[if_pos h20]
   rw[rd Tryz.func40];conv in compF _ _ _ _ _ _=>cbv
   simp only[strip_rs,strip_mr,strip_nilf,Bool.false_eq_true,if_false,↓kR,kE,kK,sL,C_P,Nat.reduceEqDiff,reduceIte,Tryz.f40,bx,l0,l1,c1,q1,q2,↓rC_seqj,lp,h.pst,hlen,q3,q4,sL]
   exact⟨s1,rfl,stay,g1.fg G⟩
  ·have q3:decide ((st.pd.length:Int) ≥ 20)=false:=decide_eq_false (by omega)
   have q4:decide ((20:Int)≤st.pd.length)=false:=decide_eq_false (by omega)
   rw[if_neg h20]
   by_cases hq1:q.q<1
   ·have q5:decide (q.q<1)=true:=decide_eq_true hq1
    rw[if_pos (.inl hq1)]
    rw[rd Tryz.func40];conv in compF _ _ _ _ _ _=>cbv
    simp only[strip_rs,strip_mr,strip_nilf,Bool.false_eq_true,if_false,↓kR,kE,kK,sL,C_P,Nat.reduceEqDiff,reduceIte,Tryz.f40,bx,l0,l1,l2,c1,q1,q2,↓rC_seqj,lp,h.pst,hlen,q3,q4,q5,sL]
    exact⟨s1,rfl,stay,g1.fg G⟩
   ·have q5:decide (q.q<1)=false:=decide_eq_false hq1
    by_cases hq8:8<q.q
    ·have q6:decide (8<q.q)=true:=decide_eq_true hq8
     rw[if_pos (.inr hq8)]
     rw[rd Tryz.func40];conv in compF _ _ _ _ _ _=>cbv
     simp only[strip_rs,strip_mr,strip_nilf,Bool.false_eq_true,if_false,↓kR,kE,kK,sL,C_P,Nat.reduceEqDiff,reduceIte,Tryz.f40,bx,l0,l1,l2,c1,q1,q2,↓rC_seqj,lp,h.pst,hlen,q3,q4,q5,q6,sL]
     exact⟨s1,rfl,stay,g1.fg G⟩
    ·have q6:decide (8<q.q)=false:=decide_eq_false hq8
     rw[if_neg (by rintro(h|h);exact hq1 h;exact hq8 h)]
     have bs57:aBuildSlice Tryz.prog 57 1 [(0,.agg (reqC q))]=some (.sl 33 5 [.agg (reqC q)] .own):=by
      have:∀a b c d e,aBuildSlice Tryz.prog 57 1 [(0,.agg [I a,I b,I c,I d,.str e])]=some (.sl 33 5 [.agg [I a,I b,I c,I d,.str e]] .own):=fun a b c d e=>by kernel_rfl
      exact this _ _ _ _ _
     obtain⟨w,s2,p1,p2,p3,p4,p5,p6,p7,p8⟩:=SL.app und57 info33 (by decide) (by decide) (by decide) h1.pm (fun es' fl e=>by rcases h.sp.2.2 with h'|⟨Q,o,m,h'⟩<;>rw[h']at e<;>cases e) (SL.sl [reqC q] .own (reqC_els [q] (by simp))) (by simp;omega) (.inl (by simp))
     have p8:=p8 (by simp)
     have p1:aRsAppend Tryz.prog 57 57 pv (.sl 33 5 [.agg (reqC q)] .own) s1=some (w,s2):=p1
     have rowne:rowOf pv≠some V:=fun e=>by obtain⟨cs,hc⟩:=h1.row e;rw[h1.sv]at hc;cases hc
     have hV2:s2[V]?=some (86,[mv,vv,pv,I st.rev,.ref D 0]):=(p6 V (glt h1.sv) rowne).trans h1.sv
     obtain⟨s3,e3⟩:∃s3,s2.set V (86,[mv,vv,w,I st.rev,.ref D 0])=s3:=⟨_,rfl⟩
     have st3:aStore 1 s2 (.ref V 2) w=some s3:=by
      rw[Srv.st (n:=1) hV2 (by decide) (by rw[p8];rfl) (by rw[p8];rfl) (by simp),←e3,p8];rfl
     rw[rd Tryz.func40];conv in compF _ _ _ _ _ _=>cbv
     simp only[strip_rs,strip_mr,strip_nilf,Bool.false_eq_true,if_false,↓kR,kE,kK,sL,C_P,Nat.reduceEqDiff,reduceIte,Tryz.f40,bx,l0,l1,l2,lA,c1,q1,q2,↓rC_seqj,lp,h.pst,hlen,q3,q4,q5,q6,bs57,p1,p3,st3,sL]
     have n3:s3.length=s2.length:=by rw[←e3,set_length]
     obtain⟨h3,f3⟩:=h1.pend (s':=s3) (pv':=w) (pd':=st.pd++[q]) (by omega) (by rw[←e3];exact gset_eq hV2) (fun i hi i1 i2=>by rw[←e3,gset_ne i1.symm,p6 i hi i2]) (by
      rw[List.map_append]
      exact p2.fr fun Q off m e=>by
       obtain⟨cs,hc⟩:=p2.row e
       rw[←e3,gset_ne (fun e'=>by rw[←e',hV2]at hc;cases hc)]) (.inr ⟨_,_,_,p8⟩) (fun P hP=>by rw[p8]at hP;cases hP;exact .inr (Nat.le_refl _)) (by simp;omega) (by
      rw[List.map_append,List.nodup_append]
      refine⟨h.pk,by simp,fun a ha b hb e=>?_⟩
      simp only[List.map_cons,List.map_nil,List.mem_singleton]at hb
      rw[hb]at e
      rw[e]at ha
      rw[rq_any.2 ha]at hany;cases hany) (fun x hx=>by
      rcases List.mem_append.1 hx with hx|hx
      ·exact h.pq x hx
      ·rw[List.mem_singleton.1 hx];omega)
     have l1':=g1.len
     refine⟨s3,rfl,?_,(g1.fg G).trans f3 fun i hi=>.inl hi⟩
     have:SrvI s3 V (FN G s1 s3) { st with pd:=st.pd++[q] } B:=⟨F,S,M,D,Mr,Ma,Av,r,f,comps,clock,ql,mv,vv,w,h3,b1,b2,b3,b4⟩
     exact this.wid (fun i hi=>hi.imp id fun h=>⟨by omega,h.2⟩) fun i hi=>hi.elim (fun hg=>by have:=h.GL i hg;omega) (·.2)
end Srv
end

section
namespace Srv
open Go Go.Abs Go.Proofs
inductive IV (s:Heap):AV→List Int→Prop
 | nil:IV s .nils []
 | sl (xs:List Int) (f:Flag) (hb:xs.length<1000000000):IV s (.sl 3 1 (xs.map I) f) xs
 | rs (Q off:Nat) (pre junk:List AV) (xs:List Int) (h:s[Q]?=some (3,pre++(xs.map I++junk))) (hp:pre.length=off) (hb:xs.length<1000000000):IV s (.rs 3 1 Q off xs.length) xs
theorem IV.fr {s s':Heap}{v:AV}{xs:List Int}(h:IV s v xs)(g:∀Q off n,v=.rs 3 1 Q off n→s'[Q]?=s[Q]?):IV s' v xs:=by
 cases h with
 | nil=>exact .nil
 | sl xs f hb=>exact .sl xs f hb
 | rs Q off pre junk xs h hp hb=>exact .rs Q off pre junk xs ((g Q off _ rfl).trans h) hp hb
theorem IV.row {s:Heap}{v:AV}{xs:List Int}(h:IV s v xs){Q off n:Nat}(e:v=.rs 3 1 Q off n):∃cs,s[Q]?=some (3,cs):=by
 cases h with
 | nil=>cases e
 | sl xs f hb=>cases e
 | rs Q off pre junk xs h hp hb=>cases e;exact⟨_,h⟩
theorem IV.tf {s s':Heap}{v:AV}{xs:List Int}(h:IV s v xs)(k:∀(i:Nat)(cs:List AV),s[i]?=some (3,cs)→s'[i]?=some (3,cs)):IV s' v xs:=h.fr fun Q off n e=>by
 obtain⟨cs,hc⟩:=h.row e
 rw[k _ _ hc,hc]
theorem IV.bnd {s:Heap}{v:AV}{xs:List Int}(h:IV s v xs):xs.length<1000000000:=by
 cases h with
 | nil=>decide
 | sl xs f hb=>exact hb
 | rs Q off pre junk xs h hp hb=>exact hb
theorem IV.len {s:Heap}{v:AV}{xs:List Int}(h:IV s v xs):aLen Tryz.prog 59 v=some (I xs.length):=by
 cases h with
 | nil=>simp[aLen,under59]
 | sl xs f hb=>simp[aLen,under59]
 | rs Q off pre junk xs h hp hb=>simp[aLen,under59]
theorem IV.strip {s:Heap}{v:AV}{xs:List Int}(h:IV s v xs):IV s v.strip xs:=by
 cases h with
 | nil=>exact .nil
 | sl xs f hb=>cases f<;>exact .sl xs _ hb
 | rs Q off pre junk xs h hp hb=>exact .rs Q off pre junk xs h hp hb
theorem IV.at {s:Heap}{v:AV}{xs:List Int}(h:IV s v xs){i:Nat}(hi:i<xs.length):∃p,aIndexAddr Tryz.prog 59 v (I i)=some p∧aLoad false false 1 p s=some (I xs[i],s)∧Rd p:=by
 cases h with
 | nil=>cases hi
 | sl xs f hb =>
  refine⟨.box [I xs[i]] 0,?_,by rw[aLoad_one];rfl,.inl ⟨_,_,rfl⟩⟩
  have:(xs.map I)[i]?=some (I xs[i]):=by rw[List.getElem?_map,List.getElem?_eq_getElem hi];rfl
  simp[aIndexAddr,under59,sz3,this,AV.cells]
 | rs Q off pre junk xs h hp hb =>
  have hlt:(i:Int)<xs.length:=by omega
  refine⟨.ref Q (off+i),by simp[aIndexAddr,under59,sz3,hlt],?_,.inr ⟨_,_,rfl⟩⟩
  refine ld (n:=1) (v:=I xs[i]) h (by decide) ?_ (by decide)
  rw[List.getElem?_append_right (by omega),show off+i-pre.length=i by omega,List.getElem?_append_left (by simpa using hi),List.getElem?_map,List.getElem?_eq_getElem hi];rfl
theorem NV.iv {s:Heap}{v:AV}{xs:List Int}(h:NV s v xs):IV s v xs:=by
 cases h with
 | nil=>exact .nil
 | sl xs f hb=>exact .sl xs f hb
 | rs Q junk _ h hb hp=>exact .rs Q 0 [] junk _ h rfl hb
theorem NV.tail {s:Heap}{v:AV}{e:Int}{xs:List Int}(h:NV s v (e::xs)):∃w,aSl Tryz.prog 59 v (some (I 1)) none none=some w∧IV s w xs∧w.strip=w:=by
 obtain⟨l,hl⟩:∃l,l=e::xs:=⟨_,rfl⟩
 rw[←hl]at h
 cases h with
 | nil=>cases hl
 | sl _ f hb' =>
  subst hl
  refine⟨.sl 3 1 (xs.map I) .sh,?_,.sl xs _ (by simp at hb';omega),rfl⟩
  have:(1:Int)≤xs.length+1:=by omega
  simp[aSl,under59,sz3,aSlice,aBound,this]
 | rs Q junk _ h hb' hp =>
  subst hl
  refine⟨.rs 3 1 Q 1 xs.length,?_,.rs Q 1 [I e] junk xs h rfl (by simp at hb';omega),rfl⟩
  have:(1:Int)≤xs.length+1:=by omega
  simp[aSl,under59,sz3,aRsTake,aBound,this]
structure Resp where
 c:Int
 id:Int
 err:Int
 rev:Int
 nums:List Int
 tx:Bytes
def RC1 (s:Heap)(e:List AV)(r:Resp):Prop:=∃nv,e=[I r.c,I r.id,I r.err,I r.rev,nv,.str r.tx]∧IV s nv r.nums∧nv.strip=nv
def RC (s:Heap):List (List AV)→List Resp→Prop
 | [],[]=>True
 | e::es,r::rs=>RC1 s e r∧RC s es rs
 | _,_=>False
def RV (s:Heap)(v:AV)(l:List Resp):Prop:=∃es,SL 61 6 s v es∧RC s es l
theorem RC.len {s:Heap}:∀{es:List (List AV)}{l:List Resp},RC s es l→es.length=l.length
 | [],[],_=>rfl
 | e::es,r::rs,h=>by rw[List.length_cons,List.length_cons,RC.len h.2]
 | [],_::_,h=>h.elim
 | _::_,[],h=>h.elim
theorem RC1.tf {s s':Heap}{e:List AV}{r:Resp}(h:RC1 s e r)(k:∀(i:Nat)(cs:List AV),s[i]?=some (3,cs)→s'[i]?=some (3,cs)):RC1 s' e r:=by
 obtain⟨nv,h1,h2,h3⟩:=h
 exact⟨nv,h1,h2.tf k,h3⟩
theorem RC.tf {s s':Heap}(k:∀(i:Nat)(cs:List AV),s[i]?=some (3,cs)→s'[i]?=some (3,cs)):∀{es:List (List AV)}{l:List Resp},RC s es l→RC s' es l
 | [],[],_=>trivial
 | e::es,r::rs,h=>⟨h.1.tf k,RC.tf k h.2⟩
 | [],_::_,h=>h.elim
 | _::_,[],h=>h.elim
theorem RV.tf {s s':Heap}{v:AV}{l:List Resp}(h:RV s v l)(k:∀(i:Nat)(cs:List AV),s[i]?=some (3,cs)→s'[i]?=some (3,cs))(k2:∀(i:Nat)(cs:List AV),s[i]?=some (61,cs)→s'[i]?=some (61,cs)):RV s' v l:=by
 obtain⟨es,h1,h2⟩:=h
 exact⟨es,h1.tf k2,RC.tf k h2⟩
theorem RV.fg {s s':Heap}{G:Foot}{v:AV}{l:List Resp}(h:RV s v l)(k:Fg G s s'):RV s' v l:=h.tf (fun i cs hi=>k.tf i _ cs hi (by decide) (by decide) (by decide) (by decide) (by decide) (by decide)) fun i cs hi=>k.tf i _ cs hi (by decide) (by decide) (by decide) (by decide) (by decide) (by decide)
theorem RV.strip {s:Heap}{v:AV}{l:List Resp}(h:RV s v l):RV s v.strip l:=by
 obtain⟨es,h1,h2⟩:=h
 exact⟨es,h1.strip,h2⟩
theorem RC.app {s:Heap}:∀{es es2:List (List AV)}{l l2:List Resp},RC s es l→RC s es2 l2→RC s (es++es2) (l++l2)
 | [],_,[],_,_,k=>k
 | e::es,_,r::rs,_,h,k=>⟨h.1,RC.app h.2 k⟩
 | [],_,_::_,_,h,_=>h.elim
 | _::_,_,[],_,h,_=>h.elim
theorem und29:Tryz.prog.underlying 29=some (.slice 61):=by kernel_rfl
theorem info61:Info 61 6:=infoG (by kernel_rfl)
def canS (st:St)(c id:Int):List Resp×Int×St:=if st.pd.any (rqP c id)=true then([⟨c,id,12,st.rev,[],[]⟩],0,{ st with pd:=rmM st.pd (st.pd.findIdx (rqP c id)) }) else([],5,st)
theorem rmM_sub {α:Type}(l:List α)(i:Nat):(rmM l i).Sublist l:=by
 unfold rmM
 conv=>rhs;rw[←List.take_append_drop i l]
 exact List.Sublist.append (List.Sublist.refl _) (by rw[←List.drop_drop];exact List.drop_sublist 1 _)
theorem c41 (n:Nat)(hn:30<n){s:Heap}{V:Nat}{G:Foot}{st:St}{B:Int}(h:SrvI s V G st B)(c id:Int):∃v s',den C (n+6) 41 [.ref V 0,I c,I id] s=some (.tup [v,I (canS st c id).2.1],s')∧RV s' v (canS st c id).1∧SrvI s' V (FN G s s') (canS st c id).2.2 B∧Fg G s s':=by
 obtain⟨F,S,M,D,Mr,Ma,Av,r,f,comps,clock,ql,mv,vv,pv,h,b1,b2,b3,b4⟩:=h
 obtain⟨s1,c1,g1⟩:=a70 n h c id hn
 have h1:=h.gr g1
 unfold canS
 cases hany:st.pd.any (rqP c id) with
 | false =>
  have hfx:fidx (rqP c id) st.pd=-1:=by unfold fidx;rw[hany];rfl
  rw[hfx]at c1
  have q:decide ((-1:Int)<0)=true:=rfl
  rw[if_neg (by decide)]
  rw[rd Tryz.func41];conv in compF _ _ _ _ _ _=>cbv
  simp only[strip_rs,strip_mr,strip_nilf,Bool.false_eq_true,if_false,↓kR,kE,kK,sL,C_P,Nat.reduceEqDiff,reduceIte,Tryz.f41,c1,q,sL]
  exact⟨.nils,s1,rfl,⟨[],.nil,trivial⟩,⟨F,S,M,D,Mr,Ma,Av,r,f,comps,clock,ql,mv,vv,pv,srvI_fn h1 g1.len,b1,b2,b3,b4⟩,g1.fg G⟩
 | true =>
  obtain⟨hk,hp⟩:=findIdx_any hany
  rw[if_pos rfl]
  obtain⟨k,hkk⟩:∃k,st.pd.findIdx (rqP c id)=k:=⟨_,rfl⟩
  have hfx:fidx (rqP c id) st.pd=(k:Int):=by unfold fidx;rw[if_pos hany,hkk]
  rw[hfx]at c1
  rw[hkk]at hk ⊢
  have hpl:=h.pl
  have qk:decide ((k:Int)<0)=false:=decide_eq_false (by omega)
  have wk:=wrap64 (show -9223372036854775808≤(k:Int)+1 by omega) (by omega)
  have lp:aLoad false false 1 (.ref V 2) s1=some (pv,s1):=ldv h1.sv (by decide) rfl h.pst
  obtain⟨P,off,hpv⟩:∃P off,pv=.rs 33 5 P off (st.pd.map reqC).length:=by
   have:=h1.pm
   rcases h.sp.2.2 with e|⟨P,off,m,e⟩
   ·rw[e]at this
    obtain⟨w,hw⟩:∃w,w=st.pd.map reqC:=⟨_,rfl⟩
    rw[←hw]at this
    cases this
    have:st.pd=[]:=by simpa using hw.symm
    rw[this]at hk;cases hk
   ·refine⟨P,off,?_⟩
    rw[e]at this ⊢
    obtain⟨w,hw⟩:∃w,w=st.pd.map reqC:=⟨_,rfl⟩
    rw[←hw]at this ⊢
    cases this
    rfl
  have hpm:=h1.pm
  rw[hpv]at hpm
  obtain⟨cs',d1,d2⟩:=del_ok (z:=5) (by decide) (zc:=[I 0,I 0,I 0,I 0,.str []]) rfl hpm k (by rw[List.length_map];exact hk)
  obtain⟨s2,e2⟩:∃s2,s1.set P (33,cs')=s2:=⟨_,rfl⟩
  rw[e2]at d1 d2
  rw[←hpv]at d1
  have d1':den C (n+5) 71 [pv,I k,I ((k:Int)+1)] s1=_:=d1
  have hP:rowOf pv=some P:=by rw[hpv];rfl
  obtain⟨cP,hcP⟩:=h1.row hP
  have nPV:P≠V:=ty_ne hcP h1.sv (by decide)
  have hV2:s2[V]?=some (86,[mv,vv,pv,I st.rev,.ref D 0]):=by rw[←e2,gset_ne nPV];exact h1.sv
  obtain⟨s3,e3⟩:∃s3,s2.set V (86,[mv,vv,.rs 33 5 P off ((st.pd.map reqC).length-1),I st.rev,.ref D 0])=s3:=⟨_,rfl⟩
  have st3:aStore 1 s2 (.ref V 2) (.rs 33 5 P off ((st.pd.map reqC).length-1))=some s3:=by
   rw[Srv.st (n:=1) hV2 (by decide) rfl rfl (by simp),←e3];rfl
  have hV3:s3[V]?=some (86,[mv,vv,.rs 33 5 P off ((st.pd.map reqC).length-1),I st.rev,.ref D 0]):=by rw[←e3];exact gset_eq hV2
  have lr:aLoad false false 1 (.ref V 3) s3=some (I st.rev,s3):=ldv hV3 (by decide) rfl
  have b61c:aBuild Tryz.prog 61 [(0,I c),(1,I id),(2,I 12),(3,I st.rev)]=some (.agg [I c,I id,I 12,I st.rev,.nils,.str []]):=by
   have:∀a b c,aBuild Tryz.prog 61 [(0,I a),(1,I b),(2,I 12),(3,I c)]=some (.agg [I a,I b,I 12,I c,.nils,.str []]):=fun a b c=>by kernel_rfl
   exact this _ _ _
  have bs29:aBuildSlice Tryz.prog 29 1 [(0,.agg [I c,I id,I 12,I st.rev,.nils,.str []])]=some (.sl 61 6 [.agg [I c,I id,I 12,I st.rev,.nils,.str []]] .own):=by
   have:∀a b c,aBuildSlice Tryz.prog 29 1 [(0,.agg [I a,I b,I 12,I c,.nils,.str []])]=some (.sl 61 6 [.agg [I a,I b,I 12,I c,.nils,.str []]] .own):=fun a b c=>by kernel_rfl
   exact this _ _ _
  have e71:enterable Tryz.prog 71=true:=by kernel_rfl
  rw[rd Tryz.func41];conv in compF _ _ _ _ _ _=>cbv
  simp only[strip_rs,strip_mr,strip_nilf,Bool.false_eq_true,if_false,↓kR,kE,kK,sL,C_P,Nat.reduceEqDiff,reduceIte,Tryz.f41,c1,qk,lp,h.pst,wk,cFs _ _ e71,d1',st3,lr,b61c,bs29,sL]
  have n2:s2.length=s1.length:=by rw[←e2,set_length]
  have n3:s3.length=s2.length:=by rw[←e3,set_length]
  have W:(st.pd.map reqC).take k++(st.pd.map reqC).drop (k+1)=(rmM st.pd k).map reqC:=by simp[rmM,List.map_take,List.map_drop]
  rw[W]at d2
  have sub:(rmM st.pd k).Sublist st.pd:=rmM_sub _ _
  obtain⟨h3,f3⟩:=h1.pend (s':=s3) (pv':=.rs 33 5 P off ((st.pd.map reqC).length-1)) (pd':=rmM st.pd k) (by omega) hV3 (fun i hi i1 i2=>by rw[←e3,gset_ne i1.symm,←e2,gset_ne (fun e=>i2 (by rw[←e];exact hP))]) (d2.fr fun Q o m e=>by
   cases e
   rw[←e3,gset_ne nPV.symm]) (.inr ⟨_,_,_,rfl⟩) (fun P' hP'=>by cases hP';exact .inl hP) (Nat.le_trans sub.length_le h.pl) (h.pk.sublist (sub.map _)) fun x hx=>h.pq x (sub.subset hx)
  have l1':=g1.len
  refine⟨_,s3,rfl,⟨_,SL.sl [[I c,I id,I 12,I st.rev,.nils,.str []]] .own ⟨fun e he=>by rw[List.mem_singleton.1 he];exact⟨rfl,rfl⟩,by simp⟩,⟨.nils,rfl,.nil,rfl⟩,trivial⟩,?_,(g1.fg G).trans f3 fun i hi=>.inl hi⟩
  have:SrvI s3 V (FN G s1 s3) { st with pd:=rmM st.pd k } B:=⟨F,S,M,D,Mr,Ma,Av,r,f,comps,clock,ql,mv,vv,_,h3,b1,b2,b3,b4⟩
  exact this.wid (fun i hi=>hi.imp (fun h=>h) fun h=>⟨by omega,h.2⟩) fun i hi=>hi.elim (fun hg=>by have:=h.GL i hg;omega) (·.2)
end Srv
end

section
namespace Srv
open Go Go.Abs Go.Proofs
def compM (ms:List Mod)(k:K3):Int×List Int×Bytes :=
 if(k.1==2 || k.1==3)=true then sk [(mNm,(ms.getD k.2.2.toNat ([],[])).2)] mNm k.1 k.2.1
 else sk ms (ms.getD k.2.2.toNat ([],[])).1 k.1 k.2.1
theorem comp_enc {f:Inp}{ms:List Mod}(h:Enc f ms)(q a:Int)(i:Nat)(hi:i<ms.length):comp f ms.length (q,a,(i:Int))=compM ms (q,a,(i:Int)):=by
 have hm:modsOf f ms.length=ms:=by
  apply List.ext_getElem
  ·simp[modsOf]
  ·intro j h1 h2
   obtain⟨t1,t2⟩:=h.2 j h2
   simp only[modsOf,List.getElem_map,List.getElem_range,t1,t2]
 unfold comp compM
 simp only[Int.toNat_natCast,hm,(h.2 i hi).2]
 rw[List.getD_eq_getElem?_getD,List.getElem?_eq_getElem hi];rfl
def ansR (st:St)(r:Req):Resp :=
 if st.ms.any (nmP r.nm)=true then
  let x:=compM st.ms (r.q,r.a,((st.ms.findIdx (nmP r.nm):Nat):Int))
  ⟨r.c,r.id,x.1,st.rev,x.2.1,x.2.2⟩
 else⟨r.c,r.id,5,st.rev,[],[]⟩
abbrev stopF (V Wst:Nat)(N:Int):AV:=.fn 73 [] [.box [.ref V 0] 0,.ref Wst 0,.box [I N] 0]
theorem a73 (n:Nat){t:Heap}{V Wst D:Nat}{N start comps:Int}{a b c d e f g h i clock:AV}(hV:t[V]?=some (86,[a,b,c,d,.ref D 0]))(hD:t[D]?=some (121,[e,f,g,h,i,I comps,clock]))(hW:t[Wst]?=some (3,[I start]))(hb:0≤start∧start≤comps∧comps<1000000000) :
  aCallV Tryz.prog (den C (n+3)) (stopF V Wst N) [] t=some (.bool (decide (N≤comps-start)),t):=by
 have l0:aLoad false false 1 (.box [.ref V 0] 0) t=some (.ref V 0,t):=by rw[aLoad_one];rfl
 have l1:aLoad false false 1 (.box [I N] 0) t=some (I N,t):=by rw[aLoad_one];rfl
 have lV:aLoad false false 1 (.ref V 4) t=some (.ref D 0,t):=ldv hV (by decide) rfl
 have lD:aLoad false false 1 (.ref D 5) t=some (I comps,t):=ldv hD (by decide) rfl
 have lW:aLoad false false 1 (.ref Wst 0) t=some (I start,t):=ldv hW (by decide) rfl
 have c72:aCall Tryz.prog (den C (n+2)) 72 [.ref D 0] t=some (I comps,t):=by
  rw[aCall,if_pos (by kernel_rfl),if_neg (by simp[noRefL_cons,AV.noRef])]
  rw[rd Tryz.func72];conv in compF _ _ _ _ _ _=>cbv
  simp only[strip_rs,strip_mr,strip_nilf,Bool.false_eq_true,if_false,↓kR,kE,kK,sL,C_P,Nat.reduceEqDiff,reduceIte,Tryz.f72,lD,sL]
 have w:=wrap64 (show -9223372036854775808≤comps-start by omega) (by omega)
 show aCall Tryz.prog (den C (n+3)) 73 [.box [.ref V 0] 0,.ref Wst 0,.box [I N] 0] t=_
 rw[aCall,if_pos (by kernel_rfl),if_neg (by simp[noRefL_cons,AV.noRef])]
 have kp:(kept t t).contains Wst=true:=kept_of (glt hW) rfl
 rw[rd Tryz.func73];conv in compF _ _ _ _ _ _=>cbv
 simp only[strip_rs,strip_mr,strip_nilf,Bool.false_eq_true,if_false,↓kR,kE,kK,sL,C_P,Nat.reduceEqDiff,reduceIte,Tryz.f73,l0,l1,lV,lW,c72,w,kp,sL]
theorem st61' {s:Heap}{i:Nat}{cs x:List AV}(h:s[i]?=some (61,cs))(hc:cs.length=6)(hl:x.length=6)(hx:x.map AV.strip=x):aStore 6 s (.ref i 0) (.agg x)=some (s.set i (61,x)):=stW h (by decide) hl hc hx
theorem fk74 {env:Env}{s:Heap}{x:AV}{k:Nat}(h1:aLoad false true 6 (env 6) s=some (x,s)):finK Tryz.prog [.cell 6 61,.tmp k] env s=some (.tup [x,env k],s):=by
 simp[finK,aResult,aResL,aRes1,ag61,sz61,h1]
theorem c74n (n:Nat)(hn:30<n){s:Heap}{V:Nat}{G F:Foot}{S M D Mr Ma Av:Nat}{r:Int}{f:Inp}{comps clock:Int}{ql:List Ent}{mv vv pv:AV}{st:St}(h:SI s V G F S M D Mr Ma Av r f comps clock ql mv vv pv st)(q:Req)(hany:st.ms.any (nmP q.nm)=false){stop:AV}(hss:stop.strip=stop) :
  ∃s',den C (n+16) 74 [.ref V 0,.agg (reqC q),stop] s=some (.tup [.agg [I q.c,I q.id,I 5,I st.rev,.nils,.str []],I 0],s')∧Up0 s s':=by
 have bx:∀s,aBox false 33 (.agg (reqC q)) s=some (.box (reqC q) 0,s):=fun s=>boxV rfl s
 have l0:∀s:Heap,aLoad false false 1 (.box (reqC q) 0) s=some (I q.c,s):=fun s=>by rw[aLoad_one];rfl
 have l1:∀s:Heap,aLoad false false 1 (.box (reqC q) 1) s=some (I q.id,s):=fun s=>by rw[aLoad_one];rfl
 have l4:∀s:Heap,aLoad false false 1 (.box (reqC q) 4) s=some (.str q.nm,s):=fun s=>by rw[aLoad_one];rfl
 obtain⟨z,hz⟩:∃z,z=[I 0,I 0,I 0,I 0,AV.nils,AV.str []]:=⟨_,rfl⟩
 obtain⟨s1,e1⟩:∃s1,s++[(61,[I 0,I 0,I 0,I 0,AV.nils,AV.str []])]=s1:=⟨_,rfl⟩
 obtain⟨s2,e2⟩:∃s2,s1++[(61,[I q.c,I q.id,I 0,I st.rev,AV.nils,AV.str []])]=s2:=⟨_,rfl⟩
 have g1:Gr s s1:=e1▸Gr.app ..
 have g2:Gr s1 s2:=e2▸Gr.app ..
 have lr:aLoad false false 1 (.ref V 3) s1=some (I st.rev,s1):=ldv (g1.at h.sv) (by decide) rfl
 have b61:aBuild Tryz.prog 61 [(0,I q.c),(1,I q.id),(3,I st.rev)]=some (.agg [I q.c,I q.id,I 0,I st.rev,.nils,.str []]):=by
  have:∀a b c,aBuild Tryz.prog 61 [(0,I a),(1,I b),(3,I c)]=some (.agg [I a,I b,I 0,I c,.nils,.str []]):=fun a b c=>by kernel_rfl
  exact this _ _ _
 have st2:aStore 6 (s1++[(61,[I 0,I 0,I 0,I 0,AV.nils,AV.str []])]) (.ref s1.length 0) (.agg [I q.c,I q.id,I 0,I st.rev,.nils,.str []])=some s2:=by
  rw[st61' gapp_new rfl rfl rfl,set_end,e2]
 obtain⟨s3,c1,g3⟩:=a61 (n+8) (h.gr (g1.trans g2)) q.nm (by omega)
 have hfx:fidx (nmP q.nm) st.ms=-1:=by unfold fidx;rw[hany];rfl
 rw[hfx]at c1
 have q0:decide ((-1:Int)<0)=true:=rfl
 have n1:s1.length=s.length+1:=by rw[←e1,app_length]
 have at2:s3[s1.length]?=some (61,[I q.c,I q.id,I 0,I st.rev,AV.nils,AV.str []]):=g3.at (by rw[←e2];exact gapp_new)
 have at1:s3[s.length]?=some (61,[I 0,I 0,I 0,I 0,AV.nils,AV.str []]):=g3.at (g2.at (by rw[←e1];exact gapp_new))
 obtain⟨s4,e4⟩:∃s4,s3.set s1.length (61,[I q.c,I q.id,I 5,I st.rev,AV.nils,AV.str []])=s4:=⟨_,rfl⟩
 have st4:aStore 1 s3 (.ref s1.length 2) (I 5)=some s4:=by
  rw[Srv.st (n:=1) at2 (by decide) rfl rfl (by simp),←e4];rfl
 have at4:s4[s1.length]?=some (61,[I q.c,I q.id,I 5,I st.rev,AV.nils,AV.str []]):=by rw[←e4];exact gset_eq at2
 have lA:aLoad false true 6 (.ref s1.length 0) s4=some (.agg [I q.c,I q.id,I 5,I st.rev,AV.nils,AV.str []],s4):=ldA (n:=6) at4 (by decide) (by simp) (by decide)
 have at5:s4[s.length]?=some (61,[I 0,I 0,I 0,I 0,AV.nils,AV.str []]):=by rw[←e4,gset_ne (by omega)];exact at1
 obtain⟨s5,e5⟩:∃s5,s4.set s.length (61,[I q.c,I q.id,I 5,I st.rev,AV.nils,AV.str []])=s5:=⟨_,rfl⟩
 have st5:aStore 6 s4 (.ref s.length 0) (.agg [I q.c,I q.id,I 5,I st.rev,AV.nils,AV.str []])=some s5:=by
  rw[st61' at5 rfl rfl rfl,e5]
 have at6:s5[s.length]?=some (61,[I q.c,I q.id,I 5,I st.rev,AV.nils,AV.str []]):=by rw[←e5];exact gset_eq at5
 refine⟨s5,?_,?_⟩
 ·skip
  rw[rd Tryz.func74];conv in compF _ _ _ _ _ _=>cbv
  simp only[strip_rs,strip_mr,strip_nilf,Bool.false_eq_true,if_false,↓kR,kE,kK,sL,C_P,Nat.reduceEqDiff,reduceIte,Tryz.f74,bx,allocS z61 (by decide) ⟨nofun,rfl⟩,e1,l0,l1,lr,b61,st2,l4,c1,q0,st4,lA,st5,sL]
  rw[fk74 (x:=.agg [I q.c,I q.id,I 5,I st.rev,AV.nils,AV.str []]) (by exact ldA at6 (by decide) (by simp) (by decide))]
  rfl
 ·rw[←e5,←e4]
  exact(((g1.trans (g2.trans g3)).upd []).set (.inr (by omega)) _).set (.inr (by omega)) _
theorem IV.sol {s:Heap}{w:AV}{xs:List Int}(h:IV s w xs)(hs:w.strip=w):w.solid=true∧w.cells=[w]∧stCells w=[w]:=by
 cases h with
 | nil=>exact⟨rfl,rfl,rfl⟩
 | sl _ f _=>cases f<;>first|exact⟨rfl,rfl,rfl⟩|cases hs
 | rs Q off pre junk _ _ _ _=>exact⟨rfl,rfl,rfl⟩
theorem rd_get {p:AV}(h:Rd p)(i:Nat):compat (kLoad false p) (.get i)=true:=by
 rcases h with ⟨_,_,rfl⟩|⟨_,_,rfl⟩<;>rfl
theorem get_put {i j k:Nat}(h:i≠j):compat (.get i) (kStore (.ref j k))=true:=by
 show (i != j)=true
 simpa using h
theorem SI.memo {s s':Heap}{V:Nat}{G F:Foot}{S M D Mr Ma Av:Nat}{r:Int}{f:Inp}{comps clock comps' clock':Int}{ql ql':List Ent}{mv vv pv:AV}{st:St}(h:SI s V G F S M D Mr Ma Av r f comps clock ql mv vv pv st)(hm:Memo s' F S M D Mr Ma Av r f comps' clock' ql')(hl:s.length≤s'.length)(k:∀j,j<s.length→j≠D→j≠Mr→j≠Ma→(∀e∈ql,e.R≠j)→s'[j]?=s[j]?)(kR:∀e∈ql',e.R∈ql.map (·.R)∨s.length≤e.R) :
  SI s' V (FN G s s') F S M D Mr Ma Av r f comps' clock' ql' mv vv pv st∧Fg G s s':=by
 have ty:∀(i:Nat) (t:TypeId) (cs:List AV),s[i]?=some (t,cs)→t≠121→t≠mapTy→t≠163→s'[i]?=some (t,cs):=fun i t cs hi t1 t2 t3=>by
  rw[k i (glt hi) (ty_ne hi h.m.db.db t1) (ty_ne hi h.m.db.rm t2) (ty_ne hi h.m.db.am t2) (fun e he e'=>by
   obtain⟨_,_,_,hh,_⟩:=h.m.q.ro e he
   rw[e',hi]at hh;cases hh;exact t3 rfl),hi]
 refine⟨⟨hm,ty _ _ _ h.sv (by decide) (by decide) (by decide),h.mm.tf fun i cs hi=>ty i _ cs hi (by decide) (by decide) (by decide),h.vm.tf fun i cs hi=>ty i _ cs hi (by decide) (by decide) (by decide),h.pm.tf fun i cs hi=>ty i _ cs hi (by decide) (by decide) (by decide),h.sp,h.enc,h.ok,h.vl,h.nF,h.pl,h.pk,h.pq,fun i hi=>.inl (h.G1 i hi),⟨.inl h.G2.1,.inl h.G2.2.1,.inl h.G2.2.2.1,.inl h.G2.2.2.2.1,fun e he=>?_,fun P hP=>.inl (h.G2.2.2.2.2.2 P hP)⟩,fun i hi=>?_,h.bd⟩,⟨hl,fun i hi hg=>?_,fun i t cs hi _ a2 a3 _ a5 _=>ty i t cs hi a2 a3 a5⟩⟩
 ·rcases kR e he with e'|e'
  ·obtain⟨x,hx,hxe⟩:=List.mem_map.1 e'
   exact .inl (hxe▸h.G2.2.2.2.2.1 x hx)
  ·obtain⟨_,_,_,hh,_⟩:=hm.q.ro e he
   exact .inr ⟨e',glt hh⟩
 ·rcases hi with hi|hi
  ·have:=h.GL i hi;omega
  ·exact hi.2
 ·exact k i hi (fun e=>hg (e▸h.G2.2.1)) (fun e=>hg (e▸h.G2.2.2.1)) (fun e=>hg (e▸h.G2.2.2.2.1)) fun e he e'=>hg (e'▸h.G2.2.2.2.2.1 e he)
theorem SI.wrapped {s s3 s4 s9:Heap}{V:Nat}{G F:Foot}{S M D Mr Ma Av:Nat}{r:Int}{f:Inp}{comps clock:Int}{ql:List Ent}{mv vv pv:AV}{st:St}(g:Gr s s3)(hG:∀i,G i→i<s.length)(h:SI s4 V (FN G s3 s4) F S M D Mr Ma Av r f comps clock ql mv vv pv st)(k:Fg G s3 s4)(hl:s4.length≤s9.length)(i1 i2:Nat)(h1:s.length≤i1∧s.length≤i2)(t1:∃cs,s3[i1]?=some (61,cs))(t2:∃cs,s3[i2]?=some (61,cs))(o:∀j,j<s4.length→j≠i1→j≠i2→s9[j]?=s4[j]?) :
  SI s9 V (FN G s s9) F S M D Mr Ma Av r f comps clock ql mv vv pv st∧Fg G s s9:=by
 obtain⟨c1,t1⟩:=t1
 obtain⟨c2,t2⟩:=t2
 have T1:s4[i1]?=some (61,c1):=k.tf _ _ _ t1 (by decide) (by decide) (by decide) (by decide) (by decide) (by decide)
 have T2:s4[i2]?=some (61,c2):=k.tf _ _ _ t2 (by decide) (by decide) (by decide) (by decide) (by decide) (by decide)
 have ty:∀(i:Nat) (t:TypeId) (cs:List AV),s4[i]?=some (t,cs)→t≠61→s9[i]?=some (t,cs):=fun i t cs hi ht=>by
  rw[o i (glt hi) (ty_ne hi T1 ht) (ty_ne hi T2 ht),hi]
 have l1:=g.len
 have l2:=k.len
 have inF:∀i,FN G s3 s4 i→i≠i1∧i≠i2:=fun i hi=>by
  have b1:=glt t1
  have b2:=glt t2
  rcases hi with hi|hi
  ·have:=hG i hi;omega
  ·omega
 have rows:Rows s4 s9:=fun i t cs hi ht=>ty i t cs hi (by rcases ht with rfl|rfl<;>decide)
 have m:=h.m
 have up:∀i,FN G s3 s4 i→FN G s s9 i:=fun i hi=>hi.imp (fun h=>h) fun h=>⟨by omega,by omega⟩
 refine⟨⟨⟨⟨m.db.inp.keep fun i hi=>o i (m.hF i hi) (inF i (h.G1 i hi)).1 (inF i (h.G1 i hi)).2,ty _ _ _ m.db.db (by decide),ty _ _ _ m.db.av (by decide),ty _ _ _ m.db.rm (by decide),ty _ _ _ m.db.am (by decide)⟩,⟨fun e he=>by
  obtain⟨_,_,_,hh,_⟩:=m.q.ro e he
  exact(m.q.ro e he).keep rows (by rw[ty _ _ _ hh (by decide),hh]),m.q.sem,m.q.ks,m.q.Rs,m.q.us,m.q.ub⟩,fun i hi=>Nat.lt_of_lt_of_le (m.hF i hi) hl,m.hFM,m.ne,m.Fq,m.ch,m.cb⟩,ty _ _ _ h.sv (by decide),h.mm.tf fun i cs hi=>ty i _ cs hi (by decide),h.vm.tf fun i cs hi=>ty i _ cs hi (by decide),h.pm.tf fun i cs hi=>ty i _ cs hi (by decide),h.sp,h.enc,h.ok,h.vl,h.nF,h.pl,h.pk,h.pq,fun i hi=>up i (h.G1 i hi),⟨up _ h.G2.1,up _ h.G2.2.1,up _ h.G2.2.2.1,up _ h.G2.2.2.2.1,fun e he=>up _ (h.G2.2.2.2.2.1 e he),fun P hP=>up _ (h.G2.2.2.2.2.2 P hP)⟩,fun i hi=>?_,h.bd⟩,⟨by omega,fun i hi hg=>?_,fun i t cs hi a1 a2 a3 a4 a5 a6=>?_⟩⟩
 ·rcases hi with hi|hi
  ·have:=hG i hi;omega
  ·exact hi.2
 ·rw[o i (by omega) (by omega) (by omega),k.old i (by omega) hg,g.get hi]
 ·have:=glt hi
  rw[o i (by omega) (by omega) (by omega)]
  exact k.tf i t cs (g.at hi) a1 a2 a3 a4 a5 a6
set_option maxHeartbeats 2000000 in
theorem c74 (n:Nat)(hn:140<n)(hn2:n<700000){s:Heap}{V:Nat}{G F:Foot}{S M D Mr Ma Av:Nat}{r:Int}{f:Inp}{comps clock:Int}{ql:List Ent}{mv vv pv:AV}{st:St}(h:SI s V G F S M D Mr Ma Av r f comps clock ql mv vv pv st)(q:Req)(hq:1≤q.q)(hany:st.ms.any (nmP q.nm)=true)(hcm:comps<1000000000)(hck:clock<1000000000){Wst:Nat}{N start:Int}(hW:s[Wst]?=some (3,[I start]))(hst:0≤start∧start≤comps) :
  (∃cells s' ql' comps' clock',den C (n+16) 74 [.ref V 0,.agg (reqC q),stopF V Wst N] s=some (.tup [.agg cells,I 0],s')∧RC1 s' cells (ansR st q)∧SI s' V (FN G s s') F S M D Mr Ma Av r f comps' clock' ql' mv vv pv st∧Fg G s s'∧comps≤comps'∧comps'≤comps+1∧clock'=clock+1) ∨
  (N≤comps-start∧∃cells s',den C (n+16) 74 [.ref V 0,.agg (reqC q),stopF V Wst N] s=some (.tup [.agg cells,I 12],s')∧cells.length=6∧cells.map AV.strip=cells∧SI s' V (FN G s s') F S M D Mr Ma Av r f comps clock ql mv vv pv st∧Fg G s s'):=by
 have bx:∀s,aBox false 33 (.agg (reqC q)) s=some (.box (reqC q) 0,s):=fun s=>boxV rfl s
 have l0:∀s:Heap,aLoad false false 1 (.box (reqC q) 0) s=some (I q.c,s):=fun s=>by rw[aLoad_one];rfl
 have l1:∀s:Heap,aLoad false false 1 (.box (reqC q) 1) s=some (I q.id,s):=fun s=>by rw[aLoad_one];rfl
 have l2:∀s:Heap,aLoad false false 1 (.box (reqC q) 2) s=some (I q.q,s):=fun s=>by rw[aLoad_one];rfl
 have l3:∀s:Heap,aLoad false false 1 (.box (reqC q) 3) s=some (I q.a,s):=fun s=>by rw[aLoad_one];rfl
 have l4:∀s:Heap,aLoad false false 1 (.box (reqC q) 4) s=some (.str q.nm,s):=fun s=>by rw[aLoad_one];rfl
 obtain⟨s1,e1⟩:∃s1,s++[(61,[I 0,I 0,I 0,I 0,AV.nils,AV.str []])]=s1:=⟨_,rfl⟩
 obtain⟨s2,e2⟩:∃s2,s1++[(61,[I q.c,I q.id,I 0,I st.rev,AV.nils,AV.str []])]=s2:=⟨_,rfl⟩
 have g1:Gr s s1:=e1▸Gr.app ..
 have g2:Gr s1 s2:=e2▸Gr.app ..
 have lr:aLoad false false 1 (.ref V 3) s1=some (I st.rev,s1):=ldv (g1.at h.sv) (by decide) rfl
 have b61:aBuild Tryz.prog 61 [(0,I q.c),(1,I q.id),(3,I st.rev)]=some (.agg [I q.c,I q.id,I 0,I st.rev,.nils,.str []]):=by
  have:∀a b c,aBuild Tryz.prog 61 [(0,I a),(1,I b),(3,I c)]=some (.agg [I a,I b,I 0,I c,.nils,.str []]):=fun a b c=>by kernel_rfl
  exact this _ _ _
 have st2:aStore 6 (s1++[(61,[I 0,I 0,I 0,I 0,AV.nils,AV.str []])]) (.ref s1.length 0) (.agg [I q.c,I q.id,I 0,I st.rev,.nils,.str []])=some s2:=by
  rw[st61' gapp_new rfl rfl rfl,set_end,e2]
 obtain⟨s3,c1,g3⟩:=a61 (n+8) (h.gr (g1.trans g2)) q.nm (by omega)
 have g13:=g1.trans (g2.trans g3)
 have h3:=h.gr g13
 obtain⟨hk,hp⟩:=findIdx_any hany
 obtain⟨k,hkk⟩:∃k,st.ms.findIdx (nmP q.nm)=k:=⟨_,rfl⟩
 have hfx:fidx (nmP q.nm) st.ms=(k:Int):=by unfold fidx;rw[if_pos hany,hkk]
 rw[hfx]at c1
 rw[hkk]at hk
 have h8:=SI.len8 h.ok
 have qk:decide ((k:Int)<0)=false:=decide_eq_false (by omega)
 have n1:s1.length=s.length+1:=by rw[←e1,app_length]
 have at2:s3[s1.length]?=some (61,[I q.c,I q.id,I 0,I st.rev,AV.nils,AV.str []]):=g3.at (by rw[←e2];exact gapp_new)
 have at1:s3[s.length]?=some (61,[I 0,I 0,I 0,I 0,AV.nils,AV.str []]):=g3.at (g2.at (by rw[←e1];exact gapp_new))
 have lV4:aLoad false false 1 (.ref V 4) s3=some (.ref D 0,s3):=ldv h3.sv (by decide) rfl
 have b79:aBuild Tryz.prog 79 [(0,I q.q),(1,I q.a),(2,I k)]=some (Kv (q.q,q.a,(k:Int))):=by
  have:∀a b c,aBuild Tryz.prog 79 [(0,I a),(1,I b),(2,I c)]=some (Key a b c):=fun a b c=>by kernel_rfl
  exact this _ _ _
 have henc:=h.enc (by intro e;rw[e]at hk;cases hk)
 have hq0:(q.q==0)=false:=by simp;omega
 have hsl:(stopF V Wst N).strip=stopF V Wst N:=rfl
 have hso:(stopF V Wst N).solid=true:=rfl
 have hW3:s3[Wst]?=some (3,[I start]):=g13.at hW
 have l13:=g13.len
 have stopX:∀m,∀t:Heap,(∀j,j<s3.length→j≠Ma→j≠D→t[j]?=s3[j]?)→(∃p,t[D]?=some (121,[.fn 35 [] [.ref Av 0],.ref S 0,.mr Mr,.mr Ma,p,I comps,I clock]))→aCallV Tryz.prog (den C (m+3)) (stopF V Wst N) [] t=some (.bool (decide (N≤comps-start)),t):=by
  rintro m t ht ⟨p,hp⟩
  have hV':t[V]?=some (86,[mv,vv,pv,I st.rev,.ref D 0]):=by
   rw[ht V (glt h3.sv) (ty_ne h3.sv h3.m.db.am (by decide)) (ty_ne h3.sv h3.m.db.db (by decide))];exact h3.sv
  have hW':t[Wst]?=some (3,[I start]):=by
   rw[ht Wst (glt hW3) (ty_ne hW3 h3.m.db.am (by decide)) (ty_ne hW3 h3.m.db.db (by decide))];exact hW3
  exact a73 m hV' hp hW' ⟨hst.1,hst.2,hcm⟩
 by_cases hgo:hitQ f r ql (q.q,q.a,(k:Int))=true∨comps-start<N
 ·left
  obtain⟨v',s4,ql',comps',d1,d2,d3,d4,d5,d6,d7,d8,d9,d10,d11⟩:=c90 (n+1) h3.m hcm hck (by omega) (by omega) henc.1 h8 q.q q.a hq0 k hk (g:=73) (l:=[.box [.ref V 0] 0,.ref Wst 0,.box [I N] 0]) hsl hso (hgo.elim .inl fun hlt=>.inr fun t ht hp=>by
   have:=stopX (n+9) t ht hp
   rwa [decide_eq_false (show ¬N≤comps-start by omega)]at this)
  rw[comp_enc henc q.q q.a k hk]at d1 d6
  obtain⟨x,hx⟩:∃x,compM st.ms (q.q,q.a,(k:Int))=x:=⟨_,rfl⟩
  rw[hx]at d1 d6
  have cl:aCall Tryz.prog (den C (n+15)) 90 [.ref D 0,Kv (q.q,q.a,(k:Int)),stopF V Wst N] s3=some (.tup [.agg [v',.str x.2.2],I 0],s4):=by
   rw[aCall,if_pos (by kernel_rfl),if_neg (by simp[noRefL_cons,AV.noRef])]
   exact d1
  have hsi:=h3.memo d2 d9 d10 d11
  have ty4:∀{i:Nat} {cs:List AV},s3[i]?=some (61,cs)→s4[i]?=some (61,cs):=fun {i cs} hi=>hsi.2.tf i _ cs hi (by decide) (by decide) (by decide) (by decide) (by decide) (by decide)
  have B1:=ty4 at1
  have B2:=ty4 at2
  obtain⟨s5,e5⟩:∃s5,s4++[(82,[v',AV.str x.2.2])]=s5:=⟨_,rfl⟩
  have g5:Gr s4 s5:=e5▸Gr.app ..
  have st5:aStore 2 (s4++[(82,[AV.nils,AV.str []])]) (.ref s4.length 0) (.agg [v',.str x.2.2])=some s5:=by
   rw[stW (n:=2) (cs:=[.nils,.str []]) gapp_new (by decide) rfl rfl (by show [v'.strip,_]=_;rw[d7];rfl),set_end,e5]
  have at5:s5[s4.length]?=some (82,[v',AV.str x.2.2]):=by rw[←e5];exact gapp_new
  have m0:aLoad false false 1 (.ref s4.length 0) s5=some (v',s5):=ldv at5 (by decide) rfl d7
  have m1:aLoad false false 1 (.ref s4.length 1) s5=some (.str x.2.2,s5):=ldv at5 (by decide) rfl
  have nv5:=d6.gr g5
  obtain⟨p,p1,p2,p3⟩:=nv5.at (i:=0) (by simp)
  have p1:aIndexAddr Tryz.prog 59 v' (I 0)=some p:=p1
  have p2:aLoad false false 1 p s5=some (I x.1,s5):=p2
  obtain⟨w,w1,w2,w3⟩:=nv5.tail
  have C1:=g5.at B1
  have C2:=g5.at B2
  have l34:=d9
  have h12:=glt B2
  have h12':=glt at2
  obtain⟨s6,e6⟩:∃s6,s5.set s1.length (61,[I q.c,I q.id,I x.1,I st.rev,AV.nils,AV.str []])=s6:=⟨_,rfl⟩
  have st6:aStore 1 s5 (.ref s1.length 2) (I x.1)=some s6:=by
   rw[Srv.st (n:=1) C2 (by decide) rfl rfl (by simp),←e6];rfl
  have C6:s6[s1.length]?=some (61,[I q.c,I q.id,I x.1,I st.rev,AV.nils,AV.str []]):=by rw[←e6];exact gset_eq C2
  obtain⟨s7,e7⟩:∃s7,s6.set s1.length (61,[I q.c,I q.id,I x.1,I st.rev,w,AV.str []])=s7:=⟨_,rfl⟩
  obtain⟨sol1,sol2,sol3⟩:=w2.sol w3
  have st7:aStore 1 s6 (.ref s1.length 4) w=some s7:=by
   rw[Srv.st (n:=1) C6 (by decide) sol1 (by rw[sol2];rfl) (by simp),←e7,sol3];rfl
  have C7:s7[s1.length]?=some (61,[I q.c,I q.id,I x.1,I st.rev,w,AV.str []]):=by rw[←e7];exact gset_eq C6
  obtain⟨s8,e8⟩:∃s8,s7.set s1.length (61,[I q.c,I q.id,I x.1,I st.rev,w,AV.str x.2.2])=s8:=⟨_,rfl⟩
  have st8:aStore 1 s7 (.ref s1.length 5) (.str x.2.2)=some s8:=by
   rw[Srv.st (n:=1) C7 (by decide) rfl rfl (by simp),←e8];rfl
  have C8:s8[s1.length]?=some (61,[I q.c,I q.id,I x.1,I st.rev,w,AV.str x.2.2]):=by rw[←e8];exact gset_eq C7
  have lA:aLoad false true 6 (.ref s1.length 0) s8=some (.agg [I q.c,I q.id,I x.1,I st.rev,w,AV.str x.2.2],s8):=ldA (n:=6) C8 (by decide) (by simp) (by decide)
  have D8:s8[s.length]?=some (61,[I 0,I 0,I 0,I 0,AV.nils,AV.str []]):=by rw[←e8,gset_ne (by omega),←e7,gset_ne (by omega),←e6,gset_ne (by omega)];exact C1
  obtain⟨s9,e9⟩:∃s9,s8.set s.length (61,[I q.c,I q.id,I x.1,I st.rev,w,AV.str x.2.2])=s9:=⟨_,rfl⟩
  have st9:aStore 6 s8 (.ref s.length 0) (.agg [I q.c,I q.id,I x.1,I st.rev,w,AV.str x.2.2])=some s9:=by
   rw[st61' D8 rfl rfl (by simp[w3]),e9]
  have D9:s9[s.length]?=some (61,[I q.c,I q.id,I x.1,I st.rev,w,AV.str x.2.2]):=by rw[←e9];exact gset_eq D8
  have z00:((0:Int) != 0)=false:=rfl
  rw[rd Tryz.func74];conv in compF _ _ _ _ _ _=>cbv
  simp only[strip_rs,strip_mr,strip_nilf,Bool.false_eq_true,if_false,↓kR,kE,kK,sL,C_P,Nat.reduceEqDiff,reduceIte,Tryz.f74,bx,allocS z61 (by decide) ⟨nofun,rfl⟩,e1,l0,l1,l2,l3,lr,b61,st2,l4,c1,qk,lV4,b79,hsl,cl,allocS z82 (by decide) ⟨nofun,rfl⟩,st5,z00,m0,m1,p1,p2,w1,st6,w3,st7,st8,lA,st9,rd_get p3,get_put (show s4.length≠s1.length by omega),sL]
  rw[fk74 (x:=.agg [I q.c,I q.id,I x.1,I st.rev,w,AV.str x.2.2]) (by exact ldA D9 (by decide) (by simp) (by decide))]
  have up9:Up0 s4 s4:=Upd.refl _ _
  have o9:∀j,j≠s.length→j≠s1.length→s9[j]?=s5[j]?:=fun j j1 j2=>by rw[←e9,gset_ne j1.symm,←e8,gset_ne j2.symm,←e7,gset_ne j2.symm,←e6,gset_ne j2.symm]
  have n9:s9.length=s5.length:=by rw[←e9,set_length,←e8,set_length,←e7,set_length,←e6,set_length]
  have l5:=g5.len
  refine⟨[I q.c,I q.id,I x.1,I st.rev,w,AV.str x.2.2],s9,ql',comps',clock+1,rfl,?_,?_,?_,d3,d4,rfl⟩
  ·unfold ansR
   rw[if_pos hany,hkk,hx]
   refine⟨w,rfl,(w2.fr fun Q off m e=>?_),w3⟩
   obtain⟨cs,hc⟩:=w2.row e
   exact o9 Q (fun e'=>by rw[e',C1]at hc;cases hc) (fun e'=>by rw[e',C2]at hc;cases hc)
  ·exact(SI.wrapped g13 h.GL hsi.1 hsi.2 (s9:=s9) (by omega) s.length s1.length ⟨Nat.le_refl _,by omega⟩ ⟨_,at1⟩ ⟨_,at2⟩ fun j j0 j1 j2=>by rw[o9 j j1 j2,g5.get j0]).1
  ·exact(SI.wrapped g13 h.GL hsi.1 hsi.2 (s9:=s9) (by omega) s.length s1.length ⟨Nat.le_refl _,by omega⟩ ⟨_,at1⟩ ⟨_,at2⟩ fun j j0 j1 j2=>by rw[o9 j j1 j2,g5.get j0]).2
 ·right
  have hmiss:hitQ f r ql (q.q,q.a,(k:Int))=false:=by
   cases hx:hitQ f r ql (q.q,q.a,(k:Int)) with
   | true=>exact absurd (.inl hx) hgo
   | false=>rfl
  have hN:N≤comps-start:=by
   rcases Int.lt_or_le (comps-start) N with h'|h'
   ·exact absurd (.inr h') hgo
   ·exact h'
  refine⟨hN,?_⟩
  obtain⟨s4,d1,d2,d3,d4⟩:=x90 (n+1) h3.m (by omega) q.q q.a hq0 k (g:=73) (l:=[.box [.ref V 0] 0,.ref Wst 0,.box [I N] 0]) hsl hso hmiss (fun m hm t ht hp=>by
   obtain⟨m',rfl⟩:∃m',m=m'+3:=⟨m-3,by omega⟩
   have:=stopX m' t ht hp
   rwa [decide_eq_true hN]at this)
  have cl:aCall Tryz.prog (den C (n+15)) 90 [.ref D 0,Kv (q.q,q.a,(k:Int)),stopF V Wst N] s3=some (.tup [.agg [.nils,.str []],I 12],s4):=by
   rw[aCall,if_pos (by kernel_rfl),if_neg (by simp[noRefL_cons,AV.noRef])]
   exact d1
  have hsi:=h3.memo d2 d3 (fun j j1 j2 _ j4 _=>d4 j j1 j2 j4) fun e he=>.inl (List.mem_map.2 ⟨e,he,rfl⟩)
  have ty4:∀{i:Nat} {cs:List AV},s3[i]?=some (61,cs)→s4[i]?=some (61,cs):=fun {i cs} hi=>hsi.2.tf i _ cs hi (by decide) (by decide) (by decide) (by decide) (by decide) (by decide)
  have B1:=ty4 at1
  obtain⟨s5,e5⟩:∃s5,s4++[(82,[AV.nils,AV.str []])]=s5:=⟨_,rfl⟩
  have g5:Gr s4 s5:=e5▸Gr.app ..
  have st5:aStore 2 (s4++[(82,[AV.nils,AV.str []])]) (.ref s4.length 0) (.agg [.nils,.str []])=some s5:=by
   rw[stW (n:=2) (cs:=[.nils,.str []]) gapp_new (by decide) rfl rfl rfl,set_end,e5]
  have C1:=g5.at B1
  have b61z:aBuild Tryz.prog 61 []=some (.agg [I 0,I 0,I 0,I 0,.nils,.str []]):=by kernel_rfl
  obtain⟨s6,e6⟩:∃s6,s5.set s.length (61,[I 0,I 0,I 0,I 0,AV.nils,AV.str []])=s6:=⟨_,rfl⟩
  have st6:aStore 6 s5 (.ref s.length 0) (.agg [I 0,I 0,I 0,I 0,AV.nils,AV.str []])=some s6:=by
   rw[st61' C1 rfl rfl rfl,e6]
  have D6:s6[s.length]?=some (61,[I 0,I 0,I 0,I 0,AV.nils,AV.str []]):=by rw[←e6];exact gset_eq C1
  have z12:((12:Int) != 0)=true:=rfl
  rw[rd Tryz.func74];conv in compF _ _ _ _ _ _=>cbv
  simp only[strip_rs,strip_mr,strip_nilf,Bool.false_eq_true,if_false,↓kR,kE,kK,sL,C_P,Nat.reduceEqDiff,reduceIte,Tryz.f74,bx,allocS z61 (by decide) ⟨nofun,rfl⟩,e1,l0,l1,l2,l3,lr,b61,st2,l4,c1,qk,lV4,b79,hsl,cl,allocS z82 (by decide) ⟨nofun,rfl⟩,st5,z12,b61z,st6,sL]
  rw[fk74 (x:=.agg [I 0,I 0,I 0,I 0,AV.nils,AV.str []]) (by exact ldA D6 (by decide) (by simp) (by decide))]
  have n6:s6.length=s5.length:=by rw[←e6,set_length]
  have l5:=g5.len
  have h12:=glt at2
  have fx:=SI.wrapped g13 h.GL hsi.1 hsi.2 (s9:=s6) (by omega) s.length s1.length ⟨Nat.le_refl _,by omega⟩ ⟨_,at1⟩ ⟨_,at2⟩ fun j j0 j1 j2=>by rw[←e6,gset_ne j1.symm,g5.get j0]
  exact⟨_,s6,rfl,rfl,rfl,fx.1,fx.2⟩
end Srv
end

section
namespace Srv
open Go Go.Abs Go.Proofs
theorem SI.chg {s s':Heap}{V:Nat}{G F:Foot}{S M D Mr Ma Av:Nat}{r:Int}{f:Inp}{comps clock:Int}{ql:List Ent}{mv vv pv:AV}{st:St}(h:SI s V G F S M D Mr Ma Av r f comps clock ql mv vv pv st)(hl:s.length≤s'.length)(ty:∀(i:Nat)(t:TypeId)(cs:List AV),s[i]?=some (t,cs)→t≠61→s'[i]?=some (t,cs))(kF:∀i,F i→s'[i]?=s[i]?):SI s' V G F S M D Mr Ma Av r f comps clock ql mv vv pv st:=by
 have rows:Rows s s':=fun i t cs hi ht=>ty i t cs hi (by rcases ht with rfl|rfl<;>decide)
 have m:=h.m
 exact⟨⟨⟨m.db.inp.keep kF,ty _ _ _ m.db.db (by decide),ty _ _ _ m.db.av (by decide),ty _ _ _ m.db.rm (by decide),ty _ _ _ m.db.am (by decide)⟩,⟨fun e he=>by
  obtain⟨_,_,_,hh,_⟩:=m.q.ro e he
  exact(m.q.ro e he).keep rows (by rw[ty _ _ _ hh (by decide),hh]),m.q.sem,m.q.ks,m.q.Rs,m.q.us,m.q.ub⟩,fun i hi=>Nat.lt_of_lt_of_le (m.hF i hi) hl,m.hFM,m.ne,m.Fq,m.ch,m.cb⟩,ty _ _ _ h.sv (by decide),h.mm.tf fun i cs hi=>ty i _ cs hi (by decide),h.vm.tf fun i cs hi=>ty i _ cs hi (by decide),h.pm.tf fun i cs hi=>ty i _ cs hi (by decide),h.sp,h.enc,h.ok,h.vl,h.nF,h.pl,h.pk,h.pq,h.G1,h.G2,fun i hi=>Nat.lt_of_lt_of_le (h.GL i hi) hl,h.bd⟩
theorem SL.tailS {ty z t:Nat}(hz:0<z)(hu:Tryz.prog.underlying t=some (.slice ty))(hz':szOf Tryz.prog ty=some z){s:Heap}{v:AV}{e:List AV}{es:List (List AV)}(h:SL ty z s v (e::es)):∃w,aSl Tryz.prog t v (some (I 1)) none none=some w∧SL ty z s w es∧w.strip=w∧∀P off n,v=.rs ty z P off n→∃off' n',w=.rs ty z P off' n':=by
 obtain⟨l,hl⟩:∃l,l=e::es:=⟨_,rfl⟩
 rw[←hl]at h
 cases h with
 | nil=>cases hl
 | sl _ f h =>
  subst hl
  refine⟨.sl ty z (es.map .agg) .sh,?_,.sl _ _ ⟨fun x hx=>h.1 x (by simp[hx]),by have:=h.2;simp at this;omega⟩,rfl,fun _ _ _ e=>by cases e⟩
  have:(1:Int)≤es.length+1:=by omega
  simp[aSl,hu,hz',aSlice,aBound,this]
 | rs Q off pre junk _ h hQ hp hn =>
  subst hl
  have he:=(h.1 e (by simp)).1
  refine⟨.rs ty z Q (off+z) es.length,?_,?_,rfl,fun P off' n e=>by cases e;exact⟨_,_,rfl⟩⟩
  ·have:(1:Int)≤es.length+1:=by omega
   simp[aSl,hu,hz',aRsTake,aBound,this]
  ·refine SL.rs Q (off+z) (pre++e) junk es ⟨fun x hx=>h.1 x (by simp[hx]),by have:=h.2;simp at this;omega⟩ (by rw[hQ];simp) (by simp[hp,he]) (by simp;omega)
theorem SI.wid {s:Heap}{V:Nat}{G G' F:Foot}{S M D Mr Ma Av:Nat}{r:Int}{f:Inp}{comps clock:Int}{ql:List Ent}{mv vv pv:AV}{st:St}(h:SI s V G F S M D Mr Ma Av r f comps clock ql mv vv pv st)(k:∀i,G i→G' i)(l:∀i,G' i→i<s.length):SI s V G' F S M D Mr Ma Av r f comps clock ql mv vv pv st :=
 ⟨h.m,h.sv,h.mm,h.vm,h.pm,h.sp,h.enc,h.ok,h.vl,h.nF,h.pl,h.pk,h.pq,fun i hi=>k i (h.G1 i hi),⟨k _ h.G2.1,k _ h.G2.2.1,k _ h.G2.2.2.1,k _ h.G2.2.2.2.1,fun e he=>k _ (h.G2.2.2.2.2.1 e he),fun P hP=>k _ (h.G2.2.2.2.2.2 P hP)⟩,l,h.bd⟩
theorem r74 (n:Nat)(hn:140<n)(hn2:n<700000){s:Heap}{V:Nat}{G F:Foot}{S M D Mr Ma Av:Nat}{r:Int}{f:Inp}{comps clock:Int}{ql:List Ent}{mv vv pv:AV}{st:St}(h:SI s V G F S M D Mr Ma Av r f comps clock ql mv vv pv st)(q:Req)(hq:1≤q.q)(hcm:comps<1000000000)(hck:clock<1000000000){Wst:Nat}{N start:Int}(hW:s[Wst]?=some (3,[I start]))(hst:0≤start∧start≤comps) :
  (∃cells s' ql' comps' clock',aCall Tryz.prog (den C (n+16)) 74 [.ref V 0,.agg (reqC q),stopF V Wst N] s=some (.tup [.agg cells,I 0],s')∧RC1 s' cells (ansR st q)∧SI s' V (FN G s s') F S M D Mr Ma Av r f comps' clock' ql' mv vv pv st∧Fg G s s'∧comps≤comps'∧comps'≤comps+1∧clock'≤clock+1) ∨
  (N≤comps-start∧∃cells s',aCall Tryz.prog (den C (n+16)) 74 [.ref V 0,.agg (reqC q),stopF V Wst N] s=some (.tup [.agg cells,I 12],s')∧cells.length=6∧cells.map AV.strip=cells∧SI s' V (FN G s s') F S M D Mr Ma Av r f comps clock ql mv vv pv st∧Fg G s s'):=by
 have ac:∀x,den C (n+16) 74 [.ref V 0,.agg (reqC q),stopF V Wst N] s=x→aCall Tryz.prog (den C (n+16)) 74 [.ref V 0,.agg (reqC q),stopF V Wst N] s=x:=fun x hx=>by
  rw[aCall,if_pos (by kernel_rfl),if_neg (by simp[noRefL_cons,AV.noRef])];exact hx
 cases hany:st.ms.any (nmP q.nm) with
 | true =>
  rcases c74 n hn hn2 h q hq hany hcm hck hW hst (N:=N) with ⟨a,b,c,d,e,h1,h2,h3,h4,h5,h6,h7⟩|⟨h0,a,b,h1,h2⟩
  ·exact .inl ⟨a,b,c,d,e,ac _ h1,h2,h3,h4,h5,h6,by omega⟩
  ·exact .inr ⟨h0,a,b,ac _ h1,h2⟩
 | false =>
  obtain⟨s',h1,u⟩:=c74n n (by omega) h q hany (stop:=stopF V Wst N) rfl
  refine .inl ⟨_,s',ql,comps,clock,ac _ h1,?_,?_,u.fg G,Int.le_refl _,by omega,by omega⟩
  ·unfold ansR
   rw[if_neg (by rw[hany];decide)]
   exact⟨.nils,rfl,.nil,rfl⟩
  ·have hu:=h.up u
   exact hu.wid (fun i hi=>.inl hi) fun i hi=>hi.elim (fun hg=>by have:=h.GL i hg;have:=u.len;omega) (·.2)
theorem SL.rowAt {ty z:Nat}{s:Heap}{v:AV}{es:List (List AV)}(h:SL ty z s v es){Q:Nat}(hQ:rowOf v=some Q):∃cs,s[Q]?=some (ty,cs):=by
 cases h with
 | nil=>cases hQ
 | sl _ f h=>cases hQ
 | rs Q' off pre junk _ h hQ' hp hn=>cases hQ;exact⟨_,hQ'⟩
theorem rd_alloc {p:AV}(h:Rd p):compat (kLoad false p) .alloc=true:=by
 rcases h with ⟨_,_,rfl⟩|⟨_,_,rfl⟩<;>rfl
structure RunOK (st:St)(N:Int)(l:List Resp)(st':St)(m:Nat):Prop where
 le:m≤st.pd.length
 ans:l=(st.pd.take m).map (ansR st)
 eq:st'={ st with pd:=st.pd.drop m }
 all:m=st.pd.length∨N≤m
theorem c42n (n:Nat){s:Heap}{V:Nat}{N:Int}(hN:N<0):den C (n+1) 42 [.ref V 0,I N] s=some (.tup [.nils,I 1],s):=by
 have bx:∀s,aBox false 27 (.ref V 0) s=some (.box [.ref V 0] 0,s):=fun s=>boxV rfl s
 have bx3:∀s,aBox false 3 (I N) s=some (.box [I N] 0,s):=fun s=>boxV rfl s
 have l1:∀s:Heap,aLoad false false 1 (.box [I N] 0) s=some (I N,s):=fun s=>by rw[aLoad_one];rfl
 have q:decide (N<0)=true:=decide_eq_true hN
 rw[rd Tryz.func42];conv in compF _ _ _ _ _ _=>cbv
 simp only[strip_rs,strip_mr,strip_nilf,Bool.false_eq_true,if_false,↓kR,kE,kK,sL,C_P,Nat.reduceEqDiff,reduceIte,Tryz.f42,bx,bx3,l1,q,sL]
set_option maxHeartbeats 4000000 in
theorem c42 (n:Nat)(hn:140<n)(hn2:n<700000){s:Heap}{V:Nat}{G F:Foot}{S M D Mr Ma Av:Nat}{r:Int}{f:Inp}{comps clock:Int}{ql:List Ent}{mv vv pv:AV}{st:St}(h:SI s V G F S M D Mr Ma Av r f comps clock ql mv vv pv st)(hcm:comps<900000000)(hck:clock<900000000){N:Int}(hN:0≤N) :
  ∃v s' comps' clock' ql' pv' l st' m,den C (n+17) 42 [.ref V 0,I N] s=some (.tup [v,I 0],s')∧RV s' v l∧RunOK st N l st' m∧SI s' V (FN G s s') F S M D Mr Ma Av r f comps' clock' ql' mv vv pv' st'∧Fg G s s'∧comps'≤comps+20∧clock'≤clock+20:=by
 have bx:∀s,aBox false 27 (.ref V 0) s=some (.box [.ref V 0] 0,s):=fun s=>boxV rfl s
 have bx3:∀s,aBox false 3 (I N) s=some (.box [I N] 0,s):=fun s=>boxV rfl s
 have l1:∀s:Heap,aLoad false false 1 (.box [I N] 0) s=some (I N,s):=fun s=>by rw[aLoad_one];rfl
 have lb:∀s:Heap,aLoad false false 1 (.box [.ref V 0] 0) s=some (.ref V 0,s):=fun s=>by rw[aLoad_one];rfl
 have q:decide (N<0)=false:=decide_eq_false (by omega)
 have lV4:aLoad false false 1 (.ref V 4) s=some (.ref D 0,s):=ldv h.sv (by decide) rfl
 have lD5:aLoad false false 1 (.ref D 5) s=some (I comps,s):=ldv h.m.db.db (by decide) rfl
 have c72:aCall Tryz.prog (den C (n+16)) 72 [.ref D 0] s=some (I comps,s):=by
  rw[aCall,if_pos (by kernel_rfl),if_neg (by simp[noRefL_cons,AV.noRef])]
  rw[rd Tryz.func72];conv in compF _ _ _ _ _ _=>cbv
  simp only[strip_rs,strip_mr,strip_nilf,Bool.false_eq_true,if_false,↓kR,kE,kK,sL,C_P,Nat.reduceEqDiff,reduceIte,Tryz.f72,lD5,sL]
 obtain⟨s1,e1⟩:∃s1,s++[(3,[I comps])]=s1:=⟨_,rfl⟩
 have g1:Gr s s1:=e1▸Gr.app ..
 have al3:∀s,aAlloc Tryz.prog 3 s=some (.ref s.length 0,s++[(3,[I 0])]):=fun s=>by
  have:∀s,aAlloc Tryz.prog 3 s=some (.ref s.length 0,s++[(3,[I 0])]):=fun s=>by kernel_rfl
  exact this s
 have st1:aStore 1 (s++[(3,[I 0])]) (.ref s.length 0) (I comps)=some s1:=by
  rw[Srv.st (n:=1) gapp_new (by decide) rfl rfl (by simp),set_end,←e1];rfl
 have hW1:s1[s.length]?=some (3,[I comps]):=by rw[←e1];exact gapp_new
 have ev73:∀e:Env,evO C e (.func 73)=.fn 73 [] []:=fun _=>rfl
 rw[rd Tryz.func42];conv in compF _ _ _ _ _ _=>cbv
 simp only[strip_rs,strip_mr,strip_nilf,Bool.false_eq_true,if_false,↓kR,kE,kK,sL,C_P,Nat.reduceEqDiff,reduceIte,Tryz.f42,bx,bx3,l1,q,lb,lV4,c72,al3,st1,↓rC_seqj,sL]
 have hF0:=h.m.hF
 have hpl:=h.pl
 refine loopI (R:=fun a=>∃v s' comps' clock' ql' pv' l st' m,a=some (.tup [v,I 0],s')∧RV s' v l∧RunOK st N l st' m∧SI s' V (FN G s s') F S M D Mr Ma Av r f comps' clock' ql' mv vv pv' st'∧Fg G s s'∧comps'≤comps+20∧clock'≤clock+20)
  (fun i e s1=>e 2=.box [.ref V 0] 0∧e 8=stopF V s.length N∧i≤st.pd.length∧s1[s.length]?=some (3,[I comps])∧∃comps1 clock1 ql1 pv1 v6 es,e 6=v6∧SI s1 V (FN G s s1) F S M D Mr Ma Av r f comps1 clock1 ql1 mv vv pv1 { st with pd:=st.pd.drop i }∧Fg G s s1∧comps≤comps1∧comps1≤comps+i∧clock1≤clock+i∧SL 61 6 s1 v6 es∧RC s1 es ((st.pd.take i).map (ansR st))∧v6.strip=v6∧(∀es' f,v6=.sl 61 6 es' f→es'=[]∧f=.full)∧(∀Q,rowOf v6=some Q→s.length≤Q)) st.pd.length ?_ ?_ st.pd.length 0 (by omega) _ (by omega) _ _ ⟨rfl,rfl,by omega,hW1,comps,clock,ql,pv,.nils,[],rfl,?_,g1.fg G,Int.le_refl _,by omega,by omega,.nil,trivial,rfl,nofun,nofun⟩
 ·rintro i e s1' k hi ⟨e2,e8,hil,hW,comps1,clock1,ql1,pv1,v6,es,e6,h1,f1,k1,k2,k3,sl6,rc6,st6,hf6,fr6⟩ hk
  obtain⟨qq,hq⟩:∃qq,qq=st.pd[i]:=⟨_,rfl⟩
  have hd:st.pd.drop i=qq::st.pd.drop (i+1):=by rw[hq];exact List.drop_eq_getElem_cons hi
  have hqm:qq∈st.pd:=by rw[hq];exact List.getElem_mem hi
  have hpm:SL 33 5 s1' pv1 ((st.pd.drop i).map reqC):=h1.pm
  have hlen:aLen Tryz.prog 57 pv1=some (I ((st.pd.length-i:Nat):Int)):=by have:=hpm.len und57;rwa [List.length_map,List.length_drop]at this
  have lV2:aLoad false false 1 (.ref V 2) s1'=some (pv1,s1'):=ldv h1.sv (by decide) rfl h1.pst
  have q1:decide (((st.pd.length-i:Nat):Int) > 0)=true:=decide_eq_true (by omega)
  have q2:decide (0<((st.pd.length-i:Nat):Int))=true:=decide_eq_true (by omega)
  rw[hd,List.map_cons]at hpm
  obtain⟨p,p1,p2,p3,_⟩:=hpm.at und57 sz33 (by decide) (by decide) (i:=0) (by simp)
  have p1:aIndexAddr Tryz.prog 57 pv1 (I 0)=some p:=p1
  have p2:aLoad false true 5 p s1'=some (.agg (reqC qq),s1'):=p2
  have ss:(stopF V s.length N).strip=stopF V s.length N:=rfl
  have b0:0≤comps:=h.m.cb.1
  rcases r74 n hn hn2 h1 qq (h.pq qq hqm).1 (by omega) (by omega) hW ⟨b0,k1⟩ (N:=N) with ⟨cells,s2,ql2,comps2,clock2,r1,r2,r3,r4,r5,r6,r7⟩|⟨hNle,cells,s2,r1,r2,r3,r4,r5⟩
  ·have hcell:cells.length=6∧cells.map AV.strip=cells:=by
    obtain⟨nv,rfl,_,hnv⟩:=r2
    exact⟨rfl,by simp[hnv]⟩
   obtain⟨s3,e3⟩:∃s3,s2++[(61,cells)]=s3:=⟨_,rfl⟩
   have g3:Gr s2 s3:=e3▸Gr.app ..
   have st3:aStore 6 (s2++[(61,[I 0,I 0,I 0,I 0,AV.nils,AV.str []])]) (.ref s2.length 0) (.agg cells)=some s3:=by
    rw[st61' gapp_new rfl hcell.1 hcell.2,set_end,e3]
   have at3:s3[s2.length]?=some (61,cells):=by rw[←e3];exact gapp_new
   have lA:aLoad false true 6 (.ref s2.length 0) s3=some (.agg cells,s3):=by
    have:=ldA (n:=6) (o:=0) at3 (by decide) (by omega) (by decide)
    rwa [List.drop_zero,List.take_of_length_le (by omega)]at this
   have z00:((0:Int) != 0)=false:=rfl
   obtain⟨nv,hce,hnv1,hnv2⟩:=r2
   have bs29:aBuildSlice Tryz.prog 29 1 [(0,.agg cells)]=some (.sl 61 6 [.agg cells] .own):=by
    have:∀a b c d e t,aBuildSlice Tryz.prog 29 1 [(0,.agg [I a,I b,I c,I d,e,.str t])]=some (.sl 61 6 [.agg [I a,I b,I c,I d,e,.str t]] .own):=fun a b c d e t=>by kernel_rfl
    rw[hce];exact this _ _ _ _ _ _
   have sl3:SL 61 6 s3 v6 es:=(sl6.tf fun j cs hj=>r4.tf j _ cs hj (by decide) (by decide) (by decide) (by decide) (by decide) (by decide)).gr g3
   have hesl:es.length=i:=by rw[rc6.len,List.length_map,List.length_take,Nat.min_eq_left hil]
   obtain⟨w,s4,a1,a2,a3,a4,a5,a6,a7,a8⟩:=SL.app und29 info61 (by decide) (by decide) (by decide) sl3 hf6 (SL.sl [cells] .own ⟨fun x hx=>by rw[List.mem_singleton.1 hx];exact hcell,by simp⟩) (by simp;omega) (.inl (by simp))
   have a8:=a8 (by simp)
   have a1:aRsAppend Tryz.prog 29 29 v6 (.sl 61 6 [.agg cells] .own) s3=some (w,s4):=a1
   have l01:=f1.len
   have l12:=r4.len
   have l23:=g3.len
   have h3:=r3.gr g3
   have hV3:s3[V]?=some (86,[mv,vv,pv1,I st.rev,.ref D 0]):=h3.sv
   have rowQ:∀Q,rowOf v6=some Q→∃cs,s3[Q]?=some (61,cs):=fun Q hQ=>sl3.rowAt hQ
   have h4:SI s4 V (FN (FN G s s1') s1' s2) F S M D Mr Ma Av r f comps2 clock2 ql2 mv vv pv1 { st with pd:=st.pd.drop i }:=by
    refine h3.chg a5 (fun j t cs hj ht=>?_) fun j hj=>?_
    ·rw[a6 j (glt hj) (fun e=>?_),hj]
     obtain⟨cs',hc⟩:=rowQ j e
     rw[hj]at hc;cases hc;exact ht rfl
    ·have:=hF0 j hj
     exact a6 j (by omega) fun e=>by have:=fr6 j e;omega
   have lV4:aLoad false false 1 (.ref V 2) s4=some (pv1,s4):=ldv h4.sv (by decide) rfl h1.pst
   have hpm4:SL 33 5 s4 pv1 ((st.pd.drop i).map reqC):=h4.pm
   rw[hd,List.map_cons]at hpm4
   obtain⟨w2,t1,t2,t3,t4⟩:=SL.tailS (by decide) und57 sz33 hpm4
   obtain⟨P,off,m,hpv⟩:∃P off m,pv1=.rs 33 5 P off m:=by
    rcases h4.sp.2.2 with e|e
    ·rw[e]at hpm4;cases hpm4
    ·exact e
   obtain⟨off',m',hw2⟩:=t4 _ _ _ hpv
   have hV4:=h4.sv
   obtain⟨s5,e5⟩:∃s5,s4.set V (86,[mv,vv,w2,I st.rev,.ref D 0])=s5:=⟨_,rfl⟩
   have st5:aStore 1 s4 (.ref V 2) w2=some s5:=by
    rw[Srv.st (n:=1) hV4 (by decide) (by rw[hw2];rfl) (by rw[hw2];rfl) (by simp),←e5,hw2];rfl
   have n5:s5.length=s4.length:=by rw[←e5,set_length]
   simp only[strip_rs,strip_mr,strip_nilf,Bool.false_eq_true,if_false,↓kR,kE,kK,sL,C_P,Nat.reduceEqDiff,reduceIte,e2,lb,lV2,hlen,q1,q2,p1,p2,e8,ss,r1,allocS z61 (by decide) ⟨nofun,rfl⟩,st3,z00,e6,st6,rd_alloc p3,lA,bs29,a1,a3,lV4,t1,t3,st5,sL]
   obtain⟨h5,f5⟩:=h4.pend (s':=s5) (pv':=w2) (pd':=st.pd.drop (i+1)) (by omega) (by rw[←e5];exact gset_eq hV4) (fun j hj j1 j2=>by rw[←e5,gset_ne j1.symm]) (t2.fr fun Q o m' e=>by
    rw[hw2]at e;cases e
    obtain⟨cs,hc⟩:=h4.row (P:=P) (by rw[hpv];rfl)
    rw[←e5,gset_ne (ty_ne hV4 hc (by decide))]) (.inr ⟨_,_,_,hw2⟩) (fun P' hP'=>by rw[hw2]at hP';cases hP';exact .inl (by rw[hpv];rfl)) (by simp;omega) (by
     have:=h1.pk
     simp only[hd,List.map_cons,List.nodup_cons]at this
     exact this.2) fun x hx=>h.pq x (List.mem_of_mem_drop hx)
   have old5:∀j t cs,s3[j]?=some (t,cs)→t≠86→rowOf v6≠some j→s5[j]?=some (t,cs):=fun j t cs hj h1 h2=>by
    have:=a6 j (glt hj) h2
    rw[←e5,gset_ne (fun e=>?_),this,hj]
    rw[←e,hV3]at hj;cases hj;exact h1 rfl
   have a25:SL 61 6 s5 w (es++[cells]):=a2.fr fun Q o m e=>by
    rw[a8]at e;cases e
    rw[←e5,gset_ne (fun e=>by have:=glt hV3;omega)]
   have rc5:RC s5 (es++[cells]) ((st.pd.take (i+1)).map (ansR st)):=by
    rw[List.take_succ,List.getElem?_eq_getElem hi,List.map_append]
    have k3:∀(j:Nat) (cs:List AV),s3[j]?=some (3,cs)→s5[j]?=some (3,cs):=fun j cs hj=>old5 j _ cs hj (by decide) fun e=>by
     obtain⟨cs',hc⟩:=rowQ j e
     rw[hj]at hc;cases hc
    refine RC.app (RC.tf (fun j cs hj=>k3 j cs (g3.at (r4.tf j _ cs hj (by decide) (by decide) (by decide) (by decide) (by decide) (by decide)))) rc6) ⟨?_,trivial⟩
    simp only[←hq]
    exact⟨nv,hce,hnv1.tf fun j cs hj=>k3 j cs (g3.at hj),hnv2⟩
   have hW5:s5[s.length]?=some (3,[I comps]):=by
    refine old5 _ _ _ (g3.at (r4.tf _ _ _ hW (by decide) (by decide) (by decide) (by decide) (by decide) (by decide))) (by decide) fun e=>?_
    obtain⟨cs',hc⟩:=rowQ _ e
    rw[g3.at (r4.tf _ _ _ hW (by decide) (by decide) (by decide) (by decide) (by decide) (by decide))]at hc;cases hc
   refine hk _ _ ⟨e2,e8,by omega,hW5,comps2,clock2,ql2,w2,w,es++[cells],rfl,?_,?_,by omega,by push_cast;omega,by push_cast;omega,a25,rc5,a3,fun es' f e=>(by rw[a8]at e;cases e),fun Q hQ=>(by rw[a8]at hQ;cases hQ;omega)⟩
   ·exact h5.wid (fun j hj=>by
     rcases hj with ((hj|hj)|hj)|hj
     ·exact .inl hj
     ·exact .inr ⟨hj.1,by omega⟩
     ·exact .inr ⟨by omega,by omega⟩
     ·exact .inr ⟨by omega,by omega⟩) fun j hj=>hj.elim (fun hg=>by have:=h.GL j hg;omega) (·.2)
   ·have f02:Fg G s s2:=f1.trans r4 fun j hj=>hj.imp (fun h=>h) (·.1)
    have f03:Fg G s s3:=f02.trans (g3.fg (FN G s s1')) fun j hj=>hj.imp (fun h=>h) (·.1)
    refine⟨by omega,fun j hj hg=>?_,fun j t cs hj b1 b2 b3 b4 b5 b6=>?_⟩
    ·rw[←e5,gset_ne (fun e=>hg (by rw[←e];exact h.G2.1)),a6 j (by omega) (fun e=>by have:=fr6 j e;omega),f03.old j hj hg]
    ·refine old5 j t cs (f03.tf j t cs hj b1 b2 b3 b4 b5 b6) b1 fun e=>?_
     have:=fr6 j e
     have:=glt hj
     omega
  ·obtain⟨s3,e3⟩:∃s3,s2++[(61,cells)]=s3:=⟨_,rfl⟩
   have g3:Gr s2 s3:=e3▸Gr.app ..
   have st3:aStore 6 (s2++[(61,[I 0,I 0,I 0,I 0,AV.nils,AV.str []])]) (.ref s2.length 0) (.agg cells)=some s3:=by
    rw[st61' gapp_new rfl r2 r3,set_end,e3]
   have z12:((12:Int) != 0)=true:=rfl
   simp only[strip_rs,strip_mr,strip_nilf,Bool.false_eq_true,if_false,↓kR,kE,kK,sL,C_P,Nat.reduceEqDiff,reduceIte,e2,lb,lV2,hlen,q1,q2,p1,p2,e8,ss,r1,allocS z61 (by decide) ⟨nofun,rfl⟩,st3,z12,e6,st6,rd_alloc p3,sL]
   have l01:=f1.len
   have l12:=r5.len
   have l23:=g3.len
   refine⟨v6,s3,comps1,clock1,ql1,pv1,_,_,i,rfl,⟨es,(sl6.tf fun j cs hj=>r5.tf j _ cs hj (by decide) (by decide) (by decide) (by decide) (by decide) (by decide)).gr g3,(RC.tf (fun j cs hj=>g3.at (r5.tf j _ cs hj (by decide) (by decide) (by decide) (by decide) (by decide) (by decide))) rc6)⟩,⟨hil,rfl,rfl,.inr (by omega)⟩,?_,?_,by omega,by omega⟩
   ·exact(r4.gr g3).wid (fun j hj=>by
     rcases hj with (hj|hj)|hj
     ·exact .inl hj
     ·exact .inr ⟨hj.1,by omega⟩
     ·exact .inr ⟨by omega,by omega⟩) fun j hj=>hj.elim (fun hg=>by have:=h.GL j hg;omega) (·.2)
   ·exact(f1.trans r5 fun j hj=>hj.imp (fun h=>h) (·.1)).trans (g3.fg (FN G s s1')) fun j hj=>hj.imp (fun h=>h) (·.1)
 ·rintro e s1' k ⟨e2,e8,hil,hW,comps1,clock1,ql1,pv1,v6,es,e6,h1,f1,k1,k2,k3,sl6,rc6,st6,hf6,fr6⟩
  have hpm:SL 33 5 s1' pv1 ((st.pd.drop st.pd.length).map reqC):=h1.pm
  have hlen:aLen Tryz.prog 57 pv1=some (I 0):=by have:=hpm.len und57;rwa [List.length_map,List.length_drop,Nat.sub_self]at this
  have lV2:aLoad false false 1 (.ref V 2) s1'=some (pv1,s1'):=ldv h1.sv (by decide) rfl h1.pst
  have q1:decide ((0:Int) > 0)=false:=rfl
  have q2:decide ((0:Int)<0)=false:=rfl
  simp only[strip_rs,strip_mr,strip_nilf,Bool.false_eq_true,if_false,↓kR,kE,kK,sL,C_P,Nat.reduceEqDiff,reduceIte,e2,lb,lV2,hlen,q1,q2,e6,st6,sL]
  exact⟨v6,s1',comps1,clock1,ql1,pv1,_,_,st.pd.length,rfl,⟨es,sl6,rc6⟩,⟨Nat.le_refl _,rfl,rfl,.inl rfl⟩,h1,f1,by omega,by omega⟩
 ·have:=h.gr g1
  exact this.wid (fun i hi=>.inl hi) fun i hi=>hi.elim (fun hg=>by have:=h.GL i hg;have:=g1.len;omega) (·.2)
end Srv
end

section
namespace Srv
open Go Go.Abs Go.Proofs
theorem pigeon:∀(n:Nat)(l:List Nat),l.Nodup→(∀x∈l,x<n)→l.length≤n
 | 0,l,_,h=>by
  cases l with
  | nil=>exact Nat.le_refl 0
  | cons a l=>exact absurd (h a (by simp)) (Nat.not_lt_zero a)
 | n+1,l,hd,h=>by
  by_cases hn:n∈l
  ·have:=pigeon n (l.erase n) (hd.erase n) fun x hx=>by
    have h1:=(hd.mem_erase_iff).1 hx
    have:=h x h1.2
    omega
   rw[List.length_erase_of_mem hn]at this
   omega
  ·have:=pigeon n l hd fun x hx=>by
    have h1:=h x hx
    have h2:x≠n:=fun e=>hn (e▸hx)
    omega
   omega
theorem pigeonI {c:Int}{l:List Int}(hd:l.Nodup)(h:∀x∈l,0≤x∧x≤c):l.length≤(c+1).toNat:=by
 have:=pigeon (c+1).toNat (l.map Int.toNat) (by
  rw[List.nodup_iff_pairwise_ne,List.pairwise_map]
  exact(List.nodup_iff_pairwise_ne.1 hd).imp_of_mem fun ha hb hab e=>hab (by have:=h _ ha;have:=h _ hb;omega)) fun x hx=>by
   obtain⟨y,hy,rfl⟩:=List.mem_map.1 hx
   have:=h y hy
   omega
 rwa [List.length_map]at this
def edel:List Ent→K3→List Ent
 | [],_=>[]
 | a::l,k=>if a.k=k then l else a::edel l k
theorem edel_sub:∀(ql:List Ent)(k:K3),(edel ql k).Sublist ql
 | [],_=>List.Sublist.refl _
 | a::l,k=>by
  simp only[edel]
  split
  ·exact List.sublist_cons_self a l
  ·exact(edel_sub l k).cons₂ a
theorem mdel_eml (ql:List Ent)(k:K3):mdel (eml ql) k=eml (edel ql k):=by
 induction ql with
 | nil=>rfl
 | cons a l ih =>
  simp only[eml,List.map_cons,mdel,edel]at ih ⊢
  by_cases h:a.k=k
  ·simp[h]
  ·simp only[h,if_false,List.map_cons];rw[ih]
theorem Memo.sub {s s':Heap}{F:Foot}{S M D Mr Ma Av:Nat}{r:Int}{f:Inp}{comps clock:Int}{ql ql':List Ent}(h:Memo s F S M D Mr Ma Av r f comps clock ql)(hs:ql'.Sublist ql)(hl:s.length≤s'.length)(hM:s'[Mr]?=some (mapTy,.undef::flat (eml ql')))(k:∀j,j<s.length→j≠Mr→s'[j]?=s[j]?):Memo s' F S M D Mr Ma Av r f comps clock ql':=by
 have at':∀{j:Nat} {x:TypeId×List AV},s[j]?=some x→j≠Mr→s'[j]?=some x:=fun hj hm=>(k _ (glt hj) hm).trans hj
 have rows:Rows s s':=fun j t cs hj ht=>at' hj (ty_ne hj h.db.rm (by rcases ht with rfl|rfl<;>decide))
 refine⟨⟨h.db.inp.keep fun i hi=>k i (h.hF i hi) (fun e=>h.hFM.2.2 (e▸hi)),at' h.db.db (ty_ne h.db.db h.db.rm (by decide)),at' h.db.av (ty_ne h.db.av h.db.rm (by decide)),hM,at' h.db.am h.ne.symm⟩,⟨fun e he=>?_,fun e he=>h.q.sem e (hs.subset he),h.q.ks.sublist (hs.map _),h.q.Rs.sublist (hs.map _),h.q.us.sublist (hs.map _),fun e he=>h.q.ub e (hs.subset he)⟩,fun i hi=>Nat.lt_of_lt_of_le (h.hF i hi) hl,h.hFM,h.ne,fun e he=>h.Fq e (hs.subset he),h.ch,h.cb⟩
 obtain⟨_,_,_,hh,_⟩:=h.q.ro e (hs.subset he)
 exact(h.q.ro e (hs.subset he)).keep rows (k _ (glt hh) (ty_ne hh h.db.rm (by decide)))
theorem z161:zeroOf Tryz.prog 161=some .nilp:=by kernel_rfl
theorem a76 (n:Nat){s:Heap}{F:Foot}{S M D Mr Ma Av:Nat}{r:Int}{f:Inp}{comps clock:Int}{ql:List Ent}(h:Memo s F S M D Mr Ma Av r f comps clock ql)(k:K3) :
  ∃b s',aCall Tryz.prog (den C (n+1)) 76 [.ref D 0,Kv k] s=some (.bool b,s')∧Memo s' F S M D Mr Ma Av r f comps clock (edel ql k)∧(∀j,j≠Mr→s'[j]?=s[j]?)∧s'.length=s.length:=by
 have bk:=bxk k
 obtain⟨a,b,c⟩:=k
 simp only at bk
 have l2:aLoad false false 1 (.ref D 2) s=some (.mr Mr,s):=ldv h.db.db (by decide) rfl
 have mg:aMapGet Tryz.prog 118 (.mr Mr) (.agg [I a,I b,I c]) true s=some (getR true (((mlook (eml ql) (a,b,c)).getD .nilp).strip) (mlook (eml ql) (a,b,c)).isSome):=mGet und118 z161 h.db.rm (a,b,c) true
 have md:aMapDel Tryz.prog 118 (.mr Mr) (.agg [I a,I b,I c]) s=some (s.set Mr (mapTy,.undef::flat (eml (edel ql (a,b,c))))):=by
  have:=mDel und118 h.db.rm (a,b,c)
  rwa [mdel_eml]at this
 obtain⟨x,hx⟩:∃x,((mlook (eml ql) (a,b,c)).getD .nilp).strip=x:=⟨_,rfl⟩
 obtain⟨y,hy⟩:∃y,(mlook (eml ql) (a,b,c)).isSome=y:=⟨_,rfl⟩
 rw[hx,hy]at mg
 have mg:aMapGet Tryz.prog 118 (.mr Mr) (.agg [I a,I b,I c]) true s=some (.tup [x,.bool y]):=mg
 refine⟨y,s.set Mr (mapTy,.undef::flat (eml (edel ql (a,b,c)))),?_,h.sub (edel_sub _ _) (by rw[set_length];exact Nat.le_refl _) (gset_eq h.db.rm) fun j _ hm=>gset_ne hm.symm,fun j hm=>gset_ne hm.symm,set_length ..⟩
 rw[aCall,if_pos (by kernel_rfl),if_neg (by simp[noRefL_cons,AV.noRef])]
 rw[rd Tryz.func76];conv in compF _ _ _ _ _ _=>cbv
 simp only[strip_rs,strip_mr,strip_nilf,Bool.false_eq_true,if_false,↓kR,kE,kK,sL,C_P,Nat.reduceEqDiff,reduceIte,Tryz.f76,bk,l2,mg,md,sL]
theorem resKeys_ok {s:Heap}:∀(ql:List Ent),(∀e∈ql,RO s e)→resKeys s (flat (eml ql))=some (ql.map fun e=>(e.last,Kv e.k))
 | [],_=>rfl
 | e::l,h=>by
  obtain⟨nv,chg,dv,hh,_⟩:=h e (by simp)
  have ih:=resKeys_ok l fun x hx=>h x (by simp[hx])
  simp only[eml,List.map_cons,flat]at ih ⊢
  simp only[resKeys,hh,ih,Option.map_some]
theorem distK_ok:∀(l:List (Int×AV)),(l.map (·.1)).Nodup→distK l=true
 | [],_=>rfl
 | x::l,h=>by
  simp only[List.map_cons,List.nodup_cons]at h
  simp only[distK,Bool.and_eq_true,List.all_eq_true,decide_eq_true_eq]
  exact⟨fun y hy e=>h.1 (e▸List.mem_map_of_mem hy),distK_ok l h.2⟩
theorem insK_mem {x y:Int×AV}:∀{l:List (Int×AV)},y∈insK x l→y=x∨y∈l
 | [],h=>by simp only[insK,List.mem_singleton]at h;exact .inl h
 | a::l,h=>by
  simp only[insK]at h
  split at h
  ·rcases List.mem_cons.1 h with h|h
   ·exact .inl h
   ·exact .inr h
  ·rcases List.mem_cons.1 h with h|h
   ·exact .inr (by simp[h])
   ·rcases insK_mem h with h|h
    ·exact .inl h
    ·exact .inr (by simp[h])
theorem sortK_mem {y:Int×AV}:∀{l:List (Int×AV)},y∈sortK l→y∈l
 | [],h=>h
 | a::l,h=>by
  rcases insK_mem h with h|h
  ·simp[h]
  ·exact List.mem_cons_of_mem _ (sortK_mem h)
theorem insK_len (x:Int×AV):∀(l:List (Int×AV)),(insK x l).length=l.length+1
 | []=>rfl
 | a::l=>by
  simp only[insK]
  split
  ·rfl
  ·simp[insK_len x l]
theorem sortK_len:∀(l:List (Int×AV)),(sortK l).length=l.length
 | []=>rfl
 | a::l=>by simp only[sortK,insK_len,sortK_len l,List.length_cons]
theorem cached_ok {s:Heap}{F:Foot}{S M D Mr Ma Av:Nat}{r:Int}{f:Inp}{comps clock:Int}{ql:List Ent}(h:Memo s F S M D Mr Ma Av r f comps clock ql)(hck:clock<900000):∃(v:AV)(ks:List K3),eCached [.ref D 0] s=some (v,s)∧SL 79 3 s v (ks.map keyC)∧v.strip=v∧v.noRef=true∧ks.length≤(clock+1).toNat:=by
 have hl:ql.length≤(clock+1).toNat:=by
  have:=pigeonI h.q.us (c:=clock) fun x hx=>by
   obtain⟨e,he,rfl⟩:=List.mem_map.1 hx
   exact h.q.ub e he
  rwa [List.length_map]at this
 have hl':ql.length<1000000:=by omega
 obtain⟨l,hll⟩:∃l,l=ql.map fun e=>(e.last,Kv e.k):=⟨_,rfl⟩
 have h1:=resKeys_ok ql h.q.ro
 rw[←hll]at h1
 have h2:distK l=true:=distK_ok l (by rw[hll,List.map_map];exact h.q.us)
 have h3:(l.all fun x=>decide (0≤x.1∧x.1<1000000000))=true:=by
  rw[hll,List.all_eq_true]
  intro x hx
  obtain⟨e,he,rfl⟩:=List.mem_map.1 hx
  have:=h.q.ub e he
  simp only[decide_eq_true_eq]
  omega
 have h4:l.length<1000000:=by rw[hll,List.length_map];exact hl'
 have h5:(l.map fun x=>k3A x.2).Nodup:=by rw[hll,List.map_map];exact h.q.ks
 have hM:s[Mr]?=some (1000001,.undef::flat (eml ql)):=h.db.rm
 by_cases hl0:l=[]
 ·refine⟨.nils,[],?_,.nil,rfl,rfl,Nat.zero_le _⟩
  rw[hl0]at h1
  unfold eCached
  simp only[h.db.db,hM,h1]
  rfl
 ·obtain⟨key,hkey⟩:∃key:AV→K3,∀k,key (Kv k)=k:=⟨fun v=>match v with|.agg [.int _ a,.int _ b,.int _ c]=>(a,b,c)|_=>(0,0,0),fun k=>rfl⟩
  have hks:(sortK l).map (·.2)=((sortK l).map fun x=>key x.2).map fun k=>AV.agg (keyC k):=by
   rw[List.map_map]
   refine List.map_congr_left fun x hx=>?_
   have:=sortK_mem hx
   rw[hll]at this
   obtain⟨e,he,rfl⟩:=List.mem_map.1 this
   show Kv e.k=.agg (keyC (key (Kv e.k)))
   rw[hkey]
  refine⟨.sl 79 3 ((sortK l).map (·.2)) .sh,(sortK l).map fun x=>key x.2,?_,?_,rfl,?_,by rw[List.length_map,sortK_len,hll,List.length_map];exact hl⟩
  ·unfold eCached
   simp only[h.db.db,hM,h1]
   rw[if_pos ⟨h2,h3,h4,h5⟩]
  ·rw[hks]
   have:=SL.sl (s:=s) (ty:=79) (z:=3) (((sortK l).map fun x=>key x.2).map keyC) .sh (keyC_els _ (by rw[List.length_map,sortK_len];exact h4))
   rwa [List.map_map]at this
  ·rw[hks]
   show noRefL _=true
   generalize (sortK l).map (fun x=>key x.2)=ks
   induction ks with
   | nil=>rfl
   | cons k ks ih=>simp only[List.map_cons,noRefL,AV.noRef,ih,Bool.and_self]
theorem mxL (x y:Int):aMax (I x) (I y)=some (I (if x<y then y else x)):=rfl
theorem c43 (n:Nat){s:Heap}{F:Foot}{S M D Mr Ma Av:Nat}{r:Int}{f:Inp}{comps clock:Int}{ql:List Ent}(h:Memo s F S M D Mr Ma Av r f comps clock ql)(hck:clock<900000)(hn:(clock+2).toNat<n)(N:Int)(hN:N<9223372036854775808) :
  ∃v s' ql',den C (n+3) 43 [.ref D 0,I N] s=some (I v,s')∧Memo s' F S M D Mr Ma Av r f comps clock ql'∧ql'.Sublist ql∧s.length≤s'.length∧(∀j,j<s.length→j≠Mr→s'[j]?=s[j]?):=by
 obtain⟨v,ks,k1,k2,k3,k4,k5⟩:=cached_ok h hck
 have cl:aCall Tryz.prog (den C (n+2)) 75 [.ref D 0] s=some (v,s):=by
  rw[aCall,if_pos (by kernel_rfl),if_neg (by simp[noRefL_cons,AV.noRef])];exact k1
 have q0:aBin Tryz.prog .eql 76 (.ref D 0) .nilp=some (.bool false):=by
  have:∀i,aBin Tryz.prog .eql 76 (.ref i 0) .nilp=some (.bool false):=fun i=>by kernel_rfl
  exact this D
 have hlen:aLen Tryz.prog 139 v=some (I ks.length):=by have:=k2.len und139;rwa [List.length_map]at this
 have hcb:=h.cb
 obtain⟨m,hm,hmx⟩:∃m:Nat,m≤ks.length∧aMax (I 0) (I (IntKind.i64.wrap ((ks.length:Int)-(if N<0 then 0 else N))))=some (I m):=by
  have hw:IntKind.i64.wrap ((ks.length:Int)-(if N<0 then 0 else N))=(ks.length:Int)-(if N<0 then 0 else N):=by
   split<;>exact wrap64 (by omega) (by omega)
  rw[hw,mxL]
  by_cases h0:(0:Int)<(ks.length:Int)-(if N<0 then 0 else N)
  ·rw[if_pos h0]
   refine⟨((ks.length:Int)-(if N<0 then 0 else N)).toNat,?_,by rw[Int.toNat_of_nonneg (by omega)]⟩
   split<;>omega
  ·rw[if_neg h0]
   exact⟨0,Nat.zero_le _,rfl⟩
 obtain⟨w,w1,w2,w3⟩:=k2.take und139 sz79 (i:=m) (by rw[List.length_map];exact hm)
 rw[←List.map_take]at w2
 obtain⟨kt,hkt⟩:∃kt,ks.take m=kt:=⟨_,rfl⟩
 rw[hkt]at w2
 have hktl:kt.length≤ks.length:=by rw[←hkt,List.length_take];omega
 have hlen2:aLen Tryz.prog 139 w=some (I kt.length):=by have:=w2.len und139;rwa [List.length_map]at this
 rw[rd Tryz.func43];conv in compF _ _ _ _ _ _=>cbv
 simp only[strip_rs,strip_mr,strip_nilf,Bool.false_eq_true,if_false,↓kR,kE,kK,sL,C_P,Nat.reduceEqDiff,reduceIte,Tryz.f43,q0,cl,k3,hlen,hmx,w1,w3,hlen2,sL]
 refine loopI (R:=fun a=>∃v s' ql',a=some (I v,s')∧Memo s' F S M D Mr Ma Av r f comps clock ql'∧ql'.Sublist ql∧s.length≤s'.length∧(∀j,j<s.length→j≠Mr→s'[j]?=s[j]?))
  (fun i e s1=>e 0=.ref D 0∧e 6=w∧e 21=w∧e 22=I kt.length∧e 23=I i∧SL 79 3 s1 w (kt.map keyC)∧∃ql1,Memo s1 F S M D Mr Ma Av r f comps clock ql1∧ql1.Sublist ql∧s.length≤s1.length∧(∀j,j<s.length→j≠Mr→s1[j]?=s[j]?)) kt.length ?_ ?_ kt.length 0 (by omega) _ (by omega) _ _ ⟨rfl,rfl,rfl,rfl,rfl,w2,ql,h,List.Sublist.refl _,Nat.le_refl _,fun _ _ _=>rfl⟩
 ·rintro i e s1 q hi ⟨e0,e6,e21,e22,e23,sl,ql1,h1,h2,h3,h4⟩ hk
  have hlt:decide (i<kt.length)=true:=decide_eq_true hi
  obtain⟨p,p1,p2,p3,_⟩:=sl.at und139 sz79 (by decide) (by decide) (i:=i) (by rw[List.length_map];exact hi)
  rw[List.getElem_map]at p2
  obtain⟨k,hkk⟩:∃k,kt[i]=k:=⟨_,rfl⟩
  rw[hkk]at p2
  have z79:zeroOf Tryz.prog 79=some (.agg [I 0,I 0,I 0]):=by kernel_rfl
  obtain⟨s2,e2⟩:∃s2,s1++[(79,keyC k)]=s2:=⟨_,rfl⟩
  have g2:Gr s1 s2:=e2▸Gr.app ..
  have st2:aStore 3 (s1++[(79,[I 0,I 0,I 0])]) (.ref s1.length 0) (.agg (keyC k))=some s2:=by
   rw[stW (n:=3) gapp_new (by decide) rfl rfl rfl,set_end,e2]
  have at2:s2[s1.length]?=some (79,keyC k):=by rw[←e2];exact gapp_new
  have l2:aLoad false true 3 (.ref s1.length 0) s2=some (.agg (keyC k),s2):=ldA (n:=3) at2 (by decide) (by simp) (by decide)
  obtain⟨b,s3,f1,f2,f3,f4⟩:=a76 (n+1) (h1.gr g2) k
  have f1:aCall Tryz.prog (den C (n+2)) 76 [.ref D 0,.agg (keyC k)] s2=some (.bool b,s3):=f1
  have wi:=wrap64 (show -9223372036854775808≤(i:Int)+1 by omega) (by omega)
  simp only[strip_rs,strip_mr,strip_nilf,Bool.false_eq_true,if_false,↓kR,kE,kK,sL,C_P,Nat.reduceEqDiff,reduceIte,e0,e6,e21,e22,e23,hlt,p1,p2,allocS z79 (by decide) ⟨nofun,rfl⟩,st2,l2,f1,wi,sL]
  have l12:=g2.len
  refine hk _ _ ⟨e0,e6,e21,e22,iS i,?_,edel ql1 k,f2,(edel_sub _ _).trans h2,by omega,fun j j1 j2=>by rw[f3 j j2,g2.get (by omega),h4 j j1 j2]⟩
  exact(sl.gr g2).tf fun j cs hj=>by rw[f3 j (ty_ne hj (h1.gr g2).db.rm (by decide)),hj]
 ·rintro e s1 q ⟨e0,e6,e21,e22,e23,sl,ql1,h1,h2,h3,h4⟩
  have hlt:decide (kt.length<kt.length)=false:=decide_eq_false (by omega)
  simp only[strip_rs,strip_mr,strip_nilf,Bool.false_eq_true,if_false,↓kR,kE,kK,sL,C_P,Nat.reduceEqDiff,reduceIte,e6,e22,e23,hlt,w3,hlen2,sL]
  exact⟨_,s1,ql1,rfl,h1,h2,h3,h4⟩
end Srv
end

section
namespace Srv
open Go Go.Abs Go.Proofs
structure Evn where
 k:Int
 n:Int
 ver:Int
 nm:Bytes
 tx:Bytes
 ed:AV
 es:List Ed
 req:Req
abbrev evC (e:Evn):List AV:=[I e.k,I e.n,I e.ver,.str e.nm,.str e.tx,e.ed,I e.req.c,I e.req.id,I e.req.q,I e.req.a,.str e.req.nm]
structure EvOK (e:Evn):Prop where
 ed:RopeF.IsE e.ed e.es
 et:∀x∈e.es,x.t.length≤140737488355328
 n:e.n<9223372036854775808
def HStep (st:St)(e:Evn)(l:List Resp)(err:Int)(st':St):Prop :=
 if e.k=1 then l=[]∧(err,st')=wr st e.nm e.tx
 else if e.k=2 then l=[]∧(err,st')=rem st e.nm
 else if e.k=3 then l=[]∧(err,st')=edt st e.nm e.ver e.es
 else if e.k=4 then l=[]∧(err,st')=reqS st e.req
 else if e.k=5 then(l,err,st')=canS st e.req.c e.req.id
 else if e.k=6 then(if e.n<0 then l=[]∧err=1∧st'=st else err=0∧∃m,RunOK st e.n l st' m)
 else if e.k=7 then(if e.n<0 then l=[]∧err=1∧st'=st else l=[]∧err=0∧st'=st)
 else l=[]∧err=7∧st'=st
theorem RV.nil (s:Heap):RV s .nils []:=⟨[],.nil,trivial⟩
theorem SrvI.same {s:Heap}{V:Nat}{G:Foot}{st:St}{B:Int}(h:SrvI s V G st B):SrvI s V (FN G s s) st (B+20):=(h.mono (by omega)).wid (fun i hi=>.inl hi) fun i hi=>hi.elim (h.GL i) (·.2)
set_option maxHeartbeats 4000000 in
theorem c12 (n:Nat)(hn:150000<n)(hn2:n<600000){s:Heap}{V:Nat}{G:Foot}{st:St}{B:Int}(h:SrvI s V G st B)(hB:B<100000)(e:Evn)(he:EvOK e) :
  ∃v s' l err st',den C (n+330) 12 [.ref V 0,.agg (evC e)] s=some (.tup [v,I err],s')∧RV s' v l∧HStep st e l err st'∧SrvI s' V (FN G s s') st' (B+20)∧Fg G s s':=by
 have bx:∀s,aBox false 35 (.agg (evC e)) s=some (.box (evC e) 0,s):=fun s=>boxV rfl s
 have l0:∀s:Heap,aLoad false false 1 (.box (evC e) 0) s=some (I e.k,s):=fun s=>by rw[aLoad_one];rfl
 have l1:∀s:Heap,aLoad false false 1 (.box (evC e) 1) s=some (I e.n,s):=fun s=>by rw[aLoad_one];rfl
 have l2:∀s:Heap,aLoad false false 1 (.box (evC e) 2) s=some (I e.ver,s):=fun s=>by rw[aLoad_one];rfl
 have l3:∀s:Heap,aLoad false false 1 (.box (evC e) 3) s=some (.str e.nm,s):=fun s=>by rw[aLoad_one];rfl
 have l4:∀s:Heap,aLoad false false 1 (.box (evC e) 4) s=some (.str e.tx,s):=fun s=>by rw[aLoad_one];rfl
 have l5:∀s:Heap,aLoad false false 1 (.box (evC e) 5) s=some (e.ed,s):=fun s=>by rw[aLoad_one];show some (e.ed.strip,s)=_;rw[he.ed.strip]
 have l6:∀s:Heap,aLoad false false 1 (.box (evC e) 6) s=some (I e.req.c,s):=fun s=>by rw[aLoad_one];rfl
 have l7:∀s:Heap,aLoad false false 1 (.box (evC e) 7) s=some (I e.req.id,s):=fun s=>by rw[aLoad_one];rfl
 have lQ:∀s:Heap,aLoad false true 5 (.box (evC e) 6) s=some (.agg (reqC e.req),s):=fun s=>by
  rw[aLoad_agg _ _ _ _ _ (by simp)];rfl
 have es:=he.ed.strip
 have ac:∀{g:FuncId} {args:List AV} {m:Nat} {s:Heap} {x:Option (AV×Heap)} (_:den C m g (.ref V 0::args) s=x) (_:enterable Tryz.prog g=true),aCall Tryz.prog (den C m) g (.ref V 0::args) s=x:=fun {g args m s x} hx hen=>by
  rw[aCall,if_pos hen,if_neg (by simp[noRefL_cons,AV.noRef])];exact hx
 have stay:=h.same
 have fstay:Fg G s s:=(Gr.refl s).fg G
 unfold HStep
 by_cases k1:e.k=1
 ·have q1:(e.k==1)=true:=by simp[k1]
  obtain⟨s',a1,a2,a3⟩:=c37 (n+7) (by omega) h (by omega) e.nm e.tx
  have cl:=ac a1 (by kernel_rfl)
  simp only[if_pos k1]
  refine⟨.nils,s',[],(wr st e.nm e.tx).1,(wr st e.nm e.tx).2,?_,.nil _,⟨rfl,rfl⟩,a2,a3⟩
  rw[rd Tryz.func12];conv in compF _ _ _ _ _ _=>cbv
  simp only[strip_rs,strip_mr,strip_nilf,Bool.false_eq_true,if_false,↓kR,kE,kK,sL,C_P,Nat.reduceEqDiff,reduceIte,Tryz.f12,bx,l0,q1,l3,l4,cl,sL]
 have q1:(e.k==1)=false:=by simpa using k1
 by_cases k2:e.k=2
 ·have q2:(e.k==2)=true:=by simp[k2]
  obtain⟨s',a1,a2,a3⟩:=c38 (n+7) (by omega) h (by omega) e.nm
  have cl:=ac a1 (by kernel_rfl)
  simp only[if_neg k1,if_pos k2]
  refine⟨.nils,s',[],(rem st e.nm).1,(rem st e.nm).2,?_,.nil _,⟨rfl,rfl⟩,a2,a3⟩
  rw[rd Tryz.func12];conv in compF _ _ _ _ _ _=>cbv
  simp only[strip_rs,strip_mr,strip_nilf,Bool.false_eq_true,if_false,↓kR,kE,kK,sL,C_P,Nat.reduceEqDiff,reduceIte,Tryz.f12,bx,l0,q1,q2,l3,cl,sL]
 have q2:(e.k==2)=false:=by simpa using k2
 by_cases k3:e.k=3
 ·have q3:(e.k==3)=true:=by simp[k3]
  obtain⟨s',a1,a2,a3⟩:=c39 (n+6) (by omega) h (by omega) e.nm e.ver e.es he.ed he.et
  have cl:=ac a1 (by kernel_rfl)
  simp only[if_neg k1,if_neg k2,if_pos k3]
  refine⟨.nils,s',[],(edt st e.nm e.ver e.es).1,(edt st e.nm e.ver e.es).2,?_,.nil _,⟨rfl,rfl⟩,a2,a3⟩
  rw[rd Tryz.func12];conv in compF _ _ _ _ _ _=>cbv
  simp only[strip_rs,strip_mr,strip_nilf,Bool.false_eq_true,if_false,↓kR,kE,kK,sL,C_P,Nat.reduceEqDiff,reduceIte,Tryz.f12,bx,l0,q1,q2,q3,l2,l3,l5,es,cl,sL]
 have q3:(e.k==3)=false:=by simpa using k3
 by_cases k4:e.k=4
 ·have q4:(e.k==4)=true:=by simp[k4]
  obtain⟨s',a1,a2,a3⟩:=c40 (n+323) (by omega) h e.req
  have cl:=ac a1 (by kernel_rfl)
  simp only[if_neg k1,if_neg k2,if_neg k3,if_pos k4]
  refine⟨.nils,s',[],(reqS st e.req).1,(reqS st e.req).2,?_,.nil _,⟨rfl,rfl⟩,a2.mono (by omega),a3⟩
  rw[rd Tryz.func12];conv in compF _ _ _ _ _ _=>cbv
  simp only[strip_rs,strip_mr,strip_nilf,Bool.false_eq_true,if_false,↓kR,kE,kK,sL,C_P,Nat.reduceEqDiff,reduceIte,Tryz.f12,bx,l0,q1,q2,q3,q4,lQ,cl,sL]
 have q4:(e.k==4)=false:=by simpa using k4
 by_cases k5:e.k=5
 ·have q5:(e.k==5)=true:=by simp[k5]
  obtain⟨v,s',a1,a2,a3,a4⟩:=c41 (n+323) (by omega) h e.req.c e.req.id
  have cl:=ac a1 (by kernel_rfl)
  simp only[if_neg k1,if_neg k2,if_neg k3,if_neg k4,if_pos k5]
  refine⟨v.strip,s',(canS st e.req.c e.req.id).1,(canS st e.req.c e.req.id).2.1,(canS st e.req.c e.req.id).2.2,?_,a2.strip,rfl,a3.mono (by omega),a4⟩
  rw[rd Tryz.func12];conv in compF _ _ _ _ _ _=>cbv
  simp only[strip_rs,strip_mr,strip_nilf,Bool.false_eq_true,if_false,↓kR,kE,kK,sL,C_P,Nat.reduceEqDiff,reduceIte,Tryz.f12,bx,l0,q1,q2,q3,q4,q5,l6,l7,cl,sL]
 have q5:(e.k==5)=false:=by simpa using k5
 by_cases k6:e.k=6
 ·have q6:(e.k==6)=true:=by simp[k6]
  simp only[if_neg k1,if_neg k2,if_neg k3,if_neg k4,if_neg k5,if_pos k6]
  by_cases hN:e.n<0
  ·have cl:=ac (c42n (n+328) (s:=s) (V:=V) hN) (by kernel_rfl)
   simp only[if_pos hN]
   refine⟨.nils,s,[],1,st,?_,.nil _,⟨rfl,rfl,rfl⟩,stay,fstay⟩
   rw[rd Tryz.func12];conv in compF _ _ _ _ _ _=>cbv
   simp only[strip_rs,strip_mr,strip_nilf,Bool.false_eq_true,if_false,↓kR,kE,kK,sL,C_P,Nat.reduceEqDiff,reduceIte,Tryz.f12,bx,l0,q1,q2,q3,q4,q5,q6,l1,cl,sL]
  ·obtain⟨F,S,M,D,Mr,Ma,Av,r,f,comps,clock,ql,mv,vv,pv,h,b1,b2,b3,b4⟩:=h
   obtain⟨v,s',comps',clock',ql',pv',l,st',m,a1,a2,a3,a4,a5,a6,a7⟩:=c42 (n+312) (by omega) (by omega) h (by omega) (by omega) (N:=e.n) (by omega)
   have cl:=ac a1 (by kernel_rfl)
   simp only[if_neg hN]
   refine⟨v.strip,s',l,0,st',?_,a2.strip,⟨rfl,m,a3⟩,⟨F,S,M,D,Mr,Ma,Av,r,f,comps',clock',ql',mv,vv,pv',a4,by omega,by omega,by omega,by rw[a3.eq];show st.rev≤B+20;omega⟩,a5⟩
   rw[rd Tryz.func12];conv in compF _ _ _ _ _ _=>cbv
   simp only[strip_rs,strip_mr,strip_nilf,Bool.false_eq_true,if_false,↓kR,kE,kK,sL,C_P,Nat.reduceEqDiff,reduceIte,Tryz.f12,bx,l0,q1,q2,q3,q4,q5,q6,l1,cl,sL]
 have q6:(e.k==6)=false:=by simpa using k6
 by_cases k7:e.k=7
 ·have q7:(e.k==7)=true:=by simp[k7]
  simp only[if_neg k1,if_neg k2,if_neg k3,if_neg k4,if_neg k5,if_neg k6,if_pos k7]
  by_cases hN:e.n<0
  ·have qn:decide (e.n<0)=true:=decide_eq_true hN
   simp only[if_pos hN]
   refine⟨.nils,s,[],1,st,?_,.nil _,⟨rfl,rfl,rfl⟩,stay,fstay⟩
   rw[rd Tryz.func12];conv in compF _ _ _ _ _ _=>cbv
   simp only[strip_rs,strip_mr,strip_nilf,Bool.false_eq_true,if_false,↓kR,kE,kK,sL,C_P,Nat.reduceEqDiff,reduceIte,Tryz.f12,bx,l0,q1,q2,q3,q4,q5,q6,q7,l1,qn,↓rC_seqj,sL]
  ·have qn:decide (e.n<0)=false:=decide_eq_false hN
   obtain⟨F,S,M,D,Mr,Ma,Av,r,f,comps,clock,ql,mv,vv,pv,h,b1,b2,b3,b4⟩:=h
   have lV4:aLoad false false 1 (.ref V 4) s=some (.ref D 0,s):=ldv h.sv (by decide) rfl
   obtain⟨v,s',ql',a1,a2,a3,a4,a5⟩:=c43 (n+326) h.m (by omega) (by omega) e.n he.n
   have cl:aCall Tryz.prog (den C (n+329)) 43 [.ref D 0,I e.n] s=some (I v,s'):=by
    rw[aCall,if_pos (by kernel_rfl),if_neg (by simp[noRefL_cons,AV.noRef])];exact a1
   have hsi:=h.memo a2 a4 (fun j j1 _ j3 _ _=>a5 j j1 j3) fun x hx=>.inl (List.mem_map.2 ⟨x,a3.subset hx,rfl⟩)
   simp only[if_neg hN]
   refine⟨.nils,s',[],0,st,?_,.nil _,⟨rfl,rfl,rfl⟩,⟨F,S,M,D,Mr,Ma,Av,r,f,comps,clock,ql',mv,vv,pv,hsi.1,by omega,by omega,by omega,by omega⟩,hsi.2⟩
   rw[rd Tryz.func12];conv in compF _ _ _ _ _ _=>cbv
   simp only[strip_rs,strip_mr,strip_nilf,Bool.false_eq_true,if_false,↓kR,kE,kK,sL,C_P,Nat.reduceEqDiff,reduceIte,Tryz.f12,bx,l0,q1,q2,q3,q4,q5,q6,q7,l1,qn,↓rC_seqj,lV4,cl,sL]
 have q7:(e.k==7)=false:=by simpa using k7
 simp only[if_neg k1,if_neg k2,if_neg k3,if_neg k4,if_neg k5,if_neg k6,if_neg k7]
 refine⟨.nils,s,[],7,st,?_,.nil _,⟨rfl,rfl,rfl⟩,stay,fstay⟩
 rw[rd Tryz.func12];conv in compF _ _ _ _ _ _=>cbv
 simp only[strip_rs,strip_mr,strip_nilf,Bool.false_eq_true,if_false,↓kR,kE,kK,sL,C_P,Nat.reduceEqDiff,reduceIte,Tryz.f12,bx,l0,q1,q2,q3,q4,q5,q6,q7,↓rC_seqj,sL]
end Srv
end

section
namespace Srv
open Go Go.Abs Go.Proofs
def st0:St:=⟨[],[],[],0⟩
abbrev Cl (b:Nat):AV:=.fn 35 [] [.ref b 0]
theorem c57 (n:Nat)(s:Heap):den C (n+1) 57 [] s=some (.ref (s.length+1) 0,s++[(mapTy,[.undef])]++[(148,[I 0,I 0,I 0,I 0,.mr s.length])]):=in_new n s
theorem c34 (n b:Nat)(s:Heap):den C (n+2) 34 [Cl b] s=some (.ref (s.length+4) 0,s++[(mapTy,[.undef])]++[(148,[I 0,I 0,I 0,I 0,.mr s.length])]++[(mapTy,[.undef])]++[(mapTy,[.undef])]++[(121,[Cl b,.ref (s.length+1) 0,.mr (s.length+2),.mr (s.length+3),.nilf,I 0,I 0])]):=by
 have q:aBin Tryz.prog .eql 84 (Cl b) .nilf=some (.bool false):=by kernel_rfl
 have hs:(Cl b).strip=Cl b:=rfl
 have bd:∀x y z,aBuild Tryz.prog 121 [(0,Cl b),(1,.ref x 0),(2,.mr y),(3,.mr z)]=some (.agg [Cl b,.ref x 0,.mr y,.mr z,.nilf,I 0,I 0]):=fun x y z=>by kernel_rfl
 have bx:∀x y z s,aBox true 121 (.agg [Cl b,.ref x 0,.mr y,.mr z,.nilf,I 0,I 0]) s=some (.ref s.length 0,s++[(121,[Cl b,.ref x 0,.mr y,.mr z,.nilf,I 0,I 0])]):=fun x y z s=>boxR (t:=121) (by decide) rfl (by intro e;cases e) s
 rw[rd Tryz.func34];conv in compF _ _ _ _ _ _=>cbv
 simp only[strip_rs,strip_mr,strip_nilf,Bool.false_eq_true,if_false,↓kR,kE,kK,sL,C_P,Nat.reduceEqDiff,reduceIte,Tryz.f34,hs,sL]
 simp only[strip_rs,strip_mr,strip_nilf,Bool.false_eq_true,if_false,↓kR,kE,kK,sL,C_P,Nat.reduceEqDiff,reduceIte,rC_seqj,hs,q,cFs _ _ (by kernel_rfl:enterable Tryz.prog 57=true),in_new n s,mkmap,bd,bx,app_length,sL]
theorem vErr0:vErr []=0:=by unfold vErr;simp[nms]
theorem c11 (n:Nat)(s:Heap):∃s' V,den C (n+3) 11 [.fn 22 [] []] s=some (.ref V 0,s')∧SrvI s' V (fun i=>s.length≤i∧i<s'.length) st0 0∧Gr s s':=by
 have bx:aBox true 54 (.fn 22 [] []) s=some (.ref s.length 0,s++[(54,[.fn 22 [] []])]):=boxR (t:=54) (by decide) rfl (by intro e;cases e) s
 obtain⟨s2,e2⟩:∃s2,s++[(54,[AV.fn 22 [] []])]=s2:=⟨_,rfl⟩
 have at2:s2[s.length]?=some (54,[.fn 22 [] []]):=by rw[←e2];exact gapp_new
 have l1:aLoad false false 1 (.ref s.length 0) s2=some (.fn 22 [] [],s2):=ldv at2 (by decide) rfl
 have q:aBin Tryz.prog .eql 54 (.fn 22 [] []) .nilf=some (.bool false):=by kernel_rfl
 have k34:=c34 n s.length s2
 obtain⟨t1,f1⟩:∃t1,s2++[(mapTy,[.undef])]=t1:=⟨_,rfl⟩
 obtain⟨t2,f2⟩:∃t2,t1++[(148,[I 0,I 0,I 0,I 0,AV.mr s2.length])]=t2:=⟨_,rfl⟩
 obtain⟨t3,f3⟩:∃t3,t2++[(mapTy,[.undef])]=t3:=⟨_,rfl⟩
 obtain⟨t4,f4⟩:∃t4,t3++[(mapTy,[.undef])]=t4:=⟨_,rfl⟩
 obtain⟨s3,f5⟩:∃s3,t4++[(121,[Cl s.length,.ref (s2.length+1) 0,.mr (s2.length+2),.mr (s2.length+3),.nilf,I 0,I 0])]=s3:=⟨_,rfl⟩
 rw[f1,f2,f3,f4,f5]at k34
 have cl:aCall Tryz.prog (den C (n+2)) 34 [Cl s.length] s2=some (.ref (s2.length+4) 0,s3):=by
  rw[aCall,if_pos (by kernel_rfl),if_neg (by simp[noRefL_cons,AV.noRef])];exact k34
 have bd:∀x,aBuild Tryz.prog 86 [(4,.ref x 0)]=some (.agg [.nils,.nils,.nils,I 0,.ref x 0]):=fun x=>by kernel_rfl
 have bx2:∀x s,aBox true 86 (.agg [.nils,.nils,.nils,I 0,.ref x 0]) s=some (.ref s.length 0,s++[(86,[.nils,.nils,.nils,I 0,.ref x 0])]):=fun x s=>boxR (t:=86) (by decide) rfl (by intro e;cases e) s
 have sF:(AV.fn 22 [] []).strip=.fn 22 [] []:=rfl
 have sC:(AV.fn 35 [] [.ref s.length 0]).strip=Cl s.length:=rfl
 have n2:s2.length=s.length+1:=by rw[←e2,app_length]
 have m1:t1.length=s2.length+1:=by rw[←f1,app_length]
 have m2:t2.length=s2.length+2:=by rw[←f2,app_length,m1]
 have m3:t3.length=s2.length+3:=by rw[←f3,app_length,m2]
 have m4:t4.length=s2.length+4:=by rw[←f4,app_length,m3]
 have m5:s3.length=s2.length+5:=by rw[←f5,app_length,m4]
 obtain⟨s4,e4⟩:∃s4,s3++[(86,[AV.nils,AV.nils,AV.nils,I 0,.ref (s2.length+4) 0])]=s4:=⟨_,rfl⟩
 have m6:s4.length=s2.length+6:=by rw[←e4,app_length,m5]
 have g2:Gr s s2:=e2▸Gr.app ..
 have h1:Gr s2 t1:=f1▸Gr.app ..
 have h2:Gr t1 t2:=f2▸Gr.app ..
 have h3:Gr t2 t3:=f3▸Gr.app ..
 have h4:Gr t3 t4:=f4▸Gr.app ..
 have h5:Gr t4 s3:=f5▸Gr.app ..
 have h6:Gr s3 s4:=e4▸Gr.app ..
 have aM:s4[s2.length]?=some (mapTy,[.undef]):=(h2.trans (h3.trans (h4.trans (h5.trans h6)))).at (by rw[←f1];exact gapp_new)
 have aS:s4[s2.length+1]?=some (148,[I 0,I 0,I 0,I 0,.mr s2.length]):=(h3.trans (h4.trans (h5.trans h6))).at (by rw[←f2,←m1];exact gapp_new)
 have aMr:s4[s2.length+2]?=some (mapTy,[.undef]):=(h4.trans (h5.trans h6)).at (by rw[←f3,←m2];exact gapp_new)
 have aMa:s4[s2.length+3]?=some (mapTy,[.undef]):=(h5.trans h6).at (by rw[←f4,←m3];exact gapp_new)
 have aD:s4[s2.length+4]?=some (121,[Cl s.length,.ref (s2.length+1) 0,.mr (s2.length+2),.mr (s2.length+3),.nilf,I 0,I 0]):=h6.at (by rw[←f5,←m4];exact gapp_new)
 have aV:s4[s2.length+5]?=some (86,[.nils,.nils,.nils,I 0,.ref (s2.length+4) 0]):=by rw[←e4,←m5];exact gapp_new
 have aAv:s4[s.length]?=some (54,[.fn 22 [] []]):=(h1.trans (h2.trans (h3.trans (h4.trans (h5.trans h6))))).at at2
 refine⟨s4,s2.length+5,?_,⟨fun i=>i=s2.length+1∨i=s2.length,s2.length+1,s2.length,s2.length+4,s2.length+2,s2.length+3,s.length,0,fun _=>zc,0,0,[],.nils,.nils,.nils,⟨⟨⟨⟨by omega,.inl rfl,.inr rfl,⟨0,0,aS⟩,[],aM,fun k=>.inl ⟨rfl,rfl⟩⟩,aD,aAv,aMr,aMa⟩,⟨nofun,nofun,.nil,.nil,.nil,nofun⟩,?_,⟨by omega,by omega,by omega⟩,by omega,nofun,fun _=>Int.le_refl _,⟨Int.le_refl _,Int.le_refl _⟩⟩,aV,.nil,.nil,.nil,⟨rfl,rfl,.inl rfl⟩,fun h=>absurd rfl h,vErr0,rfl,⟨by omega,nofun⟩,Nat.zero_le _,.nil,nofun,?_,⟨?_,?_,?_,?_,nofun,nofun⟩,fun i hi=>hi.2,⟨Int.le_refl _,Int.le_refl _⟩⟩,Int.le_refl _,Int.le_refl _,Int.le_refl _,Int.le_refl _⟩,g2.trans (h1.trans (h2.trans (h3.trans (h4.trans (h5.trans h6)))))⟩
 ·skip
  rw[rd Tryz.func11];conv in compF _ _ _ _ _ _=>cbv
  simp only[strip_rs,strip_mr,strip_nilf,Bool.false_eq_true,if_false,↓kR,kE,kK,sL,C_P,Nat.reduceEqDiff,reduceIte,Tryz.f11,bx,e2,sL]
  simp only[strip_rs,strip_mr,strip_nilf,Bool.false_eq_true,if_false,↓kR,kE,kK,sL,C_P,Nat.reduceEqDiff,reduceIte,rC_seqj,sF,l1,q,sC,cl,bd,bx2,e4,m5,sL]
 ·rintro i (rfl|rfl)<;>omega
 ·rintro i (rfl|rfl)<;>constructor<;>omega
 all_goals (constructor<;>omega)
theorem SrvI.up {s s':Heap}{V:Nat}{G:Foot}{st:St}{B:Int}(h:SrvI s V G st B)(u:Up0 s s'):SrvI s' V G st B:=by
 obtain⟨F,S,M,D,Mr,Ma,Av,r,f,comps,clock,ql,mv,vv,pv,h,b1,b2,b3,b4⟩:=h
 exact⟨F,S,M,D,Mr,Ma,Av,r,f,comps,clock,ql,mv,vv,pv,h.up u,b1,b2,b3,b4⟩
theorem a16 (n:Nat){s:Heap}{V:Nat}{G:Foot}{st:St}{B:Int}(h:SrvI s V G st B):∃v s',aCall Tryz.prog (den C (n+2)) 16 [.ref V 0] s=some (v,s')∧SL 45 2 s' v (st.ms.map modC)∧v.strip=v∧Gr s s':=by
 obtain⟨F,S,M,D,Mr,Ma,Av,r,f,comps,clock,ql,mv,vv,pv,h,b1,b2,b3,b4⟩:=h
 have l0:aLoad false false 1 (.ref V 0) s=some (mv,s):=ldv h.sv (by decide) rfl h.sp.1
 obtain⟨v,s',a1,a2,a3,a4,_⟩:=k49 n h.mm h.sp.1
 have e49:enterable Tryz.prog 49=true:=by kernel_rfl
 refine⟨v,s',?_,a2,a3,a4⟩
 rw[aCall,if_pos (by kernel_rfl),if_neg (by simp[noRefL_cons,AV.noRef])]
 rw[rd Tryz.func16];conv in compF _ _ _ _ _ _=>cbv
 simp only[strip_rs,strip_mr,strip_nilf,Bool.false_eq_true,if_false,↓kR,kE,kK,sL,C_P,Nat.reduceEqDiff,reduceIte,Tryz.f16,l0,h.sp.1,cFs _ _ e49,a1,a3,sL]
theorem a24 (n:Nat){s:Heap}{V:Nat}{G:Foot}{st:St}{B:Int}(h:SrvI s V G st B):∃v s',aCall Tryz.prog (den C (n+2)) 24 [.ref V 0] s=some (v,s')∧SL 33 5 s' v (st.pd.map reqC)∧v.strip=v∧Gr s s'∧∀Q off n,v=.rs 33 5 Q off n→s.length≤Q:=by
 obtain⟨F,S,M,D,Mr,Ma,Av,r,f,comps,clock,ql,mv,vv,pv,h,b1,b2,b3,b4⟩:=h
 have l0:aLoad false false 1 (.ref V 2) s=some (pv,s):=ldv h.sv (by decide) rfl h.pst
 obtain⟨v,s',a1,a2,a3,a4,a5⟩:=k54 n h.pm h.pst
 have e54:enterable Tryz.prog 54=true:=by kernel_rfl
 refine⟨v,s',?_,a2,a3,a4,fun Q off m e=>?_⟩
 ·rw[aCall,if_pos (by kernel_rfl),if_neg (by simp[noRefL_cons,AV.noRef])]
  rw[rd Tryz.func24];conv in compF _ _ _ _ _ _=>cbv
  simp only[strip_rs,strip_mr,strip_nilf,Bool.false_eq_true,if_false,↓kR,kE,kK,sL,C_P,Nat.reduceEqDiff,reduceIte,Tryz.f24,l0,h.pst,cFs _ _ e54,a1,a3,sL]
 ·rcases a5 with ⟨_,h'|h',_⟩|⟨_,h',_⟩<;>rw[h']at e<;>cases e
  exact Nat.le_refl _
end Srv
end

section
namespace Srv
open Go Go.Abs Go.Proofs
theorem und50:Tryz.prog.underlying 50=some (.slice 35):=by kernel_rfl
theorem sz35:szOf Tryz.prog 35=some 11:=by kernel_rfl
theorem info35:Info 35 11:=infoG (by kernel_rfl)
theorem z35:zeroOf Tryz.prog 35=some (.agg [I 0,I 0,I 0,.str [],.str [],.nils,I 0,I 0,I 0,I 0,.str []]):=by kernel_rfl
def EvL (s:Heap)(v:AV)(l:List Evn):Prop:=SL 35 11 s v (l.map evC)∧∀e∈l,EvOK e
theorem ev_els (l:List Evn)(h:∀e∈l,EvOK e)(hl:l.length<1000000):Els 11 (l.map evC):=⟨fun x hx=>by
 obtain⟨e,he,rfl⟩:=List.mem_map.1 hx
 have:=(h e he).ed.strip
 exact⟨rfl,by simp[this]⟩,by rw[List.length_map];exact hl⟩
def evS (e:Evn):Evn:={ e with tx:=e.tx.take 150,req:={ e.req with a:=if e.req.q=8∧300<e.req.a then 300 else e.req.a } }
theorem EvOK.s {e:Evn}(h:EvOK e):EvOK (evS e):=⟨h.ed,h.et,h.n⟩
def Own (ty z b:Nat)(s:Heap)(v:AV)(es:List (List AV)):Prop:=SL ty z s v es∧((v=.nils∧es=[])∨∃Q,v=.rs ty z Q 0 es.length∧es≠[]∧b≤Q)
theorem Own.strip {ty z b:Nat}{s:Heap}{v:AV}{es:List (List AV)}(h:Own ty z b s v es):v.strip=v:=by
 rcases h.2 with ⟨rfl,_⟩|⟨Q,rfl,_⟩<;>rfl
theorem Own.nil (ty z b:Nat)(s:Heap):Own ty z b s .nils []:=⟨.nil,.inl ⟨rfl,rfl⟩⟩
theorem Own.row {ty z b:Nat}{s:Heap}{v:AV}{es:List (List AV)}(h:Own ty z b s v es){Q:Nat}(hQ:rowOf v=some Q):b≤Q:=by
 rcases h.2 with ⟨rfl,_⟩|⟨Q',rfl,_,hb⟩<;>cases hQ
 exact hb
theorem Own.app {ty z b t:Nat}(hu:Tryz.prog.underlying t=some (.slice ty))(hi:Info ty z)(hz0:z≠0)(ht:ty<deadTy)(hh:ty≠headTy){s:Heap}{v w:AV}{es es2:List (List AV)}(h:Own ty z b s v es)(k:SL ty z s w es2)(hn:es.length+es2.length<1000000)(hb:b≤s.length) :
  ∃v' s',aRsAppend Tryz.prog t t v w s=some (v',s')∧Own ty z b s' v' (es++es2)∧s.length≤s'.length∧(∀i,i<s.length→rowOf v≠some i→s'[i]?=s[i]?):=by
 by_cases h2:es2=[]
 ·subst h2
  obtain⟨ys,y1,y2,y3⟩:=k.src hz0 ht
  have hy:ys=[]:=List.length_eq_zero_iff.1 y2
  subst hy
  rcases h.2 with ⟨rfl,rfl⟩|⟨Q,rfl,hne,hbQ⟩
  ·have a1:=(apS (x:=.nils) hu hu hi hz0 ht (.inl rfl) y1 (by decide)).1 rfl
   exact⟨.nils,s,a1,.nil ..,Nat.le_refl _,fun _ _ _=>rfl⟩
  ·have hsl:=h.1
   obtain⟨w',hw'⟩:∃w',w'=AV.rs ty z Q 0 es.length:=⟨_,rfl⟩
   rw[←hw']at hsl
   cases hsl with
   | nil=>cases hw'
   | sl _ f h=>cases hw'
   | rs Q' off pre junk _ E hQ hp hn' =>
    simp only[AV.rs.injEq,true_and,and_true]at hw'
    obtain⟨rfl,rfl⟩:=hw'
    have hpre:pre=[]:=List.length_eq_zero_iff.1 hp
    subst hpre
    rw[List.nil_append]at hQ hn'
    obtain⟨i,zz,i1,i2,i3,i4,i5⟩:=hi
    have hl:=E.len
    have hpos:0<es.length:=List.length_pos_iff.2 hne
    have hbd:bound i (es.length+0):=bound_of (by
     have:(2*(es.length+0)+768)*i.bytes≤(2*(es.length+0)+768)*200:=Nat.mul_le_mul_left _ i5
     simp only[List.length_nil]at hn
     omega) (by simp only[List.length_nil]at hn;omega)
    have h6:¬deadTy≤ty:=Nat.not_le.2 ht
    have hne':es.flatten++junk≠[]:=by intro e;rw[e]at hn';simp at hn'
    have key:aRsAppend Tryz.prog t t (.rs ty z Q' 0 es.length) w s=some (.rs ty z s.length 0 (es.length+0),kill s Q'++[(ty,es.flatten++[])]):=by
     subst i2
     unfold aRsAppend
     rw[hu]
     simp only[i1,y1,i3,i4,h6,hz0,ne_eq,not_true_eq_false,or_self,if_false]
     rw[if_pos ⟨trivial,trivial,by simp only[List.length_nil];omega,hbd⟩,hQ]
     simp only
     rw[if_pos ⟨trivial,by simp only[List.length_append];omega,hne'⟩,List.take_left' hl]
     rfl
    rw[List.append_nil,Nat.add_zero]at key
    have hk:(kill s Q').length=s.length:=by unfold kill;rw[set_length]
    refine⟨_,_,key,⟨?_,.inr ⟨s.length,by rw[List.append_nil],by simpa using hne,hb⟩⟩,by rw[app_length,hk];omega,fun j hj hr=>?_⟩
    ·rw[List.append_nil]
     exact SL.mk hz0 E (by rw[←hk,gapp_new]) hne
    ·rw[gapp_old (by omega),kill_get,if_neg (fun e=>hr (by rw[e];rfl))]
 ·obtain⟨v',s',a1,a2,a3,a4,a5,a6,a7,a8⟩:=SL.app hu hi hz0 ht hh h.1 (fun es' f e=>by
   rcases h.2 with ⟨e',_⟩|⟨Q,e',_⟩<;>rw[e']at e<;>cases e) k hn (.inl h2)
  have a8:=a8 h2
  exact⟨v',s',a1,⟨a2,.inr ⟨s.length,by rw[List.length_append];exact a8,by simp[h2],hb⟩⟩,a5,a6⟩
def EvA (v:AV)(l:List Evn):Prop:=((∃f,v=.sl 35 11 ((l.map evC).map .agg) f)∨(v=.nils∧l=[]))∧∀e∈l,EvOK e
theorem EvA.strip {v:AV}{l:List Evn}(h:EvA v l):EvA v.strip l:=by
 rcases h with ⟨⟨f,rfl⟩|⟨rfl,rfl⟩,h2⟩
 ·cases f
  ·exact⟨.inl ⟨_,rfl⟩,h2⟩
  ·exact⟨.inl ⟨_,rfl⟩,h2⟩
  ·exact⟨.inl ⟨_,rfl⟩,h2⟩
 ·exact⟨.inr ⟨rfl,rfl⟩,h2⟩
theorem EvA.len {v:AV}{l:List Evn}(h:EvA v l):aLen Tryz.prog 50 v.strip=some (I l.length):=by
 rcases h.strip with ⟨⟨f,e⟩|⟨e,rfl⟩,h2⟩
 ·rw[e];simp[aLen,und50]
 ·rw[e];simp[aLen,und50]
theorem EvA.take {v:AV}{l:List Evn}(h:EvA v l)(s:Heap){i:Nat}(hi:i≤l.length)(hi2:i<1000000):∃w,aSl Tryz.prog 50 v.strip none (some (I i)) none=some w∧SL 35 11 s w ((l.map evC).take i)∧w.strip=w:=by
 rcases h.strip with ⟨⟨f,e⟩|⟨e,rfl⟩,h2⟩
 ·rw[e]
  refine⟨.sl 35 11 (((l.map evC).take i).map .agg) .sh,?_,.sl _ _ ⟨fun x hx=>?_,by simp;omega⟩,rfl⟩
  ·have:(i:Int)≤l.length:=by omega
   simp[aSl,und50,sz35,aSlice,aBound,this,List.map_take]
  ·obtain⟨y,hy,rfl⟩:=List.mem_map.1 (List.mem_of_mem_take hx)
   have:=(h2 y hy).ed.strip
   exact⟨rfl,by simp[this]⟩
 ·rw[e]
  have:i=0:=Nat.le_zero.1 hi
  subst this
  exact⟨.nils,by simp[aSl,und50],.nil,rfl⟩
theorem c19 (n:Nat)(hn:100<n){s:Heap}{v:AV}{l:List Evn}(h:EvA v l)(m:Nat)(hm:m<50) :
  ∃v' s',den C (n+1) 19 [v,I m] s=some (v',s')∧Own 35 11 s.length s' v' (((l.take m).map evS).map evC)∧Up0 s s':=by
 have hlen:=h.len
 obtain⟨k,hk⟩:∃k,k=min l.length m:=⟨_,rfl⟩
 have hmin:aMin (I l.length) (I m)=some (I k):=by
  have:=mnL l.length (a:=(m:Int)) (by omega)
  rw[Int.toNat_natCast,←hk]at this
  exact this
 obtain⟨w,w1,w2,w3⟩:=h.take s (i:=k) (by omega) (by omega)
 rw[←List.map_take]at w2
 obtain⟨lt,hlt⟩:∃lt,lt=l.take k:=⟨_,rfl⟩
 have hlm:l.take m=lt:=by
  rw[hlt,hk]
  rcases Nat.le_total l.length m with h|h
  ·rw[Nat.min_eq_left h,List.take_of_length_le (Nat.le_refl _),List.take_of_length_le h]
  ·rw[Nat.min_eq_right h]
 rw[←hlt]at w2
 rw[hlm]
 have hltl:lt.length=k:=by rw[hlt,List.length_take];omega
 have hok:∀e∈lt,EvOK e:=fun e he=>h.2 e (by rw[hlt]at he;exact List.mem_of_mem_take he)
 have hlen2:aLen Tryz.prog 50 w=some (I lt.length):=by have:=w2.len und50;rwa [List.length_map]at this
 rw[rd Tryz.func19];conv in compF _ _ _ _ _ _=>cbv
 simp only[strip_rs,strip_mr,strip_nilf,Bool.false_eq_true,if_false,↓kR,kE,kK,sL,C_P,Nat.reduceEqDiff,reduceIte,Tryz.f19,hlen,hmin,strip2,w1,hlen2,sL]
 refine loopI (R:=fun a=>∃v' s',a=some (v',s')∧Own 35 11 s.length s' v' ((lt.map evS).map evC)∧Up0 s s')
  (fun i e s1=>e 13=w∧e 14=I lt.length∧e 15=I i∧Up0 s s1∧∃v5,e 5=v5∧Own 35 11 s.length s1 v5 (((lt.take i).map evS).map evC)) lt.length ?_ ?_ lt.length 0 (by omega) _ (by omega) _ _ ⟨rfl,rfl,rfl,Upd.refl _ _,.nils,rfl,.nil ..⟩
 ·rintro i e s1 q hi ⟨e13,e14,e15,u1,v5,e5,o5⟩ hk'
  have hil:decide (i<lt.length)=true:=decide_eq_true hi
  have w2':SL 35 11 s1 w (lt.map evC):=w2.tf fun j cs hj=>u1.at hj
  obtain⟨p,p1,p2,p3,_⟩:=w2'.at und50 sz35 (by decide) (by decide) (i:=i) (by rw[List.length_map];exact hi)
  rw[List.getElem_map]at p2
  obtain⟨x,hx⟩:∃x,lt[i]=x:=⟨_,rfl⟩
  have hxo:EvOK x:=hok x (by rw[←hx];exact List.getElem_mem hi)
  rw[hx]at p2
  obtain⟨s2,e2⟩:∃s2,s1++[(35,evC x)]=s2:=⟨_,rfl⟩
  have hst:=hxo.ed.strip
  have st2:aStore 11 (s1++[(35,[I 0,I 0,I 0,.str [],.str [],.nils,I 0,I 0,I 0,I 0,.str []])]) (.ref s1.length 0) (.agg (evC x))=some s2:=by
   rw[stW (n:=11) gapp_new (by decide) rfl rfl (by simp[hst]),set_end,e2]
  have g2:Gr s1 s2:=e2▸Gr.app ..
  have at2:s2[s1.length]?=some (35,evC x):=by rw[←e2];exact gapp_new
  have m4:aLoad false false 1 (.ref s1.length 4) s2=some (.str x.tx,s2):=ldv at2 (by decide) rfl
  obtain⟨c,hc⟩:∃c,c=min x.tx.length 150:=⟨_,rfl⟩
  have hmn:aMin (I x.tx.length) (I 150)=some (I c):=by
   have:=mnL x.tx.length (a:=(150:Int)) (by decide)
   rw[hc];exact this
  have hsub:=sub9 x.tx c (by omega)
  have htk:x.tx.take c=x.tx.take 150:=by
   rw[hc]
   rcases Nat.le_total x.tx.length 150 with h|h
   ·rw[Nat.min_eq_left h,List.take_of_length_le (Nat.le_refl _),List.take_of_length_le h]
   ·rw[Nat.min_eq_right h]
  rw[htk]at hsub
  obtain⟨s3,e3⟩:∃s3,s2.set s1.length (35,evC { x with tx:=x.tx.take 150 })=s3:=⟨_,rfl⟩
  have st3:aStore 1 s2 (.ref s1.length 4) (.str (x.tx.take 150))=some s3:=by
   rw[Srv.st (n:=1) at2 (by decide) rfl rfl (by simp),←e3];rfl
  have at3:s3[s1.length]?=some (35,evC { x with tx:=x.tx.take 150 }):=by rw[←e3];exact gset_eq at2
  have m8:aLoad false false 1 (.ref s1.length 8) s3=some (I x.req.q,s3):=ldv at3 (by decide) rfl
  have m9:aLoad false false 1 (.ref s1.length 9) s3=some (I x.req.a,s3):=ldv at3 (by decide) rfl
  obtain⟨s4,e4⟩:∃s4,s3.set s1.length (35,evC { x with tx:=x.tx.take 150,req:={ x.req with a:=300 } })=s4:=⟨_,rfl⟩
  have st4:aStore 1 s3 (.ref s1.length 9) (I 300)=some s4:=by
   rw[Srv.st (n:=1) at3 (by decide) rfl rfl (by simp),←e4];rfl
  have at4:s4[s1.length]?=some (35,evC { x with tx:=x.tx.take 150,req:={ x.req with a:=300 } }):=by rw[←e4];exact gset_eq at3
  have wi:=wrap64 (show -9223372036854775808≤(i:Int)+1 by omega) (by omega)
  have lu:=u1.len
  have bsE:∀y:Evn,EvOK y→aBuildSlice Tryz.prog 50 1 [(0,.agg (evC y))]=some (.sl 35 11 [.agg (evC y)] .own):=fun y hy=>by
   have:∀a b c d e f g h i j k,aBuildSlice Tryz.prog 50 1 [(0,.agg [I a,I b,I c,.str d,.str e,f,I g,I h,I i,I j,.str k])]=some (.sl 35 11 [.agg [I a,I b,I c,.str d,.str e,f,I g,I h,I i,I j,.str k]] .own):=fun a b c d e f g h i j k=>by kernel_rfl
   exact this _ _ _ _ _ _ _ _ _ _ _
  -- from the append on
  have fin:∀(sx:Heap),sx[s1.length]?=some (35,evC (evS x))→(∀j,j≠s1.length→sx[j]?=s2[j]?)→sx.length=s2.length→∃w' s5,aLoad false true 11 (.ref s1.length 0) sx=some (.agg (evC (evS x)),sx)∧aRsAppend Tryz.prog 50 50 v5 (.sl 35 11 [.agg (evC (evS x))] .own) sx=some (w',s5)∧w'.strip=w'∧v5.strip=v5∧(∀E:Env,E 13=w→E 14=I lt.length→E 15=I ((i:Int)+1)→E 5=w'→∃v' s',q E s5=some (v',s')∧Own 35 11 s.length s' v' ((lt.map evS).map evC)∧Up0 s s'):=by
   intro sx hxx hxo' hxl
   have lA:=ldA (n:=11) (o:=0) hxx (by decide) (by simp) (by decide)
   have o5':Own 35 11 s.length sx v5 (((lt.take i).map evS).map evC):=by
    refine⟨o5.1.fr fun Q off m' e=>?_,o5.2⟩
    obtain⟨cs,hcs⟩:=o5.1.row e
    have:=glt hcs
    rw[hxo' Q (by omega),g2.get this]
   have hEls:Els 11 [evC (evS x)]:=ev_els [evS x] (fun y hy=>by rw[List.mem_singleton.1 hy];exact hxo.s) (by simp)
   obtain⟨w',s5,a1,a2,a3,a4⟩:=Own.app und50 info35 (by decide) (by decide) (by decide) o5' (SL.sl [evC (evS x)] .own hEls) (by simp;omega) (by have:=g2.len;omega)
   refine⟨w',s5,lA,a1,a2.strip,o5.strip,fun E f1 f2 f3 f4=>hk' E s5 ⟨f1,f2,by rw[f3];exact iS i,⟨by have:=g2.len;omega,fun j hj _=>?_⟩,w',f4,?_⟩⟩
   ·rw[a4 j (by have:=g2.len;omega) (fun e=>by have:=o5.row e;omega),hxo' j (by omega),g2.get (by omega),u1.get hj]
   ·rw[List.take_succ,List.getElem?_eq_getElem hi,hx]
    simpa using a2
  by_cases hq8:x.req.q=8
  ·have q8:(x.req.q==8)=true:=by simp[hq8]
   by_cases h300:300<x.req.a
   ·have q3:decide (x.req.a > 300)=true:=decide_eq_true h300
    have q3':decide (300<x.req.a)=true:=decide_eq_true h300
    have hev:({ x with tx:=x.tx.take 150,req:={ x.req with a:=300 } }:Evn)=evS x:=by unfold evS;simp[hq8,h300]
    rw[hev]at at4 e4
    obtain⟨w',s5,f1,f2,f3,f4,f5⟩:=fin s4 at4 (fun j hj=>by rw[←e4,gset_ne hj.symm,←e3,gset_ne hj.symm]) (by rw[←e4,set_length,←e3,set_length])
    simp only[strip_rs,strip_mr,strip_nilf,Bool.false_eq_true,if_false,↓kR,kE,kK,sL,C_P,Nat.reduceEqDiff,reduceIte,↓rC_seqj,e13,e14,e15,hil,p1,p2,allocS z35 (by decide) ⟨nofun,rfl⟩,st2,m4,len9,hmn,hsub,st3,m8,q8,m9,q3,q3',st4,e5,f1,bsE _ hxo.s,f2,f3,f4,wi,sL]
    refine f5 _ ?_ ?_ ?_ ?_<;>first|exact e13|exact e14|rfl
   ·have q3:decide (x.req.a > 300)=false:=decide_eq_false h300
    have q3':decide (300<x.req.a)=false:=decide_eq_false h300
    have hev:({ x with tx:=x.tx.take 150 }:Evn)=evS x:=by unfold evS;simp[h300]
    rw[hev]at at3 e3
    obtain⟨w',s5,f1,f2,f3,f4,f5⟩:=fin s3 at3 (fun j hj=>by rw[←e3,gset_ne hj.symm]) (by rw[←e3,set_length])
    simp only[strip_rs,strip_mr,strip_nilf,Bool.false_eq_true,if_false,↓kR,kE,kK,sL,C_P,Nat.reduceEqDiff,reduceIte,↓rC_seqj,e13,e14,e15,hil,p1,p2,allocS z35 (by decide) ⟨nofun,rfl⟩,st2,m4,len9,hmn,hsub,st3,m8,q8,m9,q3,q3',e5,f1,bsE _ hxo.s,f2,f3,f4,wi,sL]
    refine f5 _ ?_ ?_ ?_ ?_<;>first|exact e13|exact e14|rfl
  ·have q8:(x.req.q==8)=false:=by simpa using hq8
   have hev:({ x with tx:=x.tx.take 150 }:Evn)=evS x:=by unfold evS;simp[hq8]
   rw[hev]at at3 e3
   obtain⟨w',s5,f1,f2,f3,f4,f5⟩:=fin s3 at3 (fun j hj=>by rw[←e3,gset_ne hj.symm]) (by rw[←e3,set_length])
   simp only[strip_rs,strip_mr,strip_nilf,Bool.false_eq_true,if_false,↓kR,kE,kK,sL,C_P,Nat.reduceEqDiff,reduceIte,↓rC_seqj,e13,e14,e15,hil,p1,p2,allocS z35 (by decide) ⟨nofun,rfl⟩,st2,m4,len9,hmn,hsub,st3,m8,q8,e5,f1,bsE _ hxo.s,f2,f3,f4,wi,sL]
   refine f5 _ ?_ ?_ ?_ ?_<;>first|exact e13|exact e14|rfl
 ·rintro e s1 q ⟨e13,e14,e15,u1,v5,e5,o5⟩
  have hil:decide (lt.length<lt.length)=false:=decide_eq_false (by omega)
  simp only[strip_rs,strip_mr,strip_nilf,Bool.false_eq_true,if_false,↓kR,kE,kK,sL,C_P,Nat.reduceEqDiff,reduceIte,e14,e15,hil,e5,o5.strip,sL]
  rw[List.take_length]at o5
  exact⟨v5,s1,rfl,o5,u1⟩
end Srv
end

section
namespace Srv
open Go Go.Abs Go.Proofs
theorem SrvI.chg {s s':Heap}{V:Nat}{G:Foot}{st:St}{B:Int}(h:SrvI s V G st B)(hl:s.length≤s'.length)(ty:∀(i:Nat)(t:TypeId)(cs:List AV),s[i]?=some (t,cs)→t≠61→s'[i]?=some (t,cs)):SrvI s' V G st B:=by
 obtain⟨F,S,M,D,Mr,Ma,Av,r,f,comps,clock,ql,mv,vv,pv,h,b1,b2,b3,b4⟩:=h
 obtain⟨xb,xc,hS⟩:=h.m.db.inp.st
 obtain⟨l,hM,hl'⟩:=h.m.db.inp.mp
 obtain⟨F',hF'⟩:∃F':Foot,F'=fun i=>F i∧(i=S∨i=M∨∃cs,s[i]?=some (3,cs)):=⟨_,rfl⟩
 have sub:∀i,F' i→F i:=fun i hi=>by rw[hF']at hi;exact hi.1
 have inp:IS s F' S M r f:=⟨h.m.db.inp.ne,by rw[hF'];exact⟨h.m.db.inp.FSS,.inl rfl⟩,by rw[hF'];exact⟨h.m.db.inp.FM,.inr (.inl rfl)⟩,⟨xb,xc,hS⟩,l,hM,fun q=>(hl' q).imp id fun⟨x,k1,v,k2,k3,k4,k5,k6⟩=>⟨x,k1,v,k2,k3,k4,k5,fun Q n e=>by
  rw[hF'];exact⟨k6 Q n e,.inr (.inr (k3.row e))⟩⟩⟩
 have kF:∀i,F' i→s'[i]?=s[i]?:=fun i hi=>by
  rw[hF']at hi
  rcases hi.2 with rfl|rfl|⟨cs,hc⟩
  ·rw[ty _ _ _ hS (by decide),hS]
  ·rw[ty _ _ _ hM (by decide),hM]
  ·rw[ty _ _ _ hc (by decide),hc]
 have m:=h.m
 have h':SI s V G F' S M D Mr Ma Av r f comps clock ql mv vv pv st:=⟨⟨⟨inp,m.db.db,m.db.av,m.db.rm,m.db.am⟩,m.q,fun i hi=>m.hF i (sub i hi),⟨fun hi=>m.hFM.1 (sub _ hi),fun hi=>m.hFM.2.1 (sub _ hi),fun hi=>m.hFM.2.2 (sub _ hi)⟩,m.ne,fun e he hi=>m.Fq e he (sub _ hi),m.ch,m.cb⟩,h.sv,h.mm,h.vm,h.pm,h.sp,h.enc,h.ok,h.vl,⟨fun hi=>h.nF.1 (sub _ hi),fun P hP hi=>h.nF.2 P hP (sub _ hi)⟩,h.pl,h.pk,h.pq,fun i hi=>h.G1 i (sub i hi),h.G2,h.GL,h.bd⟩
 exact⟨F',S,M,D,Mr,Ma,Av,r,f,comps,clock,ql,mv,vv,pv,h'.chg hl ty kF,b1,b2,b3,b4⟩
theorem SrvI.pl {s:Heap}{V:Nat}{G:Foot}{st:St}{B:Int}(h:SrvI s V G st B):st.pd.length≤20:=by
 obtain⟨F,S,M,D,Mr,Ma,Av,r,f,comps,clock,ql,mv,vv,pv,h,_⟩:=h
 exact h.pl
theorem SrvI.ms8 {s:Heap}{V:Nat}{G:Foot}{st:St}{B:Int}(h:SrvI s V G st B):st.ms.length≤8:=by
 obtain⟨F,S,M,D,Mr,Ma,Av,r,f,comps,clock,ql,mv,vv,pv,h,_⟩:=h
 exact SI.len8 h.ok
inductive Steps:St→List Evn→List Resp→St→Prop
 | nil (st:St):Steps st [] [] st
 | snoc {st st1 st2:St} {es:List Evn} {l l1:List Resp} {e:Evn} {err:Int} (h:Steps st es l st1) (hb:st1.ms.length≤8∧st1.pd.length≤20) (k:HStep st1 e l1 err st2):Steps st (es++[e]) (l++l1) st2
theorem HStep.len {st st':St}{e:Evn}{l:List Resp}{err:Int}(h:HStep st e l err st')(hp:st.pd.length≤20):l.length≤20:=by
 unfold HStep at h
 split at h
 ·rw[h.1];simp
 split at h
 ·rw[h.1];simp
 split at h
 ·rw[h.1];simp
 split at h
 ·rw[h.1];simp
 split at h
 ·unfold canS at h
  split at h
  ·cases h;simp
  ·cases h;simp
 split at h
 ·split at h
  ·rw[h.1];simp
  ·obtain⟨_,m,hm⟩:=h
   rw[hm.ans,List.length_map,List.length_take]
   omega
 split at h
 ·split at h
  ·rw[h.1];simp
  ·rw[h.1];simp
 ·rw[h.1];simp
def OV (b:Nat)(s:Heap)(v:AV)(l:List Resp):Prop:=∃es,Own 61 6 b s v es∧RC s es l
theorem OV.rv {b:Nat}{s:Heap}{v:AV}{l:List Resp}(h:OV b s v l):RV s v l:=by
 obtain⟨es,h1,h2⟩:=h
 exact⟨es,h1.1,h2⟩
theorem OV.strip {b:Nat}{s:Heap}{v:AV}{l:List Resp}(h:OV b s v l):v.strip=v:=by
 obtain⟨es,h1,h2⟩:=h
 exact h1.strip
theorem OV.tf {b:Nat}{s s':Heap}{v:AV}{l:List Resp}(h:OV b s v l)(k:∀(i:Nat)(cs:List AV),s[i]?=some (3,cs)→s'[i]?=some (3,cs))(k2:∀(i:Nat)(cs:List AV),s[i]?=some (61,cs)→s'[i]?=some (61,cs)):OV b s' v l:=by
 obtain⟨es,h1,h2⟩:=h
 exact⟨es,⟨h1.1.tf k2,h1.2⟩,RC.tf k h2⟩
theorem OV.fg {b:Nat}{s s':Heap}{G:Foot}{v:AV}{l:List Resp}(h:OV b s v l)(k:Fg G s s'):OV b s' v l:=h.tf (fun i cs hi=>k.tf i _ cs hi (by decide) (by decide) (by decide) (by decide) (by decide) (by decide)) fun i cs hi=>k.tf i _ cs hi (by decide) (by decide) (by decide) (by decide) (by decide) (by decide)
theorem OV.app {b:Nat}{s:Heap}{v w:AV}{l l2:List Resp}(h:OV b s v l)(k:RV s w l2)(hn:l.length+l2.length<1000000)(hb:b≤s.length) :
  ∃v' s',aRsAppend Tryz.prog 29 29 v w s=some (v',s')∧OV b s' v' (l++l2)∧s.length≤s'.length∧(∀i t cs,s[i]?=some (t,cs)→(t≠61∨i<b)→s'[i]?=some (t,cs)):=by
 obtain⟨es,h1,h2⟩:=h
 obtain⟨es2,k1,k2⟩:=k
 obtain⟨v',s',a1,a2,a3,a4⟩:=Own.app und29 info61 (by decide) (by decide) (by decide) h1 k1 (by rw[h2.len,k2.len];exact hn) hb
 have fr:∀i t cs,s[i]?=some (t,cs)→(t≠61∨i<b)→s'[i]?=some (t,cs):=fun i t cs hi ht=>by
  rw[a4 i (glt hi) (fun e=>?_),hi]
  rcases ht with ht|ht
  ·obtain⟨cs',hc⟩:=h1.1.rowAt e
   rw[hi]at hc;cases hc;exact ht rfl
  ·have:=h1.row e;omega
 have f3:∀(i:Nat) (cs:List AV),s[i]?=some (3,cs)→s'[i]?=some (3,cs):=fun i cs hi=>fr i 3 cs hi (.inl (by decide))
 exact⟨v',s',a1,⟨es++es2,a2,RC.app (RC.tf f3 h2) (RC.tf f3 k2)⟩,a3,fr⟩
set_option maxHeartbeats 2000000 in
theorem c21 (n:Nat)(hn:150000<n)(hn2:n<600000){s:Heap}{V:Nat}{G:Foot}{st:St}{B:Int}(h:SrvI s V G st B){v:AV}{l:List Evn}(hv:EvL s v l)(hl:l.length≤50)(hB:B<90000) :
  ∃w s' rs st',den C (n+331) 21 [.ref V 0,v] s=some (w,s')∧OV s.length s' w rs∧Steps st l rs st'∧SrvI s' V (FN G s s') st' (B+1000)∧Fg G s s'∧rs.length≤1000:=by
 have hs:=hv.1.strip
 have hb:=hv.1.els.2
 rw[List.length_map]at hb
 have hlen:aLen Tryz.prog 50 v.strip=some (I l.length):=by have:=hs.len und50;rwa [List.length_map]at this
 rw[rd Tryz.func21];conv in compF _ _ _ _ _ _=>cbv
 simp only[strip_rs,strip_mr,strip_nilf,Bool.false_eq_true,if_false,↓kR,kE,kK,sL,C_P,Nat.reduceEqDiff,reduceIte,Tryz.f21,hlen,sL]
 refine loopI (R:=fun a=>∃w s' rs st',a=some (w,s')∧OV s.length s' w rs∧Steps st l rs st'∧SrvI s' V (FN G s s') st' (B+1000)∧Fg G s s'∧rs.length≤1000)
  (fun i e s1=>e 0=.ref V 0∧e 10=v.strip∧e 11=I l.length∧e 12=I i∧i≤l.length∧∃v5 rs st1,e 5=v5∧OV s.length s1 v5 rs∧Steps st (l.take i) rs st1∧SrvI s1 V (FN G s s1) st1 (B+20*i)∧Fg G s s1∧rs.length≤20*i) l.length ?_ ?_ l.length 0 (by omega) _ (by omega) _ _ ⟨rfl,rfl,rfl,rfl,by omega,.nils,[],st,rfl,⟨[],.nil ..,trivial⟩,.nil _,?_,(Gr.refl s).fg G,by simp⟩
 ·rintro i e s1 q hi ⟨e0,e10,e11,e12,hil,v5,rs,st1,e5,ov,sp,si,fg,rl⟩ hk
  have hlt:decide (i<l.length)=true:=decide_eq_true hi
  have sv1:SL 35 11 s1 v.strip (l.map evC):=hs.tf fun j cs hj=>fg.tf j _ cs hj (by decide) (by decide) (by decide) (by decide) (by decide) (by decide)
  obtain⟨p,p1,p2,p3,_⟩:=sv1.at und50 sz35 (by decide) (by decide) (i:=i) (by rw[List.length_map];exact hi)
  rw[List.getElem_map]at p2
  obtain⟨x,hx⟩:∃x,l[i]=x:=⟨_,rfl⟩
  have hxo:EvOK x:=hv.2 x (by rw[←hx];exact List.getElem_mem hi)
  rw[hx]at p2
  have hst:=hxo.ed.strip
  obtain⟨s2,e2⟩:∃s2,s1++[(35,evC x)]=s2:=⟨_,rfl⟩
  have st2:aStore 11 (s1++[(35,[I 0,I 0,I 0,.str [],.str [],.nils,I 0,I 0,I 0,I 0,.str []])]) (.ref s1.length 0) (.agg (evC x))=some s2:=by
   rw[stW (n:=11) gapp_new (by decide) rfl rfl (by simp[hst]),set_end,e2]
  have g2:Gr s1 s2:=e2▸Gr.app ..
  have at2:s2[s1.length]?=some (35,evC x):=by rw[←e2];exact gapp_new
  have l2:=ldA (n:=11) (o:=0) at2 (by decide) (by simp) (by decide)
  have l2:aLoad false true 11 (.ref s1.length 0) s2=some (.agg (evC x),s2):=l2
  obtain⟨w,s3,l1,err,st3,c1,c2,c3,c4,c5⟩:=c12 n hn hn2 (si.up g2.up) (by omega) x hxo
  have cl:aCall Tryz.prog (den C (n+330)) 12 [.ref V 0,.agg (evC x)] s2=some (.tup [w,I err],s3):=by
   rw[aCall,if_pos (by kernel_rfl),if_neg (by simp[noRefL_cons,AV.noRef])];exact c1
  have ll1:=c3.len si.pl
  have f12:=fg.len
  have f23:=g2.len
  have f34:=c5.len
  have ov3:OV s.length s3 v5 rs:=(ov.tf (fun j cs hj=>g2.at hj) fun j cs hj=>g2.at hj).fg c5
  obtain⟨v',s4,a1,a2,a3,a4⟩:=ov3.app c2.strip (by omega) (by omega)
  have wi:=wrap64 (show -9223372036854775808≤(i:Int)+1 by omega) (by omega)
  simp only[strip_rs,strip_mr,strip_nilf,Bool.false_eq_true,if_false,↓kR,kE,kK,sL,C_P,Nat.reduceEqDiff,reduceIte,e0,e10,e11,e12,hlt,p1,p2,allocS z35 (by decide) ⟨nofun,rfl⟩,st2,l2,cl,e5,ov.strip,strip2,a1,wi,sL]
  refine hk _ _ ⟨e0,e10,e11,iS i,by omega,v',rs++l1,st3,rfl,a2,?_,?_,?_,by rw[List.length_append];omega⟩
  ·rw[List.take_succ,List.getElem?_eq_getElem hi,hx]
   exact .snoc sp ⟨si.ms8,si.pl⟩ c3
  ·have c4':SrvI s4 V (FN (FN G s s1) s2 s3) st3 (B+20*i+20):=c4.chg a3 fun j t cs hj ht=>a4 j t cs hj (.inl ht)
   refine(c4'.mono (by push_cast;omega)).wid (fun j hj=>?_) fun j hj=>?_
   ·rcases hj with (hj|hj)|hj
    ·exact .inl hj
    ·exact .inr ⟨hj.1,by omega⟩
    ·exact .inr ⟨by omega,by omega⟩
   ·rcases hj with hj|hj
    ·have:=h.GL j hj;omega
    ·exact hj.2
  ·have f03:Fg G s s3:=(fg.trans (g2.fg (FN G s s1)) fun j hj=>hj.imp (fun h=>h) (·.1)).trans c5 fun j hj=>hj.imp (fun h=>h) (·.1)
   refine⟨by omega,fun j hj hg=>?_,fun j t cs hj b1 b2 b3 b4 b5 b6=>a4 j t cs (f03.tf j t cs hj b1 b2 b3 b4 b5 b6) (.inr (glt hj))⟩
   have h3:=f03.old j hj hg
   obtain⟨y,hy⟩:∃y,s[j]?=some y:=⟨_,List.getElem?_eq_getElem hj⟩
   rw[hy]at h3 ⊢
   exact a4 j y.1 y.2 h3 (.inr hj)
 ·rintro e s1 q ⟨e0,e10,e11,e12,hil,v5,rs,st1,e5,ov,sp,si,fg,rl⟩
  have hlt:decide (l.length<l.length)=false:=decide_eq_false (by omega)
  simp only[strip_rs,strip_mr,strip_nilf,Bool.false_eq_true,if_false,↓kR,kE,kK,sL,C_P,Nat.reduceEqDiff,reduceIte,e11,e12,hlt,e5,ov.strip,sL]
  rw[List.take_length]at sp
  exact⟨v5,s1,rs,st1,rfl,ov,sp,si.mono (by omega),fg,by omega⟩
 ·have:=h.wid (G':=FN G s s) (fun i hi=>.inl hi) fun i hi=>hi.elim (h.GL i) (·.2)
  exact this.mono (by simp)
end Srv
end

section
namespace Srv
open Go Go.Abs Go.Proofs
theorem neq45 (m:Mod):aBin Tryz.prog .neq 45 (.agg (modC m)) (.agg (modC m))=some (.bool false):=by
 have:∀a b c d,aBin Tryz.prog .neq 45 (.agg [.str a,.str b]) (.agg [.str c,.str d])=some (.bool (!((a==c)&&((b==d)&&true)))):=fun a b c d=>by kernel_rfl
 rw[this];simp
theorem neq33 (m:Req):aBin Tryz.prog .neq 33 (.agg (reqC m)) (.agg (reqC m))=some (.bool false):=by
 have:∀a b c d e a' b' c' d' e',aBin Tryz.prog .neq 33 (.agg [I a,I b,I c,I d,.str e]) (.agg [I a',I b',I c',I d',.str e'])=some (.bool (!((a==a')&&((b==b')&&((c==c')&&((d==d')&&((e==e')&&true))))))):=fun _ _ _ _ _ _ _ _ _ _=>by kernel_rfl
 rw[this];simp
theorem c27 (n:Nat){s:Heap}{v w:AV}{l:List Mod}(h:SL 45 2 s v (l.map modC))(k:SL 45 2 s w (l.map modC))(hn:l.length<n):den C (n+1) 27 [v,w] s=some (.bool true,s):=by
 have hs:=h.strip
 have ks:=k.strip
 have l1:aLen Tryz.prog 46 v.strip=some (I l.length):=by have:=hs.len und46;rwa [List.length_map]at this
 have l2:aLen Tryz.prog 46 w.strip=some (I l.length):=by have:=ks.len und46;rwa [List.length_map]at this
 have hb:=h.els.2
 rw[List.length_map]at hb
 rw[rd Tryz.func27];conv in compF _ _ _ _ _ _=>cbv
 simp only[strip_rs,strip_mr,strip_nilf,Bool.false_eq_true,if_false,↓kR,kE,kK,sL,C_P,Nat.reduceEqDiff,reduceIte,Tryz.f27,l1,l2,bne_self_eq_false,sL]
 refine loopI (R:=fun a=>a=some (.bool true,s)) (fun i e s1=>s1=s∧e 0=v∧e 1=w∧e 12=I l.length∧e 13=I i) l.length ?_ ?_ l.length 0 (by omega) n hn _ _ ⟨rfl,rfl,rfl,rfl,rfl⟩
 ·rintro i e s1 q hi ⟨rfl,e0,e1,e12,e13⟩ hk
  have hlt:decide (i<l.length)=true:=decide_eq_true hi
  obtain⟨p,p1,p2,p3,_⟩:=hs.at und46 sz45 (by decide) (by decide) (i:=i) (by rw[List.length_map];exact hi)
  obtain⟨p',p1',p2',p3',_⟩:=ks.at und46 sz45 (by decide) (by decide) (i:=i) (by rw[List.length_map];exact hi)
  rw[List.getElem_map]at p2 p2'
  have ne:=neq45 l[i]
  simp only[strip_rs,strip_mr,strip_nilf,Bool.false_eq_true,if_false,↓kR,kE,kK,sL,C_P,Nat.reduceEqDiff,reduceIte,e0,e1,e12,e13,hlt,p1,p2,p1',p2',ne,rd_compat p3 p3',sL]
  rw[wrap64 (by omega) (by omega)]
  exact hk _ _ ⟨rfl,e0,e1,e12,iS i⟩
 ·rintro e s1 q ⟨rfl,e0,e1,e12,e13⟩
  have hlt:decide (l.length<l.length)=false:=decide_eq_false (by omega)
  simp only[strip_rs,strip_mr,strip_nilf,Bool.false_eq_true,if_false,↓kR,kE,kK,sL,C_P,Nat.reduceEqDiff,reduceIte,e12,e13,hlt,sL]
theorem a27 (n:Nat){s:Heap}{v w:AV}{l:List Mod}(h:SL 45 2 s v (l.map modC))(k:SL 45 2 s w (l.map modC))(hn:l.length<n):aCall Tryz.prog (den C (n+1)) 27 [v,w] s=some (.bool true,s) :=
 aC (by kernel_rfl) rfl (fun hr=>⟨[],by
  simp only[noRefL,Bool.and_eq_true]at hr
  exact c27 n (h.pure hr.1) (k.pure hr.2.1) hn⟩) fun _=>c27 n h k hn
theorem c28 (n:Nat){s:Heap}{v w:AV}{l:List Req}(h:SL 33 5 s v (l.map reqC))(k:SL 33 5 s w (l.map reqC))(hn:l.length<n):den C (n+1) 28 [v,w] s=some (.bool true,s):=by
 have hs:=h.strip
 have ks:=k.strip
 have l1:aLen Tryz.prog 57 v.strip=some (I l.length):=by have:=hs.len und57;rwa [List.length_map]at this
 have l2:aLen Tryz.prog 57 w.strip=some (I l.length):=by have:=ks.len und57;rwa [List.length_map]at this
 have hb:=h.els.2
 rw[List.length_map]at hb
 rw[rd Tryz.func28];conv in compF _ _ _ _ _ _=>cbv
 simp only[strip_rs,strip_mr,strip_nilf,Bool.false_eq_true,if_false,↓kR,kE,kK,sL,C_P,Nat.reduceEqDiff,reduceIte,Tryz.f28,l1,l2,bne_self_eq_false,sL]
 refine loopI (R:=fun a=>a=some (.bool true,s)) (fun i e s1=>s1=s∧e 0=v∧e 1=w∧e 12=I l.length∧e 13=I i) l.length ?_ ?_ l.length 0 (by omega) n hn _ _ ⟨rfl,rfl,rfl,rfl,rfl⟩
 ·rintro i e s1 q hi ⟨rfl,e0,e1,e12,e13⟩ hk
  have hlt:decide (i<l.length)=true:=decide_eq_true hi
  obtain⟨p,p1,p2,p3,_⟩:=hs.at und57 sz33 (by decide) (by decide) (i:=i) (by rw[List.length_map];exact hi)
  obtain⟨p',p1',p2',p3',_⟩:=ks.at und57 sz33 (by decide) (by decide) (i:=i) (by rw[List.length_map];exact hi)
  rw[List.getElem_map]at p2 p2'
  have ne:=neq33 l[i]
  simp only[strip_rs,strip_mr,strip_nilf,Bool.false_eq_true,if_false,↓kR,kE,kK,sL,C_P,Nat.reduceEqDiff,reduceIte,e0,e1,e12,e13,hlt,p1,p2,p1',p2',ne,rd_compat p3 p3',sL]
  rw[wrap64 (by omega) (by omega)]
  exact hk _ _ ⟨rfl,e0,e1,e12,iS i⟩
 ·rintro e s1 q ⟨rfl,e0,e1,e12,e13⟩
  have hlt:decide (l.length<l.length)=false:=decide_eq_false (by omega)
  simp only[strip_rs,strip_mr,strip_nilf,Bool.false_eq_true,if_false,↓kR,kE,kK,sL,C_P,Nat.reduceEqDiff,reduceIte,e12,e13,hlt,sL]
theorem a28 (n:Nat){s:Heap}{v w:AV}{l:List Req}(h:SL 33 5 s v (l.map reqC))(k:SL 33 5 s w (l.map reqC))(hn:l.length<n):aCall Tryz.prog (den C (n+1)) 28 [v,w] s=some (.bool true,s) :=
 aC (by kernel_rfl) rfl (fun hr=>⟨[],by
  simp only[noRefL,Bool.and_eq_true]at hr
  exact c28 n (h.pure hr.1) (k.pure hr.2.1) hn⟩) fun _=>c28 n h k hn
theorem ex18:(den C 200331 18 [] []).map (·.1)=some (.bool true):=by kernel_rfl
theorem f18 (s:Heap):aCall Tryz.prog (den C 200331) 18 [] s=some (.bool true,s):=by
 obtain⟨⟨a,s1⟩,e,h⟩:=Option.map_eq_some_iff.1 ex18
 simp only at h
 subst h
 exact aC (by kernel_rfl) rfl (fun _=>⟨s1,e⟩) fun e=>(nomatch (show true=false from e))
theorem HStep.err {st st':St}{e:Evn}{l:List Resp}{err:Int}(h:HStep st e l err st')(he:err≠0):l=[]∧st'=st:=by
 have rp:∀(ms:List Mod) (vs:List Int),(err,st')=repl st ms vs→st'=st:=fun ms vs hx=>by
  unfold repl at hx
  split at hx
  ·cases hx;exact absurd rfl he
  ·cases hx;rfl
 have wp:∀(a b:Bytes),(err,st')=wr st a b→st'=st:=fun a b hx=>rp _ _ hx
 unfold HStep at h
 split at h
 ·exact⟨h.1,wp _ _ h.2⟩
 split at h
 ·refine⟨h.1,?_⟩
  have:=h.2
  unfold rem at this
  split at this
  ·exact rp _ _ this
  ·cases this;rfl
 split at h
 ·refine⟨h.1,?_⟩
  have:=h.2
  unfold edt at this
  split at this
  ·split at this
   ·split at this
    ·exact wp _ _ this
    ·cases this;rfl
   ·cases this;rfl
  ·cases this;rfl
 split at h
 ·refine⟨h.1,?_⟩
  have:=h.2
  unfold reqS at this
  split at this
  ·cases this;rfl
  split at this
  ·cases this;rfl
  split at this
  ·cases this;rfl
  ·cases this;exact absurd rfl he
 split at h
 ·unfold canS at h
  split at h
  ·cases h;exact absurd rfl he
  ·cases h;exact⟨rfl,rfl⟩
 split at h
 ·split at h
  ·exact⟨h.1,h.2.2⟩
  ·exact absurd h.1 he
 split at h
 ·split at h
  ·exact⟨h.1,h.2.2⟩
  ·exact⟨h.1,h.2.2⟩
 ·exact⟨h.1,h.2.2⟩
end Srv
end
