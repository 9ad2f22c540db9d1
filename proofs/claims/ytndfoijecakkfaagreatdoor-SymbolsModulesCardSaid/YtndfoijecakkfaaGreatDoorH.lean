/- AstH, AstI, AstJ, AstK, AstS, AstL -/
import Derived.Test.YtndfoijecakkfaaGreatDoorG
import Derived.Test.YtndfoijecakkfaaGreatDoorP
import Derived.Test.YtndfoijecakkfaaGreatDoorC
import Derived.Sort.AssemblyPlain
set_option linter.all false
set_option maxRecDepth 100000
set_option maxHeartbeats 2000000

section
namespace ParF
open Go Go.Abs Go.Proofs Pm vy
theorem iH.at:∀{cs:List Nd}{rows:List AV},iH cs rows→∀{i:Nat}{t:Nd},cs[i]?=some t→∃a,rows[i]?=some a∧qK t a
 | _,_,.nil,i,t,h=>by simp at h
 | _,_,.cons t a cs rows h h',0,t',e=>by
  simp only[List.getElem?_cons_zero,Option.some.injEq]at e
  subst e;exact⟨a,rfl,h⟩
 | _,_,.cons t a cs rows h h',i+1,t',e=>by
  rw[List.getElem?_cons_succ]at e
  obtain⟨b,h1,h2⟩:=iH.at h' e
  exact⟨b,by rw[List.getElem?_cons_succ,h1],h2⟩
theorem iO:Tryz.prog.underlying 50=some (.slice 58):=by kernel_rfl
theorem Py:da Tryz.prog 58=some 7:=by kernel_rfl
theorem ZX {rows:List AV}{i:Nat}{a:AV}{f:om}(h:rows[i]?=some a):aA Tryz.prog 50 (.sl 58 7 rows f) (I i)=some (.box a.cells 0):=by
 simp[aA,iO,Py,h]
theorem ZY (rows:List AV)(f:om):bN Tryz.prog 50 (.sl 58 7 rows f)=some (I rows.length):=by simp[bN,iO]
theorem xO:bN Tryz.prog 50 .aN=some (I 0):=by simp[bN,iO]
theorem KK (t z i o n:Nat):bN Tryz.prog 50 (.rs t z i o n)=some (I n):=by simp[bN,iO]
theorem nx.facts {cs:List Nd}{ch:AV}(h:nx cs ch):bN Tryz.prog 50 ch=some (I cs.length)∧∀{i:Nat}{t:Nd},cs[i]?=some t→∃a,aA Tryz.prog 50 ch (I i)=some (.box a.cells 0)∧qK t a:=by
 cases h with
 | nil=>exact⟨xO,fun e=>by simp at e⟩
 | sl cs rows h =>
  refine⟨by rw[ZY,h.length],fun e=>?_⟩
  obtain⟨a,h1,h2⟩:=h.at e
  exact⟨a,ZX h1,h2⟩
theorem vG:bH Tryz.prog 58=fun s=>some (.ref s.length 0,s++[(58,[I 0,I 0,.str [],I 0,I 0,I 0,.aN])]):=by
 have h:zeroOf Tryz.prog 58=some (.agg [I 0,I 0,.str [],I 0,I 0,I 0,.aN]):=by kernel_rfl
 funext s
 simp[bH,h]
theorem ac' {s:List UInt8}{a b:Int}(h0:0≤a)(h1:a≤b)(h2:b≤s.length):mL Tryz.prog 9 (.str s) (some (I a)) (some (I b)) none=some (.str (slice s a b)):=by
 obtain⟨x,rfl⟩:=Int.eq_ofNat_of_zero_le h0
 obtain⟨y,rfl⟩:=Int.eq_ofNat_of_zero_le (Int.le_trans h0 h1)
 have h1:x≤y:=by omega
 have h2:y≤s.length:=by omega
 simp[mL,ep.pm,lM,dQ,h1,h2,slice,List.drop_take]
theorem H_ {s:ag}{i:Nat}{cs:List AV}(h:s[i]?=some (58,cs))(hc:cs.length=7){a:AV}(h1:a.cells.length=7)(h2:a.cells.map AV.aa=a.cells)(h4:a=.agg a.cells):aB 7 s (.ref i 0) a=some (s.set i (58,a.cells)):=by
 have Aj:a.ce=true:=by rw[h4];rfl
 have hst:dv a=a.cells:=by rw[h4];exact h2
 rw[ParF.st (n:=7) (o:=0) (v:=a) h (by decide) Aj h1 (by omega),hst]
 have:=gp [] a.cells cs (by omega)
 rw[List.nil_append,List.nil_append]at this
 rw[show bZ cs 0 a.cells=a.cells from this]
theorem MA {s:ag}{i:Nat}{a:AV}(h:s[i]?=some (58,a.cells))(h1:a.cells.length=7)(h4:a=.agg a.cells):af false true 7 (.ref i 0) s=some (a,s):=by
 rw[Jr (o:=0) h (by decide) (by omega) (by decide),List.drop_zero,List.take_of_length_le (by omega),←h4]
theorem ZZ {a:AV}(s:ag)(h1:a.cells.length=7)(h4:a=.agg a.cells):af false true 7 (.box a.cells 0) s=some (a,s):=by
 rw[nM _ _ _ _ _ (by omega),List.drop_zero,List.take_of_length_le (by omega),←h4]
theorem Pz (S E:Int)(x:Bytes):bn Tryz.prog 58 [(0,I 46),(2,.str x),(3,I S),(4,I E),(5,I (-1))]=some (.agg [I 46,I 0,.str x,I S,I E,I (-1),.aN]):=by
 have hz:zeroOf Tryz.prog 58=some (.agg [I 0,I 0,.str [],I 0,I 0,I 0,.aN]):=by kernel_rfl
 have hu:(match Tryz.prog.underlying 58 with|some (.struct fs)=>dN Tryz.prog fs.toList|_=>none)=some [(0,1),(1,1),(2,1),(3,1),(4,1),(5,1),(6,1)]:=by kernel_rfl
 unfold bn
 split at hu
 ·rename_i fs hh
  rw[hz,hh]
  simp[hu,jo,bZ,AV.cells,AV.ce,AV.aa]
 ·cases hu
theorem KL (k o:Int):bn Tryz.prog 58 [(0,I k),(3,I o),(4,I (-1)),(5,I (-1))]=some (.agg [I k,I 0,.str [],I o,I (-1),I (-1),.aN]):=by
 have hz:zeroOf Tryz.prog 58=some (.agg [I 0,I 0,.str [],I 0,I 0,I 0,.aN]):=by kernel_rfl
 have hu:(match Tryz.prog.underlying 58 with|some (.struct fs)=>dN Tryz.prog fs.toList|_=>none)=some [(0,1),(1,1),(2,1),(3,1),(4,1),(5,1),(6,1)]:=by kernel_rfl
 unfold bn
 split at hu
 ·rename_i fs hh
  rw[hz,hh]
  simp[hu,jo,bZ,AV.cells,AV.ce,AV.aa]
 ·cases hu
def qN (k:Int)(h:Hd):List Dg:=if k=46 then[⟨if h.s=max h.e h.s then 1 else 2,h.s,max h.e h.s⟩] else[]
theorem jC (src:Bytes)(k:Int)(h:Hd)(ns:List Nd)(d:List Dg):gP src k h ns d=((gP src k h ns []).1,d++qN k h):=by
 unfold gP qN
 by_cases c1:k=60
 ·subst c1;simp
 ·by_cases c2:k=46
  ·subst c2;simp
  ·simp[c1,c2]
def jf (h:Hd):Hd:=⟨h.v,h.x,h.s,max h.e h.s,h.ns⟩
theorem xP {t:Nd}{a:AV}(h:qK t a)(S E:Int):qK (t.place S E) (.agg (((a.cells).set 3 (I S)).set 4 (I E))):=by
 cases h with
 | mk k v x s e ns cs ch h=>exact .mk _ _ _ _ _ _ _ _ h
theorem UP (a:Nat)(x:aU):ba C 69 (bo Tryz.f69 4) [.ae,.ae,.ae,.ae,.ae,.put a,.ae,.put a] x=x:=dU (a:=a) (b:=a+1) (ks0:=[.ae,.ae,.ae,.ae,.ae,.put 0,.ae,.put 0]) (by omega) (by kernel_rfl) rfl
theorem Ex.fresh {s s':ag}(J:List Nat)(hl:s.length≤s'.length)(fr:∀x,x<s.length→s'[x]?=s[x]?):Ex s s' J J:=⟨hl,fun x hx _=>fr x hx,fun x hx=>.inl hx⟩
theorem BS.fresh {src:Bytes}{B:Nat}{s s':ag}{off:Nat}{ds:List Dg}{q:Option Nat}(h:BS src B s off ds q)(fr:∀x,x<s.length→s'[x]?=s[x]?):BS src B s' off ds q:=h.frame fun x hx=>fr x (h.lt x hx)
theorem PA {src:Bytes}{B:Nat}{s:ag}{off:Nat}{ds:List Dg}{q:Option Nat}(hb:BS src B s off ds q){k:Int}{h:Hd}{MB:List Nd}{ch:AV}(hN:nx MB ch)(h0:0≤h.s)(h1:max h.e h.s≤(src.length:Int))(h60:k=60→MB≠[])
  (hd:(ds++qN k h).length<1000000){n:Nat}(hn:5≤n) :
  ∃a s' q',ab Tryz.prog (den C n) 69 [.ref B 0,.agg (bR k (jf h) ch)] s=some (a,s')∧qK (gP src k h MB []).1 a∧BS src B s' off (ds++qN k h) q'∧Ex s s' (JB B q) (JB B q'):=by
 obtain⟨n,rfl⟩:∃m,n=m+1:=⟨n-1,by omega⟩
 obtain⟨m,hm⟩:∃m,n=m+1:=⟨n-1,by omega⟩
 obtain⟨c1,c2,c3⟩:=hN.aa
 have hcm:(bR k (jf h) ch).map AV.aa=bR k (jf h) ch:=by
  show [(I k).aa,(I h.v).aa,(AV.str h.x).aa,(I h.s).aa,(I (max h.e h.s)).aa,(I h.ns).aa,ch.aa]=_;rw[c1];rfl
 have bL:∀(o:Nat) (v:AV),(bR k (jf h) ch)[o]?=some v→v.aa=v→∀s2:ag,af false false 1 (.box (bR k (jf h) ch) o) s2=some (v,s2):=by
  intro o v e es s2
  rw[cu,e];simp[es]
 have b0:=bL 0 (I k) rfl rfl
 have b3:=bL 3 (I h.s) rfl rfl
 have b4:=bL 4 (I (max h.e h.s)) rfl rfl
 have b6:=bL 6 ch rfl c1
 have hBl:=iN hb.par
 have PB:∀s:ag,bH Tryz.prog 58 s=some (.ref s.length 0,s++[(58,[I 0,I 0,.str [],I 0,I 0,I 0,.aN])]):=fun s=>by rw[vG]
 have bx:cL false 58 (.agg (bR k (jf h) ch)) s=some (.box (bR k (jf h) ch) 0,s):=by
  rw[kT _ _ _ rfl];rfl
 generalize hz:([I 0,I 0,.str [],I 0,I 0,I 0,.aN]:List AV)=z0 at PB
 have JH:z0.length=7:=by rw[←hz];rfl
 have g1:(s++[(58,z0)])[s.length]?=some (58,z0):=aW
 by_cases k6:k=60
 ·-- the operand
  have e0:gP src k h MB []=((MB.headD default).place h.s (max h.e h.s),[]):=by unfold gP;rw[if_pos k6]
  have eD:qN k h=[]:=by unfold qN;rw[if_neg (by omega)]
  rw[e0,eD,List.append_nil]
  have f60:=ey k6
  cases MB with
  | nil=>exact absurd rfl (h60 k6)
  | cons t ts =>
  obtain⟨hl,RA⟩:=hN.facts
  obtain⟨a,i0,ha⟩:=RA (i:=0) (t:=t) rfl
  obtain⟨a1,a2,a3,a4⟩:=ha.cells
  have bx0:∀s2:ag,af false true 7 (.box a.cells 0) s2=some (a,s2):=fun s2=>ZZ s2 a1 a4
  have V4:a.aa=a:=by rw[a4];rfl
  obtain⟨S1,qM⟩:∃S1,s++[(58,z0)]=S1:=⟨_,rfl⟩
  obtain⟨S2,DE⟩:∃S2,S1++[(58,z0)]=S2:=⟨_,rfl⟩
  have l1:S1.length=s.length+1:=by rw[←qM];exact aP _ _
  have l2:S2.length=s.length+2:=by rw[←DE,aP,l1]
  have g2:S2[S1.length]?=some (58,z0):=by rw[←DE];exact aW
  have g10:∀x,x<S1.length→S2[x]?=S1[x]?:=fun x hx=>by rw[←DE];exact bE hx
  have g11:∀x,x<s.length→S1[x]?=s[x]?:=fun x hx=>by rw[←qM];exact bE hx
  rw[qM]at g1
  have p1:aB 7 S2 (.ref S1.length 0) a=some (S2.set S1.length (58,a.cells)):=H_ g2 JH a1 a2 a4
  have g3:(S2.set S1.length (58,a.cells))[S1.length]?=some (58,a.cells):=bK g2
  have p2:aB 1 (S2.set S1.length (58,a.cells)) (.ref S1.length 3) (I h.s)=some ((S2.set S1.length (58,a.cells)).set S1.length (58,a.cells.set 3 (I h.s))):=by
   rw[st (n:=1) (v:=I h.s) g3 (by decide) rfl rfl (by omega)];rfl
  rw[set_set]at p2
  have g4:(S2.set S1.length (58,a.cells.set 3 (I h.s)))[S1.length]?=some (58,a.cells.set 3 (I h.s)):=bK g2
  have p3:aB 1 (S2.set S1.length (58,a.cells.set 3 (I h.s))) (.ref S1.length 4) (I (max h.e h.s))=some ((S2.set S1.length (58,a.cells.set 3 (I h.s))).set S1.length (58,(a.cells.set 3 (I h.s)).set 4 (I (max h.e h.s)))):=by
   rw[st (n:=1) (v:=I (max h.e h.s)) g4 (by decide) rfl rfl (by simp;omega)];rfl
  rw[set_set]at p3
  have hp:=xP ha h.s (max h.e h.s)
  obtain⟨q1,q2,q3,q4⟩:=hp.cells
  generalize Wf:(AV.agg ((a.cells.set 3 (I h.s)).set 4 (I (max h.e h.s))))=pv at *
  have hpc:pv.cells=(a.cells.set 3 (I h.s)).set 4 (I (max h.e h.s)):=by rw[←Wf];rfl
  rw[←hpc]at p3
  have g5:(S2.set S1.length (58,pv.cells))[S1.length]?=some (58,pv.cells):=bK g2
  have p4:=MA g5 q1 q4
  have pst:pv.aa=pv:=by rw[q4];rfl
  have g6:(S2.set S1.length (58,pv.cells))[s.length]?=some (58,z0):=by
   rw[bu (by omega),g10 _ (by omega)];exact g1
  have p5:=H_ g6 JH q1 q2 q4
  have p6:=MA (bK (v:=(58,pv.cells)) g6) q1 q4
  have fr:∀x,x<s.length→((S2.set S1.length (58,pv.cells)).set s.length (58,pv.cells))[x]?=s[x]?:=fun x hx=>by
   rw[bu (by omega),bu (by omega),g10 x (by omega),g11 x hx]
  refine⟨pv,(S2.set S1.length (58,pv.cells)).set s.length (58,pv.cells),q,?_,hp,hb.fresh fr,Ex.fresh _ (by rw[bh,bh,l2];omega) fr⟩
  rw[aF Uy (a7 ..),Dv,F69]
  have i0':aA Tryz.prog 50 ch (I 0)=some (.box a.cells 0):=i0
  simp -implicitDefEqProofs only[sL,bx,PB,b0,f60,b6,i0',bx0,qM,DE,p1,b3,b4,p2,p3,cM,V4,UP,p4,p5,p6,pst]
 have f60:=dm k6
 by_cases k4:k=46
 ·-- an error
  have f46:=ey k4
  have hE:h.s≤max h.e h.s:=by omega
  have e0:gP src k h MB []=(.mk 46 0 (slice src h.s (max h.e h.s)) h.s (max h.e h.s) (-1) [],[⟨if h.s=max h.e h.s then 1 else 2,h.s,max h.e h.s⟩]):=by unfold gP;rw[if_neg k6,if_pos k4];rfl
  have eD:qN k h=[⟨if h.s=max h.e h.s then 1 else 2,h.s,max h.e h.s⟩]:=by unfold qN;rw[if_pos k4]
  rw[eD,List.length_append]at hd
  rw[e0,eD]
  obtain⟨S1,qM⟩:∃S1,s++[(58,z0)]=S1:=⟨_,rfl⟩
  have g11:∀x,x<s.length→S1[x]?=s[x]?:=fun x hx=>by rw[←qM];exact bE hx
  have l1:S1.length=s.length+1:=by rw[←qM];exact aP _ _
  rw[qM]at g1
  have b1:=hb.fresh g11
  obtain⟨s2,q2,r,b2,x2⟩:=nX b1 (if h.s=max h.e h.s then 1 else 2) h.s (max h.e h.s) (by omega)
  have r:=r m
  rw[←hm]at r
  have jS:s.length∉JB B q:=fun k=>by have:=hb.lt _ k;omega
  have g2:=(x2.fr s.length (by omega) jS).trans g1
  have l0:af false false 1 (.ref B 0) s2=some (.str src,s2):=ld (o:=0) b2.par (by decide) rfl (by decide)
  have H2:=ac' (s:=src) h0 hE h1
  obtain⟨pv,Wf⟩:∃pv:AV,pv=.agg [I 46,I 0,.str (slice src h.s (max h.e h.s)),I h.s,I (max h.e h.s),I (-1),.aN]:=⟨_,rfl⟩
  have b27:=Pz h.s (max h.e h.s) (slice src h.s (max h.e h.s))
  rw[←Wf]at b27
  have hp:qK (.mk 46 0 (slice src h.s (max h.e h.s)) h.s (max h.e h.s) (-1) []) pv:=by rw[Wf];exact .mk _ _ _ _ _ _ _ _ .nil
  obtain⟨q1,q2',q3,q4⟩:=hp.cells
  have p5:=H_ g2 JH q1 q2' q4
  have p6:=MA (bK (v:=(58,pv.cells)) g2) q1 q4
  have hJ0:∀e:Env,e 0=.ref B 0→e 3=.box (bR k (jf h) ch) 0→e 4=.ref s.length 0→e 6=I (if h.s=max h.e h.s then 1 else 2)→zk (den C n) n e S1=some (pv,s2.set s.length (58,pv.cells)):=by
   intro e e0 e3 e4 e6
   unfold zk
   simp -implicitDefEqProofs only[sL,e0,e3,e4,e6,b3,b4,r,l0,H2,b27,p5,p6,cM,Ux]
  have j2:=x2.h_ (by omega) jS
  refine⟨pv,s2.set s.length (58,pv.cells),q2,?_,hp,b2.set j2 _,?_⟩
  ·rw[aF Uy (a7 ..),Dv,F69]
   by_cases kE:h.s=max h.e h.s
   ·have fE:=ey kE
    rw[if_pos kE]at hJ0
    simp -implicitDefEqProofs only[sL,bx,PB,qM,b0,f60,f46,b3,b4,fE]
    exact hJ0 _ (by simp[ai,an,aH]) (by simp[ai,an,aH]) (by simp[ai,an,aH]) (by simp[ai,an,aH])
   ·have fE:=dm kE
    rw[if_neg kE]at hJ0
    simp -implicitDefEqProofs only[sL,bx,PB,qM,b0,f60,f46,b3,b4,fE]
    exact hJ0 _ (by simp[ai,an,aH]) (by simp[ai,an,aH]) (by simp[ai,an,aH]) (by simp[ai,an,aH])
  ·have x1:Ex s S1 (JB B q) (JB B q):=Ex.fresh _ (by omega) g11
   have x3:=x1.trans x2
   refine⟨by rw[bh];exact x3.len,fun x hx hj=>?_,x3.sub⟩
   rw[bu (by omega)];exact x3.fr x hx hj
 ·-- any other
  have f46:=dm k4
  have e0:gP src k h MB []=(.mk k h.v h.x h.s (max h.e h.s) h.ns MB,[]):=by unfold gP;rw[if_neg k6,if_neg k4]
  have eD:qN k h=[]:=by unfold qN;rw[if_neg k4]
  rw[e0,eD,List.append_nil]
  have hp:qK (.mk k h.v h.x h.s (max h.e h.s) h.ns MB) (.agg (bR k (jf h) ch)):=.mk _ _ _ _ _ _ _ _ hN
  obtain⟨q1,q2,q3,q4⟩:=hp.cells
  have p5:aB 7 (s++[(58,z0)]) (.ref s.length 0) (.agg (bR k (jf h) ch))=some ((s++[(58,z0)]).set s.length (58,bR k (jf h) ch)):=H_ g1 JH q1 q2 q4
  have p6:af false true 7 (.ref s.length 0) ((s++[(58,z0)]).set s.length (58,bR k (jf h) ch))=some (.agg (bR k (jf h) ch),(s++[(58,z0)]).set s.length (58,bR k (jf h) ch)):=MA (bK (v:=(58,(AV.agg (bR k (jf h) ch)).cells)) g1) q1 q4
  have p7:∀s2:ag,af false true 7 (.box (bR k (jf h) ch) 0) s2=some (.agg (bR k (jf h) ch),s2):=fun s2=>ZZ (a:=.agg (bR k (jf h) ch)) s2 q1 q4
  have fr:∀x,x<s.length→((s++[(58,z0)]).set s.length (58,bR k (jf h) ch))[x]?=s[x]?:=fun x hx=>by
   rw[bu (by omega),bE hx]
  refine⟨_,_,q,?_,hp,hb.fresh fr,Ex.fresh _ (by rw[bh,aP];omega) fr⟩
  rw[aF Uy (a7 ..),Dv,F69]
  simp -implicitDefEqProofs only[sL,bx,PB,b0,f60,f46,p7,p5,p6]
end ParF
end

section
namespace ParF
open Go Go.Abs Go.Proofs Pm vy
abbrev aM:List AV:=[I 0,I 0,.str [],I 0,I 0,I 0,.aN]
theorem PC:(Tryz.prog.info? 58).map (fun i=>(i.size,i.zero.map (·.cells.size),decide (i.bytes≤96)))=some (7,some 7,true):=by kernel_rfl
theorem DF:∃i z,Tryz.prog.info? 58=some i∧i.size=7∧i.zero=some z∧z.cells.size=7∧i.bytes≤96:=by
 have h:=PC
 rw[Option.map_eq_some_iff]at h
 obtain⟨i,h1,h2⟩:=h
 simp only[Prod.mk.injEq,Option.map_eq_some_iff,decide_eq_true_eq]at h2
 obtain⟨a,⟨z,b,c⟩,d⟩:=h2
 exact⟨i,z,h1,a,b,c,d⟩
theorem Hj (s:ag){a:AV}(h1:a.cells.length=7)(h2:a.cells.map AV.aa=a.cells)(h4:a=.agg a.cells):bA Tryz.prog 50 50 .aN (.sl 58 7 [a] .own) s=some (.rs 58 7 s.length 0 1,s++[(58,a.cells)]):=by
 obtain⟨i,z,e1,e2,e3,e4,e5⟩:=DF
 have hb:mv i 1:=⟨by omega,by omega⟩
 have ec:cellsOf [a]=a.cells:=by show a.cells++[]=a.cells;rw[List.append_nil]
 simp[bA,iO,e1,iQ,e2,e3,e4,hb,cI,ec,h2]
theorem KM {s:ag}{id len:Nat}{cs:List AV}(h:s[id]?=some (58,cs))(hl:len*7≤cs.length)(hne:cs≠[])(hn:len<500000000){a:AV}(h1:a.cells.length=7)(h2:a.cells.map AV.aa=a.cells)(h4:a=.agg a.cells) :
  bA Tryz.prog 50 50 (.rs 58 7 id 0 len) (.sl 58 7 [a] .own) s=some (.rs 58 7 s.length 0 (len+1),kill s id++[(58,cs.take (len*7)++a.cells)]):=by
 obtain⟨i,z,e1,e2,e3,e4,e5⟩:=DF
 have hb:mv i (len+1):=⟨by
  have:(2*(len+1)+768)*i.bytes≤(2*(len+1)+768)*96:=Nat.mul_le_mul_left _ e5
  omega,by omega⟩
 have ec:cellsOf [a]=a.cells:=by show a.cells++[]=a.cells;rw[List.append_nil]
 simp[bA,iO,e1,iQ,e2,e3,e4,hb,cI,ec,h2,h,hl,hne]
theorem Z0 {a:AV}(h1:a.cells.length=7)(h2:a.cells.map AV.aa=a.cells)(h4:a=.agg a.cells):ak Tryz.prog 50 1 [(0,a)]=some (.sl 58 7 [a] .own):=by
 obtain⟨i,z,e1,e2,e3,e4,e5⟩:=DF
 have hs:a.ce=true:=by rw[h4];rfl
 simp[ak,iO,Py,e1,e3,e4,k7,h1,hs]
def gF (ns:List Nd)(r:Option Nat):AV:=match r with
 | none=>.aN
 | some R=>.rs 58 7 R 0 ns.length
def ic (s:ag)(ns:List Nd)(r:Option Nat):Prop:=match r with
 | none=>ns=[]
 | some R=>∃rows junk,s[R]?=some (58,cellsOf rows++junk)∧iH ns rows∧cellsOf rows++junk≠[]
theorem ic.fr {s s':ag}{ns:List Nd}{r:Option Nat}(h:ic s ns r)(k:∀R,r=some R→s'[R]?=s[R]?):ic s' ns r:=by
 cases r with
 | none=>exact h
 | some R =>
  obtain⟨rows,junk,h1,h2⟩:=h
  exact⟨rows,junk,(k R rfl).trans h1,h2⟩
theorem ic.lt {s:ag}{ns:List Nd}{R:Nat}(h:ic s ns (some R)):R<s.length:=by
 obtain⟨rows,junk,h1,h2⟩:=h
 exact iN h1
theorem vH (ns:List Nd)(r:Option Nat):(gF ns r).aa=gF ns r:=by unfold gF;cases r<;>rfl
theorem KN {s:ag}{ns:List Nd}{r:Option Nat}(h:ic s ns r):bN Tryz.prog 50 (gF ns r)=some (I ns.length):=by
 cases r with
 | none=>have h:ns=[]:=h;rw[h];exact xO
 | some R=>exact KK ..
theorem Hk (ns:List Nd)(r:Option Nat):oS (gF ns r)=.app r:=by unfold gF;cases r<;>rfl
theorem UQ {s:ag}{ns:List Nd}{r:Option Nat}(h:ic s ns r){a:AV}(h1:a.cells.length=7)(h2:a.cells.map AV.aa=a.cells)(h4:a=.agg a.cells)(hn:ns.length<500000000) :
  ∃s0 rows,bA Tryz.prog 50 50 (gF ns r) (.sl 58 7 [a] .own) s=some (.rs 58 7 s.length 0 (ns.length+1),s0)∧s0.length=s.length+1∧(∀x,x<s.length→r≠some x→s0[x]?=s[x]?)∧s0[s.length]?=some (58,cellsOf rows++a.cells)∧iH ns rows∧(cellsOf rows).length=7*ns.length:=by
 cases r with
 | none =>
  have h:ns=[]:=h
  subst h
  exact⟨_,[],Hj s h1 h2 h4,aP _ _,fun x hx _=>bE hx,aW,.nil,rfl⟩
 | some R =>
  obtain⟨rows,junk,k1,k2,k3⟩:=h
  obtain⟨r1,r2,r3,r4⟩:=k2.cells
  have ap:=KM (len:=ns.length) k1 (by rw[List.length_append];omega) k3 hn h1 h2 h4
  rw[List.take_append_of_le_length (by omega),List.take_of_length_le (by omega)]at ap
  refine⟨_,rows,ap,by rw[aP,bw],fun x hx hr=>by rw[bE (by rw[bw];exact hx),fS (fun e=>hr (by rw[e]))],?_,k2,r1⟩
  have:=aW (s:=kill s R) (x:=(58,cellsOf rows++a.cells))
  rw[bw]at this;exact this
theorem sF {rows:List AV}{a:AV}:cellsOf (rows++[a])=cellsOf rows++a.cells:=fY _ _
theorem UR {s:ag}{ns:List Nd}{r:Option Nat}(h:ic s ns r){t:Nd}{a:AV}(ht:qK t a)(hn:ns.length<500000000) :
  ∃s0 s1,bA Tryz.prog 50 50 (gF ns r) (.sl 58 7 [.agg aM] .own) s=some (.rs 58 7 s.length 0 (ns.length+1),s0)∧aB 7 s0 (.ref s.length (ns.length*7)) a=some s1∧s1.length=s.length+1∧s0.length=s.length+1 ∧
   (∀x,x<s.length→r≠some x→s1[x]?=s[x]?)∧(∀x,x<s.length→r≠some x→s0[x]?=s[x]?)∧ic s1 (ns++[t]) (some s.length):=by
 obtain⟨c1,c2,c3,c4⟩:=ht.cells
 have hs:a.ce=true:=by rw[c4];rfl
 have hst:dv a=a.cells:=by rw[c4];exact c2
 obtain⟨s0,rows,ap,l0,f0,g0,hN,hr⟩:=UQ h (a:=.agg aM) rfl rfl rfl hn
 have e2:aB 7 s0 (.ref s.length (ns.length*7)) a=some (s0.set s.length (58,cellsOf rows++a.cells)):=by
  rw[st g0 (by decide) hs c1 (by rw[List.length_append,hr];show _≤7*ns.length+7;omega),hst]
  have:=gp (cellsOf rows) a.cells (AV.agg aM).cells (by rw[c1];rfl)
  rw[hr,Nat.mul_comm]at this
  rw[this]
 refine⟨s0,_,ap,e2,by rw[bh,l0],l0,fun x hx hx2=>by rw[bu (by omega),f0 x hx hx2],f0,rows++[a],[],?_,hN.snoc ht,?_⟩
 ·rw[bK g0,List.append_nil,sF]
 ·rw[sF,List.append_nil]
  intro e
  have:=congrArg List.length e
  rw[List.length_append,c1]at this
  simp at this
theorem Z1 {s:ag}{ns:List Nd}{r:Option Nat}(h:ic s ns r)(k:Int)(hd:Hd):∃ch s1,CC (.agg (bR k hd (gF ns r))) s=some (.agg (bR k hd ch),s1)∧nx ns ch∧s1.length=s.length∧∀x,r≠some x→s1[x]?=s[x]?:=by
 cases r with
 | none =>
  have h:ns=[]:=h
  subst h
  exact⟨.aN,s,rfl,.nil,rfl,fun _ _=>rfl⟩
 | some i =>
  obtain⟨rows,junk,h1,h2,h3⟩:=h
  obtain⟨r1,r2,r3,r4⟩:=h2.cells
  have tk:(cellsOf rows++junk).take (ns.length*7)=cellsOf rows:=by
   rw[List.take_append_of_le_length (by omega),List.take_of_length_le (by omega)]
  have e:jp (.rs 58 7 i 0 ns.length) s=some (.sl 58 7 rows .sh,kill s i):=by
   unfold jp
   simp only[h1]
   rw[if_pos ⟨trivial,by decide,by decide,by rw[List.length_append];omega,by rw[tk];exact r3⟩,tk,r2,r4]
  refine⟨.sl 58 7 rows .sh,kill s i,?_,.sl _ _ h2,bw _ _,fun x hx=>fS fun e=>hx (by rw[e])⟩
  have a1:∀v:Int,jp (I v) s=some (I v,s):=fun _=>rfl
  have a2:∀v:Bytes,jp (.str v) s=some (.str v,s):=fun _=>rfl
  have e2:oB (bR k hd (.rs 58 7 i 0 ns.length)) s=some (bR k hd (.sl 58 7 rows .sh),kill s i):=by
   simp only[bR,oB,a1,a2,e]
  show (match oB (bR k hd (.rs 58 7 i 0 ns.length)) s with|some (bY,s')=>some (AV.agg bY,s')|none=>none)=_
  rw[e2]
end ParF
end

section
namespace ParF
open Go Go.Abs Go.Proofs Pm vy
mutual
def Hl:az→Prop
 | .mk k x cs=>(100≤k→ny k x)∧wP cs
def wP:List az→Prop
 | []=>True
 | t::ts=>Hl t∧wP ts
end
theorem kn (t:az)(ts:List az):wP (t::ts)=(Hl t∧wP ts):=by rw[wP]
theorem wP.mem:∀{ts:List az},wP ts→∀t∈ts,Hl t
 | [],_,t,h=>by cases h
 | u::ts,h,t,hm=>by
  rw[kn]at h
  rcases List.mem_cons.1 hm with rfl|hm
  ·exact h.1
  ·exact wP.mem h.2 t hm
theorem PD {rows:List AV}{i:Nat}{a:AV}{f:om}(h:rows[i]?=some a):aA Tryz.prog 87 (.sl 89 3 rows f) (I i)=some (.box a.cells 0):=by
 have hz:da Tryz.prog 89=some 3:=by kernel_rfl
 simp[aA,jy,hz,h]
theorem PE (rows:List AV)(f:om):bN Tryz.prog 87 (.sl 89 3 rows f)=some (I rows.length):=by simp[bN,jy]
theorem ou.eN:∀{cs:List az}{rows:List AV},ou cs rows→∀{i:Nat}{t:az},cs[i]?=some t→∃a,rows[i]?=some a∧nT t a
 | _,_,.nil,i,t,h=>by simp at h
 | _,_,.cons t a cs rows h h',0,t',e=>by
  simp only[List.getElem?_cons_zero,Option.some.injEq]at e
  subst e;exact⟨a,rfl,h⟩
 | _,_,.cons t a cs rows h h',i+1,t',e=>by
  rw[List.getElem?_cons_succ]at e
  obtain⟨b,h1,h2⟩:=ou.eN h' e
  exact⟨b,by rw[List.getElem?_cons_succ,h1],h2⟩
theorem Jq.KO {cs:List az}{ch:AV}(h:Jq cs ch):bN Tryz.prog 87 ch=some (I cs.length)∧∀{i:Nat}{t:az},cs[i]?=some t→∃a,aA Tryz.prog 87 ch (I i)=some (.box a.cells 0)∧nT t a:=by
 cases h with
 | nil=>exact⟨xv,fun e=>by simp at e⟩
 | sl cs rows h =>
  refine⟨by rw[PE,h.length],fun e=>?_⟩
  obtain⟨a,h1,h2⟩:=h.eN e
  exact⟨a,PD h1,h2⟩
theorem RB:bH Tryz.prog 89=fun s=>some (.ref s.length 0,s++[(89,[I 0,.str [],.aN])]):=by
 have h:zeroOf Tryz.prog 89=some (.agg [I 0,.str [],.aN]):=by kernel_rfl
 funext s
 simp[bH,h]
theorem st3 {s:ag}{i:Nat}{cs:List AV}(h:s[i]?=some (89,cs))(hc:cs.length=3){a:AV}(h1:a.cells.length=3)(h2:a.cells.map AV.aa=a.cells)(h4:a=.agg a.cells):aB 3 s (.ref i 0) a=some (s.set i (89,a.cells)):=by
 have Aj:a.ce=true:=by rw[h4];rfl
 have hst:dv a=a.cells:=by rw[h4];exact h2
 rw[ParF.st (n:=3) (o:=0) (v:=a) h (by decide) Aj h1 (by omega),hst]
 have:=gp [] a.cells cs (by omega)
 rw[List.nil_append,List.nil_append]at this
 rw[show bZ cs 0 a.cells=a.cells from this]
theorem ld3 {s:ag}{i:Nat}{a:AV}(h:s[i]?=some (89,a.cells))(h1:a.cells.length=3)(h4:a=.agg a.cells):af false true 3 (.ref i 0) s=some (a,s):=by
 rw[Jr (o:=0) h (by decide) (by omega) (by decide),List.drop_zero,List.take_of_length_le (by omega),←h4]
theorem ada {a:AV}(s:ag)(h1:a.cells.length=3)(h4:a=.agg a.cells):af false true 3 (.box a.cells 0) s=some (a,s):=by
 rw[nM _ _ _ _ _ (by omega),List.drop_zero,List.take_of_length_le (by omega),←h4]
theorem adb:ak Tryz.prog 50 1 [(0,.agg aM)]=some (.sl 58 7 [.agg aM] .own):=Z0 rfl rfl rfl
theorem Ex.wide {s s':ag}{J J' K K':List Nat}(h:Ex s s' J J')(h1:∀x∈J,x∈K)(h2:∀x∈K',x∈K∨x∈J'):Ex s s' K K' :=
 ⟨h.len,fun x hx hj=>h.fr x hx (fun k=>hj (h1 x k)),fun x hx=>by
  rcases h2 x hx with k|k
  ·exact .inl k
  ·rcases h.sub x k with z|z
   ·exact .inl (h1 x z)
   ·exact .inr z⟩
theorem Hm (t i n:Nat):aA Tryz.prog 50 (.rs t 7 i 0 (n+1)) (I n)=some (.ref i (n*7)):=by
 simp[aA,iO,Py]
 omega
theorem Fe:∀{cs:List az}{u:az},u∈cs→yU u≤dC cs
 | [],u,h=>by cases h
 | c::cs,u,h=>by
  rw[dC]
  rcases List.mem_cons.1 h with rfl|h
  ·omega
  ·have:=Fe h;omega
def Ff (src:Bytes)(t:az):Prop:=∀(B:Nat)(s:ag)(o:Nat)(ds:List Dg)(q:Option Nat)(a:AV)(n:Nat),BS src B s o ds q→nT t a→wv t=true→gr t=true→Hl t→t.kind<100→o+(dj t).length≤src.length→src.length≤3000 →
 (ds++(aS src o t).2).length<1000000→yU t<1000000→yU t+src.length+100≤n →
 ∃a' s' q',ab Tryz.prog (den C n) 47 [.ref B 0,a] s=some (a',s')∧qK (aS src o t).1 a'∧BS src B s' (o+(dj t).length) (ds++(aS src o t).2) q'∧Ex s s' (JB B q) (JB B q')
theorem Hn {src:Bytes}{B H V k:Nat}{cs:List az}{Mz:AV}(w7:Jq cs Mz)(hk:k<100)(hsrc:src.length≤3000)(hcs:cs.length<1000000)(aeR:dC cs<1000000)(n:Nat)(hn:dC cs+src.length+100≤n)(hB:B≠V)(hHV:H≠V)(h60:(k:Int)=60→cZ cs=true)
  (IH:∀t∈cs,Ff src t)(o0:Nat):∀(m:Nat)(i:Nat),cs.length-i≤m→i≤cs.length→∀(s:ag)(o:Nat)(ds:List Dg)(q:Option Nat)(h:Hd)(ns:List Nd)(r:Option Nat),
  BS src B s o ds q→s[H]?=some (58,bR k h (gF ns r))→ic s ns r→s[V]?=some (58,aM)→H∉JB B q→V∉JB B q→(∀R,r=some R→R∉JB B q∧R≠H∧R≠V)→Inv o0 o h →
  mP (cs.drop i)=true→er (cs.drop i)=true→wP (cs.drop i)→o+(cY (cs.drop i)).length≤src.length→(cZ cs=true→ns≠[]∨cZ (cs.drop i)=true)→ns.length+cs.length<10000000+i →
  (ds++(gP src k (aQ src k o h (cs.drop i)).h (ns++(aQ src k o h (cs.drop i)).ns) (aQ src k o h (cs.drop i)).ds).2).length<1000000 →
  ∃a s' q',(∀M n' e,m<M→e 0=.ref B 0→e 4=.ref V 0→e 6=.ref H 0→e 19=Mz→e 20=I cs.length→e 21=I i→aJ (pf (den C n) n') M e s=some (a,s')) ∧
   qK (gP src k (aQ src k o h (cs.drop i)).h (ns++(aQ src k o h (cs.drop i)).ns) []).1 a ∧
   BS src B s' (o+(cY (cs.drop i)).length) (ds++(gP src k (aQ src k o h (cs.drop i)).h (ns++(aQ src k o h (cs.drop i)).ns) (aQ src k o h (cs.drop i)).ds).2) q' ∧
   Ex s s' (H::V::(r.toList++JB B q)) (H::V::JB B q'):=by
 obtain⟨hlen,RA⟩:=w7.KO
 intro m
 have out:∀(s:ag) (o:Nat) (ds:List Dg) (q:Option Nat) (h:Hd) (ns:List Nd) (r:Option Nat),BS src B s o ds q→s[H]?=some (58,bR k h (gF ns r))→ic s ns r→s[V]?=some (58,aM)→H∉JB B q→V∉JB B q→(∀R,r=some R→R∉JB B q∧R≠H∧R≠V)→Inv o0 o h→o≤src.length→(cZ cs=true→ns≠[]) →
   (ds++qN k h).length<1000000 →
   ∃a s' q',(∀M n' e,0<M→e 0=.ref B 0→e 4=.ref V 0→e 6=.ref H 0→e 19=Mz→e 20=I cs.length→e 21=I cs.length→aJ (pf (den C n) n') M e s=some (a,s')) ∧
    qK (gP src k h ns []).1 a∧BS src B s' o (ds++qN k h) q'∧Ex s s' (H::V::(r.toList++JB B q)) (H::V::JB B q'):=by
  intro s o ds q h ns r hb hs hr hV jH jV jR hi hos hne hd
  obtain⟨i1,i2,i3⟩:=hi
  have hE:max h.e h.s≤(src.length:Int):=by omega
  have l4:af false false 1 (.ref H 4) s=some (I h.e,s):=ld (o:=4) hs (by decide) rfl (by decide)
  have l3:af false false 1 (.ref H 3) s=some (I h.s,s):=ld (o:=3) hs (by decide) rfl (by decide)
  have s4:aB 1 s (.ref H 4) (I (max h.e h.s))=some (s.set H (58,bR k (jf h) (gF ns r))):=KB hs rfl rfl (by decide)
  obtain⟨S1,qM⟩:∃S1,s.set H (58,bR k (jf h) (gF ns r))=S1:=⟨_,rfl⟩
  rw[qM]at s4
  have b1:BS src B S1 o ds q:=by rw[←qM];exact hb.set jH _
  have h1:S1[H]?=some (58,bR k (jf h) (gF ns r)):=by rw[←qM];exact bK hs
  have r1:ic S1 ns r:=hr.fr fun R hR=>by rw[←qM,bu (Ne.symm (jR R hR).2.1)]
  have v1:S1[V]?=some (58,aM):=by rw[←qM,bu hHV];exact hV
  have lS1:S1.length=s.length:=by rw[←qM,bh]
  have ld:af false true 7 (.ref H 0) S1=some (.agg (bR k (jf h) (gF ns r)),S1):=by
   rw[Jr (o:=0) h1 (by decide) (by show 0+7≤7;decide) (by decide)];rfl
  obtain⟨ch,S2,pb,hN,lS2,f2⟩:=Z1 r1 k (jf h)
  have b2:BS src B S2 o ds q:=b1.frame fun x hx=>f2 x fun e=>(jR x e).1 hx
  obtain⟨a,S3,q3,rf,hA,b3,x3⟩:=PA b2 hN (by omega) hE (fun e=>hne (h60 e)) hd (n:=n) (by omega)
  obtain⟨a1,a2,a3,a4⟩:=hA.cells
  have hVl:=iN hV
  have v3:S3[V]?=some (58,aM):=by
   rw[x3.fr V (by omega) jV,f2 V (fun e=>(jR V e).2.2 rfl)];exact v1
  have p5:=H_ v3 rfl a1 a2 a4
  have p6:=MA (bK (v:=(58,a.cells)) v3) a1 a4
  have jV3:=x3.h_ (by omega:V<S2.length) jV
  refine⟨a,S3.set V (58,a.cells),q3,fun M n' e hM e0 e4 e6 GW xE Ck=>?_,hA,b3.set jV3 _,?_⟩
  ·obtain⟨M,rfl⟩:∃j,M=j+1:=⟨M-1,by omega⟩
   have mx:(if h.e<h.s then h.s else h.e)=max h.e h.s:=by split<;>omega
   have mx':(if h.e≤h.s then h.s else h.e)=max h.e h.s:=by split<;>omega
   have mx2:(if h.s<h.e then h.e else h.s)=max h.e h.s:=by split<;>omega
   rw[aJ,pf]
   simp -implicitDefEqProofs only[sL,e0,e4,e6,GW,xE,Ck,Int.lt_irrefl,l4,l3,mx,mx',mx2,s4,ld,wD,pb,rf,p5,p6]
  ·refine⟨by rw[bh];have:=x3.len;omega,fun x hx hj=>?_,fun x hx=>?_⟩
   ·simp only[List.mem_cons,List.mem_append,not_or]at hj
    obtain⟨j1,j2,j3,j4⟩:=hj
    rw[bu (Ne.symm j2),x3.fr x (by omega) j4,f2 x (fun e=>j3 (by rw[e];simp)),←qM,bu (Ne.symm j1)]
   ·simp only[List.mem_cons]at hx
    rcases hx with rfl|rfl|hx
    ·exact .inl (List.mem_cons_self ..)
    ·exact .inl (List.mem_cons_of_mem _ (List.mem_cons_self ..))
    ·rcases x3.sub x hx with z|z
     ·exact .inl (List.mem_cons_of_mem _ (List.mem_cons_of_mem _ (List.mem_append_right _ z)))
     ·exact .inr (by omega)
 have key:∀i,i=cs.length→∀(s:ag) (o:Nat) (ds:List Dg) (q:Option Nat) (h:Hd) (ns:List Nd) (r:Option Nat),
   BS src B s o ds q→s[H]?=some (58,bR k h (gF ns r))→ic s ns r→s[V]?=some (58,aM)→H∉JB B q→V∉JB B q→(∀R,r=some R→R∉JB B q∧R≠H∧R≠V)→Inv o0 o h→o+(cY (cs.drop i)).length≤src.length→(cZ cs=true→ns≠[]∨cZ (cs.drop i)=true) →
   (ds++(gP src k (aQ src k o h (cs.drop i)).h (ns++(aQ src k o h (cs.drop i)).ns) (aQ src k o h (cs.drop i)).ds).2).length<1000000→∀m:Nat,
   ∃a s' q',(∀M n' e,m<M→e 0=.ref B 0→e 4=.ref V 0→e 6=.ref H 0→e 19=Mz→e 20=I cs.length→e 21=I i→aJ (pf (den C n) n') M e s=some (a,s')) ∧
    qK (gP src k (aQ src k o h (cs.drop i)).h (ns++(aQ src k o h (cs.drop i)).ns) []).1 a ∧
    BS src B s' (o+(cY (cs.drop i)).length) (ds++(gP src k (aQ src k o h (cs.drop i)).h (ns++(aQ src k o h (cs.drop i)).ns) (aQ src k o h (cs.drop i)).ds).2) q' ∧
    Ex s s' (H::V::(r.toList++JB B q)) (H::V::JB B q'):=by
  intro i hi s o ds q h ns r hb hs hr hV jH jV jR hin hos hne hd m
  subst hi
  have e:cs.drop cs.length=[]:=List.drop_length
  rw[e]at hos hne hd ⊢
  rw[db]at hd ⊢
  simp only[List.append_nil]at hd ⊢
  rw[jC]at hd ⊢
  rw[cY]at hos ⊢
  simp only[List.nil_append,List.length_nil,Nat.add_zero]at hos hd ⊢
  obtain⟨a,s',q',g1,g2⟩:=out s o ds q h ns r hb hs hr hV jH jV jR hin hos (fun z=>by
   rcases hne z with z|z
   ·exact z
   ·simp[cZ]at z) hd
  exact⟨a,s',q',fun M n' e hM=>g1 M n' e (by omega),g2⟩
 induction m with
 | zero =>
  intro i hm hi s o ds q h ns r hb hs hr hV jH jV jR hin ok H5 lf hos hne hnl hd
  exact key i (by omega) s o ds q h ns r hb hs hr hV jH jV jR hin hos hne hd 0
 | succ m ih =>
  intro i hm hi s o ds q h ns r hb hs hr hV jH jV jR hin ok H5 lf hos hne hnl hd
  by_cases hlt:i<cs.length
  ·obtain⟨t,ht⟩:∃t,cs[i]?=some t:=⟨_,List.getElem?_eq_getElem hlt⟩
   have e:cs.drop i=t::cs.drop (i+1):=by
    rw[List.drop_eq_getElem_cons hlt]
    rw[List.getElem?_eq_getElem hlt]at ht
    cases ht;rfl
   rw[e]at ok H5 lf hos hne hd ⊢
   rw[fA,Bool.and_eq_true]at ok
   rw[er,Bool.and_eq_true]at H5
   rw[kn]at lf
   rw[cY,List.length_append]at hos ⊢
   obtain⟨ta,hi0,Me⟩:=RA ht
   obtain⟨t1,t2,t3,t4⟩:=Me.cells
   have tst:ta.aa=ta:=by rw[t4];rfl
   have bx3:af false true 3 (.box ta.cells 0) s=some (ta,s):=ada s t1 t4
   obtain⟨S0,hS0⟩:∃S0,s++[(89,ta.cells)]=S0:=⟨_,rfl⟩
   have l0:S0.length=s.length+1:=by rw[←hS0];exact aP _ _
   have f0:∀x,x<s.length→S0[x]?=s[x]?:=fun x hx=>by rw[←hS0];exact bE hx
   have gt:S0[s.length]?=some (89,ta.cells):=by rw[←hS0];exact aW
   have al:bH Tryz.prog 89 s=some (.ref s.length 0,s++[(89,[I 0,.str [],.aN])]):=by rw[RB]
   have stt:aB 3 (s++[(89,[I 0,.str [],.aN])]) (.ref s.length 0) ta=some S0:=by
    rw[st3 aW rfl t1 t2 t4,eG,hS0]
   have ldt:∀s2:ag,s2[s.length]?=some (89,ta.cells)→af false true 3 (.ref s.length 0) s2=some (ta,s2):=fun s2 h2=>ld3 h2 t1 t4
   have ltt:=ldt S0 gt
   have ldk:af false false 1 (.ref s.length 0) S0=some (I t.kind,S0):=by
    cases Me with
    | mk kk x c ch hc=>exact ld (o:=0) gt (by decide) rfl (by decide)
   have b0:=hb.fresh f0
   have hHl:=iN hs
   have hVl:=iN hV
   have BC:S0[H]?=some (58,bR k h (gF ns r)):=(f0 H hHl).trans hs
   have hV0:S0[V]?=some (58,aM):=(f0 V hVl).trans hV
   have hRl:∀R,r=some R→R<s.length:=fun R e=>by subst e;exact hr.lt
   have hr0:ic S0 ns r:=hr.fr fun R hR=>f0 R (hRl R hR)
   have wi:IntKind.i64.wrap ((i:Int)+1)=((i+1:Nat):Int):=gL (by omega)
   have hil:((i:Int)<(cs.length:Int))=True:=by simp;omega
   have j1:∀(n':Nat) (K:Env→ag→aU) (e:Env) (s2:ag),e 21=I i→zl (den C n) n' K e s2=K (bf e [(47,I (i+1:Nat)),(21,I (i+1:Nat))]) s2:=by
    intro n' K e s2 h21
    unfold zl
    simp -implicitDefEqProofs only[sL,h21,wi]
   by_cases c:100≤t.kind
   ·-- a token
    have H2:=gE ok.1 c
    rw[H2]at hos ⊢
    rw[cA _ _ _ _ _ _ c]at hd ⊢
    simp only at hd ⊢
    rw[jC]at hd ⊢
    simp only at hd ⊢
    have ZT:(ds++(cP k h t.kind t.text o).2).length<1000000:=by
     simp only[List.length_append]at hd ⊢;omega
    have lfo:ny t.kind t.text:=by
     cases t with
     | mk kk x c2=>exact(by have:=lf.1;rw[Hl]at this;exact this.1 c)
    obtain⟨s1,q1,rt,b1,Cg,jH1,x1⟩:∃s' q',ab Tryz.prog (den C n) 67 [.ref B 0,.ref H 0,ta] S0=some (.aI [],s')∧BS src B s' (o+t.text.length) (ds++(cP k h t.kind t.text o).2) q'∧s'[H]?=some (58,bR k (cP k h t.kind t.text o).1 (gF ns r))∧H∉JB B q'∧Ex S0 s' (H::JB B q) (H::JB B q'):=by
     cases Me with
     | mk kk x c2 ch hc=>exact zs b0 (vH _ _) BC jH hk lfo (by omega) ZT (n:=n) (by have:=hos;simp only[az.text]at this;omega)
    have jV1:V∉JB B q1:=fun z=>by
     have:=x1.h_ (x:=V) (by omega) (by simp only[List.mem_cons,not_or];exact⟨Ne.symm hHV,jV⟩)
     exact this (List.mem_cons_of_mem _ z)
    have jR1:∀R,r=some R→R∉JB B q1∧R≠H∧R≠V:=fun R hR=>by
     obtain⟨z1,z2,z3⟩:=jR R hR
     have:=x1.h_ (x:=R) (by have:=hRl R hR;omega) (by simp only[List.mem_cons,not_or];exact⟨z2,z1⟩)
     exact⟨fun z=>this (List.mem_cons_of_mem _ z),z2,z3⟩
    have bG:ic s1 ns r:=hr0.fr fun R hR=>by
     obtain⟨z1,z2,z3⟩:=jR R hR
     exact x1.fr R (by have:=hRl R hR;omega) (by simp only[List.mem_cons,not_or];exact⟨z2,z1⟩)
    have hV1:s1[V]?=some (58,aM):=(x1.fr V (by omega) (by simp only[List.mem_cons,not_or];exact⟨Ne.symm hHV,jV⟩)).trans hV0
    have ZS:(ds++(cP k h t.kind t.text o).2++(gP src k (aQ src k (o+t.text.length) (cP k h t.kind t.text o).1 (cs.drop (i+1))).h (ns++(aQ src k (o+t.text.length) (cP k h t.kind t.text o).1 (cs.drop (i+1))).ns) (aQ src k (o+t.text.length) (cP k h t.kind t.text o).1 (cs.drop (i+1))).ds).2).length<1000000:=by
     rw[jC];simp only[List.length_append]at hd ⊢;omega
    obtain⟨a,s',q',g1,g2,g3,g4⟩:=ih (i+1) (by omega) (by omega) s1 (o+t.text.length) _ q1 _ ns r b1 Cg bG hV1 jH1 jV1 jR1 (hin.tok k t.kind t.text) ok.2 H5.2 lf.2 (by omega) (fun z=>by
     rcases hne z with z|z
     ·exact .inl z
     ·rw[cZ]at z
      exact .inr (by simpa[show ¬t.kind<100 by omega] using z)) (by omega) ZS
    refine⟨a,s',q',fun M n' e hM e0 e4 e6 GW xE Ck=>?_,g2,?_,?_⟩
    ·obtain⟨M,rfl⟩:∃j,M=j+1:=⟨M-1,by omega⟩
     have ck:((100:Int)≤(t.kind:Int))=True:=by simp;omega
     rw[aJ,pf]
     simp -implicitDefEqProofs only[sL,e0,e4,e6,GW,xE,Ck,hil,hi0,bx3,al,stt,ldk,ck,ltt,tst,rt]
     rw[j1 _ _ _ _ ((ao _ _ _ rfl).trans Ck)]
     exact g1 M n' _ (by omega) ((ao _ _ _ rfl).trans ((ao _ _ _ rfl).trans e0)) ((ao _ _ _ rfl).trans ((ao _ _ _ rfl).trans e4)) ((ao _ _ _ rfl).trans ((ao _ _ _ rfl).trans e6)) ((ao _ _ _ rfl).trans ((ao _ _ _ rfl).trans GW)) ((ao _ _ _ rfl).trans ((ao _ _ _ rfl).trans xE)) (by simp[ai,an])
    ·rw[jC]at g3 ⊢
     simp only[List.append_assoc]at g3 ⊢
     rw[←Nat.add_assoc];exact g3
    ·have x0:Ex s S0 (H::V::(r.toList++JB B q)) (H::V::(r.toList++JB B q)):=Ex.fresh _ (by omega) f0
     refine x0.trans (Ex.trans (x1.wide (K:=H::V::(r.toList++JB B q)) (K':=H::V::(r.toList++JB B q1)) ?_ ?_) g4)
     ·intro x hx
      simp only[List.mem_cons,List.mem_append]at hx ⊢
      rcases hx with z|z
      ·exact .inl z
      ·exact .inr (.inr (.inr z))
     ·intro x hx
      simp only[List.mem_cons,List.mem_append]at hx ⊢
      rcases hx with z|z|z|z
      ·exact .inl (.inl z)
      ·exact .inl (.inr (.inl z))
      ·exact .inl (.inr (.inr (.inl z)))
      ·exact .inr (.inr z)
   ·-- a node
    rw[cS _ _ _ _ _ _ c]at hd ⊢
    simp only at hd ⊢
    rw[jC]at hd ⊢
    simp only at hd ⊢
    have ZT:(ds++(aS src o t).2).length<1000000:=by
     simp only[List.length_append]at hd ⊢;omega
    have hsz:yU t≤dC cs∧yU t<1000000:=by
     have:dC (cs.drop i)≤dC cs:=by
      have q:=aw (cs.take i) (cs.drop i)
      rw[List.take_append_drop]at q;omega
     rw[e,dC]at this
     exact⟨by omega,by omega⟩
    obtain⟨a',s1,q1,rn,hA,b1,x1⟩:=IH t (List.mem_of_getElem? ht) B S0 o ds q ta n b0 Me ok.1 H5.1 lf.1 (by omega) (by omega) hsrc ZT hsz.2 (by omega)
    obtain⟨a1,a2,a3,a4⟩:=hA.cells
    have V4:a'.aa=a':=by rw[a4];rfl
    have Cg:s1[H]?=some (58,bR k h (gF ns r)):=(x1.fr H (by omega) jH).trans BC
    have hV1:s1[V]?=some (58,aM):=(x1.fr V (by omega) jV).trans hV0
    have jH1:=x1.h_ (x:=H) (by omega) jH
    have jV1:=x1.h_ (x:=V) (by omega) jV
    have bG:ic s1 ns r:=hr0.fr fun R hR=>x1.fr R (by have:=hRl R hR;omega) (jR R hR).1
    have jR1:∀R,r=some R→R∉JB B q1:=fun R hR=>x1.h_ (by have:=hRl R hR;omega) (jR R hR).1
    have zi:=x1.len
    -- t9
    obtain⟨S2,DE⟩:∃S2,s1++[(58,a'.cells)]=S2:=⟨_,rfl⟩
    have l2:S2.length=s1.length+1:=by rw[←DE];exact aP _ _
    have f2:∀x,x<s1.length→S2[x]?=s1[x]?:=fun x hx=>by rw[←DE];exact bE hx
    have g9:S2[s1.length]?=some (58,a'.cells):=by rw[←DE];exact aW
    have al9:bH Tryz.prog 58 s1=some (.ref s1.length 0,s1++[(58,aM)]):=by rw[vG]
    have st9:aB 7 (s1++[(58,aM)]) (.ref s1.length 0) a'=some S2:=by
     rw[H_ aW rfl a1 a2 a4,eG,DE]
    have ade:af false false 1 (.ref s1.length 3) S2=some (I (aS src o t).1.s,S2):=by
     revert hA g9
     cases(aS src o t).1 with
     | mk kk v x s e ns cs =>
      intro hA g9
      cases hA
      exact ld (o:=3) g9 (by decide) rfl (by decide)
    have adf:af false false 1 (.ref s1.length 4) S2=some (I (aS src o t).1.e,S2):=by
     revert hA g9
     cases(aS src o t).1 with
     | mk kk v x s e ns cs =>
      intro hA g9
      cases hA
      exact ld (o:=4) g9 (by decide) rfl (by decide)
    have E2:S2[H]?=some (58,bR k h (gF ns r)):=(f2 H (by omega)).trans Cg
    obtain⟨n0,hn0⟩:∃j,n=j+1:=⟨n-1,by omega⟩
    have rx:=Fa E2 (aS src o t).1.s (aS src o t).1.e n0
    rw[←hn0]at rx
    generalize hhx:h.ext (aS src o t).1.s (aS src o t).1.e=hx at *
    obtain⟨S3,Z2⟩:∃S3,S2.set H (58,bR k hx (gF ns r))=S3:=⟨_,rfl⟩
    rw[Z2]at rx
    have l3:S3.length=s1.length+1:=by rw[←Z2,bh,l2]
    have aeS:H<s1.length:=by omega
    have f3:∀x,x<s1.length→x≠H→S3[x]?=s1[x]?:=fun x hx h2=>by rw[←Z2,bu (Ne.symm h2),f2 x hx]
    have g93:S3[s1.length]?=some (58,a'.cells):=by rw[←Z2,bu (by omega)];exact g9
    have adg:=MA g93 a1 a4
    have RC:S3[H]?=some (58,bR k hx (gF ns r)):=by rw[←Z2];exact bK E2
    have l6:af false false 1 (.ref H 6) S3=some (gF ns r,S3):=by rw[ld (o:=6) RC (by decide) rfl (by decide),vH]
    have hr3:ic S3 ns r:=bG.fr fun R hR=>f3 R (by have:=hRl R hR;omega) (jR R hR).2.1
    obtain⟨S4,S5,ap,adh,l5,l4,f5,f4,ro⟩:=UR hr3 hA (by omega)
    have rH:r≠some H:=fun e=>(jR H e).2.1 rfl
    have rV:r≠some V:=fun e=>(jR V e).2.2 rfl
    have RD:S5[H]?=some (58,bR k hx (gF ns r)):=(f5 H (by omega) rH).trans RC
    have st6:aB 1 S5 (.ref H 6) (.rs 58 7 S3.length 0 (ns.length+1))=some (S5.set H (58,bR k hx (gF (ns++[(aS src o t).1]) (some S3.length)))):=by
     rw[KB RD rfl rfl (by decide)]
     show some (S5.set H (58,[I k,I hx.v,.str hx.x,I hx.s,I hx.e,I hx.ns,.rs 58 7 S3.length 0 (ns.length+1)]))=_
     unfold gF bR;simp
    obtain⟨S6,Z3⟩:∃S6,S5.set H (58,bR k hx (gF (ns++[(aS src o t).1]) (some S3.length)))=S6:=⟨_,rfl⟩
    rw[Z3]at st6
    have l6':S6.length=s1.length+2:=by rw[←Z3,bh,l5,l3]
    have hs6:S6[H]?=some (58,bR k hx (gF (ns++[(aS src o t).1]) (some S3.length))):=by rw[←Z3];exact bK RD
    have f6:∀x,x<s1.length→x≠H→r≠some x→S6[x]?=s1[x]?:=fun x hx h2 h3=>by
     rw[←Z3,bu (Ne.symm h2),f5 x (by omega) h3,f3 x hx h2]
    have ro6:ic S6 (ns++[(aS src o t).1]) (some S3.length):=ro.fr fun R hR=>by cases hR;rw[←Z3,bu (by omega)]
    have b6:BS src B S6 (o+(dj t).length) (ds++(aS src o t).2) q1:=b1.frame fun x hx=>f6 x (b1.lt x hx) (fun z=>jH1 (by rw[←z];exact hx)) (fun z=>jR1 x z hx)
    have hV6:S6[V]?=some (58,aM):=(f6 V (by omega) (Ne.symm hHV) rV).trans hV1
    have hrg:=kO src o t ok.1
    have adi:Inv o0 (o+(dj t).length) hx:=by rw[←hhx];exact hin.ext hrg.1 hrg.2.1 hrg.2.2
    have ZS:(ds++(aS src o t).2++(gP src k (aQ src k (o+(dj t).length) hx (cs.drop (i+1))).h (ns++[(aS src o t).1]++(aQ src k (o+(dj t).length) hx (cs.drop (i+1))).ns) (aQ src k (o+(dj t).length) hx (cs.drop (i+1))).ds).2).length<1000000:=by
     rw[jC];simp only[List.length_append]at hd ⊢;omega
    obtain⟨a,s',q',g1,g2,g3,g4⟩:=ih (i+1) (by omega) (by omega) S6 (o+(dj t).length) _ q1 hx (ns++[(aS src o t).1]) (some S3.length) b6 hs6 ro6 hV6 jH1 jV1 (fun R hR=>by cases hR;exact⟨fun z=>by have:=b1.lt _ z;omega,by omega,by omega⟩) adi ok.2 H5.2 lf.2 (by omega) (fun _=>.inl (by simp)) (by rw[List.length_append];simp;omega) ZS
    rw[List.append_assoc ns,List.singleton_append]at g2 g3
    refine⟨a,s',q',fun M n' e hM e0 e4 e6 GW xE Ck=>?_,g2,?_,?_⟩
    ·obtain⟨M,rfl⟩:∃j,M=j+1:=⟨M-1,by omega⟩
     have ck:((100:Int)≤(t.kind:Int))=False:=by simp;omega
     have d10:∀x,ba C 47 (bo Tryz.f47 10) [.ae,.get H,.get s1.length,.ae,.ae,.app r,.ae,.put S3.length,.ae,.put H] x=x:=fun x=>UA S3.length H (by omega) x
     rw[aJ,pf]
     simp -implicitDefEqProofs only[sL,e0,e4,e6,GW,xE,Ck,hil,hi0,bx3,al,stt,ldk,ck,ltt,tst,rn,al9,st9,ade,adf,rx,l6,adg,KN hr3,adb,ap,Hm,adh,dD,st6,cM,pD,Hk,d10]
     rw[j1 _ _ _ _ ((ao _ _ _ rfl).trans Ck)]
     exact g1 M n' _ (by omega) ((ao _ _ _ rfl).trans ((ao _ _ _ rfl).trans e0)) ((ao _ _ _ rfl).trans ((ao _ _ _ rfl).trans e4)) ((ao _ _ _ rfl).trans ((ao _ _ _ rfl).trans e6)) ((ao _ _ _ rfl).trans ((ao _ _ _ rfl).trans GW)) ((ao _ _ _ rfl).trans ((ao _ _ _ rfl).trans xE)) (by simp[ai,an])
    ·rw[jC]at g3 ⊢
     simp only[List.append_assoc]at g3 ⊢
     rw[←Nat.add_assoc];exact g3
    ·have x0:Ex s S0 (H::V::(r.toList++JB B q)) (H::V::(r.toList++JB B q)):=Ex.fresh _ (by omega) f0
     have x1':Ex S0 s1 (H::V::(r.toList++JB B q)) (H::V::(r.toList++JB B q1)):=x1.wide (fun x hx=>by simp[hx]) (fun x hx=>by
      simp only[List.mem_cons,List.mem_append]at hx ⊢
      rcases hx with z|z|z|z
      ·exact .inl (.inl z)
      ·exact .inl (.inr (.inl z))
      ·exact .inl (.inr (.inr (.inl z)))
      ·exact .inr z)
     have x6:Ex s1 S6 (H::V::(r.toList++JB B q1)) (H::V::((some S3.length).toList++JB B q1)):=by
      refine⟨by omega,fun x hx hj=>?_,fun x hx=>?_⟩
      ·simp only[List.mem_cons,List.mem_append,not_or]at hj
       exact f6 x hx hj.1 (fun z=>hj.2.2.1 (by rw[z];simp))
      ·simp only[List.mem_cons,List.mem_append,Option.mem_toList,Option.some.injEq]at hx ⊢
       rcases hx with z|z|z|z
       ·exact .inl (.inl z)
       ·exact .inl (.inr (.inl z))
       ·exact .inr (by omega)
       ·exact .inl (.inr (.inr (.inr z)))
     exact x0.trans (x1'.trans (x6.trans g4))
  ·exact key i (by omega) s o ds q h ns r hb hs hr hV jH jV jR hin hos hne hd (m+1)
theorem Ho (src:Bytes):∀(m:Nat)(t:az),yU t≤m→Ff src t:=by
 intro m
 induction m with
 | zero=>intro t h;cases t;rw[aZ]at h;omega
 | succ m ih =>
  intro t hm B s o ds q a n hb ha ok H5 lf hk hos hsrc hd hsz hn
  obtain⟨t1,t2,t3,t4⟩:=ha.cells
  cases ha with
  | mk k x cs ch hc =>
  have hk:k<100:=hk
  obtain⟨o1,o2,o3⟩:=km k x cs ok
  have hx:=o2 hk
  subst hx
  rw[gr,Bool.and_eq_true]at H5
  rw[Hl]at lf
  rw[aZ]at hm hsz hn
  rw[iC]at hos ⊢
  rw[eX]at hd ⊢
  have hcl:=eS cs
  obtain⟨n,rfl⟩:∃j,n=j+1:=⟨n-1,by omega⟩
  obtain⟨hlen,RA⟩:=hc.KO
  obtain⟨gR,zg,o_⟩:=hc.aa
  have hBl:=iN hb.par
  -- the variables
  obtain⟨S1,qM⟩:∃S1,s++[(58,aM)]=S1:=⟨_,rfl⟩
  have l1:S1.length=s.length+1:=by rw[←qM];exact aP _ _
  have f1:∀x,x<s.length→S1[x]?=s[x]?:=fun x hx=>by rw[←qM];exact bE hx
  have gV:S1[s.length]?=some (58,aM):=by rw[←qM];exact aW
  have ww:(AV.agg [I k,I 0,.str [],I o,I (-1),I (-1),.aN])=.agg (bR k (h0 o) (gF [] none)):=rfl
  obtain⟨S2,DE⟩:∃S2,S1++[(58,bR k (h0 o) (gF [] none))]=S2:=⟨_,rfl⟩
  have l2:S2.length=s.length+2:=by rw[←DE,aP,l1]
  have f2:∀x,x<s.length→S2[x]?=s[x]?:=fun x hx=>by rw[←DE,bE (by omega)];exact f1 x hx
  have gV2:S2[s.length]?=some (58,aM):=by rw[←DE,bE (by omega)];exact gV
  have gH2:S2[S1.length]?=some (58,bR k (h0 o) (gF [] none)):=by rw[←DE];exact aW
  have PB:∀s:ag,bH Tryz.prog 58 s=some (.ref s.length 0,s++[(58,aM)]):=fun s=>by rw[vG]
  have adj:aB 7 (S1++[(58,aM)]) (.ref S1.length 0) (.agg [I k,I 0,.str [],I o,I (-1),I (-1),.aN])=some S2:=by
   rw[H_ aW rfl rfl rfl rfl,eG,←DE];rfl
  have jn:∀y,s.length≤y→y∉JB B q:=fun y hy z=>by have:=hb.lt _ z;omega
  have hl:=Hn (src:=src) (B:=B) (H:=S1.length) (V:=s.length) (k:=k) hc hk hsrc (by omega) (by omega) n (by omega) (by omega) (by omega) (fun e=>by
    have e:k=60:=by omega
    have:=H5.1
    simpa[e] using this)
   (fun u hu=>ih u (by have:=Fe hu;omega)) o cs.length 0 (by omega) (by omega) S2 o ds q (h0 o) [] none (hb.fresh f2) gH2 rfl gV2 (jn _ (by omega)) (jn _ (Nat.le_refl _)) (by nofun) (Ki o)
   (by rw[List.drop_zero];exact o3) (by rw[List.drop_zero];exact H5.2) (by rw[List.drop_zero];exact lf.2) (by rw[List.drop_zero];exact hos) (fun z=>.inr (by rw[List.drop_zero];exact z)) (by simp;omega)
   (by rw[List.drop_zero,List.nil_append];exact hd)
  rw[List.drop_zero,List.nil_append]at hl
  obtain⟨a',s',q',g1,g2,g3,g4⟩:=hl
  have bL:∀(o:Nat) (v:AV),([I k,.str [],ch]:List AV)[o]?=some v→v.aa=v→∀s2:ag,af false false 1 (.box [I k,.str [],ch] o) s2=some (v,s2):=by
   intro o v es e2 s2
   rw[cu,es];simp[e2]
  have b0:=bL 0 (I k) rfl rfl
  have b2:=bL 2 ch rfl gR
  have lb:af false false 1 (.ref B 1) S1=some (I o,S1):=ld (o:=1) ((f1 B hBl).trans hb.par) (by decide) rfl (by decide)
  have bx:cL false 89 (.agg [I k,.str [],ch]) s=some (.box [I k,.str [],ch] 0,s):=by rw[kT _ _ _ rfl];rfl
  have adk:=KL k o
  refine⟨a',s',q',?_,?_,g3,?_⟩
  ·rw[aF ac6 (a7 ..),Uz,F47]
   simp -implicitDefEqProofs only[sL,bx,PB,qM,lb,b0,adk,adj,b2,hlen]
   exact g1 n n _ (by omega) (by simp[ai,an,aH]) (by simp[ai,an,aH]) (by simp[ai,an,aH]) (by simp[ai,an,aH]) (by simp[ai,an,aH]) (by simp[ai,an,aH])
  ·rw[jC];exact g2
  ·refine⟨by have:=g4.len;omega,fun y hy hj=>?_,fun y hy=>?_⟩
   ·rw[g4.fr y (by omega) (fun z=>by
     simp only[List.mem_cons,Option.toList_none,List.nil_append]at z
     rcases z with z|z|z
     ·omega
     ·omega
     ·exact hj z),f2 y hy]
   ·rcases g4.sub y (List.mem_cons_of_mem _ (List.mem_cons_of_mem _ hy)) with z|z
    ·simp only[List.mem_cons,Option.toList_none,List.nil_append]at z
     rcases z with z|z|z
     ·exact .inr (by omega)
     ·exact .inr (by omega)
     ·exact .inl z
    ·exact .inr (by omega)
end ParF
end

section
namespace ParF
open Go Go.Abs Go.Proofs Pm
theorem jD (a b:List az):wP (a++b)↔wP a∧wP b:=by
 induction a with
 | nil=>rw[wP];simp
 | cons t a ih=>rw[List.cons_append,kn,kn,ih,and_assoc]
theorem mh (t:az):wP [t]↔Hl t:=by rw[kn,wP];simp
theorem qO:wP []:=by rw[wP];trivial
theorem vI:∀ts:List Tok,(∀t∈ts,ny t.1 t.2)→wP (ts.map cr)
 | [],_=>qO
 | t::ts,h=>by
  rw[List.map_cons,kn]
  refine⟨?_,vI ts fun u hu=>h u (List.mem_cons_of_mem _ hu)⟩
  rw[cr,Hl]
  exact⟨fun _=>h t (List.mem_cons_self ..),qO⟩
theorem vJ {k:Nat}(hk:k<100)(x:Bytes)(cs:List az):Hl (.mk k x cs)↔wP cs:=by
 rw[Hl]
 exact⟨fun h=>h.2,fun h=>⟨fun q=>by omega,h⟩⟩
theorem Fg {k:Nat}(hk:k<100∨k=108):Hl (.mk k [] []):=by
 rw[Hl]
 refine⟨fun q=>⟨by decide,fun e=>by omega,fun e=>by omega⟩,qO⟩
theorem PF {g:G}{ts:List Tok}{cs:List az}{r:Bool}{eY:List Tok}{bY:List az}(h:bP g ts cs r eY bY):gl g→(∀t∈ts,ny t.1 t.2)→wP cs→wP bY:=by
 have mem:∀{ts im:List Tok},(∃k,im=ts.drop k)→(∀t∈ts,ny t.1 t.2)→∀t∈im,ny t.1 t.2:=by
  intro ts im ⟨k,e⟩ h t ht;subst e;exact h t (List.mem_of_mem_drop ht)
 induction h with
 | ret b ts cs=>exact fun _ _ h=>h
 | bump ts cs =>
  intro s k h
  rw[←List.map_append,jD]
  exact⟨h,vI _ fun t ht=>k t (jM ht)⟩
 | put k ts cs=>intro s _ h;rw[jD,mh];exact⟨h,Fg s.2⟩
 | gZ ts cs t =>
  intro s k h
  rw[jD,mh]at h
  rw[jD,kn,mh]
  exact⟨h.1,Fg (.inl (by decide)),h.2⟩
 | seq h1 h2 i1 i2=>exact fun s k hc=>i2 s.2 (mem (bm h1) k) (i1 s.1 k hc)
 | node cs hk h i=>intro s k hc;rw[jD,mh,vJ hk];exact⟨hc,i s.1 k qO⟩
 | wrap cs hk h i =>
  intro s k hc
  rw[jD,mh]at hc
  rw[jD,mh,vJ hk]
  exact⟨hc.1,i s.1 k ((mh _).2 hc.2)⟩
 | fu hc h i=>exact fun s=>i s.1
 | d_ hc h i=>exact fun s=>i s.2
 | oW h1 h2 i1 i2=>exact fun s k hc=>i2 s.2.1 (mem (bm h1) k) (i1 s.1 k hc)
 | oX h1 h2 i1 i2=>exact fun s k hc=>i2 s.2.2 (mem (bm h1) k) (i1 s.1 k hc)
 | kI h1 hl h2 i1 i2=>exact fun s k hc=>i2 s.2.1 (mem (bm h1) k) (i1 s.1 k hc)
 | kJ h1 hl h2 i1 i2=>exact fun s k hc=>i2 s.2.2 (mem (bm h1) k) (i1 s.1 k hc)
 | qt h1 hl ht h2 i1 i2 =>
  intro s k hc
  have:=i1 s.1 k hc
  rw[jD]at this
  exact i2 vA (mem (bm h1) k) this.1
 | qu h1 hl h2 i1 i2=>exact fun s k hc=>i2 s.2 (mem (bm h1) k) (i1 s.1 k hc)
 | g_ hc=>exact fun _ _ h=>h
 | iU hc h i=>exact fun s=>i s
 | iV hc h h2 i1 i2=>exact fun s k hn=>i2 s (mem (bm h) k) (i1 s k hn)
 | call h i=>exact fun _=>i (vD _)
open ep in
theorem zt (l:List UInt8)(h:(first l).2=105):((l.take (first l).1).all fun b=>decide (48≤b.toNat)&&decide (b.toNat≤57))=true:=by
 cases l with
 | nil=>rfl
 | cons c r =>
  have d:¬isSp c=true→¬Lib.hasPrefix (c::r) [47,47]=true→¬mD c=true→mE c=true→((c::r).take (first (c::r)).1).all (fun b=>decide (48≤b.toNat)&&decide (b.toNat≤57))=true:=by
   intro c1 c2 c3 c4
   rw[first,if_neg c1,if_neg c2,if_neg c3,if_pos c4]
   exact List.all_eq_true.2 fun b hb=>wQ mE (c::r) b hb
  by_cases c1:isSp c=true
  ·rw[first,if_pos c1]at h;cases h
  by_cases c2:Lib.hasPrefix (c::r) [47,47]=true
  ·rw[first,if_neg c1,if_pos c2]at h;cases h
  by_cases c3:mD c=true
  ·rw[first,if_neg c1,if_neg c2,if_pos c3]at h
   split at h<;>cases h
  by_cases c4:mE c=true
  ·exact d c1 c2 c3 c4
  rw[first,if_neg c1,if_neg c2,if_neg c3,if_neg c4]at h
  split at h
  ·unfold jE at h;split at h<;>cases h
  ·split at h
   ·cases h
   ·split at h<;>cases h
open ep in
theorem KP:∀(n:Nat)(l:List UInt8),l.length≤n→l.length<100000→∀t∈gm l,ny t.1 t.2:=by
 intro n
 induction n with
 | zero =>
  intro l hl
  have:l=[]:=List.length_eq_zero_iff.1 (by omega)
  subst this;nofun
 | succ n ih =>
  intro l hl hb t ht
  by_cases h:l=[]
  ·subst h;cases ht
  ·have hz:=eI l h
   rw[jO h]at ht
   rcases List.mem_cons.1 ht with rfl|ht
   ·refine⟨by rw[List.length_take];omega,fun e=>⟨?_,zt l e⟩,fun _=>by rw[List.length_take];omega⟩
    intro q
    have:=congrArg List.length q
    rw[List.length_take,List.length_nil]at this;omega
   ·exact ih _ (by rw[List.length_drop];omega) (by rw[List.length_drop];omega) t ht
theorem DG (l:List UInt8)(h:l≠[]):100<(ep.first l).2:=by
 cases l with
 | nil=>exact absurd rfl h
 | cons c r =>
  unfold ep.first
  simp only
  repeat' split
  all_goals first
   | (unfold ep.jE;split<;>exact of_decide_eq_true rfl)
   | exact of_decide_eq_true rfl
theorem rP:∀(n:Nat)(l:List UInt8),l.length≤n→∀t∈ep.gm l,100<t.1:=by
 intro n
 induction n with
 | zero =>
  intro l hl
  have:l=[]:=List.length_eq_zero_iff.1 (by omega)
  subst this;nofun
 | succ n ih =>
  intro l hl t ht
  by_cases h:l=[]
  ·subst h;cases ht
  ·rw[ep.jO h]at ht
   rcases List.mem_cons.1 ht with rfl|ht
   ·exact DG l h
   ·have:=ep.eI l h
    exact ih _ (by rw[List.length_drop];omega) t ht
theorem PG (ts:List Tok):j7 ts=ep.zu ts:=by
 induction ts with
 | nil=>rfl
 | cons t ts ih=>rw[j7,ih];simp[ep.zu]
theorem PH:∀(n:Nat)(l:Bytes)(o:Int),l.length≤n→(kl o l).2.length≤l.length:=by
 intro n
 induction n with
 | zero =>
  intro l o h
  have:l=[]:=List.length_eq_zero_iff.1 (by omega)
  subst this;simp[kl]
 | succ n ih =>
  intro l o h
  match l,h with
  | [],_=>simp[kl]
  | [c],_=>simp[kl]
  | c::e::r,h =>
   simp only[kl]
   have e1:=ih r (o+2) (by simp at h;omega)
   have e2:=ih (e::r) (o+1) (by simp at h ⊢;omega)
   by_cases hc:c=92
   ·rw[if_pos hc]
    simp only
    split
    ·simp;omega
    ·simp;omega
   ·rw[if_neg hc]
    simp at e2 ⊢;omega
theorem KQ (k:Int)(h:Hd)(c:Nat)(x:Bytes)(o:Int):(cP k h c x o).2.length≤1+x.length:=by
 unfold cP
 repeat' split
 ·simp
 ·simp
 ·simp
 ·unfold dS;simp only;split<;>simp
 ·unfold mH;split<;>simp
 ·have:=PH _ (x.drop 1) (o+1) (Nat.le_refl _)
  rw[List.length_drop]at this
  simp only;omega
 ·simp
mutual
theorem vK (src:Bytes):∀(o:Nat)(t:az),wv t=true→(aS src o t).2.length≤yU t+(dj t).length
 | o,.mk k x cs,ok=>by
  have i:=vL src k o (h0 o) cs (km k x cs ok).2.2
  rw[eX,jC,aZ,dj,List.length_append]
  have:(qN k (aQ src k o (h0 o) cs).h).length≤1:=by unfold qN;split<;>simp
  rw[List.length_append];omega
theorem vL (src:Bytes)(k:Int):∀(o:Nat)(h:Hd)(ts:List az),mP ts=true→(aQ src k o h ts).ds.length≤dC ts+(cY ts).length
 | o,h,[],_=>by rw[db,dC,cY];simp
 | o,h,t::ts,ok=>by
  rw[fA,Bool.and_eq_true]at ok
  rw[dC,cY,List.length_append]
  by_cases c:100≤t.kind
  ·have i:=vL src k (o+t.text.length) (cP k h t.kind t.text o).1 ts ok.2
   have j:=KQ k h t.kind t.text o
   rw[cA _ _ _ _ _ _ c,gE ok.1 c,List.length_append]
   have:1≤yU t:=by cases t;rw[aZ];omega
   omega
  ·have i:=vL src k (o+(dj t).length) (h.ext (aS src o t).1.s (aS src o t).1.e) ts ok.2
   have j:=vK src o t ok.1
   rw[cS _ _ _ _ _ _ c,List.length_append];omega
end
theorem ie {l:List UInt8}(hl:l.length<100000){T:az}(h:pn (ep.gm l) T):wv T=true∧dj T=l∧yU T≤24*l.length+1∧gr T=true∧Hl T∧∃cs,T=.mk 1 [] cs:=by
 obtain⟨t',es,h1,h2,h3,h4,h5⟩:=h
 subst h3
 have hk:=rP l.length l (Nat.le_refl _)
 have hlt:=ep.sG l
 have hlf:=KP _ l (Nat.le_refl _) hl
 obtain⟨kd,hkd⟩:=bm h1
 have hk':∀t∈t',100≤t.1:=fun t ht=>by
  rw[hkd]at ht
  exact Nat.le_of_lt (hk t (List.mem_of_mem_drop ht))
 refine⟨?_,?_,?_,?_,?_,_,rfl⟩
 ·rw[vj (by decide),dK,EZ h1 (fun t ht=>Nat.le_of_lt (hk t ht)) rfl,vk _ hk'];rfl
 ·have:=vi h1
  rw[iC,dW,rC,this,PG,ep.KR _ l (Nat.le_refl _)];rfl
 ·rw[aZ,aw,qj];omega
 ·rw[gr,fo,Kx h1 (fun t ht=>Nat.le_of_lt (hk t ht)),nv _ hk'];rfl
 ·rw[vJ (by decide),jD]
  exact⟨PF h1 Ku hlf qO,vI _ fun t ht=>by rw[hkd]at ht;exact hlf t (List.mem_of_mem_drop ht)⟩
end ParF
end

section
namespace ParF
open Go
theorem zw (a b:Int):(fp a b<0↔a<b)∧(fp a b≠0↔a≠b):=by
 unfold fp
 split
 ·exact⟨by simp;assumption,by simp;omega⟩
 ·split
  ·exact⟨by simp;omega,by simp;omega⟩
  ·exact⟨by simp;omega,by simp;omega⟩
theorem KS (x y:Int):WS x y<0↔x<0∨(x=0∧y<0):=by
 unfold WS;split<;>omega
def Dr.lt (a b:Dr):Bool:=decide (Dr.cmp a b<0)
theorem Dr.lt_iff (a b:Dr):Dr.lt a b=true↔a.s<b.s∨(a.s=b.s∧(a.e<b.e∨(a.e=b.e∧a.c<b.c))):=by
 have h1:=zw a.s b.s
 have h2:=zw a.e b.e
 have h3:=zw a.c b.c
 have e1:fp a.s b.s=0↔a.s=b.s:=by have:=h1.2;omega
 have e2:fp a.e b.e=0↔a.e=b.e:=by have:=h2.2;omega
 unfold Dr.lt Dr.cmp
 rw[decide_eq_true_eq,KS,KS,h1.1,h2.1,h3.1,e1,e2]
theorem Dr.Bu (a b:Dr):Dr.lt a b=false↔¬(a.s<b.s∨(a.s=b.s∧(a.e<b.e∨(a.e=b.e∧a.c<b.c)))):=by
 rw[←Dr.lt_iff];cases Dr.lt a b<;>simp
theorem KT:Sort.SWO Dr.lt where
 irrefl:=fun x=>by rw[Dr.Bu];omega
 trans:=fun x y z h1 h2=>by rw[Dr.lt_iff]at *;omega
 ntrans:=fun x y z h1 h2=>by rw[Dr.Bu]at *;omega
theorem xQ (d:List Dr):(Sort.pdq Dr.lt d.toArray 0 d.length (Lib.bitLen d.length) true true).size=d.length∧((Sort.pdq Dr.lt d.toArray 0 d.length (Lib.bitLen d.length) true true).toList).Perm d:=by
 have h:=Sort.pdq_sorts Dr.lt KT d.toArray 0 d.length (Lib.bitLen d.length) true true (Nat.zero_le _) (by simp) (.inl rfl)
 obtain⟨h1,h2,h3⟩:=h.1
 have hs:(Sort.pdq Dr.lt d.toArray 0 d.length (Lib.bitLen d.length) true true).size=d.length:=by rw[h1];simp
 refine⟨hs,?_⟩
 have e1:∀a:Array Dr,a.size=d.length→(a.extract 0 d.length).toList=a.toList:=fun a ha=>by
  rw[←ha];simp
 rw[e1 _ hs,e1 _ (by simp)]at h3
 simpa using h3
theorem mj (d:List Dr):(yH d).length=d.length:=by
 unfold yH
 split
 ·rfl
 ·rw[Array.length_toList];exact(xQ d).1
end ParF
end

section
namespace ParF
open Go Go.Abs Go.Proofs Pm vy
def qP (g:Dg):Dr:=⟨g.code,g.s,g.e⟩
theorem Fh:∀ds:List Dg,Es (ds.flatMap Dg.row)=some (ds.map qP)
 | []=>rfl
 | g::ds=>by
  show Es (I g.code::I 0::I g.s::I g.e::.str []::ds.flatMap Dg.row)=_
  rw[Es,Fh ds];rfl
theorem Bv:∀d:List Dr,Es (d.flatMap Dr.row)=some d
 | []=>rfl
 | g::ds=>by
  show Es (I g.c::I 0::I g.s::I g.e::.str []::ds.flatMap Dr.row)=_
  rw[Es,Bv ds];rfl
theorem zx (ds:List Dr):(ds.flatMap Dr.row).length=5*ds.length:=by
 induction ds with
 | nil=>rfl
 | cons l fm ih=>rw[List.flatMap_cons,List.length_append,ih];show 5+5*fm.length=5*(fm.length+1);omega
def jg (ds:List Dg):AV:=if ds=[] then .aN else .sl 71 5 ((fq (yH (ds.map qP))).map fun r=>.agg r.row) .sh
theorem Bw:∀d:List Dr,d≠[]→fq d≠[]
 | [],h=>absurd rfl h
 | [d],_=>by simp[fq]
 | a::b::r,_=>by
  rw[fq]
  split
  ·exact Bw (b::r) (List.cons_ne_nil _ _)
  ·exact List.cons_ne_nil _ _
theorem Bx (ds:List Dg):(jg ds).a_=true∧(jg ds).aa=jg ds:=by
 unfold jg
 split
 ·exact⟨by simp[AV.a_],rfl⟩
 ·refine⟨?_,rfl⟩
  rw[cE]
  generalize fq _=l
  induction l with
  | nil=>exact aY
  | cons d l ih =>
   rw[List.map_cons,aC,ih,lm]
   simp[Dr.row,aC,aY,eQ,eR]
theorem PI (l:Bytes):bn Tryz.prog 94 [(0,.str l)]=some (.agg [.str l,I 0,.aN]):=by
 have hz:zeroOf Tryz.prog 94=some (.agg [.str [],I 0,.aN]):=by kernel_rfl
 have hu:(match Tryz.prog.underlying 94 with|some (.struct fs)=>dN Tryz.prog fs.toList|_=>none)=some [(0,1),(1,1),(2,1)]:=by kernel_rfl
 unfold bn
 split at hu
 ·rename_i fs hh
  rw[hz,hh]
  simp[hu,jo,bZ,AV.cells,AV.ce,AV.aa]
 ·cases hu
theorem Z4 (t z i o n:Nat)(l:List AV):aV (.rs t z i o n::l)=false:=by rw[aC];simp[AV.a_]
theorem US (g0:Nat)(h:0<g0)(x:aU):ba C 31 (bo Tryz.f31 8) [.get g0,.ae,.ae,.ae,.get 2,.ae,.put 0,.ae,.ae] x=x:=by
 refine pW (gs:=[g0,2]) (ls:=[]) (ps:=[0]) (by kernel_rfl) (by simp) (by simp) (by simp) (by simp) (fun g hg p hp=>?_)
 cases List.mem_singleton.1 hp
 rcases List.mem_cons.1 hg with rfl|hg
 ·omega
 ·cases List.mem_singleton.1 hg;omega
theorem PJ (l:List UInt8)(hl:l.length≤2000):∃T a,pn (ep.gm l) T∧qK (kV l T).1 a∧AC C 31 [.str l] (.aI [a,jg (kV l T).2,I 0]):=by
 obtain⟨T,ta,hF,hT,hp⟩:=Hp l hl (fun t ht=>by have:=rP l.length l (Nat.le_refl _) t ht;omega)
 obtain⟨ok,src,sz,H5,lf,cs,hTe⟩:=ie (by omega) hF
 obtain⟨N0,q0⟩:=ep.AC.at hp
 obtain⟨n,hn⟩:∃n,n=N0+60000:=⟨_,rfl⟩
 have q0:=q0 n (by omega)
 obtain⟨t1,t2,t3,t4⟩:=hT.cells
 have tst:ta.aa=ta:=by rw[t4];rfl
 have hlen:=vK l 0 T ok
 rw[src]at hlen
 -- the heap when the builder begins
 obtain⟨s1,Cg⟩:∃s1:ag,s1=[(58,aM)]:=⟨_,rfl⟩
 obtain⟨s2,E2⟩:∃s2:ag,s2=[(58,aM),(89,ta.cells)]:=⟨_,rfl⟩
 obtain⟨s3,RC⟩:∃s3:ag,s3=[(58,aM),(89,ta.cells),(94,[.str l,I 0,.aN])]:=⟨_,rfl⟩
 have PB:∀s:ag,bH Tryz.prog 58 s=some (.ref s.length 0,s++[(58,aM)]):=fun s=>by rw[vG]
 have zA:bH Tryz.prog 58 []=some (.ref 0 0,s1):=by rw[vG,Cg];rfl
 obtain⟨R4,OI⟩:∃R4:ag,R4=[(58,aM),(89,[I 0,.str [],.aN])]:=⟨_,rfl⟩
 have z65:bH Tryz.prog 89 s1=some (.ref 1 0,R4):=by rw[RB,Cg,OI];rfl
 have st5:aB 3 R4 (.ref 1 0) ta=some s2:=by
  rw[OI,E2,st3 (s:=[(58,aM),(89,[I 0,.str [],.aN])]) (i:=1) rfl rfl t1 t2 t4];rfl
 have bx:cL true 94 (.agg [.str l,I 0,.aN]) s2=some (.ref 2 0,s3):=by
  simp[cL,E2,RC,AV.cells,AV.ce,AV.aa]
 have ld5:af false true 3 (.ref 1 0) s3=some (ta,s3):=ld3 (s:=s3) (i:=1) (by rw[RC];rfl) t1 t4
 have b0:BS l 2 s3 0 [] none:=⟨by rw[RC];rfl,fun _=>rfl,nofun⟩
 have l3:s3.length=3:=by rw[RC];rfl
 have hk:T.kind<100:=by rw[hTe];show 1<100;decide
 obtain⟨a,s4,q4,rn,hA,b4,x4⟩:=Ho l (yU T) T (Nat.le_refl _) 2 s3 0 [] none ta n b0 hT ok H5 lf hk (by rw[src];omega) (by omega) (by rw[List.nil_append];omega) (by omega) (by omega)
 rw[List.nil_append]at b4
 have aeh:3≤s4.length:=by have:=x4.len;omega
 have g40:s4[0]?=some (58,aM):=(x4.fr 0 (by omega) (by simp[JB])).trans (by rw[RC];rfl)
 obtain⟨a1,a2,a3,a4⟩:=hA.cells
 -- the root
 obtain⟨s5,RD⟩:∃s5,s4++[(58,a.cells)]=s5:=⟨_,rfl⟩
 have l5:s5.length=s4.length+1:=by rw[←RD];exact aP _ _
 have f5:∀x,x<s4.length→s5[x]?=s4[x]?:=fun x hx=>by rw[←RD];exact bE hx
 have g5:s5[s4.length]?=some (58,a.cells):=by rw[←RD];exact aW
 have Ue:aB 7 (s4++[(58,aM)]) (.ref s4.length 0) a=some s5:=by rw[H_ aW rfl a1 a2 a4,eG,RD]
 have hp:=xP hA 0 l.length
 have p3:aB 1 s5 (.ref s4.length 3) (I 0)=some (s5.set s4.length (58,a.cells.set 3 (I 0))):=by
  rw[st (n:=1) (v:=I 0) g5 (by decide) rfl rfl (by omega)];rfl
 have g6:(s5.set s4.length (58,a.cells.set 3 (I 0)))[s4.length]?=some (58,a.cells.set 3 (I 0)):=bK g5
 have p4:aB 1 (s5.set s4.length (58,a.cells.set 3 (I 0))) (.ref s4.length 4) (I l.length)=some ((s5.set s4.length (58,a.cells.set 3 (I 0))).set s4.length (58,(a.cells.set 3 (I 0)).set 4 (I l.length))):=by
  rw[st (n:=1) (v:=I l.length) g6 (by decide) rfl rfl (by simp;omega)];rfl
 rw[set_set]at p4
 obtain⟨h1,h2,h3,h4⟩:=hp.cells
 generalize Wf:(AV.agg ((a.cells.set 3 (I 0)).set 4 (I l.length)))=pv at *
 have hpc:pv.cells=(a.cells.set 3 (I 0)).set 4 (I l.length):=by rw[←Wf];rfl
 rw[←hpc]at p4
 obtain⟨s7,hs7⟩:∃s7,s5.set s4.length (58,pv.cells)=s7:=⟨_,rfl⟩
 rw[hs7]at p4
 have l7:s7.length=s4.length+1:=by rw[←hs7,bh,l5]
 have f7:∀x,x<s4.length→s7[x]?=s4[x]?:=fun x hx=>by rw[←hs7,bu (by omega),f5 x hx]
 have g7:s7[s4.length]?=some (58,pv.cells):=by rw[←hs7];exact bK g5
 have b7:=b4.fresh f7
 have hpN:qK (kV l T).1 pv:=hp
 have dnr:=Bx (kV l T).2
 suffices hsf:∃s',den C (n+1) 31 [.str l] []=some (.aI [pv,jg (kV l T).2,I 0],s') by
  obtain⟨s',hs'⟩:=hsf
  exact⟨T,pv,hF,hpN,AC.one ac7 rfl (by rw[jK,aC,aC,aC,aY,hpN.a_,dnr.1,eQ];rfl) hs'⟩
 have ldp:=MA g7 h1 h4
 have l2:af false false 1 (.ref 2 2) s7=some (Cl (aS l 0 T).2 q4,s7):=by rw[ld (o:=2) b7.par (by decide) rfl (by decide),nW]
 have pst:pv.aa=pv:=by rw[h4];rfl
 have V4:a.aa=a:=by rw[a4];rfl
 have ko:=iq l
 have e34:ah Tryz.prog 48=true:=by kernel_rfl
 have e36:ah Tryz.prog 50=true:=by kernel_rfl
 obtain⟨n0,hn0⟩:∃m,n=m+1:=⟨n-1,by omega⟩
 have q0s:ab Tryz.prog (den C n) 46 [.str l] s1=some (.aI [ta,I 0],s1):=q0 s1
 -- from the row given out
 have fin:∀(s8 s9:ag) (k0:Kind),ab Tryz.prog (den C n) 48 [Cl (aS l 0 T).2 q4,.fn 49 [] []] s7=some (.aI [],s8)→af false false 1 (.ref 2 2) s8=some (Cl (aS l 0 T).2 q4,s8)→s8[s4.length]?=s7[s4.length]? →
   ab Tryz.prog (den C n) 50 [Cl (aS l 0 T).2 q4] s8=some (jg (kV l T).2,s9)→s9[0]?=some (58,aM) →
   (∀x,ba C 31 (bo Tryz.f31 8) [.get s4.length,.ae,.ae,.ae,.get 2,dyn (if((Cl (aS l 0 T).2 q4).a_&&true)=true then .ae else .bX) s8 s9,.put 0,.ae,.ae] x=x) →
   ∃s',den C (n+1) 31 [.str l] []=some (.aI [pv,jg (kV l T).2,I 0],s'):=by
  intro s8 s9 k0 r34 l28 g8 r36 g9 dk
  have adl:af false true 7 (.ref s4.length 0) s8=some (pv,s8):=MA (g8.trans g7) h1 h4
  have p9:=H_ g9 rfl h1 h2 h4
  have qD:=MA (bK (v:=(58,pv.cells)) g9) h1 h4
  refine⟨s9.set 0 (58,pv.cells),?_⟩
  rw[UB,F31]
  simp -implicitDefEqProofs only[sL,zA,q0s,z65,st5,tst,show ((0:Int) != 0)=false from rfl,PI,bx,ld5,rn,PB,RD,Ue,V4,ko,p3,p4,l2,nW,r34,adl,l28,r36,p9,qD,cM,pD,dk,dnr.2]
 cases q4 with
 | none =>
  have ed:=b7.nil rfl
  have eo:jg (kV l T).2=.aN:=by
   have:(kV l T).2=[]:=ed
   unfold jg;rw[if_pos this]
  refine fin s7 s7 .ae ?_ l2 rfl ?_ ((f7 0 (by omega)).trans g40) (fun x=>?_)
  ·exact KE (s1:=[]) e34 rfl rfl (by rw[hn0,gx (e:=xh) (by rfl)];rfl)
  ·rw[eo];exact KE (s1:=[]) e36 rfl rfl (by rw[hn0,gx (e:=pC) (by rfl)];rfl)
  ·exact US _ (by omega) x
 | some Q =>
  obtain⟨k1,k2,junk,k3⟩:=b7.row Q rfl
  have hr:=sE (aS l 0 T).2
  have hQl:=iN k3
  have jQ:Q∈JB 2 (some Q):=by simp[JB]
  have hQ4:Q<s4.length:=b4.lt Q jQ
  have hQ0:Q≠0:=fun e=>by
   rcases x4.sub Q jQ with z|z
   ·simp[JB]at z;omega
   ·omega
  have eo:jg (kV l T).2=.sl 71 5 ((fq (yH ((aS l 0 T).2.map qP))).map fun r=>.agg r.row) .sh:=by
   have e2:(kV l T).2=(aS l 0 T).2:=rfl
   unfold jg;rw[e2,if_neg k2]
  generalize hD:(aS l 0 T).2=D at *
  have tk:((D.flatMap Dg.row++junk):List AV).take (D.length*5)=D.flatMap Dg.row:=by
   rw[List.take_append_of_le_length (by omega),List.take_of_length_le (by omega)]
  have hDl:D.length<1000000:=by omega
  have r34:ab Tryz.prog (den C n) 48 [Cl D (some Q),.fn 49 [] []] s7=some (.aI [],s7.set Q (71,(yH (D.map qP)).flatMap Dr.row++junk)):=by
   rw[aF e34 (by rfl),hn0,gx (e:=xh) (by rfl)]
   show (match s7[Q]? with|some cs=>_|none=>none)=_
   rw[k3]
   simp only
   rw[if_pos ⟨trivial,trivial,trivial,by rw[List.length_append];omega,hDl⟩,tk,Fh,List.drop_append_of_le_length (by omega),List.drop_of_length_le (by omega)]
   rfl
  obtain⟨s8,hs8⟩:∃s8,s7.set Q (71,(yH (D.map qP)).flatMap Dr.row++junk)=s8:=⟨_,rfl⟩
  rw[hs8]at r34
  have l8:s8.length=s7.length:=by rw[←hs8,bh]
  have g8:∀x,x≠Q→s8[x]?=s7[x]?:=fun x hx=>by rw[←hs8,bu (Ne.symm hx)]
  have k8:s8[Q]?=some (71,(yH (D.map qP)).flatMap Dr.row++junk):=by rw[←hs8];exact bK k3
  have H2:(yH (D.map qP)).length=D.length:=by rw[mj,List.length_map]
  have Aa:=zx (yH (D.map qP))
  have tk8:((yH (D.map qP)).flatMap Dr.row++junk).take (D.length*5)=(yH (D.map qP)).flatMap Dr.row:=by
   rw[List.take_append_of_le_length (by omega),List.take_of_length_le (by omega)]
  have r36:ab Tryz.prog (den C n) 50 [Cl D (some Q)] s8=some (jg (kV l T).2,kill s8 Q):=by
   rw[aF e36 (by show aV (.rs 71 5 Q 0 D.length::[])=false;exact Z4 ..),hn0,gx (e:=pC) (by rfl),eo]
   show (match s8[Q]? with|some cs=>_|none=>none)=_
   rw[k8]
   simp only
   rw[if_pos ⟨trivial,trivial,trivial,by rw[List.length_append];omega,hDl⟩,tk8,Bv]
   rfl
  have kp:∀g,g<s8.length→g≠Q→(kept s8 (kill s8 Q)).contains g=true:=fun g hg hne=>MS hg (fS (Ne.symm hne))
  refine fin s8 (kill s8 Q) .ae r34 ?_ (g8 _ (by omega)) r36 ?_ (fun x=>?_)
  ·rw[ld (o:=2) ((g8 2 (Ne.symm k1)).trans b7.par) (by decide) rfl (by decide),nW]
  ·rw[fS hQ0,g8 0 (Ne.symm hQ0),f7 0 (by omega)];exact g40
  ·refine ZJ (l0:=kept s8 (kill s8 Q)) 0 (fun g hg l hl=>?_) (fun g hg p hp=>?_) x
   ·cases List.mem_singleton.1 hl
    rcases List.mem_cons.1 hg with rfl|hg
    ·exact kp _ (by omega) (by omega)
    ·cases List.mem_singleton.1 hg
     exact kp _ (by omega) (Ne.symm k1)
   ·cases List.mem_singleton.1 hp
    rcases List.mem_cons.1 hg with rfl|hg
    ·omega
    ·cases List.mem_singleton.1 hg;omega
end ParF
end
