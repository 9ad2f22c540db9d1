/- ParW, LexL, RelT, ParK, ParJ, ParJ2, LexV, ParR -/
import Derived.Test.YtndfoijecakkfaaGreatDoorF
import Derived.Test.YtndfoijecakkfaaGreatDoorD
import Derived.Test.YtndfoijecakkfaaGreatDoorL
import Derived.Test.YtndfoijecakkfaaGreatDoorB
set_option linter.all false
set_option maxRecDepth 100000
set_option maxHeartbeats 1000000

section
namespace ParF
open Go Go.Abs Go.Proofs Pm
theorem Qk {ts:List Tok}(hk:∀t∈ts,t.1≠100)(h:(pk ts).1=100):io ts=[]:=by
 cases hs:io ts with
 | nil=>rfl
 | cons t r =>
  exfalso
  have hm:t∈ts:=by
   have:=lw ts
   rw[←this,hs];exact List.mem_append_right _ (List.mem_cons_self ..)
  rw[pk,hs]at h
  exact hk t hm h
theorem LI {ts:List Tok}(h:io ts=[]):ts.takeWhile dq=ts:=by
 have:=lw ts
 rw[h,List.append_nil]at this
 exact this
theorem aaG (t i:Nat):aA Tryz.prog 87 (.rs t 3 i 0 1) (.int .i64 0)=some (.ref i 0):=jz t i 0
theorem LJ {ts:List Tok}(hk:∀t∈ts,t.1≠100){n:Nat}(hn:ts.length+20≤n){P Z:Nat}{s:ag}{rest:List Tok}{k:Nat}{cs:List az}{J:List Nat}{c0:List AV}(h:PR ts P s rest [] k cs J)(hZ:s[Z]?=some (89,c0))(hc:c0.length=3)(hj:Z∉J)
  (he:(pk rest).1=100)(hb:dC cs+ts.length<900000000) :
  ∃a s1 Q s3 s4 row,ab Tryz.prog (den C n) 66 [.ref P 0] s=some (.aI [],s1)∧af false false 1 (.ref P 2) s1=some (.rs 89 3 Q 0 1,s1)∧af false true 3 (.ref Q 0) s1=some (.agg row,s1)∧wD (some (.agg row,s1))=some (a,s3)∧aB 3 s3 (.ref Z 0) a=some s4 ∧
   af false true 3 (.ref Z 0) s4=some (a,s4)∧nT (.mk k [] (cs++rest.map cr)) a:=by
 obtain⟨pos,i,rfl,h⟩:=h
 have gR:=eS cs
 have hrk:∀t∈ts.drop pos,t.1≠100:=fun t ht=>hk t (List.mem_of_mem_drop ht)
 have BC:=Qk hrk he
 have ht0:=LI BC
 have hlen:=h.len
 obtain⟨s1,i1,J1,qC,q1,d1,p1,x1⟩:=A7 h (by show cs.length+ts.length+0<_;omega) (n:=n) (by omega)
 rw[ht0]at p1
 obtain⟨tk,Q,junk,f,rfl⟩:=p1.facts
 obtain⟨a,s3,e3,hT,l3,f3⟩:=JA f.ok
 have hZ1:=(x1.fr Z (iN hZ) hj).trans hZ
 have hj1:=x1.mA (iN hZ) hj
 have hid:i1≠some Z:=fun e=>hj1 (by rw[e];unfold JJ;simp)
 have hZ3:=(f3 Z hid).trans hZ1
 obtain⟨a1,a2,a3,a4⟩:=hT.cells
 have Aj:a.ce=true:=by rw[a4];rfl
 have hst:dv a=a.cells:=by rw[a4];exact a2
 have st4:aB 3 s3 (.ref Z 0) a=some (s3.set Z (89,a.cells)):=by
  rw[ParF.st (n:=3) (o:=0) (v:=a) hZ3 (by decide) Aj a1 (by omega),hst]
  have:=gp [] a.cells c0 (by omega)
  rw[List.nil_append,List.nil_append]at this
  rw[show bZ c0 0 a.cells=a.cells from this]
 have hr:=eJ ([]++[(⟨k,cs++(ts.drop pos).map cr,i1⟩:Lv)])
 have ldq:af false true 3 (.ref Q 0) s1=some (.agg (Lv.row ⟨k,cs++(ts.drop pos).map cr,i1⟩),s1):=by
  have:=Jr (n:=3) (o:=([]:List Lv).length*3) f.row (by decide) (by rw[bJ,hr];show 0+3≤3*1+_;omega) (by decide)
  rw[A8]at this
  exact this
 refine⟨a,s1,Q,s3,_,_,q1,ld (o:=2) f.par (by decide) rfl (by decide),ldq,e3,st4,?_,hT⟩
 rw[Jr (o:=0) (bK hZ3) (by decide) (by omega) (by decide),List.drop_zero,List.take_of_length_le (by omega),←a4]
theorem l21 {ts:List Tok}(hk:∀t∈ts,t.1≠100){n P Z:Nat}:∀(m:Nat),m*20+ts.length+120≤n→∀s rest k cs J b rest' bY c0,PR ts P s rest [] k cs J→s[Z]?=some (89,c0)→c0.length=3→Z∉J→run m xn rest cs=some (b,rest',bY)→dC bY+ts.length<900000000 →
  ∃a s',(∀M n' e,m<M→e 6=.ref P 0→e 2=.ref Z 0→aJ (u4 (den C n) n') M e s=some (.aI [a,I 0],s'))∧nT (.mk k [] (bY++rest'.map cr)) a:=by
 intro m
 induction m with
 | zero=>intro _ s rest k cs J b rest' bY c0 h _ _ _ hr;rw[Pm.cJ]at hr;cases hr
 | succ m ih =>
  intro hn s rest k cs J b rest' bY c0 h hZ hc0 hj hr hb
  have hn0:m*20+ts.length+120≤n:=by omega
  obtain⟨m',hm',hw⟩:=gq hr
  cases hm'
  obtain⟨sa,qa,pa,xa⟩:=(zd ts).use (n:=n) (by omega) h
  have qa2:ab Tryz.prog (den C n) 64 [.ref P 0] s=some (.bool (ev sQ rest),sa):=qa
  have hZa:=(xa.fr Z (iN hZ) hj).trans hZ
  rcases hw with ⟨hc,rfl,rfl,rfl⟩|⟨hc,nu,hb0⟩|⟨hc,tw,cw,nu,ww,OM⟩
  ·have he:(pk rest').1=100:=by
    have:(!((pk rest').1==100))=false:=hc
    simpa using this
   have kK:ev sQ rest'=true:=by
    show ((pk rest').1==100)=true
    simp[he]
   rw[kK]at qa2
   obtain⟨a,s1,Q,s3,s4,row,e1,e2,e3,e4,e5,e6,hT⟩:=LJ hk (n:=n) (by omega) pa hZa hc0 hj he (by omega)
   have ad2:a.aa=a:=by rw[hT.cells.2.2.2];rfl
   refine⟨a,s4,fun M n' e hM he6 kK=>?_,hT⟩
   obtain⟨M,rfl⟩:∃j,M=j+1:=⟨M-1,by omega⟩
   rw[aJ,u4]
   simp -implicitDefEqProofs only[sL,he6,kK,qa2,e1,e2,aaG,e3,e4,ad2,e5,e6]
  ·exact absurd (iF (by rfl) nu) (by decide)
  ·have kK:ev sQ rest=false:=by
    have:(!((pk rest).1==100))=true:=hc
    show ((pk rest).1==100)=false
    simpa using this
   rw[kK]at qa2
   obtain⟨m1,b1,t1,c1,hm1,dA,bG,hz1⟩:=ay nu
   obtain⟨-,rfl,rfl⟩:=bM bG
   have hz2:dC cw≤dC bY:=OM
   obtain⟨s1,J1,q1,p1,x1⟩:=s60 ts m1 n (by omega) P sa rest [] k cs J b1 tw cw pa dA (by show 0+_<_;omega)
   have e1:ab Tryz.prog (den C n) 65 [.ref P 0] sa=some (.aI [],s1):=q1
   have hZ1:=(x1.fr Z (iN hZa) hj).trans hZa
   obtain⟨a,s2,q2,hT⟩:=ih hn0 s1 tw k cw J1 b rest' bY c0 p1 hZ1 hc0 (x1.mA (iN hZa) hj) ww hb
   refine⟨a,s2,fun M n' e hM he6 aaH=>?_,hT⟩
   obtain⟨M,rfl⟩:∃j,M=j+1:=⟨M-1,by omega⟩
   rw[aJ,u4]
   simp -implicitDefEqProofs only[sL,he6,aaH,qa2,e1]
   exact q2 _ _ _ (by omega) ((ao _ _ _ rfl).trans he6) ((ao _ _ _ rfl).trans aaH)
def pn (ts:List Tok)(T:az):Prop:=∃t' es,bP xn ts [] false t' es∧(pk t').1=100∧T=.mk 1 [] (es++t'.map cr)∧dC es+24*t'.length≤24*ts.length∧oD es≤6+2*ts.length
theorem HN (ts:List Tok):∃T,pn ts T:=by
 obtain⟨t',es,h1,h2,h3⟩:=GC ts
 refine⟨_,t',es,h1,h2,rfl,?_,?_⟩
 ·simp only[Sp]at h3;omega
 ·simp only[Sp]at h3;omega
theorem Ql (l:List UInt8):o6 (ep.sk (ep.gm l)).aa (ep.gm l):=by
 rcases ep.mn (ep.gm l) with h|⟨h1,h2⟩
 ·exact .inr ⟨147,h⟩
 ·exact .inl ⟨h2,h1⟩
theorem Hp (l:List UInt8)(hl:l.length≤2000)(hk:∀t∈ep.gm l,t.1≠100):∃T a,pn (ep.gm l) T∧nT T a∧AC C 46 [.str l] (.aI [a,I 0]):=by
 obtain⟨T,hF⟩:=HN (ep.gm l)
 obtain⟨t',es,h1,h2,h3,h4,h5⟩:=id hF
 obtain⟨m,hm⟩:=Dd h1
 have hlt:=ep.sG l
 have Qm:=Ql l
 generalize Cu:ep.gm l=ts at *
 have aeU:ts.length≤2000:=by omega
 obtain⟨N0,q0⟩:=ep.AC.at (ep.zs l)
 have ht:ep.LH l=.aI [(ep.sk (ep.gm l)).aa,I 0]:=by unfold ep.LH;rw[if_neg (by omega)]
 rw[ht,Cu]at q0
 generalize (ep.sk ts).aa=tk at *
 have hst:=mc Qm
 -- the heap when the loop begins
 let s0:ag:=[(89,[I 0,.str [],.aN]),(89,[I 1,.str [],.aN]),(116,[tk,I 0,.rs 89 3 1 0 1])]
 have ps:PS ts 2 s0 0 ([]++[⟨1,[],none⟩]) (JJ 2 1 [] ⟨1,[],none⟩) :=
  Fs.ps (tk:=tk) (junk:=[]) ⟨Qm,rfl,rfl,by decide,nofun,nofun,List.nodup_nil,rfl,nofun,Nat.zero_le _,by omega⟩
 have CK:∀n,m*20+ts.length+120≤n→∃a s',(∀M n' e,m<M→e 6=.ref 2 0→e 2=.ref 0 0→aJ (u4 (den C n) n') M e s0=some (.aI [a,I 0],s'))∧nT T a:=by
  intro n hn
  rw[h3]
  exact l21 hk (Z:=0) m hn s0 ts 1 [] _ false t' es [I 0,.str [],.aN] ⟨0,none,rfl,ps⟩ rfl rfl (by unfold JJ;simp) hm (by omega)
 have hm1:0<m:=by
  cases m with
  | zero=>rw[Pm.cJ]at hm;cases hm
  | succ m=>omega
 obtain⟨a,s',q,hT⟩:=CK (N0+m*20+ts.length+120) (by omega)
 refine⟨T,a,hF,hT,AC.one (n:=N0+m*20+ts.length+120+1) (s1:=s') abb rfl ?_ ?_⟩
 ·rw[jK,aC,aC,aY,eQ,hT.a_];rfl
 ·have q1:=q0 (N0+m*20+ts.length+120) (by omega) [(89,[I 0,.str [],.aN])]
  have hmn:m<N0+m*20+ts.length+120:=by omega
  generalize N0+m*20+ts.length+120=n at *
  have hb:=iD (I 1) rfl rfl rfl
  have z52:bH Tryz.prog 89 []=some (.ref 0 0,[(89,[I 0,.str [],.aN])]):=by rw[Dp];rfl
  have rb:=zb (s:=[(89,[I 0,.str [],.aN])]) (a:=.agg [I 1,.str [],.aN]) (t:=.mk 1 [] []) (.mk _ _ _ _ .nil)
  have rb:fN Tryz.prog 87 1 [(0,.agg [I 1,.str [],.aN])] [(89,[I 0,.str [],.aN])]=some (.rs 89 3 1 0 1,[(89,[I 0,.str [],.aN]),(89,[I 1,.str [],.aN])]):=rb
  have Tw:bn Tryz.prog 116 [(0,tk),(2,.rs 89 3 1 0 1)]=some (.agg [tk,I 0,.rs 89 3 1 0 1]):=by
   have hz:zeroOf Tryz.prog 116=some (.agg [.aN,I 0,.aN]):=by kernel_rfl
   have hu:(match Tryz.prog.underlying 116 with|some (.struct fs)=>dN Tryz.prog fs.toList|_=>none)=some [(0,1),(1,1),(2,1)]:=by kernel_rfl
   have c1:tk.cells=[tk]:=by rcases Qm with ⟨e,_⟩|⟨T,e⟩<;>rw[e]<;>rfl
   have c2:tk.ce=true:=by rcases Qm with ⟨e,_⟩|⟨T,e⟩<;>rw[e]<;>rfl
   have c4:(AV.rs 89 3 1 0 1).cells=[.rs 89 3 1 0 1]:=rfl
   have c5:(AV.rs 89 3 1 0 1).ce=true:=rfl
   unfold bn
   split at hu
   ·rename_i fs hh
    rw[hz,hh]
    simp[hu,jo,bZ,c1,c2,hst,c4,c5,dD,xe]
   ·cases hu
  have bx:cL true 116 (.agg [tk,I 0,.rs 89 3 1 0 1]) [(89,[I 0,.str [],.aN]),(89,[I 1,.str [],.aN])]=some (.ref 2 0,s0):=by
   simp[cL,hst,dD,s0]
  have q1:ab Tryz.prog (den C n) 63 [.str l] [(89,[I 0,.str [],.aN])]=some (.aI [tk,.int .i64 0],[(89,[I 0,.str [],.aN])]):=q1
  rw[Sm,F46]
  simp -implicitDefEqProofs only[sL,z52,q1,hst,show ((0:Int) != 0)=false from rfl,hb,rb,Tw,bx]
  exact q _ _ _ hmn rfl rfl
end ParF
end

section
namespace ep
open Go
end ep
end

section
namespace ep
open Go
def keep (a:Nat):Nat→List Tok→Nat
 | _,[]=>0
 | o,t::r=>if o+t.2.length<a then keep a (o+t.2.length) r+1 else 0
end ep
end

section
namespace Pm
def Two (c:mO):Prop:=∀t u v v',c t u v=c t u v'
structure yc (t u:List Tok):Prop where
 one:pk t=pk u
 two:pk (la t)=pk (la u)
 nil:t=[]→u=[]
 eof:io t=[]→io u=[]
theorem FF (xs t:List Tok):io (xs++t)=if io xs=[] then io t else io xs++t:=by
 induction xs with
 | nil=>rfl
 | cons x xs ih =>
  unfold io at *
  rw[List.cons_append,List.dropWhile_cons,List.dropWhile_cons]
  split
  ·exact ih
  ·rw[if_neg (by simp)];rfl
theorem LK (xs t:List Tok):pk (xs++t)=if io xs=[] then pk t else pk xs:=by
 unfold pk
 rw[FF]
 split
 ·rfl
 ·rename_i h
  cases hs:io xs with
  | nil=>exact absurd hs h
  | cons a l=>rfl
theorem LL (xs t:List Tok):la (xs++t)=if io xs=[] then la t else la xs++t:=by
 unfold la
 rw[FF]
 split
 ·rfl
 ·rename_i h
  cases hs:io xs with
  | nil=>exact absurd hs h
  | cons a l=>rfl
theorem yc.pk {t u:List Tok}(h:yc t u)(xs:List Tok):pk (xs++t)=pk (xs++u):=by
 rw[LK,LK,h.one]
theorem yc.pk2 {t u:List Tok}(h:yc t u)(xs:List Tok):Pm.pk (la (xs++t))=Pm.pk (la (xs++u)):=by
 rw[LL,LL]
 split
 ·exact h.two
 ·exact h.pk _
theorem yc.ev {t u:List Tok}(h:yc t u){c:mO}(hc:Two c)(xs:List Tok):ev c (xs++t)=ev c (xs++u):=by
 unfold Pm.ev
 rw[h.pk,h.pk2];exact hc _ _ _ _
end Pm
end

section
namespace Pm
def sg (ts:List Tok):List Tok:=ts.filter fun t=>!dq t
def Z5 (c:mO)(s:List Tok):Bool:=c (hd s) (hd (s.drop 1)) (hd (s.drop 2))
abbrev Pr:=List Tok→Prop
abbrev T:Pr:=fun _=>True
inductive Ok:Pr→G→(Bool→Pr)→Prop
 | ret {P:Pr} {Q:Bool→Pr} {b:Bool} (h:∀s,P s→Q b s):Ok P (.ret b) Q
 | bump {P:Pr} {Q:Bool→Pr} (h:∀s,P s→s≠[]∧Q false (s.drop 1)):Ok P .bump Q
 | put {P:Pr} {Q:Bool→Pr} {k:Nat} (h:∀s,P s→Q false s):Ok P (.put k) Q
 | gZ {P:Pr} {Q:Bool→Pr} (h:∀s,P s→Q false s):Ok P .gZ Q
 | seq {P:Pr} {R Q:Bool→Pr} {a b:G} (h1:Ok P a R) (h2:Ok (fun s=>∃r,R r s) b Q):Ok P (.seq a b) Q
 | node {P:Pr} {Q:Bool→Pr} {k:Nat} {g:G} (h:Ok P g Q):Ok P (.node k g) Q
 | wrap {P:Pr} {Q:Bool→Pr} {k:Nat} {g:G} (h:Ok P g Q):Ok P (.wrap k g) Q
 | ite {P:Pr} {Q:Bool→Pr} {c:mO} {a b:G} (h1:Ok (fun s=>P s∧Z5 c s=true) a Q) (h2:Ok (fun s=>P s∧Z5 c s=false) b Q):Ok P (.ite c a b) Q
 | yV {P:Pr} {R Q:Bool→Pr} {g a b:G} (h:Ok P g R) (h1:Ok (R true) a Q) (h2:Ok (R false) b Q):Ok P (.yV g a b) Q
 | prog {P:Pr} {R Q:Bool→Pr} {g a b:G} (h:Ok P g R) (h1:Ok P a Q) (h2:Ok (fun s=>∃r,R r s) b Q):Ok P (.prog g a b) Q
 | Ch {P:Pr} {R Q:Bool→Pr} {g b:G} (h:Ok P g R) (h1:∀s,P s→s≠[]∧Q false (s.drop 1)) (h2:Ok (fun s=>∃r,R r s) b Q):Ok P (.Ch g b) Q
 | dH {P:Pr} {R Q:Bool→Pr} {c:mO} {g:G} (h:Ok (fun s=>Z5 c s=true) g R) (ht:∀s,R true s→Q true s) (hq:∀s,Q false s):Ok P (.dH c g) Q
 | call {P:Pr} {Q:Bool→Pr} {f:Nat} (h:f=2∨f=6→∀s,P s→s≠[]) (hq:∀r s,Q r s):Ok P (.call f) Q
mutual
inductive TE:az→az→Prop
 | mk (k:Nat) (x:Bytes) (cs ds:List az) (h:LE cs ds):TE (.mk k x cs) (.mk k x ds)
inductive LE:List az→List az→Prop
 | nil:LE [] []
 | snoc (cs ds:List az) (A B:List Tok) (x y:az) (h:LE cs ds) (hA:∀t∈A,dq t=true) (hB:∀t∈B,dq t=true) (ht:TE x y):LE (cs++(A.map cr++[x])) (ds++(B.map cr++[y]))
end
theorem LE.one {cs ds:List az}{x y:az}(h:LE cs ds)(ht:TE x y):LE (cs++[x]) (ds++[y]):=by
 have:=LE.snoc cs ds [] [] x y h nofun nofun ht
 simpa using this
theorem LE.last {bY ds:List az}(h:LE bY ds):∀{cs:List az}{t:az},bY=cs++[t]→∃(c1 d1:List az)(A B:List Tok)(y:az),cs=c1++A.map cr∧ds=d1++(B.map cr++[y])∧LE c1 d1∧(∀t∈A,dq t=true)∧(∀t∈B,dq t=true)∧TE t y:=by
 intro cs t e
 cases h with
 | nil=>simp at e
 | snoc c1 d1 A B x y h hA hB ht =>
  rw[←List.append_assoc]at e
  have e1:=List.append_inj_left' e rfl
  have e2:=List.append_inj_right' e rfl
  cases e2
  exact⟨c1,d1,A,B,y,e1.symm,rfl,h,hA,hB,ht⟩
theorem TE.cr (t:Tok):TE (Pm.cr t) (Pm.cr t):=.mk _ _ _ _ .nil
end Pm
end

section
namespace Pm
theorem Ok.o9 {P:Pr}{g:G}{Q:Bool→Pr}(h:Ok P g Q):∀{P':Pr},(∀s,P' s→P s)→Ok P' g Q:=by
 induction h with
 | ret h=>exact fun k=>.ret fun s hs=>h s (k s hs)
 | bump h=>exact fun k=>.bump fun s hs=>h s (k s hs)
 | put h=>exact fun k=>.put fun s hs=>h s (k s hs)
 | gZ h=>exact fun k=>.gZ fun s hs=>h s (k s hs)
 | seq h1 h2 i1 i2=>exact fun k=>.seq (i1 k) h2
 | node h i=>exact fun k=>.node (i k)
 | wrap h i=>exact fun k=>.wrap (i k)
 | ite h1 h2 i1 i2=>exact fun k=>.ite (i1 fun s hs=>⟨k s hs.1,hs.2⟩) (i2 fun s hs=>⟨k s hs.1,hs.2⟩)
 | yV h h1 h2 i i1 i2=>exact fun k=>.yV (i k) h1 h2
 | prog h h1 h2 i i1 i2=>exact fun k=>.prog (i k) (i1 k) h2
 | Ch h h1 h2 i i2=>exact fun k=>.Ch (i k) (fun s hs=>h1 s (k s hs)) h2
 | dH h ht hq i=>exact fun k=>.dH h ht hq
 | call h hq=>exact fun k=>.call (fun e s hs=>h e s (k s hs)) hq
abbrev two:Bool→Pr:=fun r s=>r=true→∃a b q,s=a::b::q
end Pm
end

section
namespace ep
open Go Pm
theorem wQ (p:UInt8→Bool)(l:List UInt8):∀c∈l.take (fJ p l),p c=true:=by
 have e:l.take (fJ p l)=l.takeWhile p:=by
  unfold fJ
  conv=>lhs;arg 2;rw[←List.takeWhile_append_dropWhile (p:=p) (l:=l)]
  rw[List.take_left]
 rw[e]
 exact fun c hc=>List.all_eq_true.1 List.all_takeWhile c hc
end ep
end

section
namespace Pm
inductive oH:List Tok→List az→List Tok→Prop
 | done (ts:List Tok) (h:(pk ts).1=100):oH ts [] ts
 | step {ts t1 t':List Tok} {x:az} {es:List az} {b:Bool} (h:(pk ts).1≠100) (hi:bP my ts [] b t1 [x]) (hr:oH t1 es t'):oH ts (x::es) t'
theorem Hv {ts:List Tok}{es:List az}{t':List Tok}(h:oH ts es t'):∀{es2:List az}{t2:List Tok},oH ts es2 t2→es=es2∧t'=t2:=by
 induction h with
 | done ts h =>
  intro es2 t2 h2
  cases h2 with
  | done=>exact⟨rfl,rfl⟩
  | step h'=>exact absurd h h'
 | step h hi hr ih =>
  intro es2 t2 h2
  cases h2 with
  | done _ h'=>exact absurd h' h
  | step h' hi' hr' =>
   obtain⟨-,rfl,e⟩:=na hi hi'
   cases e
   obtain⟨rfl,rfl⟩:=ih hr'
   exact⟨rfl,rfl⟩
abbrev bl (ts:List Tok):Nat:=(j7 ts).length
theorem Qn (t:Tok)(ts:List Tok):bl (t::ts)=t.2.length+bl ts:=by unfold bl;rw[j7,List.length_append]
def yd (a:Nat):Nat→List Tok→Nat
 | _,[]=>0
 | o,t::r=>if o+t.2.length<a then yd a (o+t.2.length) r+1 else 0
theorem ye {a:Nat}:∀{P r:List Tok}{o:Nat},o+bl P<a→yd a o (P++r)=P.length+yd a (o+bl P) r
 | [],r,o,h=>by rw[List.nil_append,List.length_nil,Nat.zero_add];rfl
 | t::P,r,o,h=>by
  rw[Qn]at h ⊢
  rw[List.cons_append,yd,if_pos (by omega),ye (by omega),List.length_cons]
  rw[Nat.add_assoc o];omega
def Ed (a o:Nat)(ts us:List Tok):Prop:=∃u,us=ts.take (yd a o ts)++u
theorem Ed.cut {a o:Nat}{P r us:List Tok}(h:Ed a o (P++r) us)(hb:o+bl P<a):∃v,us=P++v∧Ed a (o+bl P) r v:=by
 obtain⟨u,rfl⟩:=h
 rw[ye hb]
 refine⟨r.take (yd a (o+bl P) r)++u,?_,u,rfl⟩
 rw[List.take_length_add_append,List.append_assoc]
end Pm
end
