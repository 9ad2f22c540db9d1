/- ParL, ParS8, ParS9, ParT, ParT2, ParT3, ParU, ParV, ParV2, ParV3, ParV4, ParV5 -/
import Derived.Test.YtndfoijecakkfaaGreatDoorE
set_option linter.all false
set_option maxRecDepth 100000
set_option maxHeartbeats 2000000

section
namespace ParF
open Go Go.Abs Go.Proofs Pm
theorem rL {ts:List Tok}{n:Nat}(hn:ts.length+20≤n){P:Nat}{s:ag}{rest:List Tok}{base:List Lv}{k:Nat}{cs:List az}{J:List Nat}(h:PR ts P s rest base k cs J) :
  ∃sp s2 L,ab Tryz.prog (den C n) 98 [.ref P 0] s=some (nh (pk rest),sp)∧aB 2 (sp++[(147,[I 0,.str []])]) (.ref sp.length 0) (nh (pk rest))=some s2∧PR ts P s2 rest base k cs J∧Ex s s2 J J ∧
   s2[L]?=some (147,[I (pk rest).1,.str (pk rest).2])∧L<s2.length∧L∉J∧L=sp.length:=by
 have h':=h
 obtain⟨pos,i,rfl,h⟩:=h
 obtain⟨tk,st,r⟩:=h.xw
 obtain⟨t,e⟩:=kb r (n:=n) (by omega)
 have dZ:aB 2 (s++t++[(147,[I 0,.str []])]) (.ref (s++t).length 0) (nh (pk (ts.drop pos)))=some (s++t++[(147,[I (pk (ts.drop pos)).1,.str (pk (ts.drop pos)).2])]):=by
  rw[ParF.st (o:=0) (n:=2) (v:=nh (pk (ts.drop pos))) aW (by decide) rfl rfl (by show 0+2≤2;omega),eG];rfl
 refine⟨s++t,_,(s++t).length,e,dZ,(h'.app t).app _,((Ex.app s t J).trans (Ex.app _ _ J)),aW,by rw[aP];omega,fun hm=>?_,rfl⟩
 have:=h.lt _ hm
 rw[bJ]at this
 omega
theorem qG {ts:List Tok}(xs:List Bytes)(hl:xs.length<50){n:Nat}(hn:ts.length+130≤n){P:Nat}{s:ag}{rest:List Tok}{base:List Lv}{k:Nat}{cs:List az}{J:List Nat}(h:PR ts P s rest base k cs J) :
  ∃s1 P1 s2,ab Tryz.prog (den C n) 100 [.ref P 0] s=some (.ref P1 0,s1)∧ab Tryz.prog (den C n) 99 [.ref P1 0,strs xs] s1=some (.bool (eN xs (pk (la rest))),s2)∧PR ts P s2 rest base k cs J∧Ex s s2 J J:=by
 have h':=h
 obtain⟨pos,i,rfl,h⟩:=h
 obtain⟨tk,st,r⟩:=h.xw
 obtain⟨t,P1,qC,Ml,st1,e1,r1,d1⟩:=np r (n:=n) (by omega)
 obtain⟨t2,e2⟩:=cN (ts:=ts) xs hl n (by omega) P1 (s++t) qC Ml st1 r1
 dsimp only at e2
 rw[d1]at e2
 exact⟨_,P1,_,e1,e2,(h'.app t).app t2,(Ex.app s t J).trans (Ex.app _ _ J)⟩
theorem OO {ts:List Tok}{n:Nat}(hn:ts.length+130≤n){P:Nat}{s:ag}{rest:List Tok}{base:List Lv}{k:Nat}{cs:List az}{J:List Nat}(h:PR ts P s rest base k cs J) :
  ∃s1 P1 s2,ab Tryz.prog (den C n) 100 [.ref P 0] s=some (.ref P1 0,s1)∧ab Tryz.prog (den C n) 176 [.ref P1 0] s1=some (.bool ((pk (la rest)).1==103),s2)∧PR ts P s2 rest base k cs J∧Ex s s2 J J:=by
 have h':=h
 obtain⟨pos,i,rfl,h⟩:=h
 obtain⟨tk,st,r⟩:=h.xw
 obtain⟨t,P1,qC,Ml,st1,e1,r1,d1⟩:=np r (n:=n) (by omega)
 obtain⟨t2,e2⟩:=dE ts n (by omega) P1 (s++t) qC Ml st1 r1
 dsimp only at e2
 rw[d1]at e2
 exact⟨_,P1,_,e1,e2,(h'.app t).app t2,(Ex.app s t J).trans (Ex.app _ _ J)⟩
theorem GU {ts:List Tok}{n:Nat}(hn:ts.length+130≤n){P:Nat}{s:ag}{rest:List Tok}{base:List Lv}{k:Nat}{cs:List az}{J:List Nat}(h:PR ts P s rest base k cs J) :
  ∃s1 P1 s2 s3 P2 s4,ab Tryz.prog (den C n) 100 [.ref P 0] s=some (.ref P1 0,s1)∧ab Tryz.prog (den C n) 176 [.ref P1 0] s1=some (.bool ((pk (la rest)).1==103),s2) ∧
   ab Tryz.prog (den C n) 100 [.ref P1 0] s2=some (.ref P2 0,s3)∧ab Tryz.prog (den C n) 99 [.ref P2 0,strs [cC]] s3=some (.bool (eN [cC] (pk (la (la rest)))),s4)∧PR ts P s4 rest base k cs J∧Ex s s4 J J:=by
 have h':=h
 obtain⟨pos,i,rfl,h⟩:=h
 obtain⟨tk,st,r⟩:=h.xw
 obtain⟨t,P1,qC,Ml,st1,e1,r1,d1⟩:=np r (n:=n) (by omega)
 obtain⟨t2,e2⟩:=dE ts n (by omega) P1 (s++t) qC Ml st1 r1
 obtain⟨t3,P2,Tt,tk2,st2,e3,r2,d2⟩:=np (r1.app t2) (n:=n) (by omega)
 obtain⟨t4,e4⟩:=cN (ts:=ts) [cC] (by decide) n (by omega) P2 (s++t++t2++t3) Tt tk2 st2 r2
 dsimp only at e2 e4
 rw[d1]at e2 d2
 rw[d2]at e4
 exact⟨_,P1,_,_,P2,_,e1,e2,e3,e4,(((h'.app t).app t2).app t3).app t4,(((Ex.app s t J).trans (Ex.app _ _ J)).trans (Ex.app _ _ J)).trans (Ex.app _ _ J)⟩
theorem JL (l:Nat)(hl:l≤4):AN 1 209 [I l] (strs (iB l)):=by
 refine .intro (N:=0) XX rfl (by rw[cE,cR]) fun n _=>⟨[],?_⟩
 rw[NT]
 match l with
 | 0=>rfl
 | 1=>rfl
 | 2=>rfl
 | 3=>rfl
 | 4=>rfl
 | n+5=>omega
end ParF
end

section
namespace ParF
open Go Go.Abs Go.Proofs Pm
theorem ab0 {ts:List Tok}{m:Nat}(H:∀k<m,cd ts k):eK ts m (.seq .bump c_) vd (ef 249 fun P=>[.box [.ref P 0] 0]):=by
 intro n hn P s rest base k cs J b rest' bY h hr hb
 obtain⟨n,rfl⟩:∃j,n=j+1:=⟨n-1,by omega⟩
 obtain⟨m1,b1,t1,c1,hm1,dA,bG,hz1⟩:=ay hr
 obtain⟨s2,J2,q2,p2,x2⟩:=(aX ts m1) n (by omega) P s rest base k cs J b1 t1 c1 h dA (by omega)
 have e2:ab Tryz.prog (den C n) 106 [.ref P 0] s=some (.aI [],s2):=q2
 obtain⟨s3,J3,q3,p3,x3⟩:=(dt ts m1) n (by omega) P s2 t1 base k c1 J2 b rest' bY p2 bG (by omega)
 have e3:ab Tryz.prog (den C n) 146 [.ref P 0] s2=some (.aI [],s3):=q3
 refine⟨s3,J3,?_,p3,(x2.trans x3)⟩
 show ab Tryz.prog (den C (n+1)) 249 [.box [.ref P 0] 0] s=_
 rw[aF Yr (dF ..),Oi,Yq]
 simp -implicitDefEqProofs only[sL,cD,cW,cT,aj,aq,ax,ar,av,e2,e3]
theorem OP {ts:List Tok}{m:Nat}(H:∀k<m,cd ts k):eK ts m (.seq (iT false) (sw [cC] (gf gY (.call 5)))) vd (ef 250 fun P=>[.box [.ref P 0] 0]):=by
 intro n hn P s rest base k cs J b rest' bY h hr hb
 obtain⟨n,rfl⟩:∃j,n=j+1:=⟨n-1,by omega⟩
 obtain⟨m1,b1,t1,c1,hm1,dA,bG,hz1⟩:=ay hr
 obtain⟨s2,J2,q2,p2,x2⟩:=(GN (ts:=ts) (m:=m1) false (fun k hk=>H k (by omega))) n (by omega) P s rest base k cs J b1 t1 c1 h dA (by omega)
 have e2:ab Tryz.prog (den C n) 185 [.ref P 0,.bool false] s=some (.aI [],s2):=q2
 obtain⟨m3,mz,Cj⟩:=aO bG
 rcases Cj with ⟨o_,hr3⟩|⟨o_,hr3⟩
 ·obtain⟨m4,b4,t4,c4,GM,JF,kL,V5⟩:=ay hr3
  obtain⟨s4,J4,q4,p4,x4⟩:=eO [cC] (by decide:1<50) (n:=n) (by omega) p2 o_ JF (by omega)
  have e4:ab Tryz.prog (den C n) 105 [.ref P 0,.sl 9 1 [.str [40]] .sh] s2=some (.bool true,s4):=q4
  obtain⟨s5,J5,q5,p5,x5⟩:=(eT (ts:=ts) (m:=m4) gY (v:=fun P=>.fn 235 [.ref P 0] []) (fun _=>rfl) (fun k hk=>(H k (by omega)).pa)) n (by omega) P s4 t4 base k c4 J4 b rest' bY p4 kL (by omega)
  have e5:ab Tryz.prog (den C n) 174 [.ref P 0,.str [41],.fn 235 [.ref P 0] []] s4=some (.aI [],s5):=q5
  refine⟨s5,J5,?_,p5,((x2.trans x4).trans x5)⟩
  show ab Tryz.prog (den C (n+1)) 250 [.box [.ref P 0] 0] s=_
  rw[aF Q2 (dF ..),EP,S']
  simp -implicitDefEqProofs only[sL,cD,cW,cT,aj,aq,ax,ar,av,e2,e4,e5]
 ·obtain⟨s6,q6,p6,x6⟩:=gk [cC] (by decide:1<50) (n:=n) (by omega) p2 o_
  have e6:ab Tryz.prog (den C n) 105 [.ref P 0,.sl 9 1 [.str [40]] .sh] s2=some (.bool false,s6):=q6
  obtain⟨hb7,rfl,rfl⟩:=bM hr3
  refine⟨s6,J2,?_,p6,(x2.trans x6)⟩
  show ab Tryz.prog (den C (n+1)) 250 [.box [.ref P 0] 0] s=_
  rw[aF Q2 (dF ..),EP,S']
  simp -implicitDefEqProofs only[sL,cD,cW,cT,aj,aq,ax,ar,av,e2,e6]
theorem ab1 {ts:List Tok}{m:Nat}(H:∀k<m,cd ts k):eK ts m (va) vd (ef 235 fun P=>[.ref P 0]):=by
 intro n hn P s rest base k cs J b rest' bY h hr hb
 obtain⟨n,rfl⟩:∃j,n=j+1:=⟨n-1,by omega⟩
 obtain⟨sp,s1,L,qp,qs,p1,x1,TF,JM,qH,YX⟩:=rL (n:=n) (by omega) h
 subst YX
 obtain⟨s2,q2,p2,x2⟩:=(cN (ts:=ts) [mF] (by decide:1<50)).use (n:=n) (by omega) p1
 have Re:=(x2.fr sp.length JM qH).trans TF
 have hlt2:=Nat.lt_of_lt_of_le JM x2.len
 obtain⟨m2,hm2,TD⟩:=aO hr
 rcases TD with ⟨zg,hr2⟩|⟨zg,hr2⟩
 ·have e2:ab Tryz.prog (den C n) 99 [.ref P 0,.sl 9 1 [.str [109,117,116]] .sh] s1=some (.bool true,s2):=by rw[←zg];exact q2
  obtain⟨s3,J3,q3,p3,x3⟩:=(aR (ts:=ts) (m:=m2) (k:=44) (v:=fun P=>.fn 249 [] [.box [.ref P 0] 0]) (fun _=>rfl) (fun k hk=>ab0 (fun k hk=>H k (by omega)))) n (by omega) P s2 rest base k cs J b rest' bY p2 hr2 (by omega)
  have e3:ab Tryz.prog (den C n) 103 [.ref P 0,.int .i64 44,.fn 249 [] [.box [.ref P 0] 0]] s2=some (.aI [],s3):=q3
  refine⟨s3,J3,?_,p3,((x1.trans x2).trans x3)⟩
  show ab Tryz.prog (den C (n+1)) 235 [.ref P 0] s=_
  rw[aF gH (a7 ..),dI,kU]
  simp -implicitDefEqProofs only[sL,cD,cW,cT,aj,aq,ax,ar,av,dx,qp,cz,qs,e2,e3]
 ·have e2:ab Tryz.prog (den C n) 99 [.ref P 0,.sl 9 1 [.str [109,117,116]] .sh] s1=some (.bool false,s2):=by rw[←zg];exact q2
  obtain⟨s4,q4,p4,x4⟩:=(dE ts).use (n:=n) (by omega) p2
  have Ds:=(x4.fr sp.length hlt2 qH).trans Re
  have OQ:=Nat.lt_of_lt_of_le hlt2 x4.len
  have l4:af false false 1 (.ref sp.length 1) s4=some (.str (pk rest).2,s4):=ld (o:=1) Ds (by decide) rfl (by decide)
  obtain⟨m4,GM,H7⟩:=aO hr2
  cases hi4:ev xj rest with
  | false =>
   have e4:ab Tryz.prog (den C n) 176 [.ref P 0] s2=some (.bool false,s4):=by rw[←hi4];exact q4
   have GV:((pk rest).1==103)=false:=hi4
   rcases H7 with ⟨sC,kL⟩|⟨sC,kL⟩
   ·have OK:((pk rest).1==103&&(pk rest).2==yT)=true:=sC
    rw[GV,Bool.false_and]at OK;cases OK
   ·skip
    obtain⟨s5,q5,p5,x5⟩:=(dE ts).use (n:=n) (by omega) p4
    have hL5:=(x5.fr sp.length OQ qH).trans Ds
    have OR:=Nat.lt_of_lt_of_le OQ x5.len
    obtain⟨m5,xA,ho5⟩:=aO kL
    cases YY:((pk rest).1==103) with
    | false =>
     have e5:ab Tryz.prog (den C n) 176 [.ref P 0] s4=some (.bool false,s5):=by rw[←YY];exact q5
     rcases ho5 with ⟨Mq,il⟩|⟨Mq,il⟩
     ·have Mv:(((pk rest).1==103)&&!eN [cC,df] (pk (la rest)))=true:=Mq
      rw[YY,Bool.false_and]at Mv;cases Mv
     ·skip
      obtain⟨s7,q7,p7,x7⟩:=(dE ts).use (n:=n) (by omega) p5
      have hL7:=(x7.fr sp.length OR qH).trans hL5
      have YZ:=Nat.lt_of_lt_of_le OR x7.len
      obtain⟨m7,Rb,ho7⟩:=aO il
      rcases ho7 with ⟨TG,oG⟩|⟨TG,oG⟩
      ·have e7:ab Tryz.prog (den C n) 176 [.ref P 0] s5=some (.bool true,s7):=by rw[←TG];exact q7
       obtain⟨s8,J8,q8,p8,x8⟩:=(aR (ts:=ts) (m:=m7) (k:=45) (v:=fun P=>.fn 250 [] [.box [.ref P 0] 0]) (fun _=>rfl) (fun k hk=>OP (fun k hk=>H k (by omega)))) n (by omega) P s7 rest base k cs J b rest' bY p7 oG (by omega)
       have e8:ab Tryz.prog (den C n) 103 [.ref P 0,.int .i64 45,.fn 250 [] [.box [.ref P 0] 0]] s7=some (.aI [],s8):=q8
       refine⟨s8,J8,?_,p8,(((((x1.trans x2).trans x4).trans x5).trans x7).trans x8)⟩
       show ab Tryz.prog (den C (n+1)) 235 [.ref P 0] s=_
       rw[aF gH (a7 ..),dI,kU]
       simp -implicitDefEqProofs only[sL,cD,cW,cT,aj,aq,ax,ar,av,dx,qp,cz,qs,e2,e4,e5,e7,e8]
      ·have e7:ab Tryz.prog (den C n) 176 [.ref P 0] s5=some (.bool false,s7):=by rw[←TG];exact q7
       have l9:af false false 1 (.ref sp.length 0) s7=some (I (pk rest).1,s7):=ld (o:=0) hL7 (by decide) rfl (by decide)
       obtain⟨m9,Ms,ho9⟩:=aO oG
       rcases ho9 with ⟨hc9,xB⟩|⟨hc9,xB⟩
       ·have e9:(((pk rest).1:Int)==105)=true:=(dJ _ 105).trans hc9
        obtain⟨s10,wM,oF,qD,rK⟩:=(aR (ts:=ts) (m:=m9) (k:=27) (v:=fun P=>.fn 106 [.ref P 0] []) (fun _=>rfl) (fun k hk=>aX ts k)) n (by omega) P s7 rest base k cs J b rest' bY p7 xB (by omega)
        have mQ:ab Tryz.prog (den C n) 103 [.ref P 0,.int .i64 27,.fn 106 [.ref P 0] []] s7=some (.aI [],s10):=oF
        refine⟨s10,wM,?_,qD,(((((x1.trans x2).trans x4).trans x5).trans x7).trans rK)⟩
        show ab Tryz.prog (den C (n+1)) 235 [.ref P 0] s=_
        rw[aF gH (a7 ..),dI,kU]
        simp -implicitDefEqProofs only[sL,cD,cW,cT,aj,aq,ax,ar,av,dx,qp,cz,qs,e2,e4,e5,e7,l9,e9,mQ]
       ·have e9:(((pk rest).1:Int)==105)=false:=(dJ _ 105).trans hc9
        obtain⟨s11,zZ,z_,xC⟩:=(cN (ts:=ts) [iS,iA] (by decide:2<50)).use (n:=n) (by omega) p7
        have Y0:=(xC.fr sp.length YZ qH).trans hL7
        have aea:=Nat.lt_of_lt_of_le YZ xC.len
        obtain⟨m11,Ty,Bf⟩:=aO xB
        rcases Bf with ⟨qE,qF⟩|⟨qE,qF⟩
        ·have wN:ab Tryz.prog (den C n) 99 [.ref P 0,.sl 9 1 [.str [116,114,117,101],.str [102,97,108,115,101]] .sh] s7=some (.bool true,s11):=by rw[←qE];exact zZ
         obtain⟨s12,TA,GQ,Mt,GR⟩:=(aR (ts:=ts) (m:=m11) (k:=28) (v:=fun P=>.fn 106 [.ref P 0] []) (fun _=>rfl) (fun k hk=>aX ts k)) n (by omega) P s11 rest base k cs J b rest' bY z_ qF (by omega)
         have vx:ab Tryz.prog (den C n) 103 [.ref P 0,.int .i64 28,.fn 106 [.ref P 0] []] s11=some (.aI [],s12):=GQ
         refine⟨s12,TA,?_,Mt,((((((x1.trans x2).trans x4).trans x5).trans x7).trans xC).trans GR)⟩
         show ab Tryz.prog (den C (n+1)) 235 [.ref P 0] s=_
         rw[aF gH (a7 ..),dI,kU]
         simp -implicitDefEqProofs only[sL,cD,cW,cT,aj,aq,ax,ar,av,dx,qp,cz,qs,e2,e4,e5,e7,l9,e9,wN,vx]
        ·have wN:ab Tryz.prog (den C n) 99 [.ref P 0,.sl 9 1 [.str [116,114,117,101],.str [102,97,108,115,101]] .sh] s7=some (.bool false,s11):=by rw[←qE];exact zZ
         obtain⟨s13,J13,ON,YS,TB⟩:=((ga ts m11).1) n (by omega) P s11 rest base k cs J b rest' bY z_ qF (by omega)
         have xD:ab Tryz.prog (den C n) 186 [.ref P 0] s11=some (.aI [],s13):=ON
         refine⟨s13,J13,?_,YS,((((((x1.trans x2).trans x4).trans x5).trans x7).trans xC).trans TB)⟩
         show ab Tryz.prog (den C (n+1)) 235 [.ref P 0] s=_
         rw[aF gH (a7 ..),dI,kU]
         simp -implicitDefEqProofs only[sL,cD,cW,cT,aj,aq,ax,ar,av,dx,qp,cz,qs,e2,e4,e5,e7,l9,e9,wN,xD]
    | true =>
     have e5:ab Tryz.prog (den C n) 176 [.ref P 0] s4=some (.bool true,s5):=by rw[←YY];exact q5
     obtain⟨sx6,Px6,s6,Y1,q6,p6,x6⟩:=qG [cC,df] (by decide:2<50) (n:=n) (by omega) p5
     have TH:=(x6.fr sp.length OR qH).trans hL5
     have JN:=Nat.lt_of_lt_of_le OR x6.len
     rcases ho5 with ⟨Mq,il⟩|⟨Mq,il⟩
     ·have Mv:(((pk rest).1==103)&&!eN [cC,df] (pk (la rest)))=true:=Mq
      rw[YY,Bool.true_and]at Mv
      rw[Bool.not_eq_true']at Mv
      have e6:ab Tryz.prog (den C n) 99 [.ref Px6 0,.sl 9 1 [.str [40],.str [58,58]] .sh] sx6=some (.bool false,s6):=by rw[←Mv];exact q6
      obtain⟨s14,J14,Mu,YT,YU⟩:=(aR (ts:=ts) (m:=m5) (k:=44) (v:=fun P=>.fn 106 [.ref P 0] []) (fun _=>rfl) (fun k hk=>aX ts k)) n (by omega) P s6 rest base k cs J b rest' bY p6 il (by omega)
      have E5:ab Tryz.prog (den C n) 103 [.ref P 0,.int .i64 44,.fn 106 [.ref P 0] []] s6=some (.aI [],s14):=Mu
      refine⟨s14,J14,?_,YT,(((((x1.trans x2).trans x4).trans x5).trans x6).trans YU)⟩
      show ab Tryz.prog (den C (n+1)) 235 [.ref P 0] s=_
      rw[aF gH (a7 ..),dI,kU]
      simp -implicitDefEqProofs only[sL,cD,cW,cT,aj,aq,ax,ar,av,dx,qp,cz,qs,e2,e4,e5,Y1,e6,E5]
     ·have Mv:(((pk rest).1==103)&&!eN [cC,df] (pk (la rest)))=false:=Mq
      rw[YY,Bool.true_and]at Mv
      rw[Bool.not_eq_false']at Mv
      have e6:ab Tryz.prog (den C n) 99 [.ref Px6 0,.sl 9 1 [.str [40],.str [58,58]] .sh] sx6=some (.bool true,s6):=by rw[←Mv];exact q6
      obtain⟨s15,q15,YV,Rc⟩:=(dE ts).use (n:=n) (by omega) p6
      have Y2:=(Rc.fr sp.length JN qH).trans TH
      have Rf:=Nat.lt_of_lt_of_le JN Rc.len
      obtain⟨m15,aek,ab2⟩:=aO il
      rcases ab2 with ⟨TI,TJ⟩|⟨TI,TJ⟩
      ·have GS:ab Tryz.prog (den C n) 176 [.ref P 0] s6=some (.bool true,s15):=by rw[←TI];exact q15
       obtain⟨s16,J16,q16,p16,JO⟩:=(aR (ts:=ts) (m:=m15) (k:=45) (v:=fun P=>.fn 250 [] [.box [.ref P 0] 0]) (fun _=>rfl) (fun k hk=>OP (fun k hk=>H k (by omega)))) n (by omega) P s15 rest base k cs J b rest' bY YV TJ (by omega)
       have Dt:ab Tryz.prog (den C n) 103 [.ref P 0,.int .i64 45,.fn 250 [] [.box [.ref P 0] 0]] s15=some (.aI [],s16):=q16
       refine⟨s16,J16,?_,p16,((((((x1.trans x2).trans x4).trans x5).trans x6).trans Rc).trans JO)⟩
       show ab Tryz.prog (den C (n+1)) 235 [.ref P 0] s=_
       rw[aF gH (a7 ..),dI,kU]
       simp -implicitDefEqProofs only[sL,cD,cW,cT,aj,aq,ax,ar,av,dx,qp,cz,qs,e2,e4,e5,Y1,e6,GS,Dt]
      ·have GS:ab Tryz.prog (den C n) 176 [.ref P 0] s6=some (.bool false,s15):=by rw[←TI];exact q15
       have l17:af false false 1 (.ref sp.length 0) s15=some (I (pk rest).1,s15):=ld (o:=0) Y2 (by decide) rfl (by decide)
       obtain⟨m17,ael,ab3⟩:=aO TJ
       rcases ab3 with ⟨TK,TL⟩|⟨TK,TL⟩
       ·have V6:(((pk rest).1:Int)==105)=true:=(dJ _ 105).trans TK
        obtain⟨s18,J18,q18,p18,Mw⟩:=(aR (ts:=ts) (m:=m17) (k:=27) (v:=fun P=>.fn 106 [.ref P 0] []) (fun _=>rfl) (fun k hk=>aX ts k)) n (by omega) P s15 rest base k cs J b rest' bY YV TL (by omega)
        have OS:ab Tryz.prog (den C n) 103 [.ref P 0,.int .i64 27,.fn 106 [.ref P 0] []] s15=some (.aI [],s18):=q18
        refine⟨s18,J18,?_,p18,((((((x1.trans x2).trans x4).trans x5).trans x6).trans Rc).trans Mw)⟩
        show ab Tryz.prog (den C (n+1)) 235 [.ref P 0] s=_
        rw[aF gH (a7 ..),dI,kU]
        simp -implicitDefEqProofs only[sL,cD,cW,cT,aj,aq,ax,ar,av,dx,qp,cz,qs,e2,e4,e5,Y1,e6,GS,l17,V6,OS]
       ·have V6:(((pk rest).1:Int)==105)=false:=(dJ _ 105).trans TK
        obtain⟨s19,q19,p19,V7⟩:=(cN (ts:=ts) [iS,iA] (by decide:2<50)).use (n:=n) (by omega) YV
        have aem:=(V7.fr sp.length Rf qH).trans Y2
        have aeb:=Nat.lt_of_lt_of_le Rf V7.len
        obtain⟨m19,aen,ab4⟩:=aO TL
        rcases ab4 with ⟨TM,TN⟩|⟨TM,TN⟩
        ·have GW:ab Tryz.prog (den C n) 99 [.ref P 0,.sl 9 1 [.str [116,114,117,101],.str [102,97,108,115,101]] .sh] s15=some (.bool true,s19):=by rw[←TM];exact q19
         obtain⟨s20,J20,q20,p20,OT⟩:=(aR (ts:=ts) (m:=m19) (k:=28) (v:=fun P=>.fn 106 [.ref P 0] []) (fun _=>rfl) (fun k hk=>aX ts k)) n (by omega) P s19 rest base k cs J b rest' bY p19 TN (by omega)
         have xE:ab Tryz.prog (den C n) 103 [.ref P 0,.int .i64 28,.fn 106 [.ref P 0] []] s19=some (.aI [],s20):=q20
         refine⟨s20,J20,?_,p20,(((((((x1.trans x2).trans x4).trans x5).trans x6).trans Rc).trans V7).trans OT)⟩
         show ab Tryz.prog (den C (n+1)) 235 [.ref P 0] s=_
         rw[aF gH (a7 ..),dI,kU]
         simp -implicitDefEqProofs only[sL,cD,cW,cT,aj,aq,ax,ar,av,dx,qp,cz,qs,e2,e4,e5,Y1,e6,GS,l17,V6,GW,xE]
        ·have GW:ab Tryz.prog (den C n) 99 [.ref P 0,.sl 9 1 [.str [116,114,117,101],.str [102,97,108,115,101]] .sh] s15=some (.bool false,s19):=by rw[←TM];exact q19
         obtain⟨s21,J21,q21,p21,x21⟩:=((ga ts m19).1) n (by omega) P s19 rest base k cs J b rest' bY p19 TN (by omega)
         have Ck:ab Tryz.prog (den C n) 186 [.ref P 0] s19=some (.aI [],s21):=q21
         refine⟨s21,J21,?_,p21,(((((((x1.trans x2).trans x4).trans x5).trans x6).trans Rc).trans V7).trans x21)⟩
         show ab Tryz.prog (den C (n+1)) 235 [.ref P 0] s=_
         rw[aF gH (a7 ..),dI,kU]
         simp -implicitDefEqProofs only[sL,cD,cW,cT,aj,aq,ax,ar,av,dx,qp,cz,qs,e2,e4,e5,Y1,e6,GS,l17,V6,GW,Ck]
  | true =>
   have e4:ab Tryz.prog (den C n) 176 [.ref P 0] s2=some (.bool true,s4):=by rw[←hi4];exact q4
   have GV:((pk rest).1==103)=true:=hi4
   rcases H7 with ⟨sC,kL⟩|⟨sC,kL⟩
   ·have OK:((pk rest).1==103&&(pk rest).2==yT)=true:=sC
    rw[GV,Bool.true_and]at OK
    have JP:((pk rest).2==[95])=true:=OK
    obtain⟨s22,J22,q22,p22,Rg⟩:=(aR (ts:=ts) (m:=m4) (k:=43) (v:=fun P=>.fn 106 [.ref P 0] []) (fun _=>rfl) (fun k hk=>aX ts k)) n (by omega) P s4 rest base k cs J b rest' bY p4 kL (by omega)
    have rc:ab Tryz.prog (den C n) 103 [.ref P 0,.int .i64 43,.fn 106 [.ref P 0] []] s4=some (.aI [],s22):=q22
    refine⟨s22,J22,?_,p22,(((x1.trans x2).trans x4).trans Rg)⟩
    show ab Tryz.prog (den C (n+1)) 235 [.ref P 0] s=_
    rw[aF gH (a7 ..),dI,kU]
    simp -implicitDefEqProofs only[sL,cD,cW,cT,aj,aq,ax,ar,av,dx,qp,cz,qs,e2,e4,l4,JP,rc]
   ·have OK:((pk rest).1==103&&(pk rest).2==yT)=false:=sC
    rw[GV,Bool.true_and]at OK
    have JP:((pk rest).2==[95])=false:=OK
    obtain⟨s23,q23,p23,GX⟩:=(dE ts).use (n:=n) (by omega) p4
    have Y3:=(GX.fr sp.length OQ qH).trans Ds
    have E6:=Nat.lt_of_lt_of_le OQ GX.len
    obtain⟨m23,aeo,Y4⟩:=aO kL
    cases JQ:((pk rest).1==103) with
    | false =>
     have H8:ab Tryz.prog (den C n) 176 [.ref P 0] s4=some (.bool false,s23):=by rw[←JQ];exact q23
     rcases Y4 with ⟨GY,GZ⟩|⟨GY,GZ⟩
     ·have wO:(((pk rest).1==103)&&!eN [cC,df] (pk (la rest)))=true:=GY
      rw[JQ,Bool.false_and]at wO;cases wO
     ·skip
      obtain⟨s25,q25,Y5,Rh⟩:=(dE ts).use (n:=n) (by omega) p23
      have Y6:=(Rh.fr sp.length E6 qH).trans Y3
      have Ri:=Nat.lt_of_lt_of_le E6 Rh.len
      obtain⟨m25,aep,ab5⟩:=aO GZ
      rcases ab5 with ⟨TO,TP⟩|⟨TO,TP⟩
      ·have TQ:ab Tryz.prog (den C n) 176 [.ref P 0] s23=some (.bool true,s25):=by rw[←TO];exact q25
       obtain⟨s26,J26,q26,p26,V8⟩:=(aR (ts:=ts) (m:=m25) (k:=45) (v:=fun P=>.fn 250 [] [.box [.ref P 0] 0]) (fun _=>rfl) (fun k hk=>OP (fun k hk=>H k (by omega)))) n (by omega) P s25 rest base k cs J b rest' bY Y5 TP (by omega)
       have Y7:ab Tryz.prog (den C n) 103 [.ref P 0,.int .i64 45,.fn 250 [] [.box [.ref P 0] 0]] s25=some (.aI [],s26):=q26
       refine⟨s26,J26,?_,p26,(((((x1.trans x2).trans x4).trans GX).trans Rh).trans V8)⟩
       show ab Tryz.prog (den C (n+1)) 235 [.ref P 0] s=_
       rw[aF gH (a7 ..),dI,kU]
       simp -implicitDefEqProofs only[sL,cD,cW,cT,aj,aq,ax,ar,av,dx,qp,cz,qs,e2,e4,l4,JP,H8,TQ,Y7]
      ·have TQ:ab Tryz.prog (den C n) 176 [.ref P 0] s23=some (.bool false,s25):=by rw[←TO];exact q25
       have l27:af false false 1 (.ref sp.length 0) s25=some (I (pk rest).1,s25):=ld (o:=0) Y6 (by decide) rfl (by decide)
       obtain⟨m27,aeq,ab6⟩:=aO TP
       rcases ab6 with ⟨TR,TS⟩|⟨TR,TS⟩
       ·have xF:(((pk rest).1:Int)==105)=true:=(dJ _ 105).trans TR
        obtain⟨s28,J28,q28,p28,x28⟩:=(aR (ts:=ts) (m:=m27) (k:=27) (v:=fun P=>.fn 106 [.ref P 0] []) (fun _=>rfl) (fun k hk=>aX ts k)) n (by omega) P s25 rest base k cs J b rest' bY Y5 TS (by omega)
        have e28:ab Tryz.prog (den C n) 103 [.ref P 0,.int .i64 27,.fn 106 [.ref P 0] []] s25=some (.aI [],s28):=q28
        refine⟨s28,J28,?_,p28,(((((x1.trans x2).trans x4).trans GX).trans Rh).trans x28)⟩
        show ab Tryz.prog (den C (n+1)) 235 [.ref P 0] s=_
        rw[aF gH (a7 ..),dI,kU]
        simp -implicitDefEqProofs only[sL,cD,cW,cT,aj,aq,ax,ar,av,dx,qp,cz,qs,e2,e4,l4,JP,H8,TQ,l27,xF,e28]
       ·have xF:(((pk rest).1:Int)==105)=false:=(dJ _ 105).trans TR
        obtain⟨V9,q29,p29,x29⟩:=(cN (ts:=ts) [iS,iA] (by decide:2<50)).use (n:=n) (by omega) Y5
        have aer:=(x29.fr sp.length Ri qH).trans Y6
        have aec:=Nat.lt_of_lt_of_le Ri x29.len
        obtain⟨m29,aes,ab7⟩:=aO TS
        rcases ab7 with ⟨TT,TU⟩|⟨TT,TU⟩
        ·have e29:ab Tryz.prog (den C n) 99 [.ref P 0,.sl 9 1 [.str [116,114,117,101],.str [102,97,108,115,101]] .sh] s25=some (.bool true,V9):=by rw[←TT];exact q29
         obtain⟨s30,J30,q30,p30,x30⟩:=(aR (ts:=ts) (m:=m29) (k:=28) (v:=fun P=>.fn 106 [.ref P 0] []) (fun _=>rfl) (fun k hk=>aX ts k)) n (by omega) P V9 rest base k cs J b rest' bY p29 TU (by omega)
         have TV:ab Tryz.prog (den C n) 103 [.ref P 0,.int .i64 28,.fn 106 [.ref P 0] []] V9=some (.aI [],s30):=q30
         refine⟨s30,J30,?_,p30,((((((x1.trans x2).trans x4).trans GX).trans Rh).trans x29).trans x30)⟩
         show ab Tryz.prog (den C (n+1)) 235 [.ref P 0] s=_
         rw[aF gH (a7 ..),dI,kU]
         simp -implicitDefEqProofs only[sL,cD,cW,cT,aj,aq,ax,ar,av,dx,qp,cz,qs,e2,e4,l4,JP,H8,TQ,l27,xF,e29,TV]
        ·have e29:ab Tryz.prog (den C n) 99 [.ref P 0,.sl 9 1 [.str [116,114,117,101],.str [102,97,108,115,101]] .sh] s25=some (.bool false,V9):=by rw[←TT];exact q29
         obtain⟨s31,J31,q31,p31,x31⟩:=((ga ts m29).1) n (by omega) P V9 rest base k cs J b rest' bY p29 TU (by omega)
         have Rj:ab Tryz.prog (den C n) 186 [.ref P 0] V9=some (.aI [],s31):=q31
         refine⟨s31,J31,?_,p31,((((((x1.trans x2).trans x4).trans GX).trans Rh).trans x29).trans x31)⟩
         show ab Tryz.prog (den C (n+1)) 235 [.ref P 0] s=_
         rw[aF gH (a7 ..),dI,kU]
         simp -implicitDefEqProofs only[sL,cD,cW,cT,aj,aq,ax,ar,av,dx,qp,cz,qs,e2,e4,l4,JP,H8,TQ,l27,xF,e29,Rj]
    | true =>
     have H8:ab Tryz.prog (den C n) 176 [.ref P 0] s4=some (.bool true,s23):=by rw[←JQ];exact q23
     obtain⟨Y8,Y9,s24,JR,Y_,Y',G0⟩:=qG [cC,df] (by decide:2<50) (n:=n) (by omega) p23
     have TW:=(G0.fr sp.length E6 qH).trans Y3
     have Bg:=Nat.lt_of_lt_of_le E6 G0.len
     rcases Y4 with ⟨GY,GZ⟩|⟨GY,GZ⟩
     ·have wO:(((pk rest).1==103)&&!eN [cC,df] (pk (la rest)))=true:=GY
      rw[JQ,Bool.true_and]at wO
      rw[Bool.not_eq_true']at wO
      have JS:ab Tryz.prog (den C n) 99 [.ref Y9 0,.sl 9 1 [.str [40],.str [58,58]] .sh] Y8=some (.bool false,s24):=by rw[←wO];exact Y_
      obtain⟨s32,J32,q32,p32,x32⟩:=(aR (ts:=ts) (m:=m23) (k:=44) (v:=fun P=>.fn 106 [.ref P 0] []) (fun _=>rfl) (fun k hk=>aX ts k)) n (by omega) P s24 rest base k cs J b rest' bY Y' GZ (by omega)
      have TX:ab Tryz.prog (den C n) 103 [.ref P 0,.int .i64 44,.fn 106 [.ref P 0] []] s24=some (.aI [],s32):=q32
      refine⟨s32,J32,?_,p32,(((((x1.trans x2).trans x4).trans GX).trans G0).trans x32)⟩
      show ab Tryz.prog (den C (n+1)) 235 [.ref P 0] s=_
      rw[aF gH (a7 ..),dI,kU]
      simp -implicitDefEqProofs only[sL,cD,cW,cT,aj,aq,ax,ar,av,dx,qp,cz,qs,e2,e4,l4,JP,H8,JR,JS,TX]
     ·have wO:(((pk rest).1==103)&&!eN [cC,df] (pk (la rest)))=false:=GY
      rw[JQ,Bool.true_and]at wO
      rw[Bool.not_eq_false']at wO
      have JS:ab Tryz.prog (den C n) 99 [.ref Y9 0,.sl 9 1 [.str [40],.str [58,58]] .sh] Y8=some (.bool true,s24):=by rw[←wO];exact Y_
      obtain⟨Mx,q33,p33,V_⟩:=(dE ts).use (n:=n) (by omega) Y'
      have Za:=(V_.fr sp.length Bg qH).trans TW
      have Rk:=Nat.lt_of_lt_of_le Bg V_.len
      obtain⟨m33,aet,ab8⟩:=aO GZ
      rcases ab8 with ⟨TY,TZ⟩|⟨TY,TZ⟩
      ·have Zb:ab Tryz.prog (den C n) 176 [.ref P 0] s24=some (.bool true,Mx):=by rw[←TY];exact q33
       obtain⟨s34,J34,q34,p34,x34⟩:=(aR (ts:=ts) (m:=m33) (k:=45) (v:=fun P=>.fn 250 [] [.box [.ref P 0] 0]) (fun _=>rfl) (fun k hk=>OP (fun k hk=>H k (by omega)))) n (by omega) P Mx rest base k cs J b rest' bY p33 TZ (by omega)
       have e34:ab Tryz.prog (den C n) 103 [.ref P 0,.int .i64 45,.fn 250 [] [.box [.ref P 0] 0]] Mx=some (.aI [],s34):=q34
       refine⟨s34,J34,?_,p34,((((((x1.trans x2).trans x4).trans GX).trans G0).trans V_).trans x34)⟩
       show ab Tryz.prog (den C (n+1)) 235 [.ref P 0] s=_
       rw[aF gH (a7 ..),dI,kU]
       simp -implicitDefEqProofs only[sL,cD,cW,cT,aj,aq,ax,ar,av,dx,qp,cz,qs,e2,e4,l4,JP,H8,JR,JS,Zb,e34]
      ·have Zb:ab Tryz.prog (den C n) 176 [.ref P 0] s24=some (.bool false,Mx):=by rw[←TY];exact q33
       have l35:af false false 1 (.ref sp.length 0) Mx=some (I (pk rest).1,Mx):=ld (o:=0) Za (by decide) rfl (by decide)
       obtain⟨m35,aeu,ab9⟩:=aO TZ
       rcases ab9 with ⟨T0,T1⟩|⟨T0,T1⟩
       ·have e35:(((pk rest).1:Int)==105)=true:=(dJ _ 105).trans T0
        obtain⟨s36,J36,q36,p36,x36⟩:=(aR (ts:=ts) (m:=m35) (k:=27) (v:=fun P=>.fn 106 [.ref P 0] []) (fun _=>rfl) (fun k hk=>aX ts k)) n (by omega) P Mx rest base k cs J b rest' bY p33 T1 (by omega)
        have e36:ab Tryz.prog (den C n) 103 [.ref P 0,.int .i64 27,.fn 106 [.ref P 0] []] Mx=some (.aI [],s36):=q36
        refine⟨s36,J36,?_,p36,((((((x1.trans x2).trans x4).trans GX).trans G0).trans V_).trans x36)⟩
        show ab Tryz.prog (den C (n+1)) 235 [.ref P 0] s=_
        rw[aF gH (a7 ..),dI,kU]
        simp -implicitDefEqProofs only[sL,cD,cW,cT,aj,aq,ax,ar,av,dx,qp,cz,qs,e2,e4,l4,JP,H8,JR,JS,Zb,l35,e35,e36]
       ·have e35:(((pk rest).1:Int)==105)=false:=(dJ _ 105).trans T0
        obtain⟨V',q37,p37,x37⟩:=(cN (ts:=ts) [iS,iA] (by decide:2<50)).use (n:=n) (by omega) p33
        have aev:=(x37.fr sp.length Rk qH).trans Za
        have aed:=Nat.lt_of_lt_of_le Rk x37.len
        obtain⟨m37,aew,ab_⟩:=aO T1
        rcases ab_ with ⟨T2,T3⟩|⟨T2,T3⟩
        ·have e37:ab Tryz.prog (den C n) 99 [.ref P 0,.sl 9 1 [.str [116,114,117,101],.str [102,97,108,115,101]] .sh] Mx=some (.bool true,V'):=by rw[←T2];exact q37
         obtain⟨s38,J38,q38,p38,x38⟩:=(aR (ts:=ts) (m:=m37) (k:=28) (v:=fun P=>.fn 106 [.ref P 0] []) (fun _=>rfl) (fun k hk=>aX ts k)) n (by omega) P V' rest base k cs J b rest' bY p37 T3 (by omega)
         have My:ab Tryz.prog (den C n) 103 [.ref P 0,.int .i64 28,.fn 106 [.ref P 0] []] V'=some (.aI [],s38):=q38
         refine⟨s38,J38,?_,p38,(((((((x1.trans x2).trans x4).trans GX).trans G0).trans V_).trans x37).trans x38)⟩
         show ab Tryz.prog (den C (n+1)) 235 [.ref P 0] s=_
         rw[aF gH (a7 ..),dI,kU]
         simp -implicitDefEqProofs only[sL,cD,cW,cT,aj,aq,ax,ar,av,dx,qp,cz,qs,e2,e4,l4,JP,H8,JR,JS,Zb,l35,e35,e37,My]
        ·have e37:ab Tryz.prog (den C n) 99 [.ref P 0,.sl 9 1 [.str [116,114,117,101],.str [102,97,108,115,101]] .sh] Mx=some (.bool false,V'):=by rw[←T2];exact q37
         obtain⟨s39,J39,q39,p39,x39⟩:=((ga ts m37).1) n (by omega) P V' rest base k cs J b rest' bY p37 T3 (by omega)
         have Wa:ab Tryz.prog (den C n) 186 [.ref P 0] V'=some (.aI [],s39):=q39
         refine⟨s39,J39,?_,p39,(((((((x1.trans x2).trans x4).trans GX).trans G0).trans V_).trans x37).trans x39)⟩
         show ab Tryz.prog (den C (n+1)) 235 [.ref P 0] s=_
         rw[aF gH (a7 ..),dI,kU]
         simp -implicitDefEqProofs only[sL,cD,cW,cT,aj,aq,ax,ar,av,dx,qp,cz,qs,e2,e4,l4,JP,H8,JR,JS,Zb,l35,e35,e37,Wa]
theorem ab' {ts:List Tok}{m:Nat}(H:∀k<m,cd ts k):eK ts m (qk) vd (ef 224 fun P=>[.ref P 0]):=by
 intro n hn P s rest base k cs J b rest' bY h hr hb
 obtain⟨n,rfl⟩:∃j,n=j+1:=⟨n-1,by omega⟩
 obtain⟨sp,s1,L,qp,qs,p1,x1,TF,JM,qH,YX⟩:=rL (n:=n) (by omega) h
 subst YX
 have l2:af false false 1 (.ref sp.length 0) s1=some (I (pk rest).1,s1):=ld (o:=0) TF (by decide) rfl (by decide)
 obtain⟨m2,hm2,TD⟩:=aO hr
 rcases TD with ⟨zg,hr2⟩|⟨zg,hr2⟩
 ·have e2:(((pk rest).1:Int)==105)=true:=(dJ _ 105).trans zg
  obtain⟨s3,J3,q3,p3,x3⟩:=(aR (ts:=ts) (m:=m2) (k:=27) (v:=fun P=>.fn 106 [.ref P 0] []) (fun _=>rfl) (fun k hk=>aX ts k)) n (by omega) P s1 rest base k cs J b rest' bY p1 hr2 (by omega)
  have e3:ab Tryz.prog (den C n) 103 [.ref P 0,.int .i64 27,.fn 106 [.ref P 0] []] s1=some (.aI [],s3):=q3
  refine⟨s3,J3,?_,p3,(x1.trans x3)⟩
  show ab Tryz.prog (den C (n+1)) 224 [.ref P 0] s=_
  rw[aF lq (a7 ..),fZ,qh]
  simp -implicitDefEqProofs only[sL,cD,cW,cT,aj,aq,ax,ar,av,qp,cz,qs,l2,e2,e3]
 ·have e2:(((pk rest).1:Int)==105)=false:=(dJ _ 105).trans zg
  have l4:af false false 1 (.ref sp.length 0) s1=some (I (pk rest).1,s1):=ld (o:=0) TF (by decide) rfl (by decide)
  obtain⟨m4,GM,H7⟩:=aO hr2
  rcases H7 with ⟨sC,kL⟩|⟨sC,kL⟩
  ·have e4:(((pk rest).1:Int)==106)=true:=(dJ _ 106).trans sC
   obtain⟨s5,J5,q5,p5,x5⟩:=(aR (ts:=ts) (m:=m4) (k:=29) (v:=fun P=>.fn 106 [.ref P 0] []) (fun _=>rfl) (fun k hk=>aX ts k)) n (by omega) P s1 rest base k cs J b rest' bY p1 kL (by omega)
   have e5:ab Tryz.prog (den C n) 103 [.ref P 0,.int .i64 29,.fn 106 [.ref P 0] []] s1=some (.aI [],s5):=q5
   refine⟨s5,J5,?_,p5,(x1.trans x5)⟩
   show ab Tryz.prog (den C (n+1)) 224 [.ref P 0] s=_
   rw[aF lq (a7 ..),fZ,qh]
   simp -implicitDefEqProofs only[sL,cD,cW,cT,aj,aq,ax,ar,av,qp,cz,qs,l2,e2,l4,e4,e5]
  ·have e4:(((pk rest).1:Int)==106)=false:=(dJ _ 106).trans sC
   obtain⟨s6,q6,p6,x6⟩:=(cN (ts:=ts) [iS,iA] (by decide:2<50)).use (n:=n) (by omega) p1
   have TH:=(x6.fr sp.length JM qH).trans TF
   have JN:=Nat.lt_of_lt_of_le JM x6.len
   obtain⟨m6,hm6,ho6⟩:=aO kL
   rcases ho6 with ⟨JD,Be⟩|⟨JD,Be⟩
   ·have e6:ab Tryz.prog (den C n) 99 [.ref P 0,.sl 9 1 [.str [116,114,117,101],.str [102,97,108,115,101]] .sh] s1=some (.bool true,s6):=by rw[←JD];exact q6
    obtain⟨s7,J7,q7,p7,x7⟩:=(aR (ts:=ts) (m:=m6) (k:=28) (v:=fun P=>.fn 106 [.ref P 0] []) (fun _=>rfl) (fun k hk=>aX ts k)) n (by omega) P s6 rest base k cs J b rest' bY p6 Be (by omega)
    have e7:ab Tryz.prog (den C n) 103 [.ref P 0,.int .i64 28,.fn 106 [.ref P 0] []] s6=some (.aI [],s7):=q7
    refine⟨s7,J7,?_,p7,((x1.trans x6).trans x7)⟩
    show ab Tryz.prog (den C (n+1)) 224 [.ref P 0] s=_
    rw[aF lq (a7 ..),fZ,qh]
    simp -implicitDefEqProofs only[sL,cD,cW,cT,aj,aq,ax,ar,av,qp,cz,qs,l2,e2,l4,e4,e6,e7]
   ·have e6:ab Tryz.prog (den C n) 99 [.ref P 0,.sl 9 1 [.str [116,114,117,101],.str [102,97,108,115,101]] .sh] s1=some (.bool false,s6):=by rw[←JD];exact q6
    have l8:af false false 1 (.ref sp.length 0) s6=some (I (pk rest).1,s6):=ld (o:=0) TH (by decide) rfl (by decide)
    obtain⟨m8,hm8,ho8⟩:=aO Be
    rcases ho8 with ⟨hc8,Aa⟩|⟨hc8,Aa⟩
    ·have e8:(((pk rest).1:Int)==103)=true:=(dJ _ 103).trans hc8
     obtain⟨m9,b9,t9,c9,Ms,JI,xB,Tx⟩:=ay Aa
     obtain⟨s10,wM,oF,qD,rK⟩:=(GN (ts:=ts) (m:=m9) false (fun k hk=>H k (by omega))) n (by omega) P s6 rest base k cs J b9 t9 c9 p6 JI (by omega)
     have mQ:ab Tryz.prog (den C n) 185 [.ref P 0,.bool false] s6=some (.aI [],s10):=oF
     obtain⟨s11,zZ,z_,xC⟩:=(cN (ts:=ts) [qi] (by decide:1<50)).use (n:=n) (by omega) qD
     obtain⟨m11,Ty,Bf⟩:=aO xB
     cases JT:eN [qi] (pk t9) with
     | false =>
      have wN:ab Tryz.prog (den C n) 99 [.ref P 0,.sl 9 1 [.str [33]] .sh] s10=some (.bool false,s11):=by rw[←JT];exact zZ
      rcases Bf with ⟨qE,qF⟩|⟨qE,qF⟩
      ·have Bh:(eN [qi] (pk t9)&&eN [cC] (pk (la t9)))=true:=qE
       rw[JT,Bool.false_and]at Bh;cases Bh
      ·skip
       obtain⟨aex,rfl,rfl⟩:=bM qF
       refine⟨s11,wM,?_,z_,(((x1.trans x6).trans rK).trans xC)⟩
       show ab Tryz.prog (den C (n+1)) 224 [.ref P 0] s=_
       rw[aF lq (a7 ..),fZ,qh]
       simp -implicitDefEqProofs only[sL,cD,cW,cT,aj,aq,ax,ar,av,qp,cz,qs,l2,e2,l4,e4,e6,l8,e8,mQ,wN]
     | true =>
      have wN:ab Tryz.prog (den C n) 99 [.ref P 0,.sl 9 1 [.str [33]] .sh] s10=some (.bool true,s11):=by rw[←JT];exact zZ
      obtain⟨Zc,Zd,s12,Ze,GQ,Mt,GR⟩:=qG [cC] (by decide:1<50) (n:=n) (by omega) z_
      rcases Bf with ⟨qE,qF⟩|⟨qE,qF⟩
      ·have Bh:(eN [qi] (pk t9)&&eN [cC] (pk (la t9)))=true:=qE
       rw[JT,Bool.true_and]at Bh
       have vx:ab Tryz.prog (den C n) 99 [.ref Zd 0,.sl 9 1 [.str [40]] .sh] Zc=some (.bool true,s12):=by rw[←Bh];exact GQ
       obtain⟨s14,J14,Mu,YT,YU⟩:=(gN (ts:=ts) (m:=m11) (k:=42) (v:=fun P=>.fn 236 [] [.box [.ref P 0] 0]) (fun _=>rfl) (fun k hk=>abK (fun k hk=>H k (by omega)))) n (by omega) P s12 t9 base k c9 wM b rest' bY Mt qF (by omega)
       have E5:ab Tryz.prog (den C n) 210 [.ref P 0,.int .i64 42,.fn 236 [] [.box [.ref P 0] 0]] s12=some (.aI [],s14):=Mu
       refine⟨s14,J14,?_,YT,(((((x1.trans x6).trans rK).trans xC).trans GR).trans YU)⟩
       show ab Tryz.prog (den C (n+1)) 224 [.ref P 0] s=_
       rw[aF lq (a7 ..),fZ,qh]
       simp -implicitDefEqProofs only[sL,cD,cW,cT,aj,aq,ax,ar,av,qp,cz,qs,l2,e2,l4,e4,e6,l8,e8,mQ,wN,Ze,vx,E5]
      ·have Bh:(eN [qi] (pk t9)&&eN [cC] (pk (la t9)))=false:=qE
       rw[JT,Bool.true_and]at Bh
       have vx:ab Tryz.prog (den C n) 99 [.ref Zd 0,.sl 9 1 [.str [40]] .sh] Zc=some (.bool false,s12):=by rw[←Bh];exact GQ
       obtain⟨aey,rfl,rfl⟩:=bM qF
       refine⟨s12,wM,?_,Mt,((((x1.trans x6).trans rK).trans xC).trans GR)⟩
       show ab Tryz.prog (den C (n+1)) 224 [.ref P 0] s=_
       rw[aF lq (a7 ..),fZ,qh]
       simp -implicitDefEqProofs only[sL,cD,cW,cT,aj,aq,ax,ar,av,qp,cz,qs,l2,e2,l4,e4,e6,l8,e8,mQ,wN,Ze,vx]
    ·have e8:(((pk rest).1:Int)==103)=false:=(dJ _ 103).trans hc8
     obtain⟨s16,q16,p16,JO⟩:=(cN (ts:=ts) [cC] (by decide:1<50)).use (n:=n) (by omega) p6
     have aca:=(JO.fr sp.length JN qH).trans TH
     have Rl:=Nat.lt_of_lt_of_le JN JO.len
     obtain⟨m16,aez,acb⟩:=aO Aa
     rcases acb with ⟨T4,T5⟩|⟨T4,T5⟩
     ·have Dt:ab Tryz.prog (den C n) 99 [.ref P 0,.sl 9 1 [.str [40]] .sh] s6=some (.bool true,s16):=by rw[←T4];exact q16
      obtain⟨s17,J17,q17,p17,x17⟩:=(aR (ts:=ts) (m:=m16) (k:=60) (v:=fun P=>.fn 238 [] [.box [.ref P 0] 0]) (fun _=>rfl) (fun k hk=>abM (fun k hk=>H k (by omega)))) n (by omega) P s16 rest base k cs J b rest' bY p16 T5 (by omega)
      have V6:ab Tryz.prog (den C n) 103 [.ref P 0,.int .i64 60,.fn 238 [] [.box [.ref P 0] 0]] s16=some (.aI [],s17):=q17
      refine⟨s17,J17,?_,p17,(((x1.trans x6).trans JO).trans x17)⟩
      show ab Tryz.prog (den C (n+1)) 224 [.ref P 0] s=_
      rw[aF lq (a7 ..),fZ,qh]
      simp -implicitDefEqProofs only[sL,cD,cW,cT,aj,aq,ax,ar,av,qp,cz,qs,l2,e2,l4,e4,e6,l8,e8,Dt,V6]
     ·have Dt:ab Tryz.prog (den C n) 99 [.ref P 0,.sl 9 1 [.str [40]] .sh] s6=some (.bool false,s16):=by rw[←T4];exact q16
      obtain⟨s18,q18,p18,Mw⟩:=(cN (ts:=ts) [j5] (by decide:1<50)).use (n:=n) (by omega) p16
      have acd:=(Mw.fr sp.length Rl qH).trans aca
      have Rm:=Nat.lt_of_lt_of_le Rl Mw.len
      obtain⟨m18,aeA,ace⟩:=aO T5
      rcases ace with ⟨T6,T7⟩|⟨T6,T7⟩
      ·have OS:ab Tryz.prog (den C n) 99 [.ref P 0,.sl 9 1 [.str [123]] .sh] s16=some (.bool true,s18):=by rw[←T6];exact q18
       obtain⟨s19,J19,q19,p19,V7⟩:=((H m18 (by omega)).bl) n (by omega) P s18 rest base k cs J b rest' bY p18 T7 (by omega)
       have GW:ab Tryz.prog (den C n) 173 [.ref P 0] s18=some (.aI [],s19):=q19
       refine⟨s19,J19,?_,p19,((((x1.trans x6).trans JO).trans Mw).trans V7)⟩
       show ab Tryz.prog (den C (n+1)) 224 [.ref P 0] s=_
       rw[aF lq (a7 ..),fZ,qh]
       simp -implicitDefEqProofs only[sL,cD,cW,cT,aj,aq,ax,ar,av,qp,cz,qs,l2,e2,l4,e4,e6,l8,e8,Dt,OS,GW]
      ·have OS:ab Tryz.prog (den C n) 99 [.ref P 0,.sl 9 1 [.str [123]] .sh] s16=some (.bool false,s18):=by rw[←T6];exact q18
       obtain⟨s20,q20,p20,OT⟩:=(cN (ts:=ts) [Mi] (by decide:1<50)).use (n:=n) (by omega) p18
       have acf:=(OT.fr sp.length Rm qH).trans acd
       have Rn:=Nat.lt_of_lt_of_le Rm OT.len
       obtain⟨m20,aeB,acg⟩:=aO T7
       rcases acg with ⟨T8,T9⟩|⟨T8,T9⟩
       ·have xE:ab Tryz.prog (den C n) 99 [.ref P 0,.sl 9 1 [.str [105,102]] .sh] s18=some (.bool true,s20):=by rw[←T8];exact q20
        obtain⟨s21,J21,q21,p21,x21⟩:=((H m20 (by omega)).ix) n (by omega) P s20 rest base k cs J b rest' bY p20 T9 (by omega)
        have Ck:ab Tryz.prog (den C n) 239 [.ref P 0] s20=some (.aI [],s21):=q21
        refine⟨s21,J21,?_,p21,(((((x1.trans x6).trans JO).trans Mw).trans OT).trans x21)⟩
        show ab Tryz.prog (den C (n+1)) 224 [.ref P 0] s=_
        rw[aF lq (a7 ..),fZ,qh]
        simp -implicitDefEqProofs only[sL,cD,cW,cT,aj,aq,ax,ar,av,qp,cz,qs,l2,e2,l4,e4,e6,l8,e8,Dt,OS,xE,Ck]
       ·have xE:ab Tryz.prog (den C n) 99 [.ref P 0,.sl 9 1 [.str [105,102]] .sh] s18=some (.bool false,s20):=by rw[←T8];exact q20
        obtain⟨s22,q22,p22,Rg⟩:=(cN (ts:=ts) [u9] (by decide:1<50)).use (n:=n) (by omega) p20
        have ach:=(Rg.fr sp.length Rn qH).trans acf
        have Ro:=Nat.lt_of_lt_of_le Rn Rg.len
        obtain⟨m22,aeC,aci⟩:=aO T9
        rcases aci with ⟨T_,T'⟩|⟨T_,T'⟩
        ·have rc:ab Tryz.prog (den C n) 99 [.ref P 0,.sl 9 1 [.str [109,97,116,99,104]] .sh] s20=some (.bool true,s22):=by rw[←T_];exact q22
         obtain⟨s23,J23,q23,p23,GX⟩:=(aR (ts:=ts) (m:=m22) (k:=35) (v:=fun P=>.fn 240 [.ref P 0] []) (fun _=>rfl) (fun k hk=>abS (fun k hk=>H k (by omega)))) n (by omega) P s22 rest base k cs J b rest' bY p22 T' (by omega)
         have H8:ab Tryz.prog (den C n) 103 [.ref P 0,.int .i64 35,.fn 240 [.ref P 0] []] s22=some (.aI [],s23):=q23
         refine⟨s23,J23,?_,p23,((((((x1.trans x6).trans JO).trans Mw).trans OT).trans Rg).trans GX)⟩
         show ab Tryz.prog (den C (n+1)) 224 [.ref P 0] s=_
         rw[aF lq (a7 ..),fZ,qh]
         simp -implicitDefEqProofs only[sL,cD,cW,cT,aj,aq,ax,ar,av,qp,cz,qs,l2,e2,l4,e4,e6,l8,e8,Dt,OS,xE,rc,H8]
        ·have rc:ab Tryz.prog (den C n) 99 [.ref P 0,.sl 9 1 [.str [109,97,116,99,104]] .sh] s20=some (.bool false,s22):=by rw[←T_];exact q22
         obtain⟨s24,Y_,Y',G0⟩:=(cN (ts:=ts) [YC] (by decide:1<50)).use (n:=n) (by omega) p22
         have TW:=(G0.fr sp.length Ro qH).trans ach
         have Bg:=Nat.lt_of_lt_of_le Ro G0.len
         obtain⟨m24,aeD,acj⟩:=aO T'
         rcases acj with ⟨Ua,Ub⟩|⟨Ua,Ub⟩
         ·have JS:ab Tryz.prog (den C n) 99 [.ref P 0,.sl 9 1 [.str [110,101,119]] .sh] s22=some (.bool true,s24):=by rw[←Ua];exact Y_
          obtain⟨s25,J25,q25,Y5,Rh⟩:=(aR (ts:=ts) (m:=m24) (k:=33) (v:=fun P=>.fn 241 [.ref P 0] []) (fun _=>rfl) (fun k hk=>abV (fun k hk=>H k (by omega)))) n (by omega) P s24 rest base k cs J b rest' bY Y' Ub (by omega)
          have TQ:ab Tryz.prog (den C n) 103 [.ref P 0,.int .i64 33,.fn 241 [.ref P 0] []] s24=some (.aI [],s25):=q25
          refine⟨s25,J25,?_,Y5,(((((((x1.trans x6).trans JO).trans Mw).trans OT).trans Rg).trans G0).trans Rh)⟩
          show ab Tryz.prog (den C (n+1)) 224 [.ref P 0] s=_
          rw[aF lq (a7 ..),fZ,qh]
          simp -implicitDefEqProofs only[sL,cD,cW,cT,aj,aq,ax,ar,av,qp,cz,qs,l2,e2,l4,e4,e6,l8,e8,Dt,OS,xE,rc,JS,TQ]
         ·have JS:ab Tryz.prog (den C n) 99 [.ref P 0,.sl 9 1 [.str [110,101,119]] .sh] s22=some (.bool false,s24):=by rw[←Ua];exact Y_
          obtain⟨s26,q26,p26,V8⟩:=(cN (ts:=ts) [Jh,nS] (by decide:2<50)).use (n:=n) (by omega) Y'
          have aeE:=(V8.fr sp.length Bg qH).trans TW
          have aee:=Nat.lt_of_lt_of_le Bg V8.len
          obtain⟨m26,aeF,ack⟩:=aO Ub
          rcases ack with ⟨Uc,Ud⟩|⟨Uc,Ud⟩
          ·have Y7:ab Tryz.prog (den C n) 99 [.ref P 0,.sl 9 1 [.str [124],.str [124,124]] .sh] s24=some (.bool true,s26):=by rw[←Uc];exact q26
           obtain⟨s27,J27,q27,p27,x27⟩:=(aR (ts:=ts) (m:=m26) (k:=38) (v:=fun P=>.fn 242 [.ref P 0] []) (fun _=>rfl) (fun k hk=>abX (fun k hk=>H k (by omega)))) n (by omega) P s26 rest base k cs J b rest' bY p26 Ud (by omega)
           have xF:ab Tryz.prog (den C n) 103 [.ref P 0,.int .i64 38,.fn 242 [.ref P 0] []] s26=some (.aI [],s27):=q27
           refine⟨s27,J27,?_,p27,((((((((x1.trans x6).trans JO).trans Mw).trans OT).trans Rg).trans G0).trans V8).trans x27)⟩
           show ab Tryz.prog (den C (n+1)) 224 [.ref P 0] s=_
           rw[aF lq (a7 ..),fZ,qh]
           simp -implicitDefEqProofs only[sL,cD,cW,cT,aj,aq,ax,ar,av,qp,cz,qs,l2,e2,l4,e4,e6,l8,e8,Dt,OS,xE,rc,JS,Y7,xF]
          ·have Y7:ab Tryz.prog (den C n) 99 [.ref P 0,.sl 9 1 [.str [124],.str [124,124]] .sh] s24=some (.bool false,s26):=by rw[←Uc];exact q26
           obtain⟨s28,J28,q28,p28,x28⟩:=((ga ts m26).1) n (by omega) P s26 rest base k cs J b rest' bY p26 Ud (by omega)
           have e28:ab Tryz.prog (den C n) 186 [.ref P 0] s26=some (.aI [],s28):=q28
           refine⟨s28,J28,?_,p28,((((((((x1.trans x6).trans JO).trans Mw).trans OT).trans Rg).trans G0).trans V8).trans x28)⟩
           show ab Tryz.prog (den C (n+1)) 224 [.ref P 0] s=_
           rw[aF lq (a7 ..),fZ,qh]
           simp -implicitDefEqProofs only[sL,cD,cW,cT,aj,aq,ax,ar,av,qp,cz,qs,l2,e2,l4,e4,e6,l8,e8,Dt,OS,xE,rc,JS,Y7,e28]
theorem acl {ts:List Tok}{n P:Nat}:∀(m:Nat),(∀k<m,cd ts k)→m*20+ts.length+110≤n→∀s rest base k cs J b rest' bY,PR ts P s rest base k cs J→run m (.dH (eL [cC,Ot]) (.ite (eL [cC]) (.wrap 30 j_) (.ite (fun _ t u=>t.1==103&&eN [cC] u) (.wrap 31 (.seq .bump (.seq .bump j_))) (.wrap 32 (.seq .bump c_))))) rest cs=some (b,rest',bY)→base.length+dC bY<900000000 →
  ∃s' J',(∀M n' e,m<M→e 1=pb P→aJ (lW (den C n) n') M e s=some (.aI [],s'))∧PR ts P s' rest' base k bY J'∧Ex s s' J J':=by
 intro m
 induction m with
 | zero=>intro _ _ s rest base k cs J b rest' bY h hr;rw[Pm.cJ]at hr;cases hr
 | succ m ih =>
  intro H hn s rest base k cs J b rest' bY h hr hb
  have hn0:m*20+ts.length+110≤n:=by omega
  have H0:∀k<m,cd ts k:=fun k hk=>H k (Nat.lt_succ_of_lt hk)
  obtain⟨m',hm',hw⟩:=gq hr
  cases hm'
  obtain⟨sa,qa,pa,xa⟩:=(cN (ts:=ts) [cC,Ot] (by decide:2<50)).use (n:=n) (by omega) h
  rcases hw with ⟨hc,rfl,rfl,rfl⟩|⟨hc,nu,hb0⟩|⟨hc,tw,cw,nu,ww,OM⟩
  ·have ea:ab Tryz.prog (den C n) 99 [.ref P 0,.sl 9 1 [.str [40],.str [46]] .sh] s=some (.bool false,sa):=by rw[←hc];exact qa
   refine⟨sa,J,fun M n' e hM fy=>?_,pa,xa⟩
   obtain⟨M,rfl⟩:∃j,M=j+1:=⟨M-1,by omega⟩
   rw[aJ,lW]
   simp -implicitDefEqProofs only[sL,cD,cW,cT,aj,aq,fy,ea]
  ·exact absurd (iF (by rfl) nu) (by decide)
  ·have ea:ab Tryz.prog (den C n) 99 [.ref P 0,.sl 9 1 [.str [40],.str [46]] .sh] s=some (.bool true,sa):=by rw[←hc];exact qa
   obtain⟨s1,q1,p1,x1⟩:=(cN (ts:=ts) [cC] (by decide:1<50)).use (n:=n) (by omega) pa
   obtain⟨m1,hm1,sS⟩:=aO nu
   rcases sS with ⟨gR,bG⟩|⟨gR,bG⟩
   ·have e1:ab Tryz.prog (den C n) 99 [.ref P 0,.sl 9 1 [.str [40]] .sh] sa=some (.bool true,s1):=by rw[←gR];exact q1
    obtain⟨s2,J2,q2,p2,x2⟩:=(gN (ts:=ts) (m:=m1) (k:=30) (v:=fun P=>.fn 237 [.ref P 0] []) (fun _=>rfl) (fun k hk=>TC (fun k hk=>H k (by omega)))) n (by omega) P s1 rest base k cs J false tw cw p1 bG (by omega)
    have e2:ab Tryz.prog (den C n) 210 [.ref P 0,.int .i64 30,.fn 237 [.ref P 0] []] s1=some (.aI [],s2):=q2
    obtain⟨s0,J0,e0,p0,x0⟩:=ih H0 hn0 s2 tw base k cw J2 b rest' bY p2 ww hb
    refine⟨s0,J0,fun M n' e hM fy=>?_,p0,((xa.trans x1).trans x2).trans x0⟩
    obtain⟨M,rfl⟩:∃j,M=j+1:=⟨M-1,by omega⟩
    rw[aJ,lW]
    simp -implicitDefEqProofs only[sL,cD,cW,cT,aj,aq,fy,ea,e1,e2]
    exact e0 _ _ _ (by omega) ((ao _ _ _ rfl).trans fy)
   ·have e1:ab Tryz.prog (den C n) 99 [.ref P 0,.sl 9 1 [.str [40]] .sh] sa=some (.bool false,s1):=by rw[←gR];exact q1
    obtain⟨m3,mz,Cj⟩:=aO bG
    cases hi3:((pk (la rest)).1==103) with
    | false =>
     obtain⟨sx3,Px3,s3,ql3,Wb,p3,x3⟩:=OO (n:=n) (by omega) p1
     rw[hi3]at Wb
     rcases Cj with ⟨o_,hr3⟩|⟨o_,hr3⟩
     ·have Mn:((pk (la rest)).1==103&&eN [cC] (pk (la (la rest))))=true:=o_
      rw[hi3,Bool.false_and]at Mn;cases Mn
     ·skip
      obtain⟨s4,J4,q4,p4,x4⟩:=(gN (ts:=ts) (m:=m3) (k:=32) (v:=fun P=>.fn 245 [] [.box [.ref P 0] 0]) (fun _=>rfl) (fun k hk=>YW (fun k hk=>H k (by omega)))) n (by omega) P s3 rest base k cs J false tw cw p3 hr3 (by omega)
      have e4:ab Tryz.prog (den C n) 210 [.ref P 0,.int .i64 32,.fn 245 [] [.box [.ref P 0] 0]] s3=some (.aI [],s4):=q4
      obtain⟨s0,J0,e0,p0,x0⟩:=ih H0 hn0 s4 tw base k cw J4 b rest' bY p4 ww hb
      refine⟨s0,J0,fun M n' e hM fy=>?_,p0,(((xa.trans x1).trans x3).trans x4).trans x0⟩
      obtain⟨M,rfl⟩:∃j,M=j+1:=⟨M-1,by omega⟩
      rw[aJ,lW]
      simp -implicitDefEqProofs only[sL,cD,cW,cT,aj,aq,fy,ea,e1,ql3,Wb,e4]
      exact e0 _ _ _ (by omega) ((ao _ _ _ rfl).trans fy)
    | true =>
     obtain⟨sx3,Px3,sy3,sz3,Py3,s3,ql3,Wb,qm3,qa3,p3,x3⟩:=GU (n:=n) (by omega) p1
     rw[hi3]at Wb
     rcases Cj with ⟨o_,hr3⟩|⟨o_,hr3⟩
     ·have Mn:((pk (la rest)).1==103&&eN [cC] (pk (la (la rest))))=true:=o_
      rw[hi3,Bool.true_and]at Mn
      have e3:ab Tryz.prog (den C n) 99 [.ref Py3 0,.sl 9 1 [.str [40]] .sh] sz3=some (.bool true,s3):=by rw[←Mn];exact qa3
      obtain⟨s5,J5,q5,p5,x5⟩:=(gN (ts:=ts) (m:=m3) (k:=31) (v:=fun P=>.fn 244 [] [.box [.ref P 0] 0]) (fun _=>rfl) (fun k hk=>abL (fun k hk=>H k (by omega)))) n (by omega) P s3 rest base k cs J false tw cw p3 hr3 (by omega)
      have e5:ab Tryz.prog (den C n) 210 [.ref P 0,.int .i64 31,.fn 244 [] [.box [.ref P 0] 0]] s3=some (.aI [],s5):=q5
      obtain⟨s0,J0,e0,p0,x0⟩:=ih H0 hn0 s5 tw base k cw J5 b rest' bY p5 ww hb
      refine⟨s0,J0,fun M n' e hM fy=>?_,p0,(((xa.trans x1).trans x3).trans x5).trans x0⟩
      obtain⟨M,rfl⟩:∃j,M=j+1:=⟨M-1,by omega⟩
      rw[aJ,lW]
      simp -implicitDefEqProofs only[sL,cD,cW,cT,aj,aq,fy,ea,e1,ql3,Wb,qm3,e3,e5]
      exact e0 _ _ _ (by omega) ((ao _ _ _ rfl).trans fy)
     ·have Mn:((pk (la rest)).1==103&&eN [cC] (pk (la (la rest))))=false:=o_
      rw[hi3,Bool.true_and]at Mn
      have e3:ab Tryz.prog (den C n) 99 [.ref Py3 0,.sl 9 1 [.str [40]] .sh] sz3=some (.bool false,s3):=by rw[←Mn];exact qa3
      obtain⟨s6,J6,q6,p6,x6⟩:=(gN (ts:=ts) (m:=m3) (k:=32) (v:=fun P=>.fn 245 [] [.box [.ref P 0] 0]) (fun _=>rfl) (fun k hk=>YW (fun k hk=>H k (by omega)))) n (by omega) P s3 rest base k cs J false tw cw p3 hr3 (by omega)
      have e6:ab Tryz.prog (den C n) 210 [.ref P 0,.int .i64 32,.fn 245 [] [.box [.ref P 0] 0]] s3=some (.aI [],s6):=q6
      obtain⟨s0,J0,e0,p0,x0⟩:=ih H0 hn0 s6 tw base k cw J6 b rest' bY p6 ww hb
      refine⟨s0,J0,fun M n' e hM fy=>?_,p0,(((xa.trans x1).trans x3).trans x6).trans x0⟩
      obtain⟨M,rfl⟩:∃j,M=j+1:=⟨M-1,by omega⟩
      rw[aJ,lW]
      simp -implicitDefEqProofs only[sL,cD,cW,cT,aj,aq,fy,ea,e1,ql3,Wb,qm3,e3,e6]
      exact e0 _ _ _ (by omega) ((ao _ _ _ rfl).trans fy)
def zh (ts:List Tok)(m:Nat)(g:G)(rv:Bool→AV)(F:Nat→Nat→ag→Option (AV×ag)):Prop :=
 ∀n,m*20+ts.length+115≤n→∀P s rest base k cs J b rest' bY,PR ts P s rest base k cs J→run m g rest cs=some (b,rest',bY)→base.length+dC bY<900000000 →
  ∃s' J',F n P s=some (rv b,s')∧PR ts P s' rest' base k bY J'∧Ex s s' J J'
theorem acm {ts:List Tok}{m:Nat}(H:∀k<m,cd ts k):zh ts m u' vd (ef 230 fun P=>[.ref P 0]):=by
 intro n hn P s rest base k cs J b rest' bY h hr hb
 obtain⟨n,rfl⟩:∃j,n=j+1:=⟨n-1,by omega⟩
 obtain⟨m1,hm1⟩:=dz hr
 obtain⟨s1,J1,e1,p1,x1⟩:=acl (P:=P) (n:=n) m H (by omega) s rest base k cs J b rest' bY h hr hb
 refine⟨s1,J1,?_,p1,x1⟩
 show ab Tryz.prog (den C (n+1)) 230 [.ref P 0] s=_
 rw[aF X' (a7 ..),N',X_,aq,yA]
 exact e1 _ _ _ (by omega) rfl
theorem Zf {ts:List Tok}{m:Nat}(H:∀k<m,cd ts k):eK ts m (yW) vd (ef 208 fun P=>[.ref P 0]):=by
 intro n hn P s rest base k cs J b rest' bY h hr hb
 obtain⟨n,rfl⟩:∃j,n=j+1:=⟨n-1,by omega⟩
 obtain⟨s1,q1,p1,x1⟩:=(cN (ts:=ts) [C_,qi,mW] (by decide:3<50)).use (n:=n) (by omega) h
 obtain⟨m1,hm1,sS⟩:=aO hr
 rcases sS with ⟨gR,bG⟩|⟨gR,bG⟩
 ·have e1:ab Tryz.prog (den C n) 99 [.ref P 0,.sl 9 1 [.str [45],.str [33],.str [42]] .sh] s=some (.bool true,s1):=by rw[←gR];exact q1
  obtain⟨s2,J2,q2,p2,x2⟩:=(aR (ts:=ts) (m:=m1) (k:=40) (v:=fun P=>.fn 228 [] [.box [.ref P 0] 0]) (fun _=>rfl) (fun k hk=>abY (fun k hk=>H k (by omega)))) n (by omega) P s1 rest base k cs J b rest' bY p1 bG (by omega)
  have e2:ab Tryz.prog (den C n) 103 [.ref P 0,.int .i64 40,.fn 228 [] [.box [.ref P 0] 0]] s1=some (.aI [],s2):=q2
  refine⟨s2,J2,?_,p2,(x1.trans x2)⟩
  show ab Tryz.prog (den C (n+1)) 208 [.ref P 0] s=_
  rw[aF I_ (a7 ..),yM,NS]
  simp -implicitDefEqProofs only[sL,cD,cW,cT,aj,aq,ax,ar,av,e1,e2]
 ·have e1:ab Tryz.prog (den C n) 99 [.ref P 0,.sl 9 1 [.str [45],.str [33],.str [42]] .sh] s=some (.bool false,s1):=by rw[←gR];exact q1
  obtain⟨s3,q3,p3,x3⟩:=(cN (ts:=ts) [Ou] (by decide:1<50)).use (n:=n) (by omega) p1
  obtain⟨m3,mz,Cj⟩:=aO bG
  rcases Cj with ⟨o_,hr3⟩|⟨o_,hr3⟩
  ·have e3:ab Tryz.prog (den C n) 99 [.ref P 0,.sl 9 1 [.str [38]] .sh] s1=some (.bool true,s3):=by rw[←o_];exact q3
   obtain⟨s4,J4,q4,p4,x4⟩:=(aR (ts:=ts) (m:=m3) (k:=41) (v:=fun P=>.fn 229 [] [.box [.ref P 0] 0]) (fun _=>rfl) (fun k hk=>abZ (fun k hk=>H k (by omega)))) n (by omega) P s3 rest base k cs J b rest' bY p3 hr3 (by omega)
   have e4:ab Tryz.prog (den C n) 103 [.ref P 0,.int .i64 41,.fn 229 [] [.box [.ref P 0] 0]] s3=some (.aI [],s4):=q4
   refine⟨s4,J4,?_,p4,((x1.trans x3).trans x4)⟩
   show ab Tryz.prog (den C (n+1)) 208 [.ref P 0] s=_
   rw[aF I_ (a7 ..),yM,NS]
   simp -implicitDefEqProofs only[sL,cD,cW,cT,aj,aq,ax,ar,av,e1,e3,e4]
  ·have e3:ab Tryz.prog (den C n) 99 [.ref P 0,.sl 9 1 [.str [38]] .sh] s1=some (.bool false,s3):=by rw[←o_];exact q3
   obtain⟨m5,b5,t5,c5,xA,mG,il,zG⟩:=ay hr3
   obtain⟨s6,J6,q6,p6,x6⟩:=((H m5 (by omega)).pr) n (by omega) P s3 rest base k cs J b5 t5 c5 p3 mG (by omega)
   have e6:ab Tryz.prog (den C n) 224 [.ref P 0] s3=some (.aI [],s6):=q6
   obtain⟨s7,J7,q7,p7,x7⟩:=(acm (ts:=ts) (m:=m5) (fun k hk=>H k (by omega))) n (by omega) P s6 t5 base k c5 J6 b rest' bY p6 il (by omega)
   have e7:ab Tryz.prog (den C n) 230 [.ref P 0] s6=some (.aI [],s7):=q7
   refine⟨s7,J7,?_,p7,(((x1.trans x3).trans x6).trans x7)⟩
   show ab Tryz.prog (den C (n+1)) 208 [.ref P 0] s=_
   rw[aF I_ (a7 ..),yM,NS]
   simp -implicitDefEqProofs only[sL,cD,cW,cT,aj,aq,ax,ar,av,e1,e3,e6,e7]
theorem acn {ts:List Tok}{n P:Nat}:∀(m:Nat),(∀k<m,cd ts k)→m*20+ts.length+110≤n→∀s rest base k cs J b t9 c9 m9 b' rest' bY,PR ts P s rest base k cs J→run m (.dH (eL [Jg,Gv]) (.ite (eL [Gv]) (.node 3 (.seq .bump (.seq (gJ false) ft))) C')) rest cs=some (b,t9,c9)→m9*20+ts.length+100≤n→run m9 (a6 gO) t9 c9=some (b',rest',bY)→base.length+dC bY<900000000 →
  ∃s' J',(∀M n' e,m<M→e 1=pb P→aJ (pZ (den C n) n') M e s=some (.aI [],s'))∧PR ts P s' rest' base k bY J'∧Ex s s' J J':=by
 intro m
 induction m with
 | zero=>intro _ _ s rest base k cs J b t9 c9 m9 b' rest' bY h hr;rw[Pm.cJ]at hr;cases hr
 | succ m ih =>
  intro H hn s rest base k cs J b t9 c9 m9 b' rest' bY h hr Ms xB hb
  have hn0:m*20+ts.length+110≤n:=by omega
  have H0:∀k<m,cd ts k:=fun k hk=>H k (Nat.lt_succ_of_lt hk)
  have Tx:dC c9≤dC bY:=fI (fH _ _ _ _ _ _ _ xB)
  obtain⟨m',hm',hw⟩:=gq hr
  cases hm'
  obtain⟨sa,qa,pa,xa⟩:=(cN (ts:=ts) [Jg,Gv] (by decide:2<50)).use (n:=n) (by omega) h
  rcases hw with ⟨hc,rfl,rfl,rfl⟩|⟨hc,nu,hb0⟩|⟨hc,tw,cw,nu,ww,OM⟩
  ·have ea:ab Tryz.prog (den C n) 99 [.ref P 0,.sl 9 1 [.str [116,121,112,101],.str [102,110]] .sh] s=some (.bool false,sa):=by rw[←hc];exact qa
   obtain⟨sx,Jx,qx,px,xx⟩:=bq ts m9 gO n Ms P sa t9 base k c9 J b' rest' bY pa xB hb
   have ex:ab Tryz.prog (den C n) 149 [.ref P 0,.str [125]] sa=some (.aI [],sx):=qx
   refine⟨sx,Jx,fun M n' e hM fy=>?_,px,xa.trans xx⟩
   obtain⟨M,rfl⟩:∃j,M=j+1:=⟨M-1,by omega⟩
   rw[aJ,pZ]
   simp -implicitDefEqProofs only[sL,cD,cW,cT,aj,aq,fy,ea,ex]
  ·exact absurd (iF (by rfl) nu) (by decide)
  ·have ea:ab Tryz.prog (den C n) 99 [.ref P 0,.sl 9 1 [.str [116,121,112,101],.str [102,110]] .sh] s=some (.bool true,sa):=by rw[←hc];exact qa
   obtain⟨s1,q1,p1,x1⟩:=(cN (ts:=ts) [Gv] (by decide:1<50)).use (n:=n) (by omega) pa
   obtain⟨m1,hm1,sS⟩:=aO nu
   rcases sS with ⟨gR,bG⟩|⟨gR,bG⟩
   ·have e1:ab Tryz.prog (den C n) 99 [.ref P 0,.sl 9 1 [.str [102,110]] .sh] sa=some (.bool true,s1):=by rw[←gR];exact q1
    obtain⟨s2,J2,q2,p2,x2⟩:=(aR (ts:=ts) (m:=m1) (k:=3) (v:=fun P=>.fn 180 [] [.box [.ref P 0] 0]) (fun _=>rfl) (fun k hk=>abE (fun k hk=>H k (by omega)))) n (by omega) P s1 rest base k cs J false tw cw p1 bG (by omega)
    have e2:ab Tryz.prog (den C n) 103 [.ref P 0,.int .i64 3,.fn 180 [] [.box [.ref P 0] 0]] s1=some (.aI [],s2):=q2
    obtain⟨s0,J0,e0,p0,x0⟩:=ih H0 hn0 s2 tw base k cw J2 b t9 c9 m9 b' rest' bY p2 ww Ms xB hb
    refine⟨s0,J0,fun M n' e hM fy=>?_,p0,((xa.trans x1).trans x2).trans x0⟩
    obtain⟨M,rfl⟩:∃j,M=j+1:=⟨M-1,by omega⟩
    rw[aJ,pZ]
    simp -implicitDefEqProofs only[sL,cD,cW,cT,aj,aq,fy,ea,e1,e2]
    exact e0 _ _ _ (by omega) ((ao _ _ _ rfl).trans fy)
   ·have e1:ab Tryz.prog (den C n) 99 [.ref P 0,.sl 9 1 [.str [102,110]] .sh] sa=some (.bool false,s1):=by rw[←gR];exact q1
    obtain⟨s3,J3,q3,p3,x3⟩:=(aR (ts:=ts) (m:=m1) (k:=16) (v:=fun P=>.fn 181 [] [.box [.ref P 0] 0]) (fun _=>rfl) (fun k hk=>abF (fun k hk=>H k (by omega)))) n (by omega) P s1 rest base k cs J false tw cw p1 bG (by omega)
    have e3:ab Tryz.prog (den C n) 103 [.ref P 0,.int .i64 16,.fn 181 [] [.box [.ref P 0] 0]] s1=some (.aI [],s3):=q3
    obtain⟨s0,J0,e0,p0,x0⟩:=ih H0 hn0 s3 tw base k cw J3 b t9 c9 m9 b' rest' bY p3 ww Ms xB hb
    refine⟨s0,J0,fun M n' e hM fy=>?_,p0,((xa.trans x1).trans x3).trans x0⟩
    obtain⟨M,rfl⟩:∃j,M=j+1:=⟨M-1,by omega⟩
    rw[aJ,pZ]
    simp -implicitDefEqProofs only[sL,cD,cW,cT,aj,aq,fy,ea,e1,e3]
    exact e0 _ _ _ (by omega) ((ao _ _ _ rfl).trans fy)
theorem Uf {ts:List Tok}{m:Nat}(H:∀k<m,cd ts k):eK ts m (mX) vd (ef 147 fun P=>[.ref P 0]):=by
 intro n hn P s rest base k cs J b rest' bY h hr hb
 obtain⟨n,rfl⟩:∃j,n=j+1:=⟨n-1,by omega⟩
 obtain⟨m1,b1,t1,c1,hm1,dA,bG,hz1⟩:=ay hr
 obtain⟨s2,J2,q2,p2,x2⟩:=(bq ts m1 j5) n (by omega) P s rest base k cs J b1 t1 c1 h dA (by omega)
 have e2:ab Tryz.prog (den C n) 149 [.ref P 0,.str [123]] s=some (.aI [],s2):=q2
 obtain⟨m3,b3,t3,c3,mz,hU,hr3,hz3⟩:=ay bG
 obtain⟨s3,J3,e3,p3,x3⟩:=acn (P:=P) (n:=n) m3 (fun k hk=>H k (by omega)) (by omega) s2 t1 base k c1 J2 b3 t3 c3 m3 b rest' bY p2 hU (by omega) hr3 (by omega)
 refine⟨s3,J3,?_,p3,(x2.trans x3)⟩
 show ab Tryz.prog (den C (n+1)) 147 [.ref P 0] s=_
 rw[aF Xg (a7 ..),Nt,Xf]
 simp -implicitDefEqProofs only[sL,cD,cW,cT,aj,aq,ax,ar,av,e2]
 exact e3 _ _ _ (by omega) rfl
theorem Zg (l:Nat)(hl:l≤4):IntKind.i64.wrap ((l:Int)+1)=(l:Int)+1:=by rw[wrap64]<;>omega
theorem Zh {ts:List Tok}{m:Nat}(H:∀k<m+1,cd ts k)(l:Nat)(hl:l≤4):eK ts m (.call (11+l)) vd (ef 187 fun P=>[.ref P 0,I ((l:Int)+1)]):=by
 have:=(H m (by omega)).bi (l+1) (by omega)
 rw[show 10+(l+1)=11+l by omega]at this
 exact this
theorem Zi {ts:List Tok}{m:Nat}(l:Nat)(hl:l≤4)(H:∀k<m,cd ts k):eK ts m (.seq .bump (.call (11+l))) vd (ef 211 fun P=>[.box [.ref P 0] 0,.box [I l] 0]):=by
 intro n hn P s rest base k cs J b rest' bY h hr hb
 obtain⟨n,rfl⟩:∃j,n=j+1:=⟨n-1,by omega⟩
 obtain⟨m1,b1,t1,c1,hm1,dA,bG,hz1⟩:=ay hr
 obtain⟨s2,J2,q2,p2,x2⟩:=(aX ts m1) n (by omega) P s rest base k cs J b1 t1 c1 h dA (by omega)
 have e2:ab Tryz.prog (den C n) 106 [.ref P 0] s=some (.aI [],s2):=q2
 obtain⟨s3,J3,q3,p3,x3⟩:=(Zh (ts:=ts) (m:=m1) (fun k hk=>H k (by omega)) l hl) n (by omega) P s2 t1 base k c1 J2 b rest' bY p2 bG (by omega)
 have e3:ab Tryz.prog (den C n) 187 [.ref P 0,I ((l:Int)+1)] s2=some (.aI [],s3):=q3
 refine⟨s3,J3,?_,p3,(x2.trans x3)⟩
 show ab Tryz.prog (den C (n+1)) 211 [.box [.ref P 0] 0,.box [I l] 0] s=_
 rw[aF X1 (dF ..),NV,X0]
 simp -implicitDefEqProofs only[sL,cD,cW,cT,aj,aq,ax,ar,av,Zg l hl,e2,e3]
end ParF
end

section
namespace ParF
open Go Go.Abs Go.Proofs Pm
theorem JU (l:Nat):(iB l).length<50:=by
 unfold iB;split<;>decide
theorem aco {ts:List Tok}{n P:Nat}(l:Nat)(hl:l≤4):∀(m:Nat),(∀k<m,cd ts k)→m*20+ts.length+110≤n→∀s rest base k cs J b rest' bY,PR ts P s rest base k cs J→run m (.dH (eL (iB l)) (.seq (.wrap 39 (.seq .bump (.call (11+l)))) (.ret (l==2)))) rest cs=some (b,rest',bY)→base.length+dC bY<900000000 →
  ∃s' J',(∀M n' e,m<M→e 2=pb P→e 3=.box [I l] 0→aJ (p_ (den C n) n') M e s=some (.aI [],s'))∧PR ts P s' rest' base k bY J'∧Ex s s' J J':=by
 intro m
 induction m with
 | zero=>intro _ _ s rest base k cs J b rest' bY h hr;rw[Pm.cJ]at hr;cases hr
 | succ m ih =>
  intro H hn s rest base k cs J b rest' bY h hr hb
  have hn0:m*20+ts.length+110≤n:=by omega
  have H0:∀k<m,cd ts k:=fun k hk=>H k (Nat.lt_succ_of_lt hk)
  have e0:=(JL l hl).of (n:=n) (by omega) s
  have e2:(((l:Nat):Int)==2)=(l==2):=dJ l 2
  have nr:aV [AV.ref P 0,strs (iB l)]=false:=a7 ..
  have hs:(strs (iB l)).aa=strs (iB l):=rfl
  obtain⟨m',hm',hw⟩:=gq hr
  cases hm'
  obtain⟨sa,qa,pa,xa⟩:=(cN (ts:=ts) (iB l) (JU l)).use (n:=n) (by omega) h
  rcases hw with ⟨hc,rfl,rfl,rfl⟩|⟨hc,nu,hb0⟩|⟨hc,tw,cw,nu,ww,OM⟩
  ·have ea:ab Tryz.prog (den C n) 99 [.ref P 0,strs (iB l)] s=some (.bool false,sa):=by rw[←hc];exact qa
   refine⟨sa,J,fun M n' e hM kK wL=>?_,pa,xa⟩
   obtain⟨M,rfl⟩:∃j,M=j+1:=⟨M-1,by omega⟩
   rw[aJ,p_]
   simp -implicitDefEqProofs only[sL,kK,wL,e0,hs,ea,nr,Bool.false_eq_true,ite_false,C4]
  ·have ea:ab Tryz.prog (den C n) 99 [.ref P 0,strs (iB l)] s=some (.bool true,sa):=by rw[←hc];exact qa
   obtain⟨m1,b1,t1,c1,hm1,dA,bG,hz1⟩:=ay nu
   obtain⟨Mb,rfl,rfl⟩:=bM bG
   obtain⟨s1,J1,q1,p1,x1⟩:=(gN (ts:=ts) (m:=m1) (k:=39) (v:=fun P=>.fn 211 [] [.box [.ref P 0] 0,.box [I l] 0]) (fun _=>rfl) (fun k hk=>Zi l hl (fun k hk=>H k (by omega)))) n (by omega) P sa rest base k cs J b1 rest' bY pa dA (by omega)
   have e1:ab Tryz.prog (den C n) 210 [.ref P 0,.int .i64 39,.fn 211 [] [.box [.ref P 0] 0,.box [I l] 0]] sa=some (.aI [],s1):=q1
   refine⟨s1,J1,fun M n' e hM kK wL=>?_,p1,xa.trans x1⟩
   obtain⟨M,rfl⟩:∃j,M=j+1:=⟨M-1,by omega⟩
   rw[aJ,p_]
   simp -implicitDefEqProofs only[sL,kK,wL,e0,hs,ea,nr,Bool.false_eq_true,ite_false,C4,e1,e2,Mb.symm]
  ·have ea:ab Tryz.prog (den C n) 99 [.ref P 0,strs (iB l)] s=some (.bool true,sa):=by rw[←hc];exact qa
   obtain⟨m1,b1,t1,c1,hm1,dA,bG,hz1⟩:=ay nu
   obtain⟨Mb,rfl,rfl⟩:=bM bG
   obtain⟨s1,J1,q1,p1,x1⟩:=(gN (ts:=ts) (m:=m1) (k:=39) (v:=fun P=>.fn 211 [] [.box [.ref P 0] 0,.box [I l] 0]) (fun _=>rfl) (fun k hk=>Zi l hl (fun k hk=>H k (by omega)))) n (by omega) P sa rest base k cs J b1 tw cw pa dA (by omega)
   have e1:ab Tryz.prog (den C n) 210 [.ref P 0,.int .i64 39,.fn 211 [] [.box [.ref P 0] 0,.box [I l] 0]] sa=some (.aI [],s1):=q1
   obtain⟨s2,J2,q2,p2,x2⟩:=ih H0 hn0 s1 tw base k cw J1 b rest' bY p1 ww hb
   refine⟨s2,J2,fun M n' e hM kK wL=>?_,p2,(xa.trans x1).trans x2⟩
   obtain⟨M,rfl⟩:∃j,M=j+1:=⟨M-1,by omega⟩
   rw[aJ,p_]
   simp -implicitDefEqProofs only[sL,kK,wL,e0,hs,ea,nr,Bool.false_eq_true,ite_false,C4,e1,e2,Mb.symm]
   exact q2 _ _ _ (by omega) ((ao _ _ _ rfl).trans kK) ((ao _ _ _ rfl).trans wL)
theorem Zj {ts:List Tok}{m:Nat}(l:Nat)(hl:l≤4)(H:∀k<m,cd ts k):eK ts m (iM l) vd (ef 187 fun P=>[.ref P 0,I l]):=by
 intro n hn P s rest base k cs J b rest' bY h hr hb
 obtain⟨n,rfl⟩:∃j,n=j+1:=⟨n-1,by omega⟩
 obtain⟨m1,b1,t1,c1,hm1,dA,bG,hz1⟩:=ay hr
 obtain⟨m2,b2,t2,c2,hm2,GO,hr2,hz2⟩:=ay bG
 obtain⟨-,rfl,rfl⟩:=bM hr2
 obtain⟨s1,J1,q1,p1,x1⟩:=Zh (ts:=ts) (m:=m1) (fun k hk=>H k (by omega)) l hl n (by omega) P s rest base k cs J b1 t1 c1 h dA (by omega)
 have e1:ab Tryz.prog (den C n) 187 [.ref P 0,I ((l:Int)+1)] s=some (.aI [],s1):=q1
 obtain⟨s2,J2,e2,p2,x2⟩:=aco (P:=P) (n:=n) l hl m2 (fun k hk=>H k (by omega)) (by omega) s1 t1 base k c1 J1 b2 rest' bY p1 GO hb
 refine⟨s2,J2,?_,p2,x1.trans x2⟩
 have e5:(((l:Nat):Int)==5)=false:=by simp;omega
 show ab Tryz.prog (den C (n+1)) 187 [.ref P 0,I l] s=_
 rw[aF QT (a7 ..),EG,SM]
 simp -implicitDefEqProofs only[sL,aq,av,e5,Zg l hl,e1]
 exact e2 _ _ _ (by omega) rfl rfl
theorem JV {ts:List Tok}{P:Nat}{s:ag}{rest:List Tok}{base:List Lv}{k0:Nat}{fw:List az}{t:az}{J:List Nat}(h:PR ts P s rest base k0 (fw++[t]) J) :
  ∃Q id s',af false false 1 (.ref P 2) s=some (.rs 89 3 Q 0 (base.length+1),s)∧af false false 1 (.ref Q (base.length*3+2)) s=some (.rs 89 3 id 0 (fw.length+1),s) ∧
   aB 1 s (.ref Q (base.length*3+2)) (.rs 89 3 id 0 fw.length)=some s'∧PR ts P s' rest base k0 fw J∧Ex s s' J J:=by
 obtain⟨pos,i,rfl,h⟩:=h
 obtain⟨tk,Q,junk,f,rfl⟩:=h.facts
 have hP:=iN f.par
 have hQ:=iN f.row
 have Mm:=f.ok
 obtain⟨id,rfl⟩:∃id,i=some id:=by
  cases i with
  | none=>have h0:fw++[t]=[]:=Mm;simp at h0
  | some id=>exact⟨id,rfl⟩
 obtain⟨rows,cj,h1,h2,h3⟩:=Mm
 obtain⟨r1,r2,rfl,l1,l2⟩:=ou.split h2
 cases l2 with
 | cons _ a _ _ ht l3 =>
 cases l3 with
 | nil =>
 obtain⟨c1,c2,c3,c4⟩:=ht.cells
 obtain⟨tP,tQ,tl⟩:=f.Jv id rfl
 rw[fY]at h1
 have hil:(fw++[t]).length=fw.length+1:=by rw[bJ];rfl
 have hrl:=eJ (base++[(⟨k0,fw++[t],some id⟩:Lv)])
 rw[bJ]at hrl
 have st1:=ParF.st (s:=s) (o:=base.length*3+2) (n:=1) (v:=.rs 89 3 id 0 fw.length) f.row (by decide) rfl rfl (by rw[bJ,hrl];show _≤3*(base.length+1)+_;omega)
 have Dm:dv (.rs 89 3 id 0 fw.length)=[AV.rs 89 3 id 0 fw.length]:=rfl
 rw[Dm,t_]at st1
 have GK:∀x,x≠Q→(s.set Q (89,base.flatMap Lv.row++[I (k0:Nat),.str [],.rs 89 3 id 0 fw.length]++junk))[x]?=s[x]?:=fun x hne=>bu (Ne.symm hne)
 refine⟨Q,id,_,ld (o:=2) f.par (by decide) rfl (by decide),?_,st1,⟨pos,some id,rfl,Fs.ps (tk:=tk) (Q:=Q) (junk:=junk) (l:=⟨k0,fw,some id⟩) ⟨f.pw,?_,?_,f.ne,fun i hi=>?_,fun i hi=>?_,f.nd,⟨r1,a.cells++cj,?_,l1,?_⟩,fun l' ov=>?_,f.pos,f.len⟩⟩,?_⟩
 ·rw[ld (n:=1) (o:=base.length*3+2) f.row (by decide) (vu 2 (by decide)) (by decide),lC,←hil];rfl
 ·rw[GK P f.ne];exact f.par
 ·rw[bK f.row,gM];rfl
 ·obtain⟨a1,a2,a3,a4⟩:=f.iP i hi
  exact⟨a1,a2,by rw[bh];exact a3,a4⟩
 ·obtain⟨a1,a2,a3⟩:=f.Jv i hi
  exact⟨a1,a2,by rw[bh];exact a3⟩
 ·rw[GK id tQ,h1,List.append_assoc]
 ·intro e;have:=congrArg List.length e;rw[bJ,bJ,c1]at this;simp at this
 ·refine Lv.fT (f.Tl l' ov) fun i hi=>?_
  obtain⟨a1,a2,a3,a4⟩:=f.iP i (List.mem_filterMap.2 ⟨l',ov,hi⟩)
  exact GK i a2
 ·refine⟨by rw[bh];exact Nat.le_refl _,fun x hx hj=>bu fun e=>hj ?_,fun _ h=>.inl h⟩
  rw[←e];unfold JJ;simp
theorem E7 {m:Nat}{g b:G}{ts eY:List Tok}{cs bY:List az}{r:Bool}(h:run m (.Ch g b) ts cs=some (r,eY,bY)):∃m' r1 t1 c1,m=m'+1∧run m' g ts cs=some (r1,t1,c1)∧dC c1≤dC bY ∧
  ((t1.length=ts.length∧∃c2 t,c1=c2++[t]∧run m' rB t1 c2=some (r,eY,bY))∨(t1.length≠ts.length∧run m' b t1 c1=some (r,eY,bY))):=by
 obtain⟨m,rfl⟩:=dz h
 rw[qq]at h
 obtain⟨⟨r1,t1,d1⟩,h1,h2⟩:=Option.bind_eq_some_iff.1 h
 simp only at h2
 split at h2
 ·rename_i hc
  obtain⟨t,h3,h4⟩:=Option.bind_eq_some_iff.1 h2
  split at h4
  ·rename_i ht
   have hd:=fC h3
   obtain⟨m5,r5,t5,c5,-,h5,h6,hz6⟩:=ay h4
   obtain⟨m6,ds,-,-,h7⟩:=nk h5
   have hz:dC d1.dropLast+1≤dC bY:=by
    rw[h7,aw,aT,aZ]at hz6;omega
   refine⟨m,r1,t1,d1,rfl,h1,?_,.inl ⟨hc,d1.dropLast,t,hd,h4⟩⟩
   rw[hd,aw,aT];omega
  ·cases h4
 ·rename_i hc;exact⟨m,r1,t1,d1,rfl,h1,(fI (fH _ _ _ _ _ _ _ h2)),.inr ⟨hc,h2⟩⟩
end ParF
end

section
namespace ParF
open Go Go.Abs Go.Proofs Pm
theorem Bi:bH Tryz.prog 4=fun s=>some (.ref s.length 0,s++[(4,[.bool false])]):=by
 have h:zeroOf Tryz.prog 4=some (.bool false):=by kernel_rfl
 funext s
 simp[bH,h,AV.cells]
theorem Ex.mA {s s':ag}{J J':List Nat}(x:Ex s s' J J'){L:Nat}(hl:L<s.length)(hj:L∉J):L∉J':=fun h=>by
 rcases x.sub L h with k|k
 ·exact hj k
 ·omega
theorem acp {ts:List Tok}{m:Nat}(bl:Bool){n:Nat}(hn:m*20+ts.length+100≤n){P:Nat}{s:ag}{rest:List Tok}{base:List Lv}{k:Nat}{cs:List az}{J:List Nat}{b:Bool}{rest':List Tok}{bY:List az}
  (h:PR ts P s rest base k cs J)(hr:run m (.ite (eL [dB]) .bump (if bl then ft else .put 108)) rest cs=some (b,rest',bY))(hb:base.length+dC bY<900000000){L:Nat}(hL:s[L]?=some (4,[.bool bl]))(hj:L∉J) :
  ∃s' J' r,ab Tryz.prog (den C n) 226 [.box [.ref P 0] 0,.ref L 0] s=some (r,s')∧PR ts P s' rest' base k bY J'∧Ex s s' J J':=by
 obtain⟨n,rfl⟩:∃j,n=j+1:=⟨n-1,by omega⟩
 obtain⟨m1,hm1,ho⟩:=aO hr
 have hlt:=iN hL
 rcases ho with ⟨hc,bG⟩|⟨hc,bG⟩
 ·obtain⟨s1,J1,q1,p1,x1⟩:=eO [dB] (by decide:1<50) (n:=n) (by omega) h hc bG hb
  have e1:ab Tryz.prog (den C n) 105 [.ref P 0,.sl 9 1 [.str [59]] .sh] s=some (.bool true,s1):=q1
  refine⟨s1,J1,.aI [],?_,p1,x1⟩
  rw[aF I' (dF ..),yN,NZ]
  simp -implicitDefEqProofs only[sL,cD,aj,e1]
 ·obtain⟨s1,q1,p1,x1⟩:=gk [dB] (by decide:1<50) (n:=n) (by omega) h hc
  have e1:ab Tryz.prog (den C n) 105 [.ref P 0,.sl 9 1 [.str [59]] .sh] s=some (.bool false,s1):=q1
  have TF:=(x1.fr L hlt hj).trans hL
  have l1:af false false 1 (.ref L 0) s1=some (.bool bl,s1):=ld (o:=0) TF (by decide) rfl (by decide)
  cases bl with
  | true =>
   obtain⟨-,rfl,rfl⟩:=bM bG
   refine⟨s1,J,.aI [],?_,p1,x1⟩
   rw[aF I' (dF ..),yN,NZ]
   simp -implicitDefEqProofs only[sL,cD,aj,e1,l1]
  | false =>
   obtain⟨s2,J2,q2,p2,x2⟩:=(ga ts m1).2.1 n (by omega) P s1 rest base k cs J b rest' bY p1 bG hb
   have e2:ab Tryz.prog (den C n) 179 [.ref P 0] s1=some (.aI [],s2):=q2
   refine⟨s2,J2,.aI [],?_,p2,x1.trans x2⟩
   rw[aF I' (dF ..),yN,NZ]
   simp -implicitDefEqProofs only[sL,cD,aj,e1,l1,e2]
theorem Bj {ts:List Tok}{m:Nat}(H:∀k<m,cd ts k)(bl:Bool){n:Nat}(hn:m*20+ts.length+100≤n){P:Nat}{s:ag}{rest0 rest:List Tok}{base:List Lv}{k:Nat}{cs:List az}{J:List Nat}{b:Bool}{rest':List Tok}{bY:List az}
  (h:PR ts P s rest base k cs J){OU:Nat}(hp0:rest0.length+OU=ts.length)
  (hr:(rest.length=rest0.length∧∃c2 t,cs=c2++[t]∧run m rB rest c2=some (b,rest',bY))∨(rest.length≠rest0.length∧run m (.ite (eL [gO]) (.ret true) (.ite (eL [C9]) (.seq (.wrap 23 (.seq .bump (.seq (.call 10) (a6 dB)))) ft) (.seq (.wrap 26 (.ite (eL [dB]) .bump (if bl then ft else .put 108))) ft))) rest cs=some (b,rest',bY)))
  (hb:base.length+dC bY<900000000){L:Nat}(hL:s[L]?=some (4,[.bool bl]))(hj:L∉J) :
  ∃s' J',(∀n' e,e 1=pb P→e 3=I OU→e 4=.ref L 0→lV (den C n) n' e s=some (.bool b,s'))∧PR ts P s' rest' base k bY J'∧Ex s s' J J':=by
 obtain⟨JC,tk3,st3,r3,Mn,hl3⟩:=h.xw
 have hlt:=iN hL
 rcases hr with ⟨hl,c2,t,rfl,hr⟩|⟨hl,hr⟩
 ·have Mp:((JC:Int)==(OU:Int))=true:=by simp;omega
  obtain⟨m1,b1,t1,c1,hm1,dA,bG,hz1⟩:=ay hr
  obtain⟨rfl,rfl,rfl⟩:=bM bG
  obtain⟨Q,id,s1,q1,q2,q3,p1,x1⟩:=JV h
  obtain⟨s2,J2,q4,p2,x2⟩:=nl ts m1 n (by omega) P s1 rest base k c2 J b1 rest' bY p1 dA hb
  have e4:ab Tryz.prog (den C n) 203 [.ref P 0] s1=some (.aI [],s2):=q4
  have hbl:base.length<900000000:=by omega
  have hcl:c2.length<900000000:=by
   have:=eS bY
   have h7:=fI (fH _ _ _ _ _ _ _ dA)
   have:=eS c2
   omega
  refine⟨s2,J2,fun n' e fy wL re=>?_,p2,x1.trans x2⟩
  rw[lV]
  simp -implicitDefEqProofs only[sL,fy,wL,re,r3.ld1,Mp,q1,q2,iY,sA (a:=base.length) (by omega),sA (a:=c2.length) (by omega),jz,za,q3,cM,NN,NO Q,e4]
 ·have Mp:((JC:Int)==(OU:Int))=false:=by simp;omega
  obtain⟨sa,qa,pa,xa⟩:=(cN (ts:=ts) [gO] (by decide:1<50)).use (n:=n) (by omega) h
  obtain⟨m1,hm1,ho⟩:=aO hr
  rcases ho with ⟨hc,bG⟩|⟨hc,bG⟩
  ·have ea:ab Tryz.prog (den C n) 99 [.ref P 0,.sl 9 1 [.str [125]] .sh] s=some (.bool true,sa):=by rw[←hc];exact qa
   obtain⟨rfl,rfl,rfl⟩:=bM bG
   refine⟨sa,J,fun n' e fy wL re=>?_,pa,xa⟩
   rw[lV]
   simp -implicitDefEqProofs only[sL,fy,wL,re,r3.ld1,Mp,cD,aj,ea]
  ·have ea:ab Tryz.prog (den C n) 99 [.ref P 0,.sl 9 1 [.str [125]] .sh] s=some (.bool false,sa):=by rw[←hc];exact qa
   obtain⟨sb,qb,H9,xb⟩:=(cN (ts:=ts) [C9] (by decide:1<50)).use (n:=n) (by omega) pa
   obtain⟨m2,hm2,ho⟩:=aO bG
   rcases ho with ⟨zg,hr2⟩|⟨zg,hr2⟩
   ·have eb:ab Tryz.prog (den C n) 99 [.ref P 0,.sl 9 1 [.str [61]] .sh] sa=some (.bool true,sb):=by rw[←zg];exact qb
    obtain⟨m3,b3,t3,c3,mz,hU,hr3,hz3⟩:=ay hr2
    obtain⟨rfl,rfl,rfl⟩:=bM hr3
    obtain⟨s1,J1,q1,p1,x1⟩:=(gN (ts:=ts) (m:=m3) (k:=23) (v:=fun P=>.fn 225 [] [.box [.ref P 0] 0]) (fun _=>rfl) (fun k hk=>abJ (fun k hk=>H k (by omega)))) n (by omega) P sb rest base k cs J b3 rest' bY H9 hU hb
    have e1:ab Tryz.prog (den C n) 210 [.ref P 0,.int .i64 23,.fn 225 [] [.box [.ref P 0] 0]] sb=some (.aI [],s1):=q1
    refine⟨s1,J1,fun n' e fy wL re=>?_,p1,(xa.trans xb).trans x1⟩
    rw[lV]
    simp -implicitDefEqProofs only[sL,fy,wL,re,r3.ld1,Mp,cD,aj,ea,eb,e1]
   ·have eb:ab Tryz.prog (den C n) 99 [.ref P 0,.sl 9 1 [.str [61]] .sh] sa=some (.bool false,sb):=by rw[←zg];exact qb
    obtain⟨m3,b3,t3,c3,mz,hU,hr3,hz3⟩:=ay hr2
    obtain⟨rfl,rfl,rfl⟩:=bM hr3
    obtain⟨m4,fw,t,ds,GM,rfl,kL,rfl⟩:=A9 hU
    rw[aw,aT,aZ]at hb
    have xab:=xa.trans xb
    have Rp:=(xab.fr L hlt hj).trans hL
    have Zk:=iN Rp
    obtain⟨n,rfl⟩:∃j,n=j+3:=⟨n-3,by omega⟩
    obtain⟨s1,J1,q1,p1,x1⟩:=A' (k:=26) (v:=.fn 226 [] [.box [.ref P 0] 0,.ref L 0]) H9 hb rfl n fun s3 lv J3 p3 x3=>by
     have G1:=(x3.fr L Zk (xab.mA hlt hj)).trans Rp
     obtain⟨s4,J4,r,e4,p4,x4⟩:=acp bl (n:=n+2) (m:=m4) (by omega) p3 kL (by rw[bJ];show base.length+1+_<_;omega) G1 (x3.mA Zk (xab.mA hlt hj))
     exact⟨s4,J4,r,e4,p4,x4⟩
    have e1:ab Tryz.prog (den C (n+3)) 210 [.ref P 0,.int .i64 26,.fn 226 [] [.box [.ref P 0] 0,.ref L 0]] sb=some (.aI [],s1):=q1
    refine⟨s1,J1,fun n' e fy wL re=>?_,p1,xab.trans x1⟩
    rw[lV]
    simp -implicitDefEqProofs only[sL,fy,wL,re,r3.ld1,Mp,cD,aj,ea,eb,e1]
end ParF
end

section
namespace ParF
open Go Go.Abs Go.Proofs Pm
theorem acq {ts:List Tok}{m:Nat}(H:∀k<m,cd ts k):eK ts m (l_) bv (ef 201 fun P=>[.ref P 0]):=by
 intro n hn P s rest base k cs J b rest' bY h hr hb
 obtain⟨n,rfl⟩:∃j,n=j+1:=⟨n-1,by omega⟩
 obtain⟨s1,q1,p1,x1⟩:=(cN (ts:=ts) [Tf] (by decide:1<50)).use (n:=n) (by omega) h
 obtain⟨m1,hm1,sS⟩:=aO hr
 rcases sS with ⟨gR,bG⟩|⟨gR,bG⟩
 ·have e1:ab Tryz.prog (den C n) 99 [.ref P 0,.sl 9 1 [.str [108,101,116]] .sh] s=some (.bool true,s1):=by rw[←gR];exact q1
  obtain⟨m2,b2,t2,c2,hm2,GO,hr2,hz2⟩:=ay bG
  obtain⟨s3,J3,q3,p3,x3⟩:=(aR (ts:=ts) (m:=m2) (k:=22) (v:=fun P=>.fn 221 [.ref P 0] []) (fun _=>rfl) (fun k hk=>abG (fun k hk=>H k (by omega)))) n (by omega) P s1 rest base k cs J b2 t2 c2 p1 GO (by omega)
  have e3:ab Tryz.prog (den C n) 103 [.ref P 0,.int .i64 22,.fn 221 [.ref P 0] []] s1=some (.aI [],s3):=q3
  obtain⟨rfl,rfl,rfl⟩:=bM hr2
  refine⟨s3,J3,?_,p3,(x1.trans x3)⟩
  show ab Tryz.prog (den C (n+1)) 201 [.ref P 0] s=_
  rw[aF AQ (a7 ..),qf,Gu]
  simp -implicitDefEqProofs only[sL,cD,cW,cT,aj,aq,ax,ar,av,e1,e3]
 ·have e1:ab Tryz.prog (den C n) 99 [.ref P 0,.sl 9 1 [.str [108,101,116]] .sh] s=some (.bool false,s1):=by rw[←gR];exact q1
  obtain⟨s4,q4,p4,x4⟩:=(cN (ts:=ts) [C8] (by decide:1<50)).use (n:=n) (by omega) p1
  obtain⟨m4,GM,H7⟩:=aO bG
  rcases H7 with ⟨sC,kL⟩|⟨sC,kL⟩
  ·have e4:ab Tryz.prog (den C n) 99 [.ref P 0,.sl 9 1 [.str [119,104,105,108,101]] .sh] s1=some (.bool true,s4):=by rw[←sC];exact q4
   obtain⟨m5,b5,t5,c5,xA,mG,il,zG⟩:=ay kL
   obtain⟨s6,J6,q6,p6,x6⟩:=(aR (ts:=ts) (m:=m5) (k:=24) (v:=fun P=>.fn 222 [] [.box [.ref P 0] 0]) (fun _=>rfl) (fun k hk=>abH (fun k hk=>H k (by omega)))) n (by omega) P s4 rest base k cs J b5 t5 c5 p4 mG (by omega)
   have e6:ab Tryz.prog (den C n) 103 [.ref P 0,.int .i64 24,.fn 222 [] [.box [.ref P 0] 0]] s4=some (.aI [],s6):=q6
   obtain⟨rfl,rfl,rfl⟩:=bM il
   refine⟨s6,J6,?_,p6,((x1.trans x4).trans x6)⟩
   show ab Tryz.prog (den C (n+1)) 201 [.ref P 0] s=_
   rw[aF AQ (a7 ..),qf,Gu]
   simp -implicitDefEqProofs only[sL,cD,cW,cT,aj,aq,ax,ar,av,e1,e4,e6]
  ·have e4:ab Tryz.prog (den C n) 99 [.ref P 0,.sl 9 1 [.str [119,104,105,108,101]] .sh] s1=some (.bool false,s4):=by rw[←sC];exact q4
   obtain⟨s7,q7,p7,x7⟩:=(cN (ts:=ts) [yR] (by decide:1<50)).use (n:=n) (by omega) p4
   obtain⟨m7,Rb,ho7⟩:=aO kL
   rcases ho7 with ⟨TG,oG⟩|⟨TG,oG⟩
   ·have e7:ab Tryz.prog (den C n) 99 [.ref P 0,.sl 9 1 [.str [114,101,116,117,114,110]] .sh] s4=some (.bool true,s7):=by rw[←TG];exact q7
    obtain⟨m8,b8,t8,c8,hm8,ha8,Aa,hz8⟩:=ay oG
    obtain⟨s9,J9,q9,p9,x9⟩:=(aR (ts:=ts) (m:=m8) (k:=25) (v:=fun P=>.fn 223 [.ref P 0] []) (fun _=>rfl) (fun k hk=>abI (fun k hk=>H k (by omega)))) n (by omega) P s7 rest base k cs J b8 t8 c8 p7 ha8 (by omega)
    have e9:ab Tryz.prog (den C n) 103 [.ref P 0,.int .i64 25,.fn 223 [.ref P 0] []] s7=some (.aI [],s9):=q9
    obtain⟨rfl,rfl,rfl⟩:=bM Aa
    refine⟨s9,J9,?_,p9,(((x1.trans x4).trans x7).trans x9)⟩
    show ab Tryz.prog (den C (n+1)) 201 [.ref P 0] s=_
    rw[aF AQ (a7 ..),qf,Gu]
    simp -implicitDefEqProofs only[sL,cD,cW,cT,aj,aq,ax,ar,av,e1,e4,e7,e9]
   ·have e7:ab Tryz.prog (den C n) 99 [.ref P 0,.sl 9 1 [.str [114,101,116,117,114,110]] .sh] s4=some (.bool false,s7):=by rw[←TG];exact q7
    obtain⟨aef,aeG,aeH,r10,aeI,Zl⟩:=p7.xw
    obtain⟨s10,oF,qD,rK⟩:=(cN (ts:=ts) [Mi,u9,j5] (by decide:3<50)).use (n:=n) (by omega) p7
    obtain⟨m10,aeJ,acr⟩:=aO oG
    rcases acr with ⟨Ug,Uh⟩|⟨Ug,Uh⟩
    ·have mQ:ab Tryz.prog (den C n) 99 [.ref P 0,.sl 9 1 [.str [105,102],.str [109,97,116,99,104],.str [123]] .sh] s7=some (.bool true,s10):=by rw[←Ug];exact oF
     obtain⟨m11,b11,t11,c11,Ty,acu,aeK,Bf⟩:=E7 Uh
     have acv:=qD.app [(4,[.bool true])]
     have Zm:s10.length∉J:=fun hm=>by obtain⟨pp,ii,_,hh⟩:=qD;exact Nat.lt_irrefl _ (hh.lt _ hm)
     obtain⟨acw,aeL,acx,acy,Ui⟩:=((H m11 (by omega)).pr) n (by omega) P _ rest base k cs J b11 t11 c11 acv acu (by omega)
     have acz:ab Tryz.prog (den C n) 224 [.ref P 0] (s10++[(4,[.bool true])])=some (.aI [],acw):=acx
     have Y0:=(Ui.fr s10.length (by rw[aP];omega) Zm).trans aW
     obtain⟨s11,JK,acA,z_,xC⟩:=Bj (rest0:=rest) (m:=m11) (fun k hk=>H k (by omega)) true (n:=n) (by omega) acy Zl Bf hb Y0 (Ui.mA (by rw[aP];omega) Zm)
     have Zn:aB 1 (s10++[(4,[.bool false])]) (.ref s10.length 0) (.bool true)=some (s10++[(4,[.bool true])]):=by rw[ParF.st (o:=0) (n:=1) (v:=.bool true) aW (by decide) rfl rfl (by show 0+1≤1;omega),eG];rfl
     have acB:af false false 1 (.ref s10.length 0) (s10++[(4,[.bool true])])=some (.bool true,s10++[(4,[.bool true])]):=ld (n:=1) (o:=0) (aW (x:=(4,[.bool true]))) (by decide) rfl (by decide)
     refine⟨s11,JK,?_,z_,((((((x1.trans x4).trans x7).trans rK).trans (Ex.app _ _ _)).trans Ui).trans xC)⟩
     show ab Tryz.prog (den C (n+1)) 201 [.ref P 0] s=_
     rw[aF AQ (a7 ..),qf,Gu]
     simp -implicitDefEqProofs only[sL,cD,cW,cT,aj,aq,ax,ar,av,e1,e4,e7,r10.ld1,mQ,Bi,Zn,acB,acz]
     exact acA _ _ rfl rfl rfl
    ·have mQ:ab Tryz.prog (den C n) 99 [.ref P 0,.sl 9 1 [.str [105,102],.str [109,97,116,99,104],.str [123]] .sh] s7=some (.bool false,s10):=by rw[←Ug];exact oF
     obtain⟨m12,b12,t12,c12,abB,Tz,abD,acC⟩:=E7 Uh
     have acD:=qD.app [(4,[.bool false])]
     have Zo:s10.length∉J:=fun hm=>by obtain⟨pp,ii,_,hh⟩:=qD;exact Nat.lt_irrefl _ (hh.lt _ hm)
     obtain⟨acE,aeM,acF,acG,Uj⟩:=((H m12 (by omega)).ex) n (by omega) P _ rest base k cs J b12 t12 c12 acD Tz (by omega)
     have acH:ab Tryz.prog (den C n) 151 [.ref P 0] (s10++[(4,[.bool false])])=some (.aI [],acE):=acF
     have acI:=(Uj.fr s10.length (by rw[aP];omega) Zo).trans aW
     obtain⟨s12,TA,acJ,Mt,GR⟩:=Bj (rest0:=rest) (m:=m12) (fun k hk=>H k (by omega)) false (n:=n) (by omega) acG Zl acC hb acI (Uj.mA (by rw[aP];omega) Zo)
     have Zp:aB 1 (s10++[(4,[.bool false])]) (.ref s10.length 0) (.bool false)=some (s10++[(4,[.bool false])]):=by rw[ParF.st (o:=0) (n:=1) (v:=.bool false) aW (by decide) rfl rfl (by show 0+1≤1;omega),eG];rfl
     have acK:af false false 1 (.ref s10.length 0) (s10++[(4,[.bool false])])=some (.bool false,s10++[(4,[.bool false])]):=ld (n:=1) (o:=0) (aW (x:=(4,[.bool false]))) (by decide) rfl (by decide)
     refine⟨s12,TA,?_,Mt,((((((x1.trans x4).trans x7).trans rK).trans (Ex.app _ _ _)).trans Uj).trans GR)⟩
     show ab Tryz.prog (den C (n+1)) 201 [.ref P 0] s=_
     rw[aF AQ (a7 ..),qf,Gu]
     simp -implicitDefEqProofs only[sL,cD,cW,cT,aj,aq,ax,ar,av,e1,e4,e7,r10.ld1,mQ,Bi,Zp,acK,acH]
     exact acJ _ _ rfl rfl rfl
end ParF
end

section
namespace ParF
open Go Go.Abs Go.Proofs Pm
def Uk:mO:=fun t _ _=>!eN [gO] t&&!(t.1==100)&&!eN cy t
theorem ub {ts:List Tok}{n P:Nat}{s:ag}{v:Bool}{m8 m7:Nat}(h8:m8*20+ts.length+100≤n)(h7:m7*20+ts.length+100≤n){t9 t8 rest':List Tok}{c9 c8 bY:List az}{base:List Lv}{k:Nat}{J:List Nat}{b8 b':Bool}
  (h:PR ts P s t9 base k c9 J)(Aa:run m8 (if v=true then ft else .put 0) t9 c9=some (b8,t8,c8))(oG:run m7 (a6 gO) t8 c8=some (b',rest',bY))(hb:base.length+dC bY<900000000) :
  ∃s1 s' J',(v=false→ab Tryz.prog (den C n) 172 [.ref P 0] s=some (.aI [],s1))∧(v=true→s1=s)∧ab Tryz.prog (den C n) 149 [.ref P 0,.str [125]] s1=some (.aI [],s')∧PR ts P s' rest' base k bY J'∧Ex s s' J J':=by
 have hz8:dC c8≤dC bY:=fI (fH _ _ _ _ _ _ _ oG)
 cases v with
 | true =>
  obtain⟨-,rfl,rfl⟩:=bM Aa
  obtain⟨s',J',e,p,x⟩:=bq ts m7 gO n h7 P s t8 base k c8 J b' rest' bY h oG hb
  exact⟨s,s',J',nofun,fun _=>rfl,e,p,x⟩
 | false =>
  obtain⟨s1,J1,e1,p1,x1⟩:=(ga ts m8).2.2 n h8 P s t9 base k c9 J b8 t8 c8 h Aa (by omega)
  obtain⟨s',J',e,p,x⟩:=bq ts m7 gO n h7 P s1 t8 base k c8 J1 b' rest' bY p1 oG hb
  exact⟨s1,s',J',fun _=>e1,nofun,e,p,x1.trans x⟩
theorem G2 {n P:Nat}{s s':ag}(k3:ab Tryz.prog (den C n) 149 [.ref P 0,.str [125]] s=some (.aI [],s')){M n':Nat}{e:Env}(eM:e 0=pb P)(fy:e 1=.bool true):aJ (jw (den C n) n') (M+1) e s=some (.aI [],s'):=by
 rw[aJ,jw]
 simp -implicitDefEqProofs only[sL,eM,fy,Bool.false_eq_true,ite_false,nR,ai,cV,an,Mr,k3,jJ]
 exact bT (by kernel_rfl)
theorem acL {ts:List Tok}{n P:Nat}{m8 m7:Nat}(h8:m8*20+ts.length+100≤n)(h7:m7*20+ts.length+100≤n):∀(m:Nat),(∀k<m,cd ts k)→m*20+ts.length+110≤n→∀s rest base k cs J v t9 c9 b8 t8 c8 b' rest' bY,PR ts P s rest base k cs J→run m (.dH Uk (.call 2)) rest cs=some (v,t9,c9) →
  run m8 (if v=true then ft else .put 0) t9 c9=some (b8,t8,c8)→run m7 (a6 gO) t8 c8=some (b',rest',bY)→base.length+dC bY<900000000 →
  ∃s' J',(∀M n' e,m+1<M→e 0=pb P→e 1=.bool false→aJ (jw (den C n) n') M e s=some (.aI [],s'))∧PR ts P s' rest' base k bY J'∧Ex s s' J J':=by
 intro m
 induction m with
 | zero=>intro _ _ s rest base k cs J v t9 c9 b8 t8 c8 b' rest' bY h hr;rw[Pm.cJ]at hr;cases hr
 | succ m ih =>
  intro H hn s rest base k cs J v t9 c9 b8 t8 c8 b' rest' bY h hr Aa oG hb
  have hn0:m*20+ts.length+110≤n:=by omega
  have H0:∀k<m,cd ts k:=fun k hk=>H k (Nat.lt_succ_of_lt hk)
  have Tx:dC c9≤dC bY:=Nat.le_trans (fI (fH _ _ _ _ _ _ _ Aa)) (fI (fH _ _ _ _ _ _ _ oG))
  have hmn:(m+1)*20+ts.length+100≤n:=by omega
  obtain⟨sa,qa,pa,xa⟩:=(cN (ts:=ts) [gO] (by decide:1<50)).use (n:=n) (by omega) h
  obtain⟨sb,qb,H9,xb⟩:=(zd ts).use (n:=n) (by omega) pa
  have ek:=iE.of (n:=n) (by omega) sb
  obtain⟨sc,qc,pc,xc⟩:=(cN (ts:=ts) cy (by decide)).use (n:=n) (by omega) H9
  have hs:(strs cy).aa=strs cy:=rfl
  have Zq:aV [AV.ref P 0,.sl 9 1 [.str [125]] .sh]=false:=a7 ..
  have Rq:aV [AV.ref P 0]=false:=a7 ..
  have Wc:aV [AV.ref P 0,strs cy]=false:=a7 ..
  have sB:ev Uk rest=(!eN [gO] (pk rest)&&!(ev sQ rest)&&!eN cy (pk rest)):=rfl
  obtain⟨m',hm',hw⟩:=gq hr
  cases hm'
  have E8:ab Tryz.prog (den C n) 99 [.ref P 0,.sl 9 1 [.str [125]] .sh] s=some (.bool (eN [gO] (pk rest)),sa):=qa
  have Du:ab Tryz.prog (den C n) 64 [.ref P 0] sa=some (.bool (ev sQ rest),sb):=qb
  have JW:ab Tryz.prog (den C n) 99 [.ref P 0,strs cy] sb=some (.bool (eN cy (pk rest)),sc):=qc
  rcases hw with ⟨hc,rfl,rfl,rfl⟩|⟨hc,nu,rfl⟩|⟨hc,tw,cw,nu,ww,OM⟩
  ·-- the end
   rw[hc]at sB
   cases h1:eN [gO] (pk t9) with
   | true =>
    rw[h1]at E8
    obtain⟨s1,s',J',k1,k2,k3,p',x'⟩:=ub h8 h7 pa Aa oG hb
    have k1:=k1 rfl
    refine⟨s',J',fun M n' e hM eM fy=>?_,p',xa.trans x'⟩
    obtain⟨M,rfl⟩:∃j,M=j+1:=⟨M-1,by omega⟩
    rw[aJ,jw]
    simp -implicitDefEqProofs only[sL,eM,fy,cD,aj,E8,Zq,Bool.false_eq_true,ite_false,k1,nR,ai,cV,an,Mr,k3,jJ]
    exact bT (by kernel_rfl)
   | false =>
    rw[h1]at E8 sB
    cases h2:ev sQ t9 with
    | true =>
     rw[h2]at Du
     obtain⟨s1,s',J',k1,k2,k3,p',x'⟩:=ub h8 h7 H9 Aa oG hb
     have k1:=k1 rfl
     refine⟨s',J',fun M n' e hM eM fy=>?_,p',(xa.trans xb).trans x'⟩
     obtain⟨M,rfl⟩:∃j,M=j+1:=⟨M-1,by omega⟩
     rw[aJ,jw]
     simp -implicitDefEqProofs only[sL,eM,fy,cD,aj,E8,Du,Zq,Rq,Bool.false_eq_true,ite_false,k1,nR,ai,cV,an,Mr,k3,jJ]
     exact bT (by kernel_rfl)
    | false =>
     rw[h2]at Du sB
     have h3:eN cy (pk t9)=true:=by simpa using sB
     rw[h3]at JW
     obtain⟨s1,s',J',k1,k2,k3,p',x'⟩:=ub h8 h7 pc Aa oG hb
     have k1:=k1 rfl
     refine⟨s',J',fun M n' e hM eM fy=>?_,p',((xa.trans xb).trans xc).trans x'⟩
     obtain⟨M,rfl⟩:∃j,M=j+1:=⟨M-1,by omega⟩
     rw[aJ,jw]
     simp -implicitDefEqProofs only[sL,eM,fy,cD,aj,E8,Du,ek,hs,JW,Zq,Rq,Wc,Bool.false_eq_true,ite_false,k1,nR,ai,cV,an,Mr,k3,jJ,C5]
  ·-- the value
   rw[hc]at sB
   simp only[Bool.true_eq,Bool.and_eq_true,Bool.not_eq_true']at sB
   obtain⟨⟨h1,h2⟩,h3⟩:=sB
   rw[h1]at E8
   rw[h2]at Du
   rw[h3]at JW
   obtain⟨s4,J4,q4,p4,x4⟩:=(H m (Nat.lt_succ_self m)).st n (by omega) P sc rest base k cs J true t9 c9 pc nu (by omega)
   have e4:ab Tryz.prog (den C n) 201 [.ref P 0] sc=some (.bool true,s4):=q4
   obtain⟨s1,s',J',k1,k2,k3,p',x'⟩:=ub h8 h7 p4 Aa oG hb
   have k2:=k2 rfl
   subst k2
   refine⟨s',J',fun M n' e hM eM fy=>?_,p',(((xa.trans xb).trans xc).trans x4).trans x'⟩
   obtain⟨M,rfl⟩:∃j,M=j+2:=⟨M-2,by omega⟩
   rw[aJ,jw]
   simp -implicitDefEqProofs only[sL,eM,fy,cD,aj,E8,Du,ek,hs,JW,Zq,Rq,Wc,Bool.false_eq_true,ite_false,C5,e4]
   exact G2 k3 ((ao _ _ _ rfl).trans eM) (by simp[ai,an])
  ·-- one more
   rw[hc]at sB
   simp only[Bool.true_eq,Bool.and_eq_true,Bool.not_eq_true']at sB
   obtain⟨⟨h1,h2⟩,h3⟩:=sB
   rw[h1]at E8
   rw[h2]at Du
   rw[h3]at JW
   obtain⟨s4,J4,q4,p4,x4⟩:=(H m (Nat.lt_succ_self m)).st n (by omega) P sc rest base k cs J false tw cw pc nu (by omega)
   have e4:ab Tryz.prog (den C n) 201 [.ref P 0] sc=some (.bool false,s4):=q4
   obtain⟨s6,J6,e6,p6,x6⟩:=ih H0 hn0 s4 tw base k cw J4 v t9 c9 b8 t8 c8 b' rest' bY p4 ww Aa oG hb
   refine⟨s6,J6,fun M n' e hM eM fy=>?_,p6,(((xa.trans xb).trans xc).trans x4).trans x6⟩
   obtain⟨M,rfl⟩:∃j,M=j+1:=⟨M-1,by omega⟩
   rw[aJ,jw]
   simp -implicitDefEqProofs only[sL,eM,fy,cD,aj,E8,Du,ek,hs,JW,Zq,Rq,Wc,Bool.false_eq_true,ite_false,C5,e4]
   exact e6 _ _ _ (by omega) ((ao _ _ _ rfl).trans eM) (by simp[ai,an])
theorem acM {ts:List Tok}{m:Nat}(H:∀k<m,cd ts k):eK ts m (.seq (a6 j5) (.seq (.yV (.dH Uk (.call 2)) ft (.put 0)) (a6 gO))) vd (ef 200 fun P=>[.box [.ref P 0] 0]):=by
 intro n hn P s rest base k cs J b rest' bY h hr hb
 obtain⟨n,rfl⟩:∃j,n=j+1:=⟨n-1,by omega⟩
 obtain⟨m1,b1,t1,c1,hm1,dA,bG,hz1⟩:=ay hr
 obtain⟨m2,b2,t2,c2,hm2,GO,hr2,hz2⟩:=ay bG
 obtain⟨m3,v,t3,c3,mz,hU,hz3,Cj⟩:=E3 GO
 have Aa:run m3 (if v=true then ft else .put 0) t3 c3=some (b2,t2,c2):=by
  rcases Cj with ⟨hv,h⟩|⟨hv,h⟩<;>subst hv<;>exact h
 obtain⟨s1,J1,q1,p1,x1⟩:=bq ts m1 j5 n (by omega) P s rest base k cs J b1 t1 c1 h dA (by omega)
 have e1:ab Tryz.prog (den C n) 149 [.ref P 0,.str [123]] s=some (.aI [],s1):=q1
 obtain⟨s2,J2,e2,p2,x2⟩:=acL (P:=P) (n:=n) (m8:=m3) (m7:=m2) (by omega) (by omega) m3 (fun k hk=>H k (by omega)) (by omega) s1 t1 base k c1 J1 v t3 c3 b2 t2 c2 b rest' bY p1 hU Aa hr2 hb
 refine⟨s2,J2,?_,p2,x1.trans x2⟩
 show ab Tryz.prog (den C (n+1)) 200 [.box [.ref P 0] 0] s=_
 rw[aF XS (dF ..),NM,XR]
 simp -implicitDefEqProofs only[sL,e1]
 exact e2 _ _ _ (by omega) rfl rfl
theorem acN {ts:List Tok}{m:Nat}(H:∀k<m,cd ts k):eK ts m Dc vd (ef 173 fun P=>[.ref P 0]):=by
 intro n hn P s rest base k cs J b rest' bY h hr hb
 obtain⟨n,rfl⟩:∃j,n=j+1:=⟨n-1,by omega⟩
 obtain⟨s1,J1,q1,p1,x1⟩:=(aR (ts:=ts) (m:=m) (k:=21) (v:=fun P=>.fn 200 [] [.box [.ref P 0] 0]) (fun _=>rfl) (fun k hk=>acM (fun k hk=>H k (by omega)))) n (by omega) P s rest base k cs J b rest' bY h hr hb
 have e1:ab Tryz.prog (den C n) 103 [.ref P 0,.int .i64 21,.fn 200 [] [.box [.ref P 0] 0]] s=some (.aI [],s1):=q1
 refine⟨s1,J1,?_,p1,x1⟩
 show ab Tryz.prog (den C (n+1)) 173 [.ref P 0] s=_
 rw[aF Xu (a7 ..),NA,Xt]
 simp -implicitDefEqProofs only[sL,aq,e1]
theorem OV (ts:List Tok):∀(n m:Nat),m<n→cd ts m:=by
 intro n
 induction n with
 | zero=>intro m h;omega
 | succ n ih =>
  intro m hm
  have H:∀k<m,∀j<k,cd ts j:=fun k hk j hj=>ih j (by omega)
  refine⟨ja fun k hk=>abu (H k hk),ja fun k hk=>acN (H k hk),ja fun k hk=>acq (H k hk),ja fun k hk=>ab' (H k hk),ja fun k hk=>ab1 (H k hk),ja fun k hk=>abP (H k hk),?_,ja fun k hk=>Zf (H k hk),?_⟩
  ·intro n hn P s rest base k cs J b rest' bY h hr hb
   obtain⟨m',hm',bG⟩:=vv hr
   obtain⟨n,rfl⟩:∃j,n=j+1:=⟨n-1,by omega⟩
   obtain⟨s1,J1,q1,p1,x1⟩:=Zj (ts:=ts) (m:=m') 0 (by decide) (H m' (by omega)) n (by omega) P s rest base k cs J b rest' bY h bG hb
   have e1:ab Tryz.prog (den C n) 187 [.ref P 0,.int .i64 0] s=some (.aI [],s1):=q1
   refine⟨s1,J1,?_,p1,x1⟩
   show ab Tryz.prog (den C (n+1)) 151 [.ref P 0] s=_
   rw[aF Xi (a7 ..),Nu,Xh]
   simp -implicitDefEqProofs only[sL,e1]
  ·intro l hl
   by_cases h5:l=5
   ·subst h5
    intro n hn P s rest base k cs J b rest' bY h hr hb
    obtain⟨m',hm',bG⟩:=vv hr
    obtain⟨n,rfl⟩:∃j,n=j+1:=⟨n-1,by omega⟩
    obtain⟨s1,J1,q1,p1,x1⟩:=Zf (ts:=ts) (m:=m') (H m' (by omega)) n (by omega) P s rest base k cs J b rest' bY h bG hb
    have e1:ab Tryz.prog (den C n) 208 [.ref P 0] s=some (.aI [],s1):=q1
    refine⟨s1,J1,?_,p1,x1⟩
    show ab Tryz.prog (den C (n+1)) 187 [.ref P 0,.int .i64 5] s=_
    rw[aF QT (a7 ..),EG,SM]
    simp -implicitDefEqProofs only[sL,show ((5:Int)==5)=true from rfl,aq,av,e1]
   ·refine ja fun k hk=>?_
    have hd:ot (10+l)=iM l:=by
     match l,hl,h5 with
     | 0,_,_=>rfl
     | 1,_,_=>rfl
     | 2,_,_=>rfl
     | 3,_,_=>rfl
     | 4,_,_=>rfl
     | 5,_,h5=>exact absurd rfl h5
    rw[hd]
    exact Zj l (by omega) (H k hk)
theorem acO (ts:List Tok)(m:Nat):cd ts m:=OV ts (m+1) m (Nat.lt_succ_self m)
end ParF
end

section
namespace ParF
open Go Go.Abs Go.Proofs Pm
theorem JX {m:Nat}{ts eY:List Tok}{cs bY:List az}{b:Bool}(h:run m .gZ ts cs=some (b,eY,bY)):∃fw t,cs=fw++[t]∧bY=fw++[.mk 0 [] [],t]∧eY=ts∧b=false:=by
 obtain⟨m,rfl⟩:=dz h
 rw[ve]at h
 obtain⟨t,h0,h⟩:=Option.bind_eq_some_iff.1 h
 cases h
 exact⟨cs.dropLast,t,fC h0,rfl,rfl,rfl⟩
theorem Zr:ah Tryz.prog 182=true:=by kernel_rfl
theorem OW {ts:List Tok}{P:Nat}{s:ag}{rest:List Tok}{base:List Lv}{k0:Nat}{fw:List az}{t:az}{J:List Nat}(h:PR ts P s rest base k0 (fw++[t]) J)(hb:fw.length<900000000) :
  ∃Q id s1 s' J',af false false 1 (.ref P 2) s=some (.rs 89 3 Q 0 (base.length+1),s)∧af false false 1 (.ref Q (base.length*3+2)) s=some (.rs 89 3 id 0 (fw.length+1),s) ∧
   (∀n,ab Tryz.prog (den C (n+1)) 182 [.rs 89 3 id 0 (fw.length+1),I fw.length,.sl 89 3 [sR] .sh] s=some (.rs 89 3 s.length 0 (fw.length+2),s1)) ∧
   aB 1 s1 (.ref Q (base.length*3+2)) (.rs 89 3 s.length 0 (fw.length+2))=some s'∧PR ts P s' rest base k0 (fw++[.mk 0 [] [],t]) J'∧Ex s s' J J':=by
 obtain⟨pos,i,rfl,h⟩:=h
 obtain⟨tk,Q,junk,f,rfl⟩:=h.facts
 have hP:=iN f.par
 have hQ:=iN f.row
 have Mm:=f.ok
 obtain⟨id,rfl⟩:∃id,i=some id:=by
  cases i with
  | none=>have h0:fw++[t]=[]:=Mm;simp at h0
  | some id=>exact⟨id,rfl⟩
 obtain⟨rows,cj,h1,h2,h3⟩:=Mm
 obtain⟨r1,r2,rfl,l1,l2⟩:=ou.split h2
 cases l2 with
 | cons _ a _ _ ht l3 =>
 cases l3 with
 | nil =>
 obtain⟨c1,c2,c3,c4⟩:=ht.cells
 obtain⟨d1,d2,d3,d4⟩:=l1.cells
 obtain⟨tP,tQ,tl⟩:=f.Jv id rfl
 rw[fY]at h1
 have hil:(fw++[t]).length=fw.length+1:=by rw[bJ];rfl
 have e3:(fw.length+1-1)*3=(cellsOf r1).length:=by omega
 have Ml:(cellsOf r1++a.cells++cj).take ((fw.length+1-1)*3)=cellsOf r1:=by
  rw[e3,List.append_assoc,List.take_append_of_le_length (Nat.le_refl _),List.take_of_length_le (Nat.le_refl _)]
 have dk1:((cellsOf r1++a.cells++cj).drop ((fw.length+1-1)*3)).take 3=a.cells:=by
  rw[e3,List.append_assoc,List.drop_left,List.take_append_of_le_length (by omega),List.take_of_length_le (by omega)]
 have Zs:∀n,ab Tryz.prog (den C (n+1)) 182 [.rs 89 3 id 0 (fw.length+1),I fw.length,.sl 89 3 [sR] .sh] s=some (.rs 89 3 s.length 0 (fw.length+2),kill s id++[(89,cellsOf r1++[I 0,.str [],.aN]++a.cells)]):=by
  intro n
  rw[aF Zr (by rw[aC];rfl),gx (e:=nN) (by rfl)]
  simp only[nN,h1]
  have ow1:a.cells.all (fun x=>!x.ct)=true:=by
   rw[←c2,List.all_eq_true];intro x hx
   obtain⟨q,_,rfl⟩:=List.mem_map.1 hx
   rw[bV];rfl
  rw[if_pos ⟨trivial,trivial,trivial,by omega,by omega,by first|exact trivial|rfl,by rw[bJ,bJ];omega,by omega,by rw[dk1];exact ow1⟩,Ml,dk1]
  rfl
 have fr1:∀x,x<s.length→x≠id→(kill s id++[(89,cellsOf r1++[I 0,.str [],.aN]++a.cells)])[x]?=s[x]?:=fun x hx hne=>by
  rw[bE (by rw[bw];exact hx),fS (Ne.symm hne)]
 have acP:(kill s id++[(89,cellsOf r1++[I 0,.str [],.aN]++a.cells)])[s.length]?=some (89,cellsOf r1++[I 0,.str [],.aN]++a.cells):=by
  have:=aW (s:=kill s id) (x:=(89,cellsOf r1++[I 0,.str [],.aN]++a.cells))
  rw[bw]at this;exact this
 have q1:=(fr1 Q hQ (Ne.symm tQ)).trans f.row
 have zi:(kill s id++[(89,cellsOf r1++[I 0,.str [],.aN]++a.cells)]).length=s.length+1:=by rw[aP,bw]
 generalize Cg:kill s id++[(89,cellsOf r1++[I 0,.str [],.aN]++a.cells)]=s1 at *
 have hrl:=eJ (base++[(⟨k0,fw++[t],some id⟩:Lv)])
 rw[bJ]at hrl
 have st1:=ParF.st (s:=s1) (o:=base.length*3+2) (n:=1) (v:=.rs 89 3 s.length 0 (fw.length+2)) q1 (by decide) rfl rfl (by rw[bJ,hrl];show _≤3*(base.length+1)+_;omega)
 have Dm:dv (.rs 89 3 s.length 0 (fw.length+2))=[AV.rs 89 3 s.length 0 (fw.length+2)]:=rfl
 rw[Dm,t_]at st1
 have GK:∀x,x≠Q→(s1.set Q (89,base.flatMap Lv.row++[I (k0:Nat),.str [],.rs 89 3 s.length 0 (fw.length+2)]++junk))[x]?=s1[x]?:=fun x hne=>bu (Ne.symm hne)
 refine⟨Q,id,s1,_,_,ld (o:=2) f.par (by decide) rfl (by decide),?_,Zs,st1,⟨pos,some s.length,rfl,Fs.ps (tk:=tk) (Q:=Q) (junk:=junk) (l:=⟨k0,fw++[.mk 0 [] [],t],some s.length⟩) ⟨f.pw,?_,?_,f.ne,fun i hi=>?_,fun i hi=>?_,f.nd,⟨r1++[sR,a],[],?_,?_,?_⟩,fun l' ov=>?_,f.pos,f.len⟩⟩,?_⟩
 ·rw[ld (n:=1) (o:=base.length*3+2) f.row (by decide) (vu 2 (by decide)) (by decide),lC,←hil];rfl
 ·rw[GK P f.ne,fr1 P hP (Ne.symm tP)];exact f.par
 ·have e2:(fw++[az.mk 0 [] [],t]).length=fw.length+2:=by rw[bJ];rfl
  rw[bK q1,gM]
  show _=some (89,base.flatMap Lv.row++[I (k0:Nat),.str [],.rs 89 3 s.length 0 (fw++[az.mk 0 [] [],t]).length]++junk)
  rw[e2]
 ·obtain⟨a1,a2,a3,a4⟩:=f.iP i hi
  exact⟨a1,a2,by rw[bh];omega,fun e=>by cases e;omega⟩
 ·cases hi
  exact⟨by omega,by omega,by rw[bh];omega⟩
 ·rw[GK s.length (by omega),acP,dY]
  show _=some (89,cellsOf r1++(sR.cells++(a.cells++[]))++[])
  rw[List.append_nil,List.append_nil,List.append_assoc]
  rfl
 ·exact l1.append (.cons _ _ _ _ (.mk _ _ _ _ .nil) (.cons _ _ _ _ ht .nil))
 ·intro e;have:=congrArg List.length e;rw[dY,bJ,bJ]at this
  have h0:(cellsOf [sR,a]).length=3+(a.cells.length+0):=by
   show (sR.cells++(a.cells++[])).length=_
   rw[bJ,bJ];rfl
  rw[h0]at this
  simp at this
 ·refine Lv.fT (f.Tl l' ov) fun i hi=>?_
  obtain⟨a1,a2,a3,a4⟩:=f.iP i (List.mem_filterMap.2 ⟨l',ov,hi⟩)
  rw[GK i a2,fr1 i a3 (fun e=>a4 (by rw[e]))]
 ·refine⟨by rw[bh];omega,fun x hx hj=>?_,fun x hx=>?_⟩
  ·unfold JJ at hj
   simp only[List.mem_cons,List.mem_append,Option.mem_toList,not_or]at hj
   rw[GK x hj.2.1,fr1 x hx (fun e=>hj.2.2.2 (by rw[e]))]
  ·unfold JJ at hx ⊢
   simp only[List.mem_cons,List.mem_append,Option.mem_toList]at hx ⊢
   rcases hx with k|k|k|k
   ·exact .inl (.inl k)
   ·exact .inl (.inr (.inl k))
   ·exact .inl (.inr (.inr (.inl k)))
   ·cases k;exact .inr (Nat.le_refl _)
end ParF
end

section
namespace ParF
open Go Go.Abs Go.Proofs Pm
theorem acQ {ts:List Tok}{m:Nat}(H:∀k<m,cd ts k):eK ts m (AU) vd (ef 148 fun P=>[.ref P 0]):=by
 intro n hn P s rest base k cs J b rest' bY h hr hb
 obtain⟨n,rfl⟩:∃j,n=j+1:=⟨n-1,by omega⟩
 obtain⟨m1,b1,t1,c1,hm1,dA,bG,hz1⟩:=ay hr
 obtain⟨s2,J2,q2,p2,x2⟩:=(JG (ts:=ts) (m:=m1) (fun k hk=>H k (by omega))) n (by omega) P s rest base k cs J b1 t1 c1 h dA (by omega)
 have e2:ab Tryz.prog (den C n) 170 [.ref P 0] s=some (.aI [],s2):=q2
 obtain⟨m3,b3,t3,c3,mz,hU,hr3,hz3⟩:=ay bG
 obtain⟨s4,J4,q4,p4,x4⟩:=((H m3 (by omega)).ty) n (by omega) P s2 t1 base k c1 J2 b3 t3 c3 p2 hU (by omega)
 have e4:ab Tryz.prog (den C n) 150 [.ref P 0] s2=some (.aI [],s4):=q4
 obtain⟨m5,b5,t5,c5,xA,mG,il,zG⟩:=ay hr3
 obtain⟨m6,hm6,ho6⟩:=aO mG
 rcases ho6 with ⟨JD,Be⟩|⟨JD,Be⟩
 ·obtain⟨m7,b7,t7,c7,Rb,GP,oG,JH⟩:=ay Be
  obtain⟨s7,J7,q7,p7,x7⟩:=eO [Jf] (by decide:1<50) (n:=n) (by omega) p4 JD GP (by omega)
  have e7:ab Tryz.prog (den C n) 105 [.ref P 0,.sl 9 1 [.str [102,111,114]] .sh] s4=some (.bool true,s7):=q7
  obtain⟨s8,J8,q8,p8,x8⟩:=((H m7 (by omega)).ty) n (by omega) P s7 t7 base k c7 J7 b5 t5 c5 p7 oG (by omega)
  have e8:ab Tryz.prog (den C n) 150 [.ref P 0] s7=some (.aI [],s8):=q8
  obtain⟨s9,J9,q9,p9,x9⟩:=(Uf (ts:=ts) (m:=m5) (fun k hk=>H k (by omega))) n (by omega) P s8 t5 base k c5 J8 b rest' bY p8 il (by omega)
  have e9:ab Tryz.prog (den C n) 147 [.ref P 0] s8=some (.aI [],s9):=q9
  refine⟨s9,J9,?_,p9,((((x2.trans x4).trans x7).trans x8).trans x9)⟩
  show ab Tryz.prog (den C (n+1)) 148 [.ref P 0] s=_
  rw[aF QO (a7 ..),Ez,SE]
  simp -implicitDefEqProofs only[sL,cD,cW,cT,aj,aq,ax,ar,av,tU,ai,cV,an,eU,eV,Mr,ite_false,e2,e4,e7,e8,e9]
 ·obtain⟨s10,oF,qD,rK⟩:=gk [Jf] (by decide:1<50) (n:=n) (by omega) p4 JD
  have mQ:ab Tryz.prog (den C n) 105 [.ref P 0,.sl 9 1 [.str [102,111,114]] .sh] s4=some (.bool false,s10):=oF
  obtain⟨Rr,aeN,Zt,JY,rfl,aeO⟩:=JX Be
  have Zu:=qD
  rw[Zt]at Zu
  have Zv:Rr.length<900000000:=by
   have:=eS c5
   have h2:=congrArg List.length JY
   rw[bJ]at h2
   omega
  obtain⟨Q11,aeP,aeQ,s11,JK,acR,acS,OX,acT,z_,xC⟩:=OW Zu Zv
  rw[←JY]at z_
  obtain⟨acU,Zw⟩:∃j,n=j+1:=⟨n-1,by omega⟩
  have OX:=OX acU
  rw[←Zw]at OX
  have aeg:base.length<900000000:=by omega
  have acV:=iD (I 0) rfl rfl rfl
  obtain⟨s12,TA,GQ,Mt,GR⟩:=(Uf (ts:=ts) (m:=m5) (fun k hk=>H k (by omega))) n (by omega) P s11 t5 base k c5 JK b rest' bY z_ il (by omega)
  have vx:ab Tryz.prog (den C n) 147 [.ref P 0] s11=some (.aI [],s12):=GQ
  refine⟨s12,TA,?_,Mt,((((x2.trans x4).trans rK).trans xC).trans GR)⟩
  show ab Tryz.prog (den C (n+1)) 148 [.ref P 0] s=_
  rw[aF QO (a7 ..),Ez,SE]
  simp -implicitDefEqProofs only[sL,cD,cW,cT,aj,aq,ax,ar,av,tU,ai,cV,an,eU,eV,Mr,ite_false,e2,e4,mQ,acR,acS,OX,acT,acV,iY,sA (a:=base.length) (by omega),sA (a:=Rr.length) (by omega),jz,vt,dD,SF,vx]
theorem Ul {ts:List Tok}{m:Nat}(H:∀k<m,cd ts k):zh ts m (gK 3) vd (ef 107 fun P=>[.ref P 0,.int .i64 3]):=by
 intro n hn P s rest base k cs J b rest' bY h hr hb
 obtain⟨n,rfl⟩:∃j,n=j+1:=⟨n-1,by omega⟩
 obtain⟨s1,J1,q1,p1,x1⟩:=(YQ (ts:=ts) (m:=m) (fun k hk=>H k (by omega))) n (by omega) P s rest base k cs J b rest' bY h hr (by omega)
 have e1:ab Tryz.prog (den C n) 144 [.ref P 0,.bool true] s=some (.aI [],s1):=q1
 refine⟨s1,J1,?_,p1,x1⟩
 show ab Tryz.prog (den C (n+1)) 107 [.ref P 0,.int .i64 3] s=_
 rw[aF sv (a7 ..),kG,yI]
 simp -implicitDefEqProofs only[sL,cD,cW,cT,aj,aq,ax,ar,av,show ((3:Int)==2)=false from rfl,show ((3:Int)==3)=true from rfl,show ((3:Int)==4)=false from rfl,show ((3:Int)==5)=false from rfl,show ((3:Int)==6)=false from rfl,show ((3:Int)==7)=false from rfl,show ((3:Int)==8)=false from rfl,show ((3:Int)==9)=false from rfl,jv,gy,ai,cV,an,eU,eV,ite_false,Nat.reduceEqDiff,e1]
theorem Um {ts:List Tok}{m:Nat}(H:∀k<m,cd ts k):zh ts m (gK 4) vd (ef 107 fun P=>[.ref P 0,.int .i64 4]):=by
 intro n hn P s rest base k cs J b rest' bY h hr hb
 obtain⟨n,rfl⟩:∃j,n=j+1:=⟨n-1,by omega⟩
 obtain⟨s1,J1,q1,p1,x1⟩:=(YO (ts:=ts) (m:=m) (fun k hk=>H k (by omega))) n (by omega) P s rest base k cs J b rest' bY h hr (by omega)
 have e1:ab Tryz.prog (den C n) 145 [.ref P 0,.int .i64 4] s=some (.aI [],s1):=q1
 refine⟨s1,J1,?_,p1,x1⟩
 show ab Tryz.prog (den C (n+1)) 107 [.ref P 0,.int .i64 4] s=_
 rw[aF sv (a7 ..),kG,yI]
 simp -implicitDefEqProofs only[sL,cD,cW,cT,aj,aq,ax,ar,av,show ((4:Int)==2)=false from rfl,show ((4:Int)==3)=false from rfl,show ((4:Int)==4)=true from rfl,show ((4:Int)==5)=false from rfl,show ((4:Int)==6)=false from rfl,show ((4:Int)==7)=false from rfl,show ((4:Int)==8)=false from rfl,show ((4:Int)==9)=false from rfl,jv,gy,ai,cV,an,eU,eV,ite_false,Nat.reduceEqDiff,e1]
theorem Un {ts:List Tok}{m:Nat}(H:∀k<m,cd ts k):zh ts m (gK 5) vd (ef 107 fun P=>[.ref P 0,.int .i64 5]):=by
 intro n hn P s rest base k cs J b rest' bY h hr hb
 obtain⟨n,rfl⟩:∃j,n=j+1:=⟨n-1,by omega⟩
 obtain⟨s1,J1,q1,p1,x1⟩:=(YP (ts:=ts) (m:=m) (fun k hk=>H k (by omega))) n (by omega) P s rest base k cs J b rest' bY h hr (by omega)
 have e1:ab Tryz.prog (den C n) 145 [.ref P 0,.int .i64 5] s=some (.aI [],s1):=q1
 refine⟨s1,J1,?_,p1,x1⟩
 show ab Tryz.prog (den C (n+1)) 107 [.ref P 0,.int .i64 5] s=_
 rw[aF sv (a7 ..),kG,yI]
 simp -implicitDefEqProofs only[sL,cD,cW,cT,aj,aq,ax,ar,av,show ((5:Int)==2)=false from rfl,show ((5:Int)==3)=false from rfl,show ((5:Int)==4)=false from rfl,show ((5:Int)==5)=true from rfl,show ((5:Int)==6)=false from rfl,show ((5:Int)==7)=false from rfl,show ((5:Int)==8)=false from rfl,show ((5:Int)==9)=false from rfl,jv,gy,ai,cV,an,eU,eV,ite_false,Nat.reduceEqDiff,e1]
theorem Uo {ts:List Tok}{m:Nat}(H:∀k<m,cd ts k):zh ts m (gK 6) vd (ef 107 fun P=>[.ref P 0,.int .i64 6]):=by
 intro n hn P s rest base k cs J b rest' bY h hr hb
 obtain⟨n,rfl⟩:∃j,n=j+1:=⟨n-1,by omega⟩
 obtain⟨m1,b1,t1,c1,hm1,dA,bG,hz1⟩:=ay hr
 obtain⟨s2,J2,q2,p2,x2⟩:=(dt ts m1) n (by omega) P s rest base k cs J b1 t1 c1 h dA (by omega)
 have e2:ab Tryz.prog (den C n) 146 [.ref P 0] s=some (.aI [],s2):=q2
 obtain⟨s3,J3,q3,p3,x3⟩:=(Uf (ts:=ts) (m:=m1) (fun k hk=>H k (by omega))) n (by omega) P s2 t1 base k c1 J2 b rest' bY p2 bG (by omega)
 have e3:ab Tryz.prog (den C n) 147 [.ref P 0] s2=some (.aI [],s3):=q3
 refine⟨s3,J3,?_,p3,(x2.trans x3)⟩
 show ab Tryz.prog (den C (n+1)) 107 [.ref P 0,.int .i64 6] s=_
 rw[aF sv (a7 ..),kG,yI]
 simp -implicitDefEqProofs only[sL,cD,cW,cT,aj,aq,ax,ar,av,show ((6:Int)==2)=false from rfl,show ((6:Int)==3)=false from rfl,show ((6:Int)==4)=false from rfl,show ((6:Int)==5)=false from rfl,show ((6:Int)==6)=true from rfl,show ((6:Int)==7)=false from rfl,show ((6:Int)==8)=false from rfl,show ((6:Int)==9)=false from rfl,jv,gy,ai,cV,an,eU,eV,ite_false,Nat.reduceEqDiff,e2,e3]
theorem Up {ts:List Tok}{m:Nat}(H:∀k<m,cd ts k):zh ts m (gK 7) vd (ef 107 fun P=>[.ref P 0,.int .i64 7]):=by
 intro n hn P s rest base k cs J b rest' bY h hr hb
 obtain⟨n,rfl⟩:∃j,n=j+1:=⟨n-1,by omega⟩
 obtain⟨s1,J1,q1,p1,x1⟩:=(acQ (ts:=ts) (m:=m) (fun k hk=>H k (by omega))) n (by omega) P s rest base k cs J b rest' bY h hr (by omega)
 have e1:ab Tryz.prog (den C n) 148 [.ref P 0] s=some (.aI [],s1):=q1
 refine⟨s1,J1,?_,p1,x1⟩
 show ab Tryz.prog (den C (n+1)) 107 [.ref P 0,.int .i64 7] s=_
 rw[aF sv (a7 ..),kG,yI]
 simp -implicitDefEqProofs only[sL,cD,cW,cT,aj,aq,ax,ar,av,show ((7:Int)==2)=false from rfl,show ((7:Int)==3)=false from rfl,show ((7:Int)==4)=false from rfl,show ((7:Int)==5)=false from rfl,show ((7:Int)==6)=false from rfl,show ((7:Int)==7)=true from rfl,show ((7:Int)==8)=false from rfl,show ((7:Int)==9)=false from rfl,jv,gy,ai,cV,an,eU,eV,ite_false,Nat.reduceEqDiff,e1]
theorem Uq {ts:List Tok}{m:Nat}(H:∀k<m,cd ts k):zh ts m (gK 8) vd (ef 107 fun P=>[.ref P 0,.int .i64 8]):=by
 intro n hn P s rest base k cs J b rest' bY h hr hb
 obtain⟨n,rfl⟩:∃j,n=j+1:=⟨n-1,by omega⟩
 obtain⟨m1,b1,t1,c1,hm1,dA,bG,hz1⟩:=ay hr
 obtain⟨s2,J2,q2,p2,x2⟩:=(dt ts m1) n (by omega) P s rest base k cs J b1 t1 c1 h dA (by omega)
 have e2:ab Tryz.prog (den C n) 146 [.ref P 0] s=some (.aI [],s2):=q2
 obtain⟨m3,b3,t3,c3,mz,hU,hr3,hz3⟩:=ay bG
 obtain⟨s4,J4,q4,p4,x4⟩:=(bq ts m3 fk) n (by omega) P s2 t1 base k c1 J2 b3 t3 c3 p2 hU (by omega)
 have e4:ab Tryz.prog (den C n) 149 [.ref P 0,.str [58]] s2=some (.aI [],s4):=q4
 obtain⟨m5,b5,t5,c5,xA,mG,il,zG⟩:=ay hr3
 obtain⟨s6,J6,q6,p6,x6⟩:=((H m5 (by omega)).ty) n (by omega) P s4 t3 base k c3 J4 b5 t5 c5 p4 mG (by omega)
 have e6:ab Tryz.prog (den C n) 150 [.ref P 0] s4=some (.aI [],s6):=q6
 obtain⟨m7,b7,t7,c7,Rb,GP,oG,JH⟩:=ay il
 obtain⟨s8,J8,q8,p8,x8⟩:=(bq ts m7 C9) n (by omega) P s6 t5 base k c5 J6 b7 t7 c7 p6 GP (by omega)
 have e8:ab Tryz.prog (den C n) 149 [.ref P 0,.str [61]] s6=some (.aI [],s8):=q8
 obtain⟨m9,b9,t9,c9,Ms,JI,xB,Tx⟩:=ay oG
 obtain⟨s10,wM,oF,qD,rK⟩:=((H m9 (by omega)).ex) n (by omega) P s8 t7 base k c7 J8 b9 t9 c9 p8 JI (by omega)
 have mQ:ab Tryz.prog (den C n) 151 [.ref P 0] s8=some (.aI [],s10):=oF
 obtain⟨s11,JK,zZ,z_,xC⟩:=(bq ts m9 dB) n (by omega) P s10 t9 base k c9 wM b rest' bY qD xB (by omega)
 have wN:ab Tryz.prog (den C n) 149 [.ref P 0,.str [59]] s10=some (.aI [],s11):=zZ
 refine⟨s11,JK,?_,z_,(((((x2.trans x4).trans x6).trans x8).trans rK).trans xC)⟩
 show ab Tryz.prog (den C (n+1)) 107 [.ref P 0,.int .i64 8] s=_
 rw[aF sv (a7 ..),kG,yI]
 simp -implicitDefEqProofs only[sL,cD,cW,cT,aj,aq,ax,ar,av,show ((8:Int)==2)=false from rfl,show ((8:Int)==3)=false from rfl,show ((8:Int)==4)=false from rfl,show ((8:Int)==5)=false from rfl,show ((8:Int)==6)=false from rfl,show ((8:Int)==7)=false from rfl,show ((8:Int)==8)=true from rfl,show ((8:Int)==9)=false from rfl,jv,gy,ai,cV,an,eU,eV,ite_false,Nat.reduceEqDiff,e2,e4,e6,e8,mQ,wN]
theorem Ur {ts:List Tok}{m:Nat}(H:∀k<m,cd ts k):zh ts m (gK 9) vd (ef 107 fun P=>[.ref P 0,.int .i64 9]):=by
 intro n hn P s rest base k cs J b rest' bY h hr hb
 obtain⟨n,rfl⟩:∃j,n=j+1:=⟨n-1,by omega⟩
 obtain⟨m1,b1,t1,c1,hm1,dA,bG,hz1⟩:=ay hr
 obtain⟨s2,J2,q2,p2,x2⟩:=(dt ts m1) n (by omega) P s rest base k cs J b1 t1 c1 h dA (by omega)
 have e2:ab Tryz.prog (den C n) 146 [.ref P 0] s=some (.aI [],s2):=q2
 obtain⟨m3,b3,t3,c3,mz,hU,hr3,hz3⟩:=ay bG
 obtain⟨s4,J4,q4,p4,x4⟩:=(bq ts m3 cC) n (by omega) P s2 t1 base k c1 J2 b3 t3 c3 p2 hU (by omega)
 have e4:ab Tryz.prog (den C n) 149 [.ref P 0,.str [40]] s2=some (.aI [],s4):=q4
 obtain⟨m5,b5,t5,c5,xA,mG,il,zG⟩:=ay hr3
 obtain⟨s6,J6,q6,p6,x6⟩:=(OL (ts:=ts) (m:=m5) gY (fun k hk=>H k (by omega))) n (by omega) P s4 t3 base k c3 J4 b5 t5 c5 p4 mG (by omega)
 have e6:ab Tryz.prog (den C n) 152 [.ref P 0,.str [41]] s4=some (.aI [],s6):=q6
 obtain⟨m7,b7,t7,c7,Rb,GP,oG,JH⟩:=ay il
 obtain⟨s8,J8,q8,p8,x8⟩:=(bq ts m7 C9) n (by omega) P s6 t5 base k c5 J6 b7 t7 c7 p6 GP (by omega)
 have e8:ab Tryz.prog (den C n) 149 [.ref P 0,.str [61]] s6=some (.aI [],s8):=q8
 obtain⟨m9,b9,t9,c9,Ms,JI,xB,Tx⟩:=ay oG
 obtain⟨s10,wM,oF,qD,rK⟩:=((H m9 (by omega)).ex) n (by omega) P s8 t7 base k c7 J8 b9 t9 c9 p8 JI (by omega)
 have mQ:ab Tryz.prog (den C n) 151 [.ref P 0] s8=some (.aI [],s10):=oF
 obtain⟨s11,JK,zZ,z_,xC⟩:=(bq ts m9 dB) n (by omega) P s10 t9 base k c9 wM b rest' bY qD xB (by omega)
 have wN:ab Tryz.prog (den C n) 149 [.ref P 0,.str [59]] s10=some (.aI [],s11):=zZ
 refine⟨s11,JK,?_,z_,(((((x2.trans x4).trans x6).trans x8).trans rK).trans xC)⟩
 show ab Tryz.prog (den C (n+1)) 107 [.ref P 0,.int .i64 9] s=_
 rw[aF sv (a7 ..),kG,yI]
 simp -implicitDefEqProofs only[sL,cD,cW,cT,aj,aq,ax,ar,av,show ((9:Int)==2)=false from rfl,show ((9:Int)==3)=false from rfl,show ((9:Int)==4)=false from rfl,show ((9:Int)==5)=false from rfl,show ((9:Int)==6)=false from rfl,show ((9:Int)==7)=false from rfl,show ((9:Int)==8)=false from rfl,show ((9:Int)==9)=true from rfl,jv,gy,ai,cV,an,eU,eV,ite_false,Nat.reduceEqDiff,e2,e4,e6,e8,mQ,wN]
end ParF
end

section
namespace ParF
open Go Go.Abs Go.Proofs Pm
theorem G3 {ts:List Tok}{k:Nat}{P:Nat}{s:ag}{rest rest':List Tok}{base:List Lv}{k0:Nat}{cs ds:List az}{J:List Nat}(L:Nat)(c:TypeId×List AV)(h:PR ts P s rest base k0 cs J)(hb:base.length+(dC cs+(1+dC ds))<900000000){v:AV}(hv:v.aa=v)(n:Nat)
  (hg:∀s3 lv J3,PR ts P s3 rest (base++[lv]) k [] J3→Ex s s3 J J3→∃s4 J4 r,fP Tryz.prog (den C (n+2)) v [] s3=some (r,s4)∧PR ts P s4 rest' (base++[lv]) k ds J4∧Ex s3 s4 (L::J3) (L::J4)∧s4[L]?=some c∧L∉J4) :
  ∃s5 J5,ab Tryz.prog (den C (n+3)) 103 [.ref P 0,I k,v] s=some (.aI [],s5)∧PR ts P s5 rest' base k0 (cs++[.mk k [] ds]) J5∧Ex s s5 (L::J) (L::J5)∧s5[L]?=some c∧L∉J5:=by
 obtain⟨pos,i,rfl,h⟩:=h
 have hc:=eS cs
 obtain⟨tk,Q,s1,s2,s3,J3,p0,nQ,e1,e2,e3,p3,l3,f3,j3,hP⟩:=y_ h (by rw[bJ];show base.length+1<_;omega) (by rw[bJ];show 0<_+1;omega) (l:=⟨k,[],none⟩) rfl nofun
 have x3:Ex s s3 J J3:=⟨l3,f3,fun x hx=>by
  rcases j3 x hx with k|k|k
  ·exact .inl k
  ·cases k
  ·exact .inr k⟩
 obtain⟨s4,J4,r,e4,p4,x4,Ds,GV⟩:=hg s3 ⟨k0,cs,i⟩ J3 ⟨pos,none,rfl,p3⟩ x3
 obtain⟨GI,i4,rfl,p4⟩:=p4
 obtain⟨s5,i5,J5,e5,p5,x5⟩:=o8 p4 (by show cs.length+_<_;omega)
 refine⟨s5,J5,?_,⟨GI,i5,rfl,p5⟩,((x3.o9 [L]).trans x4).trans (x5.o9 [L]),(x5.fr L (iN Ds) GV).trans Ds,x5.mA (iN Ds) GV⟩
 have e5:=e5 n
 have q0:af false false 1 (.ref P 2) s=some (.rs 89 3 Q 0 (base++[(⟨k0,cs,i⟩:Lv)]).length,s):=ld (o:=2) p0 (by decide) rfl (by decide)
 have e2:aB 3 s1 (.ref s.length ((base++[(⟨k0,cs,i⟩:Lv)]).length*3)) (.agg [I k,.str [],.aN])=some s2:=e2
 rw[aF QJ (a7 ..),Et,Sw]
 simp -implicitDefEqProofs only[sL,q0,iD (I k) rfl rfl rfl,iY,vt,e1,jz,e2,dD,e3,cM,yD,IZ s.length P (by omega),hv,e4,e5]
theorem PR.Us {ts:List Tok}{P:Nat}{s:ag}{rest:List Tok}{base:List Lv}{k:Nat}{cs:List az}{J:List Nat}(h:PR ts P s rest base k cs J){L:Nat}(hj:L∉J)(v:TypeId×List AV):PR ts P (s.set L v) rest base k cs J:=by
 obtain⟨pos,i,e,h⟩:=h
 exact⟨pos,i,e,h.frame fun x hx=>bu fun e=>hj (e▸hx)⟩
def E9:G:=.ite (fun _ t _=>eN [mW] t) (.ret true) (.seq .bump (.seq (.node 18 c_) ft))
theorem G4 {ts:List Tok}{n:Nat}(hn:ts.length+80≤n){P L:Nat}{s:ag}{rest:List Tok}{base:List Lv}{k:Nat}{cs:List az}{J:List Nat}(h:PR ts P s rest base k cs J)(hL:s[L]?=some (4,[.bool true]))(hj:L∉J) :
  ∃s',(∀M n' e,e 0=pb P→e 1=.ref L 0→aJ (lU (den C n) n') (M+1) e s=some (.aI [],s'))∧PR ts P s' rest base k cs J∧Ex s s' J J:=by
 obtain⟨sa,qa,pa,xa⟩:=(cN (ts:=ts) [df] (by decide:1<50)).use (n:=n) hn h
 have E8:ab Tryz.prog (den C n) 99 [.ref P 0,.sl 9 1 [.str [58,58]] .sh] s=some (.bool (eN [df] (pk rest)),sa):=qa
 have Rs:=(xa.fr L (iN hL) hj).trans hL
 have la:af false false 1 (.ref L 0) sa=some (.bool true,sa):=ld (o:=0) Rs (by decide) rfl (by decide)
 refine⟨sa,fun M n' e eM fy=>?_,pa,xa⟩
 rw[aJ,lU]
 cases h1:eN [df] (pk rest) with
 | true =>
  rw[h1]at E8
  simp -implicitDefEqProofs only[sL,eM,fy,cD,aj,E8,la]
 | false =>
  rw[h1]at E8
  simp -implicitDefEqProofs only[sL,eM,fy,cD,aj,E8]
theorem acW {ts:List Tok}{n P L:Nat}:∀(m:Nat),m*20+ts.length+140≤n→∀s rest base k cs J b rest' bY,PR ts P s rest base k cs J→s[L]?=some (4,[.bool false])→L∉J→run m (.dH (eL [df]) E9) rest cs=some (b,rest',bY)→base.length+dC bY<900000000 →
  ∃s' J',(∀M n' e,m+1<M→e 0=pb P→e 1=.ref L 0→aJ (lU (den C n) n') M e s=some (.aI [],s'))∧PR ts P s' rest' base k bY J'∧Ex s s' (L::J) (L::J')∧s'[L]?=some (4,[.bool b])∧L∉J':=by
 intro m
 induction m with
 | zero=>intro _ s rest base k cs J b rest' bY h _ _ hr;rw[Pm.cJ]at hr;cases hr
 | succ m ih =>
  intro hn s rest base k cs J b rest' bY h hL hj hr hb
  have hn0:m*20+ts.length+140≤n:=by omega
  obtain⟨m',hm',hw⟩:=gq hr
  cases hm'
  obtain⟨sa,qa,pa,xa⟩:=(cN (ts:=ts) [df] (by decide:1<50)).use (n:=n) (by omega) h
  have Rs:=(xa.fr L (iN hL) hj).trans hL
  have la':af false false 1 (.ref L 0) sa=some (.bool false,sa):=ld (o:=0) Rs (by decide) rfl (by decide)
  rcases hw with ⟨hc,rfl,rfl,rfl⟩|⟨hc,nu,rfl⟩|⟨hc,tw,cw,nu,ww,OM⟩
  ·have ea:ab Tryz.prog (den C n) 99 [.ref P 0,.sl 9 1 [.str [58,58]] .sh] s=some (.bool false,sa):=by rw[←hc];exact qa
   refine⟨sa,J,fun M n' e hM eM fy=>?_,pa,xa.o9 [L],Rs,hj⟩
   obtain⟨M,rfl⟩:∃j,M=j+1:=⟨M-1,by omega⟩
   rw[aJ,lU]
   simp -implicitDefEqProofs only[sL,eM,fy,cD,aj,ea]
  ·have ea:ab Tryz.prog (den C n) 99 [.ref P 0,.sl 9 1 [.str [58,58]] .sh] s=some (.bool true,sa):=by rw[←hc];exact qa
   obtain⟨sx,Px,sb,ql,q2,H9,xb⟩:=qG [mW] (by decide:1<50) (n:=n) (by omega) pa
   obtain⟨m1,hm1,ho⟩:=aO nu
   have Rp:=(xb.fr L (iN Rs) hj).trans Rs
   rcases ho with ⟨gR,bG⟩|⟨gR,bG⟩
   ·have e2:ab Tryz.prog (den C n) 99 [.ref Px 0,.sl 9 1 [.str [42]] .sh] sx=some (.bool true,sb):=by rw[←gR];exact q2
    obtain⟨-,rfl,rfl⟩:=bM bG
    have dZ:aB 1 sb (.ref L 0) (.bool true)=some (sb.set L (4,[.bool true])):=by rw[ParF.st (o:=0) (n:=1) (v:=.bool true) Rp (by decide) rfl rfl (by show 0+1≤1;omega)];rfl
    have pc:=H9.Us hj (4,[.bool true])
    have OY:(sb.set L (4,[AV.bool true]))[L]?=some (4,[.bool true]):=bK Rp
    have lc:af false false 1 (.ref L 0) (sb.set L (4,[.bool true]))=some (.bool true,sb.set L (4,[.bool true])):=ld (o:=0) OY (by decide) rfl (by decide)
    obtain⟨s',qd,pd,xd⟩:=G4 (n:=n) (by omega) pc OY hj
    have xc:Ex sb (sb.set L (4,[AV.bool true])) (L::J) (L::J):=⟨by rw[bh];exact Nat.le_refl _,fun x hx hj=>bu fun e=>hj (by rw[←e];exact List.mem_cons_self ..),fun _ h=>.inl h⟩
    refine⟨s',J,fun M n' e hM eM fy=>?_,pd,(((xa.o9 [L]).trans (xb.o9 [L])).trans xc).trans (xd.o9 [L]),(xd.fr L (iN OY) hj).trans OY,hj⟩
    obtain⟨M,rfl⟩:∃j,M=j+2:=⟨M-2,by omega⟩
    rw[aJ,lU]
    simp -implicitDefEqProofs only[sL,eM,fy,cD,aj,ea,la',ql,e2,dZ,lc]
    exact qd _ _ _ ((ao _ _ _ rfl).trans eM) ((ao _ _ _ rfl).trans fy)
   ·exact absurd (iF (by rfl) bG) (by decide)
  ·have ea:ab Tryz.prog (den C n) 99 [.ref P 0,.sl 9 1 [.str [58,58]] .sh] s=some (.bool true,sa):=by rw[←hc];exact qa
   obtain⟨sx,Px,sb,ql,q2,H9,xb⟩:=qG [mW] (by decide:1<50) (n:=n) (by omega) pa
   obtain⟨m1,hm1,ho⟩:=aO nu
   have Rp:=(xb.fr L (iN Rs) hj).trans Rs
   rcases ho with ⟨gR,bG⟩|⟨gR,bG⟩
   ·have:=(bM bG).1;cases this
   ·have e2:ab Tryz.prog (den C n) 99 [.ref Px 0,.sl 9 1 [.str [42]] .sh] sx=some (.bool false,sb):=by rw[←gR];exact q2
    have dZ:aB 1 sb (.ref L 0) (.bool false)=some (sb.set L (4,[.bool false])):=by rw[ParF.st (o:=0) (n:=1) (v:=.bool false) Rp (by decide) rfl rfl (by show 0+1≤1;omega)];rfl
    have pc:=H9.Us hj (4,[.bool false])
    have OY:(sb.set L (4,[AV.bool false]))[L]?=some (4,[.bool false]):=bK Rp
    have lc:af false false 1 (.ref L 0) (sb.set L (4,[.bool false]))=some (.bool false,sb.set L (4,[.bool false])):=ld (o:=0) OY (by decide) rfl (by decide)
    have xc:Ex sb (sb.set L (4,[AV.bool false])) (L::J) (L::J):=⟨by rw[bh];exact Nat.le_refl _,fun x hx hj=>bu fun e=>hj (by rw[←e];exact List.mem_cons_self ..),fun _ h=>.inl h⟩
    obtain⟨m2,b2,t2,c2,hm2,GO,hr2,hz2⟩:=ay bG
    obtain⟨m3,b3,t3,c3,mz,hU,hr3,hz3⟩:=ay hr2
    obtain⟨-,rfl,rfl⟩:=bM hr3
    obtain⟨s1,J1,q1,p1,x1⟩:=aX ts m2 n (by omega) P _ rest base k cs J b2 t2 c2 pc GO (by omega)
    have e1:ab Tryz.prog (den C n) 106 [.ref P 0] (sb.set L (4,[.bool false]))=some (.aI [],s1):=q1
    obtain⟨s3,J3,q3,p3,x3⟩:=(aR (ts:=ts) (m:=m3) (k:=18) (v:=fun P=>.fn 146 [.ref P 0] []) (fun _=>rfl) (fun k hk=>dt ts k)) n (by omega) P s1 t2 base k c2 J1 b3 tw cw p1 hU (by omega)
    have e3:ab Tryz.prog (den C n) 103 [.ref P 0,.int .i64 18,.fn 146 [.ref P 0] []] s1=some (.aI [],s3):=q3
    have TB:=x1.trans x3
    have G1:=(TB.fr L (iN OY) hj).trans OY
    have hj3:=TB.mA (iN OY) hj
    obtain⟨s4,J4,q4,p4,x4,Ds,GV⟩:=ih hn0 s3 tw base k cw J3 b rest' bY p3 G1 hj3 ww hb
    refine⟨s4,J4,fun M n' e hM eM fy=>?_,p4,((((xa.o9 [L]).trans (xb.o9 [L])).trans xc).trans (TB.o9 [L])).trans x4,Ds,GV⟩
    obtain⟨M,rfl⟩:∃j,M=j+1:=⟨M-1,by omega⟩
    rw[aJ,lU]
    simp -implicitDefEqProofs only[sL,eM,fy,cD,aj,ea,la',ql,e2,dZ,lc,e1,e3]
    exact q4 _ _ _ (by omega) ((ao _ _ _ rfl).trans eM) ((ao _ _ _ rfl).trans fy)
end ParF
end

section
namespace ParF
open Go Go.Abs Go.Proofs Pm
theorem acX {ts:List Tok}{m n:Nat}(hn:m*20+ts.length+141≤n){P L:Nat}{s:ag}{rest:List Tok}{base:List Lv}{k:Nat}{cs:List az}{J:List Nat}{b:Bool}{rest':List Tok}{bY:List az}
  (h:PR ts P s rest base k cs J)(hL:s[L]?=some (4,[.bool false]))(hj:L∉J)(hr:run m (.seq (.node 18 c_) (.dH (eL [df]) E9)) rest cs=some (b,rest',bY))(hb:base.length+dC bY<900000000) :
  ∃s' J',ab Tryz.prog (den C n) 169 [.box [.ref P 0] 0,.ref L 0] s=some (.aI [],s')∧PR ts P s' rest' base k bY J'∧Ex s s' (L::J) (L::J')∧s'[L]?=some (4,[.bool b])∧L∉J':=by
 obtain⟨n,rfl⟩:∃j,n=j+1:=⟨n-1,by omega⟩
 obtain⟨m1,b1,t1,c1,hm1,dA,bG,hz1⟩:=ay hr
 obtain⟨s3,J3,q3,p3,x3⟩:=(aR (ts:=ts) (m:=m1) (k:=18) (v:=fun P=>.fn 146 [.ref P 0] []) (fun _=>rfl) (fun k hk=>dt ts k)) n (by omega) P s rest base k cs J b1 t1 c1 h dA (by omega)
 have e3:ab Tryz.prog (den C n) 103 [.ref P 0,.int .i64 18,.fn 146 [.ref P 0] []] s=some (.aI [],s3):=q3
 have G1:=(x3.fr L (iN hL) hj).trans hL
 obtain⟨s4,J4,q4,p4,x4,Ds,GV⟩:=acW (P:=P) (n:=n) m1 (by omega) s3 t1 base k c1 J3 b rest' bY p3 G1 (x3.mA (iN hL) hj) bG hb
 refine⟨s4,J4,?_,p4,(x3.o9 [L]).trans x4,Ds,GV⟩
 rw[aF Xo (dF ..),Nx,Xn]
 simp -implicitDefEqProofs only[sL,e3]
 exact q4 _ _ _ (by omega) rfl rfl
theorem Ex.JZ {s s':ag}{L:Nat}{J J':List Nat}(x:Ex s s' (L::J) (L::J'))(hL:s.length≤L)(hj:L∉J'):Ex s s' J J' :=
 ⟨x.len,fun y hy hj=>x.fr y hy (by
  rw[List.mem_cons];rintro(e|e)
  ·omega
  ·exact hj e),fun y hy=>by
  rcases x.sub y (List.mem_cons_of_mem _ hy) with k|k
  ·rw[List.mem_cons]at k
   rcases k with k|k
   ·exact .inr (by omega)
   ·exact .inl k
  ·exact .inr k⟩
theorem J_ (s:ag):aB 1 (s++[(4,[.bool false])]) (.ref s.length 0) (.bool false)=some (s++[(4,[.bool false])]):=by
 rw[ParF.st (o:=0) (n:=1) (v:=.bool false) (aW (x:=(4,[.bool false]))) (by decide) rfl rfl (by show 0+1≤1;omega),eG];rfl
theorem acY {ts:List Tok}{m:Nat}:zh ts m Ow vd (ef 143 fun P=>[.ref P 0]):=by
 intro n hn P s rest base k cs J b rest' bY h hr hb
 obtain⟨m1,b1,t1,c1,hm1,dA,bG,hz1⟩:=ay hr
 obtain⟨m2,v,t2,c2,hm2,GO,hz2,TD⟩:=E3 dA
 obtain⟨m3,ds,mz,hr3,zg⟩:=nk GO
 obtain⟨n,rfl⟩:∃j,n=j+4:=⟨n-4,by omega⟩
 have hz:dC c2=dC cs+(1+dC ds):=by rw[zg,aw,aT,aZ]
 have pa:=h.app [(4,[.bool false])]
 have nj:s.length∉J:=fun hm=>by obtain⟨pp,ii,_,hh⟩:=h;exact Nat.lt_irrefl _ (hh.lt _ hm)
 have hL0:(s++[(4,[AV.bool false])])[s.length]?=some (4,[.bool false]):=aW
 obtain⟨s5,J5,q5,p5,x5,hL5,hj5⟩:=G3 (k:=17) (ds:=ds) (rest':=t2) s.length (4,[.bool v]) pa (by omega) (v:=.fn 169 [] [.box [.ref P 0] 0,.ref s.length 0]) rfl n fun s3 lv J3 p3 x3=>by
  have G1:=(x3.fr s.length (by rw[aP];omega) nj).trans hL0
  have hj3:=x3.mA (by rw[aP];omega) nj
  obtain⟨s4,J4,e4,p4,x4,Ds,GV⟩:=acX (n:=n+2) (m:=m3) (by omega) p3 G1 hj3 hr3 (by rw[bJ];show base.length+1+_<_;omega)
  exact⟨s4,J4,_,e4,p4,x4,Ds,GV⟩
 rw[←zg]at p5
 have e5:ab Tryz.prog (den C (n+3)) 103 [.ref P 0,.int .i64 17,.fn 169 [] [.box [.ref P 0] 0,.ref s.length 0]] (s++[(4,[.bool false])])=some (.aI [],s5):=q5
 have x05:Ex s s5 J J5:=(((Ex.app s _ J).o9 [s.length]).trans x5).JZ (Nat.le_refl _) hj5
 have l5:af false false 1 (.ref s.length 0) s5=some (.bool v,s5):=ld (o:=0) hL5 (by decide) rfl (by decide)
 have fin:∀s6 J6,PR ts P s6 t1 base k c1 J6→Ex s5 s6 J5 J6→∃s7 J7,ab Tryz.prog (den C (n+3)) 149 [.ref P 0,.str [59]] s6=some (.aI [],s7)∧PR ts P s7 rest' base k bY J7∧Ex s s7 J J7:=by
  intro s6 J6 p6 x6
  obtain⟨s7,J7,e7,p7,x7⟩:=bq ts m1 dB (n+3) (by omega) P s6 t1 base k c1 J6 b rest' bY p6 bG hb
  exact⟨s7,J7,e7,p7,(x05.trans x6).trans x7⟩
 rcases TD with ⟨rfl,kL⟩|⟨rfl,kL⟩
 ·obtain⟨m4,b4,t4,c4,GM,JF,il,V5⟩:=ay kL
  obtain⟨s6,J6,q6,p6,x6⟩:=aX ts m4 (n+3) (by omega) P s5 t2 base k c2 J5 b4 t4 c4 p5 JF (by omega)
  obtain⟨s7,J7,q7,p7,x7⟩:=aX ts m4 (n+3) (by omega) P s6 t4 base k c4 J6 b1 t1 c1 p6 il (by omega)
  have e6:ab Tryz.prog (den C (n+3)) 106 [.ref P 0] s5=some (.aI [],s6):=q6
  have e7:ab Tryz.prog (den C (n+3)) 106 [.ref P 0] s6=some (.aI [],s7):=q7
  obtain⟨s8,J8,e8,p8,x8⟩:=fin s7 J7 p7 (x6.trans x7)
  refine⟨s8,J8,?_,p8,x8⟩
  show ab Tryz.prog (den C (n+4)) 143 [.ref P 0] s=_
  rw[aF I3 (a7 ..),yJ,Nr]
  simp -implicitDefEqProofs only[sL,aq,Bi,J_,e5,l5,e6,e7,nO,ai,cV,an,Nat.reduceEqDiff,ite_false,e8]
 ·obtain⟨m4,GM,ho⟩:=aO kL
  rcases ho with ⟨hc,il⟩|⟨hc,il⟩
  ·obtain⟨m5,b5,t5,c5,xA,mG,Be,zG⟩:=ay il
   obtain⟨s6,J6,q6,p6,x6⟩:=eO [wAs] (by decide:1<50) (n:=n+3) (by omega) p5 hc mG (by omega)
   have e6:ab Tryz.prog (den C (n+3)) 105 [.ref P 0,.sl 9 1 [.str [97,115]] .sh] s5=some (.bool true,s6):=q6
   obtain⟨s7,J7,q7,p7,x7⟩:=dt ts m5 (n+3) (by omega) P s6 t5 base k c5 J6 b1 t1 c1 p6 Be (by omega)
   have e7:ab Tryz.prog (den C (n+3)) 146 [.ref P 0] s6=some (.aI [],s7):=q7
   obtain⟨s8,J8,e8,p8,x8⟩:=fin s7 J7 p7 (x6.trans x7)
   refine⟨s8,J8,?_,p8,x8⟩
   show ab Tryz.prog (den C (n+4)) 143 [.ref P 0] s=_
   rw[aF I3 (a7 ..),yJ,Nr]
   simp -implicitDefEqProofs only[sL,aq,cD,aj,Bi,J_,e5,l5,e6,e7,nO,ai,cV,an,Nat.reduceEqDiff,ite_false,e8]
  ·obtain⟨-,rfl,rfl⟩:=bM il
   obtain⟨s6,q6,p6,x6⟩:=gk [wAs] (by decide:1<50) (n:=n+3) (by omega) p5 hc
   have e6:ab Tryz.prog (den C (n+3)) 105 [.ref P 0,.sl 9 1 [.str [97,115]] .sh] s5=some (.bool false,s6):=q6
   obtain⟨s8,J8,e8,p8,x8⟩:=fin s6 J5 p6 x6
   refine⟨s8,J8,?_,p8,x8⟩
   show ab Tryz.prog (den C (n+4)) 143 [.ref P 0] s=_
   rw[aF I3 (a7 ..),yJ,Nr]
   simp -implicitDefEqProofs only[sL,aq,cD,aj,Bi,J_,e5,l5,e6,nO,ai,cV,an,Nat.reduceEqDiff,ite_false,e8]
end ParF
end

section
namespace ParF
open Go Go.Abs Go.Proofs Pm
theorem Ka {ts:List Tok}{m K:Nat}(hK:2≤K∧K≤9){n:Nat}(hn:m*20+ts.length+118≤n){P:Nat}{s:ag}{rest:List Tok}{base:List Lv}{k:Nat}{cs:List az}{J:List Nat}{b:Bool}{rest':List Tok}{bY:List az}
  (h:PR ts P s rest base k cs J)(hr:run m (gK K) rest cs=some (b,rest',bY))(hb:base.length+dC bY<900000000) :
  ∃s' J',ab Tryz.prog (den C n) 107 [.ref P 0,I K] s=some (.aI [],s')∧PR ts P s' rest' base k bY J'∧Ex s s' J J':=by
 have H:∀k<m,cd ts k:=fun k _=>acO ts k
 match K,hK,hr with
 | 2,_,hr =>
  obtain⟨n,rfl⟩:∃j,n=j+1:=⟨n-1,by omega⟩
  obtain⟨s1,J1,q1,p1,x1⟩:=acY (ts:=ts) (m:=m) n (by omega) P s rest base k cs J b rest' bY h hr hb
  have e1:ab Tryz.prog (den C n) 143 [.ref P 0] s=some (.aI [],s1):=q1
  refine⟨s1,J1,?_,p1,x1⟩
  show ab Tryz.prog (den C (n+1)) 107 [.ref P 0,.int .i64 2] s=_
  rw[aF sv (a7 ..),kG,yI]
  simp -implicitDefEqProofs only[sL,show ((2:Int)==2)=true from rfl,e1]
 | 3,_,hr=>exact Ul H n (by omega) P s rest base k cs J b rest' bY h hr hb
 | 4,_,hr=>exact Um H n (by omega) P s rest base k cs J b rest' bY h hr hb
 | 5,_,hr=>exact Un H n (by omega) P s rest base k cs J b rest' bY h hr hb
 | 6,_,hr=>exact Uo H n (by omega) P s rest base k cs J b rest' bY h hr hb
 | 7,_,hr=>exact Up H n (by omega) P s rest base k cs J b rest' bY h hr hb
 | 8,_,hr=>exact Uq H n (by omega) P s rest base k cs J b rest' bY h hr hb
 | 9,_,hr=>exact Ur H n (by omega) P s rest base k cs J b rest' bY h hr hb
 | 0,hK,_=>omega
 | 1,hK,_=>omega
 | j+10,hK,_=>omega
theorem acZ {ts:List Tok}{m K:Nat}(hK:2≤K∧K≤9){n:Nat}(hn:m*20+ts.length+100≤n){P:Nat}{s:ag}{rest:List Tok}{base:List Lv}{k:Nat}{cs:List az}{J:List Nat}{b:Bool}{rest':List Tok}{bY:List az}
  (h:PR ts P s rest base k cs J){L:Nat}(hL:s[L]?=some (3,[I K]))(hj:L∉J)(hr:run m (.seq (sw [lY] ft) (.seq .bump (gK K))) rest cs=some (b,rest',bY))(hb:base.length+dC bY<900000000) :
  ∃s' J',ab Tryz.prog (den C n) 104 [.box [.ref P 0] 0,.ref L 0] s=some (.aI [],s')∧PR ts P s' rest' base k bY J'∧Ex s s' J J':=by
 obtain⟨n,rfl⟩:∃j,n=j+1:=⟨n-1,by omega⟩
 obtain⟨m1,b1,t1,c1,hm1,dA,bG,hz1⟩:=ay hr
 obtain⟨m2,b2,t2,c2,hm2,GO,hr2,hz2⟩:=ay bG
 obtain⟨m3,mz,ho⟩:=aO dA
 have hlt:=iN hL
 have rest:∀s1 J1 bb,ab Tryz.prog (den C n) 105 [.ref P 0,.sl 9 1 [.str [112,117,98]] .sh] s=some (.bool bb,s1)→PR ts P s1 t1 base k c1 J1→Ex s s1 J J1→∃s' J',ab Tryz.prog (den C (n+1)) 104 [.box [.ref P 0] 0,.ref L 0] s=some (.aI [],s')∧PR ts P s' rest' base k bY J'∧Ex s s' J J':=by
  intro s1 J1 bb e1 p1 x1
  obtain⟨s2,J2,q2,p2,x2⟩:=aX ts m2 n (by omega) P s1 t1 base k c1 J1 b2 t2 c2 p1 GO (by omega)
  have e2:ab Tryz.prog (den C n) 106 [.ref P 0] s1=some (.aI [],s2):=q2
  have GR:=x1.trans x2
  have Re:=(GR.fr L hlt hj).trans hL
  have l2:af false false 1 (.ref L 0) s2=some (I K,s2):=ld (o:=0) Re (by decide) rfl (by decide)
  obtain⟨s3,J3,e3,p3,x3⟩:=Ka hK (n:=n) (m:=m2) (by omega) p2 hr2 hb
  refine⟨s3,J3,?_,p3,GR.trans x3⟩
  rw[aF W4 (dF ..),Nk,W3]
  simp -implicitDefEqProofs only[sL,cD,aj,e1,e2,l2,e3]
 rcases ho with ⟨hc,hr3⟩|⟨hc,hr3⟩
 ·obtain⟨m4,b4,t4,c4,GM,JF,kL,V5⟩:=ay hr3
  obtain⟨-,rfl,rfl⟩:=bM kL
  obtain⟨s1,J1,q1,p1,x1⟩:=eO [lY] (by decide:1<50) (n:=n) (by omega) h hc JF (by omega)
  exact rest s1 J1 true q1 p1 x1
 ·obtain⟨-,rfl,rfl⟩:=bM hr3
  obtain⟨s1,q1,p1,x1⟩:=gk [lY] (by decide:1<50) (n:=n) (by omega) h hc
  exact rest s1 J false q1 p1 x1
def Kb:mO:=fun t _ _=>!(t.1==100)&&!eN cy t
theorem ac0 {ts:List Tok}{n P:Nat}:∀(m:Nat),m*20+ts.length+110≤n→∀s rest base k cs J b rest' bY,PR ts P s rest base k cs J→run m (.dH Kb .bump) rest cs=some (b,rest',bY)→base.length+dC bY<900000000 →
  ∃s' J',(∀M n' e,m<M→e 0=pb P→aJ (pX (den C n) n') M e s=some (.aI [],s'))∧PR ts P s' rest' base k bY J'∧Ex s s' J J':=by
 intro m
 induction m with
 | zero=>intro _ s rest base k cs J b rest' bY h hr;rw[Pm.cJ]at hr;cases hr
 | succ m ih =>
  intro hn s rest base k cs J b rest' bY h hr hb
  have hn0:m*20+ts.length+110≤n:=by omega
  obtain⟨sb,qb,H9,xb⟩:=(zd ts).use (n:=n) (by omega) h
  have ek:=iE.of (n:=n) (by omega) sb
  obtain⟨sc,qc,pc,xc⟩:=(cN (ts:=ts) cy (by decide)).use (n:=n) (by omega) H9
  have hs:(strs cy).aa=strs cy:=rfl
  have Rq:aV [AV.ref P 0]=false:=a7 ..
  have Wc:aV [AV.ref P 0,strs cy]=false:=a7 ..
  have sB:ev Kb rest=(!(ev sQ rest)&&!eN cy (pk rest)):=rfl
  obtain⟨m',hm',hw⟩:=gq hr
  cases hm'
  have Du:ab Tryz.prog (den C n) 64 [.ref P 0] s=some (.bool (ev sQ rest),sb):=qb
  have JW:ab Tryz.prog (den C n) 99 [.ref P 0,strs cy] sb=some (.bool (eN cy (pk rest)),sc):=qc
  rcases hw with ⟨hc,rfl,rfl,rfl⟩|⟨hc,nu,hb0⟩|⟨hc,tw,cw,nu,ww,OM⟩
  ·rw[hc]at sB
   cases h2:ev sQ rest' with
   | true =>
    rw[h2]at Du
    refine⟨sb,J,fun M n' e hM eM=>?_,H9,xb⟩
    obtain⟨M,rfl⟩:∃j,M=j+1:=⟨M-1,by omega⟩
    rw[aJ,pX]
    simp -implicitDefEqProofs only[sL,eM,Du,Rq,Bool.false_eq_true,ite_false,jJ]
    exact bT (by kernel_rfl)
   | false =>
    rw[h2]at Du sB
    have h3:eN cy (pk rest')=true:=by simpa using sB
    rw[h3]at JW
    refine⟨sc,J,fun M n' e hM eM=>?_,pc,xb.trans xc⟩
    obtain⟨M,rfl⟩:∃j,M=j+1:=⟨M-1,by omega⟩
    rw[aJ,pX]
    simp -implicitDefEqProofs only[sL,eM,Du,ek,hs,JW,Rq,Wc,Bool.false_eq_true,ite_false,I1]
  ·exact absurd (iF (by rfl) nu) (by decide)
  ·rw[hc]at sB
   simp only[Bool.true_eq,Bool.and_eq_true,Bool.not_eq_true']at sB
   rw[sB.1]at Du
   rw[sB.2]at JW
   obtain⟨s1,J1,q1,p1,x1⟩:=aX ts m n (by omega) P sc rest base k cs J false tw cw pc nu (by omega)
   have e1:ab Tryz.prog (den C n) 106 [.ref P 0] sc=some (.aI [],s1):=q1
   obtain⟨s2,J2,q2,p2,x2⟩:=ih hn0 s1 tw base k cw J1 b rest' bY p1 ww hb
   refine⟨s2,J2,fun M n' e hM eM=>?_,p2,((xb.trans xc).trans x1).trans x2⟩
   obtain⟨M,rfl⟩:∃j,M=j+1:=⟨M-1,by omega⟩
   rw[aJ,pX]
   simp -implicitDefEqProofs only[sL,eM,Du,ek,hs,JW,Rq,Wc,Bool.false_eq_true,ite_false,I1,e1]
   exact q2 _ _ _ (by omega) ((ao _ _ _ rfl).trans eM)
theorem aeZ (ts:List Tok)(m:Nat):eK ts m (.seq .bump (.dH Kb .bump)) vd (ef 140 fun P=>[.box [.ref P 0] 0]):=by
 intro n hn P s rest base k cs J b rest' bY h hr hb
 obtain⟨n,rfl⟩:∃j,n=j+1:=⟨n-1,by omega⟩
 obtain⟨m1,b1,t1,c1,hm1,dA,bG,hz1⟩:=ay hr
 obtain⟨s1,J1,q1,p1,x1⟩:=aX ts m1 n (by omega) P s rest base k cs J b1 t1 c1 h dA (by omega)
 have e1:ab Tryz.prog (den C n) 106 [.ref P 0] s=some (.aI [],s1):=q1
 obtain⟨s2,J2,e2,p2,x2⟩:=ac0 (P:=P) (n:=n) m1 (by omega) s1 t1 base k c1 J1 b rest' bY p1 bG hb
 refine⟨s2,J2,?_,p2,x1.trans x2⟩
 show ab Tryz.prog (den C (n+1)) 140 [.box [.ref P 0] 0] s=_
 rw[aF Xa (dF ..),No,W_]
 simp -implicitDefEqProofs only[sL,e1]
 exact e2 _ _ _ (by omega) rfl
theorem ac2 (ts:List Tok)(m:Nat):JE 5 ts m xm vd (ef 102 fun P=>[.ref P 0]):=by
 intro n hn P s rest base k cs J b rest' bY h hr hb
 obtain⟨m1,hm1⟩:=dz hr
 obtain⟨n,rfl⟩:∃j,n=j+1:=⟨n-1,by omega⟩
 obtain⟨s1,J1,q1,p1,x1⟩:=(aR (ts:=ts) (m:=m) (k:=46) (v:=fun P=>.fn 140 [] [.box [.ref P 0] 0]) (fun _=>rfl) (fun k hk=>aeZ ts k)) n (by omega) P s rest base k cs J b rest' bY h hr hb
 have e1:ab Tryz.prog (den C n) 103 [.ref P 0,.int .i64 46,.fn 140 [] [.box [.ref P 0] 0]] s=some (.aI [],s1):=q1
 refine⟨s1,J1,?_,p1,x1⟩
 show ab Tryz.prog (den C (n+1)) 102 [.ref P 0] s=_
 rw[aF WZ (a7 ..),Nj,WY]
 simp -implicitDefEqProofs only[sL,aq,e1]
def sD (rest:List Tok):Tok:=if eN [lY] (pk rest)=true then pk (la rest) else pk rest
def pG (rest:List Tok):Nat:=kindOf (sD rest).2
theorem xG (k:Nat)(rest:List Tok):ev (j9 k) rest=(pG rest==k&&(sD rest).1==104):=rfl
theorem xH {m:Nat}{rest:List Tok}{cs:List az}{r:Bool×List Tok×List az}(h:run m my rest cs=some r) :
  ∃m',m'<m∧(((2≤pG rest∧pG rest≤9)∧(sD rest).1=104∧run m' (f_ (pG rest)) rest cs=some r)∨((pG rest=0∨(sD rest).1≠104)∧run m' xm rest cs=some r)):=by
 have hK:pG rest=0∨(2≤pG rest∧pG rest≤9):=by
  rcases xz (sD rest).2 with ⟨_,h⟩|⟨k,_,hk,h⟩
  ·exact .inl h
  ·right;unfold pG;omega
 have Rt:∀k,ev (j9 k) rest=true→pG rest=k∧(sD rest).1=104:=by
  intro k h;rw[xG]at h;simpa using h
 have no:∀k,ev (j9 k) rest=false→(sD rest).1=104→pG rest≠k:=by
  intro k h h2;rw[xG,h2]at h;simpa using h
 obtain⟨m2,e2,h2|h2⟩:=aO h
 ·obtain⟨a,b⟩:=Rt 2 h2.1;exact⟨m2,by omega,.inl ⟨by omega,b,by rw[a];exact h2.2⟩⟩
 obtain⟨m3,e3,h3|h3⟩:=aO h2.2
 ·obtain⟨a,b⟩:=Rt 3 h3.1;exact⟨m3,by omega,.inl ⟨by omega,b,by rw[a];exact h3.2⟩⟩
 obtain⟨m4,e4,h4|h4⟩:=aO h3.2
 ·obtain⟨a,b⟩:=Rt 4 h4.1;exact⟨m4,by omega,.inl ⟨by omega,b,by rw[a];exact h4.2⟩⟩
 obtain⟨m5,e5,h5|h5⟩:=aO h4.2
 ·obtain⟨a,b⟩:=Rt 5 h5.1;exact⟨m5,by omega,.inl ⟨by omega,b,by rw[a];exact h5.2⟩⟩
 obtain⟨m6,e6,h6|h6⟩:=aO h5.2
 ·obtain⟨a,b⟩:=Rt 6 h6.1;exact⟨m6,by omega,.inl ⟨by omega,b,by rw[a];exact h6.2⟩⟩
 obtain⟨m7,e7,h7|h7⟩:=aO h6.2
 ·obtain⟨a,b⟩:=Rt 7 h7.1;exact⟨m7,by omega,.inl ⟨by omega,b,by rw[a];exact h7.2⟩⟩
 obtain⟨m8,e8,h8|h8⟩:=aO h7.2
 ·obtain⟨a,b⟩:=Rt 8 h8.1;exact⟨m8,by omega,.inl ⟨by omega,b,by rw[a];exact h8.2⟩⟩
 obtain⟨m9,e9,h9|h9⟩:=aO h8.2
 ·obtain⟨a,b⟩:=Rt 9 h9.1;exact⟨m9,by omega,.inl ⟨by omega,b,by rw[a];exact h9.2⟩⟩
 refine⟨m9,by omega,.inr ⟨?_,h9.2⟩⟩
 by_cases hx:(sD rest).1=104
 ·left
  have:=no 2 h2.1 hx;have:=no 3 h3.1 hx;have:=no 4 h4.1 hx;have:=no 5 h5.1 hx
  have:=no 6 h6.1 hx;have:=no 7 h7.1 hx;have:=no 8 h8.1 hx;have:=no 9 h9.1 hx
  omega
 ·exact .inr hx
end ParF
end

section
namespace ParF
open Go Go.Abs Go.Proofs Pm
theorem G5 {ts:List Tok}{n:Nat}(hn:ts.length+130≤n){P:Nat}{s:ag}{rest:List Tok}{base:List Lv}{k:Nat}{cs:List az}{J:List Nat}(h:PR ts P s rest base k cs J) :
  ∃s1 P1 s2,ab Tryz.prog (den C n) 100 [.ref P 0] s=some (.ref P1 0,s1)∧ab Tryz.prog (den C n) 98 [.ref P1 0] s1=some (nh (pk (la rest)),s2)∧PR ts P s2 rest base k cs J∧Ex s s2 J J:=by
 have h':=h
 obtain⟨pos,i,rfl,h⟩:=h
 obtain⟨tk,st,r⟩:=h.xw
 obtain⟨t,P1,qC,Ml,st1,e1,r1,d1⟩:=np r (n:=n) (by omega)
 obtain⟨t2,e2⟩:=kb r1 (n:=n) (by omega)
 rw[d1]at e2
 exact⟨_,P1,_,e1,e2,(h'.app t).app t2,(Ex.app s t J).trans (Ex.app _ _ J)⟩
theorem Kc {ts:List Tok}{n:Nat}(hn:ts.length+20≤n){P:Nat}{s sp:ag}{r:AV}{rest:List Tok}{base:List Lv}{k:Nat}{cs:List az}{J:List Nat}(h:PR ts P s rest base k cs J)(e:ab Tryz.prog (den C n) 98 [.ref P 0] s=some (r,sp)):s.length≤sp.length:=by
 obtain⟨pos,i,rfl,h⟩:=h
 obtain⟨tk,st,rr⟩:=h.xw
 obtain⟨t,e'⟩:=kb rr (n:=n) (by omega)
 rw[e']at e
 cases e
 rw[bJ];omega
theorem Ke:bH Tryz.prog 3=fun s=>some (.ref s.length 0,s++[(3,[I 0])]):=by
 have h:zeroOf Tryz.prog 3=some (I 0):=by kernel_rfl
 funext s
 simp[bH,h]
theorem xI {ts:List Tok}{m n:Nat}(hn:m*20+ts.length+99≤n){P:Nat}{s:ag}{rest:List Tok}{base:List Lv}{k:Nat}{cs:List az}{J:List Nat}{b:Bool}{rest':List Tok}{bY:List az}
  (h:PR ts P s rest base k cs J)(hr:run m my rest cs=some (b,rest',bY))(hb:base.length+dC bY<900000000){L:Nat}(hL:s[L]?=some (147,[I (sD rest).1,.str (sD rest).2]))(hj:L∉J) :
  ∃s' J',(∀n' e,e 1=pb P→e 2=.ref L 0→u5 (den C n) n' e s=some (.aI [],s'))∧PR ts P s' rest' base k bY J'∧Ex s s' J J':=by
 obtain⟨m',hm',ho⟩:=xH hr
 have l1:af false false 1 (.ref L 1) s=some (.str (sD rest).2,s):=ld (o:=1) hL (by decide) rfl (by decide)
 have e1:=(ze (sD rest).2).of (n:=n) (by omega) s
 have e1:ab Tryz.prog (den C n) 101 [.str (sD rest).2] s=some (I (pG rest),s):=e1
 have dZ:aB 1 (s++[(3,[I 0])]) (.ref s.length 0) (I (pG rest))=some (s++[(3,[I (pG rest)])]):=by
  rw[ParF.st (o:=0) (n:=1) (v:=I (pG rest)) (aW (x:=(3,[I 0]))) (by decide) rfl rfl (by show 0+1≤1;omega),eG];rfl
 have pa:=h.app [(3,[I (pG rest)])]
 have nj:s.length∉J:=fun hm=>by obtain⟨pp,ii,_,hh⟩:=h;exact Nat.lt_irrefl _ (hh.lt _ hm)
 have Re:(s++[(3,[I (pG rest)])])[s.length]?=some (3,[I (pG rest)]):=aW
 have l2:af false false 1 (.ref s.length 0) (s++[(3,[I (pG rest)])])=some (I (pG rest),s++[(3,[I (pG rest)])]):=ld (o:=0) Re (by decide) rfl (by decide)
 have G1:(s++[(3,[I (pG rest)])])[L]?=some (147,[I (sD rest).1,.str (sD rest).2]):=(bE (iN hL)).trans hL
 have l3:af false false 1 (.ref L 0) (s++[(3,[I (pG rest)])])=some (I (sD rest).1,s++[(3,[I (pG rest)])]):=ld (o:=0) G1 (by decide) rfl (by decide)
 have k0:((pG rest:Int)==0)=(pG rest==0):=dJ _ 0
 have k1:(((sD rest).1:Int) != 104)=!((sD rest).1==104):=by rw[bne];exact congrArg _ (dJ _ 104)
 rcases ho with ⟨hK,hx,bG⟩|⟨hK,bG⟩
 ·have z0:(pG rest==0)=false:=by simp;omega
  have z1:((sD rest).1==104)=true:=by simp[hx]
  obtain⟨m1,ds,hm1,hr2,rfl⟩:=nk bG
  rw[aw,aT,aZ]at hb
  obtain⟨n,rfl⟩:∃j,n=j+3:=⟨n-3,by omega⟩
  obtain⟨s1,J1,q1,p1,x1⟩:=vw (k:=pG rest) [] pa hb (v:=.fn 104 [] [.box [.ref P 0] 0,.ref s.length 0]) rfl n fun s3 lv J3 p3 x3=>by
   have Ds:=(x3.fr s.length (by rw[aP];omega) nj).trans Re
   obtain⟨s4,J4,e4,p4,x4⟩:=acZ hK (n:=n+2) (m:=m1) (by omega) p3 Ds (x3.mA (by rw[aP];omega) nj) hr2 (by rw[bJ];show base.length+1+_<_;omega)
   exact⟨s4,J4,_,e4,p4,x4⟩
  refine⟨s1,J1,fun n' e fy kK=>?_,p1,(Ex.app s _ J).trans x1⟩
  rw[u5]
  simp -implicitDefEqProofs only[sL,fy,kK,l1,e1,Ke,dZ,l2,k0,z0,l3,k1,z1,q1]
 ·obtain⟨s1,J1,q1,p1,x1⟩:=ac2 ts m' n (by omega) P _ rest base k cs J b rest' bY pa bG hb
  have q1:ab Tryz.prog (den C n) 102 [.ref P 0] (s++[(3,[I (pG rest)])])=some (.aI [],s1):=q1
  refine⟨s1,J1,fun n' e fy kK=>?_,p1,(Ex.app s _ J).trans x1⟩
  rw[u5]
  cases z0:(pG rest==0) with
  | true=>simp -implicitDefEqProofs only[sL,fy,kK,l1,e1,Ke,dZ,l2,k0,z0,q1]
  | false =>
   have z1:((sD rest).1==104)=false:=by
    rcases hK with h|h
    ·simp[h]at z0
    ·simpa using h
   simp -implicitDefEqProofs only[sL,fy,kK,l1,e1,Ke,dZ,l2,k0,z0,l3,k1,z1,q1]
theorem s60 (ts:List Tok)(m:Nat):eK ts m my vd (ef 65 fun P=>[.ref P 0]):=by
 intro n hn P s rest base k cs J b rest' bY h hr hb
 obtain⟨n,rfl⟩:∃j,n=j+1:=⟨n-1,by omega⟩
 have hm2:2≤m:=by
  obtain⟨m1,e1⟩:=dz hr
  obtain⟨m',h',ho⟩:=xH hr
  have:0<m':=by
   rcases ho with ⟨_,_,h⟩|⟨_,h⟩<;>(obtain⟨q,e⟩:=dz h;omega)
  omega
 obtain⟨sp,s2,L,qp,qs,p2,x2,Re,hlt2,qH,YX⟩:=rL (n:=n) (by omega) h
 have hsp:=Kc (n:=n) (by omega) h qp
 obtain⟨s3,q3,p3,x3⟩:=(cN (ts:=ts) [lY] (by decide:1<50)).use (n:=n) (by omega) p2
 have q3:ab Tryz.prog (den C n) 99 [.ref P 0,.sl 9 1 [.str [112,117,98]] .sh] s2=some (.bool (eN [lY] (pk rest)),s3):=q3
 have G1:=(x3.fr L hlt2 qH).trans Re
 have x03:=x2.trans x3
 subst YX
 cases hp:eN [lY] (pk rest) with
 | false =>
  rw[hp]at q3
  have hX:sD rest=pk rest:=by rw[sD,hp];rfl
  obtain⟨s4,J4,q4,p4,x4⟩:=xI (n:=n) (m:=m) (by omega) p3 hr hb (L:=sp.length) (by rw[hX];exact G1) qH
  refine⟨s4,J4,?_,p4,x03.trans x4⟩
  show ab Tryz.prog (den C (n+1)) 65 [.ref P 0] s=_
  rw[aF WT (a7 ..),IX,F65]
  simp -implicitDefEqProofs only[sL,aq,qp,cz,qs,cD,aj,q3]
  exact q4 _ _ rfl rfl
 | true =>
  rw[hp]at q3
  have hX:sD rest=pk (la rest):=by rw[sD,hp];rfl
  obtain⟨s5,P1,s6,q5,q6,p6,x6⟩:=G5 (n:=n) (by omega) p3
  have ac3:=iN G1
  have TH:=(x6.fr sp.length ac3 qH).trans G1
  have dZ:aB 2 s6 (.ref sp.length 0) (nh (pk (la rest)))=some (s6.set sp.length (147,[I (pk (la rest)).1,.str (pk (la rest)).2])):=by
   rw[ParF.st (o:=0) (n:=2) (v:=nh (pk (la rest))) TH (by decide) rfl rfl (by show 2≤2;omega)];rfl
  have p7:=p6.Us qH (147,[I (pk (la rest)).1,.str (pk (la rest)).2])
  have hL7:(s6.set sp.length (147,[I (pk (la rest)).1,.str (pk (la rest)).2]))[sp.length]?=some (147,[I (sD rest).1,.str (sD rest).2]):=by rw[hX];exact bK TH
  have xc:Ex s6 (s6.set sp.length (147,[I (pk (la rest)).1,.str (pk (la rest)).2])) (sp.length::J) (sp.length::J):=⟨by rw[bh];exact Nat.le_refl _,fun x hx hj=>bu fun e=>hj (by rw[←e];exact List.mem_cons_self ..),fun _ h=>.inl h⟩
  have x07:=(((x03.trans x6).o9 [sp.length]).trans xc).JZ hsp qH
  obtain⟨s8,J8,q8,p8,x8⟩:=xI (n:=n) (m:=m) (by omega) p7 hr hb (L:=sp.length) hL7 qH
  refine⟨s8,J8,?_,p8,x07.trans x8⟩
  show ab Tryz.prog (den C (n+1)) 65 [.ref P 0] s=_
  rw[aF WT (a7 ..),IX,F65]
  simp -implicitDefEqProofs only[sL,aq,qp,cz,qs,cD,aj,q3,q5,q6,dZ]
  exact q8 _ _ rfl rfl
end ParF
end
