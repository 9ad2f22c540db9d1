/- SvQ, SvR, SvS, SvU, SvV, SvW, SvX, SvY, SvZ -/
import Derived.Test.YtfhoaocedkkjbaaGreatDoorE
set_option linter.all false
set_option maxRecDepth 100000

section
namespace Srv
open Go Go.Abs Go.Proofs
theorem c119 (n:Nat){s:Heap}{S:Nat}{r:Int}{cs:List AV}(h:s[S]?=some (148,I r::cs)):den C (n+1) 119 [.ref S 0] s=some (I r,s):=by
 have l:aLoad false false 1 (.ref S 0) s=some (I r,s):=ldv h (by decide) rfl
 rw[rd Tryz.func119];conv in compF _ _ _ _ _ _=>cbv
 simp only[strip_rs,strip_mr,strip_nilf,Bool.false_eq_true,if_false,↓kR,kE,kK,sL,C_P,Nat.reduceEqDiff,reduceIte,Tryz.f119,l,sL]
theorem a119 (n:Nat){s:Heap}{S:Nat}{r:Int}{cs:List AV}(h:s[S]?=some (148,I r::cs)):aCall Tryz.prog (den C (n+1)) 119 [.ref S 0] s=some (I r,s):=by
 rw[aCall,if_pos (by kernel_rfl),if_neg (by simp[noRefL_cons,AV.noRef])]
 exact c119 n h
structure DB (s:Heap)(F:Foot)(S M D Mr Ma Av:Nat)(r:Int)(f:Inp)(stop:AV)(comps clock:Int)(rl al:ML):Prop where
 inp:IS s F S M r f
 db:s[D]?=some (121,[.fn 35 [] [.ref Av 0],.ref S 0,.mr Mr,.mr Ma,stop,I comps,I clock])
 av:s[Av]?=some (54,[.fn 22 [] []])
 rm:s[Mr]?=some (mapTy,.undef::flat rl)
 am:s[Ma]?=some (mapTy,.undef::flat al)
theorem b163 (r:Int):aBuild Tryz.prog 163 [(1,I r),(2,I r),(3,I 2)]=some (.agg [.nils,.str [],I r,I r,I 2,.nils,I 0]):=by
 have:∀r,aBuild Tryz.prog 163 [(1,I r),(2,I r),(3,I 2)]=some (.agg [.nils,.str [],I r,I r,I 2,.nils,I 0]):=fun r=>by kernel_rfl
 exact this _
theorem al161 (s:Heap):aAlloc Tryz.prog 161 s=some (.ref s.length 0,s++[(161,[AV.nilp])]):=by
 have:∀s,aAlloc Tryz.prog 161 s=some (.ref s.length 0,s++[(161,[AV.nilp])]):=fun s=>by kernel_rfl
 exact this s
theorem nq23:aBin Tryz.prog .neq 23 .nilf .nilf=some (.bool false):=by kernel_rfl
theorem nq23f (g:FuncId)(l:List AV):aBin Tryz.prog .neq 23 (.fn g [] l) .nilf=some (.bool true):=by
 have:∀g l,aBin Tryz.prog .neq 23 (.fn g [] l) .nilf=some (.bool true):=fun g l=>by kernel_rfl
 exact this g l
theorem nq161:aBin Tryz.prog .neq 161 .nilp .nilp=some (.bool false):=by kernel_rfl
theorem nq161r (i:Nat):aBin Tryz.prog .neq 161 (.ref i 0) .nilp=some (.bool true):=by
 have:∀i,aBin Tryz.prog .neq 161 (.ref i 0) .nilp=some (.bool true):=fun i=>by kernel_rfl
 exact this i
theorem fin118 {s6:Heap}{D Wd Wr R Mr:Nat}{g0 sS am sp:AV}{comps clock:Int}{rl:ML}(hD:s6[D]?=some (121,[g0,sS,.mr Mr,am,sp,I comps,I clock]))(w6:s6[Wd]?=some (76,[AV.ref D 0]))(wr6:s6[Wr]?=some (161,[AV.ref R 0]))(m6:s6[Mr]?=some (mapTy,.undef::flat rl))(k:K3)(hc:0≤comps∧comps<1000000000) :
  ∃s7 s8,aLoad false false 1 (.ref Wr 0) s6=some (.ref R 0,s6)∧aMapSet Tryz.prog 118 (.mr Mr) (Kv k) (.ref R 0) s6=some s7∧aLoad false false 1 (.ref Wd 0) s7=some (.ref D 0,s7)∧aLoad false false 1 (.ref D 5) s7=some (I comps,s7)∧aStore 1 s7 (.ref D 5) (I (comps+1))=some s8∧aLoad false false 1 (.ref Wr 0) s8=some (.ref R 0,s8) ∧
   s8[D]?=some (121,[g0,sS,.mr Mr,am,sp,I (comps+1),I clock])∧s8[Mr]?=some (mapTy,.undef::flat (mset rl k (.ref R 0)))∧(∀i,i≠D→i≠Mr→s8[i]?=s6[i]?)∧s8.length=s6.length:=by
 have ne:∀{i j:Nat} {t t':TypeId} {c c':List AV},s6[i]?=some (t,c)→s6[j]?=some (t',c')→t≠t'→i≠j:=fun h1 h2 h3 e=>by rw[e,h2]at h1;cases h1;exact h3 rfl
 have nMD:Mr≠D:=ne m6 hD (by decide)
 obtain⟨s7,e7⟩:∃s7,s6.set Mr (mapTy,.undef::flat (mset rl k (.ref R 0)))=s7:=⟨_,rfl⟩
 have a7:s7[D]?=some (121,[g0,sS,.mr Mr,am,sp,I comps,I clock]):=by rw[←e7,gset_ne nMD];exact hD
 have b7:s7[Wd]?=some (76,[AV.ref D 0]):=by rw[←e7,gset_ne (ne m6 w6 (by decide))];exact w6
 have r7:s7[Wr]?=some (161,[AV.ref R 0]):=by rw[←e7,gset_ne (ne m6 wr6 (by decide))];exact wr6
 obtain⟨s8,e8⟩:∃s8,s7.set D (121,[g0,sS,.mr Mr,am,sp,I (comps+1),I clock])=s8:=⟨_,rfl⟩
 refine⟨s7,s8,ldv wr6 (by decide) rfl,(mSet und118 m6 k rfl).trans (congrArg some e7),ldv b7 (by decide) rfl,ldv a7 (by decide) rfl,?_,ldv (by rw[←e8,gset_ne (ne hD wr6 (by decide))];exact r7) (by decide) rfl,by rw[←e8];exact gset_eq a7,by rw[←e8,gset_ne nMD.symm,←e7];exact gset_eq m6,fun i h1 h2=>by rw[←e8,gset_ne h1.symm,←e7,gset_ne h2.symm],by rw[←e8,set_length,←e7,set_length]⟩
 rw[st (n:=1) a7 (by decide) rfl rfl (by simp),←e8];rfl
def Rec (s s':Heap)(D Mr R:Nat)(db:List AV)(rl:ML)(k:K3)(r:Int)(nums:List Int)(t:Bytes)(ds:List K3):Prop :=
 s.length≤R∧(∃nv chg dv,s'[R]?=some (163,[nv,.str t,I r,I chg,I 0,dv,I 0])∧NV s' nv nums∧nv.strip=nv∧(∀Q n,nv=.rs 3 1 Q 0 n→s.length≤Q)∧DV s.length R R R s' dv ds)∧s'[D]?=some (121,db)∧s'[Mr]?=some (mapTy,.undef::flat (mset rl k (.ref R 0)))∧(∀i,i<s.length→i≠D→i≠Mr→s'[i]?=s[i]?)∧s.length≤s'.length
set_option maxRecDepth 200000 in
set_option maxHeartbeats 2000000 in
theorem c118 (n:Nat){s:Heap}{F:Foot}{S M D Mr Ma Av:Nat}{r:Int}{f:Inp}{comps clock:Int}{rl al:ML}{stop:AV}(h:DB s F S M D Mr Ma Av r f stop comps clock rl al)(hstop:stop=.nilf∨∃g l,stop=.fn g [] l∧aCallV Tryz.prog (den C (n+11)) (.fn g [] l) [] (s++[(76,[AV.ref D 0])])=some (.bool false,s++[(76,[AV.ref D 0])]))(hF:∀i,F i→i<s.length)(hcm:0≤comps∧comps<1000000000)(hres:∀k x,mlook rl k=some x→∃R' nv' t' ver' chg' dv' last' xs',x=.ref R' 0∧s[R']?=some (163,[nv',.str t',I ver',I chg',I 0,dv',I last'])∧NV s nv' xs'∧nv'.strip=nv'∧xs'.length<100)(hn:140<n)(hn2:n<800000){c:Nat}(hc:(f (0,0,0)).xs=[(c:Int)])(hc8:c≤8)(q a:Int)(i:Nat)(hi:i<c) :
  ∃R s',den C (n+12) 118 [.ref D 0,Kv (q,a,(i:Int))] s=some (.ref R 0,s')∧Rec s s' D Mr R [.fn 35 [] [.ref Av 0],.ref S 0,.mr Mr,.mr Ma,stop,I (comps+1),I clock] rl (q,a,(i:Int)) r ((comp f c (q,a,i)).1::(comp f c (q,a,i)).2.1) (comp f c (q,a,i)).2.2 ((rds c (q,a,i)).foldl insK3 []):=by
 obtain⟨b0,nqs,hss,hq⟩:∃b0,aBin Tryz.prog .neq 23 stop .nilf=some (.bool b0)∧stop.strip=stop∧(b0=true→aCallV Tryz.prog (den C (n+11)) stop [] (s++[(76,[AV.ref D 0])])=some (.bool false,s++[(76,[AV.ref D 0])])):=by
  rcases hstop with rfl|⟨g,l,rfl,hc⟩
  ·exact⟨false,nq23,rfl,nofun⟩
  ·exact⟨true,nq23f g l,rfl,fun _=>hc⟩
 clear hstop
 cases b0
 all_goals
  obtain⟨x1,x2,hS⟩:=h.inp.st
  obtain⟨s1,e1⟩:∃s1,s++[(76,[AV.ref D 0])]=s1:=⟨_,rfl⟩
  rw[e1]at hq
  have g1:Gr s s1:=e1▸Gr.app ..
  have at1:s1[s.length]?=some (76,[AV.ref D 0]):=e1▸gapp_new
  have l76:aLoad false false 1 (.ref s.length 0) s1=some (.ref D 0,s1):=ldv at1 (by decide) rfl
  have lst:aLoad false false 1 (.ref D 4) s1=some (stop,s1):=ldv (g1.at h.db) (by decide) rfl hss
  have lS:aLoad false false 1 (.ref D 1) s1=some (.ref S 0,s1):=ldv (g1.at h.db) (by decide) rfl
  have cr:=a119 (n+10) (g1.at hS)
  have bx:∀s,aBox true 76 (.ref D 0) s=some (.ref s.length 0,s++[(76,[AV.ref D 0])]):=fun s=>boxR (t:=76) (by decide) rfl (by simp[AV.cells]) s
  have bR:∀s,aBox true 163 (.agg [.nils,.str [],I r,I r,I 2,.nils,I 0]) s=some (.ref s.length 0,s++[(163,[.nils,.str [],I r,I r,I 2,.nils,I 0])]):=fun s=>boxR (t:=163) (by decide) rfl (by simp[AV.cells]) s
  obtain⟨s2,e2⟩:∃s2,s1++[(163,[.nils,.str [],I r,I r,I 2,.nils,I 0])]=s2:=⟨_,rfl⟩
  obtain⟨s3,e3⟩:∃s3,s2++[(161,[AV.ref s1.length 0])]=s3:=⟨_,rfl⟩
  have st3:aStore 1 (s2++[(161,[AV.nilp])]) (.ref s2.length 0) (.ref s1.length 0)=some s3:=by
   rw[st (n:=1) (o:=0) (v:=.ref s1.length 0) gapp_new (by decide) rfl rfl (by simp),set_end,←e3];rfl
  have g2:Gr s1 s2:=e2▸Gr.app ..
  have g3:Gr s2 s3:=e3▸Gr.app ..
  have g03:=(g1.trans g2).trans g3
  have at2:s2[s1.length]?=some (163,[.nils,.str [],I r,I r,I 2,.nils,I 0]):=e2▸gapp_new
  have at3:s3[s2.length]?=some (161,[AV.ref s1.length 0]):=e3▸gapp_new
  have n1:s1.length=s.length+1:=by rw[←e1,app_length]
  have n2':s2.length=s.length+2:=by rw[←e2,app_length,n1]
  have hCS:CS s.length s3 F S M D r f (.fn 35 [] [.ref Av 0]) [.mr Mr,.mr Ma,stop,I comps,I clock] s.length s2.length s1.length r r []:=⟨h.inp.keep ((g03.bel (Nat.le_refl _)).keep hF),hF,glt h.db,g03.len,g03.at h.db,(g2.trans g3).at at1,at3,Nat.le_refl _,by omega,by omega,by omega,by omega,by omega,2,.nils,g3.at at2,.inr rfl,.nil,.inl rfl⟩
  obtain⟨nv,s4,c1,c2,c3,c4,c5,c6,c7⟩:=c35 n hCS (by simp;omega) hn2 hc hc8 q a i hi (g03.at h.av)
  have c1':aCallV Tryz.prog (den C (n+11)) (.fn 35 [] [.ref Av 0]) [.agg [I q,I a,I i],.fn 140 [] [.ref s.length 0,.ref s2.length 0]] s3=some (.agg [nv,.str (comp f c (q,a,i)).2.2],s4):=by
   show aCall Tryz.prog (den C (n+11)) 35 [.agg [I q,I a,I i],.fn 140 [] [.ref s.length 0,.ref s2.length 0],.ref Av 0] s3=_
   rw[aCall,if_pos (by kernel_rfl),if_neg (by simp[noRefL_cons,AV.noRef])];exact c1
  obtain⟨v',s5,d1,d2,d3,d4,d5⟩:=c107 (n+9) c2 (comp f c (q,a,i)).2.2
  obtain⟨dur,dv,hR4,_,hdv⟩:=c4.res
  have hdur:dur=0:=by
   obtain⟨cs,h1,h2⟩:=c7
   rw[hR4]at h1;cases h1;simpa using h2
  subst hdur
  have hR5:=d3.at hR4
  obtain⟨s6,e6⟩:∃s6,s5.set s1.length (163,[v',.str (comp f c (q,a,i)).2.2,I r,I r,I 0,dv,I 0])=s6:=⟨_,rfl⟩
  have st6:aStore 2 s5 (.ref s1.length 0) (.agg [v',.str (comp f c (q,a,i)).2.2])=some s6:=by
   rw[st (n:=2) hR5 (by decide) rfl rfl (by simp),←e6]
   show some (s5.set s1.length (163,[v'.strip,_,_,_,_,_,_]))=_
   rw[d4];rfl
  have concl:∀(t s8:Heap) (chg:Int),t[s1.length]?=some (163,[v',.str (comp f c (q,a,i)).2.2,I r,I chg,I 0,dv,I 0])→(∀k,k≠s1.length→t[k]?=s6[k]?)→t.length=s6.length→s8[D]?=some (121,[.fn 35 [] [.ref Av 0],.ref S 0,.mr Mr,.mr Ma,stop,I (comps+1),I clock])→s8[Mr]?=some (mapTy,.undef::flat (mset rl (q,a,(i:Int)) (.ref s1.length 0)))→(∀k,k≠D→k≠Mr→s8[k]?=t[k]?)→s8.length=t.length →
    Rec s s8 D Mr s1.length [.fn 35 [] [.ref Av 0],.ref S 0,.mr Mr,.mr Ma,stop,I (comps+1),I clock] rl (q,a,(i:Int)) r ((comp f c (q,a,i)).1::(comp f c (q,a,i)).2.1) (comp f c (q,a,i)).2.2 ((rds c (q,a,i)).foldl insK3 []):=by
   intro t s8 chg h1 h2 h3 h4 h5 h6 h7
   have hlD:=glt h.db
   have hlM:=glt h.rm
   have l4:s.length≤s4.length:=c4.hb
   have big:∀k,s.length≤k→k≠s1.length→s8[k]?=s5[k]?:=fun k hk hk1=>by
    rw[h6 k (by omega) (by omega),h2 k hk1,←e6,gset_ne hk1.symm]
   have nw:∀Q n,v'=.rs 3 1 Q 0 n→s.length≤Q:=fun Q n e=>Nat.le_trans l4 (d5 Q n e)
   refine⟨by omega,⟨v',chg,dv,by rw[h6 _ (by omega) (by omega)];exact h1,d2.fr fun Q m e=>?_,d4,nw,hdv.1.fr fun Q off m e=>?_,?_⟩,h4,h5,fun k hk k1 k2=>?_,by rw[h7,h3,←e6,set_length];exact Nat.le_trans l4 d3.len⟩
   ·obtain⟨cs,hc'⟩:=d2.row e
    exact big Q (nw Q m e) (fun e'=>by rw[e',hR5]at hc';cases hc')
   ·obtain⟨cs,hc'⟩:=hdv.1.row e
    rcases hdv.2 with h'|⟨Q',n',h',q1,q2,_⟩
    ·rw[h']at e;cases e
    ·rw[h']at e;cases e
     rw[big _ q1 q2,d3.get (glt hc')]
   ·rcases hdv.2 with h'|⟨Q',n',h',q1,q2,_⟩
    ·exact .inl h'
    ·exact .inr ⟨Q',n',h',q1,q2,q2,q2⟩
   ·rw[h6 k k1 k2,h2 k (by omega),←e6,gset_ne (by omega),d3.get (Nat.lt_of_lt_of_le hk l4),c5.old k hk,g03.get hk]
  have l1:aLoad false false 1 (.ref s2.length 0) s3=some (.ref s1.length 0,s3):=ldv at3 (by decide) rfl
  have l2:aLoad false false 1 (.ref s.length 0) s3=some (.ref D 0,s3):=ldv hCS.wd (by decide) rfl
  have l3:aLoad false false 1 (.ref D 0) s3=some (.fn 35 [] [.ref Av 0],s3):=ldv hCS.db (by decide) rfl
  have bk:∀s,aLoad false true 3 (.box [I q,I a,I i] 0) s=some (.agg [I q,I a,I i],s):=fun s=>boxG (n:=3) rfl false s
  have kp4:(kept s3 s4).contains s2.length=true:=kept_of (glt at3) (c4.wr.trans at3.symm)
  have kp5:(kept s4 s5).contains s2.length=true:=kept_of (glt c4.wr) (d3.get (glt c4.wr))
  have kc:∀t t',dyn (kCallV (.fn 35 [] [.ref Av 0]) [.agg [I q,I a,I i],.fn 140 [] [.ref s.length 0,.ref s2.length 0]]) t t'=.call (kept t t'):=fun t t'=>rfl
  have hD6:s6[D]?=some (121,[.fn 35 [] [.ref Av 0],.ref S 0,.mr Mr,.mr Ma,stop,I comps,I clock]):=by
   rw[←e6,gset_ne (by have:=glt h.db;omega)];exact d3.at c4.db
  have w6:s6[s.length]?=some (76,[AV.ref D 0]):=by
   rw[←e6,gset_ne (by omega)];exact d3.at c4.wd
  have m6:s6[Mr]?=some (mapTy,.undef::flat rl):=by
   have:=glt h.rm
   rw[←e6,gset_ne (by omega)];exact d3.at (c5.at this (g03.at h.rm))
  have l6:aLoad false false 1 (.ref s.length 0) s6=some (.ref D 0,s6):=ldv w6 (by decide) rfl
  have l7:aLoad false false 1 (.ref D 2) s6=some (.mr Mr,s6):=ldv hD6 (by decide) rfl
  have z161:zeroOf Tryz.prog 161=some .nilp:=by kernel_rfl
  have mg:∀x,mlook rl (q,a,(i:Int))=x→aMapGet Tryz.prog 118 (.mr Mr) (.agg [I q,I a,I i]) false s6=some (getR false ((x.getD .nilp).strip) x.isSome):=fun x hx=>by rw[←hx];exact mGet und118 z161 m6 (q,a,i) false
  cases hx:mlook rl (q,a,(i:Int)) with
  | none =>
   have mg:aMapGet Tryz.prog 118 (.mr Mr) (.agg [I q,I a,I i]) false s6=some .nilp:=mg _ hx
   have wr6:s6[s2.length]?=some (161,[AV.ref s1.length 0]):=by rw[←e6,gset_ne (by omega)];exact d3.at c4.wr
   obtain⟨s7,s8,f1,f2,f3,f4,f5,f6,f7,f8,f9,f10⟩:=fin118 hD6 w6 wr6 m6 (q,a,i) hcm
   have f2:aMapSet Tryz.prog 118 (.mr Mr) (.agg [I q,I a,I i]) (.ref s1.length 0) s6=some s7:=f2
   rw[rd Tryz.func118];conv in compF _ _ _ _ _ _=>cbv
   simp only[strip_rs,strip_mr,strip_nilf,Bool.false_eq_true,if_false,↓kR,kE,kK,sL,C_P,Nat.reduceEqDiff,reduceIte,Tryz.f118,bx,e1,l76,lst,nqs,hq,hss,lS,cr,b163,bR,e2,al161,st3,↓rC_seqj,rV_cvF,l1,l2,l3,bk,c1',cFs _ _ (by kernel_rfl:enterable Tryz.prog 107=true),d1,st6,kc,kp4,kp5,l6,l7,mg,nq161,f1,f2,f3,f4,wrap64 (show -9223372036854775808≤comps+1 by omega) (by omega),f5,f6,sL]
   exact⟨_,s8,rfl,concl s6 s8 r (by rw[←e6];exact gset_eq hR5) (fun _ _=>rfl) rfl f7 f8 f9 f10⟩
  | some x =>
   obtain⟨R',nv',t',ver',chg',dv',last',xs',rfl,hR',hnv',hst',hxl⟩:=hres _ _ hx
   have mg:aMapGet Tryz.prog 118 (.mr Mr) (.agg [I q,I a,I i]) false s6=some (.ref R' 0):=mg _ hx
   have lR':=glt hR'
   have old6:∀k,k<s.length→s6[k]?=s3[k]?:=fun k hk=>by
    rw[←e6,gset_ne (by omega),d3.get (Nat.lt_of_lt_of_le hk c4.hb),c5.old k hk]
   have o6:s6[R']?=some (163,[nv',.str t',I ver',I chg',I 0,dv',I last']):=(old6 R' lR').trans (g03.at hR')
   have hR6:s6[s1.length]?=some (163,[v',.str (comp f c (q,a,i)).2.2,I r,I r,I 0,dv,I 0]):=by rw[←e6];exact gset_eq hR5
   have nvo:NV s6 nv' xs':=(hnv'.gr g03).fr fun Q m e=>by
    obtain⟨cs,hc'⟩:=hnv'.row e
    exact old6 Q (glt hc')
   have nvn:NV s6 v' ((comp f c (q,a,i)).1::(comp f c (q,a,i)).2.1):=d2.fr fun Q m e=>by
    obtain⟨cs,hc'⟩:=d2.row e
    rw[←e6,gset_ne (fun e'=>by rw[←e',hR5]at hc';cases hc')]
   have lo4:aLoad false false 1 (.ref R' 4) s6=some (I 0,s6):=ldv o6 (by decide) rfl
   have ln4:aLoad false false 1 (.ref s1.length 4) s6=some (I 0,s6):=ldv hR6 (by decide) rfl
   have lo0:aLoad false true 2 (.ref R' 0) s6=some (.agg [nv',.str t'],s6):=ldA o6 (by decide) (by simp) (by decide)
   have ln0:aLoad false true 2 (.ref s1.length 0) s6=some (.agg [v',.str (comp f c (q,a,i)).2.2],s6):=ldA hR6 (by decide) (by simp) (by decide)
   have wr6:s6[s2.length]?=some (161,[AV.ref s1.length 0]):=by rw[←e6,gset_ne (by omega)];exact d3.at c4.wr
   have lw6:aLoad false false 1 (.ref s2.length 0) s6=some (.ref s1.length 0,s6):=ldv wr6 (by decide) rfl
   have eq:=a135 (n+9) nvo nvn (by omega) t' (comp f c (q,a,i)).2.2
   have d0:decide ((0:Int)≤0)=true:=rfl
   rw[rd Tryz.func118];conv in compF _ _ _ _ _ _=>cbv
   simp only[strip_rs,strip_mr,strip_nilf,Bool.false_eq_true,if_false,↓kR,kE,kK,sL,C_P,Nat.reduceEqDiff,reduceIte,Tryz.f118,bx,e1,l76,lst,nqs,hq,hss,lS,cr,b163,bR,e2,al161,st3,↓rC_seqj,rV_cvF,l1,l2,l3,bk,c1',cFs _ _ (by kernel_rfl:enterable Tryz.prog 107=true),d1,st6,kc,kp4,kp5,l6,l7,mg,nq161r,lo4,ln4,lw6,lo0,ln0,eq,d0,sL]
   have wb:=wrap64 (show -9223372036854775808≤comps+1 by omega) (by omega)
   cases hb:(t'==(comp f c (q,a,(i:Int))).2.2&&decide (xs'=(comp f c (q,a,(i:Int))).1::(comp f c (q,a,(i:Int))).2.1)) with
   | false =>
    obtain⟨s7,s8,f1,f2,f3,f4,f5,f6,f7,f8,f9,f10⟩:=fin118 hD6 w6 wr6 m6 (q,a,i) hcm
    have f2:aMapSet Tryz.prog 118 (.mr Mr) (.agg [I q,I a,I i]) (.ref s1.length 0) s6=some s7:=f2
    simp only[strip_rs,strip_mr,strip_nilf,Bool.false_eq_true,if_false,↓kR,kE,kK,sL,C_P,Nat.reduceEqDiff,reduceIte,f1,f2,f3,f4,wb,f5,f6,sL]
    exact⟨_,s8,rfl,concl s6 s8 r hR6 (fun _ _=>rfl) rfl f7 f8 f9 f10⟩
   | true =>
    obtain⟨s6',e6'⟩:∃s6',s6.set s1.length (163,[v',.str (comp f c (q,a,i)).2.2,I r,I chg',I 0,dv,I 0])=s6':=⟨_,rfl⟩
    have lc:aLoad false false 1 (.ref R' 3) s6=some (I chg',s6):=ldv o6 (by decide) rfl
    have sc:aStore 1 s6 (.ref s1.length 3) (I chg')=some s6':=by
     rw[st (n:=1) hR6 (by decide) rfl rfl (by simp),←e6'];rfl
    have oth:∀k,k≠s1.length→s6'[k]?=s6[k]?:=fun k hk=>by rw[←e6',gset_ne hk.symm]
    have hlD:=glt h.db
    have hlM:=glt h.rm
    have w6':=(oth s.length (by omega)).trans w6
    have l6':aLoad false false 1 (.ref s.length 0) s6'=some (.ref D 0,s6'):=ldv w6' (by decide) rfl
    have hD6':=(oth D (by omega)).trans hD6
    have l7':aLoad false false 1 (.ref D 2) s6'=some (.mr Mr,s6'):=ldv hD6' (by decide) rfl
    obtain⟨s7,s8,f1,f2,f3,f4,f5,f6,f7,f8,f9,f10⟩:=fin118 hD6' w6' ((oth s2.length (by omega)).trans wr6) ((oth Mr (by omega)).trans m6) (q,a,i) hcm
    have f2:aMapSet Tryz.prog 118 (.mr Mr) (.agg [I q,I a,I i]) (.ref s1.length 0) s6'=some s7:=f2
    simp only[strip_rs,strip_mr,strip_nilf,Bool.false_eq_true,if_false,↓kR,kE,kK,sL,C_P,Nat.reduceEqDiff,reduceIte,lc,sc,l6',l7',f1,f2,f3,f4,wb,f5,f6,sL]
    exact⟨_,s8,rfl,concl s6' s8 chg' (by rw[←e6'];exact gset_eq hR6) oth (by rw[←e6',set_length]) f7 f8 f9 f10⟩
end Srv
end

section
namespace Srv
open Go Go.Abs Go.Proofs
theorem IS.gr {s s':Heap}{F:Foot}{S M:Nat}{r:Int}{f:Inp}(h:IS s F S M r f)(g:Gr s s'):IS s' F S M r f:=by
 obtain⟨b,c,hS⟩:=h.st
 obtain⟨l,hM,hl⟩:=h.mp
 exact⟨h.ne,h.FSS,h.FM,⟨b,c,g.at hS⟩,l,g.at hM,fun q=>(hl q).imp id fun⟨x,h1,v,e,h2,h3,h4,h5⟩=>⟨x,h1,v,e,h2.gr g,h3,h4,h5⟩⟩
theorem c136 (n:Nat){s:Heap}{F:Foot}{S M:Nat}{r:Int}{f:Inp}(h:IS s F S M r f):den C (n+1) 136 [.ref S 0,I 0] s=some (I r,s):=by
 obtain⟨b,c,hS⟩:=h.st
 have l:aLoad false false 1 (.ref S 1) s=some (I r,s):=ldv hS (by decide) rfl
 rw[rd Tryz.func136];conv in compF _ _ _ _ _ _=>cbv
 simp only[strip_rs,strip_mr,strip_nilf,Bool.false_eq_true,if_false,↓kR,kE,kK,sL,C_P,Nat.reduceEqDiff,reduceIte,Tryz.f136,dec00,dec30,und146,l,sL]
theorem a136 (n:Nat){s:Heap}{F:Foot}{S M:Nat}{r:Int}{f:Inp}(h:IS s F S M r f):aCall Tryz.prog (den C (n+1)) 136 [.ref S 0,I 0] s=some (I r,s):=by
 rw[aCall,if_pos (by kernel_rfl),if_neg (by simp[noRefL_cons,AV.noRef])]
 exact c136 n h
theorem c139 (n:Nat){s:Heap}{F:Foot}{S M D:Nat}{r:Int}{f:Inp}{g:AV}{o:List AV}(h:IS s F S M r f)(hD:s[D]?=some (121,g::.ref S 0::o))(k:K3)(hk:k.1=0)(v:Int) :
  ∃s',den C (n+4) 139 [.ref D 0,Kv k,I v] s=some (.bool (decide (v<(f k).ch)),s')∧Gr s s':=by
 obtain⟨a,b,c⟩:=k
 simp only at hk
 subst hk
 have lS:aLoad false false 1 (.ref D 1) s=some (.ref S 0,s):=ldv hD (by decide) rfl
 have bk:=bxk (0,b,c)
 simp only at bk
 have l0:aLoad false false 1 (.box [I 0,I b,I c] 0) s=some (I 0,s):=by rw[aLoad_one];rfl
 obtain⟨v',s1,c1,c2,c3,c4,c5⟩:=c105 n h (0,b,c)
 rw[rd Tryz.func139];conv in compF _ _ _ _ _ _=>cbv
 simp only[strip_rs,strip_mr,strip_nilf,Bool.false_eq_true,if_false,↓kR,kE,kK,sL,C_P,Nat.reduceEqDiff,reduceIte,Tryz.f139,bk,lS,l0,beq_self_eq_true,cFs _ _ (by kernel_rfl:enterable Tryz.prog 105=true),c1,sL]
 obtain⟨s2,e2⟩:∃s2,s1++[(82,[v',AV.str (f (0,b,c)).t])]=s2:=⟨_,rfl⟩
 have hst:aStore 2 (s1++[(82,[.nils,.str []])]) (.ref s1.length 0) (.agg [v',.str (f (0,b,c)).t])=some s2:=by
  rw[stW (n:=2) (cs:=[.nils,.str []]) gapp_new (by decide) rfl rfl (by show [v'.strip,_]=_;rw[c4];rfl),set_end,e2]
 simp only[strip_rs,strip_mr,strip_nilf,Bool.false_eq_true,if_false,↓kR,kE,kK,sL,C_P,Nat.reduceEqDiff,reduceIte,allocS z82 (by decide) ⟨nofun,rfl⟩,hst,sL]
 exact⟨s2,rfl,c3.trans (e2▸Gr.app ..)⟩
theorem c138 (n:Nat){s:Heap}{F:Foot}{S M D R:Nat}{r:Int}{f:Inp}{g:AV}{o:List AV}{w1 w2:AV}{ver:Int}{cs:List AV}(h:IS s F S M r f)(hD:s[D]?=some (121,g::.ref S 0::o))(hR:s[R]?=some (163,w1::w2::I ver::cs))(k:K3)(hk:k.1=0) :
  ∃s',den C (n+5) 138 [Kv k,.box [.ref D 0] 0,.box [.ref R 0] 0] s=some (.bool (decide (ver<(f k).ch)),s')∧Gr s s':=by
 obtain⟨s1,c1,c2⟩:=c139 n h hD k hk ver
 have bk:=bxk k
 obtain⟨a,b,c⟩:=k
 simp only at bk
 have l2:aLoad false false 1 (.ref R 2) s=some (I ver,s):=ldv hR (by decide) rfl
 have b1:aLoad false false 1 (.box [.ref D 0] 0) s=some (.ref D 0,s):=by rw[aLoad_one];rfl
 have b2:aLoad false false 1 (.box [.ref R 0] 0) s=some (.ref R 0,s):=by rw[aLoad_one];rfl
 have cl:aCall Tryz.prog (den C (n+4)) 139 [.ref D 0,.agg [I a,I b,I c],I ver] s=some (.bool (decide (ver<(f (a,b,c)).ch)),s1):=by
  rw[aCall,if_pos (by kernel_rfl),if_neg (by simp[noRefL_cons,AV.noRef])]
  exact c1
 rw[rd Tryz.func138];conv in compF _ _ _ _ _ _=>cbv
 simp only[strip_rs,strip_mr,strip_nilf,Bool.false_eq_true,if_false,↓kR,kE,kK,sL,C_P,Nat.reduceEqDiff,reduceIte,Tryz.f138,bk,b1,b2,l2,cl,sL]
 exact⟨s1,rfl,c2⟩
def fidx {α:Type}(p:α→Bool)(l:List α):Int:=if l.any p=true then(l.findIdx p:Int) else -1
theorem fidx_at {α:Type}{p:α→Bool}{l:List α}{i:Nat}(hi:i<l.length)(hx:p l[i]=true)(ht:∀x∈l.take i,p x=false):fidx p l=i:=by
 have h1:l.any p=true:=List.any_eq_true.2 ⟨_,List.getElem_mem hi,hx⟩
 rw[fidx,if_pos h1]
 congr 1
 rw[List.findIdx_eq hi]
 exact⟨hx,fun j hj=>ht _ (by rw[List.mem_iff_getElem];exact⟨j,by simp;omega,by simp⟩)⟩
theorem fidx_no {α:Type}{p:α→Bool}{l:List α}(ht:∀x∈l,p x=false):fidx p l=-1:=by
 have h1:¬l.any p=true:=by
  rw[List.any_eq_true]
  rintro⟨x,hx,h⟩
  rw[ht x hx]at h;cases h
 rw[fidx,if_neg h1]
theorem fidx_nn {α:Type}(p:α→Bool)(l:List α):decide (0≤fidx p l)=l.any p:=by
 unfold fidx
 cases h:l.any p<;>simp
theorem c158 {N:Nat}{s:Heap}{v f:AV}{l:List K3}(h:SL 79 3 s v (l.map keyC))(hf:f.strip=f)(p:K3→Bool)(hp:∀s1,Gr s s1→∀d∈l,∃s2,aCallV Tryz.prog (den C N) f [.agg (keyC d)] s1=some (.bool (p d),s2)∧Gr s1 s2)(hn:l.length<N) :
  ∃s',den C (N+1) 158 [v,f] s=some (I (fidx p l),s')∧Gr s s':=by
 have hs:=h.strip
 have hlen:aLen Tryz.prog 139 v.strip=some (I l.length):=by have:=hs.len und139;rwa [List.length_map]at this
 have hb:=h.els.2
 rw[List.length_map]at hb
 rw[rd Tryz.func158];conv in compF _ _ _ _ _ _=>cbv
 simp only[strip_rs,strip_mr,strip_nilf,Bool.false_eq_true,if_false,↓kR,kE,kK,sL,C_P,Nat.reduceEqDiff,reduceIte,Tryz.f158,hlen,sL]
 refine loopI (R:=fun a=>∃s',a=some (I (fidx p l),s')∧Gr s s') (fun i e s1=>Gr s s1∧e 0=v∧e 1=f∧e 7=I l.length∧e 8=I i∧∀x∈l.take i,p x=false) l.length ?_ ?_ l.length 0 (by omega) N hn _ _ ⟨.refl _,rfl,rfl,rfl,rfl,by simp⟩
 ·rintro i e s1 q hi ⟨g1,e0,e1,e7,e8,ht⟩ hk
  have hi':i<(l.map keyC).length:=by rw[List.length_map];exact hi
  obtain⟨a,p1,p2,p3,_⟩:=(hs.gr g1).at und139 sz79 (by decide) (by decide) hi'
  rw[List.getElem_map]at p2
  have hlt:decide (i<l.length)=true:=decide_eq_true hi
  obtain⟨s2,c1,c2⟩:=hp s1 g1 l[i] (List.getElem_mem hi)
  simp only[strip_rs,strip_mr,strip_nilf,Bool.false_eq_true,if_false,↓kR,kE,kK,sL,C_P,Nat.reduceEqDiff,reduceIte,e0,e1,e7,e8,hf,hlt,p1,p2,c1,sL]
  by_cases hx:p l[i]=true
  ·rw[hx]
   simp only[sL]
   rw[fidx_at hi hx ht]
   exact⟨s2,rfl,g1.trans c2⟩
  ·have hx:p l[i]=false:=by simpa using hx
   rw[hx]
   simp only[sL]
   rw[wrap64 (by omega) (by omega)]
   refine hk _ _ ⟨g1.trans c2,e0,e1,e7,iS i,?_⟩
   rw[List.take_succ,List.getElem?_eq_getElem hi]
   intro x hx'
   rcases List.mem_append.1 hx' with hx'|hx'
   ·exact ht x hx'
   ·simp only[Option.toList_some,List.mem_singleton]at hx'
    rw[hx'];exact hx
 ·rintro e s1 q ⟨g1,e0,e1,e7,e8,ht⟩
  have hlt:decide (l.length<l.length)=false:=decide_eq_false (by omega)
  simp only[strip_rs,strip_mr,strip_nilf,Bool.false_eq_true,if_false,↓kR,kE,kK,sL,C_P,Nat.reduceEqDiff,reduceIte,e7,e8,hlt,sL]
  rw[List.take_length]at ht
  rw[fidx_no ht]
  exact⟨s1,rfl,g1⟩
theorem c137 {N:Nat}{s:Heap}{v f:AV}{l:List K3}(h:SL 79 3 s v (l.map keyC))(hf:f.strip=f)(hr:f.noRef=false)(p:K3→Bool)(hp:∀s1,Gr s s1→∀d∈l,∃s2,aCallV Tryz.prog (den C N) f [.agg (keyC d)] s1=some (.bool (p d),s2)∧Gr s1 s2)(hn:l.length<N) :
  ∃s',den C (N+2) 137 [v,f] s=some (.bool (l.any p),s')∧Gr s s':=by
 obtain⟨s1,c1,c2⟩:=c158 h.strip hf p hp hn
 have cl:aCall Tryz.prog (den C (N+1)) 158 [v.strip,f] s=some (I (fidx p l),s1):=by
  rw[aCall,if_pos (by kernel_rfl),if_neg (by simp[noRefL_cons,hr])]
  exact c1
 have q:=fidx_nn p l
 have q':decide (fidx p l ≥ 0)=l.any p:=q
 rw[rd Tryz.func137];conv in compF _ _ _ _ _ _=>cbv
 simp only[strip_rs,strip_mr,strip_nilf,Bool.false_eq_true,if_false,↓kR,kE,kK,sL,C_P,Nat.reduceEqDiff,reduceIte,Tryz.f137,hf,strip2,cl,q,q',sL]
 exact⟨s1,rfl,c2⟩
def vld (f:Inp)(r ver:Int)(ds:List K3):Bool:=ver==r || !(ds.any fun d=>decide (ver<(f d).ch))
theorem c117 (n:Nat){s:Heap}{F:Foot}{S M D R:Nat}{r:Int}{f:Inp}{g:AV}{o:List AV}{w1 w2 x y dv:AV}{ver:Int}{cs:List AV}{ds:List K3}(h:IS s F S M r f)(hD:s[D]?=some (121,g::.ref S 0::o))(hR:s[R]?=some (163,w1::w2::I ver::x::I 0::dv::cs))(hv:dv.strip=dv)(hd:SL 79 3 s dv (ds.map keyC))(hk:∀d∈ds,d.1=0)(hver:ver≤r)(hn:ds.length<n) :
  ∃s',den C (n+8) 117 [.ref D 0,.ref R 0] s=some (.bool (vld f r ver ds),s')∧Gr s s':=by
 have lR:aLoad false false 1 (.ref R 2) s=some (I ver,s):=ldv hR (by decide) rfl
 have lR4:aLoad false false 1 (.ref R 4) s=some (I 0,s):=ldv hR (by decide) rfl
 have lR5:aLoad false false 1 (.ref R 5) s=some (dv,s):=ldv hR (by decide) rfl hv
 have lS:aLoad false false 1 (.ref D 1) s=some (.ref S 0,s):=ldv hD (by decide) rfl
 have b1:aLoad false false 1 (.box [.ref D 0] 0) s=some (.ref D 0,s):=by rw[aLoad_one];rfl
 have b2:aLoad false false 1 (.box [.ref R 0] 0) s=some (.ref R 0,s):=by rw[aLoad_one];rfl
 obtain⟨b,c,hS⟩:=h.st
 have cr:=a119 (n+6) hS
 have cl:=a136 (n+6) h
 have bx:∀i,aBox false 76 (.ref i 0) s=some (.box [.ref i 0] 0,s):=fun i=>boxV rfl s
 have bx':∀i,aBox false 161 (.ref i 0) s=some (.box [.ref i 0] 0,s):=fun i=>boxV rfl s
 obtain⟨s1,k1,k2⟩:=c137 (N:=n+5) (f:=.fn 138 [] [.box [.ref D 0] 0,.box [.ref R 0] 0]) hd rfl (by simp[AV.noRef,noRefL_cons]) (fun d=>decide (ver<(f d).ch)) (fun s1 g1 d hdm=>by
  obtain⟨s2,e1,e2⟩:=c138 n (h.gr g1) (g1.at hD) (g1.at hR) d (hk d hdm)
  refine⟨s2,?_,e2⟩
  show aCall Tryz.prog (den C (n+5)) 138 [.agg (keyC d),.box [.ref D 0] 0,.box [.ref R 0] 0] s1=_
  rw[aCall,if_pos (by kernel_rfl),if_neg (by simp[noRefL_cons,AV.noRef])]
  exact e1) (by omega)
 have cl2:aCall Tryz.prog (den C (n+7)) 137 [dv,.fn 138 [] [.box [.ref D 0] 0,.box [.ref R 0] 0]] s=some (.bool (ds.any fun d=>decide (ver<(f d).ch)),s1):=by
  rw[aCall,if_pos (by kernel_rfl),if_neg (by simp[noRefL_cons,AV.noRef])]
  exact k1
 have kp:(kept s s).contains R=true:=kept_of (glt hR) rfl
 unfold vld
 by_cases hb:ver=r
 ·have hb':(ver==r)=true:=by simp[hb]
  rw[rd Tryz.func117];conv in compF _ _ _ _ _ _=>cbv
  simp only[strip_rs,strip_mr,strip_nilf,Bool.false_eq_true,if_false,↓kR,kE,kK,sL,C_P,Nat.reduceEqDiff,reduceIte,Tryz.f117,bx,bx',b1,b2,lR,lS,cr,hb',kp,sL]
  exact⟨s,by rw[Bool.true_or],.refl _⟩
 ·have hb':(ver==r)=false:=by simpa using hb
  have hb2:decide (r≤ver)=false:=decide_eq_false (by omega)
  rw[rd Tryz.func117];conv in compF _ _ _ _ _ _=>cbv
  simp only[strip_rs,strip_mr,strip_nilf,Bool.false_eq_true,if_false,↓kR,kE,kK,sL,C_P,Nat.reduceEqDiff,reduceIte,Tryz.f117,bx,bx',b1,b2,lR,lR4,lS,cr,cl,hb',hb2,kp,lR5,hv,cl2,sL]
  exact⟨s1,by rw[Bool.false_or],k2⟩
end Srv
end

section
namespace Srv
open Go Go.Abs Go.Proofs
structure Ent where
 k:K3
 R:Nat
 nums:List Int
 t:Bytes
 ver:Int
 ds:List K3
 last:Int
def eml (ql:List Ent):ML:=ql.map fun e=>(e.k,.ref e.R 0)
def efind (ql:List Ent)(k:K3):Option Ent:=ql.find? fun e=>e.k=k
def eset:List Ent→Ent→List Ent
 | [],e=>[e]
 | a::l,e=>if a.k=e.k then e::l else a::eset l e
theorem mlook_eml (ql:List Ent)(k:K3):mlook (eml ql) k=(efind ql k).map fun e=>.ref e.R 0:=by
 induction ql with
 | nil=>rfl
 | cons a l ih =>
  simp only[eml,List.map_cons,mlook,efind,List.find?_cons]at ih ⊢
  by_cases h:a.k=k
  ·simp[h]
  ·simp only[h,if_false,decide_false];exact ih
theorem mset_eml (ql:List Ent)(e:Ent):mset (eml ql) e.k (.ref e.R 0)=eml (eset ql e):=by
 induction ql with
 | nil=>rfl
 | cons a l ih =>
  simp only[eml,List.map_cons,mset,eset]at ih ⊢
  by_cases h:a.k=e.k
  ·simp[h]
  ·simp only[h,if_false,List.map_cons];rw[ih]
theorem eml_eset {ql:List Ent}{e e':Ent}(h:efind ql e.k=some e')(hR:e.R=e'.R):eml (eset ql e)=eml ql:=by
 induction ql with
 | nil=>cases h
 | cons a l ih =>
  simp only[efind,List.find?_cons]at h ih
  by_cases hk:a.k=e.k
  ·simp only[hk,decide_true,Option.some.injEq]at h
   subst h
   simp[eset,hk,eml,hR]
  ·simp only[hk,decide_false]at h
   simp only[eset,hk,if_false]
   simp only[eml,List.map_cons]at ih ⊢
   rw[ih h]
theorem mem_eset {ql:List Ent}{e x:Ent}(h:x∈eset ql e):x=e∨(x∈ql∧(∀e',efind ql e.k=some e'→(ql.map (·.k)).Nodup→x≠e')):=by
 induction ql with
 | nil=>simp only[eset,List.mem_singleton]at h;exact .inl h
 | cons a l ih =>
  simp only[eset]at h
  by_cases hk:a.k=e.k
  ·simp only[hk,if_true,List.mem_cons]at h
   rcases h with h|h
   ·exact .inl h
   ·refine .inr ⟨by simp[h],fun e' he hn hx=>?_⟩
    simp only[efind,List.find?_cons,hk,decide_true,Option.some.injEq]at he
    subst he
    simp only[List.map_cons,List.nodup_cons]at hn
    exact hn.1 (hx▸List.mem_map_of_mem h)
  ·simp only[hk,if_false,List.mem_cons]at h
   rcases h with h|h
   ·refine .inr ⟨by simp[h],fun e' he hn hx=>?_⟩
    simp only[efind,List.find?_cons,hk,decide_false]at he
    have:=List.find?_some he
    rw[←hx,h]at this
    exact hk (by simpa using this)
   ·rcases ih h with h|⟨h1,h2⟩
    ·exact .inl h
    ·refine .inr ⟨by simp[h1],fun e' he hn=>h2 e' ?_ (by simp only[List.map_cons,List.nodup_cons]at hn;exact hn.2)⟩
     simpa only[efind,List.find?_cons,hk,decide_false] using he
theorem self_eset (ql:List Ent)(e:Ent):e∈eset ql e:=by
 induction ql with
 | nil=>simp[eset]
 | cons a l ih=>simp only[eset];split<;>simp[ih]
theorem efind_mem {ql:List Ent}{k:K3}{e:Ent}(h:efind ql k=some e):e∈ql∧e.k=k:=⟨List.mem_of_find?_eq_some h,by simpa using List.find?_some h⟩
theorem nodup_eset {α:Type}(g:Ent→α){ql:List Ent}{e:Ent}(h:(ql.map g).Nodup)(hg:∀x∈ql,g x=g e→efind ql e.k=some x):((eset ql e).map g).Nodup:=by
 induction ql with
 | nil=>simp[eset]
 | cons a l ih =>
  simp only[List.map_cons,List.nodup_cons]at h
  simp only[eset]
  by_cases hk:a.k=e.k
  ·simp only[hk,if_true,List.map_cons,List.nodup_cons]
   refine⟨fun hm=>?_,h.2⟩
   obtain⟨x,hx,he⟩:=List.mem_map.1 hm
   have:=hg x (by simp[hx]) he
   simp only[efind,List.find?_cons,hk,decide_true,Option.some.injEq]at this
   subst this
   exact h.1 (List.mem_map_of_mem hx)
  ·have hg':∀x∈l,g x=g e→efind l e.k=some x:=fun x hx he=>by
    have:=hg x (by simp[hx]) he
    simpa only[efind,List.find?_cons,hk,decide_false] using this
   simp only[hk,if_false,List.map_cons,List.nodup_cons]
   refine⟨fun hm=>?_,ih h.2 hg'⟩
   obtain⟨x,hx,he⟩:=List.mem_map.1 hm
   rcases mem_eset hx with rfl|⟨hx,_⟩
   ·have:=hg a (by simp) he.symm
    simp only[efind,List.find?_cons,hk,decide_false]at this
    have:=List.find?_some this
    exact hk (by simpa using this)
   ·exact h.1 (he▸List.mem_map_of_mem hx)
theorem comp_congr {f f0:Inp}{c c0:Nat}(k:K3)(hc:(f (0,0,0)).xs=[(c:Int)])(hc0:(f0 (0,0,0)).xs=[(c0:Int)])(h:∀d∈rds c0 k,(f d).xs=(f0 d).xs∧(f d).t=(f0 d).t):comp f c k=comp f0 c0 k:=by
 unfold comp
 unfold rds at h
 by_cases hk:(k.1==2 || k.1==3)=true
 ·rw[if_pos hk]at h ⊢
  rw[if_pos hk,(h (0,2,k.2.2) (by simp)).2]
 ·rw[if_neg hk]at h ⊢
  rw[if_neg hk]
  have e:c=c0:=by
   have:=(h (0,0,0) (by simp)).1
   rw[hc,hc0]at this
   have h3:(c:Int)=(c0:Int):=by simpa using this
   omega
  subst e
  have:modsOf f c=modsOf f0 c:=by
   unfold modsOf
   refine List.map_congr_left fun i hi=>?_
   have m1:((0,1,(i:Int)):K3)∈readsOf c:=by
    unfold readsOf;rw[List.mem_flatMap];exact⟨i,hi,by simp⟩
   have m2:((0,2,(i:Int)):K3)∈readsOf c:=by
    unfold readsOf;rw[List.mem_flatMap];exact⟨i,hi,by simp⟩
   rw[(h _ (List.mem_cons_of_mem _ m1)).2,(h _ (List.mem_cons_of_mem _ m2)).2]
  rw[this]
theorem comp_len (f:Inp){c:Nat}(h:c≤8)(k:K3):(comp f c k).2.1.length≤16:=by
 have g:∀ms nm q a,ms.length≤8→(sk ms nm q a).2.1.length≤16:=by
  intro ms nm q a h
  unfold sk
  split
  ·split
   ·simp
   ·simp only[skG_len];omega
  ·simp
 unfold comp
 split
 ·exact g _ _ _ _ (by simp)
 ·exact g _ _ _ _ (by simp[modsOf];exact h)
theorem fold_mem {d:K3}:∀(l ds:List K3),d∈l.foldl insK3 ds↔d∈ds∨d∈l
 | [],ds=>by simp
 | a::l,ds=>by
  rw[List.foldl_cons,fold_mem l]
  unfold insK3
  split
  ·rename_i h
   constructor
   ·rintro(h'|h')
    ·exact .inl h'
    ·exact .inr (by simp[h'])
   ·rintro(h'|h')
    ·exact .inl h'
    ·rcases List.mem_cons.1 h' with rfl|h'
     ·exact .inl h
     ·exact .inr h'
  ·simp only[List.mem_append,List.mem_singleton,List.mem_cons,List.not_mem_nil,false_or,or_assoc]
theorem rds_kind {c:Nat}{k d:K3}(h:d∈rds c k):d.1=0:=by
 unfold rds at h
 split at h
 ·simp only[List.mem_singleton]at h;rw[h]
 ·rcases List.mem_cons.1 h with rfl|h
  ·rfl
  ·unfold readsOf at h
   obtain⟨i,_,h⟩:=List.mem_flatMap.1 h
   simp only[List.mem_cons,List.not_mem_nil,or_false]at h
   rcases h with rfl|rfl<;>rfl
theorem rds_len {c:Nat}(h:c≤8)(k:K3):(rds c k).length≤17:=by
 unfold rds
 split
 ·simp
 ·rw[List.length_cons,readsOf_len];omega
structure Sem (f:Inp)(r:Int)(e:Ent):Prop where
 kd:∀d∈e.ds,d.1=0
 dl:e.ds.length<100
 vr:e.ver≤r
 nl:e.nums.length<100
 ex:∃(f0:Inp) (c0:Nat),c0≤8∧(f0 (0,0,0)).xs=[(c0:Int)]∧e.nums=(comp f0 c0 e.k).1::(comp f0 c0 e.k).2.1∧e.t=(comp f0 c0 e.k).2.2∧(∀d∈rds c0 e.k,d∈e.ds)∧∀d∈e.ds,(f d).ch≤e.ver→(f d).xs=(f0 d).xs∧(f d).t=(f0 d).t
theorem Sem.same {f:Inp}{r:Int}{e:Ent}(h:Sem f r e)(hf:∀d,(f d).ch≤r)(hv:vld f r e.ver e.ds=true):∃(f0:Inp)(c0:Nat),c0≤8∧(f0 (0,0,0)).xs=[(c0:Int)]∧e.nums=(comp f0 c0 e.k).1::(comp f0 c0 e.k).2.1∧e.t=(comp f0 c0 e.k).2.2∧(∀d∈rds c0 e.k,d∈e.ds)∧∀d∈e.ds,(f d).xs=(f0 d).xs∧(f d).t=(f0 d).t:=by
 obtain⟨f0,c0,h1,h2,h3,h4,h5,h6⟩:=h.ex
 refine⟨f0,c0,h1,h2,h3,h4,h5,fun d hd=>h6 d hd ?_⟩
 unfold vld at hv
 rcases Bool.or_eq_true_iff.1 hv with hv|hv
 ·have:e.ver=r:=by simpa using hv
  rw[this];exact hf d
 ·simp only[Bool.not_eq_true',List.any_eq_false,decide_eq_true_eq]at hv
  have:=hv d hd
  omega
theorem Sem.value {f:Inp}{r:Int}{e:Ent}(h:Sem f r e)(hf:∀d,(f d).ch≤r)(hv:vld f r e.ver e.ds=true){c:Nat}(hc:(f (0,0,0)).xs=[(c:Int)]):e.nums=(comp f c e.k).1::(comp f c e.k).2.1∧e.t=(comp f c e.k).2.2:=by
 obtain⟨f0,c0,h1,h2,h3,h4,h5,h6⟩:=h.same hf hv
 rw[comp_congr e.k hc h2 fun d hd=>h6 d (h5 d hd)]
 exact⟨h3,h4⟩
theorem Sem.now {f:Inp}{r:Int}{e:Ent}(h:Sem f r e)(hf:∀d,(f d).ch≤r)(hv:vld f r e.ver e.ds=true)(l:Int):Sem f r { e with ver:=r,last:=l }:=by
 obtain⟨f0,c0,h1,h2,h3,h4,h5,h6⟩:=h.same hf hv
 exact⟨h.kd,h.dl,Int.le_refl _,h.nl,f0,c0,h1,h2,h3,h4,h5,fun d hd _=>h6 d hd⟩
theorem Sem.new (f:Inp)(r:Int){c:Nat}(hc:(f (0,0,0)).xs=[(c:Int)])(hc8:c≤8)(k:K3)(R:Nat)(l:Int):Sem f r ⟨k,R,(comp f c k).1::(comp f c k).2.1,(comp f c k).2.2,r,(rds c k).foldl insK3 [],l⟩:=by
 refine⟨fun d hd=>?_,?_,Int.le_refl _,?_,f,c,hc8,hc,rfl,rfl,fun d hd=>(fold_mem _ _).2 (.inr hd),fun d _ _=>⟨rfl,rfl⟩⟩
 ·rcases(fold_mem _ _).1 hd with h|h
  ·cases h
  ·exact rds_kind h
 ·have h1:=fold_len (rds c k) []
  have h2:=rds_len hc8 k
  simp only[List.length_nil]at h1
  show ((rds c k).foldl insK3 []).length<100
  omega
 ·have:=comp_len f hc8 k
  show (_::(comp f c k).2.1).length<100
  simp only[List.length_cons];omega
theorem Sem.step {f f':Inp}{r r':Int}{e:Ent}(h:Sem f r e)(hr:r≤r')(hf:∀d,f' d=f d∨r<(f' d).ch):Sem f' r' e:=by
 obtain⟨f0,c0,h1,h2,h3,h4,h5,h6⟩:=h.ex
 refine⟨h.kd,h.dl,Int.le_trans h.vr hr,h.nl,f0,c0,h1,h2,h3,h4,h5,fun d hd hch=>?_⟩
 rcases hf d with e'|e'
 ·rw[e']at hch ⊢
  exact h6 d hd hch
 ·have:=h.vr
  omega
def RO (s:Heap)(e:Ent):Prop:=∃nv chg dv,s[e.R]?=some (163,[nv,.str e.t,I e.ver,I chg,I 0,dv,I e.last])∧NV s nv e.nums∧nv.strip=nv∧SL 79 3 s dv (e.ds.map keyC)∧dv.strip=dv
def Rows (s s':Heap):Prop:=∀(i:Nat)(t:TypeId)(cs:List AV),s[i]?=some (t,cs)→t=3∨t=79→s'[i]?=some (t,cs)
theorem Rows.trans {a b c:Heap}(h:Rows a b)(k:Rows b c):Rows a c:=fun i t cs hi ht=>k i t cs (h i t cs hi ht) ht
theorem Gr.rows {a b:Heap}(h:Gr a b):Rows a b:=fun i t cs hi _=>h.at hi
theorem Rows.set {a b:Heap}(h:Rows a b){i:Nat}{t:TypeId}{cs:List AV}(hi:b[i]?=some (t,cs))(ht:t≠3∧t≠79)(x:TypeId×List AV):Rows a (b.set i x):=fun j u ds hj hu=>by
 have hb:=h j u ds hj hu
 rw[gset_ne (fun e=>by rw[e,hb]at hi;cases hi;rcases hu with rfl|rfl<;>simp at ht)]
 exact hb
theorem NV.rows {s s':Heap}{v:AV}{xs:List Int}(h:NV s v xs)(k:Rows s s'):NV s' v xs:=h.fr fun Q n e=>by
 obtain⟨cs,hc⟩:=h.row e
 rw[k _ _ _ hc (.inl rfl),hc]
theorem KL.rows {s s':Heap}{v:AV}{es:List (List AV)}(h:SL 79 3 s v es)(k:Rows s s'):SL 79 3 s' v es:=h.fr fun Q off n e=>by
 obtain⟨cs,hc⟩:=h.row e
 rw[k _ _ _ hc (.inr rfl),hc]
theorem RO.keep {s s':Heap}{e:Ent}(h:RO s e)(k:Rows s s')(hR:s'[e.R]?=s[e.R]?):RO s' e:=by
 obtain⟨nv,chg,dv,h1,h2,h3,h4,h5⟩:=h
 exact⟨nv,chg,dv,hR.trans h1,h2.rows k,h3,KL.rows h4 k,h5⟩
structure QOK (s:Heap)(f:Inp)(r clock:Int)(ql:List Ent):Prop where
 ro:∀e∈ql,RO s e
 sem:∀e∈ql,Sem f r e
 ks:(ql.map (·.k)).Nodup
 Rs:(ql.map (·.R)).Nodup
 us:(ql.map (·.last)).Nodup
 ub:∀e∈ql,0≤e.last∧e.last≤clock
theorem und119':Tryz.prog.underlying 119=some (.map 79 3):=und119
theorem z3:zeroOf Tryz.prog 3=some (I 0):=by kernel_rfl
theorem eq161:aBin Tryz.prog .eql 161 .nilp .nilp=some (.bool true):=by kernel_rfl
theorem eq161r (i:Nat):aBin Tryz.prog .eql 161 (.ref i 0) .nilp=some (.bool false):=by
 have:∀i,aBin Tryz.prog .eql 161 (.ref i 0) .nilp=some (.bool false):=fun i=>by kernel_rfl
 exact this i
theorem tail108 {s:Heap}{S D Mr Ma:Nat}{r:Int}{g stop:AV}{comps clock:Int}{k:K3}(hDd:s[D]?=some (121,[g,.ref S 0,.mr Mr,.mr Ma,stop,I comps,I clock]))(hMa:s[Ma]?=some (mapTy,.undef::flat [(k,I 1)])){R:Nat}{nv dv:AV}{t:Bytes}{ver chg last:Int}(hR:s[R]?=some (163,[nv,.str t,I ver,I chg,I 0,dv,I last])) :
  ∃s3 s4 s5 s6,aLoad false false 1 (.ref D 1) s=some (.ref S 0,s)∧aStore 1 s (.ref R 2) (I r)=some s3∧aLoad false false 1 (.ref D 6) s3=some (I clock,s3)∧aStore 1 s3 (.ref D 6) (I (clock+1))=some s4∧aLoad false false 1 (.ref D 6) s4=some (I (clock+1),s4)∧aStore 1 s4 (.ref R 6) (I (clock+1))=some s5∧aLoad false false 1 (.ref D 3) s5=some (.mr Ma,s5)∧aMapDel Tryz.prog 119 (.mr Ma) (Kv k) s5=some s6 ∧
   s6[R]?=some (163,[nv,.str t,I r,I chg,I 0,dv,I (clock+1)])∧s6[D]?=some (121,[g,.ref S 0,.mr Mr,.mr Ma,stop,I comps,I (clock+1)])∧s6[Ma]?=some (mapTy,[.undef])∧(∀i,i≠R→i≠D→i≠Ma→s6[i]?=s[i]?)∧s6.length=s.length:=by
 have ne:∀{i j:Nat} {t t':TypeId} {c c':List AV},s[i]?=some (t,c)→s[j]?=some (t',c')→t≠t'→i≠j:=fun h1 h2 h3 e=>by rw[e,h2]at h1;cases h1;exact h3 rfl
 have nRD:R≠D:=ne hR hDd (by decide)
 have nRM:R≠Ma:=ne hR hMa (by decide)
 have nDM:D≠Ma:=ne hDd hMa (by decide)
 obtain⟨s3,e3⟩:∃s3,s.set R (163,[nv,.str t,I r,I chg,I 0,dv,I last])=s3:=⟨_,rfl⟩
 have R3:s3[R]?=some (163,[nv,.str t,I r,I chg,I 0,dv,I last]):=by rw[←e3];exact gset_eq hR
 have D3:s3[D]?=some (121,[g,.ref S 0,.mr Mr,.mr Ma,stop,I comps,I clock]):=by rw[←e3,gset_ne nRD];exact hDd
 obtain⟨s4,e4⟩:∃s4,s3.set D (121,[g,.ref S 0,.mr Mr,.mr Ma,stop,I comps,I (clock+1)])=s4:=⟨_,rfl⟩
 have D4:s4[D]?=some (121,[g,.ref S 0,.mr Mr,.mr Ma,stop,I comps,I (clock+1)]):=by rw[←e4];exact gset_eq D3
 have R4:s4[R]?=some (163,[nv,.str t,I r,I chg,I 0,dv,I last]):=by rw[←e4,gset_ne nRD.symm];exact R3
 obtain⟨s5,e5⟩:∃s5,s4.set R (163,[nv,.str t,I r,I chg,I 0,dv,I (clock+1)])=s5:=⟨_,rfl⟩
 have R5:s5[R]?=some (163,[nv,.str t,I r,I chg,I 0,dv,I (clock+1)]):=by rw[←e5];exact gset_eq R4
 have D5:s5[D]?=some (121,[g,.ref S 0,.mr Mr,.mr Ma,stop,I comps,I (clock+1)]):=by rw[←e5,gset_ne nRD];exact D4
 have M5:s5[Ma]?=some (mapTy,.undef::flat [(k,I 1)]):=by rw[←e5,gset_ne nRM,←e4,gset_ne nDM,←e3,gset_ne nRM];exact hMa
 have md:=mDel und119 M5 k
 have fl:mdel [(k,I 1)] k=([]:ML):=by simp[mdel]
 rw[fl]at md
 obtain⟨s6,e6⟩:∃s6,s5.set Ma (mapTy,.undef::flat [])=s6:=⟨_,rfl⟩
 rw[e6]at md
 refine⟨s3,s4,s5,s6,ldv hDd (by decide) rfl,?_,ldv D3 (by decide) rfl,?_,ldv D4 (by decide) rfl,?_,ldv D5 (by decide) rfl,md,?_,?_,?_,fun i h1 h2 h3=>?_,?_⟩
 ·rw[st (n:=1) hR (by decide) rfl rfl (by simp),←e3];rfl
 ·rw[st (n:=1) D3 (by decide) rfl rfl (by simp),←e4];rfl
 ·rw[st (n:=1) R4 (by decide) rfl rfl (by simp),←e5];rfl
 ·rw[←e6,gset_ne nRM.symm];exact R5
 ·rw[←e6,gset_ne nDM.symm];exact D5
 ·rw[←e6];exact gset_eq M5
 ·rw[←e6,gset_ne h3.symm,←e5,gset_ne h1.symm,←e4,gset_ne h2.symm,←e3,gset_ne h1.symm]
 ·rw[←e6,set_length,←e5,set_length,←e4,set_length,←e3,set_length]
end Srv
end

section
namespace Srv
open Go Go.Abs Go.Proofs
def hitQ (f:Inp)(r:Int)(ql:List Ent)(k:K3):Bool:=match efind ql k with
 | some e=>vld f r e.ver e.ds
 | none=>false
def StopB (b:Bool)(n:Nat)(s:Heap)(Ma:Nat)(stop:AV):Prop:=∃g l,stop=.fn g [] l∧∀t:Heap,(∀i,i<s.length→i≠Ma→t[i]?=s[i]?)→aCallV Tryz.prog (den C n) (.fn g [] l) [] t=some (.bool b,t)
theorem vl_eq (f:Inp)(r ver:Int)(ds:List K3):vld f r ver ds=vld f r ver ds:=rfl
theorem DB.setA {s:Heap}{F:Foot}{S M D Mr Ma Av:Nat}{r:Int}{f:Inp}{stop:AV}{comps clock:Int}{rl al al':ML}(h:DB s F S M D Mr Ma Av r f stop comps clock rl al)(hm:¬F Ma)(hne:Mr≠Ma):DB (s.set Ma (mapTy,.undef::flat al')) F S M D Mr Ma Av r f stop comps clock rl al':=by
 have ne:∀{i t cs},t≠mapTy→s[i]?=some (t,cs)→Ma≠i:=fun ht hi e=>by
  have:=h.am
  rw[e,hi]at this;cases this;exact ht rfl
 exact⟨h.inp.keep fun i hi=>gset_ne (fun e=>hm (e▸hi)),by rw[gset_ne (ne (by decide) h.db)];exact h.db,by rw[gset_ne (ne (by decide) h.av)];exact h.av,by rw[gset_ne hne.symm];exact h.rm,gset_eq h.am⟩
theorem DB.gr {s s':Heap}{F:Foot}{S M D Mr Ma Av:Nat}{r:Int}{f:Inp}{stop:AV}{comps clock:Int}{rl al:ML}(h:DB s F S M D Mr Ma Av r f stop comps clock rl al)(g:Gr s s'):DB s' F S M D Mr Ma Av r f stop comps clock rl al:=⟨h.inp.gr g,g.at h.db,g.at h.av,g.at h.rm,g.at h.am⟩
theorem a117 (n:Nat){s:Heap}{F:Foot}{S M D R:Nat}{r:Int}{f:Inp}{g:AV}{o:List AV}{w1 w2 x y dv:AV}{ver:Int}{cs:List AV}{ds:List K3}(h:IS s F S M r f)(hD:s[D]?=some (121,g::.ref S 0::o))(hR:s[R]?=some (163,w1::w2::I ver::x::I 0::dv::cs))(hv:dv.strip=dv)(hd:SL 79 3 s dv (ds.map keyC))(hk:∀d∈ds,d.1=0)(hver:ver≤r)(hn:ds.length<n) :
  ∃s',aCall Tryz.prog (den C (n+8)) 117 [.ref D 0,.ref R 0] s=some (.bool (vld f r ver ds),s')∧Gr s s':=by
 obtain⟨s',h1,h2⟩:=c117 n (y:=y) h hD hR hv hd hk hver hn
 refine⟨s',?_,h2⟩
 rw[aCall,if_pos (by kernel_rfl),if_neg (by simp[noRefL_cons,AV.noRef])]
 exact h1
theorem inj_of {α β:Type}{g:α→β}{l:List α}(h:(l.map g).Nodup){x y:α}(hx:x∈l)(hy:y∈l)(e:g x=g y):x=y:=by
 induction l with
 | nil=>cases hx
 | cons a l ih =>
  simp only[List.map_cons,List.nodup_cons]at h
  rcases List.mem_cons.1 hx with h1|h1<;>rcases List.mem_cons.1 hy with h2|h2
  ·rw[h1,h2]
  ·exact absurd (by rw[←h1,e];exact List.mem_map_of_mem (f:=g) h2) h.1
  ·exact absurd (by rw[←h2,←e];exact List.mem_map_of_mem (f:=g) h1) h.1
  ·exact ih h.2 h1 h2
theorem find_key {ql:List Ent}(h:(ql.map (·.k)).Nodup){k:K3}{x:Ent}(hx:x∈ql)(he:x.k=k):efind ql k=some x:=by
 induction ql with
 | nil=>cases hx
 | cons a l ih =>
  simp only[List.map_cons,List.nodup_cons]at h
  unfold efind
  rw[List.find?_cons]
  by_cases hk:a.k=k
  ·simp only[hk,decide_true,Option.some.injEq]
   rcases List.mem_cons.1 hx with hx|hx
   ·exact hx.symm
   ·exact absurd (hk▸he▸List.mem_map_of_mem (f:=fun x:Ent=>x.k) hx) h.1
  ·simp only[hk,decide_false]
   rcases List.mem_cons.1 hx with hx|hx
   ·rw[←hx]at hk;exact absurd he hk
   ·exact ih h.2 hx
set_option maxRecDepth 200000 in
set_option maxHeartbeats 2000000 in
theorem c108 (n:Nat){s:Heap}{F:Foot}{S M D Mr Ma Av:Nat}{r:Int}{f:Inp}{stop:AV}{comps clock:Int}{ql:List Ent}(h:DB s F S M D Mr Ma Av r f stop comps clock (eml ql) [])(hq:QOK s f r clock ql)(hF:∀i,F i→i<s.length)(hFM:¬F Ma∧¬F D∧¬F Mr)(hne:Mr≠Ma)(hFq:∀e∈ql,¬F e.R)(hch:∀d,(f d).ch≤r)(hcm:0≤comps∧comps<1000000000)(hck:0≤clock∧clock<1000000000)(hn:140<n)(hn2:n<800000){c:Nat}(hc:(f (0,0,0)).xs=[(c:Int)])(hc8:c≤8)(q a:Int)(i:Nat)(hi:i<c)(hss:stop.strip=stop)
  (hstop:hitQ f r ql (q,a,(i:Int))=true∨stop=.nilf∨StopB false (n+11) s Ma stop) :
  ∃R s' ql' comps' nv,den C (n+13) 108 [.ref D 0,Kv (q,a,(i:Int))] s=some (.ref R 0,s')∧DB s' F S M D Mr Ma Av r f stop comps' (clock+1) (eml ql') []∧QOK s' f r (clock+1) ql'∧comps≤comps'∧comps'≤comps+1∧(hitQ f r ql (q,a,(i:Int))=true→comps'=comps) ∧
   (∃cs,s'[R]?=some (163,nv::.str (comp f c (q,a,i)).2.2::cs))∧nv.strip=nv∧NV s' nv ((comp f c (q,a,i)).1::(comp f c (q,a,i)).2.1)∧s.length≤s'.length∧(∀j,j<s.length→j≠D→j≠Mr→j≠Ma→(∀e∈ql,e.R≠j)→s'[j]?=s[j]?)∧(∀e∈ql',e∈ql∨e.R∈ql.map (·.R)∨s.length≤e.R):=by
 obtain⟨k,hk⟩:∃k:K3,k=(q,a,(i:Int)):=⟨_,rfl⟩
 have bk:=bxk (q,a,(i:Int))
 simp only at bk
 have mg0:aMapGet Tryz.prog 119 (.mr Ma) (.agg [I q,I a,I i]) false s=some (I 0):=mGet und119 z3 h.am (q,a,i) false
 obtain⟨s1,e1⟩:∃s1,s.set Ma (mapTy,.undef::flat [((q,a,(i:Int)),I 1)])=s1:=⟨_,rfl⟩
 have ms0:aMapSet Tryz.prog 119 (.mr Ma) (.agg [I q,I a,I i]) (I 1) s=some s1:=(mSet und119 h.am (q,a,i) rfl).trans (congrArg some e1)
 have h1:DB s1 F S M D Mr Ma Av r f stop comps clock (eml ql) [((q,a,(i:Int)),I 1)]:=e1▸h.setA hFM.1 hne
 have l3:aLoad false false 1 (.ref D 3) s=some (.mr Ma,s):=ldv h.db (by decide) rfl
 have l2:aLoad false false 1 (.ref D 2) s1=some (.mr Mr,s1):=ldv h1.db (by decide) rfl
 have mg1:aMapGet Tryz.prog 118 (.mr Mr) (.agg [I q,I a,I i]) false s1=some (getR false (((efind ql (q,a,(i:Int))).map fun e=>AV.ref e.R 0).getD .nilp).strip ((efind ql (q,a,(i:Int))).map fun e=>AV.ref e.R 0).isSome):=by
  have:=mGet und118 (by kernel_rfl:zeroOf Tryz.prog 161=some .nilp) h1.rm (q,a,i) false
  rwa [mlook_eml]at this
 have lMa:=glt h.am
 have n1:s1.length=s.length:=by rw[←e1,set_length]
 have o1:∀j,j≠Ma→s1[j]?=s[j]?:=fun j hj=>by rw[←e1,gset_ne hj.symm]
 have ne:∀{i j:Nat} {t t':TypeId} {c c':List AV},s[i]?=some (t,c)→s[j]?=some (t',c')→t≠t'→i≠j:=fun h1 h2 h3 e=>by rw[e,h2]at h1;cases h1;exact h3 rfl
 have r1:Rows s s1:=by rw[←e1];exact Rows.set (fun _ _ _ h _=>h) h.am (by decide) _
 have nDMa:D≠Ma:=ne h.db h.am (by decide)
 have nDMr:D≠Mr:=ne h.db h.rm (by decide)
 have nSMa:S≠Ma:=fun e=>hFM.1 (e▸h.inp.FSS)
 have eRne:∀e∈ql,e.R≠D∧e.R≠Mr∧e.R≠Ma:=fun e he=>by
  obtain⟨nv,chg,dv,h1,_⟩:=hq.ro e he
  exact⟨ne h1 h.db (by decide),ne h1 h.rm (by decide),ne h1 h.am (by decide)⟩
 have e118:enterable Tryz.prog 118=true:=by kernel_rfl
 have e119:enterable Tryz.prog 119=true:=by kernel_rfl
 have wc:=wrap64 (show -9223372036854775808≤clock+1 by omega) (by omega)
 -- a result is made anew
 have miss:hitQ f r ql (q,a,(i:Int))=false→∀s2,Gr s1 s2→∃R s3 s4 s5 s6 s7 nv,aCall Tryz.prog (den C (n+12)) 118 [.ref D 0,.agg [I q,I a,I i]] s2=some (.ref R 0,s3)∧aLoad false false 1 (.ref D 1) s3=some (.ref S 0,s3)∧aCall Tryz.prog (den C (n+12)) 119 [.ref S 0] s3=some (I r,s3)∧aStore 1 s3 (.ref R 2) (I r)=some s4∧aLoad false false 1 (.ref D 6) s4=some (I clock,s4)∧aStore 1 s4 (.ref D 6) (I (clock+1))=some s5∧aLoad false false 1 (.ref D 6) s5=some (I (clock+1),s5)∧aStore 1 s5 (.ref R 6) (I (clock+1))=some s6∧aLoad false false 1 (.ref D 3) s6=some (.mr Ma,s6)∧aMapDel Tryz.prog 119 (.mr Ma) (.agg [I q,I a,I i]) s6=some s7 ∧
   DB s7 F S M D Mr Ma Av r f stop (comps+1) (clock+1) (eml (eset ql ⟨(q,a,(i:Int)),R,(comp f c (q,a,i)).1::(comp f c (q,a,i)).2.1,(comp f c (q,a,i)).2.2,r,(rds c (q,a,i)).foldl insK3 [],clock+1⟩)) []∧QOK s7 f r (clock+1) (eset ql ⟨(q,a,(i:Int)),R,(comp f c (q,a,i)).1::(comp f c (q,a,i)).2.1,(comp f c (q,a,i)).2.2,r,(rds c (q,a,i)).foldl insK3 [],clock+1⟩) ∧
   (∃cs,s7[R]?=some (163,nv::.str (comp f c (q,a,i)).2.2::cs))∧nv.strip=nv∧NV s7 nv ((comp f c (q,a,i)).1::(comp f c (q,a,i)).2.1)∧s.length≤s7.length∧(∀j,j<s.length→j≠D→j≠Mr→j≠Ma→s7[j]?=s[j]?)∧s.length≤R:=by
  intro hmiss s2 g2
  have h2:=h1.gr g2
  have l12:=g2.len
  have hst:stop=.nilf∨StopB false (n+11) s Ma stop:=hstop.resolve_left (by rw[hmiss];exact Bool.false_ne_true)
  have hst':stop=.nilf∨∃g l,stop=.fn g [] l∧aCallV Tryz.prog (den C (n+11)) (.fn g [] l) [] (s2++[(76,[AV.ref D 0])])=some (.bool false,s2++[(76,[AV.ref D 0])]):=by
   refine hst.imp id ?_
   rintro⟨g,l,e,hh⟩
   exact⟨g,l,e,hh _ fun j hj hM=>by rw[gapp_old (by omega),g2.get (by omega),o1 j hM]⟩
  have hres:∀k x,mlook (eml ql) k=some x→∃R' nv' t' ver' chg' dv' last' xs',x=.ref R' 0∧s2[R']?=some (163,[nv',.str t',I ver',I chg',I 0,dv',I last'])∧NV s2 nv' xs'∧nv'.strip=nv'∧xs'.length<100:=by
   intro k x hx
   rw[mlook_eml,Option.map_eq_some_iff]at hx
   obtain⟨e,he,rfl⟩:=hx
   obtain⟨he,_⟩:=efind_mem he
   obtain⟨nv,chg,dv,k1,k2,k3,k4,k5⟩:=((hq.ro e he).keep r1 (o1 _ (eRne e he).2.2)).keep g2.rows (g2.get (by obtain⟨_,_,_,hh,_⟩:=hq.ro e he;rw[n1];exact glt hh))
   exact⟨e.R,nv,e.t,e.ver,chg,dv,e.last,e.nums,rfl,k1,k2,k3,(hq.sem e he).nl⟩
  obtain⟨R,s3,c1,rec⟩:=c118 n h2 hst' (fun i hi=>by have:=hF i hi;omega) hcm hres hn hn2 hc hc8 q a i hi
  obtain⟨hR,⟨nv,chg,dv,b1,b2,b3,b4,b5⟩,b6,b7,b8,b9⟩:=rec
  have hMa3:s3[Ma]?=some (mapTy,.undef::flat [((q,a,(i:Int)),I 1)]):=(b8 Ma (by omega) nDMa.symm hne.symm).trans h2.am
  obtain⟨s4,s5,s6,s7,t1,t2,t3,t4,t5,t6,t7,t8,t9,t10,t11,t12,t13⟩:=tail108 (k:=(q,a,(i:Int))) (r:=r) b6 hMa3 b1
  obtain⟨xb,xc,hS⟩:=h2.inp.st
  have hS3:s3[S]?=some (148,[I r,I r,I xb,I xc,.mr M]):=(b8 S (glt hS) (fun e=>hFM.2.1 (e▸h.inp.FSS)) (fun e=>hFM.2.2 (e▸h.inp.FSS))).trans hS
  have hRlt:s.length≤R:=by omega
  have old:∀j,j<s.length→j≠D→j≠Mr→j≠Ma→s7[j]?=s[j]?:=fun j hj j1 j2 j3=>by
   rw[t12 j (by omega) j1 j3,b8 j (by omega) j1 j2,g2.get (by omega),o1 j j3]
  have rows37:Rows s3 s7:=fun j t cs hj ht=>by
   rw[t12 j (fun e=>?_) (fun e=>?_) (fun e=>?_),hj]
   ·rw[e,b1]at hj;cases hj;rcases ht with ht|ht<;>cases ht
   ·rw[e,b6]at hj;cases hj;rcases ht with ht|ht<;>cases ht
   ·rw[e,hMa3]at hj;cases hj;rcases ht with ht|ht<;>cases ht
  have rows7:Rows s s7:=fun j t cs hj ht=>by
   rw[old j (glt hj) (fun e=>?_) (fun e=>?_) (fun e=>?_),hj]
   ·rw[e,h.db]at hj;cases hj;rcases ht with ht|ht<;>cases ht
   ·rw[e,h.rm]at hj;cases hj;rcases ht with ht|ht<;>cases ht
   ·rw[e,h.am]at hj;cases hj;rcases ht with ht|ht<;>cases ht
  have dvs:dv.strip=dv:=b5.strip
  refine⟨R,s3,s4,s5,s6,s7,nv,?_,t1,a119 (n+11) hS3,t2,t3,t4,t5,t6,t7,t8,⟨?_,t10,?_,?_,t11⟩,⟨?_,?_,?_,?_,?_,?_⟩,⟨_,t9⟩,b3,b2.rows rows37,by omega,old,hRlt⟩
  ·rw[aCall,if_pos e118,if_neg (by simp[noRefL_cons,AV.noRef])];exact c1
  ·exact h.inp.keep fun j hj=>old j (hF j hj) (fun e=>hFM.2.1 (e▸hj)) (fun e=>hFM.2.2 (e▸hj)) (fun e=>hFM.1 (e▸hj))
  ·exact(old Av (glt h.av) (ne h.av h.db (by decide)) (ne h.av h.rm (by decide)) (ne h.av h.am (by decide))).trans h.av
  ·rw[t12 Mr (by have:=glt h.rm;omega) nDMr.symm hne,b7,←mset_eml]
  ·intro x hx
   rcases mem_eset hx with rfl|⟨hx,_⟩
   ·exact⟨nv,chg,dv,t9,b2.rows rows37,b3,KL.rows b5.1 rows37,dvs⟩
   ·obtain⟨_,_,_,hh,_⟩:=hq.ro x hx
    exact(hq.ro x hx).keep rows7 (old _ (glt hh) (eRne x hx).1 (eRne x hx).2.1 (eRne x hx).2.2)
  ·intro x hx
   rcases mem_eset hx with rfl|⟨hx,_⟩
   ·exact Sem.new f r hc hc8 _ _ _
   ·exact hq.sem x hx
  ·exact nodup_eset _ hq.ks fun x hx he=>by
    exact find_key hq.ks hx he
  ·exact nodup_eset _ hq.Rs fun x hx he=>by
    obtain⟨_,_,_,hh,_⟩:=hq.ro x hx
    have:=glt hh
    simp only at he
    omega
  ·exact nodup_eset _ hq.us fun x hx he=>by
    have:=(hq.ub x hx).2
    simp only at he
    omega
  ·intro x hx
   rcases mem_eset hx with rfl|⟨hx,_⟩
   ·exact⟨by show 0≤clock+1;omega,Int.le_refl _⟩
   ·have:=hq.ub x hx
    exact⟨this.1,by omega⟩
 cases hx:efind ql (q,a,(i:Int)) with
 | none =>
  rw[hx]at mg1
  have mg1:aMapGet Tryz.prog 118 (.mr Mr) (.agg [I q,I a,I i]) false s1=some .nilp:=mg1
  have hh:hitQ f r ql (q,a,(i:Int))=false:=by unfold hitQ;rw[hx]
  obtain⟨R,s3,s4,s5,s6,s7,nv,f1,f2,f3,f4,f5,f6,f7,f8,f9,f10,f11,f12,f13,f14,f15,f16,f17,f18⟩:=miss hh s1 (.refl _)
  rw[rd Tryz.func108];conv in compF _ _ _ _ _ _=>cbv
  simp only[strip_rs,strip_mr,strip_nilf,Bool.false_eq_true,if_false,↓kR,kE,kK,sL,C_P,Nat.reduceEqDiff,reduceIte,Tryz.f108,bk,l3,mg0,bne_self_eq_false,ms0,l2,mg1,eq161,↓rC_seqj,f1,f2,f3,f4,f5,wc,f6,f7,f8,f9,f10,sL]
  exact⟨R,s7,_,comps+1,nv,rfl,f11,f12,by omega,by omega,fun e=>(by rw[hh]at e;cases e),f13,f14,f15,f16,fun j j1 j2 j3 j4 _=>f17 j j1 j2 j3 j4,fun e he=>(mem_eset he).elim (fun h=>.inr (.inr (by rw[h];exact f18))) (fun h=>.inl h.1)⟩
 | some e =>
  obtain⟨he,hek⟩:=efind_mem hx
  rw[hx]at mg1
  have mg1:aMapGet Tryz.prog 118 (.mr Mr) (.agg [I q,I a,I i]) false s1=some (.ref e.R 0):=mg1
  obtain⟨ne1,ne2,ne3⟩:=eRne e he
  obtain⟨nv,chg,dv,k1,k2,k3,k4,k5⟩:=(hq.ro e he).keep r1 (o1 _ ne3)
  have sem:=hq.sem e he
  obtain⟨s2,v1,g2⟩:=a117 (n+4) (y:=AV.undef) h1.inp h1.db k1 k5 k4 sem.kd sem.vr (by have:=sem.dl;omega)
  cases hv:vld f r e.ver e.ds with
  | false =>
   have hh:hitQ f r ql (q,a,(i:Int))=false:=by unfold hitQ;rw[hx];exact hv
   rw[hv]at v1
   obtain⟨R,s3,s4,s5,s6,s7,nv,f1,f2,f3,f4,f5,f6,f7,f8,f9,f10,f11,f12,f13,f14,f15,f16,f17,f18⟩:=miss hh s2 g2
   rw[rd Tryz.func108];conv in compF _ _ _ _ _ _=>cbv
   simp only[strip_rs,strip_mr,strip_nilf,Bool.false_eq_true,if_false,↓kR,kE,kK,sL,C_P,Nat.reduceEqDiff,reduceIte,Tryz.f108,bk,l3,mg0,bne_self_eq_false,ms0,l2,mg1,eq161r,v1,↓rC_seqj,f1,f2,f3,f4,f5,wc,f6,f7,f8,f9,f10,sL]
   exact⟨R,s7,_,comps+1,nv,rfl,f11,f12,by omega,by omega,fun e=>(by rw[hh]at e;cases e),f13,f14,f15,f16,fun j j1 j2 j3 j4 _=>f17 j j1 j2 j3 j4,fun e he=>(mem_eset he).elim (fun h=>.inr (.inr (by rw[h];exact f18))) (fun h=>.inl h.1)⟩
  | true =>
   have hh:hitQ f r ql (q,a,(i:Int))=true:=by unfold hitQ;rw[hx];exact hv
   rw[hv]at v1
   have h2:=h1.gr g2
   have k1':=g2.at k1
   obtain⟨s4,s5,s6,s7,t1,t2,t3,t4,t5,t6,t7,t8,t9,t10,t11,t12,t13⟩:=tail108 (k:=(q,a,(i:Int))) (r:=r) h2.db h2.am k1'
   obtain⟨xb,xc,hS⟩:=h2.inp.st
   have a9:=a119 (n+11) hS
   have t8:aMapDel Tryz.prog 119 (.mr Ma) (.agg [I q,I a,I i]) s6=some s7:=t8
   rw[rd Tryz.func108];conv in compF _ _ _ _ _ _=>cbv
   simp only[strip_rs,strip_mr,strip_nilf,Bool.false_eq_true,if_false,↓kR,kE,kK,sL,C_P,Nat.reduceEqDiff,reduceIte,Tryz.f108,bk,l3,mg0,bne_self_eq_false,ms0,l2,mg1,eq161r,v1,↓rC_seqj,t1,a9,t2,t3,wc,t4,t5,t6,t7,t8,sL]
   have l12:=g2.len
   have heR:e.R<s.length:=by obtain⟨_,_,_,hh,_⟩:=hq.ro e he;exact glt hh
   have old:∀j,j<s.length→j≠D→j≠Mr→j≠Ma→(∀e∈ql,e.R≠j)→s7[j]?=s[j]?:=fun j hj j1 j2 j3 j4=>by
    rw[t12 j (fun e'=>j4 e he e'.symm) j1 j3,g2.get (by omega),o1 j j3]
   have rows7:Rows s s7:=fun j t cs hj ht=>by
    rw[old j (glt hj) (fun e=>?_) (fun e=>?_) (fun e=>?_) (fun e' he' e=>?_),hj]
    ·rw[e,h.db]at hj;cases hj;rcases ht with ht|ht<;>cases ht
    ·rw[e,h.rm]at hj;cases hj;rcases ht with ht|ht<;>cases ht
    ·rw[e,h.am]at hj;cases hj;rcases ht with ht|ht<;>cases ht
    ·obtain⟨_,_,_,hh,_⟩:=hq.ro e' he'
     rw[e,hj]at hh;cases hh;rcases ht with ht|ht<;>cases ht
   have rows27:Rows s1 s7:=fun j t cs hj ht=>rows7 j t cs (by rw[←o1 j (fun e=>by rw[e,h1.am]at hj;cases hj;rcases ht with ht|ht<;>cases ht)];exact hj) ht
   obtain⟨val1,val2⟩:=sem.value hch hv hc
   rw[hek]at val1 val2
   have hE:efind ql (({ e with ver:=r,last:=clock+1 }:Ent)).k=some e:=by show efind ql e.k=some e;rw[hek];exact hx
   refine⟨e.R,s7,eset ql { e with ver:=r,last:=clock+1 },comps,nv,rfl,⟨?_,t10,?_,?_,t11⟩,⟨?_,?_,?_,?_,?_,?_⟩,by omega,by omega,fun _=>rfl,⟨_,by rw[←val2];exact t9⟩,k3,by rw[←val1];exact k2.rows rows27,by omega,old,fun x hx=>(mem_eset hx).elim (fun h=>.inr (.inl (by rw[h];exact List.mem_map.2 ⟨e,he,rfl⟩))) (fun h=>.inl h.1)⟩
   ·exact h.inp.keep fun j hj=>old j (hF j hj) (fun e=>hFM.2.1 (e▸hj)) (fun e=>hFM.2.2 (e▸hj)) (fun e=>hFM.1 (e▸hj)) fun e he e'=>hFq e he (e'▸hj)
   ·exact(old Av (glt h.av) (ne h.av h.db (by decide)) (ne h.av h.rm (by decide)) (ne h.av h.am (by decide)) fun e he e'=>by
     obtain⟨_,_,_,hh,_⟩:=hq.ro e he
     rw[e',h.av]at hh;cases hh).trans h.av
   ·rw[eml_eset hE rfl,t12 Mr ne2.symm nDMr.symm hne,h2.rm]
   ·intro x hx
    rcases mem_eset hx with rfl|⟨hx,hne'⟩
    ·exact⟨nv,chg,dv,t9,k2.rows rows27,k3,KL.rows k4 rows27,k5⟩
    ·obtain⟨nv',chg',dv',hh,m2,m3,m4,m5⟩:=hq.ro x hx
     obtain⟨x1,x2,x3⟩:=eRne x hx
     have xne:x.R≠e.R:=fun e'=>hne' e hE hq.ks (inj_of hq.Rs hx he e')
     refine⟨nv',chg',dv',?_,m2.rows rows7,m3,KL.rows m4 rows7,m5⟩
     rw[t12 _ xne x1 x3,g2.get (by have:=glt hh;omega),o1 _ x3,hh]
   ·intro x hx
    rcases mem_eset hx with rfl|⟨hx,_⟩
    ·exact sem.now hch hv _
    ·exact hq.sem x hx
   ·exact nodup_eset _ hq.ks fun x hx he=>find_key hq.ks hx he
   ·exact nodup_eset _ hq.Rs fun x hx he'=>by
     rw[inj_of hq.Rs hx he he'];exact hE
   ·exact nodup_eset _ hq.us fun x hx he=>by
     have:=(hq.ub x hx).2
     simp only at he
     omega
   ·intro x hx
    rcases mem_eset hx with rfl|⟨hx,_⟩
    ·exact⟨by show 0≤clock+1;omega,Int.le_refl _⟩
    ·have:=hq.ub x hx
     exact⟨this.1,by omega⟩
end Srv
end

section
namespace Srv
open Go Go.Abs Go.Proofs
theorem C0_P:C0.P=Tryz.prog:=rfl
theorem ac_rC (D:Den)(f:FuncId)(N k:Nat)(c:Code)(K:Ks)(e:Env)(s:Heap):acode C0 D f N k c K e s=rC C0 D k K.ret (compL C0 f N (slotsOf refs f) (slotsOf owns f) c) K.norm K.exit e s:=by
 rw[←kcode_eq,compL_eq (C:=C0) (f:=f) (fun d=>(slotsOf_eq refs f d)) (fun d=>(slotsOf_eq owns f d)),rC_eq]
theorem evNI (e:Env):evO C0 e (.const .nilIface)=.nili:=rfl
theorem strip_nili:AV.nili.strip=.nili:=rfl
theorem nc1:aNilCmp Tryz.prog .neq 20 .nili .nili=some (.bool false):=by kernel_rfl
abbrev Intr:AV:=.ifv 176 (.agg [I 12])
theorem nc2:aNilCmp Tryz.prog .neq 20 Intr .nili=some (.bool true):=by kernel_rfl
theorem strip_intr:Intr.strip=Intr:=rfl
theorem ta176:aTyAs Tryz.prog 176 true Intr=some (.tup [.agg [I 12],.bool true]):=by kernel_rfl
theorem z176:zeroOf Tryz.prog 176=some (.agg [I 0]):=by kernel_rfl
theorem dfr_nil (n:Nat){s:Heap}{D S Mr Ma i j:Nat}{g stop:AV}{comps clock:Int}{z:List AV}(hD:s[D]?=some (121,[g,.ref S 0,.mr Mr,.mr Ma,stop,I comps,I clock]))(hM:s[Ma]?=some (mapTy,.undef::z))(k:Heap→Ans) :
  eDfr (den C n) .nili [.box [.ref D 0] 0,.ref i 0,.ref j 0] k s=k ((s.set D (121,[g,.ref S 0,.mr Mr,.mr Ma,.nilf,I comps,I clock])).set Ma (mapTy,[.undef])):=by
 have nDM:D≠Ma:=fun e=>by rw[e,hM]at hD;cases hD
 have b1:∀s:Heap,aLoad false false 1 (.box [.ref D 0] 0) s=some (.ref D 0,s):=fun s=>by rw[aLoad_one];rfl
 obtain⟨s1,e1⟩:∃s1,s.set D (121,[g,.ref S 0,.mr Mr,.mr Ma,.nilf,I comps,I clock])=s1:=⟨_,rfl⟩
 have D1:s1[D]?=some (121,[g,.ref S 0,.mr Mr,.mr Ma,.nilf,I comps,I clock]):=by rw[←e1];exact gset_eq hD
 have st1:aStore 1 s (.ref D 4) .nilf=some s1:=by
  rw[st (n:=1) hD (by decide) rfl rfl (by simp),←e1];rfl
 have M1:s1[Ma]?=some (mapTy,.undef::z):=by rw[←e1,gset_ne nDM];exact hM
 have l3:aLoad false false 1 (.ref D 3) s1=some (.mr Ma,s1):=ldv D1 (by decide) rfl
 have mc:aMapClear Tryz.prog 119 (.mr Ma) s1=some (s1.set Ma (mapTy,[.undef])):=by
  unfold aMapClear;rw[und119];simp[M1]
 unfold eDfr
 rw[ac_rC];conv in compL _ _ _ _ _ _=>cbv
 simp only[strip_rs,strip_mr,strip_nilf,Bool.false_eq_true,if_false,↓kR,kE,kK,sL,C_P,Nat.reduceEqDiff,reduceIte,C0_P,b1,st1,sL]
 unfold eDfr1
 rw[ac_rC];conv in compL _ _ _ _ _ _=>cbv
 simp only[strip_rs,strip_mr,strip_nilf,Bool.false_eq_true,if_false,↓kR,kE,kK,sL,C_P,Nat.reduceEqDiff,reduceIte,C0_P,b1,l3,mc,sL]
 unfold eDfr2
 rw[ac_rC];conv in compL _ _ _ _ _ _=>cbv
 simp only[strip_rs,strip_mr,strip_nilf,Bool.false_eq_true,if_false,↓kR,kE,kK,sL,C_P,Nat.reduceEqDiff,reduceIte,C0_P,evNI,strip_nili,nc1,sL]
 rw[e1]
theorem dfr_int (n:Nat){s:Heap}{D S Mr Ma i j:Nat}{g stop:AV}{comps clock:Int}{z:List AV}(hD:s[D]?=some (121,[g,.ref S 0,.mr Mr,.mr Ma,stop,I comps,I clock]))(hM:s[Ma]?=some (mapTy,.undef::z))(hi:s[i]?=some (82,[.nils,.str []]))(hj:s[j]?=some (24,[I 0]))(k:Heap→Ans) :
  ∃s2,eDfr (den C n) Intr [.box [.ref D 0] 0,.ref i 0,.ref j 0] k s=k s2∧s2[D]?=some (121,[g,.ref S 0,.mr Mr,.mr Ma,.nilf,I comps,I clock])∧s2[Ma]?=some (mapTy,[.undef])∧s2[i]?=some (82,[.nils,.str []])∧s2[j]?=some (24,[I 12])∧s.length≤s2.length∧∀t,t<s.length→t≠D→t≠Ma→t≠i→t≠j→s2[t]?=s[t]?:=by
 have ne:∀{i j:Nat} {t t':TypeId} {c c':List AV},s[i]?=some (t,c)→s[j]?=some (t',c')→t≠t'→i≠j:=fun h1 h2 h3 e=>by rw[e,h2]at h1;cases h1;exact h3 rfl
 have nDM:D≠Ma:=ne hD hM (by decide)
 have nDi:D≠i:=ne hD hi (by decide)
 have nDj:D≠j:=ne hD hj (by decide)
 have nMi:Ma≠i:=ne hM hi (by decide)
 have nMj:Ma≠j:=ne hM hj (by decide)
 have nij:i≠j:=ne hi hj (by decide)
 have b1:∀s:Heap,aLoad false false 1 (.box [.ref D 0] 0) s=some (.ref D 0,s):=fun s=>by rw[aLoad_one];rfl
 obtain⟨s1,e1⟩:∃s1,s.set D (121,[g,.ref S 0,.mr Mr,.mr Ma,.nilf,I comps,I clock])=s1:=⟨_,rfl⟩
 have D1:s1[D]?=some (121,[g,.ref S 0,.mr Mr,.mr Ma,.nilf,I comps,I clock]):=by rw[←e1];exact gset_eq hD
 have st1:aStore 1 s (.ref D 4) .nilf=some s1:=by
  rw[st (n:=1) hD (by decide) rfl rfl (by simp),←e1];rfl
 have M1:s1[Ma]?=some (mapTy,.undef::z):=by rw[←e1,gset_ne nDM];exact hM
 have l3:aLoad false false 1 (.ref D 3) s1=some (.mr Ma,s1):=ldv D1 (by decide) rfl
 obtain⟨s2,e2⟩:∃s2,s1.set Ma (mapTy,[.undef])=s2:=⟨_,rfl⟩
 have mc:aMapClear Tryz.prog 119 (.mr Ma) s1=some s2:=by
  unfold aMapClear;rw[und119];simp[M1,e2]
 obtain⟨s3,e3⟩:∃s3,s2++[(176,[I 12])]=s3:=⟨_,rfl⟩
 have n2:s2.length=s.length:=by rw[←e2,set_length,←e1,set_length]
 have st3:aStore 1 (s2++[(176,[I 0])]) (.ref s2.length 0) (.agg [I 12])=some s3:=by
  rw[stW (n:=1) (cs:=[I 0]) gapp_new (by decide) rfl rfl rfl,set_end,e3]
 have at3:s3[s2.length]?=some (176,[I 12]):=by rw[←e3];exact gapp_new
 have l4:aLoad false false 1 (.ref s2.length 0) s3=some (I 12,s3):=ldv at3 (by decide) rfl
 have i3:s3[i]?=some (82,[.nils,.str []]):=by rw[←e3,gapp_old (by have:=glt hi;omega),←e2,gset_ne nMi,←e1,gset_ne nDi];exact hi
 have j3:s3[j]?=some (24,[I 0]):=by rw[←e3,gapp_old (by have:=glt hj;omega),←e2,gset_ne nMj,←e1,gset_ne nDj];exact hj
 obtain⟨s4,e4⟩:∃s4,s3.set i (82,[.nils,.str []])=s4:=⟨_,rfl⟩
 have st4:aStore 2 s3 (.ref i 0) (.agg [.nils,.str []])=some s4:=by
  rw[stW (n:=2) i3 (by decide) rfl rfl rfl,e4]
 have j4:s4[j]?=some (24,[I 0]):=by rw[←e4,gset_ne nij];exact j3
 obtain⟨s5,e5⟩:∃s5,s4.set j (24,[I 12])=s5:=⟨_,rfl⟩
 have st5:aStore 1 s4 (.ref j 0) (I 12)=some s5:=by
  rw[st (n:=1) j4 (by decide) rfl rfl (by simp),←e5];rfl
 have b82z:aBuild Tryz.prog 82 []=some (.agg [.nils,.str []]):=by kernel_rfl
 refine⟨s5,?_,?_,?_,?_,?_,?_,fun t h1 h2 h3 h4 h5=>?_⟩
 ·unfold eDfr
  rw[ac_rC];conv in compL _ _ _ _ _ _=>cbv
  simp only[strip_rs,strip_mr,strip_nilf,Bool.false_eq_true,if_false,↓kR,kE,kK,sL,C_P,Nat.reduceEqDiff,reduceIte,C0_P,b1,st1,sL]
  unfold eDfr1
  rw[ac_rC];conv in compL _ _ _ _ _ _=>cbv
  simp only[strip_rs,strip_mr,strip_nilf,Bool.false_eq_true,if_false,↓kR,kE,kK,sL,C_P,Nat.reduceEqDiff,reduceIte,C0_P,b1,l3,mc,sL]
  unfold eDfr2
  rw[ac_rC];conv in compL _ _ _ _ _ _=>cbv
  simp only[strip_rs,strip_mr,strip_nilf,Bool.false_eq_true,if_false,↓kR,kE,kK,sL,C_P,Nat.reduceEqDiff,reduceIte,C0_P,evNI,strip_intr,nc2,ta176,allocS z176 (by decide) ⟨nofun,rfl⟩,st3,↓rC_seqj,b82z,l4,st4,st5,sL]
  have hk:compat (.get s2.length) (kStore (.ref i 0))=true:=by
   have:s2.length≠i:=by have:=glt hi;omega
   show (s2.length != i)=true
   simpa using this
  rw[if_pos hk]
 ·rw[←e5,gset_ne nDj.symm,←e4,gset_ne nDi.symm,←e3,gapp_old (by have:=glt hD;omega),←e2,gset_ne nDM.symm];exact D1
 ·rw[←e5,gset_ne nMj.symm,←e4,gset_ne nMi.symm,←e3,gapp_old (by have:=glt hM;omega),←e2];exact gset_eq M1
 ·rw[←e5,gset_ne nij.symm,←e4];exact gset_eq i3
 ·rw[←e5];exact gset_eq j4
 ·rw[←e5,set_length,←e4,set_length,←e3,app_length];omega
 ·rw[←e5,gset_ne h5.symm,←e4,gset_ne h4.symm,←e3,gapp_old (by omega),←e2,gset_ne h3.symm,←e1,gset_ne h2.symm]
def plainC:Code→Bool
 | .skip=>true
 | .region _ ops draw=>!draw || !choice ops.toList
 | .seq a b=>plainC a&&plainC b
 | .cond _ a b=>plainC a&&plainC b
 | .ret=>true
 | _=>false
theorem pOps_execL {C:Cfg}{D PD:Den}{f:FuncId}{N:Nat}{ops:List Oper}:∀(l:List Nat){st st':Stt},execL C D f N ops l st=some st'→pOps C D PD f N ops l st=some (.inl st')
 | [],st,st',h=>by cases h;rfl
 | i::l,st,st',h=>by
  simp only[execL]at h
  simp only[pOps]
  split at h
  ·rename_i st1 h1
   rw[h1]
   exact pOps_execL l h
  ·cases h
theorem pcode_ac {C:Cfg}{D PD:Den}{f:FuncId}{N fuel:Nat}{pan:AV→Env→Heap→Ans}{r:AV×Heap}:∀(c:Code)(K K':Ks)(e:Env)(s:Heap),plainC c=true→acode C D f N fuel c K e s=some r→(∀e s,K.norm e s=some r→K'.norm e s=some r)→(∀e s,K.ret e s=some r→K'.ret e s=some r)→pcode C D PD f N pan c K' e s=some r:=by
 intro c
 induction c with
 | skip=>intro K K' e s _ h k1 k2;exact k1 _ _ h
 | region id ops draw =>
  intro K K' e s hp h k1 k2
  cases draw with
  | false =>
   simp only[acode,Bool.false_and,aRegion]at h
   simp only[pcode]
   rw[if_neg (by decide)]at h
   split at h
   ·rename_i st hst
    rw[pOps_execL _ hst]
    exact k1 _ _ h
   ·cases h
  | true =>
   have hc:choice ops.toList=false:=by simpa[plainC] using hp
   simp only[acode,hc,Bool.and_false]at h
   simp only[pcode,hc]
   split at h
   ·rename_i st hst
    rw[hst]
    exact k1 _ _ h
   ·cases h
 | seq a b iha ihb =>
  intro K K' e s hp h k1 k2
  simp only[plainC,Bool.and_eq_true]at hp
  simp only[acode]at h
  simp only[pcode]
  exact iha _ _ e s hp.1 h (fun e s h=>ihb K _ e s hp.2 h k1 k2) k2
 | cond x a b iha ihb =>
  intro K K' e s hp h k1 k2
  simp only[plainC,Bool.and_eq_true]at hp
  simp only[acode]at h
  simp only[pcode]
  split at h
  ·rename_i hx;rw[hx];exact iha K K' e s hp.1 h k1 k2
  ·rename_i hx;rw[hx];exact ihb K K' e s hp.2 h k1 k2
  ·cases h
 | ret=>intro K K' e s _ h k1 k2;exact k2 _ _ h
 | _=>intro K K' e s hp;cases hp
end Srv
end

section
namespace Srv
open Go Go.Abs Go.Proofs
structure Memo (s:Heap)(F:Foot)(S M D Mr Ma Av:Nat)(r:Int)(f:Inp)(comps clock:Int)(ql:List Ent):Prop where
 db:DB s F S M D Mr Ma Av r f .nilf comps clock (eml ql) []
 q:QOK s f r clock ql
 hF:∀i,F i→i<s.length
 hFM:¬F Ma∧¬F D∧¬F Mr
 ne:Mr≠Ma
 Fq:∀e∈ql,¬F e.R
 ch:∀d,(f d).ch≤r
 cb:0≤comps∧0≤clock
theorem d90 (n:Nat)(args:List AV)(s:Heap):den C (n+1) 90 args s=eGet (den C n) args s:=rfl
theorem eGet_eq (D:Den)(x y z:AV)(s:Heap):eGet D [x,y,z] s=acode C0 D 90 34 1 (cA (bodyOf Tryz.f90)) { norm:=eGet1 D,ret:=fun _ _=>none,exit:=fun _ _ _=>none } (argEnv [x,y,z]) s:=if_pos rfl
theorem z24:zeroOf Tryz.prog 24=some (I 0):=by kernel_rfl
theorem al24 (s:Heap):aAlloc Tryz.prog 24 s=some (.ref s.length 0,s++[(24,[I 0])]):=by
 have:∀s,aAlloc Tryz.prog 24 s=some (.ref s.length 0,s++[(24,[I 0])]):=fun s=>by kernel_rfl
 exact this s
theorem pl90:plainC (cB (cB (cB (cB (bodyOf Tryz.f90)))))=true:=by kernel_rfl
theorem fk90 {env:Env}{s:Heap}{x y:AV}(h1:aLoad false true 2 (env 6) s=some (x,s))(h2:aLoad false false 1 (env 7) s=some (y,s)):finK Tryz.prog Tryz.f90.results.toList env s=some (.tup [x,y],s):=by
 have e1:Tryz.f90.results.toList=[.cell 6 82,.cell 7 24]:=by kernel_rfl
 have e2:isAggT Tryz.prog 24=some false:=by kernel_rfl
 have e3:szOf Tryz.prog 24=some 1:=by kernel_rfl
 rw[e1]
 simp[finK,aResult,aResL,aRes1,ag82,sz82,e2,e3,h1,h2]
set_option maxRecDepth 200000 in
set_option maxHeartbeats 2000000 in
theorem c90 (n:Nat){s:Heap}{F:Foot}{S M D Mr Ma Av:Nat}{r:Int}{f:Inp}{comps clock:Int}{ql:List Ent}(h:Memo s F S M D Mr Ma Av r f comps clock ql)(hcm:comps<1000000000)(hck:clock<1000000000)(hn:140<n)(hn2:n<800000){c:Nat}(hc:(f (0,0,0)).xs=[(c:Int)])(hc8:c≤8)(q a:Int)(hq0:(q==0)=false)(i:Nat)(hi:i<c){g:FuncId}{l:List AV}(hsl:(AV.fn g [] l).strip=.fn g [] l)(hso:(AV.fn g [] l).solid=true)
  (hstop:hitQ f r ql (q,a,(i:Int))=true∨∀t:Heap,(∀j,j<s.length→j≠Ma→j≠D→t[j]?=s[j]?)→(∃p,t[D]?=some (121,[.fn 35 [] [.ref Av 0],.ref S 0,.mr Mr,.mr Ma,p,I comps,I clock]))→aCallV Tryz.prog (den C (n+11)) (.fn g [] l) [] t=some (.bool false,t)) :
  ∃v' s' ql' comps',den C (n+14) 90 [.ref D 0,Kv (q,a,(i:Int)),.fn g [] l] s=some (.tup [.agg [v',.str (comp f c (q,a,i)).2.2],I 0],s')∧Memo s' F S M D Mr Ma Av r f comps' (clock+1) ql'∧comps≤comps'∧comps'≤comps+1∧(hitQ f r ql (q,a,(i:Int))=true→comps'=comps) ∧
   NV s' v' ((comp f c (q,a,i)).1::(comp f c (q,a,i)).2.1)∧v'.strip=v'∧NewR s v'∧s.length≤s'.length∧(∀j,j<s.length→j≠D→j≠Mr→j≠Ma→(∀e∈ql,e.R≠j)→s'[j]?=s[j]?)∧(∀e∈ql',e.R∈ql.map (·.R)∨s.length≤e.R):=by
 have bk:=bxk (q,a,(i:Int))
 simp only at bk
 have b0:∀s:Heap,aLoad false false 1 (.box [I q,I a,I i] 0) s=some (I q,s):=fun s=>by rw[aLoad_one];rfl
 have b1:∀s:Heap,aLoad false false 1 (.box [.ref D 0] 0) s=some (.ref D 0,s):=fun s=>by rw[aLoad_one];rfl
 have bx:∀s,aBox false 76 (.ref D 0) s=some (.box [.ref D 0] 0,s):=fun s=>boxV rfl s
 obtain⟨s1,e1⟩:∃s1,s++[(82,[AV.nils,AV.str []])]=s1:=⟨_,rfl⟩
 obtain⟨s2,e2⟩:∃s2,s1++[(24,[I 0])]=s2:=⟨_,rfl⟩
 have g1:Gr s s1:=e1▸Gr.app ..
 have g2:Gr s1 s2:=e2▸Gr.app ..
 have g12:=g1.trans g2
 have h2:=h.db.gr g12
 obtain⟨s3,e3⟩:∃s3,s2.set D (121,[.fn 35 [] [.ref Av 0],.ref S 0,.mr Mr,.mr Ma,.fn g [] l,I comps,I clock])=s3:=⟨_,rfl⟩
 have st3:aStore 1 s2 (.ref D 4) (.fn g [] l)=some s3:=by
  rw[st (n:=1) h2.db (by decide) hso rfl (by simp),←e3]
  show some (s2.set D (121,[_,_,_,_,(AV.fn g [] l).strip,_,_]))=_
  rw[hsl]
 rw[d90]
 rw[eGet_eq,ac_rC];conv in compL _ _ _ _ _ _=>cbv
 simp only[strip_rs,strip_mr,strip_nilf,Bool.false_eq_true,if_false,↓kR,kE,kK,sL,C_P,Nat.reduceEqDiff,reduceIte,C0_P,bx,allocS z82 (by decide) ⟨nofun,rfl⟩,e1,al24,e2,sL]
 unfold eGet1
 rw[ac_rC];conv in compL _ _ _ _ _ _=>cbv
 simp only[strip_rs,strip_mr,strip_nilf,Bool.false_eq_true,if_false,↓kR,kE,kK,sL,C_P,Nat.reduceEqDiff,reduceIte,C0_P,b0,hq0,sL]
 unfold eGet2
 rw[ac_rC];conv in compL _ _ _ _ _ _=>cbv
 simp only[strip_rs,strip_mr,strip_nilf,Bool.false_eq_true,if_false,↓kR,kE,kK,sL,C_P,Nat.reduceEqDiff,reduceIte,C0_P,b1,st3,hsl,sL]
 generalize hE:upd _ 26 _=E
 have E3:E 3=.box [.ref D 0] 0:=by rw[←hE];rfl
 have E4:E 4=.box [I q,I a,I i] 0:=by rw[←hE];rfl
 have E6:E 6=.ref s.length 0:=by rw[←hE];rfl
 have E7:E 7=.ref s1.length 0:=by rw[←hE];rfl
 clear hE
 have ne:∀{i j:Nat} {t t':TypeId} {c c':List AV},s[i]?=some (t,c)→s[j]?=some (t',c')→t≠t'→i≠j:=fun h1 h2 h3 e=>by rw[e,h2]at h1;cases h1;exact h3 rfl
 have lD:=glt h.db.db
 have n1:s1.length=s.length+1:=by rw[←e1,app_length]
 have n2:s2.length=s.length+2:=by rw[←e2,app_length,n1]
 have n3:s3.length=s.length+2:=by rw[←e3,set_length,n2]
 have o3:∀j,j≠D→s3[j]?=s2[j]?:=fun j hj=>by rw[←e3,gset_ne hj.symm]
 have h3:DB s3 F S M D Mr Ma Av r f (.fn g [] l) comps clock (eml ql) []:=by
  refine⟨h2.inp.keep fun j hj=>o3 j (fun e=>h.hFM.2.1 (e▸hj)),by rw[←e3];exact gset_eq h2.db,(o3 _ (ne h.db.av h.db.db (by decide))).trans h2.av,(o3 _ (ne h.db.rm h.db.db (by decide))).trans h2.rm,(o3 _ (ne h.db.am h.db.db (by decide))).trans h2.am⟩
 have rows3:Rows s s3:=by rw[←e3];exact g12.rows.set h2.db (by decide) _
 have eRlt:∀e∈ql,e.R<s.length∧e.R≠D:=fun e he=>by
  obtain⟨_,_,_,hh,_⟩:=h.q.ro e he
  exact⟨glt hh,ne hh h.db.db (by decide)⟩
 have q3:QOK s3 f r clock ql:=⟨fun e he=>(h.q.ro e he).keep rows3 (by rw[o3 _ (eRlt e he).2,g12.get (eRlt e he).1]),h.q.sem,h.q.ks,h.q.Rs,h.q.us,h.q.ub⟩
 have hst:hitQ f r ql (q,a,(i:Int))=true∨AV.fn g [] l=.nilf∨StopB false (n+11) s3 Ma (.fn g [] l):=by
  refine hstop.imp id fun hh=>.inr ⟨g,l,rfl,fun t ht=>hh t (fun j j1 j2 j3=>?_) ?_⟩
  ·rw[ht j (by omega) j2,o3 j j3,g12.get j1]
  ·refine⟨_,(ht D (by omega) ?_).trans h3.db⟩
   exact ne h.db.db h.db.am (by decide)
 obtain⟨R,s4,ql',comps',nv,c1,c2,c3,c4,c5,c6,⟨cs,c7⟩,c8,c9,c10,c11,c12⟩:=c108 n h3 q3 (fun j hj=>by have:=h.hF j hj;omega) h.hFM h.ne h.Fq h.ch ⟨h.cb.1,hcm⟩ ⟨h.cb.2,hck⟩ hn hn2 hc hc8 q a i hi hsl hst
 have cl:aCall Tryz.prog (den C (n+13)) 108 [.ref D 0,.agg [I q,I a,I i]] s3=some (.ref R 0,s4):=by
  rw[aCall,if_pos (by kernel_rfl),if_neg (by simp[noRefL_cons,AV.noRef])];exact c1
 obtain⟨v',s5,d1,d2,d3,d4,d5⟩:=c107 (n+11) c9 (comp f c (q,a,i)).2.2
 have lR:aLoad false true 2 (.ref R 0) s4=some (.agg [nv,.str (comp f c (q,a,i)).2.2],s4):=ldA c7 (by decide) (by simp) (by decide)
 have at1:s3[s.length]?=some (82,[AV.nils,AV.str []]):=(o3 _ (by omega)).trans (g2.at (by rw[←e1];exact gapp_new))
 have at2:s3[s1.length]?=some (24,[I 0]):=(o3 _ (by omega)).trans (by rw[←e2];exact gapp_new)
 have xR:∀{j:Nat} {t:TypeId} {cs:List AV},s3[j]?=some (t,cs)→t≠121→t≠mapTy→t≠163→s4[j]?=some (t,cs):=fun {j t cs} hj t1 t2 t3=>by
  have ne':∀{i:Nat} {t':TypeId} {c':List AV},s3[i]?=some (t',c')→t≠t'→j≠i:=fun h2 h3 e=>by rw[e,h2]at hj;cases hj;exact h3 rfl
  rw[c11 j (glt hj) (ne' h3.db t1) (ne' h3.rm t2) (ne' h3.am t2) (fun e he e'=>by
   obtain⟨_,_,_,hh,_⟩:=q3.ro e he
   rw[e',hj]at hh;cases hh;exact t3 rfl),hj]
 have at1':=d3.at (xR at1 (by decide) (by decide) (by decide))
 obtain⟨s6,e6⟩:∃s6,s5.set s.length (82,[v',.str (comp f c (q,a,i)).2.2])=s6:=⟨_,rfl⟩
 have st6:aStore 2 s5 (.ref s.length 0) (.agg [v',.str (comp f c (q,a,i)).2.2])=some s6:=by
  rw[stW (n:=2) at1' (by decide) rfl rfl (by show [v'.strip,_]=_;rw[d4];rfl),e6]
 have at2':s6[s1.length]?=some (24,[I 0]):=by rw[←e6,gset_ne (by omega)];exact d3.at (xR at2 (by decide) (by decide) (by decide))
 obtain⟨s7,e7⟩:∃s7,s6.set s1.length (24,[I 0])=s7:=⟨_,rfl⟩
 have st7:aStore 1 s6 (.ref s1.length 0) (I 0)=some s7:=by
  rw[st (n:=1) at2' (by decide) rfl rfl (by simp),←e7];rfl
 have o7:∀j,j≠s.length→j≠s1.length→s7[j]?=s5[j]?:=fun j j1 j2=>by rw[←e7,gset_ne j2.symm,←e6,gset_ne j1.symm]
 have h5:=c2.gr d3
 have l5:s3.length≤s5.length:=Nat.le_trans c10 d3.len
 have T7:∀{j:Nat} {t:TypeId} {cs:List AV},s5[j]?=some (t,cs)→t≠82→t≠24→s7[j]?=some (t,cs):=fun {j t cs} hj t1 t2=>by
  rw[o7 j (fun e=>by rw[e,at1']at hj;cases hj;exact t1 rfl) (fun e=>?_),hj]
  have:s5[s1.length]?=some (24,[I 0]):=d3.at (xR at2 (by decide) (by decide) (by decide))
  rw[e,this]at hj;cases hj;exact t2 rfl
 have D7:=T7 h5.db (by decide) (by decide)
 have M7:=T7 h5.am (by decide) (by decide)
 obtain⟨s8,e8⟩:∃s8,(s7.set D (121,[.fn 35 [] [.ref Av 0],.ref S 0,.mr Mr,.mr Ma,.nilf,I comps',I (clock+1)])).set Ma (mapTy,[.undef])=s8:=⟨_,rfl⟩
 have nDM:D≠Ma:=ne h.db.db h.db.am (by decide)
 have o8:∀j,j≠D→j≠Ma→s8[j]?=s7[j]?:=fun j j1 j2=>by rw[←e8,gset_ne j2.symm,gset_ne j1.symm]
 have D8:s8[D]?=some (121,[.fn 35 [] [.ref Av 0],.ref S 0,.mr Mr,.mr Ma,.nilf,I comps',I (clock+1)]):=by rw[←e8,gset_ne nDM.symm];exact gset_eq D7
 have M8:s8[Ma]?=some (mapTy,[.undef]):=by rw[←e8];exact gset_eq (w:=(mapTy,.undef::flat [])) (by rw[gset_ne nDM];exact M7)
 have lMa:=glt h.db.am
 have n7:s7.length=s5.length:=by rw[←e7,set_length,←e6,set_length]
 have n8:s8.length=s5.length:=by rw[←e8,set_length,set_length,n7]
 have at6:s8[s.length]?=some (82,[v',.str (comp f c (q,a,i)).2.2]):=by
  rw[o8 _ (by omega) (by omega),←e7,gset_ne (by omega),←e6];exact gset_eq at1'
 have at7:s8[s1.length]?=some (24,[I 0]):=by rw[o8 _ (by omega) (by omega),←e7];exact gset_eq at2'
 have T8:∀{j:Nat} {t:TypeId} {cs:List AV},s5[j]?=some (t,cs)→t≠82→t≠24→t≠121→t≠mapTy→s8[j]?=some (t,cs):=fun {j t cs} hj t1 t2 t3 t4=>by
  rw[o8 j (fun e=>by rw[e,h5.db]at hj;cases hj;exact t3 rfl) (fun e=>by rw[e,h5.am]at hj;cases hj;exact t4 rfl)]
  exact T7 hj t1 t2
 have rows8:Rows s5 s8:=fun j t cs hj ht=>by rcases ht with rfl|rfl<;>exact T8 hj (by decide) (by decide) (by decide) (by decide)
 have res:eGet3 (den C (n+13)) E s3=some (.tup [.agg [v',.str (comp f c (q,a,i)).2.2],I 0],s8):=by
  unfold eGet3
  refine pcode_ac (fuel:=1) _ { norm:=fun e s=>fin90 .nili (den C (n+13)) E e s,ret:=fun e s=>fin90 .nili (den C (n+13)) E e s,exit:=fun _ _ _=>none } _ _ _ pl90 ?_ (fun _ _ h=>h) (fun _ _ h=>h)
  rw[ac_rC];conv in compL _ _ _ _ _ _=>cbv
  simp only[strip_rs,strip_mr,strip_nilf,Bool.false_eq_true,if_false,↓kR,kE,kK,sL,C_P,Nat.reduceEqDiff,reduceIte,C0_P,E3,E4,E6,E7,b1,bk,cl,lR,cFs _ _ (by kernel_rfl:enterable Tryz.prog 107=true),c8,d1,st6,st7,sL]
  unfold fin90
  rw[E3,E6,E7]
  simp only[List.map]
  rw[show (AV.box [AV.ref D 0] 0).strip=.box [.ref D 0] 0 from rfl,show ∀i,(AV.ref i 0).strip=.ref i 0 from fun _=>rfl,show ∀i,(AV.ref i 0).strip=.ref i 0 from fun _=>rfl,dfr_nil (n+13) D7 M7,e8]
  refine fk90 (x:=.agg [v',.str (comp f c (q,a,i)).2.2]) (y:=I 0) ?_ ?_
  ·show aLoad false true 2 (E 6) s8=_
   rw[E6];exact ldA at6 (by decide) (by simp) (by decide)
  ·show aLoad false false 1 (E 7) s8=_
   rw[E7];exact ldv at7 (by decide) rfl
 refine⟨v',s8,ql',comps',res,⟨⟨?_,D8,?_,?_,M8⟩,⟨?_,c3.sem,c3.ks,c3.Rs,c3.us,c3.ub⟩,?_,h.hFM,h.ne,?_,h.ch,?_⟩,c4,c5,c6,d2.rows rows8,d4,?_,by omega,?_,?_⟩
 ·exact(h5.inp).keep fun j hj=>by
   have:=h.hF j hj
   rw[o8 j (fun e=>h.hFM.2.1 (e▸hj)) (fun e=>h.hFM.1 (e▸hj)),o7 j (by omega) (by omega)]
 ·exact T8 h5.av (by decide) (by decide) (by decide) (by decide)
 ·rw[o8 Mr (ne h.db.rm h.db.db (by decide)) h.ne];exact T7 h5.rm (by decide) (by decide)
 ·intro e he
  have ro:=c3.ro e he
  obtain⟨_,_,_,hh,_⟩:=ro
  exact(c3.ro e he).keep (d3.rows.trans rows8) (by rw[T8 (d3.at hh) (by decide) (by decide) (by decide) (by decide),hh])
 ·exact fun j hj=>by have:=h.hF j hj;omega
 ·intro e he hf
  rcases c12 e he with h1|h1|h1
  ·exact h.Fq e h1 hf
  ·obtain⟨x,hx,hxe⟩:=List.mem_map.1 h1
   exact h.Fq x hx (hxe▸hf)
  ·have:=h.hF _ hf;omega
 ·have:=h.cb;omega
 ·exact fun Q m e=>by have:=d5 Q m e;omega
 ·intro j j1 j2 j3 j4 j5
  rw[o8 j j2 j4,o7 j (by omega) (by omega),d3.get (by omega),c11 j (by omega) j2 j3 j4 j5,o3 j j2,g12.get j1]
 ·intro e he
  rcases c12 e he with h1|h1|h1
  ·exact .inl (List.mem_map.2 ⟨e,h1,rfl⟩)
  ·exact .inl h1
  ·exact .inr (by omega)
end Srv
end

section
namespace Srv
open Go Go.Abs Go.Proofs
theorem ex1 {C:Cfg}{D:Den}{f:FuncId}{N:Nat}{ops:List Oper}{i:Nat}{o:Oper}(h:ops[i]?=some o){env env':Env}{s s':Heap}(hk:∀k,rO C D (ro C f N ops o) env s k=k env' s'):exec1 C D f N ops i (env,s)=some (env',s'):=by
 cases hx:exec1 C D f N ops i (env,s) with
 | none =>
  have:=hk fun _ _=>some (.undef,[])
  rw[rO_eq,kop_eq h,hx]at this
  cases this
 | some st =>
  classical
  have:=hk fun e s=>if e=env'∧s=s' then some (.undef,[]) else none
  rw[rO_eq,kop_eq h,hx]at this
  simp only[and_self,if_true]at this
  split at this
  ·rename_i hh
   obtain⟨h1,h2⟩:=hh
   rw[←h1,←h2]
  ·cases this
theorem ex0 {C:Cfg}{D:Den}{f:FuncId}{N:Nat}{ops:List Oper}{i:Nat}{o:Oper}(h:ops[i]?=some o){env:Env}{s:Heap}(hk:∀k,rO C D (ro C f N ops o) env s k=none):exec1 C D f N ops i (env,s)=none:=by
 cases hx:exec1 C D f N ops i (env,s) with
 | none=>rfl
 | some st =>
  have:=hk fun _ _=>some (.undef,[])
  rw[rO_eq,kop_eq h,hx]at this
  cases this
theorem pseq {C:Cfg}{D PD:Den}{f:FuncId}{N:Nat}{pan:AV→Env→Heap→Ans}{a b:Code}{K:Ks}{e:Env}{s:Heap}{r:AV×Heap}(hp:plainC a=true)(h:acode C D f N 1 a { norm:=fun e s=>pcode C D PD f N pan b K e s,ret:=fun _ _=>none,exit:=fun _ _ _=>none } e s=some r):pcode C D PD f N pan (.seq a b) K e s=some r:=by
 simp only[pcode]
 exact pcode_ac (fuel:=1) a _ _ e s hp h (fun _ _ h=>h) (fun _ _ h=>by cases h)
theorem rV_pan {C:Cfg}{D:Den}(x:Operand) (ρ:Operand→AV)(s:Heap):rV C D (.raw false false (.panic x)) ρ s=none:=rfl
theorem ohn (k:AV→Heap→Ans):oh none k=none:=rfl
theorem b176:aBuild Tryz.prog 176 [(0,I 12)]=some (.agg [I 12]):=by kernel_rfl
theorem mi176:aIface Tryz.prog 176 (.agg [I 12])=some Intr:=by kernel_rfl
theorem n118 (n:Nat){s:Heap}{D S Mr Ma:Nat}{g0:AV}{comps clock q a i:Int}{g:FuncId}{l:List AV}(hD:s[D]?=some (121,[g0,.ref S 0,.mr Mr,.mr Ma,.fn g [] l,I comps,I clock]))(hsl:(AV.fn g [] l).strip=.fn g [] l)(hq:aCallV Tryz.prog (den C n) (.fn g [] l) [] (s++[(76,[AV.ref D 0])])=some (.bool true,s++[(76,[AV.ref D 0])])):den C (n+1) 118 [.ref D 0,Key q a i] s=none:=by
 obtain⟨s1,e1⟩:∃s1,s++[(76,[AV.ref D 0])]=s1:=⟨_,rfl⟩
 rw[e1]at hq
 have g1:Gr s s1:=e1▸Gr.app ..
 have at1:s1[s.length]?=some (76,[AV.ref D 0]):=e1▸gapp_new
 have l76:aLoad false false 1 (.ref s.length 0) s1=some (.ref D 0,s1):=ldv at1 (by decide) rfl
 have lst:aLoad false false 1 (.ref D 4) s1=some (.fn g [] l,s1):=ldv (g1.at hD) (by decide) rfl hsl
 have bx:∀s,aBox true 76 (.ref D 0) s=some (.ref s.length 0,s++[(76,[AV.ref D 0])]):=fun s=>boxR (t:=76) (by decide) rfl (by simp[AV.cells]) s
 rw[rd Tryz.func118];conv in compF _ _ _ _ _ _=>cbv
 simp only[strip_rs,strip_mr,strip_nilf,Bool.false_eq_true,if_false,↓kR,kE,kK,sL,C_P,Nat.reduceEqDiff,reduceIte,Tryz.f118,bx,e1,l76,lst,nq23f,hq,↓rC_seqj,rV_pan,ohn,b176,mi176,sL]
def opsAt:Code→List Oper
 | .region _ ops _=>ops.toList
 | _=>[]
def arrAt:Code→Array Oper
 | .region _ ops _=>ops
 | _=>#[]
def cT:Code→Code
 | .cond _ a _=>a
 | _=>.skip
theorem pcode_seq {C:Cfg}{D PD:Den}{f:FuncId}{N:Nat}{pan:AV→Env→Heap→Ans}{a b:Code}{K:Ks}{e:Env}{s:Heap}:pcode C D PD f N pan (.seq a b) K e s=pcode C D PD f N pan a { K with norm:=fun e s=>pcode C D PD f N pan b K e s } e s:=by simp only[pcode]
theorem pcode_cond {C:Cfg}{D PD:Den}{f:FuncId}{N:Nat}{pan:AV→Env→Heap→Ans}{x:Operand}{a b:Code}{K:Ks}{e:Env}{s:Heap}(h:evO C e x=.bool true):pcode C D PD f N pan (.cond x a b) K e s=pcode C D PD f N pan a K e s:=by simp only[pcode,h]
theorem pcode_pan {C:Cfg}{D PD:Den}{f:FuncId}{N:Nat}{pan:AV→Env→Heap→Ans}{c:Code}{id:Nat}{ops:Array Oper}(hc:c=.region id ops false){K:Ks}{e e':Env}{s s':Heap}{a:AV}(h:pOps C D PD f N (opsAt c) (List.range (opsAt c).length) (e,s)=some (.inr (a,e',s'))):pcode C D PD f N pan c K e s=pan a e' s':=by
 subst hc
 simp only[opsAt]at h
 simp only[pcode,h]
theorem pBody_eq {D PD:Den}{g:FuncId}{fn:Func}{c:Code}{args:List AV}{s:Heap}(hf:Tryz.prog.funcs[g]?=some fn)(hc:fn.body=some c):pBody C0 D PD g args s=pcode C0 D PD g (args.length+(fn.ntmps-args.length)) (fun a _ s=>some (a,s)) c { norm:=fun _ _=>none,ret:=fun _ _=>none,exit:=fun _ _ _=>none } (argEnv args) s:=by
 unfold pBody
 rw[C0_P,hf]
 simp only[hc]
noncomputable def P118:Code:=cT (cB (cA (cB (bodyOf Tryz.f118))))
theorem shape118:bodyOf Tryz.f118=.seq (cA (bodyOf Tryz.f118)) (.seq (.seq (cA (cA (cB (bodyOf Tryz.f118)))) (.cond (.tmp 19) P118 .skip)) (cB (cB (bodyOf Tryz.f118)))):=by kernel_rfl
theorem body118:Tryz.f118.body=some (bodyOf Tryz.f118):=by kernel_rfl
theorem len118:(opsAt P118).length=3:=by kernel_rfl
noncomputable def o118 (i:Nat):Oper:=(opsAt P118).getD i default
theorem at118 (i:Nat)(h:i<3):(opsAt P118)[i]?=some (o118 i):=by
 unfold o118
 rw[List.getD_eq_getElem?_getD,List.getElem?_eq_getElem (by rw[len118];exact h)];rfl
theorem reg118:P118=.region 2 (arrAt P118) false:=by kernel_rfl
theorem p118 (n:Nat)(PD:Den){s:Heap}{D S Mr Ma:Nat}{g0:AV}{comps clock q a i:Int}{g:FuncId}{l:List AV}(hD:s[D]?=some (121,[g0,.ref S 0,.mr Mr,.mr Ma,.fn g [] l,I comps,I clock]))(hsl:(AV.fn g [] l).strip=.fn g [] l)(hq:aCallV Tryz.prog (den C n) (.fn g [] l) [] (s++[(76,[AV.ref D 0])])=some (.bool true,s++[(76,[AV.ref D 0])])):pBody C0 (den C n) PD 118 [.ref D 0,Key q a i] s=some (Intr,s++[(76,[AV.ref D 0])]):=by
 obtain⟨s1,e1⟩:∃s1,s++[(76,[AV.ref D 0])]=s1:=⟨_,rfl⟩
 rw[e1]at hq ⊢
 have g1:Gr s s1:=e1▸Gr.app ..
 have at1:s1[s.length]?=some (76,[AV.ref D 0]):=e1▸gapp_new
 have l76:aLoad false false 1 (.ref s.length 0) s1=some (.ref D 0,s1):=ldv at1 (by decide) rfl
 have lst:aLoad false false 1 (.ref D 4) s1=some (.fn g [] l,s1):=ldv (g1.at hD) (by decide) rfl hsl
 have bx:∀s,aBox true 76 (.ref D 0) s=some (.ref s.length 0,s++[(76,[AV.ref D 0])]):=fun s=>boxR (t:=76) (by decide) rfl (by simp[AV.cells]) s
 rw[pBody_eq Tryz.func118 body118,shape118,show [AV.ref D 0,Key q a i].length+(Tryz.f118.ntmps-[AV.ref D 0,Key q a i].length)=93 by kernel_rfl]
 refine pseq (by kernel_rfl) ?_
 rw[ac_rC];conv in compL _ _ _ _ _ _=>cbv
 simp only[strip_rs,strip_mr,strip_nilf,Bool.false_eq_true,if_false,↓kR,kE,kK,sL,C_P,Nat.reduceEqDiff,reduceIte,C0_P,bx,e1,sL]
 rw[pcode_seq]
 refine pseq (by kernel_rfl) ?_
 rw[ac_rC];conv in compL _ _ _ _ _ _=>cbv
 simp only[strip_rs,strip_mr,strip_nilf,Bool.false_eq_true,if_false,↓kR,kE,kK,sL,C_P,Nat.reduceEqDiff,reduceIte,C0_P,l76,lst,nq23f,hq,sL]
 rw[pcode_cond (by rfl)]
 generalize hE:upd _ 19 _=E
 clear hE
 have h0:exec1 C0 (den C n) 118 93 (opsAt P118) 0 (E,s1)=some (upd E 20 (.agg [I 12]),s1):=by
  refine ex1 (at118 0 (by decide)) fun k=>?_
  conv in ro _ _ _ _ _=>cbv
  simp only[strip_rs,strip_mr,strip_nilf,Bool.false_eq_true,if_false,↓kR,kE,kK,sL,C_P,Nat.reduceEqDiff,reduceIte,C0_P,rO_n,b176,sL]
 have h1:exec1 C0 (den C n) 118 93 (opsAt P118) 1 (upd E 20 (.agg [I 12]),s1)=some (upd (upd E 20 (.agg [I 12])) 21 Intr,s1):=by
  refine ex1 (at118 1 (by decide)) fun k=>?_
  conv in ro _ _ _ _ _=>cbv
  simp only[strip_rs,strip_mr,strip_nilf,Bool.false_eq_true,if_false,↓kR,kE,kK,sL,C_P,Nat.reduceEqDiff,reduceIte,C0_P,rO_n,mi176,sL]
 have h2:exec1 C0 (den C n) 118 93 (opsAt P118) 2 (upd (upd E 20 (.agg [I 12])) 21 Intr,s1)=none:=by
  refine ex0 (at118 2 (by decide)) fun k=>?_
  conv in ro _ _ _ _ _=>cbv
  simp only[strip_rs,strip_mr,strip_nilf,Bool.false_eq_true,if_false,↓kR,kE,kK,sL,C_P,Nat.reduceEqDiff,reduceIte,C0_P,rO_n,rV_pan,ohn,sL]
 refine pcode_pan (e':=upd (upd E 20 (.agg [I 12])) 21 Intr) reg118 ?_
 rw[len118]
 show pOps C0 (den C n) PD 118 93 (opsAt P118) [0,1,2] _=_
 simp only[pOps,h0,h1,h2,at118 2 (by decide)]
 have hg:(o118 2).guard=none:=by kernel_rfl
 have ho:(o118 2).op=.panic (.tmp 21):=by kernel_rfl
 rw[wanted_none hg,ho]
 rfl
end Srv
end

section
namespace Srv
open Go Go.Abs Go.Proofs
noncomputable def P108:Code:=cT (cB (cA (cB (cB (cB (cB (bodyOf Tryz.f108)))))))
theorem shape108:bodyOf Tryz.f108=.seq (cA (bodyOf Tryz.f108)) (.seq (cA (cB (bodyOf Tryz.f108))) (.seq (cA (cB (cB (bodyOf Tryz.f108)))) (.seq (cA (cB (cB (cB (bodyOf Tryz.f108))))) (.seq (.seq (cA (cA (cB (cB (cB (cB (bodyOf Tryz.f108))))))) (.cond (.tmp 33) P108 .skip)) (cB (cB (cB (cB (cB (bodyOf Tryz.f108)))))))))):=by kernel_rfl
theorem body108:Tryz.f108.body=some (bodyOf Tryz.f108):=by kernel_rfl
theorem len108:(opsAt P108).length=4:=by kernel_rfl
noncomputable def o108 (i:Nat):Oper:=(opsAt P108).getD i default
theorem at108 (i:Nat)(h:i<4):(opsAt P108)[i]?=some (o108 i):=by
 unfold o108
 rw[List.getD_eq_getElem?_getD,List.getElem?_eq_getElem (by rw[len108];exact h)];rfl
theorem reg108:P108=.region 6 (arrAt P108) false:=by kernel_rfl
set_option maxRecDepth 200000 in
set_option maxHeartbeats 2000000 in
theorem x108 (n:Nat)(PD:Den){s:Heap}{F:Foot}{S M D Mr Ma Av:Nat}{r:Int}{f:Inp}{comps clock:Int}{ql:List Ent}{g:FuncId}{l:List AV}(h:DB s F S M D Mr Ma Av r f (.fn g [] l) comps clock (eml ql) [])(hq:QOK s f r clock ql)(hFM:¬F Ma)(hne:Mr≠Ma)(hn:140<n)(q a:Int)(i:Nat)(hsl:(AV.fn g [] l).strip=.fn g [] l)
  (hmiss:hitQ f r ql (q,a,(i:Int))=false)(hst:∀m,n≤m→∀t:Heap,(∀j,j<s.length→j≠Ma→t[j]?=s[j]?)→aCallV Tryz.prog (den C m) (.fn g [] l) [] t=some (.bool true,t)) :
  den C (n+13) 108 [.ref D 0,Kv (q,a,(i:Int))] s=none∧∃s1 s',s1=s.set Ma (mapTy,.undef::flat [((q,a,(i:Int)),I 1)])∧pBody C0 (den C (n+13)) (pBody C0 (den C (n+13)) PD) 108 [.ref D 0,Kv (q,a,(i:Int))] s=some (Intr,s')∧Gr s1 s':=by
 have bk:=bxk (q,a,(i:Int))
 simp only at bk
 have mg0:aMapGet Tryz.prog 119 (.mr Ma) (.agg [I q,I a,I i]) false s=some (I 0):=mGet und119 z3 h.am (q,a,i) false
 obtain⟨s1,e1⟩:∃s1,s.set Ma (mapTy,.undef::flat [((q,a,(i:Int)),I 1)])=s1:=⟨_,rfl⟩
 have ms0:aMapSet Tryz.prog 119 (.mr Ma) (.agg [I q,I a,I i]) (I 1) s=some s1:=(mSet und119 h.am (q,a,i) rfl).trans (congrArg some e1)
 have h1:DB s1 F S M D Mr Ma Av r f (.fn g [] l) comps clock (eml ql) [((q,a,(i:Int)),I 1)]:=e1▸h.setA hFM hne
 have l3:aLoad false false 1 (.ref D 3) s=some (.mr Ma,s):=ldv h.db (by decide) rfl
 have l2:aLoad false false 1 (.ref D 2) s1=some (.mr Mr,s1):=ldv h1.db (by decide) rfl
 have mg1:aMapGet Tryz.prog 118 (.mr Mr) (.agg [I q,I a,I i]) false s1=some (getR false (((efind ql (q,a,(i:Int))).map fun e=>AV.ref e.R 0).getD .nilp).strip ((efind ql (q,a,(i:Int))).map fun e=>AV.ref e.R 0).isSome):=by
  have:=mGet und118 (by kernel_rfl:zeroOf Tryz.prog 161=some .nilp) h1.rm (q,a,i) false
  rwa [mlook_eml]at this
 have n1:s1.length=s.length:=by rw[←e1,set_length]
 have o1:∀j,j≠Ma→s1[j]?=s[j]?:=fun j hj=>by rw[←e1,gset_ne hj.symm]
 have ne:∀{i j:Nat} {t t':TypeId} {c c':List AV},s[i]?=some (t,c)→s[j]?=some (t',c')→t≠t'→i≠j:=fun h1 h2 h3 e=>by rw[e,h2]at h1;cases h1;exact h3 rfl
 have r1:Rows s s1:=by rw[←e1];exact Rows.set (fun _ _ _ h _=>h) h.am (by decide) _
 have e118:enterable Tryz.prog 118=true:=by kernel_rfl
 have c0:enterable C0.P 118=true:=e118
 have stp:∀s2,Gr s1 s2→∀m,n≤m→aCallV Tryz.prog (den C m) (.fn g [] l) [] (s2++[(76,[AV.ref D 0])])=some (.bool true,s2++[(76,[AV.ref D 0])]):=fun s2 g2 m hm=>hst m hm _ fun j j1 j2=>by
  have:=g2.len
  rw[gapp_old (by omega),g2.get (by omega),o1 j j2]
 have k118:∀s2,Gr s1 s2→∀m,n≤m→aCall Tryz.prog (den C (m+1)) 118 [.ref D 0,.agg [I q,I a,I i]] s2=none:=fun s2 g2 m hm=>by
  rw[aCall,if_pos e118,if_neg (by simp[noRefL_cons,AV.noRef])]
  exact n118 m (h1.gr g2).db hsl (stp s2 g2 m hm)
 -- from the call on
 have tail:∀s2,Gr s1 s2→∀E:Env,E 0=.ref D 0→E 3=.box [I q,I a,I i] 0→∀K:Ks,pcode C0 (den C (n+13)) (pBody C0 (den C (n+13)) PD) 108 65 (fun a _ s=>some (a,s)) P108 K E s2=some (Intr,s2++[(76,[AV.ref D 0])]):=by
  intro s2 g2 E E0 E3 K
  have x0:exec1 C0 (den C (n+13)) 108 65 (opsAt P108) 0 (E,s2)=some (upd E 34 (.ref D 0),s2):=by
   refine ex1 (at108 0 (by decide)) fun k=>?_
   conv in ro _ _ _ _ _=>cbv
   simp only[strip_rs,strip_mr,strip_nilf,Bool.false_eq_true,if_false,↓kR,kE,kK,sL,C_P,Nat.reduceEqDiff,reduceIte,C0_P,rO_n,E0,sL]
  have x1:exec1 C0 (den C (n+13)) 108 65 (opsAt P108) 1 (upd E 34 (.ref D 0),s2)=some (upd (upd E 34 (.ref D 0)) 35 (.agg [I q,I a,I i]),s2):=by
   refine ex1 (at108 1 (by decide)) fun k=>?_
   conv in ro _ _ _ _ _=>cbv
   simp only[strip_rs,strip_mr,strip_nilf,Bool.false_eq_true,if_false,↓kR,kE,kK,sL,C_P,Nat.reduceEqDiff,reduceIte,C0_P,rO_n,E3,bk,sL]
  have x2:exec1 C0 (den C (n+13)) 108 65 (opsAt P108) 2 (upd (upd E 34 (.ref D 0)) 35 (.agg [I q,I a,I i]),s2)=none:=by
   refine ex0 (at108 2 (by decide)) fun k=>?_
   conv in ro _ _ _ _ _=>cbv
   simp only[strip_rs,strip_mr,strip_nilf,Bool.false_eq_true,if_false,↓kR,kE,kK,sL,C_P,Nat.reduceEqDiff,reduceIte,C0_P,rO_n,k118 s2 g2 (n+12) (by omega),ohn,sL]
  refine pcode_pan (e':=upd (upd E 34 (.ref D 0)) 35 (.agg [I q,I a,I i])) reg108 ?_
  rw[len108]
  show pOps C0 _ _ 108 65 (opsAt P108) [0,1,2,3] _=_
  simp only[pOps,x0,x1,x2,at108 2 (by decide)]
  have hg:(o108 2).guard=none:=by kernel_rfl
  have ho:(o108 2).op=.call { callee:=.value (.func 118),args:=#[.tmp 34,.tmp 35],argTypes:=#[76,79] }:=by kernel_rfl
  rw[wanted_none hg,ho]
  have:=p118 (n+13) PD (i:=i) (q:=q) (a:=a) (h1.gr g2).db hsl (stp s2 g2 (n+13) (by omega))
  simp only[evO_f,c0,if_true]
  rw[show ((List.map AV.strip (([]:List AV)++List.map (evO C0 (upd (upd E 34 (AV.ref D 0)) 35 (AV.agg [I q,I a,I i]))) [Operand.tmp 34,Operand.tmp 35]++[]))=[.ref D 0,Key q a i]) from rfl,this]
 have bx:∀s,aBox false 79 (.agg [I q,I a,I i]) s=some (.box [I q,I a,I i] 0,s):=fun s=>boxV rfl s
 have nn:∀s2,Gr s1 s2→True:=fun _ _=>trivial
 have en:[AV.ref D 0,Key q a i].length+(Tryz.f108.ntmps-[AV.ref D 0,Key q a i].length)=65:=by kernel_rfl
 cases hx:efind ql (q,a,(i:Int)) with
 | none =>
  rw[hx]at mg1
  have mg1:aMapGet Tryz.prog 118 (.mr Mr) (.agg [I q,I a,I i]) false s1=some .nilp:=mg1
  have kk:=k118 s1 (.refl _) (n+11) (by omega)
  refine⟨?_,s1,_,e1.symm,?_,Gr.app _ (76,[AV.ref D 0])⟩
  ·skip
   rw[rd Tryz.func108];conv in compF _ _ _ _ _ _=>cbv
   simp only[strip_rs,strip_mr,strip_nilf,Bool.false_eq_true,if_false,↓kR,kE,kK,sL,C_P,Nat.reduceEqDiff,reduceIte,Tryz.f108,bk,l3,mg0,bne_self_eq_false,ms0,l2,mg1,eq161,↓rC_seqj,kk,ohn,sL]
  ·rw[pBody_eq Tryz.func108 body108,shape108,en]
   refine pseq (by kernel_rfl) ?_
   rw[ac_rC];conv in compL _ _ _ _ _ _=>cbv
   simp only[strip_rs,strip_mr,strip_nilf,Bool.false_eq_true,if_false,↓kR,kE,kK,sL,C_P,Nat.reduceEqDiff,reduceIte,C0_P,bx,sL]
   refine pseq (by kernel_rfl) ?_
   rw[ac_rC];conv in compL _ _ _ _ _ _=>cbv
   simp only[strip_rs,strip_mr,strip_nilf,Bool.false_eq_true,if_false,↓kR,kE,kK,sL,C_P,Nat.reduceEqDiff,reduceIte,C0_P,bk,l3,mg0,bne_self_eq_false,sL]
   refine pseq (by kernel_rfl) ?_
   rw[ac_rC];conv in compL _ _ _ _ _ _=>cbv
   simp only[strip_rs,strip_mr,strip_nilf,Bool.false_eq_true,if_false,↓kR,kE,kK,sL,C_P,Nat.reduceEqDiff,reduceIte,C0_P,bk,l3,ms0,sL]
   refine pseq (by kernel_rfl) ?_
   rw[ac_rC];conv in compL _ _ _ _ _ _=>cbv
   simp only[strip_rs,strip_mr,strip_nilf,Bool.false_eq_true,if_false,↓kR,kE,kK,sL,C_P,Nat.reduceEqDiff,reduceIte,C0_P,bk,l2,mg1,sL]
   rw[pcode_seq]
   refine pseq (by kernel_rfl) ?_
   rw[ac_rC];conv in compL _ _ _ _ _ _=>cbv
   simp only[strip_rs,strip_mr,strip_nilf,Bool.false_eq_true,if_false,↓kR,kE,kK,sL,C_P,Nat.reduceEqDiff,reduceIte,C0_P,eq161,sL]
   rw[pcode_cond (by rfl)]
   exact tail s1 (.refl _) _ (by rfl) (by rfl) _
 | some e =>
  obtain⟨he,hek⟩:=efind_mem hx
  rw[hx]at mg1
  have mg1:aMapGet Tryz.prog 118 (.mr Mr) (.agg [I q,I a,I i]) false s1=some (.ref e.R 0):=mg1
  have ne3:e.R≠Ma:=by
   obtain⟨_,_,_,hh,_⟩:=hq.ro e he
   exact ne hh h.am (by decide)
  obtain⟨nv,chg,dv,k1,k2,k3,k4,k5⟩:=(hq.ro e he).keep r1 (o1 _ ne3)
  have sem:=hq.sem e he
  have hv:vld f r e.ver e.ds=false:=by unfold hitQ at hmiss;rw[hx]at hmiss;exact hmiss
  obtain⟨s2,v1,g2⟩:=a117 (n+4) (y:=AV.undef) h1.inp h1.db k1 k5 k4 sem.kd sem.vr (by have:=sem.dl;omega)
  obtain⟨s3,v2,g3⟩:=a117 (n+5) (y:=AV.undef) h1.inp h1.db k1 k5 k4 sem.kd sem.vr (by have:=sem.dl;omega)
  rw[hv]at v1 v2
  have kk:=k118 s2 g2 (n+11) (by omega)
  refine⟨?_,s1,_,e1.symm,?_,g3.trans (Gr.app _ (76,[AV.ref D 0]))⟩
  ·skip
   rw[rd Tryz.func108];conv in compF _ _ _ _ _ _=>cbv
   simp only[strip_rs,strip_mr,strip_nilf,Bool.false_eq_true,if_false,↓kR,kE,kK,sL,C_P,Nat.reduceEqDiff,reduceIte,Tryz.f108,bk,l3,mg0,bne_self_eq_false,ms0,l2,mg1,eq161r,v1,↓rC_seqj,kk,ohn,sL]
  ·rw[pBody_eq Tryz.func108 body108,shape108,en]
   refine pseq (by kernel_rfl) ?_
   rw[ac_rC];conv in compL _ _ _ _ _ _=>cbv
   simp only[strip_rs,strip_mr,strip_nilf,Bool.false_eq_true,if_false,↓kR,kE,kK,sL,C_P,Nat.reduceEqDiff,reduceIte,C0_P,bx,sL]
   refine pseq (by kernel_rfl) ?_
   rw[ac_rC];conv in compL _ _ _ _ _ _=>cbv
   simp only[strip_rs,strip_mr,strip_nilf,Bool.false_eq_true,if_false,↓kR,kE,kK,sL,C_P,Nat.reduceEqDiff,reduceIte,C0_P,bk,l3,mg0,bne_self_eq_false,sL]
   refine pseq (by kernel_rfl) ?_
   rw[ac_rC];conv in compL _ _ _ _ _ _=>cbv
   simp only[strip_rs,strip_mr,strip_nilf,Bool.false_eq_true,if_false,↓kR,kE,kK,sL,C_P,Nat.reduceEqDiff,reduceIte,C0_P,bk,l3,ms0,sL]
   refine pseq (by kernel_rfl) ?_
   rw[ac_rC];conv in compL _ _ _ _ _ _=>cbv
   simp only[strip_rs,strip_mr,strip_nilf,Bool.false_eq_true,if_false,↓kR,kE,kK,sL,C_P,Nat.reduceEqDiff,reduceIte,C0_P,bk,l2,mg1,sL]
   rw[pcode_seq]
   refine pseq (by kernel_rfl) ?_
   rw[ac_rC];conv in compL _ _ _ _ _ _=>cbv
   simp only[strip_rs,strip_mr,strip_nilf,Bool.false_eq_true,if_false,↓kR,kE,kK,sL,C_P,Nat.reduceEqDiff,reduceIte,C0_P,eq161r,v2,sL]
   rw[pcode_cond (by rfl)]
   exact tail s3 g3 _ (by rfl) (by rfl) _
end Srv
end

section
namespace Srv
open Go Go.Abs Go.Proofs
noncomputable def P90:Code:=cA (cB (cB (cB (cB (bodyOf Tryz.f90)))))
theorem shape90':cB (cB (cB (cB (bodyOf Tryz.f90))))=.seq P90 (cB (cB (cB (cB (cB (bodyOf Tryz.f90)))))):=by kernel_rfl
theorem len90:(opsAt P90).length=9:=by kernel_rfl
noncomputable def o90 (i:Nat):Oper:=(opsAt P90).getD i default
theorem at90 (i:Nat)(h:i<9):(opsAt P90)[i]?=some (o90 i):=by
 unfold o90
 rw[List.getD_eq_getElem?_getD,List.getElem?_eq_getElem (by rw[len90];exact h)];rfl
theorem reg90:P90=.region 6 (arrAt P90) false:=by kernel_rfl
set_option maxRecDepth 200000 in
set_option maxHeartbeats 2000000 in
theorem x90 (n:Nat){s:Heap}{F:Foot}{S M D Mr Ma Av:Nat}{r:Int}{f:Inp}{comps clock:Int}{ql:List Ent}(h:Memo s F S M D Mr Ma Av r f comps clock ql)(hn:140<n)(q a:Int)(hq0:(q==0)=false)(i:Nat){g:FuncId}{l:List AV}(hsl:(AV.fn g [] l).strip=.fn g [] l)(hso:(AV.fn g [] l).solid=true)
  (hmiss:hitQ f r ql (q,a,(i:Int))=false)(hstop:∀m,n≤m→∀t:Heap,(∀j,j<s.length→j≠Ma→j≠D→t[j]?=s[j]?)→(∃p,t[D]?=some (121,[.fn 35 [] [.ref Av 0],.ref S 0,.mr Mr,.mr Ma,p,I comps,I clock]))→aCallV Tryz.prog (den C m) (.fn g [] l) [] t=some (.bool true,t)) :
  ∃s',den C (n+14) 90 [.ref D 0,Kv (q,a,(i:Int)),.fn g [] l] s=some (.tup [.agg [.nils,.str []],I 12],s')∧Memo s' F S M D Mr Ma Av r f comps clock ql∧s.length≤s'.length∧(∀j,j<s.length→j≠D→j≠Ma→s'[j]?=s[j]?):=by
 have bk:=bxk (q,a,(i:Int))
 simp only at bk
 have b0:∀s:Heap,aLoad false false 1 (.box [I q,I a,I i] 0) s=some (I q,s):=fun s=>by rw[aLoad_one];rfl
 have b1:∀s:Heap,aLoad false false 1 (.box [.ref D 0] 0) s=some (.ref D 0,s):=fun s=>by rw[aLoad_one];rfl
 have bx:∀s,aBox false 76 (.ref D 0) s=some (.box [.ref D 0] 0,s):=fun s=>boxV rfl s
 obtain⟨s1,e1⟩:∃s1,s++[(82,[AV.nils,AV.str []])]=s1:=⟨_,rfl⟩
 obtain⟨s2,e2⟩:∃s2,s1++[(24,[I 0])]=s2:=⟨_,rfl⟩
 have g1:Gr s s1:=e1▸Gr.app ..
 have g2:Gr s1 s2:=e2▸Gr.app ..
 have g12:=g1.trans g2
 have h2:=h.db.gr g12
 obtain⟨s3,e3⟩:∃s3,s2.set D (121,[.fn 35 [] [.ref Av 0],.ref S 0,.mr Mr,.mr Ma,.fn g [] l,I comps,I clock])=s3:=⟨_,rfl⟩
 have st3:aStore 1 s2 (.ref D 4) (.fn g [] l)=some s3:=by
  rw[st (n:=1) h2.db (by decide) hso rfl (by simp),←e3]
  show some (s2.set D (121,[_,_,_,_,(AV.fn g [] l).strip,_,_]))=_
  rw[hsl]
 rw[d90]
 rw[eGet_eq,ac_rC];conv in compL _ _ _ _ _ _=>cbv
 simp only[strip_rs,strip_mr,strip_nilf,Bool.false_eq_true,if_false,↓kR,kE,kK,sL,C_P,Nat.reduceEqDiff,reduceIte,C0_P,bx,allocS z82 (by decide) ⟨nofun,rfl⟩,e1,al24,e2,sL]
 unfold eGet1
 rw[ac_rC];conv in compL _ _ _ _ _ _=>cbv
 simp only[strip_rs,strip_mr,strip_nilf,Bool.false_eq_true,if_false,↓kR,kE,kK,sL,C_P,Nat.reduceEqDiff,reduceIte,C0_P,b0,hq0,sL]
 unfold eGet2
 rw[ac_rC];conv in compL _ _ _ _ _ _=>cbv
 simp only[strip_rs,strip_mr,strip_nilf,Bool.false_eq_true,if_false,↓kR,kE,kK,sL,C_P,Nat.reduceEqDiff,reduceIte,C0_P,b1,st3,hsl,sL]
 generalize hE:upd _ 26 _=E
 have E3:E 3=.box [.ref D 0] 0:=by rw[←hE];rfl
 have E4:E 4=.box [I q,I a,I i] 0:=by rw[←hE];rfl
 have E6:E 6=.ref s.length 0:=by rw[←hE];rfl
 have E7:E 7=.ref s1.length 0:=by rw[←hE];rfl
 clear hE
 have ne:∀{i j:Nat} {t t':TypeId} {c c':List AV},s[i]?=some (t,c)→s[j]?=some (t',c')→t≠t'→i≠j:=fun h1 h2 h3 e=>by rw[e,h2]at h1;cases h1;exact h3 rfl
 have lD:=glt h.db.db
 have n1:s1.length=s.length+1:=by rw[←e1,app_length]
 have n2:s2.length=s.length+2:=by rw[←e2,app_length,n1]
 have n3:s3.length=s.length+2:=by rw[←e3,set_length,n2]
 have o3:∀j,j≠D→s3[j]?=s2[j]?:=fun j hj=>by rw[←e3,gset_ne hj.symm]
 have h3:DB s3 F S M D Mr Ma Av r f (.fn g [] l) comps clock (eml ql) []:=by
  refine⟨h2.inp.keep fun j hj=>o3 j (fun e=>h.hFM.2.1 (e▸hj)),by rw[←e3];exact gset_eq h2.db,(o3 _ (ne h.db.av h.db.db (by decide))).trans h2.av,(o3 _ (ne h.db.rm h.db.db (by decide))).trans h2.rm,(o3 _ (ne h.db.am h.db.db (by decide))).trans h2.am⟩
 have rows3:Rows s s3:=by rw[←e3];exact g12.rows.set h2.db (by decide) _
 have eRlt:∀e∈ql,e.R<s.length∧e.R≠D:=fun e he=>by
  obtain⟨_,_,_,hh,_⟩:=h.q.ro e he
  exact⟨glt hh,ne hh h.db.db (by decide)⟩
 have q3:QOK s3 f r clock ql:=⟨fun e he=>(h.q.ro e he).keep rows3 (by rw[o3 _ (eRlt e he).2,g12.get (eRlt e he).1]),h.q.sem,h.q.ks,h.q.Rs,h.q.us,h.q.ub⟩
 have hst:∀m,n≤m→∀t:Heap,(∀j,j<s3.length→j≠Ma→t[j]?=s3[j]?)→aCallV Tryz.prog (den C m) (.fn g [] l) [] t=some (.bool true,t):=by
  refine fun m hm t ht=>hstop m hm t (fun j j1 j2 j3=>?_) ?_
  ·rw[ht j (by omega) j2,o3 j j3,g12.get j1]
  ·exact⟨_,(ht D (by omega) (ne h.db.db h.db.am (by decide))).trans h3.db⟩
 obtain⟨c1,s4,s5,e4,c2,g5⟩:=x108 n (fun _ _ _=>none) h3 q3 h.hFM.1 h.ne hn q a i hsl hmiss hst
 have cl:aCall Tryz.prog (den C (n+13)) 108 [.ref D 0,.agg [I q,I a,I i]] s3=none:=by
  rw[aCall,if_pos (by kernel_rfl),if_neg (by simp[noRefL_cons,AV.noRef])];exact c1
 have at1:s3[s.length]?=some (82,[AV.nils,AV.str []]):=(o3 _ (by omega)).trans (g2.at (by rw[←e1];exact gapp_new))
 have at2:s3[s1.length]?=some (24,[I 0]):=(o3 _ (by omega)).trans (by rw[←e2];exact gapp_new)
 have nDM:D≠Ma:=ne h.db.db h.db.am (by decide)
 have lMa:=glt h.db.am
 have n4:s4.length=s3.length:=by rw[e4,set_length]
 have l5:=g5.len
 have o5:∀j,j<s3.length→j≠Ma→s5[j]?=s3[j]?:=fun j j1 j2=>by rw[g5.get (by omega),e4,gset_ne j2.symm]
 have D5:s5[D]?=_:=(o5 D (by omega) nDM).trans h3.db
 have M5:s5[Ma]?=some (mapTy,.undef::flat [((q,a,(i:Int)),I 1)]):=by rw[g5.get (by omega),e4];exact gset_eq h3.am
 have at1':=(o5 _ (by omega) (by omega)).trans at1
 have at2':=(o5 _ (by omega) (by omega)).trans at2
 have x0:exec1 C0 (den C (n+13)) 90 34 (opsAt P90) 0 (E,s3)=some (upd E 27 (.ref D 0),s3):=by
  refine ex1 (at90 0 (by decide)) fun k=>?_
  conv in ro _ _ _ _ _=>cbv
  simp only[strip_rs,strip_mr,strip_nilf,Bool.false_eq_true,if_false,↓kR,kE,kK,sL,C_P,Nat.reduceEqDiff,reduceIte,C0_P,rO_n,E3,b1,sL]
 have x1:exec1 C0 (den C (n+13)) 90 34 (opsAt P90) 1 (upd E 27 (.ref D 0),s3)=some (upd (upd E 27 (.ref D 0)) 28 (.agg [I q,I a,I i]),s3):=by
  refine ex1 (at90 1 (by decide)) fun k=>?_
  conv in ro _ _ _ _ _=>cbv
  simp only[strip_rs,strip_mr,strip_nilf,Bool.false_eq_true,if_false,↓kR,kE,kK,sL,C_P,Nat.reduceEqDiff,reduceIte,C0_P,rO_n,E4,bk,sL]
 have x2:exec1 C0 (den C (n+13)) 90 34 (opsAt P90) 2 (upd (upd E 27 (.ref D 0)) 28 (.agg [I q,I a,I i]),s3)=none:=by
  refine ex0 (at90 2 (by decide)) fun k=>?_
  conv in ro _ _ _ _ _=>cbv
  simp only[strip_rs,strip_mr,strip_nilf,Bool.false_eq_true,if_false,↓kR,kE,kK,sL,C_P,Nat.reduceEqDiff,reduceIte,C0_P,rO_n,cl,ohn,sL]
 obtain⟨s6,hd,D6,M6,at6,at7,l6,o6⟩:=dfr_int (n+13) D5 M5 at1' at2' (fun s=>finK Tryz.prog Tryz.f90.results.toList (upd (upd E 27 (.ref D 0)) 28 (.agg [I q,I a,I i])) s)
 have old:∀j,j<s.length→j≠D→j≠Ma→s6[j]?=s[j]?:=fun j j1 j2 j3=>by
  rw[o6 j (by omega) j2 j3 (by omega) (by omega),o5 j (by omega) j3,o3 j j2,g12.get j1]
 have res:eGet3 (den C (n+13)) E s3=some (.tup [.agg [.nils,.str []],I 12],s6):=by
  unfold eGet3
  rw[shape90',pcode_seq]
  refine(pcode_pan (e':=upd (upd E 27 (.ref D 0)) 28 (.agg [I q,I a,I i])) (s':=s5) (a:=Intr) reg90 ?_).trans ?_
  ·rw[len90]
   show pOps C0 _ _ 90 34 (opsAt P90) [0,1,2,3,4,5,6,7,8] _=_
   have hg:(o90 2).guard=none:=by kernel_rfl
   have ho:(o90 2).op=.call { callee:=.value (.func 108),args:=#[.tmp 27,.tmp 28],argTypes:=#[76,79] }:=by kernel_rfl
   have c0:enterable C0.P 108=true:=by kernel_rfl
   simp only[pOps,x0,x1,x2,at90 2 (by decide),wanted_none hg,ho,evO_f,c0,if_true]
   rw[show ((List.map AV.strip (([]:List AV)++List.map (evO C0 (upd (upd E 27 (.ref D 0)) 28 (.agg [I q,I a,I i]))) [Operand.tmp 27,Operand.tmp 28]++[]))=[.ref D 0,Kv (q,a,(i:Int))]) from rfl,c2]
  ·unfold fin90
   rw[E3,E6,E7]
   simp only[List.map]
   rw[show (AV.box [AV.ref D 0] 0).strip=.box [.ref D 0] 0 from rfl,show ∀i,(AV.ref i 0).strip=.ref i 0 from fun _=>rfl,show ∀i,(AV.ref i 0).strip=.ref i 0 from fun _=>rfl,hd]
   refine fk90 (x:=.agg [.nils,.str []]) (y:=I 12) ?_ ?_
   ·show aLoad false true 2 (E 6) s6=_
    rw[E6];exact ldA at6 (by decide) (by simp) (by decide)
   ·show aLoad false false 1 (E 7) s6=_
    rw[E7];exact ldv at7 (by decide) rfl
 have ty6:∀{j:Nat} {t:TypeId} {cs:List AV},s[j]?=some (t,cs)→t≠121→t≠mapTy→s6[j]?=s[j]?:=fun {j t cs} hj t1 t2=>old j (glt hj) (ne hj h.db.db t1) (ne hj h.db.am t2)
 have rows6:Rows s s6:=fun j t cs hj ht=>by
  rw[ty6 hj (by rcases ht with rfl|rfl<;>decide) (by rcases ht with rfl|rfl<;>decide),hj]
 refine⟨s6,res,⟨⟨?_,D6,?_,?_,M6⟩,⟨fun e he=>?_,h.q.sem,h.q.ks,h.q.Rs,h.q.us,h.q.ub⟩,fun j hj=>by have:=h.hF j hj;omega,h.hFM,h.ne,h.Fq,h.ch,h.cb⟩,by omega,old⟩
 ·exact h.db.inp.keep fun j hj=>old j (h.hF j hj) (fun e=>h.hFM.2.1 (e▸hj)) (fun e=>h.hFM.1 (e▸hj))
 ·exact(ty6 h.db.av (by decide) (by decide)).trans h.db.av
 ·exact(old Mr (glt h.db.rm) (ne h.db.rm h.db.db (by decide)) h.ne).trans h.db.rm
 ·obtain⟨_,_,_,hh,_⟩:=h.q.ro e he
  exact(h.q.ro e he).keep rows6 (ty6 hh (by decide) (by decide))
end Srv
end
