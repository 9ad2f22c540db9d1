/- RepZ, RfC -/
import Derived.Test.YtkikcleofaeigaaGreatDoorH
import Derived.Test.YtkikcleofaeigaaGreatDoorM
import Derived.Test.YtkikcleofaeigaaGreatDoorI
set_option linter.all false

section
set_option maxRecDepth 100000
namespace RepF
open Go Go.Abs Go.Proofs ParF Pm
theorem la_triv {t:Tok}(h:triv t=true)(r:List Tok):la (t::r)=la r:=by
 unfold la skp;rw[List.dropWhile_cons,h];rfl
theorem la_sig {t:Tok}(h:triv t=false)(r:List Tok):la (t::r)=r:=by
 unfold la skp;rw[List.dropWhile_cons,h];rfl
def cnt (a:Nat):Nat→List Tok→Nat
 | _,[]=>0
 | o,t::ts=>(if o+t.2.length<a∧triv t=false then 1 else 0)+cnt a (o+t.2.length) ts
theorem cnt_zero {a:Nat}:∀{ts:List Tok}{o:Nat},a≤o→cnt a o ts=0
 | [],_,_=>rfl
 | t::ts,o,h=>by rw[cnt,if_neg (by omega),cnt_zero (by omega)]
theorem cnt_sig {a:Nat}:∀{ts:List Tok}{o:Nat},1≤cnt a o ts→o+sigW ts<a∧cnt a (o+sigW ts) (la ts)+1=cnt a o ts
 | [],o,h=>by simp[cnt]at h
 | t::ts,o,h=>by
  cases ht:triv t with
  | true =>
   have e:cnt a o (t::ts)=cnt a (o+t.2.length) ts:=by rw[cnt,if_neg (by simp[ht]),Nat.zero_add]
   rw[e]at h ⊢
   obtain⟨h1,h2⟩:=cnt_sig h
   rw[sigW_triv ht,la_triv ht,←Nat.add_assoc]
   exact⟨h1,h2⟩
  | false =>
   rw[sigW_sig ht,la_sig ht]
   by_cases k:o+t.2.length<a
   ·refine⟨k,?_⟩
    rw[cnt,if_pos ⟨k,ht⟩];omega
   ·rw[cnt,if_neg (fun e=>k e.1),cnt_zero (by omega)]at h;omega
theorem cnt_two {a o:Nat}{ts:List Tok}(h:2≤cnt a o ts):o+sigW ts+sigW (la ts)<a:=by
 obtain⟨h1,h2⟩:=cnt_sig (show 1≤cnt a o ts by omega)
 exact(cnt_sig (show 1≤cnt a (o+sigW ts) (la ts) by omega)).1
def aft (e a:Nat):Nat→List Tok→Nat
 | _,[]=>0
 | o,t::ts=>(if e≤o∧o+t.2.length<a∧triv t=false then 1 else 0)+aft e a (o+t.2.length) ts
theorem aft_mono {e e' a:Nat}(h:e≤e'):∀(ts:List Tok)(o:Nat),aft e' a o ts≤aft e a o ts
 | [],o=>Nat.le_refl _
 | t::ts,o=>by
  rw[aft,aft]
  have:=aft_mono (a:=a) h ts (o+t.2.length)
  split
  ·rename_i k
   rw[if_pos ⟨by omega,k.2⟩];omega
  ·omega
theorem aft_cnt {e a:Nat}:∀(ts:List Tok)(o:Nat),aft e a o ts≤cnt a o ts
 | [],o=>Nat.le_refl _
 | t::ts,o=>by
  rw[aft,cnt]
  have:=aft_cnt (e:=e) (a:=a) ts (o+t.2.length)
  split
  ·rename_i k
   rw[if_pos k.2];omega
  ·omega
theorem aft_cut {e a:Nat}{w:List Tok}:∀{A:List Tok}{o:Nat},Full A→e=o+bl A→aft e a o (A++w)=aft e a e w
 | [],o,hf,h=>by rw[bl_nil]at h;rw[List.nil_append,show o=e by omega]
 | t::A,o,hf,h=>by
  rw[bl_cons]at h
  have h1:=List.length_pos_iff.2 (hf t (List.mem_cons_self ..))
  rw[List.cons_append,aft,if_neg (by omega),Nat.zero_add]
  exact aft_cut (fun t ht=>hf t (List.mem_cons_of_mem _ ht)) (by omega)
def least (a:Nat)(all:List Tok):Nat→List Tree→Nat
 | _,[]=>0
 | e,c::cs=>if isTk c=true then 0 else(if 2≤aft (e+(srcT c).length) a 0 all then 1 else 0)+least a all (e+(srcT c).length) cs
theorem least_zero {a:Nat}{all:List Tok}:∀(cs:List Tree)(e:Nat),aft e a 0 all<2→least a all e cs=0
 | [],e,h=>rfl
 | c::cs,e,h=>by
  have:=aft_mono (a:=a) (show e≤e+(srcT c).length by omega) all 0
  rw[least]
  split
  ·rfl
  ·rw[if_neg (by omega),least_zero cs _ (by omega)]
theorem least_pfx {src:Bytes}{a:Nat}{all:List Tok}(hf:Full all)(he:all=LexF.tokz src):∀(cs:List Tree)(o:Nat),(∀i,i≤cs.length→∃V w,all=V++w∧bl V=o+(srcL (cs.take i)).length)→least a all o cs≤(pfx a o (chs src o cs)).2.length
 | [],o,h=>Nat.zero_le _
 | c::cs,o,h=>by
  rw[least,chs,pfx_cons]
  obtain⟨V,w,h1,h2⟩:=h 1 (by rw[List.length_cons];omega)
  rw[List.take_succ_cons,List.take_zero,srcL_one]at h2
  cases ht:isTk c with
  | true=>rw[if_pos rfl];exact Nat.zero_le _
  | false =>
   rw[if_neg (by simp)]
   have ew:LexF.tokz (src.drop (bl V))=w:=tokz_cut (by rw[←he];exact h1)
   obtain⟨A,pA,qA,_⟩:=bump_pre w
   have e2:LexF.tokz (src.drop (bl V+sigW w))=la w:=by
    have:=tokz_cut (l:=src.drop (bl V)) (A:=A) (r:=la w) (by rw[ew];exact pA)
    rw[List.drop_drop,qA]at this
    exact this
   have hla:laF src (o+(srcT c).length)=o+(srcT c).length+sigW w+sigW (la w):=by
    unfold laF sg
    rw[←h2,ew,e2]
   have hfV:Full V:=fun t ht=>hf t (by rw[h1];exact List.mem_append_left _ ht)
   have hc:aft (o+(srcT c).length) a 0 all=aft (o+(srcT c).length) a (o+(srcT c).length) w:=by
    rw[h1];exact aft_cut hfV (by omega)
   by_cases k:a≤laF src (o+(srcT c).length)
   ·have lt:aft (o+(srcT c).length) a 0 all<2:=by
     rw[hc]
     refine Nat.lt_of_not_le fun e=>?_
     have:=cnt_two (Nat.le_trans e (aft_cnt w _))
     omega
    rw[if_neg (by omega),least_zero cs _ lt];exact Nat.zero_le _
   ·have hne:¬(a≤laF src (o+(srcT c).length)∨false=true):=by
     intro e
     rcases e with e|e
     ·exact k e
     ·cases e
    dsimp only
    rw[if_neg hne]
    have ih:=least_pfx (a:=a) hf he cs (o+(srcT c).length) (fun i hi=>by
     obtain⟨V,w,k1,k2⟩:=h (i+1) (by rw[List.length_cons];omega)
     refine⟨V,w,k1,?_⟩
     rw[List.take_succ_cons,srcL,List.length_append]at k2
     omega)
    rw[List.length_cons]
    have:(if 2≤aft (o+(srcT c).length) a 0 all then 1 else 0)≤1:=by split<;>omega
    omega
end RepF
end

section
set_option maxRecDepth 100000
set_option maxHeartbeats 4000000
namespace RepF
open Go Go.Abs Go.Proofs ParF RfF Pm
structure LE (e:Env)(re c en j n:Nat)(v w ch:AV):Prop where
 e3:e 3=.ref 0 0
 e8:e 8=I re
 e10:e 10=v
 e11:e 11=w
 e12:e 12=I c
 e13:e 13=I en
 e75:e 75=ch
 e76:e 76=I n
 e77:e 77=I j
theorem LE.keep {e:Env}{l:List (Nat × AV)}{re c en j n:Nat}{v w ch:AV}(h:LE e re c en j n v w ch)(hl:([3,8,10,11,12,13,75,76,77].all fun k=>l.all fun p=>p.1 != k)=true):LE (upds e l) re c en j n v w ch:=by
 simp only[List.all_cons,List.all_nil,Bool.and_eq_true]at hl
 obtain⟨h3,h8,h10,h11,h12,h13,h75,h76,h77,_⟩:=hl
 exact⟨(upds_get _ _ _ h3).trans h.e3,(upds_get _ _ _ h8).trans h.e8,(upds_get _ _ _ h10).trans h.e10,(upds_get _ _ _ h11).trans h.e11,(upds_get _ _ _ h12).trans h.e12,(upds_get _ _ _ h13).trans h.e13,(upds_get _ _ _ h75).trans h.e75,(upds_get _ _ _ h76).trans h.e76,(upds_get _ _ _ h77).trans h.e77⟩
theorem dA (x:Ans):drawOK C 8 (regOps Tryz.f8 23) [.silent,.silent,.silent,.silent,.silent,.silent,.silent,.silent,.silent,.silent,.silent,.silent,.silent,.silent,.silent,.silent,.silent,.silent,.silent,.silent,.silent,.silent,.silent,.silent,.silent,.silent,.silent,.silent,.silent] x=x:=drawOK_ok (by kernel_rfl)
theorem dB {g0 g1:Nat}(x:Ans):drawOK C 8 (regOps Tryz.f8 23) [.silent,.silent,.silent,.silent,.silent,.silent,.silent,.silent,.silent,.silent,.silent,.silent,.get g0,.silent,.silent,.silent,.get g1,.silent,.silent,.silent,.silent,.silent,.silent,.silent,.silent,.silent,.silent,.silent,.silent] x=x:=drawOK_base (by kernel_rfl)
theorem dC {g0 g1 g2:Nat}(x:Ans):drawOK C 8 (regOps Tryz.f8 23) [.silent,.silent,.silent,.silent,.silent,.silent,.silent,.silent,.silent,.silent,.silent,.silent,.get g0,.silent,.silent,.silent,.get g1,.silent,.silent,.silent,.silent,.get g2,.silent,.silent,.silent,.silent,.silent,.silent,.silent] x=x:=drawOK_base (by kernel_rfl)
theorem sts_at {ts:List Tok}{i o:Nat}(h:(LexF.sts 0 ts).drop i=LexF.sts o (ts.drop i))(hi:i<ts.length):(LexF.sts 0 ts)[i]?=some o∧(LexF.sts 0 ts).drop (i+1)=LexF.sts (o+(ts[i]).2.length) (ts.drop (i+1)):=by
 rw[List.drop_eq_getElem_cons hi,LexF.sts]at h
 have h0:((LexF.sts 0 ts).drop i)[0]?=some o:=by rw[h];rfl
 rw[List.getElem?_drop,Nat.add_zero]at h0
 refine⟨h0,?_⟩
 have:((LexF.sts 0 ts).drop i).drop 1=LexF.sts (o+(ts[i]).2.length) (ts.drop (i+1)):=by rw[h];rfl
 rw[List.drop_drop]at this
 exact this
theorem step8 {ts:List Tok}{v w ch:AV}(hv:LexF.IsT v ts)(hw:LexF.IsN w (LexF.sts 0 ts)){a b:Nat}{t:Bytes}{re c en j n:Nat}{i o cnt:Nat}(hi:i<ts.length)(ho:(LexF.sts 0 ts)[i]?=some o)(hs:o+(ts[i]).2.length<1000000)(hc:cnt<1000000)(D:Den)(n':Nat)(k0 k1:Env→Heap→Ans)(e:Env)(s:Heap)(h16:e 16=I cnt)(h89:e 89=v)(h90:e 90=I ts.length)(h91:e 91=I i)(hE:LE e re c en j n v w ch)(h0:s[0]?=some (67,[I a,I b,.str t])) :
  ∃E s',F8_L2 D n' k0 k1 e s=F8_J3 D n' k0 k1 E s'∧E 16=I (cnt+(if en≤o∧o+(ts[i]).2.length<a∧triv ts[i]=false then 1 else 0):Nat)∧E 89=v∧E 90=I ts.length∧E 91=I i∧LE E re c en j n v w ch∧s'[0]?=some (67,[I a,I b,.str t]):=by
 have e1:=hv.at (List.getElem?_eq_getElem hi)
 have e2:=hw.at ho
 generalize ts[i]=x at *
 have ci:(i:Int)<(ts.length:Int):=by omega
 have e3:=hE.e3
 have e11:=hE.e11
 have hws:=hw.strip
 have e13:=hE.e13
 have hsl:=glt h0
 let s1:Heap:=s++[(80,[I x.1,.str x.2])]
 have al:=LexF.alloc39 s
 have sr:aStore 2 (s++[(80,[I 0,.str []])]) (.ref s.length 0) (.agg [I x.1,.str x.2])=some s1:=LexF.store39 s (I 0) (.str []) x
 have lv:∀s,aLoad false true 2 (.box [I x.1,.str x.2] 0) s=some (.agg [I x.1,.str x.2],s):=fun s=>rfl
 have lw:∀s,aLoad false false 1 (.box [I o] 0) s=some (I o,s):=fun s=>rfl
 have g10:s1[0]?=some (67,[I a,I b,.str t]):=(gapp_old hsl).trans h0
 have g11:s1[s.length]?=some (80,[I x.1,.str x.2]):=gapp_new
 have l0:aLoad false false 1 (.ref 0 0) s1=some (I a,s1):=ld (o:=0) (v:=I a) g10 (by decide) rfl (by decide)
 have lk:aLoad false false 1 (.ref s.length 0) s1=some (I x.1,s1):=ld (o:=0) (v:=I x.1) g11 (by decide) rfl (by decide)
 have lt:aLoad false false 1 (.ref s.length 1) s1=some (.str x.2,s1):=ld (o:=1) (v:=.str x.2) g11 (by decide) rfl (by decide)
 have w1:=wsum (a:=o) (b:=x.2.length) (by omega)
 have w2:=ParF.wadd1 (a:=cnt) (by omega)
 have kb:∀cs k,kLoad false (.box cs k)=.silent:=fun _ _=>rfl
 have kr:∀i k,kLoad false (.ref i k)=.get i:=fun _ _=>rfl
 have ho':∀E:Env,E=E:=fun _=>rfl
 by_cases cA:en≤o
 ·have cA':(en:Int)≤(o:Int):=by omega
  by_cases cB:o+x.2.length<a
  ·have cB':((o+x.2.length:Nat):Int)<(a:Int):=by omega
   by_cases cC:x.1=101
   ·have hz:(if en≤o∧o+x.2.length<a∧triv x=false then 1 else 0)=0:=if_neg (by simp[triv,cC])
    have k1:(((x.1:Nat):Int) != 101)=false:=by rw[cC];rfl
    rw[F8_L2,hz]
    simp -implicitDefEqProofs only[sL,h91,h90,ci,h89,e1,lv,al,sr,e11,hws,e2,lw,e13,cA',lt,LexF.len9,w1,e3,l0,cB',lk,k1,kb,kr,kGd_true,kGd_false,dC]
    refine⟨_,_,rfl,?_,?_,?_,?_,?_,g10⟩
    ·exact(upds_get _ _ _ rfl).trans h16
    ·exact(upds_get _ _ _ rfl).trans h89
    ·exact(upds_get _ _ _ rfl).trans h90
    ·exact(upds_get _ _ _ rfl).trans h91
    ·exact hE.keep rfl
   ·have k1:(((x.1:Nat):Int) != 101)=true:=by simp;omega
    by_cases cD:x.1=102
    ·have hz:(if en≤o∧o+x.2.length<a∧triv x=false then 1 else 0)=0:=if_neg (by simp[triv,cD])
     have k2:(((x.1:Nat):Int) != 102)=false:=by rw[cD];rfl
     rw[F8_L2,hz]
     simp -implicitDefEqProofs only[sL,h91,h90,ci,h89,e1,lv,al,sr,e11,hws,e2,lw,e13,cA',lt,LexF.len9,w1,e3,l0,cB',lk,k1,k2,kb,kr,kGd_true,kGd_false,d8_23]
     refine⟨_,_,rfl,?_,?_,?_,?_,?_,g10⟩
     ·exact(upds_get _ _ _ rfl).trans h16
     ·exact(upds_get _ _ _ rfl).trans h89
     ·exact(upds_get _ _ _ rfl).trans h90
     ·exact(upds_get _ _ _ rfl).trans h91
     ·exact hE.keep rfl
    ·have hz:(if en≤o∧o+x.2.length<a∧triv x=false then 1 else 0)=1:=if_pos ⟨cA,cB,by simp[triv,cC,cD]⟩
     have k2:(((x.1:Nat):Int) != 102)=true:=by simp;omega
     rw[F8_L2,hz]
     simp -implicitDefEqProofs only[sL,h91,h90,ci,h89,e1,lv,al,sr,e11,hws,e2,lw,e13,cA',lt,LexF.len9,w1,e3,l0,cB',lk,k1,k2,kb,kr,kGd_true,kGd_false,d8_23,h16,w2]
     refine⟨_,_,rfl,?_,?_,?_,?_,?_,g10⟩
     ·exact rfl
     ·exact(upds_get _ _ _ rfl).trans h89
     ·exact(upds_get _ _ _ rfl).trans h90
     ·exact(upds_get _ _ _ rfl).trans h91
     ·exact hE.keep rfl
  ·have cB':¬((o+x.2.length:Nat):Int)<(a:Int):=by omega
   have hz:(if en≤o∧o+x.2.length<a∧triv x=false then 1 else 0)=0:=if_neg (fun h=>cB h.2.1)
   rw[F8_L2,hz]
   simp -implicitDefEqProofs only[sL,h91,h90,ci,h89,e1,lv,al,sr,e11,hws,e2,lw,e13,cA',lt,LexF.len9,w1,e3,l0,cB',kb,kr,kGd_true,kGd_false,dB]
   refine⟨_,_,rfl,?_,?_,?_,?_,?_,g10⟩
   ·exact(upds_get _ _ _ rfl).trans h16
   ·exact(upds_get _ _ _ rfl).trans h89
   ·exact(upds_get _ _ _ rfl).trans h90
   ·exact(upds_get _ _ _ rfl).trans h91
   ·exact hE.keep rfl
 ·have cA':¬(en:Int)≤(o:Int):=by omega
  have hz:(if en≤o∧o+x.2.length<a∧triv x=false then 1 else 0)=0:=if_neg (fun h=>cA h.1)
  rw[F8_L2,hz]
  simp -implicitDefEqProofs only[sL,h91,h90,ci,h89,e1,lv,al,sr,e11,hws,e2,lw,e13,cA',kb,kr,kGd_true,kGd_false,dA]
  refine⟨_,_,rfl,?_,?_,?_,?_,?_,g10⟩
  ·exact(upds_get _ _ _ rfl).trans h16
  ·exact(upds_get _ _ _ rfl).trans h89
  ·exact(upds_get _ _ _ rfl).trans h90
  ·exact(upds_get _ _ _ rfl).trans h91
  ·exact hE.keep rfl
theorem j4 {re c en j n:Nat}{v w ch:AV}(hj:j<1000000)(D:Den)(n':Nat)(k0:Env→Heap→Ans)(e:Env)(s:Heap)(hE:LE e re c en j n v w ch):∃E,F8_J4 D n' k0 e s=k0 E s∧LE E re c en (j+1) n v w ch:=by
 have h77:=hE.e77
 have w1:=ParF.wadd1 (a:=j) (by omega)
 rw[F8_J4]
 simp -implicitDefEqProofs only[sL,h77,w1]
 refine⟨_,rfl,?_⟩
 exact⟨(upds_get _ _ _ rfl).trans hE.e3,(upds_get _ _ _ rfl).trans hE.e8,(upds_get _ _ _ rfl).trans hE.e10,(upds_get _ _ _ rfl).trans hE.e11,(upds_get _ _ _ rfl).trans hE.e12,(upds_get _ _ _ rfl).trans hE.e13,(upds_get _ _ _ rfl).trans hE.e75,(upds_get _ _ _ rfl).trans hE.e76,rfl⟩
theorem in8 {ts:List Tok}{v w ch:AV}(hv:LexF.IsT v ts)(hw:LexF.IsN w (LexF.sts 0 ts))(ht:ts.length<100000){a b:Nat}{t:Bytes}{re c en j n:Nat}(hcb:c<1000000)(hj:j<1000000):∀(k i o cnt:Nat),ts.length-i=k→i≤ts.length→(LexF.sts 0 ts).drop i=LexF.sts o (ts.drop i)→o+bl (ts.drop i)<1000000→cnt≤i→∀D r,k<r→∀n' k0 e s,e 16=I cnt→e 89=v→e 90=I ts.length→e 91=I i→LE e re c en j n v w ch→s[0]?=some (67,[I a,I b,.str t]) →
  ∃E s',aLoop (F8_L2 D n' k0) r e s=k0 E s'∧LE E re (c+if 2≤cnt+aft en a o (ts.drop i) then 1 else 0) en (j+1) n v w ch∧s'[0]?=some (67,[I a,I b,.str t]):=by
 intro k
 induction k with
 | zero =>
  intro i o cnt hk hi hst ho hc D r hr n' k0 e s h16 h89 h90 h91 hE h0
  obtain⟨r,rfl⟩:∃j,r=j+1:=⟨r-1,by omega⟩
  have ci:¬(i:Int)<(ts.length:Int):=by omega
  have hz:aft en a o (ts.drop i)=0:=by rw[List.drop_of_length_le (by omega)];rfl
  have hz:cnt+aft en a o (ts.drop i)=cnt:=by omega
  have w1:=ParF.wadd1 (a:=c) (by omega)
  have h12:=hE.e12
  rw[hz]
  by_cases c2:2≤cnt
  ·have c2':(2:Int)≤(cnt:Int):=by omega
   rw[if_pos c2,aLoop,F8_L2]
   simp -implicitDefEqProofs only[sL,h91,h90,ci,h16,c2',h12,w1]
   obtain⟨E,q1,q2⟩:=j4 (re:=re) (c:=c+1) (en:=en) (n:=n) (v:=v) (w:=w) (ch:=ch) hj D n' k0 _ s (show LE (upds e [(92,.bool false),(128,I cnt),(129,.bool true),(130,I c),(131,I (c+1:Nat)),(131,I (c+1:Nat)),(12,I (c+1:Nat))]) re (c+1) en j n v w ch from⟨(upds_get _ _ _ rfl).trans hE.e3,(upds_get _ _ _ rfl).trans hE.e8,(upds_get _ _ _ rfl).trans hE.e10,(upds_get _ _ _ rfl).trans hE.e11,rfl,(upds_get _ _ _ rfl).trans hE.e13,(upds_get _ _ _ rfl).trans hE.e75,(upds_get _ _ _ rfl).trans hE.e76,(upds_get _ _ _ rfl).trans hE.e77⟩)
   exact⟨E,s,q1,q2,h0⟩
  ·have c2':¬(2:Int)≤(cnt:Int):=by omega
   rw[if_neg c2,aLoop,F8_L2]
   simp -implicitDefEqProofs only[sL,h91,h90,ci,h16,c2']
   obtain⟨E,q1,q2⟩:=j4 hj D n' k0 _ s (show LE (upds e [(92,.bool false),(128,I cnt),(129,.bool false)]) re c en j n v w ch from hE.keep rfl)
   exact⟨E,s,q1,q2,h0⟩
 | succ k ih =>
  intro i o cnt hk hi hst ho hc D r hr n' k0 e s h16 h89 h90 h91 hE h0
  obtain⟨r,rfl⟩:∃j,r=j+1:=⟨r-1,by omega⟩
  have ci:i<ts.length:=by omega
  obtain⟨z1,z2⟩:=sts_at hst ci
  have hb:bl (ts.drop i)=(ts[i]).2.length+bl (ts.drop (i+1)):=by rw[List.drop_eq_getElem_cons ci,bl_cons]
  obtain⟨E,s',q,g16,g89,g90,g91,hE',h0'⟩:=step8 hv hw (re:=re) (c:=c) (en:=en) (j:=j) (n:=n) ci z1 (by omega) (by omega:cnt<1000000) D n' k0 (aLoop (F8_L2 D n' k0) r) e s h16 h89 h90 h91 hE h0
  have ha:aft en a o (ts.drop i)=(if en≤o∧o+(ts[i]).2.length<a∧triv ts[i]=false then 1 else 0)+aft en a (o+(ts[i]).2.length) (ts.drop (i+1)):=by rw[List.drop_eq_getElem_cons ci,aft]
  have hle:(if en≤o∧o+(ts[i]).2.length<a∧triv ts[i]=false then 1 else 0)≤1:=by split<;>omega
  rw[ha,←Nat.add_assoc]
  generalize (if en≤o∧o+(ts[i]).2.length<a∧triv ts[i]=false then 1 else 0)=d at *
  have w1:=ParF.wadd1 (a:=i) (by omega)
  have q2:=ih (i+1) _ (cnt+d) (by omega) (by omega) z2 (by omega) (by omega) D r (by omega) n' k0
  rw[aLoop,q,F8_J3]
  simp -implicitDefEqProofs only[sL,g91,w1]
  refine q2 _ s' ?_ ?_ ?_ ?_ (hE'.keep rfl) h0'
  ·exact(upds_get _ _ _ rfl).trans g16
  ·exact(upds_get _ _ _ rfl).trans g89
  ·exact(upds_get _ _ _ rfl).trans g90
  ·exact rfl
theorem out8 {ts:List Tok}{v w ch:AV}(hv:LexF.IsT v ts)(hw:LexF.IsN w (LexF.sts 0 ts))(ht:ts.length<100000)(hbt:bl ts<1000000){a b:Nat}{t:Bytes}{re:Nat}{cs:List Tree}(hch:IsC cs ch)(hcl:cs.length<100000)(hok:okL cs=true)(hz:szL cs<900000000) :
  ∀(k j:Nat),cs.length-j=k→j≤cs.length→∃N,∀f,N≤f→∀r,k<r→∀n',ts.length<n'→∀(c en:Nat) e s,c≤j→en+(srcL (cs.drop j)).length<1000000→c+least a ts en (cs.drop j)≤re→LE e re c en j cs.length v w ch→s[0]?=some (67,[I a,I b,.str t]) →
   ∃s',aLoop (F8_L1 (den C f) n') r e s=some (.bool true,s'):=by
 have hF2:=hch.facts
 intro k
 induction k with
 | zero =>
  intro j hk hj
  refine⟨0,fun f hf r hr n' hn c en e s hc hen hle hE h0=>?_⟩
  obtain⟨r,rfl⟩:∃j,r=j+1:=⟨r-1,by omega⟩
  have cj:¬(j:Int)<(cs.length:Int):=by omega
  have h77:=hE.e77
  have h76:=hE.e76
  have h8:=hE.e8
  have h12:=hE.e12
  have cc:(c:Int)≤(re:Int):=by omega
  refine⟨s,?_⟩
  rw[aLoop,F8_L1]
  simp -implicitDefEqProofs only[sL,h77,h76,cj]
  have r8:(upds e [(78,.bool false)]) 8=I re:=(upds_get _ _ _ rfl).trans h8
  have r12:(upds e [(78,.bool false)]) 12=I c:=(upds_get _ _ _ rfl).trans h12
  rw[F8_J0]
  simp -implicitDefEqProofs only[sL,r8,r12,cc]
 | succ k ih =>
  intro j hk hj
  have cj:j<cs.length:=by omega
  have cj':(j:Int)<(cs.length:Int):=by omega
  obtain⟨N,q⟩:=ih (j+1) (by omega) (by omega)
  obtain⟨x,g1,hx⟩:=hF2.2 (List.getElem?_eq_getElem cj)
  have hmem:=List.getElem_mem cj
  have hox:=okL_mem hok _ hmem
  have hzx:=szL_mem (cs:=cs) _ hmem
  rw[List.drop_eq_getElem_cons cj]
  generalize cs[j]=T at *
  obtain⟨a1,a2,a3,a4⟩:=hx.cells
  have hstx:x.strip=x:=by rw[a4];rfl
  by_cases hbig:(srcT T).length<900000000
  ·obtain⟨N1,q1⟩:=LexF.AC.at (src_run _ T x (Nat.le_refl _) hx hox hbig (by omega))
   refine⟨N+N1,fun f hf r hr n' hn c en e s hc hen hle hE h0=>?_⟩
   obtain⟨r,rfl⟩:∃j,r=j+1:=⟨r-1,by omega⟩
   have q1:=q1 f (by omega)
   have q:=q f (by omega) r (by omega) n' hn
   rw[srcL,List.length_append]at hen
   have hsl:=glt h0
   let s1:Heap:=s++[(52,x.cells)]
   have z1:aAlloc Tryz.prog 52 s=some (.ref s.length 0,s++[(52,[I 0,.str [],.nils])]):=al52 s
   have t1:aStore 3 (s++[(52,[I 0,.str [],.nils])]) (.ref s.length 0) x=some s1:=store_new hx
   have lb:=ldb a1 a4
   have g10:s1[0]?=some (67,[I a,I b,.str t]):=(gapp_old hsl).trans h0
   have l1:aLoad false true 3 (.ref s.length 0) s1=some (x,s1):=ldx gapp_new a1 a4
   obtain⟨kk,xx,ch',exx⟩:=tree_cells hx
   have hkk:∃cs',T=.mk kk xx cs':=by
    cases hx with
    | mk k1 t1 c1 ch1 h1 =>
     injection exx with h
     injection h with h2 h3
     injection h2 with _ h4
     injection h3 with h5 _
     injection h5 with h6
     have h4:k1=kk:=by omega
     subst h4;subst h6
     exact⟨c1,rfl⟩
   obtain⟨cs',rfl⟩:=hkk
   have hcx:x.cells=[I kk,.str xx,ch']:=by rw[exx];rfl
   have lk:aLoad false false 1 (.ref s.length 0) s1=some (I kk,s1):=ld (o:=0) (v:=I kk) (cs:=x.cells) gapp_new (by decide) (by rw[hcx];rfl) (by decide)
   have w1:=wsum (a:=en) (b:=(srcT (.mk kk xx cs')).length) (by omega)
   have h77:=hE.e77
   have h76:=hE.e76
   have h75:=hE.e75
   have h13:=hE.e13
   have h8:=hE.e8
   have h12:=hE.e12
   have h10:=hE.e10
   have hvs:=hv.strip
   have hvl:=hv.len
   rw[least]at hle
   by_cases hk:100≤kk
   ·have hk':(100:Int)≤(kk:Int):=by omega
    have cc:(c:Int)≤(re:Int):=by omega
    refine⟨s1,?_⟩
    rw[aLoop,F8_L1]
    simp -implicitDefEqProofs only[sL,h77,h76,cj',h75,g1,lb,z1,t1,h13,l1,hstx,q1,LexF.len9,w1,lk,hk']
    rw[F8_J0]
    simp -implicitDefEqProofs only[sL,upds_at,upds_nil,upd_at,h8,h12,cc,reduceIte,Nat.reduceEqDiff]
   ·have hk':¬(100:Int)≤(kk:Int):=by omega
    have hit:isTk (.mk kk xx cs')=false:=by show decide (100≤kk)=false;rw[decide_eq_false_iff_not];exact hk
    rw[hit,if_neg (by simp)]at hle
    have fin:∀E:Env,E 16=I (0:Nat)→E 89=v→E 90=I ts.length→E 91=I (0:Nat)→LE E re c (en+(srcT (.mk kk xx cs')).length) j cs.length v w ch→∃s',aLoop (F8_L2 (den C f) n' (aLoop (F8_L1 (den C f) n') r)) n' E s1=some (.bool true,s'):=by
     intro E k16 k89 k90 k91 kE
     obtain⟨E',s',p1,p2,p3⟩:=in8 hv hw ht (a:=a) (b:=b) (t:=t) (re:=re) (c:=c) (en:=en+(srcT (.mk kk xx cs')).length) (j:=j) (n:=cs.length) (by omega) (by omega) ts.length 0 0 0 (by omega) (by omega) (by rw[List.drop_zero,List.drop_zero]) (by rw[List.drop_zero];omega) (Nat.le_refl _) (den C f) n' hn n' (aLoop (F8_L1 (den C f) n') r) E s1 k16 k89 k90 k91 kE g10
     rw[List.drop_zero,Nat.zero_add]at p2
     rw[p1]
     have hd:(if 2≤aft (en+(srcT (.mk kk xx cs')).length) a 0 ts then 1 else 0)≤1:=by split<;>omega
     exact q _ _ E' s' (by omega) (by omega) (by omega) p2 p3
    rw[aLoop,F8_L1]
    simp -implicitDefEqProofs only[sL,h77,h76,cj',h75,g1,lb,z1,t1,h13,l1,hstx,q1,LexF.len9,w1,lk,hk',h10,hvs,hvl]
    refine fin _ ?_ ?_ ?_ ?_ ?_
    ·exact rfl
    ·exact rfl
    ·exact rfl
    ·exact rfl
    ·exact⟨(upds_get _ _ _ rfl).trans hE.e3,(upds_get _ _ _ rfl).trans hE.e8,(upds_get _ _ _ rfl).trans hE.e10,(upds_get _ _ _ rfl).trans hE.e11,(upds_get _ _ _ rfl).trans hE.e12,rfl,(upds_get _ _ _ rfl).trans hE.e75,(upds_get _ _ _ rfl).trans hE.e76,(upds_get _ _ _ rfl).trans hE.e77⟩
  ·refine⟨0,fun f hf r hr n' hn c en e s hc hen=>?_⟩
   rw[srcL,List.length_append]at hen
   omega
end RepF
end
