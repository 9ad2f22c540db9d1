/- GetK -/
import Derived.Test.YtfhoaocedkkjbaaGreatDoorD
set_option linter.all false

section
namespace Srv
open Go Go.Abs Go.Proofs
theorem body90:Tryz.f90.body=some (bodyOf Tryz.f90):=by kernel_rfl
theorem body106:Tryz.f106.body=some (bodyOf Tryz.f106):=by kernel_rfl
noncomputable def R5:Code:=cA (cB (cB (cB (bodyOf Tryz.f90))))
noncomputable def ops5:Array Oper:=match R5 with|.region _ ops _=>ops|_=>#[]
theorem R5_eq:R5=.region 5 ops5 false:=by kernel_rfl
noncomputable def o50:Oper:=ops5[0]!
noncomputable def o51:Oper:=ops5[1]!
theorem ops5_eq:ops5=#[o50,o51]:=by kernel_rfl
theorem o50_op:o50.op=.makeFunc (.func 106) #[] #[.tmp 3,.tmp 6,.tmp 7]:=by kernel_rfl
theorem o50_g:o50.guard=none:=by kernel_rfl
theorem o50_d:o50.dst=some 26:=by kernel_rfl
theorem o51_op:o51.op=.defer { callee:=.value (.tmp 26),args:=#[],argTypes:=#[] }:=by kernel_rfl
theorem o51_g:o51.guard=none:=by kernel_rfl
theorem o51_d:o51.dst=none:=by kernel_rfl
theorem shape90:bodyOf Tryz.f90=.seq (cA (bodyOf Tryz.f90)) (.seq (cA (cB (bodyOf Tryz.f90))) (.seq (cA (cB (cB (bodyOf Tryz.f90)))) (.seq R5 (cB (cB (cB (cB (bodyOf Tryz.f90)))))))):=by kernel_rfl
noncomputable def Q2:Code:=cA (cB (cB (bodyOf Tryz.f106)))
noncomputable def opsQ:Array Oper:=match Q2 with|.region _ ops _=>ops|_=>#[]
theorem Q2_eq:Q2=.region 2 opsQ false:=by kernel_rfl
noncomputable def q0:Oper:=opsQ[0]!
noncomputable def q1:Oper:=opsQ[1]!
theorem opsQ_eq:opsQ=#[q0,q1]:=by kernel_rfl
theorem q0_op:q0.op=.call { callee:=.builtin .recover,args:=#[],argTypes:=#[] }:=by kernel_rfl
theorem q0_g:q0.guard=none:=by kernel_rfl
theorem q0_d:q0.dst=some 13:=by kernel_rfl
theorem q1_op:q1.op=.assign (.tmp 13):=by kernel_rfl
theorem q1_g:q1.guard=none:=by kernel_rfl
theorem q1_d:q1.dst=some 3:=by kernel_rfl
theorem shape106:bodyOf Tryz.f106=.seq (cA (bodyOf Tryz.f106)) (.seq (cA (cB (bodyOf Tryz.f106))) (.seq Q2 (cB (cB (cB (bodyOf Tryz.f106)))))):=by kernel_rfl
theorem nt90:Tryz.f90.ntmps=34:=by kernel_rfl
theorem nt106:Tryz.f106.ntmps=27:=by kernel_rfl
theorem res106:Tryz.f106.results=#[]:=by kernel_rfl
theorem mixed:C0.P.follows .mixedOrders=true:=by kernel_rfl
theorem dfr_ok {W0:World}{D:Den}(hD:DOK C W0 D){x:AV}{args:List AV}{k:Heap→Ans}{s:Heap}{r:AV×Heap}(h:eDfr D x args k s=some r)(hn:∀a∈args,a.isOwn=false)(hl:args.length=3)(hxo:x.isOwn=false)
  {L:Lay}{ow:Owns}{w:World}{cargs:List Value}(hg:GlobOK C0 L)(hst:St W0 L ow s w)(hargs:RelL L args cargs)
  {u u':FrameMode}{xv:Value}(hrel:Rel L x xv)(hu:∀(c₀:Frame)(cs:List Frame),c₀.mode=u→(match recoverD (c₀::cs) with|some (v,cs')=>v=xv∧cs'={ c₀ with mode:=u' }::cs|none=>xv=.nilIface∧u'=u)) :
  CallsD Tryz.prog 106 cargs.toArray u w fun e u2 w'=>e=.returned (.tuple #[])∧u2=u'∧∃L' ow' s',Ext L ow w L' ow' w'∧St W0 L' ow' s' w'∧k s'=some r:=by
 have E:Env0 C0 W0 D:=⟨fun g cs e=>(by cases e),hD⟩
 refine callsD_of_wpS Tryz.func106 body106 fun c₀ cs hc=>?_
 rw[shape106]
 have hcl:cargs.toArray.size=3:=by have:=hargs.length;simp;omega
 have hfr:Fr W0 27 L ow (argEnv args) s { tmps:=cargs.toArray++Array.replicate (Tryz.f106.ntmps-cargs.toArray.size) undef,defers:=[] } w []:=by
  refine⟨?_,fun t=>argEnv_rel hargs _ t,fun t=>.of_not ?_,hst,rfl⟩
  ·rw[nt106,hcl];simp at hcl ⊢;omega
  ·unfold argEnv
   rw[List.getD_eq_getElem?_getD]
   cases hx:args[t]? with
   | none=>rfl
   | some x=>exact hn x (List.mem_of_getElem? hx)
 unfold eDfr at h
 refine wpS_seq (wpS_of_wp (wp_mono (acode_ok E mixed _ _ _ _ _ h hg hfr) fun e a1 w1 hp=>?_))
 obtain⟨L1,ow1,e1,s1,f1,x1,h1⟩:=hp
 cases e with
 | normal =>
  simp only at h1
  unfold eDfr1 at h1
  refine wpS_seq (wpS_of_wp (wp_mono (acode_ok E mixed _ _ _ _ _ h1 (hg.mono x1.le) f1) fun e a2 w2 hp=>?_))
  obtain⟨L2,ow2,e2,s2,f2,x2,h2⟩:=hp
  cases e with
  | normal =>
   simp only at h2
   have hx2:=x1.trans x2
   -- recover
   refine wpS_seq ?_
   rw[Q2_eq]
   refine wpS_region ?_
   rw[opsQ_eq]
   have hrec:(execOp a2.eval q0).run Tryz.prog w2=.ok .recover w2:=by
    unfold execOp;rw[q0_op];rfl
   have hasg:∀(a:Act) (w:World),(execOp a.eval q1).run Tryz.prog w=.ok (.value (a.eval (.tmp 13))) w:=fun a w=>by
    unfold execOp;rw[q1_op];rfl
   have hfin:∀v,Rel L2 x v→Fr W0 27 L2 ow2 (upd (upd e2 13 x) 3 x) s2 ((a2.put (some 13) v).put (some 3) v) w2 []:=by
    intro v hv
    have m1:=(f2.step none (some 13) (by intro d hd;cases hd;decide) (.refl _ _ _) (f2.st.framed none) hv (.of_not hxo)).1
    have m2:=(m1.step none (some 3) (by intro d hd;cases hd;decide) (.refl _ _ _) (m1.st.framed none) hv (.of_not hxo)).1
    refine⟨m2.size,m2.rel,fun t=>?_,f2.st,m2.defers⟩
    by_cases ht:t=3
    ·subst ht;exact .of_not (by simp[upd,hxo])
    ·by_cases ht':t=13
     ·subst ht';exact .of_not (by simp[upd,hxo])
     ·have:=f2.own t
      have e1:upd (upd e2 13 x) 3 x t=e2 t:=by simp[upd,ht,ht']
      have e2':((a2.put (some 13) v).put (some 3) v).tmps.getD t undef=a2.tmps.getD t undef:=by
       simp only[Act.put]
       rw[Array.getD_eq_getD_getElem?,Array.getElem?_setIfInBounds_ne (fun h'=>ht h'.symm),Array.getElem?_setIfInBounds_ne (fun h'=>ht' h'.symm),←Array.getD_eq_getD_getElem?]
      rw[e1,e2'];exact this
   have htail:∀cs',cs'={ c₀ with mode:=u' }::cs→(Code.wpS Tryz.prog (cB (cB (cB (bodyOf Tryz.f106)))) (bodyPostS Tryz.prog Tryz.f106 c₀ cs fun e u2 w'=>e=.returned (.tuple #[])∧u2=u'∧∃L' ow' s',Ext L ow w L' ow' w'∧St W0 L' ow' s' w'∧k s'=some r) ((a2.put (some 13) xv).put (some 3) xv) cs' w2):=by
    intro cs' hcs
    unfold eDfr2 at h2
    refine wpS_of_wp (wp_mono (acode_ok E mixed _ _ _ _ _ h2 (hg.mono hx2.le) (hfin xv (hrel.mono hx2.le))) fun e a3 w3 hp=>?_)
    obtain⟨L3,ow3,e3,s3,f3,x3,h3⟩:=hp
    cases e with
    | normal =>
     simp only at h3
     refine⟨f3.defers,u',hcs,.tuple #[],?_,rfl,rfl,L3,endOw ow3 none,s3,(hx2.trans x3).trans ⟨.refl L3,fun b hb=>⟨by simp[endOw,hb],fun _=>rfl,rfl⟩,.refl w3⟩,?_,h3⟩
     ·unfold results;rw[res106];simp
     ·exact f3.st.move (.refl L3) rfl (fun b hb=>⟨by revert hb;unfold endOw;cases ow3 b<;>simp[Place.excl],fun _=>rfl,rfl⟩) f3.st.imm
       (fun b hb=>f3.st.used b (fun e=>hb (by simp[endOw,e]))) (fun b hb=>by simp[endOw,f3.st.base b hb]) f3.st.below
    | ret=>cases h3
    | exit id=>cases h3
    | goto l=>exact h3.elim
    | panic ch=>exact h3.elim
    | outgrown=>exact h3.elim
   have hsz:a2.tmps.size=27:=f2.size
   have hev:(a2.put (some 13) xv).eval (.tmp 13)=xv:=by
    simp[Act.eval,Act.put,Array.getD_eq_getD_getElem?,hsz]
   have hw0:Region.wanted q0 (yielded #[q0,q1] a2.tmps)=true:=by unfold Region.wanted;rw[q0_g]
   have hw1:∀t,Region.wanted q1 (yielded #[q0,q1] t)=true:=fun t=>by unfold Region.wanted;rw[q1_g]
   show wpOpsS Tryz.prog #[q0,q1] _ [0,1] a2 (c₀::cs) w2
   have hr:=hu c₀ cs hc
   simp only[wpOpsS,List.getElem?_toArray,List.getElem?_cons_zero,List.getElem?_cons_succ,hw0,if_true,hrec]
   split at hr
   ·rename_i v cs' hrc
    obtain⟨rfl,rfl⟩:=hr
    rw[hrc]
    simp only[hw1,if_true,q0_d,hasg,hev,Oper.upon_value,q1_d,Exit.thenS]
    exact htail _ rfl
   ·rename_i hrc
    obtain⟨rfl,rfl⟩:=hr
    rw[hrc]
    simp only[hw1,if_true,q0_d,hasg,hev,Oper.upon_value,q1_d,Exit.thenS]
    exact htail _ (by cases c₀;simp only at hc;subst hc;rfl)
  | ret=>cases h2
  | exit id=>cases h2
  | goto l=>exact h2.elim
  | panic ch=>exact h2.elim
  | outgrown=>exact h2.elim
 | ret=>cases h1
 | exit id=>cases h1
 | goto l=>exact h1.elim
 | panic ch=>exact h1.elim
 | outgrown=>exact h1.elim
theorem spec_get (W0:World){D:Den}(hD:DOK C W0 D)(args:List AV)(s:Heap)(v:AV)(s':Heap)(h:eGet D args s=some (v,s'))(hn:∀a∈args,a.isOwn=false):CallSpec C W0 90 args s v s':=by
 intro L ow w cargs hg hst hargs
 unfold eGet at h
 split at h
 case isFalse=>cases h
 rename_i hlen
 have hg:GlobOK C0 L:=hg
 have E:Env0 C0 W0 D:=⟨fun g cs e=>(by cases e),hD⟩
 have hP:POK C0 W0 (pBody C0 D (pBody C0 D fun _ _ _=>none)):=pBody_ok E (pBody_ok E (fun _ _ _ _ _ h=>by cases h) mixed) mixed
 refine calls_of_wp_defers Tryz.func90 body90 ?_
 rw[shape90]
 have hcl:cargs.toArray.size=3:=by have:=hargs.length;simp;omega
 have hfr:Fr W0 34 L ow (argEnv args) s { tmps:=cargs.toArray++Array.replicate (Tryz.f90.ntmps-cargs.toArray.size) undef,defers:=[] } w []:=by
  refine⟨?_,fun t=>argEnv_rel hargs _ t,fun t=>.of_not ?_,hst,rfl⟩
  ·rw[nt90,hcl];simp at hcl ⊢;omega
  ·unfold argEnv
   rw[List.getD_eq_getElem?_getD]
   cases hx:args[t]? with
   | none=>rfl
   | some x=>exact hn x (List.mem_of_getElem? hx)
 refine wp_seq (wp_mono (acode_ok E mixed _ _ _ _ _ h hg hfr) fun e a1 w1 hp=>?_)
 obtain⟨L1,ow1,e1,s1,f1,x1,h1⟩:=hp
 cases e with
 | ret=>cases h1
 | exit id=>cases h1
 | goto l=>exact h1.elim
 | panic ch=>exact h1.elim
 | outgrown=>exact h1.elim
 | normal =>
 simp only at h1
 unfold eGet1 at h1
 refine wp_seq (wp_mono (acode_ok E mixed _ _ _ _ _ h1 (hg.mono x1.le) f1) fun e a2 w2 hp=>?_)
 obtain⟨L2,ow2,e2,s2,f2,x2,h2⟩:=hp
 cases e with
 | ret=>cases h2
 | exit id=>cases h2
 | goto l=>exact h2.elim
 | panic ch=>exact h2.elim
 | outgrown=>exact h2.elim
 | normal =>
 simp only at h2
 unfold eGet2 at h2
 refine wp_seq (wp_mono (acode_ok E mixed _ _ _ _ _ h2 (hg.mono (x1.trans x2).le) f2) fun e a3 w3 hp=>?_)
 obtain⟨L3,ow3,e3,s3,f3,x3,h3⟩:=hp
 cases e with
 | ret=>cases h3
 | exit id=>cases h3
 | goto l=>exact h3.elim
 | panic ch=>exact h3.elim
 | outgrown=>exact h3.elim
 | normal =>
 simp only at h3
 have hx3:=(x1.trans x2).trans x3
 unfold eGet3 at h3
 -- the deferred call is noted
 refine wp_seq ?_
 rw[R5_eq]
 refine wp_region ?_
 rw[ops5_eq]
 obtain⟨fv,hfv⟩:∃fv:Value,fv=.func (.func 106) #[] #[a3.eval (.tmp 3),a3.eval (.tmp 6),a3.eval (.tmp 7)]:=⟨_,rfl⟩
 have hmk:(execOp a3.eval o50).run Tryz.prog w3=.ok (.value fv) w3:=by
  unfold execOp;rw[o50_op,hfv];simp[Instr.makeFunc]
 have hsz:a3.tmps.size=34:=f3.size
 have hev:(a3.put (some 26) fv).eval (.tmp 26)=fv:=by simp[Act.eval,Act.put,Array.getD_eq_getD_getElem?,hsz]
 obtain⟨dd,hdd⟩:∃dd:Deferred,dd={ target:=.fn (.func 106) #[a3.eval (.tmp 3),a3.eval (.tmp 6),a3.eval (.tmp 7)],args:=#[] }:=⟨_,rfl⟩
 have hdf:(execOp (a3.put (some 26) fv).eval o51).run Tryz.prog w3=.ok (.defer dd) w3:=by
  unfold execOp;rw[o51_op]
  simp only[resolve,hev]
  rw[hfv,hdd]
  simp[Deferred.ofValue]
 have hw0:Region.wanted o50 (yielded #[o50,o51] a3.tmps)=true:=by unfold Region.wanted;rw[o50_g]
 have hw1:∀t,Region.wanted o51 (yielded #[o50,o51] t)=true:=fun t=>by unfold Region.wanted;rw[o51_g]
 show wpOps Tryz.prog #[o50,o51] _ [0,1] a3 w3
 simp only[wpOps,List.getElem?_toArray,List.getElem?_cons_zero,List.getElem?_cons_succ,hw0,if_true]
 refine .inl ?_
 unfold Oper.wp
 rw[hmk,Oper.upon_value]
 simp only[o50_d,hw1,if_true]
 refine .inl ?_
 rw[hdf,Oper.upon_defer]
 simp only[o51_d,Exit.then]
 have hf4:Fr W0 34 L3 ow3 (upd e3 26 .undef) s3 (({ a3.put (some 26) fv with defers:=dd::(a3.put (some 26) fv).defers }:Act).put none undef) w3 [dd]:=by
  have hput:∀t,t≠26→(a3.put (some 26) fv).tmps.getD t undef=a3.tmps.getD t undef:=fun t ht=>by
   simp only[Act.put]
   rw[Array.getD_eq_getD_getElem?,Array.getElem?_setIfInBounds_ne (fun h'=>ht h'.symm),←Array.getD_eq_getD_getElem?]
  refine⟨by simp[Act.put,hsz],fun t=>?_,fun t=>?_,f3.st,by simp[Act.put,f3.defers]⟩
  ·by_cases ht:t=26
   ·subst ht;simp only[upd,if_true];exact .undef _
   ·have:=f3.rel t
    simp only[upd,if_neg ht]
    show Rel L3 (e3 t) ((a3.put (some 26) fv).tmps.getD t undef)
    rw[hput t ht];exact this
  ·by_cases ht:t=26
   ·subst ht;exact .of_not (by simp[upd,AV.isOwn])
   ·have:=f3.own t
    simp only[upd,if_neg ht]
    show OwnAt L3 ow3 w3 (.slot t) (e3 t) ((a3.put (some 26) fv).tmps.getD t undef)
    rw[hput t ht];exact this
 have hcap:RelL L3 ([(upd e3 26 .undef) 3,(upd e3 26 .undef) 6,(upd e3 26 .undef) 7].map AV.strip) [a3.eval (.tmp 3),a3.eval (.tmp 6),a3.eval (.tmp 7)]:=by
  have g:∀t,t≠26→Rel L3 (upd e3 26 .undef t).strip (a3.eval (.tmp t)):=fun t ht=>by
   simp only[upd,if_neg ht]
   exact(f3.rel t).strip
  exact .cons _ _ _ _ (g 3 (by decide)) (.cons _ _ _ _ (g 6 (by decide)) (.cons _ _ _ _ (g 7 (by decide)) .nil))
 have leave:∀{L5:Lay} {ow5:Owns} {e5:Env} {s5:Heap} {a5:Act} {w5:World} {x:AV} {xv:Value} {u u':FrameMode},Fr W0 34 L5 ow5 e5 s5 a5 w5 [dd]→Ext L3 ow3 w3 L5 ow5 w5→fin90 x D (upd e3 26 .undef) e5 s5=some (v,s')→Rel L5 x xv→x.isOwn=false→u≠.run →
   (∀(c₀:Frame)(cs:List Frame),c₀.mode=u→(match recoverD (c₀::cs) with|some (v,cs')=>v=xv∧cs'={ c₀ with mode:=u' }::cs|none=>xv=.nilIface∧u'=u))→settle u'=.returning →
   Leaves Tryz.prog Tryz.f90 a5.tmps (fun e w'=>∃cv,e=.returned cv∧Res W0 L ow w v s' cv w') a5.defers u w5:=by
  intro L5 ow5 e5 s5 a5 w5 x xv u u' f5 x5 h5 hx hxo hur hrec hset
  rw[f5.defers,hdd]
  refine leaves_cons (f:=106) (args:=#[a3.eval (.tmp 3),a3.eval (.tmp 6),a3.eval (.tmp 7)]) hur ?_ ?_
  ·have:(callFunc 106 #[a3.eval (.tmp 3),a3.eval (.tmp 6),a3.eval (.tmp 7)]).run Tryz.prog w5=.ok (.enter 106 #[a3.eval (.tmp 3),a3.eval (.tmp 6),a3.eval (.tmp 7)]) w5:=by
    have hb:Tryz.f106.body.isNone=false:=by kernel_rfl
    have hnm : ¬ (Tryz.f106.name == "runtime.NumGoroutine") = true := by
     have : (Tryz.f106.name == "runtime.NumGoroutine") = false := by kernel_rfl
     rw[this];exact Bool.false_ne_true
    simp only[callFunc,Sem.run_bind,run_program,Result.andThen_ok,Tryz.func106]
    rw[if_neg hnm,hb]
    simp
   simp only[invoke]
   simpa using this
  ·unfold fin90 at h5
   have hd:=dfr_ok hD h5 (fun a ha=>by obtain⟨b,_,rfl⟩:=List.mem_map.1 ha;exact strip_isOwn b) rfl hxo (hg.mono (hx3.trans x5).le) (f5.st.framed none) (hcap.mono x5.le) (u:=u) (u':=u') hx hrec
   refine hd.mono ?_
   rintro e u2 w6 ⟨rfl,rfl,L6,ow6,s6,x6,st6,k6⟩
   show Leaves _ _ _ _ [] (settle u2) w6
   rw[hset]
   obtain⟨m1,m2⟩:=f5.step none none nofun x6 st6 (.undef undef) trivial
   unfold finK at k6
   split at k6
   ·rename_i rr hrr
    cases k6
    obtain⟨cv,r1,L7,ow7,r2,r3,r4,r5⟩:=result_ok m1 hrr
    exact⟨cv,r1,cv,rfl,L7,ow7,((hx3.trans x5).trans m2).trans r2,r3,r4,r5⟩
   ·cases k6
 have h3':=h3
 refine wp_mono (pcode_ok E hP mixed _ _ _ _ _ h3' (hg.mono hx3.le) hf4) fun e a5 w5 hp=>?_
 cases e with
 | normal =>
  obtain⟨L5,ow5,e5,s5,f5,x5,h5⟩:=hp
  simp only at h5
  exact leave (x:=.nili) (xv:=.nilIface) (u:=.returning) (u':=.returning) f5 x5 h5 .nili rfl (fun h=>by cases h) (fun c₀ cs hc=>by simp[recoverD,hc]) rfl
 | ret =>
  obtain⟨L5,ow5,e5,s5,f5,x5,h5⟩:=hp
  simp only at h5
  exact leave (x:=.nili) (xv:=.nilIface) (u:=.returning) (u':=.returning) f5 x5 h5 .nili rfl (fun h=>by cases h) (fun c₀ cs hc=>by simp[recoverD,hc]) rfl
 | panic ch =>
  obtain⟨L5,ow5,e5,s5,pv,t,b,f5,x5,rfl,hpv,h5⟩:=hp
  exact leave (x:=.ifv t b) (xv:=pv) (u:=.panicking [{ v:=pv,recovered:=false }]) (u':=.panicking [{ v:=pv,recovered:=true }]) f5 x5 h5 hpv rfl (fun h=>by cases h) (fun c₀ cs hc=>by simp[recoverD,hc]) rfl
 | exit id=>obtain⟨_,_,_,_,_,_,h5⟩:=hp;cases h5
 | goto l=>obtain⟨_,_,_,_,_,_,h5⟩:=hp;exact h5.elim
 | outgrown=>obtain⟨_,_,_,_,_,_,h5⟩:=hp;exact h5.elim
end Srv
end
