/- AbsJ, AbsK, AbsL, AbsM, AbsN, AbsO, AbsP, AbsQ, AbsU, AbsW, AbsR, AbsV -/
import Derived.Test.YtndfoijecakkfaaGreatDoorA
set_option linter.all false

section
namespace Go.Abs
open Go
structure dX where
 P:Program
 sO:Nat→Option (List AV)
 ext:FuncId→Option (List AV→ag→Option (AV×ag))
 ref:FuncId→Tmp→Bool
 own:FuncId→Tmp→Bool
 m:Bool:=false
abbrev a8:=FuncId→List AV→ag→Option (AV×ag)
def ku (C:dX)(env:Env):Operand→AV
 | .tmp t=>env t
 | .const v=>ky v
 | .global g=>match C.sO g with
  | some cs=>.box cs 0
  | none=>.undef
 | .func f=>.fn f [] []
def ah (P:Program)(g:FuncId):Bool :=
 match P.funcs[g]? with
 | some fn => fn.body.isSome && !(fn.name == "runtime.NumGoroutine")
 | none=>false
def ab (P:Program)(D:a8)(g:FuncId)(args:List AV)(s:ag):Option (AV×ag) :=
 if ah P g then
  if aV args then
   match D g args [] with
   | some (v,_)=>if v.a_ then some (v,s) else none
   | none=>none
  else D g args s
 else none
def Aq (P:Program)(b:Builtin)(ts:List TypeId)(xs:List AV):Option AV :=
 match b,ts,xs with
 | .len,t::_,[x]=>bN P t x
 | .min,_,[x,y]=>Ag x y
 | .max,_,[x,y]=>Ik x y
 | .append,[t,t2],[x,y]=>eB P t t2 x y
 | _,_,_=>none
def yv (s:ag)(id off:Nat):Option (AV×ag) :=
 match s[id]? with
 | some cs=>if cs.1=cI then none else match cs.2[off]? with
  | some v=>some (v,s.set id (cs.1,cs.2.set off v.aa))
  | none=>none
 | none=>none
def af (tk agg:Bool)(n:Nat)(x:AV)(s:ag):Option (AV×ag) :=
 match x with
 | .box cs off=>(ff agg n cs off).map fun r=>(r,s)
 | .ref id off=>if tk&&!agg then yv s id off else(jU agg n s id off).map fun r=>(r,s)
 | _=>none
def cL (rf:Bool)(t:TypeId)(x:AV)(s:ag):Option (AV×ag) :=
 if x.ce then(if rf then(if x.cells.isEmpty then none else some (.ref s.length 0,s++[(t,x.cells.map AV.aa)])) else some (.box x.cells 0,s)) else none
def bH (P:Program)(t:TypeId)(s:ag):Option (AV×ag) :=
 match zeroOf P t with
 | some a=>if a.ce&&!a.cells.isEmpty then some (.ref s.length 0,s++[(t,a.cells.map AV.aa)]) else none
 | none=>none
theorem tN (s:ag):has s s.length=false:=by simp[has]
def wD (x:Option (AV×ag)):Option (AV×ag):=match x with
 | some (r,s)=>CC r s
 | none=>none
def oQ (P:Program)(b:Builtin)(ts:List TypeId)(xs:List AV)(s:ag):Option (AV×ag) :=
 match b,ts,xs with
 | .append,[t,t2],[x,y]=>bA P t t2 x y s
 | _,_,_=>none
def oR (P:Program)(D:a8)(g:FuncId)(args:List AV)(s:ag):Option (AV×ag) :=
 if ah P g then D g args s else none
def mM (C:dX)(D:a8)(rf tk:Bool)(o:Op) (ρ:Operand→AV)(s:ag):Option (AV×ag) :=
 match o with
 | .move x=>if rf then CC (ρ x).aa s else some (if tk then ρ x else(ρ x).aa,s)
 | .assign x=>some (match x with|.tmp _=>ρ x|_=>(ρ x).aa,s)
 | .pick c a b=>(bQ (ρ c) (ρ a) (ρ b)).map fun r=>(r,s)
 | .alloc t=>bH C.P t s
 | .box t x=>cL rf t (ρ x) s
 | .build t ps=>(bn C.P t (ps.toList.map fun p=>(p.1,ρ p.2))).map fun r=>(r,s)
 | .buildSlice t n ps=>if rf then fN C.P t n (ps.toList.map fun p=>(p.1,ρ p.2)) s else(ak C.P t n (ps.toList.map fun p=>(p.1,ρ p.2))).map fun r=>(r,s)
 | .load t a=>match jk C.P t,da C.P t with
  | some agg,some n=>if rf then wD (af false agg n (ρ a) s) else af tk agg n (ρ a) s
  | _,_=>none
 | .store t a v=>match da C.P t with
  | some n=>(aB n s (ρ a) (match v with|.tmp _=>(if tk then ρ v else(ρ v).aa)|_=>(ρ v).aa)).map fun s'=>(.undef,s')
  | none=>none
 | .nilCheck x=>(au (ρ x)).map fun r=>(r,s)
 | .binOp op t x y _=>(if Cq y then kC C.P op t (ρ x) (ρ y) else aK C.P op t (ρ x) (ρ y)).map fun r=>(r,s)
 | .unOp op _ x=>(pF op (ρ x)).map fun r=>(r,s)
 | .convert a b x=>(Ih C.P a b (ρ x)).map fun r=>(r,s)
 | .slice t x lo hi mx=>match C.P.underlying t with
  | some (.slice e)=>match da C.P e with
   | some _=>(mL C.P t (ρ x) (lo.map ρ) (hi.map ρ) (mx.map ρ)).map fun r=>(r,s)
   | none=>none
  | _=>(mL C.P t (ρ x) (lo.map ρ) (hi.map ρ) (mx.map ρ)).map fun r=>(r,s)
 | .fieldAddr t x f=>match ur C.P t f with
  | some k=>(aD k (ρ x)).map fun r=>(r,s)
  | none=>none
 | .field t x f=>(lL C.P t f (ρ x)).map fun r=>(r,s)
 | .indexAddr t x i=>(aA C.P t (ρ x) (ρ i)).map fun r=>(r,s)
 | .index t x i=>(gC C.P t (ρ x) (ρ i)).map fun r=>(r,s)
 | .extract x i=>(bW i (ρ x)).map fun r=>(r,s)
 | .makeFunc (.func f) first captured=>some (.fn f (first.toList.map ρ) (captured.toList.map ρ),s)
 | .call c=>match c.callee with
  | .builtin b=>if rf then oQ C.P b c.argTypes.toList (c.args.toList.map ρ) s else(Aq C.P b c.argTypes.toList (c.args.toList.map ρ)).map fun r=>(r,s)
  | .value x=>match ρ x with
   | .fn g first captured=>if rf then oR C.P D g ((first++c.args.toList.map ρ++captured).map AV.aa) s else ab C.P D g ((first++c.args.toList.map ρ++captured).map AV.aa) s
   | _=>none
  | .invoke _ _=>none
 | _=>none
def gh (tk:Bool)(o:Op):Option Nat :=
 match o with
 | .assign (.tmp t)=>some t
 | .move (.tmp t)=>if tk then some t else none
 | .store _ _ (.tmp t)=>if tk then some t else none
 | .call c=>match c.callee with
  | .builtin .append=>(match (c.args[0]?:Option Operand) with
   | some (.tmp t)=>some t
   | _=>none)
  | _=>none
 | _=>none
def eP (C:dX)(L:Lay):Prop:=(∀g cs,C.sO g=some cs→cX L g 0 cs)∧L.m=C.m
theorem eP.mono {C:dX}{L L':Lay}(h:eP C L)(hL:L.le L'):eP C L':=⟨fun g cs e=>(h.1 g cs e).mono hL,hL.m.trans h.2⟩
def fO (C:dX)(W0:World)(g:FuncId)(args:List AV)(s:ag)(v:AV)(s':ag):Prop :=
 ∀(L:Lay) (ow:cq) (w:World) (cargs:List Value),eP C L→St W0 L ow s w→bB L args cargs →
  Calls C.P g cargs.toArray w fun e w'=>∃cv,e=.returned cv∧jr W0 L ow w v s' cv w'
def QF (C:dX)(W0:World)(D:a8):Prop:=∀g args s v s',D g args s=some (v,s')→(∀a∈args,a.ct=false)→fO C W0 g args s v s'
def MR (P:Program)(o:Oper) (σ:Operand→Value)(w:World)(R:Value→World→Prop):Prop :=
 (∃v w',(execOp σ o).run P w=.ok (.value v) w'∧R v w')∨(∃w',(execOp σ o).run P w=.ok .skip w'∧R undef w') ∨
 ∃g args,(execOp σ o).run P w=.ok (.enter g args) w∧Calls P g args w fun e w'=>∃v,e=.returned v∧R v w'
theorem MR.wp {P:Program}{o:Oper}{a:Act}{w:World}{R:Value→World→Prop}(h:MR P o a.eval w R){K:Act→World→Prop}{Q:Exit→Act→World→Prop}(hk:∀v w',R v w'→K (a.put o.dst v) w') :
  o.wp P a w K Q:=by
 unfold Oper.wp
 rcases h with ⟨v,w',h1,h2⟩|⟨w',h1,h2⟩|⟨g,args,h1,h2⟩
 ·rw[h1];exact hk v w' h2
 ·rw[h1];exact hk _ w' h2
 ·rw[h1,Oper.upon_enter]
  exact h2.mono fun e w' ⟨v,he,hr⟩=>by subst he;exact hk v w' hr
section sound
variable {C:dX}{W0:World}{L:Lay}{ow:cq}{s s':ag}{w:World}{r:AV}
theorem eC {o:Oper} {σ:Operand→Value}{v:Value}{w':World}{m:Sem Value}(he:execOp σ o=(do pure (.value (←m)):Sem Next))(h:m.run C.P w=.ok v w'){R:Value→World→Prop}(hr:R v w'):MR C.P o σ w R :=
 .inl ⟨v,w',by rw[he];simp[h],hr⟩
theorem Iu (Mc:∀g cs,C.sO g=some cs→aV cs=true){g:FuncId}{args:List AV}{v:AV}{s1:ag}(hc:fO C W0 g args [] v s1)(hn:aV args=true)(hv:v.a_=true)(hg:eP C L)(h:St W0 L ow s w)
  {cargs:List Value}(ha:bB L args cargs):Calls C.P g cargs.toArray w fun e w'=>∃cv,e=.returned cv∧jr W0 L ow w v s cv w':=by
 let L0:Lay:={ S:=L.S,live:=fun _=>false,loc:=L.loc,sz:=L.sz,m:=L.m }
 let Cf:cq:=fun b=>if ow b=.free then .free else .frame
 have h0:St W0 L0 Cf [] w:=by
  refine⟨fun id=>by simp[L0,has],h.nI,fun id cs e=>by simp at e,fun b hb=>h.used b (fun e=>hb (by simp[Cf,e])),fun b hb=>?_,h.below⟩
  have:=h.base b hb
  simp[Cf,this]
 have Ww:eP C L0:=⟨fun g cs e=>cX.free (L:=L) (L':=L0) (fun _ _ _ x=>x) (hg.1 g cs e) (Mc g cs e),hg.2⟩
 refine(hc L0 Cf w cargs Ww h0 (bB.free (L:=L) (L':=L0) (fun _ _ _ x=>x) ha hn)).mono ?_
 rintro e w' ⟨cv,rfl,L',ow',hx,hs,hr,ho⟩
 refine⟨cv,rfl,{ S:=L'.S,live:=L.live,loc:=L.loc,sz:=L.sz,m:=L.m },fun b=>if ow b=.free then(if ow' b=.ret then .ret else .free) else ow b,?_,?_,Rel.free (L:=L') (L':={ S:=L'.S,live:=L.live,loc:=L.loc,sz:=L.sz,m:=L.m }) (fun _ _ _ x=>x) hr hv,?_⟩
 ·refine⟨⟨hx.le.S,fun _ h=>h,fun _ _=>rfl,fun _ _=>rfl,rfl⟩,fun b hb=>?_,hx.same⟩
  obtain⟨k1,k2,k3⟩:=hx.fr b (by simp[Cf,hb])
  exact⟨by simp[hb],k2,k3⟩
 ·have keep:∀b,ow b≠.free→(∀o,L'.S b o=L.S b o)∧w'.heap[b]?=w.heap[b]?:=fun b hb=>(hx.fr b (by simp[Cf,hb])).2
  refine h.move ⟨hx.le.S,fun _ h=>h,fun _ _=>rfl,fun _ _=>rfl,rfl⟩ rfl (fun b hb=>?_) hs.nI (fun b hb=>?_) (fun b hb=>?_) hs.below
  ·have hne:ow b≠.free:=by intro e;rw[e]at hb;cases hb
   obtain⟨k1,k2⟩:=keep b hne
   exact⟨by simp[hne],k1,k2⟩
  ·by_cases hf:ow b=.free
   ·simp only[hf,if_true]at hb
    by_cases hr':ow' b=.ret
    ·exact hs.used b (by rw[hr'];simp)
    ·simp[hr']at hb
   ·exact Nat.lt_of_lt_of_le (h.used b hf) hx.same.size
  ·have:=h.base b hb
   simp[this]
 ·refine ho.move fun b hb=>⟨?_,fun _=>rfl,rfl⟩
  have:ow b=.free:=Classical.byContradiction fun hne=>by
   have:=(hx.fr b (by simp[Cf,hne])).1
   rw[hb]at this;cases this
  simp[this,hb]
theorem uL (Mc:∀g cs,C.sO g=some cs→aV cs=true){D:a8}(hD:QF C W0 D){g:FuncId}{args:List AV}(hr:ab C.P D g args s=some (r,s'))(hn:∀a∈args,a.ct=false)(hg:eP C L)(h:St W0 L ow s w)
  {cargs:List Value}(ha:bB L args cargs):(callFunc g cargs.toArray).run C.P w=.ok (.enter g cargs.toArray) w∧Calls C.P g cargs.toArray w fun e w'=>∃cv,e=.returned cv∧jr W0 L ow w r s' cv w':=by
 unfold ab at hr
 split at hr
 ·rename_i he
  refine⟨?_,?_⟩
  ·unfold ah at he
   split at he
   ·rename_i fn hf
    simp only[Bool.and_eq_true,Bool.not_eq_true']at he
    have h2:fn.body.isNone=false:=by cases hb:fn.body<;>simp_all
    have h1 : ¬ (fn.name == "runtime.NumGoroutine") = true := by rw [he.2]; simp
    simp only[callFunc,Sem.run_bind,run_program,Result.andThen_ok,hf]
    rw[if_neg h1,h2]
    simp
   ·cases he
  ·split at hr
   ·rename_i hnr
    split at hr
    ·rename_i v s1 hd
     split at hr
     ·rename_i hv
      cases hr
      exact Iu Mc (hD g args [] _ s1 hd hn) hnr hv hg h ha
     ·cases hr
    ·cases hr
   ·exact hD g args s r s' hr hn L ow w cargs hg h ha
 ·cases hr
theorem F1 {D:a8}(hD:QF C W0 D){g:FuncId}{args:List AV}(hr:oR C.P D g args s=some (r,s'))(hn:∀a∈args,a.ct=false)(hg:eP C L)(h:St W0 L ow s w)
  {cargs:List Value}(ha:bB L args cargs):(callFunc g cargs.toArray).run C.P w=.ok (.enter g cargs.toArray) w∧Calls C.P g cargs.toArray w fun e w'=>∃cv,e=.returned cv∧jr W0 L ow w r s' cv w':=by
 unfold oR at hr
 split at hr
 ·rename_i he
  refine⟨?_,hD g args s r s' hr hn L ow w cargs hg h ha⟩
  unfold ah at he
  split at he
  ·rename_i fn hf
   simp only[Bool.and_eq_true,Bool.not_eq_true']at he
   have h2:fn.body.isNone=false:=by cases hb:fn.body<;>simp_all
   have h1 : ¬ (fn.name == "runtime.NumGoroutine") = true := by rw [he.2]; simp
   simp only[callFunc,Sem.run_bind,run_program,Result.andThen_ok,hf]
   rw[if_neg h1,h2]
   simp
  ·cases he
 ·cases hr
end sound
end Go.Abs
end

section
namespace Go.Abs
open Go
section
variable {C:dX}{W0:World}{L:Lay}{ow:cq}{s s':ag}{w:World}{r:AV}
theorem pT (L:Lay) {ρ:Operand→AV} {σ:Operand→Value}:∀(ps:List (Nat×Operand)),(∀p∈ps,Rel L (ρ p.2) (σ p.2))→sN L (ps.map fun p=>(p.1,ρ p.2)) (ps.map fun p=>(p.1,σ p.2))
 | [],_=>.nil
 | p::ps,h=>.cons _ _ _ _ _ (h p (by simp)) (pT L ps fun q hq=>h q (by simp[hq]))
theorem pU (L:Lay) {ρ:Operand→AV} {σ:Operand→Value}:∀(xs:List Operand),(∀x∈xs,Rel L (ρ x) (σ x))→bB L (xs.map ρ) (xs.map σ)
 | [],_=>.nil
 | x::xs,h=>.cons _ _ _ _ (h x (by simp)) (pU L xs fun q hq=>h q (by simp[hq]))
theorem tO {α β:Type}(f:α→β)(xs:Array α):xs.map f=(xs.toList.map f).toArray:=Array.toList_inj.1 (by simp)
theorem uM (L:Lay) {ρ:Operand→AV} {σ:Operand→Value}(x:Option Operand)(h:∀y,x=some y→Rel L (ρ y) (σ y)):sK L (x.map ρ) (x.map σ):=by
 cases x with
 | none=>exact .none
 | some y=>exact .some _ _ (h y rfl)
theorem Iv {P:Program}(h:St W0 L ow s w){t:TypeId}(ha:jk P t=some false){id off:Nat}(hr:yv s id off=some (r,s')){v:Value}(hv:Rel L (.ref id off) v) :
  ∃u,(Instr.loadAt t v).run P w=.ok u w∧jr W0 L ow w r s' u w:=by
 unfold yv at hr
 split at hr
 ·rename_i cs hcs
  split at hr
  ·cases hr
  rename_i hdt
  split at hr
  ·rename_i x hx
   cases hr
   have hne:cs.2≠[]:=by intro e;rw[e]at hx;simp at hx
   have O:=h.obj id cs hcs hne hdt
   obtain⟨vs,js,⟨fz,hh⟩,hrel,h1,h2,h5⟩:=O.cells
   obtain⟨u,hu,L_⟩:=hrel.get off _ hx
   have hidl:id<s.length:=(List.getElem?_eq_some_iff.1 hcs).1
   cases hv with
   | ref _ _ hid =>
    have hc:w.cell? ⟨L.loc id,off,none⟩=some u:=by simp only[World.cell?,hh];rw[List.getElem?_toArray,List.getElem?_append_left (List.getElem?_eq_some_iff.1 hu).1];exact hu
    refine⟨u,by simp[Instr.loadAt,Instr.sureAddr,loadVar,gB ha,hc],L,fun b=>if ow b=.cell id off then .ret else ow b,?_,?_,L_,?_⟩
    ·exact⟨.refl L,fun b hb=>⟨by simp[hb],fun _=>rfl,rfl⟩,.refl w⟩
    ·refine⟨fun i=>by rw[h.live,tL (fc hcs hne) (by simpa using hne)],h.nI,fun id' ds hds hds' hdt'=>?_,fun b hb=>?_,fun b hb=>by simp[h.base b hb],h.below⟩
     ·by_cases e':id'=id
      ·subst e'
       rw[List.getElem?_set_self hidl]at hds
       cases hds
       refine⟨by simp[O.own],O.S,⟨vs,js,⟨fz,hh⟩,?_,h1,fun k a q hk hq=>?_,h5⟩,O.pI⟩
       ·have:=hrel.set off L_.aa
        have MO:vs.set off u=vs:=by
         apply List.ext_getElem?
         intro i
         by_cases hi:off=i
         ·subst hi
          have:off<vs.length:=(List.getElem?_eq_some_iff.1 hu).1
          rw[List.getElem?_set_self this,hu]
         ·rw[List.getElem?_set_ne hi]
        rwa [MO]at this
       ·by_cases hko:off=k
        ·subst hko
         have:off<cs.2.length:=(List.getElem?_eq_some_iff.1 hx).1
         rw[List.getElem?_set_self this]at hk
         cases hk
         exact .bI (bV _)
        ·rw[List.getElem?_set_ne hko]at hk
         refine(h2 k a q hk hq).move fun b hb=>⟨?_,fun _=>rfl,rfl⟩
         rw[hb,if_neg (by intro e;injection e with _ e;exact hko e.symm)]
      ·rw[List.getElem?_set_ne (fun e=>e' e.symm)]at hds
       have hidlt:L.live id'=true:=by rw[h.live];exact fc hds hds'
       refine(h.obj id' ds hds hds' hdt').move (.refl L) hidlt (fun b hb=>⟨?_,fun _=>rfl,rfl⟩)
       rcases hb with hb|⟨k,hb⟩
       ·simp[hb]
       ·rw[hb,if_neg (by intro e;injection e with e _;exact e' e)]
     ·refine h.used b (fun e=>hb ?_)
      rw[e];simp
    ·exact(h2 off _ u hx hu).move fun b hb=>⟨by simp[hb],fun _=>rfl,rfl⟩
  ·cases hr
 ·cases hr
theorem Ec {P:Program}(h:St W0 L ow s w){t:TypeId}{tk agg:Bool}{n:Nat}(ha:jk P t=some agg)(hz:da P t=some n){x:AV}(hr:af tk agg n x s=some (r,s')){v:Value}(hx:Rel L x v) :
  ∃u,(Instr.loadAt t v).run P w=.ok u w∧jr W0 L ow w r s' u w:=by
 unfold af at hr
 split at hr
 ·rw[Option.map_eq_some_iff]at hr
  obtain⟨r',hr',e⟩:=hr
  cases e
  obtain⟨u,h1,h2⟩:=ut (P:=P) ha hz hr' hx h.nI
  exact⟨u,h1,jr.same h h2 (.bI (fg hr'))⟩
 ·split at hr
  ·rename_i pw
   have:agg=false:=by simp at pw;exact pw.2
   subst this
   exact Iv h ha hr hx
  ·rw[Option.map_eq_some_iff]at hr
   obtain⟨r',hr',e⟩:=hr
   cases e
   obtain⟨u,h1,h2⟩:=uC (P:=P) h ha hz hr' hx
   refine⟨u,h1,jr.same h h2 (.bI ?_)⟩
   unfold jU at hr'
   split at hr'
   ·split at hr'
    ·cases hr'
    ·exact fg hr'
   ·cases hr'
 ·cases hr
theorem map_snd {α:Type}{x:Option α}{s s':ag}{r:α}(h:(x.map fun r=>(r,s))=some (r,s')):x=some r∧s'=s:=by
 rw[Option.map_eq_some_iff]at h
 obtain⟨y,hy,e⟩:=h
 cases e
 exact⟨hy,rfl⟩
theorem Ar {agg:Bool}{n:Nat}{x:AV}{s s':ag}{r:AV}(hr:af false agg n x s=some (r,s')):r.ct=false:=by
 unfold af at hr
 split at hr
 ·rw[Option.map_eq_some_iff]at hr
  obtain⟨r',hr',e⟩:=hr
  cases e
  exact fg hr'
 ·simp only[Bool.false_and,Bool.false_eq_true,if_false]at hr
  rw[Option.map_eq_some_iff]at hr
  obtain⟨r',hr',e⟩:=hr
  cases e
  unfold jU at hr'
  split at hr'
  ·split at hr'
   ·cases hr'
   ·exact fg hr'
  ·cases hr'
 ·cases hr
theorem R6 (Mc:∀g cs,C.sO g=some cs→aV cs=true){D:a8}(hD:QF C W0 D){rf tk:Bool}{o:Oper} {ρ:Operand→AV}(hr:mM C D rf tk o.op ρ s=some (r,s'))(hg:eP C L)(hst:St W0 L ow s w)
  {σ:Operand→Value}(hρ:∀x∈o.op.operands,Rel L (ρ x) (σ x))(hown:∀t,gh tk o.op=some t→eZ L ow w .arg (ρ (.tmp t)) (σ (.tmp t)))
  (yw:∀x,(∀t,x≠.tmp t)→(ρ x).ct=false):MR C.P o σ w (jr W0 L ow w r s'):=by
 have Md:∀{m:Sem Value} {x:Option AV},(execOp σ o=(do pure (.value (←m)):Sem Next))→(x.map fun r=>(r,s))=some (r,s')→(∀r,x=some r→∃u,m.run C.P w=.ok u w∧Rel L r u∧r.ct=false) →
   MR C.P o σ w (jr W0 L ow w r s'):=by
  intro m x he hx hm
  obtain⟨h1,rfl⟩:=map_snd hx
  obtain⟨u,h2,h3,h4⟩:=hm r h1
  exact eC he h2 (jr.same hst h3 (.bI h4))
 unfold mM at hr
 split at hr
 case h_1 x ho=>-- move
  have he:execOp σ o=pure (.value (σ x)):=by unfold execOp;rw[ho]
  have hx:=hρ x (by rw[ho];simp[Op.operands])
  split at hr
  ·exact .inl ⟨σ x,w,by rw[he];rfl,It hst hr hx.aa (bV _)⟩
  cases hr
  refine .inl ⟨σ x,w,by rw[he];rfl,?_⟩
  split
  ·rename_i pw
   by_cases ht:∃t,x=.tmp t
   ·obtain⟨t,rfl⟩:=ht
    exact D9 hst hx (hown t (by rw[ho];simp[gh,pw]))
   ·exact jr.same hst hx (.bI (yw x fun t e=>ht ⟨t,e⟩))
  ·exact jr.same hst hx.aa (.bI (bV _))
 case h_2 x ho=>-- assign
  cases hr
  have he:execOp σ o=pure (.value (σ x)):=by unfold execOp;rw[ho]
  have hx:=hρ x (by rw[ho];simp[Op.operands])
  refine .inl ⟨σ x,w,by rw[he];rfl,?_⟩
  split
  ·rename_i t
   exact D9 hst hx (hown t (by rw[ho];rfl))
  ·exact jr.same hst hx.aa (.bI (bV _))
 case h_3 c a b ho=>-- pick
  have he:execOp σ o=(do pure (.value (←(do pure (if ←asBool (σ c) then σ a else σ b):Sem Value))):Sem Next):=by unfold execOp;rw[ho];simp
  refine Md he hr fun r h=>?_
  exact Il h (hρ c (by rw[ho];simp[Op.operands])) (hρ a (by rw[ho];simp[Op.operands])) (hρ b (by rw[ho];simp[Op.operands])) w
 case h_4 t ho=>-- alloc
  have he:execOp σ o=(do pure (.value (←Instr.alloc t true (.tuple #[]))):Sem Next):=by unfold execOp;rw[ho]
  unfold bH at hr
  split at hr
  ·rename_i a ha
   split at hr
   ·rename_i hs
    cases hr
    simp only[Bool.and_eq_true,Bool.not_eq_true',List.isEmpty_eq_false_iff]at hs
    obtain⟨u,w',h1,h2⟩:=Ah (P:=C.P) hst (tN s) ha hs.1 hs.2
    rw[jF]at h2
    exact eC he h1 h2
   ·cases hr
  ·cases hr
 case h_5 t x ho=>-- box
  have he:execOp σ o=(do pure (.value (←Instr.box t (σ x))):Sem Next):=by unfold execOp;rw[ho]
  have hx:=hρ x (by rw[ho];simp[Op.operands])
  unfold cL at hr
  split at hr
  ·rename_i hs
   split at hr
   ·split at hr
    ·cases hr
    rename_i hc
    cases hr
    obtain⟨u,w',h1,h2⟩:=wS (P:=C.P) hst (tN s) hx hs (by simpa using hc) t
    rw[jF]at h2
    exact eC he h1 h2
   ·cases hr
    obtain⟨u,w',h1,h2⟩:=FY (P:=C.P) hst hx hs t
    exact eC he h1 h2
  ·cases hr
 case h_6 t ps ho=>-- build
  have he:execOp σ o=(do pure (.value (←Instr.build t (ps.map fun(i,x)=>(i,σ x)))):Sem Next):=by unfold execOp;rw[ho]
  refine Md he hr fun r h=>?_
  refine Ir h ?_ w
  have:=pT L (ρ:=ρ) (σ:=σ) ps.toList (fun p hp=>hρ p.2 (by rw[ho];simp only[Op.operands,List.mem_toArray,List.mem_map];exact⟨p,hp,rfl⟩))
  simpa using this
 case h_7 t n ps ho=>-- buildSlice
  have he:execOp σ o=(do pure (.value (←Instr.buildSlice t n (ps.map fun(i,x)=>(i,σ x)))):Sem Next):=by unfold execOp;rw[ho]
  have:=pT L (ρ:=ρ) (σ:=σ) ps.toList (fun p hp=>hρ p.2 (by rw[ho];simp only[Op.operands,List.mem_toArray,List.mem_map];exact⟨p,hp,rfl⟩))
  split at hr
  ·obtain⟨u,w',h1,h2⟩:=CB (P:=C.P) hst hr (vs:=ps.map fun(i,x)=>(i,σ x)) (by simpa using this)
   exact eC he h1 h2
  obtain⟨h,rfl⟩:=map_snd hr
  obtain⟨u,w',h1,h2⟩:=wC (P:=C.P) hst h (vs:=ps.map fun(i,x)=>(i,σ x)) (by simpa using this)
  exact eC he h1 h2
 case h_8 t a ho=>-- load
  have he:execOp σ o=(do pure (.value (←Instr.loadAt t (σ a))):Sem Next):=by unfold execOp;rw[ho]
  split at hr
  ·rename_i agg n ha hz
   split at hr
   ·unfold wD at hr
    split at hr
    ·rename_i r1 s1 hl
     obtain⟨u,h1,L1,ow1,e1,st1,aa3,uN⟩:=Ec (P:=C.P) hst ha hz hl (hρ a (by rw[ho];simp[Op.operands]))
     obtain⟨L2,Wx,e2,st2,aa4,Wy⟩:=It st1 hr aa3 (Ar hl)
     exact eC he h1 ⟨L2,Wx,e1.trans e2,st2,aa4,Wy⟩
    ·cases hr
   obtain⟨u,h1,h2⟩:=Ec (P:=C.P) hst ha hz hr (hρ a (by rw[ho];simp[Op.operands]))
   exact eC he h1 h2
  ·cases hr
 case h_9 t a v ho=>-- store
  have he:execOp σ o=(do Instr.storeAt t (σ a) (σ v);pure .skip:Sem Next):=by unfold execOp;rw[ho]
  have hv:=hρ v (by rw[ho];simp[Op.operands])
  split at hr
  ·rename_i n hz
   rw[Option.map_eq_some_iff]at hr
   obtain⟨s1,Cg,e⟩:=hr
   cases e
   have fin:∀{x:AV},aB n s (ρ a) x=some s'→Rel L x (σ v)→eZ L ow w .arg x (σ v)→MR C.P o σ w (jr W0 L ow w .undef s'):=by
    intro x h1 h2 h3
    obtain⟨w',k1,k2⟩:=Im (P:=C.P) hst hz h1 (hρ a (by rw[ho];simp[Op.operands])) h2 h3
    exact .inr (.inl ⟨w',by rw[he];simp[k1],k2⟩)
   split at Cg
   ·rename_i t'
    split at Cg
    ·rename_i pw
     exact fin Cg hv (hown t' (by rw[ho];simp only[gh,pw,if_true]))
    ·exact fin Cg hv.aa (.bI (bV _))
   ·exact fin Cg hv.aa (.bI (bV _))
  ·cases hr
 case h_10 x ho=>-- nilCheck
  obtain⟨h,rfl⟩:=map_snd hr
  obtain⟨u,h1,h2,h3⟩:=Ad (P:=C.P) h ho (hρ x (by rw[ho];simp[Op.operands])) w
  exact .inl ⟨u,w,h1,jr.same hst h2 (.bI h3)⟩
 case h_11 op t x y ty ho=>-- binOp
  have he:execOp σ o=(do pure (.value (←(do eqGuard op t x y (σ x) (σ y);binOp op t (σ x) (σ y)))):Sem Next):=by unfold execOp;rw[ho]
  refine Md he hr fun r h=>?_
  split at h
  ·rename_i hy;exact Cr h (hρ x (by rw[ho];simp[Op.operands])) (hρ y (by rw[ho];simp[Op.operands])) x y hy w
  ·exact MH h (hρ x (by rw[ho];simp[Op.operands])) (hρ y (by rw[ho];simp[Op.operands])) x y w
 case h_12 op t x ho=>-- unOp
  have he:execOp σ o=(do pure (.value (←Op.unary op (σ x))):Sem Next):=by unfold execOp;rw[ho]
  exact Md he hr fun r h=>RX h (hρ x (by rw[ho];simp[Op.operands])) w
 case h_13 a b x ho=>-- convert
  have he:execOp σ o=(do pure (.value (←convert a b (σ x))):Sem Next):=by unfold execOp;rw[ho]
  exact Md he hr fun r h=>Ii h (hρ x (by rw[ho];simp[Op.operands])) w
 case h_14 t x lo hi mx ho=>-- slice
  have he:execOp σ o=(do pure (.value (←Instr.sliceAt t (σ x) (lo.map σ) (hi.map σ) (mx.map σ))):Sem Next):=by unfold execOp;rw[ho]
  have fin:(∀e,C.P.underlying t=some (.slice e)→∃n,da C.P e=some n)→((mL C.P t (ρ x) (lo.map ρ) (hi.map ρ) (mx.map ρ)).map fun r=>(r,s))=some (r,s')→MR C.P o σ w (jr W0 L ow w r s'):=by
   intro hsz hr
   obtain⟨h,rfl⟩:=map_snd hr
   obtain⟨u,h1,h2,h3⟩:=RZ h hsz (hρ x (by rw[ho];simp[Op.operands])) (uM L lo fun y hy=>hρ y (by rw[ho];simp[Op.operands,hy])) (uM L hi fun y hy=>hρ y (by rw[ho];simp[Op.operands,hy]))
    (uM L mx fun y hy=>hρ y (by rw[ho];simp[Op.operands,hy])) w
   exact eC he h1 (jr.same hst h2 h3)
  split at hr
  ·rename_i e hu
   split at hr
   ·rename_i n hz
    exact fin (fun e' h'=>by rw[hu]at h';cases h';exact⟨n,hz⟩) hr
   ·cases hr
  ·rename_i hne
   exact fin (fun e' h'=>absurd h' (hne e')) hr
 case h_15 t x f ho=>-- fieldAddr
  have he:execOp σ o=(do pure (.value (←Instr.fieldAt t (σ x) f)):Sem Next):=by unfold execOp;rw[ho]
  split at hr
  ·rename_i k hk
   exact Md he hr fun r h=>ym hk h (hρ x (by rw[ho];simp[Op.operands])) w
  ·cases hr
 case h_16 t x f ho=>-- field
  have he:execOp σ o=(do pure (.value (←Instr.field t (σ x) f)):Sem Next):=by unfold execOp;rw[ho]
  exact Md he hr fun r h=>Ie h (hρ x (by rw[ho];simp[Op.operands])) w
 case h_17 t x i ho=>-- indexAddr
  have he:execOp σ o=(do pure (.value (←Instr.indexAt t (σ x) (σ i))):Sem Next):=by unfold execOp;rw[ho]
  exact Md he hr fun r h=>wz h (hρ x (by rw[ho];simp[Op.operands])) (hρ i (by rw[ho];simp[Op.operands])) w
 case h_18 t x i ho=>-- index
  have he:execOp σ o=(do pure (.value (←Instr.index t (σ x) (σ i))):Sem Next):=by unfold execOp;rw[ho]
  exact Md he hr fun r h=>FX h (hρ x (by rw[ho];simp[Op.operands])) (hρ i (by rw[ho];simp[Op.operands])) w
 case h_19 x i ho=>-- extract
  have he:execOp σ o=(do pure (.value (←Instr.extract (σ x) i)):Sem Next):=by unfold execOp;rw[ho]
  exact Md he hr fun r h=>Co h (hρ x (by rw[ho];simp[Op.operands])) w
 case h_20 f first captured ho=>-- makeFunc
  cases hr
  have he:execOp σ o=(do pure (.value (←Instr.makeFunc (.func f) (first.map σ) (captured.map σ))):Sem Next):=by unfold execOp;rw[ho]
  refine eC he (v:=.func (.func f) (first.map σ) (captured.map σ)) (w':=w) rfl (jr.same hst ?_ (.bI rfl))
  have h1:=pU L (ρ:=ρ) (σ:=σ) first.toList (fun x hx=>hρ x (by rw[ho];simp[Op.operands];exact .inl (by simpa using hx)))
  have h2:=pU L (ρ:=ρ) (σ:=σ) captured.toList (fun x hx=>hρ x (by rw[ho];simp[Op.operands];exact .inr (by simpa using hx)))
  have:=Rel.fn f _ _ _ _ h1 h2
  rw[←tO,←tO]at this
  exact this
 case h_21 c ho=>-- call
  have hargs:=pU L (ρ:=ρ) (σ:=σ) c.args.toList (fun x hx=>hρ x (by rw[ho];simp only[Op.operands,Call.operands];exact Array.mem_append.2 (.inr (by simpa using hx))))
  split at hr
  ·rename_i b hb
   split at hr
   ·have he:execOp σ o=builtin b c.argTypes o.type (c.args.map fun|.const _=>true|_=>false) (c.args.map σ):=by
     unfold execOp;rw[ho];simp only[resolve,hb];rfl
    have wW:∀(vs:List Value),c.args.toList.map σ=vs→c.args.map σ=vs.toArray:=by
     intro vs e;rw[←e];exact tO _ _
    unfold oQ at hr
    split at hr
    ·rename_i t t2 x y Cu uw
     rw[uw]at hargs
     obtain⟨u,v,huv,hu,hv⟩:∃u v,c.args.toList.map σ=[u,v]∧Rel L x u∧Rel L y v:=by
      generalize c.args.toList.map σ=vs at hargs
      cases hargs with
      | cons _ v _ _ h1 t1=>cases t1 with
       | cons _ v' _ _ h2 t2=>cases t2;exact⟨v,v',rfl,h1,h2⟩
     have Me:c.argTypes=#[t,t2]:=Array.toList_inj.1 (by rw[Cu])
     obtain⟨q,w',h1,h2⟩:=Ao (P:=C.P) (ty:=o.type) hst hr hu hv
     have he':execOp σ o=(do pure (.value (←Builtin.append_ #[t,t2] o.type #[u,v])):Sem Next):=by rw[he,wW _ huv,Me];rfl
     exact eC he' h1 h2
    ·cases hr
   obtain⟨h,rfl⟩:=map_snd hr
   have he:execOp σ o=builtin b c.argTypes o.type (c.args.map fun|.const _=>true|_=>false) (c.args.map σ):=by
    unfold execOp;rw[ho];simp only[resolve,hb];rfl
   have wW:∀(vs:List Value),c.args.toList.map σ=vs→c.args.map σ=vs.toArray:=by
    intro vs e;rw[←e];exact tO _ _
   unfold Aq at h
   split at h
   ·rename_i t ts x Cu uw
    rw[uw]at hargs
    obtain⟨v,hv⟩:∃v,c.args.toList.map σ=[v]∧Rel L x v:=by
     generalize c.args.toList.map σ=vs at hargs
     cases hargs with
     | cons _ v _ _ h1 t1=>cases t1;exact⟨v,rfl,h1⟩
    obtain⟨u,h1,h2,h3⟩:=MI (P:=C.P) (ty:=o.type) h hv.2 c.argTypes (by rw[←Array.getElem?_toList,Cu];rfl) w
    have he':execOp σ o=(do pure (.value (←Builtin.len_ c.argTypes o.type #[v])):Sem Next):=by rw[he,wW _ hv.1];rfl
    exact eC he' h1 (jr.same hst h2 (.bI h3))
   ·rename_i x y uw
    rw[uw]at hargs
    obtain⟨u,v,huv,hu,hv⟩:∃u v,c.args.toList.map σ=[u,v]∧Rel L x u∧Rel L y v:=by
     generalize c.args.toList.map σ=vs at hargs
     cases hargs with
     | cons _ v _ _ h1 t1=>cases t1 with
      | cons _ v' _ _ h2 t2=>cases t2;exact⟨v,v',rfl,h1,h2⟩
    obtain⟨q,h1,h2,h3⟩:=MJ (P:=C.P) h hu hv c.argTypes o.type w
    have he':execOp σ o=(do pure (.value (←Builtin.min_ c.argTypes o.type #[u,v])):Sem Next):=by rw[he,wW _ huv];rfl
    exact eC he' h1 (jr.same hst h2 (.bI h3))
   ·rename_i x y uw
    rw[uw]at hargs
    obtain⟨u,v,huv,hu,hv⟩:∃u v,c.args.toList.map σ=[u,v]∧Rel L x u∧Rel L y v:=by
     generalize c.args.toList.map σ=vs at hargs
     cases hargs with
     | cons _ v _ _ h1 t1=>cases t1 with
      | cons _ v' _ _ h2 t2=>cases t2;exact⟨v,v',rfl,h1,h2⟩
    obtain⟨q,h1,h2,h3⟩:=MK (P:=C.P) h hu hv c.argTypes o.type w
    have he':execOp σ o=(do pure (.value (←Builtin.max_ c.argTypes o.type #[u,v])):Sem Next):=by rw[he,wW _ huv];rfl
    exact eC he' h1 (jr.same hst h2 (.bI h3))
   ·rename_i t t2 x y Cu uw
    rw[uw]at hargs
    obtain⟨u,v,huv,hu,hv⟩:∃u v,c.args.toList.map σ=[u,v]∧Rel L x u∧Rel L y v:=by
     generalize c.args.toList.map σ=vs at hargs
     cases hargs with
     | cons _ v _ _ h1 t1=>cases t1 with
      | cons _ v' _ _ h2 t2=>cases t2;exact⟨v,v',rfl,h1,h2⟩
    have Me:c.argTypes=#[t,t2]:=Array.toList_inj.1 (by rw[Cu])
    have hox:eZ L ow w .arg x u:=by
     cases Wv:c.args.toList with
     | nil=>rw[Wv]at uw;simp at uw
     | cons a0 rest =>
      rw[Wv]at uw huv
      simp only[List.map_cons,List.cons.injEq]at uw huv
      rw[←uw.1,←huv.1]
      by_cases ht:∃t,a0=.tmp t
      ·obtain⟨k,rfl⟩:=ht
       refine hown k ?_
       have:(c.args[0]?:Option Operand)=some (.tmp k):=by rw[←Array.getElem?_toList,Wv];rfl
       rw[ho];simp[gh,hb,this]
      ·exact .bI (yw a0 fun t e=>ht ⟨t,e⟩)
    obtain⟨q,w',h1,h2⟩:=FZ (P:=C.P) (ty:=o.type) hst h hu hv hox
    have he':execOp σ o=(do pure (.value (←Builtin.append_ #[t,t2] o.type #[u,v])):Sem Next):=by rw[he,wW _ huv,Me];rfl
    exact eC he' h1 h2
   ·cases h
  ·rename_i x hb
   have hx:=hρ x (by rw[ho];simp[Op.operands,Call.operands,hb])
   split at hr
   ·rename_i g first captured hfn
    rw[hfn]at hx
    generalize hsx:σ x=fv at hx
    cases hx with
    | fn _ _ _ vs ws h1 h2 =>
     have hall:=((h1.append hargs).append h2).aa
     have hno:∀a∈(first++c.args.toList.map ρ++captured).map AV.aa,a.ct=false:=by
      intro a ha
      obtain⟨b,_,rfl⟩:=List.mem_map.1 ha
      exact bV b
     obtain⟨k1,k2⟩:(callFunc g (vs++c.args.toList.map σ++ws).toArray).run C.P w=.ok (.enter g (vs++c.args.toList.map σ++ws).toArray) w∧Calls C.P g (vs++c.args.toList.map σ++ws).toArray w fun e w'=>∃cv,e=.returned cv∧jr W0 L ow w r s' cv w':=by
      split at hr
      ·exact F1 hD hr hno hg hst hall
      ·exact uL Mc hD hr hno hg hst hall
     refine .inr (.inr ⟨g,_,?_,k2⟩)
     rw[←k1]
     unfold execOp
     rw[ho]
     simp only[resolve,hb,hsx,Deferred.ofValue,pure_bind,invoke]
     congr 2
     apply Array.toList_inj.1
     simp
   ·cases hr
  ·cases hr
 case h_22=>cases hr
end
end Go.Abs
end

section
namespace Go.Abs
open Go
def b_ (C:dX)(f:FuncId)(o:Oper):Bool :=
 match o.dst with
 | some d=>C.ref f d
 | none=>false
def QG (C:dX)(f:FuncId)(ops:List Oper)(d:Nat):Bool :=
 ops.any fun q=>match q.op with
  | .call c=>(match c.callee with
   | .builtin .append=>(match (c.args[0]?:Option Operand) with
    | some (.tmp t)=>t==d&&!b_ C f q
    | _=>false)
   | _=>false)
  | _=>false
def cH (C:dX)(f:FuncId)(ops:List Oper)(o:Oper):Bool :=
 match o.op,o.dst with
 | .move _,some d=>C.own f d || QG C f ops d
 | .load _ _,some d=>C.own f d || QG C f ops d
 | .store _ _ (.tmp t),_=>!C.ref f t
 | _,_=>false
def bU (ops:List Oper)(o:Oper)(env:Env):Option Bool :=
 match o.guard with
 | none=>some true
 | some (j,want)=>match (ops[j]?).bind (·.dst) with
  | some d=>match env d with
   | .bool b=>some (b==want)
   | .aI _=>some false
   | _=>none
  | none=>none
def Ee (N:Nat)(o:Oper):Bool :=
 match o.dst with
 | some d=>d<N
 | none=>true
abbrev mN:=Env×ag
def gS (C:dX)(D:a8)(f:FuncId)(N:Nat)(ops:List Oper)(i:Nat)(st:mN):Option mN :=
 match ops[i]? with
 | none=>some st
 | some o=>if Ee N o then
   match bU ops o st.1 with
   | none=>none
   | some true=>match mM C D (b_ C f o) (cH C f ops o) o.op (ku C st.1) st.2 with
    | some (r,s')=>some (oJ (is st.1 (gh (cH C f ops o) o.op)) o.dst r,s')
    | none=>none
   | some false=>some (oJ st.1 o.dst (.aI []),st.2)
  else none
theorem F2 {C:dX}{env:Env}(x:Operand)(h:∀t,x≠.tmp t):(ku C env x).ct=false:=by
 cases x with
 | tmp t=>exact absurd rfl (h t)
 | const v=>exact wy v
 | global g=>simp only[ku];split<;>rfl
 | func f=>rfl
theorem Ef {C:dX}{W0:World}{N:Nat}{L:Lay}{ow:cq}{env:Env}{s:ag}{a:Act}{w:World}(hg:eP C L)(h:Fr W0 N L ow env s a w)(x:Operand):Rel L (ku C env x) (a.eval x):=by
 cases x with
 | tmp t=>exact h.rel t
 | const v=>exact kz L v
 | global g =>
  simp only[ku,Act.eval]
  split
  ·rename_i cs e
   exact .box g 0 cs 0 (hg.1 g cs e)
  ·exact .undef _
 | func f=>exact .fn f [] [] [] [] .nil .nil
def mw (rf:Bool)(o:Op):Bool:=match o with
 | .alloc _=>true
 | .buildSlice _ _ _=>rf
 | _=>false
def mT (P:Program)(o:Op) (ρ:Operand→AV):Option ((TypeId×List AV)×(Nat→AV)):=match o with
 | .alloc t=>match zeroOf P t with
  | some a=>if a.ce&&!a.cells.isEmpty then some ((t,a.cells.map AV.aa),fun A=>.ref A 0) else none
  | none=>none
 | .buildSlice t n ps=>uK P t n (ps.toList.map fun p=>(p.1,ρ p.2))
 | _=>none
theorem As {P:Program}{o:Op} {ρ:Operand→AV}{x:TypeId×List AV}{r:Nat→AV}(h:mT P o ρ=some (x,r)):x.2≠[]:=by
 unfold mT at h
 split at h
 ·split at h
  ·split at h
   ·rename_i hs
    cases h
    simp only[Bool.and_eq_true,Bool.not_eq_true',List.isEmpty_eq_false_iff]at hs
    simpa using hs.2
   ·cases h
  ·cases h
 ·exact Ap h
 ·cases h
def lJ (C:dX)(D:a8)(rf tk:Bool)(o:Op) (ρ:Operand→AV)(A:Nat)(s:ag):Option (AV×ag) :=
 if mw rf o then match mT C.P o ρ with
  | some (x,r)=>if has s A then none else some (r A,putAt s A x)
  | none=>none
 else mM C D rf tk o ρ s
theorem R7 {C:dX}{D:a8}{rf tk:Bool}{o:Op} {ρ:Operand→AV}{s:ag}{x:AV×ag}(h:mM C D rf tk o ρ s=some x):lJ C D rf tk o ρ s.length s=some x:=by
 unfold lJ
 split
 ·rename_i hn
  cases o<;>simp only[mw,Bool.false_eq_true]at hn
  case alloc t =>
   simp only[mM,bH]at h
   simp only[mT]
   split at h
   ·rename_i a ha
    split at h
    ·rename_i hs
     simp only[ha,hs,if_true,tN,jF,Bool.false_eq_true,if_false]
     exact h
    ·cases h
   ·cases h
  case buildSlice t n ps =>
   simp only[mM,hn,if_true,fN]at h
   simp only[mT]
   split at h
   ·rename_i hb
    cases h
    simp only[hb,tN,jF,Bool.false_eq_true,if_false]
   ·cases h
 ·exact h
theorem R8 {C:dX}{W0:World}{L:Lay}{ow:cq}{s s':ag}{w:World}{r:AV}(Mc:∀g cs,C.sO g=some cs→aV cs=true){D:a8}(hD:QF C W0 D){rf tk:Bool}{o:Oper} {ρ:Operand→AV}{A:Nat}(hr:lJ C D rf tk o.op ρ A s=some (r,s'))(hg:eP C L)(hst:St W0 L ow s w)
  {σ:Operand→Value}(hρ:∀x∈o.op.operands,Rel L (ρ x) (σ x))(hown:∀t,gh tk o.op=some t→eZ L ow w .arg (ρ (.tmp t)) (σ (.tmp t)))
  (yw:∀x,(∀t,x≠.tmp t)→(ρ x).ct=false):MR C.P o σ w (jr W0 L ow w r s'):=by
 unfold lJ at hr
 split at hr
 ·rename_i hn
  split at hr
  ·rename_i x q hx
   split at hr
   ·cases hr
   rename_i hA
   cases hr
   have hA':has s A=false:=by simpa using hA
   generalize ho:o.op=oo at hn hx hρ
   cases oo<;>simp only[mw,Bool.false_eq_true]at hn
   case alloc t =>
    have he:execOp σ o=(do pure (.value (←Instr.alloc t true (.tuple #[]))):Sem Next):=by unfold execOp;rw[ho]
    simp only[mT]at hx
    split at hx
    ·rename_i a ha
     split at hx
     ·rename_i hs
      cases hx
      simp only[Bool.and_eq_true,Bool.not_eq_true',List.isEmpty_eq_false_iff]at hs
      obtain⟨u,w',h1,h2⟩:=Ah (P:=C.P) hst hA' ha hs.1 hs.2
      exact eC he h1 h2
     ·cases hx
    ·cases hx
   case buildSlice t n ps =>
    have he:execOp σ o=(do pure (.value (←Instr.buildSlice t n (ps.map fun(i,x)=>(i,σ x)))):Sem Next):=by unfold execOp;rw[ho]
    simp only[mT]at hx
    have:=pT L (ρ:=ρ) (σ:=σ) ps.toList (fun p hp=>hρ p.2 (by simp only[Op.operands,List.mem_toArray,List.mem_map];exact⟨p,hp,rfl⟩))
    obtain⟨u,w',h1,h2⟩:=pR (P:=C.P) hst hx hA' (vs:=ps.map fun(i,x)=>(i,σ x)) (by simpa using this)
    exact eC he h1 h2
  ·cases hr
 ·exact R6 Mc hD hr hg hst hρ hown yw
def gT (C:dX)(D:a8)(f:FuncId)(N:Nat)(ops:List Oper)(A i:Nat)(st:mN):Option mN :=
 match ops[i]? with
 | none=>some st
 | some o=>if Ee N o then
   match bU ops o st.1 with
   | none=>none
   | some true=>match lJ C D (b_ C f o) (cH C f ops o) o.op (ku C st.1) A st.2 with
    | some (r,s')=>some (oJ (is st.1 (gh (cH C f ops o) o.op)) o.dst r,s')
    | none=>none
   | some false=>some (oJ st.1 o.dst (.aI []),st.2)
  else none
theorem yx {C:dX}{D:a8}{f:FuncId}{N:Nat}{ops:List Oper}{i:Nat}{st gw:mN}(h:gS C D f N ops i st=some gw):gT C D f N ops st.2.length i st=some gw:=by
 unfold gS at h
 unfold gT
 split at h
 ·exact h
 ·split at h
  ·rename_i hd
   simp only[hd,if_true]
   split at h
   ·cases h
   ·split at h
    ·rename_i ho
     rw[R7 ho]
     exact h
    ·cases h
   ·exact h
  ·cases h
structure wE (C:dX)(W0:World)(D:a8):Prop where
 sO:∀g cs,C.sO g=some cs→aV cs=true
 den:QF C W0 D
theorem rk {C:dX}{W0:World}{D:a8}(E:wE C W0 D){f:FuncId}{N:Nat}{ops:List Oper}{A i:Nat}{st gw:mN}(hr:gT C D f N ops A i st=some gw){L:Lay}{ow:cq}{a:Act}{w:World}(hg:eP C L)
  (h:Fr W0 N L ow st.1 st.2 a w){K:Act→World→Prop}{Q:Exit→Act→World→Prop}
  (hk:∀L' ow' a' w',Fr W0 N L' ow' gw.1 gw.2 a' w'→mK L ow w L' ow' w'→K a' w'):wpOp C.P ops.toArray Q i K a w:=by
 unfold gT at hr
 unfold wpOp
 have hget:ops.toArray[i]?=ops[i]?:=by simp
 split at hr
 ·rename_i ho
  cases hr
  rw[hget,ho]
  exact hk L ow a w h (.refl _ _ _)
 ·rename_i o ho
  rw[hget,ho]
  simp only
  split at hr
  ·rename_i hd
   have VW:∀d,o.dst=some d→d<N:=by
    intro d e
    simpa[Ee,e] using hd
   have hw:∀b,bU ops o st.1=some b→Region.wanted o (yielded ops.toArray a.tmps)=b:=by
    intro b hb
    unfold bU at hb
    unfold Region.wanted
    split at hb
    ·rename_i hgd;cases hb;rw[hgd]
    ·rename_i j want hgd
     rw[hgd]
     simp only
     split at hb
     ·rename_i d hjd
      split at hb
      ·rename_i q hq
       cases hb
       have hrel:=h.rel d
       rw[hq]at hrel
       have hv:a.tmps.getD d undef=.bool q:=by generalize a.tmps.getD d undef=v at hrel;cases hrel;rfl
       have hv':a.tmps[d]?=some (.bool q):=by
        rw[Array.getD_eq_getD_getElem?]at hv
        cases hx:a.tmps[d]? with
        | none=>rw[hx]at hv;simp[undef]at hv
        | some y=>rw[hx]at hv;simpa using hv
       have hy:yielded ops.toArray a.tmps j=some q:=by
        unfold yielded
        have:((ops.toArray[j]?).bind (·.dst)).bind (a.tmps[·]?)=some (.bool q):=by
         rw[show ops.toArray[j]?=ops[j]? by simp,hjd];simpa using hv'
        rw[this]
       rw[hy]
       cases q<;>cases want<;>rfl
      ·rename_i vs hq
       cases hb
       have hrel:=h.rel d
       rw[hq]at hrel
       have hv:∃us,a.tmps.getD d undef=.tuple us:=by generalize a.tmps.getD d undef=v at hrel;cases hrel;exact⟨_,rfl⟩
       obtain⟨us,hv⟩:=hv
       have hy:yielded ops.toArray a.tmps j=none:=by
        unfold yielded
        have:((ops.toArray[j]?).bind (·.dst)).bind (a.tmps[·]?)=none∨((ops.toArray[j]?).bind (·.dst)).bind (a.tmps[·]?)=some (.tuple us):=by
         rw[show ops.toArray[j]?=ops[j]? by simp,hjd]
         rw[Array.getD_eq_getD_getElem?]at hv
         cases hx:a.tmps[d]? with
         | none=>exact .inl (by simpa using hx)
         | some y=>rw[hx]at hv;right;simp at hv;subst hv;simpa using hx
        rcases this with e|e<;>rw[e]
       rw[hy]
       rfl
      ·cases hb
     ·cases hb
   split at hr
   ·cases hr
   ·rename_i hwa
    rw[hw true hwa]
    simp only[if_true]
    split at hr
    ·rename_i r s' QC
     cases hr
     refine .inl ?_
     have hx:MR C.P o a.eval w (jr W0 L (gv ow (gh (cH C f ops o) o.op)) w r s'):=by
      refine R8 E.sO E.den QC hg (h.st.Ib _) (fun x _=>Ef hg h x) (fun t ht=>?_) (fun x hx=>F2 x hx)
      refine(h.own t).move fun b hb=>⟨?_,fun _=>rfl,rfl⟩
      simp[gv,hb,ht]
     refine hx.wp fun v w' ⟨L',ow',r1,r2,r3,r4⟩=>?_
     obtain⟨k1,k2⟩:=h.step (gh (cH C f ops o) o.op) o.dst VW r1 r2 r3 r4
     exact hk L' _ _ w' k1 k2
    ·cases hr
   ·rename_i hwa
    cases hr
    rw[hw false hwa]
    simp only[Bool.false_eq_true,if_false]
    have:=h.step none o.dst VW (L':=L) (ow':=gv ow none) (r:=.aI []) (v:=undef) (.refl _ _ _) (h.st.Ib none) (.aI [] [] .nil) trivial
    exact hk L _ _ w this.1 this.2
  ·cases hr
theorem Iw {C:dX}{W0:World}{D:a8}(E:wE C W0 D){f:FuncId}{N:Nat}{ops:List Oper}{i:Nat}{st gw:mN}(hr:gS C D f N ops i st=some gw){L:Lay}{ow:cq}{a:Act}{w:World}(hg:eP C L)
  (h:Fr W0 N L ow st.1 st.2 a w){K:Act→World→Prop}{Q:Exit→Act→World→Prop}
  (hk:∀L' ow' a' w',Fr W0 N L' ow' gw.1 gw.2 a' w'→mK L ow w L' ow' w'→K a' w'):wpOp C.P ops.toArray Q i K a w :=
 rk E (yx hr) hg h hk
def fG (C:dX)(D:a8)(f:FuncId)(N:Nat)(ops:List Oper):List Nat→mN→Option mN
 | [],st=>some st
 | i::l,st=>match gS C D f N ops i st with
  | some gw=>fG C D f N ops l gw
  | none=>none
theorem Au {C:dX}{W0:World}{D:a8}(E:wE C W0 D){f:FuncId}{N:Nat}{ops:List Oper}:∀(l:List Nat){st gw:mN},fG C D f N ops l st=some gw→∀{L:Lay}{ow:cq}{a:Act}{w:World},eP C L →
  Fr W0 N L ow st.1 st.2 a w→∀{Q:Exit→Act→World→Prop},(∀L' ow' a' w',Fr W0 N L' ow' gw.1 gw.2 a' w'→mK L ow w L' ow' w'→Q .normal a' w')→wpOps C.P ops.toArray Q l a w
 | [],st,gw,hr,L,ow,a,w,hg,h,Q,hq=>by
  cases hr
  exact hq L ow a w h (.refl _ _ _)
 | i::l,st,gw,hr,L,ow,a,w,hg,h,Q,hq=>by
  simp only[fG]at hr
  split at hr
  ·rename_i st1 h1
   rw[wpOps_cons]
   refine Iw E h1 hg h fun L' ow' a' w' hf hx=>?_
   exact Au E l hr (hg.mono hx.le) hf fun Ia Ac a'' VV WA If=>hq Ia Ac a'' VV WA (hx.trans If)
  ·cases hr
end Go.Abs
end

section
namespace Go.Abs
open Go
inductive Kind where
 | ae|cU|bX|alloc
 | put (id:Nat)
 | get (id:Nat)
 | app (id:Option Nat)
 | call (kept:List Nat)
 deriving DecidableEq
def de:Kind→Kind→Bool
 | .ae,_=>true
 | _,.ae=>true
 | .cU,.cU=>true
 | .cU,.alloc=>true
 | .alloc,.alloc=>true
 | .put i,.put j=>i != j
 | .get _,.get _=>true
 | .get _,.cU=>true
 | .cU,.get _=>true
 | .get _,.alloc=>true
 | .get i,.put j=>i != j
 | .get i,.app j=>j != some i
 | .get i,.call l=>l.contains i
 | .call l,.get i=>l.contains i
 | _,_=>false
mutual
def same:AV→AV→Bool
 | .undef,.undef=>true
 | .bool a,.bool b=>a==b
 | .int k a,.int l b=>k==l&&a==b
 | .str a,.str b=>a==b
 | .eA,.eA=>true
 | .box a o,.box b p=>jY a b&&o==p
 | .ref i o,.ref j p=>i==j&&o==p
 | .aN,.aN=>true
 | .sl t z a f,.sl u y b g=>t==u&&z==y&&jY a b&&f==g
 | .oq,.oq=>true
 | .nf,.nf=>true
 | .gA,.gA=>true
 | .wx,.wx=>true
 | .fn f a b,.fn g c d=>f==g&&jY a c&&jY b d
 | .agg a,.agg b=>jY a b
 | .aI a,.aI b=>jY a b
 | .rs t z i o n,.rs u y j p m=>t==u&&z==y&&i==j&&o==p&&n==m
 | _,_=>false
def jY:List AV→List AV→Bool
 | [],[]=>true
 | a::as,b::bs=>same a b&&jY as bs
 | _,_=>false
end
mutual
theorem Eg:∀(a b:AV),same a b=true→a=b
 | .undef,b,h=>by cases b<;>first|rfl|simp[same]at h
 | .bool a,b,h=>by cases b<;>simp_all [same]
 | .int k a,b,h=>by cases b<;>simp_all [same]
 | .str a,b,h=>by cases b<;>simp_all [same]
 | .eA,b,h=>by cases b<;>first|rfl|simp[same]at h
 | .box a o,b,h=>by
  cases b<;>simp[same]at h
  rw[gU _ _ h.1,h.2]
 | .ref i o,b,h=>by cases b<;>simp_all [same]
 | .aN,b,h=>by cases b<;>first|rfl|simp[same]at h
 | .sl t z a f,b,h=>by
  cases b<;>simp[same]at h
  obtain⟨⟨⟨h1,h2⟩,h3⟩,h4⟩:=h
  rw[gU _ _ h3,h1,h2,h4]
 | .oq,b,h=>by cases b<;>first|rfl|simp[same]at h
 | .nf,b,h=>by cases b<;>first|rfl|simp[same]at h
 | .gA,b,h=>by cases b<;>first|rfl|simp[same]at h
 | .wx,b,h=>by cases b<;>first|rfl|simp[same]at h
 | .fn f x y,b,h=>by
  cases b<;>simp[same]at h
  obtain⟨⟨h1,h2⟩,h3⟩:=h
  rw[gU _ _ h2,gU _ _ h3,h1]
 | .agg a,b,h=>by
  cases b<;>simp[same]at h
  rw[gU _ _ h]
 | .aI a,b,h=>by
  cases b<;>simp[same]at h
  rw[gU _ _ h]
 | .rs t z i o n,b,h=>by
  cases b<;>simp[same]at h
  obtain⟨⟨⟨⟨h1,h2⟩,h3⟩,h4⟩,h5⟩:=h
  rw[h1,h2,h3,h4,h5]
theorem gU:∀(a b:List AV),jY a b=true→a=b
 | [],b,h=>by cases b<;>first|rfl|simp[jY]at h
 | x::a,b,h=>by
  cases b<;>simp[jY]at h
  rw[Eg _ _ h.1,gU _ _ h.2]
end
mutual
theorem wX:∀(a:AV),same a a=true
 | .undef|.eA|.aN|.oq|.nf|.gA|.wx=>by simp[same]
 | .bool a=>by simp[same]
 | .int k a=>by simp[same]
 | .str a=>by simp[same]
 | .box a o=>by simp[same,fh a]
 | .ref i o=>by simp[same]
 | .sl t z a f=>by simp[same,fh a]
 | .fn f x y=>by simp[same,fh x,fh y]
 | .agg a=>by simp[same,fh a]
 | .aI a=>by simp[same,fh a]
 | .rs t z i o n=>by simp[same]
theorem fh:∀(a:List AV),jY a a=true
 | []=>by simp[jY]
 | x::a=>by simp[jY,wX x,fh a]
end
def Ix:Option (TypeId×List AV)→Option (TypeId×List AV)→Bool
 | some a,some b=>a.1==b.1&&jY a.2 b.2
 | _,_=>false
def kept (s s':ag):List Nat:=(List.range s.length).filter fun i=>Ix s[i]? s'[i]?
theorem Eh {s s':ag}{i:Nat}(h:(kept s s').contains i=true):s'[i]?=s[i]?:=by
 simp only[List.contains_eq_mem,decide_eq_true_eq,kept,List.mem_filter]at h
 obtain⟨_,h⟩:=h
 unfold Ix at h
 split at h
 ·rename_i a b e1 e2
  simp only[Bool.and_eq_true,beq_iff_eq]at h
  rw[e1,e2]
  have:=gU _ _ h.2
  cases a;cases b;simp only at *;rw[h.1,this]
 ·cases h
theorem MS {s s':ag}{i:Nat}(hi:i<s.length)(h:s'[i]?=s[i]?):(kept s s').contains i=true:=by
 simp only[List.contains_eq_mem,decide_eq_true_eq,kept,List.mem_filter,List.mem_range]
 refine⟨hi,?_⟩
 rw[h,List.getElem?_eq_getElem hi]
 simp[Ix,fh]
def dyn (k:Kind)(s s':ag):Kind:=match k with
 | .bX=>.call (kept s s')
 | k=>k
def K2 (rf:Bool)(o:Op)(k:Kind)(s s':ag):Kind:=match o with
 | .call _=>dyn k s s'
 | .load _ _=>if rf then dyn k s s' else k
 | _=>k
def oS:AV→Kind
 | .aN=>.app none
 | .rs _ _ j _ _=>.app (some j)
 | _=>.bX
theorem gD (x:AV):(∃q,oS x=.app q)∨oS x=.bX:=by
 cases x<;>first|exact .inr rfl|exact .inl ⟨_,rfl⟩
def bS (rf tk:Bool)(o:Op) (ρ:Operand→AV):Kind :=
 match o with
 | .alloc _=>.alloc
 | .box _ _=>if rf then .bX else .ae
 | .store _ a _=>match ρ a with
  | .ref i _=>.put i
  | _=>.bX
 | .move _=>if rf then .bX else .ae
 | .buildSlice _ _ _=>if rf then .alloc else .ae
 | .load _ a=>if rf then .bX else match ρ a with
  | .box _ _=>.ae
  | .ref i _=>if tk then .bX else .get i
  | _=>if tk then .bX else .cU
 | .call c=>if rf then(match c.callee with
   | .builtin .append=>oS ((c.args.toList.map ρ).headD .undef)
   | _=>.bX) else match c.callee with
  | .builtin _=>.ae
  | .value x=>match ρ x with
   | .fn _ first captured=>if aV ((first++c.args.toList.map ρ++captured).map AV.aa) then .ae else .bX
   | _=>.bX
  | .invoke _ _=>.bX
 | _=>.ae
theorem dR (rf tk:Bool)(o:Op) (ρ:Operand→AV)(l:List Nat):bS rf tk o ρ≠.call l:=by
 intro hk
 cases o<;>simp only[bS,reduceCtorEq]at hk
 case box=>split at hk<;>cases hk
 case store=>split at hk<;>cases hk
 case move=>split at hk<;>cases hk
 case buildSlice=>split at hk<;>cases hk
 case load t a =>
  split at hk
  ·cases hk
  split at hk
  ·cases hk
  ·split at hk<;>cases hk
  ·split at hk<;>cases hk
 case call c =>
  split at hk
  ·(split at hk<;>first|cases hk|(rcases gD ((c.args.toList.map ρ).headD .undef) with ⟨q,e⟩|e<;>rw[e]at hk<;>cases hk))
  split at hk
  ·cases hk
  ·split at hk
   ·split at hk<;>cases hk
   ·cases hk
  ·cases hk
theorem Av {C:dX}{D:a8}{rf tk:Bool}{o:Op} {ρ:Operand→AV}(hk:bS rf tk o ρ=.ae){s s':ag}{r:AV}(h:mM C D rf tk o ρ s=some (r,s'))(s2:ag):s'=s∧mM C D rf tk o ρ s2=some (r,s2):=by
 have mp:∀{x:Option AV} {s s':ag} {r:AV},(x.map fun r=>(r,s))=some (r,s')→s'=s∧(x.map fun r=>(r,s2))=some (r,s2):=by
  intro x s s' r e
  obtain⟨h1,h2⟩:=map_snd e
  exact⟨h2,by rw[h1];rfl⟩
 unfold mM at h ⊢
 split at h
 case h_1 =>
  simp only[bS]at hk
  split at hk
  ·cases hk
  ·rename_i Aw
   simp only[Aw,Bool.false_eq_true,if_false]at h ⊢
   cases h;exact⟨rfl,rfl⟩
 case h_2=>cases h;exact⟨rfl,rfl⟩
 case h_3=>exact mp h
 case h_4=>simp[bS]at hk
 case h_5 =>
  simp only[bS]at hk
  split at hk
  ·cases hk
  ·rename_i Aw
   unfold cL at h ⊢
   split at h
   ·rename_i hs
    simp only[Aw,Bool.false_eq_true,if_false]at h ⊢
    cases h
    exact⟨rfl,by rw[if_pos hs]⟩
   ·cases h
 case h_6=>exact mp h
 case h_7 =>
  simp only[bS]at hk
  split at hk
  ·cases hk
  ·rename_i Aw
   simp only[Aw,Bool.false_eq_true,if_false]at h ⊢
   exact mp h
 case h_8 t a =>
  simp only[bS]at hk
  split at hk
  ·cases hk
  rename_i Aw
  simp only[Aw,Bool.false_eq_true,if_false]at h ⊢
  split at hk
  ·rename_i cs off hb
   rw[hb]at h ⊢
   split at h
   ·exact mp h
   ·cases h
  ·split at hk<;>cases hk
  ·split at hk<;>cases hk
 case h_9 =>
  simp only[bS]at hk
  split at hk<;>cases hk
 case h_14 t x lo hi mx =>
  split at h
  ·split at h
   ·exact mp h
   ·cases h
  ·exact mp h
 case h_15 =>
  split at h
  ·exact mp h
  ·cases h
 case h_20=>cases h;exact⟨rfl,rfl⟩
 case h_21 c =>
  simp only[bS]at hk
  split at hk
  ·(split at hk<;>first|cases hk|(rcases gD ((c.args.toList.map ρ).headD .undef) with ⟨q,e⟩|e<;>rw[e]at hk<;>cases hk))
  rename_i Aw
  simp only[Aw,Bool.false_eq_true,if_false]at h ⊢
  split at h
  ·exact mp h
  ·rename_i x hx
   rw[hx]at hk
   simp only at hk
   split at h
   ·rename_i g first captured hf
    rw[hf]at hk
    simp only at hk
    split at hk
    ·rename_i hn
     unfold ab at h ⊢
     rw[if_pos hn]at h ⊢
     split at h
     ·split at h
      ·split at h
       ·rename_i hv
        cases h
        refine⟨rfl,?_⟩
        simp_all
       ·cases h
      ·cases h
     ·cases h
    ·cases hk
   ·cases h
  ·cases h
 case h_22=>cases h
 all_goals exact mp h
theorem Ax {C:dX}{D:a8}{rf tk:Bool}{o:Op} {ρ:Operand→AV}(hk:bS rf tk o ρ=.cU){s s':ag}{r:AV}(h:mM C D rf tk o ρ s=some (r,s')):s'=s:=by
 cases o<;>simp only[bS,reduceCtorEq]at hk
 case box=>split at hk<;>cases hk
 case store=>split at hk<;>cases hk
 case move=>split at hk<;>cases hk
 case buildSlice=>split at hk<;>cases hk
 case load t a =>
  split at hk
  ·cases hk
  rename_i Aw
  split at hk
  ·cases hk
  ·split at hk<;>cases hk
  ·rename_i hnb
   split at hk
   ·cases hk
   ·rename_i pw
    simp only[mM,Aw,Bool.false_eq_true,if_false]at h
    split at h
    ·unfold af at h
     split at h
     ·exact(map_snd h).2
     ·simp only[pw,Bool.false_and,Bool.false_eq_true,if_false]at h
      exact(map_snd h).2
     ·cases h
    ·cases h
 case call c =>
  split at hk
  ·(split at hk<;>first|cases hk|(rcases gD ((c.args.toList.map ρ).headD .undef) with ⟨q,e⟩|e<;>rw[e]at hk<;>cases hk))
  split at hk
  ·cases hk
  ·split at hk
   ·split at hk<;>cases hk
   ·cases hk
  ·cases hk
theorem F6 {C:dX}{D:a8}{rf tk:Bool}{o:Op} {ρ ρ':Operand→AV}(h:∀x∈o.operands,ρ x=ρ' x)(s:ag):mM C D rf tk o ρ s=mM C D rf tk o ρ' s∧bS rf tk o ρ=bS rf tk o ρ':=by
 cases o<;>simp only[Op.operands]at h
 case build t ps =>
  have:(ps.toList.map fun p=>(p.1,ρ p.2))=ps.toList.map fun p=>(p.1,ρ' p.2):=List.map_congr_left fun p hp=>by rw[h p.2 (by simp only[List.mem_toArray,List.mem_map];exact⟨p,hp,rfl⟩)]
  exact⟨by simp only[mM,this],rfl⟩
 case buildSlice t n ps =>
  have:(ps.toList.map fun p=>(p.1,ρ p.2))=ps.toList.map fun p=>(p.1,ρ' p.2):=List.map_congr_left fun p hp=>by rw[h p.2 (by simp only[List.mem_toArray,List.mem_map];exact⟨p,hp,rfl⟩)]
  exact⟨by simp only[mM,this],rfl⟩
 case makeFunc fn first captured =>
  have h1:first.toList.map ρ=first.toList.map ρ':=List.map_congr_left fun x hx=>h x (by simp[Array.mem_append];exact .inl (by simpa using hx))
  have h2:captured.toList.map ρ=captured.toList.map ρ':=List.map_congr_left fun x hx=>h x (by simp[Array.mem_append];exact .inr (by simpa using hx))
  refine⟨?_,rfl⟩
  cases fn<;>simp only[mM,h1,h2]
 case call c =>
  have h1:c.args.toList.map ρ=c.args.toList.map ρ':=List.map_congr_left fun x hx=>h x (by simp only[Call.operands];exact Array.mem_append.2 (.inr (by simpa using hx)))
  cases hc:c.callee with
  | builtin b=>exact⟨by simp only[mM,hc,h1],by simp only[bS,hc,h1]⟩
  | value x =>
   have hx:ρ x=ρ' x:=h x (by simp[Call.operands,hc])
   exact⟨by simp only[mM,hc,h1,hx],by simp only[bS,hc,h1,hx]⟩
  | invoke x m=>exact⟨by simp only[mM,hc],by simp only[bS,hc]⟩
 case slice t x lo hi mx =>
  have hx:ρ x=ρ' x:=h x (by simp)
  have hl:lo.map ρ=lo.map ρ':=by cases lo with|none=>rfl|some y=>simp[h y (by simp)]
  have hh:hi.map ρ=hi.map ρ':=by cases hi with|none=>rfl|some y=>simp[h y (by simp)]
  have hm:mx.map ρ=mx.map ρ':=by cases mx with|none=>rfl|some y=>simp[h y (by simp)]
  exact⟨by simp only[mM,hx,hl,hh,hm],rfl⟩
 case store t a v =>
  have ha:ρ a=ρ' a:=h a (by simp)
  have hv:ρ v=ρ' v:=h v (by simp)
  exact⟨by cases v<;>simp only[mM,ha,hv],by simp only[bS,ha]⟩
 case assign x =>
  have hx:ρ x=ρ' x:=h x (by simp)
  exact⟨by cases x<;>simp only[mM,hx],rfl⟩
 all_goals first
  | exact⟨rfl,rfl⟩
  | (constructor<;>simp_all [mM,bS])
theorem oT {rf tk:Bool}{o:Op} {ρ:Operand→AV}(h:mw rf o=true):bS rf tk o ρ=.alloc:=by
 cases o<;>simp only[mw,Bool.false_eq_true]at h
 ·rfl
 ·simp[bS,h]
theorem dw {C:dX}{D:a8}{rf tk:Bool}{o:Op} {ρ:Operand→AV}(hk:bS rf tk o ρ=.ae){A:Nat}{s s':ag}{r:AV}(h:lJ C D rf tk o ρ A s=some (r,s'))(s2:ag):s'=s∧lJ C D rf tk o ρ A s2=some (r,s2):=by
 unfold lJ at h ⊢
 split at h
 ·rename_i hn
  rw[oT hn]at hk;cases hk
 ·rename_i hn
  rw[if_neg hn]
  exact Av hk h s2
theorem lO {C:dX}{D:a8}{rf tk:Bool}{o:Op} {ρ:Operand→AV}(hk:bS rf tk o ρ=.cU){A:Nat}{s s':ag}{r:AV}(h:lJ C D rf tk o ρ A s=some (r,s')):s'=s:=by
 unfold lJ at h
 split at h
 ·rename_i hn
  rw[oT hn]at hk;cases hk
 ·exact Ax hk h
theorem rl {C:dX}{D:a8}{rf tk:Bool}{o:Op} {ρ:Operand→AV}(hk:bS rf tk o ρ=.cU){A B:Nat}{s s':ag}{r:AV}(h:lJ C D rf tk o ρ A s=some (r,s'))(hB:has s B=false)(x:TypeId×List AV) :
  lJ C D rf tk o ρ A (putAt s B x)=some (r,putAt s B x):=by
 unfold lJ at h ⊢
 split at h
 ·rename_i hn
  rw[oT hn]at hk;cases hk
 ·rename_i hn
  rw[if_neg hn]
  cases o<;>simp only[bS,reduceCtorEq]at hk
  case box=>split at hk<;>cases hk
  case store=>split at hk<;>cases hk
  case move=>split at hk<;>cases hk
  case buildSlice=>split at hk<;>cases hk
  case load t a =>
   split at hk
   ·cases hk
   rename_i Aw
   split at hk
   ·cases hk
   ·split at hk<;>cases hk
   ·rename_i hnb hnr
    split at hk
    ·cases hk
    ·simp only[mM,Aw,Bool.false_eq_true,if_false]at h
     split at h
     ·unfold af at h
      split at h
      ·rename_i e;exact absurd e (hnb _ _)
      ·rename_i e;exact absurd e (hnr _ _)
      ·cases h
     ·cases h
  case call c =>
   split at hk
   ·(split at hk<;>first|cases hk|(rcases gD ((c.args.toList.map ρ).headD .undef) with ⟨q,e⟩|e<;>rw[e]at hk<;>cases hk))
   split at hk
   ·cases hk
   ·split at hk
    ·split at hk<;>cases hk
    ·cases hk
   ·cases hk
theorem kD {rf tk:Bool}{o:Op} {ρ:Operand→AV}(hk:bS rf tk o ρ=.alloc):mw rf o=true:=by
 cases o<;>simp only[bS,reduceCtorEq]at hk
 case alloc t=>rfl
 case box=>split at hk<;>cases hk
 case store=>split at hk<;>cases hk
 case move=>split at hk<;>cases hk
 case buildSlice =>
  split at hk
  ·assumption
  ·cases hk
 case load t a =>
  split at hk
  ·cases hk
  split at hk
  ·cases hk
  ·split at hk<;>cases hk
  ·split at hk<;>cases hk
 case call c =>
  split at hk
  ·(split at hk<;>first|cases hk|(rcases gD ((c.args.toList.map ρ).headD .undef) with ⟨q,e⟩|e<;>rw[e]at hk<;>cases hk))
  split at hk
  ·cases hk
  ·split at hk
   ·split at hk<;>cases hk
   ·cases hk
  ·cases hk
theorem nK {C:dX}{D:a8}{rf tk:Bool}{o:Op} {ρ:Operand→AV}(hn:mw rf o=true){A:Nat}{s s':ag}{v:AV}:lJ C D rf tk o ρ A s=some (v,s')↔∃x r,mT C.P o ρ=some (x,r)∧has s A=false∧v=r A∧s'=putAt s A x:=by
 unfold lJ
 rw[if_pos hn]
 constructor
 ·intro h
  split at h
  ·rename_i x r hx
   split at h
   ·cases h
   ·rename_i hA
    cases h
    exact⟨x,r,hx,by simpa using hA,rfl,rfl⟩
  ·cases h
 ·rintro⟨x,r,hx,hA,rfl,rfl⟩
  rw[hx]
  simp[hA]
theorem CD {s:ag}{A B:Nat}(h:A≠B)(x y:TypeId×List AV)(hx:has s A=false∨s.length≤A):putAt (putAt s A x) B y=putAt (putAt s B y) A x:=by
 have hl:∀(s:ag) (A:Nat) (x:TypeId×List AV),(putAt s A x).length=max s.length (A+1):=by
  intro s A x
  unfold putAt
  split
  ·simp;omega
  ·simp;omega
 apply List.ext_getElem?
 intro k
 simp only[jG,hl]
 by_cases h1:k=A
 ·subst h1
  rw[if_neg h,if_pos (by omega),if_pos rfl,if_pos rfl]
 ·by_cases h2:k=B
  ·subst h2
   rw[if_pos rfl,if_neg h1,if_pos (by omega),if_pos rfl]
  ·rw[if_neg h2,if_neg h1,if_neg h1,if_neg h2]
   by_cases h3:k<s.length
   ·rw[if_pos h3,if_pos h3,if_pos (by omega),if_pos (by omega)]
   ·rw[if_neg h3,if_neg h3]
    by_cases h4:k<A<;>by_cases h5:k<B
    all_goals first
     | rw[if_pos h4]|rw[if_neg h4]
    all_goals first
     | rw[if_pos h5]|rw[if_neg h5]
    all_goals (repeat' split)<;>first|rfl|omega
theorem CE {C:dX}{D:a8}{rf tk Iy zY:Bool}{o o':Op} {ρ ρ':Operand→AV}(hn:mw rf o=true)(RW:mw Iy o'=true){A B:Nat}{s s1 s2:ag}{r r':AV}(h1:lJ C D rf tk o ρ A s=some (r,s1))(h2:lJ C D Iy zY o' ρ' B s1=some (r',s2)) :
  ∃s3,lJ C D Iy zY o' ρ' B s=some (r',s3)∧lJ C D rf tk o ρ A s3=some (r,s2):=by
 obtain⟨x,q,hx,hA,rfl,rfl⟩:=(nK hn).1 h1
 obtain⟨y,q',hy,hB,rfl,rfl⟩:=(nK RW).1 h2
 rw[rh (As hx)]at hB
 split at hB
 ·cases hB
 rename_i hne
 refine⟨putAt s B y,(nK RW).2 ⟨y,q',hy,hB,rfl,rfl⟩,(nK hn).2 ⟨x,q,hx,?_,rfl,?_⟩⟩
 ·rw[rh (As hy),if_neg (fun e=>hne e.symm)];exact hA
 ·rw[CD hne _ _ (.inl hB)]
theorem rm {rf tk:Bool}{o:Op} {ρ:Operand→AV}{i:Nat}(hk:bS rf tk o ρ=.put i):∃t a v off,o=.store t a v∧ρ a=.ref i off:=by
 cases o<;>simp only[bS,reduceCtorEq]at hk
 case store t a v =>
  split at hk
  ·rename_i off e
   cases hk
   exact⟨t,a,v,off,rfl,e⟩
  ·cases hk
 case box=>split at hk<;>cases hk
 case move=>split at hk<;>cases hk
 case buildSlice=>split at hk<;>cases hk
 case load t a =>
  split at hk
  ·cases hk
  split at hk
  ·cases hk
  ·split at hk<;>cases hk
  ·split at hk<;>cases hk
 case call c =>
  split at hk
  ·(split at hk<;>first|cases hk|(rcases gD ((c.args.toList.map ρ).headD .undef) with ⟨q,e⟩|e<;>rw[e]at hk<;>cases hk))
  split at hk
  ·cases hk
  ·split at hk
   ·split at hk<;>cases hk
   ·cases hk
  ·cases hk
theorem CF {n i off:Nat}{s s1:ag}{y:AV}(h2:aB n s (.ref i off) y=some s1):∃x,s1=s.set i x∧∀s':ag,s'[i]?=s[i]?→aB n s' (.ref i off) y=some (s'.set i x):=by
 unfold aB at h2
 simp only at h2
 split at h2
 ·rename_i hs
  split at h2
  ·rename_i cs hcs
   split at h2
   ·rename_i hc
    cases h2
    refine⟨_,rfl,fun s' e=>?_⟩
    simp only[aB,if_pos hs,e,hcs,if_pos hc]
   ·cases h2
  ·cases h2
 ·cases h2
theorem rp {C:dX}{D:a8}{rf tk:Bool}{t:TypeId}{a v:Operand} {ρ:Operand→AV}{A i off:Nat}{s s1:ag}{r:AV}(ha:ρ a=.ref i off)(h:lJ C D rf tk (.store t a v) ρ A s=some (r,s1)) :
  ∃x,s1=s.set i x∧∀s':ag,s'[i]?=s[i]?→lJ C D rf tk (.store t a v) ρ A s'=some (r,s'.set i x):=by
 simp only[lJ,mw,Bool.false_eq_true,if_false,mM]at h ⊢
 cases hz:da C.P t with
 | none=>rw[hz]at h;cases h
 | some n =>
  rw[hz]at h
  simp only[ha]at h ⊢
  cases v<;>(
   simp only at h ⊢
   rw[Option.map_eq_some_iff]at h
   obtain⟨s2,h2,e⟩:=h
   cases e
   obtain⟨x,h3,h4⟩:=CF h2
   exact⟨x,h3,fun s' e=>by rw[h4 s' e];rfl⟩)
theorem CG {C:dX}{D:a8}{rf tk Iy zY:Bool}{o o':Op} {ρ ρ':Operand→AV}{i j:Nat}(hk:bS rf tk o ρ=.put i)(hk':bS Iy zY o' ρ'=.put j)(MT:i≠j){A B:Nat}{s s1 s2:ag}{r r':AV}(h1:lJ C D rf tk o ρ A s=some (r,s1))(h2:lJ C D Iy zY o' ρ' B s1=some (r',s2)) :
  ∃s3,lJ C D Iy zY o' ρ' B s=some (r',s3)∧lJ C D rf tk o ρ A s3=some (r,s2):=by
 obtain⟨t,a,v,off,rfl,ha⟩:=rm hk
 obtain⟨t',a',v',aaZ,rfl,ha'⟩:=rm hk'
 obtain⟨x,rfl,hx⟩:=rp ha h1
 obtain⟨y,rfl,hy⟩:=rp ha' h2
 refine⟨s.set j y,hy s (by rw[List.getElem?_set_ne MT]),?_⟩
 rw[List.set_comm _ _ MT]
 exact hx (s.set j y) (by rw[List.getElem?_set_ne (fun e=>MT e.symm)])
theorem gG {C:dX}{D:a8}{rf tk:Bool}{o:Op} {ρ:Operand→AV}{i:Nat}(hk:bS rf tk o ρ=.get i){A:Nat}{s s':ag}{r:AV}(h:lJ C D rf tk o ρ A s=some (r,s')) :
  s'=s∧has s i=true∧∀s2:ag,s2[i]?=s[i]?→lJ C D rf tk o ρ A s2=some (r,s2):=by
 cases o<;>simp only[bS,reduceCtorEq]at hk
 case box=>split at hk<;>cases hk
 case store=>split at hk<;>cases hk
 case move=>split at hk<;>cases hk
 case buildSlice=>split at hk<;>cases hk
 case load t a =>
  split at hk
  ·cases hk
  rename_i Aw
  split at hk
  ·cases hk
  ·rename_i id off he
   split at hk
   ·cases hk
   ·rename_i pw
    cases hk
    simp only[lJ,mw,Bool.false_eq_true,if_false,mM,Aw,he]at h ⊢
    split at h
    ·rename_i agg n h1 h2
     simp only[af,pw,Bool.false_and,Bool.false_eq_true,if_false]at h ⊢
     obtain⟨hr,hs⟩:=map_snd h
     refine⟨hs,?_,fun s2 e=>?_⟩
     ·unfold jU at hr
      split at hr
      ·rename_i cs hcs
       refine fc hcs fun hne=>?_
       rw[hne]at hr
       split at hr
       ·cases hr
       rename_i hdt
       have hn:=(not_or.1 hdt).2
       unfold ff at hr
       cases agg with
       | true =>
        simp only[if_true,List.length_nil]at hr
        split at hr
        ·omega
        ·cases hr
       | false=>simp at hr
      ·cases hr
     ·have:jU agg n s2 i off=some r:=by
       unfold jU at hr ⊢
       rw[e];exact hr
      rw[this];rfl
    ·cases h
  ·split at hk<;>cases hk
 case call c =>
  split at hk
  ·(split at hk<;>first|cases hk|(rcases gD ((c.args.toList.map ρ).headD .undef) with ⟨q,e⟩|e<;>rw[e]at hk<;>cases hk))
  split at hk
  ·cases hk
  ·split at hk
   ·split at hk<;>cases hk
   ·cases hk
  ·cases hk
theorem F7 {C:dX}{D:a8}{rf tk:Bool}{o:Op} {ρ:Operand→AV}{q:Option Nat}(hk:bS rf tk o ρ=.app q){A:Nat}{s s':ag}{r:AV}(h:lJ C D rf tk o ρ A s=some (r,s')) :
  ∀i,i<s.length→q≠some i→s'[i]?=s[i]?:=by
 intro i hi hq
 cases o<;>simp only[bS,reduceCtorEq]at hk
 case box=>split at hk<;>cases hk
 case store=>split at hk<;>cases hk
 case move=>split at hk<;>cases hk
 case buildSlice=>split at hk<;>cases hk
 case load t a =>
  split at hk
  ·cases hk
  split at hk
  ·cases hk
  ·split at hk<;>cases hk
  ·split at hk<;>cases hk
 case call c =>
  split at hk
  ·rename_i Aw
   split at hk
   ·rename_i hc
    simp only[lJ,mw,Bool.false_eq_true,if_false,mM,hc,Aw,if_true,oQ]at h
    split at h
    ·rename_i t t2 x y h1 h2 h3
     rw[h3]at hk
     simp only[List.headD_cons]at hk
     unfold bA at h
     split at h
     ·split at h
      ·split at h
       ·split at h
        ·cases h
        ·split at h
         ·split at h
          ·split at h
           ·cases h;rfl
           ·cases h;exact List.getElem?_append_left hi
          ·cases h
         ·rename_i id off len
          simp only[oS,Kind.app.injEq]at hk
          have hne:id≠i:=fun e=>hq (by rw[←hk,e])
          split at h
          ·split at h
           ·split at h
            ·cases h
             rw[List.getElem?_append_left (by rw[show (kill s id).length=s.length from List.length_set];exact hi)]
             exact List.getElem?_set_ne hne
            ·cases h
           ·cases h
          ·cases h
         ·cases h
       ·cases h
      ·cases h
     ·cases h
    ·cases h
   ·cases hk
  split at hk
  ·cases hk
  ·split at hk
   ·split at hk<;>cases hk
   ·cases hk
  ·cases hk
theorem wY {C:dX}{D:a8}{rf tk:Bool}{o:Op} {ρ ρ':Operand→AV}(h:∀x∈o.operands,ρ x=ρ' x)(A:Nat)(s:ag):lJ C D rf tk o ρ A s=lJ C D rf tk o ρ' A s∧bS rf tk o ρ=bS rf tk o ρ':=by
 obtain⟨h1,h2⟩:=F6 (C:=C) (D:=D) (rf:=rf) (tk:=tk) h s
 refine⟨?_,h2⟩
 unfold lJ
 rw[h1]
 split
 ·have:mT C.P o ρ=mT C.P o ρ':=by
   cases o<;>simp only[mT]
   case buildSlice t n ps =>
    congr 1
    exact List.map_congr_left fun p hp=>by rw[h p.2 (by simp only[Op.operands,List.mem_toArray,List.mem_map];exact⟨p,hp,rfl⟩)]
  rw[this]
 ·rfl
end Go.Abs
end

section
namespace Go.Abs
open Go
def yy (o:Op):List Nat:=o.operands.toList.filterMap fun|.tmp t=>some t|_=>none
def oU (ops:List Oper)(o:Oper):List Nat:=match o.guard with
 | some (j,_)=>((ops[j]?).bind (·.dst)).toList
 | none=>[]
def fj (C:dX)(f:FuncId)(ops:List Oper)(o:Oper):List Nat:=o.dst.toList++(gh (cH C f ops o) o.op).toList
def pV (C:dX)(f:FuncId)(ops:List Oper)(o:Oper):List Nat:=yy o.op++oU ops o++fj C f ops o
def indep (C:dX)(f:FuncId)(ops:List Oper)(a b:Oper):Bool :=
 (fj C f ops a).all (fun t=>!(pV C f ops b).contains t)&&(fj C f ops b).all (fun t=>!(pV C f ops a).contains t)
def kv (env:Env)(tk dst:Option Nat)(r:AV):Env:=oJ (is env tk) dst r
theorem lh {env:Env}{tk dst:Option Nat}{r:AV}{t:Nat}(h:t∉dst.toList++tk.toList):kv env tk dst r t=env t:=by
 unfold kv oJ is
 cases dst<;>cases tk<;>simp_all [HY]
theorem uO {env env':Env}{tk dst:Option Nat}{r:AV}{t:Nat}(h:env t=env' t):kv env tk dst r t=kv env' tk dst r t:=by
 unfold kv oJ is
 cases dst<;>cases tk<;>simp only[HY]<;>(repeat' split)<;>simp_all
theorem F8 {env:Env}{tk dst zY MU:Option Nat}{r r':AV}(h:∀t∈dst.toList++tk.toList,t∉MU.toList++zY.toList) :
  kv (kv env tk dst r) zY MU r'=kv (kv env zY MU r') tk dst r:=by
 funext t
 by_cases h1:t∈dst.toList++tk.toList
 ·rw[lh (h t h1)]
  exact(uO (lh (h t h1))).symm
 ·rw[lh (env:=kv env zY MU r') h1]
  exact uO (lh h1)
def iR (C:dX)(f:FuncId)(ops:List Oper)(i:Nat)(st:mN)(s':ag):Kind :=
 match ops[i]? with
 | none=>.ae
 | some o=>match bU ops o st.1 with
  | some true=>K2 (b_ C f o) o.op (bS (b_ C f o) (cH C f ops o) o.op (ku C st.1)) st.2 s'
  | _=>.ae
theorem jZ (rf:Bool)(o:Op)(k:Kind):(∀a b,K2 rf o k a b=k)∨(k=.bX∧∀a b,K2 rf o k a b=.call (kept a b)):=by
 cases o with
 | load t a=>cases rf<;>cases k<;>first|exact .inl fun _ _=>rfl|exact .inr ⟨rfl,fun _ _=>rfl⟩
 | call c=>cases k<;>first|exact .inl fun _ _=>rfl|exact .inr ⟨rfl,fun _ _=>rfl⟩
 | _=>exact .inl fun _ _=>rfl
theorem wF {ops:List Oper}{o:Oper}{env env':Env}(h:∀t∈oU ops o,env t=env' t):bU ops o env=bU ops o env':=by
 unfold bU
 unfold oU at h
 split
 ·rfl
 ·rename_i j want hg
  rw[hg]at h
  split
  ·rename_i d hd
   simp only[hd]at h
   rw[h d (by simp)]
  ·rfl
theorem F_ {C:dX}{o:Op}{env env':Env}(h:∀t∈yy o,env t=env' t):∀x∈o.operands,ku C env x=ku C env' x:=by
 intro x hx
 cases x with
 | tmp t=>exact h t (by simp only[yy,List.mem_filterMap];exact⟨.tmp t,by simpa using hx,rfl⟩)
 | _=>rfl
theorem CH {rf Iy:Bool}{o o':Op}{k k':Kind}{a b a' b':ag}(hk:∀l,k≠.call l)(hk':∀l,k'≠.call l)(h:de (K2 rf o k a b) (K2 Iy o' k' a' b')=true):de k k'=true∨(∃q,k=.get q∧k'=.bX∧(kept a' b').contains q=true)∨∃q,k=.bX∧k'=.get q∧(kept a b).contains q=true:=by
 rcases jZ rf o k with e|⟨e,h1⟩
 ·rw[e]at h
  rcases jZ Iy o' k' with e'|⟨e',h2⟩
  ·rw[e']at h;exact .inl h
  ·subst e'
   rw[h2]at h
   cases k<;>first|exact .inl rfl|exact .inr (.inl ⟨_,rfl,rfl,h⟩)|cases h
 ·subst e
  rw[h1]at h
  rcases jZ Iy o' k' with e'|⟨e',h2⟩
  ·rw[e']at h
   cases k'<;>first|exact .inl rfl|exact .inr (.inr ⟨_,rfl,rfl,h⟩)|cases h
  ·subst e'
   rw[h2]at h;cases h
theorem swap {C:dX}{D:a8}{f:FuncId}{N:Nat}{ops:List Oper}{i j:Nat}{oi oj:Oper}(hi:ops[i]?=some oi)(hj:ops[j]?=some oj)(WB:indep C f ops oi oj=true){A B:Nat}{st st1 st2:mN}
  (h1:gT C D f N ops A i st=some st1)(h2:gT C D f N ops B j st1=some st2)(hc:de (iR C f ops i st st1.2) (iR C f ops j st1 st2.2)=true) :
  ∃MV,gT C D f N ops B j st=some MV∧gT C D f N ops A i MV=some st2∧iR C f ops j st MV.2=iR C f ops j st1 st2.2∧iR C f ops i MV st2.2=iR C f ops i st st1.2:=by
 obtain⟨env,s⟩:=st
 simp only[indep,Bool.and_eq_true,List.all_eq_true,Bool.not_eq_true',List.contains_eq_mem,decide_eq_false_iff_not]at WB
 obtain⟨MT,hji⟩:=WB
 -- what one writes the other does not see
 have nmj:∀t,t∈pV C f ops oj→t∉fj C f ops oi:=fun t ht hw=>MT t hw ht
 have nmi:∀t,t∈pV C f ops oi→t∉fj C f ops oj:=fun t ht hw=>hji t hw ht
 have R9:∀t∈fj C f ops oi,t∉fj C f ops oj:=fun t ht hw=>nmi t (List.mem_append_right _ ht) hw
 have seen:∀(ox oy:Oper) (_:∀t,t∈pV C f ops oy→t∉fj C f ops ox) (e e':Env) (_:∀t,t∉fj C f ops ox→e' t=e t),
   bU ops oy e'=bU ops oy e∧(∀A s,lJ C D (b_ C f oy) (cH C f ops oy) oy.op (ku C e') A s=lJ C D (b_ C f oy) (cH C f ops oy) oy.op (ku C e) A s) ∧
   bS (b_ C f oy) (cH C f ops oy) oy.op (ku C e')=bS (b_ C f oy) (cH C f ops oy) oy.op (ku C e):=by
  intro ox oy hn e e' he
  have QC:=F_ (C:=C) (o:=oy.op) (env:=e') (env':=e) (fun t ht=>he t (hn t (List.mem_append_left _ (List.mem_append_left _ ht))))
  exact⟨wF fun t ht=>he t (hn t (List.mem_append_left _ (List.mem_append_right _ ht))),fun A s=>(wY QC A s).1,(wY (C:=C) (D:=D) QC 0 []).2⟩
 simp only[gT,hi]at h1
 split at h1
 case isFalse=>cases h1
 rename_i hdi
 simp only[gT,hj]at h2
 split at h2
 case isFalse=>cases h2
 rename_i hdj
 -- each operation's effect
 have ei:∃H3 ri s1,st1=(kv env H3 oi.dst ri,s1)∧(∀t,t∈oi.dst.toList++H3.toList→t∈fj C f ops oi) ∧
   ((bU ops oi env=some true∧lJ C D (b_ C f oi) (cH C f ops oi) oi.op (ku C env) A s=some (ri,s1)∧H3=gh (cH C f ops oi) oi.op)∨(bU ops oi env=some false∧ri=.aI []∧s1=s∧H3=none)):=by
  split at h1
  ·cases h1
  ·rename_i hw
   split at h1
   ·rename_i r s1 ho;cases h1
    exact⟨_,r,s1,rfl,fun t ht=>ht,.inl ⟨hw,ho,rfl⟩⟩
   ·cases h1
  ·rename_i hw;cases h1
   exact⟨none,.aI [],s,rfl,fun t ht=>by simp at ht;simp[fj,ht],.inr ⟨hw,rfl,rfl,rfl⟩⟩
 obtain⟨H3,ri,s1,rfl,hwi,hi'⟩:=ei
 have aa5:∀t,t∉fj C f ops oi→kv env H3 oi.dst ri t=env t:=fun t ht=>lh fun h=>ht (hwi t h)
 obtain⟨q1,q2,q3⟩:=seen oi oj nmj env _ aa5
 simp only[q1]at h2
 have ej:∃H4 rj s2,st2=(kv (kv env H3 oi.dst ri) H4 oj.dst rj,s2)∧(∀t,t∈oj.dst.toList++H4.toList→t∈fj C f ops oj) ∧
   ((bU ops oj env=some true∧lJ C D (b_ C f oj) (cH C f ops oj) oj.op (ku C env) B s1=some (rj,s2)∧H4=gh (cH C f ops oj) oj.op)∨(bU ops oj env=some false∧rj=.aI []∧s2=s1∧H4=none)):=by
  split at h2
  ·cases h2
  ·rename_i hw
   split at h2
   ·rename_i r s2 ho;cases h2
    exact⟨_,r,s2,rfl,fun t ht=>ht,.inl ⟨hw,by rw[←q2];exact ho,rfl⟩⟩
   ·cases h2
  ·rename_i hw;cases h2
   exact⟨none,.aI [],s1,rfl,fun t ht=>by simp at ht;simp[fj,ht],.inr ⟨hw,rfl,rfl,rfl⟩⟩
 obtain⟨H4,rj,s2,rfl,hwj,hj'⟩:=ej
 have WC:kv (kv env H3 oi.dst ri) H4 oj.dst rj=kv (kv env H4 oj.dst rj) H3 oi.dst ri :=
  F8 fun t ht h'=>R9 t (hwi t ht) (hwj t h')
 have WD:∀t,t∉fj C f ops oj→kv env H4 oj.dst rj t=env t:=fun t ht=>lh fun h=>ht (hwj t h)
 obtain⟨p1,p2,p3⟩:=seen oj oi nmi env _ WD
 have hcw:bU ops oi env=some true→bU ops oj env=some true→de (bS (b_ C f oi) (cH C f ops oi) oi.op (ku C env)) (bS (b_ C f oj) (cH C f ops oj) oj.op (ku C env))=true ∨
   (∃q,bS (b_ C f oi) (cH C f ops oi) oi.op (ku C env)=.get q∧bS (b_ C f oj) (cH C f ops oj) oj.op (ku C env)=.bX∧(kept s1 s2).contains q=true) ∨
   ∃q,bS (b_ C f oi) (cH C f ops oi) oi.op (ku C env)=.bX∧bS (b_ C f oj) (cH C f ops oj) oj.op (ku C env)=.get q∧(kept s s1).contains q=true:=by
  intro wi wj
  simp only[iR,hi,hj,wi,q1,wj,q3]at hc
  exact CH (dR _ _ _ _) (dR _ _ _ _) hc
 -- the two effects on the heap
 have heap:∃Ga,(((bU ops oj env=some true∧lJ C D (b_ C f oj) (cH C f ops oj) oj.op (ku C env) B s=some (rj,Ga)∧H4=gh (cH C f ops oj) oj.op)∨(bU ops oj env=some false∧rj=.aI []∧Ga=s∧H4=none))) ∧
   ((bU ops oi env=some true∧lJ C D (b_ C f oi) (cH C f ops oi) oi.op (ku C env) A Ga=some (ri,s2)∧H3=gh (cH C f ops oi) oi.op)∨(bU ops oi env=some false∧ri=.aI []∧s2=Ga∧H3=none)):=by
  rcases hi' with ⟨wi,sP,ti⟩|⟨wi,rfl,rfl,ti⟩
  ·rcases hj' with ⟨wj,lj,tj⟩|⟨wj,rfl,rfl,tj⟩
   ·rcases hcw wi wj with gQ|⟨q,k_,gW,Iz⟩|⟨q,k_,gW,Iz⟩
    case inr.inl =>
     obtain⟨e1,Mf,R_⟩:=gG k_ sP
     subst e1
     exact⟨s2,.inl ⟨wj,lj,tj⟩,.inl ⟨wi,R_ _ (Eh Iz),ti⟩⟩
    case inr.inr =>
     obtain⟨e1,Mf,R_⟩:=gG gW lj
     subst e1
     exact⟨s,.inl ⟨wj,R_ _ (Eh Iz).symm,tj⟩,.inl ⟨wi,sP,ti⟩⟩
    cases k_:bS (b_ C f oi) (cH C f ops oi) oi.op (ku C env) with
    | call l=>exact absurd k_ (dR _ _ _ _ _)
    | ae =>
     obtain⟨e1,e2⟩:=dw k_ sP s2
     subst e1
     exact⟨s2,.inl ⟨wj,lj,tj⟩,.inl ⟨wi,e2,ti⟩⟩
    | cU =>
     have e1:=lO k_ sP
     subst e1
     cases gW:bS (b_ C f oj) (cH C f ops oj) oj.op (ku C env) with
     | call l=>exact absurd gW (dR _ _ _ _ _)
     | ae =>
      obtain⟨e2,e3⟩:=dw gW lj s1
      subst e2
      exact⟨s2,.inl ⟨wj,e3,tj⟩,.inl ⟨wi,sP,ti⟩⟩
     | cU =>
      have e2:=lO gW lj
      subst e2
      exact⟨s2,.inl ⟨wj,lj,tj⟩,.inl ⟨wi,sP,ti⟩⟩
     | bX=>rw[k_,gW]at gQ;cases gQ
     | put j=>rw[k_,gW]at gQ;cases gQ
     | app j=>rw[k_,gW]at gQ;cases gQ
     | get j =>
      obtain⟨e2,_,_⟩:=gG gW lj
      subst e2
      exact⟨s2,.inl ⟨wj,lj,tj⟩,.inl ⟨wi,sP,ti⟩⟩
     | alloc =>
      have hB:∃x,has s1 B=false∧s2=putAt s1 B x:=by
       obtain⟨x,_,_,hB,_,rfl⟩:=(nK (kD gW)).1 lj
       exact⟨x,hB,rfl⟩
      obtain⟨x,hB,rfl⟩:=hB
      exact⟨_,.inl ⟨wj,lj,tj⟩,.inl ⟨wi,rl k_ sP hB x,ti⟩⟩
    | alloc =>
     cases gW:bS (b_ C f oj) (cH C f ops oj) oj.op (ku C env) with
     | call l=>exact absurd gW (dR _ _ _ _ _)
     | ae =>
      obtain⟨e2,e3⟩:=dw gW lj s
      subst e2
      exact⟨s,.inl ⟨wj,e3,tj⟩,.inl ⟨wi,sP,ti⟩⟩
     | cU=>rw[k_,gW]at gQ;cases gQ
     | bX=>rw[k_,gW]at gQ;cases gQ
     | put j=>rw[k_,gW]at gQ;cases gQ
     | get j=>rw[k_,gW]at gQ;cases gQ
     | app j=>rw[k_,gW]at gQ;cases gQ
     | alloc =>
      obtain⟨s3,h3,h4⟩:=CE (kD k_) (kD gW) sP lj
      exact⟨s3,.inl ⟨wj,h3,tj⟩,.inl ⟨wi,h4,ti⟩⟩
    | bX =>
     cases gW:bS (b_ C f oj) (cH C f ops oj) oj.op (ku C env) with
     | call l=>exact absurd gW (dR _ _ _ _ _)
     | ae =>
      obtain⟨e2,e3⟩:=dw gW lj s
      subst e2
      exact⟨s,.inl ⟨wj,e3,tj⟩,.inl ⟨wi,sP,ti⟩⟩
     | cU=>rw[k_,gW]at gQ;cases gQ
     | bX=>rw[k_,gW]at gQ;cases gQ
     | alloc=>rw[k_,gW]at gQ;cases gQ
     | put j=>rw[k_,gW]at gQ;cases gQ
     | get j=>rw[k_,gW]at gQ;cases gQ
     | app j=>rw[k_,gW]at gQ;cases gQ
    | app i =>
     cases gW:bS (b_ C f oj) (cH C f ops oj) oj.op (ku C env) with
     | call l=>exact absurd gW (dR _ _ _ _ _)
     | ae =>
      obtain⟨e2,e3⟩:=dw gW lj s
      subst e2
      exact⟨s,.inl ⟨wj,e3,tj⟩,.inl ⟨wi,sP,ti⟩⟩
     | cU=>rw[k_,gW]at gQ;cases gQ
     | bX=>rw[k_,gW]at gQ;cases gQ
     | alloc=>rw[k_,gW]at gQ;cases gQ
     | put j=>rw[k_,gW]at gQ;cases gQ
     | get j=>rw[k_,gW]at gQ;cases gQ
     | app j=>rw[k_,gW]at gQ;cases gQ
    | get i =>
     obtain⟨e1,Mf,R_⟩:=gG k_ sP
     subst e1
     have hil:i<s1.length:=by
      obtain⟨cs,h1,_⟩:=tJ Mf
      exact(List.getElem?_eq_some_iff.1 h1).1
     cases gW:bS (b_ C f oj) (cH C f ops oj) oj.op (ku C env) with
     | call l=>exact absurd gW (dR _ _ _ _ _)
     | ae =>
      obtain⟨e2,e3⟩:=dw gW lj s1
      subst e2
      exact⟨s2,.inl ⟨wj,e3,tj⟩,.inl ⟨wi,sP,ti⟩⟩
     | cU =>
      have e2:=lO gW lj
      subst e2
      exact⟨s2,.inl ⟨wj,lj,tj⟩,.inl ⟨wi,sP,ti⟩⟩
     | get j =>
      obtain⟨e2,_,_⟩:=gG gW lj
      subst e2
      exact⟨s2,.inl ⟨wj,lj,tj⟩,.inl ⟨wi,sP,ti⟩⟩
     | bX=>rw[k_,gW]at gQ;cases gQ
     | alloc =>
      obtain⟨x,_,_,hB,_,rfl⟩:=(nK (kD gW)).1 lj
      have hne:i≠B:=fun e=>by rw[e]at Mf;rw[Mf]at hB;cases hB
      exact⟨_,.inl ⟨wj,lj,tj⟩,.inl ⟨wi,R_ _ (by rw[jG,if_neg hne,if_pos hil]),ti⟩⟩
     | put j =>
      rw[k_,gW]at gQ
      have MT:i≠j:=by simpa[de] using gQ
      obtain⟨t,a,v,off,ho,ha⟩:=rm gW
      rw[ho]at lj
      obtain⟨x,rfl,hx⟩:=rp ha lj
      rw[←ho]at lj
      exact⟨_,.inl ⟨wj,lj,tj⟩,.inl ⟨wi,R_ _ (List.getElem?_set_ne (fun e=>MT e.symm)),ti⟩⟩
     | app q =>
      rw[k_,gW]at gQ
      have hq:q≠some i:=by simpa[de] using gQ
      exact⟨_,.inl ⟨wj,lj,tj⟩,.inl ⟨wi,R_ _ (F7 gW lj i hil hq),ti⟩⟩
    | put i =>
     cases gW:bS (b_ C f oj) (cH C f ops oj) oj.op (ku C env) with
     | call l=>exact absurd gW (dR _ _ _ _ _)
     | ae =>
      obtain⟨e2,e3⟩:=dw gW lj s
      subst e2
      exact⟨s,.inl ⟨wj,e3,tj⟩,.inl ⟨wi,sP,ti⟩⟩
     | cU=>rw[k_,gW]at gQ;cases gQ
     | bX=>rw[k_,gW]at gQ;cases gQ
     | alloc=>rw[k_,gW]at gQ;cases gQ
     | get j=>rw[k_,gW]at gQ;cases gQ
     | app j=>rw[k_,gW]at gQ;cases gQ
     | put j =>
      rw[k_,gW]at gQ
      obtain⟨s3,h3,h4⟩:=CG k_ gW (by simpa[de] using gQ) sP lj
      exact⟨s3,.inl ⟨wj,h3,tj⟩,.inl ⟨wi,h4,ti⟩⟩
   ·exact⟨s,.inr ⟨wj,rfl,rfl,tj⟩,.inl ⟨wi,sP,ti⟩⟩
  ·rcases hj' with ⟨wj,lj,tj⟩|⟨wj,rfl,rfl,tj⟩
   ·exact⟨s2,.inl ⟨wj,lj,tj⟩,.inr ⟨wi,rfl,rfl,ti⟩⟩
   ·exact⟨_,.inr ⟨wj,rfl,rfl,tj⟩,.inr ⟨wi,rfl,rfl,ti⟩⟩
 obtain⟨Ga,gj,gi⟩:=heap
 have IA:bU ops oi env=some true→bS (b_ C f oi) (cH C f ops oi) oi.op (ku C env)=.ae→s1=s:=by
  intro wi hk
  rcases hi' with ⟨_,sP,_⟩|⟨w',_⟩
  ·exact(dw hk sP s).1
  ·rw[wi]at w';cases w'
 have WE:∀q,bU ops oi env=some true→bS (b_ C f oi) (cH C f ops oi) oi.op (ku C env)=.get q→s1=s:=by
  intro q wi hk
  rcases hi' with ⟨_,sP,_⟩|⟨w',_⟩
  ·exact(gG hk sP).1
  ·rw[wi]at w';cases w'
 have IB:bU ops oj env=some true→bS (b_ C f oj) (cH C f ops oj) oj.op (ku C env)=.ae→s2=s1∧Ga=s:=by
  intro wj hk
  refine⟨?_,?_⟩
  ·rcases hj' with ⟨_,lj,_⟩|⟨w',_⟩
   ·exact(dw hk lj s).1
   ·rw[wj]at w';cases w'
  ·rcases gj with ⟨_,lj,_⟩|⟨w',_⟩
   ·exact(dw hk lj s).1
   ·rw[wj]at w';cases w'
 have WF:∀q,bU ops oj env=some true→bS (b_ C f oj) (cH C f ops oj) oj.op (ku C env)=.get q→s2=s1∧Ga=s:=by
  intro q wj hk
  refine⟨?_,?_⟩
  ·rcases hj' with ⟨_,lj,_⟩|⟨w',_⟩
   ·exact(gG hk lj).1
   ·rw[wj]at w';cases w'
  ·rcases gj with ⟨_,lj,_⟩|⟨w',_⟩
   ·exact(gG hk lj).1
   ·rw[wj]at w';cases w'
 have WG:bU ops oj env≠some true→s2=s1∧Ga=s:=by
  intro wj
  refine⟨?_,?_⟩
  ·rcases hj' with ⟨w',_⟩|⟨_,_,e,_⟩
   ·exact absurd w' wj
   ·exact e
  ·rcases gj with ⟨w',_⟩|⟨_,_,e,_⟩
   ·exact absurd w' wj
   ·exact e
 have WH:bU ops oi env≠some true→s1=s:=by
  intro wi
  rcases hi' with ⟨w',_⟩|⟨_,_,e,_⟩
  ·exact absurd w' wi
  ·exact e
 have kj:iR C f ops j (env,s) Ga=iR C f ops j (kv env H3 oi.dst ri,s1) s2:=by
  simp only[iR,hj,q1,q3]
  cases wj:bU ops oj env with
  | none=>rfl
  | some b =>
   cases b with
   | false=>rfl
   | true =>
    simp only
    rcases jZ (b_ C f oj) oj.op (bS (b_ C f oj) (cH C f ops oj) oj.op (ku C env)) with e|⟨e,_⟩
    ·rw[e,e]
    ·have hs:s1=s:=by
      by_cases wi:bU ops oi env=some true
      ·rcases hcw wi wj with hc|⟨q,hk,_⟩|⟨q,_,hk,_⟩
       ·rw[e]at hc
        refine IA wi ?_
        revert hc
        cases bS (b_ C f oi) (cH C f ops oi) oi.op (ku C env)<;>intro hc<;>first|rfl|cases hc
       ·exact WE q wi hk
       ·rw[e]at hk;cases hk
      ·exact WH wi
     have he:Ga=s2:=by
      rcases gj with ⟨_,g,_⟩|⟨w',_⟩
      ·rcases hj' with ⟨_,g',_⟩|⟨w',_⟩
       ·rw[hs,g]at g';cases g';rfl
       ·rw[wj]at w';cases w'
      ·rw[wj]at w';cases w'
     rw[hs,he]
 have ki:iR C f ops i (kv env H4 oj.dst rj,Ga) s2=iR C f ops i (env,s) s1:=by
  simp only[iR,hi,p1,p3]
  cases wi:bU ops oi env with
  | none=>rfl
  | some b =>
   cases b with
   | false=>rfl
   | true =>
    simp only
    rcases jZ (b_ C f oi) oi.op (bS (b_ C f oi) (cH C f ops oi) oi.op (ku C env)) with e|⟨e,_⟩
    ·rw[e,e]
    ·have hs:s2=s1∧Ga=s:=by
      by_cases wj:bU ops oj env=some true
      ·rcases hcw wi wj with hc|⟨q,hk,_⟩|⟨q,_,hk,_⟩
       ·rw[e]at hc
        refine IB wj ?_
        revert hc
        cases bS (b_ C f oj) (cH C f ops oj) oj.op (ku C env)<;>intro hc<;>first|rfl|cases hc
       ·rw[e]at hk;cases hk
       ·exact WF q wj hk
      ·exact WG wj
     rw[hs.1,hs.2]
 refine⟨(kv env H4 oj.dst rj,Ga),?_,?_,kj,ki⟩
 ·simp only[gT,hj]
  rw[if_pos hdj]
  rcases gj with ⟨wj,lj,tj⟩|⟨wj,rfl,rfl,tj⟩
  ·rw[wj];simp only[lj];rw[tj];rfl
  ·rw[wj,tj];rfl
 ·simp only[gT,hi]
  rw[if_pos hdi,p1,WC]
  rcases gi with ⟨wi,sP,ti⟩|⟨wi,rfl,rfl,ti⟩
  ·rw[wi];simp only[p2,sP];rw[ti];rfl
  ·rw[wi,ti];rfl
end Go.Abs
end

section
namespace Go.Abs
open Go
def cF (o:Oper):List Nat:=(o.after.toList.filter (Region.binds .any)).map (·.on)
def CJ (done:List Nat)(es:List Nat):Nat:=es.foldl (fun s e=>s ||| 2 ^ e ||| done.getD e 0) 0
def wZ:List Nat→List Oper→List Nat
 | done,[]=>done
 | done,o::os=>wZ (done++[CJ done (cF o)]) os
theorem uP (done:List Nat)(x:Nat):∀(es:List Nat)(s:Nat),(es.foldl (fun s e=>s ||| 2 ^ e ||| done.getD e 0) s).testBit x=true→s.testBit x=true∨∃e∈es,x=e∨(done.getD e 0).testBit x=true
 | [],s,h=>.inl h
 | e::es,s,h=>by
  rcases uP done x es _ h with h|⟨e',h1,h2⟩
  ·rw[Nat.testBit_or,Nat.testBit_or,Bool.or_eq_true,Bool.or_eq_true]at h
   rcases h with (h|h)|h
   ·exact .inl h
   ·rw[Nat.testBit_two_pow]at h
    exact .inr ⟨e,by simp,.inl (by simpa[eq_comm] using h)⟩
   ·exact .inr ⟨e,by simp,.inr h⟩
  ·exact .inr ⟨e',by simp[h1],h2⟩
theorem uQ:∀(ops:List Oper)(done:List Nat),(∀k,k<done.length→(wZ done ops).getD k 0=done.getD k 0) ∧
  ∀i o,ops[i]?=some o→∃pre,pre.length=done.length+i∧(∀k,k<pre.length→pre.getD k 0=(wZ done ops).getD k 0)∧(wZ done ops).getD (done.length+i) 0=CJ pre (cF o)
 | [],done=>⟨fun _ _=>rfl,fun i o h=>by simp at h⟩
 | o::os,done=>by
  obtain⟨h1,h2⟩:=uQ os (done++[CJ done (cF o)])
  simp only[wZ]
  refine⟨fun k hk=>?_,fun i q hq=>?_⟩
  ·rw[h1 k (by simp;omega),List.getD_eq_getElem?_getD,List.getD_eq_getElem?_getD,List.getElem?_append_left hk]
  ·cases i with
   | zero =>
    simp at hq
    subst hq
    refine⟨done,rfl,fun k hk=>?_,?_⟩
    ·rw[h1 k (by simp;omega),List.getD_eq_getElem?_getD,List.getD_eq_getElem?_getD,List.getElem?_append_left hk]
    ·rw[Nat.add_zero,h1 done.length (by simp),List.getD_eq_getElem?_getD,List.getElem?_append_right (Nat.le_refl _)]
     simp
   | succ i =>
    simp at hq
    obtain⟨pre,p1,p2,p3⟩:=h2 i q hq
    refine⟨pre,by rw[p1];simp;omega,p2,?_⟩
    rw[←p3];congr 1;simp;omega
def R' (ops:List Oper):List Nat:=wZ [] ops
theorem Ei {ops:List Oper}{j:Nat}{o:Oper}(h:ops[j]?=some o){x:Nat}(hb:((R' ops).getD j 0).testBit x=true) :
  ∃e∈cF o,x=e∨(e<j∧((R' ops).getD e 0).testBit x=true):=by
 obtain⟨pre,p1,p2,p3⟩:=(uQ ops []).2 j o h
 simp only[List.length_nil,Nat.zero_add]at p1 p3
 unfold R' at hb ⊢
 rw[p3]at hb
 rcases uP pre x (cF o) 0 hb with h|⟨e,h1,h2⟩
 ·simp at h
 ·refine⟨e,h1,h2.imp id fun h2=>?_⟩
  by_cases he:e<j
  ·exact⟨he,by rw[←p2 e (by omega)];exact h2⟩
  ·rw[List.getD_eq_getElem?_getD,List.getElem?_eq_none (by omega)]at h2
   simp at h2
theorem IC {ops:List Oper}{done:Nat→Prop}(hd:∀j o,done j→ops[j]?=some o→∀e∈cF o,done e)(hn:∀j,done j→j<ops.length):∀(n j:Nat)(o:Oper),j≤n→ops[j]?=some o→(∀e∈cF o,done e) →
  ∀x,((R' ops).getD j 0).testBit x=true→done x:=by
 intro n
 induction n with
 | zero =>
  intro j o hj ho he x hb
  obtain⟨e,h1,rfl|⟨h2,_⟩⟩:=Ei ho hb
  ·exact he _ h1
  ·omega
 | succ n ih =>
  intro j o hj ho he x hb
  obtain⟨e,h1,rfl|⟨h2,h3⟩⟩:=Ei ho hb
  ·exact he _ h1
  ·have hde:=he e h1
   obtain⟨oe,hoe⟩:∃oe,ops[e]?=some oe:=⟨_,List.getElem?_eq_getElem (hn e hde)⟩
   exact ih e oe (by omega) hoe (hd e oe hde hoe) x h3
inductive ID (C:dX)(D:a8)(f:FuncId)(N:Nat)(ops:List Oper)(K:Nat→Kind):List Nat→mN→mN→Prop
 | nil (st:mN):ID C D f N ops K [] st st
 | cons (i:Nat) (l:List Nat) (A:Nat) (st st1 st2:mN) (h:gT C D f N ops A i st=some st1) (hk:iR C f ops i st st1.2=K i) (t:ID C D f N ops K l st1 st2):ID C D f N ops K (i::l) st st2
theorem ID.front {C:dX}{D:a8}{f:FuncId}{N:Nat}{ops:List Oper}{K:Nat→Kind}{i:Nat}{oi:Oper}(hi:ops[i]?=some oi):∀(pre post:List Nat)(st st2:mN),
  (∀x∈pre,∃ox,ops[x]?=some ox∧indep C f ops ox oi=true∧de (K x) (K i)=true)→ID C D f N ops K (pre++i::post) st st2 →
  ∃A st1,gT C D f N ops A i st=some st1∧iR C f ops i st st1.2=K i∧ID C D f N ops K (pre++post) st1 st2
 | [],post,st,st2,_,h=>by
  cases h with
  | cons _ _ A _ st1 _ h hk t=>exact⟨A,st1,h,hk,t⟩
 | x::pre,post,st,st2,hp,h=>by
  cases h with
  | cons _ _ A _ sta _ h hk t =>
   obtain⟨B,stb,b1,b2,b3⟩:=ID.front hi pre post sta st2 (fun y hy=>hp y (by simp[hy])) t
   obtain⟨ox,o1,o2,o3⟩:=hp x (by simp)
   obtain⟨stc,c1,c2,c3,c4⟩:=swap o1 hi o2 h b1 (by rw[hk,b2];exact o3)
   exact⟨B,stc,c1,c3.trans b2,.cons x _ A _ stb _ c2 (c4.trans hk) b3⟩
def j0 (C:dX)(D:a8)(f:FuncId)(N:Nat)(ops:List Oper):List Nat→mN→Option (mN×List Kind)
 | [],st=>some (st,[])
 | i::l,st=>match gS C D f N ops i st with
  | some gw=>match j0 C D f N ops l gw with
   | some (st2,ks)=>some (st2,iR C f ops i st gw.2::ks)
   | none=>none
  | none=>none
def iy (ops:List Oper):Bool:=(List.range ops.length).all fun j=>match ops[j]? with
 | some o=>(cF o).all fun e=>e<j
 | none=>true
def gX (C:dX)(f:FuncId)(ops:List Oper)(ks:List Kind):Bool :=
 (List.range ops.length).all fun j=>(List.range j).all fun i =>
  ((R' ops).getD j 0).testBit i || match ops[i]?,ops[j]? with
   | some a,some b=>indep C f ops a b&&de (ks.getD i .ae) (ks.getD j .ae)
   | _,_=>false
def jt (C:dX)(D:a8)(f:FuncId)(N:Nat)(ops:List Oper)(draw:Bool)(st:mN):Option mN :=
 if draw then
  match j0 C D f N ops (List.range ops.length) st with
  | some (gw,ks)=>if iy ops&&gX C f ops ks then some gw else none
  | none=>none
 else fG C D f N ops (List.range ops.length) st
theorem w6 {C:dX}{D:a8}{f:FuncId}{N:Nat}{ops:List Oper}:∀(n a:Nat)(st gw:mN)(ks:List Kind)(K:Nat→Kind),j0 C D f N ops (List.range' a n) st=some (gw,ks) →
  (∀i,i<n→K (a+i)=ks.getD i .ae)→ID C D f N ops K (List.range' a n) st gw
 | 0,a,st,gw,ks,K,h,_=>by simp[j0]at h;rw[h.1];exact .nil _
 | n+1,a,st,gw,ks,K,h,hK=>by
  rw[List.range'_succ]at h ⊢
  simp only[j0]at h
  split at h
  ·rename_i st1 h1
   split at h
   ·rename_i st2 ks2 h2
    cases h
    refine .cons a _ _ _ st1 _ (yx h1) ?_ (w6 n (a+1) st1 _ ks2 K h2 fun i hi=>?_)
    ·have:=hK 0 (by omega);simpa using this.symm
    ·have:=hK (i+1) (by omega)
     rw[show a+1+i=a+(i+1) by omega,this]
     simp
   ·cases h
  ·cases h
theorem nL {ops:List Oper}{listed:Array Bool}{i:Nat} :
  i∈Region.ready .any ops.toArray listed↔i<ops.length∧listed.getD i true=false∧∀o,ops[i]?=some o→∀e∈cF o,listed.getD e false=true:=by
 unfold Region.ready
 simp only[List.mem_filter,List.mem_range,Bool.and_eq_true,Bool.not_eq_true',List.size_toArray]
 constructor
 ·rintro⟨h1,h2,h3⟩
  refine⟨h1,h2,fun o ho e he=>?_⟩
  rw[show ops.toArray[i]?=ops[i]? by simp,ho]at h3
  simp only[Option.map_some,Option.getD_some,Array.all_eq_true']at h3
  simp only[cF,List.mem_map,List.mem_filter]at he
  obtain⟨ed,⟨hm,hb⟩,rfl⟩:=he
  have:=h3 ed (by simpa using hm)
  simpa[hb] using this
 ·rintro⟨h1,h2,h3⟩
  refine⟨h1,h2,?_⟩
  obtain⟨o,ho⟩:∃o,ops[i]?=some o:=⟨_,List.getElem?_eq_getElem h1⟩
  rw[show ops.toArray[i]?=ops[i]? by simp,ho]
  simp only[Option.map_some,Option.getD_some,Array.all_eq_true']
  intro ed hm
  cases hb:Region.binds .any ed with
  | false=>rfl
  | true =>
   have:=h3 o ho ed.on (by simp only[cF,List.mem_map,List.mem_filter];exact⟨ed,⟨by simpa using hm,hb⟩,rfl⟩)
   simpa using this
theorem IE {C:dX}{W0:World}{D:a8}(E:wE C W0 D){f:FuncId}{N:Nat}{ops:List Oper}(hb:iy ops=true){K:Nat→Kind}
  (hp:∀i j oi oj,i<j→ops[i]?=some oi→ops[j]?=some oj→((R' ops).getD j 0).testBit i=false→indep C f ops oi oj=true∧de (K i) (K j)=true) :
  ∀(fK:Nat) (T:List Nat) (listed:Array Bool) (st gw:mN),listed.size=ops.length→T.length=fK→T.Pairwise (·<·)→(∀i,i∈T↔i<ops.length∧listed.getD i true=false) →
  (∀j o,listed.getD j false=true→ops[j]?=some o→∀e∈cF o,listed.getD e false=true)→ID C D f N ops K T st gw →
  ∀{L:Lay} {ow:cq} {a:Act} {w:World},eP C L→Fr W0 N L ow st.1 st.2 a w→∀{Q:Exit→Act→World→Prop},
  (∀L' ow' a' w',Fr W0 N L' ow' gw.1 gw.2 a' w'→mK L ow w L' ow' w'→Q .normal a' w')→wpAny C.P .any ops.toArray Q fK listed a w:=by
 have back:∀j o,ops[j]?=some o→∀e∈cF o,e<j:=by
  intro j o ho e he
  have hj:j<ops.length:=(List.getElem?_eq_some_iff.1 ho).1
  have:=List.all_eq_true.1 hb j (by simpa using hj)
  simp only[ho]at this
  have:=List.all_eq_true.1 this e he
  simpa using this
 intro fK
 induction fK with
 | zero =>
  intro T listed st gw hsz hT _ Sa _ CK L ow a w hg h Q hq
  have:T=[]:=List.length_eq_zero_iff.1 hT
  subst this
  cases CK
  refine⟨?_,hq L ow a w h (.refl _ _ _)⟩
  refine List.eq_nil_iff_forall_not_mem.2 fun i hi=>?_
  obtain⟨h1,h2,_⟩:=nL.1 hi
  exact absurd ((Sa i).2 ⟨h1,h2⟩) (by simp)
 | succ fK ih =>
  intro T listed st gw hsz hT uR Sa QH CK L ow a w hg h Q hq
  have Gb:∀e,e<ops.length→e∉T→listed.getD e false=true:=by
   intro e he hn
   have hlt:e<listed.size:=by omega
   cases hv:listed[e] with
   | true=>simp[Array.getD,hlt,hv]
   | false=>exact absurd ((Sa e).2 ⟨he,by simp[Array.getD,hlt,hv]⟩) hn
  refine⟨fun aa6=>?_,fun i hi=>?_⟩
  ·exfalso
   cases T with
   | nil=>simp at hT
   | cons t T =>
    have ht:=(Sa t).1 (by simp)
    have:t∈Region.ready .any ops.toArray listed:=by
     refine nL.2 ⟨ht.1,ht.2,fun o ho e he=>?_⟩
     have hlt:=back t o ho e he
     refine Gb e (by omega) fun hm=>?_
     rcases List.mem_cons.1 hm with rfl|hm
     ·omega
     ·have:=(List.pairwise_cons.1 uR).1 e hm;omega
    rw[aa6]at this
    cases this
  ·obtain⟨r1,r2,r3⟩:=nL.1 hi
   have hiT:=(Sa i).2 ⟨r1,r2⟩
   obtain⟨oi,VZ⟩:∃o,ops[i]?=some o:=⟨_,List.getElem?_eq_getElem r1⟩
   obtain⟨pre,post,rfl⟩:=List.append_of_mem hiT
   have aa7:∀x∈pre,∃ox,ops[x]?=some ox∧indep C f ops ox oi=true∧de (K x) (K i)=true:=by
    intro x hx
    have hxT:=(Sa x).1 (by simp[hx])
    obtain⟨ox,hox⟩:∃o,ops[x]?=some o:=⟨_,List.getElem?_eq_getElem hxT.1⟩
    have hlt:x<i:=(List.pairwise_append.1 uR).2.2 x hx i (by simp)
    refine⟨ox,hox,hp x i ox oi hlt hox VZ ?_⟩
    cases Sb:((R' ops).getD i 0).testBit x with
    | false=>rfl
    | true =>
     have:=IC (done:=fun j=>listed.getD j false=true) (ops:=ops) QH (fun j hj=>by
      rcases Nat.lt_or_ge j listed.size with h|h
      ·omega
      ·simp[Array.getD,Nat.not_lt.2 h]at hj) i i oi (Nat.le_refl _) VZ (r3 oi VZ) x Sb
     have MP:=hxT.2
     have hlt':x<listed.size:=by omega
     simp[Array.getD,hlt']at this MP
     rw[this]at MP;cases MP
   obtain⟨A,st1,e1,e2,e3⟩:=ID.front VZ pre post st gw aa7 CK
   refine rk E e1 hg h fun L' ow' a' w' hf hx=>?_
   have aa8:(listed.setIfInBounds i true).size=ops.length:=by simpa using hsz
   have hget:∀k d,(listed.setIfInBounds i true).getD k d=if k=i then true else listed.getD k d:=by
    intro k d
    rw[Array.getD_eq_getD_getElem?,Array.getD_eq_getD_getElem?]
    split
    ·rename_i e;subst e
     rw[Array.getElem?_setIfInBounds_self]
     rw[if_pos (by omega)];rfl
    ·rename_i e
     rw[Array.getElem?_setIfInBounds_ne (fun h=>e h.symm)]
   have hnd:(pre++i::post).Nodup:=uR.imp fun h=>Nat.ne_of_lt h
   refine ih (pre++post) _ st1 gw aa8 (by simp at hT ⊢;omega) ?_ (fun k=>?_) (fun j o hj ho e he=>?_) e3 (hg.mono hx.le) hf (fun Ia Ac a'' VV WA If=>hq Ia Ac a'' VV WA (hx.trans If))
   ·rw[List.pairwise_append]at uR ⊢
    exact⟨uR.1,(List.pairwise_cons.1 uR.2.1).2,fun a ha b hb=>uR.2.2 a ha b (by simp[hb])⟩
   ·rw[hget]
    have hT':=Sa k
    simp only[List.mem_append,List.mem_cons]at hT' ⊢
    rw[List.nodup_append]at hnd
    split
    ·rename_i e;subst e
     constructor
     ·rintro(h'|h')
      ·exact absurd rfl (hnd.2.2 k h' k (by simp))
      ·exact absurd h' (List.nodup_cons.1 hnd.2.1).1
     ·rintro⟨_,h'⟩;cases h'
    ·rename_i e
     rw[←hT']
     constructor
     ·rintro(h'|h')
      ·exact .inl h'
      ·exact .inr (.inr h')
     ·rintro(h'|h'|h')
      ·exact .inl h'
      ·exact absurd h' e
      ·exact .inr h'
   ·rw[hget]at hj ⊢
    split
    ·rfl
    ·split at hj
     ·rename_i e' ;subst e'
      exact r3 o ho e he
     ·exact QH j o hj ho e he
theorem Gc {C:dX}{W0:World}{D:a8}(E:wE C W0 D)(hm:C.P.follows .mixedOrders=true){f:FuncId}{N id:Nat}{ops:Array Oper}{draw:Bool}{st gw:mN}(hr:jt C D f N ops.toList draw st=some gw){L:Lay}{ow:cq}
  {a:Act}{w:World}(hg:eP C L)(h:Fr W0 N L ow st.1 st.2 a w){Q:Exit→Act→World→Prop}
  (hq:∀L' ow' a' w',Fr W0 N L' ow' gw.1 gw.2 a' w'→mK L ow w L' ow' w'→Q .normal a' w'):(Code.region id ops draw).wp C.P Q a w:=by
 have MW:ops.toList.toArray=ops:=by simp
 unfold jt at hr
 cases draw with
 | false =>
  simp only[Bool.false_eq_true,if_false]at hr
  refine wp_region ?_
  have:=Au E _ hr hg h hq
  rw[MW]at this
  simpa using this
 | true =>
  simp only[if_true]at hr
  split at hr
  ·rename_i st2 ks hk
   split at hr
   ·rename_i hc
    cases hr
    simp only[Bool.and_eq_true]at hc
    obtain⟨hb,hp⟩:=hc
    refine wp_region_any hm ?_
    have hd:Fr W0 N L ow st.1 st.2 a w.drew:=⟨h.size,h.rel,fun t=>(h.own t).move fun b hb=>⟨hb,fun _=>rfl,rfl⟩,nJ h.st,h.defers⟩
    have CK:ID C D f N ops.toList (fun i=>ks.getD i .ae) (List.range ops.toList.length) st gw:=by
     rw[List.range_eq_range']at hk ⊢
     exact w6 _ 0 _ _ ks _ hk fun i hi=>by simp
    have:=IE E hb (K:=fun i=>ks.getD i .ae) (fun i j oi oj MT VZ hoj Sb=>by
     have hj:j<ops.toList.length:=(List.getElem?_eq_some_iff.1 hoj).1
     have h1:=List.all_eq_true.1 hp j (by simpa using hj)
     have h2:=List.all_eq_true.1 h1 i (by simpa using MT)
     rw[Sb,VZ,hoj]at h2
     simpa using h2) ops.toList.length (List.range ops.toList.length) (Array.replicate ops.size false) st gw (by simp) (by simp) (List.pairwise_lt_range) (fun i=>by
      simp only[List.mem_range,Array.length_toList]
      refine⟨fun hi=>⟨hi,by simp[Array.getD,hi]⟩,fun h=>h.1⟩) (fun j o hj=>by
       exfalso
       by_cases hlt:j<ops.size
       ·simp[Array.getD,hlt]at hj
       ·simp[Array.getD,hlt]at hj) CK hg hd (fun L' ow' a' w' hf hx=>hq L' ow' a' w' hf ((jT (L:=L) (ow:=ow) (w:=w)).trans hx))
    rw[MW,Array.length_toList]at this
    exact this
   ·cases hr
  ·cases hr
def choice (ops:List Oper):Bool:=match ops with
 | [a,b,c,d]=>(match a.op,b.op,c.op,d.op with|.alloc _,.store _ _ (.const _),.store _ _ (.const _),.load _ _=>true|_,_,_,_=>false) &&
  ((cF a).isEmpty&&((cF b).all (·==0)&&((cF c).all (·==0)&&(((cF b).contains 0&&(cF c).contains 0)&&((cF d).all (·<3)&&((cF d).contains 1&&(cF d).contains 2))))))
 | _=>false
def MX (C:dX)(D:a8)(f:FuncId)(N:Nat)(ops:List Oper)(R:mN→Prop):Nat→Array Bool→mN→Prop
 | 0,l,st=>Region.ready .any ops.toArray l=[]∧R st
 | n+1,l,st=>Region.ready .any ops.toArray l≠[]∧∀i∈Region.ready .any ops.toArray l,∃gw,gS C D f N ops i st=some gw∧MX C D f N ops R n (l.setIfInBounds i true) gw
theorem Ej {C:dX}{W0:World}{D:a8}(E:wE C W0 D){f:FuncId}{N:Nat}{ops:List Oper}{R:mN→Prop}:∀(n:Nat)(l:Array Bool)(st:mN),MX C D f N ops R n l st →
  ∀{L:Lay} {ow:cq} {a:Act} {w:World},eP C L→Fr W0 N L ow st.1 st.2 a w→∀{Q:Exit→Act→World→Prop},
  (∀gw L' ow' a' w',R gw→Fr W0 N L' ow' gw.1 gw.2 a' w'→mK L ow w L' ow' w'→Q .normal a' w')→wpAny C.P .any ops.toArray Q n l a w
 | 0,l,st,h,L,ow,a,w,hg,hf,Q,hq=>⟨h.1,hq st L ow a w h.2 hf (.refl _ _ _)⟩
 | n+1,l,st,h,L,ow,a,w,hg,hf,Q,hq=>by
  refine⟨fun e=>absurd e h.1,fun i hi=>?_⟩
  obtain⟨gw,h1,h2⟩:=h.2 i hi
  exact rk E (yx h1) hg hf fun L' ow' a' w' WA hx=>Ej E n _ gw h2 (hg.mono hx.le) WA fun st2 L2 Wx a2 w2 hR hf2 hx2=>hq st2 L2 Wx a2 w2 hR hf2 (hx.trans hx2)
theorem CL {C:dX}{D:a8}{f:FuncId}{N:Nat}{ops:List Oper}(hc:choice ops=true){st s1 s2:mN}(h1:fG C D f N ops [0,1,2,3] st=some s1)(h2:fG C D f N ops [0,2,1,3] st=some s2) :
  ops.length=4∧MX C D f N ops (fun x=>x=s1∨x=s2) 4 #[false,false,false,false] st:=by
 unfold choice at hc
 split at hc
 ·rename_i a b c d
  simp only[Bool.and_eq_true]at hc
  obtain⟨_,ea,eb,ec,⟨eb0,ec0⟩,ed,WI,ed2⟩:=hc
  have ea:cF a=[]:=by simpa using ea
  have eb:∀e∈cF b,e=0:=by simpa using eb
  have ec:∀e∈cF c,e=0:=by simpa using ec
  have ed:∀e∈cF d,e<3:=by simpa using ed
  have eb0:0∈cF b:=by simpa using eb0
  have ec0:0∈cF c:=by simpa using ec0
  have WI:1∈cF d:=by simpa using WI
  have ed2:2∈cF d:=by simpa using ed2
  refine⟨rfl,?_⟩
  simp only[fG]at h1 h2
  split at h1
  ·rename_i t0 k0
   rw[k0]at h2
   simp only at h2
   split at h1
   ·rename_i t1 k1
    split at h1
    ·rename_i t12 k12
     split at h1
     ·rename_i t123 aa9
      cases h1
      split at h2
      ·rename_i u2 l2
       split at h2
       ·rename_i u21 l21
        split at h2
        ·rename_i aej aa_
         cases h2
         have R:∀(l:Array Bool) (i:Nat),i∈Region.ready .any [a,b,c,d].toArray l↔(i<4∧l.getD i true=false∧∀o,[a,b,c,d][i]?=some o→∀e∈cF o,l.getD e false=true):=fun l i=>nL
         have ne:∀(l:Array Bool) (i:Nat),i∈Region.ready .any [a,b,c,d].toArray l→Region.ready .any [a,b,c,d].toArray l≠[]:=fun l i h e=>by rw[e]at h;cases h
         have last:∀(l:Array Bool),l=#[true,true,true,true]→Region.ready .any [a,b,c,d].toArray l=[]:=by
          intro l hl
          subst hl
          refine List.eq_nil_iff_forall_not_mem.2 fun i hi=>?_
          obtain⟨q1,q2,_⟩:=(R _ _).1 hi
          match i,q1 with
          | 0,_=>simp at q2
          | 1,_=>simp at q2
          | 2,_=>simp at q2
          | 3,_=>simp at q2
         have three:∀(l:Array Bool),l=#[true,true,true,false]→∀u v,gS C D f N [a,b,c,d] 3 u=some v→(v=s1∨v=s2)→MX C D f N [a,b,c,d] (fun x=>x=s1∨x=s2) 1 l u:=by
          intro l hl u v huv hv
          subst hl
          have r3:3∈Region.ready .any [a,b,c,d].toArray #[true,true,true,false]:=by
           refine(R _ _).2 ⟨by omega,rfl,fun o ho e he=>?_⟩
           obtain rfl:d=o:=by simpa using ho
           have:=ed e he
           match e,this with
           | 0,_=>rfl
           | 1,_=>rfl
           | 2,_=>rfl
          refine⟨ne _ _ r3,fun i hi=>?_⟩
          obtain⟨q1,q2,q3⟩:=(R _ _).1 hi
          match i,q1 with
          | 0,_=>simp at q2
          | 1,_=>simp at q2
          | 2,_=>simp at q2
          | 3,_=>exact⟨v,huv,last _ rfl,hv⟩
         have r0:0∈Region.ready .any [a,b,c,d].toArray #[false,false,false,false]:=by
          refine(R _ _).2 ⟨by omega,rfl,fun o ho e he=>?_⟩
          obtain rfl:a=o:=by simpa using ho
          rw[ea]at he;cases he
         refine⟨ne _ _ r0,fun i hi=>?_⟩
         obtain⟨q1,q2,q3⟩:=(R _ _).1 hi
         match i,q1 with
         | 1,_=>have:=q3 b rfl 0 eb0;simp at this
         | 2,_=>have:=q3 c rfl 0 ec0;simp at this
         | 3,_=>have:=q3 d rfl 1 WI;simp at this
         | 0,_ =>
          refine⟨t0,k0,?_⟩
          have r1:1∈Region.ready .any [a,b,c,d].toArray #[true,false,false,false]:=by
           refine(R _ _).2 ⟨by omega,rfl,fun o ho e he=>?_⟩
           obtain rfl:b=o:=by simpa using ho
           rw[eb e he];rfl
          refine⟨ne _ _ r1,fun i hi=>?_⟩
          obtain⟨q1,q2,q3⟩:=(R _ _).1 hi
          match i,q1 with
          | 0,_=>simp at q2
          | 3,_=>have:=q3 d rfl 1 WI;simp at this
          | 1,_ =>
           refine⟨t1,k1,?_⟩
           have r2:2∈Region.ready .any [a,b,c,d].toArray #[true,true,false,false]:=by
            refine(R _ _).2 ⟨by omega,rfl,fun o ho e he=>?_⟩
            obtain rfl:c=o:=by simpa using ho
            rw[ec e he];rfl
           refine⟨ne _ _ r2,fun i hi=>?_⟩
           obtain⟨q1,q2,q3⟩:=(R _ _).1 hi
           match i,q1 with
           | 0,_=>simp at q2
           | 1,_=>simp at q2
           | 3,_=>have:=q3 d rfl 2 ed2;simp at this
           | 2,_=>exact⟨t12,k12,three _ rfl _ _ aa9 (.inl rfl)⟩
          | 2,_ =>
           refine⟨u2,l2,?_⟩
           have r2:1∈Region.ready .any [a,b,c,d].toArray #[true,false,true,false]:=by
            refine(R _ _).2 ⟨by omega,rfl,fun o ho e he=>?_⟩
            obtain rfl:b=o:=by simpa using ho
            rw[eb e he];rfl
           refine⟨ne _ _ r2,fun i hi=>?_⟩
           obtain⟨q1,q2,q3⟩:=(R _ _).1 hi
           match i,q1 with
           | 0,_=>simp at q2
           | 2,_=>simp at q2
           | 3,_=>have:=q3 d rfl 1 WI;simp at this
           | 1,_=>exact⟨u21,l21,three _ rfl _ _ aa_ (.inr rfl)⟩
        ·cases h2
       ·cases h2
      ·cases h2
     ·cases h1
    ·cases h1
   ·cases h1
  ·cases h1
 ·cases hc
theorem Gd {C:dX}{W0:World}{D:a8}(E:wE C W0 D)(hm:C.P.follows .mixedOrders=true){f:FuncId}{N id:Nat}{ops:Array Oper}(hc:choice ops.toList=true){st s1 s2:mN}(h1:fG C D f N ops.toList [0,1,2,3] st=some s1)(h2:fG C D f N ops.toList [0,2,1,3] st=some s2){L:Lay}{ow:cq}
  {a:Act}{w:World}(hg:eP C L)(h:Fr W0 N L ow st.1 st.2 a w){Q:Exit→Act→World→Prop}
  (hq:∀gw L' ow' a' w',(gw=s1∨gw=s2)→Fr W0 N L' ow' gw.1 gw.2 a' w'→mK L ow w L' ow' w'→Q .normal a' w'):(Code.region id ops true).wp C.P Q a w:=by
 have MW:ops.toList.toArray=ops:=by simp
 obtain⟨hl,hall⟩:=CL hc h1 h2
 have hsz:ops.size=4:=by simpa using hl
 refine wp_region_any hm ?_
 have hd:Fr W0 N L ow st.1 st.2 a w.drew:=⟨h.size,h.rel,fun t=>(h.own t).move fun b hb=>⟨hb,fun _=>rfl,rfl⟩,nJ h.st,h.defers⟩
 have:=Ej E 4 _ st hall hg hd (Q:=Q) fun gw L' ow' a' w' hR hf hx=>hq gw L' ow' a' w' hR hf ((jT (L:=L) (ow:=ow) (w:=w)).trans hx)
 rw[MW]at this
 rw[hsz]
 exact this
def tidy (s:ag)(id:Nat):ag:=if has s id then kill s id else s
theorem MY {W0:World}{L:Lay}{ow:cq}{s:ag}{w:World}(h:St W0 L ow s w)(id:Nat):St W0 L ow (tidy s id) w:=by
 unfold tidy
 split
 ·rename_i hh
  refine⟨fun i=>by rw[uI hh];exact h.live i,h.nI,fun i cs e h1 h2=>?_,h.used,h.base,h.below⟩
  rw[jX]at e
  split at e
  ·split at e
   ·cases e;exact absurd rfl h2
   ·cases e
  ·exact h.obj i cs e h1 h2
 ·exact h
theorem Ek {W0:World}{N:Nat}{L:Lay}{ow:cq}{env:Env}{s:ag}{a:Act}{w:World}(h:Fr W0 N L ow env s a w)(id:Nat):Fr W0 N L ow env (tidy s id) a w :=
 ⟨h.size,h.rel,h.own,MY h.st id,h.defers⟩
end Go.Abs
end

section
namespace Go.Abs
open Go
abbrev aU:=Option (AV×ag)
def su:ag→ag→Bool
 | [],[]=>true
 | a::as,b::bs=>(a.1==b.1&&jY a.2 b.2)&&su as bs
 | _,_=>false
theorem Ay:∀(a b:ag),su a b=true→a=b
 | [],b,h=>by cases b<;>first|rfl|simp[su]at h
 | (t,x)::a,b,h=>by
  cases b with
  | nil=>simp[su]at h
  | cons y b =>
   obtain⟨u,y⟩:=y
   simp only[su,Bool.and_eq_true,beq_iff_eq]at h
   obtain⟨⟨h1,h2⟩,h3⟩:=h
   rw[h1,gU _ _ h2,Ay _ _ h3]
theorem uS:∀(a:ag),su a a=true
 | []=>rfl
 | (t,x)::a=>by simp[su,fh,uS a]
def both (a b:aU):aU:=match a,b with
 | some x,some y=>if same x.1 y.1&&su x.2 y.2 then some x else none
 | _,_=>none
theorem Az {a b:aU}{r:AV×ag}(h:both a b=some r):a=some r∧b=some r:=by
 unfold both at h
 split at h
 ·rename_i x y
  split at h
  ·rename_i hc
   cases h
   rw[Bool.and_eq_true]at hc
   have h1:=Eg _ _ hc.1
   have h2:=Ay _ _ hc.2
   exact⟨rfl,congrArg some (Prod.ext h1.symm h2.symm)⟩
  ·cases h
 ·cases h
theorem MZ {a b:aU}{r:AV×ag}(h1:a=some r)(h2:b=some r):both a b=some r:=by
 subst h1;subst h2
 simp[both,wX,uS]
structure Ks where
 norm:Env→ag→aU
 ret:Env→ag→aU
 exit:Nat→Env→ag→aU
def aJ (F:(Env→ag→aU)→Env→ag→aU):Nat→Env→ag→aU
 | 0,_,_=>none
 | n+1,env,s=>F (aJ F n) env s
def eE (C:dX)(D:a8)(f:FuncId)(N fK:Nat):Code→Ks→Env→ag→aU
 | .skip,K,env,s=>K.norm env s
 | .region _ ops draw,K,env,s=>match draw&&choice ops.toList with
  | true=>(match fG C D f N ops.toList [0,1,2,3] (env,s),fG C D f N ops.toList [0,2,1,3] (env,s) with
   | some s1,some s2=>both (K.norm s1.1 (tidy s1.2 s.length)) (K.norm s2.1 (tidy s2.2 s.length))
   | _,_=>none)
  | false=>(match jt C D f N ops.toList draw (env,s) with
   | some st=>K.norm st.1 st.2
   | none=>none)
 | .seq a b,K,env,s=>eE C D f N fK a { K with norm:=fun e s=>eE C D f N fK b K e s } env s
 | .cond c a b,K,env,s=>match ku C env c with
  | .bool true=>eE C D f N fK a K env s
  | .bool false=>eE C D f N fK b K env s
  | _=>none
 | .block id c,K,env,s=>eE C D f N fK c { K with exit:=fun i e s=>if i=id then K.norm e s else K.exit i e s } env s
 | .loop c,K,env,s=>aJ (fun k e s=>eE C D f N fK c { K with norm:=k } e s) fK env s
 | .exit id,K,env,s=>K.exit id env s
 | .label _,K,env,s=>K.norm env s
 | .ret,K,env,s=>K.ret env s
 | _,_,_,_=>none
def IF (W0:World)(N:Nat)(K:Ks)(r:AV×ag)(L:Lay)(ow:cq)(w:World):Exit→Act→World→Prop:=fun e a' w' =>
 ∃L' ow' env' s',Fr W0 N L' ow' env' s' a' w'∧mK L ow w L' ow' w'∧match e with
  | .normal=>K.norm env' s'=some r
  | .exit id=>K.exit id env' s'=some r
  | .ret=>K.ret env' s'=some r
  | _=>False
theorem IF.ext {W0:World}{N:Nat}{K:Ks}{r:AV×ag}{L L':Lay}{ow ow':cq}{w w':World}(hx:mK L ow w L' ow' w'){e:Exit}{a:Act}{w2:World}(h:IF W0 N K r L' ow' w' e a w2):IF W0 N K r L ow w e a w2:=by
 obtain⟨L2,Wx,aa',s2,h1,h2,h3⟩:=h
 exact⟨L2,Wx,aa',s2,h1,hx.trans h2,h3⟩
def mU (P:Program)(c:Code)(Q:Exit→Act→World→Prop)(a:Act)(w:World):Prop :=
 ∀(b:Frame) (k:List Item) (cs:List Frame),∃e a' w',Q e a' w'∧Arrives P (lone (b.at a (.code c::.inLoop c::k)) cs w) b k cs e a' w'
theorem mU.step {P:Program}{c:Code}{Q:Exit→Act→World→Prop}{a:Act}{w:World}(h:c.wp P (Exit.then (mU P c Q) Q) a w):mU P c Q a w:=by
 intro b k cs
 obtain⟨e,a₁,w₁,hq,AA⟩:=h b (.inLoop c::k) cs
 cases e with
 | normal =>
  obtain⟨e₂,a₂,w₂,hq₂,WJ⟩:=hq b k cs
  exact⟨e₂,a₂,w₂,hq₂,.of_steps (Steps.trans AA (.one step_inLoop)) WJ⟩
 | exit id=>exact⟨_,a₁,w₁,hq,.pass (x:=.inLoop c) rfl (fun _ _=>.inl (by simp)) AA⟩
 | goto l=>exact⟨_,a₁,w₁,hq,.pass (x:=.inLoop c) rfl (fun _ _=>.inl (by simp)) AA⟩
 | ret=>exact⟨_,a₁,w₁,hq,.pass (x:=.inLoop c) rfl (fun _ _=>.inl (by simp)) AA⟩
 | panic ch=>exact⟨_,a₁,w₁,hq,.pass (x:=.inLoop c) rfl (fun _ _=>.inl (by simp)) AA⟩
 | outgrown=>exact⟨_,a₁,w₁,hq,.pass (x:=.inLoop c) rfl (fun _ _=>.inl (by simp)) AA⟩
theorem mU.loop {P:Program}{c:Code}{Q:Exit→Act→World→Prop}{a:Act}{w:World}(h:mU P c Q a w):(Code.loop c).wp P Q a w:=fun b k cs =>
 let ⟨e,a',w',hq,AA⟩:=h b k cs
 ⟨e,a',w',hq,.of_steps (.one step_loop) AA⟩
theorem IG {C:dX}{W0:World}{D:a8}(E:wE C W0 D)(hm:C.P.follows .mixedOrders=true){f:FuncId}{N fK:Nat}:∀(c:Code)(K:Ks)(env:Env)(s:ag)(r:AV×ag),eE C D f N fK c K env s=some r →
  ∀{L:Lay} {ow:cq} {a:Act} {w:World},eP C L→Fr W0 N L ow env s a w→c.wp C.P (IF W0 N K r L ow w) a w:=by
 intro c
 induction c with
 | skip =>
  intro K env s r hr L ow a w hg h
  exact wp_skip ⟨L,ow,env,s,h,.refl _ _ _,hr⟩
 | region id ops draw =>
  intro K env s r hr L ow a w hg h
  simp only[eE]at hr
  split at hr
  ·rename_i w7
   obtain⟨hdr,w7⟩:=Bool.and_eq_true_iff.1 w7
   subst hdr
   split at hr
   ·rename_i s1 s2 h1 h2
    obtain⟨k1,k2⟩:=Az hr
    refine Gd E hm w7 h1 h2 hg h fun gw L' ow' a' w' hst hf hx=>?_
    rcases hst with rfl|rfl
    ·exact⟨L',ow',_,_,Ek hf s.length,hx,k1⟩
    ·exact⟨L',ow',_,_,Ek hf s.length,hx,k2⟩
   ·cases hr
  ·split at hr
   ·rename_i st hst
    exact Gc E hm hst hg h fun L' ow' a' w' hf hx=>⟨L',ow',_,_,hf,hx,hr⟩
   ·cases hr
 | seq x y Sc Se =>
  intro K env s r hr L ow a w hg h
  simp only[eE]at hr
  refine wp_seq (wp_mono (Sc _ env s r hr hg h) fun e a' w' ⟨L',ow',env',s',hf,hx,hp⟩=>?_)
  cases e with
  | normal=>exact wp_mono (Se K env' s' r hp (hg.mono hx.le) hf) fun e a w hq=>hq.ext hx
  | exit id=>exact⟨L',ow',env',s',hf,hx,hp⟩
  | goto l=>exact hp.elim
  | ret=>exact⟨L',ow',env',s',hf,hx,hp⟩
  | panic ch=>exact hp.elim
  | outgrown=>exact hp.elim
 | cond c x y Sc Se =>
  intro K env s r hr L ow a w hg h
  simp only[eE]at hr
  have hv:=Ef hg h c
  split at hr
  ·rename_i hc
   rw[hc]at hv
   have he:a.eval c=.bool true:=by generalize a.eval c=v at hv;cases hv;rfl
   exact wp_cond_true he (Sc K env s r hr hg h)
  ·rename_i hc
   rw[hc]at hv
   have he:a.eval c=.bool false:=by generalize a.eval c=v at hv;cases hv;rfl
   exact wp_cond_false he (Se K env s r hr hg h)
  ·cases hr
 | block id c ih =>
  intro K env s r hr L ow a w hg h
  simp only[eE]at hr
  refine wp_block (wp_mono (ih _ env s r hr hg h) fun e a' w' ⟨L',ow',env',s',hf,hx,hp⟩=>?_)
  cases e with
  | normal=>exact⟨L',ow',env',s',hf,hx,hp⟩
  | exit i =>
   simp only at hp
   simp only[Exit.inBlock]
   split at hp
   ·rename_i e;rw[if_pos e];exact⟨L',ow',env',s',hf,hx,hp⟩
   ·rename_i e;rw[if_neg e];exact⟨L',ow',env',s',hf,hx,hp⟩
  | goto l=>exact hp.elim
  | ret=>exact⟨L',ow',env',s',hf,hx,hp⟩
  | panic ch=>exact hp.elim
  | outgrown=>exact hp.elim
 | loop c ih =>
  intro K env s r hr L ow a w hg h
  simp only[eE]at hr
  refine mU.loop ?_
  have main:∀n env s,aJ (fun k e s=>eE C D f N fK c { K with norm:=k } e s) n env s=some r→∀{L:Lay} {ow:cq} {a:Act} {w:World},eP C L→Fr W0 N L ow env s a w→mU C.P c (IF W0 N K r L ow w) a w:=by
   intro n
   induction n with
   | zero=>intro env s hr;cases hr
   | succ n ihn =>
    intro env s hr L ow a w hg h
    simp only[aJ]at hr
    refine mU.step (wp_mono (ih _ env s r hr hg h) fun e a' w' ⟨L',ow',env',s',hf,hx,hp⟩=>?_)
    cases e with
    | normal =>
     intro b k cs
     obtain⟨e2,a2,w2,q2,r2⟩:=ihn env' s' hp (hg.mono hx.le) hf b k cs
     exact⟨e2,a2,w2,q2.ext hx,r2⟩
    | exit id=>exact⟨L',ow',env',s',hf,hx,hp⟩
    | goto l=>exact hp.elim
    | ret=>exact⟨L',ow',env',s',hf,hx,hp⟩
    | panic ch=>exact hp.elim
    | outgrown=>exact hp.elim
  exact main fK env s hr hg h
 | rangeFunc g ps x y=>intro K env s r hr;cases hr
 | exit id =>
  intro K env s r hr L ow a w hg h
  exact wp_exit ⟨L,ow,env,s,h,.refl _ _ _,hr⟩
 | scope c=>intro K env s r hr;cases hr
 | label l =>
  intro K env s r hr L ow a w hg h
  exact wp_label ⟨L,ow,env,s,h,.refl _ _ _,hr⟩
 | goto l=>intro K env s r hr;cases hr
 | ret =>
  intro K env s r hr L ow a w hg h
  exact wp_ret ⟨L,ow,env,s,h,.refl _ _ _,hr⟩
 | refuse why=>intro K env s r hr;cases hr
def El (P:Program)(env:Env)(s:ag):ResultVar→Option AV
 | .tmp t=>some (env t)
 | .cell a t=>match jk P t,da P t with
  | some agg,some n=>(af false agg n (env a) s).map (·.1)
  | _,_=>none
def w8 (P:Program)(env:Env)(s:ag):List ResultVar→Option (List AV)
 | []=>some []
 | r::rs=>match El P env s r,w8 P env s rs with
  | some a,some as=>some (a::as)
  | _,_=>none
def lP (P:Program)(rs:List ResultVar)(env:Env)(s:ag):Option AV :=
 match rs with
 | [r]=>El P env s r
 | rs=>(w8 P env s rs).map .aI
theorem Em {P:Program}{W0:World}{N:Nat}{L:Lay}{ow:cq}{env:Env}{s:ag}{a:Act}{w:World}(h:Fr W0 N L ow env s a w){r:ResultVar}{x:AV}(hr:El P env s r=some x) :
  ∃v,(match r with|.tmp t=>pure (a.tmps.getD t undef)|.cell q t=>do loadVar t (←asAddr (a.tmps.getD q undef)):Sem Value).run P w=.ok v w∧Rel L x v∧((∃t,r=.tmp t∧v=a.tmps.getD t undef∧x=env t)∨x.ct=false):=by
 cases r with
 | tmp t =>
  cases hr
  exact⟨_,rfl,h.rel t,.inl ⟨t,rfl,rfl,rfl⟩⟩
 | cell q t =>
  simp only[El]at hr
  split at hr
  ·rename_i agg n ha hz
   rw[Option.map_eq_some_iff]at hr
   obtain⟨⟨y,s'⟩,hy,rfl⟩:=hr
   have hq:=h.rel q
   simp only
   generalize a.tmps.getD q undef=v at hq ⊢
   unfold af at hy
   split at hy
   ·rename_i cs off hb
    rw[hb]at hq
    obtain⟨h1,_⟩:=AB hy
    obtain⟨u,k1,k2⟩:=ut (P:=P) ha hz h1 hq h.st.nI
    refine⟨u,?_,k2,.inr (fg h1)⟩
    cases hq
    simpa[Instr.loadAt,Instr.sureAddr,asAddr] using k1
   ·rename_i id off hb
    rw[hb]at hq
    simp only[Bool.false_and,Bool.false_eq_true,if_false]at hy
    obtain⟨h1,_⟩:=AB hy
    obtain⟨u,k1,k2⟩:=uC (P:=P) h.st ha hz h1 hq
    refine⟨u,?_,k2,.inr ?_⟩
    ·cases hq
     simpa[Instr.loadAt,Instr.sureAddr,asAddr] using k1
    ·unfold jU at h1
     split at h1
     ·split at h1
      ·cases h1
      ·exact fg h1
     ·cases h1
   ·cases hy
  ·cases hr
 where
 AB {x:Option AV} {s s':ag} {r:AV} (h:(x.map fun r=>(r,s))=some (r,s')):x=some r∧s'=s:=map_snd h
theorem En {P:Program}{W0:World}{N:Nat}{L:Lay}{ow:cq}{env:Env}{s:ag}{a:Act}{w:World}(h:Fr W0 N L ow env s a w):∀{rs:List ResultVar}{xs:List AV},w8 P env s rs=some xs →
  ∃vs:List Value,(rs.mapM (fun r=>(match r with|.tmp t=>pure (a.tmps.getD t undef)|.cell q t=>do loadVar t (←asAddr (a.tmps.getD q undef)):Sem Value))).run P w=.ok vs w∧bB L xs vs
 | [],xs,hr=>by cases hr;exact⟨[],rfl,.nil⟩
 | r::rs,xs,hr=>by
  simp only[w8]at hr
  split at hr
  ·rename_i x R5 h1 h2
   cases hr
   obtain⟨v,k1,k2,_⟩:=Em h h1
   obtain⟨vs,m1,m2⟩:=En h h2
   exact⟨v::vs,by simp only[List.mapM_cons,Sem.run_bind,k1,Result.andThen_ok,m1,Sem.run_pure],.cons _ _ _ _ k2 m2⟩
  ·cases hr
def oC (ow:cq)(t:Option Nat):cq:=fun b=>match ow b with
 | .slot u=>if t=some u then .ret else .free
 | .arg|.ret=>.free
 | p=>p
theorem Ge {P:Program}{W0:World}{N:Nat}{L:Lay}{ow:cq}{env:Env}{s:ag}{a:Act}{w:World}(h:Fr W0 N L ow env s a w){fn:Func}{x:AV}(hr:lP P fn.results.toList env s=some x) :
  ∃v,(results fn a.tmps).run P w=.ok v w∧jr W0 L ow w x s v w:=by
 have st:∀t,St W0 L (oC ow t) s w:=fun t=>h.st.move (.refl L) rfl (fun b hb=>⟨by revert hb;unfold oC;cases ow b<;>simp[Place.yk],fun _=>rfl,rfl⟩) h.st.nI
  (fun b hb=>h.st.used b (fun e=>hb (by simp[oC,e]))) (fun b hb=>by simp[oC,h.st.base b hb]) h.st.below
 have ex:∀t,mK L ow w L (oC ow t) w:=fun t=>⟨.refl L,fun b hb=>⟨by simp[oC,hb],fun _=>rfl,rfl⟩,.refl w⟩
 have WK:∀vs:List Value,(fn.results.toList.mapM (fun r=>(match r with|.tmp t=>pure (a.tmps.getD t undef)|.cell q t=>do loadVar t (←asAddr (a.tmps.getD q undef)):Sem Value))).run P w=.ok vs w →
   (results fn a.tmps).run P w=.ok (if h:vs.toArray.size=1 then vs.toArray[0] else .tuple vs.toArray) w:=by
  intro vs hv
  unfold results
  rw[←Array.toArray_toList (xs:=fn.results),List.mapM_toArray]
  simp only[Sem.run_bind,Sem.run_map]
  erw [hv]
  rfl
 unfold lP at hr
 split at hr
 ·rename_i r hrs
  obtain⟨v,k1,k2,k3⟩:=Em h hr
  have:=WK [v] (by rw[hrs];simp only[List.mapM_cons,List.mapM_nil,Sem.run_bind,k1,Result.andThen_ok,Sem.run_pure])
  refine⟨v,by simpa using this,?_⟩
  rcases k3 with ⟨t,rfl,rfl,rfl⟩|k3
  ·exact⟨L,oC ow (some t),ex _,st _,k2,(h.own t).move fun b hb=>⟨by simp[oC,hb],fun _=>rfl,rfl⟩⟩
  ·exact⟨L,oC ow none,ex _,st _,k2,.bI k3⟩
 ·rename_i hne
  rw[Option.map_eq_some_iff]at hr
  obtain⟨xs,uw,rfl⟩:=hr
  obtain⟨vs,k1,k2⟩:=En h uw
  have:=WK vs k1
  have hl:¬vs.toArray.size=1:=by
   intro e
   have h1:=k2.length
   have h2:xs.length=fn.results.toList.length:=by
    have gen:∀(rs:List ResultVar) (xs:List AV),w8 P env s rs=some xs→xs.length=rs.length:=by
     intro rs
     induction rs with
     | nil=>intro xs h;cases h;rfl
     | cons r rs ih =>
      intro xs h
      simp only[w8]at h
      split at h
      ·rename_i h1 h2;cases h;simp[ih _ h2]
      ·cases h
    exact gen _ _ uw
   simp at e
   have h3:fn.results.toList.length=1:=by omega
   obtain⟨r,hr⟩:=List.length_eq_one_iff.1 h3
   exact hne r hr
  rw[dif_neg hl]at this
  exact⟨_,this,L,oC ow none,ex _,st _,.aI _ _ k2,.bI rfl⟩
def aH (args:List AV):Env:=fun t=>args.getD t .undef
def II (C:dX)(D:a8)(n:Nat)(g:FuncId)(fn:Func)(c:Code)(args:List AV)(s:ag):aU :=
 eE C D g (args.length+(fn.ntmps-args.length)) n c
  { norm:=fun env s=>(lP C.P fn.results.toList env s).map fun r=>(r,s),ret:=fun env s=>(lP C.P fn.results.toList env s).map fun r=>(r,s),exit:=fun _ _ _=>none } (aH args) s
def den (C:dX):Nat→a8
 | 0=>fun _ _ _=>none
 | n+1=>fun g args s=>match C.ext g with
  | some e=>e args s
  | none=>match C.P.funcs[g]? with
   | some fn=>match fn.body with
    | some c=>II C (den C n) n g fn c args s
    | none=>none
   | none=>none
theorem CM {L:Lay}:∀{args:List AV}{vs:List Value},bB L args vs→∀(k t:Nat),Rel L (aH args t) ((vs.toArray++Array.replicate k undef).getD t undef)
 | args,vs,h,k,t=>by
  unfold aH
  rw[List.getD_eq_getElem?_getD,Array.getD_eq_getD_getElem?]
  cases hx:args[t]? with
  | none=>exact .undef _
  | some x =>
   obtain⟨v,hv,hr⟩:=h.get t x hx
   have:(vs.toArray++Array.replicate k undef)[t]?=some v:=by
    rw[Array.getElem?_append_left (by simpa using (List.getElem?_eq_some_iff.1 hv).1)]
    simpa using hv
   rw[this]
   exact hr
theorem M2 {C:dX}{W0:World}{D:a8}(E:wE C W0 D)(hm:C.P.follows .mixedOrders=true){n:Nat}{g:FuncId}{fn:Func}{c:Code}(hf:C.P.funcs[g]?=some fn)(hc:fn.body=some c){args:List AV}{s:ag}{v:AV}{s':ag}
  (hr:II C D n g fn c args s=some (v,s'))(hn:∀a∈args,a.ct=false):fO C W0 g args s v s':=by
 intro L ow w cargs hg hst hargs
 refine calls_of_wp hf hc ?_
 have VX:Fr W0 (args.length+(fn.ntmps-args.length)) L ow (aH args) s { tmps:=cargs.toArray++Array.replicate (fn.ntmps-cargs.toArray.size) undef,defers:=[] } w:=by
  refine⟨?_,fun t=>CM hargs _ t,fun t=>.bI ?_,hst,rfl⟩
  ·have:=hargs.length
   simp;omega
  ·unfold aH
   rw[List.getD_eq_getElem?_getD]
   cases hx:args[t]? with
   | none=>rfl
   | some x=>exact hn x (List.mem_of_getElem? hx)
 refine wp_mono (IG E hm c _ _ _ _ hr hg VX) fun e a' w' ⟨L',ow',env',s2,h1,h2,h3⟩=>?_
 have fin:((lP C.P fn.results.toList env' s2).map fun r=>(r,s2))=some (v,s')→a'.defers=[]∧∃u,(results fn a'.tmps).run C.P w'=.ok u w'∧∃cv,Ending.returned u=.returned cv∧jr W0 L ow w v s' cv w':=by
  intro he
  obtain⟨k1,rfl⟩:=map_snd he
  obtain⟨u,m1,Ia,Ac,m2,m3,m4,m5⟩:=Ge h1 k1
  exact⟨h1.defers,u,m1,u,rfl,Ia,Ac,h2.trans m2,m3,m4,m5⟩
 cases e with
 | normal=>exact fin h3
 | ret=>exact fin h3
 | exit id=>cases h3
 | goto l=>exact h3.elim
 | panic ch=>exact h3.elim
 | outgrown=>exact h3.elim
theorem CN {C:dX}{W0:World}(Mc:∀g cs,C.sO g=some cs→aV cs=true)(hm:C.P.follows .mixedOrders=true)
  (CA:∀g e args s v s',C.ext g=some e→e args s=some (v,s')→(∀a∈args,a.ct=false)→fO C W0 g args s v s'):∀n,QF C W0 (den C n)
 | 0=>fun g args s v s' h=>by cases h
 | n+1=>fun g args s v s' h hn=>by
  have E:wE C W0 (den C n):=⟨Mc,CN Mc hm CA n⟩
  simp only[den]at h
  split at h
  ·rename_i e he
   exact CA g e args s v s' he h hn
  ·split at h
   ·rename_i fn hf
    split at h
    ·rename_i c hc
     exact M2 E hm hf hc h hn
    ·cases h
   ·cases h
end Go.Abs
end

section
namespace Go.Abs
open Go
def oh (x:Option (AV×ag))(k:AV→ag→aU):aU:=match x with
 | some (r,s)=>k r s
 | none=>none
def gd (g:Option Bool)(s:ag)(x:Option (AV×ag)):Option (AV×ag):=match g with
 | some true=>x
 | some false=>some (.aI [],s)
 | none=>none
def br (c:AV)(a b:aU):aU:=match c with
 | .bool true=>a
 | .bool false=>b
 | _=>none
def WL (C:dX)(D:a8)(f:FuncId)(N:Nat)(ops:List Oper)(o:Oper)(env:Env)(s:ag)(k:Env→ag→aU):aU :=
 if Ee N o then
  match gh (cH C f ops o) o.op with
  | none=>oh (gd (bU ops o env) s (mM C D (b_ C f o) (cH C f ops o) o.op (ku C env) s)) fun r s'=>k (oJ env o.dst r) s'
  | some t=>match bU ops o env with
   | some true=>oh (mM C D (b_ C f o) (cH C f ops o) o.op (ku C env) s) fun r s'=>k (oJ (is env (some t)) o.dst r) s'
   | some false=>k (oJ env o.dst (.aI [])) s
   | none=>none
 else none
theorem CO {C:dX}{D:a8}{f:FuncId}{N:Nat}{ops:List Oper}{i:Nat}{o:Oper}(h:ops[i]?=some o)(env:Env)(s:ag)(k:Env→ag→aU) :
  WL C D f N ops o env s k=match gS C D f N ops i (env,s) with|some st=>k st.1 st.2|none=>none:=by
 unfold WL gS
 simp only[h]
 split
 ·cases ht:gh (cH C f ops o) o.op with
  | none =>
   simp only
   cases bU ops o env with
   | none=>rfl
   | some b =>
    cases b with
    | false=>rfl
    | true =>
     simp only[gd]
     cases mM C D (b_ C f o) (cH C f ops o) o.op (ku C env) s with
     | none=>rfl
     | some r=>rfl
  | some t =>
   simp only
   cases bU ops o env with
   | none=>rfl
   | some b =>
    cases b with
    | false=>rfl
    | true =>
     simp only
     cases mM C D (b_ C f o) (cH C f ops o) o.op (ku C env) s with
     | none=>rfl
     | some r=>rfl
 ·rfl
def M3 (C:dX)(D:a8)(f:FuncId)(N:Nat)(ops:List Oper):List Oper→Env→ag→(Env→ag→aU)→aU
 | [],env,s,k=>k env s
 | o::l,env,s,k=>WL C D f N ops o env s fun env s=>M3 C D f N ops l env s k
def AD (C:dX)(D:a8)(f:FuncId)(N:Nat)(ops:List Oper):List Oper→Env→ag→List Kind→(List Kind→Env→ag→aU)→aU
 | [],env,s,ks,k=>k ks env s
 | o::l,env,s,ks,k=>WL C D f N ops o env s fun env' s'=>AD C D f N ops l env' s' (ks++[match bU ops o env with
   | some true=>K2 (b_ C f o) o.op (bS (b_ C f o) (cH C f ops o) o.op (ku C env)) s s'
   | _=>.ae]) k
def ba (C:dX)(f:FuncId)(ops:List Oper)(ks:List Kind)(x:aU):aU:=if iy ops&&gX C f ops ks then x else none
theorem Eo {C:dX}{D:a8}{f:FuncId}{N:Nat}(ops:List Oper)(k:Env→ag→aU):∀(l pre:List Oper)(env:Env)(s:ag),ops=pre++l →
  M3 C D f N ops l env s k=match fG C D f N ops (List.range' pre.length l.length) (env,s) with|some st=>k st.1 st.2|none=>none
 | [],pre,env,s,_=>rfl
 | o::l,pre,env,s,h=>by
  have ho:ops[pre.length]?=some o:=by rw[h];simp
  simp only[M3,List.length_cons,List.range'_succ,fG]
  rw[CO ho]
  cases gS C D f N ops pre.length (env,s) with
  | none=>rfl
  | some st =>
   simp only
   have:=Eo (C:=C) (D:=D) (f:=f) (N:=N) ops k l (pre++[o]) st.1 st.2 (by rw[h];simp)
   rw[this]
   simp
theorem AE {C:dX}{D:a8}{f:FuncId}{N:Nat}(ops:List Oper)(k:List Kind→Env→ag→aU):∀(l pre:List Oper)(env:Env)(s:ag)(ks:List Kind),ops=pre++l →
  AD C D f N ops l env s ks k=match j0 C D f N ops (List.range' pre.length l.length) (env,s) with|some (st,ks')=>k (ks++ks') st.1 st.2|none=>none
 | [],pre,env,s,ks,_=>by simp[AD,j0]
 | o::l,pre,env,s,ks,h=>by
  have ho:ops[pre.length]?=some o:=by rw[h];simp
  simp only[AD,List.length_cons,List.range'_succ,j0]
  rw[CO ho]
  cases gS C D f N ops pre.length (env,s) with
  | none=>rfl
  | some st =>
   simp only
   have:=AE (C:=C) (D:=D) (f:=f) (N:=N) ops k l (pre++[o]) st.1 st.2
   rw[this _ (by rw[h];simp)]
   simp only[List.length_append,List.length_cons,List.length_nil,Nat.zero_add]
   cases j0 C D f N ops (List.range' (pre.length+1) l.length) st with
   | none=>rfl
   | some r =>
    simp only[List.append_assoc,List.singleton_append,iR,ho]
    try rfl
def Sf (C:dX)(D:a8)(f:FuncId)(N:Nat)(ops:List Oper)(draw:Bool)(env:Env)(s:ag)(k:Env→ag→aU):aU :=
 match draw with
 | false=>M3 C D f N ops ops env s k
 | true=>AD C D f N ops ops env s [] fun ks env s=>ba C f ops ks (k env s)
theorem M4 {C:dX}{D:a8}{f:FuncId}{N:Nat}(ops:List Oper)(draw:Bool)(env:Env)(s:ag)(k:Env→ag→aU) :
  Sf C D f N ops draw env s k=match jt C D f N ops draw (env,s) with|some st=>k st.1 st.2|none=>none:=by
 unfold Sf jt
 cases draw with
 | false =>
  simp only[Bool.false_eq_true,if_false]
  rw[Eo ops k ops [] env s rfl,List.range_eq_range']
  rfl
 | true =>
  simp only[if_true]
  rw[AE ops _ ops [] env s [] rfl,List.range_eq_range']
  simp only[List.length_nil]
  cases j0 C D f N ops (List.range' 0 ops.length) (env,s) with
  | none=>rfl
  | some r =>
   simp only[ba,List.nil_append]
   split<;>rfl
def w9 (C:dX)(D:a8)(f:FuncId)(N:Nat)(ops:List Oper):List Nat→Env→ag→(Env→ag→aU)→aU
 | [],env,s,k=>k env s
 | i::l,env,s,k=>match ops[i]? with
  | some o=>WL C D f N ops o env s fun env s=>w9 C D f N ops l env s k
  | none=>w9 C D f N ops l env s k
theorem uT {C:dX}{D:a8}{f:FuncId}{N:Nat}{ops:List Oper}{k:Env→ag→aU}:∀(l:List Nat)(env:Env)(s:ag),w9 C D f N ops l env s k=match fG C D f N ops l (env,s) with|some st=>k st.1 st.2|none=>none
 | [],env,s=>rfl
 | i::l,env,s=>by
  simp only[w9,fG]
  cases h:ops[i]? with
  | none =>
   have:gS C D f N ops i (env,s)=some (env,s):=by unfold gS;rw[h]
   rw[this]
   exact uT l env s
  | some o =>
   simp only
   rw[CO h]
   cases gS C D f N ops i (env,s) with
   | none=>rfl
   | some st=>exact uT l st.1 st.2
def WM (A B:(Env→ag→aU)→aU)(k:Env→ag→aU):aU:=both (A k) (B k)
def yz (C:dX)(D:a8)(f:FuncId)(N:Nat)(ops:List Oper)(env:Env)(s:ag)(k:Env→ag→aU):aU :=
 WM (fun k=>w9 C D f N ops [0,1,2,3] env s k) (fun k=>w9 C D f N ops [0,2,1,3] env s k) fun e s'=>k e (tidy s' s.length)
theorem CP {C:dX}{D:a8}{f:FuncId}{N:Nat}(ops:List Oper)(env:Env)(s:ag)(k:Env→ag→aU) :
  yz C D f N ops env s k=match fG C D f N ops [0,1,2,3] (env,s),fG C D f N ops [0,2,1,3] (env,s) with
   | some s1,some s2=>both (k s1.1 (tidy s1.2 s.length)) (k s2.1 (tidy s2.2 s.length))
   | _,_=>none:=by
 simp only[yz,WM,uT]
 cases fG C D f N ops [0,1,2,3] (env,s) with
 | none=>rfl
 | some a =>
  cases fG C D f N ops [0,2,1,3] (env,s) with
  | none =>
   simp only[both]
   split
   ·rename_i e;cases e
   ·rfl
  | some b=>rfl
def lk (C:dX)(D:a8)(f:FuncId)(N fK:Nat):Code→Ks→Env→ag→aU
 | .skip,K,env,s=>K.norm env s
 | .region _ ops draw,K,env,s=>match draw&&choice ops.toList with
  | true=>yz C D f N ops.toList env s K.norm
  | false=>Sf C D f N ops.toList draw env s K.norm
 | .seq a b,K,env,s=>lk C D f N fK a { K with norm:=fun e s=>lk C D f N fK b K e s } env s
 | .cond c a b,K,env,s=>br (ku C env c) (lk C D f N fK a K env s) (lk C D f N fK b K env s)
 | .block id c,K,env,s=>lk C D f N fK c { K with exit:=fun i e s=>if i=id then K.norm e s else K.exit i e s } env s
 | .loop c,K,env,s=>aJ (fun k e s=>lk C D f N fK c { K with norm:=k } e s) fK env s
 | .exit id,K,env,s=>K.exit id env s
 | .label _,K,env,s=>K.norm env s
 | .ret,K,env,s=>K.ret env s
 | _,_,_,_=>none
theorem IJ {C:dX}{D:a8}{f:FuncId}{N fK:Nat}:∀(c:Code)(K:Ks)(env:Env)(s:ag),lk C D f N fK c K env s=eE C D f N fK c K env s:=by
 intro c
 induction c with
 | region id ops draw=>intro K env s;simp only[lk,eE,M4,CP];try rfl
 | seq x y Sc Se=>intro K env s;simp only[lk,eE,Sc,Se]
 | cond c x y Sc Se =>
  intro K env s
  simp only[lk,eE,Sc,Se,br]
  try rfl
 | block id c ih=>intro K env s;simp only[lk,eE,ih]
 | loop c ih=>intro K env s;simp only[lk,eE,ih]
 | _=>intro K env s;rfl
def Sg (P:Program)(rs:List ResultVar)(env:Env)(s:ag):aU:=match lP P rs env s with
 | some r=>some (r,s)
 | none=>none
def QI (C:dX)(D:a8)(n:Nat)(g:FuncId)(fn:Func)(args:List AV)(s:ag):aU :=
 match fn.body with
 | some c=>lk C D g (args.length+(fn.ntmps-args.length)) n c { norm:=Sg C.P fn.results.toList,ret:=Sg C.P fn.results.toList,exit:=fun _ _ _=>none } (aH args) s
 | none=>none
theorem am {C:dX}{n:Nat}{g:FuncId}{fn:Func}(he:C.ext g=none)(hf:C.P.funcs[g]?=some fn)(args:List AV)(s:ag):den C (n+1) g args s=QI C (den C n) n g fn args s:=by
 simp only[den,he,hf,QI]
 cases fn.body with
 | none=>rfl
 | some c =>
  simp only[IJ,II]
  congr 2<;>(funext env s;unfold Sg;cases lP C.P fn.results.toList env s<;>rfl)
theorem gx {C:dX}{n:Nat}{g:FuncId}{e:List AV→ag→Option (AV×ag)}(he:C.ext g=some e)(args:List AV)(s:ag):den C (n+1) g args s=e args s:=by
 simp only[den,he]
def mp (x:Option AV)(s:ag):Option (AV×ag):=x.map fun r=>(r,s)
def dZ (x:Option ag):Option (AV×ag):=x.map fun s=>(.undef,s)
def wA (x:AV)(want:Bool):Option Bool:=match x with
 | .bool b=>some (b==want)
 | .aI _=>some false
 | _=>none
def bf (env:Env)(l:List (Nat×AV)):Env:=l.foldl (fun e p=>HY e p.1 p.2) env
def uU (x:Option AV)(s:ag):aU:=match x with
 | some r=>some (r,s)
 | none=>none
def wG:List (Option AV)→Option (List AV)
 | []=>some []
 | r::rs=>match r,wG rs with
  | some a,some as=>some (a::as)
  | _,_=>none
def fP (P:Program)(D:a8)(x:AV)(args:List AV)(s:ag):Option (AV×ag):=match x with
 | .fn g first captured=>ab P D g ((first++args++captured).map AV.aa) s
 | _=>none
def bz (tk:Bool)(x:AV):Kind:=match x with
 | .box _ _=>.ae
 | .ref i _=>if tk then .bX else .get i
 | _=>if tk then .bX else .cU
def fQ (x:AV):Kind:=match x with
 | .ref i _=>.put i
 | _=>.bX
def ee (args:List AV):Kind:=if aV args then .ae else .bX
def iz (g:Option Bool)(k:Kind):Kind:=match g with
 | some true=>k
 | _=>.ae
def lQ:Code→Nat→Option (List Oper)
 | .region i ops _,id=>if i=id then some ops.toList else none
 | .seq a b,id=>match lQ a id with
  | some r=>some r
  | none=>lQ b id
 | .cond _ a b,id=>match lQ a id with
  | some r=>some r
  | none=>lQ b id
 | .block _ c,id=>lQ c id
 | .loop c,id=>lQ c id
 | _,_=>none
def bo (fn:Func)(id:Nat):List Oper:=match fn.body with
 | some c=>(lQ c id).getD []
 | none=>[]
end Go.Abs
end

section
namespace Go.Abs
open Go
theorem IK {x x':Option (AV×ag)}{k:AV→ag→aU}(h:x=x'):oh x k=oh x' k:=by rw[h]
theorem IL {c c':AV}{a b:aU}(h:c=c'):br c a b=br c' a b:=by rw[h]
theorem IM {c c':Option Bool}{s:ag}{x:Option (AV×ag)}(h:c=c'):gd c s x=gd c' s x:=by rw[h]
attribute [congr] IK IL IM
@[simp] theorem yA (r:AV) (s:ag) (k:AV→ag→aU):oh (some (r,s)) k=k r s:=(rfl)
@[simp] theorem M5 (r:AV) (s:ag):mp (some r) s=some (r,s):=(rfl)
@[simp] theorem IN (s:ag):dZ (some s)=some (.undef,s):=(rfl)
@[simp] theorem yB (a b:aU):br (.bool true) a b=a:=(rfl)
@[simp] theorem AF (a b:aU):br (.bool false) a b=b:=(rfl)
@[simp] theorem M6 (s:ag) (x:Option (AV×ag)):gd (some true) s x=x:=(rfl)
@[simp] theorem IP (s:ag) (x:Option (AV×ag)):gd (some false) s x=some (.aI [],s):=(rfl)
@[simp] theorem Ep (b want:Bool):wA (.bool b) want=some (b==want):=(rfl)
theorem Sh (vs:List AV)(want:Bool):wA (.aI vs) want=some false:=(rfl)
theorem WN:wA (.bool true) true=some true:=(rfl)
theorem WO:wA (.bool false) true=some false:=(rfl)
theorem WP:wA (.bool true) false=some false:=(rfl)
theorem WR:wA (.bool false) false=some true:=(rfl)
@[simp] theorem Gf (k:IntKind) (n:Int):(AV.int k n).aa=.int k n:=(rfl)
@[simp] theorem Gg (s:List UInt8):(AV.str s).aa=.str s:=(rfl)
@[simp] theorem CQ (b:Bool):(AV.bool b).aa=.bool b:=(rfl)
@[simp] theorem CR:AV.eA.aa=.eA:=(rfl)
@[simp] theorem CT:AV.aN.aa=.aN:=(rfl)
@[simp] theorem Gh (cs:List AV) (o:Nat):(AV.box cs o).aa=.box cs o:=(rfl)
@[simp] theorem Gi (i o:Nat):(AV.ref i o).aa=.ref i o:=(rfl)
@[simp] theorem Gj (cs:List AV):(AV.agg cs).aa=.agg cs:=(rfl)
@[simp] theorem Gk (cs:List AV):(AV.aI cs).aa=.aI cs:=(rfl)
@[simp] theorem AG:AV.undef.aa=.undef:=(rfl)
@[simp] theorem IQ (f:FuncId) (a b:List AV):(AV.fn f a b).aa=.fn f a b:=(rfl)
@[simp] theorem eF (t:TypeId) (z:Nat) (xs:List AV):(AV.sl t z xs .sh).aa=.sl t z xs .sh:=(rfl)
@[simp] theorem Si (t:TypeId) (z:Nat) (xs:List AV):(AV.sl t z xs .full).aa=.sl t z xs .full:=(rfl)
@[simp] theorem aj (t:TypeId) (z:Nat) (xs:List AV):(AV.sl t z xs .own).aa=.sl t z xs .sh:=(rfl)
@[simp] theorem wH (cs:List AV) (o:Nat):au (.box cs o)=some (.box cs o):=(rfl)
@[simp] theorem wI (i o:Nat):au (.ref i o)=some (.ref i o):=(rfl)
@[simp] theorem M7 (f:FuncId) (a b:List AV):au (.fn f a b)=some (.fn f a b):=(rfl)
@[simp] theorem Gl (k:Nat) (cs:List AV) (o:Nat):aD k (.box cs o)=some (.box cs (o+k)):=(rfl)
@[simp] theorem Gm (k:Nat) (i o:Nat):aD k (.ref i o)=some (.ref i (o+k)):=(rfl)
theorem w_ (tk agg:Bool)(n:Nat)(cs:List AV)(o:Nat)(s:ag):af tk agg n (.box cs o) s=(ff agg n cs o).map fun r=>(r,s):=(rfl)
theorem CU (n:Nat)(cs:List AV)(o:Nat):ff false n cs o=cs[o]?.map AV.aa:=by unfold ff;cases cs[o]?<;>rfl
@[simp] theorem cu (n:Nat) (cs:List AV) (o:Nat) (s:ag):af false false n (.box cs o) s=cs[o]?.map fun r=>(r.aa,s):=by
 rw[w_,CU];cases cs[o]?<;>rfl
@[simp] theorem nM (tk:Bool) (n:Nat) (cs:List AV) (o:Nat) (s:ag) (h:o+n≤cs.length):af tk true n (.box cs o) s=some (.agg ((cs.drop o).take n),s):=by
 rw[w_];unfold ff;simp[h]
@[simp] theorem CV (a b:AV):bQ (.bool true) a b=some a.aa:=(rfl)
@[simp] theorem AH (a b:AV):bQ (.bool false) a b=some b.aa:=(rfl)
@[simp] theorem Er (b:Bool):pF .not (.bool b)=some (.bool !b):=(rfl)
@[simp] theorem yC (i:Nat) (vs:List AV):bW i (.aI vs)=vs[i]?.map AV.aa:=(rfl)
@[simp] theorem IR (k:IntKind) (x y:Int):Ag (.int k x) (.int k y)=some (.int k (if y<x then y else x)):=(rfl)
@[simp] theorem IS (k:IntKind) (x y:Int):Ik (.int k x) (.int k y)=some (.int k (if y > x then y else x)):=(rfl)
@[simp] theorem kT (t:TypeId) (x:AV) (s:ag) (h:x.ce=true):cL false t x s=some (.box x.cells 0,s):=by simp[cL,h]
@[simp] theorem Gn (cs:List AV):(AV.agg cs).ce=true:=(rfl)
@[simp] theorem V0 (cs:List AV) (o:Nat):(AV.box cs o).ce=true:=(rfl)
@[simp] theorem Sj:AV.eA.ce=true:=(rfl)
@[simp] theorem V1 (k:IntKind) (n:Int):(AV.int k n).ce=true:=(rfl)
@[simp] theorem Sk (b:Bool):(AV.bool b).ce=true:=(rfl)
@[simp] theorem V2 (s:List UInt8):(AV.str s).ce=true:=(rfl)
@[simp] theorem Gp (cs:List AV):(AV.agg cs).cells=cs:=(rfl)
@[simp] theorem xe (k:IntKind) (n:Int):(AV.int k n).cells=[.int k n]:=(rfl)
@[simp] theorem Gq (tk:Bool) (cs:List AV) (o:Nat):bz tk (.box cs o)=.ae:=(rfl)
@[simp] theorem pD (i o:Nat):bz false (.ref i o)=.get i:=(rfl)
theorem yD (t z j o n:Nat):oS (.rs t z j o n)=.app (some j):=(rfl)
@[simp] theorem IT (k:Kind):iz (some true) k=k:=(rfl)
@[simp] theorem jJ (k:Kind):iz (some false) k=.ae:=(rfl)
theorem IU (args:List AV):ee args=if aV args=true then .ae else .bX:=by unfold ee;cases aV args<;>rfl
theorem aC (a:AV)(l:List AV):aV (a::l)=(a.a_&&aV l):=by simp[aV]
theorem aY:aV []=true:=(rfl)
theorem eQ (k:IntKind)(n:Int):(AV.int k n).a_=true:=(rfl)
theorem eR (s:List UInt8):(AV.str s).a_=true:=(rfl)
theorem CW (b:Bool):(AV.bool b).a_=true:=(rfl)
theorem CX:AV.eA.a_=true:=(rfl)
theorem lm (cs:List AV):(AV.agg cs).a_=aV cs:=by simp[AV.a_]
theorem cE (t:TypeId)(z:Nat)(cs:List AV)(f:om):(AV.sl t z cs f).a_=aV cs:=by simp[AV.a_]
theorem jK (cs:List AV):(AV.aI cs).a_=aV cs:=by simp[AV.a_]
theorem jL {C:dX}{f:FuncId}{ops:List Oper}{ks:List Kind}{x:aU}(h:(iy ops&&gX C f ops ks)=true):ba C f ops ks x=x:=by simp[ba,h]
@[simp] theorem cM (i o:Nat):fQ (.ref i o)=.put i:=(rfl)
def Mg (a b:Nat):Kind→Kind
 | .put 0=>.put a
 | .put _=>.put b
 | k=>k
def two:Kind→Bool
 | .put n=>n<2
 | .get _=>false
 | .app _=>false
 | _=>true
def base:Kind→Kind
 | .get _=>.cU
 | .app _=>.bX
 | .call _=>.bX
 | k=>k
theorem uV (s s':ag):dyn .ae s s'=.ae:=(rfl)
theorem M8 (i:Nat)(s s':ag):dyn (.get i) s s'=.get i:=(rfl)
theorem M9 (i:Option Nat)(s s':ag):dyn (.app i) s s'=.app i:=(rfl)
theorem CY (s s':ag):dyn .bX s s'=.call (kept s s'):=(rfl)
theorem AI {x y:Kind}(h:de (base x) (base y)=true):de x y=true:=by
 cases x<;>cases y<;>first|rfl|exact h|(simp[base,de]at h)
theorem CZ {a b:Nat}(h:a≠b){x y:Kind}(hx:two x=true)(hy:two y=true)(hc:de x y=true):de (Mg a b x) (Mg a b y)=true:=by
 have key:∀{n m:Nat},two (.put n)=true→two (.put m)=true→de (.put n) (.put m)=true→de (Mg a b (.put n)) (Mg a b (.put m))=true:=by
  intro n m hn hm hc
  have hn:n<2:=by simpa[two] using hn
  have hm:m<2:=by simpa[two] using hm
  have hc:n≠m:=by simpa[de] using hc
  match n,m with
  | 0,0=>exact absurd rfl hc
  | 1,1=>exact absurd rfl hc
  | 0,1=>simpa[Mg,de] using h
  | 1,0=>simpa[Mg,de] using fun e=>h e.symm
  | n+2,_=>omega
  | _,m+2=>omega
 have put:∀n,∃k,Mg a b (.put n)=.put k:=fun n=>by
  cases n with
  | zero=>exact⟨a,rfl⟩
  | succ n=>exact⟨b,rfl⟩
 cases x with
 | put n =>
  cases y with
  | put m=>exact key hx hy hc
  | ae=>obtain⟨k,e⟩:=put n;rw[e];rfl
  | _=>simp[de,two]at hc hy
 | ae=>rfl
 | get i=>simp[two]at hx
 | app i=>simp[two]at hx
 | cU =>
  cases y with
  | put m=>simp[de]at hc
  | get i=>simp[two]at hy
  | app i=>simp[two]at hy
  | _=>exact hc
 | bX =>
  cases y with
  | put m=>simp[de]at hc
  | get i=>simp[two]at hy
  | app i=>simp[two]at hy
  | _=>exact hc
 | alloc =>
  cases y with
  | put m=>simp[de]at hc
  | get i=>simp[two]at hy
  | app i=>simp[two]at hy
  | _=>exact hc
 | call l =>
  cases y with
  | get i=>simp[two]at hy
  | ae=>rfl
  | _=>simp[de]at hc
theorem AJ (a b:Nat)(ks:List Kind)(i:Nat):(ks.map (Mg a b)).getD i .ae=Mg a b (ks.getD i .ae):=by
 simp only[List.getD_eq_getElem?_getD,List.getElem?_map]
 cases ks[i]?<;>rfl
theorem AK {ks:List Kind}(h:ks.all two=true)(i:Nat):two (ks.getD i .ae)=true:=by
 rw[List.getD_eq_getElem?_getD]
 cases hx:ks[i]? with
 | none=>rfl
 | some k=>exact List.all_eq_true.1 h k (List.mem_of_getElem? hx)
theorem xf (ks:List Kind)(i:Nat):(ks.map base).getD i .ae=base (ks.getD i .ae):=by
 simp only[List.getD_eq_getElem?_getD,List.getElem?_map]
 cases ks[i]?<;>rfl
theorem C1 {C:dX}{f:FuncId}{ops:List Oper}{ks:List Kind}(h:gX C f ops (ks.map base)=true):gX C f ops ks=true:=by
 simp only[gX,List.all_eq_true]at h ⊢
 intro j hj i hi
 have:=h j hj i hi
 simp only[Bool.or_eq_true]at this ⊢
 rcases this with k|k
 ·exact .inl k
 ·refine .inr ?_
  split at k
  ·rename_i oa ob ha hb
   simp only[Bool.and_eq_true]at k
   rw[xf,xf]at k
   rw[k.1,Bool.true_and]
   exact AI k.2
  ·cases k
theorem bT {C:dX}{f:FuncId}{ops:List Oper}{ks:List Kind}{x:aU}(h:(iy ops&&gX C f ops (ks.map base))=true):ba C f ops ks x=x:=by
 simp only[Bool.and_eq_true]at h
 exact jL (by rw[h.1,C1 h.2];rfl)
theorem ln {ks:List Kind}{i:Nat}{k:Kind}(h:ks.getD i .ae=k)(hk:k≠.ae):k∈ks:=by
 rw[List.getD_eq_getElem?_getD]at h
 cases hx:ks[i]? with
 | none=>rw[hx]at h;exact absurd h.symm hk
 | some y=>rw[hx]at h;cases h;exact List.mem_of_getElem? hx
def xg:Kind→Kind
 | .get _=>.get 0
 | .call _=>.call [0]
 | .put _=>.put 1
 | .app _=>.bX
 | k=>k
theorem yE {x y:Kind}(hk:∀i l,(x=.get i∧y=.call l∨x=.call l∧y=.get i)→l.contains i=true)(hp:∀i j,x=.get i→y=.put j→i≠j)(h:de (xg x) (xg y)=true):de x y=true:=by
 cases x<;>cases y<;>first|rfl|exact h|exact hk _ _ (.inl ⟨rfl,rfl⟩)|exact hk _ _ (.inr ⟨rfl,rfl⟩)|(simp[xg,de]at h;done)|(have:=hp _ _ rfl rfl;simpa[de] using this)
theorem uW (ks:List Kind)(i:Nat):(ks.map xg).getD i .ae=xg (ks.getD i .ae):=by
 simp only[List.getD_eq_getElem?_getD,List.getElem?_map]
 cases ks[i]?<;>rfl
theorem pW {C:dX}{f:FuncId}{ops:List Oper}{ks:List Kind}{gs ps:List Nat}{ls:List (List Nat)}{x:aU}(h:(iy ops&&gX C f ops (ks.map xg))=true)
  (hg:∀i,.get i∈ks→i∈gs)(hl:∀l,.call l∈ks→l∈ls)(hpp:∀j,.put j∈ks→j∈ps)(hk:∀g∈gs,∀l∈ls,(l:List Nat).contains g=true)(hp:∀g∈gs,∀p∈ps,g≠p):ba C f ops ks x=x:=by
 simp only[Bool.and_eq_true]at h
 refine jL ?_
 rw[h.1,Bool.true_and]
 have h:=h.2
 simp only[gX,List.all_eq_true]at h ⊢
 intro j hj i hi
 have:=h j hj i hi
 simp only[Bool.or_eq_true]at this ⊢
 rcases this with k|k
 ·exact .inl k
 ·refine .inr ?_
  split at k
  ·rename_i oa ob ha hb
   simp only[Bool.and_eq_true]at k
   rw[uW,uW]at k
   rw[k.1,Bool.true_and]
   refine yE (fun a l e=>?_) (fun a p e1 e2=>hp a (hg a (ln e1 (by simp))) p (hpp p (ln e2 (by simp)))) k.2
   rcases e with ⟨e1,e2⟩|⟨e1,e2⟩
   ·exact hk a (hg a (ln e1 (by simp))) l (hl l (ln e2 (by simp)))
   ·exact hk a (hg a (ln e2 (by simp))) l (hl l (ln e1 (by simp)))
  ·cases k
theorem dU {C:dX}{f:FuncId}{ops:List Oper}{a b:Nat}(hab:a≠b){ks0 ks:List Kind}{x:aU}(h:(ks0.all two&&iy ops&&gX C f ops ks0)=true)(e:ks.map base=ks0.map (Mg a b)):ba C f ops ks x=x:=by
 simp only[Bool.and_eq_true]at h
 obtain⟨⟨h1,h2⟩,h3⟩:=h
 refine bT ?_
 rw[h2,Bool.true_and,e]
 simp only[gX,List.all_eq_true]at h3 ⊢
 intro j hj i hi
 have:=h3 j hj i hi
 simp only[Bool.or_eq_true]at this ⊢
 rcases this with k|k
 ·exact .inl k
 ·refine .inr ?_
  split at k
  ·rename_i oa ob ha hb
   simp only[Bool.and_eq_true]at k
   rw[k.1,AJ,AJ,Bool.true_and]
   exact CZ hab (AK h1 i) (AK h1 j) k.2
  ·cases k
@[simp] theorem Gr (r:AV) (s:ag):uU (some r) s=some (r,s):=(rfl)
@[simp] theorem IV:wG []=some []:=(rfl)
@[simp] theorem Gs (a:AV) (l:List (Option AV)):wG (some a::l)=(wG l).map (a::·):=by simp only[wG];cases wG l<;>rfl
theorem wrap64 {n:Int}(h1:-9223372036854775808≤n)(h2:n<9223372036854775808):IntKind.i64.wrap n=n:=by
 have e1:(2:Int) ^ 64=18446744073709551616:=(rfl)
 have e2:(2:Int) ^ (64-1)=9223372036854775808:=(rfl)
 simp only[IntKind.wrap,IntKind.signed,IntKind.bits,e1,e2,Bool.true_and,decide_eq_true_eq]
 split<;>omega
section bin
variable (P:Program)(t:TypeId)
theorem yF (op:BinOp)(k:IntKind)(a b:Int):aK P op t (.int k a) (.int k b)=iu op k a b:=by simp[aK]
@[simp] theorem M_ (k:IntKind) (a b:Int):aK P .add t (.int k a) (.int k b)=some (.int k (k.wrap (a+b))):=by simp[aK,iu]
@[simp] theorem M' (k:IntKind) (a b:Int):aK P .sub t (.int k a) (.int k b)=some (.int k (k.wrap (a-b))):=by simp[aK,iu]
@[simp] theorem gy (k:IntKind) (a b:Int):aK P .eql t (.int k a) (.int k b)=some (.bool (a==b)):=by simp[aK,iu]
@[simp] theorem Na (k:IntKind) (a b:Int):aK P .neq t (.int k a) (.int k b)=some (.bool (a != b)):=by simp[aK,iu]
@[simp] theorem Nb (k:IntKind) (a b:Int):aK P .lss t (.int k a) (.int k b)=some (.bool (decide (a<b))):=by simp[aK,iu]
@[simp] theorem Nc (k:IntKind) (a b:Int):aK P .leq t (.int k a) (.int k b)=some (.bool (decide (a≤b))):=by simp[aK,iu]
@[simp] theorem Nf (k:IntKind) (a b:Int):aK P .gtr t (.int k a) (.int k b)=some (.bool (decide (a > b))):=by simp[aK,iu]
@[simp] theorem Ng (k:IntKind) (a b:Int):aK P .geq t (.int k a) (.int k b)=some (.bool (decide (a ≥ b))):=by simp[aK,iu]
@[simp] theorem dx (a b:List UInt8):aK P .eql t (.str a) (.str b)=some (.bool (a==b)):=by simp[aK,oL]
@[simp] theorem aaX (a b:List UInt8):aK P .neq t (.str a) (.str b)=some (.bool !(a==b)):=by simp[aK,oL]
theorem aaY {a b:List UInt8}(h:a.length+b.length≤4611686018427387904):aK P .add t (.str a) (.str b)=some (.str (a++b)):=by simp[aK,oL,h]
end bin
@[simp] theorem cV (e:Env):bf e []=e:=(rfl)
theorem ai (e:Env)(i:Nat)(v:AV)(l:List (Nat×AV)):bf e ((i,v)::l)=bf (HY e i v) l:=(rfl)
theorem an (e:Env)(i j:Nat)(v:AV):HY e i v j=if j=i then v else e j:=(rfl)
def AC (C:dX)(g:FuncId)(args:List AV)(v:AV):Prop:=∃N,∀n,N≤n→∀s,ab C.P (den C n) g args s=some (v,s)
theorem AC.intro {C:dX}{g:FuncId}{args:List AV}{v:AV}(he:ah C.P g=true)(hn:aV args=true)(hv:v.a_=true)(h:∃N,∀n,N≤n→∃s1,den C (n+1) g args []=some (v,s1)):AC C g args v:=by
 obtain⟨N,h⟩:=h
 refine⟨N+1,fun n hN s=>?_⟩
 obtain⟨m,rfl⟩:∃m,n=m+1:=⟨n-1,by omega⟩
 obtain⟨s1,h1⟩:=h m (by omega)
 simp[ab,he,hn,h1,hv]
end Go.Abs
end

section
namespace Go.Abs
open Go
def sL:=And.intro @yA (And.intro @M5 (And.intro @IN (And.intro @yB (And.intro @AF (And.intro @M6 (And.intro @IP (And.intro @WN (And.intro @Sh (And.intro @WO (And.intro @WP (And.intro @WR (And.intro @wH (And.intro @wI (And.intro @Gl (And.intro @Gm (And.intro @cu (And.intro @List.getElem?_cons_succ.{0} (And.intro @List.getElem?_cons_zero.{0} (And.intro @Option.map_some.{0,0} (And.intro @M_ (And.intro @M' (And.intro @Nb (And.intro @Nc (And.intro @Nf (And.intro @Ng (And.intro @gy (And.intro @Na (And.intro @dx (And.intro @IS (And.intro @IR (And.intro @Er (And.intro @CV (And.intro @AH (And.intro @Gf (And.intro @CQ (And.intro @Gg (And.intro @CR (And.intro @CT (And.intro @Gh (And.intro @Gi (And.intro @Gj (And.intro @Gk (And.intro @AG (And.intro @kT (And.intro @Gn (And.intro @Gp (And.intro @Gq (And.intro @IT (And.intro @jJ (And.intro @IU (And.intro @gt_iff_lt.{0} (And.intro @ge_iff_le.{0} (And.intro @Int.ofNat_lt (And.intro @Int.ofNat_le (And.intro @decide_true (And.intro @decide_false (And.intro @Nat.zero_add (And.intro @Bool.not_true (And.intro @Bool.not_false (And.intro @yC (And.intro @Gr (And.intro @IV (And.intro @Gs (And.intro @aC (And.intro @aY (And.intro @eQ (And.intro @eR (And.intro @CW (And.intro @CX (And.intro @lm (And.intro @IQ (And.intro @pD (And.intro @Bool.and_self (And.intro @ite_true.{1} (And.intro @uV (And.intro @M8 (And.intro @M9 @CY)))))))))))))))))))))))))))))))))))))))))))))))))))))))))))))))))))))))))))))
end Go.Abs
end

section
namespace Go.Abs
open Go
def ju:List AV→Option (List UInt8)
 | []=>some []
 | .int .u8 n::r=>if 0≤n∧n<256 then(ju r).map (UInt8.ofNat n.toNat::·) else none
 | _::_=>none
theorem wJ (bs:List UInt8):ju (bs.map fun b=>.int .u8 b.toNat)=some bs:=by
 induction bs with
 | nil=>rfl
 | cons b bs ih =>
  have:=b.toNat_lt
  simp only[List.map_cons,ju,ih]
  rw[if_pos (by constructor<;>omega)]
  simp
def mV (ty:TypeId)(args:List AV)(s:ag):Option (AV×ag) :=
 match args with
 | [.ref id 0]=>match s[id]? with
  | some (t,[.eA,b])=>if t=ty then some (.aI [],s.set id (t,[.ref id 0,b])) else none
  | some (t,[.ref id' 0,_])=>if t=ty∧id'=id then some (.aI [],s) else none
  | _=>none
 | _=>none
def kF (bt:TypeId)(args:List AV)(s:ag):Option (AV×ag) :=
 match args with
 | [.ref id 0]=>match s[id]? with
  | some (t,[_,.aN])=>if t=cI then none else some (.str [],s)
  | some (t,[a,.sl ty 1 xs .own])=>if ty=bt∧t≠cI then match ju xs with
   | some (b::bs)=>if bs.length<1000000000000 then some (.str (b::bs),s.set id (t,[a,.sl ty 1 xs .sh])) else none
   | _=>none
   else none
  | _=>none
 | _=>none
end Go.Abs
end

section
namespace Go.Abs
open Go
def Mh (D D':a8):Prop:=∀g args s r,D g args s=some r→D' g args s=some r
theorem C2 {P:Program}{D D':a8}(h:Mh D D'){g:FuncId}{args:List AV}{s:ag}{r:AV×ag}(e:ab P D g args s=some r):ab P D' g args s=some r:=by
 unfold ab at e ⊢
 split
 ·rename_i he
  rw[if_pos he]at e
  split
  ·rename_i hn
   rw[if_pos hn]at e
   cases hd:D g args [] with
   | none=>rw[hd]at e;cases e
   | some x=>rw[hd]at e;rw[h _ _ _ _ hd];exact e
  ·rename_i hn
   rw[if_neg hn]at e
   exact h _ _ _ _ e
 ·rename_i he
  rw[if_neg he]at e;cases e
theorem AL {P:Program}{D D':a8}(h:Mh D D'){g:FuncId}{args:List AV}{s:ag}{r:AV×ag}(e:oR P D g args s=some r):oR P D' g args s=some r:=by
 unfold oR at e ⊢
 split
 ·rename_i he;rw[if_pos he]at e;exact h _ _ _ _ e
 ·rename_i he;rw[if_neg he]at e;cases e
theorem IW {C:dX}{D D':a8}(h:Mh D D'){rf tk:Bool}{o:Op} {ρ:Operand→AV}{s:ag}{r:AV×ag}(e:mM C D rf tk o ρ s=some r):mM C D' rf tk o ρ s=some r:=by
 cases o with
 | call c =>
  simp only[mM]at e ⊢
  split at e
  ·exact e
  ·split at e
   ·split at e
    ·rename_i hr;rw[if_pos hr];exact AL h e
    ·rename_i hr;rw[if_neg hr];exact C2 h e
   ·cases e
  ·cases e
 | makeFunc fn first captured=>cases fn<;>exact e
 | _=>exact e
theorem uX {C:dX}{D D':a8}(h:Mh D D'){f:FuncId}{N:Nat}{ops:List Oper}{i:Nat}{st:mN}{r:mN}(e:gS C D f N ops i st=some r):gS C D' f N ops i st=some r:=by
 unfold gS at e ⊢
 cases ho:ops[i]? with
 | none=>rw[ho]at e;exact e
 | some o =>
  rw[ho]at e
  simp only at e ⊢
  split at e
  ·rename_i hd
   rw[if_pos hd]
   cases hw:bU ops o st.1 with
   | none=>rw[hw]at e;cases e
   | some b =>
    rw[hw]at e
    cases b with
    | false=>exact e
    | true =>
     simp only at e ⊢
     cases hv:mM C D (b_ C f o) (cH C f ops o) o.op (ku C st.1) st.2 with
     | none=>rw[hv]at e;cases e
     | some x=>rw[hv]at e;rw[IW h hv];exact e
  ·cases e
theorem lR {C:dX}{D D':a8}(h:Mh D D'){f:FuncId}{N:Nat}{ops:List Oper}:∀(l:List Nat)(st r:mN),fG C D f N ops l st=some r→fG C D' f N ops l st=some r
 | [],st,r,e=>e
 | i::l,st,r,e=>by
  simp only[fG]at e ⊢
  cases h1:gS C D f N ops i st with
  | none=>rw[h1]at e;cases e
  | some x=>rw[h1]at e;rw[uX h h1];exact lR h l x r e
theorem uY {C:dX}{D D':a8}(h:Mh D D'){f:FuncId}{N:Nat}{ops:List Oper}:∀(l:List Nat)(st:mN)(r:mN×List Kind),j0 C D f N ops l st=some r→j0 C D' f N ops l st=some r
 | [],st,r,e=>e
 | i::l,st,r,e=>by
  simp only[j0]at e ⊢
  cases h1:gS C D f N ops i st with
  | none=>rw[h1]at e;cases e
  | some x =>
   rw[h1]at e;rw[uX h h1]
   simp only at e ⊢
   cases h2:j0 C D f N ops l x with
   | none=>rw[h2]at e;cases e
   | some y=>rw[h2]at e;rw[uY h l x y h2];exact e
theorem yG {C:dX}{D D':a8}(h:Mh D D'){f:FuncId}{N:Nat}{ops:List Oper}{draw:Bool}{st r:mN}(e:jt C D f N ops draw st=some r):jt C D' f N ops draw st=some r:=by
 unfold jt at e ⊢
 cases draw with
 | false=>exact lR h _ _ _ e
 | true =>
  simp only[if_true]at e ⊢
  cases h2:j0 C D f N ops (List.range ops.length) st with
  | none=>rw[h2]at e;cases e
  | some y=>rw[h2]at e;rw[uY h _ _ y h2];exact e
def Sl (k k':Env→ag→aU):Prop:=∀e s r,k e s=some r→k' e s=some r
structure Kle (K K':Ks):Prop where
 norm:Sl K.norm K'.norm
 ret:Sl K.ret K'.ret
 exit:∀i,Sl (K.exit i) (K'.exit i)
theorem uZ {F F':(Env→ag→aU)→Env→ag→aU}(hF:∀k k',Sl k k'→Sl (F k) (F' k')):∀(n n':Nat),n≤n'→Sl (aJ F n) (aJ F' n')
 | 0,_,_,e,s,r,h=>by cases h
 | n+1,0,hn,_,_,_,_=>by omega
 | n+1,n'+1,hn,e,s,r,h=>hF _ _ (uZ hF n n' (by omega)) e s r h
theorem C3 {C:dX}{D D':a8}(h:Mh D D'){f:FuncId}{N n n':Nat}(hn:n≤n'):∀(c:Code)(K K':Ks),Kle K K'→Sl (eE C D f N n c K) (eE C D' f N n' c K'):=by
 intro c
 induction c with
 | skip=>intro K K' hK;exact hK.norm
 | region id ops draw =>
  intro K K' hK e s r he
  simp only[eE]at he ⊢
  split at he
  ·cases h1:fG C D f N ops.toList [0,1,2,3] (e,s) with
   | none=>rw[h1]at he;cases he
   | some y1 =>
    cases h2:fG C D f N ops.toList [0,2,1,3] (e,s) with
    | none=>rw[h1,h2]at he;cases he
    | some y2 =>
     rw[h1,h2]at he
     rw[lR h _ _ _ h1,lR h _ _ _ h2]
     obtain⟨k1,k2⟩:=Az he
     exact MZ (hK.norm _ _ _ k1) (hK.norm _ _ _ k2)
  ·cases h2:jt C D f N ops.toList draw (e,s) with
   | none=>rw[h2]at he;cases he
   | some y=>rw[h2]at he;rw[yG h h2];exact hK.norm _ _ _ he
 | seq a b iha ihb =>
  intro K K' hK e s r he
  simp only[eE]at he ⊢
  exact iha { K with norm:=fun e s=>eE C D f N n b K e s } { K' with norm:=fun e s=>eE C D' f N n' b K' e s } ⟨fun e s r h=>ihb K K' hK e s r h,hK.ret,hK.exit⟩ e s r he
 | cond c a b iha ihb =>
  intro K K' hK e s r he
  simp only[eE]at he ⊢
  split at he
  ·exact iha _ _ hK e s r he
  ·exact ihb _ _ hK e s r he
  ·cases he
 | block id c ih =>
  intro K K' hK e s r he
  simp only[eE]at he ⊢
  refine ih { K with exit:=fun i e s=>if i=id then K.norm e s else K.exit i e s } { K' with exit:=fun i e s=>if i=id then K'.norm e s else K'.exit i e s } ⟨hK.norm,hK.ret,fun i e s r hx=>?_⟩ e s r he
  simp only at hx ⊢
  split
  ·rename_i hi;rw[if_pos hi]at hx;exact hK.norm _ _ _ hx
  ·rename_i hi;rw[if_neg hi]at hx;exact hK.exit _ _ _ _ hx
 | loop c ih =>
  intro K K' hK e s r he
  simp only[eE]at he ⊢
  exact uZ (fun k k' hk=>ih { K with norm:=k } { K' with norm:=k' } ⟨hk,hK.ret,hK.exit⟩) n n' hn e s r he
 | exit id=>intro K K' hK e s r he;exact hK.exit _ _ _ _ he
 | label id=>intro K K' hK e s r he;exact hK.norm _ _ _ he
 | ret=>intro K K' hK e s r he;exact hK.ret _ _ _ he
 | _=>intro K K' hK e s r he;cases he
theorem Gt (C:dX):∀n,Mh (den C n) (den C (n+1)):=by
 intro n
 induction n with
 | zero=>intro g args s r h;cases h
 | succ n ih =>
  intro g args s r h
  simp only[den]at h ⊢
  cases he:C.ext g with
  | some e=>rw[he]at h;exact h
  | none =>
   rw[he]at h
   simp only at h ⊢
   cases hf:C.P.funcs[g]? with
   | none=>rw[hf]at h;cases h
   | some fn =>
    rw[hf]at h
    simp only at h ⊢
    cases hb:fn.body with
    | none=>rw[hb]at h;cases h
    | some c =>
     rw[hb]at h
     exact C3 ih (Nat.le_succ n) c _ _ ⟨fun _ _ _ h=>h,fun _ _ _ h=>h,fun _ _ _ _ h=>h⟩ _ _ _ h
theorem AM (C:dX){n m:Nat}(hm:n≤m):Mh (den C n) (den C m):=by
 obtain⟨k,rfl⟩:∃k,m=n+k:=⟨m-n,by omega⟩
 clear hm
 induction k with
 | zero=>exact fun _ _ _ _ h=>h
 | succ k ih=>exact fun g args s r h=>Gt C (n+k) g args s r (ih g args s r h)
theorem AC.one {C:dX}{g:FuncId}{args:List AV}{v:AV}{n:Nat}{s1:ag}(he:ah C.P g=true)(hn:aV args=true)(hv:v.a_=true)(h:den C n g args []=some (v,s1)):AC C g args v:=by
 refine .intro he hn hv ⟨n,fun k hk=>⟨s1,?_⟩⟩
 exact AM C (by omega) _ _ _ _ h
end Go.Abs
end
