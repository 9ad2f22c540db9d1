/- ParM, ParN, ParO, ParO2 -/

set_option linter.all false

section
namespace Pm
abbrev Bytes:=List UInt8
abbrev Tok:=Nat×Bytes
inductive az where
 | mk (kind:Nat) (text:Bytes) (cs:List az)
 deriving Inhabited
abbrev YB:Bytes:=[117,115,101]
abbrev lY:Bytes:=[112,117,98]
abbrev Gv:Bytes:=[102,110]
abbrev ET:Bytes:=[115,116,114,117,99,116]
abbrev Q6:Bytes:=[101,110,117,109]
abbrev Jd:Bytes:=[116,114,97,105,116]
abbrev Q7:Bytes:=[105,109,112,108]
abbrev C7:Bytes:=[99,111,110,115,116]
abbrev Je:Bytes:=[109,97,99,114,111]
abbrev wAs:Bytes:=[97,115]
abbrev Jf:Bytes:=[102,111,114]
abbrev Jg:Bytes:=[116,121,112,101]
abbrev mF:Bytes:=[109,117,116]
abbrev Tf:Bytes:=[108,101,116]
abbrev C8:Bytes:=[119,104,105,108,101]
abbrev yR:Bytes:=[114,101,116,117,114,110]
abbrev Mi:Bytes:=[105,102]
abbrev u9:Bytes:=[109,97,116,99,104]
abbrev EU:Bytes:=[101,108,115,101]
abbrev YC:Bytes:=[110,101,119]
abbrev iS:Bytes:=[116,114,117,101]
abbrev iA:Bytes:=[102,97,108,115,101]
abbrev dB:Bytes:=[59]
abbrev fk:Bytes:=[58]
abbrev C9:Bytes:=[61]
abbrev cC:Bytes:=[40]
abbrev gY:Bytes:=[41]
abbrev j5:Bytes:=[123]
abbrev gO:Bytes:=[125]
abbrev Mj:Bytes:=[60]
abbrev Tg:Bytes:=[62]
abbrev yS:Bytes:=[44]
abbrev Ot:Bytes:=[46]
abbrev Ou:Bytes:=[38]
abbrev mW:Bytes:=[42]
abbrev xi:Bytes:=[43]
abbrev C_:Bytes:=[45]
abbrev Th:Bytes:=[47]
abbrev qi:Bytes:=[33]
abbrev Jh:Bytes:=[124]
abbrev nS:Bytes:=[124,124]
abbrev Ov:Bytes:=[38,38]
abbrev YD:Bytes:=[61,61]
abbrev ry:Bytes:=[45,62]
abbrev rz:Bytes:=[61,62]
abbrev df:Bytes:=[58,58]
abbrev yT:Bytes:=[95]
def dq (t:Tok):Bool:=t.1==101 || t.1==102
def io (ts:List Tok):List Tok:=ts.dropWhile dq
def hd (ts:List Tok):Tok:=match ts with
 | []=>(100,[])
 | t::_=>t
def pk (ts:List Tok):Tok:=hd (io ts)
def la (ts:List Tok):List Tok:=(io ts).drop 1
def cr (t:Tok):az:=.mk t.1 t.2 []
def eN (ws:List Bytes)(t:Tok):Bool:=(t.1==104 || t.1==107)&&ws.contains t.2
abbrev mO:=Tok→Tok→Tok→Bool
def ev (c:mO)(ts:List Tok):Bool:=c (pk ts) (pk (la ts)) (pk (la (la ts)))
mutual
def dj:az→Bytes
 | .mk _ t cs=>t++cY cs
def cY:List az→Bytes
 | []=>[]
 | t::ts=>dj t++cY ts
end
def j7:List Tok→Bytes
 | []=>[]
 | t::ts=>t.2++j7 ts
mutual
def yU:az→Nat
 | .mk _ _ cs=>1+dC cs
def dC:List az→Nat
 | []=>0
 | t::ts=>yU t+dC ts
end
mutual
def dpT:az→Nat
 | .mk _ _ cs=>1+oD cs
def oD:List az→Nat
 | []=>0
 | t::ts=>max (dpT t) (oD ts)
end
theorem cg:dC []=0:=rfl
theorem ci:oD []=0:=rfl
theorem aZ (k:Nat)(x:Bytes)(cs:List az):yU (.mk k x cs)=1+dC cs:=by rw[yU]
theorem bC (k:Nat)(x:Bytes)(cs:List az):dpT (.mk k x cs)=1+oD cs:=by rw[dpT]
theorem aT (t:az):dC [t]=yU t:=by rw[dC,dC];rfl
theorem be (t:az):oD [t]=dpT t:=by rw[oD,oD];exact Nat.max_eq_left (Nat.zero_le _)
theorem aw (a b:List az):dC (a++b)=dC a+dC b:=by
 induction a with
 | nil=>rw[List.nil_append,cg,Nat.zero_add]
 | cons x a ih=>rw[List.cons_append,dC,dC,ih,Nat.add_assoc]
theorem aG (a b:List az):oD (a++b)=max (oD a) (oD b):=by
 induction a with
 | nil=>rw[List.nil_append,ci,Nat.zero_max]
 | cons x a ih=>rw[List.cons_append,oD,oD,ih,Nat.max_assoc]
theorem qj (ts:List Tok):dC (ts.map cr)=ts.length:=by
 induction ts with
 | nil=>rfl
 | cons t ts ih=>rw[List.map_cons,dC,ih,cr,aZ,cg,List.length_cons];omega
theorem AR (ts:List Tok):oD (ts.map cr)≤1:=by
 induction ts with
 | nil=>exact Nat.zero_le _
 | cons t ts ih=>rw[List.map_cons,oD,cr,bC,ci];exact Nat.max_le.2 ⟨by omega,ih⟩
inductive G where
 | ret (b:Bool)
 | bump
 | put (k:Nat)
 | seq (a b:G)
 | node (k:Nat) (g:G)
 | wrap (k:Nat) (g:G)
 | ite (c:mO) (a b:G)
 | yV (g a b:G)
 | prog (g a b:G)
 | Ch (g b:G)
 | dH (c:mO) (g:G)
 | gZ
 | call (f:Nat)
def eL (ws:List Bytes):mO:=fun t _ _=>eN ws t
def sQ:mO:=fun t _ _=>t.1==100
def xj:mO:=fun t _ _=>t.1==103
def xk (k:Nat):mO:=fun t _ _=>t.1==k
def cy:List Bytes:=[YB,lY,Gv,ET,Q6,Jd,Q7,C7,Je]
def iL:List Bytes:=[YB,Gv,ET,Q6,Jd,Q7,C7,Je]
def rA (t:Tok):Bool:=eN cy t&&!eN [Gv] t
def kindOf (w:Bytes):Nat:=match iL.idxOf? w with
 | some i=>2+i
 | none=>0
abbrev ft:G:=.ret false
def rB:G:=.seq (.node 46 .bump) ft
def a6 (w:Bytes):G:=.ite (eL [w]) .bump (.put 108)
def c_:G:=.ite xj .bump (.put 108)
def oV (w:Bytes)(g:G):G:=.ite (eL [w]) (.seq .bump g) (.put 0)
def sw (ws:List Bytes)(g:G):G:=.ite (eL ws) (.seq .bump g) ft
def AS (cl:Bytes):mO:=fun t _ _=>!eN [cl] t&&!(t.1==100)&&!rA t
def gf (cl:Bytes)(el:G):G:=.seq (.dH (AS cl) (.prog el (.node 46 .bump) (.ite (eL [cl]) ft (a6 yS)))) (a6 cl)
def wK (ty:Bool):G:=.node 18 (.seq c_ (if ty then sw [Mj] (gf Tg (.call 0)) else ft))
def iT (ty:Bool):G:=.node 17 (.seq (wK ty) (.dH (eL [df]) (.seq .bump (wK ty))))
def EV:G:=.ite (eL [Ou]) (.node 19 (.seq .bump (.seq (sw [mF] ft) (.call 0)))) (.ite (eL [Gv]) (.node 20 (.seq .bump (.seq (a6 cC) (.seq (gf gY (.call 0)) (oV ry (.call 0)))))) (.ite xj (iT true) (.put 46)))
def j8:G:=.ite xj (.node 11 (.seq .bump (sw [fk] (.seq (iT true) (.dH (eL [xi]) (.seq .bump (iT true))))))) ft
def gI:G:=.node 10 (sw [Mj] (gf Tg j8))
def u_:G:=.ite xj (.node 13 (.seq .bump (oV fk (.call 0)))) ft
def lZ (cl:Bytes):G:=.node 12 (gf cl u_)
def gJ (nb:Bool):G:=.seq c_ (.seq gI (.seq (a6 cC) (.seq (lZ gY) (.seq (oV ry (.call 0)) ((if nb then .call 1 else .ite (eL [dB]) (.seq .bump (.put 0)) (.call 1)))))))
def Ji:G:=.node 14 (.seq .bump (.seq (a6 fk) (.call 0)))
def AT:G:=.node 15 (.seq .bump (sw [cC] (gf gY (.call 0))))
def xl (st:Bool):G:=.seq c_ (.seq gI (.seq (a6 j5) (gf gO (.ite xj (if st then Ji else AT) ft))))
def C':G:=.node 16 (.seq .bump (.seq c_ (.seq (oV C9 (.call 0)) (a6 dB))))
def mX:G:=.seq (a6 j5) (.seq (.dH (eL [Jg,Gv]) (.ite (eL [Gv]) (.node 3 (.seq .bump (.seq (gJ false) ft))) C')) (a6 gO))
def AU:G:=.seq gI (.seq (.call 0) (.seq (.ite (eL [Jf]) (.seq .bump (.call 0)) .gZ) mX))
def Ow:G:=.seq (.yV (.node 17 (.seq (.node 18 c_) (.dH (eL [df]) (.ite (fun _ t _=>eN [mW] t) (.ret true) (.seq .bump (.seq (.node 18 c_) ft)))))) (.seq .bump .bump) (sw [wAs] c_)) (a6 dB)
def Da:G:=.seq c_ (.seq (a6 fk) (.seq (.call 0) (.seq (a6 C9) (.seq (.call 10) (a6 dB)))))
def Db:G:=.seq c_ (.seq (a6 cC) (.seq (lZ gY) (.seq (a6 C9) (.seq (.call 10) (a6 dB)))))
def gK (k:Nat):G:=match k with
 | 2=>Ow
 | 3=>gJ true
 | 4=>xl true
 | 5=>xl false
 | 6=>.seq c_ mX
 | 7=>AU
 | 8=>Da
 | _=>Db
def f_ (k:Nat):G:=.node k (.seq (sw [lY] ft) (.seq .bump (gK k)))
def xm:G:=.node 46 (.seq .bump (.dH (fun t _ _=>!(t.1==100)&&!eN cy t) .bump))
def j9 (k:Nat):mO:=fun t u _=>let x:=if eN [lY] t then u else t;kindOf x.2==k&&x.1==104
def my:G:=.ite (j9 2) (f_ 2) (.ite (j9 3) (f_ 3) (.ite (j9 4) (f_ 4) (.ite (j9 5) (f_ 5) (.ite (j9 6) (f_ 6)
 (.ite (j9 7) (f_ 7) (.ite (j9 8) (f_ 8) (.ite (j9 9) (f_ 9) xm)))))))
def xn:G:=.dH (fun t _ _=>!(t.1==100)) (.seq my ft)
def Dc:G:=.node 21 (.seq (a6 j5) (.seq (.yV (.dH (fun t _ _=>!eN [gO] t&&!(t.1==100)&&!eN cy t) (.call 2)) ft (.put 0)) (a6 gO)))
def YE:G:=.node 22 (.seq .bump (.seq (.call 5) (.seq (oV fk (.call 0)) (.seq (a6 C9) (.seq (.call 10) (a6 dB))))))
def Jj:G:=.node 24 (.seq .bump (.seq (.call 10) (.call 1)))
def EW:G:=.node 25 (.seq .bump (.seq (.ite (eL [dB]) (.put 0) (.call 10)) (a6 dB)))
def Ox (bl:Bool)(g:G):G:=.Ch g (.ite (eL [gO]) (.ret true) (.ite (eL [C9]) (.seq (.wrap 23 (.seq .bump (.seq (.call 10) (a6 dB)))) ft) (.seq (.wrap 26 (.ite (eL [dB]) .bump (if bl then ft else .put 108))) ft)))
def l_:G:=.ite (eL [Tf]) (.seq YE ft) (.ite (eL [C8]) (.seq Jj ft) (.ite (eL [yR]) (.seq EW ft) (.ite (eL [Mi,u9,j5]) (Ox true (.call 4)) (Ox false (.call 10)))))
def iB (l:Nat):List Bytes:=match l with
 | 0=>[nS]
 | 1=>[Ov]
 | 2=>[YD,Mj]
 | 3=>[xi,C_]
 | _=>[mW,Th]
def iM (l:Nat):G:=.seq (.call (11+l)) (.seq (.dH (eL (iB l)) (.seq (.wrap 39 (.seq .bump (.call (11+l)))) (.ret (l==2)))) ft)
def j_:G:=.seq .bump (gf gY (.call 10))
def u':G:=.dH (eL [cC,Ot]) (.ite (eL [cC]) (.wrap 30 j_) (.ite (fun _ t u=>t.1==103&&eN [cC] u) (.wrap 31 (.seq .bump (.seq .bump j_))) (.wrap 32 (.seq .bump c_))))
def yW:G:=.ite (eL [C_,qi,mW]) (.node 40 (.seq .bump (.call 15))) (.ite (eL [Ou]) (.node 41 (.seq .bump (.seq (sw [mF] ft) (.call 15)))) (.seq (.call 4) u'))
def Jk:G:=.ite (fun t _ _=>t.1==103 || t.1==105 || eN [iS,iA,mF] t) (.node 36 (.seq (.call 5) (.seq (a6 rz) (.call 10)))) ft
def Jl:G:=.node 35 (.seq .bump (.seq (.call 10) (.seq (a6 j5) (gf gO Jk))))
def AW:G:=.ite xj (.node 34 (.seq .bump (.seq (a6 fk) (.call 10)))) ft
def YF:G:=.node 33 (.seq .bump (.seq (iT false) (.seq (a6 j5) (gf gO AW))))
def EX:G:=.node 38 (.seq (.ite (eL [nS]) (.seq .bump (.node 12 ft)) (.seq .bump (lZ Jh))) (.call 10))
def Jm:G:=.node 60 (.seq .bump (.seq (.call 10) (a6 gY)))
def qk:G:=.ite (xk 105) (.node 27 .bump) (.ite (xk 106) (.node 29 .bump) (.ite (eL [iS,iA]) (.node 28 .bump) (.ite xj (.seq (iT false) (.ite (fun t u _=>eN [qi] t&&eN [cC] u) (.wrap 42 (.seq .bump j_)) ft)) (.ite (eL [cC]) Jm (.ite (eL [j5]) (.call 1) (.ite (eL [Mi]) (.call 6) (.ite (eL [u9]) Jl (.ite (eL [YC]) YF (.ite (eL [Jh,nS]) EX (.put 46))))))))))
def yX:G:=.node 37 (.seq .bump (.seq (.call 10) (.seq (.call 1) (oV EU (.ite (eL [Mi]) (.call 6) (.call 1))))))
def va:G:=.ite (eL [mF]) (.node 44 (.seq .bump c_)) (.ite (fun t _ _=>t.1==103&&t.2==yT) (.node 43 .bump) (.ite (fun t u _=>t.1==103&&!eN [cC,df] u) (.node 44 .bump) (.ite xj (.node 45 (.seq (iT false) (sw [cC] (gf gY (.call 5))))) (.ite (xk 105) (.node 27 .bump) (.ite (eL [iS,iA]) (.node 28 .bump) (.put 46))))))
def ot (f:Nat):G:=match f with
 | 0=>EV
 | 1=>Dc
 | 2=>l_
 | 4=>qk
 | 5=>va
 | 6=>yX
 | 10=>iM 0
 | 11=>iM 1
 | 12=>iM 2
 | 13=>iM 3
 | 14=>iM 4
 | _=>yW
def run:Nat→G→List Tok→List az→Option (Bool×List Tok×List az)
 | 0,_,_,_=>none
 | n+1,g,ts,cs=>match g with
  | .ret b=>some (b,ts,cs)
  | .bump=>some (false,la ts,cs++((ts.takeWhile dq).map cr++((io ts).take 1).map cr))
  | .put k=>some (false,ts,cs++[.mk k [] []])
  | .seq a b=>(run n a ts cs).bind fun r=>run n b r.2.1 r.2.2
  | .node k g=>(run n g ts []).bind fun r=>if k<100 then some (r.1,r.2.1,cs++[.mk k [] r.2.2]) else none
  | .wrap k g=>cs.getLast?.bind fun t=>(run n g ts [t]).bind fun r=>if k<100 then some (r.1,r.2.1,cs.dropLast++[.mk k [] r.2.2]) else none
  | .ite c a b=>if ev c ts=true then run n a ts cs else run n b ts cs
  | .yV g a b=>(run n g ts cs).bind fun r=>if r.1=true then run n a r.2.1 r.2.2 else run n b r.2.1 r.2.2
  | .prog g a b=>(run n g ts cs).bind fun r=>if r.2.1.length=ts.length then run n a r.2.1 r.2.2 else run n b r.2.1 r.2.2
  | .Ch g b=>(run n g ts cs).bind fun r=>if r.2.1.length=ts.length then(r.2.2.getLast?.bind fun t=>if dj t=[]∧yU t≤1 then run n rB r.2.1 r.2.2.dropLast else none) else run n b r.2.1 r.2.2
  | .dH c g=>if ev c ts=true then(run n g ts cs).bind fun r=>if r.1=true then some (true,r.2.1,r.2.2) else run n (.dH c g) r.2.1 r.2.2 else some (false,ts,cs)
  | .gZ=>cs.getLast?.bind fun t=>some (false,ts,cs.dropLast++[.mk 0 [] [],t])
  | .call f=>run n (ot f) ts cs
section eqs
variable (n k:Nat)(a b g:G)(c:mO)(f:Nat)(ts:List Tok)(cs:List az)
theorem cJ:run 0 g ts cs=none:=rfl
theorem EY (r:Bool):run (n+1) (.ret r) ts cs=some (r,ts,cs):=rfl
theorem qm:run (n+1) .bump ts cs=some (false,la ts,cs++((ts.takeWhile dq).map cr++((io ts).take 1).map cr)):=rfl
theorem yY:run (n+1) (.put k) ts cs=some (false,ts,cs++[.mk k [] []]):=rfl
theorem run_seq:run (n+1) (.seq a b) ts cs=(run n a ts cs).bind fun r=>run n b r.2.1 r.2.2:=rfl
theorem mY:run (n+1) (.node k g) ts cs=(run n g ts []).bind fun r=>if k<100 then some (r.1,r.2.1,cs++[.mk k [] r.2.2]) else none:=rfl
theorem qn:run (n+1) (.wrap k g) ts cs=cs.getLast?.bind fun t=>(run n g ts [t]).bind fun r=>if k<100 then some (r.1,r.2.1,cs.dropLast++[.mk k [] r.2.2]) else none:=rfl
theorem run_ite:run (n+1) (.ite c a b) ts cs=if ev c ts=true then run n a ts cs else run n b ts cs:=rfl
theorem qo:run (n+1) (.yV g a b) ts cs=(run n g ts cs).bind fun r=>if r.1=true then run n a r.2.1 r.2.2 else run n b r.2.1 r.2.2:=rfl
theorem mZ:run (n+1) (.prog g a b) ts cs=(run n g ts cs).bind fun r=>if r.2.1.length=ts.length then run n a r.2.1 r.2.2 else run n b r.2.1 r.2.2:=rfl
theorem qq:run (n+1) (.Ch g b) ts cs=(run n g ts cs).bind fun r=>if r.2.1.length=ts.length then(r.2.2.getLast?.bind fun t=>if dj t=[]∧yU t≤1 then run n rB r.2.1 r.2.2.dropLast else none) else run n b r.2.1 r.2.2:=rfl
theorem lr:run (n+1) (.dH c g) ts cs=if ev c ts=true then(run n g ts cs).bind fun r=>if r.1=true then some (true,r.2.1,r.2.2) else run n (.dH c g) r.2.1 r.2.2 else some (false,ts,cs):=rfl
theorem ve:run (n+1) .gZ ts cs=cs.getLast?.bind fun t=>some (false,ts,cs.dropLast++[.mk 0 [] [],t]):=rfl
theorem vf:run (n+1) (.call f) ts cs=run n (ot f) ts cs:=rfl
end eqs
inductive bP:G→List Tok→List az→Bool→List Tok→List az→Prop
 | ret (b:Bool) (ts:List Tok) (cs:List az):bP (.ret b) ts cs b ts cs
 | bump (ts:List Tok) (cs:List az):bP .bump ts cs false (la ts) (cs++((ts.takeWhile dq).map cr++((io ts).take 1).map cr))
 | put (k:Nat) (ts:List Tok) (cs:List az):bP (.put k) ts cs false ts (cs++[.mk k [] []])
 | seq {a b:G} {ts im vg:List Tok} {cs cs1 vh:List az} {b1 b2:Bool} (h1:bP a ts cs b1 im cs1) (h2:bP b im cs1 b2 vg vh):bP (.seq a b) ts cs b2 vg vh
 | node {k:Nat} {g:G} {ts im:List Tok} {ds:List az} {b:Bool} (cs:List az) (hk:k<100) (h:bP g ts [] b im ds):bP (.node k g) ts cs b im (cs++[.mk k [] ds])
 | wrap {k:Nat} {g:G} {ts im:List Tok} {ds:List az} {t:az} {b:Bool} (cs:List az) (hk:k<100) (h:bP g ts [t] b im ds):bP (.wrap k g) ts (cs++[t]) b im (cs++[.mk k [] ds])
 | fu {c:mO} {a b:G} {ts im:List Tok} {cs cs1:List az} {r:Bool} (hc:ev c ts=true) (h:bP a ts cs r im cs1):bP (.ite c a b) ts cs r im cs1
 | d_ {c:mO} {a b:G} {ts im:List Tok} {cs cs1:List az} {r:Bool} (hc:ev c ts=false) (h:bP b ts cs r im cs1):bP (.ite c a b) ts cs r im cs1
 | oW {g a b:G} {ts im vg:List Tok} {cs cs1 vh:List az} {r:Bool} (h1:bP g ts cs true im cs1) (h2:bP a im cs1 r vg vh):bP (.yV g a b) ts cs r vg vh
 | oX {g a b:G} {ts im vg:List Tok} {cs cs1 vh:List az} {r:Bool} (h1:bP g ts cs false im cs1) (h2:bP b im cs1 r vg vh):bP (.yV g a b) ts cs r vg vh
 | kI {g a b:G} {ts im vg:List Tok} {cs cs1 vh:List az} {r q:Bool} (h1:bP g ts cs q im cs1) (hl:im.length=ts.length) (h2:bP a im cs1 r vg vh):bP (.prog g a b) ts cs r vg vh
 | kJ {g a b:G} {ts im vg:List Tok} {cs cs1 vh:List az} {r q:Bool} (h1:bP g ts cs q im cs1) (hl:im.length≠ts.length) (h2:bP b im cs1 r vg vh):bP (.prog g a b) ts cs r vg vh
 | qt {g b:G} {ts im vg:List Tok} {cs cs1 vh:List az} {t:az} {r q:Bool} (h1:bP g ts cs q im (cs1++[t])) (hl:im.length=ts.length) (ht:dj t=[]∧yU t≤1) (h2:bP rB im cs1 r vg vh):bP (.Ch g b) ts cs r vg vh
 | qu {g b:G} {ts im vg:List Tok} {cs cs1 vh:List az} {r q:Bool} (h1:bP g ts cs q im cs1) (hl:im.length≠ts.length) (h2:bP b im cs1 r vg vh):bP (.Ch g b) ts cs r vg vh
 | g_ {c:mO} {g:G} {ts:List Tok} {cs:List az} (hc:ev c ts=false):bP (.dH c g) ts cs false ts cs
 | iU {c:mO} {g:G} {ts im:List Tok} {cs cs1:List az} (hc:ev c ts=true) (h:bP g ts cs true im cs1):bP (.dH c g) ts cs true im cs1
 | iV {c:mO} {g:G} {ts im vg:List Tok} {cs cs1 vh:List az} {r:Bool} (hc:ev c ts=true) (h:bP g ts cs false im cs1) (h2:bP (.dH c g) im cs1 r vg vh):bP (.dH c g) ts cs r vg vh
 | gZ (ts:List Tok) (cs:List az) (t:az):bP .gZ ts (cs++[t]) false ts (cs++[.mk 0 [] [],t])
 | call {f:Nat} {ts im:List Tok} {cs cs1:List az} {r:Bool} (h:bP (ot f) ts cs r im cs1):bP (.call f) ts cs r im cs1
theorem cm {α β:Type}(a:α)(f:α→Option β):(some a).bind f=f a:=rfl
theorem Gw:∀(n:Nat)(g:G)(ts:List Tok)(cs:List az)(r:Bool×List Tok×List az),run n g ts cs=some r→run (n+1) g ts cs=some r:=by
 intro n
 induction n with
 | zero=>intro g ts cs r h;rw[cJ]at h;cases h
 | succ n ih =>
  intro g ts cs r h
  cases g with
  | ret b=>exact h
  | bump=>exact h
  | put k=>exact h
  | gZ=>exact h
  | seq a b =>
   rw[run_seq]at h ⊢
   obtain⟨x,h1,h2⟩:=Option.bind_eq_some_iff.1 h
   rw[ih _ _ _ _ h1];exact ih _ _ _ _ h2
  | node k g =>
   rw[mY]at h ⊢
   obtain⟨x,h1,h2⟩:=Option.bind_eq_some_iff.1 h
   rw[ih _ _ _ _ h1];exact h2
  | wrap k g =>
   rw[qn]at h ⊢
   obtain⟨t,h0,h⟩:=Option.bind_eq_some_iff.1 h
   obtain⟨x,h1,h2⟩:=Option.bind_eq_some_iff.1 h
   rw[h0,cm,ih _ _ _ _ h1];exact h2
  | ite c a b =>
   rw[run_ite]at h ⊢
   split
   ·rename_i hc;rw[if_pos hc]at h;exact ih _ _ _ _ h
   ·rename_i hc;rw[if_neg hc]at h;exact ih _ _ _ _ h
  | yV g a b =>
   rw[qo]at h ⊢
   obtain⟨x,h1,h2⟩:=Option.bind_eq_some_iff.1 h
   rw[ih _ _ _ _ h1,cm]
   split
   ·rename_i hc;rw[if_pos hc]at h2;exact ih _ _ _ _ h2
   ·rename_i hc;rw[if_neg hc]at h2;exact ih _ _ _ _ h2
  | prog g a b =>
   rw[mZ]at h ⊢
   obtain⟨x,h1,h2⟩:=Option.bind_eq_some_iff.1 h
   rw[ih _ _ _ _ h1,cm]
   split
   ·rename_i hc;rw[if_pos hc]at h2;exact ih _ _ _ _ h2
   ·rename_i hc;rw[if_neg hc]at h2;exact ih _ _ _ _ h2
  | Ch g b =>
   rw[qq]at h ⊢
   obtain⟨x,h1,h2⟩:=Option.bind_eq_some_iff.1 h
   rw[ih _ _ _ _ h1,cm]
   split
   ·rename_i hc;rw[if_pos hc]at h2
    obtain⟨t,h3,h4⟩:=Option.bind_eq_some_iff.1 h2
    rw[h3,cm]
    split
    ·rename_i ht;rw[if_pos ht]at h4;exact ih _ _ _ _ h4
    ·rename_i ht;rw[if_neg ht]at h4;cases h4
   ·rename_i hc;rw[if_neg hc]at h2;exact ih _ _ _ _ h2
  | dH c g =>
   rw[lr]at h ⊢
   split
   ·rename_i hc;rw[if_pos hc]at h
    obtain⟨x,h1,h2⟩:=Option.bind_eq_some_iff.1 h
    rw[ih _ _ _ _ h1,cm]
    split
    ·rename_i hb;rw[if_pos hb]at h2;exact h2
    ·rename_i hb;rw[if_neg hb]at h2;exact ih _ _ _ _ h2
   ·rename_i hc;rw[if_neg hc]at h;exact h
  | call f=>rw[vf]at h ⊢;exact ih _ _ _ _ h
theorem dp {n m:Nat}(hm:n≤m){g:G}{ts:List Tok}{cs:List az}{r:Bool×List Tok×List az}(h:run n g ts cs=some r):run m g ts cs=some r:=by
 obtain⟨k,rfl⟩:∃k,m=n+k:=⟨m-n,by omega⟩
 clear hm
 induction k with
 | zero=>exact h
 | succ k ih=>exact Gw _ _ _ _ _ ih
theorem dV {b:Bool}(h:¬b=true):b=false:=by cases b<;>simp_all
theorem fC {α:Type}{l:List α}{t:α}(h:l.getLast?=some t):l=l.dropLast++[t]:=by
 induction l with
 | nil=>cases h
 | cons a l ih =>
  cases l with
  | nil=>simp at h;subst h;rfl
  | cons b l=>rw[List.getLast?_cons_cons]at h;rw[List.dropLast_cons₂,List.cons_append,←ih h]
theorem fH:∀(n:Nat)(g:G)(ts:List Tok)(cs:List az)(r:Bool)(eY:List Tok)(bY:List az),run n g ts cs=some (r,eY,bY)→bP g ts cs r eY bY:=by
 intro n
 induction n with
 | zero=>intro g ts cs r eY bY h;rw[cJ]at h;cases h
 | succ n ih =>
  intro g ts cs r eY bY h
  cases g with
  | ret b=>rw[EY]at h;cases h;exact .ret _ _ _
  | bump=>rw[qm]at h;cases h;exact .bump _ _
  | put k=>rw[yY]at h;cases h;exact .put _ _ _
  | gZ =>
   rw[ve]at h
   obtain⟨t,h0,h⟩:=Option.bind_eq_some_iff.1 h
   cases h
   have:=bP.gZ ts cs.dropLast t
   rw[←fC h0]at this
   exact this
  | seq a b =>
   rw[run_seq]at h
   obtain⟨⟨r1,im,cs1⟩,h1,h2⟩:=Option.bind_eq_some_iff.1 h
   exact .seq (ih _ _ _ _ _ _ h1) (ih _ _ _ _ _ _ h2)
  | node k g =>
   rw[mY]at h
   obtain⟨⟨r1,im,cs1⟩,h1,h2⟩:=Option.bind_eq_some_iff.1 h
   simp only at h2
   split at h2
   ·rename_i hk;cases h2;exact .node _ hk (ih _ _ _ _ _ _ h1)
   ·cases h2
  | wrap k g =>
   rw[qn]at h
   obtain⟨t,h0,h⟩:=Option.bind_eq_some_iff.1 h
   obtain⟨⟨r1,im,cs1⟩,h1,h2⟩:=Option.bind_eq_some_iff.1 h
   simp only at h2
   split at h2
   ·rename_i hk;cases h2
    have:=bP.wrap cs.dropLast hk (ih _ _ _ _ _ _ h1)
    rw[←fC h0]at this
    exact this
   ·cases h2
  | ite c a b =>
   rw[run_ite]at h
   split at h
   ·rename_i hc;exact .fu hc (ih _ _ _ _ _ _ h)
   ·rename_i hc;exact .d_ (dV hc) (ih _ _ _ _ _ _ h)
  | yV g a b =>
   rw[qo]at h
   obtain⟨⟨r1,im,cs1⟩,h1,h2⟩:=Option.bind_eq_some_iff.1 h
   simp only at h2
   split at h2
   ·rename_i hc;subst hc;exact .oW (ih _ _ _ _ _ _ h1) (ih _ _ _ _ _ _ h2)
   ·rename_i hc;have hc:=dV hc;subst hc;exact .oX (ih _ _ _ _ _ _ h1) (ih _ _ _ _ _ _ h2)
  | prog g a b =>
   rw[mZ]at h
   obtain⟨⟨r1,im,cs1⟩,h1,h2⟩:=Option.bind_eq_some_iff.1 h
   simp only at h2
   split at h2
   ·rename_i hc;exact .kI (ih _ _ _ _ _ _ h1) hc (ih _ _ _ _ _ _ h2)
   ·rename_i hc;exact .kJ (ih _ _ _ _ _ _ h1) hc (ih _ _ _ _ _ _ h2)
  | Ch g b =>
   rw[qq]at h
   obtain⟨⟨r1,im,cs1⟩,h1,h2⟩:=Option.bind_eq_some_iff.1 h
   simp only at h2
   split at h2
   ·rename_i hc
    obtain⟨t,h3,h4⟩:=Option.bind_eq_some_iff.1 h2
    split at h4
    ·rename_i ht
     have:=ih _ _ _ _ _ _ h1
     rw[fC h3]at this
     exact .qt this hc ht (ih _ _ _ _ _ _ h4)
    ·cases h4
   ·rename_i hc;exact .qu (ih _ _ _ _ _ _ h1) hc (ih _ _ _ _ _ _ h2)
  | dH c g =>
   rw[lr]at h
   split at h
   ·rename_i hc
    obtain⟨⟨r1,im,cs1⟩,h1,h2⟩:=Option.bind_eq_some_iff.1 h
    simp only at h2
    split at h2
    ·rename_i hb;subst hb;cases h2;exact .iU hc (ih _ _ _ _ _ _ h1)
    ·rename_i hb;have hb:=dV hb;subst hb;exact .iV hc (ih _ _ _ _ _ _ h1) (ih _ _ _ _ _ _ h2)
   ·rename_i hc;cases h;exact .g_ (dV hc)
  | call f=>rw[vf]at h;exact .call (ih _ _ _ _ _ _ h)
theorem yZ (a b:Nat):a≤max a b:=Nat.le_max_left a b
theorem max2 (a b:Nat):b≤max a b:=Nat.le_max_right a b
theorem Dd {g:G}{ts:List Tok}{cs:List az}{r:Bool}{eY:List Tok}{bY:List az}(h:bP g ts cs r eY bY):∃n,run n g ts cs=some (r,eY,bY):=by
 induction h with
 | ret b ts cs=>exact⟨1,rfl⟩
 | bump ts cs=>exact⟨1,rfl⟩
 | put k ts cs=>exact⟨1,rfl⟩
 | gZ ts cs t=>exact⟨1,by rw[ve,List.getLast?_concat,cm,List.dropLast_concat]⟩
 | seq h1 h2 i1 i2 =>
  obtain⟨n,i1⟩:=i1;obtain⟨m,i2⟩:=i2
  exact⟨max n m+1,by rw[run_seq,dp (yZ n m) i1,cm];exact dp (max2 n m) i2⟩
 | node cs hk h i =>
  obtain⟨n,i⟩:=i
  exact⟨n+1,by rw[mY,i,cm,if_pos hk]⟩
 | wrap cs hk h i =>
  obtain⟨n,i⟩:=i
  exact⟨n+1,by rw[qn,List.getLast?_concat,cm,i,cm,if_pos hk,List.dropLast_concat]⟩
 | fu hc h i=>obtain⟨n,i⟩:=i;exact⟨n+1,by rw[run_ite,if_pos hc];exact i⟩
 | d_ hc h i=>obtain⟨n,i⟩:=i;exact⟨n+1,by rw[run_ite,if_neg (by rw[hc];exact Bool.noConfusion)];exact i⟩
 | oW h1 h2 i1 i2 =>
  obtain⟨n,i1⟩:=i1;obtain⟨m,i2⟩:=i2
  exact⟨max n m+1,by rw[qo,dp (yZ n m) i1,cm,if_pos rfl];exact dp (max2 n m) i2⟩
 | oX h1 h2 i1 i2 =>
  obtain⟨n,i1⟩:=i1;obtain⟨m,i2⟩:=i2
  exact⟨max n m+1,by rw[qo,dp (yZ n m) i1,cm,if_neg Bool.noConfusion];exact dp (max2 n m) i2⟩
 | kI h1 hl h2 i1 i2 =>
  obtain⟨n,i1⟩:=i1;obtain⟨m,i2⟩:=i2
  exact⟨max n m+1,by rw[mZ,dp (yZ n m) i1,cm,if_pos hl];exact dp (max2 n m) i2⟩
 | kJ h1 hl h2 i1 i2 =>
  obtain⟨n,i1⟩:=i1;obtain⟨m,i2⟩:=i2
  exact⟨max n m+1,by rw[mZ,dp (yZ n m) i1,cm,if_neg hl];exact dp (max2 n m) i2⟩
 | qt h1 hl ht h2 i1 i2 =>
  obtain⟨n,i1⟩:=i1;obtain⟨m,i2⟩:=i2
  exact⟨max n m+1,by rw[qq,dp (yZ n m) i1,cm,if_pos hl,List.getLast?_concat,cm,if_pos ht,List.dropLast_concat];exact dp (max2 n m) i2⟩
 | qu h1 hl h2 i1 i2 =>
  obtain⟨n,i1⟩:=i1;obtain⟨m,i2⟩:=i2
  exact⟨max n m+1,by rw[qq,dp (yZ n m) i1,cm,if_neg hl];exact dp (max2 n m) i2⟩
 | g_ hc=>exact⟨1,by rw[lr,if_neg (by rw[hc];exact Bool.noConfusion)]⟩
 | iU hc h i=>obtain⟨n,i⟩:=i;exact⟨n+1,by rw[lr,if_pos hc,i,cm,if_pos rfl]⟩
 | iV hc h h2 i1 i2 =>
  obtain⟨n,i1⟩:=i1;obtain⟨m,i2⟩:=i2
  exact⟨max n m+1,by rw[lr,if_pos hc,dp (yZ n m) i1,cm,if_neg Bool.noConfusion];exact dp (max2 n m) i2⟩
 | call h i=>obtain⟨n,i⟩:=i;exact⟨n+1,by rw[vf];exact i⟩
theorem dW (a b:List az):cY (a++b)=cY a++cY b:=by
 induction a with
 | nil=>rfl
 | cons x a ih=>rw[List.cons_append,cY,cY,ih,List.append_assoc]
theorem AX (a b:List Tok):j7 (a++b)=j7 a++j7 b:=by
 induction a with
 | nil=>rfl
 | cons x a ih=>rw[List.cons_append,j7,j7,ih,List.append_assoc]
theorem lu (t:az):cY [t]=dj t:=by rw[cY,cY,List.append_nil]
theorem iC (k:Nat)(cs:List az):dj (.mk k [] cs)=cY cs:=by rw[dj,List.nil_append]
theorem rC (ts:List Tok):cY (ts.map cr)=j7 ts:=by
 induction ts with
 | nil=>rfl
 | cons t ts ih=>rw[List.map_cons,cY,j7,ih,cr,dj,cY,List.append_nil]
theorem lw (ts:List Tok):ts.takeWhile dq++io ts=ts:=List.takeWhile_append_dropWhile
theorem j' (ts:List Tok):ts.takeWhile dq++(io ts).take 1++la ts=ts:=by
 rw[List.append_assoc,la,List.take_append_drop,lw]
theorem vi {g:G}{ts:List Tok}{cs:List az}{r:Bool}{eY:List Tok}{bY:List az}(h:bP g ts cs r eY bY):cY bY++j7 eY=cY cs++j7 ts:=by
 induction h with
 | ret b ts cs=>rfl
 | bump ts cs =>
  rw[←List.map_append,dW,rC,List.append_assoc,←AX,j']
 | put k ts cs=>rw[dW,lu,iC,cY,List.append_nil]
 | gZ ts cs t=>rw[dW,dW,cY,iC,cY,List.nil_append]
 | seq h1 h2 i1 i2=>rw[i2,i1]
 | node cs hk h i=>rw[dW,lu,iC,List.append_assoc,i,cY,List.nil_append]
 | wrap cs hk h i=>rw[dW,lu,iC,List.append_assoc,i,dW,List.append_assoc]
 | fu hc h i=>exact i
 | d_ hc h i=>exact i
 | oW h1 h2 i1 i2=>rw[i2,i1]
 | oX h1 h2 i1 i2=>rw[i2,i1]
 | kI h1 hl h2 i1 i2=>rw[i2,i1]
 | kJ h1 hl h2 i1 i2=>rw[i2,i1]
 | qt h1 hl ht h2 i1 i2=>rw[i2,←i1,dW,lu,ht.1,List.append_nil]
 | qu h1 hl h2 i1 i2=>rw[i2,i1]
 | g_ hc=>rfl
 | iU hc h i=>exact i
 | iV hc h h2 i1 i2=>rw[i2,i1]
 | call h i=>exact i
theorem Oy (ts:List Tok):∃k,la ts=ts.drop k:=by
 have:∀ts:List Tok,∃k,io ts=ts.drop k:=by
  intro ts
  induction ts with
  | nil=>exact⟨0,rfl⟩
  | cons t ts ih =>
   unfold io
   rw[List.dropWhile_cons]
   split
   ·obtain⟨k,ih⟩:=ih;exact⟨k+1,ih⟩
   ·exact⟨0,rfl⟩
 obtain⟨k,hk⟩:=this ts
 exact⟨k+1,by rw[la,hk,List.drop_drop]⟩
theorem fR {α:Type}{a b c:List α}(h:∃k,b=a.drop k)(h':∃k,c=b.drop k):∃k,c=a.drop k:=by
 obtain⟨k,rfl⟩:=h;obtain⟨m,rfl⟩:=h';exact⟨k+m,by rw[List.drop_drop]⟩
theorem bm {g:G}{ts:List Tok}{cs:List az}{r:Bool}{eY:List Tok}{bY:List az}(h:bP g ts cs r eY bY):∃k,eY=ts.drop k:=by
 induction h with
 | ret b ts cs=>exact⟨0,rfl⟩
 | bump ts cs=>exact Oy ts
 | put k ts cs=>exact⟨0,rfl⟩
 | gZ ts cs t=>exact⟨0,rfl⟩
 | seq h1 h2 i1 i2=>exact fR i1 i2
 | node cs hk h i=>exact i
 | wrap cs hk h i=>exact i
 | fu hc h i=>exact i
 | d_ hc h i=>exact i
 | oW h1 h2 i1 i2=>exact fR i1 i2
 | oX h1 h2 i1 i2=>exact fR i1 i2
 | kI h1 hl h2 i1 i2=>exact fR i1 i2
 | kJ h1 hl h2 i1 i2=>exact fR i1 i2
 | qt h1 hl ht h2 i1 i2=>exact fR i1 i2
 | qu h1 hl h2 i1 i2=>exact fR i1 i2
 | g_ hc=>exact⟨0,rfl⟩
 | iU hc h i=>exact i
 | iV hc h h2 i1 i2=>exact fR i1 i2
 | call h i=>exact i
theorem y5 {g:G}{ts:List Tok}{cs:List az}{r:Bool}{eY:List Tok}{bY:List az}(h:bP g ts cs r eY bY)(e:eY.length=ts.length):eY=ts:=by
 obtain⟨k,rfl⟩:=bm h
 rw[List.length_drop]at e
 by_cases hk:k=0
 ·rw[hk];rfl
 ·cases ts with
  | nil=>simp
  | cons t ts=>simp at e;omega
theorem cG {g:G}{ts:List Tok}{cs:List az}{r:Bool}{eY:List Tok}{bY:List az}(h:bP g ts cs r eY bY)(pre:List az):bP g ts (pre++cs) r eY (pre++bY):=by
 induction h with
 | ret b ts cs=>exact .ret _ _ _
 | bump ts cs=>rw[←List.append_assoc];exact .bump _ _
 | put k ts cs=>rw[←List.append_assoc];exact .put _ _ _
 | gZ ts cs t=>rw[←List.append_assoc,←List.append_assoc];exact .gZ _ _ _
 | seq h1 h2 i1 i2=>exact .seq i1 i2
 | node cs hk h i=>rw[←List.append_assoc];exact .node _ hk h
 | wrap cs hk h i=>rw[←List.append_assoc,←List.append_assoc];exact .wrap _ hk h
 | fu hc h i=>exact .fu hc i
 | d_ hc h i=>exact .d_ hc i
 | oW h1 h2 i1 i2=>exact .oW i1 i2
 | oX h1 h2 i1 i2=>exact .oX i1 i2
 | kI h1 hl h2 i1 i2=>exact .kI i1 hl i2
 | kJ h1 hl h2 i1 i2=>exact .kJ i1 hl i2
 | qt h1 hl ht h2 i1 i2=>exact .qt (by rw[List.append_assoc];exact i1) hl ht i2
 | qu h1 hl h2 i1 i2=>exact .qu i1 hl i2
 | g_ hc=>exact .g_ hc
 | iU hc h i=>exact .iU hc i
 | iV hc h h2 i1 i2=>exact .iV hc i1 i2
 | call h i=>exact .call i
theorem fI {g:G}{ts:List Tok}{cs:List az}{r:Bool}{eY:List Tok}{bY:List az}(h:bP g ts cs r eY bY):dC cs≤dC bY:=by
 induction h with
 | ret b ts cs=>exact Nat.le_refl _
 | bump ts cs=>rw[aw];omega
 | put k ts cs=>rw[aw];omega
 | gZ ts cs t=>rw[aw,aw,aT,dC,aT];omega
 | seq h1 h2 i1 i2=>exact Nat.le_trans i1 i2
 | node cs hk h i=>rw[aw];omega
 | wrap cs hk h i=>rw[aw,aw,aT (.mk _ _ _),aZ];omega
 | fu hc h i=>exact i
 | d_ hc h i=>exact i
 | oW h1 h2 i1 i2=>exact Nat.le_trans i1 i2
 | oX h1 h2 i1 i2=>exact Nat.le_trans i1 i2
 | kI h1 hl h2 i1 i2=>exact Nat.le_trans i1 i2
 | kJ h1 hl h2 i1 i2=>exact Nat.le_trans i1 i2
 | qt h1 hl ht h2 i1 i2 =>
  rw[aw,aT]at i1
  cases h2 with
  | seq h2 h3=>cases h3;cases h2;rw[aw,aT,aZ];omega
 | qu h1 hl h2 i1 i2=>exact Nat.le_trans i1 i2
 | g_ hc=>exact Nat.le_refl _
 | iU hc h i=>exact i
 | iV hc h h2 i1 i2=>exact Nat.le_trans i1 i2
 | call h i=>exact i
mutual
def wv:az→Bool
 | .mk k t cs=>(if 100≤k then cs.isEmpty else t.isEmpty)&&mP cs
def mP:List az→Bool
 | []=>true
 | t::ts=>wv t&&mP ts
end
theorem dK (a b:List az):mP (a++b)=(mP a&&mP b):=by
 induction a with
 | nil=>simp[mP]
 | cons x a ih=>rw[List.cons_append,mP,mP,ih,Bool.and_assoc]
theorem jx (t:az):mP [t]=wv t:=by rw[mP,mP,Bool.and_true]
theorem vj {k:Nat}(hk:k<100)(cs:List az):wv (.mk k [] cs)=mP cs:=by
 rw[wv,if_neg (by omega)];rfl
theorem xo (k:Nat):wv (.mk k [] [])=true:=by
 rw[wv];split<;>rfl
theorem vk (ts:List Tok)(h:∀t∈ts,100≤t.1):mP (ts.map cr)=true:=by
 induction ts with
 | nil=>rfl
 | cons t ts ih =>
  rw[List.map_cons,mP,ih (fun u hu=>h u (List.mem_cons_of_mem _ hu)),cr,wv,if_pos (h t (List.mem_cons_self ..))]
  rfl
theorem jM {ts:List Tok}{t:Tok}(h:t∈ts.takeWhile dq++(io ts).take 1):t∈ts:=by
 have:=j' ts
 rw[←this];exact List.mem_append_left _ h
theorem EZ {g:G}{ts:List Tok}{cs:List az}{r:Bool}{eY:List Tok}{bY:List az}(h:bP g ts cs r eY bY):(∀t∈ts,100≤t.1)→mP cs=true→mP bY=true:=by
 have mem:∀{ts im:List Tok},(∃k,im=ts.drop k)→(∀t∈ts,100≤t.1)→∀t∈im,100≤t.1:=by
  intro ts im ⟨k,e⟩ h t ht;subst e;exact h t (List.mem_of_mem_drop ht)
 induction h with
 | ret b ts cs=>exact fun _ h=>h
 | bump ts cs =>
  intro h1 h2
  rw[←List.map_append,dK,h2,vk _ (fun t ht=>h1 t (jM ht))];rfl
 | put k ts cs=>intro h1 h2;rw[dK,h2,jx,xo];rfl
 | gZ ts cs t =>
  intro h1 h2
  rw[dK,jx,Bool.and_eq_true]at h2
  rw[dK,mP,jx,xo,h2.1,h2.2];rfl
 | seq h1 h2 i1 i2=>exact fun k1 k2=>i2 (mem (bm h1) k1) (i1 k1 k2)
 | node cs hk h i=>intro k1 k2;rw[dK,k2,jx,vj hk,i k1 rfl];rfl
 | wrap cs hk h i =>
  intro k1 k2
  rw[dK,jx,Bool.and_eq_true]at k2
  rw[dK,k2.1,jx,vj hk,i k1 (by rw[jx];exact k2.2)];rfl
 | fu hc h i=>exact i
 | d_ hc h i=>exact i
 | oW h1 h2 i1 i2=>exact fun k1 k2=>i2 (mem (bm h1) k1) (i1 k1 k2)
 | oX h1 h2 i1 i2=>exact fun k1 k2=>i2 (mem (bm h1) k1) (i1 k1 k2)
 | kI h1 hl h2 i1 i2=>exact fun k1 k2=>i2 (mem (bm h1) k1) (i1 k1 k2)
 | kJ h1 hl h2 i1 i2=>exact fun k1 k2=>i2 (mem (bm h1) k1) (i1 k1 k2)
 | qt h1 hl ht h2 i1 i2 =>
  intro k1 k2
  have:=i1 k1 k2
  rw[dK,Bool.and_eq_true]at this
  exact i2 (mem (bm h1) k1) this.1
 | qu h1 hl h2 i1 i2=>exact fun k1 k2=>i2 (mem (bm h1) k1) (i1 k1 k2)
 | g_ hc=>exact fun _ h=>h
 | iU hc h i=>exact i
 | iV hc h h2 i1 i2=>exact fun k1 k2=>i2 (mem (bm h) k1) (i1 k1 k2)
 | call h i=>exact i
end Pm
end

section
namespace Pm
def bp (g:G)(ts:List Tok)(Q:List Tok→List az→Prop):Prop:=∃eY es,bP g ts [] false eY es∧Q eY es
theorem bp.mono {g:G}{ts:List Tok}{Q Q':List Tok→List az→Prop}(h:bp g ts Q)(k:∀eY es,Q eY es→Q' eY es):bp g ts Q':=by
 obtain⟨t,e,h1,h2⟩:=h;exact⟨t,e,h1,k _ _ h2⟩
theorem bp.seq {a b:G}{ts:List Tok}{Qa Q:List Tok→List az→Prop}(h:bp a ts Qa)(k:∀t1 e1,Qa t1 e1→bp b t1 fun t2 e2=>Q t2 (e1++e2)):bp (.seq a b) ts Q:=by
 obtain⟨t1,e1,h1,h2⟩:=h
 obtain⟨t2,e2,k1,k2⟩:=k _ _ h2
 have:=cG k1 e1
 rw[List.append_nil]at this
 exact⟨t2,_,.seq h1 this,k2⟩
theorem bp.node {k:Nat}{g:G}{ts:List Tok}{Q:List Tok→List az→Prop}(hk:k<100)(h:bp g ts fun t1 e1=>Q t1 [.mk k [] e1]):bp (.node k g) ts Q:=by
 obtain⟨t1,e1,h1,h2⟩:=h
 exact⟨t1,_,.node [] hk h1,h2⟩
theorem bp.ite {c:mO}{a b:G}{ts:List Tok}{Q:List Tok→List az→Prop}(h:ev c ts=true→bp a ts Q)(k:ev c ts=false→bp b ts Q):bp (.ite c a b) ts Q:=by
 cases hc:ev c ts with
 | true=>obtain⟨t1,e1,h1,h2⟩:=h hc;exact⟨t1,e1,.fu hc h1,h2⟩
 | false=>obtain⟨t1,e1,h1,h2⟩:=k hc;exact⟨t1,e1,.d_ hc h1,h2⟩
theorem bp.call {f:Nat}{ts:List Tok}{Q:List Tok→List az→Prop}(h:bp (ot f) ts Q):bp (.call f) ts Q:=by
 obtain⟨t1,e1,h1,h2⟩:=h;exact⟨t1,e1,.call h1,h2⟩
theorem bp.put {k:Nat}{ts:List Tok}{Q:List Tok→List az→Prop}(h:Q ts [.mk k [] []]):bp (.put k) ts Q:=⟨ts,_,.put k ts [],h⟩
theorem bp.ft {ts:List Tok}{Q:List Tok→List az→Prop}(h:Q ts []):bp ft ts Q:=⟨ts,_,.ret false ts [],h⟩
def Bp (ts t':List Tok)(es:List az):Prop:=t'.length≤ts.length∧dC es+t'.length=ts.length∧oD es≤1
def Bs (ts t':List Tok)(es:List az):Prop:=t'.length<ts.length∧dC es+t'.length=ts.length∧oD es≤1
theorem lx (ts:List Tok):bp .bump ts (Bp ts):=by
 refine⟨_,_,.bump ts [],?_⟩
 rw[List.nil_append,←List.map_append]
 have h:=congrArg List.length (j' ts)
 rw[List.length_append]at h
 refine⟨by omega,by rw[qj];exact h,AR _⟩
theorem bg {ts:List Tok}(hs:(pk ts).1≠100):bp .bump ts (Bs ts):=by
 refine⟨_,_,.bump ts [],?_⟩
 rw[List.nil_append,←List.map_append]
 have h:=congrArg List.length (j' ts)
 rw[List.length_append,List.length_append]at h
 have hp:((io ts).take 1).length=1:=by
  cases hh:io ts with
  | nil=>rw[pk,hh]at hs;exact absurd rfl hs
  | cons a l=>rfl
 refine⟨by omega,by rw[qj,List.length_append];exact h,AR _⟩
theorem dh {ws:List Bytes}{ts:List Tok}(h:ev (eL ws) ts=true):(pk ts).1≠100:=by
 intro e
 simp[ev,eL,eN,e]at h
theorem oY {ts:List Tok}(h:ev xj ts=true):(pk ts).1≠100:=by
 intro e
 simp[ev,xj,e]at h
theorem vm {k:Nat}(hk:k≠100){ts:List Tok}(h:ev (xk k) ts=true):(pk ts).1≠100:=by
 intro e
 simp[ev,xk,e]at h
 exact hk h.symm
def Sp (c y d:Nat)(ts eY:List Tok)(es:List az):Prop :=
 eY.length≤ts.length∧(eY.length=ts.length→dC es≤c)∧(eY.length<ts.length→dC es+y+24*eY.length≤24*ts.length)∧oD es≤d+2*(ts.length-eY.length)
def Ss (y d:Nat)(ts eY:List Tok)(es:List az):Prop :=
 eY.length<ts.length∧dC es+y+24*eY.length≤24*ts.length∧oD es≤d+2*(ts.length-eY.length)
theorem bj (w:Bytes)(ts:List Tok):bp (a6 w) ts (Sp 1 23 1 ts):=by
 refine .ite (fun h=>(bg (dh h)).mono fun t1 e1 q1=>?_) (fun h=>.put ?_)
 ·simp only[Bs,Sp]at *;omega
 ·simp only[Sp,aT,aZ,cg,be,bC,ci];omega
theorem dL (ts:List Tok):bp c_ ts (Sp 1 23 1 ts):=by
 refine .ite (fun h=>(bg (oY h)).mono fun t1 e1 q1=>?_) (fun h=>.put ?_)
 ·simp only[Bs,Sp]at *;omega
 ·simp only[Sp,aT,aZ,cg,be,bC,ci];omega
theorem Gx {ts:List Tok}(hi:ev xj ts=true):bp c_ ts (Bs ts) :=
 .ite (fun h=>bg (oY h)) (fun h=>by rw[hi]at h;cases h)
theorem AY {ws:List Bytes}{g:G}{ts:List Tok}{c y d:Nat}(y':Nat)(h:∀t1,t1.length<ts.length→bp g t1 (Sp c y d t1))(hc:c+y'≤23)(hd:1≤d+2):bp (sw ws g) ts (Sp 0 y' (d-2) ts):=by
 refine .ite (fun h0=>.seq (bg (dh h0)) fun t1 e1 q1=>(h t1 q1.1).mono fun t2 e2 q2=>?_) (fun h0=>.ft ?_)
 ·simp only[Bs,Sp,aw,aG,Nat.max_le]at *;omega
 ·simp only[Sp,cg,ci];omega
theorem ma {ws:List Bytes}{g:G}{ts:List Tok}{c y d:Nat}(h:∀t1,t1.length<ts.length→bp g t1 (Sp c y d t1))(hc:c+16≤23)(hd:1≤d+2):bp (sw ws g) ts (Sp 0 16 (d-2) ts):=AY 16 h hc hd
theorem m_ {w:Bytes}{g:G}{ts:List Tok}{c y d:Nat}(h:∀t1,t1.length<ts.length→bp g t1 (Sp c y d t1))(hc:c+16≤23):bp (oV w g) ts (Sp 1 16 (max 1 (d-2)) ts):=by
 refine .ite (fun h0=>.seq (bg (dh h0)) fun t1 e1 q1=>(h t1 q1.1).mono fun t2 e2 q2=>?_) (fun h0=>.put ?_)
 ·simp only[Bs,Sp,aw,aG,Nat.max_le]at *;omega
 ·simp only[Sp,aT,aZ,cg,be,bC,ci];omega
theorem xp {c:mO}{g:G}(I:List Tok→List az→Prop)
  (step:∀ts es,I ts es→ev c ts=true→∃eY H',bP g ts es false eY H'∧eY.length<ts.length∧I eY H'):∀(n:Nat)(ts:List Tok)(es:List az),ts.length≤n→I ts es →
  ∃eY H',bP (.dH c g) ts es false eY H'∧I eY H'∧ev c eY=false:=by
 intro n
 induction n with
 | zero =>
  intro ts es hn hI
  cases hc:ev c ts with
  | false=>exact⟨ts,es,.g_ hc,hI,hc⟩
  | true=>obtain⟨t,e,_,h2,_⟩:=step ts es hI hc;omega
 | succ n ih =>
  intro ts es hn hI
  cases hc:ev c ts with
  | false=>exact⟨ts,es,.g_ hc,hI,hc⟩
  | true =>
   obtain⟨t,e,h1,h2,h3⟩:=step ts es hI hc
   obtain⟨t',e',k1,k2,k3⟩:=ih t e (by omega) h3
   exact⟨t',e',.iV hc h1 k1,k2,k3⟩
theorem ly {c:mO}{g:G}{y d:Nat}(ts:List Tok)(h:∀t1,t1.length≤ts.length→ev c t1=true→bp g t1 (Ss y d t1)):bp (.dH c g) ts (Sp 0 y d ts):=by
 obtain⟨t',e',h1,h2,_⟩:=xp (c:=c) (g:=g) (fun t e=>Sp 0 y d ts t e) (fun t e q hc=>by
  obtain⟨t1,e1,k1,k2⟩:=h t q.1 hc
  have:=cG k1 e
  rw[List.append_nil]at this
  refine⟨t1,e++e1,this,k2.1,?_⟩
  simp only[Sp,Ss,aw,aG,Nat.max_le]at *
  omega) ts.length ts [] (Nat.le_refl _) (by simp only[Sp,cg,ci];omega)
 exact⟨t',e',h1,h2⟩
theorem AZ {cl:Bytes}{ts:List Tok}(h:ev (AS cl) ts=true):(pk ts).1≠100:=by
 intro e
 simp[ev,AS,e]at h
theorem ez {cl:Bytes}{el:G}{d:Nat}(hd:1≤d)(ts:List Tok)(h:∀t1,t1.length≤ts.length→(pk t1).1≠100→bp el t1 (Sp 3 12 d t1)):bp (gf cl el) ts (Sp 1 10 d ts):=by
 refine .seq (ly (y:=11) (d:=d) ts fun t1 hl hc=>?_) fun t1 e1 q1=>(bj cl t1).mono fun t2 e2 q2=>?_
 ·obtain⟨t2,e2,k1,k2⟩:=h t1 hl (AZ hc)
  by_cases he:t2.length=t1.length
  ·obtain⟨t3,e3,m1,m2⟩:=bp.node (k:=46) (by decide) (ts:=t2) (Q:=fun t e=>Ss 22 0 t2 t e) ((bg (by rw[y5 k1 he];exact AZ hc)).mono fun t e q=>by
    simp only[Bs,Ss,aT,aZ,be,bC]at *;omega)
   have m1:=cG m1 e2
   rw[List.append_nil]at m1
   refine⟨t3,_,.kI k1 he m1,?_⟩
   simp only[Sp,Ss,aw,aG,Nat.max_le]at *
   omega
  ·obtain⟨t3,e3,m1,m2⟩:=bp.ite (c:=eL [cl]) (a:=ft) (b:=a6 yS) (ts:=t2) (Q:=Sp 1 23 1 t2) (fun _=>.ft (by simp only[Sp,cg,ci];omega)) (fun _=>bj _ _)
   have m1:=cG m1 e2
   rw[List.append_nil]at m1
   refine⟨t3,_,.kJ k1 he m1,?_⟩
   simp only[Sp,Ss,aw,aG,Nat.max_le]at *
   omega
 ·simp only[Sp,aw,aG,Nat.max_le]at *
  omega
theorem vo (ty:Bool)(ts:List Tok)(h:∀t1,t1.length<ts.length→bp (.call 0) t1 (Sp 3 15 4 t1)):bp (wK ty) ts (Sp 2 20 3 ts)∧(ev xj ts=true→bp (wK ty) ts (Ss 20 3 ts)):=by
 have rest:∀t1,t1.length≤ts.length→bp (if ty then sw [Mj] (gf Tg (.call 0)) else ft) t1 (Sp 0 22 2 t1):=by
  intro t1 hl
  cases ty with
  | false=>exact .ft (by simp only[Sp,cg,ci];omega)
  | true=>exact(AY (c:=1) (y:=10) (d:=4) 22 (fun t2 h2=>ez (by decide) t2 fun t3 h3 _=>(h t3 (by omega)).mono fun t e q=>by simp only[Sp]at *;omega) (by decide) (by decide))
 refine⟨.node (by decide) (.seq (dL ts) fun t1 e1 q1=>(rest t1 q1.1).mono fun t2 e2 q2=>?_),fun hi=>.node (by decide) (.seq (Gx hi) fun t1 e1 q1=>(rest t1 (Nat.le_of_lt q1.1)).mono fun t2 e2 q2=>?_)⟩
 ·simp only[Sp,Ss,Bs,aw,aG,Nat.max_le,aT,aZ,be,bC]at *
  omega
 ·simp only[Sp,Ss,Bs,aw,aG,Nat.max_le,aT,aZ,be,bC]at *
  omega
theorem rD (ty:Bool)(ts:List Tok)(h:∀t1,t1.length<ts.length→bp (.call 0) t1 (Sp 3 15 4 t1)):bp (iT ty) ts (Sp 3 17 4 ts)∧(ev xj ts=true→bp (iT ty) ts (Ss 17 4 ts)):=by
 have rest:∀t1,t1.length≤ts.length→bp (.dH (eL [df]) (.seq .bump (wK ty))) t1 (Sp 0 20 3 t1):=by
  intro t1 hl
  refine ly t1 fun t2 h2 hc=>.seq (bg (dh hc)) fun t3 e3 q3=>(vo ty t3 fun t4 h4=>h t4 (by have:=q3.1;omega)).1.mono fun t4 e4 q4=>?_
  simp only[Sp,Ss,Bs,aw,aG,Nat.max_le]at *
  omega
 refine⟨.node (by decide) (.seq (vo ty ts h).1 fun t1 e1 q1=>(rest t1 q1.1).mono fun t2 e2 q2=>?_),fun hi=>.node (by decide) (.seq ((vo ty ts h).2 hi) fun t1 e1 q1=>(rest t1 (Nat.le_of_lt q1.1)).mono fun t2 e2 q2=>?_)⟩
 ·simp only[Sp,Ss,Bs,aw,aG,Nat.max_le,aT,aZ,be,bC]at *
  omega
 ·simp only[Sp,Ss,Bs,aw,aG,Nat.max_le,aT,aZ,be,bC]at *
  omega
theorem wa:∀(n:Nat)(ts:List Tok),ts.length≤n→bp (.call 0) ts fun t' es=>(∃t,es=[t])∧Sp 3 15 4 ts t' es:=by
 intro n
 induction n with
 | zero =>
  intro ts hn
  have:ts=[]:=List.length_eq_zero_iff.1 (by omega)
  subst this
  exact .call (.ite (fun h=>by cases h) fun _=>.ite (fun h=>by cases h) fun _=>.ite (fun h=>by cases h) fun _=>.put ⟨⟨_,rfl⟩,by simp only[Sp,aT,aZ,cg,be,bC,ci];omega⟩)
 | succ n ih =>
  intro ts hn
  have H6:∀t1,t1.length<ts.length→bp (.call 0) t1 (Sp 3 15 4 t1):=fun t1 h1=>(ih t1 (by omega)).mono fun _ _ q=>q.2
  refine .call (.ite (fun h=>.node (by decide) ?_) fun _=>.ite (fun h=>.node (by decide) ?_) fun _=>.ite (fun h=>?_) fun _=>.put ⟨⟨_,rfl⟩,by simp only[Sp,aT,aZ,cg,be,bC,ci];omega⟩)
  ·refine .seq (bg (dh h)) fun t1 e1 q1=>.seq (ma (c:=0) (y:=0) (d:=1) (fun t2 _=>.ft (by simp only[Sp,cg,ci];omega)) (by decide) (by decide)) fun t2 e2 q2=>(H6 t2 (by have:=q1.1;have:=q2.1;omega)).mono fun t3 e3 q3=>⟨⟨_,rfl⟩,?_⟩
   simp only[Sp,Ss,Bs,aw,aG,Nat.max_le,aT,aZ,be,bC]at *
   omega
  ·refine .seq (bg (dh h)) fun t1 e1 q1=>.seq (bj _ t1) fun t2 e2 q2=>.seq (ez (d:=4) (by decide) t2 fun t3 h3 _=>(H6 t3 (by have:=q1.1;have:=q2.1;omega)).mono fun t e q=>by simp only[Sp]at *;omega) fun t3 e3 q3=>(m_ (c:=3) (y:=15) (d:=4) (fun t4 h4=>H6 t4 (by have:=q1.1;have:=q2.1;have:=q3.1;omega)) (by decide)).mono fun t4 e4 q4=>⟨⟨_,rfl⟩,?_⟩
   simp only[Sp,Ss,Bs,aw,aG,Nat.max_le,aT,aZ,be,bC]at *
   omega
  ·obtain⟨t1,e1,k1,k2⟩:=(rD true ts H6).1
   refine⟨t1,e1,k1,?_,?_⟩
   ·cases k1;exact⟨_,rfl⟩
   ·simp only[Sp]at *;omega
theorem Oz (ts:List Tok):bp (.call 0) ts (Sp 3 15 4 ts):=(wa ts.length ts (Nat.le_refl _)).mono fun _ _ q=>q.2
theorem path (ty:Bool)(ts:List Tok):bp (iT ty) ts (Sp 3 17 4 ts):=(rD ty ts fun t1 _=>Oz t1).1
theorem E0 (ty:Bool){ts:List Tok}(hi:ev xj ts=true):bp (iT ty) ts (Ss 17 4 ts):=(rD ty ts fun t1 _=>Oz t1).2 hi
end Pm
end

section
namespace Pm
theorem vp {c:mO}{ts:List Tok}(h:ev c ts=true)(hc:∀t u v:Tok,t.1=100→c t u v=false):(pk ts).1≠100:=fun e=>by
 rw[ev,hc _ _ _ e]at h;cases h
theorem rE {k:Nat}(hk:k<100){ts:List Tok}(hs:(pk ts).1≠100):bp (.node k .bump) ts fun t' es=>(∃t,es=[t])∧Ss 22 0 ts t' es :=
 .node hk ((bg hs).mono fun t e q=>⟨⟨_,rfl⟩,by simp only[Bs,Ss,aT,aZ,be,bC]at *;omega⟩)
theorem lz {c y d y' d':Nat}{ts t':List Tok}{es:List az}(h:Ss y d ts t' es)(hy:y'≤y)(hd:d≤d'):Sp c y' d' ts t' es:=by
 simp only[Sp,Ss]at *;omega
theorem A0 {c y d c' y' d':Nat}{ts t':List Tok}{es:List az}(h:Sp c y d ts t' es)(hc:c≤c')(hy:y'≤y)(hd:d≤d'):Sp c' y' d' ts t' es:=by
 simp only[Sp]at *;omega
def Sz (c d:Nat)(ts eY:List Tok)(es:List az):Prop:=eY.length≤ts.length∧dC es+24*eY.length≤24*ts.length+c∧oD es≤d+2*(ts.length-eY.length)
theorem Q8 {c y d:Nat}{ts t':List Tok}{es:List az}(h:Sp c y d ts t' es):Sz c d ts t' es:=by
 simp only[Sp,Sz]at *;omega
theorem bp.iW {a b:G}{ts:List Tok}{c1 c2 d:Nat}(h:bp a ts (Sz c1 d ts))(k:∀t1,t1.length≤ts.length→bp b t1 (Sz c2 d t1)):bp (.seq a b) ts (Sz (c1+c2) d ts) :=
 .seq h fun t1 e1 q1=>(k t1 q1.1).mono fun t2 e2 q2=>by
  simp only[Sz,aw,aG,Nat.max_le]at *
  omega
theorem bp.Q9 {k:Nat}{g:G}{ts:List Tok}{c d:Nat}(hk:k<100)(h:bp g ts (Sz c d ts)):bp (.node k g) ts (Sz (c+1) (d+1) ts) :=
 .node hk (h.mono fun t e q=>by simp only[Sz,aT,aZ,be,bC]at *;omega)
theorem bp.z {g:G}{ts:List Tok}{c y d d':Nat}(h:bp g ts (Sp c y d ts))(hd:d≤d'):bp g ts (Sz c d' ts):=h.mono fun t e q=>by simp only[Sp,Sz]at *;omega
theorem bp.le {g:G}{ts:List Tok}{c d c' d':Nat}(h:bp g ts (Sz c d ts))(hc:c≤c')(hd:d≤d'):bp g ts (Sz c' d' ts):=h.mono fun t e q=>by simp only[Sz]at *;omega
theorem na {g:G}{ts:List Tok}{cs:List az}{b b':Bool}{t t':List Tok}{e e':List az}(h:bP g ts cs b t e)(h':bP g ts cs b' t' e'):b=b'∧t=t'∧e=e':=by
 obtain⟨n,h⟩:=Dd h
 obtain⟨m,h'⟩:=Dd h'
 have h:=dp (yZ n m) h
 rw[dp (max2 n m) h']at h
 simp only[Option.some.injEq,Prod.mk.injEq]at h
 exact⟨h.1.symm,h.2.1.symm,h.2.2.symm⟩
def OA:mO:=fun t _ _=>t.1==103 || t.1==105 || eN [iS,iA,mF] t
theorem at3 (a b c:Bytes)(t:Tok):eN [a,b,c] t=(eN [a] t || eN [b] t || eN [c] t):=by
 simp only[eN,List.contains_cons,List.contains_nil,Bool.or_false]
 cases(t.1==104 || t.1==107)<;>simp[Bool.or_assoc]
theorem at2 (a b:Bytes)(t:Tok):eN [a,b] t=(eN [a] t || eN [b] t):=by
 simp only[eN,List.contains_cons,List.contains_nil,Bool.or_false]
 cases(t.1==104 || t.1==107)<;>simp
theorem y7:∀(n:Nat)(ts:List Tok),ts.length≤n→bp (.call 5) ts fun t' es=>Sp 3 15 5 ts t' es∧(ev OA ts=true→t'.length<ts.length∧dC es+16+24*t'.length≤24*ts.length):=by
 intro n
 induction n with
 | zero =>
  intro ts hn
  have:ts=[]:=List.length_eq_zero_iff.1 (by omega)
  subst this
  exact .call (.ite (fun h=>by cases h) fun _=>.ite (fun h=>by cases h) fun _=>.ite (fun h=>by cases h) fun _=>.ite (fun h=>by cases h) fun _=>.ite (fun h=>by cases h) fun _=>.ite (fun h=>by cases h) fun _ =>
   .put ⟨by simp only[Sp,aT,aZ,cg,be,bC,ci];omega,fun h=>by cases h⟩)
 | succ n ih =>
  intro ts hn
  have lf:∀{k:Nat},k<100→(pk ts).1≠100→bp (.node k .bump) ts fun t' es=>Sp 3 15 5 ts t' es∧(ev OA ts=true→t'.length<ts.length∧dC es+16+24*t'.length≤24*ts.length):=fun hk hs =>
   (rE hk hs).mono fun t e q=>⟨lz q.2 (by decide) (by decide),fun _=>by have:=q.2;simp only[Ss]at *;omega⟩
  refine .call (.ite (fun h=>.node (by decide) ?_) fun n1=>.ite (fun h=>lf (by decide) (vp h (by intro t u v e;simp[e]))) fun n2=>.ite (fun h=>lf (by decide) (vp h (by intro t u v e;simp[e]))) fun n3=>.ite (fun h=>.node (by decide) ?_) fun n4 =>
   .ite (fun h=>lf (by decide) (vm (by decide) h)) fun n5=>.ite (fun h=>lf (by decide) (dh h)) fun n6=>.put ⟨by simp only[Sp,aT,aZ,cg,be,bC,ci];omega,fun h=>?_⟩)
  ·refine .seq (bg (dh h)) fun t1 e1 q1=>(dL t1).mono fun t2 e2 q2=>?_
   simp only[Sp,Ss,Bs,aw,aG,Nat.max_le,aT,aZ,be,bC]at *
   omega
  ·refine .seq (E0 false h) fun t1 e1 q1=>(ma (c:=1) (y:=10) (d:=5) (fun t2 h2=>ez (by decide) t2 fun t3 h3 _=>(ih t3 (by have:=q1.1;omega)).mono fun t e q=>A0 q.1 (by decide) (by decide) (by decide)) (by decide) (by decide)).mono fun t2 e2 q2=>?_
   simp only[Sp,Ss,Bs,aw,aG,Nat.max_le,aT,aZ,be,bC]at *
   omega
  ·exfalso
   simp only[ev,eL,xj,xk,OA,at2,at3]at *
   rw[Bool.or_eq_false_iff]at n6
   rw[n4,n5,n1,n6.1,n6.2]at h
   cases h
theorem pat (ts:List Tok):bp (.call 5) ts fun t' es=>Sp 3 15 5 ts t' es∧(ev OA ts=true→t'.length<ts.length∧dC es+16+24*t'.length≤24*ts.length):=y7 ts.length ts (Nat.le_refl _)
def Ti:mO:=eL [Mi,u9,j5]
def Ex (ts t':List Tok)(es:List az):Prop:=(∃t,es=[t])∧Sp 1 15 5 ts t' es∧(ev Ti ts=true→t'.length<ts.length)
def Tj (ts:List Tok):Prop:=∀b t1 e1,bP (.call 10) ts [] b t1 e1→t1.length=ts.length
def YG (ts t':List Tok)(es:List az):Prop:=Ss 13 6 ts t' es∧(Tj ts→oD es≤4+2*(ts.length-t'.length))
def BlQ (ts t':List Tok)(es:List az):Prop:=Sp 4 9 7 ts t' es∧(Tj ts→oD es≤5+2*(ts.length-t'.length))
def One (es:List az):Prop:=∃t,es=[t]
structure mb (ts:List Tok):Prop where
 ex:∀l,10≤l→l≤15→bp (.call l) ts (Ex ts)
 iff:(pk ts).1≠100→bp (.call 6) ts fun t' es=>One es∧Ss 15 5 ts t' es
 st:(pk ts).1≠100→∃b t' es,bP (.call 2) ts [] b t' es∧YG ts t' es
 bl:bp (.call 1) ts (BlQ ts)
theorem lB {ts t':List Tok}{es:List az}(h:Ex ts t' es):Sp 1 15 5 ts t' es:=h.2.1
theorem oZ {c:mO}{g:G}(I:List Tok→List az→Prop)
  (step:∀ts es,I ts es→ev c ts=true→∃b eY H',bP g ts es b eY H'∧(b=false→eY.length<ts.length)∧I eY H'):∀(n:Nat)(ts:List Tok)(es:List az),ts.length≤n→I ts es →
  ∃b eY H',bP (.dH c g) ts es b eY H'∧I eY H':=by
 intro n
 induction n with
 | zero =>
  intro ts es hn hI
  cases hc:ev c ts with
  | false=>exact⟨_,ts,es,.g_ hc,hI⟩
  | true =>
   obtain⟨b,t,e,h1,h2,h3⟩:=step ts es hI hc
   cases b with
   | true=>exact⟨_,t,e,.iU hc h1,h3⟩
   | false=>have:=h2 rfl;omega
 | succ n ih =>
  intro ts es hn hI
  cases hc:ev c ts with
  | false=>exact⟨_,ts,es,.g_ hc,hI⟩
  | true =>
   obtain⟨b,t,e,h1,h2,h3⟩:=step ts es hI hc
   cases b with
   | true=>exact⟨_,t,e,.iU hc h1,h3⟩
   | false =>
    obtain⟨b',t',e',k1,k2⟩:=ih t e (by have:=h2 rfl;omega) h3
    exact⟨b',t',e',.iV hc h1 k1,k2⟩
def blC:mO:=fun t _ _=>!eN [gO] t&&!(t.1==100)&&!eN cy t
theorem Tk {ts:List Tok}(h:ev blC ts=true):(pk ts).1≠100:=vp h (by intro t u v e;simp[blC,e])
theorem rF {d:Nat}(ts:List Tok)(hd:4≤d)(h:∀t1,t1.length≤ts.length→(pk t1).1≠100→∃b t' es,bP (.call 2) t1 [] b t' es∧Ss 13 6 t1 t' es∧(t1=ts→oD es≤d+2*(ts.length-t'.length))) :
  bp (.yV (.dH blC (.call 2)) ft (.put 0)) ts (Sp 1 12 d ts):=by
 obtain⟨b,t',e',h1,h2,_⟩:=oZ (c:=blC) (g:=.call 2) (fun t e=>Sp 0 13 d ts t e∧(t.length=ts.length→t=ts)) (fun t e q hc=>by
  obtain⟨b,t1,e1,k1,k2,k3⟩:=h t q.1.1 (Tk hc)
  have:=cG k1 e
  rw[List.append_nil]at this
  refine⟨b,t1,e++e1,this,fun _=>k2.1,?_,fun e'=>?_⟩
  ·obtain⟨q,qe⟩:=q
   by_cases he:t.length=ts.length
   ·have k3:=k3 (qe he)
    simp only[Sp,Ss,aw,aG,Nat.max_le]at *
    omega
   ·clear k3
    simp only[Sp,Ss,aw,aG,Nat.max_le]at *
    omega
  ·have:=k2.1;have:=q.1.1;omega) ts.length ts [] (Nat.le_refl _) ⟨by simp only[Sp,cg,ci];omega,fun _=>rfl⟩
 cases b with
 | true=>exact⟨t',e',.oW h1 (.ret _ _ _),by simp only[Sp]at *;omega⟩
 | false=>exact⟨t',_,.oX h1 (.put _ _ _),by simp only[Sp,aw,aG,Nat.max_le,aT,aZ,cg,be,bC,ci]at *;omega⟩
theorem Gy {ts:List Tok}(hs:(pk ts).1≠100)(ih:∀t1,t1.length<ts.length→mb t1):bp j_ ts fun t1 e=>t1.length<ts.length∧dC e+17+24*t1.length≤24*ts.length∧oD e≤4+2*(ts.length-t1.length):=by
 refine .seq (bg hs) fun t1 e1 q1=>(ez (d:=5) (by decide) t1 fun t2 h2 _=>((ih t2 (by have:=q1.1;omega)).ex 10 (by decide) (by decide)).mono fun t e q=>A0 q.2.1 (by decide) (by decide) (by decide)).mono fun t2 e2 q2=>?_
 simp only[Sp,Bs,aw,aG,Nat.max_le]at *
 omega
theorem ka {k:Nat}{g:G}(hk:k<100){ts0 ts:List Tok}{t:az}(q:Sp 1 15 5 ts0 ts [t])
  (h:bp g ts fun t1 e=>t1.length<ts.length∧dC e+17+24*t1.length≤24*ts.length∧oD e≤4+2*(ts.length-t1.length)) :
  ∃t1 t',bP (.wrap k g) ts [t] false t1 [t']∧t1.length<ts.length∧Sp 1 15 5 ts0 t1 [t']:=by
 obtain⟨t1,e,h1,h2⟩:=h
 have h1:=cG h1 [t]
 rw[List.append_nil]at h1
 refine⟨t1,_,.wrap [] hk h1,h2.1,?_⟩
 simp only[Sp,aw,aG,Nat.max_le,aT,aZ,be,bC]at *
 omega
theorem vq {c:mO}{g:G}{ts0:List Tok}(h:∀ts t,ts.length≤ts0.length→ev c ts=true→Sp 1 15 5 ts0 ts [t]→∃b t1 t',bP g ts [t] b t1 [t']∧t1.length<ts.length∧Sp 1 15 5 ts0 t1 [t'])
  {ts:List Tok}{t:az}(q:Sp 1 15 5 ts0 ts [t]):∃b t1 t',bP (.dH c g) ts [t] b t1 [t']∧t1.length≤ts.length∧Sp 1 15 5 ts0 t1 [t']:=by
 obtain⟨b,t1,e1,h1,⟨t',rfl,h2⟩,h3⟩:=oZ (c:=c) (g:=g) (fun u e=>(∃t',e=[t']∧Sp 1 15 5 ts0 u e)∧u.length≤ts.length) (fun u e hI hc=>by
  obtain⟨⟨t',rfl,h2⟩,h3⟩:=hI
  obtain⟨b,t1,t'',k1,k2,k3⟩:=h u t' h2.1 hc h2
  exact⟨b,t1,_,k1,fun _=>k2,⟨_,rfl,k3⟩,by omega⟩) ts.length ts [t] (Nat.le_refl _) ⟨⟨t,rfl,q⟩,Nat.le_refl _⟩
 exact⟨b,t1,t',h1,h3,h2⟩
theorem Gz {ts:List Tok}(ih:∀t1,t1.length<ts.length→mb t1):bp Jk ts (Sp 3 12 6 ts):=by
 refine .ite (fun h=>.node (by decide) (.seq (pat ts) fun t1 e1 q1=>.seq (bj _ t1) fun t2 e2 q2=>((ih t2 (by have:=(q1.2 h).1;have:=q2.1;omega)).ex 10 (by decide) (by decide)).mono fun t3 e3 q3=>?_)) fun _=>.ft (by simp only[Sp,cg,ci];omega)
 obtain⟨q1,q1'⟩:=q1
 have q1':=q1' h
 have q3:=lB q3
 simp only[Sp,aw,aG,Nat.max_le,aT,aZ,be,bC]at *
 omega
theorem De {ts:List Tok}(ih:∀t1,t1.length<ts.length→mb t1):bp AW ts (Sp 3 12 6 ts):=by
 refine .ite (fun h=>.node (by decide) (.seq (bg (oY h)) fun t1 e1 q1=>.seq (bj _ t1) fun t2 e2 q2=>((ih t2 (by have:=q1.1;have:=q2.1;omega)).ex 10 (by decide) (by decide)).mono fun t3 e3 q3=>?_)) fun _=>.ft (by simp only[Sp,cg,ci];omega)
 have q3:=lB q3
 simp only[Sp,Bs,aw,aG,Nat.max_le,aT,aZ,be,bC]at *
 omega
theorem A2 (ts:List Tok):bp u_ ts (Sp 3 12 3 ts):=by
 refine .ite (fun h=>.node (by decide) (.seq (bg (oY h)) fun t1 e1 q1=>(m_ (c:=3) (y:=15) (d:=4) (fun t2 _=>Oz t2) (by decide)).mono fun t2 e2 q2=>?_)) fun _=>.ft (by simp only[Sp,cg,ci];omega)
 simp only[Sp,Bs,aw,aG,Nat.max_le,aT,aZ,be,bC]at *
 omega
theorem dy (cl:Bytes)(ts:List Tok):bp (lZ cl) ts (Sp 2 9 4 ts):=by
 refine .node (by decide) ((ez (d:=3) (by decide) ts fun t1 _ _=>A2 t1).mono fun t2 e2 q2=>?_)
 simp only[Sp,aT,aZ,be,bC]at *
 omega
theorem A3 {ts:List Tok}(ih:∀t1,t1.length<ts.length→mb t1)(h:ev (eL [j5]) ts=true):bp (.call 1) ts fun t' es=>One es∧Ss 15 5 ts t' es:=by
 have hx:bp (a6 j5) ts (Bs ts):=.ite (fun h=>bg (dh h)) fun h'=>by rw[h]at h';cases h'
 refine .call (.node (by decide) (.seq hx fun t1 e1 q1=>.seq (rF (d:=6) t1 (by decide) fun t2 h2 hs=>?_) fun t2 e2 q2=>(bj _ t2).mono fun t3 e3 q3=>⟨⟨_,rfl⟩,?_⟩))
 ·obtain⟨b,t',e,k1,k2⟩:=(ih t2 (by have:=q1.1;omega)).st hs
  exact⟨b,t',e,k1,k2.1,fun e=>by subst e;exact k2.1.2.2⟩
 ·simp only[Sp,Ss,Bs,aw,aG,Nat.max_le,aT,aZ,be,bC]at *
  omega
theorem xr {ts:List Tok}(ih:∀t1,t1.length<ts.length→mb t1){t1:List Tok}(h1:t1.length<ts.length):bp (.seq (.call 10) (.call 1)) t1 fun t' es=>t'.length≤t1.length∧dC es+24*t'.length≤24*t1.length+5∧oD es≤5+2*(t1.length-t'.length):=by
 obtain⟨t2,e2,k1,k2⟩:=(ih t1 h1).ex 10 (by decide) (by decide)
 have hle:=k2.2.1.1
 obtain⟨t3,e3,m1,m2,m3⟩:=(ih t2 (by omega)).bl
 have f:=cG m1 e2
 rw[List.append_nil]at f
 refine⟨t3,_,.seq k1 f,?_⟩
 have k2:=lB k2
 by_cases he:t2.length=t1.length
 ·have e':=y5 k1 he
  subst e'
  have m3:=m3 (fun b t e hr=>by rw[(na hr k1).2.1])
  simp only[Sp,true_implies,aw,aG,Nat.max_le]at *
  omega
 ·clear m3
  simp only[Sp,aw,aG,Nat.max_le]at *
  omega
theorem E1 {ts:List Tok}(ih:∀t1,t1.length<ts.length→mb t1)(hs:(pk ts).1≠100):bp (.call 6) ts fun t' es=>One es∧Ss 15 5 ts t' es:=by
 refine .call (.node (by decide) (.seq (bg hs) fun t1 e1 q1=>?_))
 obtain⟨t3,e3,k1,k2⟩:=xr ih q1.1
 have hlt:=q1.1
 obtain⟨t4,e4,m1,m2⟩:=m_ (w:=EU) (g:=.ite (eL [Mi]) (.call 6) (.call 1)) (ts:=t3) (c:=4) (y:=9) (d:=7) (fun t hl=>.ite (fun h=>((ih t (by omega)).iff (dh h)).mono fun _ _ q=>lz q.2 (by decide) (by decide)) fun _=>((ih t (by omega)).bl).mono fun _ _ q=>q.1) (by decide)
 cases k1 with
 | seq k1 k1' =>
  have f:=cG m1 e3
  rw[List.append_nil]at f
  refine⟨t4,_,.seq k1 (.seq k1' f),⟨_,rfl⟩,?_⟩
  simp only[Sp,Ss,Bs,aw,aG,Nat.max_le,aT,aZ,be,bC]at *
  omega
theorem qv {ts:List Tok}(ih:∀t1,t1.length<ts.length→mb t1): bp (.call 4) ts (Ex ts):=by
 have one:∀{g:G},bp g ts (fun t' es=>One es∧Ss 15 5 ts t' es)→bp g ts (Ex ts):=fun h=>h.mono fun t e q=>⟨q.1,lz q.2 (by decide) (by decide),fun _=>q.2.1⟩
 have lf:∀{k:Nat},k<100→(pk ts).1≠100→bp (.node k .bump) ts (Ex ts):=fun hk hs=>one ((rE hk hs).mono fun t e q=>⟨q.1,by have:=q.2;simp only[Ss]at *;omega⟩)
 refine .call (.ite (fun h=>lf (by decide) (vm (by decide) h)) fun n1=>.ite (fun h=>lf (by decide) (vm (by decide) h)) fun n2=>.ite (fun h=>lf (by decide) (dh h)) fun n3=>.ite (fun h=>?_) fun n4 =>
  .ite (fun h=>one (.node (by decide) ?_)) fun n5=>.ite (fun h=>one (A3 ih h)) fun n6=>.ite (fun h=>one (E1 ih (dh h))) fun n7=>.ite (fun h=>one (.node (by decide) ?_)) fun n8=>.ite (fun h=>one (.node (by decide) ?_)) fun n9 =>
  .ite (fun h=>one (.node (by decide) ?_)) fun n10=>.put ⟨⟨_,rfl⟩,by simp only[Sp,aT,aZ,cg,be,bC,ci];omega,fun h=>?_⟩)
 ·obtain⟨t1,e1,k1,k2⟩:=E0 false h
  have:∃t,e1=[t]:=by cases k1;exact⟨_,rfl⟩
  obtain⟨t,rfl⟩:=this
  have hlt:=k2.1
  cases hc:ev (fun t u _=>eN [qi] t&&eN [cC] u) t1 with
  | false=>exact⟨t1,_,.seq k1 (.d_ hc (.ret _ _ _)),⟨_,rfl⟩,lz k2 (by decide) (by decide),fun _=>k2.1⟩
  | true =>
   obtain⟨t2,t',m1,m2,m3⟩:=ka (k:=42) (g:=.seq .bump j_) (by decide) (ts0:=ts) (ts:=t1) (t:=t) (lz k2 (by decide) (by decide)) (by
    refine .seq (bg (vp hc (by intro t u v e;simp[eN,e]))) fun t2 e2 q2=>.seq (lx t2) fun t3 e3 q3=>(ez (d:=5) (by decide) t3 fun t4 h4 _=>((ih t4 (by have:=q2.1;have:=q3.1;omega)).ex 10 (by decide) (by decide)).mono fun t e q=>A0 q.2.1 (by decide) (by decide) (by decide)).mono fun t4 e4 q4=>?_
    clear k2
    simp only[Sp,Bs,Bp,aw,aG,Nat.max_le]at *
    omega)
   exact⟨t2,_,.seq k1 (.fu hc m1),⟨_,rfl⟩,m3,fun _=>by omega⟩
 ·refine .seq (bg (dh h)) fun t1 e1 q1=>.seq ((ih t1 q1.1).ex 10 (by decide) (by decide)) fun t2 e2 q2=>(bj _ t2).mono fun t3 e3 q3=>⟨⟨_,rfl⟩,?_⟩
  have q2:=lB q2
  simp only[Sp,Ss,Bs,aw,aG,Nat.max_le,aT,aZ,be,bC]at *
  omega
 ·refine .seq (bg (dh h)) fun t1 e1 q1=>.seq ((ih t1 q1.1).ex 10 (by decide) (by decide)) fun t2 e2 q2=>.seq (bj _ t2) fun t3 e3 q3=>(ez (d:=6) (by decide) t3 fun t4 h4 _=>Gz fun t5 h5=>ih t5 ?_).mono fun t4 e4 q4=>⟨⟨_,rfl⟩,?_⟩
  ·have:=q1.1;have:=(lB q2).1;have:=q3.1;omega
  ·have q2:=lB q2
   simp only[Sp,Ss,Bs,aw,aG,Nat.max_le,aT,aZ,be,bC]at *
   omega
 ·refine .seq (bg (dh h)) fun t1 e1 q1=>.seq (path false t1) fun t2 e2 q2=>.seq (bj _ t2) fun t3 e3 q3=>(ez (d:=6) (by decide) t3 fun t4 h4 _=>De fun t5 h5=>ih t5 ?_).mono fun t4 e4 q4=>⟨⟨_,rfl⟩,?_⟩
  ·have:=q1.1;have:=q2.1;have:=q3.1;omega
  ·simp only[Sp,Ss,Bs,aw,aG,Nat.max_le,aT,aZ,be,bC]at *
   omega
 ·refine .seq (Qa:=Ss 20 2 ts) (.ite (fun h'=>.seq (bg (dh h)) fun t1 e1 q1=>.node (by decide) (.ft ?_)) fun h'=>.seq (bg (dh h)) fun t1 e1 q1=>(dy _ t1).mono fun t2 e2 q2=>?_) fun t1 e1 q1=>((ih t1 q1.1).ex 10 (by decide) (by decide)).mono fun t2 e2 q2=>⟨⟨_,rfl⟩,?_⟩
  ·simp only[Sp,Ss,Bs,aw,aG,Nat.max_le,aT,aZ,be,bC,cg,ci]at *
   omega
  ·simp only[Sp,Ss,Bs,aw,aG,Nat.max_le]at *
   omega
  ·have q2:=lB q2
   simp only[Sp,Ss,Bs,aw,aG,Nat.max_le,aT,aZ,be,bC]at *
   omega
 ·exfalso
  simp only[ev,eL,Ti,at3]at *
  rw[n6,n7,n8]at h
  cases h
theorem Df {ts:List Tok}(ih:∀t1,t1.length<ts.length→mb t1): bp (.call 15) ts (Ex ts):=by
 refine .call (.ite (fun h=>.node (by decide) ?_) fun n1=>.ite (fun h=>.node (by decide) ?_) fun n2=>?_)
 ·refine .seq (bg (dh h)) fun t1 e1 q1=>((ih t1 q1.1).ex 15 (by decide) (by decide)).mono fun t2 e2 q2=>⟨⟨_,rfl⟩,?_⟩
  have q2:=lB q2
  simp only[Sp,Bs,aw,aG,Nat.max_le,aT,aZ,be,bC]at *
  omega
 ·refine .seq (bg (dh h)) fun t1 e1 q1=>.seq (ma (c:=0) (y:=0) (d:=1) (fun t2 _=>.ft (by simp only[Sp,cg,ci];omega)) (by decide) (by decide)) fun t2 e2 q2=>((ih t2 (by have:=q1.1;have:=q2.1;omega)).ex 15 (by decide) (by decide)).mono fun t3 e3 q3=>⟨⟨_,rfl⟩,?_⟩
  have q3:=lB q3
  simp only[Sp,Bs,aw,aG,Nat.max_le,aT,aZ,be,bC]at *
  omega
 ·obtain⟨t1,e1,k1,⟨t,rfl⟩,k2,k3⟩:=qv ih
  obtain⟨b,t2,t',m1,m2,m3⟩:=vq (c:=eL [cC,Ot]) (g:=.ite (eL [cC]) (.wrap 30 j_)
    (.ite (fun _ t u=>t.1==103&&eN [cC] u) (.wrap 31 (.seq .bump (.seq .bump j_))) (.wrap 32 (.seq .bump c_)))) (ts0:=ts) (fun u x hl hc q=>by
   have hs:=dh hc
   have H6:∀t1,t1.length<u.length→mb t1:=fun t1 h1=>ih t1 (by omega)
   cases h1:ev (eL [cC]) u with
   | true =>
    obtain⟨t1,x',k1,k2⟩:=ka (k:=30) (by decide) q (Gy hs H6)
    exact⟨_,t1,x',.fu h1 k1,k2⟩
   | false =>
    cases h2:ev (fun _ t u=>t.1==103&&eN [cC] u) u with
    | true =>
     obtain⟨t1,x',k1,k2⟩:=ka (k:=31) (g:=.seq .bump (.seq .bump j_)) (by decide) q (by
      refine .seq (bg hs) fun t2 e2 q2=>.seq (lx t2) fun t3 e3 q3=>.seq (lx t3) fun t4 e4 q4=>(ez (d:=5) (by decide) t4 fun t5 h5 _=>((H6 t5 (by have:=q2.1;have:=q3.1;have:=q4.1;omega)).ex 10 (by decide) (by decide)).mono fun t e q=>A0 q.2.1 (by decide) (by decide) (by decide)).mono fun t5 e5 q5=>?_
      clear q k2
      simp only[Sp,Bs,Bp,aw,aG,Nat.max_le]at *
      omega)
     exact⟨_,t1,x',.d_ h1 (.fu h2 k1),k2⟩
    | false =>
     obtain⟨t1,x',k1,k2⟩:=ka (k:=32) (g:=.seq .bump c_) (by decide) q (by
      refine .seq (bg hs) fun t2 e2 q2=>(dL t2).mono fun t3 e3 q3=>?_
      clear q k2
      simp only[Sp,Bs,Bp,aw,aG,Nat.max_le]at *
      omega)
     exact⟨_,t1,x',.d_ h1 (.d_ h2 k1),k2⟩) k2
  have hb:b=false:=by
   have:∀{c:mO} {g:G} {ts t':List Tok} {cs e:List az} {b:Bool},bP (.dH c g) ts cs b t' e→(∀ts cs b t' e,bP g ts cs b t' e→b=false)→b=false:=by
    intro c g ts t' cs e b h hg
    generalize hx:G.dH c g=x at h
    induction h with
    | g_ hc=>rfl
    | iU hc h i=>cases hx;exact hg _ _ _ _ _ h
    | iV hc h h2 i1 i2=>exact i2 hx
    | _=>cases hx
   have fe:∀{w:Bytes} ts cs b t' e,bP (a6 w) ts cs b t' e→b=false:=by
    intro w ts cs b t' e h
    cases h with
    | fu _ h=>cases h;rfl
    | d_ _ h=>cases h;rfl
   have fi:∀ts cs b t' e,bP c_ ts cs b t' e→b=false:=by
    intro ts cs b t' e h
    cases h with
    | fu _ h=>cases h;rfl
    | d_ _ h=>cases h;rfl
   have fa:∀ts cs b t' e,bP j_ ts cs b t' e→b=false:=by
    intro ts cs b t' e h
    cases h with
    | seq _ h=>cases h with
     | seq _ h=>exact fe _ _ _ _ _ h
   refine this m1 fun ts cs b t' e h=>?_
   cases h with
   | fu _ h=>cases h with
    | wrap _ _ h=>exact fa _ _ _ _ _ h
   | d_ _ h=>cases h with
    | fu _ h=>cases h with
     | wrap _ _ h=>cases h with
      | seq _ h=>cases h with
       | seq _ h=>exact fa _ _ _ _ _ h
    | d_ _ h=>cases h with
     | wrap _ _ h=>cases h with
      | seq _ h=>exact fi _ _ _ _ _ h
  subst hb
  exact⟨t2,_,.seq k1 m1,⟨_,rfl⟩,m3,fun h=>by have:=k3 h;omega⟩
theorem iX {ts:List Tok}(ih:∀t1,t1.length<ts.length→mb t1)(l:Nat)(hl:l<5)(h:bp (.call (11+l)) ts (Ex ts)):bp (.call (10+l)) ts (Ex ts):=by
 have hd:ot (10+l)=iM l:=by
  match l with
  | 0|1|2|3|4=>rfl
  | n+5=>omega
 refine .call ?_
 rw[hd]
 obtain⟨t1,e1,k1,⟨t,rfl⟩,k2,k3⟩:=h
 obtain⟨b,t2,t',m1,m2,m3⟩:=vq (c:=eL (iB l)) (g:=.seq (.wrap 39 (.seq .bump (.call (11+l)))) (.ret (l==2))) (ts0:=ts) (fun u x hu hc q=>by
  obtain⟨t1,x',k1,k2⟩:=ka (k:=39) (g:=.seq .bump (.call (11+l))) (by decide) q (by
   refine .seq (bg (dh hc)) fun t2 e2 q2=>((ih t2 (by have:=q2.1;omega)).ex (11+l) (by omega) (by omega)).mono fun t3 e3 q3=>?_
   have q3:=lB q3
   clear q k2
   simp only[Sp,Bs,Bp,aw,aG,Nat.max_le]at *
   omega)
  exact⟨_,t1,x',.seq k1 (.ret _ _ _),k2⟩) k2
 exact⟨t2,_,.seq k1 (.seq m1 (.ret _ _ _)),⟨_,rfl⟩,m3,fun h=>by have:=k3 h;omega⟩
theorem Dh {ts:List Tok}(ih:∀t1,t1.length<ts.length→mb t1): ∀l,10≤l→l≤15→bp (.call l) ts (Ex ts):=by
 have h5:=Df ih
 have h4:=iX ih 4 (by decide) h5
 have h3:=iX ih 3 (by decide) h4
 have h2:=iX ih 2 (by decide) h3
 have h1:=iX ih 1 (by decide) h2
 have h0:=iX ih 0 (by decide) h1
 intro l h h'
 have:l=10∨l=11∨l=12∨l=13∨l=14∨l=15:=by omega
 rcases this with e|e|e|e|e|e<;>subst e<;>assumption
theorem A4 {ts:List Tok}(ih:∀t1,t1.length<ts.length→mb t1)(bl:Bool){g:G}(hs:(pk ts).1≠100)(h:bp g ts (Ex ts)):∃b t' es,bP (Ox bl g) ts [] b t' es∧Ss 13 6 ts t' es∧((∀b t1 e1,bP g ts [] b t1 e1→t1.length=ts.length)→oD es≤4+2*(ts.length-t'.length)):=by
 obtain⟨t1,e1,k1,⟨t,rfl⟩,k2,k3⟩:=h
 by_cases he:t1.length=ts.length
 ·have e':=y5 k1 he
  subst e'
  have hsrc:=vi k1
  rw[lu,cY,List.nil_append]at hsrc
  have ht:dj t=[]:=by
   have:=congrArg List.length hsrc
   rw[List.length_append]at this
   exact List.length_eq_zero_iff.1 (by omega)
  obtain⟨t2,e2,m1,m2⟩:=rE (k:=46) (by decide) hs
  refine⟨false,t2,e2,.qt (cs1:=[]) k1 rfl ⟨ht,by have:=k2.2.1 rfl;rw[aT]at this;exact this⟩ (.seq m1 (.ret _ _ _)),?_,fun _=>?_⟩
  ·have:=m2.2;clear k2;simp only[Ss]at *;omega
  ·have:=m2.2;clear k2;simp only[Ss]at *;omega
 ·have hlt:t1.length<ts.length:=by have:=k2.1;omega
  have no:(∀b t1 e1,bP g ts [] b t1 e1→t1.length=ts.length)→False:=fun h=>he (h _ _ _ k1)
  suffices ∃b t' es,bP (.ite (eL [gO]) (.ret true) (.ite (eL [C9]) (.seq (.wrap 23 (.seq .bump (.seq (.call 10) (a6 dB)))) ft) (.seq (.wrap 26 (.ite (eL [dB]) .bump (if bl then ft else .put 108))) ft))) t1 [t] b t' es∧Ss 13 6 ts t' es by
   obtain⟨b,t',es,h1,h2⟩:=this
   exact⟨b,t',es,.qu k1 he h1,h2,fun h=>(no h).elim⟩
  cases c1:ev (eL [gO]) t1 with
  | true=>exact⟨_,_,_,.fu c1 (.ret _ _ _),by simp only[Sp,Ss]at *;omega⟩
  | false =>
   cases c2:ev (eL [C9]) t1 with
   | true =>
    obtain⟨t2,e2,m1,m2⟩:bp (.seq .bump (.seq (.call 10) (a6 dB))) t1 (Ss 17 4 t1):=by
     refine .seq (bg (dh c2)) fun t2 e2 q2=>.seq ((ih t2 (by have:=q2.1;omega)).ex 10 (by decide) (by decide)) fun t3 e3 q3=>(bj _ t3).mono fun t4 e4 q4=>?_
     have q3:=lB q3
     clear k2
     simp only[Sp,Ss,Bs,aw,aG,Nat.max_le]at *
     omega
    have f:=cG m1 [t]
    rw[List.append_nil]at f
    refine⟨_,t2,_,.d_ c1 (.fu c2 (.seq (.wrap [] (by decide) f) (.ret _ _ _))),?_⟩
    simp only[Sp,Ss,aw,aG,Nat.max_le,aT,aZ,be,bC,List.nil_append]at *
    omega
   | false =>
    obtain⟨t2,e2,m1,m2⟩:bp (.ite (eL [dB]) .bump (if bl then ft else .put 108)) t1 (Sp 1 23 1 t1):=by
     refine .ite (fun h=>(bg (dh h)).mono fun _ _ q=>?_) fun _=>?_
     ·simp only[Sp,Bs]at *;omega
     ·cases bl with
      | true=>exact .ft (by simp only[Sp,cg,ci];omega)
      | false=>exact .put (by simp only[Sp,aT,aZ,cg,be,bC,ci];omega)
    have f:=cG m1 [t]
    rw[List.append_nil]at f
    refine⟨_,t2,_,.d_ c1 (.d_ c2 (.seq (.wrap [] (by decide) f) (.ret _ _ _))),?_⟩
    simp only[Sp,Ss,aw,aG,Nat.max_le,aT,aZ,be,bC,List.nil_append]at *
    omega
theorem Jn {ts:List Tok}(ih:∀t1,t1.length<ts.length→mb t1)(hs:(pk ts).1≠100):bp YE ts (Ss 13 4 ts):=by
 refine .node (by decide) (.seq (bg hs) fun t1 e1 q1=>(bp.iW (c1:=3) (c2:=4) (d:=5) ((pat t1).mono fun _ _ q=>Q8 q.1) fun t2 h2=>.iW (c1:=1) (c2:=3) ((m_ (c:=3) (y:=15) (d:=4) (fun t _=>Oz t) (by decide)).z (by decide)) fun t3 h3=>.iW (c1:=1) (c2:=2) ((bj _ t3).z (by decide)) fun t4 h4 =>
  .iW (c1:=1) (c2:=1) (((ih t4 (by have:=q1.1;omega)).ex 10 (by decide) (by decide)).mono fun _ _ q=>Q8 (lB q)) fun t5 h5=>(bj _ t5).z (by decide)).mono fun t2 e2 q2=>?_)
 simp only[Sz,Ss,Bs,aw,aG,Nat.max_le,aT,aZ,be,bC]at *
 omega
theorem Di {ts:List Tok}(ih:∀t1,t1.length<ts.length→mb t1)(hs:(pk ts).1≠100):bp Jj ts (Ss 13 4 ts):=by
 refine .node (by decide) (.seq (bg hs) fun t1 e1 q1=>(xr ih q1.1).mono fun t2 e2 q2=>?_)
 simp only[Sp,Ss,Bs,aw,aG,Nat.max_le,aT,aZ,be,bC]at *
 omega
theorem A5 {ts:List Tok}(ih:∀t1,t1.length<ts.length→mb t1)(hs:(pk ts).1≠100):bp EW ts (Ss 13 4 ts):=by
 refine .node (by decide) (.seq (bg hs) fun t1 e1 q1=>.seq (Qa:=Sp 1 15 5 t1) (.ite (fun _=>.put ?_) fun _=>((ih t1 q1.1).ex 10 (by decide) (by decide)).mono fun t e q=>lB q) fun t2 e2 q2=>(bj _ t2).mono fun t3 e3 q3=>?_)
 ·simp only[Sp,aT,aZ,cg,be,bC,ci];omega
 ·simp only[Sp,Ss,Bs,aw,aG,Nat.max_le,aT,aZ,be,bC]at *
  omega
theorem rG {ts:List Tok}{g:G}(h:bp g ts (Ss 13 4 ts)):∃b t' es,bP (.seq g ft) ts [] b t' es∧YG ts t' es:=by
 obtain⟨t1,e1,h1,h2⟩:=h
 exact⟨false,t1,e1,.seq h1 (.ret _ _ _),by simp only[Ss]at *;omega,fun _=>h2.2.2⟩
theorem ng {ts:List Tok}(ih:∀t1,t1.length<ts.length→mb t1)(hs:(pk ts).1≠100):∃b t' es,bP (.call 2) ts [] b t' es∧YG ts t' es:=by
 suffices ∃b t' es,bP l_ ts [] b t' es∧YG ts t' es by
  obtain⟨b,t',es,h1,h2⟩:=this
  exact⟨b,t',es,.call h1,h2⟩
 cases c1:ev (eL [Tf]) ts with
 | true =>
  obtain⟨b,t',es,h1,h2⟩:=rG (Jn ih hs)
  exact⟨b,t',es,.fu c1 h1,h2⟩
 | false =>
  cases c2:ev (eL [C8]) ts with
  | true =>
   obtain⟨b,t',es,h1,h2⟩:=rG (Di ih hs)
   exact⟨b,t',es,.d_ c1 (.fu c2 h1),h2⟩
  | false =>
   cases c3:ev (eL [yR]) ts with
   | true =>
    obtain⟨b,t',es,h1,h2⟩:=rG (A5 ih hs)
    exact⟨b,t',es,.d_ c1 (.d_ c2 (.fu c3 h1)),h2⟩
   | false =>
    cases c4:ev Ti ts with
    | true =>
     obtain⟨b,t',es,h1,h2,_⟩:=A4 ih true hs (qv ih)
     refine⟨b,t',es,.d_ c1 (.d_ c2 (.d_ c3 (.fu c4 h1))),h2,fun hn=>?_⟩
     obtain⟨t1,e1,k1,k2⟩:=Dh ih 10 (by decide) (by decide)
     have:=hn _ _ _ k1
     have:=k2.2.2 c4
     omega
    | false =>
     obtain⟨b,t',es,h1,h2,h3⟩:=A4 ih false hs (Dh ih 10 (by decide) (by decide))
     exact⟨b,t',es,.d_ c1 (.d_ c2 (.d_ c3 (.d_ c4 h1))),h2,h3⟩
theorem Dj {ts:List Tok}(ih:∀t1,t1.length<ts.length→mb t1): bp (.call 1) ts (BlQ ts):=by
 cases hb:ev (eL [j5]) ts with
 | true=>exact(A3 ih hb).mono fun t e q=>⟨lz q.2 (by decide) (by decide),fun _=>q.2.2.2⟩
 | false =>
  have hx:bp (a6 j5) ts (fun t1 e1=>t1=ts∧dC e1=1∧oD e1=1):=.ite (fun h'=>by rw[hb]at h';cases h') fun h'=>.put ⟨rfl,by simp only[aT,aZ,cg],by simp only[be,bC,ci]⟩
  have st:∀t1,t1.length≤ts.length→(pk t1).1≠100→∃b t' es,bP (.call 2) t1 [] b t' es∧YG t1 t' es:=by
   intro t1 hl hs
   by_cases he:t1.length<ts.length
   ·exact(ih t1 he).st hs
   ·exact ng (fun t2 h2=>ih t2 (by omega)) hs
  by_cases hn:Tj ts
  ·refine .call (.node (by decide) (.seq hx fun t1 e1 q1=>.seq (Qa:=Sp 1 12 4 t1) (rF (d:=4) t1 (by decide) fun t2 h2 hs=>?_) fun t2 e2 q2=>(bj _ t2).mono fun t3 e3 q3=>?_))
   ·obtain⟨e,_⟩:=q1
    subst e
    obtain⟨b,t',es,k1,k2,k3⟩:=st t2 h2 hs
    exact⟨b,t',es,k1,k2,fun e=>by subst e;exact k3 hn⟩
   ·obtain⟨e,q1⟩:=q1
    subst e
    refine⟨?_,fun _=>?_⟩
    ·simp only[Sp,Ss,Bs,aw,aG,Nat.max_le,aT,aZ,be,bC]at *
     omega
    ·have:oD (e1++(e2++e3))≤4+2*(t1.length-t3.length):=by
      simp only[Sp,aG,Nat.max_le]at *
      omega
     rw[be,bC]
     omega
  ·refine .call (.node (by decide) (.seq hx fun t1 e1 q1=>.seq (Qa:=Sp 1 12 6 t1) (rF (d:=6) t1 (by decide) fun t2 h2 hs=>?_) fun t2 e2 q2=>(bj _ t2).mono fun t3 e3 q3=>?_))
   ·obtain⟨e,_⟩:=q1
    subst e
    obtain⟨b,t',es,k1,k2,k3⟩:=st t2 h2 hs
    exact⟨b,t',es,k1,k2,fun e=>by subst e;exact k2.2.2⟩
   ·obtain⟨e,q1⟩:=q1
    subst e
    refine⟨?_,fun h=>(hn h).elim⟩
    simp only[Sp,Ss,Bs,aw,aG,Nat.max_le,aT,aZ,be,bC]at *
    omega
theorem YH:∀(n:Nat)(ts:List Tok),ts.length<n→mb ts:=by
 intro n
 induction n with
 | zero=>intro ts h;omega
 | succ n ih =>
  intro ts h
  have H6:∀t1,t1.length<ts.length→mb t1:=fun t1 h1=>ih t1 (by omega)
  exact⟨Dh H6,E1 H6,ng H6,Dj H6⟩
theorem expr (ts:List Tok):bp (.call 10) ts (Ex ts):=(YH _ ts (Nat.lt_succ_self _)).ex 10 (by decide) (by decide)
theorem block (ts:List Tok):bp (.call 1) ts (Sp 4 9 7 ts):=((YH _ ts (Nat.lt_succ_self _)).bl).mono fun _ _ q=>q.1
end Pm
end

section
namespace Pm
theorem vr (ts:List Tok):bp j8 ts (Sp 3 12 4 ts):=by
 refine .ite (fun h=>.node (by decide) (.seq (bg (oY h)) fun t1 e1 q1=>(ma (c:=3) (y:=14) (d:=4) (fun t2 _=>.seq (path true t2) fun t3 e3 q3=>(ly (y:=20) (d:=4) t3 fun t4 _ hc=>.seq (bg (dh hc)) fun t5 e5 q5=>(path true t5).mono fun t6 e6 q6=>?_).mono fun t4 e4 q4=>?_) (by decide) (by decide)).mono fun t2 e2 q2=>?_)) fun _=>.ft (by simp only[Sp,cg,ci];omega)
 ·simp only[Sp,Ss,Bs,aw,aG,Nat.max_le]at *
  omega
 ·clear q1
  simp only[Sp,aw,aG,Nat.max_le]at *
  omega
 ·simp only[Sp,Bs,aw,aG,Nat.max_le,aT,aZ,be,bC]at *
  omega
theorem jl (ts:List Tok):bp gI ts (Sp 1 10 4 ts):=by
 refine .node (by decide) ((ma (c:=1) (y:=10) (d:=4) (fun t1 _=>ez (by decide) t1 fun t2 _ _=>vr t2) (by decide) (by decide)).mono fun t2 e2 q2=>?_)
 simp only[Sp,aw,aG,Nat.max_le,aT,aZ,be,bC]at *
 omega
theorem qw (w:Bytes)(ts:List Tok):bp (oV w (.call 0)) ts (Sp 1 16 2 ts):=m_ (c:=3) (y:=15) (d:=4) (fun t _=>Oz t) (by decide)
theorem oE (nb:Bool)(ts:List Tok):bp (gJ nb) ts (Sz 10 7 ts):=by
 refine .iW (c1:=1) (c2:=9) ((dL ts).z (by decide)) fun t1 _=>.iW (c1:=1) (c2:=8) ((jl t1).z (by decide)) fun t2 _=>.iW (c1:=1) (c2:=7) ((bj _ t2).z (by decide)) fun t3 _ =>
  .iW (c1:=2) (c2:=5) ((dy _ t3).z (by decide)) fun t4 _=>.iW (c1:=1) (c2:=4) ((qw _ t4).z (by decide)) fun t5 _=>?_
 cases nb with
 | true=>exact(block t5).z (by decide)
 | false =>
  refine .ite (fun h=>.seq (bg (dh h)) fun t6 e6 q6=>.put ?_) fun _=>(block t5).z (by decide)
  simp only[Sz,Bs,aw,aG,Nat.max_le,aT,aZ,cg,be,bC,ci]at *
  omega
theorem xt (st:Bool)(ts:List Tok):bp (xl st) ts (Sz 4 7 ts):=by
 refine .iW (c1:=1) (c2:=3) ((dL ts).z (by decide)) fun t1 _=>.iW (c1:=1) (c2:=2) ((jl t1).z (by decide)) fun t2 _=>.iW (c1:=1) (c2:=1) ((bj _ t2).z (by decide)) fun t3 _ =>
  (ez (d:=5) (by decide) t3 fun t4 _ _=>.ite (fun h=>?_) fun _=>.ft (by simp only[Sp,cg,ci];omega)).z (by decide)
 cases st with
 | true =>
  refine .node (by decide) (.seq (bg (oY h)) fun t5 e5 q5=>.seq (bj _ t5) fun t6 e6 q6=>(Oz t6).mono fun t7 e7 q7=>?_)
  simp only[Sp,Bs,aw,aG,Nat.max_le,aT,aZ,be,bC]at *
  omega
 | false =>
  refine .node (by decide) (.seq (bg (oY h)) fun t5 e5 q5=>(ma (c:=1) (y:=10) (d:=4) (fun t6 _=>ez (by decide) t6 fun t7 _ _=>(Oz t7).mono fun _ _ q=>A0 q (by decide) (by decide) (by decide)) (by decide) (by decide)).mono fun t6 e6 q6=>?_)
  simp only[Sp,Bs,aw,aG,Nat.max_le,aT,aZ,be,bC]at *
  omega
theorem qy (ts:List Tok):bp mX ts (Sz 2 6 ts):=by
 refine .iW (c1:=1) (c2:=1) ((bj _ ts).z (by decide)) fun t1 _=>.iW (c1:=0) (c2:=1) ((ly (y:=0) (d:=6) t1 fun t2 _ hc=>.ite (fun h=>?_) fun _=>?_).z (by decide)) fun t2 _=>(bj _ t2).z (by decide)
 ·refine .node (by decide) (.seq (bg (dh hc)) fun t3 e3 q3=>.seq (oE false t3) fun t4 e4 q4=>.ft ?_)
  simp only[Sz,Ss,Bs,aw,aG,Nat.max_le,aT,aZ,be,bC,cg,ci]at *
  omega
 ·refine .node (by decide) (.seq (bg (dh hc)) fun t3 e3 q3=>.seq (dL t3) fun t4 e4 q4=>.seq (qw _ t4) fun t5 e5 q5=>(bj _ t5).mono fun t6 e6 q6=>?_)
  simp only[Sp,Ss,Bs,aw,aG,Nat.max_le,aT,aZ,be,bC]at *
  omega
theorem GA (ts:List Tok):bp AU ts (Sz 7 7 ts):=by
 obtain⟨t1,e1,h1,q1⟩:=jl ts
 obtain⟨t2,e2,h2,⟨x,rfl⟩,q2⟩:=wa _ t1 (Nat.le_refl _)
 have h2:=cG h2 e1
 rw[List.append_nil]at h2
 have fin:∀t3 e3,bP (.ite (eL [Jf]) (.seq .bump (.call 0)) .gZ) t2 (e1++[x]) false t3 e3→Sz 5 6 ts t3 e3→bp AU ts (Sz 7 7 ts):=by
  intro t3 e3 h3 q3
  obtain⟨t4,e4,h4,q4⟩:=qy t3
  have h4:=cG h4 e3
  rw[List.append_nil]at h4
  refine⟨t4,_,.seq h1 (.seq h2 (.seq h3 h4)),?_⟩
  simp only[Sz,aw,aG,Nat.max_le]at *
  omega
 cases hc:ev (eL [Jf]) t2 with
 | true =>
  obtain⟨t3,e3,h3,q3⟩:bp (.seq .bump (.call 0)) t2 (Sz 0 4 t2):=.seq (bg (dh hc)) fun t e q=>(Oz t).mono fun t' e' q'=>by
   simp only[Sp,Sz,Bs,aw,aG,Nat.max_le]at *
   omega
  have h3:=cG h3 (e1++[x])
  rw[List.append_nil]at h3
  refine fin t3 _ (.fu hc h3) ?_
  simp only[Sp,Sz,aw,aG,Nat.max_le]at *
  omega
 | false =>
  refine fin t2 _ (.d_ hc (.gZ t2 e1 x)) ?_
  have a:dC [az.mk 0 [] [],x]=1+dC [x]:=by rw[dC,aZ,cg]
  have b:oD [az.mk 0 [] [],x]=max 1 (oD [x]):=by rw[oD,bC,ci]
  simp only[Sp,Sz,aw,aG,a,b,Nat.max_le]at *
  omega
theorem Jo (ts:List Tok):bp Ow ts (Sz 5 6 ts):=by
 refine .iW (c1:=4) (c2:=1) ?_ fun t1 _=>(bj _ t1).z (by decide)
 obtain⟨t1,e1,h1,q1⟩:bp (.node 18 c_) ts (Sz 2 2 ts):=.Q9 (by decide) ((dL ts).z (by decide))
 obtain⟨b,t2,e2,h2,q2⟩:=oZ (c:=eL [df]) (g:=.ite (fun _ t _=>eN [mW] t) (.ret true) (.seq .bump (.seq (.node 18 c_) ft))) (fun t e=>Sz 2 2 ts t e) (fun t e hI hc=>by
  cases hs:ev (fun _ t _=>eN [mW] t) t with
  | true=>exact⟨true,t,e,.fu hs (.ret _ _ _),nofun,hI⟩
  | false =>
   obtain⟨t3,e3,h3,q3,q3'⟩:bp (.seq .bump (.seq (.node 18 c_) ft)) t (fun t3 e3=>t3.length<t.length∧Sz 0 2 t t3 e3):=.seq (bg (dh hc)) fun t3 e3 q3=>.seq (bp.Q9 (c:=1) (d:=1) (by decide) ((dL t3).z (by decide))) fun t4 e4 q4=>.ft (by
    simp only[Sz,Bs,aw,aG,cg,ci,Nat.max_le]at *
    omega)
   have h3:=cG h3 e
   rw[List.append_nil]at h3
   refine⟨false,t3,_,.d_ hs h3,fun _=>q3,?_⟩
   simp only[Sz,aw,aG,Nat.max_le]at *
   omega) t1.length t1 e1 (Nat.le_refl _) q1
 have hn:=bP.node (k:=17) [] (by decide) (.seq h1 h2)
 obtain⟨t3,e3,h3,q3⟩:bp (if b then .seq .bump .bump else sw [wAs] c_) t2 (Sz 0 1 t2):=by
  cases b with
  | true =>
   refine .seq (lx t2) fun t3 e3 q3=>(lx t3).mono fun t4 e4 q4=>?_
   simp only[Sz,Bp,aw,aG,Nat.max_le]at *
   omega
  | false=>exact(ma (c:=1) (y:=23) (d:=1) (fun t _=>dL t) (by decide) (by decide)).z (by decide)
 have h3:=cG h3 [.mk 17 [] e2]
 rw[List.append_nil]at h3
 have q:Sz 4 6 ts t3 ([.mk 17 [] e2]++e3):=by
  simp only[Sz,aw,aG,Nat.max_le,aT,aZ,be,bC]at *
  omega
 cases b with
 | true=>exact⟨t3,_,.oW hn h3,q⟩
 | false=>exact⟨t3,_,.oX hn h3,q⟩
theorem Jp (ts:List Tok):bp (.call 10) ts (Sz 1 6 ts):=(expr ts).mono fun _ _ q=>by have:=q.2.1;simp only[Sp,Sz]at *;omega
theorem Dk (ts:List Tok):bp Da ts (Sz 8 7 ts) :=
 (bp.iW (c1:=1) (c2:=7) (d:=6) ((dL ts).z (by decide)) fun t1 _=>.iW (c1:=1) (c2:=6) ((bj _ t1).z (by decide)) fun t2 _=>.iW (c1:=3) (c2:=3) ((Oz t2).z (by decide)) fun t3 _ =>
  .iW (c1:=1) (c2:=2) ((bj _ t3).z (by decide)) fun t4 _=>.iW (c1:=1) (c2:=1) (Jp t4) fun t5 _=>(bj _ t5).z (by decide)).le (by decide) (by decide)
theorem Dl (ts:List Tok):bp Db ts (Sz 7 7 ts) :=
 (bp.iW (c1:=1) (c2:=6) (d:=6) ((dL ts).z (by decide)) fun t1 _=>.iW (c1:=1) (c2:=5) ((bj _ t1).z (by decide)) fun t2 _=>.iW (c1:=2) (c2:=3) ((dy _ t2).z (by decide)) fun t3 _ =>
  .iW (c1:=1) (c2:=2) ((bj _ t3).z (by decide)) fun t4 _=>.iW (c1:=1) (c2:=1) (Jp t4) fun t5 _=>(bj _ t5).z (by decide)).le (by decide) (by decide)
theorem rI (k:Nat)(ts:List Tok):bp (gK k) ts (Sz 20 7 ts):=by
 unfold gK
 split
 ·exact(Jo ts).le (by decide) (by decide)
 ·exact(oE true ts).le (by decide) (by decide)
 ·exact(xt true ts).le (by decide) (by decide)
 ·exact(xt false ts).le (by decide) (by decide)
 ·exact(bp.iW (c1:=1) (c2:=2) (d:=6) ((dL ts).z (by decide)) fun t1 _=>(qy t1).le (by decide) (by decide)).le (by decide) (by decide)
 ·exact(GA ts).le (by decide) (by decide)
 ·exact(Dk ts).le (by decide) (by decide)
 ·exact(Dl ts).le (by decide) (by decide)
theorem fb {k:Nat}(hk:k<100){ts:List Tok}(hs:(pk ts).1≠100):bp (f_ k) ts fun t' es=>(∃t,es=[t])∧Ss 0 6 ts t' es:=by
 suffices h:bp (.seq (sw [lY] ft) (.seq .bump (gK k))) ts (Ss 1 5 ts) from .node hk (h.mono fun t e q=>⟨⟨_,rfl⟩,by simp only[Ss,aT,aZ,be,bC]at *;omega⟩)
 cases hp:ev (eL [lY]) ts with
 | true =>
  refine .seq (Qa:=Bs ts) (.ite (fun _=>.seq (bg hs) fun t e q=>.ft (by rw[List.append_nil];exact q)) fun h=>by rw[hp]at h;cases h) fun t1 e1 q1=>.seq (lx t1) fun t2 e2 q2=>(rI k t2).mono fun t3 e3 q3=>?_
  simp only[Ss,Sz,Bs,Bp,aw,aG,Nat.max_le]at *
  omega
 | false =>
  refine .seq (Qa:=fun t1 e1=>t1=ts∧e1=[]) (.ite (fun h=>by rw[hp]at h;cases h) fun _=>.ft ⟨rfl,rfl⟩) fun t1 e1 q1=>?_
  obtain⟨rfl,rfl⟩:=q1
  refine .seq (bg hs) fun t2 e2 q2=>(rI k t2).mono fun t3 e3 q3=>?_
  rw[List.nil_append]
  simp only[Ss,Sz,Bs,Bp,aw,aG,Nat.max_le]at *
  omega
theorem GB {ts:List Tok}(hs:(pk ts).1≠100):bp xm ts fun t' es=>(∃t,es=[t])∧Ss 0 6 ts t' es:=by
 refine .node (by decide) (.seq (bg hs) fun t1 e1 q1=>(ly (y:=0) (d:=1) t1 fun t2 _ hc=>(bg (vp hc (by intro t u v e;simp[e]))).mono fun t3 e3 q3=>?_).mono fun t2 e2 q2=>⟨⟨_,rfl⟩,?_⟩)
 ·simp only[Ss,Bs]at *;omega
 ·simp only[Sp,Ss,Bs,aw,aG,Nat.max_le,aT,aZ,be,bC]at *
  omega
theorem xu {ts:List Tok}(hs:(pk ts).1≠100):bp my ts fun t' es=>(∃t,es=[t])∧Ss 0 6 ts t' es :=
 .ite (fun _=>fb (by decide) hs) fun _=>.ite (fun _=>fb (by decide) hs) fun _=>.ite (fun _=>fb (by decide) hs) fun _=>.ite (fun _=>fb (by decide) hs) fun _ =>
 .ite (fun _=>fb (by decide) hs) fun _=>.ite (fun _=>fb (by decide) hs) fun _=>.ite (fun _=>fb (by decide) hs) fun _=>.ite (fun _=>fb (by decide) hs) fun _=>GB hs
theorem GC (ts:List Tok):∃t' es,bP xn ts [] false t' es∧(pk t').1=100∧Sp 0 0 6 ts t' es:=by
 obtain⟨t',e',h1,h2,h3⟩:=xp (c:=fun t _ _=>!(t.1==100)) (g:=.seq my ft) (fun t e=>Sp 0 0 6 ts t e) (fun t e q hc=>by
  obtain⟨t1,e1,k1,k2⟩:=xu (vp hc (by intro t u v e;simp[e]))
  have k2:=k2.2
  have:=cG k1 e
  rw[List.append_nil]at this
  refine⟨t1,e++e1,.seq this (.ret _ _ _),k2.1,?_⟩
  simp only[Sp,Ss,aw,aG,Nat.max_le]at *
  omega) ts.length ts [] (Nat.le_refl _) (by simp only[Sp,cg,ci];omega)
 refine⟨t',e',h1,?_,h2⟩
 simpa[ev] using h3
end Pm
end
