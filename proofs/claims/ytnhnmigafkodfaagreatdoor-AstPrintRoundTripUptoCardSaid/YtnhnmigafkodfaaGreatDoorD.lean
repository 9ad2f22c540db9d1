/- ParM, ParN, ParO, ParO2 -/

set_option linter.all false

section
namespace Pm
abbrev Bytes:=List UInt8
abbrev Tok:=Nat×Bytes
inductive Tree where
 | mk (kind:Nat) (text:Bytes) (cs:List Tree)
 deriving Inhabited
abbrev wUse:Bytes:=[117,115,101]
abbrev wPub:Bytes:=[112,117,98]
abbrev wFn:Bytes:=[102,110]
abbrev wStruct:Bytes:=[115,116,114,117,99,116]
abbrev wEnum:Bytes:=[101,110,117,109]
abbrev wTrait:Bytes:=[116,114,97,105,116]
abbrev wImpl:Bytes:=[105,109,112,108]
abbrev wConst:Bytes:=[99,111,110,115,116]
abbrev wMacro:Bytes:=[109,97,99,114,111]
abbrev wAs:Bytes:=[97,115]
abbrev wFor:Bytes:=[102,111,114]
abbrev wType:Bytes:=[116,121,112,101]
abbrev wMut:Bytes:=[109,117,116]
abbrev wLet:Bytes:=[108,101,116]
abbrev wWhile:Bytes:=[119,104,105,108,101]
abbrev wReturn:Bytes:=[114,101,116,117,114,110]
abbrev wIf:Bytes:=[105,102]
abbrev wMatch:Bytes:=[109,97,116,99,104]
abbrev wElse:Bytes:=[101,108,115,101]
abbrev wNew:Bytes:=[110,101,119]
abbrev wTrue:Bytes:=[116,114,117,101]
abbrev wFalse:Bytes:=[102,97,108,115,101]
abbrev wSemi:Bytes:=[59]
abbrev wColon:Bytes:=[58]
abbrev wEq:Bytes:=[61]
abbrev wLPar:Bytes:=[40]
abbrev wRPar:Bytes:=[41]
abbrev wLBr:Bytes:=[123]
abbrev wRBr:Bytes:=[125]
abbrev wLt:Bytes:=[60]
abbrev wGt:Bytes:=[62]
abbrev wComma:Bytes:=[44]
abbrev wDot:Bytes:=[46]
abbrev wAmp:Bytes:=[38]
abbrev wStar:Bytes:=[42]
abbrev wPlus:Bytes:=[43]
abbrev wMinus:Bytes:=[45]
abbrev wSlash:Bytes:=[47]
abbrev wBang:Bytes:=[33]
abbrev wBar:Bytes:=[124]
abbrev wBarBar:Bytes:=[124,124]
abbrev wAmpAmp:Bytes:=[38,38]
abbrev wEqEq:Bytes:=[61,61]
abbrev wArrow:Bytes:=[45,62]
abbrev wFatArrow:Bytes:=[61,62]
abbrev wColCol:Bytes:=[58,58]
abbrev wUnder:Bytes:=[95]
def triv (t:Tok):Bool:=t.1==101 || t.1==102
def skp (ts:List Tok):List Tok:=ts.dropWhile triv
def hd (ts:List Tok):Tok:=match ts with
 | []=>(100,[])
 | t::_=>t
def pk (ts:List Tok):Tok:=hd (skp ts)
def la (ts:List Tok):List Tok:=(skp ts).drop 1
def leaf (t:Tok):Tree:=.mk t.1 t.2 []
def atT (ws:List Bytes)(t:Tok):Bool:=(t.1==104 || t.1==107)&&ws.contains t.2
abbrev Cnd:=Tok→Tok→Tok→Bool
def ev (c:Cnd)(ts:List Tok):Bool:=c (pk ts) (pk (la ts)) (pk (la (la ts)))
mutual
def srcT:Tree→Bytes
 | .mk _ t cs=>t++srcL cs
def srcL:List Tree→Bytes
 | []=>[]
 | t::ts=>srcT t++srcL ts
end
def srcK:List Tok→Bytes
 | []=>[]
 | t::ts=>t.2++srcK ts
mutual
def szT:Tree→Nat
 | .mk _ _ cs=>1+szL cs
def szL:List Tree→Nat
 | []=>0
 | t::ts=>szT t+szL ts
end
mutual
def dpT:Tree→Nat
 | .mk _ _ cs=>1+dpL cs
def dpL:List Tree→Nat
 | []=>0
 | t::ts=>max (dpT t) (dpL ts)
end
theorem szL_nil:szL []=0:=rfl
theorem dpL_nil:dpL []=0:=rfl
theorem szT_mk (k:Nat)(x:Bytes)(cs:List Tree):szT (.mk k x cs)=1+szL cs:=by rw[szT]
theorem dpT_mk (k:Nat)(x:Bytes)(cs:List Tree):dpT (.mk k x cs)=1+dpL cs:=by rw[dpT]
theorem szL_one (t:Tree):szL [t]=szT t:=by rw[szL,szL];rfl
theorem dpL_one (t:Tree):dpL [t]=dpT t:=by rw[dpL,dpL];exact Nat.max_eq_left (Nat.zero_le _)
theorem szL_append (a b:List Tree):szL (a++b)=szL a+szL b:=by
 induction a with
 | nil=>rw[List.nil_append,szL_nil,Nat.zero_add]
 | cons x a ih=>rw[List.cons_append,szL,szL,ih,Nat.add_assoc]
theorem dpL_append (a b:List Tree):dpL (a++b)=max (dpL a) (dpL b):=by
 induction a with
 | nil=>rw[List.nil_append,dpL_nil,Nat.zero_max]
 | cons x a ih=>rw[List.cons_append,dpL,dpL,ih,Nat.max_assoc]
theorem szL_leaf (ts:List Tok):szL (ts.map leaf)=ts.length:=by
 induction ts with
 | nil=>rfl
 | cons t ts ih=>rw[List.map_cons,szL,ih,leaf,szT_mk,szL_nil,List.length_cons];omega
theorem dpL_leaf (ts:List Tok):dpL (ts.map leaf)≤1:=by
 induction ts with
 | nil=>exact Nat.zero_le _
 | cons t ts ih=>rw[List.map_cons,dpL,leaf,dpT_mk,dpL_nil];exact Nat.max_le.2 ⟨by omega,ih⟩
inductive G where
 | ret (b:Bool)
 | bump
 | put (k:Nat)
 | seq (a b:G)
 | node (k:Nat) (g:G)
 | wrap (k:Nat) (g:G)
 | ite (c:Cnd) (a b:G)
 | bra (g a b:G)
 | prog (g a b:G)
 | stm (g b:G)
 | whil (c:Cnd) (g:G)
 | insN
 | call (f:Nat)
def rAt (ws:List Bytes):Cnd:=fun t _ _=>atT ws t
def rEof:Cnd:=fun t _ _=>t.1==100
def rId:Cnd:=fun t _ _=>t.1==103
def rKind (k:Nat):Cnd:=fun t _ _=>t.1==k
def itemKws:List Bytes:=[wUse,wPub,wFn,wStruct,wEnum,wTrait,wImpl,wConst,wMacro]
def kindKws:List Bytes:=[wUse,wFn,wStruct,wEnum,wTrait,wImpl,wConst,wMacro]
def isItem (t:Tok):Bool:=atT itemKws t&&!atT [wFn] t
def kindOf (w:Bytes):Nat:=match kindKws.idxOf? w with
 | some i=>2+i
 | none=>0
abbrev nop:G:=.ret false
def gUnexp:G:=.seq (.node 46 .bump) nop
def gExpect (w:Bytes):G:=.ite (rAt [w]) .bump (.put 108)
def gIdent:G:=.ite rId .bump (.put 108)
def gOpt (w:Bytes)(g:G):G:=.ite (rAt [w]) (.seq .bump g) (.put 0)
def gIf (ws:List Bytes)(g:G):G:=.ite (rAt ws) (.seq .bump g) nop
def gMore (cl:Bytes):Cnd:=fun t _ _=>!atT [cl] t&&!(t.1==100)&&!isItem t
def gList (cl:Bytes)(el:G):G:=.seq (.whil (gMore cl) (.prog el (.node 46 .bump) (.ite (rAt [cl]) nop (gExpect wComma)))) (gExpect cl)
def gSeg (ty:Bool):G:=.node 18 (.seq gIdent (if ty then gIf [wLt] (gList wGt (.call 0)) else nop))
def gPath (ty:Bool):G:=.node 17 (.seq (gSeg ty) (.whil (rAt [wColCol]) (.seq .bump (gSeg ty))))
def gType:G:=.ite (rAt [wAmp]) (.node 19 (.seq .bump (.seq (gIf [wMut] nop) (.call 0)))) (.ite (rAt [wFn]) (.node 20 (.seq .bump (.seq (gExpect wLPar) (.seq (gList wRPar (.call 0)) (gOpt wArrow (.call 0)))))) (.ite rId (gPath true) (.put 46)))
def gTypeParam:G:=.ite rId (.node 11 (.seq .bump (gIf [wColon] (.seq (gPath true) (.whil (rAt [wPlus]) (.seq .bump (gPath true))))))) nop
def gTypeParams:G:=.node 10 (gIf [wLt] (gList wGt gTypeParam))
def gParam:G:=.ite rId (.node 13 (.seq .bump (gOpt wColon (.call 0)))) nop
def gParams (cl:Bytes):G:=.node 12 (gList cl gParam)
def gFunction (nb:Bool):G:=.seq gIdent (.seq gTypeParams (.seq (gExpect wLPar) (.seq (gParams wRPar) (.seq (gOpt wArrow (.call 0)) ((if nb then .call 1 else .ite (rAt [wSemi]) (.seq .bump (.put 0)) (.call 1)))))))
def gField:G:=.node 14 (.seq .bump (.seq (gExpect wColon) (.call 0)))
def gVariant:G:=.node 15 (.seq .bump (gIf [wLPar] (gList wRPar (.call 0))))
def gData (st:Bool):G:=.seq gIdent (.seq gTypeParams (.seq (gExpect wLBr) (gList wRBr (.ite rId (if st then gField else gVariant) nop))))
def gAssoc:G:=.node 16 (.seq .bump (.seq gIdent (.seq (gOpt wEq (.call 0)) (gExpect wSemi))))
def gMembers:G:=.seq (gExpect wLBr) (.seq (.whil (rAt [wType,wFn]) (.ite (rAt [wFn]) (.node 3 (.seq .bump (.seq (gFunction false) nop))) gAssoc)) (gExpect wRBr))
def gImpl:G:=.seq gTypeParams (.seq (.call 0) (.seq (.ite (rAt [wFor]) (.seq .bump (.call 0)) .insN) gMembers))
def gUse:G:=.seq (.bra (.node 17 (.seq (.node 18 gIdent) (.whil (rAt [wColCol]) (.ite (fun _ t _=>atT [wStar] t) (.ret true) (.seq .bump (.seq (.node 18 gIdent) nop)))))) (.seq .bump .bump) (gIf [wAs] gIdent)) (gExpect wSemi)
def gConst:G:=.seq gIdent (.seq (gExpect wColon) (.seq (.call 0) (.seq (gExpect wEq) (.seq (.call 10) (gExpect wSemi)))))
def gMacro:G:=.seq gIdent (.seq (gExpect wLPar) (.seq (gParams wRPar) (.seq (gExpect wEq) (.seq (.call 10) (gExpect wSemi)))))
def gBody (k:Nat):G:=match k with
 | 2=>gUse
 | 3=>gFunction true
 | 4=>gData true
 | 5=>gData false
 | 6=>.seq gIdent gMembers
 | 7=>gImpl
 | 8=>gConst
 | _=>gMacro
def gItemAs (k:Nat):G:=.node k (.seq (gIf [wPub] nop) (.seq .bump (gBody k)))
def gSkip:G:=.node 46 (.seq .bump (.whil (fun t _ _=>!(t.1==100)&&!atT itemKws t) .bump))
def itemIs (k:Nat):Cnd:=fun t u _=>let x:=if atT [wPub] t then u else t;kindOf x.2==k&&x.1==104
def gItem:G:=.ite (itemIs 2) (gItemAs 2) (.ite (itemIs 3) (gItemAs 3) (.ite (itemIs 4) (gItemAs 4) (.ite (itemIs 5) (gItemAs 5) (.ite (itemIs 6) (gItemAs 6)
 (.ite (itemIs 7) (gItemAs 7) (.ite (itemIs 8) (gItemAs 8) (.ite (itemIs 9) (gItemAs 9) gSkip)))))))
def gFile:G:=.whil (fun t _ _=>!(t.1==100)) (.seq gItem nop)
def gBlock:G:=.node 21 (.seq (gExpect wLBr) (.seq (.bra (.whil (fun t _ _=>!atT [wRBr] t&&!(t.1==100)&&!atT itemKws t) (.call 2)) nop (.put 0)) (gExpect wRBr)))
def gLet:G:=.node 22 (.seq .bump (.seq (.call 5) (.seq (gOpt wColon (.call 0)) (.seq (gExpect wEq) (.seq (.call 10) (gExpect wSemi))))))
def gWhile:G:=.node 24 (.seq .bump (.seq (.call 10) (.call 1)))
def gReturn:G:=.node 25 (.seq .bump (.seq (.ite (rAt [wSemi]) (.put 0) (.call 10)) (gExpect wSemi)))
def gStm (bl:Bool)(g:G):G:=.stm g (.ite (rAt [wRBr]) (.ret true) (.ite (rAt [wEq]) (.seq (.wrap 23 (.seq .bump (.seq (.call 10) (gExpect wSemi)))) nop) (.seq (.wrap 26 (.ite (rAt [wSemi]) .bump (if bl then nop else .put 108))) nop)))
def gStatement:G:=.ite (rAt [wLet]) (.seq gLet nop) (.ite (rAt [wWhile]) (.seq gWhile nop) (.ite (rAt [wReturn]) (.seq gReturn nop) (.ite (rAt [wIf,wMatch,wLBr]) (gStm true (.call 4)) (gStm false (.call 10)))))
def binOps (l:Nat):List Bytes:=match l with
 | 0=>[wBarBar]
 | 1=>[wAmpAmp]
 | 2=>[wEqEq,wLt]
 | 3=>[wPlus,wMinus]
 | _=>[wStar,wSlash]
def gBinary (l:Nat):G:=.seq (.call (11+l)) (.seq (.whil (rAt (binOps l)) (.seq (.wrap 39 (.seq .bump (.call (11+l)))) (.ret (l==2)))) nop)
def gArgs:G:=.seq .bump (gList wRPar (.call 10))
def gPostfix:G:=.whil (rAt [wLPar,wDot]) (.ite (rAt [wLPar]) (.wrap 30 gArgs) (.ite (fun _ t u=>t.1==103&&atT [wLPar] u) (.wrap 31 (.seq .bump (.seq .bump gArgs))) (.wrap 32 (.seq .bump gIdent))))
def gUnary:G:=.ite (rAt [wMinus,wBang,wStar]) (.node 40 (.seq .bump (.call 15))) (.ite (rAt [wAmp]) (.node 41 (.seq .bump (.seq (gIf [wMut] nop) (.call 15)))) (.seq (.call 4) gPostfix))
def gArm:G:=.ite (fun t _ _=>t.1==103 || t.1==105 || atT [wTrue,wFalse,wMut] t) (.node 36 (.seq (.call 5) (.seq (gExpect wFatArrow) (.call 10)))) nop
def gMatch:G:=.node 35 (.seq .bump (.seq (.call 10) (.seq (gExpect wLBr) (gList wRBr gArm))))
def gInit:G:=.ite rId (.node 34 (.seq .bump (.seq (gExpect wColon) (.call 10)))) nop
def gLit:G:=.node 33 (.seq .bump (.seq (gPath false) (.seq (gExpect wLBr) (gList wRBr gInit))))
def gLambda:G:=.node 38 (.seq (.ite (rAt [wBarBar]) (.seq .bump (.node 12 nop)) (.seq .bump (gParams wBar))) (.call 10))
def gParen:G:=.node 60 (.seq .bump (.seq (.call 10) (gExpect wRPar)))
def gPrimary:G:=.ite (rKind 105) (.node 27 .bump) (.ite (rKind 106) (.node 29 .bump) (.ite (rAt [wTrue,wFalse]) (.node 28 .bump) (.ite rId (.seq (gPath false) (.ite (fun t u _=>atT [wBang] t&&atT [wLPar] u) (.wrap 42 (.seq .bump gArgs)) nop)) (.ite (rAt [wLPar]) gParen (.ite (rAt [wLBr]) (.call 1) (.ite (rAt [wIf]) (.call 6) (.ite (rAt [wMatch]) gMatch (.ite (rAt [wNew]) gLit (.ite (rAt [wBar,wBarBar]) gLambda (.put 46))))))))))
def gIfExpr:G:=.node 37 (.seq .bump (.seq (.call 10) (.seq (.call 1) (gOpt wElse (.ite (rAt [wIf]) (.call 6) (.call 1))))))
def gPattern:G:=.ite (rAt [wMut]) (.node 44 (.seq .bump gIdent)) (.ite (fun t _ _=>t.1==103&&t.2==wUnder) (.node 43 .bump) (.ite (fun t u _=>t.1==103&&!atT [wLPar,wColCol] u) (.node 44 .bump) (.ite rId (.node 45 (.seq (gPath false) (gIf [wLPar] (gList wRPar (.call 5))))) (.ite (rKind 105) (.node 27 .bump) (.ite (rAt [wTrue,wFalse]) (.node 28 .bump) (.put 46))))))
def defs (f:Nat):G:=match f with
 | 0=>gType
 | 1=>gBlock
 | 2=>gStatement
 | 4=>gPrimary
 | 5=>gPattern
 | 6=>gIfExpr
 | 10=>gBinary 0
 | 11=>gBinary 1
 | 12=>gBinary 2
 | 13=>gBinary 3
 | 14=>gBinary 4
 | _=>gUnary
def run:Nat→G→List Tok→List Tree→Option (Bool×List Tok×List Tree)
 | 0,_,_,_=>none
 | n+1,g,ts,cs=>match g with
  | .ret b=>some (b,ts,cs)
  | .bump=>some (false,la ts,cs++((ts.takeWhile triv).map leaf++((skp ts).take 1).map leaf))
  | .put k=>some (false,ts,cs++[.mk k [] []])
  | .seq a b=>(run n a ts cs).bind fun r=>run n b r.2.1 r.2.2
  | .node k g=>(run n g ts []).bind fun r=>if k<100 then some (r.1,r.2.1,cs++[.mk k [] r.2.2]) else none
  | .wrap k g=>cs.getLast?.bind fun t=>(run n g ts [t]).bind fun r=>if k<100 then some (r.1,r.2.1,cs.dropLast++[.mk k [] r.2.2]) else none
  | .ite c a b=>if ev c ts=true then run n a ts cs else run n b ts cs
  | .bra g a b=>(run n g ts cs).bind fun r=>if r.1=true then run n a r.2.1 r.2.2 else run n b r.2.1 r.2.2
  | .prog g a b=>(run n g ts cs).bind fun r=>if r.2.1.length=ts.length then run n a r.2.1 r.2.2 else run n b r.2.1 r.2.2
  | .stm g b=>(run n g ts cs).bind fun r=>if r.2.1.length=ts.length then(r.2.2.getLast?.bind fun t=>if srcT t=[]∧szT t≤1 then run n gUnexp r.2.1 r.2.2.dropLast else none) else run n b r.2.1 r.2.2
  | .whil c g=>if ev c ts=true then(run n g ts cs).bind fun r=>if r.1=true then some (true,r.2.1,r.2.2) else run n (.whil c g) r.2.1 r.2.2 else some (false,ts,cs)
  | .insN=>cs.getLast?.bind fun t=>some (false,ts,cs.dropLast++[.mk 0 [] [],t])
  | .call f=>run n (defs f) ts cs
section eqs
variable (n k:Nat)(a b g:G)(c:Cnd)(f:Nat)(ts:List Tok)(cs:List Tree)
theorem run_zero:run 0 g ts cs=none:=rfl
theorem run_ret (r:Bool):run (n+1) (.ret r) ts cs=some (r,ts,cs):=rfl
theorem run_bump:run (n+1) .bump ts cs=some (false,la ts,cs++((ts.takeWhile triv).map leaf++((skp ts).take 1).map leaf)):=rfl
theorem run_put:run (n+1) (.put k) ts cs=some (false,ts,cs++[.mk k [] []]):=rfl
theorem run_seq:run (n+1) (.seq a b) ts cs=(run n a ts cs).bind fun r=>run n b r.2.1 r.2.2:=rfl
theorem run_node:run (n+1) (.node k g) ts cs=(run n g ts []).bind fun r=>if k<100 then some (r.1,r.2.1,cs++[.mk k [] r.2.2]) else none:=rfl
theorem run_wrap:run (n+1) (.wrap k g) ts cs=cs.getLast?.bind fun t=>(run n g ts [t]).bind fun r=>if k<100 then some (r.1,r.2.1,cs.dropLast++[.mk k [] r.2.2]) else none:=rfl
theorem run_ite:run (n+1) (.ite c a b) ts cs=if ev c ts=true then run n a ts cs else run n b ts cs:=rfl
theorem run_bra:run (n+1) (.bra g a b) ts cs=(run n g ts cs).bind fun r=>if r.1=true then run n a r.2.1 r.2.2 else run n b r.2.1 r.2.2:=rfl
theorem run_prog:run (n+1) (.prog g a b) ts cs=(run n g ts cs).bind fun r=>if r.2.1.length=ts.length then run n a r.2.1 r.2.2 else run n b r.2.1 r.2.2:=rfl
theorem run_stm:run (n+1) (.stm g b) ts cs=(run n g ts cs).bind fun r=>if r.2.1.length=ts.length then(r.2.2.getLast?.bind fun t=>if srcT t=[]∧szT t≤1 then run n gUnexp r.2.1 r.2.2.dropLast else none) else run n b r.2.1 r.2.2:=rfl
theorem run_whil:run (n+1) (.whil c g) ts cs=if ev c ts=true then(run n g ts cs).bind fun r=>if r.1=true then some (true,r.2.1,r.2.2) else run n (.whil c g) r.2.1 r.2.2 else some (false,ts,cs):=rfl
theorem run_insN:run (n+1) .insN ts cs=cs.getLast?.bind fun t=>some (false,ts,cs.dropLast++[.mk 0 [] [],t]):=rfl
theorem run_call:run (n+1) (.call f) ts cs=run n (defs f) ts cs:=rfl
end eqs
inductive Runs:G→List Tok→List Tree→Bool→List Tok→List Tree→Prop
 | ret (b:Bool) (ts:List Tok) (cs:List Tree):Runs (.ret b) ts cs b ts cs
 | bump (ts:List Tok) (cs:List Tree):Runs .bump ts cs false (la ts) (cs++((ts.takeWhile triv).map leaf++((skp ts).take 1).map leaf))
 | put (k:Nat) (ts:List Tok) (cs:List Tree):Runs (.put k) ts cs false ts (cs++[.mk k [] []])
 | seq {a b:G} {ts ts1 ts2:List Tok} {cs cs1 cs2:List Tree} {b1 b2:Bool} (h1:Runs a ts cs b1 ts1 cs1) (h2:Runs b ts1 cs1 b2 ts2 cs2):Runs (.seq a b) ts cs b2 ts2 cs2
 | node {k:Nat} {g:G} {ts ts1:List Tok} {ds:List Tree} {b:Bool} (cs:List Tree) (hk:k<100) (h:Runs g ts [] b ts1 ds):Runs (.node k g) ts cs b ts1 (cs++[.mk k [] ds])
 | wrap {k:Nat} {g:G} {ts ts1:List Tok} {ds:List Tree} {t:Tree} {b:Bool} (cs:List Tree) (hk:k<100) (h:Runs g ts [t] b ts1 ds):Runs (.wrap k g) ts (cs++[t]) b ts1 (cs++[.mk k [] ds])
 | ite1 {c:Cnd} {a b:G} {ts ts1:List Tok} {cs cs1:List Tree} {r:Bool} (hc:ev c ts=true) (h:Runs a ts cs r ts1 cs1):Runs (.ite c a b) ts cs r ts1 cs1
 | ite2 {c:Cnd} {a b:G} {ts ts1:List Tok} {cs cs1:List Tree} {r:Bool} (hc:ev c ts=false) (h:Runs b ts cs r ts1 cs1):Runs (.ite c a b) ts cs r ts1 cs1
 | bra1 {g a b:G} {ts ts1 ts2:List Tok} {cs cs1 cs2:List Tree} {r:Bool} (h1:Runs g ts cs true ts1 cs1) (h2:Runs a ts1 cs1 r ts2 cs2):Runs (.bra g a b) ts cs r ts2 cs2
 | bra2 {g a b:G} {ts ts1 ts2:List Tok} {cs cs1 cs2:List Tree} {r:Bool} (h1:Runs g ts cs false ts1 cs1) (h2:Runs b ts1 cs1 r ts2 cs2):Runs (.bra g a b) ts cs r ts2 cs2
 | prog1 {g a b:G} {ts ts1 ts2:List Tok} {cs cs1 cs2:List Tree} {r q:Bool} (h1:Runs g ts cs q ts1 cs1) (hl:ts1.length=ts.length) (h2:Runs a ts1 cs1 r ts2 cs2):Runs (.prog g a b) ts cs r ts2 cs2
 | prog2 {g a b:G} {ts ts1 ts2:List Tok} {cs cs1 cs2:List Tree} {r q:Bool} (h1:Runs g ts cs q ts1 cs1) (hl:ts1.length≠ts.length) (h2:Runs b ts1 cs1 r ts2 cs2):Runs (.prog g a b) ts cs r ts2 cs2
 | stm1 {g b:G} {ts ts1 ts2:List Tok} {cs cs1 cs2:List Tree} {t:Tree} {r q:Bool} (h1:Runs g ts cs q ts1 (cs1++[t])) (hl:ts1.length=ts.length) (ht:srcT t=[]∧szT t≤1) (h2:Runs gUnexp ts1 cs1 r ts2 cs2):Runs (.stm g b) ts cs r ts2 cs2
 | stm2 {g b:G} {ts ts1 ts2:List Tok} {cs cs1 cs2:List Tree} {r q:Bool} (h1:Runs g ts cs q ts1 cs1) (hl:ts1.length≠ts.length) (h2:Runs b ts1 cs1 r ts2 cs2):Runs (.stm g b) ts cs r ts2 cs2
 | whil0 {c:Cnd} {g:G} {ts:List Tok} {cs:List Tree} (hc:ev c ts=false):Runs (.whil c g) ts cs false ts cs
 | whil1 {c:Cnd} {g:G} {ts ts1:List Tok} {cs cs1:List Tree} (hc:ev c ts=true) (h:Runs g ts cs true ts1 cs1):Runs (.whil c g) ts cs true ts1 cs1
 | whil2 {c:Cnd} {g:G} {ts ts1 ts2:List Tok} {cs cs1 cs2:List Tree} {r:Bool} (hc:ev c ts=true) (h:Runs g ts cs false ts1 cs1) (h2:Runs (.whil c g) ts1 cs1 r ts2 cs2):Runs (.whil c g) ts cs r ts2 cs2
 | insN (ts:List Tok) (cs:List Tree) (t:Tree):Runs .insN ts (cs++[t]) false ts (cs++[.mk 0 [] [],t])
 | call {f:Nat} {ts ts1:List Tok} {cs cs1:List Tree} {r:Bool} (h:Runs (defs f) ts cs r ts1 cs1):Runs (.call f) ts cs r ts1 cs1
theorem some_bind' {α β:Type}(a:α)(f:α→Option β):(some a).bind f=f a:=rfl
theorem run_mono1:∀(n:Nat)(g:G)(ts:List Tok)(cs:List Tree)(r:Bool×List Tok×List Tree),run n g ts cs=some r→run (n+1) g ts cs=some r:=by
 intro n
 induction n with
 | zero=>intro g ts cs r h;rw[run_zero]at h;cases h
 | succ n ih =>
  intro g ts cs r h
  cases g with
  | ret b=>exact h
  | bump=>exact h
  | put k=>exact h
  | insN=>exact h
  | seq a b =>
   rw[run_seq]at h ⊢
   obtain⟨x,h1,h2⟩:=Option.bind_eq_some_iff.1 h
   rw[ih _ _ _ _ h1];exact ih _ _ _ _ h2
  | node k g =>
   rw[run_node]at h ⊢
   obtain⟨x,h1,h2⟩:=Option.bind_eq_some_iff.1 h
   rw[ih _ _ _ _ h1];exact h2
  | wrap k g =>
   rw[run_wrap]at h ⊢
   obtain⟨t,h0,h⟩:=Option.bind_eq_some_iff.1 h
   obtain⟨x,h1,h2⟩:=Option.bind_eq_some_iff.1 h
   rw[h0,some_bind',ih _ _ _ _ h1];exact h2
  | ite c a b =>
   rw[run_ite]at h ⊢
   split
   ·rename_i hc;rw[if_pos hc]at h;exact ih _ _ _ _ h
   ·rename_i hc;rw[if_neg hc]at h;exact ih _ _ _ _ h
  | bra g a b =>
   rw[run_bra]at h ⊢
   obtain⟨x,h1,h2⟩:=Option.bind_eq_some_iff.1 h
   rw[ih _ _ _ _ h1,some_bind']
   split
   ·rename_i hc;rw[if_pos hc]at h2;exact ih _ _ _ _ h2
   ·rename_i hc;rw[if_neg hc]at h2;exact ih _ _ _ _ h2
  | prog g a b =>
   rw[run_prog]at h ⊢
   obtain⟨x,h1,h2⟩:=Option.bind_eq_some_iff.1 h
   rw[ih _ _ _ _ h1,some_bind']
   split
   ·rename_i hc;rw[if_pos hc]at h2;exact ih _ _ _ _ h2
   ·rename_i hc;rw[if_neg hc]at h2;exact ih _ _ _ _ h2
  | stm g b =>
   rw[run_stm]at h ⊢
   obtain⟨x,h1,h2⟩:=Option.bind_eq_some_iff.1 h
   rw[ih _ _ _ _ h1,some_bind']
   split
   ·rename_i hc;rw[if_pos hc]at h2
    obtain⟨t,h3,h4⟩:=Option.bind_eq_some_iff.1 h2
    rw[h3,some_bind']
    split
    ·rename_i ht;rw[if_pos ht]at h4;exact ih _ _ _ _ h4
    ·rename_i ht;rw[if_neg ht]at h4;cases h4
   ·rename_i hc;rw[if_neg hc]at h2;exact ih _ _ _ _ h2
  | whil c g =>
   rw[run_whil]at h ⊢
   split
   ·rename_i hc;rw[if_pos hc]at h
    obtain⟨x,h1,h2⟩:=Option.bind_eq_some_iff.1 h
    rw[ih _ _ _ _ h1,some_bind']
    split
    ·rename_i hb;rw[if_pos hb]at h2;exact h2
    ·rename_i hb;rw[if_neg hb]at h2;exact ih _ _ _ _ h2
   ·rename_i hc;rw[if_neg hc]at h;exact h
  | call f=>rw[run_call]at h ⊢;exact ih _ _ _ _ h
theorem run_mono {n m:Nat}(hm:n≤m){g:G}{ts:List Tok}{cs:List Tree}{r:Bool×List Tok×List Tree}(h:run n g ts cs=some r):run m g ts cs=some r:=by
 obtain⟨k,rfl⟩:∃k,m=n+k:=⟨m-n,by omega⟩
 clear hm
 induction k with
 | zero=>exact h
 | succ k ih=>exact run_mono1 _ _ _ _ _ ih
theorem bool_eq_false {b:Bool}(h:¬b=true):b=false:=by cases b<;>simp_all
theorem getLast_split {α:Type}{l:List α}{t:α}(h:l.getLast?=some t):l=l.dropLast++[t]:=by
 induction l with
 | nil=>cases h
 | cons a l ih =>
  cases l with
  | nil=>simp at h;subst h;rfl
  | cons b l=>rw[List.getLast?_cons_cons]at h;rw[List.dropLast_cons₂,List.cons_append,←ih h]
theorem runs_of:∀(n:Nat)(g:G)(ts:List Tok)(cs:List Tree)(r:Bool)(ts':List Tok)(cs':List Tree),run n g ts cs=some (r,ts',cs')→Runs g ts cs r ts' cs':=by
 intro n
 induction n with
 | zero=>intro g ts cs r ts' cs' h;rw[run_zero]at h;cases h
 | succ n ih =>
  intro g ts cs r ts' cs' h
  cases g with
  | ret b=>rw[run_ret]at h;cases h;exact .ret _ _ _
  | bump=>rw[run_bump]at h;cases h;exact .bump _ _
  | put k=>rw[run_put]at h;cases h;exact .put _ _ _
  | insN =>
   rw[run_insN]at h
   obtain⟨t,h0,h⟩:=Option.bind_eq_some_iff.1 h
   cases h
   have:=Runs.insN ts cs.dropLast t
   rw[←getLast_split h0]at this
   exact this
  | seq a b =>
   rw[run_seq]at h
   obtain⟨⟨r1,ts1,cs1⟩,h1,h2⟩:=Option.bind_eq_some_iff.1 h
   exact .seq (ih _ _ _ _ _ _ h1) (ih _ _ _ _ _ _ h2)
  | node k g =>
   rw[run_node]at h
   obtain⟨⟨r1,ts1,cs1⟩,h1,h2⟩:=Option.bind_eq_some_iff.1 h
   simp only at h2
   split at h2
   ·rename_i hk;cases h2;exact .node _ hk (ih _ _ _ _ _ _ h1)
   ·cases h2
  | wrap k g =>
   rw[run_wrap]at h
   obtain⟨t,h0,h⟩:=Option.bind_eq_some_iff.1 h
   obtain⟨⟨r1,ts1,cs1⟩,h1,h2⟩:=Option.bind_eq_some_iff.1 h
   simp only at h2
   split at h2
   ·rename_i hk;cases h2
    have:=Runs.wrap cs.dropLast hk (ih _ _ _ _ _ _ h1)
    rw[←getLast_split h0]at this
    exact this
   ·cases h2
  | ite c a b =>
   rw[run_ite]at h
   split at h
   ·rename_i hc;exact .ite1 hc (ih _ _ _ _ _ _ h)
   ·rename_i hc;exact .ite2 (bool_eq_false hc) (ih _ _ _ _ _ _ h)
  | bra g a b =>
   rw[run_bra]at h
   obtain⟨⟨r1,ts1,cs1⟩,h1,h2⟩:=Option.bind_eq_some_iff.1 h
   simp only at h2
   split at h2
   ·rename_i hc;subst hc;exact .bra1 (ih _ _ _ _ _ _ h1) (ih _ _ _ _ _ _ h2)
   ·rename_i hc;have hc:=bool_eq_false hc;subst hc;exact .bra2 (ih _ _ _ _ _ _ h1) (ih _ _ _ _ _ _ h2)
  | prog g a b =>
   rw[run_prog]at h
   obtain⟨⟨r1,ts1,cs1⟩,h1,h2⟩:=Option.bind_eq_some_iff.1 h
   simp only at h2
   split at h2
   ·rename_i hc;exact .prog1 (ih _ _ _ _ _ _ h1) hc (ih _ _ _ _ _ _ h2)
   ·rename_i hc;exact .prog2 (ih _ _ _ _ _ _ h1) hc (ih _ _ _ _ _ _ h2)
  | stm g b =>
   rw[run_stm]at h
   obtain⟨⟨r1,ts1,cs1⟩,h1,h2⟩:=Option.bind_eq_some_iff.1 h
   simp only at h2
   split at h2
   ·rename_i hc
    obtain⟨t,h3,h4⟩:=Option.bind_eq_some_iff.1 h2
    split at h4
    ·rename_i ht
     have:=ih _ _ _ _ _ _ h1
     rw[getLast_split h3]at this
     exact .stm1 this hc ht (ih _ _ _ _ _ _ h4)
    ·cases h4
   ·rename_i hc;exact .stm2 (ih _ _ _ _ _ _ h1) hc (ih _ _ _ _ _ _ h2)
  | whil c g =>
   rw[run_whil]at h
   split at h
   ·rename_i hc
    obtain⟨⟨r1,ts1,cs1⟩,h1,h2⟩:=Option.bind_eq_some_iff.1 h
    simp only at h2
    split at h2
    ·rename_i hb;subst hb;cases h2;exact .whil1 hc (ih _ _ _ _ _ _ h1)
    ·rename_i hb;have hb:=bool_eq_false hb;subst hb;exact .whil2 hc (ih _ _ _ _ _ _ h1) (ih _ _ _ _ _ _ h2)
   ·rename_i hc;cases h;exact .whil0 (bool_eq_false hc)
  | call f=>rw[run_call]at h;exact .call (ih _ _ _ _ _ _ h)
theorem max1 (a b:Nat):a≤max a b:=Nat.le_max_left a b
theorem max2 (a b:Nat):b≤max a b:=Nat.le_max_right a b
theorem run_of {g:G}{ts:List Tok}{cs:List Tree}{r:Bool}{ts':List Tok}{cs':List Tree}(h:Runs g ts cs r ts' cs'):∃n,run n g ts cs=some (r,ts',cs'):=by
 induction h with
 | ret b ts cs=>exact⟨1,rfl⟩
 | bump ts cs=>exact⟨1,rfl⟩
 | put k ts cs=>exact⟨1,rfl⟩
 | insN ts cs t=>exact⟨1,by rw[run_insN,List.getLast?_concat,some_bind',List.dropLast_concat]⟩
 | seq h1 h2 i1 i2 =>
  obtain⟨n,i1⟩:=i1;obtain⟨m,i2⟩:=i2
  exact⟨max n m+1,by rw[run_seq,run_mono (max1 n m) i1,some_bind'];exact run_mono (max2 n m) i2⟩
 | node cs hk h i =>
  obtain⟨n,i⟩:=i
  exact⟨n+1,by rw[run_node,i,some_bind',if_pos hk]⟩
 | wrap cs hk h i =>
  obtain⟨n,i⟩:=i
  exact⟨n+1,by rw[run_wrap,List.getLast?_concat,some_bind',i,some_bind',if_pos hk,List.dropLast_concat]⟩
 | ite1 hc h i=>obtain⟨n,i⟩:=i;exact⟨n+1,by rw[run_ite,if_pos hc];exact i⟩
 | ite2 hc h i=>obtain⟨n,i⟩:=i;exact⟨n+1,by rw[run_ite,if_neg (by rw[hc];exact Bool.noConfusion)];exact i⟩
 | bra1 h1 h2 i1 i2 =>
  obtain⟨n,i1⟩:=i1;obtain⟨m,i2⟩:=i2
  exact⟨max n m+1,by rw[run_bra,run_mono (max1 n m) i1,some_bind',if_pos rfl];exact run_mono (max2 n m) i2⟩
 | bra2 h1 h2 i1 i2 =>
  obtain⟨n,i1⟩:=i1;obtain⟨m,i2⟩:=i2
  exact⟨max n m+1,by rw[run_bra,run_mono (max1 n m) i1,some_bind',if_neg Bool.noConfusion];exact run_mono (max2 n m) i2⟩
 | prog1 h1 hl h2 i1 i2 =>
  obtain⟨n,i1⟩:=i1;obtain⟨m,i2⟩:=i2
  exact⟨max n m+1,by rw[run_prog,run_mono (max1 n m) i1,some_bind',if_pos hl];exact run_mono (max2 n m) i2⟩
 | prog2 h1 hl h2 i1 i2 =>
  obtain⟨n,i1⟩:=i1;obtain⟨m,i2⟩:=i2
  exact⟨max n m+1,by rw[run_prog,run_mono (max1 n m) i1,some_bind',if_neg hl];exact run_mono (max2 n m) i2⟩
 | stm1 h1 hl ht h2 i1 i2 =>
  obtain⟨n,i1⟩:=i1;obtain⟨m,i2⟩:=i2
  exact⟨max n m+1,by rw[run_stm,run_mono (max1 n m) i1,some_bind',if_pos hl,List.getLast?_concat,some_bind',if_pos ht,List.dropLast_concat];exact run_mono (max2 n m) i2⟩
 | stm2 h1 hl h2 i1 i2 =>
  obtain⟨n,i1⟩:=i1;obtain⟨m,i2⟩:=i2
  exact⟨max n m+1,by rw[run_stm,run_mono (max1 n m) i1,some_bind',if_neg hl];exact run_mono (max2 n m) i2⟩
 | whil0 hc=>exact⟨1,by rw[run_whil,if_neg (by rw[hc];exact Bool.noConfusion)]⟩
 | whil1 hc h i=>obtain⟨n,i⟩:=i;exact⟨n+1,by rw[run_whil,if_pos hc,i,some_bind',if_pos rfl]⟩
 | whil2 hc h h2 i1 i2 =>
  obtain⟨n,i1⟩:=i1;obtain⟨m,i2⟩:=i2
  exact⟨max n m+1,by rw[run_whil,if_pos hc,run_mono (max1 n m) i1,some_bind',if_neg Bool.noConfusion];exact run_mono (max2 n m) i2⟩
 | call h i=>obtain⟨n,i⟩:=i;exact⟨n+1,by rw[run_call];exact i⟩
theorem srcL_append (a b:List Tree):srcL (a++b)=srcL a++srcL b:=by
 induction a with
 | nil=>rfl
 | cons x a ih=>rw[List.cons_append,srcL,srcL,ih,List.append_assoc]
theorem srcK_append (a b:List Tok):srcK (a++b)=srcK a++srcK b:=by
 induction a with
 | nil=>rfl
 | cons x a ih=>rw[List.cons_append,srcK,srcK,ih,List.append_assoc]
theorem srcL_one (t:Tree):srcL [t]=srcT t:=by rw[srcL,srcL,List.append_nil]
theorem srcT_node (k:Nat)(cs:List Tree):srcT (.mk k [] cs)=srcL cs:=by rw[srcT,List.nil_append]
theorem srcL_leaf (ts:List Tok):srcL (ts.map leaf)=srcK ts:=by
 induction ts with
 | nil=>rfl
 | cons t ts ih=>rw[List.map_cons,srcL,srcK,ih,leaf,srcT,srcL,List.append_nil]
theorem skp_split (ts:List Tok):ts.takeWhile triv++skp ts=ts:=List.takeWhile_append_dropWhile
theorem bump_split (ts:List Tok):ts.takeWhile triv++(skp ts).take 1++la ts=ts:=by
 rw[List.append_assoc,la,List.take_append_drop,skp_split]
theorem runs_src {g:G}{ts:List Tok}{cs:List Tree}{r:Bool}{ts':List Tok}{cs':List Tree}(h:Runs g ts cs r ts' cs'):srcL cs'++srcK ts'=srcL cs++srcK ts:=by
 induction h with
 | ret b ts cs=>rfl
 | bump ts cs =>
  rw[←List.map_append,srcL_append,srcL_leaf,List.append_assoc,←srcK_append,bump_split]
 | put k ts cs=>rw[srcL_append,srcL_one,srcT_node,srcL,List.append_nil]
 | insN ts cs t=>rw[srcL_append,srcL_append,srcL,srcT_node,srcL,List.nil_append]
 | seq h1 h2 i1 i2=>rw[i2,i1]
 | node cs hk h i=>rw[srcL_append,srcL_one,srcT_node,List.append_assoc,i,srcL,List.nil_append]
 | wrap cs hk h i=>rw[srcL_append,srcL_one,srcT_node,List.append_assoc,i,srcL_append,List.append_assoc]
 | ite1 hc h i=>exact i
 | ite2 hc h i=>exact i
 | bra1 h1 h2 i1 i2=>rw[i2,i1]
 | bra2 h1 h2 i1 i2=>rw[i2,i1]
 | prog1 h1 hl h2 i1 i2=>rw[i2,i1]
 | prog2 h1 hl h2 i1 i2=>rw[i2,i1]
 | stm1 h1 hl ht h2 i1 i2=>rw[i2,←i1,srcL_append,srcL_one,ht.1,List.append_nil]
 | stm2 h1 hl h2 i1 i2=>rw[i2,i1]
 | whil0 hc=>rfl
 | whil1 hc h i=>exact i
 | whil2 hc h h2 i1 i2=>rw[i2,i1]
 | call h i=>exact i
theorem la_drop (ts:List Tok):∃k,la ts=ts.drop k:=by
 have:∀ts:List Tok,∃k,skp ts=ts.drop k:=by
  intro ts
  induction ts with
  | nil=>exact⟨0,rfl⟩
  | cons t ts ih =>
   unfold skp
   rw[List.dropWhile_cons]
   split
   ·obtain⟨k,ih⟩:=ih;exact⟨k+1,ih⟩
   ·exact⟨0,rfl⟩
 obtain⟨k,hk⟩:=this ts
 exact⟨k+1,by rw[la,hk,List.drop_drop]⟩
theorem drop_trans {α:Type}{a b c:List α}(h:∃k,b=a.drop k)(h':∃k,c=b.drop k):∃k,c=a.drop k:=by
 obtain⟨k,rfl⟩:=h;obtain⟨m,rfl⟩:=h';exact⟨k+m,by rw[List.drop_drop]⟩
theorem runs_drop {g:G}{ts:List Tok}{cs:List Tree}{r:Bool}{ts':List Tok}{cs':List Tree}(h:Runs g ts cs r ts' cs'):∃k,ts'=ts.drop k:=by
 induction h with
 | ret b ts cs=>exact⟨0,rfl⟩
 | bump ts cs=>exact la_drop ts
 | put k ts cs=>exact⟨0,rfl⟩
 | insN ts cs t=>exact⟨0,rfl⟩
 | seq h1 h2 i1 i2=>exact drop_trans i1 i2
 | node cs hk h i=>exact i
 | wrap cs hk h i=>exact i
 | ite1 hc h i=>exact i
 | ite2 hc h i=>exact i
 | bra1 h1 h2 i1 i2=>exact drop_trans i1 i2
 | bra2 h1 h2 i1 i2=>exact drop_trans i1 i2
 | prog1 h1 hl h2 i1 i2=>exact drop_trans i1 i2
 | prog2 h1 hl h2 i1 i2=>exact drop_trans i1 i2
 | stm1 h1 hl ht h2 i1 i2=>exact drop_trans i1 i2
 | stm2 h1 hl h2 i1 i2=>exact drop_trans i1 i2
 | whil0 hc=>exact⟨0,rfl⟩
 | whil1 hc h i=>exact i
 | whil2 hc h h2 i1 i2=>exact drop_trans i1 i2
 | call h i=>exact i
theorem runs_eq {g:G}{ts:List Tok}{cs:List Tree}{r:Bool}{ts':List Tok}{cs':List Tree}(h:Runs g ts cs r ts' cs')(e:ts'.length=ts.length):ts'=ts:=by
 obtain⟨k,rfl⟩:=runs_drop h
 rw[List.length_drop]at e
 by_cases hk:k=0
 ·rw[hk];rfl
 ·cases ts with
  | nil=>simp
  | cons t ts=>simp at e;omega
theorem runs_frame {g:G}{ts:List Tok}{cs:List Tree}{r:Bool}{ts':List Tok}{cs':List Tree}(h:Runs g ts cs r ts' cs')(pre:List Tree):Runs g ts (pre++cs) r ts' (pre++cs'):=by
 induction h with
 | ret b ts cs=>exact .ret _ _ _
 | bump ts cs=>rw[←List.append_assoc];exact .bump _ _
 | put k ts cs=>rw[←List.append_assoc];exact .put _ _ _
 | insN ts cs t=>rw[←List.append_assoc,←List.append_assoc];exact .insN _ _ _
 | seq h1 h2 i1 i2=>exact .seq i1 i2
 | node cs hk h i=>rw[←List.append_assoc];exact .node _ hk h
 | wrap cs hk h i=>rw[←List.append_assoc,←List.append_assoc];exact .wrap _ hk h
 | ite1 hc h i=>exact .ite1 hc i
 | ite2 hc h i=>exact .ite2 hc i
 | bra1 h1 h2 i1 i2=>exact .bra1 i1 i2
 | bra2 h1 h2 i1 i2=>exact .bra2 i1 i2
 | prog1 h1 hl h2 i1 i2=>exact .prog1 i1 hl i2
 | prog2 h1 hl h2 i1 i2=>exact .prog2 i1 hl i2
 | stm1 h1 hl ht h2 i1 i2=>exact .stm1 (by rw[List.append_assoc];exact i1) hl ht i2
 | stm2 h1 hl h2 i1 i2=>exact .stm2 i1 hl i2
 | whil0 hc=>exact .whil0 hc
 | whil1 hc h i=>exact .whil1 hc i
 | whil2 hc h h2 i1 i2=>exact .whil2 hc i1 i2
 | call h i=>exact .call i
theorem runs_sz {g:G}{ts:List Tok}{cs:List Tree}{r:Bool}{ts':List Tok}{cs':List Tree}(h:Runs g ts cs r ts' cs'):szL cs≤szL cs':=by
 induction h with
 | ret b ts cs=>exact Nat.le_refl _
 | bump ts cs=>rw[szL_append];omega
 | put k ts cs=>rw[szL_append];omega
 | insN ts cs t=>rw[szL_append,szL_append,szL_one,szL,szL_one];omega
 | seq h1 h2 i1 i2=>exact Nat.le_trans i1 i2
 | node cs hk h i=>rw[szL_append];omega
 | wrap cs hk h i=>rw[szL_append,szL_append,szL_one (.mk _ _ _),szT_mk];omega
 | ite1 hc h i=>exact i
 | ite2 hc h i=>exact i
 | bra1 h1 h2 i1 i2=>exact Nat.le_trans i1 i2
 | bra2 h1 h2 i1 i2=>exact Nat.le_trans i1 i2
 | prog1 h1 hl h2 i1 i2=>exact Nat.le_trans i1 i2
 | prog2 h1 hl h2 i1 i2=>exact Nat.le_trans i1 i2
 | stm1 h1 hl ht h2 i1 i2 =>
  rw[szL_append,szL_one]at i1
  cases h2 with
  | seq h2 h3=>cases h3;cases h2;rw[szL_append,szL_one,szT_mk];omega
 | stm2 h1 hl h2 i1 i2=>exact Nat.le_trans i1 i2
 | whil0 hc=>exact Nat.le_refl _
 | whil1 hc h i=>exact i
 | whil2 hc h h2 i1 i2=>exact Nat.le_trans i1 i2
 | call h i=>exact i
mutual
def okT:Tree→Bool
 | .mk k t cs=>(if 100≤k then cs.isEmpty else t.isEmpty)&&okL cs
def okL:List Tree→Bool
 | []=>true
 | t::ts=>okT t&&okL ts
end
theorem okL_append (a b:List Tree):okL (a++b)=(okL a&&okL b):=by
 induction a with
 | nil=>simp[okL]
 | cons x a ih=>rw[List.cons_append,okL,okL,ih,Bool.and_assoc]
theorem okL_one (t:Tree):okL [t]=okT t:=by rw[okL,okL,Bool.and_true]
theorem okT_node {k:Nat}(hk:k<100)(cs:List Tree):okT (.mk k [] cs)=okL cs:=by
 rw[okT,if_neg (by omega)];rfl
theorem okT_empty (k:Nat):okT (.mk k [] [])=true:=by
 rw[okT];split<;>rfl
theorem okL_leaf (ts:List Tok)(h:∀t∈ts,100≤t.1):okL (ts.map leaf)=true:=by
 induction ts with
 | nil=>rfl
 | cons t ts ih =>
  rw[List.map_cons,okL,ih (fun u hu=>h u (List.mem_cons_of_mem _ hu)),leaf,okT,if_pos (h t (List.mem_cons_self ..))]
  rfl
theorem mem_split {ts:List Tok}{t:Tok}(h:t∈ts.takeWhile triv++(skp ts).take 1):t∈ts:=by
 have:=bump_split ts
 rw[←this];exact List.mem_append_left _ h
theorem runs_ok {g:G}{ts:List Tok}{cs:List Tree}{r:Bool}{ts':List Tok}{cs':List Tree}(h:Runs g ts cs r ts' cs'):(∀t∈ts,100≤t.1)→okL cs=true→okL cs'=true:=by
 have mem:∀{ts ts1:List Tok},(∃k,ts1=ts.drop k)→(∀t∈ts,100≤t.1)→∀t∈ts1,100≤t.1:=by
  intro ts ts1 ⟨k,e⟩ h t ht;subst e;exact h t (List.mem_of_mem_drop ht)
 induction h with
 | ret b ts cs=>exact fun _ h=>h
 | bump ts cs =>
  intro h1 h2
  rw[←List.map_append,okL_append,h2,okL_leaf _ (fun t ht=>h1 t (mem_split ht))];rfl
 | put k ts cs=>intro h1 h2;rw[okL_append,h2,okL_one,okT_empty];rfl
 | insN ts cs t =>
  intro h1 h2
  rw[okL_append,okL_one,Bool.and_eq_true]at h2
  rw[okL_append,okL,okL_one,okT_empty,h2.1,h2.2];rfl
 | seq h1 h2 i1 i2=>exact fun k1 k2=>i2 (mem (runs_drop h1) k1) (i1 k1 k2)
 | node cs hk h i=>intro k1 k2;rw[okL_append,k2,okL_one,okT_node hk,i k1 rfl];rfl
 | wrap cs hk h i =>
  intro k1 k2
  rw[okL_append,okL_one,Bool.and_eq_true]at k2
  rw[okL_append,k2.1,okL_one,okT_node hk,i k1 (by rw[okL_one];exact k2.2)];rfl
 | ite1 hc h i=>exact i
 | ite2 hc h i=>exact i
 | bra1 h1 h2 i1 i2=>exact fun k1 k2=>i2 (mem (runs_drop h1) k1) (i1 k1 k2)
 | bra2 h1 h2 i1 i2=>exact fun k1 k2=>i2 (mem (runs_drop h1) k1) (i1 k1 k2)
 | prog1 h1 hl h2 i1 i2=>exact fun k1 k2=>i2 (mem (runs_drop h1) k1) (i1 k1 k2)
 | prog2 h1 hl h2 i1 i2=>exact fun k1 k2=>i2 (mem (runs_drop h1) k1) (i1 k1 k2)
 | stm1 h1 hl ht h2 i1 i2 =>
  intro k1 k2
  have:=i1 k1 k2
  rw[okL_append,Bool.and_eq_true]at this
  exact i2 (mem (runs_drop h1) k1) this.1
 | stm2 h1 hl h2 i1 i2=>exact fun k1 k2=>i2 (mem (runs_drop h1) k1) (i1 k1 k2)
 | whil0 hc=>exact fun _ h=>h
 | whil1 hc h i=>exact i
 | whil2 hc h h2 i1 i2=>exact fun k1 k2=>i2 (mem (runs_drop h) k1) (i1 k1 k2)
 | call h i=>exact i
end Pm
end

section
namespace Pm
def Does (g:G)(ts:List Tok)(Q:List Tok→List Tree→Prop):Prop:=∃ts' es,Runs g ts [] false ts' es∧Q ts' es
theorem Does.mono {g:G}{ts:List Tok}{Q Q':List Tok→List Tree→Prop}(h:Does g ts Q)(k:∀ts' es,Q ts' es→Q' ts' es):Does g ts Q':=by
 obtain⟨t,e,h1,h2⟩:=h;exact⟨t,e,h1,k _ _ h2⟩
theorem Does.seq {a b:G}{ts:List Tok}{Qa Q:List Tok→List Tree→Prop}(h:Does a ts Qa)(k:∀t1 e1,Qa t1 e1→Does b t1 fun t2 e2=>Q t2 (e1++e2)):Does (.seq a b) ts Q:=by
 obtain⟨t1,e1,h1,h2⟩:=h
 obtain⟨t2,e2,k1,k2⟩:=k _ _ h2
 have:=runs_frame k1 e1
 rw[List.append_nil]at this
 exact⟨t2,_,.seq h1 this,k2⟩
theorem Does.node {k:Nat}{g:G}{ts:List Tok}{Q:List Tok→List Tree→Prop}(hk:k<100)(h:Does g ts fun t1 e1=>Q t1 [.mk k [] e1]):Does (.node k g) ts Q:=by
 obtain⟨t1,e1,h1,h2⟩:=h
 exact⟨t1,_,.node [] hk h1,h2⟩
theorem Does.ite {c:Cnd}{a b:G}{ts:List Tok}{Q:List Tok→List Tree→Prop}(h:ev c ts=true→Does a ts Q)(k:ev c ts=false→Does b ts Q):Does (.ite c a b) ts Q:=by
 cases hc:ev c ts with
 | true=>obtain⟨t1,e1,h1,h2⟩:=h hc;exact⟨t1,e1,.ite1 hc h1,h2⟩
 | false=>obtain⟨t1,e1,h1,h2⟩:=k hc;exact⟨t1,e1,.ite2 hc h1,h2⟩
theorem Does.call {f:Nat}{ts:List Tok}{Q:List Tok→List Tree→Prop}(h:Does (defs f) ts Q):Does (.call f) ts Q:=by
 obtain⟨t1,e1,h1,h2⟩:=h;exact⟨t1,e1,.call h1,h2⟩
theorem Does.put {k:Nat}{ts:List Tok}{Q:List Tok→List Tree→Prop}(h:Q ts [.mk k [] []]):Does (.put k) ts Q:=⟨ts,_,.put k ts [],h⟩
theorem Does.nop {ts:List Tok}{Q:List Tok→List Tree→Prop}(h:Q ts []):Does nop ts Q:=⟨ts,_,.ret false ts [],h⟩
def Bp (ts t':List Tok)(es:List Tree):Prop:=t'.length≤ts.length∧szL es+t'.length=ts.length∧dpL es≤1
def Bs (ts t':List Tok)(es:List Tree):Prop:=t'.length<ts.length∧szL es+t'.length=ts.length∧dpL es≤1
theorem bump_any (ts:List Tok):Does .bump ts (Bp ts):=by
 refine⟨_,_,.bump ts [],?_⟩
 rw[List.nil_append,←List.map_append]
 have h:=congrArg List.length (bump_split ts)
 rw[List.length_append]at h
 refine⟨by omega,by rw[szL_leaf];exact h,dpL_leaf _⟩
theorem bump_sig {ts:List Tok}(hs:(pk ts).1≠100):Does .bump ts (Bs ts):=by
 refine⟨_,_,.bump ts [],?_⟩
 rw[List.nil_append,←List.map_append]
 have h:=congrArg List.length (bump_split ts)
 rw[List.length_append,List.length_append]at h
 have hp:((skp ts).take 1).length=1:=by
  cases hh:skp ts with
  | nil=>rw[pk,hh]at hs;exact absurd rfl hs
  | cons a l=>rfl
 refine⟨by omega,by rw[szL_leaf,List.length_append];exact h,dpL_leaf _⟩
theorem sig_at {ws:List Bytes}{ts:List Tok}(h:ev (rAt ws) ts=true):(pk ts).1≠100:=by
 intro e
 simp[ev,rAt,atT,e]at h
theorem sig_id {ts:List Tok}(h:ev rId ts=true):(pk ts).1≠100:=by
 intro e
 simp[ev,rId,e]at h
theorem sig_kind {k:Nat}(hk:k≠100){ts:List Tok}(h:ev (rKind k) ts=true):(pk ts).1≠100:=by
 intro e
 simp[ev,rKind,e]at h
 exact hk h.symm
def Sp (c y d:Nat)(ts ts':List Tok)(es:List Tree):Prop :=
 ts'.length≤ts.length∧(ts'.length=ts.length→szL es≤c)∧(ts'.length<ts.length→szL es+y+24*ts'.length≤24*ts.length)∧dpL es≤d+2*(ts.length-ts'.length)
def Ss (y d:Nat)(ts ts':List Tok)(es:List Tree):Prop :=
 ts'.length<ts.length∧szL es+y+24*ts'.length≤24*ts.length∧dpL es≤d+2*(ts.length-ts'.length)
theorem expect_does (w:Bytes)(ts:List Tok):Does (gExpect w) ts (Sp 1 23 1 ts):=by
 refine .ite (fun h=>(bump_sig (sig_at h)).mono fun t1 e1 q1=>?_) (fun h=>.put ?_)
 ·simp only[Bs,Sp]at *;omega
 ·simp only[Sp,szL_one,szT_mk,szL_nil,dpL_one,dpT_mk,dpL_nil];omega
theorem ident_does (ts:List Tok):Does gIdent ts (Sp 1 23 1 ts):=by
 refine .ite (fun h=>(bump_sig (sig_id h)).mono fun t1 e1 q1=>?_) (fun h=>.put ?_)
 ·simp only[Bs,Sp]at *;omega
 ·simp only[Sp,szL_one,szT_mk,szL_nil,dpL_one,dpT_mk,dpL_nil];omega
theorem ident_sig {ts:List Tok}(hi:ev rId ts=true):Does gIdent ts (Bs ts) :=
 .ite (fun h=>bump_sig (sig_id h)) (fun h=>by rw[hi]at h;cases h)
theorem if_doesY {ws:List Bytes}{g:G}{ts:List Tok}{c y d:Nat}(y':Nat)(h:∀t1,t1.length<ts.length→Does g t1 (Sp c y d t1))(hc:c+y'≤23)(hd:1≤d+2):Does (gIf ws g) ts (Sp 0 y' (d-2) ts):=by
 refine .ite (fun h0=>.seq (bump_sig (sig_at h0)) fun t1 e1 q1=>(h t1 q1.1).mono fun t2 e2 q2=>?_) (fun h0=>.nop ?_)
 ·simp only[Bs,Sp,szL_append,dpL_append,Nat.max_le]at *;omega
 ·simp only[Sp,szL_nil,dpL_nil];omega
theorem if_does {ws:List Bytes}{g:G}{ts:List Tok}{c y d:Nat}(h:∀t1,t1.length<ts.length→Does g t1 (Sp c y d t1))(hc:c+16≤23)(hd:1≤d+2):Does (gIf ws g) ts (Sp 0 16 (d-2) ts):=if_doesY 16 h hc hd
theorem opt_does {w:Bytes}{g:G}{ts:List Tok}{c y d:Nat}(h:∀t1,t1.length<ts.length→Does g t1 (Sp c y d t1))(hc:c+16≤23):Does (gOpt w g) ts (Sp 1 16 (max 1 (d-2)) ts):=by
 refine .ite (fun h0=>.seq (bump_sig (sig_at h0)) fun t1 e1 q1=>(h t1 q1.1).mono fun t2 e2 q2=>?_) (fun h0=>.put ?_)
 ·simp only[Bs,Sp,szL_append,dpL_append,Nat.max_le]at *;omega
 ·simp only[Sp,szL_one,szT_mk,szL_nil,dpL_one,dpT_mk,dpL_nil];omega
theorem whil_rule {c:Cnd}{g:G}(I:List Tok→List Tree→Prop)
  (step:∀ts es,I ts es→ev c ts=true→∃ts' es',Runs g ts es false ts' es'∧ts'.length<ts.length∧I ts' es'):∀(n:Nat)(ts:List Tok)(es:List Tree),ts.length≤n→I ts es →
  ∃ts' es',Runs (.whil c g) ts es false ts' es'∧I ts' es'∧ev c ts'=false:=by
 intro n
 induction n with
 | zero =>
  intro ts es hn hI
  cases hc:ev c ts with
  | false=>exact⟨ts,es,.whil0 hc,hI,hc⟩
  | true=>obtain⟨t,e,_,h2,_⟩:=step ts es hI hc;omega
 | succ n ih =>
  intro ts es hn hI
  cases hc:ev c ts with
  | false=>exact⟨ts,es,.whil0 hc,hI,hc⟩
  | true =>
   obtain⟨t,e,h1,h2,h3⟩:=step ts es hI hc
   obtain⟨t',e',k1,k2,k3⟩:=ih t e (by omega) h3
   exact⟨t',e',.whil2 hc h1 k1,k2,k3⟩
theorem whil_does {c:Cnd}{g:G}{y d:Nat}(ts:List Tok)(h:∀t1,t1.length≤ts.length→ev c t1=true→Does g t1 (Ss y d t1)):Does (.whil c g) ts (Sp 0 y d ts):=by
 obtain⟨t',e',h1,h2,_⟩:=whil_rule (c:=c) (g:=g) (fun t e=>Sp 0 y d ts t e) (fun t e q hc=>by
  obtain⟨t1,e1,k1,k2⟩:=h t q.1 hc
  have:=runs_frame k1 e
  rw[List.append_nil]at this
  refine⟨t1,e++e1,this,k2.1,?_⟩
  simp only[Sp,Ss,szL_append,dpL_append,Nat.max_le]at *
  omega) ts.length ts [] (Nat.le_refl _) (by simp only[Sp,szL_nil,dpL_nil];omega)
 exact⟨t',e',h1,h2⟩
theorem sig_more {cl:Bytes}{ts:List Tok}(h:ev (gMore cl) ts=true):(pk ts).1≠100:=by
 intro e
 simp[ev,gMore,e]at h
theorem list_does {cl:Bytes}{el:G}{d:Nat}(hd:1≤d)(ts:List Tok)(h:∀t1,t1.length≤ts.length→(pk t1).1≠100→Does el t1 (Sp 3 12 d t1)):Does (gList cl el) ts (Sp 1 10 d ts):=by
 refine .seq (whil_does (y:=11) (d:=d) ts fun t1 hl hc=>?_) fun t1 e1 q1=>(expect_does cl t1).mono fun t2 e2 q2=>?_
 ·obtain⟨t2,e2,k1,k2⟩:=h t1 hl (sig_more hc)
  by_cases he:t2.length=t1.length
  ·obtain⟨t3,e3,m1,m2⟩:=Does.node (k:=46) (by decide) (ts:=t2) (Q:=fun t e=>Ss 22 0 t2 t e) ((bump_sig (by rw[runs_eq k1 he];exact sig_more hc)).mono fun t e q=>by
    simp only[Bs,Ss,szL_one,szT_mk,dpL_one,dpT_mk]at *;omega)
   have m1:=runs_frame m1 e2
   rw[List.append_nil]at m1
   refine⟨t3,_,.prog1 k1 he m1,?_⟩
   simp only[Sp,Ss,szL_append,dpL_append,Nat.max_le]at *
   omega
  ·obtain⟨t3,e3,m1,m2⟩:=Does.ite (c:=rAt [cl]) (a:=nop) (b:=gExpect wComma) (ts:=t2) (Q:=Sp 1 23 1 t2) (fun _=>.nop (by simp only[Sp,szL_nil,dpL_nil];omega)) (fun _=>expect_does _ _)
   have m1:=runs_frame m1 e2
   rw[List.append_nil]at m1
   refine⟨t3,_,.prog2 k1 he m1,?_⟩
   simp only[Sp,Ss,szL_append,dpL_append,Nat.max_le]at *
   omega
 ·simp only[Sp,szL_append,dpL_append,Nat.max_le]at *
  omega
theorem seg_does (ty:Bool)(ts:List Tok)(h:∀t1,t1.length<ts.length→Does (.call 0) t1 (Sp 3 15 4 t1)):Does (gSeg ty) ts (Sp 2 20 3 ts)∧(ev rId ts=true→Does (gSeg ty) ts (Ss 20 3 ts)):=by
 have rest:∀t1,t1.length≤ts.length→Does (if ty then gIf [wLt] (gList wGt (.call 0)) else nop) t1 (Sp 0 22 2 t1):=by
  intro t1 hl
  cases ty with
  | false=>exact .nop (by simp only[Sp,szL_nil,dpL_nil];omega)
  | true=>exact(if_doesY (c:=1) (y:=10) (d:=4) 22 (fun t2 h2=>list_does (by decide) t2 fun t3 h3 _=>(h t3 (by omega)).mono fun t e q=>by simp only[Sp]at *;omega) (by decide) (by decide))
 refine⟨.node (by decide) (.seq (ident_does ts) fun t1 e1 q1=>(rest t1 q1.1).mono fun t2 e2 q2=>?_),fun hi=>.node (by decide) (.seq (ident_sig hi) fun t1 e1 q1=>(rest t1 (Nat.le_of_lt q1.1)).mono fun t2 e2 q2=>?_)⟩
 ·simp only[Sp,Ss,Bs,szL_append,dpL_append,Nat.max_le,szL_one,szT_mk,dpL_one,dpT_mk]at *
  omega
 ·simp only[Sp,Ss,Bs,szL_append,dpL_append,Nat.max_le,szL_one,szT_mk,dpL_one,dpT_mk]at *
  omega
theorem path_does (ty:Bool)(ts:List Tok)(h:∀t1,t1.length<ts.length→Does (.call 0) t1 (Sp 3 15 4 t1)):Does (gPath ty) ts (Sp 3 17 4 ts)∧(ev rId ts=true→Does (gPath ty) ts (Ss 17 4 ts)):=by
 have rest:∀t1,t1.length≤ts.length→Does (.whil (rAt [wColCol]) (.seq .bump (gSeg ty))) t1 (Sp 0 20 3 t1):=by
  intro t1 hl
  refine whil_does t1 fun t2 h2 hc=>.seq (bump_sig (sig_at hc)) fun t3 e3 q3=>(seg_does ty t3 fun t4 h4=>h t4 (by have:=q3.1;omega)).1.mono fun t4 e4 q4=>?_
  simp only[Sp,Ss,Bs,szL_append,dpL_append,Nat.max_le]at *
  omega
 refine⟨.node (by decide) (.seq (seg_does ty ts h).1 fun t1 e1 q1=>(rest t1 q1.1).mono fun t2 e2 q2=>?_),fun hi=>.node (by decide) (.seq ((seg_does ty ts h).2 hi) fun t1 e1 q1=>(rest t1 (Nat.le_of_lt q1.1)).mono fun t2 e2 q2=>?_)⟩
 ·simp only[Sp,Ss,Bs,szL_append,dpL_append,Nat.max_le,szL_one,szT_mk,dpL_one,dpT_mk]at *
  omega
 ·simp only[Sp,Ss,Bs,szL_append,dpL_append,Nat.max_le,szL_one,szT_mk,dpL_one,dpT_mk]at *
  omega
theorem type_does:∀(n:Nat)(ts:List Tok),ts.length≤n→Does (.call 0) ts fun t' es=>(∃t,es=[t])∧Sp 3 15 4 ts t' es:=by
 intro n
 induction n with
 | zero =>
  intro ts hn
  have:ts=[]:=List.length_eq_zero_iff.1 (by omega)
  subst this
  exact .call (.ite (fun h=>by cases h) fun _=>.ite (fun h=>by cases h) fun _=>.ite (fun h=>by cases h) fun _=>.put ⟨⟨_,rfl⟩,by simp only[Sp,szL_one,szT_mk,szL_nil,dpL_one,dpT_mk,dpL_nil];omega⟩)
 | succ n ih =>
  intro ts hn
  have ih':∀t1,t1.length<ts.length→Does (.call 0) t1 (Sp 3 15 4 t1):=fun t1 h1=>(ih t1 (by omega)).mono fun _ _ q=>q.2
  refine .call (.ite (fun h=>.node (by decide) ?_) fun _=>.ite (fun h=>.node (by decide) ?_) fun _=>.ite (fun h=>?_) fun _=>.put ⟨⟨_,rfl⟩,by simp only[Sp,szL_one,szT_mk,szL_nil,dpL_one,dpT_mk,dpL_nil];omega⟩)
  ·refine .seq (bump_sig (sig_at h)) fun t1 e1 q1=>.seq (if_does (c:=0) (y:=0) (d:=1) (fun t2 _=>.nop (by simp only[Sp,szL_nil,dpL_nil];omega)) (by decide) (by decide)) fun t2 e2 q2=>(ih' t2 (by have:=q1.1;have:=q2.1;omega)).mono fun t3 e3 q3=>⟨⟨_,rfl⟩,?_⟩
   simp only[Sp,Ss,Bs,szL_append,dpL_append,Nat.max_le,szL_one,szT_mk,dpL_one,dpT_mk]at *
   omega
  ·refine .seq (bump_sig (sig_at h)) fun t1 e1 q1=>.seq (expect_does _ t1) fun t2 e2 q2=>.seq (list_does (d:=4) (by decide) t2 fun t3 h3 _=>(ih' t3 (by have:=q1.1;have:=q2.1;omega)).mono fun t e q=>by simp only[Sp]at *;omega) fun t3 e3 q3=>(opt_does (c:=3) (y:=15) (d:=4) (fun t4 h4=>ih' t4 (by have:=q1.1;have:=q2.1;have:=q3.1;omega)) (by decide)).mono fun t4 e4 q4=>⟨⟨_,rfl⟩,?_⟩
   simp only[Sp,Ss,Bs,szL_append,dpL_append,Nat.max_le,szL_one,szT_mk,dpL_one,dpT_mk]at *
   omega
  ·obtain⟨t1,e1,k1,k2⟩:=(path_does true ts ih').1
   refine⟨t1,e1,k1,?_,?_⟩
   ·cases k1;exact⟨_,rfl⟩
   ·simp only[Sp]at *;omega
theorem typ (ts:List Tok):Does (.call 0) ts (Sp 3 15 4 ts):=(type_does ts.length ts (Nat.le_refl _)).mono fun _ _ q=>q.2
theorem path (ty:Bool)(ts:List Tok):Does (gPath ty) ts (Sp 3 17 4 ts):=(path_does ty ts fun t1 _=>typ t1).1
theorem path_id (ty:Bool){ts:List Tok}(hi:ev rId ts=true):Does (gPath ty) ts (Ss 17 4 ts):=(path_does ty ts fun t1 _=>typ t1).2 hi
end Pm
end

section
namespace Pm
theorem sig_c {c:Cnd}{ts:List Tok}(h:ev c ts=true)(hc:∀t u v:Tok,t.1=100→c t u v=false):(pk ts).1≠100:=fun e=>by
 rw[ev,hc _ _ _ e]at h;cases h
theorem leaf_does {k:Nat}(hk:k<100){ts:List Tok}(hs:(pk ts).1≠100):Does (.node k .bump) ts fun t' es=>(∃t,es=[t])∧Ss 22 0 ts t' es :=
 .node hk ((bump_sig hs).mono fun t e q=>⟨⟨_,rfl⟩,by simp only[Bs,Ss,szL_one,szT_mk,dpL_one,dpT_mk]at *;omega⟩)
theorem sp_of_ss {c y d y' d':Nat}{ts t':List Tok}{es:List Tree}(h:Ss y d ts t' es)(hy:y'≤y)(hd:d≤d'):Sp c y' d' ts t' es:=by
 simp only[Sp,Ss]at *;omega
theorem sp_le {c y d c' y' d':Nat}{ts t':List Tok}{es:List Tree}(h:Sp c y d ts t' es)(hc:c≤c')(hy:y'≤y)(hd:d≤d'):Sp c' y' d' ts t' es:=by
 simp only[Sp]at *;omega
def Sz (c d:Nat)(ts ts':List Tok)(es:List Tree):Prop:=ts'.length≤ts.length∧szL es+24*ts'.length≤24*ts.length+c∧dpL es≤d+2*(ts.length-ts'.length)
theorem sz_of {c y d:Nat}{ts t':List Tok}{es:List Tree}(h:Sp c y d ts t' es):Sz c d ts t' es:=by
 simp only[Sp,Sz]at *;omega
theorem Does.seqZ {a b:G}{ts:List Tok}{c1 c2 d:Nat}(h:Does a ts (Sz c1 d ts))(k:∀t1,t1.length≤ts.length→Does b t1 (Sz c2 d t1)):Does (.seq a b) ts (Sz (c1+c2) d ts) :=
 .seq h fun t1 e1 q1=>(k t1 q1.1).mono fun t2 e2 q2=>by
  simp only[Sz,szL_append,dpL_append,Nat.max_le]at *
  omega
theorem Does.nodeZ {k:Nat}{g:G}{ts:List Tok}{c d:Nat}(hk:k<100)(h:Does g ts (Sz c d ts)):Does (.node k g) ts (Sz (c+1) (d+1) ts) :=
 .node hk (h.mono fun t e q=>by simp only[Sz,szL_one,szT_mk,dpL_one,dpT_mk]at *;omega)
theorem Does.z {g:G}{ts:List Tok}{c y d d':Nat}(h:Does g ts (Sp c y d ts))(hd:d≤d'):Does g ts (Sz c d' ts):=h.mono fun t e q=>by simp only[Sp,Sz]at *;omega
theorem Does.le {g:G}{ts:List Tok}{c d c' d':Nat}(h:Does g ts (Sz c d ts))(hc:c≤c')(hd:d≤d'):Does g ts (Sz c' d' ts):=h.mono fun t e q=>by simp only[Sz]at *;omega
theorem runs_det {g:G}{ts:List Tok}{cs:List Tree}{b b':Bool}{t t':List Tok}{e e':List Tree}(h:Runs g ts cs b t e)(h':Runs g ts cs b' t' e'):b=b'∧t=t'∧e=e':=by
 obtain⟨n,h⟩:=run_of h
 obtain⟨m,h'⟩:=run_of h'
 have h:=run_mono (max1 n m) h
 rw[run_mono (max2 n m) h']at h
 simp only[Option.some.injEq,Prod.mk.injEq]at h
 exact⟨h.1.symm,h.2.1.symm,h.2.2.symm⟩
def armC:Cnd:=fun t _ _=>t.1==103 || t.1==105 || atT [wTrue,wFalse,wMut] t
theorem at3 (a b c:Bytes)(t:Tok):atT [a,b,c] t=(atT [a] t || atT [b] t || atT [c] t):=by
 simp only[atT,List.contains_cons,List.contains_nil,Bool.or_false]
 cases(t.1==104 || t.1==107)<;>simp[Bool.or_assoc]
theorem at2 (a b:Bytes)(t:Tok):atT [a,b] t=(atT [a] t || atT [b] t):=by
 simp only[atT,List.contains_cons,List.contains_nil,Bool.or_false]
 cases(t.1==104 || t.1==107)<;>simp
theorem pattern_does:∀(n:Nat)(ts:List Tok),ts.length≤n→Does (.call 5) ts fun t' es=>Sp 3 15 5 ts t' es∧(ev armC ts=true→t'.length<ts.length∧szL es+16+24*t'.length≤24*ts.length):=by
 intro n
 induction n with
 | zero =>
  intro ts hn
  have:ts=[]:=List.length_eq_zero_iff.1 (by omega)
  subst this
  exact .call (.ite (fun h=>by cases h) fun _=>.ite (fun h=>by cases h) fun _=>.ite (fun h=>by cases h) fun _=>.ite (fun h=>by cases h) fun _=>.ite (fun h=>by cases h) fun _=>.ite (fun h=>by cases h) fun _ =>
   .put ⟨by simp only[Sp,szL_one,szT_mk,szL_nil,dpL_one,dpT_mk,dpL_nil];omega,fun h=>by cases h⟩)
 | succ n ih =>
  intro ts hn
  have lf:∀{k:Nat},k<100→(pk ts).1≠100→Does (.node k .bump) ts fun t' es=>Sp 3 15 5 ts t' es∧(ev armC ts=true→t'.length<ts.length∧szL es+16+24*t'.length≤24*ts.length):=fun hk hs =>
   (leaf_does hk hs).mono fun t e q=>⟨sp_of_ss q.2 (by decide) (by decide),fun _=>by have:=q.2;simp only[Ss]at *;omega⟩
  refine .call (.ite (fun h=>.node (by decide) ?_) fun n1=>.ite (fun h=>lf (by decide) (sig_c h (by intro t u v e;simp[e]))) fun n2=>.ite (fun h=>lf (by decide) (sig_c h (by intro t u v e;simp[e]))) fun n3=>.ite (fun h=>.node (by decide) ?_) fun n4 =>
   .ite (fun h=>lf (by decide) (sig_kind (by decide) h)) fun n5=>.ite (fun h=>lf (by decide) (sig_at h)) fun n6=>.put ⟨by simp only[Sp,szL_one,szT_mk,szL_nil,dpL_one,dpT_mk,dpL_nil];omega,fun h=>?_⟩)
  ·refine .seq (bump_sig (sig_at h)) fun t1 e1 q1=>(ident_does t1).mono fun t2 e2 q2=>?_
   simp only[Sp,Ss,Bs,szL_append,dpL_append,Nat.max_le,szL_one,szT_mk,dpL_one,dpT_mk]at *
   omega
  ·refine .seq (path_id false h) fun t1 e1 q1=>(if_does (c:=1) (y:=10) (d:=5) (fun t2 h2=>list_does (by decide) t2 fun t3 h3 _=>(ih t3 (by have:=q1.1;omega)).mono fun t e q=>sp_le q.1 (by decide) (by decide) (by decide)) (by decide) (by decide)).mono fun t2 e2 q2=>?_
   simp only[Sp,Ss,Bs,szL_append,dpL_append,Nat.max_le,szL_one,szT_mk,dpL_one,dpT_mk]at *
   omega
  ·exfalso
   simp only[ev,rAt,rId,rKind,armC,at2,at3]at *
   rw[Bool.or_eq_false_iff]at n6
   rw[n4,n5,n1,n6.1,n6.2]at h
   cases h
theorem pat (ts:List Tok):Does (.call 5) ts fun t' es=>Sp 3 15 5 ts t' es∧(ev armC ts=true→t'.length<ts.length∧szL es+16+24*t'.length≤24*ts.length):=pattern_does ts.length ts (Nat.le_refl _)
def bigC:Cnd:=rAt [wIf,wMatch,wLBr]
def Ex (ts t':List Tok)(es:List Tree):Prop:=(∃t,es=[t])∧Sp 1 15 5 ts t' es∧(ev bigC ts=true→t'.length<ts.length)
def NoEx (ts:List Tok):Prop:=∀b t1 e1,Runs (.call 10) ts [] b t1 e1→t1.length=ts.length
def StQ (ts t':List Tok)(es:List Tree):Prop:=Ss 13 6 ts t' es∧(NoEx ts→dpL es≤4+2*(ts.length-t'.length))
def BlQ (ts t':List Tok)(es:List Tree):Prop:=Sp 4 9 7 ts t' es∧(NoEx ts→dpL es≤5+2*(ts.length-t'.length))
def One (es:List Tree):Prop:=∃t,es=[t]
structure AllE (ts:List Tok):Prop where
 ex:∀l,10≤l→l≤15→Does (.call l) ts (Ex ts)
 iff:(pk ts).1≠100→Does (.call 6) ts fun t' es=>One es∧Ss 15 5 ts t' es
 st:(pk ts).1≠100→∃b t' es,Runs (.call 2) ts [] b t' es∧StQ ts t' es
 bl:Does (.call 1) ts (BlQ ts)
theorem ex_sp {ts t':List Tok}{es:List Tree}(h:Ex ts t' es):Sp 1 15 5 ts t' es:=h.2.1
theorem whil_ruleB {c:Cnd}{g:G}(I:List Tok→List Tree→Prop)
  (step:∀ts es,I ts es→ev c ts=true→∃b ts' es',Runs g ts es b ts' es'∧(b=false→ts'.length<ts.length)∧I ts' es'):∀(n:Nat)(ts:List Tok)(es:List Tree),ts.length≤n→I ts es →
  ∃b ts' es',Runs (.whil c g) ts es b ts' es'∧I ts' es':=by
 intro n
 induction n with
 | zero =>
  intro ts es hn hI
  cases hc:ev c ts with
  | false=>exact⟨_,ts,es,.whil0 hc,hI⟩
  | true =>
   obtain⟨b,t,e,h1,h2,h3⟩:=step ts es hI hc
   cases b with
   | true=>exact⟨_,t,e,.whil1 hc h1,h3⟩
   | false=>have:=h2 rfl;omega
 | succ n ih =>
  intro ts es hn hI
  cases hc:ev c ts with
  | false=>exact⟨_,ts,es,.whil0 hc,hI⟩
  | true =>
   obtain⟨b,t,e,h1,h2,h3⟩:=step ts es hI hc
   cases b with
   | true=>exact⟨_,t,e,.whil1 hc h1,h3⟩
   | false =>
    obtain⟨b',t',e',k1,k2⟩:=ih t e (by have:=h2 rfl;omega) h3
    exact⟨b',t',e',.whil2 hc h1 k1,k2⟩
def blC:Cnd:=fun t _ _=>!atT [wRBr] t&&!(t.1==100)&&!atT itemKws t
theorem sig_bl {ts:List Tok}(h:ev blC ts=true):(pk ts).1≠100:=sig_c h (by intro t u v e;simp[blC,e])
theorem stms_does {d:Nat}(ts:List Tok)(hd:4≤d)(h:∀t1,t1.length≤ts.length→(pk t1).1≠100→∃b t' es,Runs (.call 2) t1 [] b t' es∧Ss 13 6 t1 t' es∧(t1=ts→dpL es≤d+2*(ts.length-t'.length))) :
  Does (.bra (.whil blC (.call 2)) nop (.put 0)) ts (Sp 1 12 d ts):=by
 obtain⟨b,t',e',h1,h2,_⟩:=whil_ruleB (c:=blC) (g:=.call 2) (fun t e=>Sp 0 13 d ts t e∧(t.length=ts.length→t=ts)) (fun t e q hc=>by
  obtain⟨b,t1,e1,k1,k2,k3⟩:=h t q.1.1 (sig_bl hc)
  have:=runs_frame k1 e
  rw[List.append_nil]at this
  refine⟨b,t1,e++e1,this,fun _=>k2.1,?_,fun e'=>?_⟩
  ·obtain⟨q,qe⟩:=q
   by_cases he:t.length=ts.length
   ·have k3:=k3 (qe he)
    simp only[Sp,Ss,szL_append,dpL_append,Nat.max_le]at *
    omega
   ·clear k3
    simp only[Sp,Ss,szL_append,dpL_append,Nat.max_le]at *
    omega
  ·have:=k2.1;have:=q.1.1;omega) ts.length ts [] (Nat.le_refl _) ⟨by simp only[Sp,szL_nil,dpL_nil];omega,fun _=>rfl⟩
 cases b with
 | true=>exact⟨t',e',.bra1 h1 (.ret _ _ _),by simp only[Sp]at *;omega⟩
 | false=>exact⟨t',_,.bra2 h1 (.put _ _ _),by simp only[Sp,szL_append,dpL_append,Nat.max_le,szL_one,szT_mk,szL_nil,dpL_one,dpT_mk,dpL_nil]at *;omega⟩
theorem args_does {ts:List Tok}(hs:(pk ts).1≠100)(ih:∀t1,t1.length<ts.length→AllE t1):Does gArgs ts fun t1 e=>t1.length<ts.length∧szL e+17+24*t1.length≤24*ts.length∧dpL e≤4+2*(ts.length-t1.length):=by
 refine .seq (bump_sig hs) fun t1 e1 q1=>(list_does (d:=5) (by decide) t1 fun t2 h2 _=>((ih t2 (by have:=q1.1;omega)).ex 10 (by decide) (by decide)).mono fun t e q=>sp_le q.2.1 (by decide) (by decide) (by decide)).mono fun t2 e2 q2=>?_
 simp only[Sp,Bs,szL_append,dpL_append,Nat.max_le]at *
 omega
theorem wrap_round {k:Nat}{g:G}(hk:k<100){ts0 ts:List Tok}{t:Tree}(q:Sp 1 15 5 ts0 ts [t])
  (h:Does g ts fun t1 e=>t1.length<ts.length∧szL e+17+24*t1.length≤24*ts.length∧dpL e≤4+2*(ts.length-t1.length)) :
  ∃t1 t',Runs (.wrap k g) ts [t] false t1 [t']∧t1.length<ts.length∧Sp 1 15 5 ts0 t1 [t']:=by
 obtain⟨t1,e,h1,h2⟩:=h
 have h1:=runs_frame h1 [t]
 rw[List.append_nil]at h1
 refine⟨t1,_,.wrap [] hk h1,h2.1,?_⟩
 simp only[Sp,szL_append,dpL_append,Nat.max_le,szL_one,szT_mk,dpL_one,dpT_mk]at *
 omega
theorem wraps_does {c:Cnd}{g:G}{ts0:List Tok}(h:∀ts t,ts.length≤ts0.length→ev c ts=true→Sp 1 15 5 ts0 ts [t]→∃b t1 t',Runs g ts [t] b t1 [t']∧t1.length<ts.length∧Sp 1 15 5 ts0 t1 [t'])
  {ts:List Tok}{t:Tree}(q:Sp 1 15 5 ts0 ts [t]):∃b t1 t',Runs (.whil c g) ts [t] b t1 [t']∧t1.length≤ts.length∧Sp 1 15 5 ts0 t1 [t']:=by
 obtain⟨b,t1,e1,h1,⟨t',rfl,h2⟩,h3⟩:=whil_ruleB (c:=c) (g:=g) (fun u e=>(∃t',e=[t']∧Sp 1 15 5 ts0 u e)∧u.length≤ts.length) (fun u e hI hc=>by
  obtain⟨⟨t',rfl,h2⟩,h3⟩:=hI
  obtain⟨b,t1,t'',k1,k2,k3⟩:=h u t' h2.1 hc h2
  exact⟨b,t1,_,k1,fun _=>k2,⟨_,rfl,k3⟩,by omega⟩) ts.length ts [t] (Nat.le_refl _) ⟨⟨t,rfl,q⟩,Nat.le_refl _⟩
 exact⟨b,t1,t',h1,h3,h2⟩
theorem gArm_does {ts:List Tok}(ih:∀t1,t1.length<ts.length→AllE t1):Does gArm ts (Sp 3 12 6 ts):=by
 refine .ite (fun h=>.node (by decide) (.seq (pat ts) fun t1 e1 q1=>.seq (expect_does _ t1) fun t2 e2 q2=>((ih t2 (by have:=(q1.2 h).1;have:=q2.1;omega)).ex 10 (by decide) (by decide)).mono fun t3 e3 q3=>?_)) fun _=>.nop (by simp only[Sp,szL_nil,dpL_nil];omega)
 obtain⟨q1,q1'⟩:=q1
 have q1':=q1' h
 have q3:=ex_sp q3
 simp only[Sp,szL_append,dpL_append,Nat.max_le,szL_one,szT_mk,dpL_one,dpT_mk]at *
 omega
theorem gInit_does {ts:List Tok}(ih:∀t1,t1.length<ts.length→AllE t1):Does gInit ts (Sp 3 12 6 ts):=by
 refine .ite (fun h=>.node (by decide) (.seq (bump_sig (sig_id h)) fun t1 e1 q1=>.seq (expect_does _ t1) fun t2 e2 q2=>((ih t2 (by have:=q1.1;have:=q2.1;omega)).ex 10 (by decide) (by decide)).mono fun t3 e3 q3=>?_)) fun _=>.nop (by simp only[Sp,szL_nil,dpL_nil];omega)
 have q3:=ex_sp q3
 simp only[Sp,Bs,szL_append,dpL_append,Nat.max_le,szL_one,szT_mk,dpL_one,dpT_mk]at *
 omega
theorem gParam_does (ts:List Tok):Does gParam ts (Sp 3 12 3 ts):=by
 refine .ite (fun h=>.node (by decide) (.seq (bump_sig (sig_id h)) fun t1 e1 q1=>(opt_does (c:=3) (y:=15) (d:=4) (fun t2 _=>typ t2) (by decide)).mono fun t2 e2 q2=>?_)) fun _=>.nop (by simp only[Sp,szL_nil,dpL_nil];omega)
 simp only[Sp,Bs,szL_append,dpL_append,Nat.max_le,szL_one,szT_mk,dpL_one,dpT_mk]at *
 omega
theorem params_does (cl:Bytes)(ts:List Tok):Does (gParams cl) ts (Sp 2 9 4 ts):=by
 refine .node (by decide) ((list_does (d:=3) (by decide) ts fun t1 _ _=>gParam_does t1).mono fun t2 e2 q2=>?_)
 simp only[Sp,szL_one,szT_mk,dpL_one,dpT_mk]at *
 omega
theorem block_at {ts:List Tok}(ih:∀t1,t1.length<ts.length→AllE t1)(h:ev (rAt [wLBr]) ts=true):Does (.call 1) ts fun t' es=>One es∧Ss 15 5 ts t' es:=by
 have hx:Does (gExpect wLBr) ts (Bs ts):=.ite (fun h=>bump_sig (sig_at h)) fun h'=>by rw[h]at h';cases h'
 refine .call (.node (by decide) (.seq hx fun t1 e1 q1=>.seq (stms_does (d:=6) t1 (by decide) fun t2 h2 hs=>?_) fun t2 e2 q2=>(expect_does _ t2).mono fun t3 e3 q3=>⟨⟨_,rfl⟩,?_⟩))
 ·obtain⟨b,t',e,k1,k2⟩:=(ih t2 (by have:=q1.1;omega)).st hs
  exact⟨b,t',e,k1,k2.1,fun e=>by subst e;exact k2.1.2.2⟩
 ·simp only[Sp,Ss,Bs,szL_append,dpL_append,Nat.max_le,szL_one,szT_mk,dpL_one,dpT_mk]at *
  omega
theorem cond_does {ts:List Tok}(ih:∀t1,t1.length<ts.length→AllE t1){t1:List Tok}(h1:t1.length<ts.length):Does (.seq (.call 10) (.call 1)) t1 fun t' es=>t'.length≤t1.length∧szL es+24*t'.length≤24*t1.length+5∧dpL es≤5+2*(t1.length-t'.length):=by
 obtain⟨t2,e2,k1,k2⟩:=(ih t1 h1).ex 10 (by decide) (by decide)
 have hle:=k2.2.1.1
 obtain⟨t3,e3,m1,m2,m3⟩:=(ih t2 (by omega)).bl
 have f:=runs_frame m1 e2
 rw[List.append_nil]at f
 refine⟨t3,_,.seq k1 f,?_⟩
 have k2:=ex_sp k2
 by_cases he:t2.length=t1.length
 ·have e':=runs_eq k1 he
  subst e'
  have m3:=m3 (fun b t e hr=>by rw[(runs_det hr k1).2.1])
  simp only[Sp,true_implies,szL_append,dpL_append,Nat.max_le]at *
  omega
 ·clear m3
  simp only[Sp,szL_append,dpL_append,Nat.max_le]at *
  omega
theorem if_expr {ts:List Tok}(ih:∀t1,t1.length<ts.length→AllE t1)(hs:(pk ts).1≠100):Does (.call 6) ts fun t' es=>One es∧Ss 15 5 ts t' es:=by
 refine .call (.node (by decide) (.seq (bump_sig hs) fun t1 e1 q1=>?_))
 obtain⟨t3,e3,k1,k2⟩:=cond_does ih q1.1
 have hlt:=q1.1
 obtain⟨t4,e4,m1,m2⟩:=opt_does (w:=wElse) (g:=.ite (rAt [wIf]) (.call 6) (.call 1)) (ts:=t3) (c:=4) (y:=9) (d:=7) (fun t hl=>.ite (fun h=>((ih t (by omega)).iff (sig_at h)).mono fun _ _ q=>sp_of_ss q.2 (by decide) (by decide)) fun _=>((ih t (by omega)).bl).mono fun _ _ q=>q.1) (by decide)
 cases k1 with
 | seq k1 k1' =>
  have f:=runs_frame m1 e3
  rw[List.append_nil]at f
  refine⟨t4,_,.seq k1 (.seq k1' f),⟨_,rfl⟩,?_⟩
  simp only[Sp,Ss,Bs,szL_append,dpL_append,Nat.max_le,szL_one,szT_mk,dpL_one,dpT_mk]at *
  omega
theorem primary_does {ts:List Tok}(ih:∀t1,t1.length<ts.length→AllE t1): Does (.call 4) ts (Ex ts):=by
 have one:∀{g:G},Does g ts (fun t' es=>One es∧Ss 15 5 ts t' es)→Does g ts (Ex ts):=fun h=>h.mono fun t e q=>⟨q.1,sp_of_ss q.2 (by decide) (by decide),fun _=>q.2.1⟩
 have lf:∀{k:Nat},k<100→(pk ts).1≠100→Does (.node k .bump) ts (Ex ts):=fun hk hs=>one ((leaf_does hk hs).mono fun t e q=>⟨q.1,by have:=q.2;simp only[Ss]at *;omega⟩)
 refine .call (.ite (fun h=>lf (by decide) (sig_kind (by decide) h)) fun n1=>.ite (fun h=>lf (by decide) (sig_kind (by decide) h)) fun n2=>.ite (fun h=>lf (by decide) (sig_at h)) fun n3=>.ite (fun h=>?_) fun n4 =>
  .ite (fun h=>one (.node (by decide) ?_)) fun n5=>.ite (fun h=>one (block_at ih h)) fun n6=>.ite (fun h=>one (if_expr ih (sig_at h))) fun n7=>.ite (fun h=>one (.node (by decide) ?_)) fun n8=>.ite (fun h=>one (.node (by decide) ?_)) fun n9 =>
  .ite (fun h=>one (.node (by decide) ?_)) fun n10=>.put ⟨⟨_,rfl⟩,by simp only[Sp,szL_one,szT_mk,szL_nil,dpL_one,dpT_mk,dpL_nil];omega,fun h=>?_⟩)
 ·obtain⟨t1,e1,k1,k2⟩:=path_id false h
  have:∃t,e1=[t]:=by cases k1;exact⟨_,rfl⟩
  obtain⟨t,rfl⟩:=this
  have hlt:=k2.1
  cases hc:ev (fun t u _=>atT [wBang] t&&atT [wLPar] u) t1 with
  | false=>exact⟨t1,_,.seq k1 (.ite2 hc (.ret _ _ _)),⟨_,rfl⟩,sp_of_ss k2 (by decide) (by decide),fun _=>k2.1⟩
  | true =>
   obtain⟨t2,t',m1,m2,m3⟩:=wrap_round (k:=42) (g:=.seq .bump gArgs) (by decide) (ts0:=ts) (ts:=t1) (t:=t) (sp_of_ss k2 (by decide) (by decide)) (by
    refine .seq (bump_sig (sig_c hc (by intro t u v e;simp[atT,e]))) fun t2 e2 q2=>.seq (bump_any t2) fun t3 e3 q3=>(list_does (d:=5) (by decide) t3 fun t4 h4 _=>((ih t4 (by have:=q2.1;have:=q3.1;omega)).ex 10 (by decide) (by decide)).mono fun t e q=>sp_le q.2.1 (by decide) (by decide) (by decide)).mono fun t4 e4 q4=>?_
    clear k2
    simp only[Sp,Bs,Bp,szL_append,dpL_append,Nat.max_le]at *
    omega)
   exact⟨t2,_,.seq k1 (.ite1 hc m1),⟨_,rfl⟩,m3,fun _=>by omega⟩
 ·refine .seq (bump_sig (sig_at h)) fun t1 e1 q1=>.seq ((ih t1 q1.1).ex 10 (by decide) (by decide)) fun t2 e2 q2=>(expect_does _ t2).mono fun t3 e3 q3=>⟨⟨_,rfl⟩,?_⟩
  have q2:=ex_sp q2
  simp only[Sp,Ss,Bs,szL_append,dpL_append,Nat.max_le,szL_one,szT_mk,dpL_one,dpT_mk]at *
  omega
 ·refine .seq (bump_sig (sig_at h)) fun t1 e1 q1=>.seq ((ih t1 q1.1).ex 10 (by decide) (by decide)) fun t2 e2 q2=>.seq (expect_does _ t2) fun t3 e3 q3=>(list_does (d:=6) (by decide) t3 fun t4 h4 _=>gArm_does fun t5 h5=>ih t5 ?_).mono fun t4 e4 q4=>⟨⟨_,rfl⟩,?_⟩
  ·have:=q1.1;have:=(ex_sp q2).1;have:=q3.1;omega
  ·have q2:=ex_sp q2
   simp only[Sp,Ss,Bs,szL_append,dpL_append,Nat.max_le,szL_one,szT_mk,dpL_one,dpT_mk]at *
   omega
 ·refine .seq (bump_sig (sig_at h)) fun t1 e1 q1=>.seq (path false t1) fun t2 e2 q2=>.seq (expect_does _ t2) fun t3 e3 q3=>(list_does (d:=6) (by decide) t3 fun t4 h4 _=>gInit_does fun t5 h5=>ih t5 ?_).mono fun t4 e4 q4=>⟨⟨_,rfl⟩,?_⟩
  ·have:=q1.1;have:=q2.1;have:=q3.1;omega
  ·simp only[Sp,Ss,Bs,szL_append,dpL_append,Nat.max_le,szL_one,szT_mk,dpL_one,dpT_mk]at *
   omega
 ·refine .seq (Qa:=Ss 20 2 ts) (.ite (fun h'=>.seq (bump_sig (sig_at h)) fun t1 e1 q1=>.node (by decide) (.nop ?_)) fun h'=>.seq (bump_sig (sig_at h)) fun t1 e1 q1=>(params_does _ t1).mono fun t2 e2 q2=>?_) fun t1 e1 q1=>((ih t1 q1.1).ex 10 (by decide) (by decide)).mono fun t2 e2 q2=>⟨⟨_,rfl⟩,?_⟩
  ·simp only[Sp,Ss,Bs,szL_append,dpL_append,Nat.max_le,szL_one,szT_mk,dpL_one,dpT_mk,szL_nil,dpL_nil]at *
   omega
  ·simp only[Sp,Ss,Bs,szL_append,dpL_append,Nat.max_le]at *
   omega
  ·have q2:=ex_sp q2
   simp only[Sp,Ss,Bs,szL_append,dpL_append,Nat.max_le,szL_one,szT_mk,dpL_one,dpT_mk]at *
   omega
 ·exfalso
  simp only[ev,rAt,bigC,at3]at *
  rw[n6,n7,n8]at h
  cases h
theorem unary_does {ts:List Tok}(ih:∀t1,t1.length<ts.length→AllE t1): Does (.call 15) ts (Ex ts):=by
 refine .call (.ite (fun h=>.node (by decide) ?_) fun n1=>.ite (fun h=>.node (by decide) ?_) fun n2=>?_)
 ·refine .seq (bump_sig (sig_at h)) fun t1 e1 q1=>((ih t1 q1.1).ex 15 (by decide) (by decide)).mono fun t2 e2 q2=>⟨⟨_,rfl⟩,?_⟩
  have q2:=ex_sp q2
  simp only[Sp,Bs,szL_append,dpL_append,Nat.max_le,szL_one,szT_mk,dpL_one,dpT_mk]at *
  omega
 ·refine .seq (bump_sig (sig_at h)) fun t1 e1 q1=>.seq (if_does (c:=0) (y:=0) (d:=1) (fun t2 _=>.nop (by simp only[Sp,szL_nil,dpL_nil];omega)) (by decide) (by decide)) fun t2 e2 q2=>((ih t2 (by have:=q1.1;have:=q2.1;omega)).ex 15 (by decide) (by decide)).mono fun t3 e3 q3=>⟨⟨_,rfl⟩,?_⟩
  have q3:=ex_sp q3
  simp only[Sp,Bs,szL_append,dpL_append,Nat.max_le,szL_one,szT_mk,dpL_one,dpT_mk]at *
  omega
 ·obtain⟨t1,e1,k1,⟨t,rfl⟩,k2,k3⟩:=primary_does ih
  obtain⟨b,t2,t',m1,m2,m3⟩:=wraps_does (c:=rAt [wLPar,wDot]) (g:=.ite (rAt [wLPar]) (.wrap 30 gArgs)
    (.ite (fun _ t u=>t.1==103&&atT [wLPar] u) (.wrap 31 (.seq .bump (.seq .bump gArgs))) (.wrap 32 (.seq .bump gIdent)))) (ts0:=ts) (fun u x hl hc q=>by
   have hs:=sig_at hc
   have ih':∀t1,t1.length<u.length→AllE t1:=fun t1 h1=>ih t1 (by omega)
   cases h1:ev (rAt [wLPar]) u with
   | true =>
    obtain⟨t1,x',k1,k2⟩:=wrap_round (k:=30) (by decide) q (args_does hs ih')
    exact⟨_,t1,x',.ite1 h1 k1,k2⟩
   | false =>
    cases h2:ev (fun _ t u=>t.1==103&&atT [wLPar] u) u with
    | true =>
     obtain⟨t1,x',k1,k2⟩:=wrap_round (k:=31) (g:=.seq .bump (.seq .bump gArgs)) (by decide) q (by
      refine .seq (bump_sig hs) fun t2 e2 q2=>.seq (bump_any t2) fun t3 e3 q3=>.seq (bump_any t3) fun t4 e4 q4=>(list_does (d:=5) (by decide) t4 fun t5 h5 _=>((ih' t5 (by have:=q2.1;have:=q3.1;have:=q4.1;omega)).ex 10 (by decide) (by decide)).mono fun t e q=>sp_le q.2.1 (by decide) (by decide) (by decide)).mono fun t5 e5 q5=>?_
      clear q k2
      simp only[Sp,Bs,Bp,szL_append,dpL_append,Nat.max_le]at *
      omega)
     exact⟨_,t1,x',.ite2 h1 (.ite1 h2 k1),k2⟩
    | false =>
     obtain⟨t1,x',k1,k2⟩:=wrap_round (k:=32) (g:=.seq .bump gIdent) (by decide) q (by
      refine .seq (bump_sig hs) fun t2 e2 q2=>(ident_does t2).mono fun t3 e3 q3=>?_
      clear q k2
      simp only[Sp,Bs,Bp,szL_append,dpL_append,Nat.max_le]at *
      omega)
     exact⟨_,t1,x',.ite2 h1 (.ite2 h2 k1),k2⟩) k2
  have hb:b=false:=by
   have:∀{c:Cnd} {g:G} {ts t':List Tok} {cs e:List Tree} {b:Bool},Runs (.whil c g) ts cs b t' e→(∀ts cs b t' e,Runs g ts cs b t' e→b=false)→b=false:=by
    intro c g ts t' cs e b h hg
    generalize hx:G.whil c g=x at h
    induction h with
    | whil0 hc=>rfl
    | whil1 hc h i=>cases hx;exact hg _ _ _ _ _ h
    | whil2 hc h h2 i1 i2=>exact i2 hx
    | _=>cases hx
   have fe:∀{w:Bytes} ts cs b t' e,Runs (gExpect w) ts cs b t' e→b=false:=by
    intro w ts cs b t' e h
    cases h with
    | ite1 _ h=>cases h;rfl
    | ite2 _ h=>cases h;rfl
   have fi:∀ts cs b t' e,Runs gIdent ts cs b t' e→b=false:=by
    intro ts cs b t' e h
    cases h with
    | ite1 _ h=>cases h;rfl
    | ite2 _ h=>cases h;rfl
   have fa:∀ts cs b t' e,Runs gArgs ts cs b t' e→b=false:=by
    intro ts cs b t' e h
    cases h with
    | seq _ h=>cases h with
     | seq _ h=>exact fe _ _ _ _ _ h
   refine this m1 fun ts cs b t' e h=>?_
   cases h with
   | ite1 _ h=>cases h with
    | wrap _ _ h=>exact fa _ _ _ _ _ h
   | ite2 _ h=>cases h with
    | ite1 _ h=>cases h with
     | wrap _ _ h=>cases h with
      | seq _ h=>cases h with
       | seq _ h=>exact fa _ _ _ _ _ h
    | ite2 _ h=>cases h with
     | wrap _ _ h=>cases h with
      | seq _ h=>exact fi _ _ _ _ _ h
  subst hb
  exact⟨t2,_,.seq k1 m1,⟨_,rfl⟩,m3,fun h=>by have:=k3 h;omega⟩
theorem binary_does {ts:List Tok}(ih:∀t1,t1.length<ts.length→AllE t1)(l:Nat)(hl:l<5)(h:Does (.call (11+l)) ts (Ex ts)):Does (.call (10+l)) ts (Ex ts):=by
 have hd:defs (10+l)=gBinary l:=by
  match l with
  | 0|1|2|3|4=>rfl
  | n+5=>omega
 refine .call ?_
 rw[hd]
 obtain⟨t1,e1,k1,⟨t,rfl⟩,k2,k3⟩:=h
 obtain⟨b,t2,t',m1,m2,m3⟩:=wraps_does (c:=rAt (binOps l)) (g:=.seq (.wrap 39 (.seq .bump (.call (11+l)))) (.ret (l==2))) (ts0:=ts) (fun u x hu hc q=>by
  obtain⟨t1,x',k1,k2⟩:=wrap_round (k:=39) (g:=.seq .bump (.call (11+l))) (by decide) q (by
   refine .seq (bump_sig (sig_at hc)) fun t2 e2 q2=>((ih t2 (by have:=q2.1;omega)).ex (11+l) (by omega) (by omega)).mono fun t3 e3 q3=>?_
   have q3:=ex_sp q3
   clear q k2
   simp only[Sp,Bs,Bp,szL_append,dpL_append,Nat.max_le]at *
   omega)
  exact⟨_,t1,x',.seq k1 (.ret _ _ _),k2⟩) k2
 exact⟨t2,_,.seq k1 (.seq m1 (.ret _ _ _)),⟨_,rfl⟩,m3,fun h=>by have:=k3 h;omega⟩
theorem all_ex {ts:List Tok}(ih:∀t1,t1.length<ts.length→AllE t1): ∀l,10≤l→l≤15→Does (.call l) ts (Ex ts):=by
 have h5:=unary_does ih
 have h4:=binary_does ih 4 (by decide) h5
 have h3:=binary_does ih 3 (by decide) h4
 have h2:=binary_does ih 2 (by decide) h3
 have h1:=binary_does ih 1 (by decide) h2
 have h0:=binary_does ih 0 (by decide) h1
 intro l h h'
 have:l=10∨l=11∨l=12∨l=13∨l=14∨l=15:=by omega
 rcases this with e|e|e|e|e|e<;>subst e<;>assumption
theorem stm_does {ts:List Tok}(ih:∀t1,t1.length<ts.length→AllE t1)(bl:Bool){g:G}(hs:(pk ts).1≠100)(h:Does g ts (Ex ts)):∃b t' es,Runs (gStm bl g) ts [] b t' es∧Ss 13 6 ts t' es∧((∀b t1 e1,Runs g ts [] b t1 e1→t1.length=ts.length)→dpL es≤4+2*(ts.length-t'.length)):=by
 obtain⟨t1,e1,k1,⟨t,rfl⟩,k2,k3⟩:=h
 by_cases he:t1.length=ts.length
 ·have e':=runs_eq k1 he
  subst e'
  have hsrc:=runs_src k1
  rw[srcL_one,srcL,List.nil_append]at hsrc
  have ht:srcT t=[]:=by
   have:=congrArg List.length hsrc
   rw[List.length_append]at this
   exact List.length_eq_zero_iff.1 (by omega)
  obtain⟨t2,e2,m1,m2⟩:=leaf_does (k:=46) (by decide) hs
  refine⟨false,t2,e2,.stm1 (cs1:=[]) k1 rfl ⟨ht,by have:=k2.2.1 rfl;rw[szL_one]at this;exact this⟩ (.seq m1 (.ret _ _ _)),?_,fun _=>?_⟩
  ·have:=m2.2;clear k2;simp only[Ss]at *;omega
  ·have:=m2.2;clear k2;simp only[Ss]at *;omega
 ·have hlt:t1.length<ts.length:=by have:=k2.1;omega
  have no:(∀b t1 e1,Runs g ts [] b t1 e1→t1.length=ts.length)→False:=fun h=>he (h _ _ _ k1)
  suffices ∃b t' es,Runs (.ite (rAt [wRBr]) (.ret true) (.ite (rAt [wEq]) (.seq (.wrap 23 (.seq .bump (.seq (.call 10) (gExpect wSemi)))) nop) (.seq (.wrap 26 (.ite (rAt [wSemi]) .bump (if bl then nop else .put 108))) nop))) t1 [t] b t' es∧Ss 13 6 ts t' es by
   obtain⟨b,t',es,h1,h2⟩:=this
   exact⟨b,t',es,.stm2 k1 he h1,h2,fun h=>(no h).elim⟩
  cases c1:ev (rAt [wRBr]) t1 with
  | true=>exact⟨_,_,_,.ite1 c1 (.ret _ _ _),by simp only[Sp,Ss]at *;omega⟩
  | false =>
   cases c2:ev (rAt [wEq]) t1 with
   | true =>
    obtain⟨t2,e2,m1,m2⟩:Does (.seq .bump (.seq (.call 10) (gExpect wSemi))) t1 (Ss 17 4 t1):=by
     refine .seq (bump_sig (sig_at c2)) fun t2 e2 q2=>.seq ((ih t2 (by have:=q2.1;omega)).ex 10 (by decide) (by decide)) fun t3 e3 q3=>(expect_does _ t3).mono fun t4 e4 q4=>?_
     have q3:=ex_sp q3
     clear k2
     simp only[Sp,Ss,Bs,szL_append,dpL_append,Nat.max_le]at *
     omega
    have f:=runs_frame m1 [t]
    rw[List.append_nil]at f
    refine⟨_,t2,_,.ite2 c1 (.ite1 c2 (.seq (.wrap [] (by decide) f) (.ret _ _ _))),?_⟩
    simp only[Sp,Ss,szL_append,dpL_append,Nat.max_le,szL_one,szT_mk,dpL_one,dpT_mk,List.nil_append]at *
    omega
   | false =>
    obtain⟨t2,e2,m1,m2⟩:Does (.ite (rAt [wSemi]) .bump (if bl then nop else .put 108)) t1 (Sp 1 23 1 t1):=by
     refine .ite (fun h=>(bump_sig (sig_at h)).mono fun _ _ q=>?_) fun _=>?_
     ·simp only[Sp,Bs]at *;omega
     ·cases bl with
      | true=>exact .nop (by simp only[Sp,szL_nil,dpL_nil];omega)
      | false=>exact .put (by simp only[Sp,szL_one,szT_mk,szL_nil,dpL_one,dpT_mk,dpL_nil];omega)
    have f:=runs_frame m1 [t]
    rw[List.append_nil]at f
    refine⟨_,t2,_,.ite2 c1 (.ite2 c2 (.seq (.wrap [] (by decide) f) (.ret _ _ _))),?_⟩
    simp only[Sp,Ss,szL_append,dpL_append,Nat.max_le,szL_one,szT_mk,dpL_one,dpT_mk,List.nil_append]at *
    omega
theorem let_does {ts:List Tok}(ih:∀t1,t1.length<ts.length→AllE t1)(hs:(pk ts).1≠100):Does gLet ts (Ss 13 4 ts):=by
 refine .node (by decide) (.seq (bump_sig hs) fun t1 e1 q1=>(Does.seqZ (c1:=3) (c2:=4) (d:=5) ((pat t1).mono fun _ _ q=>sz_of q.1) fun t2 h2=>.seqZ (c1:=1) (c2:=3) ((opt_does (c:=3) (y:=15) (d:=4) (fun t _=>typ t) (by decide)).z (by decide)) fun t3 h3=>.seqZ (c1:=1) (c2:=2) ((expect_does _ t3).z (by decide)) fun t4 h4 =>
  .seqZ (c1:=1) (c2:=1) (((ih t4 (by have:=q1.1;omega)).ex 10 (by decide) (by decide)).mono fun _ _ q=>sz_of (ex_sp q)) fun t5 h5=>(expect_does _ t5).z (by decide)).mono fun t2 e2 q2=>?_)
 simp only[Sz,Ss,Bs,szL_append,dpL_append,Nat.max_le,szL_one,szT_mk,dpL_one,dpT_mk]at *
 omega
theorem while_does {ts:List Tok}(ih:∀t1,t1.length<ts.length→AllE t1)(hs:(pk ts).1≠100):Does gWhile ts (Ss 13 4 ts):=by
 refine .node (by decide) (.seq (bump_sig hs) fun t1 e1 q1=>(cond_does ih q1.1).mono fun t2 e2 q2=>?_)
 simp only[Sp,Ss,Bs,szL_append,dpL_append,Nat.max_le,szL_one,szT_mk,dpL_one,dpT_mk]at *
 omega
theorem return_does {ts:List Tok}(ih:∀t1,t1.length<ts.length→AllE t1)(hs:(pk ts).1≠100):Does gReturn ts (Ss 13 4 ts):=by
 refine .node (by decide) (.seq (bump_sig hs) fun t1 e1 q1=>.seq (Qa:=Sp 1 15 5 t1) (.ite (fun _=>.put ?_) fun _=>((ih t1 q1.1).ex 10 (by decide) (by decide)).mono fun t e q=>ex_sp q) fun t2 e2 q2=>(expect_does _ t2).mono fun t3 e3 q3=>?_)
 ·simp only[Sp,szL_one,szT_mk,szL_nil,dpL_one,dpT_mk,dpL_nil];omega
 ·simp only[Sp,Ss,Bs,szL_append,dpL_append,Nat.max_le,szL_one,szT_mk,dpL_one,dpT_mk]at *
  omega
theorem nop_after {ts:List Tok}{g:G}(h:Does g ts (Ss 13 4 ts)):∃b t' es,Runs (.seq g nop) ts [] b t' es∧StQ ts t' es:=by
 obtain⟨t1,e1,h1,h2⟩:=h
 exact⟨false,t1,e1,.seq h1 (.ret _ _ _),by simp only[Ss]at *;omega,fun _=>h2.2.2⟩
theorem statement_does {ts:List Tok}(ih:∀t1,t1.length<ts.length→AllE t1)(hs:(pk ts).1≠100):∃b t' es,Runs (.call 2) ts [] b t' es∧StQ ts t' es:=by
 suffices ∃b t' es,Runs gStatement ts [] b t' es∧StQ ts t' es by
  obtain⟨b,t',es,h1,h2⟩:=this
  exact⟨b,t',es,.call h1,h2⟩
 cases c1:ev (rAt [wLet]) ts with
 | true =>
  obtain⟨b,t',es,h1,h2⟩:=nop_after (let_does ih hs)
  exact⟨b,t',es,.ite1 c1 h1,h2⟩
 | false =>
  cases c2:ev (rAt [wWhile]) ts with
  | true =>
   obtain⟨b,t',es,h1,h2⟩:=nop_after (while_does ih hs)
   exact⟨b,t',es,.ite2 c1 (.ite1 c2 h1),h2⟩
  | false =>
   cases c3:ev (rAt [wReturn]) ts with
   | true =>
    obtain⟨b,t',es,h1,h2⟩:=nop_after (return_does ih hs)
    exact⟨b,t',es,.ite2 c1 (.ite2 c2 (.ite1 c3 h1)),h2⟩
   | false =>
    cases c4:ev bigC ts with
    | true =>
     obtain⟨b,t',es,h1,h2,_⟩:=stm_does ih true hs (primary_does ih)
     refine⟨b,t',es,.ite2 c1 (.ite2 c2 (.ite2 c3 (.ite1 c4 h1))),h2,fun hn=>?_⟩
     obtain⟨t1,e1,k1,k2⟩:=all_ex ih 10 (by decide) (by decide)
     have:=hn _ _ _ k1
     have:=k2.2.2 c4
     omega
    | false =>
     obtain⟨b,t',es,h1,h2,h3⟩:=stm_does ih false hs (all_ex ih 10 (by decide) (by decide))
     exact⟨b,t',es,.ite2 c1 (.ite2 c2 (.ite2 c3 (.ite2 c4 h1))),h2,h3⟩
theorem block_does {ts:List Tok}(ih:∀t1,t1.length<ts.length→AllE t1): Does (.call 1) ts (BlQ ts):=by
 cases hb:ev (rAt [wLBr]) ts with
 | true=>exact(block_at ih hb).mono fun t e q=>⟨sp_of_ss q.2 (by decide) (by decide),fun _=>q.2.2.2⟩
 | false =>
  have hx:Does (gExpect wLBr) ts (fun t1 e1=>t1=ts∧szL e1=1∧dpL e1=1):=.ite (fun h'=>by rw[hb]at h';cases h') fun h'=>.put ⟨rfl,by simp only[szL_one,szT_mk,szL_nil],by simp only[dpL_one,dpT_mk,dpL_nil]⟩
  have st:∀t1,t1.length≤ts.length→(pk t1).1≠100→∃b t' es,Runs (.call 2) t1 [] b t' es∧StQ t1 t' es:=by
   intro t1 hl hs
   by_cases he:t1.length<ts.length
   ·exact(ih t1 he).st hs
   ·exact statement_does (fun t2 h2=>ih t2 (by omega)) hs
  by_cases hn:NoEx ts
  ·refine .call (.node (by decide) (.seq hx fun t1 e1 q1=>.seq (Qa:=Sp 1 12 4 t1) (stms_does (d:=4) t1 (by decide) fun t2 h2 hs=>?_) fun t2 e2 q2=>(expect_does _ t2).mono fun t3 e3 q3=>?_))
   ·obtain⟨e,_⟩:=q1
    subst e
    obtain⟨b,t',es,k1,k2,k3⟩:=st t2 h2 hs
    exact⟨b,t',es,k1,k2,fun e=>by subst e;exact k3 hn⟩
   ·obtain⟨e,q1⟩:=q1
    subst e
    refine⟨?_,fun _=>?_⟩
    ·simp only[Sp,Ss,Bs,szL_append,dpL_append,Nat.max_le,szL_one,szT_mk,dpL_one,dpT_mk]at *
     omega
    ·have:dpL (e1++(e2++e3))≤4+2*(t1.length-t3.length):=by
      simp only[Sp,dpL_append,Nat.max_le]at *
      omega
     rw[dpL_one,dpT_mk]
     omega
  ·refine .call (.node (by decide) (.seq hx fun t1 e1 q1=>.seq (Qa:=Sp 1 12 6 t1) (stms_does (d:=6) t1 (by decide) fun t2 h2 hs=>?_) fun t2 e2 q2=>(expect_does _ t2).mono fun t3 e3 q3=>?_))
   ·obtain⟨e,_⟩:=q1
    subst e
    obtain⟨b,t',es,k1,k2,k3⟩:=st t2 h2 hs
    exact⟨b,t',es,k1,k2,fun e=>by subst e;exact k2.2.2⟩
   ·obtain⟨e,q1⟩:=q1
    subst e
    refine⟨?_,fun h=>(hn h).elim⟩
    simp only[Sp,Ss,Bs,szL_append,dpL_append,Nat.max_le,szL_one,szT_mk,dpL_one,dpT_mk]at *
    omega
theorem allE:∀(n:Nat)(ts:List Tok),ts.length<n→AllE ts:=by
 intro n
 induction n with
 | zero=>intro ts h;omega
 | succ n ih =>
  intro ts h
  have ih':∀t1,t1.length<ts.length→AllE t1:=fun t1 h1=>ih t1 (by omega)
  exact⟨all_ex ih',if_expr ih',statement_does ih',block_does ih'⟩
theorem expr (ts:List Tok):Does (.call 10) ts (Ex ts):=(allE _ ts (Nat.lt_succ_self _)).ex 10 (by decide) (by decide)
theorem block (ts:List Tok):Does (.call 1) ts (Sp 4 9 7 ts):=((allE _ ts (Nat.lt_succ_self _)).bl).mono fun _ _ q=>q.1
end Pm
end

section
namespace Pm
theorem typeParam_does (ts:List Tok):Does gTypeParam ts (Sp 3 12 4 ts):=by
 refine .ite (fun h=>.node (by decide) (.seq (bump_sig (sig_id h)) fun t1 e1 q1=>(if_does (c:=3) (y:=14) (d:=4) (fun t2 _=>.seq (path true t2) fun t3 e3 q3=>(whil_does (y:=20) (d:=4) t3 fun t4 _ hc=>.seq (bump_sig (sig_at hc)) fun t5 e5 q5=>(path true t5).mono fun t6 e6 q6=>?_).mono fun t4 e4 q4=>?_) (by decide) (by decide)).mono fun t2 e2 q2=>?_)) fun _=>.nop (by simp only[Sp,szL_nil,dpL_nil];omega)
 ·simp only[Sp,Ss,Bs,szL_append,dpL_append,Nat.max_le]at *
  omega
 ·clear q1
  simp only[Sp,szL_append,dpL_append,Nat.max_le]at *
  omega
 ·simp only[Sp,Bs,szL_append,dpL_append,Nat.max_le,szL_one,szT_mk,dpL_one,dpT_mk]at *
  omega
theorem typeParams_does (ts:List Tok):Does gTypeParams ts (Sp 1 10 4 ts):=by
 refine .node (by decide) ((if_does (c:=1) (y:=10) (d:=4) (fun t1 _=>list_does (by decide) t1 fun t2 _ _=>typeParam_does t2) (by decide) (by decide)).mono fun t2 e2 q2=>?_)
 simp only[Sp,szL_append,dpL_append,Nat.max_le,szL_one,szT_mk,dpL_one,dpT_mk]at *
 omega
theorem optType_does (w:Bytes)(ts:List Tok):Does (gOpt w (.call 0)) ts (Sp 1 16 2 ts):=opt_does (c:=3) (y:=15) (d:=4) (fun t _=>typ t) (by decide)
theorem function_does (nb:Bool)(ts:List Tok):Does (gFunction nb) ts (Sz 10 7 ts):=by
 refine .seqZ (c1:=1) (c2:=9) ((ident_does ts).z (by decide)) fun t1 _=>.seqZ (c1:=1) (c2:=8) ((typeParams_does t1).z (by decide)) fun t2 _=>.seqZ (c1:=1) (c2:=7) ((expect_does _ t2).z (by decide)) fun t3 _ =>
  .seqZ (c1:=2) (c2:=5) ((params_does _ t3).z (by decide)) fun t4 _=>.seqZ (c1:=1) (c2:=4) ((optType_does _ t4).z (by decide)) fun t5 _=>?_
 cases nb with
 | true=>exact(block t5).z (by decide)
 | false =>
  refine .ite (fun h=>.seq (bump_sig (sig_at h)) fun t6 e6 q6=>.put ?_) fun _=>(block t5).z (by decide)
  simp only[Sz,Bs,szL_append,dpL_append,Nat.max_le,szL_one,szT_mk,szL_nil,dpL_one,dpT_mk,dpL_nil]at *
  omega
theorem data_does (st:Bool)(ts:List Tok):Does (gData st) ts (Sz 4 7 ts):=by
 refine .seqZ (c1:=1) (c2:=3) ((ident_does ts).z (by decide)) fun t1 _=>.seqZ (c1:=1) (c2:=2) ((typeParams_does t1).z (by decide)) fun t2 _=>.seqZ (c1:=1) (c2:=1) ((expect_does _ t2).z (by decide)) fun t3 _ =>
  (list_does (d:=5) (by decide) t3 fun t4 _ _=>.ite (fun h=>?_) fun _=>.nop (by simp only[Sp,szL_nil,dpL_nil];omega)).z (by decide)
 cases st with
 | true =>
  refine .node (by decide) (.seq (bump_sig (sig_id h)) fun t5 e5 q5=>.seq (expect_does _ t5) fun t6 e6 q6=>(typ t6).mono fun t7 e7 q7=>?_)
  simp only[Sp,Bs,szL_append,dpL_append,Nat.max_le,szL_one,szT_mk,dpL_one,dpT_mk]at *
  omega
 | false =>
  refine .node (by decide) (.seq (bump_sig (sig_id h)) fun t5 e5 q5=>(if_does (c:=1) (y:=10) (d:=4) (fun t6 _=>list_does (by decide) t6 fun t7 _ _=>(typ t7).mono fun _ _ q=>sp_le q (by decide) (by decide) (by decide)) (by decide) (by decide)).mono fun t6 e6 q6=>?_)
  simp only[Sp,Bs,szL_append,dpL_append,Nat.max_le,szL_one,szT_mk,dpL_one,dpT_mk]at *
  omega
theorem members_does (ts:List Tok):Does gMembers ts (Sz 2 6 ts):=by
 refine .seqZ (c1:=1) (c2:=1) ((expect_does _ ts).z (by decide)) fun t1 _=>.seqZ (c1:=0) (c2:=1) ((whil_does (y:=0) (d:=6) t1 fun t2 _ hc=>.ite (fun h=>?_) fun _=>?_).z (by decide)) fun t2 _=>(expect_does _ t2).z (by decide)
 ·refine .node (by decide) (.seq (bump_sig (sig_at hc)) fun t3 e3 q3=>.seq (function_does false t3) fun t4 e4 q4=>.nop ?_)
  simp only[Sz,Ss,Bs,szL_append,dpL_append,Nat.max_le,szL_one,szT_mk,dpL_one,dpT_mk,szL_nil,dpL_nil]at *
  omega
 ·refine .node (by decide) (.seq (bump_sig (sig_at hc)) fun t3 e3 q3=>.seq (ident_does t3) fun t4 e4 q4=>.seq (optType_does _ t4) fun t5 e5 q5=>(expect_does _ t5).mono fun t6 e6 q6=>?_)
  simp only[Sp,Ss,Bs,szL_append,dpL_append,Nat.max_le,szL_one,szT_mk,dpL_one,dpT_mk]at *
  omega
theorem impl_does (ts:List Tok):Does gImpl ts (Sz 7 7 ts):=by
 obtain⟨t1,e1,h1,q1⟩:=typeParams_does ts
 obtain⟨t2,e2,h2,⟨x,rfl⟩,q2⟩:=type_does _ t1 (Nat.le_refl _)
 have h2:=runs_frame h2 e1
 rw[List.append_nil]at h2
 have fin:∀t3 e3,Runs (.ite (rAt [wFor]) (.seq .bump (.call 0)) .insN) t2 (e1++[x]) false t3 e3→Sz 5 6 ts t3 e3→Does gImpl ts (Sz 7 7 ts):=by
  intro t3 e3 h3 q3
  obtain⟨t4,e4,h4,q4⟩:=members_does t3
  have h4:=runs_frame h4 e3
  rw[List.append_nil]at h4
  refine⟨t4,_,.seq h1 (.seq h2 (.seq h3 h4)),?_⟩
  simp only[Sz,szL_append,dpL_append,Nat.max_le]at *
  omega
 cases hc:ev (rAt [wFor]) t2 with
 | true =>
  obtain⟨t3,e3,h3,q3⟩:Does (.seq .bump (.call 0)) t2 (Sz 0 4 t2):=.seq (bump_sig (sig_at hc)) fun t e q=>(typ t).mono fun t' e' q'=>by
   simp only[Sp,Sz,Bs,szL_append,dpL_append,Nat.max_le]at *
   omega
  have h3:=runs_frame h3 (e1++[x])
  rw[List.append_nil]at h3
  refine fin t3 _ (.ite1 hc h3) ?_
  simp only[Sp,Sz,szL_append,dpL_append,Nat.max_le]at *
  omega
 | false =>
  refine fin t2 _ (.ite2 hc (.insN t2 e1 x)) ?_
  have a:szL [Tree.mk 0 [] [],x]=1+szL [x]:=by rw[szL,szT_mk,szL_nil]
  have b:dpL [Tree.mk 0 [] [],x]=max 1 (dpL [x]):=by rw[dpL,dpT_mk,dpL_nil]
  simp only[Sp,Sz,szL_append,dpL_append,a,b,Nat.max_le]at *
  omega
theorem use_does (ts:List Tok):Does gUse ts (Sz 5 6 ts):=by
 refine .seqZ (c1:=4) (c2:=1) ?_ fun t1 _=>(expect_does _ t1).z (by decide)
 obtain⟨t1,e1,h1,q1⟩:Does (.node 18 gIdent) ts (Sz 2 2 ts):=.nodeZ (by decide) ((ident_does ts).z (by decide))
 obtain⟨b,t2,e2,h2,q2⟩:=whil_ruleB (c:=rAt [wColCol]) (g:=.ite (fun _ t _=>atT [wStar] t) (.ret true) (.seq .bump (.seq (.node 18 gIdent) nop))) (fun t e=>Sz 2 2 ts t e) (fun t e hI hc=>by
  cases hs:ev (fun _ t _=>atT [wStar] t) t with
  | true=>exact⟨true,t,e,.ite1 hs (.ret _ _ _),nofun,hI⟩
  | false =>
   obtain⟨t3,e3,h3,q3,q3'⟩:Does (.seq .bump (.seq (.node 18 gIdent) nop)) t (fun t3 e3=>t3.length<t.length∧Sz 0 2 t t3 e3):=.seq (bump_sig (sig_at hc)) fun t3 e3 q3=>.seq (Does.nodeZ (c:=1) (d:=1) (by decide) ((ident_does t3).z (by decide))) fun t4 e4 q4=>.nop (by
    simp only[Sz,Bs,szL_append,dpL_append,szL_nil,dpL_nil,Nat.max_le]at *
    omega)
   have h3:=runs_frame h3 e
   rw[List.append_nil]at h3
   refine⟨false,t3,_,.ite2 hs h3,fun _=>q3,?_⟩
   simp only[Sz,szL_append,dpL_append,Nat.max_le]at *
   omega) t1.length t1 e1 (Nat.le_refl _) q1
 have hn:=Runs.node (k:=17) [] (by decide) (.seq h1 h2)
 obtain⟨t3,e3,h3,q3⟩:Does (if b then .seq .bump .bump else gIf [wAs] gIdent) t2 (Sz 0 1 t2):=by
  cases b with
  | true =>
   refine .seq (bump_any t2) fun t3 e3 q3=>(bump_any t3).mono fun t4 e4 q4=>?_
   simp only[Sz,Bp,szL_append,dpL_append,Nat.max_le]at *
   omega
  | false=>exact(if_does (c:=1) (y:=23) (d:=1) (fun t _=>ident_does t) (by decide) (by decide)).z (by decide)
 have h3:=runs_frame h3 [.mk 17 [] e2]
 rw[List.append_nil]at h3
 have q:Sz 4 6 ts t3 ([.mk 17 [] e2]++e3):=by
  simp only[Sz,szL_append,dpL_append,Nat.max_le,szL_one,szT_mk,dpL_one,dpT_mk]at *
  omega
 cases b with
 | true=>exact⟨t3,_,.bra1 hn h3,q⟩
 | false=>exact⟨t3,_,.bra2 hn h3,q⟩
theorem expr_z (ts:List Tok):Does (.call 10) ts (Sz 1 6 ts):=(expr ts).mono fun _ _ q=>by have:=q.2.1;simp only[Sp,Sz]at *;omega
theorem const_does (ts:List Tok):Does gConst ts (Sz 8 7 ts) :=
 (Does.seqZ (c1:=1) (c2:=7) (d:=6) ((ident_does ts).z (by decide)) fun t1 _=>.seqZ (c1:=1) (c2:=6) ((expect_does _ t1).z (by decide)) fun t2 _=>.seqZ (c1:=3) (c2:=3) ((typ t2).z (by decide)) fun t3 _ =>
  .seqZ (c1:=1) (c2:=2) ((expect_does _ t3).z (by decide)) fun t4 _=>.seqZ (c1:=1) (c2:=1) (expr_z t4) fun t5 _=>(expect_does _ t5).z (by decide)).le (by decide) (by decide)
theorem macro_does (ts:List Tok):Does gMacro ts (Sz 7 7 ts) :=
 (Does.seqZ (c1:=1) (c2:=6) (d:=6) ((ident_does ts).z (by decide)) fun t1 _=>.seqZ (c1:=1) (c2:=5) ((expect_does _ t1).z (by decide)) fun t2 _=>.seqZ (c1:=2) (c2:=3) ((params_does _ t2).z (by decide)) fun t3 _ =>
  .seqZ (c1:=1) (c2:=2) ((expect_does _ t3).z (by decide)) fun t4 _=>.seqZ (c1:=1) (c2:=1) (expr_z t4) fun t5 _=>(expect_does _ t5).z (by decide)).le (by decide) (by decide)
theorem body_does (k:Nat)(ts:List Tok):Does (gBody k) ts (Sz 20 7 ts):=by
 unfold gBody
 split
 ·exact(use_does ts).le (by decide) (by decide)
 ·exact(function_does true ts).le (by decide) (by decide)
 ·exact(data_does true ts).le (by decide) (by decide)
 ·exact(data_does false ts).le (by decide) (by decide)
 ·exact(Does.seqZ (c1:=1) (c2:=2) (d:=6) ((ident_does ts).z (by decide)) fun t1 _=>(members_does t1).le (by decide) (by decide)).le (by decide) (by decide)
 ·exact(impl_does ts).le (by decide) (by decide)
 ·exact(const_does ts).le (by decide) (by decide)
 ·exact(macro_does ts).le (by decide) (by decide)
theorem itemAs_does {k:Nat}(hk:k<100){ts:List Tok}(hs:(pk ts).1≠100):Does (gItemAs k) ts fun t' es=>(∃t,es=[t])∧Ss 0 6 ts t' es:=by
 suffices h:Does (.seq (gIf [wPub] nop) (.seq .bump (gBody k))) ts (Ss 1 5 ts) from .node hk (h.mono fun t e q=>⟨⟨_,rfl⟩,by simp only[Ss,szL_one,szT_mk,dpL_one,dpT_mk]at *;omega⟩)
 cases hp:ev (rAt [wPub]) ts with
 | true =>
  refine .seq (Qa:=Bs ts) (.ite (fun _=>.seq (bump_sig hs) fun t e q=>.nop (by rw[List.append_nil];exact q)) fun h=>by rw[hp]at h;cases h) fun t1 e1 q1=>.seq (bump_any t1) fun t2 e2 q2=>(body_does k t2).mono fun t3 e3 q3=>?_
  simp only[Ss,Sz,Bs,Bp,szL_append,dpL_append,Nat.max_le]at *
  omega
 | false =>
  refine .seq (Qa:=fun t1 e1=>t1=ts∧e1=[]) (.ite (fun h=>by rw[hp]at h;cases h) fun _=>.nop ⟨rfl,rfl⟩) fun t1 e1 q1=>?_
  obtain⟨rfl,rfl⟩:=q1
  refine .seq (bump_sig hs) fun t2 e2 q2=>(body_does k t2).mono fun t3 e3 q3=>?_
  rw[List.nil_append]
  simp only[Ss,Sz,Bs,Bp,szL_append,dpL_append,Nat.max_le]at *
  omega
theorem skip_does {ts:List Tok}(hs:(pk ts).1≠100):Does gSkip ts fun t' es=>(∃t,es=[t])∧Ss 0 6 ts t' es:=by
 refine .node (by decide) (.seq (bump_sig hs) fun t1 e1 q1=>(whil_does (y:=0) (d:=1) t1 fun t2 _ hc=>(bump_sig (sig_c hc (by intro t u v e;simp[e]))).mono fun t3 e3 q3=>?_).mono fun t2 e2 q2=>⟨⟨_,rfl⟩,?_⟩)
 ·simp only[Ss,Bs]at *;omega
 ·simp only[Sp,Ss,Bs,szL_append,dpL_append,Nat.max_le,szL_one,szT_mk,dpL_one,dpT_mk]at *
  omega
theorem item_does {ts:List Tok}(hs:(pk ts).1≠100):Does gItem ts fun t' es=>(∃t,es=[t])∧Ss 0 6 ts t' es :=
 .ite (fun _=>itemAs_does (by decide) hs) fun _=>.ite (fun _=>itemAs_does (by decide) hs) fun _=>.ite (fun _=>itemAs_does (by decide) hs) fun _=>.ite (fun _=>itemAs_does (by decide) hs) fun _ =>
 .ite (fun _=>itemAs_does (by decide) hs) fun _=>.ite (fun _=>itemAs_does (by decide) hs) fun _=>.ite (fun _=>itemAs_does (by decide) hs) fun _=>.ite (fun _=>itemAs_does (by decide) hs) fun _=>skip_does hs
theorem file_does (ts:List Tok):∃t' es,Runs gFile ts [] false t' es∧(pk t').1=100∧Sp 0 0 6 ts t' es:=by
 obtain⟨t',e',h1,h2,h3⟩:=whil_rule (c:=fun t _ _=>!(t.1==100)) (g:=.seq gItem nop) (fun t e=>Sp 0 0 6 ts t e) (fun t e q hc=>by
  obtain⟨t1,e1,k1,k2⟩:=item_does (sig_c hc (by intro t u v e;simp[e]))
  have k2:=k2.2
  have:=runs_frame k1 e
  rw[List.append_nil]at this
  refine⟨t1,e++e1,.seq this (.ret _ _ _),k2.1,?_⟩
  simp only[Sp,Ss,szL_append,dpL_append,Nat.max_le]at *
  omega) ts.length ts [] (Nat.le_refl _) (by simp only[Sp,szL_nil,dpL_nil];omega)
 refine⟨t',e',h1,?_,h2⟩
 simpa[ev] using h3
end Pm
end
