/- AbsA, AbsB, AbsC, AbsD, AbsE, AbsF, AbsG, AbsH, AbsI -/
import Derived.Orders
import Derived.Below
import Derived.Laws.Sem
import Derived.Laws.World
import Derived.Laws.Cells
import Derived.Laws.StructEq
import Derived.Laws.IdiomStrings
import Derived.Laws.Build
import Derived.Laws.IdiomCopy
set_option linter.all false

section
namespace Go.Abs
open Go
def oneC:Value→Bool
 | .agg _|.tuple _=>false
 | _=>true
inductive Flag where
 | sh|own|full
 deriving DecidableEq
inductive AV where
 | undef
 | bool (b:Bool)
 | int (k:IntKind) (n:Int)
 | str (s:List UInt8)
 | nilp
 | box (cs:List AV) (off:Nat)
 | ref (id off:Nat)
 | nils
 | sl (ty:TypeId) (z:Nat) (xs:List AV) (f:Flag)
 | nilm
 | nilf
 | nili
 | ifc
 | ifv (t:TypeId) (a:AV)
 | fn (f:FuncId) (first captured:List AV)
 | agg (cs:List AV)
 | tup (vs:List AV)
 | rs (ty:TypeId) (z id off len:Nat)
 | mr (id:Nat)
 deriving Inhabited
def AV.cells:AV→List AV
 | .agg cs=>cs
 | v=>[v]
def AV.strip:AV→AV
 | .sl ty z xs .own=>.sl ty z xs .sh
 | v=>v
def AV.isOwn:AV→Bool
 | .sl _ _ _ .own=>true
 | _=>false
def cellsOf (xs:List AV):List AV:=xs.flatMap AV.cells
mutual
def AV.noRef:AV→Bool
 | .box cs _=>noRefL cs
 | .ref _ _=>false
 | .rs _ _ _ _ _=>false
 | .mr _=>false
 | .sl _ _ xs _=>noRefL xs
 | .fn _ a b=>noRefL a&&noRefL b
 | .agg cs=>noRefL cs
 | .tup vs=>noRefL vs
 | .ifv _ a=>a.noRef
 | _=>true
def noRefL:List AV→Bool
 | []=>true
 | x::xs=>x.noRef&&noRefL xs
end
structure Lay where
 S:Nat→Nat→Option Value
 live:Nat→Bool
 loc:Nat→Nat
 sz:Nat→Nat
 bs:Nat→Nat
 m:Bool
mutual
inductive Rel (L:Lay):AV→Value→Prop
 | undef (v:Value):Rel L .undef v
 | bool (b:Bool):Rel L (.bool b) (.bool b)
 | int (k:IntKind) (n:Int):Rel L (.int k n) (.int k n)
 | str (s:List UInt8):Rel L (.str s) (.string ⟨s.toArray⟩)
 | nilp:Rel L .nilp (.pointer none)
 | box (b o:Nat) (cs:List AV) (off:Nat) (h:RelC L b o cs):Rel L (.box cs off) (.pointer (some ⟨b,o+off,none⟩))
 | ref (id off:Nat) (h:L.live id=true):Rel L (.ref id off) (.pointer (some ⟨L.loc id,L.bs id+off,none⟩))
 | nils:Rel L .nils (.slice none 0 0)
 | sl (b o:Nat) (ty:TypeId) (z:Nat) (xs:List AV) (f:Flag) (cap:Nat) (h:RelC L b o (cellsOf xs)) (hz:∀x∈xs,x.cells.length=z) (hc:xs.length≤cap∧(f=.full→cap=xs.length)):Rel L (.sl ty z xs f) (.slice (some ⟨b,o,none⟩) xs.length cap)
 | sl0 (a:Addr) (ty:TypeId) (z:Nat) (f:Flag) (cap:Nat) (hf:f=.sh∨(f=.full∧cap=0)):Rel L (.sl ty z [] f) (.slice (some a) 0 cap)
 | nilm:Rel L .nilm (.map none)
 | nilf:Rel L .nilf .nilFunc
 | nili:Rel L .nili .nilIface
 | ifc (t:TypeId) (u:Value):Rel L .ifc (.iface t u)
 | ifv (t:TypeId) (a:AV) (u:Value) (h:Rel L a u):Rel L (.ifv t a) (.iface t u)
 | fn (f:FuncId) (first captured:List AV) (vs ws:List Value) (h:RelL L first vs) (h':RelL L captured ws) :
   Rel L (.fn f first captured) (.func (.func f) vs.toArray ws.toArray)
 | agg (cs:List AV) (vs:List Value) (h:RelL L cs vs) (hv:∀v∈vs,oneC v=true):Rel L (.agg cs) (.agg vs.toArray)
 | tup (cs:List AV) (vs:List Value) (h:RelL L cs vs):Rel L (.tup cs) (.tuple vs.toArray)
 | rs (ty:TypeId) (z id off len cap:Nat) (h:L.live id=true) (hc:len≤cap∧off+cap*z≤L.sz id):Rel L (.rs ty z id off len) (.slice (some ⟨L.loc id,L.bs id+off,none⟩) len cap)
 | rs0 (a:Addr) (ty:TypeId) (z id off:Nat) (h:L.live id=true):Rel L (.rs ty z id off 0) (.slice (some a) 0 0)
 | mr (id:Nat) (h:L.live id=true):Rel L (.mr id) (.map (some (L.loc id)))
inductive RelL (L:Lay):List AV→List Value→Prop
 | nil:RelL L [] []
 | cons (a:AV) (v:Value) (as:List AV) (vs:List Value) (h:Rel L a v) (t:RelL L as vs):RelL L (a::as) (v::vs)
inductive RelC (L:Lay):Nat→Nat→List AV→Prop
 | nil (b o:Nat):RelC L b o []
 | cons (b o:Nat) (a:AV) (as:List AV) (v:Value) (hs:L.S b o=some v) (hv:oneC v=true) (h:Rel L a v) (t:RelC L b (o+1) as):RelC L b o (a::as)
end
structure Lay.le (L L':Lay):Prop where
 S:∀b o v,L.S b o=some v→L'.S b o=some v
 live:∀id,L.live id=true→L'.live id=true
 loc:∀id,L.live id=true→L'.loc id=L.loc id
 sz:∀id,L.live id=true→L'.sz id=L.sz id
 bs:∀id,L.live id=true→L'.bs id=L.bs id
 m:L'.m=L.m
theorem Lay.le.refl (L:Lay):L.le L:=⟨fun _ _ _ h=>h,fun _ h=>h,fun _ _=>rfl,fun _ _=>rfl,fun _ _=>rfl,rfl⟩
theorem Lay.le.trans {L L' L'':Lay}(h:L.le L')(k:L'.le L''):L.le L'' :=
 ⟨fun b o v x=>k.S b o v (h.S b o v x),fun id hi=>k.live id (h.live id hi),fun id hi=>(k.loc id (h.live id hi)).trans (h.loc id hi),fun id hi=>(k.sz id (h.live id hi)).trans (h.sz id hi),fun id hi=>(k.bs id (h.live id hi)).trans (h.bs id hi),k.m.trans h.m⟩
mutual
theorem Rel.mono {L L':Lay}(hL:L.le L'):∀{a:AV}{v:Value},Rel L a v→Rel L' a v
 | _,_,.undef v=>.undef v
 | _,_,.bool b=>.bool b
 | _,_,.int k n=>.int k n
 | _,_,.str s=>.str s
 | _,_,.nilp=>.nilp
 | _,_,.box b o cs off h=>.box b o cs off (RelC.mono hL h)
 | _,_,.ref id off h=>by
  rw[←hL.loc id h,←hL.bs id h];exact .ref id off (hL.live id h)
 | _,_,.nils=>.nils
 | _,_,.sl b o ty z xs f cap h hz hc=>.sl b o ty z xs f cap (RelC.mono hL h) hz hc
 | _,_,.sl0 a ty z f cap hf=>.sl0 a ty z f cap hf
 | _,_,.nilm=>.nilm
 | _,_,.nilf=>.nilf
 | _,_,.nili=>.nili
 | _,_,.ifc t u=>.ifc t u
 | _,_,.ifv t a u h=>.ifv t a u (Rel.mono hL h)
 | _,_,.fn f x y vs ws h h'=>.fn f x y vs ws (RelL.mono hL h) (RelL.mono hL h')
 | _,_,.agg cs vs h hv=>.agg cs vs (RelL.mono hL h) hv
 | _,_,.tup cs vs h=>.tup cs vs (RelL.mono hL h)
 | _,_,.rs ty z id off len cap h hc=>by
  rw[←hL.loc id h,←hL.bs id h];exact .rs ty z id off len cap (hL.live id h) (by rw[hL.sz id h];exact hc)
 | _,_,.rs0 a ty z id off h=>.rs0 a ty z id off (hL.live id h)
 | _,_,.mr id h=>by
  rw[←hL.loc id h];exact .mr id (hL.live id h)
theorem RelL.mono {L L':Lay}(hL:L.le L'):∀{a:List AV}{v:List Value},RelL L a v→RelL L' a v
 | _,_,.nil=>.nil
 | _,_,.cons a v as vs h t=>.cons a v as vs (Rel.mono hL h) (RelL.mono hL t)
theorem RelC.mono {L L':Lay}(hL:L.le L'):∀{b o:Nat}{a:List AV},RelC L b o a→RelC L' b o a
 | _,_,_,.nil b o=>.nil b o
 | _,_,_,.cons b o a as v hs hv h t=>.cons b o a as v (hL.S b o v hs) hv (Rel.mono hL h) (RelC.mono hL t)
end
mutual
theorem Rel.free {L L':Lay}(hS:∀b o v,L.S b o=some v→L'.S b o=some v):∀{a:AV}{v:Value},Rel L a v→a.noRef=true→Rel L' a v
 | _,_,.undef v,_=>.undef v
 | _,_,.bool b,_=>.bool b
 | _,_,.int k n,_=>.int k n
 | _,_,.str s,_=>.str s
 | _,_,.nilp,_=>.nilp
 | _,_,.box b o cs off h,e=>.box b o cs off (RelC.free hS h (by simpa[AV.noRef] using e))
 | _,_,.ref id off h,e=>by simp[AV.noRef]at e
 | _,_,.nils,_=>.nils
 | _,_,.sl b o ty z xs f cap h hz hc,e=>.sl b o ty z xs f cap (RelC.free hS h (by
   have e':noRefL xs=true:=by simpa[AV.noRef] using e
   exact noRefL_cells xs e')) hz hc
 | _,_,.sl0 a ty z f cap hf,_=>.sl0 a ty z f cap hf
 | _,_,.nilm,_=>.nilm
 | _,_,.nilf,_=>.nilf
 | _,_,.nili,_=>.nili
 | _,_,.ifc t u,_=>.ifc t u
 | _,_,.ifv t a u h,e=>.ifv t a u (Rel.free hS h (by simpa[AV.noRef] using e))
 | _,_,.fn f x y vs ws h h',e=>by
   simp only[AV.noRef,Bool.and_eq_true]at e
   exact .fn f x y vs ws (RelL.free hS h e.1) (RelL.free hS h' e.2)
 | _,_,.agg cs vs h hv,e=>.agg cs vs (RelL.free hS h (by simpa[AV.noRef] using e)) hv
 | _,_,.tup cs vs h,e=>.tup cs vs (RelL.free hS h (by simpa[AV.noRef] using e))
 | _,_,.rs ty z id off len cap h hc,e=>by simp[AV.noRef]at e
 | _,_,.rs0 a ty z id off h,e=>by simp[AV.noRef]at e
 | _,_,.mr id h,e=>by simp[AV.noRef]at e
theorem RelL.free {L L':Lay}(hS:∀b o v,L.S b o=some v→L'.S b o=some v):∀{a:List AV}{v:List Value},RelL L a v→noRefL a=true→RelL L' a v
 | _,_,.nil,_=>.nil
 | _,_,.cons a v as vs h t,e=>by
   simp only[noRefL,Bool.and_eq_true]at e
   exact .cons a v as vs (Rel.free hS h e.1) (RelL.free hS t e.2)
theorem RelC.free {L L':Lay}(hS:∀b o v,L.S b o=some v→L'.S b o=some v):∀{b o:Nat}{a:List AV},RelC L b o a→noRefL a=true→RelC L' b o a
 | _,_,_,.nil b o,_=>.nil b o
 | _,_,_,.cons b o a as v hs hv h t,e=>by
   simp only[noRefL,Bool.and_eq_true]at e
   exact .cons b o a as v (hS b o v hs) hv (Rel.free hS h e.1) (RelC.free hS t e.2)
theorem noRefL_cells:∀(xs:List AV),noRefL xs=true→noRefL (cellsOf xs)=true
 | [],_=>rfl
 | x::xs,e=>by
   simp only[noRefL,Bool.and_eq_true]at e
   have ih:=noRefL_cells xs e.2
   have app:∀(a b:List AV),noRefL a=true→noRefL b=true→noRefL (a++b)=true:=by
    intro a b ha hb
    induction a with
    | nil=>exact hb
    | cons y ys ih=>simp only[noRefL,Bool.and_eq_true,List.cons_append]at *;exact⟨ha.1,ih ha.2⟩
   show noRefL (x.cells++cellsOf xs)=true
   refine app _ _ ?_ ih
   cases x<;>simp_all [AV.cells,noRefL,AV.noRef]
end
theorem Rel.strip {L:Lay}{a:AV}{v:Value}(h:Rel L a v):Rel L a.strip v:=by
 cases h with
 | sl b o ty z xs f cap h hz hc =>
  cases f with
  | own=>exact .sl b o ty z xs .sh cap h hz ⟨hc.1,nofun⟩
  | sh=>exact .sl b o ty z xs .sh cap h hz hc
  | full=>exact .sl b o ty z xs .full cap h hz hc
 | undef v=>exact .undef v
 | bool b=>exact .bool b
 | int k n=>exact .int k n
 | str s=>exact .str s
 | nilp=>exact .nilp
 | box b o cs off h=>exact .box b o cs off h
 | ref id off h=>exact .ref id off h
 | nils=>exact .nils
 | sl0 a ty z f cap hf =>
  rcases hf with rfl|⟨rfl,rfl⟩
  ·exact .sl0 a ty z .sh cap (.inl rfl)
  ·exact .sl0 a ty z .full 0 (.inr ⟨rfl,rfl⟩)
 | nilm=>exact .nilm
 | nilf=>exact .nilf
 | nili=>exact .nili
 | ifc t u=>exact .ifc t u
 | ifv t a u h=>exact .ifv t a u h
 | fn f x y vs ws h h'=>exact .fn f x y vs ws h h'
 | agg cs vs h hv=>exact .agg cs vs h hv
 | tup cs vs h=>exact .tup cs vs h
 | rs ty z id off len cap h hc=>exact .rs ty z id off len cap h hc
 | rs0 a ty z id off h=>exact .rs0 a ty z id off h
 | mr id h=>exact .mr id h
theorem strip_isOwn (a:AV):a.strip.isOwn=false:=by
 cases a with
 | sl ty z xs f=>cases f<;>rfl
 | _=>rfl
theorem RelL.length {L:Lay}:∀{as:List AV}{vs:List Value},RelL L as vs→as.length=vs.length
 | _,_,.nil=>rfl
 | _,_,.cons _ _ _ _ _ t=>by simp[RelL.length t]
theorem RelL.get {L:Lay}:∀{as:List AV}{vs:List Value},RelL L as vs→∀(i:Nat)(a:AV),as[i]?=some a→∃v,vs[i]?=some v∧Rel L a v
 | _,_,.cons a v as vs h t,0,x,e=>by simp at e;exact⟨v,by simp,e▸h⟩
 | _,_,.cons a v as vs h t,i+1,x,e=>by simp at e;obtain⟨u,hu,r⟩:=RelL.get t i x e;exact⟨u,by simpa using hu,r⟩
theorem RelL.append {L:Lay}:∀{as bs:List AV}{vs ws:List Value},RelL L as vs→RelL L bs ws→RelL L (as++bs) (vs++ws)
 | _,_,_,_,.nil,k=>k
 | _,_,_,_,.cons a v as vs h t,k=>.cons a v _ _ h (RelL.append t k)
theorem RelL.drop {L:Lay}:∀(n:Nat){as:List AV}{vs:List Value},RelL L as vs→RelL L (as.drop n) (vs.drop n)
 | 0,_,_,h=>by simpa using h
 | n+1,_,_,.nil=>by simpa using RelL.nil
 | n+1,_,_,.cons a v as vs h t=>by simpa using RelL.drop n t
theorem RelL.take {L:Lay}:∀(n:Nat){as:List AV}{vs:List Value},RelL L as vs→RelL L (as.take n) (vs.take n)
 | 0,_,_,_=>by simpa using RelL.nil
 | n+1,_,_,.nil=>by simpa using RelL.nil
 | n+1,_,_,.cons a v as vs h t=>by simpa using RelL.cons a v _ _ h (RelL.take n t)
theorem RelL.set {L:Lay}:∀(i:Nat){as:List AV}{vs:List Value}{a:AV}{v:Value},RelL L as vs→Rel L a v→RelL L (as.set i a) (vs.set i v)
 | _,_,_,_,_,.nil,_=>by simpa using RelL.nil
 | 0,_,_,_,_,.cons a v as vs h t,k=>.cons _ _ _ _ k t
 | i+1,_,_,_,_,.cons a v as vs h t,k=>.cons _ _ _ _ h (RelL.set i t k)
theorem RelL.snoc {L:Lay}{as:List AV}{vs:List Value}{a:AV}{v:Value}(h:RelL L as vs)(k:Rel L a v):RelL L (as++[a]) (vs++[v]) :=
 h.append (.cons _ _ _ _ k .nil)
theorem RelC.append {L:Lay}:∀{b o:Nat}{as bs:List AV},RelC L b o as→RelC L b (o+as.length) bs→RelC L b o (as++bs)
 | _,_,_,_,.nil b o,k=>by simpa using k
 | _,_,_,_,.cons b o a as v hs hv h t,k=>.cons b o a _ v hs hv h (RelC.append t (by simpa[Nat.add_assoc,Nat.add_comm 1] using k))
theorem RelC.left {L:Lay}:∀{b o:Nat}(as:List AV){bs:List AV},RelC L b o (as++bs)→RelC L b o as
 | b,o,[],_,_=>.nil b o
 | _,_,a::as,_,.cons b o _ _ v hs hv h t=>.cons b o a as v hs hv h (RelC.left as t)
theorem RelC.right {L:Lay}:∀{b o:Nat}(as:List AV){bs:List AV},RelC L b o (as++bs)→RelC L b (o+as.length) bs
 | b,o,[],_,h=>by simpa using h
 | _,_,a::as,_,.cons b o _ _ v hs hv h t=>by
  have:=RelC.right as t
  simpa[Nat.add_assoc,Nat.add_comm 1] using this
theorem RelC.get {L:Lay}:∀{b o:Nat}{as:List AV},RelC L b o as→∀(i:Nat)(a:AV),as[i]?=some a→∃v,L.S b (o+i)=some v∧oneC v=true∧Rel L a v
 | _,_,_,.cons b o a as v hs hv h t,0,x,e=>by simp at e;exact⟨v,by simpa using hs,hv,e▸h⟩
 | _,_,_,.cons b o a as v hs hv h t,i+1,x,e=>by
  simp at e;obtain⟨u,hu,r⟩:=RelC.get t i x e;exact⟨u,by rw[←hu];congr 1;omega,r⟩
theorem RelC.vals {L:Lay}:∀{b o:Nat}{as:List AV},RelC L b o as→∃vs:List Value,RelL L as vs∧(∀v∈vs,oneC v=true)∧∀i v,vs[i]?=some v→L.S b (o+i)=some v
 | _,_,_,.nil b o=>⟨[],.nil,by simp,by simp⟩
 | _,_,_,.cons b o a as v hs hv h t=>by
  obtain⟨vs,h1,h2,h3⟩:=RelC.vals t
  refine⟨v::vs,.cons _ _ _ _ h h1,by simpa using ⟨hv,h2⟩,?_⟩
  intro i u hu
  cases i with
  | zero=>simp at hu;subst hu;simpa using hs
  | succ i=>simp at hu;have:=h3 i u hu;rw[←this];congr 1;omega
theorem RelC.of {L:Lay}:∀{as:List AV}{vs:List Value},RelL L as vs→(∀v∈vs,oneC v=true)→∀{b o:Nat},(∀i v,vs[i]?=some v→L.S b (o+i)=some v)→RelC L b o as
 | _,_,.nil,_,b,o,_=>.nil b o
 | _,_,.cons a v as vs h t,h1,b,o,hs =>
  .cons b o a as v (by simpa using hs 0 v (by simp)) (h1 v (by simp)) h (RelC.of t (fun u hu=>h1 u (by simp[hu])) (by intro i u hu;have:=hs (i+1) u (by simpa using hu);rw[←this];congr 1;omega))
end Go.Abs
end

section
namespace Go.Abs
open Go
inductive Place where
 | free
 | obj (id:Nat)
 | cell (id k:Nat)
 | slot (t:Nat)
 | arg
 | ret
 | frame
 deriving DecidableEq
def Place.excl:Place→Bool
 | .obj _|.cell _ _=>true
 | _=>false
abbrev Heap:=List (TypeId×List AV)
abbrev Env:=Nat→AV
abbrev Owns:=Nat→Place
def OwnAt (L:Lay)(ow:Owns)(w:World)(p:Place):AV→Value→Prop
 | .sl ty z xs .own,.slice (some ad) _ cap=>ow ad.block=p∧(∃c fz,w.heap[ad.block]?=some (.cells c ty fz)∧ad.off=0∧cap*z≤c.size) ∧
   ∀o,xs.length*z≤o→w.frozen? ⟨ad.block,o,none⟩=false∧L.S ad.block o=none
 | _,_=>True
def NoOwn (r:AV)(v:Value):Prop:=∀(L:Lay)(ow:Owns)(w:World)(p:Place),OwnAt L ow w p r v
theorem OwnAt.of_not {L:Lay}{ow:Owns}{w:World}{p:Place}{a:AV}{v:Value}(h:a.isOwn=false):OwnAt L ow w p a v:=by
 cases a with
 | sl ty z xs f=>cases f<;>first|trivial|simp[AV.isOwn]at h
 | _=>trivial
theorem NoOwn.of_not {a:AV}{v:Value}(h:a.isOwn=false):NoOwn a v:=fun _ _ _ _=>.of_not h
theorem OwnAt.move {L L':Lay}{ow ow':Owns}{w w':World}{p p':Place}{a:AV}{v:Value}(h:OwnAt L ow w p a v)
  (hk:∀b,ow b=p→ow' b=p'∧(∀o,L'.S b o=L.S b o)∧w'.heap[b]?=w.heap[b]?):OwnAt L' ow' w' p' a v:=by
 cases a with
 | sl ty z xs f =>
  cases f with
  | own =>
   cases v with
   | slice ad len cap =>
    cases ad with
    | none=>trivial
    | some ad =>
     obtain⟨h1,⟨c,fz,h2,h3⟩,h4⟩:=h
     obtain⟨k1,k2,k3⟩:=hk _ h1
     refine⟨k1,⟨c,fz,k3.trans h2,h3⟩,fun o ho=>?_⟩
     obtain⟨m1,m2⟩:=h4 o ho
     refine⟨?_,by rw[k2];exact m2⟩
     rw[←m1];simp only[World.frozen?,k3]
   | _=>trivial
  | _=>trivial
 | _=>trivial
theorem cell?_of_heap {w w':World}{b:Nat}(h:w'.heap[b]?=w.heap[b]?)(o:Nat):w'.cell? ⟨b,o,none⟩=w.cell? ⟨b,o,none⟩:=by
 simp only[World.cell?,h]
theorem frozen?_of_heap {w w':World}{b:Nat}(h:w'.heap[b]?=w.heap[b]?)(o:Nat):w'.frozen? ⟨b,o,none⟩=w.frozen? ⟨b,o,none⟩:=by
 simp only[World.frozen?,h]
structure Same (m:Bool)(w w':World):Prop where
 os:w'.os=w.os
 tape:w'.tape=w.tape
 output:w'.output=w.output
 size:w.heap.size≤w'.heap.size
 drawn:m=true→w.drawn≤w'.drawn
theorem Same.refl {m:Bool}(w:World):Same m w w:=⟨rfl,rfl,rfl,Nat.le_refl _,fun _=>Nat.le_refl _⟩
theorem Same.trans {m:Bool}{a b c:World}(h:Same m a b)(k:Same m b c):Same m a c:=⟨k.os.trans h.os,k.tape.trans h.tape,k.output.trans h.output,Nat.le_trans h.size k.size,fun e=>Nat.le_trans (h.drawn e) (k.drawn e)⟩
structure Ext (L:Lay)(ow:Owns)(w:World)(L':Lay)(ow':Owns)(w':World):Prop where
 le:L.le L'
 fr:∀b,ow b=.frame→ow' b=.frame∧(∀o,L'.S b o=L.S b o)∧w'.heap[b]?=w.heap[b]?
 same:Same L.m w w'
theorem Ext.refl (L:Lay)(ow:Owns)(w:World):Ext L ow w L ow w:=⟨.refl L,fun _ h=>⟨h,fun _=>rfl,rfl⟩,.refl w⟩
theorem Ext.trans {L L' L'':Lay}{ow ow' ow'':Owns}{w w' w'':World}(h:Ext L ow w L' ow' w')(k:Ext L' ow' w' L'' ow'' w''):Ext L ow w L'' ow'' w'':=by
 refine⟨h.le.trans k.le,fun b hb=>?_,h.same.trans (h.le.m▸k.same)⟩
 obtain⟨h1,h2,h3⟩:=h.fr b hb
 obtain⟨k1,k2,k3⟩:=k.fr b h1
 exact⟨k1,fun o=>(k2 o).trans (h2 o),k3.trans h3⟩
abbrev mapTy:TypeId:=1000001
abbrev headTy:TypeId:=97
structure ObjAt (L:Lay)(ow:Owns)(w:World)(id:Nat)(cs:TypeId×List AV):Prop where
 own:ow (L.loc id)=.obj id
 S:∀o,L.S (L.loc id) o=none
 cells:cs.1≠mapTy→∃vs js:List Value,(∃fz ps,ps.length=L.bs id∧w.heap[L.loc id]?=some (.cells (ps++(vs++js)).toArray cs.1 fz))∧RelL L cs.2 vs∧(∀v∈vs,oneC v=true) ∧
  (∀k a v,cs.2[k]?=some a→vs[k]?=some v→OwnAt L ow w (.cell id k) a v)∧(vs++js).length=L.sz id
 map:cs.1=mapTy→∃(es:List MapEntry) (clock:Nat) (kvs:List AV),w.heap[L.loc id]?=some (.map es.toArray clock)∧cs.2=.undef::kvs∧RelL L kvs (es.flatMap fun e=>[e.key,e.val]) ∧
  (∀a∈kvs,a.isOwn=false)∧(∀e∈es,e.born<clock)∧(es.map (·.born)).Nodup
 melt:∀o,w.frozen? ⟨L.loc id,o,none⟩=false
 head:cs.1=headTy→L.bs id=0
theorem cellsAt {w:World}{b n:Nat}{ps vs js:List Value}{e:TypeId}{fz:Nat×Nat}(hp:ps.length=n)(hh:w.heap[b]?=some (.cells (ps++(vs++js)).toArray e fz)){k:Nat}{v:Value}(hk:vs[k]?=some v):w.cell? ⟨b,n+k,none⟩=some v:=by
 have hlt:=(List.getElem?_eq_some_iff.1 hk).1
 simp only[World.cell?,hh]
 rw[List.getElem?_toArray,List.getElem?_append_right (by omega),show n+k-ps.length=k by omega,List.getElem?_append_left hlt]
 exact hk
theorem cellsSome {w:World}{b n:Nat}{ps vs:List Value}{e:TypeId}{fz:Nat×Nat}(hp:ps.length=n)(hh:w.heap[b]?=some (.cells (ps++vs).toArray e fz)){k:Nat}(hk:k<vs.length):(w.cell? ⟨b,n+k,none⟩).isSome=true:=by
 simp only[World.cell?,hh]
 rw[List.getElem?_toArray,List.getElem?_append_right (by omega),List.getElem?_eq_getElem (by omega)];rfl
abbrev deadTy:TypeId:=1000000
theorem lt_dead {t:TypeId}(h:t<deadTy):t≠deadTy∧t≠mapTy :=
 ⟨fun e=>absurd h (by rw[e];decide),fun e=>absurd h (by rw[e];decide)⟩
def has (s:Heap)(id:Nat):Bool:=match s[id]? with|some cs=>!cs.2.isEmpty|none=>false
theorem has_of {s:Heap}{id:Nat}{cs:TypeId×List AV}(h:s[id]?=some cs)(hc:cs.2≠[]):has s id=true:=by
 simp only[has,h];cases hh:cs.2 with
 | nil=>exact absurd hh hc
 | cons a l=>rfl
theorem has_inv {s:Heap}{id:Nat}(h:has s id=true):∃cs,s[id]?=some cs∧cs.2≠[]:=by
 unfold has at h
 split at h
 ·rename_i cs hcs;exact⟨cs,hcs,by intro e;rw[e]at h;cases h⟩
 ·cases h
theorem has_set {s:Heap}{id:Nat}{cs:TypeId×List AV}(h:has s id=true)(hc:cs.2≠[])(i:Nat):has (s.set id cs) i=has s i:=by
 by_cases e:id=i
 ·subst e
  obtain⟨cs',h',_⟩:=has_inv h
  rw[h]
  exact has_of (List.getElem?_set_self (List.getElem?_eq_some_iff.1 h').1) hc
 ·simp only[has,List.getElem?_set_ne e]
structure St (W0:World)(L:Lay)(ow:Owns)(s:Heap)(w:World):Prop where
 live:∀id,L.live id=has s id
 imm:∀b o v,L.S b o=some v→w.cell? ⟨b,o,none⟩=some v
 obj:∀id cs,s[id]?=some cs→cs.2≠[]→cs.1≠deadTy→ObjAt L ow w id cs
 used:∀b,ow b≠.free→b<w.heap.size
 base:∀b,b<W0.heap.size→ow b=.frame
 below:RowKit.Below W0.heap.size W0 w
theorem St.below_ext {W0:World}{L L':Lay}{ow ow':Owns}{s:Heap}{w w':World}(h:St W0 L ow s w)(x:Ext L ow w L' ow' w'):RowKit.Below W0.heap.size W0 w' :=
 h.below.trans ⟨x.same.os,x.same.tape,x.same.output,x.same.size,fun k hk=>(x.fr k (h.base k hk)).2.2⟩
theorem St.at {W0:World}{L:Lay}{ow:Owns}{s:Heap}{w:World}(h:St W0 L ow s w){id:Nat}{cs:TypeId×List AV}(hid:L.live id=true)(e:s[id]?=some cs):cs.2≠[]:=by
 rw[h.live]at hid
 obtain⟨cs',h1,h2⟩:=has_inv hid
 rw[e]at h1;cases h1;exact h2
theorem ObjAt.move {L L':Lay}{ow ow':Owns}{w w':World}{id:Nat}{cs:TypeId×List AV}(h:ObjAt L ow w id cs)(hL:L.le L')(hid:L.live id=true)
  (hk:∀b,(ow b=.obj id∨∃k,ow b=.cell id k)→ow' b=ow b∧(∀o,L'.S b o=L.S b o)∧w'.heap[b]?=w.heap[b]?):ObjAt L' ow' w' id cs:=by
 have hl:=hL.loc id hid
 obtain⟨k1,k2,k3⟩:=hk (L.loc id) (.inl h.own)
 refine⟨by rw[hl,k1,h.own],fun o=>by rw[hl,k2,h.S],fun hm=>?_,fun hm=>?_,fun o=>by rw[hl,frozen?_of_heap k3,h.melt],fun e=>(hL.bs id hid).trans (h.head e)⟩
 rotate_left
 ·obtain⟨es,c,kvs,h1,h2,h3,h4⟩:=h.map hm
  exact⟨es,c,kvs,by rw[hl,k3,h1],h2,h3.mono hL,h4⟩
 obtain⟨vs,js,⟨fz,ps,hp,h1⟩,h2,h3,h4,h5⟩:=h.cells hm
 refine⟨vs,js,⟨fz,ps,hp.trans (hL.bs id hid).symm,by rw[hl,k3,h1]⟩,h2.mono hL,h3,fun k a v ha hv=>?_,h5.trans (hL.sz id hid).symm⟩
 exact(h4 k a v ha hv).move fun b hb=>by
  obtain⟨m1,m2,m3⟩:=hk b (.inr ⟨k,hb⟩)
  exact⟨m1.trans hb,m2,m3⟩
theorem St.move {W0:World}{L L':Lay}{ow ow':Owns}{s:Heap}{w w':World}(h:St W0 L ow s w)(hL:L.le L')(hn:L'.live=L.live)
  (hk:∀b,(ow b).excl=true→ow' b=ow b∧(∀o,L'.S b o=L.S b o)∧w'.heap[b]?=w.heap[b]?)
  (himm:∀b o v,L'.S b o=some v→w'.cell? ⟨b,o,none⟩=some v)(hused:∀b,ow' b≠.free→b<w'.heap.size)
  (hbase:∀b,b<W0.heap.size→ow' b=.frame)(hbelow:RowKit.Below W0.heap.size W0 w'):St W0 L' ow' s w' :=
 ⟨fun id=>by rw[hn,h.live],himm,fun id cs e hc hd=>(h.obj id cs e hc hd).move hL (by rw[h.live];exact has_of e hc) (fun b hb=>hk b (by rcases hb with hb|⟨k,hb⟩<;>rw[hb]<;>rfl)),hused,hbase,hbelow⟩
structure Fr (W0:World)(N:Nat)(L:Lay)(ow:Owns)(env:Env)(s:Heap)(a:Act)(w:World)(ds:List Deferred):Prop where
 size:a.tmps.size=N
 rel:∀t,Rel L (env t) (a.tmps.getD t undef)
 own:∀t,OwnAt L ow w (.slot t) (env t) (a.tmps.getD t undef)
 st:St W0 L ow s w
 defers:a.defers=ds
def upd (env:Env)(d:Nat)(v:AV):Env:=fun t=>if t=d then v else env t
def setE (env:Env)(dst:Option Nat)(r:AV):Env:=match dst with|some d=>upd env d r|none=>env
def stripE (env:Env)(tk:Option Nat):Env:=match tk with|some t=>upd env t (env t).strip|none=>env
def frameOw (ow:Owns)(tk:Option Nat):Owns:=fun b=>match ow b with
 | .slot t=>if tk=some t then .arg else .frame
 | .arg|.ret=>.free
 | p=>p
def postOw (dst:Option Nat):Place→Place
 | .ret=>(match dst with|some d=>.slot d|none=>.free)
 | .arg|.slot _=>.free
 | p=>p
def backOw (ow ow':Owns)(tk dst:Option Nat):Owns:=fun b=>match ow b with
 | .slot t=>if tk=some t then postOw dst (ow' b) else .slot t
 | _=>postOw dst (ow' b)
theorem St.framed {W0:World}{L:Lay}{ow:Owns}{s:Heap}{w:World}(h:St W0 L ow s w)(tk:Option Nat):St W0 L (frameOw ow tk) s w :=
 h.move (.refl L) rfl (fun b hb=>⟨by unfold frameOw;revert hb;cases ow b<;>simp[Place.excl],fun _=>rfl,rfl⟩) h.imm
  (fun b hb=>h.used b (by unfold frameOw at hb;intro e;rw[e]at hb;exact hb rfl))
  (fun b hb=>by unfold frameOw;rw[h.base b hb]) h.below
theorem Fr.step {ds:List Deferred}{W0:World}{N:Nat}{L L':Lay}{ow ow':Owns}{env:Env}{s s':Heap}{a:Act}{w w':World}(h:Fr W0 N L ow env s a w ds)
  (tk dst:Option Nat)(hd:∀d,dst=some d→d<N){r:AV}{v:Value}(hx:Ext L (frameOw ow tk) w L' ow' w')(hs:St W0 L' ow' s' w')(hr:Rel L' r v)
  (ho:OwnAt L' ow' w' .ret r v) :
  Fr W0 N L' (backOw ow ow' tk dst) (setE (stripE env tk) dst r) s' (a.put dst v) w' ds∧Ext L ow w L' (backOw ow ow' tk dst) w':=by
 have key:∀b t,ow b=.slot t→tk≠some t→ow' b=.frame:=fun b t e hne=>(hx.fr b (by simp[frameOw,e,hne])).1
 have hstrip:∀t,Rel L' (stripE env tk t) (a.tmps.getD t undef):=by
  intro t
  have:=(h.rel t).mono hx.le
  unfold stripE
  cases tk with
  | none=>exact this
  | some u =>
   simp only[upd]
   split
   ·rename_i e;subst e;exact this.strip
   ·exact this
 have hslot:∀t,OwnAt L' (backOw ow ow' tk dst) w' (.slot t) (stripE env tk t) (a.tmps.getD t undef):=by
  intro t
  by_cases e:tk=some t
  ·subst e
   refine OwnAt.of_not ?_
   simp[stripE,upd,strip_isOwn]
  ·have:stripE env tk t=env t:=by
    unfold stripE;cases tk with
    | none=>rfl
    | some u =>
     simp only[upd];split
     ·rename_i h';exact absurd (by rw[h']) e
     ·rfl
   rw[this]
   refine(h.own t).move fun b hb=>?_
   obtain⟨k1,k2,k3⟩:=hx.fr b (by simp[frameOw,hb,e])
   exact⟨by simp[backOw,hb,e],k2,k3⟩
 have hst:St W0 L' (backOw ow ow' tk dst) s' w':=by
  refine hs.move (.refl L') rfl (fun b hb=>⟨?_,fun _=>rfl,rfl⟩) hs.imm (fun b hb=>?_) (fun b hb=>?_) hs.below
  ·unfold backOw
   split
   ·rename_i t e
    split
    ·revert hb;cases ow' b<;>simp[Place.excl,postOw]
    ·rename_i hne;rw[key b t e hne]at hb;simp[Place.excl]at hb
   ·revert hb;cases ow' b<;>simp[Place.excl,postOw]
  ·refine Classical.byContradiction fun hc=>?_
   have hf:ow' b=.free:=Classical.byContradiction fun h'=>hc (hs.used b h')
   unfold backOw at hb
   split at hb
   ·rename_i t e
    split at hb
    ·rw[hf]at hb;exact hb rfl
    ·rename_i hne;rw[key b t e hne]at hf;cases hf
   ·rw[hf]at hb;exact hb rfl
  ·have hf:ow b=.frame:=h.st.base b hb
   have:ow' b=.frame:=(hx.fr b (by simp[frameOw,hf])).1
   simp[backOw,hf,this,postOw]
 refine⟨⟨?_,?_,?_,hst,?_⟩,⟨hx.le,fun b hb=>?_,hx.same⟩⟩
 ·cases dst<;>simp[Act.put,h.size]
 ·intro t
  cases dst with
  | none=>simpa[setE,Act.put] using hstrip t
  | some d =>
   have hdN:=hd d rfl
   simp only[setE,upd,Act.put]
   split
   ·rename_i e;subst e
    rw[Array.getD_eq_getD_getElem?,Array.getElem?_setIfInBounds_self]
    simp[h.size,hdN,hr]
   ·rename_i e
    rw[Array.getD_eq_getD_getElem?,Array.getElem?_setIfInBounds_ne (fun h'=>e h'.symm),←Array.getD_eq_getD_getElem?]
    exact hstrip t
 ·intro t
  cases dst with
  | none=>simpa[setE,Act.put] using hslot t
  | some d =>
   have hdN:=hd d rfl
   simp only[setE,upd,Act.put]
   split
   ·rename_i e;subst e
    rw[Array.getD_eq_getD_getElem?,Array.getElem?_setIfInBounds_self]
    simp only[h.size,hdN,if_true,Option.getD_some]
    refine ho.move fun b hb=>⟨?_,fun _=>rfl,rfl⟩
    unfold backOw
    split
    ·rename_i u e
     split
     ·simp[hb,postOw]
     ·rename_i hne;rw[key b u e hne]at hb;cases hb
    ·simp[hb,postOw]
   ·rename_i e
    rw[Array.getD_eq_getD_getElem?,Array.getElem?_setIfInBounds_ne (fun h'=>e h'.symm),←Array.getD_eq_getD_getElem?]
    exact hslot t
 ·cases dst<;>simp[Act.put,h.defers]
 ·obtain⟨k1,k2,k3⟩:=hx.fr b (by simp[frameOw,hb])
  exact⟨by simp[backOw,hb,k1,postOw],k2,k3⟩
end Go.Abs
end

section
namespace Go.Abs
open Go
section types
variable {P:Program}{w:World}{t:TypeId}
def szOf (P:Program)(t:TypeId):Option Nat:=(P.info? t).map (·.size)
def isAggT (P:Program)(t:TypeId):Option Bool:=(P.underlying t).map fun|.struct _|.array _ _=>true|_=>false
theorem run_under {d:TypeDesc}(h:P.underlying t=some d):(underlying t).run P w=.ok d w:=by simp[underlying,h]
theorem run_tyInfo {i:TypeInfo}(h:P.info? t=some i):(typeInfo t).run P w=.ok i w:=by simp[typeInfo,h]
theorem run_szOf {n:Nat}(h:szOf P t=some n):(sizeOf t).run P w=.ok n w:=by
 unfold szOf at h
 cases hi:P.info? t with
 | none=>simp[hi]at h
 | some i=>simp[hi]at h;simp[sizeOf,typeInfo,hi,h]
theorem run_isAggT {b:Bool}(h:isAggT P t=some b):(isAgg t).run P w=.ok b w:=by
 unfold isAggT at h
 cases hu:P.underlying t with
 | none=>simp[hu]at h
 | some d=>simp[hu]at h;subst h;cases d<;>simp[isAgg,underlying,hu]
theorem run_zero {z:Value}(h:(P.info? t).bind (·.zero)=some z):(zeroValue t).run P w=.ok z w:=by
 cases hi:P.info? t with
 | none=>simp[hi]at h
 | some i=>simp[hi]at h;simp[zeroValue,typeInfo,hi,h]
end types
def ofCell:Value→AV
 | .bool b=>.bool b
 | .int k n=>.int k n
 | .string s=>.str s.data.toList
 | .pointer none=>.nilp
 | .slice none 0 0=>.nils
 | .map none=>.nilm
 | .nilFunc=>.nilf
 | .nilIface=>.nili
 | _=>.undef
def ofConst:Value→AV
 | .agg cs=>if cs.toList.all oneC then .agg (cs.toList.map ofCell) else .undef
 | v=>ofCell v
theorem rel_ofCell (L:Lay)(v:Value):Rel L (ofCell v) v:=by
 unfold ofCell
 split<;>constructor
theorem relL_ofCell (L:Lay):∀vs:List Value,RelL L (vs.map ofCell) vs
 | []=>.nil
 | v::vs=>.cons _ _ _ _ (rel_ofCell L v) (relL_ofCell L vs)
theorem rel_ofConst (L:Lay)(v:Value):Rel L (ofConst v) v:=by
 cases v with
 | agg cs =>
  simp only[ofConst]
  split
  ·rename_i h
   exact Rel.agg _ cs.toList (relL_ofCell L _) (fun v hv=>List.all_eq_true.1 h v hv)
  ·exact .undef _
 | _=>simp only[ofConst];exact rel_ofCell L _
theorem ofCell_isOwn (v:Value):(ofCell v).isOwn=false:=by
 unfold ofCell;split<;>rfl
theorem ofConst_isOwn (v:Value):(ofConst v).isOwn=false:=by
 cases v with
 | agg cs=>simp only[ofConst];split<;>rfl
 | _=>simp only[ofConst];exact ofCell_isOwn _
def Sil (P:Program)(L:Lay)(r:AV)(m:World→Sem Value):Prop:=∀w:World,∃v,(m w).run P w=.ok v w∧Rel L r v
def aPick:AV→AV→AV→Option AV
 | .bool true,a,_=>some a.strip
 | .bool false,_,b=>some b.strip
 | _,_,_=>none
def aNilCheck:AV→Option AV
 | .box cs o=>some (.box cs o)
 | .ref i o=>some (.ref i o)
 | .fn f a b=>some (.fn f a b)
 | _=>none
def aAddr (k:Nat):AV→Option AV
 | .box cs o=>some (.box cs (o+k))
 | .ref i o=>some (.ref i (o+k))
 | _=>none
def fieldOff (P:Program)(t:TypeId)(f:Nat):Option Nat :=
 match P.underlying t with
 | some (.struct fs)=>match fs[f]? with
  | some x=>match szOf P x.type with
   | some 0=>none
   | some _=>some x.offset
   | none=>none
  | none=>none
 | _=>none
theorem fieldAddr_ok {P:Program}{t:TypeId}{f k:Nat}(hk:fieldOff P t f=some k){x r:AV}(hr:aAddr k x=some r){L:Lay}{v:Value}(h:Rel L x v)(w:World) :
  ∃u,(Instr.fieldAt t v f).run P w=.ok u w∧Rel L r u∧r.isOwn=false:=by
 unfold fieldOff at hk
 split at hk
 ·rename_i fs hu
  split at hk
  ·rename_i g hg
   split at hk
   ·cases hk
   ·rename_i n hne hz
    cases hk
    have main:∀a:Addr,v=.pointer (some a)→(Instr.fieldAt t v f).run P w=.ok (.pointer (some (a.add g.offset))) w:=by
     intro a e
     subst e
     have hn0:¬n=0:=hne
     simp[Instr.fieldAt,run_under hu,hg,Instr.sureAddr,fieldPlace,run_szOf hz,hn0]
    cases h with
    | box b o cs off hc =>
     simp only[aAddr,Option.some.injEq]at hr
     subst hr
     refine⟨_,main _ rfl,?_,rfl⟩
     have:(⟨b,o+off,none⟩:Addr).add g.offset=⟨b,o+(off+g.offset),none⟩:=by
      unfold Addr.add;split
      ·rename_i e;simp[e]
      ·simp[Nat.add_assoc]
     rw[this]
     exact .box b o cs _ hc
    | ref id off hi =>
     simp only[aAddr,Option.some.injEq]at hr
     subst hr
     refine⟨_,main _ rfl,?_,rfl⟩
     have:(⟨L.loc id,L.bs id+off,none⟩:Addr).add g.offset=⟨L.loc id,L.bs id+(off+g.offset),none⟩:=by
      unfold Addr.add;split
      ·rename_i e;simp[e]
      ·simp[Nat.add_assoc]
     rw[this]
     exact .ref id _ hi
    | _=>simp[aAddr]at hr
   ·cases hk
  ·cases hk
 ·cases hk
theorem nilCheck_ok {P:Program}{x r:AV}(hr:aNilCheck x=some r){L:Lay}{o:Oper}{y:Operand} {σ:Operand→Value}(ho:o.op=.nilCheck y)(h:Rel L x (σ y))(w:World) :
  ∃u,(execOp σ o).run P w=.ok (.value u) w∧Rel L r u∧r.isOwn=false:=by
 unfold execOp
 rw[ho]
 simp only
 generalize σ y=v at h
 cases h<;>simp only[aNilCheck,Option.some.injEq,reduceCtorEq]at hr<;>subst hr
 ·exact⟨_,rfl,.box _ _ _ _ ‹_›,rfl⟩
 ·exact⟨_,rfl,.ref _ _ ‹_›,rfl⟩
 ·exact⟨_,rfl,.fn _ _ _ _ _ ‹_› ‹_›,rfl⟩
theorem loadCells_box {P:Program}{L:Lay}{w:World}(himm:∀b o v,L.S b o=some v→w.cell? ⟨b,o,none⟩=some v){b o n:Nat}{cs:List AV}(h:RelC L b o cs)(hn:n≤cs.length) :
  ∃vs:List Value,(loadCells ⟨b,o,none⟩ n).run P w=.ok vs.toArray w∧RelL L (cs.take n) vs∧(∀v∈vs,oneC v=true):=by
 obtain⟨vs,h1,h2,h3⟩:=(RelC.left (cs.take n) (by rw[List.take_append_drop];exact h):RelC L b o (cs.take n)).vals
 have hl:=h1.length
 have hn':vs.length=n:=by rw[←hl,List.length_take];omega
 refine⟨vs,?_,h1,h2⟩
 have:=run_loadCells_list (P:=P) (w:=w) ⟨b,o,none⟩ vs (fun j v hj=>by
  have:=himm b (o+j) v (h3 j v hj)
  rw[←this];congr 1
  unfold Addr.add;split<;>simp_all)
 rw[hn']at this
 exact this
def aLoadC (agg:Bool)(n:Nat)(cs:List AV)(off:Nat):Option AV :=
 if agg then(if off+n≤cs.length then some (.agg ((cs.drop off).take n)) else none)
 else match cs[off]? with
  | some v=>some v.strip
  | none=>none
theorem RelL.strip {L:Lay}:∀{as:List AV}{vs:List Value},RelL L as vs→RelL L (as.map AV.strip) vs
 | _,_,.nil=>.nil
 | _,_,.cons a v as vs h t=>.cons _ _ _ _ h.strip t.strip
theorem aLoadC_isOwn {agg:Bool}{n:Nat}{cs:List AV}{off:Nat}{r:AV}(h:aLoadC agg n cs off=some r):r.isOwn=false:=by
 unfold aLoadC at h
 split at h
 ·split at h
  ·cases h;rfl
  ·cases h
 ·split at h
  ·cases h;exact strip_isOwn _
  ·cases h
theorem loadBox_ok {P:Program}{t:TypeId}{agg:Bool}{n:Nat}(ha:isAggT P t=some agg)(hz:szOf P t=some n){cs:List AV}{off:Nat}{r:AV}(hr:aLoadC agg n cs off=some r)
  {L:Lay}{v:Value}(h:Rel L (.box cs off) v){w:World}(himm:∀b o v,L.S b o=some v→w.cell? ⟨b,o,none⟩=some v) :
  ∃u,(Instr.loadAt t v).run P w=.ok u w∧Rel L r u:=by
 cases h with
 | box b o _ _ hc =>
  unfold aLoadC at hr
  cases agg with
  | true =>
   simp only[if_true]at hr
   split at hr
   ·rename_i hle
    cases hr
    have hc':RelC L b (o+off) (cs.drop off):=by
     have:=RelC.right (cs.take off) (by rw[List.take_append_drop];exact hc)
     rwa [List.length_take,Nat.min_eq_left (by omega)]at this
    obtain⟨vs,h1,h2,h3⟩:=loadCells_box (P:=P) himm hc' (n:=n) (by rw[List.length_drop];omega)
    exact⟨.agg vs.toArray,by simp[Instr.loadAt,Instr.sureAddr,loadVar,run_isAggT ha,run_szOf hz,h1],.agg _ _ h2 h3⟩
   ·cases hr
  | false =>
   simp only[Bool.false_eq_true,if_false]at hr
   split at hr
   ·rename_i x hx
    cases hr
    obtain⟨u,hu,_,hru⟩:=hc.get off x hx
    refine⟨u,?_,hru.strip⟩
    have:=himm _ _ _ hu
    simp[Instr.loadAt,Instr.sureAddr,loadVar,run_isAggT ha,this]
   ·cases hr
def aField (P:Program)(t:TypeId)(f:Nat):AV→Option AV
 | .agg cs=>match P.underlying t with
  | some (.struct fs)=>match fs[f]? with
   | some x=>match isAggT P x.type,szOf P x.type with
    | some agg,some n=>if x.offset+n≤cs.length then aLoadC agg n cs x.offset else none
    | _,_=>none
   | none=>none
  | _=>none
 | _=>none
theorem part_ok {P:Program}{t:TypeId}{agg:Bool}{n:Nat}(ha:isAggT P t=some agg)(hz:szOf P t=some n){cs:List AV}{off:Nat}{r:AV}(hr:aLoadC agg n cs off=some r)
  {L:Lay}{vs:List Value}(h:RelL L cs vs)(h1:∀v∈vs,oneC v=true)(w:World):∃u,(part t vs.toArray off).run P w=.ok u w∧Rel L r u:=by
 unfold aLoadC at hr
 have hl:=h.length
 cases agg with
 | true =>
  simp only[if_true]at hr
  split at hr
  ·rename_i hle
   cases hr
   refine⟨.agg ((vs.drop off).take n).toArray,?_,.agg _ _ ((h.drop off).take n) (fun v hv=>h1 v (List.mem_of_mem_drop (List.mem_of_mem_take hv)))⟩
   simp only[part,Sem.run_bind,run_isAggT ha,Result.andThen_ok,if_true,run_szOf hz,Sem.run_pure]
   congr 2
   apply Array.toList_inj.1
   simp[List.extract_eq_take_drop]
  ·cases hr
 | false =>
  simp only[Bool.false_eq_true,if_false]at hr
  split at hr
  ·rename_i x hx
   cases hr
   obtain⟨u,hu,hru⟩:=h.get off x hx
   exact⟨u,by simp[part,run_isAggT ha,hu],hru.strip⟩
  ·cases hr
theorem field_ok {P:Program}{t:TypeId}{f:Nat}{x r:AV}(hr:aField P t f x=some r){L:Lay}{v:Value}(h:Rel L x v)(w:World) :
  ∃u,(Instr.field t v f).run P w=.ok u w∧Rel L r u∧r.isOwn=false:=by
 cases h with
 | agg cs vs hc hv =>
  simp only[aField]at hr
  split at hr
  ·rename_i fs hu
   split at hr
   ·rename_i g hg
    split at hr
    ·rename_i agg n ha hz
     split at hr
     ·obtain⟨u,hu1,hu2⟩:=part_ok ha hz hr hc hv w
      exact⟨u,by simp[Instr.field,run_under hu,hg,asAgg,hu1],hu2,aLoadC_isOwn hr⟩
     ·cases hr
    ·cases hr
   ·cases hr
  ·cases hr
 | _=>simp[aField]at hr
def aExtract (i:Nat):AV→Option AV
 | .tup vs=>(vs[i]?).map AV.strip
 | _=>none
theorem extract_ok {P:Program}{i:Nat}{x r:AV}(hr:aExtract i x=some r){L:Lay}{v:Value}(h:Rel L x v)(w:World) :
  ∃u,(Instr.extract v i).run P w=.ok u w∧Rel L r u∧r.isOwn=false:=by
 cases h with
 | tup cs vs hc =>
  simp only[aExtract,Option.map_eq_some_iff]at hr
  obtain⟨y,hy,rfl⟩:=hr
  obtain⟨u,hu,hru⟩:=hc.get i y hy
  exact⟨u,by simp[Instr.extract,hu],hru.strip,strip_isOwn _⟩
 | _=>simp[aExtract]at hr
end Go.Abs
end

section
namespace Go.Abs
open Go
def intBin (op:BinOp)(k:IntKind)(a b:Int):Option AV :=
 match op with
 | .add=>some (.int k (k.wrap (a+b)))
 | .sub=>some (.int k (k.wrap (a-b)))
 | .mul=>some (.int k (k.wrap (a*b)))
 | .quo=>if b=0 then none else some (.int k (k.wrap (a.tdiv b)))
 | .rem=>if b=0 then none else some (.int k (a.tmod b))
 | .and=>some (.int k (k.wrap (BitVec.ofInt k.bits a &&& BitVec.ofInt k.bits b).toNat))
 | .or=>some (.int k (k.wrap (BitVec.ofInt k.bits a ||| BitVec.ofInt k.bits b).toNat))
 | .shr=>if b<0 then none else some (.int k (a.fdiv (2 ^ min b.toNat k.bits)))
 | .eql=>some (.bool (a==b))
 | .neq=>some (.bool (a != b))
 | .lss=>some (.bool (a<b))
 | .leq=>some (.bool (a≤b))
 | .gtr=>some (.bool (a > b))
 | .geq=>some (.bool (a ≥ b))
 | _=>none
def strBin (op:BinOp)(a b:List UInt8):Option AV :=
 match op with
 | .add=>if a.length+b.length≤4611686018427387904 then some (.str (a++b)) else none
 | .eql=>some (.bool (a==b))
 | .neq=>some (.bool !(a==b))
 | .lss=>some (.bool (Op.bytesLess a b))
 | .leq=>some (.bool (Op.bytesLess a b || a==b))
 | .gtr=>some (.bool !(Op.bytesLess a b || a==b))
 | .geq=>some (.bool !(Op.bytesLess a b))
 | _=>none
def aPartF (P:Program)(f:Field)(cs:List AV):Option AV :=
 match isAggT P f.type,szOf P f.type with
 | some agg,some n=>aLoadC agg n cs f.offset
 | _,_=>none
def aEqL (P:Program)(eq:TypeId→AV→AV→Option Bool)(xs ys:List AV):List Field→Option Bool
 | []=>some true
 | f::fs =>
  if f.name ≠ "_" then
   match aPartF P f xs,aPartF P f ys with
   | some a,some b=>match eq f.type a b,aEqL P eq xs ys fs with
    | some r,some q=>some (r&&q)
    | _,_=>none
   | _,_=>none
  else aEqL P eq xs ys fs
def aEq (P:Program):Nat→TypeId→AV→AV→Option Bool
 | 0,_,_,_=>none
 | d+1,t,x,y =>
  match P.underlying t with
  | some .bool=>match x,y with|.bool a,.bool b=>some (a==b)|_,_=>none
  | some (.int _)=>match x,y with|.int k a,.int k' b=>if k=k' then some (a==b) else none|_,_=>none
  | some .string=>match x,y with|.str a,.str b=>some (a==b)|_,_=>none
  | some (.pointer e)=>match x,y with
   | .nilp,.nilp=>some true
   | .nilp,.box _ _=>some false
   | .box _ _,.nilp=>some false
   | .nilp,.ref _ _=>some false
   | .ref _ _,.nilp=>some false
   | .ref i o,.ref j p=>match szOf P e with
    | some (_+1)=>if i=j then some (o==p) else none
    | _=>none
   | _,_=>none
  | some (.slice _)=>match x,y with
   | .nils,.nils=>some true
   | .nils,.sl _ _ _ _=>some false
   | .sl _ _ _ _,.nils=>some false
   | .nils,.rs _ _ _ _ _=>some false
   | .rs _ _ _ _ _,.nils=>some false
   | _,_=>none
  | some (.func _ _ _)=>match x,y with
   | .nilf,.nilf=>some true
   | .nilf,.fn _ _ _=>some false
   | .fn _ _ _,.nilf=>some false
   | _,_=>none
  | some (.struct fs)=>match x,y with
   | .agg xs,.agg ys=>if P.stoodInHeld t then none else aEqL P (aEq P d) xs ys fs.toList
   | _,_=>none
  | _=>none
def eqOp (op:BinOp)(q:Option Bool):Option AV :=
 match op with
 | .eql=>q.map fun r=>.bool r
 | .neq=>q.map fun r=>.bool !r
 | _=>none
def aBin (P:Program)(op:BinOp)(t:TypeId)(x y:AV):Option AV :=
 match x,y with
 | .int k a,.int k' b=>if k=k' then intBin op k a b else none
 | .str a,.str b=>strBin op a b
 | .agg a,.agg b=>if P.eqGuardType P.depth t then none else eqOp op (aEq P 6 t (.agg a) (.agg b))
 | .bool a,.bool b=>eqOp op (aEq P 6 t (.bool a) (.bool b))
 | .nilp,.nilp=>eqOp op (aEq P 6 t .nilp .nilp)
 | .nilp,.box a b=>eqOp op (aEq P 6 t .nilp (.box a b))
 | .box a b,.nilp=>eqOp op (aEq P 6 t (.box a b) .nilp)
 | .nilp,.ref a b=>eqOp op (aEq P 6 t .nilp (.ref a b))
 | .ref a b,.nilp=>eqOp op (aEq P 6 t (.ref a b) .nilp)
 | .ref a b,.ref c d=>eqOp op (aEq P 6 t (.ref a b) (.ref c d))
 | .nils,.nils=>eqOp op (aEq P 6 t .nils .nils)
 | .nils,.sl a b c d=>eqOp op (aEq P 6 t .nils (.sl a b c d))
 | .sl a b c d,.nils=>eqOp op (aEq P 6 t (.sl a b c d) .nils)
 | .nils,.rs a b c d e=>eqOp op (aEq P 6 t .nils (.rs a b c d e))
 | .rs a b c d e,.nils=>eqOp op (aEq P 6 t (.rs a b c d e) .nils)
 | .nilf,.nilf=>eqOp op (aEq P 6 t .nilf .nilf)
 | .nilf,.fn a b c=>eqOp op (aEq P 6 t .nilf (.fn a b c))
 | .fn a b c,.nilf=>eqOp op (aEq P 6 t (.fn a b c) .nilf)
 | _,_=>none
theorem intBin_ok {P:Program}{op:BinOp}{k:IntKind}{a b:Int}{t:TypeId}{r:AV}(h:intBin op k a b=some r)(L:Lay)(w:World) :
  ∃u,(binOp op t (.int k a) (.int k b)).run P w=.ok u w∧Rel L r u∧r.isOwn=false:=by
 cases op<;>simp only[intBin,reduceCtorEq]at h
 case quo =>
  split at h
  ·cases h
  ·rename_i hb;cases h;exact⟨_,by simp[binOp,Op.intDiv,hb],.int _ _,rfl⟩
 case rem =>
  split at h
  ·cases h
  ·rename_i hb;cases h;exact⟨_,by simp[binOp,Op.intDiv,hb],.int _ _,rfl⟩
 case shr =>
  split at h
  ·cases h
  ·rename_i hb;cases h;exact⟨_,by simp[binOp,Op.shift,hb],.int _ _,rfl⟩
 all_goals
  cases h
  exact⟨_,by simp[binOp,Op.intArith,Op.intBits,Op.intCmp];rfl,by constructor,rfl⟩
theorem toList_mk (s:List UInt8):(ByteArray.mk s.toArray).toList=s:=by rw[ByteArray.toList_eq]
theorem size_mk (s:List UInt8):(ByteArray.mk s.toArray).size=s.length:=by simp[ByteArray.size]
theorem append_mk (a b:List UInt8):ByteArray.mk a.toArray++ByteArray.mk b.toArray=ByteArray.mk (a++b).toArray:=by
 apply ByteArray.ext;simp
theorem strBin_ok {P:Program}{op:BinOp}{a b:List UInt8}{t:TypeId}{r:AV}(h:strBin op a b=some r)(L:Lay)(w:World) :
  ∃u,(binOp op t (.string ⟨a.toArray⟩) (.string ⟨b.toArray⟩)).run P w=.ok u w∧Rel L r u∧r.isOwn=false:=by
 cases op<;>simp only[strBin,reduceCtorEq]at h
 case add =>
  split at h
  ·rename_i hb
   cases h
   refine⟨_,?_,.str _,rfl⟩
   have:¬(((a.length+b.length:Nat):Int) > IntKind.i64.max):=by
    have:IntKind.i64.max=9223372036854775807:=by decide
    rw[this];omega
   simp only[binOp,Op.stringOp,size_mk,this,if_false,Sem.run_pure,append_mk]
  ·cases h
 all_goals
  cases h
  exact⟨_,by simp only[binOp,Op.stringOp,toList_mk,Sem.run_pure];rfl,by constructor,rfl⟩
theorem partF_ok {P:Program}{f:Field}{cs:List AV}{r:AV}(h:aPartF P f cs=some r){L:Lay}{vs:List Value}(hr:RelL L cs vs)(h1:∀v∈vs,oneC v=true)(w:World) :
  ∃u,(part f.type vs.toArray f.offset).run P w=.ok u w∧Rel L r u:=by
 unfold aPartF at h
 split at h
 ·rename_i ha hz;exact part_ok ha hz h hr h1 w
 ·cases h
theorem aEqL_ok {P:Program}{d:Nat}{eq:TypeId→AV→AV→Option Bool}{L:Lay}
  (heq:∀t x y r,eq t x y=some r→∀u v,Rel L x u→Rel L y v→∀w,(Op.equalIn d t u v).run P w=.ok r w){xs ys:List AV}{us vs:List Value}(hx:RelL L xs us)(hy:RelL L ys vs)
  (hu:∀v∈us,oneC v=true)(hv:∀v∈vs,oneC v=true)(w:World) :
  ∀(fs:List Field) (r:Bool),aEqL P eq xs ys fs=some r→(Op.eqFields d us.toArray vs.toArray fs).run P w=.ok r w
 | [],r,h=>by simp only[aEqL,Option.some.injEq]at h;subst h;simp[Op.eqFields]
 | f::fs,r,h=>by
  simp only[aEqL]at h
  split at h
  ·rename_i hn
   split at h
   ·rename_i a b ha hb
    split at h
    ·rename_i r1 r2 h1 h2
     cases h
     obtain⟨u,hu1,hu2⟩:=partF_ok ha hx hu w
     obtain⟨v,hv1,hv2⟩:=partF_ok hb hy hv w
     have ih:=aEqL_ok heq hx hy hu hv w fs _ h2
     have:=heq _ _ _ _ h1 u v hu2 hv2 w
     simp only[Op.eqFields,hn,ne_eq,not_false_eq_true,if_true,Sem.run_bind,hu1,hv1,this,Result.andThen_ok]
     cases r1
     ·simp
     ·simpa using ih
    ·cases h
   ·cases h
  ·rename_i hn
   have ih:=aEqL_ok heq hx hy hu hv w fs _ h
   simp only[Op.eqFields,hn,if_false]
   exact ih
theorem bytes_beq (a b:List UInt8):((⟨a.toArray⟩:ByteArray)==⟨b.toArray⟩)=(a==b):=by
 rw[beq_toListBytes,toList_mk,toList_mk]
set_option maxHeartbeats 1000000 in
theorem aEq_ok {P:Program}{L:Lay}:∀(d d':Nat),d≤d'→∀t x y r,aEq P d t x y=some r→∀u v,Rel L x u→Rel L y v→∀w,(Op.equalIn d' t u v).run P w=.ok r w
 | 0,_,_,t,x,y,r,h,_,_,_,_,_=>by simp[aEq]at h
 | d+1,0,hd,_,_,_,_,_,_,_,_,_,_=>by omega
 | d+1,d'+1,hd,t,x,y,r,h,u,v,hx,hy,w=>by
  unfold aEq at h
  split at h
  ·rename_i hu
   split at h
   ·cases h;cases hx;cases hy;simp[Op.equalIn,run_under hu]
   ·cases h
  ·rename_i hu
   split at h
   ·split at h
    ·rename_i e;cases h;cases hx;cases hy;subst e;simp[Op.equalIn,run_under hu]
    ·cases h
   ·cases h
  ·rename_i hu
   split at h
   ·cases h;cases hx;cases hy;simp[Op.equalIn,run_under hu,bytes_beq]
   ·cases h
  ·rename_i e hu
   split at h
   ·cases h;cases hx;cases hy;simp[Op.equalIn,run_under hu]
   ·cases h;cases hx;cases hy;simp[Op.equalIn,run_under hu]
   ·cases h;cases hx;cases hy;simp[Op.equalIn,run_under hu]
   ·cases h;cases hx;cases hy;simp[Op.equalIn,run_under hu]
   ·cases h;cases hx;cases hy;simp[Op.equalIn,run_under hu]
   ·split at h
    ·rename_i n hz
     split at h
     ·rename_i e;cases h;cases hx;cases hy;subst e
      simp[Op.equalIn,run_under hu,run_szOf hz,sameAddr]
      rw[Bool.eq_iff_iff];simp
     ·cases h
    ·cases h
   ·cases h
  ·rename_i hu
   split at h
   ·cases h;cases hx<;>cases hy<;>simp[Op.equalIn,run_under hu]
   ·cases h;cases hx<;>cases hy<;>simp[Op.equalIn,run_under hu]
   ·cases h;cases hx<;>cases hy<;>simp[Op.equalIn,run_under hu]
   ·cases h;cases hx<;>cases hy<;>simp[Op.equalIn,run_under hu]
   ·cases h;cases hx<;>cases hy<;>simp[Op.equalIn,run_under hu]
   ·cases h
  ·rename_i hu
   split at h
   ·cases h;cases hx;cases hy;simp[Op.equalIn,run_under hu]
   ·cases h;cases hx;cases hy;simp[Op.equalIn,run_under hu]
   ·cases h;cases hx;cases hy;simp[Op.equalIn,run_under hu]
   ·cases h
  ·rename_i fs hu
   split at h
   ·split at h
    ·cases h
    ·rename_i hp
     cases hx with
     | agg _ us hxs hu1 =>
      cases hy with
      | agg _ vs hys hv1 =>
       have hf:P.fieldsOf t=fs:=by simp[Program.fieldsOf,hu]
       rw[run_equalIn_struct w d' t _ _ (by rw[hf];exact hu) (by simpa using hp),hf]
       exact aEqL_ok (fun t x y r h u v hx hy w=>aEq_ok d d' (by omega) t x y r h u v hx hy w) hxs hys hu1 hv1 w _ _ h
   ·cases h
  ·cases h
theorem eqOp_ok {op:BinOp}{q:Option Bool}{r:AV}(h:eqOp op q=some r):∃r',q=some r'∧(op=.eql∧r=.bool r'∨op=.neq∧r=.bool !r'):=by
 unfold eqOp at h
 split at h
 ·simp only[Option.map_eq_some_iff]at h;obtain⟨a,ha,rfl⟩:=h;exact⟨a,ha,.inl ⟨rfl,rfl⟩⟩
 ·simp only[Option.map_eq_some_iff]at h;obtain⟨a,ha,rfl⟩:=h;exact⟨a,ha,.inr ⟨rfl,rfl⟩⟩
 ·cases h
theorem eqBin_ok {P:Program}{op:BinOp}{t:TypeId}{x y r:AV}(h:eqOp op (aEq P 6 t x y)=some r){L:Lay}{u v:Value}(hx:Rel L x u)(hy:Rel L y v)(X Y:Operand)(w:World)
  (hg:(eqGuard op t X Y u v).run P w=.ok () w)(e1:binOp .eql t u v=(do pure (.bool (←Op.equal t u v)):Sem Value))(e2:binOp .neq t u v=(do pure (.bool (!(←Op.equal t u v))):Sem Value)) :
  ∃z,((do eqGuard op t X Y u v;binOp op t u v):Sem Value).run P w=.ok z w∧Rel L r z∧r.isOwn=false:=by
 obtain⟨r',he,hop⟩:=eqOp_ok h
 have hq:=aEq_ok 6 Op.maxDepth (by decide) t x y r' he u v hx hy w
 rcases hop with ⟨rfl,rfl⟩|⟨rfl,rfl⟩
 ·exact⟨.bool r',by simp[hg,e1,Op.equal,hq],.bool _,rfl⟩
 ·exact⟨.bool !r',by simp[hg,e2,Op.equal,hq],.bool _,rfl⟩
theorem ite_both {α:Type}{c:Prop} [Decidable c] {a b:α}{p:α→Prop}(ha:p a)(hb:p b):p (if c then a else b):=by split<;>assumption
theorem plainGuard {P:Program}{op:BinOp}{t:TypeId}{X Y:Operand}{u v:Value}{w:World}(h1:u=.nilIface→v≠.nilIface)(h2:∀a b,u=.agg a→v≠.agg b) :
  (eqGuard op t X Y u v).run P w=.ok () w:=by
 unfold eqGuard
 rw[Sem.run_ite]
 refine ite_both (p:=fun x=>x=Result.ok () w) rfl ?_
 split
 ·exact absurd rfl (h1 rfl)
 ·exact absurd rfl (h2 _ _ rfl)
 ·rfl
theorem aBin_ok {P:Program}{op:BinOp}{t:TypeId}{x y r:AV}(h:aBin P op t x y=some r){L:Lay}{u v:Value}(hx:Rel L x u)(hy:Rel L y v)(X Y:Operand)(w:World) :
  ∃z,((do eqGuard op t X Y u v;binOp op t u v):Sem Value).run P w=.ok z w∧Rel L r z∧r.isOwn=false:=by
 have plain:∀(hg:(eqGuard op t X Y u v).run P w=.ok () w) (hb:∃z,(binOp op t u v).run P w=.ok z w∧Rel L r z∧r.isOwn=false),
   ∃z,((do eqGuard op t X Y u v;binOp op t u v):Sem Value).run P w=.ok z w∧Rel L r z∧r.isOwn=false:=by
  intro hg ⟨z,hz⟩
  exact⟨z,by simp[hg,hz.1],hz.2⟩
 unfold aBin at h
 split at h
 ·split at h
  ·rename_i e;cases e;cases hx;cases hy
   exact plain (plainGuard nofun nofun) (intBin_ok h L w)
  ·cases h
 ·cases hx;cases hy
  exact plain (plainGuard nofun nofun) (strBin_ok h L w)
 ·split at h
  ·cases h
  ·rename_i hg
   have hg':P.eqGuardType P.depth t=false:=by simpa using hg
   have hg2:(eqGuard op t X Y u v).run P w=.ok () w:=by
    cases hx;cases hy;unfold eqGuard;cases op<;>simp[hg']
   cases hx with
   | agg cs vs h1 h2 =>
    cases hy with
    | agg ds us h3 h4=>exact eqBin_ok h (.agg _ _ h1 h2) (.agg _ _ h3 h4) X Y w hg2 rfl rfl
 all_goals first
  | (cases h;done)
  | (have hx':=hx;have hy':=hy;cases hx<;>cases hy<;>exact eqBin_ok h hx' hy' X Y w (plainGuard nofun nofun) rfl rfl)
def isNilI:Operand→Bool
 | .const .nilIface=>true
 | _=>false
def isIfT (P:Program)(t:TypeId):Bool:=match P.underlying t with
 | some (.interface _)=>true
 | _=>false
def aNilCmp (P:Program)(op:BinOp)(t:TypeId)(x y:AV):Option AV :=
 if isIfT P t then match x,y with
  | .nili,.nili=>eqOp op (some true)
  | .ifc,.nili=>eqOp op (some false)
  | .ifv _ _,.nili=>eqOp op (some false)
  | _,_=>none
 else none
theorem aNilCmp_ok {P:Program}{op:BinOp}{t:TypeId}{x y r:AV}(h:aNilCmp P op t x y=some r){L:Lay}{u v:Value}(hx:Rel L x u)(hy:Rel L y v)(X Y:Operand)(hY:isNilI Y=true)(w:World) :
  ∃z,((do eqGuard op t X Y u v;binOp op t u v):Sem Value).run P w=.ok z w∧Rel L r z∧r.isOwn=false:=by
 unfold aNilCmp at h
 split at h
 ·rename_i hI
  obtain⟨ms,hm⟩:∃ms,P.underlying t=some (.interface ms):=by
   unfold isIfT at hI;split at hI
   ·exact⟨_,‹_›⟩
   ·cases hI
  obtain rfl:Y=.const .nilIface:=by
   unfold isNilI at hY;split at hY
   ·rfl
   ·cases hY
  have eq:∀(b:Bool),v=.nilIface→eqOp op (some b)=some r→(Op.equal t u .nilIface).run P w=.ok b w→(eqGuard op t X (.const .nilIface) u .nilIface).run P w=.ok () w →
    binOp .eql t u .nilIface=(do pure (.bool (←Op.equal t u .nilIface)):Sem Value)→binOp .neq t u .nilIface=(do pure (.bool (!(←Op.equal t u .nilIface))):Sem Value) →
    ∃z,((do eqGuard op t X (.const .nilIface) u v;binOp op t u v):Sem Value).run P w=.ok z w∧Rel L r z∧r.isOwn=false:=by
   intro b ev hb hq hg e1 e2
   subst ev
   obtain⟨r',e,hop⟩:=eqOp_ok hb
   cases e
   rcases hop with ⟨rfl,rfl⟩|⟨rfl,rfl⟩
   ·exact⟨.bool b,by simp[hg,e1,hq],.bool _,rfl⟩
   ·exact⟨.bool !b,by simp[hg,e2,hq],.bool _,rfl⟩
  obtain⟨k,hk⟩:∃k,Op.maxDepth=k+1:=⟨Op.maxDepth-1,by decide⟩
  split at h
  ·cases hx;cases hy
   refine eq true rfl h (by simp[Op.equal,hk,Op.equalIn,run_under hm]) ?_ rfl rfl
   unfold eqGuard
   rw[Sem.run_ite]
   exact ite_both (p:=fun x=>x=Result.ok () w) rfl (by simp)
  ·cases hx;cases hy
   refine eq false rfl h (by simp[Op.equal,hk,Op.equalIn,run_under hm]) ?_ rfl rfl
   unfold eqGuard
   rw[Sem.run_ite]
   exact ite_both (p:=fun x=>x=Result.ok () w) rfl (by simp)
  ·cases hx;cases hy
   refine eq false rfl h (by simp[Op.equal,hk,Op.equalIn,run_under hm]) ?_ rfl rfl
   unfold eqGuard
   rw[Sem.run_ite]
   exact ite_both (p:=fun x=>x=Result.ok () w) rfl (by simp)
  ·cases h
 ·cases h
end Go.Abs
end

section
namespace Go.Abs
open Go
def aUn (op:UnOp)(x:AV):Option AV :=
 match op,x with
 | .neg,.int k n=>some (.int k (k.wrap (0-n)))
 | .not,.bool b=>some (.bool !b)
 | _,_=>none
theorem aUn_ok {P:Program}{op:UnOp}{x r:AV}(h:aUn op x=some r){L:Lay}{v:Value}(hx:Rel L x v)(w:World) :
  ∃z,(Op.unary op v).run P w=.ok z w∧Rel L r z∧r.isOwn=false:=by
 unfold aUn at h
 split at h
 ·cases h;cases hx;exact⟨_,rfl,.int _ _,rfl⟩
 ·cases h;cases hx;exact⟨_,rfl,.bool _,rfl⟩
 ·cases h
def isU8 (P:Program)(e:TypeId):Bool:=match P.underlying e with
 | some (.int .u8)=>true
 | _=>false
theorem isU8_of {P:Program}{e:TypeId}(h:isU8 P e=true):P.underlying e=some (.int .u8):=by
 unfold isU8 at h
 split at h
 ·assumption
 ·cases h
def isStr:TypeDesc→Bool
 | .string=>true
 | _=>false
def byteAV (s:List UInt8):List AV:=s.map fun b=>.int .u8 (b.toNat:Int)
def bytesOf:List AV→Option (List UInt8)
 | []=>some []
 | .int .u8 n::r=>if 0≤n∧n<256 then(bytesOf r).map (UInt8.ofNat n.toNat::·) else none
 | _=>none
theorem bytesOf_eq:∀{xs:List AV}{l:List UInt8},bytesOf xs=some l→xs=byteAV l
 | [],l,h=>by cases h;rfl
 | .int .u8 n::r,l,h=>by
  simp only[bytesOf]at h
  split at h
  ·rename_i hn
   rw[Option.map_eq_some_iff]at h
   obtain⟨m,h1,rfl⟩:=h
   rw[bytesOf_eq h1]
   have:((UInt8.ofNat n.toNat).toNat:Int)=n:=by
    rw[UInt8.toNat_ofNat'];omega
   simp[byteAV]
   omega
  ·cases h
theorem byteAV_bytes:∀l:List UInt8,bytesOf (byteAV l)=some l
 | []=>rfl
 | x::l=>by
  have h1:x.toNat<256:=x.toNat_lt
  have h2:(0:Int)≤(x.toNat:Int)∧(x.toNat:Int)<256:=by omega
  show (if(0:Int)≤(x.toNat:Int)∧(x.toNat:Int)<256 then(bytesOf (byteAV l)).map (UInt8.ofNat (x.toNat:Int).toNat::·) else none)=_
  rw[if_pos h2,byteAV_bytes l]
  simp
def aConv (P:Program)(src dst:TypeId)(x:AV):Option AV :=
 match P.underlying src with
 | none=>none
 | some d=>match P.underlying dst,x with
  | some (.int k),.int _ n=>some (.int k (k.wrap n))
  | some .string,.str s=>some (.str s)
  | some (.slice e),.str s=>if isStr d&&isU8 P e then some (.sl e 1 (byteAV s) .sh) else none
  | some .string,.sl _ z xs _=>match d with
   | .slice e=>if isU8 P e=true∧z=1 then(bytesOf xs).map .str else none
   | _=>none
  | some .string,.nils=>match d with
   | .slice e=>if isU8 P e=true then some (.str []) else none
   | _=>none
  | _,_=>none
theorem relC_bytes {L:Lay}{b:Nat}:∀{l:List UInt8}{o:Nat},RelC L b o (byteAV l)→∀j (hj:j<l.length),L.S b (o+j)=some (.int .u8 (l[j].toNat:Int))
 | [],_,_,j,hj=>by cases hj
 | x::l,o,h,0,_=>by
  cases h with
  | cons _ _ _ _ v hs hv hr t=>cases hr;exact hs
 | x::l,o,h,j+1,hj=>by
  cases h with
  | cons _ _ _ _ v hs hv hr t =>
   have:=relC_bytes (l:=l) (o:=o+1) t j (by simpa using hj)
   rw[show o+(j+1)=o+1+j by omega,this];rfl
theorem cellsOf_byteAV:∀l:List UInt8,cellsOf (byteAV l)=byteAV l
 | []=>rfl
 | x::l=>by
  have:=cellsOf_byteAV l
  show (AV.int .u8 (x.toNat:Int)).cells++cellsOf (byteAV l)=_
  rw[this];rfl
theorem aConv_ok {P:Program}{src dst:TypeId}{x r:AV}(h:aConv P src dst x=some r){L:Lay}{v:Value}(hx:Rel L x v)(w:World)(himm:∀b o v,L.S b o=some v→w.cell? ⟨b,o,none⟩=some v) :
  (∃z,(convert src dst v).run P w=.ok z w∧Rel L r z∧r.isOwn=false) ∨
  ∃e s,P.underlying src=some .string∧P.underlying dst=some (.slice e)∧P.underlying e=some (.int .u8)∧v=.string ⟨s.toArray⟩∧r=.sl e 1 (byteAV s) .sh:=by
 unfold aConv at h
 split at h
 ·cases h
 ·rename_i d hs
  split at h
  ·rename_i k _ n hu;cases h;cases hx
   exact .inl ⟨.int k (k.wrap n),by simp[convert,run_under hs,run_under hu,Conv.intToInt],.int _ _,rfl⟩
  ·rename_i s hu;cases h;cases hx
   exact .inl ⟨.string ⟨s.toArray⟩,by simp[convert,run_under hs,run_under hu],.str _,rfl⟩
  ·rename_i e s hu
   split at h
   ·rename_i he
    cases h;cases hx
    rw[Bool.and_eq_true]at he
    have hd:d=.string:=by
     revert he;cases d<;>simp[isStr]
    exact .inr ⟨e,s,hs.trans (congrArg some hd),hu,isU8_of he.2,rfl,rfl⟩
   ·cases h
  ·rename_i ty z xs f hu
   split at h
   ·rename_i e
    split at h
    ·rename_i he
     obtain⟨he1,rfl⟩:=he
     rw[Option.map_eq_some_iff]at h
     obtain⟨l,h1,rfl⟩:=h
     have hxs:=bytesOf_eq h1
     have hlen:xs.length=l.length:=by rw[hxs];simp[byteAV]
     refine .inl ⟨.string ⟨l.toArray⟩,?_,.str _,rfl⟩
     cases hx with
     | sl b o _ _ _ _ cap hc hz hcap =>
      rw[hxs,cellsOf_byteAV]at hc
      rw[hlen]
      exact run_convert_bytes_back w src dst e ⟨b,o,none⟩ cap l hs (isU8_of he1) hu fun j hj=>by
       have:=himm _ _ _ (relC_bytes hc j hj)
       unfold Addr.add
       split
       ·rename_i j0
        subst j0
        simpa using this
       ·exact this
     | sl0 a _ _ _ cap hf =>
      have hl0:l=[]:=List.length_eq_zero_iff.1 (by simpa using hlen.symm)
      subst hl0
      exact run_convert_bytes_back w src dst e a cap [] hs (isU8_of he1) hu fun j hj=>by cases hj
    ·cases h
   ·cases h
  ·rename_i hu
   split at h
   ·rename_i e
    split at h
    ·rename_i he1
     cases h;cases hx
     refine .inl ⟨.string ⟨([]:List UInt8).toArray⟩,?_,.str _,rfl⟩
     simp[convert,run_under hs,run_under hu,run_under (isU8_of he1),Conv.bytesToString]
     rfl
    ·cases h
   ·cases h
  ·cases h
def aBound (hi:Nat):AV→Option Nat
 | .int _ n=>if 0≤n∧n≤(hi:Int) then some n.toNat else none
 | _=>none
theorem sliceBound_ok {P:Program}{y n:Nat}{x:AV}(h:aBound y x=some n){L:Lay}{v:Value}(hx:Rel L x v)(c:BoundsCode)(w:World) :
  (Instr.sliceBound v y c).run P w=.ok n w∧n≤y:=by
 unfold aBound at h
 split at h
 ·rename_i k m
  split at h
  ·rename_i hb
   cases h;cases hx
   exact⟨by simp[Instr.sliceBound,asIntOf,hb],by omega⟩
  ·cases h
 ·cases h
def aSubstr (s:List UInt8)(lo hi:Option AV):Option AV :=
 match lo,hi with
 | none,none=>some (.str s)
 | none,some h=>match aBound s.length h with
  | some h=>some (.str (s.take h))
  | none=>none
 | some l,none=>match aBound s.length l with
  | some l=>some (.str (s.drop l))
  | none=>none
 | some l,some h=>match aBound s.length h with
  | some h=>match aBound h l with
   | some l=>some (.str ((s.take h).drop l))
   | none=>none
  | none=>none
inductive RelO (L:Lay):Option AV→Option Value→Prop
 | none:RelO L .none .none
 | some (a:AV) (v:Value) (h:Rel L a v):RelO L (.some a) (.some v)
theorem extract_mk (s:List UInt8)(l h:Nat):(ByteArray.mk s.toArray).extract l h=ByteArray.mk ((s.take h).drop l).toArray:=by
 apply ByteArray.ext
 apply Array.toList_inj.1
 simp[ByteArray.data_extract,List.drop_take]
theorem extract_mk_end (s:List UInt8)(l:Nat):(ByteArray.mk s.toArray).extract l s.length=ByteArray.mk (s.drop l).toArray:=by
 rw[extract_mk,List.take_length]
theorem substr_ok {P:Program}{t:TypeId}(hu:P.underlying t=some .string){s:List UInt8}{lo hi:Option AV}{r:AV}(h:aSubstr s lo hi=some r){L:Lay}{l u:Option Value}(hl:RelO L lo l)(hh:RelO L hi u)(w:World) :
  ∃z,(Instr.sliceAt t (.string ⟨s.toArray⟩) l u none).run P w=.ok z w∧Rel L r z∧r.isOwn=false:=by
 unfold aSubstr at h
 cases hl with
 | none =>
  cases hh with
  | none =>
   cases h
   refine⟨_,?_,.str _,rfl⟩
   simp[Instr.sliceAt,run_under hu,Instr.slice,Instr.sliceBounds]
  | some a v hv =>
   simp only at h
   split at h
   ·rename_i n hb
    cases h
    obtain⟨k1,k2⟩:=sliceBound_ok (P:=P) hb hv .sliceAlen w
    refine⟨_,?_,.str _,rfl⟩
    simp[Instr.sliceAt,run_under hu,Instr.slice,Instr.sliceBounds,size_mk,k1,extract_mk]
   ·cases h
 | some a v hv =>
  cases hh with
  | none =>
   simp only at h
   split at h
   ·rename_i n hb
    cases h
    obtain⟨k1,k2⟩:=sliceBound_ok (P:=P) hb hv .sliceB w
    refine⟨_,?_,.str _,rfl⟩
    simp[Instr.sliceAt,run_under hu,Instr.slice,Instr.sliceBounds,size_mk,k1,extract_mk_end]
   ·cases h
  | some b u hu' =>
   simp only at h
   split at h
   ·rename_i n hb
    split at h
    ·rename_i m hm
     cases h
     obtain⟨k1,k2⟩:=sliceBound_ok (P:=P) hb hu' .sliceAlen w
     obtain⟨m1,m2⟩:=sliceBound_ok (P:=P) hm hv .sliceB w
     refine⟨_,?_,.str _,rfl⟩
     simp[Instr.sliceAt,run_under hu,Instr.slice,Instr.sliceBounds,size_mk,k1,m1,extract_mk]
    ·cases h
   ·cases h
def aSlice (ty:TypeId)(z:Nat)(xs:List AV)(lo hi:Option AV):Option AV :=
 match lo,hi with
 | none,none=>some (.sl ty z xs .sh)
 | none,some h=>match aBound xs.length h with
  | some h=>some (.sl ty z (xs.take h) .sh)
  | none=>none
 | some l,none=>match aBound xs.length l with
  | some l=>some (.sl ty z (xs.drop l) .sh)
  | none=>none
 | some l,some h=>match aBound xs.length h with
  | some h=>match aBound h l with
   | some l=>some (.sl ty z ((xs.take h).drop l) .sh)
   | none=>none
  | none=>none
theorem cellsOf_append (xs ys:List AV):cellsOf (xs++ys)=cellsOf xs++cellsOf ys:=by simp[cellsOf]
theorem cellsOf_length {z:Nat}:∀{xs:List AV},(∀x∈xs,x.cells.length=z)→(cellsOf xs).length=xs.length*z
 | [],_=>by simp[cellsOf]
 | x::xs,h=>by
  have ih:=cellsOf_length (xs:=xs) (fun y hy=>h y (by simp[hy]))
  have:cellsOf (x::xs)=x.cells++cellsOf xs:=rfl
  rw[this,List.length_append,ih,h x (by simp),List.length_cons,Nat.succ_mul,Nat.add_comm]
theorem RelC.take_elems {L:Lay}{b o:Nat}(n:Nat){xs:List AV}(h:RelC L b o (cellsOf xs)):RelC L b o (cellsOf (xs.take n)):=by
 have:cellsOf xs=cellsOf (xs.take n)++cellsOf (xs.drop n):=by rw[←cellsOf_append,List.take_append_drop]
 rw[this]at h
 exact h.left
theorem RelC.drop_elems {L:Lay}{b o z:Nat}(n:Nat){xs:List AV}(hz:∀x∈xs,x.cells.length=z)(hn:n≤xs.length)(h:RelC L b o (cellsOf xs)):RelC L b (o+n*z) (cellsOf (xs.drop n)):=by
 have:cellsOf xs=cellsOf (xs.take n)++cellsOf (xs.drop n):=by rw[←cellsOf_append,List.take_append_drop]
 rw[this]at h
 have:=h.right
 rwa [cellsOf_length (z:=z) (fun x hx=>hz x (List.mem_of_mem_take hx)),List.length_take,Nat.min_eq_left hn]at this
theorem rel_slice {L:Lay}{b o z:Nat}{ty:TypeId}{xs:List AV}{_f:Flag}{cap:Nat}(h:Rel L (.sl ty z xs _f) (.slice (some ⟨b,o,none⟩) xs.length cap))(l k:Nat)(hl:l≤k)(hk:k≤xs.length) :
  Rel L (.sl ty z ((xs.take k).drop l) .sh) (.slice (if cap=l then some ⟨b,o,none⟩ else some (Addr.add ⟨b,o,none⟩ (l*z))) (k-l) (cap-l)):=by
 cases h with
 | sl0 a _ _ _ _ hf =>
  have hk0:k=0:=by simpa using hk
  have hl0:l=0:=by omega
  subst hk0;subst hl0
  simp only[List.take_nil,List.drop_nil,Nat.zero_mul,Nat.sub_self,Nat.sub_zero]
  split
  ·exact .sl0 _ _ _ _ _ (.inl rfl)
  ·exact .sl0 _ _ _ _ _ (.inl rfl)
 | sl _ _ _ _ _ _ _ hc hz hcap =>
  have hlen:((xs.take k).drop l).length=k-l:=by simp[List.length_take,Nat.min_eq_left hk]
  rw[show (.slice (if cap=l then some ⟨b,o,none⟩ else some (Addr.add ⟨b,o,none⟩ (l*z))) (k-l) (cap-l):Value) =
   .slice (if cap=l then some ⟨b,o,none⟩ else some (Addr.add ⟨b,o,none⟩ (l*z))) ((xs.take k).drop l).length (cap-l) by rw[hlen]]
  split
  ·rename_i e
   have e2:k=l:=by omega
   refine .sl b o ty z _ .sh _ ?_ (fun x hx=>hz x (List.mem_of_mem_take (List.mem_of_mem_drop hx))) ⟨by rw[hlen];omega,nofun⟩
   rw[show (xs.take k).drop l=[] by apply List.drop_eq_nil_of_le;simp;omega]
   exact .nil _ _
  ·rename_i e
   have:Addr.add ⟨b,o,none⟩ (l*z)=⟨b,o+l*z,none⟩:=by unfold Addr.add;split<;>simp_all
   rw[this]
   refine .sl b (o+l*z) ty z _ .sh _ ?_ (fun x hx=>hz x (List.mem_of_mem_take (List.mem_of_mem_drop hx))) ⟨by rw[hlen];omega,nofun⟩
   exact RelC.drop_elems l (fun x hx=>hz x (List.mem_of_mem_take hx)) (by simp;omega) (hc.take_elems k)
theorem slice_ok {P:Program}{t e:TypeId}{z:Nat}(hu:P.underlying t=some (.slice e))(hz:szOf P e=some z){xs:List AV}{_f:Flag}{lo hi:Option AV}{r:AV}{ty:TypeId}(h:aSlice ty z xs lo hi=some r)
  {L:Lay}{v:Value}(hx:Rel L (.sl ty z xs _f) v){l u:Option Value}(hl:RelO L lo l)(hh:RelO L hi u)(w:World) :
  ∃y,(Instr.sliceAt t v l u none).run P w=.ok y w∧Rel L r y∧r.isOwn=false:=by
 have hx0:=hx
 cases hx with
 | sl b o _ _ _ _ cap hc hzz hcap =>
  have hcap:=hcap.1
  have red:∀(l' k:Nat) (hlk:l'≤k) (hk:k≤xs.length),Rel L (.sl ty z ((xs.take k).drop l') .sh) (.slice (if cap=l' then some ⟨b,o,none⟩ else some (Addr.add ⟨b,o,none⟩ (l'*z))) (k-l') (cap-l')) :=
   fun l' k h1 h2=>rel_slice hx0 l' k h1 h2
  unfold aSlice at h
  cases hl with
  | none =>
   cases hh with
   | none =>
    cases h
    refine⟨.slice (some ⟨b,o,none⟩) xs.length cap,?_,?_,rfl⟩
    ·simp[Instr.sliceAt,run_under hu,Instr.slice,Instr.sliceBounds,run_szOf hz,Addr.add]
    ·exact .sl b o ty z xs .sh cap hc hzz ⟨hcap,nofun⟩
   | some a v hv =>
    simp only at h
    split at h
    ·rename_i n hb
     cases h
     have hb':aBound cap a=some n:=by
      unfold aBound at hb ⊢;split at hb
      ·split at hb
       ·rw[if_pos (by omega)];exact hb
       ·cases hb
      ·cases hb
     obtain⟨_,k2⟩:=sliceBound_ok (P:=P) hb hv .sliceAcap w
     obtain⟨k1,_⟩:=sliceBound_ok (P:=P) hb' hv .sliceAcap w
     have:=red 0 n (Nat.zero_le _) k2
     simp only[List.drop_zero]at this
     refine⟨_,?_,this,rfl⟩
     simp[Instr.sliceAt,run_under hu,Instr.slice,Instr.sliceBounds,run_szOf hz,k1,Addr.add]
    ·cases h
  | some a v hv =>
   cases hh with
   | none =>
    simp only at h
    split at h
    ·rename_i n hb
     cases h
     obtain⟨k1,k2⟩:=sliceBound_ok (P:=P) hb hv .sliceB w
     have:=red n xs.length k2 (Nat.le_refl _)
     simp only[List.take_length]at this
     refine⟨_,?_,this,rfl⟩
     simp[Instr.sliceAt,run_under hu,Instr.slice,Instr.sliceBounds,run_szOf hz,k1]
    ·cases h
   | some c u hu' =>
    simp only at h
    split at h
    ·rename_i n hb
     split at h
     ·rename_i m hm
      cases h
      have hb':aBound cap c=some n:=by
       unfold aBound at hb ⊢;split at hb
       ·split at hb
        ·rw[if_pos (by omega)];exact hb
        ·cases hb
       ·cases hb
      obtain⟨_,k2⟩:=sliceBound_ok (P:=P) hb hu' .sliceAcap w
      obtain⟨k1,_⟩:=sliceBound_ok (P:=P) hb' hu' .sliceAcap w
      obtain⟨m1,m2⟩:=sliceBound_ok (P:=P) hm hv .sliceB w
      refine⟨_,?_,red m n m2 k2,rfl⟩
      simp[Instr.sliceAt,run_under hu,Instr.slice,Instr.sliceBounds,run_szOf hz,k1,m1]
     ·cases h
    ·cases h
 | sl0 a _ _ _ cap hf =>
  have red:∀c,Rel L (.sl ty z [] .sh) (.slice (some a) 0 c):=fun c=>.sl0 a ty z .sh c (.inl rfl)
  have up:∀{c:AV} {n:Nat},aBound 0 c=some n→aBound cap c=some n:=by
   intro c n hb
   unfold aBound at hb ⊢;split at hb
   ·split at hb
    ·rw[if_pos (by omega)];exact hb
    ·cases hb
   ·cases hb
  unfold aSlice at h
  simp only[List.length_nil,List.take_nil,List.drop_nil]at h
  cases hl with
  | none =>
   cases hh with
   | none =>
    cases h
    exact⟨.slice (some a) 0 cap,by simp[Instr.sliceAt,run_under hu,Instr.slice,Instr.sliceBounds,run_szOf hz,Addr.add],red cap,rfl⟩
   | some a' v hv =>
    simp only at h
    split at h
    ·rename_i n hb
     cases h
     obtain⟨_,k2⟩:=sliceBound_ok (P:=P) hb hv .sliceAcap w
     obtain⟨k1,_⟩:=sliceBound_ok (P:=P) (up hb) hv .sliceAcap w
     obtain rfl:n=0:=by omega
     exact⟨.slice (some a) 0 cap,by simp[Instr.sliceAt,run_under hu,Instr.slice,Instr.sliceBounds,run_szOf hz,k1,Addr.add],red cap,rfl⟩
    ·cases h
  | some a' v hv =>
   cases hh with
   | none =>
    simp only at h
    split at h
    ·rename_i n hb
     cases h
     obtain⟨k1,k2⟩:=sliceBound_ok (P:=P) hb hv .sliceB w
     obtain rfl:n=0:=by omega
     exact⟨.slice (some a) 0 cap,by simp[Instr.sliceAt,run_under hu,Instr.slice,Instr.sliceBounds,run_szOf hz,k1,Addr.add],red cap,rfl⟩
    ·cases h
   | some c u hu' =>
    simp only at h
    split at h
    ·rename_i n hb
     split at h
     ·rename_i m hm
      cases h
      obtain⟨_,k2⟩:=sliceBound_ok (P:=P) hb hu' .sliceAcap w
      obtain⟨k1,_⟩:=sliceBound_ok (P:=P) (up hb) hu' .sliceAcap w
      obtain⟨m1,m2⟩:=sliceBound_ok (P:=P) hm hv .sliceB w
      obtain rfl:n=0:=by omega
      obtain rfl:m=0:=by omega
      exact⟨.slice (some a) 0 cap,by simp[Instr.sliceAt,run_under hu,Instr.slice,Instr.sliceBounds,run_szOf hz,k1,m1,Addr.add],red cap,rfl⟩
     ·cases h
    ·cases h
def aRsTake (ty:TypeId)(z id off len:Nat)(lo hi:Option AV):Option AV :=
 match lo,hi with
 | none,none=>some (.rs ty z id off len)
 | none,some h=>match aBound len h with
  | some h=>some (.rs ty z id off h)
  | none=>none
 | some l,none=>match aBound len l with
  | some l=>some (.rs ty z id (off+l*z) (len-l))
  | none=>none
 | _,_=>none
theorem rsTake_ok {P:Program}{t e:TypeId}{z:Nat}(hu:P.underlying t=some (.slice e))(hz:szOf P e=some z){id off len:Nat}{lo hi:Option AV}{r:AV}{ty:TypeId}(h:aRsTake ty z id off len lo hi=some r)
  {L:Lay}{v:Value}(hx:Rel L (.rs ty z id off len) v){l u:Option Value}(hl:RelO L lo l)(hh:RelO L hi u)(w:World) :
  ∃y,(Instr.sliceAt t v l u none).run P w=.ok y w∧Rel L r y∧r.isOwn=false:=by
 have hx0:=hx
 cases hx with
 | rs _ _ _ _ _ cap hid hcap =>
  unfold aRsTake at h
  cases hl with
  | none =>
   cases hh with
   | none =>
    cases h
    exact⟨.slice (some ⟨L.loc id,L.bs id+off,none⟩) len cap,by simp[Instr.sliceAt,run_under hu,Instr.slice,Instr.sliceBounds,run_szOf hz,Addr.add],hx0,rfl⟩
   | some a v hv =>
    simp only at h
    split at h
    ·rename_i n hb
     cases h
     have hb':aBound cap a=some n:=by
      unfold aBound at hb ⊢;split at hb
      ·split at hb
       ·rw[if_pos (by omega)];exact hb
       ·cases hb
      ·cases hb
     obtain⟨_,k2⟩:=sliceBound_ok (P:=P) hb hv .sliceAcap w
     obtain⟨k1,_⟩:=sliceBound_ok (P:=P) hb' hv .sliceAcap w
     refine⟨.slice (some ⟨L.loc id,L.bs id+off,none⟩) n cap,?_,.rs ty z id off n cap hid ⟨by omega,hcap.2⟩,rfl⟩
     simp[Instr.sliceAt,run_under hu,Instr.slice,Instr.sliceBounds,run_szOf hz,k1,Addr.add]
    ·cases h
  | some a v hv =>
   cases hh with
   | none =>
    simp only at h
    split at h
    ·rename_i n hb
     cases h
     have hn:n≤len:=by
      unfold aBound at hb;split at hb
      ·split at hb
       ·cases hb;omega
       ·cases hb
      ·cases hb
     obtain⟨k1,k2⟩:=sliceBound_ok (P:=P) hb hv .sliceB w
     have ha:Addr.add ⟨L.loc id,L.bs id+off,none⟩ (n*z)=⟨L.loc id,L.bs id+(off+n*z),none⟩:=by unfold Addr.add;split<;>simp_all [Nat.add_assoc]
     by_cases hne:cap=n
     ·have hl:len=n:=by omega
      subst hl
      subst hne
      refine⟨.slice (some ⟨L.loc id,L.bs id+off,none⟩) 0 0,?_,by rw[Nat.sub_self];exact .rs0 _ ty z id _ hid,rfl⟩
      simp[Instr.sliceAt,run_under hu,Instr.slice,Instr.sliceBounds,run_szOf hz,k1]
     ·refine⟨.slice (some ⟨L.loc id,L.bs id+(off+n*z),none⟩) (len-n) (cap-n),?_,.rs ty z id (off+n*z) (len-n) (cap-n) hid ⟨by omega,?_⟩,rfl⟩
      ·simp[Instr.sliceAt,run_under hu,Instr.slice,Instr.sliceBounds,run_szOf hz,k1,hne,ha]
      ·have h1:n*z+(cap-n)*z=cap*z:=by rw[←Nat.add_mul];congr 1;omega
       have:=hcap.2
       omega
    ·cases h
   | some b u hu'=>cases h
 | rs0 a _ _ _ _ hid =>
  have b0:∀{a:AV} {n:Nat},aBound 0 a=some n→n=0:=fun {a n} hb=>by
   unfold aBound at hb;split at hb
   ·split at hb
    ·cases hb;omega
    ·cases hb
   ·cases hb
  have add0:∀a:Addr,a.add 0=a:=fun a=>by unfold Addr.add;split<;>simp_all
  unfold aRsTake at h
  cases hl with
  | none =>
   cases hh with
   | none =>
    cases h
    exact⟨.slice (some a) 0 0,by simp[Instr.sliceAt,run_under hu,Instr.slice,Instr.sliceBounds,run_szOf hz,add0],hx0,rfl⟩
   | some q v hv =>
    simp only at h
    split at h
    ·rename_i n hb
     cases h
     obtain⟨k1,_⟩:=sliceBound_ok (P:=P) hb hv .sliceAcap w
     have hn:=b0 hb
     subst hn
     exact⟨.slice (some a) 0 0,by simp[Instr.sliceAt,run_under hu,Instr.slice,Instr.sliceBounds,run_szOf hz,k1,add0],hx0,rfl⟩
    ·cases h
  | some q v hv =>
   cases hh with
   | none =>
    simp only at h
    split at h
    ·rename_i n hb
     cases h
     obtain⟨k1,_⟩:=sliceBound_ok (P:=P) hb hv .sliceB w
     have hn:=b0 hb
     subst hn
     exact⟨.slice (some a) 0 0,by simp[Instr.sliceAt,run_under hu,Instr.slice,Instr.sliceBounds,run_szOf hz,k1,add0],.rs0 _ ty z id _ hid,rfl⟩
    ·cases h
   | some b u hu'=>cases h
def aSl (P:Program)(t:TypeId)(x:AV)(lo hi mx:Option AV):Option AV :=
 match P.underlying t,x,mx with
 | some .string,.str s,none=>aSubstr s lo hi
 | some (.slice e),.sl ty z xs _,none=>if szOf P e=some z then aSlice ty z xs lo hi else none
 | some (.slice e),.rs ty z id off len,none=>if szOf P e=some z then aRsTake ty z id off len lo hi else none
 | some (.slice e),.sl ty z _ _,some (.int _ 0)=>match lo,hi with
  | none,some (.int _ 0)=>if szOf P e=some z then some (.sl ty z [] .full) else none
  | _,_=>none
 | some (.slice _),.nils,none=>match lo,hi with
  | none,none=>some .nils
  | none,some (.int _ 0)=>some .nils
  | some (.int _ 0),none=>some .nils
  | some (.int _ 0),some (.int _ 0)=>some .nils
  | _,_=>none
 | some (.slice _),.nils,some (.int _ 0)=>match lo,hi with
  | none,some (.int _ 0)=>some .nils
  | _,_=>none
 | _,_,_=>none
theorem aSl_ok {P:Program}{t:TypeId}{x:AV}{lo hi mx:Option AV}{r:AV}(h:aSl P t x lo hi mx=some r)(hsz:∀e,P.underlying t=some (.slice e)→∃n,szOf P e=some n)
  {L:Lay}{v:Value}(hx:Rel L x v){l u m:Option Value}(hl:RelO L lo l)(hh:RelO L hi u)(hm:RelO L mx m)(w:World) :
  ∃y,(Instr.sliceAt t v l u m).run P w=.ok y w∧Rel L r y∧NoOwn r y:=by
 unfold aSl at h
 split at h
 ·rename_i hu;cases hm;cases hx;obtain⟨y,h1,h2,h3⟩:=substr_ok hu h hl hh w;exact⟨y,h1,h2,.of_not h3⟩
 ·rename_i hu
  split at h
  ·rename_i hz;cases hm;obtain⟨y,h1,h2,h3⟩:=slice_ok hu hz h hx hl hh w;exact⟨y,h1,h2,.of_not h3⟩
  ·cases h
 ·rename_i hu
  split at h
  ·rename_i hz;cases hm;obtain⟨y,h1,h2,h3⟩:=rsTake_ok hu hz h hx hl hh w;exact⟨y,h1,h2,.of_not h3⟩
  ·cases h
 ·rename_i hu
  split at h
  ·split at h
   ·rename_i hz
    cases h
    cases hm with
    | some _ _ hm=>cases hm;cases hl;cases hh with
     | some _ _ hh =>
      cases hh;cases hx with
      | sl b o _ _ _ _ cap hc hzz hcap =>
       refine⟨.slice (some ⟨b,o,none⟩) 0 0,?_,.sl b o _ _ [] .full 0 (.nil _ _) (by simp) (by simp),.of_not rfl⟩
       simp[Instr.sliceAt,run_under hu,Instr.slice,Instr.sliceBounds,Instr.sliceBound,asIntOf,run_szOf hz]
      | sl0 a _ _ _ cap hf =>
       refine⟨.slice (some a) 0 0,?_,.sl0 a _ _ .full 0 (.inr ⟨rfl,rfl⟩),.of_not rfl⟩
       simp[Instr.sliceAt,run_under hu,Instr.slice,Instr.sliceBounds,Instr.sliceBound,asIntOf,run_szOf hz]
   ·cases h
  ·cases h
 ·rename_i hu
  obtain⟨n,hn⟩:=hsz _ hu
  cases hm;cases hx
  split at h
  ·cases h;cases hl;cases hh
   exact⟨.slice none 0 0,by simp[Instr.sliceAt,run_under hu,Instr.slice,Instr.sliceBounds,run_szOf hn],.nils,.of_not rfl⟩
  ·cases h;cases hl;cases hh with
   | some _ _ hh=>cases hh;exact⟨.slice none 0 0,by simp[Instr.sliceAt,run_under hu,Instr.slice,Instr.sliceBounds,Instr.sliceBound,asIntOf,run_szOf hn],.nils,.of_not rfl⟩
  ·cases h;cases hh;cases hl with
   | some _ _ hh=>cases hh;exact⟨.slice none 0 0,by simp[Instr.sliceAt,run_under hu,Instr.slice,Instr.sliceBounds,Instr.sliceBound,asIntOf,run_szOf hn],.nils,.of_not rfl⟩
  ·cases h;cases hh with
   | some _ _ hh=>cases hh;cases hl with
    | some _ _ hl=>cases hl;exact⟨.slice none 0 0,by simp[Instr.sliceAt,run_under hu,Instr.slice,Instr.sliceBounds,Instr.sliceBound,asIntOf,run_szOf hn],.nils,.of_not rfl⟩
  ·cases h
 ·rename_i hu
  obtain⟨n,hn⟩:=hsz _ hu
  cases hx
  split at h
  ·cases h;cases hl;cases hm with
   | some _ _ hm=>cases hm;cases hh with
    | some _ _ hh=>cases hh;exact⟨.slice none 0 0,by simp[Instr.sliceAt,run_under hu,Instr.slice,Instr.sliceBounds,Instr.sliceBound,asIntOf,run_szOf hn],.nils,.of_not rfl⟩
  ·cases h
 ·cases h
def aIndex (P:Program)(t:TypeId)(x i:AV):Option AV :=
 match P.underlying t,x,i with
 | some .string,.str s,.int _ n=>if 0≤n then(match s[n.toNat]? with|some b=>some (.int .u8 b.toNat)|none=>none) else none
 | _,_,_=>none
theorem aIndex_ok {P:Program}{t:TypeId}{x i r:AV}(h:aIndex P t x i=some r){L:Lay}{v u:Value}(hx:Rel L x v)(hi:Rel L i u)(w:World) :
  ∃z,(Instr.index t v u).run P w=.ok z w∧Rel L r z∧r.isOwn=false:=by
 unfold aIndex at h
 split at h
 ·rename_i s k n hu
  split at h
  ·rename_i hn
   split at h
   ·rename_i b hb
    cases h;cases hx;cases hi
    refine⟨.int .u8 b.toNat,?_,.int _ _,rfl⟩
    have hlt:n.toNat<s.length:=(List.getElem?_eq_some_iff.1 hb).1
    have hb':(⟨s.toArray⟩:ByteArray)[n.toNat]?=some b:=by
     rw[getElem?_pos _ _ (by rw[size_mk];exact hlt)]
     rw[List.getElem?_eq_getElem hlt]at hb
     cases hb
     rfl
    simp[Instr.index,asIntOf,run_under hu,hn,hb']
   ·cases h
  ·cases h
 ·cases h
def aIndexAddr (P:Program)(t:TypeId)(x i:AV):Option AV :=
 match P.underlying t,x,i with
 | some (.slice e),.sl _ z xs _,.int _ n=>if szOf P e=some z then(if 0≤n then(match xs[n.toNat]? with|some a=>some (.box a.cells 0)|none=>none) else none) else none
 | some (.slice e),.rs _ z id off len,.int _ n=>if szOf P e=some z then(if 0≤n∧n<len then some (.ref id (off+n.toNat*z)) else none) else none
 | some (.array len e),.ref id off,.int _ n=>match szOf P e with|some z=>if 0≤n∧n<len then some (.ref id (off+n.toNat*z)) else none|none=>none
 | some (.array len e),.box cs off,.int _ n=>match szOf P e with|some z=>if 0≤n∧n<len then some (.box cs (off+n.toNat*z)) else none|none=>none
 | _,_,_=>none
theorem aIndexAddr_ok {P:Program}{t:TypeId}{x i r:AV}(h:aIndexAddr P t x i=some r){L:Lay}{v u:Value}(hx:Rel L x v)(hi:Rel L i u)(w:World) :
  ∃y,(Instr.indexAt t v u).run P w=.ok y w∧Rel L r y∧r.isOwn=false:=by
 unfold aIndexAddr at h
 split at h
 ·rename_i e _ z xs f k n hu
  split at h
  ·rename_i hz
   split at h
   ·rename_i hn
    split at h
    ·rename_i a ha
     cases h;cases hi
     cases hx with
     | sl b o _ _ _ _ cap hc hzz hcap =>
      have hlt:n.toNat<xs.length:=(List.getElem?_eq_some_iff.1 ha).1
      have hadd:Addr.add ⟨b,o,none⟩ (n.toNat*z)=⟨b,o+n.toNat*z+0,none⟩:=by unfold Addr.add;split<;>simp_all
      refine⟨.pointer (some ⟨b,o+n.toNat*z+0,none⟩),?_,?_,rfl⟩
      ·have hin:n<(xs.length:Int):=by omega
       simp[Instr.indexAt,asIntOf,run_under hu,hn,hin,run_szOf hz,hadd]
      ·refine .box b (o+n.toNat*z) a.cells 0 ?_
       have h1:=RelC.drop_elems n.toNat hzz (by omega) hc
       rw[List.drop_eq_getElem_cons hlt]at h1
       rw[List.getElem?_eq_getElem hlt]at ha
       cases ha
       exact RelC.left _ (bs:=cellsOf (xs.drop (n.toNat+1))) h1
     | sl0 a' _ _ _ cap hf=>simp at ha
    ·cases h
   ·cases h
  ·cases h
 ·rename_i e _ z id off len k n hu
  split at h
  ·rename_i hz
   split at h
   ·rename_i hn
    cases h;cases hi
    cases hx with
    | rs _ _ _ _ _ cap hid hcap =>
     have hadd:Addr.add ⟨L.loc id,L.bs id+off,none⟩ (n.toNat*z)=⟨L.loc id,L.bs id+(off+n.toNat*z),none⟩:=by unfold Addr.add;split<;>simp_all [Nat.add_assoc]
     refine⟨.pointer (some ⟨L.loc id,L.bs id+(off+n.toNat*z),none⟩),?_,.ref id _ hid,rfl⟩
     simp[Instr.indexAt,asIntOf,run_under hu,hn.1,hn.2,run_szOf hz,hadd]
    | rs0 a _ _ _ _ hid=>omega
   ·cases h
  ·cases h
 ·rename_i len e id off k n hu
  split at h
  ·rename_i z hz
   split at h
   ·rename_i hn
    cases h;cases hi
    cases hx with
    | ref _ _ hid =>
     have hadd:Addr.add ⟨L.loc id,L.bs id+off,none⟩ (n.toNat*z)=⟨L.loc id,L.bs id+(off+n.toNat*z),none⟩:=by unfold Addr.add;split<;>simp_all [Nat.add_assoc]
     refine⟨.pointer (some ⟨L.loc id,L.bs id+(off+n.toNat*z),none⟩),?_,.ref id _ hid,rfl⟩
     simp[Instr.indexAt,asIntOf,run_under hu,hn.1,hn.2,run_szOf hz,hadd,Instr.sureAddr]
   ·cases h
  ·cases h
 ·rename_i len e cs off k n hu
  split at h
  ·rename_i z hz
   split at h
   ·rename_i hn
    cases h;cases hi
    cases hx with
    | box b o _ _ hb =>
     have hadd:Addr.add ⟨b,o+off,none⟩ (n.toNat*z)=⟨b,o+(off+n.toNat*z),none⟩:=by unfold Addr.add;split<;>simp_all [Nat.add_assoc]
     refine⟨.pointer (some ⟨b,o+(off+n.toNat*z),none⟩),?_,.box b o cs _ hb,rfl⟩
     simp[Instr.indexAt,asIntOf,run_under hu,hn.1,hn.2,run_szOf hz,hadd,Instr.sureAddr]
   ·cases h
  ·cases h
 ·cases h
def aLen (P:Program)(t:TypeId)(x:AV):Option AV :=
 match P.underlying t,x with
 | some .string,.str s=>some (.int .i64 s.length)
 | some (.slice _),.sl _ _ xs _=>some (.int .i64 xs.length)
 | some (.slice _),.nils=>some (.int .i64 0)
 | some (.slice _),.rs _ _ _ _ len=>some (.int .i64 len)
 | some (.map _ _),.nilm=>some (.int .i64 0)
 | _,_=>none
theorem aLen_ok {P:Program}{t ty:TypeId}{x r:AV}(h:aLen P t x=some r){L:Lay}{v:Value}(hx:Rel L x v)(ts:Array TypeId)(hts:ts[0]?=some t)(w:World) :
  ∃y,(Builtin.len_ ts ty #[v]).run P w=.ok y w∧Rel L r y∧r.isOwn=false:=by
 unfold aLen at h
 split at h
 ·rename_i s hu;cases h;cases hx;exact⟨.int .i64 s.length,by simp[Builtin.len_,hts,run_under hu,goInt,size_mk],.int _ _,rfl⟩
 ·rename_i xs _ hu;cases h;cases hx<;>exact⟨_,by simp[Builtin.len_,hts,run_under hu,goInt],.int _ _,rfl⟩
 ·rename_i hu;cases h;cases hx;exact⟨.int .i64 0,by simp[Builtin.len_,hts,run_under hu,goInt],.int _ _,rfl⟩
 ·rename_i hu;cases h;cases hx<;>exact⟨_,by simp[Builtin.len_,hts,run_under hu,goInt],.int _ _,rfl⟩
 ·rename_i hu;cases h;cases hx;exact⟨.int .i64 0,by simp[Builtin.len_,hts,run_under hu,goInt],.int _ _,rfl⟩
 ·cases h
def aMin:AV→AV→Option AV
 | .int k x,.int _ y=>some (.int k (if y<x then y else x))
 | _,_=>none
def aMax:AV→AV→Option AV
 | .int k x,.int _ y=>some (.int k (if y > x then y else x))
 | _,_=>none
theorem aMin_ok {P:Program}{x y r:AV}(h:aMin x y=some r){L:Lay}{u v:Value}(hx:Rel L x u)(hy:Rel L y v)(ts:Array TypeId)(t:TypeId)(w:World) :
  ∃z,(Builtin.min_ ts t #[u,v]).run P w=.ok z w∧Rel L r z∧r.isOwn=false:=by
 unfold aMin at h
 split at h
 ·cases h;cases hx;cases hy;exact⟨.int _ _,by simp[Builtin.min_,Builtin.min2],.int _ _,rfl⟩
 ·cases h
theorem aMax_ok {P:Program}{x y r:AV}(h:aMax x y=some r){L:Lay}{u v:Value}(hx:Rel L x u)(hy:Rel L y v)(ts:Array TypeId)(t:TypeId)(w:World) :
  ∃z,(Builtin.max_ ts t #[u,v]).run P w=.ok z w∧Rel L r z∧r.isOwn=false:=by
 unfold aMax at h
 split at h
 ·cases h;cases hx;cases hy;exact⟨.int _ _,by simp[Builtin.max_,Builtin.max2],.int _ _,rfl⟩
 ·cases h
theorem aPick_ok {c a b r:AV}(h:aPick c a b=some r){L:Lay}{u v x:Value}(hc:Rel L c u)(ha:Rel L a v)(hb:Rel L b x){P:Program}(w:World) :
  ∃z,((do pure (if ←asBool u then v else x)):Sem Value).run P w=.ok z w∧Rel L r z∧r.isOwn=false:=by
 unfold aPick at h
 split at h
 ·cases h;cases hc;exact⟨v,by simp[asBool],ha.strip,strip_isOwn _⟩
 ·cases h;cases hc;exact⟨x,by simp[asBool],hb.strip,strip_isOwn _⟩
 ·cases h
end Go.Abs
end

section
namespace Go.Abs
open Go
def Res (W0:World)(L:Lay)(ow:Owns)(w:World)(r:AV)(s':Heap)(v:Value)(w':World):Prop :=
 ∃L' ow',Ext L ow w L' ow' w'∧St W0 L' ow' s' w'∧Rel L' r v∧OwnAt L' ow' w' .ret r v
theorem Res.same {W0:World}{L:Lay}{ow:Owns}{s:Heap}{w:World}(h:St W0 L ow s w){r:AV}{v:Value}(hr:Rel L r v)(hn:NoOwn r v):Res W0 L ow w r s v w :=
 ⟨L,ow,.refl _ _ _,h,hr,hn _ _ _ _⟩
section alloc
variable {W0:World}{L:Lay}{ow:Owns}{s:Heap}{w:World}
theorem imm_lt (h:St W0 L ow s w){b o:Nat}{v:Value}(e:L.S b o=some v):b<w.heap.size :=
 World.block_lt_of_cell? w (a:=⟨b,o,none⟩) (h.imm b o v e)
def Lay.new (L:Lay)(size k:Nat)(vs:List Value):Lay:={ L with S:=fun b o=>if b=size then(if o<k then vs[o]? else none) else L.S b o }
def newOw (ow:Owns)(size:Nat)(p:Place):Owns:=fun b=>if b=size then p else ow b
theorem new_le (h:St W0 L ow s w)(k:Nat)(vs:List Value):L.le (L.new w.heap.size k vs) :=
 ⟨fun b o v e=>by simp only[Lay.new];rw[if_neg (by have:=imm_lt h e;omega)];exact e,fun _ h=>h,fun _ _=>rfl,fun _ _=>rfl,fun _ _=>rfl,rfl⟩
theorem alloc_old (w:World)(o:Obj){b:Nat}(h:b<w.heap.size):(w.alloc o).heap[b]?=w.heap[b]?:=RowKit.Below.heap_alloc w o b h
theorem alloc_new (w:World)(o:Obj):(w.alloc o).heap[w.heap.size]?=some o:=by
 show (w.heap.push o)[w.heap.size]?=_
 simp
theorem new_ext {fz:Nat×Nat}(h:St W0 L ow s w)(k:Nat)(vs:List Value)(e:TypeId)(p:Place) :
  Ext L ow w (L.new w.heap.size k vs) (newOw ow w.heap.size p) (w.alloc (.cells vs.toArray e fz)):=by
 refine⟨new_le h k vs,fun b hb=>?_,⟨rfl,rfl,rfl,by simp,fun _=>Nat.le_refl _⟩⟩
 have hlt:=h.used b (by rw[hb];simp)
 refine⟨?_,fun o=>?_,alloc_old _ _ hlt⟩
 ·simp only[newOw];rw[if_neg (by omega)];exact hb
 ·simp only[Lay.new];rw[if_neg (by omega)]
theorem new_st {fz:Nat×Nat}(h:St W0 L ow s w)(k:Nat)(vs:List Value)(e:TypeId)(p:Place) :
  St W0 (L.new w.heap.size k vs) (newOw ow w.heap.size p) s (w.alloc (.cells vs.toArray e fz)):=by
 have hx:=new_ext (fz:=fz) h k vs e p
 refine h.move (new_le h k vs) rfl (fun b hb=>?_) (fun b o v hS=>?_) (fun b hb=>?_) (fun b hb=>?_) (h.below_ext hx)
 ·have hlt:=h.used b (by intro e;rw[e]at hb;cases hb)
  refine⟨?_,fun o=>?_,alloc_old _ _ hlt⟩
  ·simp only[newOw];rw[if_neg (by omega)]
  ·simp only[Lay.new];rw[if_neg (by omega)]
 ·simp only[Lay.new]at hS
  split at hS
  ·rename_i eb
   subst eb
   split at hS
   ·simp only[World.cell?,alloc_new]
    simpa using hS
   ·cases hS
  ·have hlt:=imm_lt h hS
   rw[cell?_of_heap (alloc_old w _ hlt)]
   exact h.imm b o v hS
 ·simp only[newOw]at hb
  split at hb
  ·rename_i eb;subst eb;simp
  ·have:=h.used b hb;simp;omega
 ·simp only[newOw]
  have:=h.base b hb
  have hlt:=h.used b (by rw[this];simp)
  rw[if_neg (by omega)];exact this
theorem new_melt (w:World)(c:Array Value)(e:TypeId)(o:Nat):(w.alloc (.cells c e)).frozen? ⟨w.heap.size,o,none⟩=false:=by
 simp only[World.frozen?,alloc_new];simp
theorem new_relC (h:St W0 L ow s w){k:Nat}{vs:List Value}{cs:List AV}(hr:RelL L cs (vs.take k))(h1:∀v∈vs.take k,oneC v=true) :
  RelC (L.new w.heap.size k vs) w.heap.size 0 cs :=
 RelC.of (hr.mono (new_le h k vs)) h1 (by
  intro i v hi
  simp only[Lay.new,if_true,Nat.zero_add]
  have hlt:i<k:=by have:=(List.getElem?_eq_some_iff.1 hi).1;simp at this;omega
  rw[if_pos hlt]
  rwa [List.getElem?_take_of_lt hlt]at hi)
def Lay.push (L:Lay)(id size n:Nat)(b0:Nat:=0):Lay:={ S:=L.S,bs:=fun i=>if i=id then b0 else L.bs i,live:=fun i=>if i=id then true else L.live i,loc:=fun i=>if i=id then size else L.loc i,sz:=fun i=>if i=id then n else L.sz i,m:=L.m }
def putAt (s:Heap)(id:Nat)(x:TypeId×List AV):Heap:=if id<s.length then s.set id x else s++List.replicate (id-s.length) (0,[])++[x]
theorem putAt_end (s:Heap)(x:TypeId×List AV):putAt s s.length x=s++[x]:=by simp[putAt]
theorem putAt_get (s:Heap)(id:Nat)(x:TypeId×List AV)(k:Nat):(putAt s id x)[k]?=if k=id then some x else if k<s.length then s[k]? else if k<id then some (0,[]) else none:=by
 unfold putAt
 split
 ·rename_i h
  by_cases e:k=id
  ·subst e;rw[if_pos rfl,List.getElem?_set_self h]
  ·rw[if_neg e,List.getElem?_set_ne (fun h=>e h.symm)]
   split
   ·rfl
   ·rw[List.getElem?_eq_none (by omega),if_neg (by omega)]
 ·rename_i h
  by_cases h1:k<s.length
  ·rw[if_neg (by omega),if_pos h1,List.append_assoc,List.getElem?_append_left h1]
  ·by_cases h2:k<id
   ·rw[if_neg (by omega),if_neg h1,if_pos h2,List.getElem?_append_left (by simp;omega),List.getElem?_append_right (by omega),List.getElem?_replicate,if_pos (by omega)]
   ·by_cases e:k=id
    ·subst e
     have hl:(s++List.replicate (k-s.length) ((0,[]):TypeId×List AV)).length=k:=by simp;omega
     rw[if_pos rfl,List.getElem?_append_right (by omega),hl,Nat.sub_self]
     rfl
    ·rw[if_neg e,if_neg h1,if_neg h2,List.getElem?_eq_none]
     simp;omega
theorem putAt_has {s:Heap}{id:Nat}{x:TypeId×List AV}(hx:x.2≠[])(k:Nat):has (putAt s id x) k=if k=id then true else has s k:=by
 by_cases e:k=id
 ·rw[if_pos e];exact has_of (by rw[putAt_get,if_pos e]) hx
 ·rw[if_neg e]
  simp only[has,putAt_get,if_neg e]
  by_cases h1:k<s.length
  ·rw[if_pos h1]
  ·rw[if_neg h1,List.getElem?_eq_none (l:=s) (by omega)]
   by_cases h2:k<id
   ·rw[if_pos h2];rfl
   ·rw[if_neg h2]
theorem push_le {L:Lay}{id:Nat}(hid:L.live id=false)(size n:Nat)(b0:Nat:=0):L.le (L.push id size n b0):=by
 refine⟨fun _ _ _ e=>e,fun i hi=>?_,fun i hi=>?_,fun i hi=>?_,fun i hi=>?_,rfl⟩
 ·simp only[Lay.push];split
  ·rfl
  ·exact hi
 ·simp only[Lay.push];rw[if_neg];intro e;rw[e,hid]at hi;cases hi
 ·simp only[Lay.push];rw[if_neg];intro e;rw[e,hid]at hi;cases hi
 ·simp only[Lay.push];rw[if_neg];intro e;rw[e,hid]at hi;cases hi
theorem push_ext (h:St W0 L ow s w){id:Nat}(hid:has s id=false)(o:Obj)(n:Nat):Ext L ow w (L.push id w.heap.size n) (newOw ow w.heap.size (.obj id)) (w.alloc o):=by
 refine⟨push_le (by rw[h.live,hid]) _ _,fun b hb=>?_,⟨rfl,rfl,rfl,by simp,fun _=>Nat.le_refl _⟩⟩
 have hlt:=h.used b (by rw[hb];simp)
 refine⟨?_,fun o=>rfl,alloc_old _ _ hlt⟩
 simp only[newOw];rw[if_neg (by omega)];exact hb
theorem push_stJ (h:St W0 L ow s w){id:Nat}(hid:has s id=false){vs:List Value}{cs:List AV}(js:List Value)(hr:RelL L cs vs)(h1:∀v∈vs,oneC v=true)(hn:∀a∈cs,a.isOwn=false)(hcs:cs≠[])(e:TypeId)(het:e<deadTy) :
  St W0 (L.push id w.heap.size (vs++js).length) (newOw ow w.heap.size (.obj id)) (putAt s id (e,cs)) (w.alloc (.cells (vs++js).toArray e)):=by
 have hx:=push_ext h hid (.cells (vs++js).toArray e) (vs++js).length
 have hle:=push_le (L:=L) (id:=id) (by rw[h.live,hid]) w.heap.size (vs++js).length
 have hold:∀b,(ow b).excl=true→newOw ow w.heap.size (.obj id) b=ow b∧(∀o,(L.push id w.heap.size (vs++js).length).S b o=L.S b o)∧(w.alloc (.cells (vs++js).toArray e)).heap[b]?=w.heap[b]?:=by
  intro b hb
  have hlt:=h.used b (by intro e;rw[e]at hb;cases hb)
  refine⟨?_,fun o=>rfl,alloc_old _ _ hlt⟩
  simp only[newOw];rw[if_neg (by omega)]
 refine⟨fun i=>?_,fun b o v hS=>?_,fun i ds hds hne hdt=>?_,fun b hb=>?_,fun b hb=>?_,h.below_ext hx⟩
 ·rw[putAt_has hcs];simp only[Lay.push,h.live]
 ·rw[cell?_of_heap (alloc_old w _ (imm_lt h hS))];exact h.imm b o v hS
 ·by_cases e':i=id
  ·subst e'
   rw[putAt_get,if_pos rfl]at hds
   cases hds
   have hl:(L.push i w.heap.size (vs++js).length).loc i=w.heap.size:=by simp[Lay.push]
   refine⟨by rw[hl];simp[newOw],fun o=>?_,fun _=>⟨vs,js,⟨_,[],by simp[Lay.push],by rw[hl,alloc_new];rfl⟩,hr.mono hle,h1,fun k a v ha _=>.of_not (hn a (List.mem_of_getElem? ha)),by simp[Lay.push]⟩,fun hm=>absurd hm (lt_dead het).2,fun o=>by rw[hl,new_melt],fun _=>by simp[Lay.push]⟩
   rw[hl]
   show L.S w.heap.size o=none
   cases hS:L.S w.heap.size o with
   | none=>rfl
   | some v=>exact absurd (imm_lt h hS) (by omega)
  ·have hds':s[i]?=some ds:=by
    rw[putAt_get,if_neg e']at hds
    split at hds
    ·exact hds
    ·split at hds
     ·cases hds;exact absurd rfl hne
     ·cases hds
   exact(h.obj i ds hds' hne hdt).move hle (by rw[h.live];exact has_of hds' hne) (fun b hb=>hold b (by rcases hb with hb|⟨k,hb⟩<;>rw[hb]<;>rfl))
 ·simp only[newOw]at hb
  split at hb
  ·rename_i eb;subst eb;simp
  ·have:=h.used b hb;simp;omega
 ·simp only[newOw]
  have:=h.base b hb
  have hlt:=h.used b (by rw[this];simp)
  rw[if_neg (by omega)];exact this
theorem push_st (h:St W0 L ow s w){id:Nat}(hid:has s id=false){vs:List Value}{cs:List AV}(hr:RelL L cs vs)(h1:∀v∈vs,oneC v=true)(hn:∀a∈cs,a.isOwn=false)(hcs:cs≠[])(e:TypeId)(het:e<deadTy) :
  St W0 (L.push id w.heap.size vs.length) (newOw ow w.heap.size (.obj id)) (putAt s id (e,cs)) (w.alloc (.cells vs.toArray e)):=by
 have:=push_stJ h hid [] hr h1 hn hcs e het
 simpa using this
theorem drew_ext:Ext L ow w L ow w.drew:=⟨.refl L,fun _ hb=>⟨hb,fun _=>rfl,rfl⟩,⟨rfl,rfl,rfl,Nat.le_refl _,fun _=>Nat.le_succ _⟩⟩
theorem drew_st (h:St W0 L ow s w):St W0 L ow s w.drew :=
 h.move (.refl L) rfl (fun _ _=>⟨rfl,fun _=>rfl,rfl⟩) h.imm h.used h.base (h.below_ext (L':=L) (ow':=ow) drew_ext)
end alloc
theorem strip_cells_isOwn (a:AV):∀x∈a.cells.map AV.strip,x.isOwn=false:=by
 intro x hx
 obtain⟨y,_,rfl⟩:=List.mem_map.1 hx
 exact strip_isOwn y
def AV.solid:AV→Bool
 | .undef|.tup _=>false
 | _=>true
theorem rel_cells {L:Lay}{a:AV}{v:Value}(h:Rel L a v)(hs:a.solid=true):∃vs:List Value,v.cells=vs.toArray∧RelL L a.cells vs∧∀u∈vs,oneC u=true:=by
 cases h with
 | agg cs vs h hv=>exact⟨vs,rfl,h,hv⟩
 | undef v=>simp[AV.solid]at hs
 | tup cs vs h=>simp[AV.solid]at hs
 | bool b=>exact⟨[.bool b],rfl,.cons _ _ _ _ (.bool b) .nil,by simp[oneC]⟩
 | int k n=>exact⟨[.int k n],rfl,.cons _ _ _ _ (.int k n) .nil,by simp[oneC]⟩
 | str x=>exact⟨[_],rfl,.cons _ _ _ _ (.str x) .nil,by simp[oneC]⟩
 | nilp=>exact⟨[_],rfl,.cons _ _ _ _ .nilp .nil,by simp[oneC]⟩
 | box b o cs off hc=>exact⟨[_],rfl,.cons _ _ _ _ (.box b o cs off hc) .nil,by simp[oneC]⟩
 | ref id off hi=>exact⟨[_],rfl,.cons _ _ _ _ (.ref id off hi) .nil,by simp[oneC]⟩
 | nils=>exact⟨[_],rfl,.cons _ _ _ _ .nils .nil,by simp[oneC]⟩
 | sl b o ty z xs f cap hc hz hcap=>exact⟨[_],rfl,.cons _ _ _ _ (.sl b o ty z xs f cap hc hz hcap) .nil,by simp[oneC]⟩
 | sl0 a ty z f cap hf=>exact⟨[_],rfl,.cons _ _ _ _ (.sl0 a ty z f cap hf) .nil,by simp[oneC]⟩
 | nilm=>exact⟨[_],rfl,.cons _ _ _ _ .nilm .nil,by simp[oneC]⟩
 | nilf=>exact⟨[_],rfl,.cons _ _ _ _ .nilf .nil,by simp[oneC]⟩
 | nili=>exact⟨[_],rfl,.cons _ _ _ _ .nili .nil,by simp[oneC]⟩
 | ifc t u=>exact⟨[_],rfl,.cons _ _ _ _ (.ifc t u) .nil,by simp[oneC]⟩
 | ifv t a u h=>exact⟨[_],rfl,.cons _ _ _ _ (.ifv t a u h) .nil,by simp[oneC]⟩
 | fn f x y vs ws h h'=>exact⟨[_],rfl,.cons _ _ _ _ (.fn f x y vs ws h h') .nil,by simp[oneC]⟩
 | rs ty z id off len cap h hc=>exact⟨[_],rfl,.cons _ _ _ _ (.rs ty z id off len cap h hc) .nil,by simp[oneC]⟩
 | rs0 a ty z id off h=>exact⟨[_],rfl,.cons _ _ _ _ (.rs0 a ty z id off h) .nil,by simp[oneC]⟩
 | mr id h=>exact⟨[_],rfl,.cons _ _ _ _ (.mr id h) .nil,by simp[oneC]⟩
theorem boxVal_ok {P:Program}{W0:World}{L:Lay}{ow:Owns}{s:Heap}{w:World}(h:St W0 L ow s w){a:AV}{v:Value}(ha:Rel L a v)(hs:a.solid=true)(t:TypeId) :
  ∃u w',(Instr.box t v).run P w=.ok u w'∧Res W0 L ow w (.box a.cells 0) s u w':=by
 obtain⟨vs,hv,hr,h1⟩:=rel_cells ha hs
 refine⟨.pointer (some ⟨w.heap.size,0,none⟩),w.alloc (.cells vs.toArray t),by simp[Instr.box,newVar,newRow,hv],L.new w.heap.size vs.length vs,newOw ow w.heap.size .free,
  new_ext h _ _ _ _,new_st h _ _ _ _,?_,.of_not rfl⟩
 exact .box w.heap.size 0 _ 0 (new_relC h (by rw[List.take_length];exact hr) (by rw[List.take_length];exact h1))
theorem boxRef_ok {P:Program}{W0:World}{L:Lay}{ow:Owns}{s:Heap}{w:World}(h:St W0 L ow s w){id:Nat}(hid:has s id=false){a:AV}{v:Value}(ha:Rel L a v)(hs:a.solid=true)(hc:a.cells≠[])(t:TypeId)(ht:t<deadTy) :
  ∃u w',(Instr.box t v).run P w=.ok u w'∧Res W0 L ow w (.ref id 0) (putAt s id (t,a.cells.map AV.strip)) u w':=by
 obtain⟨vs,hv,hr,h1⟩:=rel_cells ha hs
 refine⟨.pointer (some ⟨w.heap.size,0,none⟩),w.alloc (.cells vs.toArray t),by simp[Instr.box,newVar,newRow,hv],L.push id w.heap.size vs.length,newOw ow w.heap.size (.obj id),
  push_ext h hid _ _,push_st h hid hr.strip h1 (strip_cells_isOwn a) (by simpa using hc) t ht,?_,.of_not rfl⟩
 have:=Rel.ref (L:=L.push id w.heap.size vs.length) id 0 (by simp[Lay.push])
 rwa [show (L.push id w.heap.size vs.length).loc id=w.heap.size by simp[Lay.push],show (L.push id w.heap.size vs.length).bs id=0 by simp[Lay.push]]at this
def zeroOf (P:Program)(t:TypeId):Option AV:=((P.info? t).bind (·.zero)).map ofConst
theorem alloc_ok {P:Program}{W0:World}{L:Lay}{ow:Owns}{s:Heap}{w:World}(h:St W0 L ow s w){id:Nat}(hid:has s id=false){t:TypeId}{a:AV}(ha:zeroOf P t=some a)(hs:a.solid=true)(hc:a.cells≠[])(ht:t<deadTy) :
  ∃u w',(Instr.alloc t true (.tuple #[])).run P w=.ok u w'∧Res W0 L ow w (.ref id 0) (putAt s id (t,a.cells.map AV.strip)) u w':=by
 unfold zeroOf at ha
 rw[Option.map_eq_some_iff]at ha
 obtain⟨z,hz,rfl⟩:=ha
 obtain⟨u,w',h1,h2⟩:=boxRef_ok (P:=P) h hid (rel_ofConst L z) hs hc t ht
 refine⟨u,w',?_,h2⟩
 rw[←h1]
 simp[Instr.alloc,run_zero hz,Instr.box]
def aLoadR (agg:Bool)(n:Nat)(s:Heap)(id off:Nat):Option AV :=
 match s[id]? with
 | some cs=>if deadTy≤cs.1∨n=0 then none else aLoadC agg n cs.2 off
 | none=>none
theorem loadObj_ok {P:Program}{W0:World}{L:Lay}{ow:Owns}{s:Heap}{w:World}(h:St W0 L ow s w){t:TypeId}{agg:Bool}{n:Nat}(ha:isAggT P t=some agg)(hz:szOf P t=some n)
  {id off:Nat}{r:AV}(hr:aLoadR agg n s id off=some r){v:Value}(hv:Rel L (.ref id off) v):∃u,(Instr.loadAt t v).run P w=.ok u w∧Rel L r u:=by
 unfold aLoadR at hr
 split at hr
 ·rename_i cs hcs
  split at hr
  ·cases hr
  rename_i hdt
  have hdt:=Nat.lt_of_not_le (not_or.1 hdt).1
  obtain⟨vs,js,⟨fz,ps,hp,hh⟩,hrel,h1,_⟩:=(h.obj id cs hcs (by cases hv with|ref _ _ hid=>exact h.at hid hcs) (lt_dead hdt).1).cells (lt_dead hdt).2
  have hcell:∀i x,vs[i]?=some x→w.cell? ⟨L.loc id,L.bs id+i,none⟩=some x:=fun i x hi=>cellsAt hp hh hi
  cases hv with
  | ref _ _ hid =>
   unfold aLoadC at hr
   have hl:=hrel.length
   cases agg with
   | true =>
    simp only[if_true]at hr
    split at hr
    ·rename_i hle
     cases hr
     have hlen:((vs.drop off).take n).length=n:=by rw[List.length_take,List.length_drop];omega
     have:=run_loadCells_list (P:=P) (w:=w) ⟨L.loc id,L.bs id+off,none⟩ ((vs.drop off).take n) (fun j x hj=>by
      have hj':vs[off+j]?=some x:=by
       have hlt:j<n:=by have:=(List.getElem?_eq_some_iff.1 hj).1;rw[hlen]at this;exact this
       rwa [List.getElem?_take_of_lt hlt,List.getElem?_drop]at hj
      rw[←hcell _ _ hj']
      congr 1
      unfold Addr.add;split<;>simp_all [Nat.add_assoc])
     rw[hlen]at this
     refine⟨.agg ((vs.drop off).take n).toArray,by simp[Instr.loadAt,Instr.sureAddr,loadVar,run_isAggT ha,run_szOf hz,this],.agg _ _ ((hrel.drop off).take n) (fun x hx=>h1 x (List.mem_of_mem_drop (List.mem_of_mem_take hx)))⟩
    ·cases hr
   | false =>
    simp only[Bool.false_eq_true,if_false]at hr
    split at hr
    ·rename_i x hx
     cases hr
     obtain⟨u,hu,hru⟩:=hrel.get off x hx
     exact⟨u,by simp[Instr.loadAt,Instr.sureAddr,loadVar,run_isAggT ha,hcell _ _ hu],hru.strip⟩
    ·cases hr
 ·cases hr
end Go.Abs
end

section
namespace Go.Abs
open Go
theorem oneC_eq (v:Value):v.oneCell'=oneC v:=by cases v<;>rfl
def setL {α:Type}:List α→Nat→List α→List α
 | l,_,[]=>l
 | l,o,v::r=>setL (l.set o v) (o+1) r
theorem setL_length {α:Type}:∀(r l:List α)(o:Nat),(setL l o r).length=l.length
 | [],_,_=>rfl
 | v::r,l,o=>by rw[setL,setL_length r];simp
theorem RelL.setL {L:Lay}:∀{as:List AV}{vs:List Value},RelL L as vs→∀{cs:List AV}{us:List Value}(o:Nat),RelL L cs us→RelL L (Abs.setL cs o as) (Abs.setL us o vs)
 | _,_,.nil,_,_,_,k=>k
 | _,_,.cons a v as vs h t,_,_,o,k=>RelL.setL t (o+1) (k.set o h)
theorem setL_mem {α:Type}:∀(r l:List α)(o:Nat)(x:α),x∈setL l o r→x∈l∨x∈r
 | [],_,_,_,h=>.inl h
 | v::r,l,o,x,h=>by
  rcases setL_mem r (l.set o v) (o+1) x h with h|h
  ·rcases List.mem_or_eq_of_mem_set h with h|h
   ·exact .inl h
   ·exact .inr (by simp[h])
  ·exact .inr (by simp[h])
theorem setL_out {α:Type}:∀(r l:List α)(o k:Nat),k<o∨o+r.length≤k→(setL l o r)[k]?=l[k]?
 | [],_,_,_,_=>rfl
 | v::r,l,o,k,h=>by
  rw[setL,setL_out r _ _ k (by simp at h;omega),List.getElem?_set_ne (by simp at h;omega)]
theorem setL_in {α:Type}:∀(r l:List α)(o j:Nat),o+r.length≤l.length→j<r.length→(setL l o r)[o+j]?=r[j]?
 | v::r,l,o,0,h,_=>by
  rw[setL,setL_out r _ _ _ (by omega)]
  simp at h
  simp[List.getElem?_set_self (show o<l.length by omega)]
 | v::r,l,o,j+1,h,hj=>by
  rw[setL,show o+(j+1)=o+1+j by omega,setL_in r _ _ j (by simp at h ⊢;omega) (by simpa using hj)]
  simp
theorem setCells_heap_other {b k:Nat}(h:k≠b):∀(vs:List Value)(o:Nat)(w:World),(w.setCells b o vs).heap[k]?=w.heap[k]?
 | [],_,_=>rfl
 | v::r,o,w=>by rw[World.setCells,setCells_heap_other h r];exact RowKit.Below.heap_setCell _ _ _ _ h
theorem setCells_heap_size (b:Nat):∀(vs:List Value)(o:Nat)(w:World),(w.setCells b o vs).heap.size=w.heap.size
 | [],_,_=>rfl
 | v::r,o,w=>by rw[World.setCells,setCells_heap_size b r];simp
theorem setCells_heap_same {b:Nat}{e:TypeId}{fz:Nat×Nat}:∀(vs:List Value)(o:Nat)(w:World)(c:List Value),w.heap[b]?=some (.cells c.toArray e fz) →
  (w.setCells b o vs).heap[b]?=some (.cells (setL c o vs).toArray e fz)
 | [],_,_,_,h=>h
 | v::r,o,w,c,h=>by
  rw[World.setCells,setL]
  refine setCells_heap_same r (o+1) _ (c.set o v) ?_
  simp only[World.setCell,Array.getElem?_modify,if_true,h,Option.map_some]
  simp
theorem setCells_same {m:Bool}(b:Nat):∀(vs:List Value)(o:Nat)(w:World),Same m w (w.setCells b o vs)
 | [],_,w=>.refl w
 | v::r,o,w=>(Same.trans (b:=w.setCell ⟨b,o,none⟩ v) ⟨rfl,rfl,rfl,by simp,fun _=>Nat.le_refl _⟩ (setCells_same b r (o+1) _))
def stCells:AV→List AV
 | .agg cs=>cs.map AV.strip
 | v=>[v]
def aStore (n:Nat)(s:Heap)(x v:AV):Option Heap :=
 match x with
 | .ref id off=>if v.solid=true∧v.cells.length=n then match s[id]? with
  | some cs=>if cs.1<deadTy∧off+n≤cs.2.length then some (s.set id (cs.1,setL cs.2 off (stCells v))) else none
  | none=>none
  else none
 | _=>none
def argTo (ow:Owns)(p:Place):Owns:=fun b=>match ow b with|.arg=>p|q=>q
theorem stCells_rel {L:Lay}{a:AV}{v:Value}(h:Rel L a v)(hs:a.solid=true):∃vs:List Value,v.cells=vs.toArray∧RelL L (stCells a) vs∧(∀u∈vs,oneC u=true) ∧
  ((∀x∈stCells a,x.isOwn=false)∨(stCells a=[a]∧vs=[v])):=by
 obtain⟨vs,h1,h2,h3⟩:=rel_cells h hs
 cases a with
 | agg cs=>exact⟨vs,h1,h2.strip,h3,.inl (fun x hx=>by obtain⟨y,_,rfl⟩:=List.mem_map.1 hx;exact strip_isOwn y)⟩
 | _ =>
  refine⟨vs,h1,h2,h3,.inr ⟨rfl,?_⟩⟩
  cases h<;>first
   | (simp[Value.cells]at h1;apply List.toArray_inj;simpa using h1.symm)
   | simp[AV.solid]at hs
theorem setL_append {α:Type}:∀(r l js:List α)(o:Nat),o+r.length≤l.length→setL (l++js) o r=setL l o r++js
 | [],_,_,_,_=>rfl
 | v::r,l,js,o,h=>by
  simp only[List.length_cons]at h
  rw[setL,setL,List.set_append_left _ _ (by omega),setL_append r _ js (o+1) (by simp;omega)]
theorem setL_ne {α:Type}:∀{xs:List α}(_:xs≠[])(off:Nat)(ys:List α),setL xs off ys≠[]:=by
 intro xs h off ys e
 have h0:(setL xs off ys).length=xs.length:=setL_length ys xs off
 rw[e]at h0
 exact h (List.length_eq_zero_iff.1 h0.symm)
theorem setL_pre {α:Type}:∀(us ps xs:List α)(off:Nat),setL (ps++xs) (ps.length+off) us=ps++setL xs off us
 | [],_,_,_=>rfl
 | u::us,ps,xs,off=>by
  rw[setL,setL,List.set_append_right _ _ (by omega),show ps.length+off-ps.length=off by omega,Nat.add_assoc]
  exact setL_pre us ps (xs.set off u) (off+1)
theorem store_full {P:Program}{W0:World}{L:Lay}{ow:Owns}{s s':Heap}{w:World}(h:St W0 L ow s w){t:TypeId}{n:Nat}(hz:szOf P t=some n){x a:AV}(hr:aStore n s x a=some s'){u v:Value}
  (hx:Rel L x u)(hv:Rel L a v)(ho:OwnAt L ow w .arg a v):∃w',(Instr.storeAt t u v).run P w=.ok () w'∧Res W0 L ow w .undef s' undef w'∧∀id off us,x=.ref id off→v.cells=List.toArray us→w'=w.setCells (L.loc id) (L.bs id+off) us:=by
 unfold aStore at hr
 split at hr
 ·rename_i id off
  split at hr
  ·rename_i hsol
   split at hr
   ·rename_i cs hcs
    split at hr
    ·rename_i hle
     cases hr
     obtain⟨us,hu1,hu2,hu3,hu4⟩:=stCells_rel hv hsol.1
     have hul:us.length=n:=by
      have e1:(stCells a).length=a.cells.length:=by cases a<;>simp[stCells,AV.cells]
      rw[←hu2.length,e1,hsol.2]
     have hne:cs.2≠[]:=by cases hx with|ref _ _ hid=>exact h.at hid hcs
     have O:=h.obj id cs hcs hne (lt_dead hle.1).1
     have hdt:=(lt_dead hle.1).2
     replace hle:=hle.2
     obtain⟨vs,js,⟨fz,ps,hp,hh⟩,hrel,h1,h2,h5⟩:=O.cells hdt
     have hlen:=hrel.length
     cases hx with
     | ref _ _ hid =>
      have hlt:L.loc id<w.heap.size:=h.used _ (by rw[O.own];simp)
      have hst:=run_storeCells_cells (P:=P) (L.loc id) (L.bs id+off) us 0 w (fun j hj=>by
        rw[Nat.add_zero,Nat.add_assoc];exact cellsSome hp hh (by simp;omega)) (fun j hj=>O.melt _) (fun q hq=>by rw[oneC_eq];exact hu3 q hq)
      simp only[Nat.add_zero]at hst
      refine⟨w.setCells (L.loc id) (L.bs id+off) us,?_,⟨L,argTo ow (.cell id off),?_,?_,.undef _,trivial⟩,fun id' off' us' e1 e2=>by cases e1;rw[hu1]at e2;rw[List.toArray_inj e2]⟩
      ·have hsz:v.cells.size=n:=by rw[hu1];simpa using hul
       simp[Instr.storeAt,Instr.sureAddr,storeVar,run_szOf hz,hsz]
       rw[hu1]
       simpa using hst
      ·refine⟨.refl L,fun b hb=>⟨by simp[argTo,hb],fun _=>rfl,?_⟩,setCells_same _ _ _ _⟩
       exact setCells_heap_other (by intro e;rw[e,O.own]at hb;cases hb) _ _ _
      ·have hother:∀b,b≠L.loc id→(w.setCells (L.loc id) (L.bs id+off) us).heap[b]?=w.heap[b]?:=fun b hb=>setCells_heap_other hb _ _ _
       have hx':Ext L ow w L (argTo ow (.cell id off)) (w.setCells (L.loc id) (L.bs id+off) us):=⟨.refl L,fun b hb=>⟨by simp[argTo,hb],fun _=>rfl,hother b (by intro e;rw[e,O.own]at hb;cases hb)⟩,setCells_same _ _ _ _⟩
       refine⟨fun i=>by rw[h.live,has_set (has_of hcs hne) (setL_ne hne _ _)],fun b o x hS=>?_,fun id' ds hds hds' hdt'=>?_,fun b hb=>?_,fun b hb=>?_,h.below_ext hx'⟩
       ·rw[cell?_of_heap (hother b (by intro e;rw[e,O.S]at hS;cases hS))]
        exact h.imm b o x hS
       ·by_cases e':id'=id
        ·subst e'
         have hidlt:id'<s.length:=(List.getElem?_eq_some_iff.1 hcs).1
         rw[List.getElem?_set_self hidlt]at hds
         cases hds
         refine⟨by simp[argTo,O.own],O.S,fun _=>⟨setL vs off us,js,⟨fz,ps,hp,by rw[setCells_heap_same us _ w (ps++(vs++js)) hh,←hp,setL_pre,setL_append _ _ _ _ (by omega)]⟩,hu2.setL off hrel,fun q hq=>(setL_mem us vs off q hq).elim (h1 q) (hu3 q),?_,by rw[←h5];simp[setL_length]⟩,fun hm=>absurd hm hdt,fun o=>by rw[World.frozen?_setCells];exact O.melt o,O.head⟩
         intro k b q hb hq
         have hsl:(stCells a).length=us.length:=hu2.length
         by_cases hk:k<off∨off+us.length≤k
         ·rw[setL_out _ _ _ _ (by rw[hsl];exact hk)]at hb
          rw[setL_out _ _ _ _ hk]at hq
          exact(h2 k b q hb hq).move fun c hc=>⟨by simp[argTo,hc],fun _=>rfl,hother c (by intro e;rw[e,O.own]at hc;cases hc)⟩
         ·obtain⟨j,hj⟩:∃j,k=off+j:=⟨k-off,by omega⟩
          subst hj
          rw[setL_in _ _ _ _ (by rw[hsl];omega) (by rw[hsl];omega)]at hb
          rw[setL_in _ _ _ _ (by omega) (by omega)]at hq
          rcases hu4 with hu4|⟨e1,e2⟩
          ·exact .of_not (hu4 b (List.mem_of_getElem? hb))
          ·rw[e1]at hb;rw[e2]at hq
           have hj0:j=0:=by have:=(List.getElem?_eq_some_iff.1 hb).1;simp at this;omega
           subst hj0
           simp at hb hq
           subst hb;subst hq
           exact ho.move fun c hc=>⟨by simp[argTo,hc],fun _=>rfl,hother c (by intro e;rw[e,O.own]at hc;cases hc)⟩
        ·rw[List.getElem?_set_ne (fun e=>e' e.symm)]at hds
         have hidlt:L.live id'=true:=by rw[h.live];exact has_of hds hds'
         refine(h.obj id' ds hds hds' hdt').move (.refl L) hidlt (fun b hb=>⟨?_,fun _=>rfl,hother b ?_⟩)
         ·rcases hb with hb|⟨k,hb⟩<;>simp[argTo,hb]
         ·intro e;rw[e,O.own]at hb
          rcases hb with hb|⟨k,hb⟩
          ·injection hb with hb;exact e' hb.symm
          ·cases hb
       ·rw[setCells_heap_size]
        refine h.used b (fun e=>hb ?_)
        simp[argTo,e]
       ·simp[argTo,h.base b hb]
    ·cases hr
   ·cases hr
  ·cases hr
 ·cases hr
theorem store_ok {P:Program}{W0:World}{L:Lay}{ow:Owns}{s s':Heap}{w:World}(h:St W0 L ow s w){t:TypeId}{n:Nat}(hz:szOf P t=some n){x a:AV}(hr:aStore n s x a=some s'){u v:Value}
  (hx:Rel L x u)(hv:Rel L a v)(ho:OwnAt L ow w .arg a v):∃w',(Instr.storeAt t u v).run P w=.ok () w'∧Res W0 L ow w .undef s' undef w':=by
 obtain⟨w',h1,h2,_⟩:=store_full h hz hr hx hv ho
 exact⟨w',h1,h2⟩
theorem cells_res {W0:World}{L:Lay}{ow:Owns}{s:Heap}{w:World}(h:St W0 L ow s w){id off:Nat}{cs:TypeId×List AV}(hcs:s[id]?=some cs)(hid:L.live id=true)(hdt:cs.1<deadTy){as:List AV}{us:List Value}
  (hu2:RelL L as us)(hu3:∀u∈us,oneC u=true)(hu4:∀x∈as,x.isOwn=false)(hle:off+us.length≤cs.2.length) :
  (∀j,j<us.length→(w.cell? ⟨L.loc id,L.bs id+off+j,none⟩).isSome=true)∧(∀j,w.frozen? ⟨L.loc id,j,none⟩=false) ∧
  ∀(r:AV) (v:Value),Rel L r v→r.isOwn=false→Res W0 L ow w r (s.set id (cs.1,setL cs.2 off as)) v (w.setCells (L.loc id) (L.bs id+off) us):=by
 have hne:cs.2≠[]:=h.at hid hcs
 have O:=h.obj id cs hcs hne (lt_dead hdt).1
 have hdt:=(lt_dead hdt).2
 obtain⟨vs,js,⟨fz,ps,hp,hh⟩,hrel,h1,h2,h5⟩:=O.cells hdt
 have hlen:=hrel.length
 have hlt:L.loc id<w.heap.size:=h.used _ (by rw[O.own];simp)
 refine⟨fun j hj=>?_,fun j=>O.melt _,fun r v hr hro=>⟨L,ow,?_,?_,hr,.of_not hro⟩⟩
 ·rw[Nat.add_assoc];exact cellsSome hp hh (by simp;omega)
 ·refine⟨.refl L,fun b hb=>⟨hb,fun _=>rfl,?_⟩,setCells_same _ _ _ _⟩
  exact setCells_heap_other (by intro e;rw[e,O.own]at hb;cases hb) _ _ _
 ·have hother:∀b,b≠L.loc id→(w.setCells (L.loc id) (L.bs id+off) us).heap[b]?=w.heap[b]?:=fun b hb=>setCells_heap_other hb _ _ _
  have hx':Ext L ow w L ow (w.setCells (L.loc id) (L.bs id+off) us):=⟨.refl L,fun b hb=>⟨hb,fun _=>rfl,hother b (by intro e;rw[e,O.own]at hb;cases hb)⟩,setCells_same _ _ _ _⟩
  refine⟨fun i=>by rw[h.live,has_set (has_of hcs hne) (setL_ne hne _ _)],fun b o x hS=>?_,fun id' ds hds hds' hdt'=>?_,fun b hb=>?_,fun b hb=>h.base b hb,h.below_ext hx'⟩
  ·rw[cell?_of_heap (hother b (by intro e;rw[e,O.S]at hS;cases hS))]
   exact h.imm b o x hS
  ·by_cases e':id'=id
   ·subst e'
    have hidlt:id'<s.length:=(List.getElem?_eq_some_iff.1 hcs).1
    rw[List.getElem?_set_self hidlt]at hds
    cases hds
    refine⟨O.own,O.S,fun _=>⟨setL vs off us,js,⟨fz,ps,hp,by rw[setCells_heap_same us _ w (ps++(vs++js)) hh,←hp,setL_pre,setL_append _ _ _ _ (by omega)]⟩,hu2.setL off hrel,fun q hq=>(setL_mem us vs off q hq).elim (h1 q) (hu3 q),?_,by rw[List.length_append,setL_length,←List.length_append,h5]⟩,fun hm=>absurd hm hdt,fun o=>?_,O.head⟩
    ·intro k b q hb hq
     have hsl:as.length=us.length:=hu2.length
     by_cases hk:k<off∨off+us.length≤k
     ·rw[setL_out _ _ _ _ (by rw[hsl];exact hk)]at hb
      rw[setL_out _ _ _ _ hk]at hq
      exact(h2 k b q hb hq).move fun c hc=>⟨hc,fun _=>rfl,hother c (by intro e;rw[e,O.own]at hc;cases hc)⟩
     ·obtain⟨j,hj⟩:∃j,k=off+j:=⟨k-off,by omega⟩
      subst hj
      rw[setL_in _ _ _ _ (by rw[hsl];omega) (by rw[hsl];omega)]at hb
      exact .of_not (hu4 b (List.mem_of_getElem? hb))
    ·rw[World.frozen?_setCells]
     exact O.melt o
   ·rw[List.getElem?_set_ne (fun e=>e' e.symm)]at hds
    have hidlt:L.live id'=true:=by rw[h.live];exact has_of hds hds'
    refine(h.obj id' ds hds hds' hdt').move (.refl L) hidlt (fun b hb=>⟨rfl,fun _=>rfl,hother b ?_⟩)
    intro e;rw[e,O.own]at hb
    rcases hb with hb|⟨k,hb⟩
    ·injection hb with hb;exact e' hb.symm
    ·cases hb
  ·rw[setCells_heap_size]
   exact h.used b hb
end Go.Abs
end

section
namespace Go.Abs
open Go
def srcOf (z:Nat):AV→Option (List AV)
 | .sl _ z' ys _=>if z'=z then some ys else none
 | .nils=>some []
 | .str bs=>if z=1 then some (bs.map fun b=>.int .u8 b.toNat) else none
 | _=>none
theorem relL_bytes (L:Lay):∀bs:List UInt8,RelL L (bs.map fun b=>AV.int .u8 b.toNat) (bs.map fun b=>Value.int .u8 b.toNat)
 | []=>.nil
 | _::bs=>.cons _ _ _ _ (.int _ _) (relL_bytes L bs)
theorem cellsOf_bytes (bs:List UInt8):cellsOf (bs.map fun b=>AV.int .u8 b.toNat)=bs.map fun b=>AV.int .u8 b.toNat:=by
 induction bs with
 | nil=>rfl
 | cons b bs ih=>show [_]++cellsOf _=_;rw[ih];rfl
theorem src_ok {P:Program}{L:Lay}{w:World}(himm:∀b o v,L.S b o=some v→w.cell? ⟨b,o,none⟩=some v){z:Nat}{y:AV}{ys:List AV}(h:srcOf z y=some ys){v:Value}(hy:Rel L y v) :
  ∃vs:List Value,(Builtin.lenOf v).run P w=.ok ys.length w∧(Builtin.firstCells z ys.length v).run P w=.ok vs.toArray w∧RelL L (cellsOf ys) vs∧(∀x∈vs,oneC x=true)∧(∀x∈ys,x.cells.length=z):=by
 unfold srcOf at h
 split at h
 ·split at h
  ·rename_i e
   cases h
   cases hy with
   | sl b o _ _ _ _ cap hc hz hcap =>
    subst e
    have hl:=cellsOf_length hz
    obtain⟨vs,h1,h2,h3⟩:=loadCells_box (P:=P) himm hc (n:=ys.length*_) (by rw[hl];exact Nat.le_refl _)
    rw[←hl,List.take_length]at h2
    exact⟨vs,by simp[Builtin.lenOf],by simpa[Builtin.firstCells] using h1,h2,h3,hz⟩
   | sl0 a _ _ _ cap hf=>exact⟨[],by simp[Builtin.lenOf],by simp[Builtin.firstCells,loadCells,loadCellsFrom],.nil,by simp,by simp⟩
  ·cases h
 ·cases h;cases hy
  exact⟨[],by simp[Builtin.lenOf],by simp[Builtin.firstCells],.nil,by simp,by simp⟩
 ·rename_i bs
  split at h
  ·cases h;cases hy
   refine⟨bs.map fun b=>.int .u8 b.toNat,by simp[Builtin.lenOf,size_mk],?_,by rw[cellsOf_bytes];exact relL_bytes L bs,by intro x hx;obtain⟨b,_,rfl⟩:=List.mem_map.1 hx;rfl,by intro x hx;obtain⟨b,_,rfl⟩:=List.mem_map.1 hx;simp_all [AV.cells]⟩
   simp only[Builtin.firstCells,Sem.run_pure]
   congr 1
   apply Array.toList_inj.1
   rw[List.length_map,show bs.length=(ByteArray.mk bs.toArray).size from(size_mk bs).symm]
   simp
  ·cases h
 ·cases h
theorem nextcap_le (need old:Nat)(h:old<need):Builtin.nextslicecap need old≤2*need+768:=by
 unfold Builtin.nextslicecap
 split
 ·omega
 ·split
  ·omega
  ·have grow:∀r c,c<2*need+768→Builtin.growBy need r c≤2*need+768:=by
    intro r
    induction r with
    | zero=>intro c h;simp only[Builtin.growBy];omega
    | succ r ih =>
     intro c h
     simp only[Builtin.growBy]
     split
     ·omega
     ·exact ih _ (by omega)
   exact grow 4 old (by omega)
theorem nextcap_le2 (need old:Nat)(h:old<need):Builtin.nextslicecap need old≤need+need / 4+512:=by
 unfold Builtin.nextslicecap
 split
 ·omega
 ·split
  ·omega
  ·have grow:∀r c,c≤need+need / 4+512→Builtin.growBy need r c≤need+need / 4+512:=by
    intro r
    induction r with
    | zero=>intro c h;simp only[Builtin.growBy];omega
    | succ r ih =>
     intro c h
     simp only[Builtin.growBy]
     split
     ·omega
     ·exact ih _ (by omega)
   exact grow 4 old (by omega)
def aAppend (P:Program)(t t2:TypeId)(x y:AV):Option AV :=
 match P.underlying t,P.underlying t2 with
 | some (.slice e),some d2=>match (P.info? e),(match d2 with|.int _=>true|_=>false) with
  | some i,false=>match srcOf i.size y,i.zero with
   | some ys,some zv=>if zv.cells.size≠i.size then none else
    match x with
    | .nils=>if(2*ys.length+768)*i.bytes≤281474976710656∧ys.length≤2305843009213693951 then(match ys with|[]=>some .nils|a::r=>some (.sl e i.size (a::r) .own)) else none
    | .sl ty z xs .own=>if ty=e∧z=i.size∧(2*(xs.length+ys.length)+768)*i.bytes≤281474976710656∧xs.length+ys.length≤2305843009213693951 then some (.sl ty z (xs++ys) .own) else none
    | .sl ty z xs .full=>if z=i.size∧(2*(xs.length+ys.length)+768)*i.bytes≤281474976710656∧xs.length+ys.length≤2305843009213693951 then(match ys with|[]=>some (.sl ty z xs .full)|a::r=>some (.sl e z (xs++a::r) .own)) else none
    | _=>none
   | _,_=>none
  | _,_=>none
 | _,_=>none
theorem append_new {W0:World}{L:Lay}{ow:Owns}{s:Heap}{w:World}(h:St W0 L ow s w){as:List AV}{vs rest:List Value}(hr:RelL L (cellsOf as) vs)(h1:∀v∈vs,oneC v=true){z:Nat}(hz:∀x∈as,x.cells.length=z)
  {cap:Nat}(hcap:as.length≤cap)(hrest:vs.length+rest.length=cap*z)(e:TypeId) :
  Res W0 L ow w (.sl e z as .own) s (.slice (some ⟨w.heap.size,0,none⟩) as.length cap) (w.alloc (.cells (vs++rest).toArray e)):=by
 have hl:=hr.length
 have hcl:=cellsOf_length hz
 refine⟨L.new w.heap.size vs.length (vs++rest),newOw ow w.heap.size .ret,new_ext h _ _ _ _,new_st h _ _ _ _,?_,?_⟩
 ·refine .sl w.heap.size 0 e z as .own cap (new_relC h ?_ ?_) hz ⟨hcap,nofun⟩
  ·rw[List.take_left];exact hr
  ·rw[List.take_left];exact h1
 ·refine⟨by simp[newOw],⟨_,_,alloc_new _ _,rfl,?_⟩,fun o ho=>⟨new_melt _ _ _ _,?_⟩⟩
  ·simp;omega
  ·simp only[Lay.new,if_true]
   rw[if_neg (by omega)]
def Lay.fill (L:Lay)(b o:Nat)(vs:List Value):Lay:={ L with S:=fun b' o'=>if b'=b∧o≤o'∧o'<o+vs.length then vs[o'-o]? else L.S b' o' }
theorem append_room {W0:World}{L:Lay}{ow:Owns}{s:Heap}{w:World}(h:St W0 L ow s w){ty:TypeId}{z:Nat}{xs ys:List AV}{b o cap:Nat}{us:List Value}(hx:Rel L (.sl ty z xs .own) (.slice (some ⟨b,o,none⟩) xs.length cap))
  (ho:OwnAt L ow w .arg (.sl ty z xs .own) (.slice (some ⟨b,o,none⟩) xs.length cap))(hy:RelL L (cellsOf ys) us)(h1:∀v∈us,oneC v=true)(hz:∀y∈ys,y.cells.length=z)(hfit:xs.length+ys.length≤cap){P:Program} :
  (storeCells (Addr.add ⟨b,o,none⟩ (xs.length*z)) us).run P w=.ok () (w.setCells b (o+xs.length*z) us) ∧
  Res W0 L ow w (.sl ty z (xs++ys) .own) s (.slice (some ⟨b,o,none⟩) (xs.length+ys.length) cap) (w.setCells b (o+xs.length*z) us):=by
 have hul:us.length=ys.length*z:=by rw[←hy.length,cellsOf_length hz]
 cases hx with
 | sl0 _ _ _ _ _ hf=>rcases hf with e|⟨e,_⟩<;>cases e
 | sl _ _ _ _ _ _ _ hc hzx hcap =>
  obtain⟨o1,⟨c,fz,o2,o5,o3⟩,o4⟩:=ho
  simp only at o1 o2 o3 o4 o5
  have hmul:(xs.length+ys.length)*z≤cap*z:=Nat.mul_le_mul_right _ hfit
  rw[Nat.add_mul]at hmul
  have hadd:Addr.add ⟨b,o,none⟩ (xs.length*z)=⟨b,o+xs.length*z,none⟩:=by unfold Addr.add;split<;>simp_all
  have hcell:∀j,j<us.length→(w.cell? ⟨b,o+xs.length*z+j,none⟩).isSome=true:=by
   intro j hj
   have:o+xs.length*z+j<c.size:=by omega
   simp[World.cell?,o2,this]
  have hst:=run_storeCells_cells (P:=P) b (o+xs.length*z) us 0 w (fun j hj=>by simpa using hcell j hj) (fun j hj=>(o4 _ (by omega)).1) (fun q hq=>by rw[oneC_eq];exact h1 q hq)
  simp only[Nat.add_zero]at hst
  refine⟨by rw[hadd];exact hst,?_⟩
  have hother:∀k,k≠b→(w.setCells b (o+xs.length*z) us).heap[k]?=w.heap[k]?:=fun k hk=>setCells_heap_other hk _ _ _
  have hblock:(w.setCells b (o+xs.length*z) us).heap[b]?=some (.cells (setL c.toList (o+xs.length*z) us).toArray ty fz):=setCells_heap_same _ _ _ _ (by simpa using o2)
  have hle:L.le (L.fill b (o+xs.length*z) us):=by
   refine⟨fun b' o' v hS=>?_,fun _ h=>h,fun _ _=>rfl,fun _ _=>rfl,fun _ _=>rfl,rfl⟩
   simp only[Lay.fill]
   split
   ·rename_i hh
    obtain⟨rfl,k1,k2⟩:=hh
    rw[(o4 o' (by omega)).2]at hS
    cases hS
   ·exact hS
  have hfr:∀k,k≠b→∀o',(L.fill b (o+xs.length*z) us).S k o'=L.S k o':=by
   intro k hk o'
   simp[Lay.fill,hk]
  have hx':Ext L ow w (L.fill b (o+xs.length*z) us) (argTo ow .ret) (w.setCells b (o+xs.length*z) us):=by
   refine⟨hle,fun k hk=>?_,setCells_same _ _ _ _⟩
   have:k≠b:=by intro e;rw[e,o1]at hk;cases hk
   exact⟨by simp[argTo,hk],hfr k this,hother k this⟩
  refine⟨L.fill b (o+xs.length*z) us,argTo ow .ret,hx',?_,?_,?_⟩
  ·refine h.move hle rfl (fun k hk=>?_) (fun b' o' v hS=>?_) (fun k hk=>?_) (fun k hk=>?_) (h.below_ext hx')
   ·have:k≠b:=by intro e;rw[e,o1]at hk;cases hk
    refine⟨?_,hfr k this,hother k this⟩
    revert hk;unfold argTo;cases ow k<;>simp[Place.excl]
   ·simp only[Lay.fill]at hS
    split at hS
    ·rename_i hh
     obtain⟨rfl,k1,k2⟩:=hh
     have hj:o'-(o+xs.length*z)<us.length:=by omega
     have:=World.cell?_setCells_in b' us (o+xs.length*z) w hcell (o'-(o+xs.length*z)) hj
     rw[show o+xs.length*z+(o'-(o+xs.length*z))=o' by omega]at this
     rw[this,←hS,List.getElem?_eq_getElem hj]
    ·rename_i hh
     have hc0:=h.imm b' o' v hS
     rw[World.cell?_setCells_out b us _ w _ (fun e1 _=>?_)]
     ·exact hc0
     ·simp only at e1
      simp only
      by_cases hlo:o'<o+xs.length*z
      ·exact .inl hlo
      ·refine .inr ?_
       by_cases hhi:o'<o+xs.length*z+us.length
       ·exact absurd ⟨e1,by omega,hhi⟩ hh
       ·omega
   ·rw[setCells_heap_size]
    refine h.used k (fun e=>hk ?_)
    simp[argTo,e]
   ·simp[argTo,h.base k hk]
  ·rw[show xs.length+ys.length=(xs++ys).length by simp]
   refine .sl b o ty z (xs++ys) .own cap ?_ (by intro x hx;rcases List.mem_append.1 hx with hx|hx;exact hzx x hx;exact hz x hx) ⟨by simpa using hfit,nofun⟩
   rw[cellsOf_append]
   refine RelC.append (hc.mono hle) ?_
   rw[cellsOf_length hzx]
   refine RelC.of (hy.mono hle) h1 (fun i v hi=>?_)
   have hlt:i<us.length:=(List.getElem?_eq_some_iff.1 hi).1
   simp only[Lay.fill]
   rw[if_pos ⟨trivial,by omega,by omega⟩,show o+xs.length*z+i-(o+xs.length*z)=i by omega]
   exact hi
  ·refine⟨by simp[argTo,o1],⟨_,_,hblock,o5,by simp[setL_length];exact o3⟩,fun o' ho'=>?_⟩
   simp only[List.length_append,Nat.add_mul]at ho'
   refine⟨?_,?_⟩
   ·rw[World.frozen?_setCells];exact(o4 o' (by omega)).1
   ·simp only[Lay.fill]
    rw[if_neg (by omega)]
    exact(o4 o' (by omega)).2
theorem res_arg {W0:World}{L:Lay}{ow:Owns}{s:Heap}{w:World}(h:St W0 L ow s w){r:AV}{v:Value}(hr:Rel L r v)(ho:OwnAt L ow w .arg r v):Res W0 L ow w r s v w:=by
 refine⟨L,argTo ow .ret,⟨.refl L,fun b hb=>⟨by simp[argTo,hb],fun _=>rfl,rfl⟩,.refl w⟩,?_,hr,ho.move fun b hb=>⟨by simp[argTo,hb],fun _=>rfl,rfl⟩⟩
 refine h.move (.refl L) rfl (fun b hb=>⟨?_,fun _=>rfl,rfl⟩) h.imm (fun b hb=>h.used b (fun e=>hb (by simp[argTo,e]))) (fun b hb=>by simp[argTo,h.base b hb]) h.below
 revert hb;unfold argTo;cases ow b<;>simp[Place.excl]
theorem newCap_ge {need c:Nat}{t:Nat}(h:need<2 ^ 63)(e:c=need+t % (2 ^ 63-need)):need≤c∧c<2 ^ 63:=by
 subst e
 have:=Nat.mod_lt t (show 2 ^ 63-need > 0 by omega)
 omega
theorem append_fresh {P:Program}{W0:World}{L:Lay}{ow:Owns}{s:Heap}{w:World}(h:St W0 L ow s w){t t2 ty e:TypeId}{d2:TypeDesc}(hu:P.underlying t=some (.slice e))(hu2:P.underlying t2=some d2)
  (hd2:∀k,d2≠.int k){i:TypeInfo}(hi:P.info? e=some i){zv:Value}(hzero:i.zero=some zv)(hzs:zv.cells.size=i.size){y:AV}{ys:List AV}(hsrc:srcOf i.size y=some ys){v:Value}(hy:Rel L y v)
  {as:List AV}{vs:List Value}{base:Option Addr}{sCap:Nat}(hlt:sCap<as.length+ys.length)
  (hfc:(Builtin.firstCells i.size as.length (.slice base as.length sCap)).run P w.drew=.ok vs.toArray w.drew)(hrel:RelL L (cellsOf as) vs)(h1:∀v∈vs,oneC v=true)(hzz:∀x∈as,x.cells.length=i.size)
  (hb1:(2*(as.length+ys.length)+768)*i.bytes≤281474976710656)(hb2:as.length+ys.length≤2305843009213693951) :
  ∃q w',(Builtin.append_ #[t,t2] ty #[.slice base as.length sCap,v]).run P w=.ok q w'∧Res W0 L ow w (.sl e i.size (as++ys) .own) s q w':=by
 have hsz:szOf P e=some i.size:=by simp[szOf,hi]
 have hvl:vs.length=as.length*i.size:=by rw[←hrel.length,cellsOf_length hzz]
 obtain⟨us,s1,_,_,_,s5⟩:=src_ok (P:=P) h.imm hsrc hy
 obtain⟨us,_,s2,s3,s4,_⟩:=src_ok (P:=P) (w:=w.drew) (by simpa using h.imm) hsrc hy
 have hul:us.length=ys.length*i.size:=by rw[←s3.length,cellsOf_length s5]
 have hmax:¬((9223372036854775807:Int)<(as.length:Int)+(ys.length:Int)∧i.bytes=0):=by omega
 have hcapb:¬(Builtin.nextslicecap (as.length+ys.length) sCap*i.bytes > 2 ^ 48):=by
  have h1:=nextcap_le (as.length+ys.length) sCap hlt
  have h2:Builtin.nextslicecap (as.length+ys.length) sCap*i.bytes≤(2*(as.length+ys.length)+768)*i.bytes:=Nat.mul_le_mul_right _ h1
  have:(2:Nat) ^ 48=281474976710656:=by decide
  omega
 obtain⟨nc,hnc⟩:∃nc,nc=(as.length+ys.length)+w.tape w.drawn (.appendCap (as.length+ys.length) sCap e) % (2 ^ 63-(as.length+ys.length)):=⟨_,rfl⟩
 obtain⟨hge,_⟩:=newCap_ge (by
  have:(2:Nat)^63=9223372036854775808:=by decide
  omega) hnc
 have hfo:(Question.appendCap (as.length+ys.length) sCap e).forced=false:=rfl
 have hcut:(Question.appendCap (as.length+ys.length) sCap e).cut (w.tape w.drawn (Question.appendCap (as.length+ys.length) sCap e))=nc:=hnc.symm
 have hzv:(zeroValue e).run P w.drew=.ok zv w.drew:=run_zero (by simp[hi,hzero])
 obtain⟨rest,hr1,hr2⟩:∃rest:List Value,Builtin.zeroCells zv.cells (nc-(as.length+ys.length))=rest.toArray∧rest.length=(nc-(as.length+ys.length))*i.size :=
  ⟨(Builtin.zeroCells zv.cells (nc-(as.length+ys.length))).toList,by simp,by simp[Builtin.zeroCells,hzs]⟩
 have hx:=drew_ext (L:=L) (ow:=ow) (w:=w)
 have hrow:=append_new (W0:=W0) (L:=L) (ow:=ow) (s:=s) (w:=w.drew) (drew_st h) (as:=as++ys) (vs:=vs++us) (rest:=rest) (by rw[cellsOf_append];exact hrel.append s3)
  (by intro x hx;rcases List.mem_append.1 hx with hx|hx;exact h1 x hx;exact s4 x hx) (z:=i.size) (by intro x hx;rcases List.mem_append.1 hx with hx|hx;exact hzz x hx;exact s5 x hx)
  (cap:=nc) (by simpa using hge) (by
   rw[List.length_append,hvl,hul,hr2,←Nat.add_mul,←Nat.add_mul,Nat.add_sub_cancel' hge]) e
 obtain⟨L',ow',r1,r2,r3,r4⟩:=hrow
 refine⟨.slice (some ⟨w.heap.size,0,none⟩) (as.length+ys.length) nc,w.drew.alloc (.cells ((vs++us)++rest).toArray e),?_,L',ow',hx.trans r1,r2,by simpa using r3,by simpa using r4⟩
 have hneed:¬(as.length+ys.length≤sCap):=by omega
 have hlen:(Builtin.lenOf v).run P w=.ok ys.length w:=s1
 simp[Builtin.append_,run_under hu,run_under hu2,run_szOf hsz,hlen,hneed,hmax,run_tyInfo hi,hcapb,hfo,hcut,hfc,s2,hzv,hr1,newRow]
theorem append_ok {P:Program}{W0:World}{L:Lay}{ow:Owns}{s:Heap}{w:World}(h:St W0 L ow s w){t t2 ty:TypeId}{x y r:AV}(hr:aAppend P t t2 x y=some r){u v:Value}(hx:Rel L x u)(hy:Rel L y v)
  (ho:OwnAt L ow w .arg x u):∃q w',(Builtin.append_ #[t,t2] ty #[u,v]).run P w=.ok q w'∧Res W0 L ow w r s q w':=by
 unfold aAppend at hr
 split at hr
 ·rename_i e d2 hu hu2
  split at hr
  ·rename_i i hi hd2
   split at hr
   ·rename_i ys zv hsrc hzero
    split at hr
    ·cases hr
    ·rename_i hzs
     have hzs':zv.cells.size=i.size:=by simpa using hzs
     have hd2':∀k,d2≠.int k:=by intro k e;subst e;simp at hd2
     have hsz:szOf P e=some i.size:=by simp[szOf,hi]
     obtain⟨us,s1,s2,s3,s4,s5⟩:=src_ok (P:=P) h.imm hsrc hy
     have hlen0:ys=[]→us=[]:=fun e=>by
      have:=s3.length
      rw[e]at this
      exact List.length_eq_zero_iff.1 this.symm
     split at hr
     ·-- nil
      cases hx
      split at hr
      ·rename_i hb
       split at hr
       ·cases hr
        refine⟨.slice none 0 0,w,?_,Res.same h .nils (.of_not rfl)⟩
        have hu0:=hlen0 rfl
        subst hu0
        simp only[List.length_nil]at s1 s2
        simp[Builtin.append_,run_under hu,run_under hu2,run_szOf hsz,s1,s2]
       ·rename_i a rr
        cases hr
        have:=append_fresh (as:=[]) (vs:=[]) (base:=none) (sCap:=0) (ty:=ty) h hu hu2 hd2' hi hzero hzs' hsrc hy (by simp) (by simp[Builtin.firstCells]) .nil (by simp) (by simp) (by simpa using hb.1) (by simpa using hb.2)
        simpa using this
      ·cases hr
     ·-- its own
      rename_i ty' z xs
      split at hr
      ·rename_i hb
       obtain⟨rfl,rfl,hb1,hb2⟩:=hb
       cases hr
       have hx0:=hx
       cases hx with
       | sl0 _ _ _ _ _ hf=>rcases hf with e|⟨e,_⟩<;>cases e
       | sl b o _ _ _ _ cap hc hzz hcap =>
        by_cases hfit:xs.length+ys.length≤cap
        ·obtain⟨r1,r2⟩:=append_room h hx0 ho s3 s4 s5 hfit (P:=P)
         refine⟨_,_,?_,r2⟩
         simp[Builtin.append_,run_under hu,run_under hu2,run_szOf hsz,s1,s2,hfit,r1]
        ·obtain⟨vs,k1,k2,k3⟩:=loadCells_box (P:=P) (w:=w.drew) (by simpa using h.imm) hc (n:=xs.length*i.size) (by rw[cellsOf_length hzz];exact Nat.le_refl _)
         rw[←cellsOf_length hzz,List.take_length]at k2
         exact append_fresh h hu hu2 hd2' hi hzero hzs' hsrc hy (by omega) (by simpa[Builtin.firstCells] using k1) k2 k3 hzz hb1 hb2
      ·cases hr
     ·-- no room
      rename_i ty' z xs
      split at hr
      ·rename_i hb
       obtain⟨rfl,hb1,hb2⟩:=hb
       have hx0:=hx
       cases hx with
       | sl0 a0 _ _ _ cap0 hf =>
        have hcap':cap0=0:=by rcases hf with e|⟨_,e⟩;cases e;exact e
        subst hcap'
        split at hr
        ·cases hr
         have hu0:=hlen0 rfl
         subst hu0
         simp only[List.length_nil]at s1 s2
         refine⟨.slice (some a0) 0 0,w,?_,Res.same h hx0 (.of_not rfl)⟩
         simp[Builtin.append_,run_under hu,run_under hu2,run_szOf hsz,s1,s2,storeCells]
        ·rename_i a rr
         cases hr
         exact append_fresh (as:=[]) (vs:=[]) (base:=some a0) (sCap:=0) h hu hu2 hd2' hi hzero hzs' hsrc hy (by simp) (by simp[Builtin.firstCells,loadCells,loadCellsFrom]) .nil (by simp) (by simp) hb1 hb2
       | sl b o _ _ _ _ cap hc hzz hcap =>
        have hcap':=hcap.2 rfl
        subst hcap'
        split at hr
        ·cases hr
         have hu0:=hlen0 rfl
         subst hu0
         simp only[List.length_nil]at s1 s2
         refine⟨.slice (some ⟨b,o,none⟩) xs.length xs.length,w,?_,Res.same h hx0 (.of_not rfl)⟩
         simp[Builtin.append_,run_under hu,run_under hu2,run_szOf hsz,s1,s2,storeCells]
        ·rename_i a rr
         cases hr
         obtain⟨vs,k1,k2,k3⟩:=loadCells_box (P:=P) (w:=w.drew) (by simpa using h.imm) hc (n:=xs.length*i.size) (by rw[cellsOf_length hzz];exact Nat.le_refl _)
         rw[←cellsOf_length hzz,List.take_length]at k2
         exact append_fresh h hu hu2 hd2' hi hzero hzs' hsrc hy (by simp) (by simpa[Builtin.firstCells] using k1) k2 k3 hzz hb1 hb2
      ·cases hr
     ·cases hr
   ·cases hr
  ·cases hr
 ·cases hr
end Go.Abs
end

section
namespace Go.Abs
open Go
theorem setL_eq {α:Type}:∀(r l:List α)(o:Nat),o+r.length≤l.length→setL l o r=l.take o++r++l.drop (o+r.length)
 | [],l,o,_=>by simp[setL]
 | v::r,l,o,h=>by
  simp only[List.length_cons]at h
  rw[setL,setL_eq r (l.set o v) (o+1) (by simp;omega)]
  apply List.ext_getElem?
  intro k
  by_cases h1:k<o
  ·rw[List.getElem?_append_left (by simp;omega),List.getElem?_append_left (by simp;omega),List.getElem?_append_left (by simp;omega),List.getElem?_append_left (by simp;omega)]
   rw[List.getElem?_take_of_lt (by omega),List.getElem?_take_of_lt (by omega),List.getElem?_set_ne (by omega)]
  ·by_cases h2:k=o
   ·subst h2
    rw[List.getElem?_append_left (by simp;omega),List.getElem?_append_left (by simp;omega),List.getElem?_take_of_lt (by omega),List.getElem?_set_self (by omega)]
    rw[List.getElem?_append_left (by simp;omega),List.getElem?_append_right (by rw[List.length_take];omega)]
    simp[Nat.min_eq_left (show k≤l.length by omega)]
   ·by_cases h3:k<o+1+r.length
    ·rw[List.getElem?_append_left (by simp;omega),List.getElem?_append_right (by simp;omega)]
     rw[List.getElem?_append_left (by simp;omega),List.getElem?_append_right (by simp;omega)]
     simp only[List.length_take,List.length_set]
     rw[Nat.min_eq_left (show o+1≤l.length by omega),Nat.min_eq_left (show o≤l.length by omega),show k-o=(k-(o+1))+1 by omega,List.getElem?_cons_succ]
    ·rw[List.getElem?_append_right (by simp;omega),List.getElem?_append_right (by simp;omega)]
     simp only[List.length_append,List.length_take,List.length_set,List.length_cons,List.getElem?_drop]
     rw[List.getElem?_set_ne (by omega)]
     congr 1
     omega
theorem foldl_set {α:Type}(off:Nat):∀(vs:List α)(k:Nat)(cells:List α),(vs.zipIdx k).foldl (fun cs (x:α×Nat)=>cs.setIfInBounds (off+x.2) x.1) cells.toArray=(setL cells (off+k) vs).toArray
 | [],_,_=>rfl
 | v::vs,k,cells=>by
  simp only[List.zipIdx_cons,List.foldl_cons,List.setIfInBounds_toArray]
  rw[foldl_set off vs (k+1) (cells.set (off+k) v),setL,Nat.add_assoc]
theorem fill_cells (vs cells:List Value)(off:Nat):(vs.toArray.zipIdx.foldl (fun cs (x:Value×Nat)=>cs.setIfInBounds (off+x.2) x.1) cells.toArray)=(setL cells off vs).toArray:=by
 rw[←Array.foldl_toList]
 have:=foldl_set off vs 0 cells
 simpa using this
def placesOf (P:Program):List Field→Option (List (Nat×Nat))
 | []=>some []
 | f::fs=>match szOf P f.type,placesOf P fs with
  | some n,some r=>some ((f.offset,n)::r)
  | _,_=>none
theorem places_ok {P:Program}(w:World):∀(fs:List Field)(ps:List (Nat×Nat)),placesOf P fs=some ps→(fs.mapM fun f=>do pure (f.offset,←sizeOf f.type):Sem (List (Nat×Nat))).run P w=.ok ps w
 | [],ps,h=>by cases h;rfl
 | f::fs,ps,h=>by
  simp only[placesOf]at h
  split at h
  ·rename_i n r hn hr
   cases h
   have ih:=places_ok w fs r hr
   simp only[List.mapM_cons,Sem.run_bind,run_szOf hn,Result.andThen_ok,Sem.run_pure,ih]
  ·cases h
def aFill (ps:List (Nat×Nat)):List AV→List (Nat×AV)→Option (List AV)
 | cells,[]=>some cells
 | cells,(i,a)::r=>match ps[i]? with
  | some (off,n)=>if a.solid=true∧a.cells.length=n∧off+n≤cells.length then aFill ps (setL cells off a.cells) r else none
  | none=>none
inductive RelP (L:Lay):List (Nat×AV)→List (Nat×Value)→Prop
 | nil:RelP L [] []
 | cons (i:Nat) (a:AV) (v:Value) (as:List (Nat×AV)) (vs:List (Nat×Value)) (h:Rel L a v) (t:RelP L as vs):RelP L ((i,a)::as) ((i,v)::vs)
theorem fill_ok {L:Lay}(ps:List (Nat×Nat)):∀{parts:List (Nat×AV)}{vs:List (Nat×Value)}(cells cs:List AV)(us:List Value),aFill ps cells parts=some cs→RelP L parts vs→RelL L cells us→(∀v∈us,oneC v=true) →
  ∃ws:List Value,Instr.fill (fun i=>ps.toArray[i]?) us.toArray vs=some ws.toArray∧RelL L cs ws∧∀v∈ws,oneC v=true
 | [],_,cells,cs,us,h,hp,hr,h1=>by
  cases hp;cases h
  exact⟨us,rfl,hr,h1⟩
 | (i,a)::parts,_,cells,cs,us,h,hp,hr,h1=>by
  cases hp with
  | cons _ _ v _ vs hv t =>
   simp only[aFill]at h
   split at h
   ·rename_i off n hps
    split at h
    ·rename_i hc
     obtain⟨hs,hn,hle⟩:=hc
     obtain⟨qs,q1,q2,q3⟩:=rel_cells hv hs
     have hql:qs.length=n:=by rw[←q2.length,hn]
     have hul:=hr.length
     obtain⟨ws,w1,w2,w3⟩:=fill_ok ps (setL cells off a.cells) cs (setL us off qs) h t (q2.setL off hr) (fun x hx=>(setL_mem qs us off x hx).elim (h1 x) (q3 x))
     refine⟨ws,?_,w2,w3⟩
     have hps':ps.toArray[i]?=some (off,n):=by simpa using hps
     have hcond:(v.cells.size != n || decide (off+v.cells.size > us.toArray.size))=false:=by rw[q1];simp;omega
     simp only[Instr.fill,hps']
     rw[if_neg (by rw[q1];simp;omega)]
     rw[q1,fill_cells]
     exact w1
    ·cases h
   ·cases h
def aFillA (n:Nat):List AV→List (Nat×AV)→Option (List AV)
 | cells,[]=>some cells
 | cells,(i,a)::r=>if a.solid=true∧a.cells.length=n∧i*n+n≤cells.length then aFillA n (setL cells (i*n) a.cells) r else none
theorem fillA_ok {L:Lay}(n:Nat):∀{parts:List (Nat×AV)}{vs:List (Nat×Value)}(cells cs:List AV)(us:List Value),aFillA n cells parts=some cs→RelP L parts vs→RelL L cells us→(∀v∈us,oneC v=true) →
  ∃ws:List Value,Instr.fill (fun i=>some (i*n,n)) us.toArray vs=some ws.toArray∧RelL L cs ws∧∀v∈ws,oneC v=true
 | [],_,cells,cs,us,h,hp,hr,h1=>by
  cases hp;cases h
  exact⟨us,rfl,hr,h1⟩
 | (i,a)::parts,_,cells,cs,us,h,hp,hr,h1=>by
  cases hp with
  | cons _ _ v _ vs hv t =>
   simp only[aFillA]at h
   split at h
   ·rename_i hc
    obtain⟨hs,hn,hle⟩:=hc
    obtain⟨qs,q1,q2,q3⟩:=rel_cells hv hs
    have hql:qs.length=n:=by rw[←q2.length,hn]
    have hul:=hr.length
    obtain⟨ws,w1,w2,w3⟩:=fillA_ok n (setL cells (i*n) a.cells) cs (setL us (i*n) qs) h t (q2.setL (i*n) hr) (fun x hx=>(setL_mem qs us (i*n) x hx).elim (h1 x) (q3 x))
    refine⟨ws,?_,w2,w3⟩
    simp only[Instr.fill]
    rw[if_neg (by rw[q1];simp;omega)]
    rw[q1,fill_cells]
    exact w1
   ·cases h
def aBuild (P:Program)(t:TypeId)(parts:List (Nat×AV)):Option AV :=
 match zeroOf P t,P.underlying t with
 | some (.agg zc),some (.struct fs)=>match placesOf P fs.toList with
  | some ps=>match aFill ps zc parts with
   | some cs=>some (.agg cs)
   | none=>none
  | none=>none
 | some (.agg zc),some (.array _ e)=>match szOf P e with
  | some n=>match aFillA n zc parts with
   | some cs=>some (.agg cs)
   | none=>none
  | none=>none
 | _,_=>none
theorem build_ok {P:Program}{L:Lay}{t:TypeId}{parts:List (Nat×AV)}{r:AV}(h:aBuild P t parts=some r){vs:Array (Nat×Value)}(hp:RelP L parts vs.toList)(w:World) :
  ∃z,(Instr.build t vs).run P w=.ok z w∧Rel L r z∧r.isOwn=false:=by
 unfold aBuild at h
 split at h
 ·rename_i zc fs hz hu
  split at h
  ·rename_i ps hps
   split at h
   ·rename_i cs hcs
    cases h
    unfold zeroOf at hz
    rw[Option.map_eq_some_iff]at hz
    obtain⟨zv,hz1,hz2⟩:=hz
    have hrel:=rel_ofConst L zv
    rw[hz2]at hrel
    cases hrel with
    | agg _ us hr1 hr2 =>
     obtain⟨ws,w1,w2,w3⟩:=fill_ok ps zc cs us hcs hp hr1 hr2
     refine⟨.agg ws.toArray,?_,.agg _ _ w2 w3,rfl⟩
     have hpl:(fs.mapM fun f=>do pure (f.offset,←sizeOf f.type):Sem (Array (Nat×Nat))).run P w=.ok ps.toArray w:=by
      have:=places_ok w fs.toList ps hps
      rw[←Array.toArray_toList (xs:=fs)]
      simp only[List.mapM_toArray]
      simp only[Sem.run_map,this,Result.andThen_ok]
     simp only[Instr.build,Sem.run_bind,run_zero hz1,Result.andThen_ok,run_under hu]
     rw[hpl]
     have w1':Instr.fill (fun i=>ps[i]?) us.toArray vs.toList=some ws.toArray:=by simpa using w1
     simp[Value.cells,w1']
   ·cases h
  ·cases h
 ·rename_i zc n0 e hz hu
  split at h
  ·rename_i n hn
   split at h
   ·rename_i cs hcs
    cases h
    unfold zeroOf at hz
    rw[Option.map_eq_some_iff]at hz
    obtain⟨zv,hz1,hz2⟩:=hz
    have hrel:=rel_ofConst L zv
    rw[hz2]at hrel
    cases hrel with
    | agg _ us hr1 hr2 =>
     obtain⟨ws,w1,w2,w3⟩:=fillA_ok n zc cs us hcs hp hr1 hr2
     refine⟨.agg ws.toArray,?_,.agg _ _ w2 w3,rfl⟩
     simp only[Instr.build,Sem.run_bind,run_zero hz1,Result.andThen_ok,run_under hu,run_szOf hn]
     simp[Value.cells,w1]
   ·cases h
  ·cases h
 ·cases h
def inRow (n:Nat):Nat→List (Nat×AV)→Option (List AV)
 | _,[]=>some []
 | k,(i,a)::r=>if i=k∧a.solid=true∧a.cells.length=n then(inRow n (k+1) r).map (a::·) else none
theorem inRow_fill {L:Lay}{n:Nat}:∀{parts:List (Nat×AV)}{vs:List (Nat×Value)}(k:Nat)(xs:List AV)(us:List Value),inRow n k parts=some xs→RelP L parts vs→(k+parts.length)*n≤us.length →
  ∃qs:List Value,Instr.fill (fun i=>some (i*n,n)) us.toArray vs=some (us.take (k*n)++qs++us.drop ((k+parts.length)*n)).toArray∧RelL L (cellsOf xs) qs∧(∀v∈qs,oneC v=true)∧xs.length=parts.length∧(∀x∈xs,x.cells.length=n)
 | [],_,k,xs,us,h,hp,hl=>by
  cases hp;cases h
  exact⟨[],by simp[Instr.fill],.nil,by simp,rfl,by simp⟩
 | (i,a)::parts,_,k,xs,us,h,hp,hl=>by
  cases hp with
  | cons _ _ v _ vs hv t =>
   simp only[inRow]at h
   split at h
   ·rename_i hc
    obtain⟨rfl,hs,hn⟩:=hc
    rw[Option.map_eq_some_iff]at h
    obtain⟨ys,hy,rfl⟩:=h
    obtain⟨ps,q1,q2,q3⟩:=rel_cells hv hs
    have hql:ps.length=n:=by rw[←q2.length,hn]
    simp only[List.length_cons]at hl
    have hk:i*n+n≤us.length:=by
     have:(i+1)*n≤(i+(parts.length+1))*n:=Nat.mul_le_mul_right _ (by omega)
     rw[Nat.succ_mul]at this;omega
    have hset:=setL_eq ps us (i*n) (by omega)
    obtain⟨qs,w1,w2,w3,w4,w5⟩:=inRow_fill (i+1) ys (setL us (i*n) ps) hy t (by rw[setL_length,show i+1+parts.length=i+(parts.length+1) by omega];exact hl)
    refine⟨ps++qs,?_,?_,?_,by simp[w4],?_⟩
    ·simp only[Instr.fill]
     rw[if_neg (by rw[q1];simp;omega),q1,fill_cells,w1]
     congr 2
     have hlen:(setL us (i*n) ps).take ((i+1)*n)=us.take (i*n)++ps:=by
      rw[hset,List.append_assoc,←List.append_assoc,List.take_append_of_le_length (by simp;rw[Nat.succ_mul];omega)]
      apply List.take_of_length_le
      simp;rw[Nat.succ_mul];omega
     rw[hlen]
     have hd:(setL us (i*n) ps).drop ((i+1+parts.length)*n)=us.drop ((i+(parts.length+1))*n):=by
      rw[hset,show i+1+parts.length=i+(parts.length+1) by omega]
      have hge:i*n+ps.length≤(i+(parts.length+1))*n:=by
       have:(i+1)*n≤(i+(parts.length+1))*n:=Nat.mul_le_mul_right _ (by omega)
       rw[Nat.succ_mul]at this;omega
      rw[List.drop_append,List.drop_of_length_le (by simp;omega)]
      simp only[List.nil_append,List.length_append,List.length_take,List.drop_drop]
      congr 1
      omega
     rw[hd]
     simp only[List.append_assoc,List.length_cons]
    ·show RelL L (a.cells++cellsOf ys) _
     exact q2.append w2
    ·intro x hx;rcases List.mem_append.1 hx with hx|hx;exact q3 x hx;exact w3 x hx
    ·intro x hx;rcases List.mem_cons.1 hx with rfl|hx;exact hn;exact w5 x hx
   ·cases h
def aBuildSlice0 (P:Program)(t:TypeId)(len:Nat)(parts:List (Nat×AV)):Option AV :=
 match P.underlying t with
 | some (.slice e)=>match szOf P e,(P.info? e).bind (·.zero) with
  | some n,some zv=>if parts.length=len∧len*n≤16777216∧zv.cells.size=n then match inRow n 0 parts with
   | some xs=>some (.sl e n xs .own)
   | none=>none
   else none
  | _,_=>none
 | _=>none
theorem buildSlice_ok0 {P:Program}{W0:World}{L:Lay}{ow:Owns}{s:Heap}{w:World}(h:St W0 L ow s w){t:TypeId}{len:Nat}{parts:List (Nat×AV)}{r:AV}(hr:aBuildSlice0 P t len parts=some r)
  {vs:Array (Nat×Value)}(hp:RelP L parts vs.toList):∃a k w',(Instr.buildSlice t len vs).run P w=.ok (.slice (some a) k k) w'∧Res W0 L ow w r s (.slice (some a) k k) w':=by
 unfold aBuildSlice0 at hr
 split at hr
 ·rename_i e hu
  split at hr
  ·rename_i n zv hn hz
   split at hr
   ·rename_i hc
    obtain⟨hlen,hmax,hzs⟩:=hc
    split at hr
    ·rename_i xs hxs
     cases hr
     obtain⟨init,hi,hil⟩:∃init:List Value,(Array.range (len*n)).map (fun i=>zv.cells[i % zv.cells.size]!)=init.toArray∧init.length=len*n :=
      ⟨((Array.range (len*n)).map (fun i=>zv.cells[i % zv.cells.size]!)).toList,Array.toArray_toList.symm,by simp⟩
     obtain⟨qs,w1,w2,w3,w4,w5⟩:=inRow_fill 0 xs init hxs hp (by rw[hil,hlen];simp)
     simp only[Nat.zero_mul,List.take_zero,List.nil_append,Nat.zero_add,hlen]at w1
     rw[List.drop_of_length_le (by rw[hil];exact Nat.le_refl _),List.append_nil]at w1
     refine⟨⟨w.heap.size,0,none⟩,xs.length,w.alloc (.cells qs.toArray e),?_,L.new w.heap.size qs.length qs,newOw ow w.heap.size .ret,new_ext h _ _ _ _,new_st h _ _ _ _,?_,?_⟩
     ·have hxl:xs.length=len:=by rw[w4,hlen]
      have hmax':¬(16777216<len*n):=by omega
      simp only[Instr.buildSlice,Sem.run_bind,run_under hu,Result.andThen_ok,run_szOf hn]
      rw[if_neg (by omega)]
      by_cases h0:len*n=0
      ·have hinit:init=[]:=List.length_eq_zero_iff.1 (by rw[hil,h0])
       subst hinit
       rw[if_pos h0]
       have he:(Array.range (len*n)).map (fun i=>(#[]:Array Value)[i % (#[]:Array Value).size]!)=#[]:=by rw[h0];simp
       simp only[Sem.run_bind,Sem.run_pure,Result.andThen_ok,he,w1]
       simp[newRow,hxl]
      ·rw[if_neg h0]
       simp only[Sem.run_bind,run_zero hz,Result.andThen_ok,Sem.run_pure,hi,w1]
       simp[newRow,hxl]
     ·exact .sl w.heap.size 0 e n xs .own xs.length (new_relC h (by rw[List.take_length];exact w2) (by rw[List.take_length];exact w3)) w5 ⟨Nat.le_refl _,nofun⟩
     ·have hql:qs.length=xs.length*n:=by rw[←w2.length,cellsOf_length w5]
      refine⟨by simp[newOw],⟨_,_,alloc_new _ _,rfl,by simp[hql]⟩,fun o ho=>⟨new_melt _ _ _ _,?_⟩⟩
      simp only[Lay.new,if_true]
      rw[if_neg (by omega)]
    ·cases hr
   ·cases hr
  ·cases hr
 ·cases hr
def fullE:AV→AV
 | .sl e n [] .own=>.sl e n [] .full
 | v=>v
def aBuildSlice (P:Program)(t:TypeId)(len:Nat)(parts:List (Nat×AV)):Option AV:=(aBuildSlice0 P t len parts).map fullE
theorem buildSlice_ok {P:Program}{W0:World}{L:Lay}{ow:Owns}{s:Heap}{w:World}(h:St W0 L ow s w){t:TypeId}{len:Nat}{parts:List (Nat×AV)}{r:AV}(hr:aBuildSlice P t len parts=some r)
  {vs:Array (Nat×Value)}(hp:RelP L parts vs.toList):∃z w',(Instr.buildSlice t len vs).run P w=.ok z w'∧Res W0 L ow w r s z w':=by
 unfold aBuildSlice at hr
 rw[Option.map_eq_some_iff]at hr
 obtain⟨r0,hr,rfl⟩:=hr
 obtain⟨a,k,w',h1,h2⟩:=buildSlice_ok0 h hr hp
 refine⟨_,w',h1,?_⟩
 unfold fullE
 split
 ·rename_i e n
  obtain⟨L',ow',x1,x2,x3,x4⟩:=h2
  refine⟨L',ow',x1,x2,?_,.of_not rfl⟩
  have:k=0:=by cases x3<;>rfl
  subst this
  exact .sl0 a e n .full 0 (.inr ⟨rfl,rfl⟩)
 ·exact h2
end Go.Abs
end
