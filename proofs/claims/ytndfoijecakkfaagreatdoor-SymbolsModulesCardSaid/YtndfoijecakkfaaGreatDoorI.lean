/- SymT, SymU, SymY, SymZ, SymL, SymM, SymO, AstX, AstY, AstZ, SymW, AstQ, SymX -/
import Derived.Test.YtndfoijecakkfaaGreatDoorG
import Derived.Test.YtndfoijecakkfaaGreatDoorP
import Derived.Test.YtndfoijecakkfaaGreatDoorH
set_option linter.all false
set_option maxRecDepth 100000

section
namespace Pm
structure Sy where
 (kind start parent:Int)(name:Bytes)(Wg:Bool)
 deriving DecidableEq,Inhabited
def dO (k ns:Int)(loc:Bool):Int :=
 if k=7 then 6 else if ns<0 then 0 else if(k=13∧loc=true)∨k=44 then 14 else if 3≤k∧k≤9 then k-3+2
 else if k=11 then 9 else if k=13 then 10 else if k=14 then 11 else if k=15 then 12 else if k=16 then 13 else 0
def kX (k s ns:Int):Int:=if k=7 then s else ns
def iI (kd:Int):Bool:=decide (2≤kd)&&decide (kd≤8)
def nz (k:Int)(loc:Bool):Bool:=(decide (k=12)&&loc) || decide (k=9) || decide (k=38)
mutual
def ew (fl:Int→Bool)(base:Nat)(parent:Int)(loc:Bool):Nd→List Sy
 | .mk k v x s _ ns cs =>
  if dO k ns loc=0 then cQ fl base parent (nz k loc) cs
  else⟨dO k ns loc,kX k s ns,parent,x,decide (k≤9)&&fl v⟩::cQ fl (base+1) (if iI (dO k ns loc)=true then(base:Int) else parent) (nz k loc) cs
def cQ (fl:Int→Bool)(base:Nat)(parent:Int)(loc:Bool):List Nd→List Sy
 | []=>[]
 | n::ns=>ew fl base parent loc n++cQ fl (base+(ew fl base parent loc n).length) parent loc ns
end
theorem ig (fl:Int→Bool)(base:Nat)(parent:Int)(loc:Bool)(k v:Int)(x:Bytes)(s e ns:Int)(cs:List Nd):ew fl base parent loc (.mk k v x s e ns cs) =
  if dO k ns loc=0 then cQ fl base parent (nz k loc) cs
  else⟨dO k ns loc,kX k s ns,parent,x,decide (k≤9)&&fl v⟩::cQ fl (base+1) (if iI (dO k ns loc)=true then(base:Int) else parent) (nz k loc) cs:=by rw[ew]
def Sy.sh (d:Int)(y:Sy):Sy:={ y with parent:=y.parent+d }
mutual
theorem KU (fl:Int→Bool)(d:Nat):∀(base:Nat)(parent:Int)(loc:Bool)(n:Nd),ew fl (base+d) (parent+d) loc n=(ew fl base parent loc n).map (Sy.sh d)
 | base,parent,loc,.mk k v x s e ns cs=>by
  rw[ig,ig]
  split
  ·exact rQ fl d base parent _ cs
  ·rw[List.map_cons]
   have e1:base+d+1=base+1+d:=by omega
   rw[e1]
   have e2:(if iI (dO k ns loc)=true then((base+d:Nat):Int) else parent+d)=(if iI (dO k ns loc)=true then(base:Int) else parent)+d:=by split<;>simp
   rw[e2,rQ fl d (base+1) _ _ cs];rfl
theorem rQ (fl:Int→Bool)(d:Nat):∀(base:Nat)(parent:Int)(loc:Bool)(cs:List Nd),cQ fl (base+d) (parent+d) loc cs=(cQ fl base parent loc cs).map (Sy.sh d)
 | base,parent,loc,[]=>by rw[cQ,cQ];rfl
 | base,parent,loc,n::ns=>by
  rw[cQ,cQ,KU fl d base parent loc n,List.map_append,List.length_map]
  have e1:base+d+(ew fl base parent loc n).length=base+(ew fl base parent loc n).length+d:=by omega
  rw[e1,rQ fl d _ parent loc ns]
end
def RE (base:Nat)(parent:Int)(l:List Sy):Prop:=∀j y,l[j]?=some y→y.parent=parent∨((base:Int)≤y.parent∧y.parent<((base+j:Nat):Int))
theorem RE.nil (base:Nat)(parent:Int):RE base parent []:=fun j y h=>by simp at h
theorem RE.append {base:Nat}{parent:Int}{a b:List Sy}(h:RE base parent a)(k:RE (base+a.length) parent b):RE base parent (a++b):=by
 intro j y hj
 by_cases c:j<a.length
 ·rw[List.getElem?_append_left c]at hj;exact h j y hj
 ·rw[List.getElem?_append_right (by omega)]at hj
  rcases k _ _ hj with e|⟨e1,e2⟩
  ·exact .inl e
  ·exact .inr ⟨by omega,by omega⟩
mutual
theorem Hq (fl:Int→Bool):∀(base:Nat)(parent:Int)(loc:Bool)(n:Nd),RE base parent (ew fl base parent loc n)
 | base,parent,loc,.mk k v x s e ns cs=>by
  rw[ig]
  split
  ·exact po fl base parent _ cs
  ·intro j y hj
   cases j with
   | zero=>simp at hj;subst hj;exact .inl rfl
   | succ j =>
    rw[List.getElem?_cons_succ]at hj
    rcases po fl (base+1) _ _ cs j y hj with e|⟨e1,e2⟩
    ·split at e
     ·exact .inr ⟨by omega,by omega⟩
     ·exact .inl e
    ·exact .inr ⟨by omega,by omega⟩
theorem po (fl:Int→Bool):∀(base:Nat)(parent:Int)(loc:Bool)(cs:List Nd),RE base parent (cQ fl base parent loc cs)
 | base,parent,loc,[]=>by rw[cQ];exact .nil _ _
 | base,parent,loc,n::ns=>by rw[cQ];exact(Hq fl base parent loc n).append (po fl _ parent loc ns)
end
end Pm
end

section
namespace Pm
mutual
def Ab:Nd→List Int
 | .mk k _ _ s _ ns cs=>(if k=7 then[s] else if ns<0 then[] else[ns])++kY cs
def kY:List Nd→List Int
 | []=>[]
 | n::ns=>Ab n++kY ns
end
theorem ml (k v:Int)(x:Bytes)(s e ns:Int)(cs:List Nd):Ab (.mk k v x s e ns cs)=(if k=7 then[s] else if ns<0 then[] else[ns])++kY cs:=by rw[Ab]
def Sep (a b:Nat)(l:List Int):Prop:=(∀d∈l,(a:Int)≤d∧d<(b:Int))∧l.Nodup
theorem Sep.nil (a b:Nat):Sep a b []:=⟨fun d h=>(by cases h),List.nodup_nil⟩
theorem Sep.wide {a b a' b':Nat}{l:List Int}(h:Sep a b l)(h1:a'≤a)(h2:b≤b'):Sep a' b' l:=⟨fun d hd=>by have:=h.1 d hd;omega,h.2⟩
theorem Sep.append {a b c:Nat}{l m:List Int}(h:Sep a b l)(k:Sep b c m)(h1:a≤b)(h2:b≤c):Sep a c (l++m):=by
 refine⟨fun d hd=>?_,List.nodup_append.2 ⟨h.2,k.2,fun x hx y hy e=>?_⟩⟩
 ·rcases List.mem_append.1 hd with hd|hd
  ·have:=h.1 d hd;omega
  ·have:=k.1 d hd;omega
 ·have:=h.1 x hx;have:=k.1 y hy;omega
theorem Sep.cons {a b:Nat}{l:List Int}{d:Int}(h:Sep a b l)(h1:(a:Int)≤d)(h2:d<(b:Int))(h3:d∉l):Sep a b (d::l) :=
 ⟨fun x hx=>(List.mem_cons.1 hx).elim (fun e=>by subst e;exact⟨h1,h2⟩) (fun hx=>h.1 x hx),List.nodup_cons.2 ⟨h3,h.2⟩⟩
inductive Hr:az→Prop
 | mk (k:Nat) (x:Bytes) (cs:List az) (h7:k=7→∃(A:List Tok) (t:Tok) (r:List az),cs=A.map cr++cr t::r∧(∀a∈A,dq a=true)∧dq t=false∧100≤t.1∧(∀a∈A,100≤a.1)∧t.2≠[])
   (h60:k=60→∀t∈cs,t.kind≠7)(hi:∀t∈cs,t.kind=103→t.text≠[])(hc:∀t∈cs,t.kind<100→Hr t):Hr (.mk k x cs)
theorem Fi (k:Int)(h:Hd)(c:Nat)(x:Bytes)(o:Int):(cP k h c x o).1.ns=h.ns∨(c=103∧h.ns<0∧(cP k h c x o).1.ns=o):=by
 unfold cP
 by_cases c1:c=101∨c=102
 ·rw[if_pos c1];exact .inl rfl
 ·rw[if_neg c1]
  by_cases c2:c=108
  ·rw[if_pos c2];split<;>exact .inl rfl
  ·rw[if_neg c2]
   by_cases c3:c=103
   ·rw[if_pos c3]
    unfold dS
    simp only[Hd.ext]
    split
    ·rename_i e
     rw[Bool.and_eq_true,decide_eq_true_eq]at e
     exact .inr ⟨c3,e.2,rfl⟩
    ·exact .inl rfl
   ·rw[if_neg c3]
    by_cases c4:c=105
    ·rw[if_pos c4];exact .inl rfl
    ·rw[if_neg c4]
     by_cases c5:c=106
     ·rw[if_pos c5];exact .inl rfl
     ·rw[if_neg c5];exact .inl (jb k h x).2.2
def UT (o n:Nat)(h:Hd)(z:Kd):Prop:=Sep o (o+n) (kY z.ns)∧(z.h.ns=h.ns∨(h.ns<0∧(o:Int)≤z.h.ns∧z.h.ns<((o+n:Nat):Int)∧z.h.ns∉kY z.ns))
def Nd.kd:Nd→Int|.mk k _ _ _ _ _ _=>k
theorem Nd.KV (a b:Int)(n:Nd):(n.place a b).kd=n.kd:=by cases n;rfl
theorem By (a b:Int)(n:Nd)(h:n.kd≠7):Ab (n.place a b)=Ab n:=by
 cases n with
 | mk k v x s e ns cs =>
  have h:k≠7:=h
  rw[Nd.place,ml,ml,if_neg h,if_neg h]
mutual
theorem Fj (src:Bytes):∀(o:Nat)(t:az),gr t=true→Hr t→t.kind<100→t.kind≠7→(aS src o t).1.kd≠7
 | o,.mk k x cs,p6,hd,hk,hn=>by
  rw[gr,Bool.and_eq_true]at p6
  cases hd with
  | mk _ _ _ h7 h60 hi hc =>
  rw[eX]
  unfold gP
  by_cases c60:(k:Int)=60
  ·simp only
   rw[if_pos c60]
   rw[Nd.KV]
   have hk60:k=60:=by omega
   have e:=p6.1
   rw[hk60]at e
   have hne:=nV src k o (h0 o) cs (by simpa using e)
   have hall:=ue src k o (h0 o) cs p6.2 hc (h60 hk60)
   cases hz:(aQ src k o (h0 o) cs).ns with
   | nil=>exact absurd hz hne
   | cons a r=>rw[hz]at hall;exact hall a (List.mem_cons_self ..)
  ·simp only
   rw[if_neg c60]
   by_cases c46:(k:Int)=46
   ·rw[if_pos c46];show (46:Int)≠7;decide
   ·rw[if_neg c46]
    show (k:Int)≠7
    have:k≠7:=hn
    omega
theorem ue (src:Bytes)(k:Int):∀(o:Nat)(h:Hd)(cs:List az),er cs=true→(∀t∈cs,t.kind<100→Hr t)→(∀t∈cs,t.kind≠7)→∀n∈(aQ src k o h cs).ns,n.kd≠7
 | o,h,[],_,_,_=>by rw[db];intro n hn;cases hn
 | o,h,t::ts,p6,hc,h7=>by
  rw[er,Bool.and_eq_true]at p6
  have hc':∀u∈ts,u.kind<100→Hr u:=fun u hu=>hc u (List.mem_cons_of_mem _ hu)
  have h7':∀u∈ts,u.kind≠7:=fun u hu=>h7 u (List.mem_cons_of_mem _ hu)
  by_cases c:100≤t.kind
  ·rw[cA _ _ _ _ _ _ c]
   exact ue src k _ _ ts p6.2 hc' h7'
  ·rw[cS _ _ _ _ _ _ c]
   intro n hn
   rcases List.mem_cons.1 hn with e|hn
   ·rw[e];exact Fj src o t p6.1 (hc t (List.mem_cons_self ..) (by omega)) (by omega) (h7 t (List.mem_cons_self ..))
   ·exact ue src k _ _ ts p6.2 hc' h7' n hn
end
theorem Fk {h:Hd}(he:0≤h.e)(a b:Int):(h.ext a b).s=h.s:=by
 unfold Hd.ext;simp only;rw[if_neg (by omega)]
theorem KX {k:Int}{h:Hd}{c:Nat}{x:Bytes}{o:Int}(he:0≤h.e)(ho:0≤o):(cP k h c x o).1.s=h.s∧0≤(cP k h c x o).1.e:=by
 have key:∀h':Hd,h'.s=h.s→h'.e=h.e→(h'.ext o (o+x.length)).s=h.s∧0≤(h'.ext o (o+x.length)).e:=fun h' e1 e2=>⟨by rw[Fk (by rw[e2];exact he),e1],by show (0:Int)≤o+x.length;omega⟩
 unfold cP
 repeat' split
 ·exact⟨rfl,he⟩
 ·exact⟨rfl,he⟩
 ·exact key _ rfl rfl
 ·exact key _ (iG ..).1 (iG ..).2
 ·exact key _ rfl rfl
 ·exact key _ rfl rfl
 ·exact key _ (jb ..).1 (jb ..).2.1
theorem DH (src:Bytes)(k:Int):∀(o:Nat)(h:Hd)(cs:List az),mP cs=true→0≤h.e→(aQ src k o h cs).h.s=h.s
 | o,h,[],_,he=>by rw[db]
 | o,h,t::ts,ok,he=>by
  rw[fA,Bool.and_eq_true]at ok
  by_cases c:100≤t.kind
  ·rw[cA _ _ _ _ _ _ c]
   obtain⟨e1,e2⟩:=KX (k:=k) (c:=t.kind) (x:=t.text) (o:=o) he (by omega)
   show (aQ src k (o+t.text.length) (cP k h t.kind t.text o).1 ts).h.s=_
   rw[DH src k _ _ ts ok.2 e2,e1]
  ·rw[cS _ _ _ _ _ _ c]
   have r:=kO src o t ok.1
   show (aQ src k (o+(dj t).length) (h.ext (aS src o t).1.s (aS src o t).1.e) ts).h.s=_
   rw[DH src k _ _ ts ok.2 (by show (0:Int)≤(aS src o t).1.e;omega),Fk he]
theorem Hs {k:Int}{h:Hd}{c:Nat}{x:Bytes}{o:Int}(he:h.e<0)(ho:0≤o)(hc:¬(c=101∨c=102))(hx:x≠[]):(cP k h c x o).1.s=o∧0≤(cP k h c x o).1.e:=by
 have key:∀h':Hd,h'.e=h.e→(h'.ext o (o+x.length)).s=o∧0≤(h'.ext o (o+x.length)).e:=fun h' e2=>⟨by unfold Hd.ext;simp only;rw[if_pos (by omega)],by show (0:Int)≤o+x.length;omega⟩
 unfold cP
 rw[if_neg hc]
 by_cases c2:c=108
 ·rw[if_pos c2,if_neg hx];exact key _ rfl
 ·rw[if_neg c2]
  repeat' split
  ·exact key _ (iG ..).2
  ·exact key _ rfl
  ·exact key _ rfl
  ·exact key _ (jb ..).2.1
theorem xR (src:Bytes)(k:Int)(t:Tok)(r:List az)(ht:dq t=false)(h1:100≤t.1)(h2:t.2≠[])(okr:mP r=true):∀(A:List Tok)(o:Nat)(h:Hd),(∀a∈A,dq a=true)→(∀a∈A,100≤a.1)→h.e<0 →
  (aQ src k o h (A.map cr++cr t::r)).h.s=((o+(j7 A).length:Nat):Int)∧∃h',(aQ src k o h (A.map cr++cr t::r)).ns=(aQ src k (o+(j7 A).length+t.2.length) h' r).ns
 | [],o,h,_,_,he=>by
  have c:100≤(cr t).kind:=h1
  have htr:¬((cr t).kind=101∨(cr t).kind=102):=by
   have:¬(t.1=101∨t.1=102):=by simpa[dq] using ht
   exact this
  obtain⟨e1,e2⟩:=Hs (k:=k) (c:=(cr t).kind) (x:=(cr t).text) (o:=o) he (by omega) htr h2
  rw[List.map_nil,List.nil_append,cA _ _ _ _ _ _ c]
  refine⟨?_,_,rfl⟩
  show (aQ src k _ _ r).h.s=_
  rw[DH src k _ _ r okr e2,e1];rfl
 | a::A,o,h,hA,hA',he=>by
  have c:100≤(cr a).kind:=hA' a (List.mem_cons_self ..)
  have ha:(cr a).kind=101∨(cr a).kind=102:=by
   have h2:a.1=101∨a.1=102:=by simpa[dq] using hA a (List.mem_cons_self ..)
   exact h2
  rw[List.map_cons,List.cons_append,cA _ _ _ _ _ _ c]
  have e:(cP k h (cr a).kind (cr a).text o).1=h:=by unfold cP;rw[if_pos ha]
  have ih:=xR src k t r ht h1 h2 okr A (o+(cr a).text.length) h (fun x hx=>hA x (List.mem_cons_of_mem _ hx)) (fun x hx=>hA' x (List.mem_cons_of_mem _ hx)) he
  have hl:(j7 (a::A)).length=(cr a).text.length+(j7 A).length:=by rw[j7,List.length_append];rfl
  rw[hl,←Nat.add_assoc,e]
  exact ih
theorem zB (a b:Int)(n:Nd):∀d∈Ab (n.place a b),d=a∨d∈Ab n:=by
 cases n with
 | mk k v x s e ns cs =>
  intro d hd
  rw[Nd.place,ml]at hd
  rw[ml]
  rcases List.mem_append.1 hd with hd|hd
  ·by_cases c:k=7
   ·rw[if_pos c]at hd;exact .inl (List.mem_singleton.1 hd)
   ·rw[if_neg c]at hd ⊢;exact .inr (List.mem_append_left _ hd)
  ·exact .inr (List.mem_append_right _ hd)
mutual
theorem PK (src:Bytes):∀(o:Nat)(t:az),wv t=true→gr t=true→∀d∈Ab (aS src o t).1,(o:Int)≤d
 | o,.mk k x cs,h,p6=>by
  obtain⟨-,h2,h3⟩:=km k x cs h
  rw[gr,Bool.and_eq_true]at p6
  obtain⟨i1,i2⟩:=uf src k o (h0 o) cs h3 p6.2
  have iv:=(qJ src k o o (h0 o) cs h3 (Ki o)).1
  rw[eX]
  unfold gP
  by_cases c60:(k:Int)=60
  ·simp only
   rw[if_pos c60]
   have hk60:k=60:=by omega
   have e:=p6.1
   rw[hk60]at e
   have hne:=nV src k o (h0 o) cs (by simpa using e)
   cases hz:(aQ src k o (h0 o) cs).ns with
   | nil=>exact absurd hz hne
   | cons a r =>
    intro d hd
    rcases zB _ _ _ d hd with e|hd
    ·rw[e];exact iv
    ·rw[hz,kY]at i1;exact i1 d (List.mem_append_left _ hd)
  ·simp only
   rw[if_neg c60]
   by_cases c46:(k:Int)=46
   ·rw[if_pos c46]
    intro d hd
    have hd:d∈Ab (.mk 46 0 _ _ _ (-1) []):=hd
    rw[ml,kY]at hd
    simp at hd
   ·rw[if_neg c46]
    intro d hd
    have hd:d∈Ab (.mk k _ _ _ _ _ _):=hd
    rw[ml]at hd
    rcases List.mem_append.1 hd with hd|hd
    ·split at hd
     ·rw[List.mem_singleton.1 hd];exact iv
     ·split at hd
      ·cases hd
      ·rename_i c7 cn
       rw[List.mem_singleton.1 hd]
       rcases i2 with e|e
       ·exact absurd (by rw[e];show (-1:Int)<0;decide) cn
       ·exact e
    ·exact i1 d hd
theorem uf (src:Bytes)(k:Int):∀(o:Nat)(h:Hd)(cs:List az),mP cs=true→er cs=true→(∀d∈kY (aQ src k o h cs).ns,(o:Int)≤d)∧((aQ src k o h cs).h.ns=h.ns∨(o:Int)≤(aQ src k o h cs).h.ns)
 | o,h,[],_,_=>by rw[db];exact⟨fun d hd=>by simp[kY]at hd,.inl rfl⟩
 | o,h,t::ts,ok,p6=>by
  rw[fA,Bool.and_eq_true]at ok
  rw[er,Bool.and_eq_true]at p6
  by_cases c:100≤t.kind
  ·rw[cA _ _ _ _ _ _ c]
   obtain⟨i1,i2⟩:=uf src k (o+t.text.length) (cP k h t.kind t.text o).1 ts ok.2 p6.2
   refine⟨fun d hd=>by have:=i1 d hd;omega,?_⟩
   show (aQ src k (o+t.text.length) (cP k h t.kind t.text o).1 ts).h.ns=h.ns∨(o:Int)≤(aQ src k (o+t.text.length) (cP k h t.kind t.text o).1 ts).h.ns
   rcases i2 with e|e
   ·rcases Fi k h t.kind t.text o with f|⟨-,-,f⟩
    ·exact .inl (e.trans f)
    ·exact .inr (by rw[e,f];exact Int.le_refl _)
   ·exact .inr (by omega)
  ·rw[cS _ _ _ _ _ _ c]
   obtain⟨i1,i2⟩:=uf src k (o+(dj t).length) (h.ext (aS src o t).1.s (aS src o t).1.e) ts ok.2 p6.2
   have j:=PK src o t ok.1 p6.1
   refine⟨fun d hd=>?_,?_⟩
   ·have hd:d∈kY (_::_):=hd
    rw[kY]at hd
    rcases List.mem_append.1 hd with hd|hd
    ·exact j d hd
    ·have:=i1 d hd;omega
   ·show (aQ src k (o+(dj t).length) (h.ext (aS src o t).1.s (aS src o t).1.e) ts).h.ns=h.ns∨(o:Int)≤(aQ src k (o+(dj t).length) (h.ext (aS src o t).1.s (aS src o t).1.e) ts).h.ns
    rcases i2 with e|e
    ·exact .inl e
    ·exact .inr (by omega)
end
mutual
theorem Bz (src:Bytes):∀(o:Nat)(t:az),wv t=true→gr t=true→Hr t→t.kind<100→Sep o (o+(dj t).length) (Ab (aS src o t).1)
 | o,.mk k x cs,h,p6,hd,hk=>by
  obtain⟨-,h2,h3⟩:=km k x cs h
  have hx:=h2 hk
  subst hx
  rw[iC]
  rw[gr,Bool.and_eq_true]at p6
  cases hd with
  | mk _ _ _ h7 h60 hi hc =>
  have i:=vM src k o (h0 o) cs h3 p6.2 hi hc
  obtain⟨i1,i2⟩:=i
  rw[eX]
  unfold gP
  by_cases c60:(k:Int)=60
  ·simp only
   rw[if_pos c60]
   have hk60:k=60:=by omega
   have e:=p6.1
   rw[hk60]at e
   have hne:=nV src k o (h0 o) cs (by simpa using e)
   have hall:=ue src k o (h0 o) cs p6.2 hc (h60 hk60)
   cases hz:(aQ src k o (h0 o) cs).ns with
   | nil=>exact absurd hz hne
   | cons a r =>
    rw[hz]at hall
    show Sep _ _ (Ab (a.place _ _))
    rw[By _ _ _ (hall a (List.mem_cons_self ..))]
    rw[hz,kY]at i1
    exact⟨fun d hd=>i1.1 d (List.mem_append_left _ hd),(List.nodup_append.1 i1.2).1⟩
  ·simp only
   rw[if_neg c60]
   by_cases c46:(k:Int)=46
   ·rw[if_pos c46]
    show Sep _ _ (Ab (.mk 46 0 _ _ _ (-1) []))
    rw[ml,kY]
    exact .nil _ _
   ·rw[if_neg c46]
    show Sep _ _ (Ab (.mk k _ _ _ _ _ _))
    rw[ml]
    by_cases c7:(k:Int)=7
    ·rw[if_pos c7]
     obtain⟨A,t,r,rfl,q1,q2,q3,q4,q5⟩:=h7 (by omega)
     rw[dK,Bool.and_eq_true]at h3
     have h3r:=h3.2
     rw[fA,Bool.and_eq_true]at h3r
     have p6r:er r=true:=by
      have:∀(xs ys:List az),er (xs++ys)=true→er ys=true:=by
       intro xs
       induction xs with
       | nil=>intro ys h;exact h
       | cons x xs ih=>intro ys h;rw[List.cons_append,er,Bool.and_eq_true]at h;exact ih ys h.2
      have:=this _ _ p6.2
      rw[er,Bool.and_eq_true]at this
      exact this.2
     obtain⟨z1,h',z2⟩:=xR src k t r q2 q3 q5 h3r.2 A o (h0 o) q1 q4 (show (-1:Int)<0 by decide)
     have kr:=(uf src k (o+(j7 A).length+t.2.length) h' r h3r.2 p6r).1
     have hlen:(cY (A.map cr++cr t::r)).length=(j7 A).length+(t.2.length+(cY r).length):=by
      rw[dW,List.length_append,rC,cY,List.length_append]
      have:dj (cr t)=t.2:=gE (t:=cr t) h3r.1 q3
      rw[this]
     have hpos:0<t.2.length:=List.length_pos_iff.2 q5
     rw[←z2]at kr
     rw[z1]
     refine Sep.cons i1 (by omega) (by rw[hlen];omega) (fun hm=>?_)
     have:=kr _ hm
     omega
    ·rw[if_neg c7]
     rcases i2 with e|⟨-,e2,e3,e4⟩
     ·have:(aQ src k o (h0 o) cs).h.ns<0:=by rw[e];show (-1:Int)<0;decide
      rw[if_pos this];exact i1
     ·rw[if_neg (by omega)]
      exact i1.cons e2 e3 e4
theorem vM (src:Bytes)(k:Int):∀(o:Nat)(h:Hd)(cs:List az),mP cs=true→er cs=true→(∀t∈cs,t.kind=103→t.text≠[])→(∀t∈cs,t.kind<100→Hr t)→UT o (cY cs).length h (aQ src k o h cs)
 | o,h,[],_,_,_,_=>by rw[db,cY];exact⟨.nil _ _,.inl rfl⟩
 | o,h,t::ts,ok,p6,hi,hc=>by
  rw[fA,Bool.and_eq_true]at ok
  rw[er,Bool.and_eq_true]at p6
  have hi':∀u∈ts,u.kind=103→u.text≠[]:=fun u hu=>hi u (List.mem_cons_of_mem _ hu)
  have hc':∀u∈ts,u.kind<100→Hr u:=fun u hu=>hc u (List.mem_cons_of_mem _ hu)
  have hl:(cY (t::ts)).length=(dj t).length+(cY ts).length:=by rw[cY,List.length_append]
  rw[hl]
  by_cases c:100≤t.kind
  ·rw[cA _ _ _ _ _ _ c]
   have e1:=gE ok.1 c
   have i:=vM src k (o+t.text.length) (cP k h t.kind t.text o).1 ts ok.2 p6.2 hi' hc'
   rw[e1]
   obtain⟨i1,i2⟩:=i
   refine⟨i1.wide (by omega) (by omega),?_⟩
   show (aQ src k (o+t.text.length) (cP k h t.kind t.text o).1 ts).h.ns=h.ns∨_
   rcases Fi k h t.kind t.text o with e|⟨e2,e3,e4⟩
   ·rcases i2 with j|⟨j1,j2,j3,j4⟩
    ·exact .inl (j.trans e)
    ·refine .inr ⟨by rw[←e];exact j1,?_,?_,j4⟩
     ·show (o:Int)≤(aQ src k (o+t.text.length) (cP k h t.kind t.text o).1 ts).h.ns
      omega
     ·show (aQ src k (o+t.text.length) (cP k h t.kind t.text o).1 ts).h.ns<_
      omega
   ·have hne:0<t.text.length:=List.length_pos_iff.2 (hi t (List.mem_cons_self ..) e2)
    rcases i2 with j|⟨j1,-⟩
    ·refine .inr ⟨e3,?_,?_,?_⟩
     ·show (o:Int)≤(aQ src k (o+t.text.length) (cP k h t.kind t.text o).1 ts).h.ns
      rw[j,e4];exact Int.le_refl _
     ·show (aQ src k (o+t.text.length) (cP k h t.kind t.text o).1 ts).h.ns<_
      rw[j,e4];omega
     ·intro hm
      have hm':(aQ src k (o+t.text.length) (cP k h t.kind t.text o).1 ts).h.ns∈kY (aQ src k (o+t.text.length) (cP k h t.kind t.text o).1 ts).ns:=hm
      have:=(i1.1 _ hm').1
      rw[j,e4]at this;omega
    ·rw[e4]at j1;omega
  ·rw[cS _ _ _ _ _ _ c]
   have i:=vM src k (o+(dj t).length) (h.ext (aS src o t).1.s (aS src o t).1.e) ts ok.2 p6.2 hi' hc'
   have j:=Bz src o t ok.1 p6.1 (hc t (List.mem_cons_self ..) (by omega)) (by omega)
   obtain⟨i1,i2⟩:=i
   refine⟨?_,?_⟩
   ·show Sep _ _ (kY (_::_))
    rw[kY]
    have:=j.append i1 (by omega) (by omega)
    exact this.wide (Nat.le_refl _) (by omega)
   ·show (aQ src k (o+(dj t).length) (h.ext (aS src o t).1.s (aS src o t).1.e) ts).h.ns=h.ns∨_
    rcases i2 with e|⟨e1,e2,e3,e4⟩
    ·exact .inl e
    ·refine .inr ⟨e1,?_,?_,?_⟩
     ·show (o:Int)≤(aQ src k (o+(dj t).length) (h.ext (aS src o t).1.s (aS src o t).1.e) ts).h.ns
      omega
     ·show (aQ src k (o+(dj t).length) (h.ext (aS src o t).1.s (aS src o t).1.e) ts).h.ns<_
      omega
     ·show ¬(aQ src k (o+(dj t).length) (h.ext (aS src o t).1.s (aS src o t).1.e) ts).h.ns∈kY (_::_)
      rw[kY]
      intro hm
      rcases List.mem_append.1 hm with hm|hm
      ·have:=(j.1 _ hm).2
       omega
      ·exact e4 hm
end
end Pm
namespace Pm
mutual
theorem xS (fl:Int→Bool):∀(base:Nat)(parent:Int)(loc:Bool)(n:Nd),((ew fl base parent loc n).map Sy.start).Sublist (Ab n)
 | base,parent,loc,.mk k v x s e ns cs=>by
  rw[ig,ml]
  by_cases c:dO k ns loc=0
  ·rw[if_pos c]
   exact(pq fl base parent _ cs).trans (List.sublist_append_right _ _)
  ·rw[if_neg c,List.map_cons]
   have r:=pq fl (base+1) (if iI (dO k ns loc)=true then(base:Int) else parent) (nz k loc) cs
   by_cases c7:k=7
   ·rw[if_pos c7]
    have e:kX k s ns=s:=by unfold kX;rw[if_pos c7]
    show (kX k s ns::_).Sublist _
    rw[e];exact r.cons₂ s
   ·rw[if_neg c7]
    have hn:¬ns<0:=by
     intro h
     apply c
     unfold dO
     rw[if_neg c7,if_pos h]
    rw[if_neg hn]
    have e:kX k s ns=ns:=by unfold kX;rw[if_neg c7]
    show (kX k s ns::_).Sublist _
    rw[e];exact r.cons₂ ns
theorem pq (fl:Int→Bool):∀(base:Nat)(parent:Int)(loc:Bool)(cs:List Nd),((cQ fl base parent loc cs).map Sy.start).Sublist (kY cs)
 | base,parent,loc,[]=>by rw[cQ,kY];exact List.Sublist.slnil
 | base,parent,loc,n::ns=>by
  rw[cQ,kY,List.map_append]
  exact(xS fl base parent loc n).append (pq fl _ parent loc ns)
end
end Pm
end

section
namespace Pm
inductive rR:Nd→Prop
 | mk (k v:Int) (x:Bytes) (s e ns:Int) (cs:List Nd) (h:s≤e) (hs:∀c∈cs,s≤c.s) (he:∀c∈cs,c.e≤e) (hc:∀c∈cs,rR c):rR (.mk k v x s e ns cs)
theorem rR.place {n:Nd}(h:rR n){a b:Int}(h1:a≤n.s)(h2:n.e≤b):rR (n.place a b):=by
 cases h with
 | mk k v x s e ns cs h0 hs he hc =>
  have h1:a≤s:=h1
  have h2:e≤b:=h2
  exact .mk k v x a b ns cs (by omega) (fun c hx=>by have:=hs c hx;omega) (fun c hx=>by have:=he c hx;omega) hc
theorem KY {k:Int}{h:Hd}{c:Nat}{x:Bytes}{o:Nat}(h0:0≤h.e)(he:h.e≤o):(cP k h c x o).1.s=h.s∧h.e≤(cP k h c x o).1.e∧0≤(cP k h c x o).1.e:=by
 have key:∀h':Hd,h'.s=h.s→h'.e=h.e→(h'.ext o (o+x.length)).s=h.s∧h.e≤(h'.ext o (o+x.length)).e∧0≤(h'.ext o (o+x.length)).e:=fun h' e1 e2 =>
  ⟨by rw[Fk (by rw[e2];exact h0),e1],by show h.e≤(o:Int)+x.length;omega,by show (0:Int)≤o+x.length;omega⟩
 unfold cP
 repeat' split
 ·exact⟨rfl,Int.le_refl _,h0⟩
 ·exact⟨rfl,Int.le_refl _,h0⟩
 ·exact key _ rfl rfl
 ·exact key _ (iG ..).1 (iG ..).2
 ·exact key _ rfl rfl
 ·exact key _ rfl rfl
 ·exact key _ (jb ..).1 (jb ..).2.1
mutual
theorem xT (src:Bytes):∀(o:Nat)(t:az),wv t=true→gr t=true→rR (aS src o t).1
 | o,.mk k x cs,h,p6=>by
  obtain⟨-,h2,h3⟩:=km k x cs h
  rw[gr,Bool.and_eq_true]at p6
  have i:=(rS src k o o (h0 o) cs h3 p6.2 (Ki o)).1
  rw[eX]
  unfold gP
  by_cases c60:(k:Int)=60
  ·simp only
   rw[if_pos c60]
   have hk60:k=60:=by omega
   have e:=p6.1
   rw[hk60]at e
   have hne:=nV src k o (h0 o) cs (by simpa using e)
   cases hz:(aQ src k o (h0 o) cs).ns with
   | nil=>exact absurd hz hne
   | cons a r =>
    rw[hz]at i
    obtain⟨i1,i2,i3⟩:=i a (List.mem_cons_self ..)
    exact i1.place i2 (by have:=Int.le_max_left (aQ src k o (h0 o) cs).h.e (aQ src k o (h0 o) cs).h.s;omega)
  ·simp only
   rw[if_neg c60]
   have hm1:=Int.le_max_left (aQ src k o (h0 o) cs).h.e (aQ src k o (h0 o) cs).h.s
   have hm2:=Int.le_max_right (aQ src k o (h0 o) cs).h.e (aQ src k o (h0 o) cs).h.s
   by_cases c46:(k:Int)=46
   ·rw[if_pos c46]
    exact .mk 46 0 _ _ _ (-1) [] hm2 (fun c hc=>by cases hc) (fun c hc=>by cases hc) (fun c hc=>by cases hc)
   ·rw[if_neg c46]
    exact .mk k _ _ _ _ _ _ hm2 (fun c hc=>(i c hc).2.1) (fun c hc=>Int.le_trans (i c hc).2.2 hm1) (fun c hc=>(i c hc).1)
theorem rS (src:Bytes)(k:Int):∀(b o:Nat)(h:Hd)(cs:List az),mP cs=true→er cs=true→Inv b o h →
  (∀c∈(aQ src k o h cs).ns,rR c∧(aQ src k o h cs).h.s≤c.s∧c.e≤(aQ src k o h cs).h.e)∧(0≤h.e→(aQ src k o h cs).h.s=h.s∧h.e≤(aQ src k o h cs).h.e)
 | b,o,h,[],_,_,_=>by rw[db];exact⟨fun c hc=>(by cases hc),fun _=>⟨rfl,Int.le_refl _⟩⟩
 | b,o,h,t::ts,ok,p6,iv=>by
  rw[fA,Bool.and_eq_true]at ok
  rw[er,Bool.and_eq_true]at p6
  by_cases c:100≤t.kind
  ·rw[cA _ _ _ _ _ _ c]
   obtain⟨i1,i2⟩:=rS src k b (o+t.text.length) (cP k h t.kind t.text o).1 ts ok.2 p6.2 (iv.tok k t.kind t.text)
   refine⟨i1,fun he=>?_⟩
   have hle:h.e≤o:=by rcases iv.2.2 with v|v<;>omega
   obtain⟨g1,g2,g3⟩:=KY (k:=k) (c:=t.kind) (x:=t.text) he hle
   obtain⟨j1,j2⟩:=i2 g3
   exact⟨j1.trans g1,Int.le_trans g2 j2⟩
  ·rw[cS _ _ _ _ _ _ c]
   have rg:=kO src o t ok.1
   have nn:=xT src o t ok.1 p6.1
   have iv':Inv b (o+(dj t).length) (h.ext (aS src o t).1.s (aS src o t).1.e):=iv.ext rg.1 rg.2.1 rg.2.2
   obtain⟨i1,i2⟩:=rS src k b (o+(dj t).length) (h.ext (aS src o t).1.s (aS src o t).1.e) ts ok.2 p6.2 iv'
   have he':0≤(h.ext (aS src o t).1.s (aS src o t).1.e).e:=by show (0:Int)≤(aS src o t).1.e;omega
   obtain⟨j1,j2⟩:=i2 he'
   have j2:(aS src o t).1.e≤(aQ src k (o+(dj t).length) (h.ext (aS src o t).1.s (aS src o t).1.e) ts).h.e:=j2
   have hs:(h.ext (aS src o t).1.s (aS src o t).1.e).s≤(aS src o t).1.s:=by
    unfold Hd.ext;simp only
    split
    ·exact Int.le_refl _
    ·rcases iv.2.2 with v|v<;>omega
   refine⟨fun c hc=>?_,fun he=>?_⟩
   ·rcases List.mem_cons.1 hc with e|hc
    ·rw[e];exact⟨nn,by show (aQ src k (o+(dj t).length) (h.ext (aS src o t).1.s (aS src o t).1.e) ts).h.s≤_;rw[j1];exact hs,j2⟩
    ·exact i1 c hc
   ·refine⟨?_,?_⟩
    ·show (aQ src k (o+(dj t).length) (h.ext (aS src o t).1.s (aS src o t).1.e) ts).h.s=h.s
     rw[j1,Fk he]
    ·have:h.e≤o:=by rcases iv.2.2 with v|v<;>omega
     show h.e≤(aQ src k (o+(dj t).length) (h.ext (aS src o t).1.s (aS src o t).1.e) ts).h.e
     omega
end
end Pm
end

section
namespace Pm
def Nd.UU:Nd→Int|.mk k _ _ s _ ns _=>kX k s ns
theorem qQ (k ns:Int)(loc:Bool):dO k ns loc=0↔dO k ns false=0:=by
 unfold dO
 by_cases c7:k=7
 ·simp[c7]
 ·simp only[if_neg c7]
  by_cases cn:ns<0
  ·simp[cn]
  ·simp only[if_neg cn]
   by_cases c13:k=13
   ·subst c13;cases loc<;>simp
   ·simp[c13]
mutual
def vn:Nd→List Nd
 | .mk k v x s e ns cs=>if dO k ns false=0 then BA cs else .mk k v x s e ns cs::BA cs
def BA:List Nd→List Nd
 | []=>[]
 | n::ns=>vn n++BA ns
end
theorem Fl (k v:Int)(x:Bytes)(s e ns:Int)(cs:List Nd):vn (.mk k v x s e ns cs)=if dO k ns false=0 then BA cs else .mk k v x s e ns cs::BA cs:=by rw[vn]
mutual
theorem BB (fl:Int→Bool):∀(base:Nat)(parent:Int)(loc:Bool)(n:Nd),(ew fl base parent loc n).map Sy.start=(vn n).map Nd.UU
 | base,parent,loc,.mk k v x s e ns cs=>by
  rw[ig,Fl]
  by_cases c:dO k ns loc=0
  ·rw[if_pos c,if_pos ((qQ k ns loc).1 c)];exact rT fl _ _ _ cs
  ·rw[if_neg c,if_neg (fun h=>c ((qQ k ns loc).2 h)),List.map_cons,List.map_cons,rT fl _ _ _ cs];rfl
theorem rT (fl:Int→Bool):∀(base:Nat)(parent:Int)(loc:Bool)(cs:List Nd),(cQ fl base parent loc cs).map Sy.start=(BA cs).map Nd.UU
 | base,parent,loc,[]=>by rw[cQ,BA];rfl
 | base,parent,loc,n::ns=>by rw[cQ,BA,List.map_append,List.map_append,BB fl _ _ _ n,rT fl _ _ _ ns]
end
theorem UV (fl:Int→Bool)(base:Nat)(parent:Int)(loc:Bool)(n:Nd):(ew fl base parent loc n).length=(vn n).length:=by
 have:=congrArg List.length (BB fl base parent loc n)
 rwa [List.length_map,List.length_map]at this
mutual
def KZ (st:Int):Nd→Option Nd
 | .mk k v x s e ns cs=>if dO k ns false≠0∧kX k s ns=st then some (.mk k v x s e ns cs) else vN st cs
def vN (st:Int):List Nd→Option Nd
 | []=>none
 | n::ns=>match KZ st n with
  | some m=>some m
  | none=>vN st ns
end
mutual
theorem K0 (st:Int):∀n:Nd,KZ st n=(vn n).find? fun m=>m.UU==st
 | .mk k v x s e ns cs=>by
  rw[KZ,Fl]
  by_cases c:dO k ns false=0
  ·rw[if_neg (fun h=>h.1 c),if_pos c];exact rU st cs
  ·rw[if_neg c,List.find?_cons]
   have e0:(Nd.mk k v x s e ns cs).UU=kX k s ns:=rfl
   rw[e0]
   by_cases d:kX k s ns=st
   ·rw[if_pos ⟨c,d⟩];simp[d]
   ·rw[if_neg (fun h=>d h.2)]
    have:(kX k s ns==st)=false:=by simpa using d
    rw[this];exact rU st cs
theorem rU (st:Int):∀cs:List Nd,vN st cs=(BA cs).find? fun m=>m.UU==st
 | []=>by rw[vN,BA];rfl
 | n::ns=>by
  rw[vN,BA,K0 st n,List.find?_append,rU st ns]
  cases(vn n).find? fun m=>m.UU==st<;>rfl
end
mutual
theorem RG:∀(n:Nd),rR n→∀m∈vn n,n.s≤m.s∧m.e≤n.e
 | .mk k v x s e ns cs,h=>by
  cases h with
  | mk _ _ _ _ _ _ _ h0 hs he hc =>
  rw[Fl]
  have r:=K1 cs hc
  intro m hm
  split at hm
  ·obtain⟨c,q1,q2,q3⟩:=r m hm
   exact⟨Int.le_trans (hs c q1) q2,Int.le_trans q3 (he c q1)⟩
  ·rcases List.mem_cons.1 hm with e0|hm
   ·rw[e0];exact⟨Int.le_refl _,Int.le_refl _⟩
   ·obtain⟨c,q1,q2,q3⟩:=r m hm
    exact⟨Int.le_trans (hs c q1) q2,Int.le_trans q3 (he c q1)⟩
theorem K1:∀(cs:List Nd),(∀c∈cs,rR c)→∀m∈BA cs,∃c∈cs,c.s≤m.s∧m.e≤c.e
 | [],_=>by rw[BA];intro m hm;cases hm
 | n::ns,h=>by
  rw[BA]
  intro m hm
  rcases List.mem_append.1 hm with hm|hm
  ·have:=RG n (h n (List.mem_cons_self ..)) m hm
   exact⟨n,List.mem_cons_self ..,this⟩
  ·obtain⟨c,q1,q2⟩:=K1 ns (fun c hc=>h c (List.mem_cons_of_mem _ hc)) m hm
   exact⟨c,List.mem_cons_of_mem _ q1,q2⟩
end
def rW (base:Nat)(parent:Int)(l:List Sy)(w:List Nd):Prop:=∀j y m,l[j]?=some y→w[j]?=some m→y.parent=parent∨∃p,p<j∧y.parent=((base+p:Nat):Int)∧∃u,w[p]?=some u∧u.s≤m.s∧m.e≤u.e
theorem rW.append {base:Nat}{parent:Int}{a b:List Sy}{v w:List Nd}(e:a.length=v.length)(h:rW base parent a v)(k:rW (base+a.length) parent b w):rW base parent (a++b) (v++w):=by
 intro j y m hj hm
 by_cases c:j<a.length
 ·rw[List.getElem?_append_left c]at hj
  rw[List.getElem?_append_left (by omega)]at hm
  rcases h j y m hj hm with q|⟨p,q1,q2,u,q3,q4⟩
  ·exact .inl q
  ·exact .inr ⟨p,q1,q2,u,by rw[List.getElem?_append_left (by omega)];exact q3,q4⟩
 ·rw[List.getElem?_append_right (by omega)]at hj hm
  rw[←e]at hm
  rcases k _ y m hj hm with q|⟨p,q1,q2,u,q3,q4⟩
  ·exact .inl q
  ·refine .inr ⟨a.length+p,by omega,by rw[q2];omega,u,?_,q4⟩
   rw[List.getElem?_append_right (by omega),←e,Nat.add_sub_cancel_left];exact q3
mutual
theorem zC (fl:Int→Bool):∀(base:Nat)(parent:Int)(loc:Bool)(n:Nd),rR n→rW base parent (ew fl base parent loc n) (vn n)
 | base,parent,loc,.mk k v x s e ns cs,h=>by
  have hin:=RG _ h
  cases h with
  | mk _ _ _ _ _ _ _ h0 hs he hc =>
  rw[ig]
  rw[Fl]at hin ⊢
  by_cases c:dO k ns loc=0
  ·have c':=(qQ k ns loc).1 c
   rw[if_pos c,if_pos c'];exact kZ fl base parent _ cs hc
  ·have c':¬dO k ns false=0:=fun h=>c ((qQ k ns loc).2 h)
   rw[if_neg c']at hin
   rw[if_neg c,if_neg c']
   intro j y m hj hm
   cases j with
   | zero=>simp at hj;subst hj;exact .inl rfl
   | succ j =>
    rw[List.getElem?_cons_succ]at hj hm
    have hmin:=hin m (List.mem_cons_of_mem _ (List.mem_of_getElem? hm))
    rcases kZ fl (base+1) _ _ cs hc j y m hj hm with q|⟨p,q1,q2,u,q3,q4⟩
    ·split at q
     ·exact .inr ⟨0,by omega,by rw[q];rfl,_,rfl,hmin⟩
     ·exact .inl q
    ·exact .inr ⟨p+1,by omega,by rw[q2];omega,u,by rw[List.getElem?_cons_succ];exact q3,q4⟩
theorem kZ (fl:Int→Bool):∀(base:Nat)(parent:Int)(loc:Bool)(cs:List Nd),(∀c∈cs,rR c)→rW base parent (cQ fl base parent loc cs) (BA cs)
 | base,parent,loc,[],_=>by rw[cQ,BA];intro j y m hj;simp at hj
 | base,parent,loc,n::ns,h=>by
  rw[cQ,BA]
  exact(zC fl base parent loc n (h n (List.mem_cons_self ..))).append (UV fl base parent loc n) (kZ fl _ parent loc ns (fun c hc=>h c (List.mem_cons_of_mem _ hc)))
end
end Pm
end

section
namespace Pm
structure Sym where
 (kind module start parent:Int)(name:Bytes)(Wg:Bool)
 deriving DecidableEq,Inhabited
def Sy.at (i:Nat)(y:Sy):Sym:=⟨y.kind,i,y.start,y.parent,y.name,y.Wg⟩
def gb (fl:Int→Bool)(i base:Nat)(name:Bytes)(t:Nd):List Sym:=⟨1,i,-1,-1,name,true⟩::(ew fl (base+1) base false t).map (Sy.at i)
def Cm (fl:Int→Bool):Nat→Nat→List (Bytes×Nd)→List Sym
 | _,_,[]=>[]
 | i,base,m::r=>gb fl i base m.1 m.2++Cm fl (i+1) (base+(gb fl i base m.1 m.2).length) r
def lG:List Sym:=[[105,110,116],[98,111,111,108],[115,116,114,105,110,103],[83,101,108,102]].map fun n=>⟨15,-1,-1,-1,n,false⟩
def rX (fl:Int→Bool)(ms:List (Bytes×Nd)):List Sym:=lG++Cm fl 0 4 ms
theorem sH {fl:Int→Bool}{i base:Nat}{name:Bytes}{t:Nd}:∀s∈gb fl i base name t,s.module=i:=by
 intro s hs
 rcases List.mem_cons.1 hs with e|hs
 ·rw[e]
 ·obtain⟨y,_,rfl⟩:=List.mem_map.1 hs;rfl
theorem F5 (fl:Int→Bool):∀(ms:List (Bytes×Nd))(i base:Nat),∀s∈Cm fl i base ms,(i:Int)≤s.module
 | [],_,_=>by rw[Cm];intro s hs;cases hs
 | m::r,i,base=>by
  rw[Cm]
  intro s hs
  rcases List.mem_append.1 hs with hs|hs
  ·rw[sH s hs];exact Int.le_refl _
  ·have:=F5 fl r (i+1) _ s hs;omega
def zF (l:List Sym):Prop:=∀(j k:Nat)(a b:Sym),l[j]?=some a→l[k]?=some b→0≤a.start→a.module=b.module→a.start=b.start→j=k
theorem zF.append {a b:List Sym}(h:zF a)(k:zF b)(d:∀x∈a,∀y∈b,x.module=y.module→x.start=y.start→x.start<0):zF (a++b):=by
 intro i j x y hx hy h0 hm hs
 by_cases c1:i<a.length<;>by_cases c2:j<a.length
 ·rw[List.getElem?_append_left c1]at hx
  rw[List.getElem?_append_left c2]at hy
  exact h i j x y hx hy h0 hm hs
 ·rw[List.getElem?_append_left c1]at hx
  rw[List.getElem?_append_right (by omega)]at hy
  have:=d x (List.mem_of_getElem? hx) y (List.mem_of_getElem? hy) hm hs
  omega
 ·rw[List.getElem?_append_right (by omega)]at hx
  rw[List.getElem?_append_left c2]at hy
  have:=d y (List.mem_of_getElem? hy) x (List.mem_of_getElem? hx) hm.symm hs.symm
  omega
 ·rw[List.getElem?_append_right (by omega)]at hx hy
  have:=k _ _ x y hx hy h0 hm hs
  omega
end Pm
end

section
namespace Pm
theorem Ht (k ns:Int)(loc:Bool)(h:dO k ns loc≠0):dO k ns loc≠1∧dO k ns loc≠15:=by
 unfold dO at *
 by_cases c7:k=7
 ·simp[c7]
 ·simp only[if_neg c7]at h ⊢
  by_cases cn:ns<0
  ·simp[cn]at h
  ·simp only[if_neg cn]at h ⊢
   repeat' split
   all_goals first
    | (constructor<;>omega)
    | (constructor<;>decide)
mutual
theorem DI (fl:Int→Bool):∀(base:Nat)(parent:Int)(loc:Bool)(n:Nd),∀y∈ew fl base parent loc n,y.kind≠1∧y.kind≠15
 | base,parent,loc,.mk k v x s e ns cs=>by
  rw[ig]
  split
  ·exact nA fl _ _ _ cs
  ·rename_i c
   intro y hy
   rcases List.mem_cons.1 hy with e0|hy
   ·rw[e0];exact Ht k ns loc c
   ·exact nA fl _ _ _ cs y hy
theorem nA (fl:Int→Bool):∀(base:Nat)(parent:Int)(loc:Bool)(cs:List Nd),∀y∈cQ fl base parent loc cs,y.kind≠1∧y.kind≠15
 | base,parent,loc,[]=>by rw[cQ];intro y hy;cases hy
 | base,parent,loc,n::ns=>by
  rw[cQ]
  intro y hy
  rcases List.mem_append.1 hy with hy|hy
  ·exact DI fl _ _ _ n y hy
  ·exact nA fl _ _ _ ns y hy
end
end Pm
end

section
namespace Pm
def zD (first:Int)(s:Sym):Sym:=if 0≤s.parent then { s with parent:=s.parent-first } else s
def nB (l:List Sym)(m first:Int):List Sym:=(l.filter fun s=>s.module==m).map (zD first)
theorem Do (fl:Int→Bool)(i base:Nat)(name:Bytes)(t:Nd):(gb fl i base name t).map (zD base)=gb fl i 0 name t:=by
 unfold gb
 have e:=KU fl base 1 0 false t
 rw[show 1+base=base+1 by omega,Int.zero_add]at e
 rw[List.map_cons,e,List.map_map,List.map_map]
 congr 1
 refine List.map_congr_left fun y hy=>?_
 obtain⟨j,hj⟩:=List.mem_iff_getElem?.1 hy
 have hp:0≤y.parent:=by
  rcases Hq fl 1 0 false t j y hj with q|⟨q,_⟩<;>omega
 show zD base (Sy.at i (Sy.sh base y))=Sy.at i y
 unfold zD
 have h1:0≤(Sy.at i (Sy.sh base y)).parent:=by show 0≤y.parent+(base:Int);omega
 rw[if_pos h1]
 show Sym.mk _ _ _ (y.parent+base-base) _ _=_
 rw[Int.add_sub_cancel];rfl
theorem zy {l:List Sym}{m:Int}(h:∀s∈l,s.module≠m):l.filter (fun s=>s.module==m)=[] :=
 List.filter_eq_nil_iff.2 fun s hs=>by simpa using h s hs
theorem KW {l:List Sym}{m:Int}(h:∀s∈l,s.module=m):l.filter (fun s=>s.module==m)=l :=
 List.filter_eq_self.2 fun s hs=>by simpa using h s hs
def nG (fl:Int→Bool):Nat→Nat→List (Bytes×Nd)→Nat→Nat
 | _,base,[],_=>base
 | i,base,m::r,j=>if j=i then base else nG fl (i+1) (base+(gb fl i base m.1 m.2).length) r j
theorem PM (fl:Int→Bool):∀(ms:List (Bytes×Nd))(i base j:Nat)(m:Bytes×Nd),ms[j]?=some m→nB (Cm fl i base ms) ((i+j:Nat):Int) (nG fl i base ms (i+j))=gb fl (i+j) 0 m.1 m.2
 | [],i,base,j,m,h=>by simp at h
 | x::r,i,base,0,m,h=>by
  simp at h;subst h
  simp only[Nat.add_zero]
  rw[Cm,nG,if_pos rfl]
  unfold nB
  rw[List.filter_append,KW (m:=(i:Int)) (fun s hs=>sH s hs),zy (m:=(i:Int)) (fun s hs=>by have:=F5 fl r (i+1) _ s hs;omega),List.append_nil]
  exact Do fl i base x.1 x.2
 | x::r,i,base,j+1,m,h=>by
  rw[List.getElem?_cons_succ]at h
  rw[Cm,nG,if_neg (by omega)]
  have ih:=PM fl r (i+1) (base+(gb fl i base x.1 x.2).length) j m h
  have e:i+1+j=i+(j+1):=by omega
  rw[e]at ih
  unfold nB at *
  rw[List.filter_append,zy (fun s hs=>by rw[sH s hs];omega),List.nil_append]
  exact ih
theorem RM (fl:Int→Bool){ms:List (Bytes×Nd)}{j:Nat}{m:Bytes×Nd}(h:ms[j]?=some m):nB (rX fl ms) (j:Int) (nG fl 0 4 ms j)=gb fl j 0 m.1 m.2:=by
 have g:=PM fl ms 0 4 j m h
 rw[Nat.zero_add]at g
 unfold nB rX at *
 rw[List.filter_append,zy (fun s hs=>by simp[lG]at hs;rcases hs with rfl|rfl|rfl|rfl<;>(show (-1:Int)≠j;omega)),List.nil_append]
 exact g
theorem DQ (fl:Int→Bool):∀(ms:List (Bytes×Nd))(i:Nat)(pre:List Sym)(j:Nat)(m:Bytes×Nd),ms[j]?=some m→(∀s∈pre,s.module≠((i+j:Nat):Int)) →
  ∃k,nG fl i pre.length ms (i+j)=k∧(pre++Cm fl i pre.length ms)[k]?=some ⟨1,((i+j:Nat):Int),-1,-1,m.1,true⟩∧∀p a,p<k→(pre++Cm fl i pre.length ms)[p]?=some a→a.module≠((i+j:Nat):Int)
 | [],i,pre,j,m,h,_=>by simp at h
 | x::r,i,pre,0,m,h,hp=>by
  simp at h;subst h
  refine⟨pre.length,by rw[nG,if_pos (by omega)],?_,fun p a hpk ha=>?_⟩
  ·rw[Cm,List.getElem?_append_right (Nat.le_refl _),Nat.sub_self];rfl
  ·rw[List.getElem?_append_left hpk]at ha;exact hp a (List.mem_of_getElem? ha)
 | x::r,i,pre,j+1,m,h,hp=>by
  rw[List.getElem?_cons_succ]at h
  have e:pre.length+(gb fl i pre.length x.1 x.2).length=(pre++gb fl i pre.length x.1 x.2).length:=by rw[List.length_append]
  have e1:i+1+j=i+(j+1):=by omega
  obtain⟨k,h1,h2,h3⟩:=DQ fl r (i+1) (pre++gb fl i pre.length x.1 x.2) j m h (fun s hs=>by
   rw[e1]
   rcases List.mem_append.1 hs with hs|hs
   ·exact hp s hs
   ·rw[sH s hs];omega)
  rw[e1]at h1 h2 h3
  rw[List.append_assoc]at h2 h3
  refine⟨k,?_,?_,?_⟩
  ·rw[nG,if_neg (by omega),e];exact h1
  ·rw[Cm,e];exact h2
  ·rw[Cm,e];exact h3
end Pm
end

section
namespace Pm
abbrev tE:Tok:=(100,[])
abbrev tC:Tok:=(104,C7)
abbrev tK:Tok:=(103,[107])
abbrev tS:Tok:=(107,fk)
abbrev tP:Tok:=(104,lY)
def Ins (c:mO):Prop:=(c tC tK tS=c tE tE tE)∧(∀a,eN [lY] a=false→c a tC tK=c a tE tE)∧∀a b,c a b tC=c a b tE
def Lp (s:List Tok):Prop:=∀t,s.getLast?=some t→eN [lY] t=false
theorem Lp.drop {s:List Tok}(h:Lp s)(k:Nat):Lp (s.drop k):=by
 intro t ht
 rw[List.getLast?_drop]at ht
 split at ht
 ·cases ht
 ·exact h t ht
theorem Ins.ev {c:mO}(i:Ins c){s:List Tok}(h:Lp s)(w:List Tok):Z5 c (s++tC::tK::tS::w)=Z5 c s:=by
 match s,h with
 | [],h=>exact i.1
 | [a],h=>exact i.2.1 a (h a rfl)
 | [a,b],h=>exact i.2.2 a b
 | a::b::c::r,h=>rfl
section
variable {t v:List Tok}(ht:io t=[]){w:List Tok}(hv:sg v=tC::tK::tS::w)
include ht hv
end
end Pm
end

section
namespace Pm
section
variable {t v:List Tok}(ht:io t=[]){w:List Tok}(hv:sg v=tC::tK::tS::w)
include ht hv
end
end Pm
end

section
namespace Pm
end Pm
end

section
namespace Pm
end Pm
namespace Pm
end Pm
end

section
namespace ParF
open Go Go.Abs Go.Proofs Pm
theorem Hv {ts:List Tok}{es:List az}{t':List Tok}(h:oH ts es t'):∀{es2:List az}{t2:List Tok},oH ts es2 t2→es=es2∧t'=t2:=by
 induction h with
 | done ts hd =>
  intro es2 t2 h2
  cases h2 with
  | done=>exact⟨rfl,rfl⟩
  | step h=>exact absurd hd h
 | step h hi hr ih =>
  intro es2 t2 h2
  cases h2 with
  | done _ hd=>exact absurd hd h
  | step h3 hi3 hr3 =>
   obtain⟨-,rfl,e⟩:=na hi hi3
   obtain⟨rfl,rfl⟩:=ih hr3
   cases e
   exact⟨rfl,rfl⟩
end ParF
end

section
namespace ParF
open Go Go.Abs Go.Proofs Pm
end ParF
end
