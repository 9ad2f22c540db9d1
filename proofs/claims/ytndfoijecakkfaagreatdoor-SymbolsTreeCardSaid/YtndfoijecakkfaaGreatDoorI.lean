/- SymT, SymU, SymY, SymZ, SymL, SymM, SymO, AstX, AstY, AstZ, SymW, AstQ, SymX -/
import Derived.Test.YtndfoijecakkfaaGreatDoorG
import Derived.Test.YtndfoijecakkfaaGreatDoorP
import Derived.Test.YtndfoijecakkfaaGreatDoorH
set_option linter.all false
set_option maxRecDepth 100000

section
namespace Pm
structure Sy where
 (kind start parent:Int)(name:Bytes)(Wg:Bool)
 deriving DecidableEq,Inhabited
def dO (k ns:Int)(loc:Bool):Int :=
 if k=7 then 6 else if ns<0 then 0 else if(k=13∧loc=true)∨k=44 then 14 else if 3≤k∧k≤9 then k-3+2
 else if k=11 then 9 else if k=13 then 10 else if k=14 then 11 else if k=15 then 12 else if k=16 then 13 else 0
def kX (k s ns:Int):Int:=if k=7 then s else ns
def iI (kd:Int):Bool:=decide (2≤kd)&&decide (kd≤8)
def nz (k:Int)(loc:Bool):Bool:=(decide (k=12)&&loc) || decide (k=9) || decide (k=38)
mutual
def ew (fl:Int→Bool)(base:Nat)(parent:Int)(loc:Bool):Nd→List Sy
 | .mk k v x s _ ns cs =>
  if dO k ns loc=0 then cQ fl base parent (nz k loc) cs
  else⟨dO k ns loc,kX k s ns,parent,x,decide (k≤9)&&fl v⟩::cQ fl (base+1) (if iI (dO k ns loc)=true then(base:Int) else parent) (nz k loc) cs
def cQ (fl:Int→Bool)(base:Nat)(parent:Int)(loc:Bool):List Nd→List Sy
 | []=>[]
 | n::ns=>ew fl base parent loc n++cQ fl (base+(ew fl base parent loc n).length) parent loc ns
end
theorem ig (fl:Int→Bool)(base:Nat)(parent:Int)(loc:Bool)(k v:Int)(x:Bytes)(s e ns:Int)(cs:List Nd):ew fl base parent loc (.mk k v x s e ns cs) =
  if dO k ns loc=0 then cQ fl base parent (nz k loc) cs
  else⟨dO k ns loc,kX k s ns,parent,x,decide (k≤9)&&fl v⟩::cQ fl (base+1) (if iI (dO k ns loc)=true then(base:Int) else parent) (nz k loc) cs:=by rw[ew]
def Sy.sh (d:Int)(y:Sy):Sy:={ y with parent:=y.parent+d }
mutual
theorem KU (fl:Int→Bool)(d:Nat):∀(base:Nat)(parent:Int)(loc:Bool)(n:Nd),ew fl (base+d) (parent+d) loc n=(ew fl base parent loc n).map (Sy.sh d)
 | base,parent,loc,.mk k v x s e ns cs=>by
  rw[ig,ig]
  split
  ·exact rQ fl d base parent _ cs
  ·rw[List.map_cons]
   have e1:base+d+1=base+1+d:=by omega
   rw[e1]
   have e2:(if iI (dO k ns loc)=true then((base+d:Nat):Int) else parent+d)=(if iI (dO k ns loc)=true then(base:Int) else parent)+d:=by split<;>simp
   rw[e2,rQ fl d (base+1) _ _ cs];rfl
theorem rQ (fl:Int→Bool)(d:Nat):∀(base:Nat)(parent:Int)(loc:Bool)(cs:List Nd),cQ fl (base+d) (parent+d) loc cs=(cQ fl base parent loc cs).map (Sy.sh d)
 | base,parent,loc,[]=>by rw[cQ,cQ];rfl
 | base,parent,loc,n::ns=>by
  rw[cQ,cQ,KU fl d base parent loc n,List.map_append,List.length_map]
  have e1:base+d+(ew fl base parent loc n).length=base+(ew fl base parent loc n).length+d:=by omega
  rw[e1,rQ fl d _ parent loc ns]
end
def RE (base:Nat)(parent:Int)(l:List Sy):Prop:=∀j y,l[j]?=some y→y.parent=parent∨((base:Int)≤y.parent∧y.parent<((base+j:Nat):Int))
theorem RE.nil (base:Nat)(parent:Int):RE base parent []:=fun j y h=>by simp at h
theorem RE.append {base:Nat}{parent:Int}{a b:List Sy}(h:RE base parent a)(k:RE (base+a.length) parent b):RE base parent (a++b):=by
 intro j y hj
 by_cases c:j<a.length
 ·rw[List.getElem?_append_left c]at hj;exact h j y hj
 ·rw[List.getElem?_append_right (by omega)]at hj
  rcases k _ _ hj with e|⟨e1,e2⟩
  ·exact .inl e
  ·exact .inr ⟨by omega,by omega⟩
mutual
theorem Hq (fl:Int→Bool):∀(base:Nat)(parent:Int)(loc:Bool)(n:Nd),RE base parent (ew fl base parent loc n)
 | base,parent,loc,.mk k v x s e ns cs=>by
  rw[ig]
  split
  ·exact po fl base parent _ cs
  ·intro j y hj
   cases j with
   | zero=>simp at hj;subst hj;exact .inl rfl
   | succ j =>
    rw[List.getElem?_cons_succ]at hj
    rcases po fl (base+1) _ _ cs j y hj with e|⟨e1,e2⟩
    ·split at e
     ·exact .inr ⟨by omega,by omega⟩
     ·exact .inl e
    ·exact .inr ⟨by omega,by omega⟩
theorem po (fl:Int→Bool):∀(base:Nat)(parent:Int)(loc:Bool)(cs:List Nd),RE base parent (cQ fl base parent loc cs)
 | base,parent,loc,[]=>by rw[cQ];exact .nil _ _
 | base,parent,loc,n::ns=>by rw[cQ];exact(Hq fl base parent loc n).append (po fl _ parent loc ns)
end
end Pm
end

section
namespace Pm
mutual
def Ab:Nd→List Int
 | .mk k _ _ s _ ns cs=>(if k=7 then[s] else if ns<0 then[] else[ns])++kY cs
def kY:List Nd→List Int
 | []=>[]
 | n::ns=>Ab n++kY ns
end
theorem ml (k v:Int)(x:Bytes)(s e ns:Int)(cs:List Nd):Ab (.mk k v x s e ns cs)=(if k=7 then[s] else if ns<0 then[] else[ns])++kY cs:=by rw[Ab]
def Sep (a b:Nat)(l:List Int):Prop:=(∀d∈l,(a:Int)≤d∧d<(b:Int))∧l.Nodup
theorem Sep.nil (a b:Nat):Sep a b []:=⟨fun d h=>(by cases h),List.nodup_nil⟩
theorem Sep.wide {a b a' b':Nat}{l:List Int}(h:Sep a b l)(h1:a'≤a)(h2:b≤b'):Sep a' b' l:=⟨fun d hd=>by have:=h.1 d hd;omega,h.2⟩
theorem Sep.append {a b c:Nat}{l m:List Int}(h:Sep a b l)(k:Sep b c m)(h1:a≤b)(h2:b≤c):Sep a c (l++m):=by
 refine⟨fun d hd=>?_,List.nodup_append.2 ⟨h.2,k.2,fun x hx y hy e=>?_⟩⟩
 ·rcases List.mem_append.1 hd with hd|hd
  ·have:=h.1 d hd;omega
  ·have:=k.1 d hd;omega
 ·have:=h.1 x hx;have:=k.1 y hy;omega
theorem Sep.cons {a b:Nat}{l:List Int}{d:Int}(h:Sep a b l)(h1:(a:Int)≤d)(h2:d<(b:Int))(h3:d∉l):Sep a b (d::l) :=
 ⟨fun x hx=>(List.mem_cons.1 hx).elim (fun e=>by subst e;exact⟨h1,h2⟩) (fun hx=>h.1 x hx),List.nodup_cons.2 ⟨h3,h.2⟩⟩
inductive Hr:az→Prop
 | mk (k:Nat) (x:Bytes) (cs:List az) (h7:k=7→∃(A:List Tok) (t:Tok) (r:List az),cs=A.map cr++cr t::r∧(∀a∈A,dq a=true)∧dq t=false∧100≤t.1∧(∀a∈A,100≤a.1)∧t.2≠[])
   (h60:k=60→∀t∈cs,t.kind≠7)(hi:∀t∈cs,t.kind=103→t.text≠[])(hc:∀t∈cs,t.kind<100→Hr t):Hr (.mk k x cs)
theorem Fi (k:Int)(h:Hd)(c:Nat)(x:Bytes)(o:Int):(cP k h c x o).1.ns=h.ns∨(c=103∧h.ns<0∧(cP k h c x o).1.ns=o):=by
 unfold cP
 by_cases c1:c=101∨c=102
 ·rw[if_pos c1];exact .inl rfl
 ·rw[if_neg c1]
  by_cases c2:c=108
  ·rw[if_pos c2];split<;>exact .inl rfl
  ·rw[if_neg c2]
   by_cases c3:c=103
   ·rw[if_pos c3]
    unfold dS
    simp only[Hd.ext]
    split
    ·rename_i e
     rw[Bool.and_eq_true,decide_eq_true_eq]at e
     exact .inr ⟨c3,e.2,rfl⟩
    ·exact .inl rfl
   ·rw[if_neg c3]
    by_cases c4:c=105
    ·rw[if_pos c4];exact .inl rfl
    ·rw[if_neg c4]
     by_cases c5:c=106
     ·rw[if_pos c5];exact .inl rfl
     ·rw[if_neg c5];exact .inl (jb k h x).2.2
def UT (o n:Nat)(h:Hd)(z:Kd):Prop:=Sep o (o+n) (kY z.ns)∧(z.h.ns=h.ns∨(h.ns<0∧(o:Int)≤z.h.ns∧z.h.ns<((o+n:Nat):Int)∧z.h.ns∉kY z.ns))
def Nd.kd:Nd→Int|.mk k _ _ _ _ _ _=>k
theorem Nd.KV (a b:Int)(n:Nd):(n.place a b).kd=n.kd:=by cases n;rfl
theorem By (a b:Int)(n:Nd)(h:n.kd≠7):Ab (n.place a b)=Ab n:=by
 cases n with
 | mk k v x s e ns cs =>
  have h:k≠7:=h
  rw[Nd.place,ml,ml,if_neg h,if_neg h]
mutual
theorem Fj (src:Bytes):∀(o:Nat)(t:az),gr t=true→Hr t→t.kind<100→t.kind≠7→(aS src o t).1.kd≠7
 | o,.mk k x cs,p6,hd,hk,hn=>by
  rw[gr,Bool.and_eq_true]at p6
  cases hd with
  | mk _ _ _ h7 h60 hi hc =>
  rw[eX]
  unfold gP
  by_cases c60:(k:Int)=60
  ·simp only
   rw[if_pos c60]
   rw[Nd.KV]
   have hk60:k=60:=by omega
   have e:=p6.1
   rw[hk60]at e
   have hne:=nV src k o (h0 o) cs (by simpa using e)
   have hall:=ue src k o (h0 o) cs p6.2 hc (h60 hk60)
   cases hz:(aQ src k o (h0 o) cs).ns with
   | nil=>exact absurd hz hne
   | cons a r=>rw[hz]at hall;exact hall a (List.mem_cons_self ..)
  ·simp only
   rw[if_neg c60]
   by_cases c46:(k:Int)=46
   ·rw[if_pos c46];show (46:Int)≠7;decide
   ·rw[if_neg c46]
    show (k:Int)≠7
    have:k≠7:=hn
    omega
theorem ue (src:Bytes)(k:Int):∀(o:Nat)(h:Hd)(cs:List az),cc cs=true→(∀t∈cs,t.kind<100→Hr t)→(∀t∈cs,t.kind≠7)→∀n∈(aQ src k o h cs).ns,n.kd≠7
 | o,h,[],_,_,_=>by rw[db];intro n hn;cases hn
 | o,h,t::ts,p6,hc,h7=>by
  rw[cc,Bool.and_eq_true]at p6
  have hc':∀u∈ts,u.kind<100→Hr u:=fun u hu=>hc u (List.mem_cons_of_mem _ hu)
  have h7':∀u∈ts,u.kind≠7:=fun u hu=>h7 u (List.mem_cons_of_mem _ hu)
  by_cases c:100≤t.kind
  ·rw[cA _ _ _ _ _ _ c]
   exact ue src k _ _ ts p6.2 hc' h7'
  ·rw[cS _ _ _ _ _ _ c]
   intro n hn
   rcases List.mem_cons.1 hn with e|hn
   ·rw[e];exact Fj src o t p6.1 (hc t (List.mem_cons_self ..) (by omega)) (by omega) (h7 t (List.mem_cons_self ..))
   ·exact ue src k _ _ ts p6.2 hc' h7' n hn
end
theorem Fk {h:Hd}(he:0≤h.e)(a b:Int):(h.ext a b).s=h.s:=by
 unfold Hd.ext;simp only;rw[if_neg (by omega)]
theorem KX {k:Int}{h:Hd}{c:Nat}{x:Bytes}{o:Int}(he:0≤h.e)(ho:0≤o):(cP k h c x o).1.s=h.s∧0≤(cP k h c x o).1.e:=by
 have key:∀h':Hd,h'.s=h.s→h'.e=h.e→(h'.ext o (o+x.length)).s=h.s∧0≤(h'.ext o (o+x.length)).e:=fun h' e1 e2=>⟨by rw[Fk (by rw[e2];exact he),e1],by show (0:Int)≤o+x.length;omega⟩
 unfold cP
 repeat' split
 ·exact⟨rfl,he⟩
 ·exact⟨rfl,he⟩
 ·exact key _ rfl rfl
 ·exact key _ (iG ..).1 (iG ..).2
 ·exact key _ rfl rfl
 ·exact key _ rfl rfl
 ·exact key _ (jb ..).1 (jb ..).2.1
theorem DH (src:Bytes)(k:Int):∀(o:Nat)(h:Hd)(cs:List az),mP cs=true→0≤h.e→(aQ src k o h cs).h.s=h.s
 | o,h,[],_,he=>by rw[db]
 | o,h,t::ts,ok,he=>by
  rw[fA,Bool.and_eq_true]at ok
  by_cases c:100≤t.kind
  ·rw[cA _ _ _ _ _ _ c]
   obtain⟨e1,e2⟩:=KX (k:=k) (c:=t.kind) (x:=t.text) (o:=o) he (by omega)
   show (aQ src k (o+t.text.length) (cP k h t.kind t.text o).1 ts).h.s=_
   rw[DH src k _ _ ts ok.2 e2,e1]
  ·rw[cS _ _ _ _ _ _ c]
   have r:=kO src o t ok.1
   show (aQ src k (o+(dj t).length) (h.ext (aS src o t).1.s (aS src o t).1.e) ts).h.s=_
   rw[DH src k _ _ ts ok.2 (by show (0:Int)≤(aS src o t).1.e;omega),Fk he]
theorem Hs {k:Int}{h:Hd}{c:Nat}{x:Bytes}{o:Int}(he:h.e<0)(ho:0≤o)(hc:¬(c=101∨c=102))(hx:x≠[]):(cP k h c x o).1.s=o∧0≤(cP k h c x o).1.e:=by
 have key:∀h':Hd,h'.e=h.e→(h'.ext o (o+x.length)).s=o∧0≤(h'.ext o (o+x.length)).e:=fun h' e2=>⟨by unfold Hd.ext;simp only;rw[if_pos (by omega)],by show (0:Int)≤o+x.length;omega⟩
 unfold cP
 rw[if_neg hc]
 by_cases c2:c=108
 ·rw[if_pos c2,if_neg hx];exact key _ rfl
 ·rw[if_neg c2]
  repeat' split
  ·exact key _ (iG ..).2
  ·exact key _ rfl
  ·exact key _ rfl
  ·exact key _ (jb ..).2.1
theorem xR (src:Bytes)(k:Int)(t:Tok)(r:List az)(ht:dq t=false)(h1:100≤t.1)(h2:t.2≠[])(okr:mP r=true):∀(A:List Tok)(o:Nat)(h:Hd),(∀a∈A,dq a=true)→(∀a∈A,100≤a.1)→h.e<0 →
  (aQ src k o h (A.map cr++cr t::r)).h.s=((o+(j7 A).length:Nat):Int)∧∃h',(aQ src k o h (A.map cr++cr t::r)).ns=(aQ src k (o+(j7 A).length+t.2.length) h' r).ns
 | [],o,h,_,_,he=>by
  have c:100≤(cr t).kind:=h1
  have htr:¬((cr t).kind=101∨(cr t).kind=102):=by
   have:¬(t.1=101∨t.1=102):=by simpa[dq] using ht
   exact this
  obtain⟨e1,e2⟩:=Hs (k:=k) (c:=(cr t).kind) (x:=(cr t).text) (o:=o) he (by omega) htr h2
  rw[List.map_nil,List.nil_append,cA _ _ _ _ _ _ c]
  refine⟨?_,_,rfl⟩
  show (aQ src k _ _ r).h.s=_
  rw[DH src k _ _ r okr e2,e1];rfl
 | a::A,o,h,hA,hA',he=>by
  have c:100≤(cr a).kind:=hA' a (List.mem_cons_self ..)
  have ha:(cr a).kind=101∨(cr a).kind=102:=by
   have h2:a.1=101∨a.1=102:=by simpa[dq] using hA a (List.mem_cons_self ..)
   exact h2
  rw[List.map_cons,List.cons_append,cA _ _ _ _ _ _ c]
  have e:(cP k h (cr a).kind (cr a).text o).1=h:=by unfold cP;rw[if_pos ha]
  have ih:=xR src k t r ht h1 h2 okr A (o+(cr a).text.length) h (fun x hx=>hA x (List.mem_cons_of_mem _ hx)) (fun x hx=>hA' x (List.mem_cons_of_mem _ hx)) he
  have hl:(j7 (a::A)).length=(cr a).text.length+(j7 A).length:=by rw[j7,List.length_append];rfl
  rw[hl,←Nat.add_assoc,e]
  exact ih
theorem zB (a b:Int)(n:Nd):∀d∈Ab (n.place a b),d=a∨d∈Ab n:=by
 cases n with
 | mk k v x s e ns cs =>
  intro d hd
  rw[Nd.place,ml]at hd
  rw[ml]
  rcases List.mem_append.1 hd with hd|hd
  ·by_cases c:k=7
   ·rw[if_pos c]at hd;exact .inl (List.mem_singleton.1 hd)
   ·rw[if_neg c]at hd ⊢;exact .inr (List.mem_append_left _ hd)
  ·exact .inr (List.mem_append_right _ hd)
mutual
theorem PK (src:Bytes):∀(o:Nat)(t:az),wv t=true→gr t=true→∀d∈Ab (aS src o t).1,(o:Int)≤d
 | o,.mk k x cs,h,p6=>by
  obtain⟨-,h2,h3⟩:=km k x cs h
  rw[gr,Bool.and_eq_true]at p6
  obtain⟨i1,i2⟩:=uf src k o (h0 o) cs h3 p6.2
  have iv:=(qJ src k o o (h0 o) cs h3 (Ki o)).1
  rw[eX]
  unfold gP
  by_cases c60:(k:Int)=60
  ·simp only
   rw[if_pos c60]
   have hk60:k=60:=by omega
   have e:=p6.1
   rw[hk60]at e
   have hne:=nV src k o (h0 o) cs (by simpa using e)
   cases hz:(aQ src k o (h0 o) cs).ns with
   | nil=>exact absurd hz hne
   | cons a r =>
    intro d hd
    rcases zB _ _ _ d hd with e|hd
    ·rw[e];exact iv
    ·rw[hz,kY]at i1;exact i1 d (List.mem_append_left _ hd)
  ·simp only
   rw[if_neg c60]
   by_cases c46:(k:Int)=46
   ·rw[if_pos c46]
    intro d hd
    have hd:d∈Ab (.mk 46 0 _ _ _ (-1) []):=hd
    rw[ml,kY]at hd
    simp at hd
   ·rw[if_neg c46]
    intro d hd
    have hd:d∈Ab (.mk k _ _ _ _ _ _):=hd
    rw[ml]at hd
    rcases List.mem_append.1 hd with hd|hd
    ·split at hd
     ·rw[List.mem_singleton.1 hd];exact iv
     ·split at hd
      ·cases hd
      ·rename_i c7 cn
       rw[List.mem_singleton.1 hd]
       rcases i2 with e|e
       ·exact absurd (by rw[e];show (-1:Int)<0;decide) cn
       ·exact e
    ·exact i1 d hd
theorem uf (src:Bytes)(k:Int):∀(o:Nat)(h:Hd)(cs:List az),mP cs=true→cc cs=true→(∀d∈kY (aQ src k o h cs).ns,(o:Int)≤d)∧((aQ src k o h cs).h.ns=h.ns∨(o:Int)≤(aQ src k o h cs).h.ns)
 | o,h,[],_,_=>by rw[db];exact⟨fun d hd=>by simp[kY]at hd,.inl rfl⟩
 | o,h,t::ts,ok,p6=>by
  rw[fA,Bool.and_eq_true]at ok
  rw[cc,Bool.and_eq_true]at p6
  by_cases c:100≤t.kind
  ·rw[cA _ _ _ _ _ _ c]
   obtain⟨i1,i2⟩:=uf src k (o+t.text.length) (cP k h t.kind t.text o).1 ts ok.2 p6.2
   refine⟨fun d hd=>by have:=i1 d hd;omega,?_⟩
   show (aQ src k (o+t.text.length) (cP k h t.kind t.text o).1 ts).h.ns=h.ns∨(o:Int)≤(aQ src k (o+t.text.length) (cP k h t.kind t.text o).1 ts).h.ns
   rcases i2 with e|e
   ·rcases Fi k h t.kind t.text o with f|⟨-,-,f⟩
    ·exact .inl (e.trans f)
    ·exact .inr (by rw[e,f];exact Int.le_refl _)
   ·exact .inr (by omega)
  ·rw[cS _ _ _ _ _ _ c]
   obtain⟨i1,i2⟩:=uf src k (o+(dj t).length) (h.ext (aS src o t).1.s (aS src o t).1.e) ts ok.2 p6.2
   have j:=PK src o t ok.1 p6.1
   refine⟨fun d hd=>?_,?_⟩
   ·have hd:d∈kY (_::_):=hd
    rw[kY]at hd
    rcases List.mem_append.1 hd with hd|hd
    ·exact j d hd
    ·have:=i1 d hd;omega
   ·show (aQ src k (o+(dj t).length) (h.ext (aS src o t).1.s (aS src o t).1.e) ts).h.ns=h.ns∨(o:Int)≤(aQ src k (o+(dj t).length) (h.ext (aS src o t).1.s (aS src o t).1.e) ts).h.ns
    rcases i2 with e|e
    ·exact .inl e
    ·exact .inr (by omega)
end
mutual
theorem Bz (src:Bytes):∀(o:Nat)(t:az),wv t=true→gr t=true→Hr t→t.kind<100→Sep o (o+(dj t).length) (Ab (aS src o t).1)
 | o,.mk k x cs,h,p6,hd,hk=>by
  obtain⟨-,h2,h3⟩:=km k x cs h
  have hx:=h2 hk
  subst hx
  rw[iC]
  rw[gr,Bool.and_eq_true]at p6
  cases hd with
  | mk _ _ _ h7 h60 hi hc =>
  have i:=vM src k o (h0 o) cs h3 p6.2 hi hc
  obtain⟨i1,i2⟩:=i
  rw[eX]
  unfold gP
  by_cases c60:(k:Int)=60
  ·simp only
   rw[if_pos c60]
   have hk60:k=60:=by omega
   have e:=p6.1
   rw[hk60]at e
   have hne:=nV src k o (h0 o) cs (by simpa using e)
   have hall:=ue src k o (h0 o) cs p6.2 hc (h60 hk60)
   cases hz:(aQ src k o (h0 o) cs).ns with
   | nil=>exact absurd hz hne
   | cons a r =>
    rw[hz]at hall
    show Sep _ _ (Ab (a.place _ _))
    rw[By _ _ _ (hall a (List.mem_cons_self ..))]
    rw[hz,kY]at i1
    exact⟨fun d hd=>i1.1 d (List.mem_append_left _ hd),(List.nodup_append.1 i1.2).1⟩
  ·simp only
   rw[if_neg c60]
   by_cases c46:(k:Int)=46
   ·rw[if_pos c46]
    show Sep _ _ (Ab (.mk 46 0 _ _ _ (-1) []))
    rw[ml,kY]
    exact .nil _ _
   ·rw[if_neg c46]
    show Sep _ _ (Ab (.mk k _ _ _ _ _ _))
    rw[ml]
    by_cases c7:(k:Int)=7
    ·rw[if_pos c7]
     obtain⟨A,t,r,rfl,q1,q2,q3,q4,q5⟩:=h7 (by omega)
     rw[dK,Bool.and_eq_true]at h3
     have h3r:=h3.2
     rw[fA,Bool.and_eq_true]at h3r
     have p6r:cc r=true:=by
      have:∀(xs ys:List az),cc (xs++ys)=true→cc ys=true:=by
       intro xs
       induction xs with
       | nil=>intro ys h;exact h
       | cons x xs ih=>intro ys h;rw[List.cons_append,cc,Bool.and_eq_true]at h;exact ih ys h.2
      have:=this _ _ p6.2
      rw[cc,Bool.and_eq_true]at this
      exact this.2
     obtain⟨z1,h',z2⟩:=xR src k t r q2 q3 q5 h3r.2 A o (h0 o) q1 q4 (show (-1:Int)<0 by decide)
     have kr:=(uf src k (o+(j7 A).length+t.2.length) h' r h3r.2 p6r).1
     have hlen:(cY (A.map cr++cr t::r)).length=(j7 A).length+(t.2.length+(cY r).length):=by
      rw[dW,List.length_append,rC,cY,List.length_append]
      have:dj (cr t)=t.2:=gE (t:=cr t) h3r.1 q3
      rw[this]
     have hpos:0<t.2.length:=List.length_pos_iff.2 q5
     rw[←z2]at kr
     rw[z1]
     refine Sep.cons i1 (by omega) (by rw[hlen];omega) (fun hm=>?_)
     have:=kr _ hm
     omega
    ·rw[if_neg c7]
     rcases i2 with e|⟨-,e2,e3,e4⟩
     ·have:(aQ src k o (h0 o) cs).h.ns<0:=by rw[e];show (-1:Int)<0;decide
      rw[if_pos this];exact i1
     ·rw[if_neg (by omega)]
      exact i1.cons e2 e3 e4
theorem vM (src:Bytes)(k:Int):∀(o:Nat)(h:Hd)(cs:List az),mP cs=true→cc cs=true→(∀t∈cs,t.kind=103→t.text≠[])→(∀t∈cs,t.kind<100→Hr t)→UT o (cY cs).length h (aQ src k o h cs)
 | o,h,[],_,_,_,_=>by rw[db,cY];exact⟨.nil _ _,.inl rfl⟩
 | o,h,t::ts,ok,p6,hi,hc=>by
  rw[fA,Bool.and_eq_true]at ok
  rw[cc,Bool.and_eq_true]at p6
  have hi':∀u∈ts,u.kind=103→u.text≠[]:=fun u hu=>hi u (List.mem_cons_of_mem _ hu)
  have hc':∀u∈ts,u.kind<100→Hr u:=fun u hu=>hc u (List.mem_cons_of_mem _ hu)
  have hl:(cY (t::ts)).length=(dj t).length+(cY ts).length:=by rw[cY,List.length_append]
  rw[hl]
  by_cases c:100≤t.kind
  ·rw[cA _ _ _ _ _ _ c]
   have e1:=gE ok.1 c
   have i:=vM src k (o+t.text.length) (cP k h t.kind t.text o).1 ts ok.2 p6.2 hi' hc'
   rw[e1]
   obtain⟨i1,i2⟩:=i
   refine⟨i1.wide (by omega) (by omega),?_⟩
   show (aQ src k (o+t.text.length) (cP k h t.kind t.text o).1 ts).h.ns=h.ns∨_
   rcases Fi k h t.kind t.text o with e|⟨e2,e3,e4⟩
   ·rcases i2 with j|⟨j1,j2,j3,j4⟩
    ·exact .inl (j.trans e)
    ·refine .inr ⟨by rw[←e];exact j1,?_,?_,j4⟩
     ·show (o:Int)≤(aQ src k (o+t.text.length) (cP k h t.kind t.text o).1 ts).h.ns
      omega
     ·show (aQ src k (o+t.text.length) (cP k h t.kind t.text o).1 ts).h.ns<_
      omega
   ·have hne:0<t.text.length:=List.length_pos_iff.2 (hi t (List.mem_cons_self ..) e2)
    rcases i2 with j|⟨j1,-⟩
    ·refine .inr ⟨e3,?_,?_,?_⟩
     ·show (o:Int)≤(aQ src k (o+t.text.length) (cP k h t.kind t.text o).1 ts).h.ns
      rw[j,e4];exact Int.le_refl _
     ·show (aQ src k (o+t.text.length) (cP k h t.kind t.text o).1 ts).h.ns<_
      rw[j,e4];omega
     ·intro hm
      have hm':(aQ src k (o+t.text.length) (cP k h t.kind t.text o).1 ts).h.ns∈kY (aQ src k (o+t.text.length) (cP k h t.kind t.text o).1 ts).ns:=hm
      have:=(i1.1 _ hm').1
      rw[j,e4]at this;omega
    ·rw[e4]at j1;omega
  ·rw[cS _ _ _ _ _ _ c]
   have i:=vM src k (o+(dj t).length) (h.ext (aS src o t).1.s (aS src o t).1.e) ts ok.2 p6.2 hi' hc'
   have j:=Bz src o t ok.1 p6.1 (hc t (List.mem_cons_self ..) (by omega)) (by omega)
   obtain⟨i1,i2⟩:=i
   refine⟨?_,?_⟩
   ·show Sep _ _ (kY (_::_))
    rw[kY]
    have:=j.append i1 (by omega) (by omega)
    exact this.wide (Nat.le_refl _) (by omega)
   ·show (aQ src k (o+(dj t).length) (h.ext (aS src o t).1.s (aS src o t).1.e) ts).h.ns=h.ns∨_
    rcases i2 with e|⟨e1,e2,e3,e4⟩
    ·exact .inl e
    ·refine .inr ⟨e1,?_,?_,?_⟩
     ·show (o:Int)≤(aQ src k (o+(dj t).length) (h.ext (aS src o t).1.s (aS src o t).1.e) ts).h.ns
      omega
     ·show (aQ src k (o+(dj t).length) (h.ext (aS src o t).1.s (aS src o t).1.e) ts).h.ns<_
      omega
     ·show ¬(aQ src k (o+(dj t).length) (h.ext (aS src o t).1.s (aS src o t).1.e) ts).h.ns∈kY (_::_)
      rw[kY]
      intro hm
      rcases List.mem_append.1 hm with hm|hm
      ·have:=(j.1 _ hm).2
       omega
      ·exact e4 hm
end
end Pm
namespace Pm
mutual
theorem xS (fl:Int→Bool):∀(base:Nat)(parent:Int)(loc:Bool)(n:Nd),((ew fl base parent loc n).map Sy.start).Sublist (Ab n)
 | base,parent,loc,.mk k v x s e ns cs=>by
  rw[ig,ml]
  by_cases c:dO k ns loc=0
  ·rw[if_pos c]
   exact(pq fl base parent _ cs).trans (List.sublist_append_right _ _)
  ·rw[if_neg c,List.map_cons]
   have r:=pq fl (base+1) (if iI (dO k ns loc)=true then(base:Int) else parent) (nz k loc) cs
   by_cases c7:k=7
   ·rw[if_pos c7]
    have e:kX k s ns=s:=by unfold kX;rw[if_pos c7]
    show (kX k s ns::_).Sublist _
    rw[e];exact r.cons₂ s
   ·rw[if_neg c7]
    have hn:¬ns<0:=by
     intro h
     apply c
     unfold dO
     rw[if_neg c7,if_pos h]
    rw[if_neg hn]
    have e:kX k s ns=ns:=by unfold kX;rw[if_neg c7]
    show (kX k s ns::_).Sublist _
    rw[e];exact r.cons₂ ns
theorem pq (fl:Int→Bool):∀(base:Nat)(parent:Int)(loc:Bool)(cs:List Nd),((cQ fl base parent loc cs).map Sy.start).Sublist (kY cs)
 | base,parent,loc,[]=>by rw[cQ,kY];exact List.Sublist.slnil
 | base,parent,loc,n::ns=>by
  rw[cQ,kY,List.map_append]
  exact(xS fl base parent loc n).append (pq fl _ parent loc ns)
end
end Pm
end

section
namespace Pm
inductive rR:Nd→Prop
 | mk (k v:Int) (x:Bytes) (s e ns:Int) (cs:List Nd) (h:s≤e) (hs:∀c∈cs,s≤c.s) (he:∀c∈cs,c.e≤e) (hc:∀c∈cs,rR c):rR (.mk k v x s e ns cs)
theorem rR.place {n:Nd}(h:rR n){a b:Int}(h1:a≤n.s)(h2:n.e≤b):rR (n.place a b):=by
 cases h with
 | mk k v x s e ns cs h0 hs he hc =>
  have h1:a≤s:=h1
  have h2:e≤b:=h2
  exact .mk k v x a b ns cs (by omega) (fun c hx=>by have:=hs c hx;omega) (fun c hx=>by have:=he c hx;omega) hc
theorem KY {k:Int}{h:Hd}{c:Nat}{x:Bytes}{o:Nat}(h0:0≤h.e)(he:h.e≤o):(cP k h c x o).1.s=h.s∧h.e≤(cP k h c x o).1.e∧0≤(cP k h c x o).1.e:=by
 have key:∀h':Hd,h'.s=h.s→h'.e=h.e→(h'.ext o (o+x.length)).s=h.s∧h.e≤(h'.ext o (o+x.length)).e∧0≤(h'.ext o (o+x.length)).e:=fun h' e1 e2 =>
  ⟨by rw[Fk (by rw[e2];exact h0),e1],by show h.e≤(o:Int)+x.length;omega,by show (0:Int)≤o+x.length;omega⟩
 unfold cP
 repeat' split
 ·exact⟨rfl,Int.le_refl _,h0⟩
 ·exact⟨rfl,Int.le_refl _,h0⟩
 ·exact key _ rfl rfl
 ·exact key _ (iG ..).1 (iG ..).2
 ·exact key _ rfl rfl
 ·exact key _ rfl rfl
 ·exact key _ (jb ..).1 (jb ..).2.1
mutual
theorem xT (src:Bytes):∀(o:Nat)(t:az),wv t=true→gr t=true→rR (aS src o t).1
 | o,.mk k x cs,h,p6=>by
  obtain⟨-,h2,h3⟩:=km k x cs h
  rw[gr,Bool.and_eq_true]at p6
  have i:=(rS src k o o (h0 o) cs h3 p6.2 (Ki o)).1
  rw[eX]
  unfold gP
  by_cases c60:(k:Int)=60
  ·simp only
   rw[if_pos c60]
   have hk60:k=60:=by omega
   have e:=p6.1
   rw[hk60]at e
   have hne:=nV src k o (h0 o) cs (by simpa using e)
   cases hz:(aQ src k o (h0 o) cs).ns with
   | nil=>exact absurd hz hne
   | cons a r =>
    rw[hz]at i
    obtain⟨i1,i2,i3⟩:=i a (List.mem_cons_self ..)
    exact i1.place i2 (by have:=Int.le_max_left (aQ src k o (h0 o) cs).h.e (aQ src k o (h0 o) cs).h.s;omega)
  ·simp only
   rw[if_neg c60]
   have hm1:=Int.le_max_left (aQ src k o (h0 o) cs).h.e (aQ src k o (h0 o) cs).h.s
   have hm2:=Int.le_max_right (aQ src k o (h0 o) cs).h.e (aQ src k o (h0 o) cs).h.s
   by_cases c46:(k:Int)=46
   ·rw[if_pos c46]
    exact .mk 46 0 _ _ _ (-1) [] hm2 (fun c hc=>by cases hc) (fun c hc=>by cases hc) (fun c hc=>by cases hc)
   ·rw[if_neg c46]
    exact .mk k _ _ _ _ _ _ hm2 (fun c hc=>(i c hc).2.1) (fun c hc=>Int.le_trans (i c hc).2.2 hm1) (fun c hc=>(i c hc).1)
theorem rS (src:Bytes)(k:Int):∀(b o:Nat)(h:Hd)(cs:List az),mP cs=true→cc cs=true→Inv b o h →
  (∀c∈(aQ src k o h cs).ns,rR c∧(aQ src k o h cs).h.s≤c.s∧c.e≤(aQ src k o h cs).h.e)∧(0≤h.e→(aQ src k o h cs).h.s=h.s∧h.e≤(aQ src k o h cs).h.e)
 | b,o,h,[],_,_,_=>by rw[db];exact⟨fun c hc=>(by cases hc),fun _=>⟨rfl,Int.le_refl _⟩⟩
 | b,o,h,t::ts,ok,p6,iv=>by
  rw[fA,Bool.and_eq_true]at ok
  rw[cc,Bool.and_eq_true]at p6
  by_cases c:100≤t.kind
  ·rw[cA _ _ _ _ _ _ c]
   obtain⟨i1,i2⟩:=rS src k b (o+t.text.length) (cP k h t.kind t.text o).1 ts ok.2 p6.2 (iv.tok k t.kind t.text)
   refine⟨i1,fun he=>?_⟩
   have hle:h.e≤o:=by rcases iv.2.2 with v|v<;>omega
   obtain⟨g1,g2,g3⟩:=KY (k:=k) (c:=t.kind) (x:=t.text) he hle
   obtain⟨j1,j2⟩:=i2 g3
   exact⟨j1.trans g1,Int.le_trans g2 j2⟩
  ·rw[cS _ _ _ _ _ _ c]
   have rg:=kO src o t ok.1
   have nn:=xT src o t ok.1 p6.1
   have iv':Inv b (o+(dj t).length) (h.ext (aS src o t).1.s (aS src o t).1.e):=iv.ext rg.1 rg.2.1 rg.2.2
   obtain⟨i1,i2⟩:=rS src k b (o+(dj t).length) (h.ext (aS src o t).1.s (aS src o t).1.e) ts ok.2 p6.2 iv'
   have he':0≤(h.ext (aS src o t).1.s (aS src o t).1.e).e:=by show (0:Int)≤(aS src o t).1.e;omega
   obtain⟨j1,j2⟩:=i2 he'
   have j2:(aS src o t).1.e≤(aQ src k (o+(dj t).length) (h.ext (aS src o t).1.s (aS src o t).1.e) ts).h.e:=j2
   have hs:(h.ext (aS src o t).1.s (aS src o t).1.e).s≤(aS src o t).1.s:=by
    unfold Hd.ext;simp only
    split
    ·exact Int.le_refl _
    ·rcases iv.2.2 with v|v<;>omega
   refine⟨fun c hc=>?_,fun he=>?_⟩
   ·rcases List.mem_cons.1 hc with e|hc
    ·rw[e];exact⟨nn,by show (aQ src k (o+(dj t).length) (h.ext (aS src o t).1.s (aS src o t).1.e) ts).h.s≤_;rw[j1];exact hs,j2⟩
    ·exact i1 c hc
   ·refine⟨?_,?_⟩
    ·show (aQ src k (o+(dj t).length) (h.ext (aS src o t).1.s (aS src o t).1.e) ts).h.s=h.s
     rw[j1,Fk he]
    ·have:h.e≤o:=by rcases iv.2.2 with v|v<;>omega
     show h.e≤(aQ src k (o+(dj t).length) (h.ext (aS src o t).1.s (aS src o t).1.e) ts).h.e
     omega
end
end Pm
end

section
namespace Pm
def Nd.UU:Nd→Int|.mk k _ _ s _ ns _=>kX k s ns
theorem qQ (k ns:Int)(loc:Bool):dO k ns loc=0↔dO k ns false=0:=by
 unfold dO
 by_cases c7:k=7
 ·simp[c7]
 ·simp only[if_neg c7]
  by_cases cn:ns<0
  ·simp[cn]
  ·simp only[if_neg cn]
   by_cases c13:k=13
   ·subst c13;cases loc<;>simp
   ·simp[c13]
mutual
def vn:Nd→List Nd
 | .mk k v x s e ns cs=>if dO k ns false=0 then BA cs else .mk k v x s e ns cs::BA cs
def BA:List Nd→List Nd
 | []=>[]
 | n::ns=>vn n++BA ns
end
theorem Fl (k v:Int)(x:Bytes)(s e ns:Int)(cs:List Nd):vn (.mk k v x s e ns cs)=if dO k ns false=0 then BA cs else .mk k v x s e ns cs::BA cs:=by rw[vn]
mutual
theorem BB (fl:Int→Bool):∀(base:Nat)(parent:Int)(loc:Bool)(n:Nd),(ew fl base parent loc n).map Sy.start=(vn n).map Nd.UU
 | base,parent,loc,.mk k v x s e ns cs=>by
  rw[ig,Fl]
  by_cases c:dO k ns loc=0
  ·rw[if_pos c,if_pos ((qQ k ns loc).1 c)];exact rT fl _ _ _ cs
  ·rw[if_neg c,if_neg (fun h=>c ((qQ k ns loc).2 h)),List.map_cons,List.map_cons,rT fl _ _ _ cs];rfl
theorem rT (fl:Int→Bool):∀(base:Nat)(parent:Int)(loc:Bool)(cs:List Nd),(cQ fl base parent loc cs).map Sy.start=(BA cs).map Nd.UU
 | base,parent,loc,[]=>by rw[cQ,BA];rfl
 | base,parent,loc,n::ns=>by rw[cQ,BA,List.map_append,List.map_append,BB fl _ _ _ n,rT fl _ _ _ ns]
end
theorem UV (fl:Int→Bool)(base:Nat)(parent:Int)(loc:Bool)(n:Nd):(ew fl base parent loc n).length=(vn n).length:=by
 have:=congrArg List.length (BB fl base parent loc n)
 rwa [List.length_map,List.length_map]at this
mutual
def KZ (st:Int):Nd→Option Nd
 | .mk k v x s e ns cs=>if dO k ns false≠0∧kX k s ns=st then some (.mk k v x s e ns cs) else vN st cs
def vN (st:Int):List Nd→Option Nd
 | []=>none
 | n::ns=>match KZ st n with
  | some m=>some m
  | none=>vN st ns
end
mutual
theorem K0 (st:Int):∀n:Nd,KZ st n=(vn n).find? fun m=>m.UU==st
 | .mk k v x s e ns cs=>by
  rw[KZ,Fl]
  by_cases c:dO k ns false=0
  ·rw[if_neg (fun h=>h.1 c),if_pos c];exact rU st cs
  ·rw[if_neg c,List.find?_cons]
   have e0:(Nd.mk k v x s e ns cs).UU=kX k s ns:=rfl
   rw[e0]
   by_cases d:kX k s ns=st
   ·rw[if_pos ⟨c,d⟩];simp[d]
   ·rw[if_neg (fun h=>d h.2)]
    have:(kX k s ns==st)=false:=by simpa using d
    rw[this];exact rU st cs
theorem rU (st:Int):∀cs:List Nd,vN st cs=(BA cs).find? fun m=>m.UU==st
 | []=>by rw[vN,BA];rfl
 | n::ns=>by
  rw[vN,BA,K0 st n,List.find?_append,rU st ns]
  cases(vn n).find? fun m=>m.UU==st<;>rfl
end
theorem zD:∀{l:List Nd}{j:Nat}{m:Nd},(l.map Nd.UU).Nodup→l[j]?=some m→l.find? (fun u=>u.UU==m.UU)=some m
 | [],j,m,_,h=>by simp at h
 | a::l,0,m,_,h=>by simp at h;subst h;rw[List.find?_cons];simp
 | a::l,j+1,m,nd,h=>by
  rw[List.map_cons,List.nodup_cons]at nd
  rw[List.getElem?_cons_succ]at h
  rw[List.find?_cons]
  have:a.UU≠m.UU:=fun e=>nd.1 (by rw[e];exact List.mem_map.2 ⟨m,List.mem_of_getElem? h,rfl⟩)
  have:(a.UU==m.UU)=false:=by simpa using this
  rw[this];exact zD nd.2 h
mutual
theorem RG:∀(n:Nd),rR n→∀m∈vn n,n.s≤m.s∧m.e≤n.e
 | .mk k v x s e ns cs,h=>by
  cases h with
  | mk _ _ _ _ _ _ _ h0 hs he hc =>
  rw[Fl]
  have r:=K1 cs hc
  intro m hm
  split at hm
  ·obtain⟨c,q1,q2,q3⟩:=r m hm
   exact⟨Int.le_trans (hs c q1) q2,Int.le_trans q3 (he c q1)⟩
  ·rcases List.mem_cons.1 hm with e0|hm
   ·rw[e0];exact⟨Int.le_refl _,Int.le_refl _⟩
   ·obtain⟨c,q1,q2,q3⟩:=r m hm
    exact⟨Int.le_trans (hs c q1) q2,Int.le_trans q3 (he c q1)⟩
theorem K1:∀(cs:List Nd),(∀c∈cs,rR c)→∀m∈BA cs,∃c∈cs,c.s≤m.s∧m.e≤c.e
 | [],_=>by rw[BA];intro m hm;cases hm
 | n::ns,h=>by
  rw[BA]
  intro m hm
  rcases List.mem_append.1 hm with hm|hm
  ·have:=RG n (h n (List.mem_cons_self ..)) m hm
   exact⟨n,List.mem_cons_self ..,this⟩
  ·obtain⟨c,q1,q2⟩:=K1 ns (fun c hc=>h c (List.mem_cons_of_mem _ hc)) m hm
   exact⟨c,List.mem_cons_of_mem _ q1,q2⟩
end
def rW (base:Nat)(parent:Int)(l:List Sy)(w:List Nd):Prop:=∀j y m,l[j]?=some y→w[j]?=some m→y.parent=parent∨∃p,p<j∧y.parent=((base+p:Nat):Int)∧∃u,w[p]?=some u∧u.s≤m.s∧m.e≤u.e
theorem rW.append {base:Nat}{parent:Int}{a b:List Sy}{v w:List Nd}(e:a.length=v.length)(h:rW base parent a v)(k:rW (base+a.length) parent b w):rW base parent (a++b) (v++w):=by
 intro j y m hj hm
 by_cases c:j<a.length
 ·rw[List.getElem?_append_left c]at hj
  rw[List.getElem?_append_left (by omega)]at hm
  rcases h j y m hj hm with q|⟨p,q1,q2,u,q3,q4⟩
  ·exact .inl q
  ·exact .inr ⟨p,q1,q2,u,by rw[List.getElem?_append_left (by omega)];exact q3,q4⟩
 ·rw[List.getElem?_append_right (by omega)]at hj hm
  rw[←e]at hm
  rcases k _ y m hj hm with q|⟨p,q1,q2,u,q3,q4⟩
  ·exact .inl q
  ·refine .inr ⟨a.length+p,by omega,by rw[q2];omega,u,?_,q4⟩
   rw[List.getElem?_append_right (by omega),←e,Nat.add_sub_cancel_left];exact q3
mutual
theorem zC (fl:Int→Bool):∀(base:Nat)(parent:Int)(loc:Bool)(n:Nd),rR n→rW base parent (ew fl base parent loc n) (vn n)
 | base,parent,loc,.mk k v x s e ns cs,h=>by
  have hin:=RG _ h
  cases h with
  | mk _ _ _ _ _ _ _ h0 hs he hc =>
  rw[ig]
  rw[Fl]at hin ⊢
  by_cases c:dO k ns loc=0
  ·have c':=(qQ k ns loc).1 c
   rw[if_pos c,if_pos c'];exact kZ fl base parent _ cs hc
  ·have c':¬dO k ns false=0:=fun h=>c ((qQ k ns loc).2 h)
   rw[if_neg c']at hin
   rw[if_neg c,if_neg c']
   intro j y m hj hm
   cases j with
   | zero=>simp at hj;subst hj;exact .inl rfl
   | succ j =>
    rw[List.getElem?_cons_succ]at hj hm
    have hmin:=hin m (List.mem_cons_of_mem _ (List.mem_of_getElem? hm))
    rcases kZ fl (base+1) _ _ cs hc j y m hj hm with q|⟨p,q1,q2,u,q3,q4⟩
    ·split at q
     ·exact .inr ⟨0,by omega,by rw[q];rfl,_,rfl,hmin⟩
     ·exact .inl q
    ·exact .inr ⟨p+1,by omega,by rw[q2];omega,u,by rw[List.getElem?_cons_succ];exact q3,q4⟩
theorem kZ (fl:Int→Bool):∀(base:Nat)(parent:Int)(loc:Bool)(cs:List Nd),(∀c∈cs,rR c)→rW base parent (cQ fl base parent loc cs) (BA cs)
 | base,parent,loc,[],_=>by rw[cQ,BA];intro j y m hj;simp at hj
 | base,parent,loc,n::ns,h=>by
  rw[cQ,BA]
  exact(zC fl base parent loc n (h n (List.mem_cons_self ..))).append (UV fl base parent loc n) (kZ fl _ parent loc ns (fun c hc=>h c (List.mem_cons_of_mem _ hc)))
end
end Pm
end

section
namespace Pm
structure Sym where
 (kind module start parent:Int)(name:Bytes)(Wg:Bool)
 deriving DecidableEq,Inhabited
def Sy.at (i:Nat)(y:Sy):Sym:=⟨y.kind,i,y.start,y.parent,y.name,y.Wg⟩
def gb (fl:Int→Bool)(i base:Nat)(name:Bytes)(t:Nd):List Sym:=⟨1,i,-1,-1,name,true⟩::(ew fl (base+1) base false t).map (Sy.at i)
def Cm (fl:Int→Bool):Nat→Nat→List (Bytes×Nd)→List Sym
 | _,_,[]=>[]
 | i,base,m::r=>gb fl i base m.1 m.2++Cm fl (i+1) (base+(gb fl i base m.1 m.2).length) r
def lG:List Sym:=[[105,110,116],[98,111,111,108],[115,116,114,105,110,103],[83,101,108,102]].map fun n=>⟨15,-1,-1,-1,n,false⟩
def rX (fl:Int→Bool)(ms:List (Bytes×Nd)):List Sym:=lG++Cm fl 0 4 ms
theorem sH {fl:Int→Bool}{i base:Nat}{name:Bytes}{t:Nd}:∀s∈gb fl i base name t,s.module=i:=by
 intro s hs
 rcases List.mem_cons.1 hs with e|hs
 ·rw[e]
 ·obtain⟨y,_,rfl⟩:=List.mem_map.1 hs;rfl
def zF (l:List Sym):Prop:=∀(j k:Nat)(a b:Sym),l[j]?=some a→l[k]?=some b→0≤a.start→a.module=b.module→a.start=b.start→j=k
theorem zF.append {a b:List Sym}(h:zF a)(k:zF b)(d:∀x∈a,∀y∈b,x.module=y.module→x.start=y.start→x.start<0):zF (a++b):=by
 intro i j x y hx hy h0 hm hs
 by_cases c1:i<a.length<;>by_cases c2:j<a.length
 ·rw[List.getElem?_append_left c1]at hx
  rw[List.getElem?_append_left c2]at hy
  exact h i j x y hx hy h0 hm hs
 ·rw[List.getElem?_append_left c1]at hx
  rw[List.getElem?_append_right (by omega)]at hy
  have:=d x (List.mem_of_getElem? hx) y (List.mem_of_getElem? hy) hm hs
  omega
 ·rw[List.getElem?_append_right (by omega)]at hx
  rw[List.getElem?_append_left c2]at hy
  have:=d y (List.mem_of_getElem? hy) x (List.mem_of_getElem? hx) hm.symm hs.symm
  omega
 ·rw[List.getElem?_append_right (by omega)]at hx hy
  have:=k _ _ x y hx hy h0 hm hs
  omega
end Pm
end

section
namespace Pm
theorem Ht (k ns:Int)(loc:Bool)(h:dO k ns loc≠0):dO k ns loc≠1∧dO k ns loc≠15:=by
 unfold dO at *
 by_cases c7:k=7
 ·simp[c7]
 ·simp only[if_neg c7]at h ⊢
  by_cases cn:ns<0
  ·simp[cn]at h
  ·simp only[if_neg cn]at h ⊢
   repeat' split
   all_goals first
    | (constructor<;>omega)
    | (constructor<;>decide)
mutual
theorem DI (fl:Int→Bool):∀(base:Nat)(parent:Int)(loc:Bool)(n:Nd),∀y∈ew fl base parent loc n,y.kind≠1∧y.kind≠15
 | base,parent,loc,.mk k v x s e ns cs=>by
  rw[ig]
  split
  ·exact nA fl _ _ _ cs
  ·rename_i c
   intro y hy
   rcases List.mem_cons.1 hy with e0|hy
   ·rw[e0];exact Ht k ns loc c
   ·exact nA fl _ _ _ cs y hy
theorem nA (fl:Int→Bool):∀(base:Nat)(parent:Int)(loc:Bool)(cs:List Nd),∀y∈cQ fl base parent loc cs,y.kind≠1∧y.kind≠15
 | base,parent,loc,[]=>by rw[cQ];intro y hy;cases hy
 | base,parent,loc,n::ns=>by
  rw[cQ]
  intro y hy
  rcases List.mem_append.1 hy with hy|hy
  ·exact DI fl _ _ _ n y hy
  ·exact nA fl _ _ _ ns y hy
end
theorem Lt {fl:Int→Bool}{base:Nat}{parent:Int}{loc:Bool}{t:Nd}{j:Nat}{y:Sy}(h:(ew fl base parent loc t)[j]?=some y):∃m,(vn t)[j]?=some m∧m.UU=y.start:=by
 have e:=congrArg (fun l=>l[j]?) (BB fl base parent loc t)
 simp only[List.getElem?_map,h,Option.map_some]at e
 cases hm:(vn t)[j]? with
 | none=>rw[hm]at e;cases e
 | some m=>rw[hm]at e;injection e with e;exact⟨m,rfl,e.symm⟩
def Ct (l:List Sym)(k:Nat)(s:Sym)(t:Nd):Prop:=∃(p:Nat)(q:Sym)(n u:Nd),s.parent=p∧p<k∧l[p]?=some q∧q.module=s.module∧q.kind≠15∧KZ s.start t=some n∧((q.kind=1∧u=t)∨(q.kind≠1∧KZ q.start t=some u))∧u.s≤n.s∧n.e≤u.e
theorem PL {fl:Int→Bool}{i base:Nat}{name:Bytes}{t:Nd}(hn:rR t)(hu:((ew fl (base+1) base false t).map Sy.start).Nodup){pre post:List Sym}(hb:pre.length=base){j:Nat}{s:Sym}
  (hs:(gb fl i base name t)[j]?=some s)(hk:s.kind≠1):Ct (pre++(gb fl i base name t++post)) (base+j) s t∧s.module=i:=by
 have look:∀p x,(gb fl i base name t)[p]?=some x→(pre++(gb fl i base name t++post))[base+p]?=some x:=fun p x hx=>by
  have hl:=(List.getElem?_eq_some_iff.1 hx).1
  rw[List.getElem?_append_right (by omega),hb,Nat.add_sub_cancel_left,List.getElem?_append_left hl];exact hx
 cases j with
 | zero=>simp[gb]at hs;subst hs;exact absurd rfl hk
 | succ j =>
  have hs':=hs
  unfold gb at hs'
  rw[List.getElem?_cons_succ,List.getElem?_map,Option.map_eq_some_iff]at hs'
  obtain⟨y,hy,rfl⟩:=hs'
  obtain⟨m,hm,hd⟩:=Lt hy
  have nd:((vn t).map Nd.UU).Nodup:=by rw[←BB fl (base+1) base false t];exact hu
  have f1:KZ (Sy.at i y).start t=some m:=by
   show KZ y.start t=some m
   rw[K0,←hd];exact zD nd hm
  refine⟨?_,rfl⟩
  rcases zC fl (base+1) base false t hn j y m hy hm with e|⟨p,q1,q2,u,q3,q4⟩
  ·have hin:=RG t hn m (List.mem_of_getElem? hm)
   exact⟨base,_,m,t,e,by omega,look 0 _ rfl,rfl,(show (1:Int)≠15 by decide),f1,.inl ⟨rfl,rfl⟩,hin⟩
  ·have hp:p<(ew fl (base+1) base false t).length:=by rw[UV];exact(List.getElem?_eq_some_iff.1 q3).1
   have hpy:=List.getElem?_eq_getElem hp
   obtain⟨m',hm',hd'⟩:=Lt hpy
   rw[q3]at hm';cases hm'
   have kd:=DI fl (base+1) base false t _ (List.getElem_mem hp)
   have hq:(gb fl i base name t)[p+1]?=some (Sy.at i (ew fl (base+1) base false t)[p]):=by
    unfold gb;rw[List.getElem?_cons_succ,List.getElem?_map,hpy];rfl
   refine⟨base+(p+1),_,m,u,by rw[show (Sy.at i y).parent=y.parent from rfl,q2];omega,by omega,look _ _ hq,rfl,kd.2,f1,.inr ⟨kd.1,?_⟩,q4⟩
   show KZ (ew fl (base+1) base false t)[p].start t=some u
   rw[K0,←hd'];exact zD nd q3
theorem F4 (fl:Int→Bool):∀(ms:List (Bytes×Nd))(i:Nat)(pre:List Sym),(∀m∈ms,rR m.2∧∀base:Nat,((ew fl (base+1) base false m.2).map Sy.start).Nodup)→∀(j:Nat)(s:Sym),(Cm fl i pre.length ms)[j]?=some s→s.kind≠1 →
  ∃(a:Nat) (m:Bytes×Nd),ms[a]?=some m∧s.module=((i+a:Nat):Int)∧Ct (pre++Cm fl i pre.length ms) (pre.length+j) s m.2
 | [],i,pre,_,j,s,hs,_=>by rw[Cm]at hs;simp at hs
 | m::r,i,pre,h,j,s,hs,hk=>by
  rw[Cm]at hs ⊢
  have hm:=h m (List.mem_cons_self ..)
  by_cases c:j<(gb fl i pre.length m.1 m.2).length
  ·rw[List.getElem?_append_left c]at hs
   have:=PL (fl:=fl) (i:=i) (name:=m.1) hm.1 (hm.2 pre.length) (pre:=pre) (post:=Cm fl (i+1) (pre.length+(gb fl i pre.length m.1 m.2).length) r) rfl hs hk
   exact⟨0,m,rfl,this.2,this.1⟩
  ·rw[List.getElem?_append_right (by omega)]at hs
   have e:pre.length+(gb fl i pre.length m.1 m.2).length=(pre++gb fl i pre.length m.1 m.2).length:=by rw[List.length_append]
   rw[e]at hs ⊢
   obtain⟨a,m',h1,h2,h3⟩:=F4 fl r (i+1) (pre++gb fl i pre.length m.1 m.2) (fun x hx=>h x (List.mem_cons_of_mem _ hx)) _ s hs hk
   rw[List.append_assoc]at h3
   have e2:(pre++gb fl i pre.length m.1 m.2).length+(j-(gb fl i pre.length m.1 m.2).length)=pre.length+j:=by rw[List.length_append];omega
   rw[e2]at h3
   exact⟨a+1,m',h1,by rw[h2];omega,h3⟩
theorem RM (fl:Int→Bool){ms:List (Bytes×Nd)}(h:∀m∈ms,rR m.2∧∀base:Nat,((ew fl (base+1) base false m.2).map Sy.start).Nodup){k:Nat}{s:Sym}(hs:(rX fl ms)[k]?=some s)(h15:s.kind≠15)(h1:s.kind≠1) :
  ∃(a:Nat) (m:Bytes×Nd),ms[a]?=some m∧s.module=(a:Int)∧Ct (rX fl ms) k s m.2:=by
 unfold rX at *
 by_cases c:k<lG.length
 ·rw[List.getElem?_append_left c]at hs
  have:s∈lG:=List.mem_of_getElem? hs
  simp[lG]at this
  rcases this with rfl|rfl|rfl|rfl<;>exact absurd rfl h15
 ·rw[List.getElem?_append_right (by omega)]at hs
  have e4:lG.length=4:=rfl
  obtain⟨a,m,q1,q2,q3⟩:=F4 fl ms 0 lG h (k-lG.length) s hs h1
  rw[show lG.length+(k-lG.length)=k by omega]at q3
  exact⟨a,m,q1,by rw[q2];omega,q3⟩
end Pm
end

section
namespace Pm
end Pm
end

section
namespace Pm
abbrev tE:Tok:=(100,[])
abbrev tC:Tok:=(104,C7)
abbrev tK:Tok:=(103,[107])
abbrev tS:Tok:=(107,fk)
abbrev tP:Tok:=(104,lY)
def Ins (c:mO):Prop:=(c tC tK tS=c tE tE tE)∧(∀a,eN [lY] a=false→c a tC tK=c a tE tE)∧∀a b,c a b tC=c a b tE
def Lp (s:List Tok):Prop:=∀t,s.getLast?=some t→eN [lY] t=false
theorem Lp.drop {s:List Tok}(h:Lp s)(k:Nat):Lp (s.drop k):=by
 intro t ht
 rw[List.getLast?_drop]at ht
 split at ht
 ·cases ht
 ·exact h t ht
theorem Ins.ev {c:mO}(i:Ins c){s:List Tok}(h:Lp s)(w:List Tok):Z5 c (s++tC::tK::tS::w)=Z5 c s:=by
 match s,h with
 | [],h=>exact i.1
 | [a],h=>exact i.2.1 a (h a rfl)
 | [a,b],h=>exact i.2.2 a b
 | a::b::c::r,h=>rfl
section
variable {t v:List Tok}(ht:io t=[]){w:List Tok}(hv:sg v=tC::tK::tS::w)
include ht hv
end
end Pm
end

section
namespace Pm
section
variable {t v:List Tok}(ht:io t=[]){w:List Tok}(hv:sg v=tC::tK::tS::w)
include ht hv
end
end Pm
end

section
namespace Pm
theorem BD {ts:List Tok}{es:List az}{t':List Tok}(h:oH ts es t'):(∀t∈ts,100≤t.1∧t.1≠100)→mP es=true∧cc es=true∧cY es++j7 t'=j7 ts∧∀t∈t',dq t=true:=by
 induction h with
 | done ts h=>exact fun k=>⟨rfl,by rw[cc],by rw[cY];rfl,(K3 (fun t ht=>(k t ht).2) h).1⟩
 | @step ts t1 t' x es b h hi hr ih =>
  intro k
  obtain⟨i1,i2,i3,i4⟩:=ih (fun t ht=>by
   obtain⟨q,e⟩:=bm hi
   rw[e]at ht
   exact k t (List.mem_of_mem_drop ht))
  have a1:=EZ hi (fun t ht=>(k t ht).1) rfl
  have a2:=Bl vD hi Kt (fun t ht=>(k t ht).1) (by rw[cc])
  have a3:=vi hi
  rw[jx]at a1
  rw[fU]at a2
  rw[lu,cY,List.nil_append]at a3
  exact⟨by rw[fA,a1,i1];rfl,by rw[cc,a2,i2];rfl,by rw[cY,List.append_assoc,i3,a3],i4⟩
end Pm
end

section
namespace Pm
def S7:G→Bool
 | .ret _=>true
 | .bump=>true
 | .put k=>k != 7&&k != 103
 | .seq a b=>S7 a&&S7 b
 | .node k g=>S7 g&&k != 7
 | .wrap k g=>S7 g&&k != 7
 | .ite _ a b=>S7 a&&S7 b
 | .yV g a b=>S7 g&&S7 a&&S7 b
 | .prog g a b=>S7 g&&S7 a&&S7 b
 | .Ch g b=>S7 g&&S7 b
 | .dH _ g=>S7 g
 | .gZ=>true
 | .call _=>true
theorem PM (k:Nat):S7 (gK k)=true:=by
 unfold gK
 split<;>rfl
theorem PN (f:Nat):S7 (ot f)=true:=by
 unfold ot
 split<;>rfl
def H' (t:az):Prop:=t.kind≠7∧(t.kind=103→t.text≠[])∧(t.kind<100→Hr t)
theorem Hu {t:Tok}(h:100≤t.1)(h2:t.2≠[]):H' (cr t) :=
 ⟨fun e=>by have:t.1=7:=e;omega,fun _=>h2,fun e=>by have:t.1<100:=e;omega⟩
theorem nY {k:Nat}{ds:List az}(hk:k<100)(h7:k≠7)(h:∀c∈ds,H' c):H' (.mk k [] ds) :=
 ⟨h7,fun e=>by have:k=103:=e;omega,fun _=>.mk k [] ds (fun e=>absurd e h7) (fun _ t ht=>(h t ht).1) (fun t ht=>(h t ht).2.1) (fun t ht=>(h t ht).2.2)⟩
theorem BE {k:Nat}(h7:k≠7)(h3:k≠103):H' (.mk k [] []) :=
 ⟨h7,fun e=>absurd e h3,fun _=>.mk k [] [] (fun e=>absurd e h7) (fun _ t ht=>by cases ht) (fun t ht=>by cases ht) (fun t ht=>by cases ht)⟩
theorem nB {a b:List az}(h:∀c∈a,H' c)(k:∀c∈b,H' c):∀c∈a++b,H' c:=fun c hc=>(List.mem_append.1 hc).elim (h c) (k c)
theorem vO {t:az}(h:H' t):∀c∈[t],H' c:=fun c hc=>by rw[List.mem_singleton.1 hc];exact h
theorem BF {ts:List Tok}(h:∀t∈ts,100≤t.1∧t.2≠[]):∀c∈ts.map cr,H' c:=fun c hc=>by
 obtain⟨t,ht,rfl⟩:=List.mem_map.1 hc
 exact Hu (h t ht).1 (h t ht).2
theorem xU {g:G}{ts:List Tok}{cs:List az}{r:Bool}{ts':List Tok}{cs':List az}(h:bP g ts cs r ts' cs'):S7 g=true→(∀t∈ts,100≤t.1∧t.2≠[])→(∀c∈cs,H' c)→∀c∈cs',H' c:=by
 have mem:∀{ts ts1:List Tok},(∃k,ts1=ts.drop k)→(∀t∈ts,100≤t.1∧t.2≠[])→∀t∈ts1,100≤t.1∧t.2≠[]:=by
  intro ts ts1 ⟨k,e⟩ h t ht;subst e;exact h t (List.mem_of_mem_drop ht)
 have two:∀{a b:Bool},(a&&b)=true→a=true∧b=true:=fun h=>by rwa [Bool.and_eq_true]at h
 have ne:∀{a b:Nat},(a != b)=true→a≠b:=fun h=>by simpa using h
 induction h with
 | ret b ts cs=>exact fun _ _ h=>h
 | bump ts cs =>
  intro s k h
  rw[←List.map_append]
  exact nB h (BF fun t ht=>k t (jM ht))
 | put k ts cs=>intro s _ h;exact nB h (vO (BE (ne (two s).1) (ne (two s).2)))
 | gZ ts cs t =>
  intro s k h
  refine nB (fun c hc=>h c (List.mem_append_left _ hc)) fun c hc=>?_
  rcases List.mem_cons.1 hc with rfl|hc
  ·exact BE (by decide) (by decide)
  ·exact h c (List.mem_append_right _ hc)
 | seq h1 h2 i1 i2=>exact fun s k hc=>i2 (two s).2 (mem (bm h1) k) (i1 (two s).1 k hc)
 | node cs hk h i=>exact fun s k hc=>nB hc (vO (nY hk (ne (two s).2) (i (two s).1 k (fun c hc=>by cases hc))))
 | wrap cs hk h i=>exact fun s k hc=>nB (fun c h=>hc c (List.mem_append_left _ h)) (vO (nY hk (ne (two s).2) (i (two s).1 k (fun c h=>hc c (List.mem_append_right _ h)))))
 | fu hc h i=>exact fun s=>i (two s).1
 | d_ hc h i=>exact fun s=>i (two s).2
 | oW h1 h2 i1 i2=>exact fun s k hc=>i2 (two (two s).1).2 (mem (bm h1) k) (i1 (two (two s).1).1 k hc)
 | oX h1 h2 i1 i2=>exact fun s k hc=>i2 (two s).2 (mem (bm h1) k) (i1 (two (two s).1).1 k hc)
 | kI h1 hl h2 i1 i2=>exact fun s k hc=>i2 (two (two s).1).2 (mem (bm h1) k) (i1 (two (two s).1).1 k hc)
 | kJ h1 hl h2 i1 i2=>exact fun s k hc=>i2 (two s).2 (mem (bm h1) k) (i1 (two (two s).1).1 k hc)
 | qt h1 hl ht h2 i1 i2=>exact fun s k hc=>i2 rfl (mem (bm h1) k) (fun c h=>i1 (two s).1 k hc c (List.mem_append_left _ h))
 | qu h1 hl h2 i1 i2=>exact fun s k hc=>i2 (two s).2 (mem (bm h1) k) (i1 (two s).1 k hc)
 | g_ hc=>exact fun _ _ h=>h
 | iU hc h i=>exact fun s=>i s
 | iV hc h h2 i1 i2=>exact fun s k hn=>i2 s (mem (bm h) k) (i1 s k hn)
 | call h i=>exact fun _=>i (PN _)
end Pm
namespace Pm
theorem Fm {a:Tok}:∀{ts:List Tok},a∈ts.takeWhile dq→dq a=true
 | [],h=>by cases h
 | t::ts,h=>by
  rw[List.takeWhile_cons]at h
  by_cases c:dq t=true
  ·rw[if_pos c]at h
   rcases List.mem_cons.1 h with e|h
   ·rw[e];exact c
   ·exact Fm h
  ·rw[if_neg c]at h;cases h
theorem BG:∀{ts:List Tok}{t:Tok}{r:List Tok},io ts=t::r→dq t=false
 | [],t,r,h=>by simp[io]at h
 | a::ts,t,r,h=>by
  unfold io at h
  rw[List.dropWhile_cons]at h
  by_cases c:dq a=true
  ·rw[if_pos c]at h;exact BG h
  ·rw[if_neg c]at h;injection h with h1 h2;subst h1;simpa using c
theorem K4 {k:Nat}{ts:List Tok}{cs:List az}{b:Bool}{t1:List Tok}{ds:List az}(h:bP (gK k) ts cs b t1 ds):∃es,ds=cs++es:=by
 obtain⟨t2,es,r,_⟩:=rI k ts
 have f:=cG r cs
 rw[List.append_nil]at f
 exact⟨es,(na h f).2.2⟩
theorem jh {k:Nat}{ts:List Tok}{b:Bool}{t1:List Tok}{cs':List az}(hk:k<100)(h:bP (f_ k) ts [] b t1 cs')(hne:io ts≠[])(ht:∀t∈ts,100≤t.1∧t.2≠[]):∀c∈cs',Hr c∧c.kind<100:=by
 unfold f_ at h
 cases h with
 | node _ hk' hb =>
  rename_i ds
  rw[List.nil_append]
  intro c hc
  rw[List.mem_singleton.1 hc]
  have s7:S7 (.seq (sw [lY] ft) (.seq .bump (gK k)))=true:=by
   show (S7 (sw [lY] ft)&&(true&&S7 (gK k)))=true
   rw[PM];rfl
  have g:=xU hb s7 ht (fun c hc=>by cases hc)
  refine⟨?_,hk⟩
  by_cases c7:k=7
  ·subst c7
   refine .mk 7 [] ds (fun _=>?_) (fun e=>absurd e (by decide)) (fun t ht=>(g t ht).2.1) (fun t ht=>(g t ht).2.2)
   obtain⟨t,r,hs⟩:∃t r,io ts=t::r:=by
    cases hs:io ts with
    | nil=>exact absurd hs hne
    | cons t r=>exact⟨t,r,rfl⟩
   have hmem:t∈ts:=jM (List.mem_append_right _ (by rw[hs];simp))
   have fin:∀{es:List az},ds=(ts.takeWhile dq).map cr++((io ts).take 1).map cr++es→∃(A:List Tok) (t:Tok) (r:List az),ds=A.map cr++cr t::r∧(∀a∈A,dq a=true)∧dq t=false∧100≤t.1∧(∀a∈A,100≤a.1)∧t.2≠[]:=fun {es} e=>by
    refine⟨ts.takeWhile dq,t,es,?_,fun a ha=>?_,BG hs,(ht t hmem).1,fun a ha=>(ht a (jM (List.mem_append_left _ ha))).1,(ht t hmem).2⟩
    ·rw[e,hs];simp
    ·exact Fm ha
   cases hb with
   | seq h1 h2 =>
    cases h2 with
    | seq h3 h4 =>
     cases h3
     obtain⟨es,he⟩:=K4 h4
     unfold sw at h1
     cases h1 with
     | fu _ h5 =>
      cases h5 with
      | seq h6 h7 =>
       cases h7
       cases h6
       rw[List.nil_append,List.append_assoc]at he
       exact fin he
     | d_ _ h5 =>
      cases h5
      rw[List.nil_append]at he
      exact fin he
  ·exact(nY hk c7 g).2.2 hk
end Pm
end

section
namespace ParF
open Go Go.Abs Go.Proofs Pm
theorem Hv {ts:List Tok}{es:List az}{t':List Tok}(h:oH ts es t'):∀{es2:List az}{t2:List Tok},oH ts es2 t2→es=es2∧t'=t2:=by
 induction h with
 | done ts hd =>
  intro es2 t2 h2
  cases h2 with
  | done=>exact⟨rfl,rfl⟩
  | step h=>exact absurd hd h
 | step h hi hr ih =>
  intro es2 t2 h2
  cases h2 with
  | done _ hd=>exact absurd hd h
  | step h3 hi3 hr3 =>
   obtain⟨-,rfl,e⟩:=na hi hi3
   obtain⟨rfl,rfl⟩:=ih hr3
   cases e
   exact⟨rfl,rfl⟩
end ParF
end

section
namespace ParF
open Go Go.Abs Go.Proofs Pm
theorem Hw {ts:List Tok}{b:Bool}{t1:List Tok}{cs':List az}(h:bP my ts [] b t1 cs')(hp:(pk ts).1≠100)(ht:∀t∈ts,100≤t.1∧t.2≠[]):∀c∈cs',Hr c∧c.kind<100:=by
 have hne:io ts≠[]:=by
  intro e
  apply hp
  unfold pk;rw[e];rfl
 unfold my at h
 cases h with
 | fu _ h=>exact jh (by decide) h hne ht
 | d_ _ h=>cases h with
  | fu _ h=>exact jh (by decide) h hne ht
  | d_ _ h=>cases h with
   | fu _ h=>exact jh (by decide) h hne ht
   | d_ _ h=>cases h with
    | fu _ h=>exact jh (by decide) h hne ht
    | d_ _ h=>cases h with
     | fu _ h=>exact jh (by decide) h hne ht
     | d_ _ h=>cases h with
      | fu _ h=>exact jh (by decide) h hne ht
      | d_ _ h=>cases h with
       | fu _ h=>exact jh (by decide) h hne ht
       | d_ _ h=>cases h with
        | fu _ h=>exact jh (by decide) h hne ht
        | d_ _ h =>
         unfold xm at h
         cases h with
         | node _ hk hb =>
          intro c hc
          rw[List.nil_append,List.mem_singleton]at hc
          rw[hc]
          exact⟨(nY hk (by decide) (xU hb rfl ht (fun c hc=>by cases hc))).2.2 hk,hk⟩
theorem Hy {ts:List Tok}{es:List az}{t':List Tok}(h:oH ts es t'):(∀t∈ts,100≤t.1∧t.2≠[])→∀c∈es,Hr c∧c.kind<100:=by
 induction h with
 | done ts hd=>intro _ c hc;cases hc
 | step h hi hr ih =>
  intro ht c hc
  rcases List.mem_cons.1 hc with e|hc
  ·rw[e];exact Hw hi h ht _ (List.mem_singleton.2 rfl)
  ·obtain⟨k,e⟩:=bm hi
   exact ih (fun t h2=>ht t (by rw[e]at h2;exact List.mem_of_mem_drop h2)) c hc
theorem K5 {l:Bytes}{T:az}(F:pn (LexF.gm l) T):Hr T:=by
 obtain⟨t',es,h1,h2,rfl,h4,h5⟩:=F
 obtain⟨es',e1,e2⟩:=K6 h1 rfl rfl
 rw[List.nil_append]at e1
 subst e1
 have hk:=rP l.length l (Nat.le_refl _)
 have htx:=LexF.Hz l.length l (Nat.le_refl _)
 have g:=Hy e2 (fun t ht=>⟨Nat.le_of_lt (hk t ht),htx t ht⟩)
 obtain⟨f1,f2,f3,f4⟩:=BD e2 (fun t ht=>by have:=hk t ht;omega)
 have lf:∀t∈t',t.1=101∨t.1=102:=fun t ht=>by simpa[dq] using f4 t ht
 refine .mk 1 [] _ (fun e=>absurd e (by decide)) (fun e=>absurd e (by decide)) (fun t ht e=>?_) (fun t ht e=>?_)
 ·rcases List.mem_append.1 ht with ht|ht
  ·have:=(g t ht).2;omega
  ·obtain⟨a,ha,rfl⟩:=List.mem_map.1 ht
   have:=lf a ha
   have e:a.1=103:=e
   omega
 ·rcases List.mem_append.1 ht with ht|ht
  ·exact(g t ht).1
  ·obtain⟨a,ha,rfl⟩:=List.mem_map.1 ht
   have:=lf a ha
   have e:a.1<100:=e
   omega
theorem HB (fl:Int→Bool)(base:Nat)(parent:Int)(loc:Bool){l:Bytes}(hl:l.length<100000){T:az}(F:pn (LexF.gm l) T) :
  ((ew fl base parent loc (kV l T).1).map Sy.start).Nodup:=by
 obtain⟨ok,src,sz,p60,lf,cs,hT⟩:=ie hl F
 have d:=K5 F
 have h1:=Bz l 0 T ok p60 d (by rw[hT];show 1<100;decide)
 have hk7:=Fj l 0 T p60 d (by rw[hT];show 1<100;decide) (by rw[hT];show (1:Nat)≠7;decide)
 have e:Ab (kV l T).1=Ab (aS l 0 T).1:=By _ _ _ hk7
 exact(by rw[e];exact h1.2:(Ab (kV l T).1).Nodup).sublist (xS fl base parent loc _)
end ParF
end
