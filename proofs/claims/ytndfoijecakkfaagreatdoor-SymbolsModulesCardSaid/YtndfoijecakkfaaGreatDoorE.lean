/- ParA0, ParA, ParB, ParB2, ParB3, ParB4, ParB5, ParS, ParS2, ParS3, ParS4, ParS5, ParS6, ParS7 -/
import Derived.Test.YtndfoijecakkfaaGreatDoorB
import Derived.Test.YtndfoijecakkfaaGreatDoorD
import Derived.Test.YtndfoijecakkfaaGreatDoorC
set_option linter.all false
set_option maxRecDepth 100000
set_option maxHeartbeats 1000000

section
namespace ParF
open Go Go.Abs Pm
abbrev I (n:Int):AV:=.int .i64 n
def nh (t:Tok):AV:=.agg [I t.1,.str t.2]
def o6 (tk:AV)(ts:List Tok):Prop:=(tk=.aN∧ts=[])∨∃T,tk=.sl T 2 (ts.map nh) .sh
mutual
inductive nT:az→AV→Prop
 | mk (k:Nat) (t:Bytes) (cs:List az) (ch:AV) (h:Jq cs ch):nT (.mk k t cs) (.agg [I k,.str t,ch])
inductive Jq:List az→AV→Prop
 | nil:Jq [] .aN
 | sl (cs:List az) (rows:List AV) (h:ou cs rows):Jq cs (.sl 89 3 rows .sh)
inductive ou:List az→List AV→Prop
 | nil:ou [] []
 | cons (t:az) (a:AV) (cs:List az) (rows:List AV) (h:nT t a) (h':ou cs rows):ou (t::cs) (a::rows)
end
mutual
theorem nT.a_:∀{t:az}{a:AV},nT t a→a.a_=true
 | _,_,.mk k t cs ch h=>by
  have:=Jq.a_ h
  rw[lm,aC,aC,aC,aY,eQ,eR,this];rfl
theorem Jq.a_:∀{cs:List az}{ch:AV},Jq cs ch→ch.a_=true
 | _,_,.nil=>by simp[AV.a_]
 | _,_,.sl cs rows h=>by rw[cE];exact ou.a_ h
theorem ou.a_:∀{cs:List az}{rows:List AV},ou cs rows→aV rows=true
 | _,_,.nil=>aY
 | _,_,.cons t a cs rows h k=>by rw[aC,nT.a_ h,ou.a_ k];rfl
end
theorem Jq.aa {cs:List az}{ch:AV}(h:Jq cs ch):ch.aa=ch∧gg ch=true∧ch.a_=true:=by
 refine⟨?_,?_,h.a_⟩
 ·cases h<;>rfl
 ·cases h<;>rfl
theorem nT.cells {t:az}{a:AV}(h:nT t a):a.cells.length=3∧a.cells.map AV.aa=a.cells∧a.cells.all gg=true∧a=.agg a.cells:=by
 cases h with
 | mk k t cs ch h =>
  obtain⟨h1,h2,h3⟩:=h.aa
  refine⟨rfl,?_,?_,rfl⟩
  ·show [(I k).aa,(AV.str t).aa,ch.aa]=_;rw[h1];rfl
  ·show (true&&(true&&(gg ch&&true)))=true;rw[h2];rfl
theorem ou.length:∀{cs:List az}{rows:List AV},ou cs rows→rows.length=cs.length
 | _,_,.nil=>rfl
 | _,_,.cons _ _ _ _ _ t=>by rw[List.length_cons,List.length_cons,ou.length t]
theorem ou.append:∀{cs ds:List az}{rows A6:List AV},ou cs rows→ou ds A6→ou (cs++ds) (rows++A6)
 | _,_,_,_,.nil,k=>k
 | _,_,_,_,.cons _ _ _ _ h t,k=>.cons _ _ _ _ h (ou.append t k)
theorem ou.snoc {cs:List az}{rows:List AV}{t:az}{a:AV}(h:ou cs rows)(k:nT t a):ou (cs++[t]) (rows++[a]):=h.append (.cons _ _ _ _ k .nil)
theorem ou.split:∀{cs ds:List az}{rows:List AV},ou (cs++ds) rows→∃r1 r2,rows=r1++r2∧ou cs r1∧ou ds r2
 | [],ds,rows,h=>⟨[],rows,rfl,.nil,h⟩
 | c::cs,ds,_,.cons _ a _ rows h t=>by
  obtain⟨r1,r2,e,h1,h2⟩:=ou.split (cs:=cs) t
  exact⟨a::r1,r2,by rw[e];rfl,.cons _ _ _ _ h h1,h2⟩
theorem ou.cells:∀{cs:List az}{rows:List AV},ou cs rows→(cellsOf rows).length=3*cs.length∧(cellsOf rows).map AV.aa=cellsOf rows∧(cellsOf rows).all gg=true∧chunks 3 cs.length (cellsOf rows)=rows
 | _,_,.nil=>⟨rfl,rfl,rfl,rfl⟩
 | _,_,.cons t a cs rows h k=>by
  obtain⟨h1,h2,h3,h4⟩:=h.cells
  obtain⟨k1,k2,k3,k4⟩:=k.cells
  have e:cellsOf (a::rows)=a.cells++cellsOf rows:=rfl
  rw[e]
  refine⟨by rw[List.length_append,h1,k1,List.length_cons];omega,by rw[List.map_append,h2,k2],by rw[List.all_append,h3,k3];rfl,?_⟩
  rw[List.length_cons,chunks,if_neg (by decide),List.take_append_of_le_length (by omega),List.take_of_length_le (by omega),List.drop_append_of_le_length (by omega),List.drop_of_length_le (by omega),List.nil_append,k4,←h4]
theorem fY (rows:List AV)(a:AV):cellsOf (rows++[a])=cellsOf rows++a.cells:=by
 rw[dY];congr 1;show a.cells++[]=a.cells;rw[List.append_nil]
theorem bu {s:ag}{i j:Nat}{v:TypeId×List AV}(h:i≠j):(s.set i v)[j]?=s[j]?:=List.getElem?_set_ne h
theorem bK {s:ag}{i:Nat}{v w:TypeId×List AV}(h:s[i]?=some w):(s.set i v)[i]?=some v:=List.getElem?_set_self (List.getElem?_eq_some_iff.1 h).1
theorem bE {s:ag}{x:TypeId×List AV}{j:Nat}(h:j<s.length):(s++[x])[j]?=s[j]?:=List.getElem?_append_left h
theorem aW {s:ag}{x:TypeId×List AV}:(s++[x])[s.length]?=some x:=by simp
theorem fS {s:ag}{i j:Nat}(h:i≠j):(kill s i)[j]?=s[j]?:=List.getElem?_set_ne h
theorem bw (s:ag)(i:Nat):(kill s i).length=s.length:=List.length_set
theorem bh (s:ag)(i:Nat)(v:TypeId×List AV):(s.set i v).length=s.length:=List.length_set
theorem aP (s:ag)(x:TypeId×List AV):(s++[x]).length=s.length+1:=by simp
theorem iN {s:ag}{i:Nat}{w:TypeId×List AV}(h:s[i]?=some w):i<s.length:=(List.getElem?_eq_some_iff.1 h).1
theorem ld {s:ag}{i o n:Nat}{ty:TypeId}{cs:List AV}{v:AV}(h:s[i]?=some (ty,cs))(ht:ty≠cI)(hv:cs[o]?=some v)(hn:n≠0):af false false n (.ref i o) s=some (v.aa,s):=by
 simp[af,jU,h,ht,hn,ff,hv]
theorem Jr {s:ag}{i o n:Nat}{ty:TypeId}{cs:List AV}(h:s[i]?=some (ty,cs))(ht:ty≠cI)(hv:o+n≤cs.length)(hn:n≠0):af false true n (.ref i o) s=some (.agg ((cs.drop o).take n),s):=by
 simp[af,jU,h,ht,hn,ff,hv]
theorem st {s:ag}{i o n:Nat}{ty:TypeId}{cs:List AV}{v:AV}(h:s[i]?=some (ty,cs))(ht:ty≠cI)(hs:v.ce=true)(hl:v.cells.length=n)(ho:o+n≤cs.length):aB n s (.ref i o) v=some (s.set i (ty,bZ cs o (dv v))):=by
 simp[aB,h,ht,hs,hl,ho]
structure Lv where
 k:Nat
 cs:List az
 id:Option Nat
def Lv.ch (l:Lv):AV:=match l.id with
 | none=>.aN
 | some i=>.rs 89 3 i 0 l.cs.length
def Lv.row (l:Lv):List AV:=[I l.k,.str [],l.ch]
def Lv.ok (s:ag)(l:Lv):Prop:=match l.id with
 | none=>l.cs=[]
 | some i=>∃rows junk,s[i]?=some (89,cellsOf rows++junk)∧ou l.cs rows∧cellsOf rows++junk≠[]
theorem Lv.fT {s s':ag}{l:Lv}(h:l.ok s)(k:∀i,l.id=some i→s'[i]?=s[i]?):l.ok s':=by
 unfold Lv.ok at *
 split at h
 ·exact h
 ·rename_i i hi
  obtain⟨rows,junk,h1,h2⟩:=h
  exact⟨rows,junk,(k i hi).trans h1,h2⟩
theorem eJ (fm:List Lv):(fm.flatMap Lv.row).length=3*fm.length:=by
 induction fm with
 | nil=>rfl
 | cons l fm ih=>rw[List.flatMap_cons,List.length_append,ih];show 3+3*fm.length=3*(fm.length+1);omega
structure PS (ts:List Tok)(P:Nat)(s:ag)(pos:Nat)(fm:List Lv)(J:List Nat):Prop where
 par:∃tk Q junk,o6 tk ts∧s[P]?=some (116,[tk,I pos,.rs 89 3 Q 0 fm.length])∧s[Q]?=some (89,fm.flatMap Lv.row++junk)∧J=P::Q::fm.filterMap Lv.id
 ok:∀l∈fm,l.ok s
 nd:J.Nodup
 pos:pos≤ts.length
 len:ts.length<50000000
structure Ex (s s':ag)(J J':List Nat):Prop where
 len:s.length≤s'.length
 fr:∀x,x<s.length→x∉J→s'[x]?=s[x]?
 sub:∀x,x∈J'→x∈J∨s.length≤x
theorem Ex.refl (s:ag)(J:List Nat):Ex s s J J:=⟨Nat.le_refl _,fun _ _ _=>rfl,fun _ h=>.inl h⟩
theorem Ex.trans {s s' s'':ag}{J J' J'':List Nat}(h:Ex s s' J J')(k:Ex s' s'' J' J''):Ex s s'' J J'':=by
 refine⟨Nat.le_trans h.len k.len,fun x hx hj=>?_,fun x hx=>?_⟩
 ·rw[k.fr x (Nat.lt_of_lt_of_le hx h.len) (fun hj'=>by
   rcases h.sub x hj' with h1|h1
   ·exact hj h1
   ·omega),h.fr x hx hj]
 ·rcases k.sub x hx with h1|h1
  ·exact h.sub x h1
  ·exact .inr (Nat.le_trans h.len h1)
theorem PS.frame {ts:List Tok}{P:Nat}{s s':ag}{pos:Nat}{fm:List Lv}{J:List Nat}(h:PS ts P s pos fm J)(k:∀x∈J,s'[x]?=s[x]?):PS ts P s' pos fm J:=by
 obtain⟨tk,Q,junk,h1,h2,h3,h4⟩:=h.par
 subst h4
 refine⟨⟨tk,Q,junk,h1,(k P (by simp)).trans h2,(k Q (by simp)).trans h3,rfl⟩,fun l hl=>Lv.fT (h.ok l hl) fun i hi=>k i ?_,h.nd,h.pos,h.len⟩
 exact List.mem_cons_of_mem _ (List.mem_cons_of_mem _ (List.mem_filterMap.2 ⟨l,hl,hi⟩))
theorem PS.lt {ts:List Tok}{P:Nat}{s:ag}{pos:Nat}{fm:List Lv}{J:List Nat}(h:PS ts P s pos fm J):∀x∈J,x<s.length:=by
 obtain⟨tk,Q,junk,h1,h2,h3,h4⟩:=h.par
 intro x hx
 rw[h4,List.mem_cons,List.mem_cons,List.mem_filterMap]at hx
 rcases hx with e|e|⟨l,hl,hi⟩
 ·rw[e];exact iN h2
 ·rw[e];exact iN h3
 ·have:=h.ok l hl
  unfold Lv.ok at this
  rw[hi]at this
  obtain⟨rows,junk,h1,h2⟩:=this
  exact iN h1
end ParF
end

section
namespace ParF
open Go Go.Abs Go.Proofs Pm
theorem jy:Tryz.prog.underlying 87=some (.slice 89):=by kernel_rfl
theorem sA {a:Nat}(h:a<2000000000):IntKind.i64.wrap (((a+1:Nat):Int)-1)=(a:Int):=by rw[wrap64]<;>omega
theorem gL {a:Nat}(h:a<2000000000):IntKind.i64.wrap ((a:Int)+1)=((a+1:Nat):Int):=by rw[wrap64]<;>omega
abbrev sR:AV:=.agg [I 0,.str [],.aN]
theorem vt:ak Tryz.prog 87 1 [(0,sR)]=some (.sl 89 3 [sR] .own):=by kernel_rfl
theorem Js:(Tryz.prog.info? 89).map (fun i=>(i.size,i.zero.map (·.cells.size),decide (i.bytes≤48)))=some (3,some 3,true):=by kernel_rfl
theorem iY (t z i o n:Nat):bN Tryz.prog 87 (.rs t z i o n)=some (I n):=by simp[bN,jy]
theorem xv:bN Tryz.prog 87 .aN=some (I 0):=by simp[bN,jy]
theorem OB (s:ag):bA Tryz.prog 87 87 .aN (.sl 89 3 [sR] .own) s=some (.rs 89 3 s.length 0 1,s++[(89,[I 0,.str [],.aN])]):=by
 have h:=Js
 cases hi:Tryz.prog.info? 89 with
 | none=>rw[hi]at h;cases h
 | some i =>
  rw[hi]at h
  simp only[Option.map_some,Option.some.injEq,Prod.mk.injEq,decide_eq_true_eq]at h
  obtain⟨h1,h2,h3⟩:=h
  cases hz:i.zero with
  | none=>rw[hz]at h2;cases h2
  | some zv =>
   rw[hz]at h2
   simp only[Option.map_some,Option.some.injEq]at h2
   have hb:mv i 1:=⟨by omega,by omega⟩
   simp[bA,jy,hi,iQ,h1,hz,h2,hb,cI,cellsOf,AV.cells]
theorem Jt {s:ag}{id len:Nat}{cs:List AV}(h:s[id]?=some (89,cs))(hl:len*3≤cs.length)(hne:cs≠[])(hn:len<1000000000) :
  bA Tryz.prog 87 87 (.rs 89 3 id 0 len) (.sl 89 3 [sR] .own) s=some (.rs 89 3 s.length 0 (len+1),kill s id++[(89,cs.take (len*3)++[I 0,.str [],.aN])]):=by
 have k:=Js
 cases hi:Tryz.prog.info? 89 with
 | none=>rw[hi]at k;cases k
 | some i =>
  rw[hi]at k
  simp only[Option.map_some,Option.some.injEq,Prod.mk.injEq,decide_eq_true_eq]at k
  obtain⟨h1,h2,h3⟩:=k
  cases hz:i.zero with
  | none=>rw[hz]at h2;cases h2
  | some zv =>
   rw[hz]at h2
   simp only[Option.map_some,Option.some.injEq]at h2
   have hb:mv i (len+1):=⟨by
    have:(2*(len+1)+768)*i.bytes≤(2*(len+1)+768)*48:=Nat.mul_le_mul_left _ h3
    omega,by omega⟩
   simp[bA,jy,hi,iQ,h1,hz,h2,hb,cI,cellsOf,AV.cells,h,hl,hne]
theorem eG (s:ag)(x y:TypeId×List AV):(s++[x]).set s.length y=s++[y]:=by
 rw[List.set_append_right _ _ (Nat.le_refl _),Nat.sub_self];rfl
theorem gp (l r z:List AV)(h:z.length=r.length):bZ (l++z) l.length r=l++r:=by
 rw[fM _ _ _ (by rw[List.length_append];omega),List.take_append_of_le_length (Nat.le_refl _),List.take_of_length_le (Nat.le_refl _),List.drop_of_length_le (by rw[List.length_append];omega),List.append_nil]
theorem Ju {s:ag}{l:Lv}(h:l.ok s){t:az}{a:AV}(ht:nT t a)(hn:l.cs.length<1000000000) :
  ∃s0 s1,bA Tryz.prog 87 87 l.ch (.sl 89 3 [sR] .own) s=some (.rs 89 3 s.length 0 (l.cs.length+1),s0)∧aB 3 s0 (.ref s.length (l.cs.length*3)) a=some s1∧s1.length=s.length+1∧s0.length=s.length+1 ∧
   (∀x,x<s.length→l.id≠some x→s1[x]?=s[x]?)∧(∀x,x<s.length→l.id≠some x→s0[x]?=s[x]?)∧Lv.ok s1 ⟨l.k,l.cs++[t],some s.length⟩:=by
 obtain⟨c1,c2,c3,c4⟩:=ht.cells
 have hs:a.ce=true:=by rw[c4];rfl
 have hst:dv a=a.cells:=by rw[c4];exact c2
 cases l with
 | mk k cs id =>
  cases id with
  | none =>
   have h:cs=[]:=h
   subst h
   have e2:aB 3 (s++[(89,[I 0,.str [],.aN])]) (.ref s.length 0) a=some (s++[(89,a.cells)]):=by
    rw[st aW (by decide) hs c1 (by decide),eG,hst]
    have:=gp [] a.cells [I 0,.str [],.aN] c1.symm
    rw[List.nil_append,List.nil_append]at this
    rw[show bZ [I 0,.str [],.aN] 0 a.cells=a.cells from this]
   refine⟨_,_,OB s,e2,aP _ _,aP _ _,fun x hx _=>bE hx,fun x hx _=>bE hx,[a],[],?_,.cons _ _ _ _ ht .nil,?_⟩
   ·rw[aW];show _=some (89,(a.cells++[])++[]);rw[List.append_nil,List.append_nil]
   ·show (a.cells++[])++[]≠[]
    intro e
    have:=congrArg List.length e
    simp[c1]at this
  | some i =>
   obtain⟨rows,junk,h1,h2,h3⟩:=h
   obtain⟨r1,r2,r3,r4⟩:=h2.cells
   have r1:(cellsOf rows).length=3*cs.length:=r1
   have hn:cs.length<1000000000:=hn
   have hlen:cs.length*3=(cellsOf rows).length:=by omega
   have e1:=Jt (len:=cs.length) h1 (by rw[List.length_append,←hlen];omega) h3 hn
   have tk:(cellsOf rows++junk).take (cs.length*3)=cellsOf rows:=by
    rw[List.take_append_of_le_length (by omega),List.take_of_length_le (by omega)]
   rw[tk]at e1
   have e2:aB 3 (kill s i++[(89,cellsOf rows++[I 0,.str [],.aN])]) (.ref s.length (cs.length*3)) a=some (kill s i++[(89,cellsOf rows++a.cells)]):=by
    have g:(kill s i++[(89,cellsOf rows++[I 0,.str [],.aN])])[s.length]?=some (89,cellsOf rows++[I 0,.str [],.aN]):=by
     have:=aW (s:=kill s i) (x:=(89,cellsOf rows++[I 0,.str [],.aN]))
     rw[bw]at this;exact this
    rw[st g (by decide) hs c1 (by rw[List.length_append];simp;omega),hst,hlen,gp _ _ _ (by rw[c1];rfl)]
    have:=eG (kill s i) (89,cellsOf rows++[I 0,.str [],.aN]) (89,cellsOf rows++a.cells)
    rw[bw]at this
    rw[this]
   have fr:∀(y:TypeId×List AV) (x:Nat),x<s.length→some i≠some x→(kill s i++[y])[x]?=s[x]?:=by
    intro y x hx hne
    rw[bE (by rw[bw];exact hx),fS (fun e=>hne (by rw[e]))]
   refine⟨_,_,e1,e2,by rw[aP,bw],by rw[aP,bw],fr _,fr _,rows++[a],[],?_,h2.snoc ht,?_⟩
   ·have:=aW (s:=kill s i) (x:=(89,cellsOf rows++a.cells))
    rw[bw]at this
    rw[fY,List.append_nil]
    exact this
   ·rw[fY,List.append_nil]
    intro e
    have:=congrArg List.length e
    rw[List.length_append,c1]at this
    simp at this
theorem gM (base:List Lv)(l:Lv):(base++[l]).flatMap Lv.row=base.flatMap Lv.row++l.row:=by simp
theorem vu {base:List Lv}{l:Lv}{junk:List AV}(j:Nat)(hj:j<3):((base++[l]).flatMap Lv.row++junk)[base.length*3+j]?=l.row[j]?:=by
 have hr:=eJ base
 rw[gM,List.append_assoc,List.getElem?_append_right (by omega),List.getElem?_append_left (by show _<3;omega)]
 congr 1;omega
theorem t_ {base:List Lv}{l:Lv}{junk:List AV}{x:AV}:bZ ((base++[l]).flatMap Lv.row++junk) (base.length*3+2) [x]=base.flatMap Lv.row++[I l.k,.str [],x]++junk:=by
 have hr:=eJ base
 have hp:(base.flatMap Lv.row++[I l.k,.str []]).length=base.length*3+2:=by rw[List.length_append,hr];show 3*base.length+2=_;omega
 have e:(base++[l]).flatMap Lv.row++junk=(base.flatMap Lv.row++[I l.k,.str []])++([l.ch]++junk):=by
  rw[gM];simp[Lv.row]
 have hp2:(base.flatMap Lv.row++[I l.k,.str []]++([l.ch]++junk)).length=base.length*3+2+(1+junk.length):=by rw[List.length_append,hp];simp;omega
 rw[e,←hp,fM _ _ _ (by rw[hp2,hp];simp)]
 rw[List.take_append_of_le_length (Nat.le_refl _),List.take_of_length_le (Nat.le_refl _)]
 rw[List.drop_append,List.drop_of_length_le (by simp),Nat.add_sub_cancel_left]
 simp
structure Fs (ts:List Tok)(P:Nat)(s:ag)(pos:Nat)(base:List Lv)(l:Lv)(tk:AV)(Q:Nat)(junk:List AV):Prop where
 pw:o6 tk ts
 par:s[P]?=some (116,[tk,I pos,.rs 89 3 Q 0 (base.length+1)])
 row:s[Q]?=some (89,(base++[l]).flatMap Lv.row++junk)
 ne:P≠Q
 iP:∀i∈base.filterMap Lv.id,i≠P∧i≠Q∧i<s.length∧l.id≠some i
 Jv:∀i,l.id=some i→i≠P∧i≠Q∧i<s.length
 nd:(base.filterMap Lv.id).Nodup
 ok:l.ok s
 Tl:∀l'∈base,l'.ok s
 pos:pos≤ts.length
 len:ts.length<50000000
def JJ (P Q:Nat)(base:List Lv)(l:Lv):List Nat:=P::Q::(base.filterMap Lv.id++l.id.toList)
theorem iZ (base:List Lv)(l:Lv):(base++[l]).filterMap Lv.id=base.filterMap Lv.id++l.id.toList:=by
 rw[List.filterMap_append]
 cases h:l.id<;>simp[h]
theorem PS.facts {ts:List Tok}{P pos:Nat}{s:ag}{base:List Lv}{l:Lv}{J:List Nat}(h:PS ts P s pos (base++[l]) J):∃tk Q junk,Fs ts P s pos base l tk Q junk∧J=JJ P Q base l:=by
 obtain⟨tk,Q,junk,h1,h2,h3,h4⟩:=h.par
 have hlt:=h.lt
 have nd:=h.nd
 rw[iZ]at h4
 rw[h4]at nd hlt
 rw[List.nodup_cons,List.nodup_cons,List.nodup_append]at nd
 obtain⟨n1,n2,n3,n4,n5⟩:=nd
 refine⟨tk,Q,junk,⟨h1,by rw[h2,List.length_append];rfl,h3,fun e=>n1 (by rw[e];exact List.mem_cons_self ..),fun i hi=>⟨fun e=>n1 ?_,fun e=>n2 ?_,hlt i ?_,fun e=>n5 i hi i (by rw[e];simp) rfl⟩,
  fun i hi=>⟨fun e=>n1 ?_,fun e=>n2 ?_,hlt i ?_⟩,n3,h.ok l (by simp),fun l' ov=>h.ok l' (by simp[ov]),h.pos,h.len⟩,h4⟩
 ·rw[←e];exact List.mem_cons_of_mem _ (List.mem_append_left _ hi)
 ·rw[←e];exact List.mem_append_left _ hi
 ·exact List.mem_cons_of_mem _ (List.mem_cons_of_mem _ (List.mem_append_left _ hi))
 ·rw[←e];exact List.mem_cons_of_mem _ (List.mem_append_right _ (by simp[hi]))
 ·rw[←e];exact List.mem_append_right _ (by simp[hi])
 ·exact List.mem_cons_of_mem _ (List.mem_cons_of_mem _ (List.mem_append_right _ (by simp[hi])))
theorem Fs.ps {ts:List Tok}{P pos:Nat}{s:ag}{base:List Lv}{l:Lv}{tk:AV}{Q:Nat}{junk:List AV}(h:Fs ts P s pos base l tk Q junk):PS ts P s pos (base++[l]) (JJ P Q base l):=by
 refine⟨⟨tk,Q,junk,h.pw,by rw[h.par,List.length_append];rfl,h.row,by rw[iZ];rfl⟩,fun l' ov=>?_,?_,h.pos,h.len⟩
 ·rw[List.mem_append,List.mem_singleton]at ov
  rcases ov with k|k
  ·exact h.Tl l' k
  ·rw[k];exact h.ok
 ·unfold JJ
  rw[List.nodup_cons,List.nodup_cons,List.nodup_append]
  have mem:∀i,i∈base.filterMap Lv.id++l.id.toList→i≠P∧i≠Q:=by
   intro i hi
   rw[List.mem_append]at hi
   rcases hi with k|k
   ·exact⟨(h.iP i k).1,(h.iP i k).2.1⟩
   ·rw[Option.mem_toList]at k;exact⟨(h.Jv i k).1,(h.Jv i k).2.1⟩
  refine⟨fun hm=>?_,fun hm=>(mem Q hm).2 rfl,h.nd,?_,fun i hi j hj e=>?_⟩
  ·rw[List.mem_cons]at hm
   rcases hm with k|k
   ·exact h.ne k
   ·exact(mem P k).1 rfl
  ·cases l.id<;>simp
  ·rw[Option.mem_toList]at hj
   exact(h.iP i hi).2.2.2 (by rw[hj,e])
theorem Tm {t i n:Nat}{k:Int}(h:0≤k∧k<n):aA Tryz.prog 87 (.rs t 3 i 0 n) (I k)=some (.ref i (0+k.toNat*3)):=by
 have hz:da Tryz.prog 89=some 3:=by kernel_rfl
 simp[aA,jy,hz,h]
theorem dD (t z i o n:Nat):(AV.rs t z i o n).aa=.rs t z i o n:=(rfl)
theorem lC (l:Lv):l.ch.aa=l.ch:=by unfold Lv.ch;cases l.id<;>rfl
theorem Tn {s:ag}{l:Lv}(h:l.ok s):bN Tryz.prog 87 l.ch=some (I l.cs.length):=by
 unfold Lv.ok at h
 unfold Lv.ch
 cases hi:l.id with
 | none=>rw[hi]at h;have h:l.cs=[]:=h;rw[h];exact xv
 | some i=>exact iY ..
theorem aF {D:a8}{g:FuncId}{args:List AV}{s:ag}(he:ah Tryz.prog g=true)(hn:aV args=false):ab Tryz.prog D g args s=D g args s:=by
 rw[ab,if_pos he,if_neg (by rw[hn];exact Bool.noConfusion)]
theorem a7 (i o:Nat)(l:List AV):aV (.ref i o::l)=false:=by rw[aC];simp[AV.a_]
theorem jz (t i n:Nat):aA Tryz.prog 87 (.rs t 3 i 0 (n+1)) (I n)=some (.ref i (n*3)):=by
 have:=Tm (t:=t) (i:=i) (n:=n+1) (k:=n) (by omega)
 simpa using this
theorem OC (l:Lv):oS l.ch=.app l.id:=by unfold Lv.ch;cases l.id<;>rfl
theorem y8 {ts:List Tok}{P pos:Nat}{s:ag}{base:List Lv}{l:Lv}{J:List Nat}(h:PS ts P s pos (base++[l]) J){t:az}{a:AV}(ht:nT t a)(hn:l.cs.length+base.length<1000000000) :
  ∃s' i' J',(∀n,ab Tryz.prog (den C (n+1)) 153 [.ref P 0,a] s=some (.aI [],s'))∧PS ts P s' pos (base++[⟨l.k,l.cs++[t],i'⟩]) J'∧Ex s s' J J':=by
 obtain⟨tk,Q,junk,f,rfl⟩:=h.facts
 obtain⟨s0,s1,a1,a2,l1,l0,f1,f0,ok1⟩:=Ju f.ok ht (by omega)
 obtain⟨c1,c2,c3,c4⟩:=ht.cells
 have hP:=iN f.par
 have hQ:=iN f.row
 have nP:l.id≠some P:=fun e=>(f.Jv P e).1 rfl
 have nQ:l.id≠some Q:=fun e=>(f.Jv Q e).2.1 rfl
 have q1:s1[Q]?=some (89,(base++[l]).flatMap Lv.row++junk):=(f1 Q hQ nQ).trans f.row
 have q0:s0[Q]?=some (89,(base++[l]).flatMap Lv.row++junk):=(f0 Q hQ nQ).trans f.row
 have bR:=eJ (base++[l])
 have hst:=st (s:=s1) (o:=base.length*3+2) (n:=1) (v:=.rs 89 3 s.length 0 (l.cs.length+1)) q1 (by decide) rfl rfl (by rw[List.length_append,bR,List.length_append];show _≤3*(base.length+1)+_;omega)
 have Dm:dv (.rs 89 3 s.length 0 (l.cs.length+1))=[AV.rs 89 3 s.length 0 (l.cs.length+1)]:=rfl
 rw[Dm,t_]at hst
 have hl:([⟨l.k,l.cs++[t],some s.length⟩]:List Lv).flatMap Lv.row=[I l.k,.str [],.rs 89 3 s.length 0 (l.cs.length+1)]:=by
  simp[Lv.row,Lv.ch]
 refine⟨s1.set Q (89,base.flatMap Lv.row++[I l.k,.str [],.rs 89 3 s.length 0 (l.cs.length+1)]++junk),some s.length,_,fun n=>?_,Fs.ps (tk:=tk) (Q:=Q) (junk:=junk) ⟨f.pw,?_,?_,f.ne,?_,?_,f.nd,?_,?_,f.pos,f.len⟩,?_⟩
 ·have p0:=ld (n:=1) (o:=2) f.par (by decide) rfl (by decide)
  have pch:=ld (n:=1) (o:=base.length*3+2) f.row (by decide) (vu 2 (by decide)) (by decide)
  have p0:af false false 1 (.ref P 2) s=some (.rs 89 3 Q 0 (base.length+1),s):=p0
  have pch:af false false 1 (.ref Q (base.length*3+2)) s=some (l.ch,s):=by rw[pch,lC]
  obtain⟨V3,rfl⟩:∃V3,a=.agg V3:=⟨_,c4⟩
  have abh:af false true 3 (.box V3 0) s=some (.agg V3,s):=by
   rw[nM _ _ _ _ _ (by have:V3.length=3:=c1;omega),List.drop_zero,List.take_of_length_le (by have:V3.length=3:=c1;omega)]
  rw[aF Xm (a7 ..),Nw,Xl]
  simp -implicitDefEqProofs only[sL,p0,pch,abh,dD,iY,sA (a:=base.length) (by omega),jz,SH,Tn f.ok,vt,a1,a2,hst,cM,OC,SI s.length Q (by omega)]
 ·rw[bu f.ne.symm,f1 P hP nP];exact f.par
 ·rw[bK q1,List.flatMap_append,hl]
 ·intro i hi
  obtain⟨k1,k2,k3,k4⟩:=f.iP i hi
  refine⟨k1,k2,by rw[bh,l1];omega,fun e=>?_⟩
  cases e;omega
 ·intro i hi
  cases hi
  exact⟨fun e=>by omega,fun e=>by omega,by rw[bh,l1];omega⟩
 ·exact Lv.fT ok1 fun i hi=>bu (by cases hi;omega)
 ·intro l' ov
  refine Lv.fT (f.Tl l' ov) fun i hi=>?_
  obtain⟨k1,k2,k3,k4⟩:=f.iP i (List.mem_filterMap.2 ⟨l',ov,hi⟩)
  rw[bu (Ne.symm k2),f1 i k3 k4]
 ·refine⟨by rw[bh,l1];omega,fun x hx hj=>?_,fun x hx=>?_⟩
  ·unfold JJ at hj
   simp only[List.mem_cons,List.mem_append,Option.mem_toList,not_or]at hj
   rw[bu (Ne.symm hj.2.1),f1 x hx hj.2.2.2]
  ·unfold JJ at hx ⊢
   simp only[List.mem_cons,List.mem_append,Option.mem_toList]at hx ⊢
   rcases hx with k|k|k|k
   ·exact .inl (.inl k)
   ·exact .inl (.inr (.inl k))
   ·exact .inl (.inr (.inr (.inl k)))
   ·cases k;exact .inr (Nat.le_refl _)
end ParF
end

section
namespace ParF
open Go Go.Abs Go.Proofs Pm
def AN (N:Nat)(g:FuncId)(args:List AV)(v:AV):Prop:=∀n,N≤n→∀s,ab Tryz.prog (den C n) g args s=some (v,s)
theorem AN.intro {N:Nat}{g:FuncId}{args:List AV}{v:AV}(he:ah Tryz.prog g=true)(hn:aV args=true)(hv:v.a_=true)(h:∀n,N≤n→∃s1,den C (n+1) g args []=some (v,s1)):AN (N+1) g args v:=by
 intro n RW s
 obtain⟨m,rfl⟩:∃m,n=m+1:=⟨n-1,by omega⟩
 obtain⟨s1,h1⟩:=h m (by omega)
 simp[ab,he,hn,h1,hv]
theorem AN.of {N:Nat}{g:FuncId}{args:List AV}{v:AV}(h:AN N g args v){n:Nat}(hn:N≤n)(s:ag):ab Tryz.prog (den C n) g args s=some (v,s):=h n hn s
theorem qz (k:Nat):AN 1 108 [I k] (.bool (k==101 || k==102)):=by
 refine .intro W7 rfl rfl fun n _=>⟨[],?_⟩
 have e1:((k:Int)==101)=(k==101):=by rw[Bool.eq_iff_iff];simp;omega
 have e2:((k:Int)==102)=(k==102):=by rw[Bool.eq_iff_iff];simp;omega
 rw[Nl,W6]
 cases h:(k==101) with
 | true =>
  simp -implicitDefEqProofs only[sL,e1,h,e2,Bool.true_or,Ep]
  simp[h]
 | false =>
  simp -implicitDefEqProofs only[sL,e1,h,e2,Bool.false_or,Ep]
  simp[h,e2]
theorem y9:Tryz.prog.underlying 111=some (.slice 147):=by kernel_rfl
theorem ni:Tryz.prog.underlying 75=some (.slice 9):=by kernel_rfl
theorem abi:da Tryz.prog 147=some 2:=by kernel_rfl
theorem To:da Tryz.prog 9=some 1:=by kernel_rfl
theorem i_ {tk:AV}{ts:List Tok}(h:o6 tk ts):bN Tryz.prog 111 tk=some (I ts.length):=by
 rcases h with ⟨rfl,rfl⟩|⟨T,rfl⟩
 ·simp[bN,y9]
 ·simp[bN,y9]
theorem qA {tk:AV}{ts:List Tok}(h:o6 tk ts){i:Nat}(hi:i<ts.length):aA Tryz.prog 111 tk (I i)=some (.box [I ts[i].1,.str ts[i].2] 0):=by
 rcases h with ⟨rfl,rfl⟩|⟨T,rfl⟩
 ·simp at hi
 ·simp[aA,y9,abi,hi,nh]
theorem mc {tk:AV}{ts:List Tok}(h:o6 tk ts):tk.aa=tk:=by
 rcases h with ⟨rfl,rfl⟩|⟨T,rfl⟩<;>rfl
structure Ci (ts:List Tok)(P:Nat)(s:ag)(pos:Nat)(tk st:AV):Prop where
 pw:o6 tk ts
 par:s[P]?=some (116,[tk,I pos,st])
 pos:pos≤ts.length
 len:ts.length<50000000
theorem Ci.app {ts:List Tok}{P:Nat}{s:ag}{pos:Nat}{tk st:AV}(h:Ci ts P s pos tk st)(t:ag):Ci ts P (s++t) pos tk st :=
 ⟨h.pw,by rw[List.getElem?_append_left (iN h.par)];exact h.par,h.pos,h.len⟩
theorem Ci.Mk {ts:List Tok}{P:Nat}{s:ag}{pos:Nat}{tk st:AV}(h:Ci ts P s pos tk st):af false false 1 (.ref P 0) s=some (tk,s):=by
 rw[ld (o:=0) h.par (by decide) rfl (by decide),mc h.pw]
theorem Ci.ld1 {ts:List Tok}{P:Nat}{s:ag}{pos:Nat}{tk st:AV}(h:Ci ts P s pos tk st):af false false 1 (.ref P 1) s=some (I pos,s):=by
 rw[ld (o:=1) h.par (by decide) rfl (by decide)];rfl
theorem ua (t:Tok):dq t=(t.1==101 || t.1==102):=rfl
theorem OD {ts:List Tok}{i:Nat}(h:i<ts.length)(ht:dq ts[i]=true):pk (ts.drop i)=pk (ts.drop (i+1)):=by
 rw[List.drop_eq_getElem_cons h,pk,io,List.dropWhile_cons,if_pos ht];rfl
theorem Tp {ts:List Tok}{i:Nat}(h:i<ts.length)(ht:dq ts[i]=false):pk (ts.drop i)=ts[i]:=by
 rw[List.drop_eq_getElem_cons h,pk,io,List.dropWhile_cons,if_neg (by rw[ht];exact Bool.noConfusion)];rfl
theorem Tq {ts:List Tok}:pk (ts.drop ts.length)=(100,[]):=by rw[List.drop_length];rfl
theorem cz:bH Tryz.prog 147=fun s=>some (.ref s.length 0,s++[(147,[I 0,.str []])]):=by
 have h:zeroOf Tryz.prog 147=some (.agg [I 0,.str []]):=by kernel_rfl
 funext s
 simp[bH,h]
theorem OE:bn Tryz.prog 147 [(0,I 100)]=some (.agg [I 100,.str []]):=by kernel_rfl
theorem GD {ts:List Tok}{P:Nat}{s:ag}{pos:Nat}{tk OF:AV}(h:Ci ts P s pos tk OF){L:Nat}{c0:List AV}(hL:s[L]?=some (147,c0))(hc:c0.length=2){n:Nat}(hn:1≤n) :
  ∀(k i:Nat),ts.length-i≤k→i≤ts.length→∀m,k<m→∀n' e,e 0=.ref P 0→e 2=.ref L 0→e 3=I i →
  aJ (u7 (den C n) n') m e s=some (nh (pk (ts.drop i)),s.set L (147,[I (pk (ts.drop i)).1,.str (pk (ts.drop i)).2])):=by
 have fin:∀t:Tok,aB 2 s (.ref L 0) (.agg [I t.1,.str t.2])=some (s.set L (147,[I t.1,.str t.2])):=by
  intro t
  rw[ParF.st (o:=0) (n:=2) (v:=.agg [I t.1,.str t.2]) hL (by decide) rfl rfl (by omega)]
  show some (s.set L (147,bZ c0 0 [I t.1,.str t.2]))=_
  have:=gp [] [I t.1,.str t.2] c0 (by rw[hc];rfl)
  rw[List.nil_append,List.nil_append]at this
  rw[show bZ c0 0 [I t.1,.str t.2]=_ from this]
 have YI:∀t:Tok,af false true 2 (.ref L 0) (s.set L (147,[I t.1,.str t.2]))=some (.agg [I t.1,.str t.2],s.set L (147,[I t.1,.str t.2])):=fun t=>Jr (bK hL) (by decide) (by show 2≤2;omega) (by decide)
 have out:∀i,i≤ts.length→(i=ts.length∨∃h:i<ts.length,dq ts[i]=false)→∀m,0<m→∀n' e,e 0=.ref P 0→e 2=.ref L 0→e 3=I i →
   aJ (u7 (den C n) n') m e s=some (nh (pk (ts.drop i)),s.set L (147,[I (pk (ts.drop i)).1,.str (pk (ts.drop i)).2])):=by
  intro i hi ho m hm n' e eM kK wL
  obtain⟨m,rfl⟩:∃j,m=j+1:=⟨m-1,by omega⟩
  rw[aJ,u7]
  rcases ho with rfl|⟨hlt,ht⟩
  ·rw[Tq]
   have f1:aB 2 s (.ref L 0) (.agg [I 100,.str []])=some (s.set L (147,[I 100,.str []])):=fin (100,[])
   have f2:af false true 2 (.ref L 0) (s.set L (147,[I 100,.str []]))=some (.agg [I 100,.str []],s.set L (147,[I 100,.str []])):=YI (100,[])
   simp -implicitDefEqProofs only[sL,eM,kK,wL,h.Mk,i_ h.pw,Nat.lt_irrefl,decide_false,beq_self_eq_true,OE,f1,f2]
   rfl
  ·rw[Tp hlt ht]
   have e0:=qA h.pw hlt
   have tv:=(qz ts[i].1).of hn s
   rw[ua]at ht
   rw[ht]at tv
   have e3:((i:Int)==((ts.length:Nat):Int))=false:=by simp;omega
   have b2:af false true 2 (.box [I ts[i].1,.str ts[i].2] 0) s=some (.agg [I ts[i].1,.str ts[i].2],s):=rfl
   simp -implicitDefEqProofs only[sL,eM,kK,wL,h.Mk,i_ h.pw,hlt,decide_true,e0,tv,e3,b2,fin ts[i],YI ts[i]]
   rfl
 intro k
 induction k with
 | zero=>intro i hk hi;exact out i hi (.inl (by omega))
 | succ k ih =>
  intro i hk hi m hm n' e eM kK wL
  by_cases hlt:i<ts.length
  ·cases ht:dq ts[i] with
   | false=>exact out i hi (.inr ⟨hlt,ht⟩) m (by omega) n' e eM kK wL
   | true =>
    rw[OD hlt ht]
    obtain⟨m,rfl⟩:∃j,m=j+1:=⟨m-1,by omega⟩
    have e0:=qA h.pw hlt
    have tv:=(qz ts[i].1).of hn s
    rw[ua]at ht
    rw[ht]at tv
    have hl:=h.len
    rw[aJ,u7]
    simp -implicitDefEqProofs only[sL,eM,kK,wL,h.Mk,i_ h.pw,hlt,decide_true,e0,tv,gL (a:=i) (by omega)]
    exact ih (i+1) (by omega) (by omega) m (by omega) n' _ (by simp[ai,an,eM]) (by simp[ai,an,kK]) (by simp[ai,an])
  ·exact out i hi (.inl (by omega)) m (by omega) n' e eM kK wL
theorem kb {ts:List Tok}{P:Nat}{s:ag}{pos:Nat}{tk st:AV}(h:Ci ts P s pos tk st){n:Nat}(hn:ts.length+5≤n):∃t,ab Tryz.prog (den C n) 98 [.ref P 0] s=some (nh (pk (ts.drop pos)),s++t):=by
 obtain⟨n,rfl⟩:∃j,n=j+1:=⟨n-1,by omega⟩
 have h':=h.app [(147,[I 0,.str []])]
 refine⟨[(147,[I (pk (ts.drop pos)).1,.str (pk (ts.drop pos)).2])],?_⟩
 rw[aF abe (a7 ..),Sr,F98]
 simp -implicitDefEqProofs only[sL,cz,h'.ld1]
 rw[GD h' aW rfl (by omega) (ts.length-pos) pos (Nat.le_refl _) h.pos n (by omega) n _ (by simp[ai,an,aH]) (by simp[ai,an]) (by simp[ai,an]),eG]
end ParF
end

section
namespace ParF
open Go Go.Abs Go.Proofs Pm
abbrev strs (xs:List Bytes):AV:=.sl 9 1 (xs.map .str) .sh
theorem cR (xs:List Bytes):aV (xs.map .str)=true:=by induction xs with
 | nil=>rfl
 | cons x xs ih=>show aV (.str x::xs.map .str)=true;rw[aC,ih];rfl
theorem cD (a:Bytes):ak Tryz.prog 75 1 [(0,.str a)]=some (.sl 9 1 [.str a] .own):=by
 have hz:(Tryz.prog.info? 9).bind (·.zero)=some (.string ⟨#[]⟩):=by kernel_rfl
 simp[ak,ni,To,hz,k7,AV.cells,Value.cells]
theorem cW (a b:Bytes):ak Tryz.prog 75 2 [(0,.str a),(1,.str b)]=some (.sl 9 1 [.str a,.str b] .own):=by
 have hz:(Tryz.prog.info? 9).bind (·.zero)=some (.string ⟨#[]⟩):=by kernel_rfl
 simp[ak,ni,To,hz,k7,AV.cells,Value.cells]
theorem cT (a b c:Bytes):ak Tryz.prog 75 3 [(0,.str a),(1,.str b),(2,.str c)]=some (.sl 9 1 [.str a,.str b,.str c] .own):=by
 have hz:(Tryz.prog.info? 9).bind (·.zero)=some (.string ⟨#[]⟩):=by kernel_rfl
 simp[ak,ni,To,hz,k7,AV.cells,Value.cells]
theorem Jw {xs:List Bytes}{i:Nat}(h:i<xs.length):aA Tryz.prog 75 (strs xs) (I i)=some (.box [.str xs[i]] 0):=by
 simp[aA,ni,To,h,AV.cells]
theorem Tr (xs:List Bytes):bN Tryz.prog 75 (strs xs)=some (I xs.length):=by simp[bN,ni]
def ke (xs:List Bytes)(w:Bytes)(i:Nat):Int:=match (xs.drop i).idxOf? w with
 | some k=>((i+k:Nat):Int)
 | none=>-1
theorem GF {xs:List Bytes}{w:Bytes}{i:Nat}(h:i<xs.length)(e:w=xs[i]):ke xs w i=i:=by
 unfold ke
 rw[List.drop_eq_getElem_cons h,List.idxOf?_cons]
 simp[e]
theorem Dn {xs:List Bytes}{w:Bytes}{i:Nat}(h:i<xs.length)(e:w≠xs[i]):ke xs w i=ke xs w (i+1):=by
 unfold ke
 rw[List.drop_eq_getElem_cons h,List.idxOf?_cons]
 have:(xs[i]==w)=false:=by simp;exact fun h=>e h.symm
 rw[this]
 cases(xs.drop (i+1)).idxOf? w with
 | none=>simp
 | some k=>simp;omega
theorem o7 {xs:List Bytes}{w:Bytes}(hl:xs.length<1000){n:Nat}:∀(k i:Nat),xs.length-i≤k→i≤xs.length→∀m,k<m→∀n' e s,e 0=strs xs→e 1=.str w→e 7=I xs.length→e 8=I i →
  aJ (iK (den C n) n') m e s=some (I (ke xs w i),s):=by
 have out:∀m,0<m→∀n' e s,e 0=strs xs→e 1=.str w→e 7=I xs.length→e 8=I xs.length→aJ (iK (den C n) n') m e s=some (I (ke xs w xs.length),s):=by
  intro m hm n' e s h0 h1 h7 h8
  obtain⟨m,rfl⟩:∃j,m=j+1:=⟨m-1,by omega⟩
  have:ke xs w xs.length=-1:=by unfold ke;rw[List.drop_length];rfl
  rw[aJ,iK,this]
  simp -implicitDefEqProofs only[sL,h7,h8,Nat.lt_irrefl,decide_false]
 intro k
 induction k with
 | zero =>
  intro i hk hi m hm n' e s h0 h1 h7 h8
  have:i=xs.length:=by omega
  subst this;exact out m hm n' e s h0 h1 h7 h8
 | succ k ih =>
  intro i hk hi m hm n' e s h0 h1 h7 h8
  by_cases hlt:i<xs.length
  ·obtain⟨m,rfl⟩:∃j,m=j+1:=⟨m-1,by omega⟩
   rw[aJ,iK]
   by_cases e':w=xs[i]
   ·rw[GF hlt e']
    have hs:(strs xs).aa=strs xs:=rfl
    simp -implicitDefEqProofs only[sL,hs,h0,h1,h7,h8,hlt,decide_true,Jw hlt,e',beq_self_eq_true]
   ·rw[Dn hlt e']
    have hs:(strs xs).aa=strs xs:=rfl
    simp -implicitDefEqProofs only[sL,hs,h0,h1,h7,h8,hlt,decide_true,Jw hlt,beq_eq_false_iff_ne.2 e',gL (a:=i) (by omega)]
    exact ih (i+1) (by omega) (by omega) m (by omega) n' _ s (by simp[ai,an,h0]) (by simp[ai,an,h1]) (by simp[ai,an,h7]) (by simp[ai,an])
  ·have:i=xs.length:=by omega
   subst this;exact out m (by omega) n' e s h0 h1 h7 h8
theorem lD (xs:List Bytes)(w:Bytes)(hl:xs.length<50):AN 60 136 [strs xs,.str w] (I (ke xs w 0)):=by
 refine .intro (N:=59) Jc (by rw[aC,aC,aY,cE,cR,eR];rfl) (by rfl) fun n hn=>⟨[],?_⟩
 have hs:(strs xs).aa=strs xs:=rfl
 rw[yP,Jb]
 simp -implicitDefEqProofs only[sL,hs,Tr]
 rw[o7 (xs:=xs) (w:=w) (by omega) xs.length 0 (by omega) (by omega) n (by omega) n _ [] (by simp[ai,an,aH]) (by simp[ai,an,aH]) (by simp[ai,an]) (by simp[ai,an])]
theorem Jy (xs:List Bytes)(w:Bytes):decide (0≤ke xs w 0)=xs.contains w:=by
 unfold ke
 rw[List.drop_zero]
 cases h:xs.idxOf? w with
 | none =>
  have:w∉xs:=by simpa[List.idxOf?_eq_none_iff] using h
  simp[this]
 | some k =>
  have:w∈xs:=by
   refine Classical.byContradiction fun hn=>?_
   rw[List.idxOf?_eq_none_iff.2 hn]at h;cases h
  simp[this]
theorem jA (xs:List Bytes)(w:Bytes)(hl:xs.length<50):AN 62 93 [strs xs,.str w] (.bool (xs.contains w)):=by
 refine .intro (N:=61) Td (by rw[aC,aC,aY,cE,cR,eR];rfl) (by rfl) fun n hn=>⟨[],?_⟩
 have q:=(lD xs w hl).of (n:=n) (by omega)
 have hs:(strs xs).aa=strs xs:=rfl
 rw[C6,YA]
 simp -implicitDefEqProofs only[sL,hs,q]
 rw[Jy]
def Rd (ts:List Tok)(f:FuncId)(args:Nat→List AV)(v:List Tok→AV):Prop:=∀n,ts.length+80≤n→∀P s pos tk st,Ci ts P s pos tk st→∃t,ab Tryz.prog (den C n) f (args P) s=some (v (ts.drop pos),s++t)
theorem nU (a b:AV):lL Tryz.prog 147 0 (.agg [a,b])=some a.aa:=by
 have hu:(match Tryz.prog.underlying 147 with|some (.struct fs)=>fs[0]?.map fun x=>(jk Tryz.prog x.type,da Tryz.prog x.type,x.offset)|_=>none)=some (some false,some 1,0):=by kernel_rfl
 unfold lL
 simp only
 split at hu
 ·rename_i fs h
  rw[h]
  simp only
  cases hx:fs[0]? with
  | none=>rw[hx]at hu;cases hu
  | some x =>
   rw[hx]at hu
   simp only[Option.map_some,Option.some.injEq,Prod.mk.injEq]at hu
   obtain⟨h1,h2,h3⟩:=hu
   simp[h1,h2,h3,ff]
 ·cases hu
theorem cN {ts:List Tok}(xs:List Bytes)(hl:xs.length<50):Rd ts 99 (fun P=>[.ref P 0,strs xs]) fun r=>.bool (eN xs (pk r)):=by
 intro n hn P s pos tk st h
 obtain⟨n,rfl⟩:∃j,n=j+1:=⟨n-1,by omega⟩
 obtain⟨t,e1⟩:=kb h (n:=n) (by omega)
 show ∃t,ab Tryz.prog (den C (n+1)) 99 [.ref P 0,strs xs] s=some (AV.bool (eN xs (pk (ts.drop pos))),s++t)
 generalize pk (ts.drop pos)=x at e1 ⊢
 refine⟨t++[(147,[I x.1,.str x.2])],?_⟩
 rw[aF abf (a7 ..),Su,F99,←List.append_assoc]
 generalize s++t=s1 at *
 have l0:af false false 1 (.ref s1.length 0) (s1++[(147,[I x.1,.str x.2])])=some (I x.1,s1++[(147,[I x.1,.str x.2])]):=by rw[ld (o:=0) aW (by decide) rfl (by decide)];rfl
 have l1:af false false 1 (.ref s1.length 1) (s1++[(147,[I x.1,.str x.2])])=some (.str x.2,s1++[(147,[I x.1,.str x.2])]):=by rw[ld (o:=1) aW (by decide) rfl (by decide)];rfl
 have dZ:aB 2 (s1++[(147,[I 0,.str []])]) (.ref s1.length 0) (nh x)=some (s1++[(147,[I x.1,.str x.2])]):=by
  rw[ParF.st (o:=0) (n:=2) (v:=nh x) aW (by decide) rfl rfl (by show 0+2≤2;omega),eG];rfl
 have c:=(jA xs x.2 hl).of (n:=n) (by omega) (s1++[(147,[I x.1,.str x.2])])
 have k1:((x.1:Int)==104)=(x.1==104):=by rw[Bool.eq_iff_iff];simp;omega
 have k2:((x.1:Int)==107)=(x.1==107):=by rw[Bool.eq_iff_iff];simp;omega
 have hs:(strs xs).aa=strs xs:=rfl
 unfold eN
 cases b1:(x.1==104) with
 | true=>simp -implicitDefEqProofs only[sL,e1,cz,dZ,l0,k1,b1,hs,l1,c,Bool.true_or,Bool.true_and]
 | false =>
  cases b2:(x.1==107) with
  | true=>simp -implicitDefEqProofs only[sL,e1,cz,dZ,l0,k1,k2,b1,b2,hs,l1,c,Bool.false_or,Bool.true_and]
  | false=>simp -implicitDefEqProofs only[sL,e1,cz,dZ,l0,k1,k2,b1,b2,hs,l1,c,Bool.false_or,Bool.false_and]
end ParF
end

section
namespace ParF
open Go Go.Abs Go.Proofs Pm
def PR (ts:List Tok)(P:Nat)(s:ag)(rest:List Tok)(base:List Lv)(k:Nat)(cs:List az)(J:List Nat):Prop :=
 ∃pos i,rest=ts.drop pos∧PS ts P s pos (base++[⟨k,cs,i⟩]) J
theorem PS.xw {ts:List Tok}{P:Nat}{s:ag}{pos:Nat}{fm:List Lv}{J:List Nat}(h:PS ts P s pos fm J):∃tk st,Ci ts P s pos tk st:=by
 obtain⟨tk,Q,junk,h1,h2,h3,h4⟩:=h.par
 exact⟨tk,_,h1,h2,h.pos,h.len⟩
theorem PS.app {ts:List Tok}{P:Nat}{s:ag}{pos:Nat}{fm:List Lv}{J:List Nat}(h:PS ts P s pos fm J)(t:ag):PS ts P (s++t) pos fm J :=
 h.frame fun x hx=>List.getElem?_append_left (h.lt x hx)
theorem Ex.app (s t:ag)(J:List Nat):Ex s (s++t) J J:=⟨by simp,fun x hx _=>List.getElem?_append_left hx,fun _ h=>.inl h⟩
theorem PR.app {ts:List Tok}{P:Nat}{s:ag}{rest:List Tok}{base:List Lv}{k:Nat}{cs:List az}{J:List Nat}(h:PR ts P s rest base k cs J)(t:ag):PR ts P (s++t) rest base k cs J:=by
 obtain⟨pos,i,e,h⟩:=h;exact⟨pos,i,e,h.app t⟩
theorem Rd.use {ts:List Tok}{f:FuncId}{args:Nat→List AV}{v:List Tok→AV}(q:Rd ts f args v){n:Nat}(hn:ts.length+80≤n){P:Nat}{s:ag}{rest:List Tok}{base:List Lv}{k:Nat}{cs:List az}{J:List Nat}
  (h:PR ts P s rest base k cs J):∃s',ab Tryz.prog (den C n) f (args P) s=some (v rest,s')∧PR ts P s' rest base k cs J∧Ex s s' J J:=by
 obtain⟨pos,i,rfl,h⟩:=h
 obtain⟨tk,st,r⟩:=h.xw
 obtain⟨t,e⟩:=q n hn P s pos tk st r
 exact⟨_,e,⟨pos,i,rfl,h.app t⟩,.app s t J⟩
theorem OG (x y:AV)(hx:x.cells=[x])(hy:y.cells=[y])(sx:x.aa=x)(sy:y.aa=y)(ox:x.ce=true)(oy:y.ce=true):bn Tryz.prog 89 [(0,x),(1,y)]=some (.agg [x,y,.aN]):=by
 have hz:zeroOf Tryz.prog 89=some (.agg [I 0,.str [],.aN]):=by kernel_rfl
 have hu:(match Tryz.prog.underlying 89 with|some (.struct fs)=>dN Tryz.prog fs.toList|_=>none)=some [(0,1),(1,1),(2,1)]:=by kernel_rfl
 unfold bn
 split at hu
 ·rename_i fs h
  rw[hz,h]
  simp[hu,jo,hx,hy,bZ,sx,sy,ox,oy]
 ·cases hu
theorem iD (x:AV)(hx:x.cells=[x])(sx:x.aa=x)(ox:x.ce=true):bn Tryz.prog 89 [(0,x)]=some (.agg [x,.str [],.aN]):=by
 have hz:zeroOf Tryz.prog 89=some (.agg [I 0,.str [],.aN]):=by kernel_rfl
 have hu:(match Tryz.prog.underlying 89 with|some (.struct fs)=>dN Tryz.prog fs.toList|_=>none)=some [(0,1),(1,1),(2,1)]:=by kernel_rfl
 unfold bn
 split at hu
 ·rename_i fs h
  rw[hz,h]
  simp[hu,jo,hx,bZ,sx,ox]
 ·cases hu
theorem Ts {ts:List Tok}{P:Nat}{s:ag}{pos pos':Nat}{fm:List Lv}{J:List Nat}(h:PS ts P s pos fm J)(hp:pos'≤ts.length):∃s',aB 1 s (.ref P 1) (I pos')=some s'∧PS ts P s' pos' fm J∧Ex s s' J J:=by
 obtain⟨tk,Q,junk,h1,h2,h3,h4⟩:=h.par
 have nd:=h.nd
 rw[h4,List.nodup_cons,List.nodup_cons]at nd
 have hPQ:P≠Q:=fun e=>nd.1 (by rw[e];exact List.mem_cons_self ..)
 refine⟨_,st (n:=1) (o:=1) (v:=I pos') h2 (by decide) rfl rfl (by show 2≤3;omega),⟨⟨tk,Q,junk,h1,bK h2,(bu hPQ).trans h3,h4⟩,fun l hl=>Lv.fT (h.ok l hl) fun i hi=>bu fun e=>?_,h.nd,hp,h.len⟩,⟨by rw[bh];exact Nat.le_refl _,fun x hx hj=>bu fun e=>hj ?_,fun _ h=>.inl h⟩⟩
 ·rw[e]at nd
  exact nd.1 (List.mem_cons_of_mem _ (List.mem_filterMap.2 ⟨l,hl,hi⟩))
 ·rw[h4,←e];exact List.mem_cons_self ..
theorem Jz (t:Tok):nT (cr t) (.agg [I t.1,.str t.2,.aN]):=.mk _ _ _ _ .nil
theorem qB {ts:List Tok}{P pos:Nat}{s:ag}{base:List Lv}{l:Lv}{J:List Nat}(h:PS ts P s pos (base++[l]) J)(hp:pos<ts.length)(hn:l.cs.length+base.length<1000000000) :
  ∃s' i' J',(∀n,ab Tryz.prog (den C (n+3)) 109 [.ref P 0] s=some (.aI [],s'))∧PS ts P s' (pos+1) (base++[⟨l.k,l.cs++[cr ts[pos]],i'⟩]) J'∧Ex s s' J J':=by
 obtain⟨tk,OF,r⟩:=h.xw
 obtain⟨s1,i1,J1,a1,p1,x1⟩:=y8 h (Jz ts[pos]) hn
 obtain⟨zY,gw,r'⟩:=p1.xw
 obtain⟨s2,a2,p2,x2⟩:=Ts p1 (pos':=pos+1) (by omega)
 refine⟨s2,i1,J1,fun n=>?_,p2,x1.trans x2⟩
 have e1:=a1 (n+1)
 have b:=OG (I ts[pos].1) (.str ts[pos].2) rfl rfl rfl rfl rfl rfl
 have hl:=h.len
 rw[aF W9 (a7 ..),Nn,W8]
 have nr:aV [AV.ref P 0,.agg [I ts[pos].1,.str ts[pos].2,.aN]]=false:=a7 ..
 simp -implicitDefEqProofs only[sL,r.Mk,r.ld1,qA r.pw hp,b,e1,r'.ld1,gL (a:=pos) (by omega),a2,nr,Bool.false_eq_true,ite_false,SB]
theorem drop_cons {ts:List Tok}{i:Nat}(h:i<ts.length):ts.drop i=ts[i]::ts.drop (i+1):=List.drop_eq_getElem_cons h
theorem GG {ts:List Tok}{P:Nat}{base:List Lv}{kd n:Nat}(hn:5≤n):∀(k pos:Nat),ts.length-pos≤k→∀(m:Nat),k<m→∀n' e s cs i J,e 0=.ref P 0→PS ts P s pos (base++[⟨kd,cs,i⟩]) J→cs.length+k+base.length<1000000000 →
  ∃s' i' J' pos',aJ (u6 (den C n) n') m e s=some (.aI [],s')∧ts.drop pos'=io (ts.drop pos)∧PS ts P s' pos' (base++[⟨kd,cs++((ts.drop pos).takeWhile dq).map cr,i'⟩]) J'∧Ex s s' J J':=by
 obtain⟨n,rfl⟩:∃j,n=j+3:=⟨n-3,by omega⟩
 have out:∀pos m,0<m→∀n' e s cs i J,e 0=.ref P 0→PS ts P s pos (base++[⟨kd,cs,i⟩]) J→(pos=ts.length∨∃h:pos<ts.length,dq ts[pos]=false) →
   ∃s' i' J' pos',aJ (u6 (den C (n+3)) n') m e s=some (.aI [],s')∧ts.drop pos'=io (ts.drop pos)∧PS ts P s' pos' (base++[⟨kd,cs++((ts.drop pos).takeWhile dq).map cr,i'⟩]) J'∧Ex s s' J J':=by
  intro pos m hm n' e s cs i J he h ho
  obtain⟨m,rfl⟩:∃j,m=j+1:=⟨m-1,by omega⟩
  obtain⟨tk,OF,r⟩:=h.xw
  have e1:ts.drop pos=io (ts.drop pos)∧(ts.drop pos).takeWhile dq=[]:=by
   rcases ho with rfl|⟨hlt,ht⟩
   ·rw[List.drop_length];exact⟨rfl,rfl⟩
   ·rw[drop_cons hlt,io,List.dropWhile_cons,List.takeWhile_cons,if_neg (by rw[ht];exact Bool.noConfusion),if_neg (by rw[ht];exact Bool.noConfusion)];exact⟨rfl,rfl⟩
  refine⟨s,i,J,pos,?_,e1.1,by rw[e1.2,List.map_nil,List.append_nil];exact h,.refl s J⟩
  rw[aJ,u6]
  rcases ho with rfl|⟨hlt,ht⟩
  ·simp -implicitDefEqProofs only[sL,he,r.Mk,r.ld1,i_ r.pw,Nat.lt_irrefl,decide_false,IY]
   exact bT (by kernel_rfl)
  ·have tv:=(qz ts[pos].1).of (n:=n+3) (by omega) s
   rw[ua]at ht
   rw[ht]at tv
   simp -implicitDefEqProofs only[sL,he,r.Mk,r.ld1,i_ r.pw,hlt,decide_true,qA r.pw hlt,tv,IY]
 intro k
 induction k with
 | zero =>
  intro pos hk m hm n' e s cs i J he h hb
  have:=h.pos
  exact out pos m hm n' e s cs i J he h (.inl (by omega))
 | succ k ih =>
  intro pos hk m hm n' e s cs i J he h hb
  have hpos:=h.pos
  by_cases hlt:pos<ts.length
  ·cases ht:dq ts[pos] with
   | false=>exact out pos m (by omega) n' e s cs i J he h (.inr ⟨hlt,ht⟩)
   | true =>
    obtain⟨m,rfl⟩:∃j,m=j+1:=⟨m-1,by omega⟩
    obtain⟨tk,OF,r⟩:=h.xw
    have tv:=(qz ts[pos].1).of (n:=n+3) (by omega) s
    have ht':=ht
    rw[ua]at ht'
    rw[ht']at tv
    obtain⟨s1,i1,J1,a1,p1,x1⟩:=qB h hlt (by show cs.length+_<_;omega)
    have e1:=a1 n
    obtain⟨s2,i2,J2,Tt,a2,d2,p2,x2⟩:=ih (pos+1) (by omega) m (by omega) n' (bf e [(2,.ref P 0),(3,.ref P 0),(4,.ref P 1),(5,I pos),(6,.ref P 0),(7,.ref P 0),(8,.ref P 0),(9,tk),(10,I ts.length),(11,.bool true),(12,.bool true),(13,.ref P 0),(14,.ref P 0),(15,.ref P 0),(16,tk),(17,.ref P 0),(18,.ref P 0),(19,.ref P 1),(20,I pos),(21,.box [I ts[pos].1,.str ts[pos].2] 0),(22,.box [I ts[pos].1,.str ts[pos].2] 0),(23,I ts[pos].1),(24,.bool true),(25,.bool true),(26,.ref P 0),(27,.aI [])]) s1 (cs++[cr ts[pos]]) i1 J1 (by simp[ai,an,he]) p1 (by rw[List.length_append];show cs.length+1+_+_<_;omega)
    have e3:io (ts.drop pos)=io (ts.drop (pos+1)):=by rw[drop_cons hlt,io,List.dropWhile_cons,if_pos ht];rfl
    have e4:(ts.drop pos).takeWhile dq=ts[pos]::(ts.drop (pos+1)).takeWhile dq:=by rw[drop_cons hlt,List.takeWhile_cons,if_pos ht]
    refine⟨s2,i2,J2,Tt,?_,by rw[d2,e3],by rw[e4,List.map_cons];rw[List.append_assoc]at p2;exact p2,x1.trans x2⟩
    rw[aJ,u6]
    simp -implicitDefEqProofs only[sL,he,r.Mk,r.ld1,i_ r.pw,hlt,decide_true,qA r.pw hlt,tv,e1,IY]
    exact a2
  ·exact out pos m (by omega) n' e s cs i J he h (.inl (by omega))
theorem A7 {ts:List Tok}{P:Nat}{s:ag}{pos:Nat}{base:List Lv}{kd:Nat}{cs:List az}{i:Option Nat}{J:List Nat}(h:PS ts P s pos (base++[⟨kd,cs,i⟩]) J)(hb:cs.length+ts.length+base.length<1000000000){n:Nat}(hn:ts.length+10≤n) :
  ∃s' i' J' pos',ab Tryz.prog (den C n) 66 [.ref P 0] s=some (.aI [],s')∧ts.drop pos'=io (ts.drop pos)∧PS ts P s' pos' (base++[⟨kd,cs++((ts.drop pos).takeWhile dq).map cr,i'⟩]) J'∧Ex s s' J J':=by
 obtain⟨n,rfl⟩:∃j,n=j+1:=⟨n-1,by omega⟩
 obtain⟨s',i',J',pos',a,b,c,d⟩:=GG (n:=n) (by omega) ts.length pos (by omega) n (by omega) n (aH [.ref P 0]) s cs i J rfl h (by omega)
 refine⟨s',i',J',pos',?_,b,c,d⟩
 rw[aF abd (a7 ..),Sq,F66]
 exact a
theorem eS (cs:List az):cs.length≤dC cs:=by
 induction cs with
 | nil=>exact Nat.zero_le _
 | cons t cs ih=>cases t;rw[List.length_cons,dC,aZ];omega
def eK (ts:List Tok)(m:Nat)(g:G)(rv:Bool→AV)(F:Nat→Nat→ag→Option (AV×ag)):Prop :=
 ∀n,m*20+ts.length+100≤n→∀P s rest base k cs J b rest' bY,PR ts P s rest base k cs J→run m g rest cs=some (b,rest',bY)→base.length+dC bY<900000000 →
  ∃s' J',F n P s=some (rv b,s')∧PR ts P s' rest' base k bY J'∧Ex s s' J J'
abbrev vd:Bool→AV:=fun _=>.aI []
abbrev bv:Bool→AV:=.bool
noncomputable def ef (f:FuncId)(args:Nat→List AV):Nat→Nat→ag→Option (AV×ag):=fun n P s=>ab Tryz.prog (den C n) f (args P) s
noncomputable def Tu (v:Nat→AV):Nat→Nat→ag→Option (AV×ag):=fun n P s=>fP Tryz.prog (den C n) (v P) [] s
theorem dz {m:Nat}{g:G}{ts:List Tok}{cs:List az}{r:Bool×List Tok×List az}(h:run m g ts cs=some r):∃m',m=m'+1:=by
 cases m with
 | zero=>rw[Pm.cJ]at h;cases h
 | succ m=>exact⟨m,rfl⟩
theorem aX (ts:List Tok)(m:Nat):eK ts m .bump vd (ef 106 fun P=>[.ref P 0]):=by
 intro n hn P s rest base k cs J b rest' bY h hr hb
 obtain⟨m,rfl⟩:=dz hr
 obtain⟨n,rfl⟩:∃j,n=j+4:=⟨n-4,by omega⟩
 rw[qm]at hr
 simp only[Option.some.injEq,Prod.mk.injEq]at hr
 obtain⟨rfl,rfl,rfl⟩:=hr
 obtain⟨pos,i,rfl,h⟩:=h
 have hl:=h.len
 have hc:=eS (cs++(((ts.drop pos).takeWhile dq).map cr++((io (ts.drop pos)).take 1).map cr))
 rw[List.length_append]at hc
 obtain⟨s1,i1,J1,qC,a1,d1,p1,x1⟩:=A7 h (by omega) (n:=n+3) (by omega)
 obtain⟨tk,OF,r⟩:=p1.xw
 have hz:=eS (cs++((ts.drop pos).takeWhile dq).map cr)
 have hz2:dC (cs++((ts.drop pos).takeWhile dq).map cr)≤dC (cs++(((ts.drop pos).takeWhile dq).map cr++((io (ts.drop pos)).take 1).map cr)):=by
  rw[←List.append_assoc,aw (cs++_)];omega
 by_cases hlt:qC<ts.length
 ·obtain⟨s2,i2,J2,a2,p2,x2⟩:=qB p1 hlt (by show (cs++_).length+_<_;omega)
  have e2:=a2 n
  have es:io (ts.drop pos)=ts[qC]::ts.drop (qC+1):=by rw[←d1,drop_cons hlt]
  refine⟨s2,J2,?_,⟨qC+1,i2,by rw[la,es];rfl,?_⟩,x1.trans x2⟩
  ·show ab Tryz.prog (den C (n+4)) 106 [.ref P 0] s=_
   rw[aF QL (a7 ..),Ev,SA]
   simp -implicitDefEqProofs only[sL,a1,r.Mk,r.ld1,i_ r.pw,hlt,decide_true,e2,I0]
  ·rw[es,←List.append_assoc];exact p2
 ·have hp:=p1.pos
  have he:qC=ts.length:=by omega
  have es:io (ts.drop pos)=[]:=by rw[←d1,he,List.drop_length]
  refine⟨s1,J1,?_,⟨qC,i1,by rw[la,es,d1,es];rfl,?_⟩,x1⟩
  ·show ab Tryz.prog (den C (n+4)) 106 [.ref P 0] s=_
   rw[aF QL (a7 ..),Ev,SA]
   simp -implicitDefEqProofs only[sL,a1,r.Mk,r.ld1,i_ r.pw,hlt,decide_false,I0]
  ·rw[es,List.take_nil,List.map_nil,List.append_nil];exact p1
end ParF
end

section
namespace ParF
open Go Go.Abs Go.Proofs Pm
theorem GH (l:Lv):l.row.map AV.aa=l.row:=by
 show [(I l.k).aa,(AV.str []).aa,l.ch.aa]=l.row
 rw[lC];rfl
theorem PS.mem {ts:List Tok}{P:Nat}{s:ag}{pos:Nat}{fm:List Lv}{J:List Nat}(h:PS ts P s pos fm J){l:Lv}(hl:l∈fm){i:Nat}(hi:l.id=some i):i∈J:=by
 obtain⟨tk,Q,junk,h1,h2,h3,h4⟩:=h.par
 rw[h4]
 exact List.mem_cons_of_mem _ (List.mem_cons_of_mem _ (List.mem_filterMap.2 ⟨l,hl,hi⟩))
theorem y_ {ts:List Tok}{P pos:Nat}{s:ag}{fm:List Lv}{J:List Nat}(h:PS ts P s pos fm J)(hn:fm.length<1000000000)(h0:0<fm.length){l:Lv}(hl:l.ok s)(hid:∀i,l.id=some i→i∉J∧i<s.length) :
  ∃tk Q s1 s2 s3 J3,s[P]?=some (116,[tk,I pos,.rs 89 3 Q 0 fm.length])∧Q≠P∧bA Tryz.prog 87 87 (.rs 89 3 Q 0 fm.length) (.sl 89 3 [sR] .own) s=some (.rs 89 3 s.length 0 (fm.length+1),s1)∧aB 3 s1 (.ref s.length (fm.length*3)) (.agg l.row)=some s2 ∧
   aB 1 s2 (.ref P 2) (.rs 89 3 s.length 0 (fm.length+1))=some s3∧PS ts P s3 pos (fm++[l]) J3∧s.length≤s3.length∧(∀x,x<s.length→x∉J→s3[x]?=s[x]?)∧(∀x∈J3,x∈J∨l.id=some x∨s.length≤x)∧P<s.length:=by
 have hlt:=h.lt
 have LM:∀l'∈fm,∀i,l'.id=some i→i∈J:=fun l' ov i hi=>h.mem ov hi
 obtain⟨tk,Q,junk,h1,h2,h3,h4⟩:=h.par
 have nd:=h.nd
 rw[h4,List.nodup_cons,List.nodup_cons]at nd
 obtain⟨n1,n2,n3⟩:=nd
 have hPQ:P≠Q:=fun e=>n1 (by rw[e];exact List.mem_cons_self ..)
 have hP:=iN h2
 have hQ:=iN h3
 have hr:=eJ fm
 have YJ:∀l'∈fm,∀i,l'.id=some i→i≠P∧i≠Q:=by
  intro l' ov i hi
  have hm:i∈fm.filterMap Lv.id:=List.mem_filterMap.2 ⟨l',ov,hi⟩
  exact⟨fun e=>n1 (e▸List.mem_cons_of_mem _ hm),fun e=>n2 (e▸hm)⟩
 have hPJ:P∈J:=by rw[h4];exact List.mem_cons_self ..
 have hQJ:Q∈J:=by rw[h4];exact List.mem_cons_of_mem _ (List.mem_cons_self ..)
 have hidl:∀i,l.id=some i→i≠P∧i≠Q:=fun i hi=>⟨fun e=>(hid i hi).1 (e▸hPJ),fun e=>(hid i hi).1 (e▸hQJ)⟩
 have ne:fm.flatMap Lv.row++junk≠[]:=by
  intro e;have:=congrArg List.length e;rw[List.length_append,hr,List.length_nil]at this;omega
 have e1:=Jt (len:=fm.length) h3 (by rw[List.length_append,hr];omega) ne hn
 have Ml:(fm.flatMap Lv.row++junk).take (fm.length*3)=fm.flatMap Lv.row:=by
  rw[List.take_append_of_le_length (by omega),List.take_of_length_le (by omega)]
 rw[Ml]at e1
 have g:(kill s Q++[(89,fm.flatMap Lv.row++[I 0,.str [],.aN])])[s.length]?=some (89,fm.flatMap Lv.row++[I 0,.str [],.aN]):=by
  have:=aW (s:=kill s Q) (x:=(89,fm.flatMap Lv.row++[I 0,.str [],.aN]))
  rw[bw]at this;exact this
 have e2:aB 3 (kill s Q++[(89,fm.flatMap Lv.row++[I 0,.str [],.aN])]) (.ref s.length (fm.length*3)) (.agg l.row)=some (kill s Q++[(89,fm.flatMap Lv.row++l.row)]):=by
  rw[ParF.st (n:=3) (o:=fm.length*3) (v:=.agg l.row) g (by decide) rfl rfl (by rw[List.length_append,hr];show _≤_+3;omega)]
  have e:fm.length*3=(fm.flatMap Lv.row).length:=by omega
  show some (List.set _ s.length (89,bZ _ _ (l.row.map AV.aa)))=_
  rw[GH,e,gp (fm.flatMap Lv.row) l.row [I 0,.str [],.aN] rfl]
  have:=eG (kill s Q) (89,fm.flatMap Lv.row++[I 0,.str [],.aN]) (89,fm.flatMap Lv.row++l.row)
  rw[bw]at this
  rw[this]
 have fr:∀x,x<s.length→x≠Q→(kill s Q++[(89,fm.flatMap Lv.row++l.row)])[x]?=s[x]?:=by
  intro x hx hne
  rw[bE (by rw[bw];exact hx),fS (Ne.symm hne)]
 have p2:(kill s Q++[(89,fm.flatMap Lv.row++l.row)])[P]?=some (116,[tk,I pos,.rs 89 3 Q 0 fm.length]):=(fr P hP hPQ).trans h2
 have e3:aB 1 (kill s Q++[(89,fm.flatMap Lv.row++l.row)]) (.ref P 2) (.rs 89 3 s.length 0 (fm.length+1))=some ((kill s Q++[(89,fm.flatMap Lv.row++l.row)]).set P (116,[tk,I pos,.rs 89 3 s.length 0 (fm.length+1)])) :=
  ParF.st (n:=1) (o:=2) (v:=.rs 89 3 s.length 0 (fm.length+1)) p2 (by decide) rfl rfl (by show 3≤3;omega)
 have abj:((kill s Q++[(89,fm.flatMap Lv.row++l.row)]).set P (116,[tk,I pos,.rs 89 3 s.length 0 (fm.length+1)])).length=s.length+1:=by rw[bh,aP,bw]
 have Q_:∀x,x<s.length→x≠Q→x≠P→((kill s Q++[(89,fm.flatMap Lv.row++l.row)]).set P (116,[tk,I pos,.rs 89 3 s.length 0 (fm.length+1)]))[x]?=s[x]?:=by
  intro x hx hne hne'
  rw[bu (Ne.symm hne'),fr x hx hne]
 refine⟨tk,Q,_,_,_,P::s.length::(fm++[l]).filterMap Lv.id,h2,hPQ.symm,e1,e2,e3,⟨⟨tk,s.length,[],h1,?_,?_,rfl⟩,fun l' ov=>?_,?_,h.pos,h.len⟩,by omega,fun x hx hj=>?_,fun x hx=>?_,hP⟩
 ·rw[bK p2,List.length_append];rfl
 ·have:=aW (s:=kill s Q) (x:=(89,fm.flatMap Lv.row++l.row))
  rw[bw]at this
  rw[bu (by omega),this,gM,List.append_nil]
 ·rw[List.mem_append,List.mem_singleton]at ov
  rcases ov with k|k
  ·refine Lv.fT (h.ok l' k) fun i hi=>?_
   obtain⟨a,b⟩:=YJ l' k i hi
   exact Q_ i (hlt i (LM l' k i hi)) b a
  ·rw[k]
   refine Lv.fT hl fun i hi=>?_
   obtain⟨a,b⟩:=hidl i hi
   exact Q_ i (hid i hi).2 b a
 ·rw[iZ,List.nodup_cons,List.nodup_cons,List.nodup_append]
  have mem:∀i,i∈fm.filterMap Lv.id++l.id.toList→i≠P∧i<s.length:=by
   intro i hi
   rw[List.mem_append]at hi
   rcases hi with k|k
   ·obtain⟨l',ov,hi⟩:=List.mem_filterMap.1 k
    exact⟨(YJ l' ov i hi).1,hlt i (LM l' ov i hi)⟩
   ·rw[Option.mem_toList]at k
    exact⟨(hidl i k).1,(hid i k).2⟩
  refine⟨fun hm=>?_,fun hm=>Nat.lt_irrefl _ (mem _ hm).2,n3,?_,fun i hi j hj e=>?_⟩
  ·rw[List.mem_cons]at hm
   rcases hm with k|k
   ·omega
   ·exact(mem P k).1 rfl
  ·cases l.id<;>simp
  ·rw[Option.mem_toList]at hj
   obtain⟨l',ov,hi'⟩:=List.mem_filterMap.1 hi
   exact(hid j hj).1 (e▸LM l' ov i hi')
 ·refine Q_ x hx (fun e=>hj ?_) (fun e=>hj ?_)
  ·rw[e];exact hQJ
  ·rw[e];exact hPJ
 ·rw[iZ,List.mem_cons,List.mem_cons,List.mem_append,Option.mem_toList]at hx
  rcases hx with k|k|k|k
  ·exact .inl (by rw[k];exact hPJ)
  ·exact .inr (.inr (by omega))
  ·obtain⟨l',ov,hi'⟩:=List.mem_filterMap.1 k
   exact .inl (LM l' ov x hi')
  ·exact .inr (.inl k)
theorem JA {s:ag}{l:Lv}(h:l.ok s):∃a s1,CC (.agg l.row) s=some (a,s1)∧nT (.mk l.k [] l.cs) a∧s1.length=s.length∧∀x,l.id≠some x→s1[x]?=s[x]?:=by
 unfold Lv.ok at h
 cases l with
 | mk k cs id =>
  cases id with
  | none =>
   have h:cs=[]:=h
   subst h
   exact⟨.agg [I k,.str [],.aN],s,rfl,.mk _ _ _ _ .nil,rfl,fun _ _=>rfl⟩
  | some i =>
   obtain⟨rows,junk,h1,h2,h3⟩:=h
   obtain⟨r1,r2,r3,r4⟩:=h2.cells
   have r1:(cellsOf rows).length=3*cs.length:=r1
   have tk:(cellsOf rows++junk).take (cs.length*3)=cellsOf rows:=by
    rw[List.take_append_of_le_length (by omega),List.take_of_length_le (by omega)]
   have e:jp (.rs 89 3 i 0 cs.length) s=some (.sl 89 3 rows .sh,kill s i):=by
    unfold jp
    simp only[h1]
    rw[if_pos ⟨trivial,by decide,by decide,by rw[List.length_append];omega,by rw[tk];exact r3⟩,tk,r2,show chunks 3 cs.length (cellsOf rows)=rows from r4]
   refine⟨.agg [I k,.str [],.sl 89 3 rows .sh],kill s i,?_,.mk _ _ _ _ (.sl _ _ h2),bw _ _,fun x hx=>fS fun e=>hx (by rw[e])⟩
   have e2:oB [I k,.str [],.rs 89 3 i 0 cs.length] s=some ([I k,.str [],.sl 89 3 rows .sh],kill s i):=by
    have a1:jp (I k) s=some (I k,s):=rfl
    have a2:jp (.str []) s=some (.str [],s):=rfl
    simp only[oB,a1,a2,e]
   show (match oB [I k,.str [],.rs 89 3 i 0 cs.length] s with|some (bY,s')=>some (AV.agg bY,s')|none=>none)=_
   rw[e2]
end ParF
end

section
namespace ParF
open Go Go.Abs Go.Proofs Pm
theorem Dp:bH Tryz.prog 89=fun s=>some (.ref s.length 0,s++[(89,[I 0,.str [],.aN])]):=by
 have h:zeroOf Tryz.prog 89=some (.agg [I 0,.str [],.aN]):=by kernel_rfl
 funext s
 simp[bH,h]
theorem za (t i n:Nat):mL Tryz.prog 87 (.rs t 3 i 0 (n+1)) none (some (I n)) none=some (.rs t 3 i 0 n):=by
 have hb:dQ (n+1) (I n)=some n:=by
  show (if 0≤(n:Int)∧(n:Int)≤((n+1:Nat):Int) then some (n:Int).toNat else none)=some n
  rw[if_pos ⟨by omega,by omega⟩];rfl
 have hz:da Tryz.prog 89=some 3:=by kernel_rfl
 simp[mL,jy,tM,hb,hz]
theorem bJ {α:Type}(a b:List α):(a++b).length=a.length+b.length:=List.length_append
theorem xy {s:ag}{a:AV}{t:az}(ht:nT t a):aB 3 (s++[(89,[I 0,.str [],.aN])]) (.ref s.length 0) a=some (s++[(89,a.cells)]):=by
 obtain⟨c1,c2,c3,c4⟩:=ht.cells
 have hs:a.ce=true:=by rw[c4];rfl
 have hst:dv a=a.cells:=by rw[c4];exact c2
 rw[ParF.st (n:=3) (o:=0) (v:=a) aW (by decide) hs c1 (by show 3≤3;omega),eG,hst]
 have:=gp [] a.cells [I 0,.str [],.aN] c1.symm
 rw[List.nil_append,List.nil_append]at this
 rw[show bZ [I 0,.str [],.aN] 0 a.cells=a.cells from this]
theorem A8 (base:List Lv)(l:Lv)(junk:List AV):(((base++[l]).flatMap Lv.row++junk).drop (base.length*3)).take 3=l.row:=by
 have hr:=eJ base
 have e:base.length*3=(base.flatMap Lv.row).length:=by omega
 rw[gM,List.append_assoc,e,List.drop_left]
 rfl
theorem o8 {ts:List Tok}{P pos:Nat}{s:ag}{base:List Lv}{l0 l:Lv}{J:List Nat}(h:PS ts P s pos (base++[l0]++[l]) J)(hn:l0.cs.length+base.length<900000000) :
  ∃s' i' J',(∀n,ab Tryz.prog (den C (n+2)) 142 [.ref P 0] s=some (.aI [],s'))∧PS ts P s' pos (base++[⟨l0.k,l0.cs++[.mk l.k [] l.cs],i'⟩]) J'∧Ex s s' J J':=by
 obtain⟨tk,Q,junk,f,rfl⟩:=h.facts
 obtain⟨a,s1,e1,ht,l1,f1⟩:=JA f.ok
 have hP:=iN f.par
 have hQ:=iN f.row
 have nP:l.id≠some P:=fun e=>(f.Jv P e).1 rfl
 have nQ:l.id≠some Q:=fun e=>(f.Jv Q e).2.1 rfl
 have hlen:(base++[l0]).length=base.length+1:=by rw[List.length_append];rfl
 have hr:=eJ (base++[l0]++[l])
 have hr':(base++[l0]++[l]).length=base.length+2:=by rw[List.length_append,hlen];rfl
 have ldq:af false true 3 (.ref Q ((base++[l0]).length*3)) s=some (.agg l.row,s):=by
  rw[Jr (o:=(base++[l0]).length*3) f.row (by decide) (by have:=bJ ((base++[l0]++[l]).flatMap Lv.row) junk;omega) (by decide),A8]
 have E2:∀x,x<s.length→l.id≠some x→(s1++[(89,a.cells)])[x]?=s[x]?:=fun x hx hne=>(bE (by omega)).trans (f1 x hne)
 have OH:(s1++[(89,a.cells)])[P]?=some (116,[tk,I pos,.rs 89 3 Q 0 ((base++[l0]).length+1)]):=(E2 P hP nP).trans f.par
 have r2:Ci ts P (s1++[(89,a.cells)]) pos tk _:=⟨f.pw,OH,f.pos,f.len⟩
 have ld2:af false false 1 (.ref P 2) (s1++[(89,a.cells)])=some (.rs 89 3 Q 0 ((base++[l0]).length+1),s1++[(89,a.cells)]):=ld (o:=2) OH (by decide) rfl (by decide)
 have st2:aB 1 (s1++[(89,a.cells)]) (.ref P 2) (.rs 89 3 Q 0 (base++[l0]).length)=some ((s1++[(89,a.cells)]).set P (116,[tk,I pos,.rs 89 3 Q 0 (base++[l0]).length])) :=
  ParF.st (n:=1) (o:=2) (v:=.rs 89 3 Q 0 (base++[l0]).length) OH (by decide) rfl rfl (by show 3≤3;omega)
 have abj:((s1++[(89,a.cells)]).set P (116,[tk,I pos,.rs 89 3 Q 0 (base++[l0]).length])).length=s.length+1:=by rw[bh,aP,l1]
 have Q_:∀x,x<s.length→l.id≠some x→x≠P→((s1++[(89,a.cells)]).set P (116,[tk,I pos,.rs 89 3 Q 0 (base++[l0]).length]))[x]?=s[x]?:=fun x hx hne hp=>by
  rw[bu (Ne.symm hp),E2 x hx hne]
 have ld3:af false true 3 (.ref s1.length 0) ((s1++[(89,a.cells)]).set P (116,[tk,I pos,.rs 89 3 Q 0 (base++[l0]).length]))=some (a,(s1++[(89,a.cells)]).set P (116,[tk,I pos,.rs 89 3 Q 0 (base++[l0]).length])):=by
  obtain⟨c1,c2,c3,c4⟩:=ht.cells
  have g:((s1++[(89,a.cells)]).set P (116,[tk,I pos,.rs 89 3 Q 0 (base++[l0]).length]))[s1.length]?=some (89,a.cells):=by rw[bu (by omega),aW]
  rw[Jr (o:=0) g (by decide) (by omega) (by decide),List.drop_zero,List.take_of_length_le (by omega),←c4]
 have nd:=f.nd
 rw[iZ,List.nodup_append]at nd
 have hb:∀i,i∈base.filterMap Lv.id→i∈(base++[l0]).filterMap Lv.id:=fun i hi=>by rw[iZ];exact List.mem_append_left _ hi
 have ht0:∀i,l0.id=some i→i∈(base++[l0]).filterMap Lv.id:=fun i hi=>by rw[iZ];exact List.mem_append_right _ (by rw[Option.mem_toList];exact hi)
 have F3:Fs ts P ((s1++[(89,a.cells)]).set P (116,[tk,I pos,.rs 89 3 Q 0 (base++[l0]).length])) pos base l0 tk Q (l.row++junk):=by
  refine⟨f.pw,by rw[bK OH,hlen],?_,f.ne,fun i hi=>?_,fun i hi=>?_,nd.1,?_,fun l' ov=>?_,f.pos,f.len⟩
  ·rw[Q_ Q hQ nQ f.ne.symm,f.row,gM (base++[l0]),List.append_assoc]
  ·obtain⟨a1,a2,a3,a4⟩:=f.iP i (hb i hi)
   exact⟨a1,a2,by omega,fun e=>nd.2.2 i hi i (by rw[Option.mem_toList];exact e) rfl⟩
  ·obtain⟨a1,a2,a3,a4⟩:=f.iP i (ht0 i hi)
   exact⟨a1,a2,by omega⟩
  ·refine Lv.fT (f.Tl l0 (by simp)) fun i hi=>?_
   obtain⟨a1,a2,a3,a4⟩:=f.iP i (ht0 i hi)
   exact Q_ i a3 a4 a1
  ·refine Lv.fT (f.Tl l' (by simp[ov])) fun i hi=>?_
   obtain⟨a1,a2,a3,a4⟩:=f.iP i (hb i (List.mem_filterMap.2 ⟨l',ov,hi⟩))
   exact Q_ i a3 a4 a1
 obtain⟨s4,i4,J4,a4,p4,x4⟩:=y8 F3.ps ht (by omega)
 refine⟨s4,i4,J4,fun n=>?_,p4,?_⟩
 ·have e4:=a4 n
  have p0:af false false 1 (.ref P 2) s=some (.rs 89 3 Q 0 ((base++[l0]).length+1),s):=ld (o:=2) f.par (by decide) rfl (by decide)
  have ap:wD (some (.agg l.row,s))=some (a,s1):=e1
  have V4:a.aa=a:=by have:=ht.cells.2.2.2;rw[this];rfl
  rw[aF Xe (a7 ..),Nq,Xd]
  simp -implicitDefEqProofs only[sL,p0,iY,sA (a:=(base++[l0]).length) (by omega),jz,ldq,ap,Dp,V4,xy ht,ld2,za,st2,ld3,e4]
 ·refine Ex.trans (J':=JJ P Q base l0) ⟨by omega,fun x hx hj=>?_,fun x hx=>.inl ?_⟩ x4
  ·unfold JJ at hj
   simp only[List.mem_cons,List.mem_append,Option.mem_toList,not_or]at hj
   exact Q_ x hx hj.2.2.2 hj.1
  ·unfold JJ at hx ⊢
   rw[iZ]
   simp only[List.mem_cons,List.mem_append,Option.mem_toList]at hx ⊢
   rcases hx with k|k|k|k
   ·exact .inl k
   ·exact .inr (.inl k)
   ·exact .inr (.inr (.inl (.inl k)))
   ·exact .inr (.inr (.inl (.inr k)))
end ParF
end

section
namespace ParF
open Go Go.Abs Go.Proofs Pm
theorem nk {m k:Nat}{g:G}{ts eY:List Tok}{cs bY:List az}{b:Bool}(h:run m (.node k g) ts cs=some (b,eY,bY)):∃m' ds,m=m'+1∧run m' g ts []=some (b,eY,ds)∧bY=cs++[.mk k [] ds]:=by
 obtain⟨m,rfl⟩:=dz h
 rw[mY]at h
 obtain⟨⟨r1,t1,d1⟩,h1,h2⟩:=Option.bind_eq_some_iff.1 h
 simp only at h2
 split at h2
 ·cases h2;exact⟨m,d1,rfl,h1,rfl⟩
 ·cases h2
theorem A9 {m k:Nat}{g:G}{ts eY:List Tok}{cs bY:List az}{b:Bool}(h:run m (.wrap k g) ts cs=some (b,eY,bY)):∃m' fw t ds,m=m'+1∧cs=fw++[t]∧run m' g ts [t]=some (b,eY,ds)∧bY=fw++[.mk k [] ds]:=by
 obtain⟨m,rfl⟩:=dz h
 rw[qn]at h
 obtain⟨t,h0,h⟩:=Option.bind_eq_some_iff.1 h
 obtain⟨⟨r1,t1,d1⟩,h1,h2⟩:=Option.bind_eq_some_iff.1 h
 simp only at h2
 split at h2
 ·cases h2;exact⟨m,cs.dropLast,t,d1,rfl,fC h0,h1,rfl⟩
 ·cases h2
theorem ay {m:Nat}{a b:G}{ts eY:List Tok}{cs bY:List az}{r:Bool}(h:run m (.seq a b) ts cs=some (r,eY,bY)):∃m' r1 t1 c1,m=m'+1∧run m' a ts cs=some (r1,t1,c1)∧run m' b t1 c1=some (r,eY,bY)∧dC c1≤dC bY:=by
 obtain⟨m,rfl⟩:=dz h
 rw[run_seq]at h
 obtain⟨⟨r1,t1,d1⟩,h1,h2⟩:=Option.bind_eq_some_iff.1 h
 exact⟨m,r1,t1,d1,rfl,h1,h2,fI (fH _ _ _ _ _ _ _ h2)⟩
theorem aO {m:Nat}{c:mO}{a b:G}{ts:List Tok}{cs:List az}{r:Bool×List Tok×List az}(h:run m (.ite c a b) ts cs=some r):∃m',m=m'+1∧((ev c ts=true∧run m' a ts cs=some r)∨(ev c ts=false∧run m' b ts cs=some r)):=by
 obtain⟨m,rfl⟩:=dz h
 rw[run_ite]at h
 refine⟨m,rfl,?_⟩
 split at h
 ·rename_i hc;exact .inl ⟨hc,h⟩
 ·rename_i hc;exact .inr ⟨dV hc,h⟩
theorem gq {m:Nat}{c:mO}{g:G}{ts eY:List Tok}{cs bY:List az}{r:Bool}(h:run m (.dH c g) ts cs=some (r,eY,bY)):∃m',m=m'+1∧((ev c ts=false∧r=false∧eY=ts∧bY=cs) ∨
  (ev c ts=true∧run m' g ts cs=some (true,eY,bY)∧r=true)∨(ev c ts=true∧∃t1 c1,run m' g ts cs=some (false,t1,c1)∧run m' (.dH c g) t1 c1=some (r,eY,bY)∧dC c1≤dC bY)):=by
 obtain⟨m,rfl⟩:=dz h
 rw[lr]at h
 refine⟨m,rfl,?_⟩
 split at h
 ·rename_i hc
  obtain⟨⟨r1,t1,d1⟩,h1,h2⟩:=Option.bind_eq_some_iff.1 h
  simp only at h2
  split at h2
  ·rename_i hb;subst hb;cases h2;exact .inr (.inl ⟨hc,h1,rfl⟩)
  ·rename_i hb;have hb:=dV hb;subst hb;exact .inr (.inr ⟨hc,t1,d1,h1,h2,fI (fH _ _ _ _ _ _ _ h2)⟩)
 ·rename_i hc;cases h;exact .inl ⟨dV hc,rfl,rfl,rfl⟩
theorem A_ {m:Nat}{g a b:G}{ts eY:List Tok}{cs bY:List az}{r:Bool}(h:run m (.prog g a b) ts cs=some (r,eY,bY)):∃m' r1 t1 c1,m=m'+1∧run m' g ts cs=some (r1,t1,c1)∧dC c1≤dC bY ∧
  ((t1.length=ts.length∧run m' a t1 c1=some (r,eY,bY))∨(t1.length≠ts.length∧run m' b t1 c1=some (r,eY,bY))):=by
 obtain⟨m,rfl⟩:=dz h
 rw[mZ]at h
 obtain⟨⟨r1,t1,d1⟩,h1,h2⟩:=Option.bind_eq_some_iff.1 h
 simp only at h2
 split at h2
 ·rename_i hc;exact⟨m,r1,t1,d1,rfl,h1,fI (fH _ _ _ _ _ _ _ h2),.inl ⟨hc,h2⟩⟩
 ·rename_i hc;exact⟨m,r1,t1,d1,rfl,h1,fI (fH _ _ _ _ _ _ _ h2),.inr ⟨hc,h2⟩⟩
theorem E3 {m:Nat}{g a b:G}{ts eY:List Tok}{cs bY:List az}{r:Bool}(h:run m (.yV g a b) ts cs=some (r,eY,bY)):∃m' r1 t1 c1,m=m'+1∧run m' g ts cs=some (r1,t1,c1)∧dC c1≤dC bY ∧
  ((r1=true∧run m' a t1 c1=some (r,eY,bY))∨(r1=false∧run m' b t1 c1=some (r,eY,bY))):=by
 obtain⟨m,rfl⟩:=dz h
 rw[qo]at h
 obtain⟨⟨r1,t1,d1⟩,h1,h2⟩:=Option.bind_eq_some_iff.1 h
 simp only at h2
 split at h2
 ·rename_i hc;exact⟨m,r1,t1,d1,rfl,h1,fI (fH _ _ _ _ _ _ _ h2),.inl ⟨hc,h2⟩⟩
 ·rename_i hc;exact⟨m,r1,t1,d1,rfl,h1,fI (fH _ _ _ _ _ _ _ h2),.inr ⟨dV hc,h2⟩⟩
theorem vv {m f:Nat}{ts:List Tok}{cs:List az}{r:Bool×List Tok×List az}(h:run m (.call f) ts cs=some r):∃m',m=m'+1∧run m' (ot f) ts cs=some r:=by
 obtain⟨m,rfl⟩:=dz h
 exact⟨m,rfl,h⟩
theorem bM {m:Nat}{b r:Bool}{ts eY:List Tok}{cs bY:List az}(h:run m (.ret b) ts cs=some (r,eY,bY)):r=b∧eY=ts∧bY=cs:=by
 obtain⟨m,rfl⟩:=dz h
 rw[EY]at h;cases h;exact⟨rfl,rfl,rfl⟩
theorem Ex.o9 {s s':ag}{J J':List Nat}(h:Ex s s' J J')(X:List Nat):Ex s s' (X++J) (X++J') :=
 ⟨h.len,fun x hx hj=>h.fr x hx fun e=>hj (List.mem_append_right _ e),fun x hx=>by
  rw[List.mem_append]at hx ⊢
  rcases hx with k|k
  ·exact .inl (.inl k)
  ·rcases h.sub x k with q|q
   ·exact .inl (.inr q)
   ·exact .inr q⟩
theorem vw {ts:List Tok}{k:Nat}{P:Nat}{s:ag}{rest rest':List Tok}{base:List Lv}{k0:Nat}{cs ds:List az}{J:List Nat}(X:List Nat)(h:PR ts P s rest base k0 cs J)(hb:base.length+(dC cs+(1+dC ds))<900000000){v:AV}(hv:v.aa=v)(n:Nat)
  (hg:∀s3 lv J3,PR ts P s3 rest (base++[lv]) k [] J3→Ex s s3 J J3→∃s4 J4 r,fP Tryz.prog (den C (n+2)) v [] s3=some (r,s4)∧PR ts P s4 rest' (base++[lv]) k ds J4∧Ex s3 s4 (X++J3) (X++J4)) :
  ∃s5 J5,ab Tryz.prog (den C (n+3)) 103 [.ref P 0,I k,v] s=some (.aI [],s5)∧PR ts P s5 rest' base k0 (cs++[.mk k [] ds]) J5∧Ex s s5 (X++J) (X++J5):=by
 obtain⟨pos,i,rfl,h⟩:=h
 have hc:=eS cs
 obtain⟨tk,Q,s1,s2,s3,J3,p0,nQ,e1,e2,e3,p3,l3,f3,j3,hP⟩:=y_ h (by rw[bJ];show base.length+1<_;omega) (by rw[bJ];show 0<_+1;omega) (l:=⟨k,[],none⟩) rfl nofun
 have x3:Ex s s3 J J3:=⟨l3,f3,fun x hx=>by
  rcases j3 x hx with k|k|k
  ·exact .inl k
  ·cases k
  ·exact .inr k⟩
 obtain⟨s4,J4,r,e4,p4,x4⟩:=hg s3 ⟨k0,cs,i⟩ J3 ⟨pos,none,rfl,p3⟩ x3
 obtain⟨GI,i4,rfl,p4⟩:=p4
 obtain⟨s5,i5,J5,e5,p5,x5⟩:=o8 p4 (by show cs.length+_<_;omega)
 refine⟨s5,J5,?_,⟨GI,i5,rfl,p5⟩,((x3.o9 X).trans x4).trans (x5.o9 X)⟩
 have e5:=e5 n
 have q0:af false false 1 (.ref P 2) s=some (.rs 89 3 Q 0 (base++[(⟨k0,cs,i⟩:Lv)]).length,s):=ld (o:=2) p0 (by decide) rfl (by decide)
 have e2:aB 3 s1 (.ref s.length ((base++[(⟨k0,cs,i⟩:Lv)]).length*3)) (.agg [I k,.str [],.aN])=some s2:=e2
 rw[aF QJ (a7 ..),Et,Sw]
 simp -implicitDefEqProofs only[sL,q0,iD (I k) rfl rfl rfl,iY,vt,e1,jz,e2,dD,e3,cM,yD,IZ s.length P (by omega),hv,e4,e5]
end ParF
end

section
namespace ParF
open Go Go.Abs Go.Proofs Pm
theorem zb {s:ag}{a:AV}{t:az}(ht:nT t a):fN Tryz.prog 87 1 [(0,a)] s=some (.rs 89 3 s.length 0 1,s++[(89,a.cells)]):=by
 obtain⟨c1,c2,c3,c4⟩:=ht.cells
 have hz:da Tryz.prog 89=some 3:=by kernel_rfl
 have hi:((Tryz.prog.info? 89).bind (·.zero)).map (·.cells.size)=some 3:=by kernel_rfl
 have hs:a.ce=true:=by rw[c4];rfl
 cases hz':(Tryz.prog.info? 89).bind (·.zero) with
 | none=>rw[hz']at hi;cases hi
 | some zv =>
  rw[hz']at hi
  simp only[Option.map_some,Option.some.injEq]at hi
  have hne:a.cells≠[]:=by intro e;rw[e]at c1;cases c1
  have e:ak Tryz.prog 87 1 [(0,a)]=some (.sl 89 3 [a] .own):=by
   simp[ak,jy,hz,hz',hi,k7,hs,c1]
  have ec:cellsOf [a]=a.cells:=by show a.cells++[]=_;rw[List.append_nil]
  have hem:(cellsOf [a]).isEmpty=false:=by rw[ec];cases h:a.cells with
   | nil=>exact absurd h hne
   | cons x y=>rfl
  simp only[fN,uK,e]
  rw[hem]
  simp only[Bool.false_eq_true,if_false,ec,c2]
  rfl
theorem GJ (x y:AV)(hx:x.cells=[x])(hy:y.cells=[y])(sx:x.aa=x)(sy:y.aa=y)(ox:x.ce=true)(oy:y.ce=true):bn Tryz.prog 89 [(0,x),(2,y)]=some (.agg [x,.str [],y]):=by
 have hz:zeroOf Tryz.prog 89=some (.agg [I 0,.str [],.aN]):=by kernel_rfl
 have hu:(match Tryz.prog.underlying 89 with|some (.struct fs)=>dN Tryz.prog fs.toList|_=>none)=some [(0,1),(1,1),(2,1)]:=by kernel_rfl
 unfold bn
 split at hu
 ·rename_i fs h
  rw[hz,h]
  simp[hu,jo,hx,hy,bZ,sx,sy,ox,oy]
 ·cases hu
theorem A' {ts:List Tok}{k:Nat}{P:Nat}{s:ag}{rest rest':List Tok}{base:List Lv}{k0:Nat}{fw ds:List az}{t:az}{J:List Nat}(h:PR ts P s rest base k0 (fw++[t]) J)(hb:base.length+(dC fw+(1+dC ds))<900000000){v:AV}(hv:v.aa=v)(n:Nat)
  (hg:∀s3 lv J3,PR ts P s3 rest (base++[lv]) k [t] J3→Ex s s3 J J3→∃s4 J4 r,fP Tryz.prog (den C (n+2)) v [] s3=some (r,s4)∧PR ts P s4 rest' (base++[lv]) k ds J4∧Ex s3 s4 J3 J4) :
  ∃s5 J5,ab Tryz.prog (den C (n+3)) 210 [.ref P 0,I k,v] s=some (.aI [],s5)∧PR ts P s5 rest' base k0 (fw++[.mk k [] ds]) J5∧Ex s s5 J J5:=by
 obtain⟨pos,i,rfl,h⟩:=h
 have hc:=eS fw
 obtain⟨tk,Q,junk,f,rfl⟩:=h.facts
 have hP:=iN f.par
 have hQ:=iN f.row
 -- the last child
 have Mm:=f.ok
 obtain⟨id,rfl⟩:∃id,i=some id:=by
  cases i with
  | none=>have h0:fw++[t]=[]:=Mm;simp at h0
  | some id=>exact⟨id,rfl⟩
 obtain⟨rows,cj,h1,h2,h3⟩:=Mm
 obtain⟨r1,r2,rfl,l1,l2⟩:=ou.split h2
 cases l2 with
 | cons _ a _ _ ht l3 =>
 cases l3 with
 | nil =>
 obtain⟨c1,c2,c3,c4⟩:=ht.cells
 obtain⟨d1,d2,d3,d4⟩:=l1.cells
 obtain⟨tP,tQ,tl⟩:=f.Jv id rfl
 rw[fY]at h1
 have hil:(fw++[t]).length=fw.length+1:=by rw[bJ];rfl
 have ldc:af false true 3 (.ref id (fw.length*3)) s=some (a,s):=by
  rw[Jr (o:=fw.length*3) h1 (by decide) (by rw[bJ,bJ];omega) (by decide)]
  have e:fw.length*3=(cellsOf r1).length:=by omega
  rw[List.append_assoc,e,List.drop_left,List.take_append_of_le_length (by omega),List.take_of_length_le (by omega),←c4]
 -- the heap with the child taken off
 have q1:(s++[(89,a.cells)])[Q]?=some (89,(base++[(⟨k0,fw++[t],some id⟩:Lv)]).flatMap Lv.row++junk):=(bE hQ).trans f.row
 have hrl:=eJ (base++[(⟨k0,fw++[t],some id⟩:Lv)])
 rw[bJ]at hrl
 have st1:=ParF.st (s:=s++[(89,a.cells)]) (o:=base.length*3+2) (n:=1) (v:=.rs 89 3 id 0 fw.length) q1 (by decide) rfl rfl (by rw[bJ,hrl];show _≤3*(base.length+1)+_;omega)
 have Dm:dv (.rs 89 3 id 0 fw.length)=[AV.rs 89 3 id 0 fw.length]:=rfl
 rw[Dm,t_]at st1
 generalize E2:(s++[(89,a.cells)]).set Q (89,base.flatMap Lv.row++[I (k0:Nat),.str [],.rs 89 3 id 0 fw.length]++junk)=s2 at st1
 have OI:(s++[(89,a.cells)]).set Q (89,base.flatMap Lv.row++[I ((⟨k0,fw++[t],some id⟩:Lv).k),.str [],.rs 89 3 id 0 fw.length]++junk)=s2:=E2
 have abk:s2.length=s.length+1:=by rw[←E2,bh,aP]
 have GK:∀x,x<s.length→x≠Q→s2[x]?=s[x]?:=fun x hx hne=>by rw[←E2,bu (Ne.symm hne),bE hx]
 have g2:s2[s.length]?=some (89,a.cells):=by rw[←E2,bu (by omega),aW]
 have p2:PS ts P s2 pos (base++[⟨k0,fw,some id⟩]) (JJ P Q base ⟨k0,fw++[t],some id⟩):=by
  refine Fs.ps (tk:=tk) (Q:=Q) (junk:=junk) (l:=⟨k0,fw,some id⟩) ⟨f.pw,?_,?_,f.ne,fun i hi=>?_,fun i hi=>?_,f.nd,⟨r1,a.cells++cj,?_,l1,?_⟩,fun l' ov=>?_,f.pos,f.len⟩
  ·rw[GK P hP f.ne];exact f.par
  ·rw[←E2,bK q1,gM];rfl
  ·obtain⟨a1,a2,a3,a4⟩:=f.iP i hi
   exact⟨a1,a2,by omega,a4⟩
  ·obtain⟨a1,a2,a3⟩:=f.Jv i hi
   exact⟨a1,a2,by omega⟩
  ·rw[GK id tl tQ,h1,List.append_assoc]
  ·intro e;have:=congrArg List.length e;rw[bJ,bJ,c1]at this;simp at this
  ·refine Lv.fT (f.Tl l' ov) fun i hi=>?_
   obtain⟨a1,a2,a3,a4⟩:=f.iP i (List.mem_filterMap.2 ⟨l',ov,hi⟩)
   exact GK i a3 a2
 have p3:=p2.app [(89,a.cells)]
 have ok3:Lv.ok (s2++[(89,a.cells)]) ⟨k,[t],some s2.length⟩:=⟨[a],[],by rw[aW];show _=some (89,(a.cells++[])++[]);rw[List.append_nil,List.append_nil],.cons _ _ _ _ ht .nil,by
  show (a.cells++[])++[]≠[]
  intro e
  have:=congrArg List.length e
  simp[c1]at this⟩
 obtain⟨zY,Q',s4,s5,s6,J6,pp,nQ,e1,e2,e3,p6,l6,f6,j6,hP6⟩:=y_ p3 (by rw[bJ];show base.length+1<_;omega) (by rw[bJ];show 0<_+1;omega) ok3 (fun i hi=>by
  cases hi
  refine⟨fun hm=>Nat.lt_irrefl _ (p2.lt _ hm),by rw[aP];omega⟩)
 have lA:(s2++[(89,a.cells)]).length=s.length+2:=by rw[aP,abk]
 have x6:Ex s s6 (JJ P Q base ⟨k0,fw++[t],some id⟩) J6:=by
  refine⟨by omega,fun x hx hj=>?_,fun x hx=>?_⟩
  ·have nQ:x≠Q:=fun e=>hj (by rw[e];unfold JJ;simp)
   rw[f6 x (by omega) hj,bE (by omega),GK x hx nQ]
  ·rcases j6 x hx with k|k|k
   ·exact .inl k
   ·cases k;exact .inr (by omega)
   ·exact .inr (by omega)
 obtain⟨s7,J7,r,e7,p7,x7⟩:=hg s6 ⟨k0,fw,some id⟩ J6 ⟨pos,some s2.length,rfl,p6⟩ x6
 obtain⟨abl,i7,rfl,p7⟩:=p7
 obtain⟨s8,i8,J8,e8,p8,x8⟩:=o8 p7 (by show fw.length+_<_;omega)
 refine⟨s8,J8,?_,⟨abl,i8,rfl,p8⟩,(x6.trans x7).trans x8⟩
 have e8:=e8 n
 have q0:af false false 1 (.ref P 2) s=some (.rs 89 3 Q 0 (base.length+1),s):=ld (o:=2) f.par (by decide) rfl (by decide)
 have qc:af false false 1 (.ref Q (base.length*3+2)) s=some (.rs 89 3 id 0 (fw.length+1),s):=by
  rw[ld (n:=1) (o:=base.length*3+2) f.row (by decide) (vu 2 (by decide)) (by decide),lC,←hil];rfl
 have qc1:af false false 1 (.ref Q (base.length*3+2)) (s++[(89,a.cells)])=some (.rs 89 3 id 0 (fw.length+1),s++[(89,a.cells)]):=by
  rw[ld (n:=1) (o:=base.length*3+2) q1 (by decide) (vu 2 (by decide)) (by decide),lC,←hil];rfl
 have pp2:s2[P]?=some (116,[zY,I pos,.rs 89 3 Q' 0 (base.length+1)]):=by
  rw[bE (by omega),bJ]at pp;exact pp
 have q2:af false false 1 (.ref P 2) s2=some (.rs 89 3 Q' 0 (base.length+1),s2):=ld (o:=2) pp2 (by decide) rfl (by decide)
 have q8:af false true 3 (.ref s.length 0) s2=some (a,s2):=by
  rw[Jr (o:=0) g2 (by decide) (by omega) (by decide),List.drop_zero,List.take_of_length_le (by omega),←c4]
 have bl:(base++[(⟨k0,fw,some id⟩:Lv)]).length=base.length+1:=by rw[bJ];rfl
 rw[bl]at e1 e2 e3
 have e2:aB 3 s4 (.ref (s2++[(89,a.cells)]).length ((base.length+1)*3)) (.agg [I k,.str [],.rs 89 3 s2.length 0 1])=some s5:=e2
 have nP2:(s2++[(89,a.cells)]).length≠P:=by omega
 have it:=jz 89 (s2++[(89,a.cells)]).length (base.length+1)
 rw[aF XZ (a7 ..),NU,XY]
 simp -implicitDefEqProofs only[sL,q0,qc,qc1,q2,q8,GJ (I k) (.rs 89 3 s2.length 0 1) rfl rfl rfl rfl rfl rfl,zb ht,iY,sA (a:=base.length) (by omega),sA (a:=fw.length) (by omega),vt,Dp,xy ht,ldc,za,st1,OI,e1,jz,it,e2,dD,e3,cM,yD,SX,SY (s2++[(89,a.cells)]).length P nP2,hv,e7,e8]
end ParF
end

section
namespace ParF
open Go Go.Abs Go.Proofs Pm
theorem dJ (a b:Nat):((a:Int)==(b:Int))=(a==b):=by rw[Bool.eq_iff_iff];simp;omega
theorem zd (ts:List Tok):Rd ts 64 (fun P=>[.ref P 0]) fun r=>.bool (ev sQ r):=by
 intro n hn P s pos tk st h
 obtain⟨n,rfl⟩:∃j,n=j+1:=⟨n-1,by omega⟩
 obtain⟨t,e1⟩:=kb h (n:=n) (by omega)
 refine⟨t,?_⟩
 have k:(((pk (ts.drop pos)).1:Int)==100)=((pk (ts.drop pos)).1==100):=dJ _ 100
 show ab Tryz.prog (den C (n+1)) 64 [.ref P 0] s=_
 rw[aF abc (a7 ..),Sn,F64]
 unfold nh at e1
 simp -implicitDefEqProofs only[sL,e1,nU,k]
 rfl
theorem dE (ts:List Tok):Rd ts 176 (fun P=>[.ref P 0]) fun r=>.bool (ev xj r):=by
 intro n hn P s pos tk st h
 obtain⟨n,rfl⟩:∃j,n=j+1:=⟨n-1,by omega⟩
 obtain⟨t,e1⟩:=kb h (n:=n) (by omega)
 refine⟨t,?_⟩
 have k:(((pk (ts.drop pos)).1:Int)==103)=((pk (ts.drop pos)).1==103):=dJ _ 103
 show ab Tryz.prog (den C (n+1)) 176 [.ref P 0] s=_
 rw[aF Xy (a7 ..),NC,Xx]
 unfold nh at e1
 simp -implicitDefEqProofs only[sL,e1,nU,k]
 rfl
theorem ga (ts:List Tok)(m:Nat):eK ts m (.put 46) vd (ef 186 fun P=>[.ref P 0])∧eK ts m (.put 108) vd (ef 179 fun P=>[.ref P 0])∧eK ts m (.put 0) vd (ef 172 fun P=>[.ref P 0]):=by
 have key:∀{k n:Nat} {P:Nat} {s:ag} {rest:List Tok} {base:List Lv} {k0:Nat} {cs:List az} {J:List Nat} {b:Bool} {rest':List Tok} {bY:List az},PR ts P s rest base k0 cs J→run m (.put k) rest cs=some (b,rest',bY)→base.length+dC bY<900000000 →
   ∃s' J',(∀n,ab Tryz.prog (den C (n+1)) 153 [.ref P 0,.agg [I k,.str [],.aN]] s=some (.aI [],s'))∧PR ts P s' rest' base k0 bY J'∧Ex s s' J J':=by
  intro k n P s rest base k0 cs J b rest' bY h hr hb
  obtain⟨m,rfl⟩:=dz hr
  rw[yY]at hr
  simp only[Option.some.injEq,Prod.mk.injEq]at hr
  obtain⟨rfl,rfl,rfl⟩:=hr
  obtain⟨pos,i,rfl,h⟩:=h
  have hc:=eS (cs++[.mk k [] []])
  rw[bJ]at hc
  obtain⟨s',i',J',e,p,x⟩:=y8 h (t:=.mk k [] []) (.mk _ _ _ _ .nil) (by show cs.length+_<_;omega)
  exact⟨s',J',e,⟨pos,i',rfl,p⟩,x⟩
 refine⟨fun n hn P s rest base k0 cs J b rest' bY h hr hb=>?_,fun n hn P s rest base k0 cs J b rest' bY h hr hb=>?_,fun n hn P s rest base k0 cs J b rest' bY h hr hb=>?_⟩
 ·obtain⟨n,rfl⟩:∃j,n=j+2:=⟨n-2,by omega⟩
  obtain⟨s',J',e,p,x⟩:=key (n:=0) h hr hb
  refine⟨s',J',?_,p,x⟩
  have e:ab Tryz.prog (den C (n+1)) 153 [.ref P 0,.agg [.int .i64 46,.str [],.aN]] s=some (.aI [],s'):=e n
  have b:=iD (I 46) rfl rfl rfl
  show ab Tryz.prog (den C (n+2)) 186 [.ref P 0] s=_
  rw[aF XM (a7 ..),NJ,XL]
  simp -implicitDefEqProofs only[sL,b,e]
 ·obtain⟨n,rfl⟩:∃j,n=j+2:=⟨n-2,by omega⟩
  obtain⟨s',J',e,p,x⟩:=key (n:=0) h hr hb
  refine⟨s',J',?_,p,x⟩
  have e:ab Tryz.prog (den C (n+1)) 153 [.ref P 0,.agg [.int .i64 108,.str [],.aN]] s=some (.aI [],s'):=e n
  have b:=iD (I 108) rfl rfl rfl
  show ab Tryz.prog (den C (n+2)) 179 [.ref P 0] s=_
  rw[aF XC (a7 ..),NE,XB]
  simp -implicitDefEqProofs only[sL,b,e]
 ·obtain⟨n,rfl⟩:∃j,n=j+2:=⟨n-2,by omega⟩
  obtain⟨s',J',e,p,x⟩:=key (n:=0) h hr hb
  refine⟨s',J',?_,p,x⟩
  have e:ab Tryz.prog (den C (n+1)) 153 [.ref P 0,.agg [.int .i64 0,.str [],.aN]] s=some (.aI [],s'):=e n
  have b:=iD (I 0) rfl rfl rfl
  show ab Tryz.prog (den C (n+2)) 172 [.ref P 0] s=_
  rw[aF Xs (a7 ..),Nz,Xr]
  simp -implicitDefEqProofs only[sL,b,e]
theorem eO {ts:List Tok}{m:Nat}(xs:List Bytes)(hl:xs.length<50){n:Nat}(hn:m*20+ts.length+101≤n){P:Nat}{s:ag}{rest:List Tok}{base:List Lv}{k:Nat}{cs:List az}{J:List Nat}{b:Bool}{rest':List Tok}{bY:List az}
  (h:PR ts P s rest base k cs J)(hc:ev (eL xs) rest=true)(hr:run m .bump rest cs=some (b,rest',bY))(hb:base.length+dC bY<900000000) :
  ∃s' J',ab Tryz.prog (den C n) 105 [.ref P 0,strs xs] s=some (.bool true,s')∧PR ts P s' rest' base k bY J'∧Ex s s' J J':=by
 obtain⟨n,rfl⟩:∃j,n=j+1:=⟨n-1,by omega⟩
 obtain⟨s1,e1,p1,x1⟩:=(cN (ts:=ts) xs hl).use (n:=n) (by omega) h
 obtain⟨s2,J2,e2,p2,x2⟩:=aX ts m n (by omega) P s1 rest base k cs J b rest' bY p1 hr hb
 refine⟨s2,J2,?_,p2,x1.trans x2⟩
 have e1:ab Tryz.prog (den C n) 99 [.ref P 0,strs xs] s=some (.bool true,s1):=by rw[←hc];exact e1
 have e2:ab Tryz.prog (den C n) 106 [.ref P 0] s1=some (.aI [],s2):=e2
 have hs:(strs xs).aa=strs xs:=rfl
 rw[aF QK (a7 ..),Eu,Sx]
 simp -implicitDefEqProofs only[sL,hs,e1,e2]
theorem gk {ts:List Tok}(xs:List Bytes)(hl:xs.length<50){n:Nat}(hn:ts.length+81≤n){P:Nat}{s:ag}{rest:List Tok}{base:List Lv}{k:Nat}{cs:List az}{J:List Nat}
  (h:PR ts P s rest base k cs J)(hc:ev (eL xs) rest=false) :
  ∃s',ab Tryz.prog (den C n) 105 [.ref P 0,strs xs] s=some (.bool false,s')∧PR ts P s' rest base k cs J∧Ex s s' J J:=by
 obtain⟨n,rfl⟩:∃j,n=j+1:=⟨n-1,by omega⟩
 obtain⟨s1,e1,p1,x1⟩:=(cN (ts:=ts) xs hl).use (n:=n) (by omega) h
 refine⟨s1,?_,p1,x1⟩
 have e1:ab Tryz.prog (den C n) 99 [.ref P 0,strs xs] s=some (.bool false,s1):=by rw[←hc];exact e1
 have hs:(strs xs).aa=strs xs:=rfl
 rw[aF QK (a7 ..),Eu,Sx]
 simp -implicitDefEqProofs only[sL,hs,e1]
theorem uN (a:Bytes):(AV.sl 9 1 [.str a] .own).aa=strs [a]:=rfl
theorem Wy (a b:Bytes):(AV.sl 9 1 [.str a,.str b] .own).aa=strs [a,b]:=rfl
theorem bq (ts:List Tok)(m:Nat)(w:Bytes):eK ts m (a6 w) vd (ef 149 fun P=>[.ref P 0,.str w]):=by
 intro n hn P s rest base k cs J b rest' bY h hr hb
 obtain⟨m,rfl,bG⟩:=aO hr
 obtain⟨n,rfl⟩:∃j,n=j+1:=⟨n-1,by omega⟩
 have b1:=cD w
 rcases bG with ⟨hc,bG⟩|⟨hc,bG⟩
 ·obtain⟨s1,J1,e1,p1,x1⟩:=eO [w] (by decide:1<50) (n:=n) (by omega) h hc bG hb
  refine⟨s1,J1,?_,p1,x1⟩
  show ab Tryz.prog (den C (n+1)) 149 [.ref P 0,.str w] s=_
  rw[aF QP (a7 ..),EA,SG]
  simp -implicitDefEqProofs only[sL,b1,uN,e1]
 ·obtain⟨s1,e1,p1,x1⟩:=gk [w] (by decide:1<50) (n:=n) (by omega) h hc
  obtain⟨s2,J2,e2,p2,x2⟩:=(ga ts m).2.1 n (by omega) P s1 rest base k cs J b rest' bY p1 bG hb
  refine⟨s2,J2,?_,p2,x1.trans x2⟩
  have e2:ab Tryz.prog (den C n) 179 [.ref P 0] s1=some (.aI [],s2):=e2
  show ab Tryz.prog (den C (n+1)) 149 [.ref P 0,.str w] s=_
  rw[aF QP (a7 ..),EA,SG]
  simp -implicitDefEqProofs only[sL,b1,uN,e1,e2]
theorem dt (ts:List Tok)(m:Nat):eK ts m c_ vd (ef 146 fun P=>[.ref P 0]):=by
 intro n hn P s rest base k cs J b rest' bY h hr hb
 obtain⟨m,rfl,bG⟩:=aO hr
 obtain⟨n,rfl⟩:∃j,n=j+1:=⟨n-1,by omega⟩
 obtain⟨s1,e1,p1,x1⟩:=(dE ts).use (n:=n) (by omega) h
 rcases bG with ⟨hc,bG⟩|⟨hc,bG⟩
 ·obtain⟨s2,J2,e2,p2,x2⟩:=aX ts m n (by omega) P s1 rest base k cs J b rest' bY p1 bG hb
  refine⟨s2,J2,?_,p2,x1.trans x2⟩
  have e2:ab Tryz.prog (den C n) 106 [.ref P 0] s1=some (.aI [],s2):=e2
  show ab Tryz.prog (den C (n+1)) 146 [.ref P 0] s=_
  rw[aF QN (a7 ..),Ey,SD]
  simp -implicitDefEqProofs only[sL,e1,hc,e2]
 ·obtain⟨s2,J2,e2,p2,x2⟩:=(ga ts m).2.1 n (by omega) P s1 rest base k cs J b rest' bY p1 bG hb
  refine⟨s2,J2,?_,p2,x1.trans x2⟩
  have e2:ab Tryz.prog (den C n) 179 [.ref P 0] s1=some (.aI [],s2):=e2
  show ab Tryz.prog (den C (n+1)) 146 [.ref P 0] s=_
  rw[aF QN (a7 ..),Ey,SD]
  simp -implicitDefEqProofs only[sL,e1,hc,e2]
theorem me {ts:List Tok}{m:Nat}(w:Bytes){g:G}{rv:Bool→AV}{v:Nat→AV}(hv:∀P,(v P).aa=v P)(hg:∀m'<m,eK ts m' g rv (Tu v)):eK ts m (oV w g) vd (ef 171 fun P=>[.ref P 0,.str w,v P]):=by
 intro n hn P s rest base k cs J b rest' bY h hr hb
 obtain⟨m,rfl,bG⟩:=aO hr
 obtain⟨n,rfl⟩:∃j,n=j+1:=⟨n-1,by omega⟩
 have b1:=cD w
 rcases bG with ⟨hc,bG⟩|⟨hc,bG⟩
 ·obtain⟨m,b0,t1,c1,rfl,ha,hr2,hz⟩:=ay bG
  obtain⟨s1,J1,e1,p1,x1⟩:=eO [w] (by decide:1<50) (n:=n) (by omega) h hc ha (by omega)
  obtain⟨s2,J2,e2,p2,x2⟩:=hg m (by omega) n (by omega) P s1 t1 base k c1 J1 b rest' bY p1 hr2 hb
  refine⟨s2,J2,?_,p2,x1.trans x2⟩
  have e2:fP Tryz.prog (den C n) (v P) [] s1=some (rv b,s2):=e2
  show ab Tryz.prog (den C (n+1)) 171 [.ref P 0,.str w,v P] s=_
  rw[aF QQ (a7 ..),EC,SJ]
  simp -implicitDefEqProofs only[sL,b1,uN,e1,hv,e2]
 ·obtain⟨s1,e1,p1,x1⟩:=gk [w] (by decide:1<50) (n:=n) (by omega) h hc
  obtain⟨s2,J2,e2,p2,x2⟩:=(ga ts m).2.2 n (by omega) P s1 rest base k cs J b rest' bY p1 bG hb
  refine⟨s2,J2,?_,p2,x1.trans x2⟩
  have e2:ab Tryz.prog (den C n) 172 [.ref P 0] s1=some (.aI [],s2):=e2
  show ab Tryz.prog (den C (n+1)) 171 [.ref P 0,.str w,v P] s=_
  rw[aF QQ (a7 ..),EC,SJ]
  simp -implicitDefEqProofs only[sL,b1,uN,e1,hv,e2]
theorem nl (ts:List Tok)(m:Nat):eK ts m (.node 46 .bump) vd (ef 203 fun P=>[.ref P 0]):=by
 intro n hn P s rest base k cs J b rest' bY h hr hb
 obtain⟨m',hm⟩:=dz hr
 obtain⟨n,rfl⟩:∃j,n=j+1:=⟨n-1,by omega⟩
 obtain⟨m2,ds,e,bG,hcs⟩:=nk hr
 obtain⟨n,rfl⟩:∃j,n=j+3:=⟨n-3,by omega⟩
 rw[hcs,aw,aT,aZ]at hb
 obtain⟨s1,J1,e1,p1,x1⟩:=vw (k:=46) [] h hb (v:=.fn 106 [.ref P 0] []) rfl n fun s3 lv J3 p3 x3=>by
  obtain⟨s4,J4,e4,p4,x4⟩:=aX ts m2 (n+2) (by omega) P s3 rest (base++[lv]) 46 [] J3 b rest' ds p3 bG (by rw[bJ];show base.length+1+_<_;omega)
  exact⟨s4,J4,_,e4,p4,x4⟩
 refine⟨s1,J1,?_,by rw[hcs];exact p1,x1⟩
 have e1:ab Tryz.prog (den C (n+3)) 103 [.ref P 0,.int .i64 46,.fn 106 [.ref P 0] []] s=some (.aI [],s1):=e1
 show ab Tryz.prog (den C (n+3+1)) 203 [.ref P 0] s=_
 rw[aF XU (a7 ..),NP,XT]
 simp -implicitDefEqProofs only[sL,e1]
end ParF
end

section
namespace ParF
open Go Go.Abs Go.Proofs Pm
def Ba:Bytes:=[117,115,101,32,112,117,98,32,102,110,32,115,116,114,117,99,116,32,101,110,117,109,32,116,114,97,105,116,32,105,109,112,108,32,99,111,110,115,116,32,109,97,99,114,111]
def Bb:Bytes:=[117,115,101,32,102,110,32,115,116,114,117,99,116,32,101,110,117,109,32,116,114,97,105,116,32,105,109,112,108,32,99,111,110,115,116,32,109,97,99,114,111]
theorem Bc:Lib.fields Ba=cy:=by kernel_rfl
theorem Bd:Lib.fields Bb=iL:=by kernel_rfl
theorem kg (a:Bytes)(h1:a.length<1000)(h2:(a.all fun b=>b.toNat<128)=true):AN 1 137 [.str a] (strs (Lib.fields a)) :=
 .intro (by kernel_rfl) rfl (by rw[cE,cR]) fun n _=>⟨[],by rw[gx (e:=lS) (by rfl)];simp only[lS];rw[if_pos ⟨h1,h2⟩]⟩
theorem iE:AN 2 141 [] (strs cy):=by
 refine .intro Xc rfl (by rw[cE,cR]) fun n hn=>⟨[],?_⟩
 have q:=(kg Ba (by decide) (by decide)).of (n:=n) (by omega) []
 rw[Bc]at q
 have hs:(strs cy).aa=strs cy:=rfl
 have q:ab Tryz.prog (den C n) 137 [.str [117,115,101,32,112,117,98,32,102,110,32,115,116,114,117,99,116,32,101,110,117,109,32,116,114,97,105,116,32,105,109,112,108,32,99,111,110,115,116,32,109,97,99,114,111]] []=some (strs cy,[]):=q
 rw[Np,Xb]
 simp -implicitDefEqProofs only[sL,q]
theorem xz (w:Bytes):(ke iL w 0<0∧kindOf w=0)∨(∃k,ke iL w 0=(k:Nat)∧k<8∧kindOf w=2+k):=by
 unfold ke kindOf
 rw[List.drop_zero]
 cases h:iL.idxOf? w with
 | none=>exact .inl ⟨by decide,rfl⟩
 | some k =>
  refine .inr ⟨k,by simp,?_,rfl⟩
  have:k<iL.length:=by
   have:=List.findIdx?_eq_some_iff_getElem.1 (by rw[List.idxOf?]at h;exact h)
   exact this.1
  exact this
theorem ze (w:Bytes):AN 70 101 [.str w] (I (kindOf w)):=by
 refine .intro (N:=69) WX rfl rfl fun n hn=>⟨[],?_⟩
 have q:=(kg Bb (by decide) (by decide)).of (n:=n) (by omega) []
 rw[Bd]at q
 have q:ab Tryz.prog (den C n) 137 [.str [117,115,101,32,102,110,32,115,116,114,117,99,116,32,101,110,117,109,32,116,114,97,105,116,32,105,109,112,108,32,99,111,110,115,116,32,109,97,99,114,111]] []=some (strs iL,[]):=q
 have q2:=(lD iL w (by decide)).of (n:=n) (by omega) []
 have hs:(strs iL).aa=strs iL:=rfl
 rw[Ni,WW]
 rcases xz w with ⟨h1,h2⟩|⟨k,h1,h2,h3⟩
 ·rw[h2]
  simp -implicitDefEqProofs only[sL,q,hs,q2,h1,decide_true]
  rfl
 ·rw[h3]
  rw[h1]at q2
  have h4:¬((k:Int)<0):=by omega
  have h5:IntKind.i64.wrap (2+(k:Int))=((2+k:Nat):Int):=by rw[wrap64]<;>omega
  simp -implicitDefEqProofs only[sL,q,hs,q2,h4,decide_false,h5]
def Rd' (d:Nat)(ts:List Tok)(f:FuncId)(args:Nat→List AV)(v:List Tok→AV):Prop:=∀n,ts.length+d≤n→∀P s pos tk st,Ci ts P s pos tk st→∃t,ab Tryz.prog (den C n) f (args P) s=some (v (ts.drop pos),s++t)
theorem Rd'.use {d:Nat}{ts:List Tok}{f:FuncId}{args:Nat→List AV}{v:List Tok→AV}(q:Rd' d ts f args v){n:Nat}(hn:ts.length+d≤n){P:Nat}{s:ag}{rest:List Tok}{base:List Lv}{k:Nat}{cs:List az}{J:List Nat}
  (h:PR ts P s rest base k cs J):∃s',ab Tryz.prog (den C n) f (args P) s=some (v rest,s')∧PR ts P s' rest base k cs J∧Ex s s' J J:=by
 obtain⟨pos,i,rfl,h⟩:=h
 obtain⟨tk,st,r⟩:=h.xw
 obtain⟨t,e⟩:=q n hn P s pos tk st r
 exact⟨_,e,⟨pos,i,rfl,h.app t⟩,.app s t J⟩
theorem OJ (ts:List Tok):Rd' 90 ts 202 (fun P=>[.ref P 0]) fun r=>.bool (rA (pk r)):=by
 intro n hn P s pos tk st h
 obtain⟨n,rfl⟩:∃j,n=j+1:=⟨n-1,by omega⟩
 have e0:=iE.of (n:=n) (by omega) s
 obtain⟨t1,e1⟩:=cN (ts:=ts) cy (by decide) n (by omega) P s pos tk st h
 obtain⟨t2,e2⟩:=cN (ts:=ts) [Gv] (by decide) n (by omega) P (s++t1) pos tk st (h.app t1)
 dsimp only at e1 e2
 have b1:ak Tryz.prog 75 1 [(0,.str [102,110])]=_:=cD [102,110]
 have hs:(strs cy).aa=strs cy:=rfl
 have o1:(AV.sl 9 1 [.str [102,110]] .own).aa=strs [Gv]:=rfl
 show ∃t,ab Tryz.prog (den C (n+1)) 202 [.ref P 0] s=some (.bool (rA (pk (ts.drop pos))),s++t)
 unfold rA
 cases h1:eN cy (pk (ts.drop pos)) with
 | false =>
  rw[h1]at e1
  refine⟨t1,?_⟩
  rw[aF QX (a7 ..),EK,SV]
  simp -implicitDefEqProofs only[sL,e0,hs,e1,Bool.false_and]
 | true =>
  rw[h1]at e1
  refine⟨t1++t2,?_⟩
  rw[aF QX (a7 ..),EK,SV,←List.append_assoc]
  simp -implicitDefEqProofs only[sL,e0,hs,e1,b1,o1,e2,Bool.true_and]
theorem Tv (ts:List Tok):Rd' 90 ts 254 (fun P=>[.ref P 0]) fun r=>.bool ((pk r).1==103 || (pk r).1==105 || eN [iS,iA,mF] (pk r)):=by
 intro n hn P s pos tk st h
 obtain⟨n,rfl⟩:∃j,n=j+1:=⟨n-1,by omega⟩
 obtain⟨t1,e1⟩:=dE ts n (by omega) P s pos tk st h
 obtain⟨t2,e2⟩:=kb (h.app t1) (n:=n) (by omega)
 obtain⟨t3,e3⟩:=cN (ts:=ts) [iS,iA,mF] (by decide) n (by omega) P (s++t1++t2) pos tk st ((h.app t1).app t2)
 dsimp only at e1 e2 e3
 have b3:ak Tryz.prog 75 3 [(0,.str [116,114,117,101]),(1,.str [102,97,108,115,101]),(2,.str [109,117,116])]=_:=cT [116,114,117,101] [102,97,108,115,101] [109,117,116]
 have o3:(AV.sl 9 1 [.str [116,114,117,101],.str [102,97,108,115,101],.str [109,117,116]] .own).aa=strs [iS,iA,mF]:=rfl
 show ∃t,ab Tryz.prog (den C (n+1)) 254 [.ref P 0] s=some (.bool ((pk (ts.drop pos)).1==103 || (pk (ts.drop pos)).1==105 || eN [iS,iA,mF] (pk (ts.drop pos))),s++t)
 have hid:ev xj (ts.drop pos)=((pk (ts.drop pos)).1==103):=rfl
 unfold nh at e2
 have k:(((pk (ts.drop pos)).1:Int)==105)=((pk (ts.drop pos)).1==105):=dJ _ 105
 generalize pk (ts.drop pos)=x at *
 cases h1:(x.1==103) with
 | true =>
  rw[hid,h1]at e1
  refine⟨t1,?_⟩
  rw[aF Ja (a7 ..),yO,Ol]
  simp -implicitDefEqProofs only[sL,e1,Bool.true_or]
 | false =>
  rw[hid,h1]at e1
  cases h2:(x.1==105) with
  | true =>
   refine⟨t1++t2,?_⟩
   rw[aF Ja (a7 ..),yO,Ol,←List.append_assoc]
   simp -implicitDefEqProofs only[sL,e1,e2,nU,k,h2,Bool.true_or,Bool.false_or]
  | false =>
   refine⟨t1++t2++t3,?_⟩
   rw[aF Ja (a7 ..),yO,Ol,←List.append_assoc,←List.append_assoc]
   simp -implicitDefEqProofs only[sL,e1,e2,nU,k,h2,b3,o3,e3,Bool.false_or]
theorem np {ts:List Tok}{P:Nat}{s:ag}{pos:Nat}{tk OF:AV}(h:Ci ts P s pos tk OF){n:Nat}(hn:ts.length+130≤n) :
  ∃t P' pos' zY gw,ab Tryz.prog (den C n) 100 [.ref P 0] s=some (.ref P' 0,s++t)∧Ci ts P' (s++t) pos' zY gw∧ts.drop pos'=la (ts.drop pos):=by
 obtain⟨n,rfl⟩:∃j,n=j+1:=⟨n-1,by omega⟩
 have hb:bn Tryz.prog 89 []=some (.agg [I 0,.str [],.aN]):=by kernel_rfl
 have rb:=zb (s:=s) (a:=.agg [I 0,.str [],.aN]) (t:=.mk 0 [] []) (.mk _ _ _ _ .nil)
 have rb:fN Tryz.prog 87 1 [(0,.agg [I 0,.str [],.aN])] s=some (.rs 89 3 s.length 0 1,s++[(89,[I 0,.str [],.aN])]):=rb
 have h2:(s++[(89,[I 0,.str [],.aN])]++[(116,[tk,I pos,.rs 89 3 s.length 0 1])])[s.length+1]?=some (116,[tk,I pos,.rs 89 3 s.length 0 1]):=by
  have:=aW (s:=s++[(89,[I 0,.str [],.aN])]) (x:=(116,[tk,I pos,.rs 89 3 s.length 0 1]))
  rw[aP]at this;exact this
 have ps:PS ts (s.length+1) (s++[(89,[I 0,.str [],.aN])]++[(116,[tk,I pos,.rs 89 3 s.length 0 1])]) pos ([]++[⟨0,[],none⟩]) (JJ (s.length+1) s.length [] ⟨0,[],none⟩):=by
  refine Fs.ps (tk:=tk) (junk:=[]) ⟨h.pw,h2,?_,by omega,nofun,nofun,List.nodup_nil,rfl,nofun,h.pos,h.len⟩
  rw[bE (by rw[aP];omega),aW];rfl
 obtain⟨s',J',e1,⟨pos',i',ed,p'⟩,x'⟩:=aX ts 1 n (by omega) (s.length+1) _ (ts.drop pos) [] 0 [] _ false (la (ts.drop pos)) _ ⟨pos,none,rfl,ps⟩ rfl (by
  have e:=fI (bP.bump (ts.drop pos) [])
  have hl:dC ([]++(((ts.drop pos).takeWhile dq).map cr++((io (ts.drop pos)).take 1).map cr))≤ts.length:=by
   rw[List.nil_append,←List.map_append,qj]
   have:=congrArg List.length (j' (ts.drop pos))
   rw[bJ,List.length_drop]at this
   omega
  have:=h.len
  show 0+_<_
  omega)
 obtain⟨zY,gw,r'⟩:=p'.xw
 have VX:∀x,x<s.length→s'[x]?=s[x]?:=fun x hx=>by
  rw[x'.fr x (by rw[aP,aP];omega) (by unfold JJ;simp;omega),bE (by rw[aP];omega),bE hx]
 have hlen:s.length≤s'.length:=by have:=x'.len;rw[aP,aP]at this;omega
 have hs':s'=s++s'.drop s.length:=by
  apply List.ext_getElem?
  intro x
  by_cases hx:x<s.length
  ·rw[VX x hx,List.getElem?_append_left hx]
  ·rw[List.getElem?_append_right (by omega),List.getElem?_drop]
   congr 1;omega
 refine⟨s'.drop s.length,s.length+1,pos',zY,gw,?_,by rw[←hs'];exact r',ed.symm⟩
 rw[←hs']
 have e1:ab Tryz.prog (den C n) 106 [.ref (s.length+1) 0] (s++[(89,[I 0,.str [],.aN])]++[(116,[tk,I pos,.rs 89 3 s.length 0 1])])=some (.aI [],s'):=e1
 have Tw:bn Tryz.prog 116 [(0,tk),(1,I pos),(2,.rs 89 3 s.length 0 1)]=some (.agg [tk,I pos,.rs 89 3 s.length 0 1]):=by
  have hz:zeroOf Tryz.prog 116=some (.agg [.aN,I 0,.aN]):=by kernel_rfl
  have hu:(match Tryz.prog.underlying 116 with|some (.struct fs)=>dN Tryz.prog fs.toList|_=>none)=some [(0,1),(1,1),(2,1)]:=by kernel_rfl
  have c1:tk.cells=[tk]:=by rcases h.pw with ⟨e,_⟩|⟨T,e⟩<;>rw[e]<;>rfl
  have c2:tk.ce=true:=by rcases h.pw with ⟨e,_⟩|⟨T,e⟩<;>rw[e]<;>rfl
  have c3:=mc h.pw
  have c4:(AV.rs 89 3 s.length 0 1).cells=[.rs 89 3 s.length 0 1]:=rfl
  have c5:(AV.rs 89 3 s.length 0 1).ce=true:=rfl
  unfold bn
  split at hu
  ·rename_i fs hh
   rw[hz,hh]
   simp[hu,jo,bZ,c1,c2,c3,c4,c5,dD,xe]
  ·cases hu
 have bx:cL true 116 (.agg [tk,I pos,.rs 89 3 s.length 0 1]) (s++[(89,[I 0,.str [],.aN])])=some (.ref (s.length+1) 0,s++[(89,[I 0,.str [],.aN])]++[(116,[tk,I pos,.rs 89 3 s.length 0 1])]):=by
  have:=mc h.pw
  simp[cL,this,dD]
 rw[aF WV (a7 ..),Nh,WU]
 simp -implicitDefEqProofs only[sL,h.Mk,h.ld1,hb,rb,Tw,bx,Sv,e1]
end ParF
end

section
namespace ParF
open Go Go.Abs Go.Proofs Pm
theorem PR.xw {ts:List Tok}{P:Nat}{s:ag}{rest:List Tok}{base:List Lv}{k:Nat}{cs:List az}{J:List Nat}(h:PR ts P s rest base k cs J):∃pos tk st,Ci ts P s pos tk st∧rest=ts.drop pos∧rest.length+pos=ts.length:=by
 obtain⟨pos,i,rfl,h⟩:=h
 obtain⟨tk,st,r⟩:=h.xw
 exact⟨pos,tk,st,r,rfl,by rw[List.length_drop];have:=h.pos;omega⟩
theorem ao:∀(l:List (Nat×AV))(e:Env)(i:Nat),l.all (fun p=>p.1 != i)=true→bf e l i=e i
 | [],_,_,_=>rfl
 | (j,v)::l,e,i,h=>by
  simp only[List.all_cons,Bool.and_eq_true,bne_iff_ne,ne_eq]at h
  rw[ai,ao l _ i h.2,an,if_neg (fun x=>h.1 x.symm)]
def Ra (cl:Bytes)(el:G):G:=.prog el (.node 46 .bump) (.ite (eL [cl]) ft (a6 yS))
theorem zf {m:Nat}{w:Bytes}{ts eY:List Tok}{cs bY:List az}{b:Bool}(h:run m (a6 w) ts cs=some (b,eY,bY)):b=false:=by
 obtain⟨m,rfl,h|h⟩:=aO h
 ·obtain⟨m,rfl⟩:=dz h.2;have h:=h.2;rw[qm]at h;cases h;rfl
 ·obtain⟨m,rfl⟩:=dz h.2;have h:=h.2;rw[yY]at h;cases h;rfl
theorem Dq {m:Nat}{cl:Bytes}{el:G}{ts eY:List Tok}{cs bY:List az}{b:Bool}(h:run m (Ra cl el) ts cs=some (b,eY,bY)):b=false:=by
 obtain⟨m,r1,t1,c1,rfl,h1,_,h|h⟩:=A_ h
 ·have h:=h.2
  cases m with
  | zero=>rw[Pm.cJ]at h;cases h
  | succ m =>
   rw[mY]at h
   obtain⟨⟨r1,t1,d1⟩,h1,h2⟩:=Option.bind_eq_some_iff.1 h
   obtain⟨m,rfl⟩:=dz h1
   rw[qm]at h1
   cases h1
   simp at h2
   exact h2.1.symm▸rfl
 ·obtain⟨m,rfl,h|h⟩:=aO h.2
  ·exact(bM h.2).1
  ·exact zf h.2
theorem GL {ts:List Tok}{P:Nat}{cl:Bytes}{el:G}{rv:Bool→AV}{v:Nat→AV}(hv:∀P,(v P).aa=v P){n:Nat}:∀(m:Nat),(∀m'<m,eK ts m' el rv (Tu v))→m*20+ts.length+110≤n →
  ∀s rest base k cs J b t1 c1 m2 b' rest' bY,PR ts P s rest base k cs J→run m (.dH (AS cl) (Ra cl el)) rest cs=some (b,t1,c1)→m2*20+ts.length+100≤n→run m2 (a6 cl) t1 c1=some (b',rest',bY)→base.length+dC bY<900000000 →
  ∃s' J',(∀M n' e,m<M→e 0=.ref P 0→e 1=.str cl→e 2=v P→aJ (kH (den C n) n') M e s=some (.aI [],s'))∧PR ts P s' rest' base k bY J'∧Ex s s' J J':=by
 intro m
 induction m with
 | zero=>intro _ _ s rest base k cs J b t1 c1 m2 b' rest' bY h hr;rw[Pm.cJ]at hr;cases hr
 | succ m ih =>
  intro hg hn s rest base k cs J b t1 c1 m2 b' rest' bY h hr hm2 hr2 hb
  have hn0:m*20+ts.length+110≤n:=by omega
  have Ww:∀m'<m,eK ts m' el rv (Tu v):=fun m' hm'=>hg m' (Nat.lt_succ_of_lt hm')
  have b1:=cD cl
  have bc:ak Tryz.prog 75 1 [(0,.str [44])]=_:=cD [44]
  obtain⟨sa,ea,pa,xa⟩:=(cN (ts:=ts) [cl] (by decide:1<50)).use (n:=n) (by omega) h
  obtain⟨sb,eb,pb,xb⟩:=(zd ts).use (n:=n) (by omega) pa
  obtain⟨sc,ec,pc,xc⟩:=(OJ ts).use (n:=n) (by omega) pb
  obtain⟨m',hm',hw⟩:=gq hr
  cases hm'
  have sB:ev (AS cl) rest=(!eN [cl] (pk rest)&&!(ev sQ rest)&&!rA (pk rest)):=rfl
  rcases hw with ⟨hc,rfl,rfl,rfl⟩|⟨hc,bG,rfl⟩|⟨hc,t2,c2,bG,hr3,hz⟩
  ·-- the end
   have fin:∀sx,PR ts P sx t1 base k c1 J→Ex s sx J J→∃s' J',ab Tryz.prog (den C n) 149 [.ref P 0,.str cl] sx=some (.aI [],s')∧PR ts P s' rest' base k bY J'∧Ex s s' J J':=by
    intro sx px xx
    obtain⟨s',J',e,p,x⟩:=bq ts m2 cl n (by omega) P sx t1 base k c1 J b' rest' bY px hr2 hb
    exact⟨s',J',e,p,xx.trans x⟩
   rw[hc]at sB
   cases h1:eN [cl] (pk t1) with
   | true =>
    rw[h1]at ea
    obtain⟨s',J',e,p,x⟩:=fin sa pa xa
    refine⟨s',J',fun M n' en hM eM fy kK=>?_,p,x⟩
    obtain⟨M,rfl⟩:∃j,M=j+1:=⟨M-1,by omega⟩
    rw[aJ,kH]
    simp -implicitDefEqProofs only[sL,eM,fy,kK,b1,uN,ea,e]
   | false =>
    rw[h1]at ea sB
    cases h2:ev sQ t1 with
    | true =>
     rw[h2]at eb
     obtain⟨s',J',e,p,x⟩:=fin sb pb (xa.trans xb)
     refine⟨s',J',fun M n' en hM eM fy kK=>?_,p,x⟩
     obtain⟨M,rfl⟩:∃j,M=j+1:=⟨M-1,by omega⟩
     rw[aJ,kH]
     simp -implicitDefEqProofs only[sL,eM,fy,kK,b1,uN,ea,eb,e]
    | false =>
     rw[h2]at eb sB
     have h3:rA (pk t1)=true:=by simpa using sB
     rw[h3]at ec
     obtain⟨s',J',e,p,x⟩:=fin sc pc ((xa.trans xb).trans xc)
     refine⟨s',J',fun M n' en hM eM fy kK=>?_,p,x⟩
     obtain⟨M,rfl⟩:∃j,M=j+1:=⟨M-1,by omega⟩
     rw[aJ,kH]
     simp -implicitDefEqProofs only[sL,eM,fy,kK,b1,uN,ea,eb,ec,e]
  ·exact absurd (Dq bG) (by decide)
  ·-- a round
   rw[hc]at sB
   simp only[Bool.true_eq,Bool.and_eq_true,Bool.not_eq_true']at sB
   obtain⟨⟨h1,h2⟩,h3⟩:=sB
   rw[h1]at ea
   rw[h2]at eb
   rw[h3]at ec
   have Ce:dC c1≤dC bY:=fI (fH _ _ _ _ _ _ _ hr2)
   obtain⟨JC,tk3,st3,r3,Mn,hl3⟩:=pc.xw
   obtain⟨m1,b4,t4,c4,hmm,kL,V5,hrest⟩:=A_ bG
   have hm1:m1<m+1:=by omega
   have hn1:m1*20+ts.length+100≤n:=by omega
   obtain⟨s4,J4,e4,p4,x4⟩:=hg m1 hm1 n hn1 P sc rest base k cs J b4 t4 c4 pc kL (by omega)
   have e4:fP Tryz.prog (den C n) (v P) [] sc=some (rv b4,s4):=e4
   obtain⟨GI,tk4,st4,r4,OK,hl4⟩:=p4.xw
   rcases hrest with ⟨hl,il⟩|⟨hl,il⟩
   ·obtain⟨s5,J5,e5,p5,x5⟩:=nl ts m1 n hn1 P s4 t4 base k c4 J4 false t2 c2 p4 il (by omega)
    have e5:ab Tryz.prog (den C n) 203 [.ref P 0] s4=some (.aI [],s5):=e5
    obtain⟨s6,J6,e6,p6,x6⟩:=ih Ww hn0 s5 t2 base k c2 J5 b t1 c1 m2 b' rest' bY p5 hr3 hm2 hr2 hb
    refine⟨s6,J6,fun M n' en hM eM fy kK=>?_,p6,(((xa.trans xb).trans xc).trans x4).trans (x5.trans x6)⟩
    obtain⟨M,rfl⟩:∃j,M=j+1:=⟨M-1,by omega⟩
    have Mp:((GI:Int)==(JC:Int))=true:=by simp;omega
    rw[aJ,kH]
    simp -implicitDefEqProofs only[sL,eM,fy,kK,b1,uN,ea,eb,ec,r3.ld1,hv,e4,r4.ld1,Mp,e5]
    exact e6 _ _ _ (by omega) ((ao _ _ _ rfl).trans eM) ((ao _ _ _ rfl).trans fy) ((ao _ _ _ rfl).trans kK)
   ·have Mp:((GI:Int)==(JC:Int))=false:=by simp;omega
    obtain⟨m0,rfl,Be|Be⟩:=aO il
    ·obtain⟨JD,Be⟩:=Be
     obtain⟨-,rfl,rfl⟩:=bM Be
     obtain⟨s5,e5,p5,x5⟩:=(cN (ts:=ts) [cl] (by decide:1<50)).use (n:=n) (by omega) p4
     have e5:ab Tryz.prog (den C n) 99 [.ref P 0,strs [cl]] s4=some (.bool true,s5):=by rw[←JD];exact e5
     obtain⟨s6,J6,e6,p6,x6⟩:=ih Ww hn0 s5 t2 base k c2 J4 b t1 c1 m2 b' rest' bY p5 hr3 hm2 hr2 hb
     refine⟨s6,J6,fun M n' en hM eM fy kK=>?_,p6,(((xa.trans xb).trans xc).trans x4).trans (x5.trans x6)⟩
     obtain⟨M,rfl⟩:∃j,M=j+1:=⟨M-1,by omega⟩
     rw[aJ,kH]
     simp -implicitDefEqProofs only[sL,eM,fy,kK,b1,uN,ea,eb,ec,r3.ld1,hv,e4,r4.ld1,Mp,e5]
     exact e6 _ _ _ (by omega) ((ao _ _ _ rfl).trans eM) ((ao _ _ _ rfl).trans fy) ((ao _ _ _ rfl).trans kK)
    ·obtain⟨JD,Be⟩:=Be
     obtain⟨s5,e5,p5,x5⟩:=(cN (ts:=ts) [cl] (by decide:1<50)).use (n:=n) (by omega) p4
     have e5:ab Tryz.prog (den C n) 99 [.ref P 0,strs [cl]] s4=some (.bool false,s5):=by rw[←JD];exact e5
     obtain⟨s7,J7,e7,p7,x7⟩:=bq ts m0 yS n (by omega) P s5 t4 base k c4 J4 false t2 c2 p5 Be (by omega)
     have e7:ab Tryz.prog (den C n) 149 [.ref P 0,.str [44]] s5=some (.aI [],s7):=e7
     obtain⟨s6,J6,e6,p6,x6⟩:=ih Ww hn0 s7 t2 base k c2 J7 b t1 c1 m2 b' rest' bY p7 hr3 hm2 hr2 hb
     refine⟨s6,J6,fun M n' en hM eM fy kK=>?_,p6,(((xa.trans xb).trans xc).trans x4).trans ((x5.trans x7).trans x6)⟩
     obtain⟨M,rfl⟩:∃j,M=j+1:=⟨M-1,by omega⟩
     rw[aJ,kH]
     simp -implicitDefEqProofs only[sL,eM,fy,kK,b1,uN,ea,eb,ec,r3.ld1,hv,e4,r4.ld1,Mp,e5,e7]
     exact e6 _ _ _ (by omega) ((ao _ _ _ rfl).trans eM) ((ao _ _ _ rfl).trans fy) ((ao _ _ _ rfl).trans kK)
theorem ja {ts:List Tok}{m f:Nat}{rv:Bool→AV}{F:Nat→Nat→ag→Option (AV×ag)}(h:∀k<m,eK ts k (ot f) rv F):eK ts m (.call f) rv F:=by
 intro n hn P s rest base k cs J b rest' bY hp hr hb
 obtain⟨m',hm,hr⟩:=vv hr
 exact h m' (by omega) n (by omega) P s rest base k cs J b rest' bY hp hr hb
theorem dF (i o:Nat)(l:List AV):aV (.box [.ref i o] 0::l)=false:=by rw[aC];simp[AV.a_,aV]
theorem aq (t i o:Nat)(s:ag):cL false t (.ref i o) s=some (.box [.ref i o] 0,s):=rfl
theorem ax (t:Nat)(a:Bytes)(s:ag):cL false t (.str a) s=some (.box [.str a] 0,s):=rfl
theorem ar (t:Nat)(a:Bool)(s:ag):cL false t (.bool a) s=some (.box [.bool a] 0,s):=rfl
theorem av (t:Nat)(a:Int)(s:ag):cL false t (I a) s=some (.box [I a] 0,s):=rfl
abbrev pb (P:Nat):AV:=.box [.ref P 0] 0
structure cd (ts:List Tok)(m:Nat):Prop where
 ty:eK ts m (.call 0) vd (ef 150 fun P=>[.ref P 0])
 bl:eK ts m (.call 1) vd (ef 173 fun P=>[.ref P 0])
 st:eK ts m (.call 2) bv (ef 201 fun P=>[.ref P 0])
 pr:eK ts m (.call 4) vd (ef 224 fun P=>[.ref P 0])
 pa:eK ts m (.call 5) vd (ef 235 fun P=>[.ref P 0])
 ix:eK ts m (.call 6) vd (ef 239 fun P=>[.ref P 0])
 ex:eK ts m (.call 10) vd (ef 151 fun P=>[.ref P 0])
 un:eK ts m (.call 15) vd (ef 208 fun P=>[.ref P 0])
 bi:∀l:Nat,l≤5→eK ts m (.call (10+l)) vd (ef 187 fun P=>[.ref P 0,I l])
end ParF
end

section
namespace ParF
open Go Go.Abs Go.Proofs Pm
def lF:G→Bool
 | .ret b=>!b
 | .bump|.put _|.gZ=>true
 | .seq _ b=>lF b
 | .node _ g=>lF g
 | .wrap _ g=>lF g
 | .ite _ a b=>lF a&&lF b
 | .yV _ a b=>lF a&&lF b
 | .prog _ a b=>lF a&&lF b
 | .Ch _ b=>lF b
 | .dH _ g=>lF g
 | .call _=>false
theorem iF:∀{m:Nat}{g:G}{ts eY:List Tok}{cs bY:List az}{b:Bool},lF g=true→run m g ts cs=some (b,eY,bY)→b=false:=by
 have key:∀{g:G} {ts eY:List Tok} {cs bY:List az} {b:Bool},bP g ts cs b eY bY→lF g=true→b=false:=by
  intro g ts eY cs bY b h
  induction h with
  | ret b ts cs=>intro h;simpa[lF] using h
  | bump ts cs=>intro _;rfl
  | put k ts cs=>intro _;rfl
  | gZ ts cs t=>intro _;rfl
  | seq h1 h2 i1 i2=>exact i2
  | node cs hk h i=>exact i
  | wrap cs hk h i=>exact i
  | fu hc h i=>intro k;simp only[lF,Bool.and_eq_true]at k;exact i k.1
  | d_ hc h i=>intro k;simp only[lF,Bool.and_eq_true]at k;exact i k.2
  | oW h1 h2 i1 i2=>intro k;simp only[lF,Bool.and_eq_true]at k;exact i2 k.1
  | oX h1 h2 i1 i2=>intro k;simp only[lF,Bool.and_eq_true]at k;exact i2 k.2
  | kI h1 hl h2 i1 i2=>intro k;simp only[lF,Bool.and_eq_true]at k;exact i2 k.1
  | kJ h1 hl h2 i1 i2=>intro k;simp only[lF,Bool.and_eq_true]at k;exact i2 k.2
  | qt h1 hl ht h2 i1 i2=>intro _;exact i2 rfl
  | qu h1 hl h2 i1 i2=>exact i2
  | g_ hc=>intro _;rfl
  | iU hc h i=>exact i
  | iV hc h h2 i1 i2=>exact i2
  | call h i=>intro k;cases k
 intro m g ts eY cs bY b hv h
 exact key (fH _ _ _ _ _ _ _ h) hv
def JE (d:Nat)(ts:List Tok)(m:Nat)(g:G)(rv:Bool→AV)(F:Nat→Nat→ag→Option (AV×ag)):Prop :=
 ∀n,m*20+ts.length+100≤n+d→∀P s rest base k cs J b rest' bY,PR ts P s rest base k cs J→run m g rest cs=some (b,rest',bY)→base.length+dC bY<900000000 →
  ∃s' J',F n P s=some (rv b,s')∧PR ts P s' rest' base k bY J'∧Ex s s' J J'
theorem aR {ts:List Tok}{m k:Nat}{g:G}{rv:Bool→AV}{v:Nat→AV}(hv:∀P,(v P).aa=v P)(hg:∀m'<m,eK ts m' g rv (Tu v)):JE 8 ts m (.node k g) vd (ef 103 fun P=>[.ref P 0,I k,v P]):=by
 intro n hn P s rest base k0 cs J b rest' bY h hr hb
 obtain⟨m1,ds,hm,bG,rfl⟩:=nk hr
 obtain⟨n,rfl⟩:∃j,n=j+3:=⟨n-3,by omega⟩
 rw[aw,aT,aZ]at hb
 exact vw [] h hb (hv P) n fun s3 lv J3 p3 x3=>by
  obtain⟨s4,J4,e4,p4,x4⟩:=hg m1 (by omega) (n+2) (by omega) P s3 rest (base++[lv]) k [] J3 b rest' ds p3 bG (by rw[bJ];show base.length+1+_<_;omega)
  exact⟨s4,J4,_,e4,p4,x4⟩
theorem gN {ts:List Tok}{m k:Nat}{g:G}{rv:Bool→AV}{v:Nat→AV}(hv:∀P,(v P).aa=v P)(hg:∀m'<m,eK ts m' g rv (Tu v)):JE 8 ts m (.wrap k g) vd (ef 210 fun P=>[.ref P 0,I k,v P]):=by
 intro n hn P s rest base k0 cs J b rest' bY h hr hb
 obtain⟨m1,fw,t,ds,hm,rfl,bG,rfl⟩:=A9 hr
 obtain⟨n,rfl⟩:∃j,n=j+3:=⟨n-3,by omega⟩
 rw[aw,aT,aZ]at hb
 exact A' h hb (hv P) n fun s3 lv J3 p3 x3=>by
  obtain⟨s4,J4,e4,p4,x4⟩:=hg m1 (by omega) (n+2) (by omega) P s3 rest (base++[lv]) k [t] J3 b rest' ds p3 bG (by rw[bJ];show base.length+1+_<_;omega)
  exact⟨s4,J4,_,e4,p4,x4⟩
theorem eT {ts:List Tok}{m:Nat}(cl:Bytes){el:G}{rv:Bool→AV}{v:Nat→AV}(hv:∀P,(v P).aa=v P)(hg:∀m'<m,eK ts m' el rv (Tu v)):JE 8 ts m (gf cl el) vd (ef 174 fun P=>[.ref P 0,.str cl,v P]):=by
 intro n hn P s rest base k cs J b rest' bY h hr hb
 obtain⟨m1,b1,t1,c1,hm,bG,hr2,hz⟩:=ay hr
 obtain⟨n,rfl⟩:∃j,n=j+1:=⟨n-1,by omega⟩
 obtain⟨s1,J1,e1,p1,x1⟩:=GL hv (n:=n) m1 (fun m' hm'=>hg m' (by omega)) (by omega) s rest base k cs J b1 t1 c1 m1 b rest' bY h bG (by omega) hr2 hb
 refine⟨s1,J1,?_,p1,x1⟩
 show ab Tryz.prog (den C (n+1)) 174 [.ref P 0,.str cl,v P] s=_
 rw[aF Xw (a7 ..),NB,Xv]
 exact e1 _ _ _ (by omega) rfl rfl rfl
theorem eU (a:AV)(l:List AV):aH (a::l) 0=a:=rfl
theorem eV (a b:AV)(l:List AV):aH (a::b::l) 1=b:=rfl
theorem abm {ts:List Tok}{m:Nat}(H:∀k<m,cd ts k):eK ts m (.seq .bump (oV fk (.call 0))) vd (ef 190 fun P=>[.box [.ref P 0] 0]):=by
 intro n hn P s rest base k cs J b rest' bY h hr hb
 obtain⟨n,rfl⟩:∃j,n=j+1:=⟨n-1,by omega⟩
 obtain⟨m1,b1,t1,c1,hm1,dA,bG,hz1⟩:=ay hr
 obtain⟨s2,J2,q2,p2,x2⟩:=(aX ts m1) n (by omega) P s rest base k cs J b1 t1 c1 h dA (by omega)
 have e2:ab Tryz.prog (den C n) 106 [.ref P 0] s=some (.aI [],s2):=q2
 obtain⟨s3,J3,q3,p3,x3⟩:=(me (ts:=ts) (m:=m1) fk (v:=fun P=>.fn 150 [.ref P 0] []) (fun _=>rfl) (fun k hk=>(H k (by omega)).ty)) n (by omega) P s2 t1 base k c1 J2 b rest' bY p2 bG (by omega)
 have e3:ab Tryz.prog (den C n) 171 [.ref P 0,.str [58],.fn 150 [.ref P 0] []] s2=some (.aI [],s3):=q3
 refine⟨s3,J3,?_,p3,(x2.trans x3)⟩
 show ab Tryz.prog (den C (n+1)) 190 [.box [.ref P 0] 0] s=_
 rw[aF XQ (dF ..),NL,XP]
 simp -implicitDefEqProofs only[sL,cD,cW,cT,aj,aq,ax,ar,av,e2,e3]
theorem abn {ts:List Tok}{m:Nat}(H:∀k<m,cd ts k):eK ts m (u_) vd (ef 189 fun P=>[.box [.ref P 0] 0]):=by
 intro n hn P s rest base k cs J b rest' bY h hr hb
 obtain⟨n,rfl⟩:∃j,n=j+1:=⟨n-1,by omega⟩
 obtain⟨s1,q1,p1,x1⟩:=(dE ts).use (n:=n) (by omega) h
 obtain⟨m1,hm1,sS⟩:=aO hr
 rcases sS with ⟨gR,bG⟩|⟨gR,bG⟩
 ·have e1:ab Tryz.prog (den C n) 176 [.ref P 0] s=some (.bool true,s1):=by rw[←gR];exact q1
  obtain⟨s2,J2,q2,p2,x2⟩:=(aR (ts:=ts) (m:=m1) (k:=13) (v:=fun P=>.fn 190 [] [.box [.ref P 0] 0]) (fun _=>rfl) (fun k hk=>abm (fun k hk=>H k (by omega)))) n (by omega) P s1 rest base k cs J b rest' bY p1 bG (by omega)
  have e2:ab Tryz.prog (den C n) 103 [.ref P 0,.int .i64 13,.fn 190 [] [.box [.ref P 0] 0]] s1=some (.aI [],s2):=q2
  refine⟨s2,J2,?_,p2,(x1.trans x2)⟩
  show ab Tryz.prog (den C (n+1)) 189 [.box [.ref P 0] 0] s=_
  rw[aF QU (dF ..),EH,SN]
  simp -implicitDefEqProofs only[sL,cD,cW,cT,aj,aq,ax,ar,av,e1,e2]
 ·have e1:ab Tryz.prog (den C n) 176 [.ref P 0] s=some (.bool false,s1):=by rw[←gR];exact q1
  obtain⟨hb3,rfl,rfl⟩:=bM bG
  refine⟨s1,J,?_,p1,x1⟩
  show ab Tryz.prog (den C (n+1)) 189 [.box [.ref P 0] 0] s=_
  rw[aF QU (dF ..),EH,SN]
  simp -implicitDefEqProofs only[sL,cD,cW,cT,aj,aq,ax,ar,av,e1]
theorem abo {ts:List Tok}{m:Nat}(cl:Bytes)(H:∀k<m,cd ts k):eK ts m (gf cl u_) vd (ef 188 fun P=>[.box [.ref P 0] 0,.box [.str cl] 0]):=by
 intro n hn P s rest base k cs J b rest' bY h hr hb
 obtain⟨n,rfl⟩:∃j,n=j+1:=⟨n-1,by omega⟩
 obtain⟨s1,J1,q1,p1,x1⟩:=(eT (ts:=ts) (m:=m) cl (v:=fun P=>.fn 189 [] [.box [.ref P 0] 0]) (fun _=>rfl) (fun k hk=>abn (fun k hk=>H k (by omega)))) n (by omega) P s rest base k cs J b rest' bY h hr (by omega)
 have e1:ab Tryz.prog (den C n) 174 [.ref P 0,.str cl,.fn 189 [] [.box [.ref P 0] 0]] s=some (.aI [],s1):=q1
 refine⟨s1,J1,?_,p1,x1⟩
 show ab Tryz.prog (den C (n+1)) 188 [.box [.ref P 0] 0,.box [.str cl] 0] s=_
 rw[aF XO (dF ..),NK,XN]
 simp -implicitDefEqProofs only[sL,cD,cW,cT,aj,aq,ax,ar,av,e1]
theorem OL {ts:List Tok}{m:Nat}(cl:Bytes)(H:∀k<m,cd ts k):eK ts m (lZ cl) vd (ef 152 fun P=>[.ref P 0,.str cl]):=by
 intro n hn P s rest base k cs J b rest' bY h hr hb
 obtain⟨n,rfl⟩:∃j,n=j+1:=⟨n-1,by omega⟩
 obtain⟨s1,J1,q1,p1,x1⟩:=(aR (ts:=ts) (m:=m) (k:=12) (v:=fun P=>.fn 188 [] [.box [.ref P 0] 0,.box [.str cl] 0]) (fun _=>rfl) (fun k hk=>abo cl (fun k hk=>H k (by omega)))) n (by omega) P s rest base k cs J b rest' bY h hr (by omega)
 have e1:ab Tryz.prog (den C n) 103 [.ref P 0,.int .i64 12,.fn 188 [] [.box [.ref P 0] 0,.box [.str cl] 0]] s=some (.aI [],s1):=q1
 refine⟨s1,J1,?_,p1,x1⟩
 show ab Tryz.prog (den C (n+1)) 152 [.ref P 0,.str cl] s=_
 rw[aF Xk (a7 ..),Nv,Xj]
 simp -implicitDefEqProofs only[sL,cD,cW,cT,aj,aq,ax,ar,av,e1]
theorem YK {ts:List Tok}{m:Nat}(H:∀k<m,cd ts k):eK ts m (.seq c_ (sw [Mj] (gf Tg (.call 0)))) vd (ef 207 fun P=>[.box [.ref P 0] 0,.box [.bool true] 0]):=by
 intro n hn P s rest base k cs J b rest' bY h hr hb
 obtain⟨n,rfl⟩:∃j,n=j+1:=⟨n-1,by omega⟩
 obtain⟨m1,b1,t1,c1,hm1,dA,bG,hz1⟩:=ay hr
 obtain⟨s2,J2,q2,p2,x2⟩:=(dt ts m1) n (by omega) P s rest base k cs J b1 t1 c1 h dA (by omega)
 have e2:ab Tryz.prog (den C n) 146 [.ref P 0] s=some (.aI [],s2):=q2
 obtain⟨m3,mz,Cj⟩:=aO bG
 rcases Cj with ⟨o_,hr3⟩|⟨o_,hr3⟩
 ·obtain⟨m4,b4,t4,c4,GM,JF,kL,V5⟩:=ay hr3
  obtain⟨s4,J4,q4,p4,x4⟩:=eO [Mj] (by decide:1<50) (n:=n) (by omega) p2 o_ JF (by omega)
  have e4:ab Tryz.prog (den C n) 105 [.ref P 0,.sl 9 1 [.str [60]] .sh] s2=some (.bool true,s4):=q4
  obtain⟨s5,J5,q5,p5,x5⟩:=(eT (ts:=ts) (m:=m4) Tg (v:=fun P=>.fn 150 [.ref P 0] []) (fun _=>rfl) (fun k hk=>(H k (by omega)).ty)) n (by omega) P s4 t4 base k c4 J4 b rest' bY p4 kL (by omega)
  have e5:ab Tryz.prog (den C n) 174 [.ref P 0,.str [62],.fn 150 [.ref P 0] []] s4=some (.aI [],s5):=q5
  refine⟨s5,J5,?_,p5,((x2.trans x4).trans x5)⟩
  show ab Tryz.prog (den C (n+1)) 207 [.box [.ref P 0] 0,.box [.bool true] 0] s=_
  rw[aF I9 (dF ..),yL,RF]
  simp -implicitDefEqProofs only[sL,cD,cW,cT,aj,aq,ax,ar,av,e2,e4,e5]
 ·obtain⟨s6,q6,p6,x6⟩:=gk [Mj] (by decide:1<50) (n:=n) (by omega) p2 o_
  have e6:ab Tryz.prog (den C n) 105 [.ref P 0,.sl 9 1 [.str [60]] .sh] s2=some (.bool false,s6):=q6
  obtain⟨hb7,rfl,rfl⟩:=bM hr3
  refine⟨s6,J2,?_,p6,(x2.trans x6)⟩
  show ab Tryz.prog (den C (n+1)) 207 [.box [.ref P 0] 0,.box [.bool true] 0] s=_
  rw[aF I9 (dF ..),yL,RF]
  simp -implicitDefEqProofs only[sL,cD,cW,cT,aj,aq,ax,ar,av,e2,e6]
theorem YL {ts:List Tok}{m:Nat}(H:∀k<m,cd ts k):eK ts m (.seq c_ ft) vd (ef 207 fun P=>[.box [.ref P 0] 0,.box [.bool false] 0]):=by
 intro n hn P s rest base k cs J b rest' bY h hr hb
 obtain⟨n,rfl⟩:∃j,n=j+1:=⟨n-1,by omega⟩
 obtain⟨m1,b1,t1,c1,hm1,dA,bG,hz1⟩:=ay hr
 obtain⟨s2,J2,q2,p2,x2⟩:=(dt ts m1) n (by omega) P s rest base k cs J b1 t1 c1 h dA (by omega)
 have e2:ab Tryz.prog (den C n) 146 [.ref P 0] s=some (.aI [],s2):=q2
 obtain⟨hb3,rfl,rfl⟩:=bM bG
 refine⟨s2,J2,?_,p2,x2⟩
 show ab Tryz.prog (den C (n+1)) 207 [.box [.ref P 0] 0,.box [.bool false] 0] s=_
 rw[aF I9 (dF ..),yL,RF]
 simp -implicitDefEqProofs only[sL,cD,cW,cT,aj,aq,ax,ar,av,e2]
theorem E4 {ts:List Tok}{m:Nat}(ty:Bool)(H:∀k<m,cd ts k):JE 8 ts m (wK ty) vd (ef 103 fun P=>[.ref P 0,.int .i64 18,.fn 207 [] [.box [.ref P 0] 0,.box [.bool ty] 0]]):=by
 cases ty with
 | true=>exact aR (ts:=ts) (m:=m) (k:=18) (v:=fun P=>.fn 207 [] [.box [.ref P 0] 0,.box [.bool true] 0]) (fun _=>rfl) (fun k hk=>YK (fun k hk=>H k (by omega)))
 | false=>exact aR (ts:=ts) (m:=m) (k:=18) (v:=fun P=>.fn 207 [] [.box [.ref P 0] 0,.box [.bool false] 0]) (fun _=>rfl) (fun k hk=>YL (fun k hk=>H k (by omega)))
theorem abp {ts:List Tok}{n P:Nat}(ty:Bool):∀(m:Nat),(∀k<m,cd ts k)→m*20+ts.length+110≤n→∀s rest base k cs J b rest' bY,PR ts P s rest base k cs J→run m (.dH (eL [df]) (.seq .bump (wK ty))) rest cs=some (b,rest',bY)→base.length+dC bY<900000000 →
  ∃s' J',(∀M n' e,m<M→e 0=pb P→e 1=.box [.bool ty] 0→e 2=.bool false→aJ (qg (den C n) n') M e s=some (.aI [],s'))∧PR ts P s' rest' base k bY J'∧Ex s s' J J':=by
 intro m
 induction m with
 | zero=>intro _ _ s rest base k cs J b rest' bY h hr;rw[Pm.cJ]at hr;cases hr
 | succ m ih =>
  intro H hn s rest base k cs J b rest' bY h hr hb
  have hn0:m*20+ts.length+110≤n:=by omega
  have H0:∀k<m,cd ts k:=fun k hk=>H k (Nat.lt_succ_of_lt hk)
  obtain⟨m',hm',hw⟩:=gq hr
  cases hm'
  rcases hw with ⟨hc,rfl,rfl,rfl⟩|⟨hc,nu,hb0⟩|⟨hc,tw,cw,nu,ww,OM⟩
  ·obtain⟨sa,qa,pa,xa⟩:=gk [df] (by decide:1<50) (n:=n) (by omega) h hc
   have ea:ab Tryz.prog (den C n) 105 [.ref P 0,.sl 9 1 [.str [58,58]] .sh] s=some (.bool false,sa):=qa
   refine⟨sa,J,fun M n' e hM eM fy kK=>?_,pa,xa⟩
   obtain⟨M,rfl⟩:∃j,M=j+1:=⟨M-1,by omega⟩
   rw[aJ,qg]
   simp -implicitDefEqProofs only[sL,cD,cW,cT,aj,aq,eM,fy,kK,ea]
  ·exact absurd (iF (by cases ty<;>rfl) nu) (by decide)
  ·obtain⟨m1,b1,t1,c1,hm1,dA,bG,hz1⟩:=ay nu
   obtain⟨s1,J1,q1,p1,x1⟩:=eO [df] (by decide:1<50) (n:=n) (by omega) h hc dA (by omega)
   have e1:ab Tryz.prog (den C n) 105 [.ref P 0,.sl 9 1 [.str [58,58]] .sh] s=some (.bool true,s1):=q1
   obtain⟨s2,J2,q2,p2,x2⟩:=(E4 (ts:=ts) (m:=m1) ty (fun k hk=>H k (by omega))) n (by omega) P s1 t1 base k c1 J1 false tw cw p1 bG (by omega)
   have e2:ab Tryz.prog (den C n) 103 [.ref P 0,.int .i64 18,.fn 207 [] [.box [.ref P 0] 0,.box [.bool ty] 0]] s1=some (.aI [],s2):=q2
   obtain⟨s0,J0,e0,p0,x0⟩:=ih H0 hn0 s2 tw base k cw J2 b rest' bY p2 ww hb
   refine⟨s0,J0,fun M n' e hM eM fy kK=>?_,p0,(x1.trans x2).trans x0⟩
   obtain⟨M,rfl⟩:∃j,M=j+1:=⟨M-1,by omega⟩
   rw[aJ,qg]
   simp -implicitDefEqProofs only[sL,cD,cW,cT,aj,aq,eM,fy,kK,e1,e2]
   exact e0 _ _ _ (by omega) ((ao _ _ _ rfl).trans eM) ((ao _ _ _ rfl).trans fy) (by simp[ai,an])
theorem abq {ts:List Tok}{m:Nat}(ty:Bool)(H:∀k<m,cd ts k):eK ts m (.seq (wK ty) (.dH (eL [df]) (.seq .bump (wK ty)))) vd (ef 206 fun P=>[.box [.ref P 0] 0,.box [.bool ty] 0]):=by
 intro n hn P s rest base k cs J b rest' bY h hr hb
 obtain⟨n,rfl⟩:∃j,n=j+2:=⟨n-2,by omega⟩
 obtain⟨m1,b1,t1,c1,hm1,dA,bG,hz1⟩:=ay hr
 obtain⟨s1,J1,q1,p1,x1⟩:=E4 (ts:=ts) (m:=m1) ty (fun k hk=>H k (by omega)) (n+1) (by omega) P s rest base k cs J b1 t1 c1 h dA (by omega)
 have e1:ab Tryz.prog (den C (n+1)) 103 [.ref P 0,.int .i64 18,.fn 207 [] [.box [.ref P 0] 0,.box [.bool ty] 0]] s=some (.aI [],s1):=q1
 obtain⟨s2,J2,e2,p2,x2⟩:=abp (P:=P) ty (n:=n+1) m1 (fun k hk=>H k (by omega)) (by omega) s1 t1 base k c1 J1 b rest' bY p1 bG hb
 refine⟨s2,J2,?_,p2,x1.trans x2⟩
 show ab Tryz.prog (den C (n+2)) 206 [.box [.ref P 0] 0,.box [.bool ty] 0] s=_
 rw[aF XW (dF ..),NQ,XV]
 rw[yA,aJ,qg]
 have f0:bf (aH [.box [.ref P 0] 0,.box [.bool ty] 0]) [(2,.bool true)] 0=.box [.ref P 0] 0:=rfl
 have f1:bf (aH [.box [.ref P 0] 0,.box [.bool ty] 0]) [(2,.bool true)] 1=.box [.bool ty] 0:=rfl
 have f2:bf (aH [.box [.ref P 0] 0,.box [.bool ty] 0]) [(2,.bool true)] 2=.bool true:=rfl
 simp -implicitDefEqProofs only[sL,f0,f1,f2,e1]
 exact e2 _ _ _ (by omega) ((ao _ _ _ rfl).trans f0) ((ao _ _ _ rfl).trans f1) (by simp[ai,an])
theorem GN {ts:List Tok}{m:Nat}(ty:Bool)(H:∀k<m,cd ts k):eK ts m (iT ty) vd (ef 185 fun P=>[.ref P 0,.bool ty]):=by
 intro n hn P s rest base k cs J b rest' bY h hr hb
 obtain⟨n,rfl⟩:∃j,n=j+1:=⟨n-1,by omega⟩
 obtain⟨s1,J1,q1,p1,x1⟩:=(aR (ts:=ts) (m:=m) (k:=17) (v:=fun P=>.fn 206 [] [.box [.ref P 0] 0,.box [.bool ty] 0]) (fun _=>rfl) (fun k hk=>abq ty (fun k hk=>H k (by omega)))) n (by omega) P s rest base k cs J b rest' bY h hr (by omega)
 have e1:ab Tryz.prog (den C n) 103 [.ref P 0,.int .i64 17,.fn 206 [] [.box [.ref P 0] 0,.box [.bool ty] 0]] s=some (.aI [],s1):=q1
 refine⟨s1,J1,?_,p1,x1⟩
 show ab Tryz.prog (den C (n+1)) 185 [.ref P 0,.bool ty] s=_
 rw[aF XK (a7 ..),NI,XJ]
 simp -implicitDefEqProofs only[sL,cD,cW,cT,aj,aq,ax,ar,av,e1]
theorem abr {ts:List Tok}{m:Nat}(H:∀k<m,cd ts k):eK ts m (.seq .bump (.seq (sw [mF] ft) (.call 0))) vd (ef 183 fun P=>[.box [.ref P 0] 0]):=by
 intro n hn P s rest base k cs J b rest' bY h hr hb
 obtain⟨n,rfl⟩:∃j,n=j+1:=⟨n-1,by omega⟩
 obtain⟨m1,b1,t1,c1,hm1,dA,bG,hz1⟩:=ay hr
 obtain⟨s2,J2,q2,p2,x2⟩:=(aX ts m1) n (by omega) P s rest base k cs J b1 t1 c1 h dA (by omega)
 have e2:ab Tryz.prog (den C n) 106 [.ref P 0] s=some (.aI [],s2):=q2
 obtain⟨m3,b3,t3,c3,mz,hU,hr3,hz3⟩:=ay bG
 obtain⟨m4,GM,H7⟩:=aO hU
 rcases H7 with ⟨sC,kL⟩|⟨sC,kL⟩
 ·obtain⟨m5,b5,t5,c5,xA,mG,il,zG⟩:=ay kL
  obtain⟨s5,J5,q5,p5,x5⟩:=eO [mF] (by decide:1<50) (n:=n) (by omega) p2 sC mG (by omega)
  have e5:ab Tryz.prog (den C n) 105 [.ref P 0,.sl 9 1 [.str [109,117,116]] .sh] s2=some (.bool true,s5):=q5
  obtain⟨hb6,rfl,rfl⟩:=bM il
  obtain⟨s7,J7,q7,p7,x7⟩:=((H m3 (by omega)).ty) n (by omega) P s5 t3 base k c3 J5 b rest' bY p5 hr3 (by omega)
  have e7:ab Tryz.prog (den C n) 150 [.ref P 0] s5=some (.aI [],s7):=q7
  refine⟨s7,J7,?_,p7,((x2.trans x5).trans x7)⟩
  show ab Tryz.prog (den C (n+1)) 183 [.box [.ref P 0] 0] s=_
  rw[aF QS (dF ..),EF,SL]
  simp -implicitDefEqProofs only[sL,cD,cW,cT,aj,aq,ax,ar,av,e2,e5,e7]
 ·obtain⟨s8,q8,p8,x8⟩:=gk [mF] (by decide:1<50) (n:=n) (by omega) p2 sC
  have e8:ab Tryz.prog (den C n) 105 [.ref P 0,.sl 9 1 [.str [109,117,116]] .sh] s2=some (.bool false,s8):=q8
  obtain⟨hb9,rfl,rfl⟩:=bM kL
  obtain⟨s10,wM,oF,qD,rK⟩:=((H m3 (by omega)).ty) n (by omega) P s8 t3 base k c3 J2 b rest' bY p8 hr3 (by omega)
  have mQ:ab Tryz.prog (den C n) 150 [.ref P 0] s8=some (.aI [],s10):=oF
  refine⟨s10,wM,?_,qD,((x2.trans x8).trans rK)⟩
  show ab Tryz.prog (den C (n+1)) 183 [.box [.ref P 0] 0] s=_
  rw[aF QS (dF ..),EF,SL]
  simp -implicitDefEqProofs only[sL,cD,cW,cT,aj,aq,ax,ar,av,e2,e8,mQ]
theorem abt {ts:List Tok}{m:Nat}(H:∀k<m,cd ts k):eK ts m (.seq .bump (.seq (a6 cC) (.seq (gf gY (.call 0)) (oV ry (.call 0))))) vd (ef 184 fun P=>[.box [.ref P 0] 0]):=by
 intro n hn P s rest base k cs J b rest' bY h hr hb
 obtain⟨n,rfl⟩:∃j,n=j+1:=⟨n-1,by omega⟩
 obtain⟨m1,b1,t1,c1,hm1,dA,bG,hz1⟩:=ay hr
 obtain⟨s2,J2,q2,p2,x2⟩:=(aX ts m1) n (by omega) P s rest base k cs J b1 t1 c1 h dA (by omega)
 have e2:ab Tryz.prog (den C n) 106 [.ref P 0] s=some (.aI [],s2):=q2
 obtain⟨m3,b3,t3,c3,mz,hU,hr3,hz3⟩:=ay bG
 obtain⟨s4,J4,q4,p4,x4⟩:=(bq ts m3 cC) n (by omega) P s2 t1 base k c1 J2 b3 t3 c3 p2 hU (by omega)
 have e4:ab Tryz.prog (den C n) 149 [.ref P 0,.str [40]] s2=some (.aI [],s4):=q4
 obtain⟨m5,b5,t5,c5,xA,mG,il,zG⟩:=ay hr3
 obtain⟨s6,J6,q6,p6,x6⟩:=(eT (ts:=ts) (m:=m5) gY (v:=fun P=>.fn 150 [.ref P 0] []) (fun _=>rfl) (fun k hk=>(H k (by omega)).ty)) n (by omega) P s4 t3 base k c3 J4 b5 t5 c5 p4 mG (by omega)
 have e6:ab Tryz.prog (den C n) 174 [.ref P 0,.str [41],.fn 150 [.ref P 0] []] s4=some (.aI [],s6):=q6
 obtain⟨s7,J7,q7,p7,x7⟩:=(me (ts:=ts) (m:=m5) ry (v:=fun P=>.fn 150 [.ref P 0] []) (fun _=>rfl) (fun k hk=>(H k (by omega)).ty)) n (by omega) P s6 t5 base k c5 J6 b rest' bY p6 il (by omega)
 have e7:ab Tryz.prog (den C n) 171 [.ref P 0,.str [45,62],.fn 150 [.ref P 0] []] s6=some (.aI [],s7):=q7
 refine⟨s7,J7,?_,p7,(((x2.trans x4).trans x6).trans x7)⟩
 show ab Tryz.prog (den C (n+1)) 184 [.box [.ref P 0] 0] s=_
 rw[aF XI (dF ..),NH,XH]
 simp -implicitDefEqProofs only[sL,cD,cW,cT,aj,aq,ax,ar,av,e2,e4,e6,e7]
theorem abu {ts:List Tok}{m:Nat}(H:∀k<m,cd ts k):eK ts m (EV) vd (ef 150 fun P=>[.ref P 0]):=by
 intro n hn P s rest base k cs J b rest' bY h hr hb
 obtain⟨n,rfl⟩:∃j,n=j+1:=⟨n-1,by omega⟩
 obtain⟨s1,q1,p1,x1⟩:=(cN (ts:=ts) [Ou] (by decide:1<50)).use (n:=n) (by omega) h
 obtain⟨m1,hm1,sS⟩:=aO hr
 rcases sS with ⟨gR,bG⟩|⟨gR,bG⟩
 ·have e1:ab Tryz.prog (den C n) 99 [.ref P 0,.sl 9 1 [.str [38]] .sh] s=some (.bool true,s1):=by rw[←gR];exact q1
  obtain⟨s2,J2,q2,p2,x2⟩:=(aR (ts:=ts) (m:=m1) (k:=19) (v:=fun P=>.fn 183 [] [.box [.ref P 0] 0]) (fun _=>rfl) (fun k hk=>abr (fun k hk=>H k (by omega)))) n (by omega) P s1 rest base k cs J b rest' bY p1 bG (by omega)
  have e2:ab Tryz.prog (den C n) 103 [.ref P 0,.int .i64 19,.fn 183 [] [.box [.ref P 0] 0]] s1=some (.aI [],s2):=q2
  refine⟨s2,J2,?_,p2,(x1.trans x2)⟩
  show ab Tryz.prog (den C (n+1)) 150 [.ref P 0] s=_
  rw[aF EB (a7 ..),tV,I5]
  simp -implicitDefEqProofs only[sL,cD,cW,cT,aj,aq,ax,ar,av,e1,e2]
 ·have e1:ab Tryz.prog (den C n) 99 [.ref P 0,.sl 9 1 [.str [38]] .sh] s=some (.bool false,s1):=by rw[←gR];exact q1
  obtain⟨s3,q3,p3,x3⟩:=(cN (ts:=ts) [Gv] (by decide:1<50)).use (n:=n) (by omega) p1
  obtain⟨m3,mz,Cj⟩:=aO bG
  rcases Cj with ⟨o_,hr3⟩|⟨o_,hr3⟩
  ·have e3:ab Tryz.prog (den C n) 99 [.ref P 0,.sl 9 1 [.str [102,110]] .sh] s1=some (.bool true,s3):=by rw[←o_];exact q3
   obtain⟨s4,J4,q4,p4,x4⟩:=(aR (ts:=ts) (m:=m3) (k:=20) (v:=fun P=>.fn 184 [] [.box [.ref P 0] 0]) (fun _=>rfl) (fun k hk=>abt (fun k hk=>H k (by omega)))) n (by omega) P s3 rest base k cs J b rest' bY p3 hr3 (by omega)
   have e4:ab Tryz.prog (den C n) 103 [.ref P 0,.int .i64 20,.fn 184 [] [.box [.ref P 0] 0]] s3=some (.aI [],s4):=q4
   refine⟨s4,J4,?_,p4,((x1.trans x3).trans x4)⟩
   show ab Tryz.prog (den C (n+1)) 150 [.ref P 0] s=_
   rw[aF EB (a7 ..),tV,I5]
   simp -implicitDefEqProofs only[sL,cD,cW,cT,aj,aq,ax,ar,av,e1,e3,e4]
  ·have e3:ab Tryz.prog (den C n) 99 [.ref P 0,.sl 9 1 [.str [102,110]] .sh] s1=some (.bool false,s3):=by rw[←o_];exact q3
   obtain⟨s5,q5,p5,x5⟩:=(dE ts).use (n:=n) (by omega) p3
   obtain⟨m5,xA,ho5⟩:=aO hr3
   rcases ho5 with ⟨Mq,il⟩|⟨Mq,il⟩
   ·have e5:ab Tryz.prog (den C n) 176 [.ref P 0] s3=some (.bool true,s5):=by rw[←Mq];exact q5
    obtain⟨s6,J6,q6,p6,x6⟩:=(GN (ts:=ts) (m:=m5) true (fun k hk=>H k (by omega))) n (by omega) P s5 rest base k cs J b rest' bY p5 il (by omega)
    have e6:ab Tryz.prog (den C n) 185 [.ref P 0,.bool true] s5=some (.aI [],s6):=q6
    refine⟨s6,J6,?_,p6,(((x1.trans x3).trans x5).trans x6)⟩
    show ab Tryz.prog (den C (n+1)) 150 [.ref P 0] s=_
    rw[aF EB (a7 ..),tV,I5]
    simp -implicitDefEqProofs only[sL,cD,cW,cT,aj,aq,ax,ar,av,e1,e3,e5,e6]
   ·have e5:ab Tryz.prog (den C n) 176 [.ref P 0] s3=some (.bool false,s5):=by rw[←Mq];exact q5
    obtain⟨s7,J7,q7,p7,x7⟩:=((ga ts m5).1) n (by omega) P s5 rest base k cs J b rest' bY p5 il (by omega)
    have e7:ab Tryz.prog (den C n) 186 [.ref P 0] s5=some (.aI [],s7):=q7
    refine⟨s7,J7,?_,p7,(((x1.trans x3).trans x5).trans x7)⟩
    show ab Tryz.prog (den C (n+1)) 150 [.ref P 0] s=_
    rw[aF EB (a7 ..),tV,I5]
    simp -implicitDefEqProofs only[sL,cD,cW,cT,aj,aq,ax,ar,av,e1,e3,e5,e7]
theorem abv {ts:List Tok}{n P:Nat}:∀(m:Nat),(∀k<m,cd ts k)→m*20+ts.length+110≤n→∀s rest base k cs J b rest' bY,PR ts P s rest base k cs J→run m (.dH (eL [xi]) (.seq .bump (iT true))) rest cs=some (b,rest',bY)→base.length+dC bY<900000000 →
  ∃s' J',(∀M n' e,m<M→e 0=pb P→aJ (tX (den C n) n') M e s=some (.aI [],s'))∧PR ts P s' rest' base k bY J'∧Ex s s' J J':=by
 intro m
 induction m with
 | zero=>intro _ _ s rest base k cs J b rest' bY h hr;rw[Pm.cJ]at hr;cases hr
 | succ m ih =>
  intro H hn s rest base k cs J b rest' bY h hr hb
  have hn0:m*20+ts.length+110≤n:=by omega
  have H0:∀k<m,cd ts k:=fun k hk=>H k (Nat.lt_succ_of_lt hk)
  obtain⟨m',hm',hw⟩:=gq hr
  cases hm'
  rcases hw with ⟨hc,rfl,rfl,rfl⟩|⟨hc,nu,hb0⟩|⟨hc,tw,cw,nu,ww,OM⟩
  ·obtain⟨sa,qa,pa,xa⟩:=gk [xi] (by decide:1<50) (n:=n) (by omega) h hc
   have ea:ab Tryz.prog (den C n) 105 [.ref P 0,.sl 9 1 [.str [43]] .sh] s=some (.bool false,sa):=qa
   refine⟨sa,J,fun M n' e hM eM=>?_,pa,xa⟩
   obtain⟨M,rfl⟩:∃j,M=j+1:=⟨M-1,by omega⟩
   rw[aJ,tX]
   simp -implicitDefEqProofs only[sL,cD,cW,cT,aj,aq,eM,ea]
  ·exact absurd (iF (by rfl) nu) (by decide)
  ·obtain⟨m1,b1,t1,c1,hm1,dA,bG,hz1⟩:=ay nu
   obtain⟨s1,J1,q1,p1,x1⟩:=eO [xi] (by decide:1<50) (n:=n) (by omega) h hc dA (by omega)
   have e1:ab Tryz.prog (den C n) 105 [.ref P 0,.sl 9 1 [.str [43]] .sh] s=some (.bool true,s1):=q1
   obtain⟨s2,J2,q2,p2,x2⟩:=(GN (ts:=ts) (m:=m1) true (fun k hk=>H k (by omega))) n (by omega) P s1 t1 base k c1 J1 false tw cw p1 bG (by omega)
   have e2:ab Tryz.prog (den C n) 185 [.ref P 0,.bool true] s1=some (.aI [],s2):=q2
   obtain⟨s0,J0,e0,p0,x0⟩:=ih H0 hn0 s2 tw base k cw J2 b rest' bY p2 ww hb
   refine⟨s0,J0,fun M n' e hM eM=>?_,p0,(x1.trans x2).trans x0⟩
   obtain⟨M,rfl⟩:∃j,M=j+1:=⟨M-1,by omega⟩
   rw[aJ,tX]
   simp -implicitDefEqProofs only[sL,cD,cW,cT,aj,aq,eM,e1,e2]
   exact e0 _ _ _ (by omega) ((ao _ _ _ rfl).trans eM)
end ParF
end

section
namespace ParF
open Go Go.Abs Go.Proofs Pm
theorem Mr (n:Nat):((0:Nat)=n+1)=False:=by simp
theorem abw {ts:List Tok}{m:Nat}(H:∀k<m,cd ts k):eK ts m (.seq .bump (sw [fk] (.seq (iT true) (.dH (eL [xi]) (.seq .bump (iT true)))))) vd (ef 220 fun P=>[.box [.ref P 0] 0]):=by
 intro n hn P s rest base k cs J b rest' bY h hr hb
 obtain⟨n,rfl⟩:∃j,n=j+1:=⟨n-1,by omega⟩
 obtain⟨m1,b1,t1,c1,hm1,dA,bG,hz1⟩:=ay hr
 obtain⟨s2,J2,q2,p2,x2⟩:=(aX ts m1) n (by omega) P s rest base k cs J b1 t1 c1 h dA (by omega)
 have e2:ab Tryz.prog (den C n) 106 [.ref P 0] s=some (.aI [],s2):=q2
 obtain⟨m3,mz,Cj⟩:=aO bG
 rcases Cj with ⟨o_,hr3⟩|⟨o_,hr3⟩
 ·obtain⟨m4,b4,t4,c4,GM,JF,kL,V5⟩:=ay hr3
  obtain⟨s4,J4,q4,p4,x4⟩:=eO [fk] (by decide:1<50) (n:=n) (by omega) p2 o_ JF (by omega)
  have e4:ab Tryz.prog (den C n) 105 [.ref P 0,.sl 9 1 [.str [58]] .sh] s2=some (.bool true,s4):=q4
  obtain⟨m5,b5,t5,c5,xA,mG,il,zG⟩:=ay kL
  obtain⟨s6,J6,q6,p6,x6⟩:=(GN (ts:=ts) (m:=m5) true (fun k hk=>H k (by omega))) n (by omega) P s4 t4 base k c4 J4 b5 t5 c5 p4 mG (by omega)
  have e6:ab Tryz.prog (den C n) 185 [.ref P 0,.bool true] s4=some (.aI [],s6):=q6
  obtain⟨s7,J7,e7,p7,x7⟩:=abv (P:=P) (n:=n) m5 (fun k hk=>H k (by omega)) (by omega) s6 t5 base k c5 J6 b rest' bY p6 il (by omega)
  refine⟨s7,J7,?_,p7,(((x2.trans x4).trans x6).trans x7)⟩
  show ab Tryz.prog (den C (n+1)) 220 [.box [.ref P 0] 0] s=_
  rw[aF QY (dF ..),EL,SZ]
  simp -implicitDefEqProofs only[sL,cD,cW,cT,aj,aq,ax,ar,av,e2,e4,e6]
  exact e7 _ _ _ (by omega) rfl
 ·obtain⟨s8,q8,p8,x8⟩:=gk [fk] (by decide:1<50) (n:=n) (by omega) p2 o_
  have e8:ab Tryz.prog (den C n) 105 [.ref P 0,.sl 9 1 [.str [58]] .sh] s2=some (.bool false,s8):=q8
  obtain⟨hb9,rfl,rfl⟩:=bM hr3
  refine⟨s8,J2,?_,p8,(x2.trans x8)⟩
  show ab Tryz.prog (den C (n+1)) 220 [.box [.ref P 0] 0] s=_
  rw[aF QY (dF ..),EL,SZ]
  simp -implicitDefEqProofs only[sL,cD,cW,cT,aj,aq,ax,ar,av,e2,e8]
theorem abx {ts:List Tok}{m:Nat}(H:∀k<m,cd ts k):eK ts m (j8) vd (ef 199 fun P=>[.ref P 0]):=by
 intro n hn P s rest base k cs J b rest' bY h hr hb
 obtain⟨n,rfl⟩:∃j,n=j+1:=⟨n-1,by omega⟩
 obtain⟨s1,q1,p1,x1⟩:=(dE ts).use (n:=n) (by omega) h
 obtain⟨m1,hm1,sS⟩:=aO hr
 rcases sS with ⟨gR,bG⟩|⟨gR,bG⟩
 ·have e1:ab Tryz.prog (den C n) 176 [.ref P 0] s=some (.bool true,s1):=by rw[←gR];exact q1
  obtain⟨s2,J2,q2,p2,x2⟩:=(aR (ts:=ts) (m:=m1) (k:=11) (v:=fun P=>.fn 220 [] [.box [.ref P 0] 0]) (fun _=>rfl) (fun k hk=>abw (fun k hk=>H k (by omega)))) n (by omega) P s1 rest base k cs J b rest' bY p1 bG (by omega)
  have e2:ab Tryz.prog (den C n) 103 [.ref P 0,.int .i64 11,.fn 220 [] [.box [.ref P 0] 0]] s1=some (.aI [],s2):=q2
  refine⟨s2,J2,?_,p2,(x1.trans x2)⟩
  show ab Tryz.prog (den C (n+1)) 199 [.ref P 0] s=_
  rw[aF QW (a7 ..),EJ,SP]
  simp -implicitDefEqProofs only[sL,cD,cW,cT,aj,aq,ax,ar,av,e1,e2]
 ·have e1:ab Tryz.prog (den C n) 176 [.ref P 0] s=some (.bool false,s1):=by rw[←gR];exact q1
  obtain⟨hb3,rfl,rfl⟩:=bM bG
  refine⟨s1,J,?_,p1,x1⟩
  show ab Tryz.prog (den C (n+1)) 199 [.ref P 0] s=_
  rw[aF QW (a7 ..),EJ,SP]
  simp -implicitDefEqProofs only[sL,cD,cW,cT,aj,aq,ax,ar,av,e1]
theorem aby {ts:List Tok}{m:Nat}(H:∀k<m,cd ts k):eK ts m (sw [Mj] (gf Tg j8)) vd (ef 198 fun P=>[.box [.ref P 0] 0]):=by
 intro n hn P s rest base k cs J b rest' bY h hr hb
 obtain⟨n,rfl⟩:∃j,n=j+1:=⟨n-1,by omega⟩
 obtain⟨m1,hm1,sS⟩:=aO hr
 rcases sS with ⟨gR,bG⟩|⟨gR,bG⟩
 ·obtain⟨m2,b2,t2,c2,hm2,GO,hr2,hz2⟩:=ay bG
  obtain⟨s2,J2,q2,p2,x2⟩:=eO [Mj] (by decide:1<50) (n:=n) (by omega) h gR GO (by omega)
  have e2:ab Tryz.prog (den C n) 105 [.ref P 0,.sl 9 1 [.str [60]] .sh] s=some (.bool true,s2):=q2
  obtain⟨s3,J3,q3,p3,x3⟩:=(eT (ts:=ts) (m:=m2) Tg (v:=fun P=>.fn 199 [.ref P 0] []) (fun _=>rfl) (fun k hk=>abx (fun k hk=>H k (by omega)))) n (by omega) P s2 t2 base k c2 J2 b rest' bY p2 hr2 (by omega)
  have e3:ab Tryz.prog (den C n) 174 [.ref P 0,.str [62],.fn 199 [.ref P 0] []] s2=some (.aI [],s3):=q3
  refine⟨s3,J3,?_,p3,(x2.trans x3)⟩
  show ab Tryz.prog (den C (n+1)) 198 [.box [.ref P 0] 0] s=_
  rw[aF QV (dF ..),EI,SO]
  simp -implicitDefEqProofs only[sL,cD,cW,cT,aj,aq,ax,ar,av,e2,e3]
 ·obtain⟨s4,q4,p4,x4⟩:=gk [Mj] (by decide:1<50) (n:=n) (by omega) h gR
  have e4:ab Tryz.prog (den C n) 105 [.ref P 0,.sl 9 1 [.str [60]] .sh] s=some (.bool false,s4):=q4
  obtain⟨hb5,rfl,rfl⟩:=bM bG
  refine⟨s4,J,?_,p4,x4⟩
  show ab Tryz.prog (den C (n+1)) 198 [.box [.ref P 0] 0] s=_
  rw[aF QV (dF ..),EI,SO]
  simp -implicitDefEqProofs only[sL,cD,cW,cT,aj,aq,ax,ar,av,e4]
theorem JG {ts:List Tok}{m:Nat}(H:∀k<m,cd ts k):eK ts m (gI) vd (ef 170 fun P=>[.ref P 0]):=by
 intro n hn P s rest base k cs J b rest' bY h hr hb
 obtain⟨n,rfl⟩:∃j,n=j+1:=⟨n-1,by omega⟩
 obtain⟨s1,J1,q1,p1,x1⟩:=(aR (ts:=ts) (m:=m) (k:=10) (v:=fun P=>.fn 198 [] [.box [.ref P 0] 0]) (fun _=>rfl) (fun k hk=>aby (fun k hk=>H k (by omega)))) n (by omega) P s rest base k cs J b rest' bY h hr (by omega)
 have e1:ab Tryz.prog (den C n) 103 [.ref P 0,.int .i64 10,.fn 198 [] [.box [.ref P 0] 0]] s=some (.aI [],s1):=q1
 refine⟨s1,J1,?_,p1,x1⟩
 show ab Tryz.prog (den C (n+1)) 170 [.ref P 0] s=_
 rw[aF Xq (a7 ..),Ny,Xp]
 simp -implicitDefEqProofs only[sL,cD,cW,cT,aj,aq,ax,ar,av,e1]
theorem abz {ts:List Tok}{m:Nat}(H:∀k<m,cd ts k):eK ts m (.seq .bump (.seq (a6 fk) (.call 0))) vd (ef 177 fun P=>[.box [.ref P 0] 0]):=by
 intro n hn P s rest base k cs J b rest' bY h hr hb
 obtain⟨n,rfl⟩:∃j,n=j+1:=⟨n-1,by omega⟩
 obtain⟨m1,b1,t1,c1,hm1,dA,bG,hz1⟩:=ay hr
 obtain⟨s2,J2,q2,p2,x2⟩:=(aX ts m1) n (by omega) P s rest base k cs J b1 t1 c1 h dA (by omega)
 have e2:ab Tryz.prog (den C n) 106 [.ref P 0] s=some (.aI [],s2):=q2
 obtain⟨m3,b3,t3,c3,mz,hU,hr3,hz3⟩:=ay bG
 obtain⟨s4,J4,q4,p4,x4⟩:=(bq ts m3 fk) n (by omega) P s2 t1 base k c1 J2 b3 t3 c3 p2 hU (by omega)
 have e4:ab Tryz.prog (den C n) 149 [.ref P 0,.str [58]] s2=some (.aI [],s4):=q4
 obtain⟨s5,J5,q5,p5,x5⟩:=((H m3 (by omega)).ty) n (by omega) P s4 t3 base k c3 J4 b rest' bY p4 hr3 (by omega)
 have e5:ab Tryz.prog (den C n) 150 [.ref P 0] s4=some (.aI [],s5):=q5
 refine⟨s5,J5,?_,p5,((x2.trans x4).trans x5)⟩
 show ab Tryz.prog (den C (n+1)) 177 [.box [.ref P 0] 0] s=_
 rw[aF XA (dF ..),ND,Xz]
 simp -implicitDefEqProofs only[sL,cD,cW,cT,aj,aq,ax,ar,av,e2,e4,e5]
theorem abA {ts:List Tok}{m:Nat}(H:∀k<m,cd ts k):eK ts m (.seq .bump (sw [cC] (gf gY (.call 0)))) vd (ef 178 fun P=>[.box [.ref P 0] 0]):=by
 intro n hn P s rest base k cs J b rest' bY h hr hb
 obtain⟨n,rfl⟩:∃j,n=j+1:=⟨n-1,by omega⟩
 obtain⟨m1,b1,t1,c1,hm1,dA,bG,hz1⟩:=ay hr
 obtain⟨s2,J2,q2,p2,x2⟩:=(aX ts m1) n (by omega) P s rest base k cs J b1 t1 c1 h dA (by omega)
 have e2:ab Tryz.prog (den C n) 106 [.ref P 0] s=some (.aI [],s2):=q2
 obtain⟨m3,mz,Cj⟩:=aO bG
 rcases Cj with ⟨o_,hr3⟩|⟨o_,hr3⟩
 ·obtain⟨m4,b4,t4,c4,GM,JF,kL,V5⟩:=ay hr3
  obtain⟨s4,J4,q4,p4,x4⟩:=eO [cC] (by decide:1<50) (n:=n) (by omega) p2 o_ JF (by omega)
  have e4:ab Tryz.prog (den C n) 105 [.ref P 0,.sl 9 1 [.str [40]] .sh] s2=some (.bool true,s4):=q4
  obtain⟨s5,J5,q5,p5,x5⟩:=(eT (ts:=ts) (m:=m4) gY (v:=fun P=>.fn 150 [.ref P 0] []) (fun _=>rfl) (fun k hk=>(H k (by omega)).ty)) n (by omega) P s4 t4 base k c4 J4 b rest' bY p4 kL (by omega)
  have e5:ab Tryz.prog (den C n) 174 [.ref P 0,.str [41],.fn 150 [.ref P 0] []] s4=some (.aI [],s5):=q5
  refine⟨s5,J5,?_,p5,((x2.trans x4).trans x5)⟩
  show ab Tryz.prog (den C (n+1)) 178 [.box [.ref P 0] 0] s=_
  rw[aF QR (dF ..),EE,SK]
  simp -implicitDefEqProofs only[sL,cD,cW,cT,aj,aq,ax,ar,av,e2,e4,e5]
 ·obtain⟨s6,q6,p6,x6⟩:=gk [cC] (by decide:1<50) (n:=n) (by omega) p2 o_
  have e6:ab Tryz.prog (den C n) 105 [.ref P 0,.sl 9 1 [.str [40]] .sh] s2=some (.bool false,s6):=q6
  obtain⟨hb7,rfl,rfl⟩:=bM hr3
  refine⟨s6,J2,?_,p6,(x2.trans x6)⟩
  show ab Tryz.prog (den C (n+1)) 178 [.box [.ref P 0] 0] s=_
  rw[aF QR (dF ..),EE,SK]
  simp -implicitDefEqProofs only[sL,cD,cW,cT,aj,aq,ax,ar,av,e2,e6]
theorem YM {ts:List Tok}{m:Nat}(H:∀k<m,cd ts k):eK ts m (.ite xj Ji ft) vd (ef 175 fun P=>[.box [.ref P 0] 0,.box [.int .i64 4] 0]):=by
 intro n hn P s rest base k cs J b rest' bY h hr hb
 obtain⟨n,rfl⟩:∃j,n=j+1:=⟨n-1,by omega⟩
 obtain⟨s1,q1,p1,x1⟩:=(dE ts).use (n:=n) (by omega) h
 obtain⟨m1,hm1,sS⟩:=aO hr
 rcases sS with ⟨gR,bG⟩|⟨gR,bG⟩
 ·have e1:ab Tryz.prog (den C n) 176 [.ref P 0] s=some (.bool true,s1):=by rw[←gR];exact q1
  obtain⟨s2,J2,q2,p2,x2⟩:=(aR (ts:=ts) (m:=m1) (k:=14) (v:=fun P=>.fn 177 [] [.box [.ref P 0] 0]) (fun _=>rfl) (fun k hk=>abz (fun k hk=>H k (by omega)))) n (by omega) P s1 rest base k cs J b rest' bY p1 bG (by omega)
  have e2:ab Tryz.prog (den C n) 103 [.ref P 0,.int .i64 14,.fn 177 [] [.box [.ref P 0] 0]] s1=some (.aI [],s2):=q2
  refine⟨s2,J2,?_,p2,(x1.trans x2)⟩
  show ab Tryz.prog (den C (n+1)) 175 [.box [.ref P 0] 0,.box [.int .i64 4] 0] s=_
  rw[aF ED (dF ..),tW,I6]
  simp -implicitDefEqProofs only[sL,show ((4:Int)==4)=true from rfl,cD,cW,cT,aj,aq,ax,ar,av,gy,e1,e2]
 ·have e1:ab Tryz.prog (den C n) 176 [.ref P 0] s=some (.bool false,s1):=by rw[←gR];exact q1
  obtain⟨hb3,rfl,rfl⟩:=bM bG
  refine⟨s1,J,?_,p1,x1⟩
  show ab Tryz.prog (den C (n+1)) 175 [.box [.ref P 0] 0,.box [.int .i64 4] 0] s=_
  rw[aF ED (dF ..),tW,I6]
  simp -implicitDefEqProofs only[sL,show ((4:Int)==4)=true from rfl,cD,cW,cT,aj,aq,ax,ar,av,gy,e1]
theorem YN {ts:List Tok}{m:Nat}(H:∀k<m,cd ts k):eK ts m (.ite xj AT ft) vd (ef 175 fun P=>[.box [.ref P 0] 0,.box [.int .i64 5] 0]):=by
 intro n hn P s rest base k cs J b rest' bY h hr hb
 obtain⟨n,rfl⟩:∃j,n=j+1:=⟨n-1,by omega⟩
 obtain⟨s1,q1,p1,x1⟩:=(dE ts).use (n:=n) (by omega) h
 obtain⟨m1,hm1,sS⟩:=aO hr
 rcases sS with ⟨gR,bG⟩|⟨gR,bG⟩
 ·have e1:ab Tryz.prog (den C n) 176 [.ref P 0] s=some (.bool true,s1):=by rw[←gR];exact q1
  obtain⟨s2,J2,q2,p2,x2⟩:=(aR (ts:=ts) (m:=m1) (k:=15) (v:=fun P=>.fn 178 [] [.box [.ref P 0] 0]) (fun _=>rfl) (fun k hk=>abA (fun k hk=>H k (by omega)))) n (by omega) P s1 rest base k cs J b rest' bY p1 bG (by omega)
  have e2:ab Tryz.prog (den C n) 103 [.ref P 0,.int .i64 15,.fn 178 [] [.box [.ref P 0] 0]] s1=some (.aI [],s2):=q2
  refine⟨s2,J2,?_,p2,(x1.trans x2)⟩
  show ab Tryz.prog (den C (n+1)) 175 [.box [.ref P 0] 0,.box [.int .i64 5] 0] s=_
  rw[aF ED (dF ..),tW,I6]
  simp -implicitDefEqProofs only[sL,show ((5:Int)==4)=false from rfl,cD,cW,cT,aj,aq,ax,ar,av,gy,e1,e2]
 ·have e1:ab Tryz.prog (den C n) 176 [.ref P 0] s=some (.bool false,s1):=by rw[←gR];exact q1
  obtain⟨hb3,rfl,rfl⟩:=bM bG
  refine⟨s1,J,?_,p1,x1⟩
  show ab Tryz.prog (den C (n+1)) 175 [.box [.ref P 0] 0,.box [.int .i64 5] 0] s=_
  rw[aF ED (dF ..),tW,I6]
  simp -implicitDefEqProofs only[sL,show ((5:Int)==4)=false from rfl,cD,cW,cT,aj,aq,ax,ar,av,gy,e1]
theorem YO {ts:List Tok}{m:Nat}(H:∀k<m,cd ts k):eK ts m (xl true) vd (ef 145 fun P=>[.ref P 0,.int .i64 4]):=by
 intro n hn P s rest base k cs J b rest' bY h hr hb
 obtain⟨n,rfl⟩:∃j,n=j+1:=⟨n-1,by omega⟩
 obtain⟨m1,b1,t1,c1,hm1,dA,bG,hz1⟩:=ay hr
 obtain⟨s2,J2,q2,p2,x2⟩:=(dt ts m1) n (by omega) P s rest base k cs J b1 t1 c1 h dA (by omega)
 have e2:ab Tryz.prog (den C n) 146 [.ref P 0] s=some (.aI [],s2):=q2
 obtain⟨m3,b3,t3,c3,mz,hU,hr3,hz3⟩:=ay bG
 obtain⟨s4,J4,q4,p4,x4⟩:=(JG (ts:=ts) (m:=m3) (fun k hk=>H k (by omega))) n (by omega) P s2 t1 base k c1 J2 b3 t3 c3 p2 hU (by omega)
 have e4:ab Tryz.prog (den C n) 170 [.ref P 0] s2=some (.aI [],s4):=q4
 obtain⟨m5,b5,t5,c5,xA,mG,il,zG⟩:=ay hr3
 obtain⟨s6,J6,q6,p6,x6⟩:=(bq ts m5 j5) n (by omega) P s4 t3 base k c3 J4 b5 t5 c5 p4 mG (by omega)
 have e6:ab Tryz.prog (den C n) 149 [.ref P 0,.str [123]] s4=some (.aI [],s6):=q6
 obtain⟨s7,J7,q7,p7,x7⟩:=(eT (ts:=ts) (m:=m5) gO (v:=fun P=>.fn 175 [] [.box [.ref P 0] 0,.box [.int .i64 4] 0]) (fun _=>rfl) (fun k hk=>YM (fun k hk=>H k (by omega)))) n (by omega) P s6 t5 base k c5 J6 b rest' bY p6 il (by omega)
 have e7:ab Tryz.prog (den C n) 174 [.ref P 0,.str [125],.fn 175 [] [.box [.ref P 0] 0,.box [.int .i64 4] 0]] s6=some (.aI [],s7):=q7
 refine⟨s7,J7,?_,p7,(((x2.trans x4).trans x6).trans x7)⟩
 show ab Tryz.prog (den C (n+1)) 145 [.ref P 0,.int .i64 4] s=_
 rw[aF QM (a7 ..),Ew,SC]
 simp -implicitDefEqProofs only[sL,cD,cW,cT,aj,aq,ax,ar,av,e2,e4,e6,e7]
theorem YP {ts:List Tok}{m:Nat}(H:∀k<m,cd ts k):eK ts m (xl false) vd (ef 145 fun P=>[.ref P 0,.int .i64 5]):=by
 intro n hn P s rest base k cs J b rest' bY h hr hb
 obtain⟨n,rfl⟩:∃j,n=j+1:=⟨n-1,by omega⟩
 obtain⟨m1,b1,t1,c1,hm1,dA,bG,hz1⟩:=ay hr
 obtain⟨s2,J2,q2,p2,x2⟩:=(dt ts m1) n (by omega) P s rest base k cs J b1 t1 c1 h dA (by omega)
 have e2:ab Tryz.prog (den C n) 146 [.ref P 0] s=some (.aI [],s2):=q2
 obtain⟨m3,b3,t3,c3,mz,hU,hr3,hz3⟩:=ay bG
 obtain⟨s4,J4,q4,p4,x4⟩:=(JG (ts:=ts) (m:=m3) (fun k hk=>H k (by omega))) n (by omega) P s2 t1 base k c1 J2 b3 t3 c3 p2 hU (by omega)
 have e4:ab Tryz.prog (den C n) 170 [.ref P 0] s2=some (.aI [],s4):=q4
 obtain⟨m5,b5,t5,c5,xA,mG,il,zG⟩:=ay hr3
 obtain⟨s6,J6,q6,p6,x6⟩:=(bq ts m5 j5) n (by omega) P s4 t3 base k c3 J4 b5 t5 c5 p4 mG (by omega)
 have e6:ab Tryz.prog (den C n) 149 [.ref P 0,.str [123]] s4=some (.aI [],s6):=q6
 obtain⟨s7,J7,q7,p7,x7⟩:=(eT (ts:=ts) (m:=m5) gO (v:=fun P=>.fn 175 [] [.box [.ref P 0] 0,.box [.int .i64 5] 0]) (fun _=>rfl) (fun k hk=>YN (fun k hk=>H k (by omega)))) n (by omega) P s6 t5 base k c5 J6 b rest' bY p6 il (by omega)
 have e7:ab Tryz.prog (den C n) 174 [.ref P 0,.str [125],.fn 175 [] [.box [.ref P 0] 0,.box [.int .i64 5] 0]] s6=some (.aI [],s7):=q7
 refine⟨s7,J7,?_,p7,(((x2.trans x4).trans x6).trans x7)⟩
 show ab Tryz.prog (den C (n+1)) 145 [.ref P 0,.int .i64 5] s=_
 rw[aF QM (a7 ..),Ew,SC]
 simp -implicitDefEqProofs only[sL,cD,cW,cT,aj,aq,ax,ar,av,e2,e4,e6,e7]
theorem YQ {ts:List Tok}{m:Nat}(H:∀k<m,cd ts k):eK ts m (gJ true) vd (ef 144 fun P=>[.ref P 0,.bool true]):=by
 intro n hn P s rest base k cs J b rest' bY h hr hb
 obtain⟨n,rfl⟩:∃j,n=j+1:=⟨n-1,by omega⟩
 obtain⟨m1,b1,t1,c1,hm1,dA,bG,hz1⟩:=ay hr
 obtain⟨s2,J2,q2,p2,x2⟩:=(dt ts m1) n (by omega) P s rest base k cs J b1 t1 c1 h dA (by omega)
 have e2:ab Tryz.prog (den C n) 146 [.ref P 0] s=some (.aI [],s2):=q2
 obtain⟨m3,b3,t3,c3,mz,hU,hr3,hz3⟩:=ay bG
 obtain⟨s4,J4,q4,p4,x4⟩:=(JG (ts:=ts) (m:=m3) (fun k hk=>H k (by omega))) n (by omega) P s2 t1 base k c1 J2 b3 t3 c3 p2 hU (by omega)
 have e4:ab Tryz.prog (den C n) 170 [.ref P 0] s2=some (.aI [],s4):=q4
 obtain⟨m5,b5,t5,c5,xA,mG,il,zG⟩:=ay hr3
 obtain⟨s6,J6,q6,p6,x6⟩:=(bq ts m5 cC) n (by omega) P s4 t3 base k c3 J4 b5 t5 c5 p4 mG (by omega)
 have e6:ab Tryz.prog (den C n) 149 [.ref P 0,.str [40]] s4=some (.aI [],s6):=q6
 obtain⟨m7,b7,t7,c7,Rb,GP,oG,JH⟩:=ay il
 obtain⟨s8,J8,q8,p8,x8⟩:=(OL (ts:=ts) (m:=m7) gY (fun k hk=>H k (by omega))) n (by omega) P s6 t5 base k c5 J6 b7 t7 c7 p6 GP (by omega)
 have e8:ab Tryz.prog (den C n) 152 [.ref P 0,.str [41]] s6=some (.aI [],s8):=q8
 obtain⟨m9,b9,t9,c9,Ms,JI,xB,Tx⟩:=ay oG
 obtain⟨s10,wM,oF,qD,rK⟩:=(me (ts:=ts) (m:=m9) ry (v:=fun P=>.fn 150 [.ref P 0] []) (fun _=>rfl) (fun k hk=>(H k (by omega)).ty)) n (by omega) P s8 t7 base k c7 J8 b9 t9 c9 p8 JI (by omega)
 have mQ:ab Tryz.prog (den C n) 171 [.ref P 0,.str [45,62],.fn 150 [.ref P 0] []] s8=some (.aI [],s10):=oF
 obtain⟨s11,JK,zZ,z_,xC⟩:=((H m9 (by omega)).bl) n (by omega) P s10 t9 base k c9 wM b rest' bY qD xB (by omega)
 have wN:ab Tryz.prog (den C n) 173 [.ref P 0] s10=some (.aI [],s11):=zZ
 refine⟨s11,JK,?_,z_,(((((x2.trans x4).trans x6).trans x8).trans rK).trans xC)⟩
 show ab Tryz.prog (den C (n+1)) 144 [.ref P 0,.bool true] s=_
 rw[aF I4 (a7 ..),yK,Ns]
 simp -implicitDefEqProofs only[sL,cD,cW,cT,aj,aq,ax,ar,av,e2,e4,e6,e8,mQ,wN]
theorem YR {ts:List Tok}{m:Nat}(H:∀k<m,cd ts k):eK ts m (gJ false) vd (ef 144 fun P=>[.ref P 0,.bool false]):=by
 intro n hn P s rest base k cs J b rest' bY h hr hb
 obtain⟨n,rfl⟩:∃j,n=j+1:=⟨n-1,by omega⟩
 obtain⟨m1,b1,t1,c1,hm1,dA,bG,hz1⟩:=ay hr
 obtain⟨s2,J2,q2,p2,x2⟩:=(dt ts m1) n (by omega) P s rest base k cs J b1 t1 c1 h dA (by omega)
 have e2:ab Tryz.prog (den C n) 146 [.ref P 0] s=some (.aI [],s2):=q2
 obtain⟨m3,b3,t3,c3,mz,hU,hr3,hz3⟩:=ay bG
 obtain⟨s4,J4,q4,p4,x4⟩:=(JG (ts:=ts) (m:=m3) (fun k hk=>H k (by omega))) n (by omega) P s2 t1 base k c1 J2 b3 t3 c3 p2 hU (by omega)
 have e4:ab Tryz.prog (den C n) 170 [.ref P 0] s2=some (.aI [],s4):=q4
 obtain⟨m5,b5,t5,c5,xA,mG,il,zG⟩:=ay hr3
 obtain⟨s6,J6,q6,p6,x6⟩:=(bq ts m5 cC) n (by omega) P s4 t3 base k c3 J4 b5 t5 c5 p4 mG (by omega)
 have e6:ab Tryz.prog (den C n) 149 [.ref P 0,.str [40]] s4=some (.aI [],s6):=q6
 obtain⟨m7,b7,t7,c7,Rb,GP,oG,JH⟩:=ay il
 obtain⟨s8,J8,q8,p8,x8⟩:=(OL (ts:=ts) (m:=m7) gY (fun k hk=>H k (by omega))) n (by omega) P s6 t5 base k c5 J6 b7 t7 c7 p6 GP (by omega)
 have e8:ab Tryz.prog (den C n) 152 [.ref P 0,.str [41]] s6=some (.aI [],s8):=q8
 obtain⟨m9,b9,t9,c9,Ms,JI,xB,Tx⟩:=ay oG
 obtain⟨s10,wM,oF,qD,rK⟩:=(me (ts:=ts) (m:=m9) ry (v:=fun P=>.fn 150 [.ref P 0] []) (fun _=>rfl) (fun k hk=>(H k (by omega)).ty)) n (by omega) P s8 t7 base k c7 J8 b9 t9 c9 p8 JI (by omega)
 have mQ:ab Tryz.prog (den C n) 171 [.ref P 0,.str [45,62],.fn 150 [.ref P 0] []] s8=some (.aI [],s10):=oF
 obtain⟨m11,Ty,Bf⟩:=aO xB
 rcases Bf with ⟨qE,qF⟩|⟨qE,qF⟩
 ·obtain⟨m12,b12,t12,c12,abB,Tz,abC,abD⟩:=ay qF
  obtain⟨s12,TA,GQ,Mt,GR⟩:=eO [dB] (by decide:1<50) (n:=n) (by omega) qD qE Tz (by omega)
  have vx:ab Tryz.prog (den C n) 105 [.ref P 0,.sl 9 1 [.str [59]] .sh] s10=some (.bool true,s12):=GQ
  obtain⟨s13,J13,ON,YS,TB⟩:=((ga ts m12).2.2) n (by omega) P s12 t12 base k c12 TA b rest' bY Mt abC (by omega)
  have xD:ab Tryz.prog (den C n) 172 [.ref P 0] s12=some (.aI [],s13):=ON
  refine⟨s13,J13,?_,YS,((((((x2.trans x4).trans x6).trans x8).trans rK).trans GR).trans TB)⟩
  show ab Tryz.prog (den C (n+1)) 144 [.ref P 0,.bool false] s=_
  rw[aF I4 (a7 ..),yK,Ns]
  simp -implicitDefEqProofs only[sL,cD,cW,cT,aj,aq,ax,ar,av,e2,e4,e6,e8,mQ,vx,xD]
 ·obtain⟨s14,Mu,YT,YU⟩:=gk [dB] (by decide:1<50) (n:=n) (by omega) qD qE
  have E5:ab Tryz.prog (den C n) 105 [.ref P 0,.sl 9 1 [.str [59]] .sh] s10=some (.bool false,s14):=Mu
  obtain⟨s15,J15,q15,YV,Rc⟩:=((H m11 (by omega)).bl) n (by omega) P s14 t9 base k c9 wM b rest' bY YT qF (by omega)
  have GS:ab Tryz.prog (den C n) 173 [.ref P 0] s14=some (.aI [],s15):=q15
  refine⟨s15,J15,?_,YV,((((((x2.trans x4).trans x6).trans x8).trans rK).trans YU).trans Rc)⟩
  show ab Tryz.prog (den C (n+1)) 144 [.ref P 0,.bool false] s=_
  rw[aF I4 (a7 ..),yK,Ns]
  simp -implicitDefEqProofs only[sL,cD,cW,cT,aj,aq,ax,ar,av,e2,e4,e6,e8,mQ,E5,GS]
theorem abE {ts:List Tok}{m:Nat}(H:∀k<m,cd ts k):eK ts m (.seq .bump (.seq (gJ false) ft)) vd (ef 180 fun P=>[.box [.ref P 0] 0]):=by
 intro n hn P s rest base k cs J b rest' bY h hr hb
 obtain⟨n,rfl⟩:∃j,n=j+1:=⟨n-1,by omega⟩
 obtain⟨m1,b1,t1,c1,hm1,dA,bG,hz1⟩:=ay hr
 obtain⟨s2,J2,q2,p2,x2⟩:=(aX ts m1) n (by omega) P s rest base k cs J b1 t1 c1 h dA (by omega)
 have e2:ab Tryz.prog (den C n) 106 [.ref P 0] s=some (.aI [],s2):=q2
 obtain⟨m3,b3,t3,c3,mz,hU,hr3,hz3⟩:=ay bG
 obtain⟨s4,J4,q4,p4,x4⟩:=(YR (ts:=ts) (m:=m3) (fun k hk=>H k (by omega))) n (by omega) P s2 t1 base k c1 J2 b3 t3 c3 p2 hU (by omega)
 have e4:ab Tryz.prog (den C n) 144 [.ref P 0,.bool false] s2=some (.aI [],s4):=q4
 obtain⟨hb5,rfl,rfl⟩:=bM hr3
 refine⟨s4,J4,?_,p4,(x2.trans x4)⟩
 show ab Tryz.prog (den C (n+1)) 180 [.box [.ref P 0] 0] s=_
 rw[aF XE (dF ..),NF,XD]
 simp -implicitDefEqProofs only[sL,cD,cW,cT,aj,aq,ax,ar,av,e2,e4]
theorem abF {ts:List Tok}{m:Nat}(H:∀k<m,cd ts k):eK ts m (.seq .bump (.seq c_ (.seq (oV C9 (.call 0)) (a6 dB)))) vd (ef 181 fun P=>[.box [.ref P 0] 0]):=by
 intro n hn P s rest base k cs J b rest' bY h hr hb
 obtain⟨n,rfl⟩:∃j,n=j+1:=⟨n-1,by omega⟩
 obtain⟨m1,b1,t1,c1,hm1,dA,bG,hz1⟩:=ay hr
 obtain⟨s2,J2,q2,p2,x2⟩:=(aX ts m1) n (by omega) P s rest base k cs J b1 t1 c1 h dA (by omega)
 have e2:ab Tryz.prog (den C n) 106 [.ref P 0] s=some (.aI [],s2):=q2
 obtain⟨m3,b3,t3,c3,mz,hU,hr3,hz3⟩:=ay bG
 obtain⟨s4,J4,q4,p4,x4⟩:=(dt ts m3) n (by omega) P s2 t1 base k c1 J2 b3 t3 c3 p2 hU (by omega)
 have e4:ab Tryz.prog (den C n) 146 [.ref P 0] s2=some (.aI [],s4):=q4
 obtain⟨m5,b5,t5,c5,xA,mG,il,zG⟩:=ay hr3
 obtain⟨s6,J6,q6,p6,x6⟩:=(me (ts:=ts) (m:=m5) C9 (v:=fun P=>.fn 150 [.ref P 0] []) (fun _=>rfl) (fun k hk=>(H k (by omega)).ty)) n (by omega) P s4 t3 base k c3 J4 b5 t5 c5 p4 mG (by omega)
 have e6:ab Tryz.prog (den C n) 171 [.ref P 0,.str [61],.fn 150 [.ref P 0] []] s4=some (.aI [],s6):=q6
 obtain⟨s7,J7,q7,p7,x7⟩:=(bq ts m5 dB) n (by omega) P s6 t5 base k c5 J6 b rest' bY p6 il (by omega)
 have e7:ab Tryz.prog (den C n) 149 [.ref P 0,.str [59]] s6=some (.aI [],s7):=q7
 refine⟨s7,J7,?_,p7,(((x2.trans x4).trans x6).trans x7)⟩
 show ab Tryz.prog (den C (n+1)) 181 [.box [.ref P 0] 0] s=_
 rw[aF XG (dF ..),NG,XF]
 simp -implicitDefEqProofs only[sL,cD,cW,cT,aj,aq,ax,ar,av,e2,e4,e6,e7]
theorem abG {ts:List Tok}{m:Nat}(H:∀k<m,cd ts k):eK ts m (.seq .bump (.seq (.call 5) (.seq (oV fk (.call 0)) (.seq (a6 C9) (.seq (.call 10) (a6 dB)))))) vd (ef 221 fun P=>[.ref P 0]):=by
 intro n hn P s rest base k cs J b rest' bY h hr hb
 obtain⟨n,rfl⟩:∃j,n=j+1:=⟨n-1,by omega⟩
 obtain⟨m1,b1,t1,c1,hm1,dA,bG,hz1⟩:=ay hr
 obtain⟨s2,J2,q2,p2,x2⟩:=(aX ts m1) n (by omega) P s rest base k cs J b1 t1 c1 h dA (by omega)
 have e2:ab Tryz.prog (den C n) 106 [.ref P 0] s=some (.aI [],s2):=q2
 obtain⟨m3,b3,t3,c3,mz,hU,hr3,hz3⟩:=ay bG
 obtain⟨s4,J4,q4,p4,x4⟩:=((H m3 (by omega)).pa) n (by omega) P s2 t1 base k c1 J2 b3 t3 c3 p2 hU (by omega)
 have e4:ab Tryz.prog (den C n) 235 [.ref P 0] s2=some (.aI [],s4):=q4
 obtain⟨m5,b5,t5,c5,xA,mG,il,zG⟩:=ay hr3
 obtain⟨s6,J6,q6,p6,x6⟩:=(me (ts:=ts) (m:=m5) fk (v:=fun P=>.fn 150 [.ref P 0] []) (fun _=>rfl) (fun k hk=>(H k (by omega)).ty)) n (by omega) P s4 t3 base k c3 J4 b5 t5 c5 p4 mG (by omega)
 have e6:ab Tryz.prog (den C n) 171 [.ref P 0,.str [58],.fn 150 [.ref P 0] []] s4=some (.aI [],s6):=q6
 obtain⟨m7,b7,t7,c7,Rb,GP,oG,JH⟩:=ay il
 obtain⟨s8,J8,q8,p8,x8⟩:=(bq ts m7 C9) n (by omega) P s6 t5 base k c5 J6 b7 t7 c7 p6 GP (by omega)
 have e8:ab Tryz.prog (den C n) 149 [.ref P 0,.str [61]] s6=some (.aI [],s8):=q8
 obtain⟨m9,b9,t9,c9,Ms,JI,xB,Tx⟩:=ay oG
 obtain⟨s10,wM,oF,qD,rK⟩:=((H m9 (by omega)).ex) n (by omega) P s8 t7 base k c7 J8 b9 t9 c9 p8 JI (by omega)
 have mQ:ab Tryz.prog (den C n) 151 [.ref P 0] s8=some (.aI [],s10):=oF
 obtain⟨s11,JK,zZ,z_,xC⟩:=(bq ts m9 dB) n (by omega) P s10 t9 base k c9 wM b rest' bY qD xB (by omega)
 have wN:ab Tryz.prog (den C n) 149 [.ref P 0,.str [59]] s10=some (.aI [],s11):=zZ
 refine⟨s11,JK,?_,z_,(((((x2.trans x4).trans x6).trans x8).trans rK).trans xC)⟩
 show ab Tryz.prog (den C (n+1)) 221 [.ref P 0] s=_
 rw[aF X3 (a7 ..),NW,X2]
 simp -implicitDefEqProofs only[sL,cD,cW,cT,aj,aq,ax,ar,av,e2,e4,e6,e8,mQ,wN]
theorem abH {ts:List Tok}{m:Nat}(H:∀k<m,cd ts k):eK ts m (.seq .bump (.seq (.call 10) (.call 1))) vd (ef 222 fun P=>[.box [.ref P 0] 0]):=by
 intro n hn P s rest base k cs J b rest' bY h hr hb
 obtain⟨n,rfl⟩:∃j,n=j+1:=⟨n-1,by omega⟩
 obtain⟨m1,b1,t1,c1,hm1,dA,bG,hz1⟩:=ay hr
 obtain⟨s2,J2,q2,p2,x2⟩:=(aX ts m1) n (by omega) P s rest base k cs J b1 t1 c1 h dA (by omega)
 have e2:ab Tryz.prog (den C n) 106 [.ref P 0] s=some (.aI [],s2):=q2
 obtain⟨m3,b3,t3,c3,mz,hU,hr3,hz3⟩:=ay bG
 obtain⟨s4,J4,q4,p4,x4⟩:=((H m3 (by omega)).ex) n (by omega) P s2 t1 base k c1 J2 b3 t3 c3 p2 hU (by omega)
 have e4:ab Tryz.prog (den C n) 151 [.ref P 0] s2=some (.aI [],s4):=q4
 obtain⟨s5,J5,q5,p5,x5⟩:=((H m3 (by omega)).bl) n (by omega) P s4 t3 base k c3 J4 b rest' bY p4 hr3 (by omega)
 have e5:ab Tryz.prog (den C n) 173 [.ref P 0] s4=some (.aI [],s5):=q5
 refine⟨s5,J5,?_,p5,((x2.trans x4).trans x5)⟩
 show ab Tryz.prog (den C (n+1)) 222 [.box [.ref P 0] 0] s=_
 rw[aF X5 (dF ..),NX,X4]
 simp -implicitDefEqProofs only[sL,cD,cW,cT,aj,aq,ax,ar,av,e2,e4,e5]
theorem abI {ts:List Tok}{m:Nat}(H:∀k<m,cd ts k):eK ts m (.seq .bump (.seq (.ite (eL [dB]) (.put 0) (.call 10)) (a6 dB))) vd (ef 223 fun P=>[.ref P 0]):=by
 intro n hn P s rest base k cs J b rest' bY h hr hb
 obtain⟨n,rfl⟩:∃j,n=j+1:=⟨n-1,by omega⟩
 obtain⟨m1,b1,t1,c1,hm1,dA,bG,hz1⟩:=ay hr
 obtain⟨s2,J2,q2,p2,x2⟩:=(aX ts m1) n (by omega) P s rest base k cs J b1 t1 c1 h dA (by omega)
 have e2:ab Tryz.prog (den C n) 106 [.ref P 0] s=some (.aI [],s2):=q2
 obtain⟨m3,b3,t3,c3,mz,hU,hr3,hz3⟩:=ay bG
 obtain⟨s4,q4,p4,x4⟩:=(cN (ts:=ts) [dB] (by decide:1<50)).use (n:=n) (by omega) p2
 obtain⟨m4,GM,H7⟩:=aO hU
 rcases H7 with ⟨sC,kL⟩|⟨sC,kL⟩
 ·have e4:ab Tryz.prog (den C n) 99 [.ref P 0,.sl 9 1 [.str [59]] .sh] s2=some (.bool true,s4):=by rw[←sC];exact q4
  obtain⟨s5,J5,q5,p5,x5⟩:=((ga ts m4).2.2) n (by omega) P s4 t1 base k c1 J2 b3 t3 c3 p4 kL (by omega)
  have e5:ab Tryz.prog (den C n) 172 [.ref P 0] s4=some (.aI [],s5):=q5
  obtain⟨s6,J6,q6,p6,x6⟩:=(bq ts m3 dB) n (by omega) P s5 t3 base k c3 J5 b rest' bY p5 hr3 (by omega)
  have e6:ab Tryz.prog (den C n) 149 [.ref P 0,.str [59]] s5=some (.aI [],s6):=q6
  refine⟨s6,J6,?_,p6,(((x2.trans x4).trans x5).trans x6)⟩
  show ab Tryz.prog (den C (n+1)) 223 [.ref P 0] s=_
  rw[aF QZ (a7 ..),EM,S8]
  simp -implicitDefEqProofs only[sL,cD,cW,cT,aj,aq,ax,ar,av,tY,ai,cV,an,eU,eV,Mr,ite_false,e2,e4,e5,e6]
 ·have e4:ab Tryz.prog (den C n) 99 [.ref P 0,.sl 9 1 [.str [59]] .sh] s2=some (.bool false,s4):=by rw[←sC];exact q4
  obtain⟨s7,J7,q7,p7,x7⟩:=((H m4 (by omega)).ex) n (by omega) P s4 t1 base k c1 J2 b3 t3 c3 p4 kL (by omega)
  have e7:ab Tryz.prog (den C n) 151 [.ref P 0] s4=some (.aI [],s7):=q7
  obtain⟨s8,J8,q8,p8,x8⟩:=(bq ts m3 dB) n (by omega) P s7 t3 base k c3 J7 b rest' bY p7 hr3 (by omega)
  have e8:ab Tryz.prog (den C n) 149 [.ref P 0,.str [59]] s7=some (.aI [],s8):=q8
  refine⟨s8,J8,?_,p8,(((x2.trans x4).trans x7).trans x8)⟩
  show ab Tryz.prog (den C (n+1)) 223 [.ref P 0] s=_
  rw[aF QZ (a7 ..),EM,S8]
  simp -implicitDefEqProofs only[sL,cD,cW,cT,aj,aq,ax,ar,av,tY,ai,cV,an,eU,eV,Mr,ite_false,e2,e4,e7,e8]
theorem abJ {ts:List Tok}{m:Nat}(H:∀k<m,cd ts k):eK ts m (.seq .bump (.seq (.call 10) (a6 dB))) vd (ef 225 fun P=>[.box [.ref P 0] 0]):=by
 intro n hn P s rest base k cs J b rest' bY h hr hb
 obtain⟨n,rfl⟩:∃j,n=j+1:=⟨n-1,by omega⟩
 obtain⟨m1,b1,t1,c1,hm1,dA,bG,hz1⟩:=ay hr
 obtain⟨s2,J2,q2,p2,x2⟩:=(aX ts m1) n (by omega) P s rest base k cs J b1 t1 c1 h dA (by omega)
 have e2:ab Tryz.prog (den C n) 106 [.ref P 0] s=some (.aI [],s2):=q2
 obtain⟨m3,b3,t3,c3,mz,hU,hr3,hz3⟩:=ay bG
 obtain⟨s4,J4,q4,p4,x4⟩:=((H m3 (by omega)).ex) n (by omega) P s2 t1 base k c1 J2 b3 t3 c3 p2 hU (by omega)
 have e4:ab Tryz.prog (den C n) 151 [.ref P 0] s2=some (.aI [],s4):=q4
 obtain⟨s5,J5,q5,p5,x5⟩:=(bq ts m3 dB) n (by omega) P s4 t3 base k c3 J4 b rest' bY p4 hr3 (by omega)
 have e5:ab Tryz.prog (den C n) 149 [.ref P 0,.str [59]] s4=some (.aI [],s5):=q5
 refine⟨s5,J5,?_,p5,((x2.trans x4).trans x5)⟩
 show ab Tryz.prog (den C (n+1)) 225 [.box [.ref P 0] 0] s=_
 rw[aF X7 (dF ..),NY,X6]
 simp -implicitDefEqProofs only[sL,cD,cW,cT,aj,aq,ax,ar,av,e2,e4,e5]
theorem TC {ts:List Tok}{m:Nat}(H:∀k<m,cd ts k):eK ts m (j_) vd (ef 237 fun P=>[.ref P 0]):=by
 intro n hn P s rest base k cs J b rest' bY h hr hb
 obtain⟨n,rfl⟩:∃j,n=j+1:=⟨n-1,by omega⟩
 obtain⟨m1,b1,t1,c1,hm1,dA,bG,hz1⟩:=ay hr
 obtain⟨s2,J2,q2,p2,x2⟩:=(aX ts m1) n (by omega) P s rest base k cs J b1 t1 c1 h dA (by omega)
 have e2:ab Tryz.prog (den C n) 106 [.ref P 0] s=some (.aI [],s2):=q2
 obtain⟨s3,J3,q3,p3,x3⟩:=(eT (ts:=ts) (m:=m1) gY (v:=fun P=>.fn 151 [.ref P 0] []) (fun _=>rfl) (fun k hk=>(H k (by omega)).ex)) n (by omega) P s2 t1 base k c1 J2 b rest' bY p2 bG (by omega)
 have e3:ab Tryz.prog (den C n) 174 [.ref P 0,.str [41],.fn 151 [.ref P 0] []] s2=some (.aI [],s3):=q3
 refine⟨s3,J3,?_,p3,(x2.trans x3)⟩
 show ab Tryz.prog (den C (n+1)) 237 [.ref P 0] s=_
 rw[aF Yd (a7 ..),Ob,Yc]
 simp -implicitDefEqProofs only[sL,cD,cW,cT,aj,aq,ax,ar,av,e2,e3]
theorem abK {ts:List Tok}{m:Nat}(H:∀k<m,cd ts k):eK ts m (.seq .bump j_) vd (ef 236 fun P=>[.box [.ref P 0] 0]):=by
 intro n hn P s rest base k cs J b rest' bY h hr hb
 obtain⟨n,rfl⟩:∃j,n=j+1:=⟨n-1,by omega⟩
 obtain⟨m1,b1,t1,c1,hm1,dA,bG,hz1⟩:=ay hr
 obtain⟨s2,J2,q2,p2,x2⟩:=(aX ts m1) n (by omega) P s rest base k cs J b1 t1 c1 h dA (by omega)
 have e2:ab Tryz.prog (den C n) 106 [.ref P 0] s=some (.aI [],s2):=q2
 obtain⟨s3,J3,q3,p3,x3⟩:=(TC (ts:=ts) (m:=m1) (fun k hk=>H k (by omega))) n (by omega) P s2 t1 base k c1 J2 b rest' bY p2 bG (by omega)
 have e3:ab Tryz.prog (den C n) 237 [.ref P 0] s2=some (.aI [],s3):=q3
 refine⟨s3,J3,?_,p3,(x2.trans x3)⟩
 show ab Tryz.prog (den C (n+1)) 236 [.box [.ref P 0] 0] s=_
 rw[aF Yb (dF ..),Oa,Ya]
 simp -implicitDefEqProofs only[sL,cD,cW,cT,aj,aq,ax,ar,av,e2,e3]
theorem abL {ts:List Tok}{m:Nat}(H:∀k<m,cd ts k):eK ts m (.seq .bump (.seq .bump j_)) vd (ef 244 fun P=>[.box [.ref P 0] 0]):=by
 intro n hn P s rest base k cs J b rest' bY h hr hb
 obtain⟨n,rfl⟩:∃j,n=j+1:=⟨n-1,by omega⟩
 obtain⟨m1,b1,t1,c1,hm1,dA,bG,hz1⟩:=ay hr
 obtain⟨s2,J2,q2,p2,x2⟩:=(aX ts m1) n (by omega) P s rest base k cs J b1 t1 c1 h dA (by omega)
 have e2:ab Tryz.prog (den C n) 106 [.ref P 0] s=some (.aI [],s2):=q2
 obtain⟨m3,b3,t3,c3,mz,hU,hr3,hz3⟩:=ay bG
 obtain⟨s4,J4,q4,p4,x4⟩:=(aX ts m3) n (by omega) P s2 t1 base k c1 J2 b3 t3 c3 p2 hU (by omega)
 have e4:ab Tryz.prog (den C n) 106 [.ref P 0] s2=some (.aI [],s4):=q4
 obtain⟨s5,J5,q5,p5,x5⟩:=(TC (ts:=ts) (m:=m3) (fun k hk=>H k (by omega))) n (by omega) P s4 t3 base k c3 J4 b rest' bY p4 hr3 (by omega)
 have e5:ab Tryz.prog (den C n) 237 [.ref P 0] s4=some (.aI [],s5):=q5
 refine⟨s5,J5,?_,p5,((x2.trans x4).trans x5)⟩
 show ab Tryz.prog (den C (n+1)) 244 [.box [.ref P 0] 0] s=_
 rw[aF Yn (dF ..),Og,Ym]
 simp -implicitDefEqProofs only[sL,cD,cW,cT,aj,aq,ax,ar,av,e2,e4,e5]
theorem YW {ts:List Tok}{m:Nat}(H:∀k<m,cd ts k):eK ts m (.seq .bump c_) vd (ef 245 fun P=>[.box [.ref P 0] 0]):=by
 intro n hn P s rest base k cs J b rest' bY h hr hb
 obtain⟨n,rfl⟩:∃j,n=j+1:=⟨n-1,by omega⟩
 obtain⟨m1,b1,t1,c1,hm1,dA,bG,hz1⟩:=ay hr
 obtain⟨s2,J2,q2,p2,x2⟩:=(aX ts m1) n (by omega) P s rest base k cs J b1 t1 c1 h dA (by omega)
 have e2:ab Tryz.prog (den C n) 106 [.ref P 0] s=some (.aI [],s2):=q2
 obtain⟨s3,J3,q3,p3,x3⟩:=(dt ts m1) n (by omega) P s2 t1 base k c1 J2 b rest' bY p2 bG (by omega)
 have e3:ab Tryz.prog (den C n) 146 [.ref P 0] s2=some (.aI [],s3):=q3
 refine⟨s3,J3,?_,p3,(x2.trans x3)⟩
 show ab Tryz.prog (den C (n+1)) 245 [.box [.ref P 0] 0] s=_
 rw[aF Yp (dF ..),Oh,Yo]
 simp -implicitDefEqProofs only[sL,cD,cW,cT,aj,aq,ax,ar,av,e2,e3]
theorem abM {ts:List Tok}{m:Nat}(H:∀k<m,cd ts k):eK ts m (.seq .bump (.seq (.call 10) (a6 gY))) vd (ef 238 fun P=>[.box [.ref P 0] 0]):=by
 intro n hn P s rest base k cs J b rest' bY h hr hb
 obtain⟨n,rfl⟩:∃j,n=j+1:=⟨n-1,by omega⟩
 obtain⟨m1,b1,t1,c1,hm1,dA,bG,hz1⟩:=ay hr
 obtain⟨s2,J2,q2,p2,x2⟩:=(aX ts m1) n (by omega) P s rest base k cs J b1 t1 c1 h dA (by omega)
 have e2:ab Tryz.prog (den C n) 106 [.ref P 0] s=some (.aI [],s2):=q2
 obtain⟨m3,b3,t3,c3,mz,hU,hr3,hz3⟩:=ay bG
 obtain⟨s4,J4,q4,p4,x4⟩:=((H m3 (by omega)).ex) n (by omega) P s2 t1 base k c1 J2 b3 t3 c3 p2 hU (by omega)
 have e4:ab Tryz.prog (den C n) 151 [.ref P 0] s2=some (.aI [],s4):=q4
 obtain⟨s5,J5,q5,p5,x5⟩:=(bq ts m3 gY) n (by omega) P s4 t3 base k c3 J4 b rest' bY p4 hr3 (by omega)
 have e5:ab Tryz.prog (den C n) 149 [.ref P 0,.str [41]] s4=some (.aI [],s5):=q5
 refine⟨s5,J5,?_,p5,((x2.trans x4).trans x5)⟩
 show ab Tryz.prog (den C (n+1)) 238 [.box [.ref P 0] 0] s=_
 rw[aF Yf (dF ..),Oc,Ye]
 simp -implicitDefEqProofs only[sL,cD,cW,cT,aj,aq,ax,ar,av,e2,e4,e5]
theorem abN {ts:List Tok}{m:Nat}(H:∀k<m,cd ts k):eK ts m (.ite (eL [Mi]) (.call 6) (.call 1)) vd (ef 252 fun P=>[.box [.ref P 0] 0]):=by
 intro n hn P s rest base k cs J b rest' bY h hr hb
 obtain⟨n,rfl⟩:∃j,n=j+1:=⟨n-1,by omega⟩
 obtain⟨s1,q1,p1,x1⟩:=(cN (ts:=ts) [Mi] (by decide:1<50)).use (n:=n) (by omega) h
 obtain⟨m1,hm1,sS⟩:=aO hr
 rcases sS with ⟨gR,bG⟩|⟨gR,bG⟩
 ·have e1:ab Tryz.prog (den C n) 99 [.ref P 0,.sl 9 1 [.str [105,102]] .sh] s=some (.bool true,s1):=by rw[←gR];exact q1
  obtain⟨s2,J2,q2,p2,x2⟩:=((H m1 (by omega)).ix) n (by omega) P s1 rest base k cs J b rest' bY p1 bG (by omega)
  have e2:ab Tryz.prog (den C n) 239 [.ref P 0] s1=some (.aI [],s2):=q2
  refine⟨s2,J2,?_,p2,(x1.trans x2)⟩
  show ab Tryz.prog (den C (n+1)) 252 [.box [.ref P 0] 0] s=_
  rw[aF Q3 (dF ..),EQ,Ta]
  simp -implicitDefEqProofs only[sL,cD,cW,cT,aj,aq,ax,ar,av,e1,e2]
 ·have e1:ab Tryz.prog (den C n) 99 [.ref P 0,.sl 9 1 [.str [105,102]] .sh] s=some (.bool false,s1):=by rw[←gR];exact q1
  obtain⟨s3,J3,q3,p3,x3⟩:=((H m1 (by omega)).bl) n (by omega) P s1 rest base k cs J b rest' bY p1 bG (by omega)
  have e3:ab Tryz.prog (den C n) 173 [.ref P 0] s1=some (.aI [],s3):=q3
  refine⟨s3,J3,?_,p3,(x1.trans x3)⟩
  show ab Tryz.prog (den C (n+1)) 252 [.box [.ref P 0] 0] s=_
  rw[aF Q3 (dF ..),EQ,Ta]
  simp -implicitDefEqProofs only[sL,cD,cW,cT,aj,aq,ax,ar,av,e1,e3]
theorem abO {ts:List Tok}{m:Nat}(H:∀k<m,cd ts k):eK ts m (.seq .bump (.seq (.call 10) (.seq (.call 1) (oV EU (.ite (eL [Mi]) (.call 6) (.call 1)))))) vd (ef 251 fun P=>[.box [.ref P 0] 0]):=by
 intro n hn P s rest base k cs J b rest' bY h hr hb
 obtain⟨n,rfl⟩:∃j,n=j+1:=⟨n-1,by omega⟩
 obtain⟨m1,b1,t1,c1,hm1,dA,bG,hz1⟩:=ay hr
 obtain⟨s2,J2,q2,p2,x2⟩:=(aX ts m1) n (by omega) P s rest base k cs J b1 t1 c1 h dA (by omega)
 have e2:ab Tryz.prog (den C n) 106 [.ref P 0] s=some (.aI [],s2):=q2
 obtain⟨m3,b3,t3,c3,mz,hU,hr3,hz3⟩:=ay bG
 obtain⟨s4,J4,q4,p4,x4⟩:=((H m3 (by omega)).ex) n (by omega) P s2 t1 base k c1 J2 b3 t3 c3 p2 hU (by omega)
 have e4:ab Tryz.prog (den C n) 151 [.ref P 0] s2=some (.aI [],s4):=q4
 obtain⟨m5,b5,t5,c5,xA,mG,il,zG⟩:=ay hr3
 obtain⟨s6,J6,q6,p6,x6⟩:=((H m5 (by omega)).bl) n (by omega) P s4 t3 base k c3 J4 b5 t5 c5 p4 mG (by omega)
 have e6:ab Tryz.prog (den C n) 173 [.ref P 0] s4=some (.aI [],s6):=q6
 obtain⟨s7,J7,q7,p7,x7⟩:=(me (ts:=ts) (m:=m5) EU (v:=fun P=>.fn 252 [] [.box [.ref P 0] 0]) (fun _=>rfl) (fun k hk=>abN (fun k hk=>H k (by omega)))) n (by omega) P s6 t5 base k c5 J6 b rest' bY p6 il (by omega)
 have e7:ab Tryz.prog (den C n) 171 [.ref P 0,.str [101,108,115,101],.fn 252 [] [.box [.ref P 0] 0]] s6=some (.aI [],s7):=q7
 refine⟨s7,J7,?_,p7,(((x2.trans x4).trans x6).trans x7)⟩
 show ab Tryz.prog (den C (n+1)) 251 [.box [.ref P 0] 0] s=_
 rw[aF Yt (dF ..),Oj,Ys]
 simp -implicitDefEqProofs only[sL,cD,cW,cT,aj,aq,ax,ar,av,e2,e4,e6,e7]
theorem abP {ts:List Tok}{m:Nat}(H:∀k<m,cd ts k):eK ts m (yX) vd (ef 239 fun P=>[.ref P 0]):=by
 intro n hn P s rest base k cs J b rest' bY h hr hb
 obtain⟨n,rfl⟩:∃j,n=j+1:=⟨n-1,by omega⟩
 obtain⟨s1,J1,q1,p1,x1⟩:=(aR (ts:=ts) (m:=m) (k:=37) (v:=fun P=>.fn 251 [] [.box [.ref P 0] 0]) (fun _=>rfl) (fun k hk=>abO (fun k hk=>H k (by omega)))) n (by omega) P s rest base k cs J b rest' bY h hr (by omega)
 have e1:ab Tryz.prog (den C n) 103 [.ref P 0,.int .i64 37,.fn 251 [] [.box [.ref P 0] 0]] s=some (.aI [],s1):=q1
 refine⟨s1,J1,?_,p1,x1⟩
 show ab Tryz.prog (den C (n+1)) 239 [.ref P 0] s=_
 rw[aF Yh (a7 ..),Od,Yg]
 simp -implicitDefEqProofs only[sL,cD,cW,cT,aj,aq,ax,ar,av,e1]
theorem abQ {ts:List Tok}{m:Nat}(H:∀k<m,cd ts k):eK ts m (.seq (.call 5) (.seq (a6 rz) (.call 10))) vd (ef 255 fun P=>[.box [.ref P 0] 0]):=by
 intro n hn P s rest base k cs J b rest' bY h hr hb
 obtain⟨n,rfl⟩:∃j,n=j+1:=⟨n-1,by omega⟩
 obtain⟨m1,b1,t1,c1,hm1,dA,bG,hz1⟩:=ay hr
 obtain⟨s2,J2,q2,p2,x2⟩:=((H m1 (by omega)).pa) n (by omega) P s rest base k cs J b1 t1 c1 h dA (by omega)
 have e2:ab Tryz.prog (den C n) 235 [.ref P 0] s=some (.aI [],s2):=q2
 obtain⟨m3,b3,t3,c3,mz,hU,hr3,hz3⟩:=ay bG
 obtain⟨s4,J4,q4,p4,x4⟩:=(bq ts m3 rz) n (by omega) P s2 t1 base k c1 J2 b3 t3 c3 p2 hU (by omega)
 have e4:ab Tryz.prog (den C n) 149 [.ref P 0,.str [61,62]] s2=some (.aI [],s4):=q4
 obtain⟨s5,J5,q5,p5,x5⟩:=((H m3 (by omega)).ex) n (by omega) P s4 t3 base k c3 J4 b rest' bY p4 hr3 (by omega)
 have e5:ab Tryz.prog (den C n) 151 [.ref P 0] s4=some (.aI [],s5):=q5
 refine⟨s5,J5,?_,p5,((x2.trans x4).trans x5)⟩
 show ab Tryz.prog (den C (n+1)) 255 [.box [.ref P 0] 0] s=_
 rw[aF Yv (dF ..),Om,Yu]
 simp -implicitDefEqProofs only[sL,cD,cW,cT,aj,aq,ax,ar,av,e2,e4,e5]
theorem abR {ts:List Tok}{m:Nat}(H:∀k<m,cd ts k):eK ts m (Jk) vd (ef 253 fun P=>[.box [.ref P 0] 0]):=by
 intro n hn P s rest base k cs J b rest' bY h hr hb
 obtain⟨n,rfl⟩:∃j,n=j+1:=⟨n-1,by omega⟩
 obtain⟨s1,q1,p1,x1⟩:=(Tv ts).use (n:=n) (by omega) h
 obtain⟨m1,hm1,sS⟩:=aO hr
 rcases sS with ⟨gR,bG⟩|⟨gR,bG⟩
 ·have e1:ab Tryz.prog (den C n) 254 [.ref P 0] s=some (.bool true,s1):=by rw[←gR];exact q1
  obtain⟨s2,J2,q2,p2,x2⟩:=(aR (ts:=ts) (m:=m1) (k:=36) (v:=fun P=>.fn 255 [] [.box [.ref P 0] 0]) (fun _=>rfl) (fun k hk=>abQ (fun k hk=>H k (by omega)))) n (by omega) P s1 rest base k cs J b rest' bY p1 bG (by omega)
  have e2:ab Tryz.prog (den C n) 103 [.ref P 0,.int .i64 36,.fn 255 [] [.box [.ref P 0] 0]] s1=some (.aI [],s2):=q2
  refine⟨s2,J2,?_,p2,(x1.trans x2)⟩
  show ab Tryz.prog (den C (n+1)) 253 [.box [.ref P 0] 0] s=_
  rw[aF Q4 (dF ..),ER,Tb]
  simp -implicitDefEqProofs only[sL,cD,cW,cT,aj,aq,ax,ar,av,e1,e2]
 ·have e1:ab Tryz.prog (den C n) 254 [.ref P 0] s=some (.bool false,s1):=by rw[←gR];exact q1
  obtain⟨hb3,rfl,rfl⟩:=bM bG
  refine⟨s1,J,?_,p1,x1⟩
  show ab Tryz.prog (den C (n+1)) 253 [.box [.ref P 0] 0] s=_
  rw[aF Q4 (dF ..),ER,Tb]
  simp -implicitDefEqProofs only[sL,cD,cW,cT,aj,aq,ax,ar,av,e1]
theorem abS {ts:List Tok}{m:Nat}(H:∀k<m,cd ts k):eK ts m (.seq .bump (.seq (.call 10) (.seq (a6 j5) (gf gO Jk)))) vd (ef 240 fun P=>[.ref P 0]):=by
 intro n hn P s rest base k cs J b rest' bY h hr hb
 obtain⟨n,rfl⟩:∃j,n=j+1:=⟨n-1,by omega⟩
 obtain⟨m1,b1,t1,c1,hm1,dA,bG,hz1⟩:=ay hr
 obtain⟨s2,J2,q2,p2,x2⟩:=(aX ts m1) n (by omega) P s rest base k cs J b1 t1 c1 h dA (by omega)
 have e2:ab Tryz.prog (den C n) 106 [.ref P 0] s=some (.aI [],s2):=q2
 obtain⟨m3,b3,t3,c3,mz,hU,hr3,hz3⟩:=ay bG
 obtain⟨s4,J4,q4,p4,x4⟩:=((H m3 (by omega)).ex) n (by omega) P s2 t1 base k c1 J2 b3 t3 c3 p2 hU (by omega)
 have e4:ab Tryz.prog (den C n) 151 [.ref P 0] s2=some (.aI [],s4):=q4
 obtain⟨m5,b5,t5,c5,xA,mG,il,zG⟩:=ay hr3
 obtain⟨s6,J6,q6,p6,x6⟩:=(bq ts m5 j5) n (by omega) P s4 t3 base k c3 J4 b5 t5 c5 p4 mG (by omega)
 have e6:ab Tryz.prog (den C n) 149 [.ref P 0,.str [123]] s4=some (.aI [],s6):=q6
 obtain⟨s7,J7,q7,p7,x7⟩:=(eT (ts:=ts) (m:=m5) gO (v:=fun P=>.fn 253 [] [.box [.ref P 0] 0]) (fun _=>rfl) (fun k hk=>abR (fun k hk=>H k (by omega)))) n (by omega) P s6 t5 base k c5 J6 b rest' bY p6 il (by omega)
 have e7:ab Tryz.prog (den C n) 174 [.ref P 0,.str [125],.fn 253 [] [.box [.ref P 0] 0]] s6=some (.aI [],s7):=q7
 refine⟨s7,J7,?_,p7,(((x2.trans x4).trans x6).trans x7)⟩
 show ab Tryz.prog (den C (n+1)) 240 [.ref P 0] s=_
 rw[aF Yj (a7 ..),Oe,Yi]
 simp -implicitDefEqProofs only[sL,cD,cW,cT,aj,aq,ax,ar,av,e2,e4,e6,e7]
theorem abT {ts:List Tok}{m:Nat}(H:∀k<m,cd ts k):eK ts m (.seq .bump (.seq (a6 fk) (.call 10))) vd (ef 257 fun P=>[.box [.ref P 0] 0]):=by
 intro n hn P s rest base k cs J b rest' bY h hr hb
 obtain⟨n,rfl⟩:∃j,n=j+1:=⟨n-1,by omega⟩
 obtain⟨m1,b1,t1,c1,hm1,dA,bG,hz1⟩:=ay hr
 obtain⟨s2,J2,q2,p2,x2⟩:=(aX ts m1) n (by omega) P s rest base k cs J b1 t1 c1 h dA (by omega)
 have e2:ab Tryz.prog (den C n) 106 [.ref P 0] s=some (.aI [],s2):=q2
 obtain⟨m3,b3,t3,c3,mz,hU,hr3,hz3⟩:=ay bG
 obtain⟨s4,J4,q4,p4,x4⟩:=(bq ts m3 fk) n (by omega) P s2 t1 base k c1 J2 b3 t3 c3 p2 hU (by omega)
 have e4:ab Tryz.prog (den C n) 149 [.ref P 0,.str [58]] s2=some (.aI [],s4):=q4
 obtain⟨s5,J5,q5,p5,x5⟩:=((H m3 (by omega)).ex) n (by omega) P s4 t3 base k c3 J4 b rest' bY p4 hr3 (by omega)
 have e5:ab Tryz.prog (den C n) 151 [.ref P 0] s4=some (.aI [],s5):=q5
 refine⟨s5,J5,?_,p5,((x2.trans x4).trans x5)⟩
 show ab Tryz.prog (den C (n+1)) 257 [.box [.ref P 0] 0] s=_
 rw[aF Yx (dF ..),On,Yw]
 simp -implicitDefEqProofs only[sL,cD,cW,cT,aj,aq,ax,ar,av,e2,e4,e5]
theorem abU {ts:List Tok}{m:Nat}(H:∀k<m,cd ts k):eK ts m (AW) vd (ef 256 fun P=>[.box [.ref P 0] 0]):=by
 intro n hn P s rest base k cs J b rest' bY h hr hb
 obtain⟨n,rfl⟩:∃j,n=j+1:=⟨n-1,by omega⟩
 obtain⟨s1,q1,p1,x1⟩:=(dE ts).use (n:=n) (by omega) h
 obtain⟨m1,hm1,sS⟩:=aO hr
 rcases sS with ⟨gR,bG⟩|⟨gR,bG⟩
 ·have e1:ab Tryz.prog (den C n) 176 [.ref P 0] s=some (.bool true,s1):=by rw[←gR];exact q1
  obtain⟨s2,J2,q2,p2,x2⟩:=(aR (ts:=ts) (m:=m1) (k:=34) (v:=fun P=>.fn 257 [] [.box [.ref P 0] 0]) (fun _=>rfl) (fun k hk=>abT (fun k hk=>H k (by omega)))) n (by omega) P s1 rest base k cs J b rest' bY p1 bG (by omega)
  have e2:ab Tryz.prog (den C n) 103 [.ref P 0,.int .i64 34,.fn 257 [] [.box [.ref P 0] 0]] s1=some (.aI [],s2):=q2
  refine⟨s2,J2,?_,p2,(x1.trans x2)⟩
  show ab Tryz.prog (den C (n+1)) 256 [.box [.ref P 0] 0] s=_
  rw[aF Q5 (dF ..),ES,Tc]
  simp -implicitDefEqProofs only[sL,cD,cW,cT,aj,aq,ax,ar,av,e1,e2]
 ·have e1:ab Tryz.prog (den C n) 176 [.ref P 0] s=some (.bool false,s1):=by rw[←gR];exact q1
  obtain⟨hb3,rfl,rfl⟩:=bM bG
  refine⟨s1,J,?_,p1,x1⟩
  show ab Tryz.prog (den C (n+1)) 256 [.box [.ref P 0] 0] s=_
  rw[aF Q5 (dF ..),ES,Tc]
  simp -implicitDefEqProofs only[sL,cD,cW,cT,aj,aq,ax,ar,av,e1]
theorem abV {ts:List Tok}{m:Nat}(H:∀k<m,cd ts k):eK ts m (.seq .bump (.seq (iT false) (.seq (a6 j5) (gf gO AW)))) vd (ef 241 fun P=>[.ref P 0]):=by
 intro n hn P s rest base k cs J b rest' bY h hr hb
 obtain⟨n,rfl⟩:∃j,n=j+1:=⟨n-1,by omega⟩
 obtain⟨m1,b1,t1,c1,hm1,dA,bG,hz1⟩:=ay hr
 obtain⟨s2,J2,q2,p2,x2⟩:=(aX ts m1) n (by omega) P s rest base k cs J b1 t1 c1 h dA (by omega)
 have e2:ab Tryz.prog (den C n) 106 [.ref P 0] s=some (.aI [],s2):=q2
 obtain⟨m3,b3,t3,c3,mz,hU,hr3,hz3⟩:=ay bG
 obtain⟨s4,J4,q4,p4,x4⟩:=(GN (ts:=ts) (m:=m3) false (fun k hk=>H k (by omega))) n (by omega) P s2 t1 base k c1 J2 b3 t3 c3 p2 hU (by omega)
 have e4:ab Tryz.prog (den C n) 185 [.ref P 0,.bool false] s2=some (.aI [],s4):=q4
 obtain⟨m5,b5,t5,c5,xA,mG,il,zG⟩:=ay hr3
 obtain⟨s6,J6,q6,p6,x6⟩:=(bq ts m5 j5) n (by omega) P s4 t3 base k c3 J4 b5 t5 c5 p4 mG (by omega)
 have e6:ab Tryz.prog (den C n) 149 [.ref P 0,.str [123]] s4=some (.aI [],s6):=q6
 obtain⟨s7,J7,q7,p7,x7⟩:=(eT (ts:=ts) (m:=m5) gO (v:=fun P=>.fn 256 [] [.box [.ref P 0] 0]) (fun _=>rfl) (fun k hk=>abU (fun k hk=>H k (by omega)))) n (by omega) P s6 t5 base k c5 J6 b rest' bY p6 il (by omega)
 have e7:ab Tryz.prog (den C n) 174 [.ref P 0,.str [125],.fn 256 [] [.box [.ref P 0] 0]] s6=some (.aI [],s7):=q7
 refine⟨s7,J7,?_,p7,(((x2.trans x4).trans x6).trans x7)⟩
 show ab Tryz.prog (den C (n+1)) 241 [.ref P 0] s=_
 rw[aF Yl (a7 ..),Of,Yk]
 simp -implicitDefEqProofs only[sL,cD,cW,cT,aj,aq,ax,ar,av,e2,e4,e6,e7]
theorem abW {ts:List Tok}{m:Nat}:eK ts m ft vd (Tu fun P=>.fn 258 [] []):=by
 intro n hn P s rest base k cs J b rest' bY h hr hb
 obtain⟨n,rfl⟩:∃j,n=j+1:=⟨n-1,by omega⟩
 obtain⟨-,rfl,rfl⟩:=bM hr
 refine⟨s,J,?_,h,.refl s J⟩
 show ab Tryz.prog (den C (n+1)) 258 [] s=_
 have q:AN 1 258 [] (.aI []):=.intro (N:=0) Yz rfl rfl fun n _=>⟨[],by rw[Oo,Yy]⟩
 exact q.of (by omega) s
theorem abX {ts:List Tok}{m:Nat}(H:∀k<m,cd ts k):eK ts m (.seq (.ite (eL [nS]) (.seq .bump (.node 12 ft)) (.seq .bump (lZ Jh))) (.call 10)) vd (ef 242 fun P=>[.ref P 0]):=by
 intro n hn P s rest base k cs J b rest' bY h hr hb
 obtain⟨n,rfl⟩:∃j,n=j+1:=⟨n-1,by omega⟩
 obtain⟨m1,b1,t1,c1,hm1,dA,bG,hz1⟩:=ay hr
 obtain⟨s2,q2,p2,x2⟩:=(cN (ts:=ts) [nS] (by decide:1<50)).use (n:=n) (by omega) h
 obtain⟨m2,hm2,TD⟩:=aO dA
 rcases TD with ⟨zg,hr2⟩|⟨zg,hr2⟩
 ·have e2:ab Tryz.prog (den C n) 99 [.ref P 0,.sl 9 1 [.str [124,124]] .sh] s=some (.bool true,s2):=by rw[←zg];exact q2
  obtain⟨m3,b3,t3,c3,mz,hU,hr3,hz3⟩:=ay hr2
  obtain⟨s4,J4,q4,p4,x4⟩:=(aX ts m3) n (by omega) P s2 rest base k cs J b3 t3 c3 p2 hU (by omega)
  have e4:ab Tryz.prog (den C n) 106 [.ref P 0] s2=some (.aI [],s4):=q4
  obtain⟨s5,J5,q5,p5,x5⟩:=(aR (ts:=ts) (m:=m3) (k:=12) (v:=fun P=>.fn 258 [] []) (fun _=>rfl) (fun k hk=>abW)) n (by omega) P s4 t3 base k c3 J4 b1 t1 c1 p4 hr3 (by omega)
  have e5:ab Tryz.prog (den C n) 103 [.ref P 0,.int .i64 12,.fn 258 [] []] s4=some (.aI [],s5):=q5
  obtain⟨s6,J6,q6,p6,x6⟩:=((H m1 (by omega)).ex) n (by omega) P s5 t1 base k c1 J5 b rest' bY p5 bG (by omega)
  have e6:ab Tryz.prog (den C n) 151 [.ref P 0] s5=some (.aI [],s6):=q6
  refine⟨s6,J6,?_,p6,(((x2.trans x4).trans x5).trans x6)⟩
  show ab Tryz.prog (den C (n+1)) 242 [.ref P 0] s=_
  rw[aF Q1 (a7 ..),EO,S_]
  simp -implicitDefEqProofs only[sL,cD,cW,cT,aj,aq,ax,ar,av,tZ,ai,cV,an,eU,eV,Mr,ite_false,e2,e4,e5,e6]
 ·have e2:ab Tryz.prog (den C n) 99 [.ref P 0,.sl 9 1 [.str [124,124]] .sh] s=some (.bool false,s2):=by rw[←zg];exact q2
  obtain⟨m7,b7,t7,c7,Rb,GP,oG,JH⟩:=ay hr2
  obtain⟨s8,J8,q8,p8,x8⟩:=(aX ts m7) n (by omega) P s2 rest base k cs J b7 t7 c7 p2 GP (by omega)
  have e8:ab Tryz.prog (den C n) 106 [.ref P 0] s2=some (.aI [],s8):=q8
  obtain⟨s9,J9,q9,p9,x9⟩:=(OL (ts:=ts) (m:=m7) Jh (fun k hk=>H k (by omega))) n (by omega) P s8 t7 base k c7 J8 b1 t1 c1 p8 oG (by omega)
  have e9:ab Tryz.prog (den C n) 152 [.ref P 0,.str [124]] s8=some (.aI [],s9):=q9
  obtain⟨s10,wM,oF,qD,rK⟩:=((H m1 (by omega)).ex) n (by omega) P s9 t1 base k c1 J9 b rest' bY p9 bG (by omega)
  have mQ:ab Tryz.prog (den C n) 151 [.ref P 0] s9=some (.aI [],s10):=oF
  refine⟨s10,wM,?_,qD,(((x2.trans x8).trans x9).trans rK)⟩
  show ab Tryz.prog (den C (n+1)) 242 [.ref P 0] s=_
  rw[aF Q1 (a7 ..),EO,S_]
  simp -implicitDefEqProofs only[sL,cD,cW,cT,aj,aq,ax,ar,av,tZ,ai,cV,an,eU,eV,Mr,ite_false,e2,e8,e9,mQ]
theorem abY {ts:List Tok}{m:Nat}(H:∀k<m,cd ts k):eK ts m (.seq .bump (.call 15)) vd (ef 228 fun P=>[.box [.ref P 0] 0]):=by
 intro n hn P s rest base k cs J b rest' bY h hr hb
 obtain⟨n,rfl⟩:∃j,n=j+1:=⟨n-1,by omega⟩
 obtain⟨m1,b1,t1,c1,hm1,dA,bG,hz1⟩:=ay hr
 obtain⟨s2,J2,q2,p2,x2⟩:=(aX ts m1) n (by omega) P s rest base k cs J b1 t1 c1 h dA (by omega)
 have e2:ab Tryz.prog (den C n) 106 [.ref P 0] s=some (.aI [],s2):=q2
 obtain⟨s3,J3,q3,p3,x3⟩:=((H m1 (by omega)).un) n (by omega) P s2 t1 base k c1 J2 b rest' bY p2 bG (by omega)
 have e3:ab Tryz.prog (den C n) 208 [.ref P 0] s2=some (.aI [],s3):=q3
 refine⟨s3,J3,?_,p3,(x2.trans x3)⟩
 show ab Tryz.prog (den C (n+1)) 228 [.box [.ref P 0] 0] s=_
 rw[aF X9 (dF ..),N_,X8]
 simp -implicitDefEqProofs only[sL,cD,cW,cT,aj,aq,ax,ar,av,e2,e3]
theorem abZ {ts:List Tok}{m:Nat}(H:∀k<m,cd ts k):eK ts m (.seq .bump (.seq (sw [mF] ft) (.call 15))) vd (ef 229 fun P=>[.box [.ref P 0] 0]):=by
 intro n hn P s rest base k cs J b rest' bY h hr hb
 obtain⟨n,rfl⟩:∃j,n=j+1:=⟨n-1,by omega⟩
 obtain⟨m1,b1,t1,c1,hm1,dA,bG,hz1⟩:=ay hr
 obtain⟨s2,J2,q2,p2,x2⟩:=(aX ts m1) n (by omega) P s rest base k cs J b1 t1 c1 h dA (by omega)
 have e2:ab Tryz.prog (den C n) 106 [.ref P 0] s=some (.aI [],s2):=q2
 obtain⟨m3,b3,t3,c3,mz,hU,hr3,hz3⟩:=ay bG
 obtain⟨m4,GM,H7⟩:=aO hU
 rcases H7 with ⟨sC,kL⟩|⟨sC,kL⟩
 ·obtain⟨m5,b5,t5,c5,xA,mG,il,zG⟩:=ay kL
  obtain⟨s5,J5,q5,p5,x5⟩:=eO [mF] (by decide:1<50) (n:=n) (by omega) p2 sC mG (by omega)
  have e5:ab Tryz.prog (den C n) 105 [.ref P 0,.sl 9 1 [.str [109,117,116]] .sh] s2=some (.bool true,s5):=q5
  obtain⟨hb6,rfl,rfl⟩:=bM il
  obtain⟨s7,J7,q7,p7,x7⟩:=((H m3 (by omega)).un) n (by omega) P s5 t3 base k c3 J5 b rest' bY p5 hr3 (by omega)
  have e7:ab Tryz.prog (den C n) 208 [.ref P 0] s5=some (.aI [],s7):=q7
  refine⟨s7,J7,?_,p7,((x2.trans x5).trans x7)⟩
  show ab Tryz.prog (den C (n+1)) 229 [.box [.ref P 0] 0] s=_
  rw[aF Q0 (dF ..),EN,S9]
  simp -implicitDefEqProofs only[sL,cD,cW,cT,aj,aq,ax,ar,av,e2,e5,e7]
 ·obtain⟨s8,q8,p8,x8⟩:=gk [mF] (by decide:1<50) (n:=n) (by omega) p2 sC
  have e8:ab Tryz.prog (den C n) 105 [.ref P 0,.sl 9 1 [.str [109,117,116]] .sh] s2=some (.bool false,s8):=q8
  obtain⟨hb9,rfl,rfl⟩:=bM kL
  obtain⟨s10,wM,oF,qD,rK⟩:=((H m3 (by omega)).un) n (by omega) P s8 t3 base k c3 J2 b rest' bY p8 hr3 (by omega)
  have mQ:ab Tryz.prog (den C n) 208 [.ref P 0] s8=some (.aI [],s10):=oF
  refine⟨s10,wM,?_,qD,((x2.trans x8).trans rK)⟩
  show ab Tryz.prog (den C (n+1)) 229 [.box [.ref P 0] 0] s=_
  rw[aF Q0 (dF ..),EN,S9]
  simp -implicitDefEqProofs only[sL,cD,cW,cT,aj,aq,ax,ar,av,e2,e8,mQ]
end ParF
end
