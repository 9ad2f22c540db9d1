/- ParA0, ParA, ParB, ParB2, ParB3, ParB4, ParB5, ParS, ParS2, ParS3, ParS4, ParS5, ParS6, ParL -/
import Derived.Test.YtnhnmigafkodfaaGreatDoorB
import Derived.Test.YtnhnmigafkodfaaGreatDoorD
import Derived.Test.YtnhnmigafkodfaaGreatDoorC
set_option linter.all false
set_option maxRecDepth 100000
set_option maxHeartbeats 1000000

section
namespace ParF
open Go Go.Abs Pm
abbrev I (n:Int):AV:=.int .i64 n
def tokA (t:Tok):AV:=.agg [I t.1,.str t.2]
def IsToks (tk:AV)(ts:List Tok):Prop:=(tk=.nils∧ts=[])∨∃T,tk=.sl T 2 (ts.map tokA) .sh
mutual
inductive IsT:Tree→AV→Prop
 | mk (k:Nat) (t:Bytes) (cs:List Tree) (ch:AV) (h:IsC cs ch):IsT (.mk k t cs) (.agg [I k,.str t,ch])
inductive IsC:List Tree→AV→Prop
 | nil:IsC [] .nils
 | sl (cs:List Tree) (rows:List AV) (h:IsL cs rows):IsC cs (.sl 65 3 rows .sh)
inductive IsL:List Tree→List AV→Prop
 | nil:IsL [] []
 | cons (t:Tree) (a:AV) (cs:List Tree) (rows:List AV) (h:IsT t a) (h':IsL cs rows):IsL (t::cs) (a::rows)
end
mutual
theorem IsT.noRef:∀{t:Tree}{a:AV},IsT t a→a.noRef=true
 | _,_,.mk k t cs ch h=>by
  have:=IsC.noRef h
  rw[noRef_agg,noRefL_cons,noRefL_cons,noRefL_cons,noRefL_nil,noRef_int,noRef_str,this];rfl
theorem IsC.noRef:∀{cs:List Tree}{ch:AV},IsC cs ch→ch.noRef=true
 | _,_,.nil=>by simp[AV.noRef]
 | _,_,.sl cs rows h=>by rw[noRef_sl];exact IsL.noRef h
theorem IsL.noRef:∀{cs:List Tree}{rows:List AV},IsL cs rows→noRefL rows=true
 | _,_,.nil=>noRefL_nil
 | _,_,.cons t a cs rows h k=>by rw[noRefL_cons,IsT.noRef h,IsL.noRef k];rfl
end
theorem IsC.strip {cs:List Tree}{ch:AV}(h:IsC cs ch):ch.strip=ch∧plainC ch=true∧ch.noRef=true:=by
 refine⟨?_,?_,h.noRef⟩
 ·cases h<;>rfl
 ·cases h<;>rfl
theorem IsT.cells {t:Tree}{a:AV}(h:IsT t a):a.cells.length=3∧a.cells.map AV.strip=a.cells∧a.cells.all plainC=true∧a=.agg a.cells:=by
 cases h with
 | mk k t cs ch h =>
  obtain⟨h1,h2,h3⟩:=h.strip
  refine⟨rfl,?_,?_,rfl⟩
  ·show [(I k).strip,(AV.str t).strip,ch.strip]=_;rw[h1];rfl
  ·show (true&&(true&&(plainC ch&&true)))=true;rw[h2];rfl
theorem IsL.length:∀{cs:List Tree}{rows:List AV},IsL cs rows→rows.length=cs.length
 | _,_,.nil=>rfl
 | _,_,.cons _ _ _ _ _ t=>by rw[List.length_cons,List.length_cons,IsL.length t]
theorem IsL.append:∀{cs ds:List Tree}{rows rows':List AV},IsL cs rows→IsL ds rows'→IsL (cs++ds) (rows++rows')
 | _,_,_,_,.nil,k=>k
 | _,_,_,_,.cons _ _ _ _ h t,k=>.cons _ _ _ _ h (IsL.append t k)
theorem IsL.snoc {cs:List Tree}{rows:List AV}{t:Tree}{a:AV}(h:IsL cs rows)(k:IsT t a):IsL (cs++[t]) (rows++[a]):=h.append (.cons _ _ _ _ k .nil)
theorem IsL.split:∀{cs ds:List Tree}{rows:List AV},IsL (cs++ds) rows→∃r1 r2,rows=r1++r2∧IsL cs r1∧IsL ds r2
 | [],ds,rows,h=>⟨[],rows,rfl,.nil,h⟩
 | c::cs,ds,_,.cons _ a _ rows h t=>by
  obtain⟨r1,r2,e,h1,h2⟩:=IsL.split (cs:=cs) t
  exact⟨a::r1,r2,by rw[e];rfl,.cons _ _ _ _ h h1,h2⟩
theorem IsL.cells:∀{cs:List Tree}{rows:List AV},IsL cs rows→(cellsOf rows).length=3*cs.length∧(cellsOf rows).map AV.strip=cellsOf rows∧(cellsOf rows).all plainC=true∧chunks 3 cs.length (cellsOf rows)=rows
 | _,_,.nil=>⟨rfl,rfl,rfl,rfl⟩
 | _,_,.cons t a cs rows h k=>by
  obtain⟨h1,h2,h3,h4⟩:=h.cells
  obtain⟨k1,k2,k3,k4⟩:=k.cells
  have e:cellsOf (a::rows)=a.cells++cellsOf rows:=rfl
  rw[e]
  refine⟨by rw[List.length_append,h1,k1,List.length_cons];omega,by rw[List.map_append,h2,k2],by rw[List.all_append,h3,k3];rfl,?_⟩
  rw[List.length_cons,chunks,if_neg (by decide),List.take_append_of_le_length (by omega),List.take_of_length_le (by omega),List.drop_append_of_le_length (by omega),List.drop_of_length_le (by omega),List.nil_append,k4,←h4]
theorem cellsOf_snoc (rows:List AV)(a:AV):cellsOf (rows++[a])=cellsOf rows++a.cells:=by
 rw[cellsOf_append];congr 1;show a.cells++[]=a.cells;rw[List.append_nil]
theorem gset_ne {s:Heap}{i j:Nat}{v:TypeId×List AV}(h:i≠j):(s.set i v)[j]?=s[j]?:=List.getElem?_set_ne h
theorem gset_eq {s:Heap}{i:Nat}{v w:TypeId×List AV}(h:s[i]?=some w):(s.set i v)[i]?=some v:=List.getElem?_set_self (List.getElem?_eq_some_iff.1 h).1
theorem gapp_old {s:Heap}{x:TypeId×List AV}{j:Nat}(h:j<s.length):(s++[x])[j]?=s[j]?:=List.getElem?_append_left h
theorem gapp_new {s:Heap}{x:TypeId×List AV}:(s++[x])[s.length]?=some x:=by simp
theorem gkill_ne {s:Heap}{i j:Nat}(h:i≠j):(kill s i)[j]?=s[j]?:=List.getElem?_set_ne h
theorem kill_length (s:Heap)(i:Nat):(kill s i).length=s.length:=List.length_set
theorem set_length (s:Heap)(i:Nat)(v:TypeId×List AV):(s.set i v).length=s.length:=List.length_set
theorem app_length (s:Heap)(x:TypeId×List AV):(s++[x]).length=s.length+1:=by simp
theorem glt {s:Heap}{i:Nat}{w:TypeId×List AV}(h:s[i]?=some w):i<s.length:=(List.getElem?_eq_some_iff.1 h).1
theorem ld {s:Heap}{i o n:Nat}{ty:TypeId}{cs:List AV}{v:AV}(h:s[i]?=some (ty,cs))(ht:ty≠deadTy)(hv:cs[o]?=some v)(hn:n≠0):aLoad false false n (.ref i o) s=some (v.strip,s):=by
 simp[aLoad,aLoadR,h,ht,hn,aLoadC,hv]
theorem ldA {s:Heap}{i o n:Nat}{ty:TypeId}{cs:List AV}(h:s[i]?=some (ty,cs))(ht:ty≠deadTy)(hv:o+n≤cs.length)(hn:n≠0):aLoad false true n (.ref i o) s=some (.agg ((cs.drop o).take n),s):=by
 simp[aLoad,aLoadR,h,ht,hn,aLoadC,hv]
theorem st {s:Heap}{i o n:Nat}{ty:TypeId}{cs:List AV}{v:AV}(h:s[i]?=some (ty,cs))(ht:ty≠deadTy)(hs:v.solid=true)(hl:v.cells.length=n)(ho:o+n≤cs.length):aStore n s (.ref i o) v=some (s.set i (ty,setL cs o (stCells v))):=by
 simp[aStore,h,ht,hs,hl,ho]
structure Lv where
 k:Nat
 cs:List Tree
 id:Option Nat
def Lv.ch (l:Lv):AV:=match l.id with
 | none=>.nils
 | some i=>.rs 65 3 i 0 l.cs.length
def Lv.row (l:Lv):List AV:=[I l.k,.str [],l.ch]
def Lv.ok (s:Heap)(l:Lv):Prop:=match l.id with
 | none=>l.cs=[]
 | some i=>∃rows junk,s[i]?=some (65,cellsOf rows++junk)∧IsL l.cs rows∧cellsOf rows++junk≠[]
theorem Lv.ok_frame {s s':Heap}{l:Lv}(h:l.ok s)(k:∀i,l.id=some i→s'[i]?=s[i]?):l.ok s':=by
 unfold Lv.ok at *
 split at h
 ·exact h
 ·rename_i i hi
  obtain⟨rows,junk,h1,h2⟩:=h
  exact⟨rows,junk,(k i hi).trans h1,h2⟩
theorem row_length (lvs:List Lv):(lvs.flatMap Lv.row).length=3*lvs.length:=by
 induction lvs with
 | nil=>rfl
 | cons l lvs ih=>rw[List.flatMap_cons,List.length_append,ih];show 3+3*lvs.length=3*(lvs.length+1);omega
structure PS (ts:List Tok)(P:Nat)(s:Heap)(pos:Nat)(lvs:List Lv)(J:List Nat):Prop where
 par:∃tk Q junk,IsToks tk ts∧s[P]?=some (95,[tk,I pos,.rs 65 3 Q 0 lvs.length])∧s[Q]?=some (65,lvs.flatMap Lv.row++junk)∧J=P::Q::lvs.filterMap Lv.id
 ok:∀l∈lvs,l.ok s
 nd:J.Nodup
 pos:pos≤ts.length
 len:ts.length<50000000
structure Ex (s s':Heap)(J J':List Nat):Prop where
 len:s.length≤s'.length
 fr:∀x,x<s.length→x∉J→s'[x]?=s[x]?
 sub:∀x,x∈J'→x∈J∨s.length≤x
theorem Ex.refl (s:Heap)(J:List Nat):Ex s s J J:=⟨Nat.le_refl _,fun _ _ _=>rfl,fun _ h=>.inl h⟩
theorem Ex.trans {s s' s'':Heap}{J J' J'':List Nat}(h:Ex s s' J J')(k:Ex s' s'' J' J''):Ex s s'' J J'':=by
 refine⟨Nat.le_trans h.len k.len,fun x hx hj=>?_,fun x hx=>?_⟩
 ·rw[k.fr x (Nat.lt_of_lt_of_le hx h.len) (fun hj'=>by
   rcases h.sub x hj' with h1|h1
   ·exact hj h1
   ·omega),h.fr x hx hj]
 ·rcases k.sub x hx with h1|h1
  ·exact h.sub x h1
  ·exact .inr (Nat.le_trans h.len h1)
theorem PS.frame {ts:List Tok}{P:Nat}{s s':Heap}{pos:Nat}{lvs:List Lv}{J:List Nat}(h:PS ts P s pos lvs J)(k:∀x∈J,s'[x]?=s[x]?):PS ts P s' pos lvs J:=by
 obtain⟨tk,Q,junk,h1,h2,h3,h4⟩:=h.par
 subst h4
 refine⟨⟨tk,Q,junk,h1,(k P (by simp)).trans h2,(k Q (by simp)).trans h3,rfl⟩,fun l hl=>Lv.ok_frame (h.ok l hl) fun i hi=>k i ?_,h.nd,h.pos,h.len⟩
 exact List.mem_cons_of_mem _ (List.mem_cons_of_mem _ (List.mem_filterMap.2 ⟨l,hl,hi⟩))
theorem PS.lt {ts:List Tok}{P:Nat}{s:Heap}{pos:Nat}{lvs:List Lv}{J:List Nat}(h:PS ts P s pos lvs J):∀x∈J,x<s.length:=by
 obtain⟨tk,Q,junk,h1,h2,h3,h4⟩:=h.par
 intro x hx
 rw[h4,List.mem_cons,List.mem_cons,List.mem_filterMap]at hx
 rcases hx with e|e|⟨l,hl,hi⟩
 ·rw[e];exact glt h2
 ·rw[e];exact glt h3
 ·have:=h.ok l hl
  unfold Lv.ok at this
  rw[hi]at this
  obtain⟨rows,junk,h1,h2⟩:=this
  exact glt h1
end ParF
end

section
namespace ParF
open Go Go.Abs Go.Proofs Pm
theorem under50:Tryz.prog.underlying 63=some (.slice 65):=by kernel_rfl
theorem wsub1 {a:Nat}(h:a<2000000000):IntKind.i64.wrap (((a+1:Nat):Int)-1)=(a:Int):=by rw[wrap64]<;>omega
theorem wadd1 {a:Nat}(h:a<2000000000):IntKind.i64.wrap ((a:Int)+1)=((a+1:Nat):Int):=by rw[wrap64]<;>omega
abbrev zrow:AV:=.agg [I 0,.str [],.nils]
theorem zero50:aBuildSlice Tryz.prog 63 1 [(0,zrow)]=some (.sl 65 3 [zrow] .own):=by kernel_rfl
theorem info52:(Tryz.prog.info? 65).map (fun i=>(i.size,i.zero.map (·.cells.size),decide (i.bytes≤48)))=some (3,some 3,true):=by kernel_rfl
theorem len50_rs (t z i o n:Nat):aLen Tryz.prog 63 (.rs t z i o n)=some (I n):=by simp[aLen,under50]
theorem len50_nil:aLen Tryz.prog 63 .nils=some (I 0):=by simp[aLen,under50]
theorem app_nil (s:Heap):aRsAppend Tryz.prog 63 63 .nils (.sl 65 3 [zrow] .own) s=some (.rs 65 3 s.length 0 1,s++[(65,[I 0,.str [],.nils])]):=by
 have h:=info52
 cases hi:Tryz.prog.info? 65 with
 | none=>rw[hi]at h;cases h
 | some i =>
  rw[hi]at h
  simp only[Option.map_some,Option.some.injEq,Prod.mk.injEq,decide_eq_true_eq]at h
  obtain⟨h1,h2,h3⟩:=h
  cases hz:i.zero with
  | none=>rw[hz]at h2;cases h2
  | some zv =>
   rw[hz]at h2
   simp only[Option.map_some,Option.some.injEq]at h2
   have hb:bound i 1:=⟨by omega,by omega⟩
   simp[aRsAppend,under50,hi,srcOf,h1,hz,h2,hb,deadTy,cellsOf,AV.cells]
theorem app_rs {s:Heap}{id len:Nat}{cs:List AV}(h:s[id]?=some (65,cs))(hl:len*3≤cs.length)(hne:cs≠[])(hn:len<1000000000) :
  aRsAppend Tryz.prog 63 63 (.rs 65 3 id 0 len) (.sl 65 3 [zrow] .own) s=some (.rs 65 3 s.length 0 (len+1),kill s id++[(65,cs.take (len*3)++[I 0,.str [],.nils])]):=by
 have k:=info52
 cases hi:Tryz.prog.info? 65 with
 | none=>rw[hi]at k;cases k
 | some i =>
  rw[hi]at k
  simp only[Option.map_some,Option.some.injEq,Prod.mk.injEq,decide_eq_true_eq]at k
  obtain⟨h1,h2,h3⟩:=k
  cases hz:i.zero with
  | none=>rw[hz]at h2;cases h2
  | some zv =>
   rw[hz]at h2
   simp only[Option.map_some,Option.some.injEq]at h2
   have hb:bound i (len+1):=bound_of (by
    have:(2*(len+1)+768)*i.bytes≤(2*(len+1)+768)*48:=Nat.mul_le_mul_left _ h3
    omega) (by omega)
   simp[aRsAppend,under50,hi,srcOf,h1,hz,h2,hb,deadTy,cellsOf,AV.cells,h,hl,hne]
theorem set_end (s:Heap)(x y:TypeId×List AV):(s++[x]).set s.length y=s++[y]:=by
 rw[List.set_append_right _ _ (Nat.le_refl _),Nat.sub_self];rfl
theorem setL_end (l r z:List AV)(h:z.length=r.length):setL (l++z) l.length r=l++r:=by
 rw[setL_split _ _ _ (by rw[List.length_append];omega),List.take_append_of_le_length (Nat.le_refl _),List.take_of_length_le (Nat.le_refl _),List.drop_of_length_le (by rw[List.length_append];omega),List.append_nil]
theorem push_row {s:Heap}{l:Lv}(h:l.ok s){t:Tree}{a:AV}(ht:IsT t a)(hn:l.cs.length<1000000000) :
  ∃s0 s1,aRsAppend Tryz.prog 63 63 l.ch (.sl 65 3 [zrow] .own) s=some (.rs 65 3 s.length 0 (l.cs.length+1),s0)∧aStore 3 s0 (.ref s.length (l.cs.length*3)) a=some s1∧s1.length=s.length+1∧s0.length=s.length+1 ∧
   (∀x,x<s.length→l.id≠some x→s1[x]?=s[x]?)∧(∀x,x<s.length→l.id≠some x→s0[x]?=s[x]?)∧Lv.ok s1 ⟨l.k,l.cs++[t],some s.length⟩:=by
 obtain⟨c1,c2,c3,c4⟩:=ht.cells
 have hs:a.solid=true:=by rw[c4];rfl
 have hst:stCells a=a.cells:=by rw[c4];exact c2
 cases l with
 | mk k cs id =>
  cases id with
  | none =>
   have h:cs=[]:=h
   subst h
   have e2:aStore 3 (s++[(65,[I 0,.str [],.nils])]) (.ref s.length 0) a=some (s++[(65,a.cells)]):=by
    rw[st gapp_new (by decide) hs c1 (by decide),set_end,hst]
    have:=setL_end [] a.cells [I 0,.str [],.nils] c1.symm
    rw[List.nil_append,List.nil_append]at this
    rw[show setL [I 0,.str [],.nils] 0 a.cells=a.cells from this]
   refine⟨_,_,app_nil s,e2,app_length _ _,app_length _ _,fun x hx _=>gapp_old hx,fun x hx _=>gapp_old hx,[a],[],?_,.cons _ _ _ _ ht .nil,?_⟩
   ·rw[gapp_new];show _=some (65,(a.cells++[])++[]);rw[List.append_nil,List.append_nil]
   ·show (a.cells++[])++[]≠[]
    intro e
    have:=congrArg List.length e
    simp[c1]at this
  | some i =>
   obtain⟨rows,junk,h1,h2,h3⟩:=h
   obtain⟨r1,r2,r3,r4⟩:=h2.cells
   have r1:(cellsOf rows).length=3*cs.length:=r1
   have hn:cs.length<1000000000:=hn
   have hlen:cs.length*3=(cellsOf rows).length:=by omega
   have e1:=app_rs (len:=cs.length) h1 (by rw[List.length_append,←hlen];omega) h3 hn
   have tk:(cellsOf rows++junk).take (cs.length*3)=cellsOf rows:=by
    rw[List.take_append_of_le_length (by omega),List.take_of_length_le (by omega)]
   rw[tk]at e1
   have e2:aStore 3 (kill s i++[(65,cellsOf rows++[I 0,.str [],.nils])]) (.ref s.length (cs.length*3)) a=some (kill s i++[(65,cellsOf rows++a.cells)]):=by
    have g:(kill s i++[(65,cellsOf rows++[I 0,.str [],.nils])])[s.length]?=some (65,cellsOf rows++[I 0,.str [],.nils]):=by
     have:=gapp_new (s:=kill s i) (x:=(65,cellsOf rows++[I 0,.str [],.nils]))
     rw[kill_length]at this;exact this
    rw[st g (by decide) hs c1 (by rw[List.length_append];simp;omega),hst,hlen,setL_end _ _ _ (by rw[c1];rfl)]
    have:=set_end (kill s i) (65,cellsOf rows++[I 0,.str [],.nils]) (65,cellsOf rows++a.cells)
    rw[kill_length]at this
    rw[this]
   have fr:∀(y:TypeId×List AV) (x:Nat),x<s.length→some i≠some x→(kill s i++[y])[x]?=s[x]?:=by
    intro y x hx hne
    rw[gapp_old (by rw[kill_length];exact hx),gkill_ne (fun e=>hne (by rw[e]))]
   refine⟨_,_,e1,e2,by rw[app_length,kill_length],by rw[app_length,kill_length],fr _,fr _,rows++[a],[],?_,h2.snoc ht,?_⟩
   ·have:=gapp_new (s:=kill s i) (x:=(65,cellsOf rows++a.cells))
    rw[kill_length]at this
    rw[cellsOf_snoc,List.append_nil]
    exact this
   ·rw[cellsOf_snoc,List.append_nil]
    intro e
    have:=congrArg List.length e
    rw[List.length_append,c1]at this
    simp at this
theorem flat_snoc (base:List Lv)(l:Lv):(base++[l]).flatMap Lv.row=base.flatMap Lv.row++l.row:=by simp
theorem row_at {base:List Lv}{l:Lv}{junk:List AV}(j:Nat)(hj:j<3):((base++[l]).flatMap Lv.row++junk)[base.length*3+j]?=l.row[j]?:=by
 have hr:=row_length base
 rw[flat_snoc,List.append_assoc,List.getElem?_append_right (by omega),List.getElem?_append_left (by show _<3;omega)]
 congr 1;omega
theorem row_set {base:List Lv}{l:Lv}{junk:List AV}{x:AV}:setL ((base++[l]).flatMap Lv.row++junk) (base.length*3+2) [x]=base.flatMap Lv.row++[I l.k,.str [],x]++junk:=by
 have hr:=row_length base
 have hp:(base.flatMap Lv.row++[I l.k,.str []]).length=base.length*3+2:=by rw[List.length_append,hr];show 3*base.length+2=_;omega
 have e:(base++[l]).flatMap Lv.row++junk=(base.flatMap Lv.row++[I l.k,.str []])++([l.ch]++junk):=by
  rw[flat_snoc];simp[Lv.row]
 have hp2:(base.flatMap Lv.row++[I l.k,.str []]++([l.ch]++junk)).length=base.length*3+2+(1+junk.length):=by rw[List.length_append,hp];simp;omega
 rw[e,←hp,setL_split _ _ _ (by rw[hp2,hp];simp)]
 rw[List.take_append_of_le_length (Nat.le_refl _),List.take_of_length_le (Nat.le_refl _)]
 rw[List.drop_append,List.drop_of_length_le (by simp),Nat.add_sub_cancel_left]
 simp
structure Fs (ts:List Tok)(P:Nat)(s:Heap)(pos:Nat)(base:List Lv)(l:Lv)(tk:AV)(Q:Nat)(junk:List AV):Prop where
 htk:IsToks tk ts
 par:s[P]?=some (95,[tk,I pos,.rs 65 3 Q 0 (base.length+1)])
 row:s[Q]?=some (65,(base++[l]).flatMap Lv.row++junk)
 ne:P≠Q
 hbase:∀i∈base.filterMap Lv.id,i≠P∧i≠Q∧i<s.length∧l.id≠some i
 top:∀i,l.id=some i→i≠P∧i≠Q∧i<s.length
 nd:(base.filterMap Lv.id).Nodup
 ok:l.ok s
 oks:∀l'∈base,l'.ok s
 pos:pos≤ts.length
 len:ts.length<50000000
def JJ (P Q:Nat)(base:List Lv)(l:Lv):List Nat:=P::Q::(base.filterMap Lv.id++l.id.toList)
theorem ids_snoc (base:List Lv)(l:Lv):(base++[l]).filterMap Lv.id=base.filterMap Lv.id++l.id.toList:=by
 rw[List.filterMap_append]
 cases h:l.id<;>simp[h]
theorem PS.facts {ts:List Tok}{P pos:Nat}{s:Heap}{base:List Lv}{l:Lv}{J:List Nat}(h:PS ts P s pos (base++[l]) J):∃tk Q junk,Fs ts P s pos base l tk Q junk∧J=JJ P Q base l:=by
 obtain⟨tk,Q,junk,h1,h2,h3,h4⟩:=h.par
 have hlt:=h.lt
 have nd:=h.nd
 rw[ids_snoc]at h4
 rw[h4]at nd hlt
 rw[List.nodup_cons,List.nodup_cons,List.nodup_append]at nd
 obtain⟨n1,n2,n3,n4,n5⟩:=nd
 refine⟨tk,Q,junk,⟨h1,by rw[h2,List.length_append];rfl,h3,fun e=>n1 (by rw[e];exact List.mem_cons_self ..),fun i hi=>⟨fun e=>n1 ?_,fun e=>n2 ?_,hlt i ?_,fun e=>n5 i hi i (by rw[e];simp) rfl⟩,
  fun i hi=>⟨fun e=>n1 ?_,fun e=>n2 ?_,hlt i ?_⟩,n3,h.ok l (by simp),fun l' hl'=>h.ok l' (by simp[hl']),h.pos,h.len⟩,h4⟩
 ·rw[←e];exact List.mem_cons_of_mem _ (List.mem_append_left _ hi)
 ·rw[←e];exact List.mem_append_left _ hi
 ·exact List.mem_cons_of_mem _ (List.mem_cons_of_mem _ (List.mem_append_left _ hi))
 ·rw[←e];exact List.mem_cons_of_mem _ (List.mem_append_right _ (by simp[hi]))
 ·rw[←e];exact List.mem_append_right _ (by simp[hi])
 ·exact List.mem_cons_of_mem _ (List.mem_cons_of_mem _ (List.mem_append_right _ (by simp[hi])))
theorem Fs.ps {ts:List Tok}{P pos:Nat}{s:Heap}{base:List Lv}{l:Lv}{tk:AV}{Q:Nat}{junk:List AV}(h:Fs ts P s pos base l tk Q junk):PS ts P s pos (base++[l]) (JJ P Q base l):=by
 refine⟨⟨tk,Q,junk,h.htk,by rw[h.par,List.length_append];rfl,h.row,by rw[ids_snoc];rfl⟩,fun l' hl'=>?_,?_,h.pos,h.len⟩
 ·rw[List.mem_append,List.mem_singleton]at hl'
  rcases hl' with k|k
  ·exact h.oks l' k
  ·rw[k];exact h.ok
 ·unfold JJ
  rw[List.nodup_cons,List.nodup_cons,List.nodup_append]
  have mem:∀i,i∈base.filterMap Lv.id++l.id.toList→i≠P∧i≠Q:=by
   intro i hi
   rw[List.mem_append]at hi
   rcases hi with k|k
   ·exact⟨(h.hbase i k).1,(h.hbase i k).2.1⟩
   ·rw[Option.mem_toList]at k;exact⟨(h.top i k).1,(h.top i k).2.1⟩
  refine⟨fun hm=>?_,fun hm=>(mem Q hm).2 rfl,h.nd,?_,fun i hi j hj e=>?_⟩
  ·rw[List.mem_cons]at hm
   rcases hm with k|k
   ·exact h.ne k
   ·exact(mem P k).1 rfl
  ·cases l.id<;>simp
  ·rw[Option.mem_toList]at hj
   exact(h.hbase i hi).2.2.2 (by rw[hj,e])
theorem idx_rs {t i n:Nat}{k:Int}(h:0≤k∧k<n):aIndexAddr Tryz.prog 63 (.rs t 3 i 0 n) (I k)=some (.ref i (0+k.toNat*3)):=by
 have hz:szOf Tryz.prog 65=some 3:=by kernel_rfl
 simp[aIndexAddr,under50,hz,h]
theorem strip_rs (t z i o n:Nat):(AV.rs t z i o n).strip=.rs t z i o n:=(rfl)
theorem ch_strip (l:Lv):l.ch.strip=l.ch:=by unfold Lv.ch;cases l.id<;>rfl
theorem len_ch {s:Heap}{l:Lv}(h:l.ok s):aLen Tryz.prog 63 l.ch=some (I l.cs.length):=by
 unfold Lv.ok at h
 unfold Lv.ch
 cases hi:l.id with
 | none=>rw[hi]at h;have h:l.cs=[]:=h;rw[h];exact len50_nil
 | some i=>exact len50_rs ..
theorem callR {D:Den}{g:FuncId}{args:List AV}{s:Heap}(he:enterable Tryz.prog g=true)(hn:noRefL args=false):aCall Tryz.prog D g args s=D g args s:=by
 rw[aCall,if_pos he,if_neg (by rw[hn];exact Bool.noConfusion)]
theorem ref1 (i o:Nat)(l:List AV):noRefL (.ref i o::l)=false:=by rw[noRefL_cons];simp[AV.noRef]
theorem idx_top (t i n:Nat):aIndexAddr Tryz.prog 63 (.rs t 3 i 0 (n+1)) (I n)=some (.ref i (n*3)):=by
 have:=idx_rs (t:=t) (i:=i) (n:=n+1) (k:=n) (by omega)
 simpa using this
theorem appK_ch (l:Lv):appK l.ch=.app l.id:=by unfold Lv.ch;cases l.id<;>rfl
theorem add_run {ts:List Tok}{P pos:Nat}{s:Heap}{base:List Lv}{l:Lv}{J:List Nat}(h:PS ts P s pos (base++[l]) J){t:Tree}{a:AV}(ht:IsT t a)(hn:l.cs.length+base.length<1000000000) :
  ∃s' i' J',(∀n,aCall Tryz.prog (den C (n+1)) 173 [.ref P 0,a] s=some (.tup [],s'))∧PS ts P s' pos (base++[⟨l.k,l.cs++[t],i'⟩]) J'∧Ex s s' J J':=by
 obtain⟨tk,Q,junk,f,rfl⟩:=h.facts
 obtain⟨s0,s1,a1,a2,l1,l0,f1,f0,ok1⟩:=push_row f.ok ht (by omega)
 obtain⟨c1,c2,c3,c4⟩:=ht.cells
 have hP:=glt f.par
 have hQ:=glt f.row
 have nP:l.id≠some P:=fun e=>(f.top P e).1 rfl
 have nQ:l.id≠some Q:=fun e=>(f.top Q e).2.1 rfl
 have q1:s1[Q]?=some (65,(base++[l]).flatMap Lv.row++junk):=(f1 Q hQ nQ).trans f.row
 have q0:s0[Q]?=some (65,(base++[l]).flatMap Lv.row++junk):=(f0 Q hQ nQ).trans f.row
 have hrow:=row_length (base++[l])
 have hst:=st (s:=s1) (o:=base.length*3+2) (n:=1) (v:=.rs 65 3 s.length 0 (l.cs.length+1)) q1 (by decide) rfl rfl (by rw[List.length_append,hrow,List.length_append];show _≤3*(base.length+1)+_;omega)
 have hst':stCells (.rs 65 3 s.length 0 (l.cs.length+1))=[AV.rs 65 3 s.length 0 (l.cs.length+1)]:=rfl
 rw[hst',row_set]at hst
 have hl:([⟨l.k,l.cs++[t],some s.length⟩]:List Lv).flatMap Lv.row=[I l.k,.str [],.rs 65 3 s.length 0 (l.cs.length+1)]:=by
  simp[Lv.row,Lv.ch]
 refine⟨s1.set Q (65,base.flatMap Lv.row++[I l.k,.str [],.rs 65 3 s.length 0 (l.cs.length+1)]++junk),some s.length,_,fun n=>?_,Fs.ps (tk:=tk) (Q:=Q) (junk:=junk) ⟨f.htk,?_,?_,f.ne,?_,?_,f.nd,?_,?_,f.pos,f.len⟩,?_⟩
 ·have p0:=ld (n:=1) (o:=2) f.par (by decide) rfl (by decide)
  have pch:=ld (n:=1) (o:=base.length*3+2) f.row (by decide) (row_at 2 (by decide)) (by decide)
  have p0:aLoad false false 1 (.ref P 2) s=some (.rs 65 3 Q 0 (base.length+1),s):=p0
  have pch:aLoad false false 1 (.ref Q (base.length*3+2)) s=some (l.ch,s):=by rw[pch,ch_strip]
  obtain⟨acs,rfl⟩:∃acs,a=.agg acs:=⟨_,c4⟩
  have pbox:aLoad false true 3 (.box acs 0) s=some (.agg acs,s):=by
   rw[aLoad_agg _ _ _ _ _ (by have:acs.length=3:=c1;omega),List.drop_zero,List.take_of_length_le (by have:acs.length=3:=c1;omega)]
  rw[callR en173 (ref1 ..),F173_eq,F173]
  simp only[↓sW,sL,p0,pch,pbox,strip_rs,len50_rs,wsub1 (a:=base.length) (by omega),idx_top,d173_1,len_ch f.ok,zero50,a1,a2,hst,kStore_ref,appK_ch,d173_2 s.length Q (by omega)]
 ·rw[gset_ne f.ne.symm,f1 P hP nP];exact f.par
 ·rw[gset_eq q1,List.flatMap_append,hl]
 ·intro i hi
  obtain⟨k1,k2,k3,k4⟩:=f.hbase i hi
  refine⟨k1,k2,by rw[set_length,l1];omega,fun e=>?_⟩
  cases e;omega
 ·intro i hi
  cases hi
  exact⟨fun e=>by omega,fun e=>by omega,by rw[set_length,l1];omega⟩
 ·exact Lv.ok_frame ok1 fun i hi=>gset_ne (by cases hi;omega)
 ·intro l' hl'
  refine Lv.ok_frame (f.oks l' hl') fun i hi=>?_
  obtain⟨k1,k2,k3,k4⟩:=f.hbase i (List.mem_filterMap.2 ⟨l',hl',hi⟩)
  rw[gset_ne (Ne.symm k2),f1 i k3 k4]
 ·refine⟨by rw[set_length,l1];omega,fun x hx hj=>?_,fun x hx=>?_⟩
  ·unfold JJ at hj
   simp only[List.mem_cons,List.mem_append,Option.mem_toList,not_or]at hj
   rw[gset_ne (Ne.symm hj.2.1),f1 x hx hj.2.2.2]
  ·unfold JJ at hx ⊢
   simp only[List.mem_cons,List.mem_append,Option.mem_toList]at hx ⊢
   rcases hx with k|k|k|k
   ·exact .inl (.inl k)
   ·exact .inl (.inr (.inl k))
   ·exact .inl (.inr (.inr (.inl k)))
   ·cases k;exact .inr (Nat.le_refl _)
end ParF
end

section
namespace ParF
open Go Go.Abs Go.Proofs Pm
def AN (N:Nat)(g:FuncId)(args:List AV)(v:AV):Prop:=∀n,N≤n→∀s,aCall Tryz.prog (den C n) g args s=some (v,s)
theorem AN.intro {N:Nat}{g:FuncId}{args:List AV}{v:AV}(he:enterable Tryz.prog g=true)(hn:noRefL args=true)(hv:v.noRef=true)(h:∀n,N≤n→∃s1,den C (n+1) g args []=some (v,s1)):AN (N+1) g args v:=by
 intro n hn' s
 obtain⟨m,rfl⟩:∃m,n=m+1:=⟨n-1,by omega⟩
 obtain⟨s1,h1⟩:=h m (by omega)
 simp[aCall,he,hn,h1,hv]
theorem AN.of {N:Nat}{g:FuncId}{args:List AV}{v:AV}(h:AN N g args v){n:Nat}(hn:N≤n)(s:Heap):aCall Tryz.prog (den C n) g args s=some (v,s):=h n hn s
theorem triv_run (k:Nat):AN 1 109 [I k] (.bool (k==101 || k==102)):=by
 refine .intro en109 rfl rfl fun n _=>⟨[],?_⟩
 have e1:((k:Int)==101)=(k==101):=by rw[Bool.eq_iff_iff];simp;omega
 have e2:((k:Int)==102)=(k==102):=by rw[Bool.eq_iff_iff];simp;omega
 rw[F109_eq,F109]
 cases h:(k==101) with
 | true =>
  simp only[↓sW,sL,e1,h,e2,Bool.true_or,wA_bool]
  simp[h]
 | false =>
  simp only[↓sW,sL,e1,h,e2,Bool.false_or,wA_bool]
  simp[h,e2]
theorem under74:Tryz.prog.underlying 34=some (.slice 53):=by kernel_rfl
theorem under215:Tryz.prog.underlying 38=some (.slice 9):=by kernel_rfl
theorem sz80:szOf Tryz.prog 53=some 2:=by kernel_rfl
theorem sz9:szOf Tryz.prog 9=some 1:=by kernel_rfl
theorem toks_len {tk:AV}{ts:List Tok}(h:IsToks tk ts):aLen Tryz.prog 34 tk=some (I ts.length):=by
 rcases h with ⟨rfl,rfl⟩|⟨T,rfl⟩
 ·simp[aLen,under74]
 ·simp[aLen,under74]
theorem toks_at {tk:AV}{ts:List Tok}(h:IsToks tk ts){i:Nat}(hi:i<ts.length):aIndexAddr Tryz.prog 34 tk (I i)=some (.box [I ts[i].1,.str ts[i].2] 0):=by
 rcases h with ⟨rfl,rfl⟩|⟨T,rfl⟩
 ·simp at hi
 ·simp[aIndexAddr,under74,sz80,hi,tokA]
theorem toks_strip {tk:AV}{ts:List Tok}(h:IsToks tk ts):tk.strip=tk:=by
 rcases h with ⟨rfl,rfl⟩|⟨T,rfl⟩<;>rfl
structure Rdy (ts:List Tok)(P:Nat)(s:Heap)(pos:Nat)(tk st:AV):Prop where
 htk:IsToks tk ts
 par:s[P]?=some (95,[tk,I pos,st])
 pos:pos≤ts.length
 len:ts.length<50000000
theorem Rdy.app {ts:List Tok}{P:Nat}{s:Heap}{pos:Nat}{tk st:AV}(h:Rdy ts P s pos tk st)(t:Heap):Rdy ts P (s++t) pos tk st :=
 ⟨h.htk,by rw[List.getElem?_append_left (glt h.par)];exact h.par,h.pos,h.len⟩
theorem Rdy.ld0 {ts:List Tok}{P:Nat}{s:Heap}{pos:Nat}{tk st:AV}(h:Rdy ts P s pos tk st):aLoad false false 1 (.ref P 0) s=some (tk,s):=by
 rw[ld (o:=0) h.par (by decide) rfl (by decide),toks_strip h.htk]
theorem Rdy.ld1 {ts:List Tok}{P:Nat}{s:Heap}{pos:Nat}{tk st:AV}(h:Rdy ts P s pos tk st):aLoad false false 1 (.ref P 1) s=some (I pos,s):=by
 rw[ld (o:=1) h.par (by decide) rfl (by decide)];rfl
theorem triv_eq (t:Tok):triv t=(t.1==101 || t.1==102):=rfl
theorem pk_triv {ts:List Tok}{i:Nat}(h:i<ts.length)(ht:triv ts[i]=true):pk (ts.drop i)=pk (ts.drop (i+1)):=by
 rw[List.drop_eq_getElem_cons h,pk,skp,List.dropWhile_cons,if_pos ht];rfl
theorem pk_sig {ts:List Tok}{i:Nat}(h:i<ts.length)(ht:triv ts[i]=false):pk (ts.drop i)=ts[i]:=by
 rw[List.drop_eq_getElem_cons h,pk,skp,List.dropWhile_cons,if_neg (by rw[ht];exact Bool.noConfusion)];rfl
theorem pk_end {ts:List Tok}:pk (ts.drop ts.length)=(100,[]):=by rw[List.drop_length];rfl
theorem zero80:aAlloc Tryz.prog 53=fun s=>some (.ref s.length 0,s++[(53,[I 0,.str []])]):=by
 have h:zeroOf Tryz.prog 53=some (.agg [I 0,.str []]):=by kernel_rfl
 funext s
 simp[aAlloc,h]
theorem build80:aBuild Tryz.prog 53 [(0,I 100)]=some (.agg [I 100,.str []]):=by kernel_rfl
theorem peek_loop {ts:List Tok}{P:Nat}{s:Heap}{pos:Nat}{tk st0:AV}(h:Rdy ts P s pos tk st0){L:Nat}{c0:List AV}(hL:s[L]?=some (53,c0))(hc:c0.length=2){n:Nat}(hn:1≤n) :
  ∀(k i:Nat),ts.length-i≤k→i≤ts.length→∀m,k<m→∀n' e,e 0=.ref P 0→e 2=.ref L 0→e 3=I i →
  aLoop (F99_L0 (den C n) n') m e s=some (tokA (pk (ts.drop i)),s.set L (53,[I (pk (ts.drop i)).1,.str (pk (ts.drop i)).2])):=by
 have fin:∀t:Tok,aStore 2 s (.ref L 0) (.agg [I t.1,.str t.2])=some (s.set L (53,[I t.1,.str t.2])):=by
  intro t
  rw[ParF.st (o:=0) (n:=2) (v:=.agg [I t.1,.str t.2]) hL (by decide) rfl rfl (by omega)]
  show some (s.set L (53,setL c0 0 [I t.1,.str t.2]))=_
  have:=setL_end [] [I t.1,.str t.2] c0 (by rw[hc];rfl)
  rw[List.nil_append,List.nil_append]at this
  rw[show setL c0 0 [I t.1,.str t.2]=_ from this]
 have fin2:∀t:Tok,aLoad false true 2 (.ref L 0) (s.set L (53,[I t.1,.str t.2]))=some (.agg [I t.1,.str t.2],s.set L (53,[I t.1,.str t.2])):=fun t=>ldA (gset_eq hL) (by decide) (by show 2≤2;omega) (by decide)
 have out:∀i,i≤ts.length→(i=ts.length∨∃h:i<ts.length,triv ts[i]=false)→∀m,0<m→∀n' e,e 0=.ref P 0→e 2=.ref L 0→e 3=I i →
   aLoop (F99_L0 (den C n) n') m e s=some (tokA (pk (ts.drop i)),s.set L (53,[I (pk (ts.drop i)).1,.str (pk (ts.drop i)).2])):=by
  intro i hi ho m hm n' e he0 he2 he3
  obtain⟨m,rfl⟩:∃j,m=j+1:=⟨m-1,by omega⟩
  rw[aLoop,F99_L0]
  rcases ho with rfl|⟨hlt,ht⟩
  ·rw[pk_end]
   have f1:aStore 2 s (.ref L 0) (.agg [I 100,.str []])=some (s.set L (53,[I 100,.str []])):=fin (100,[])
   have f2:aLoad false true 2 (.ref L 0) (s.set L (53,[I 100,.str []]))=some (.agg [I 100,.str []],s.set L (53,[I 100,.str []])):=fin2 (100,[])
   simp only[↓sW,sL,he0,he2,he3,h.ld0,toks_len h.htk,Nat.lt_irrefl,decide_false,beq_self_eq_true,build80,f1,f2]
   rfl
  ·rw[pk_sig hlt ht]
   have e0:=toks_at h.htk hlt
   have tv:=(triv_run ts[i].1).of hn s
   rw[triv_eq]at ht
   rw[ht]at tv
   have e3:((i:Int)==((ts.length:Nat):Int))=false:=by simp;omega
   have b2:aLoad false true 2 (.box [I ts[i].1,.str ts[i].2] 0) s=some (.agg [I ts[i].1,.str ts[i].2],s):=rfl
   simp only[↓sW,sL,he0,he2,he3,h.ld0,toks_len h.htk,hlt,decide_true,e0,tv,e3,b2,fin ts[i],fin2 ts[i]]
   rfl
 intro k
 induction k with
 | zero=>intro i hk hi;exact out i hi (.inl (by omega))
 | succ k ih =>
  intro i hk hi m hm n' e he0 he2 he3
  by_cases hlt:i<ts.length
  ·cases ht:triv ts[i] with
   | false=>exact out i hi (.inr ⟨hlt,ht⟩) m (by omega) n' e he0 he2 he3
   | true =>
    rw[pk_triv hlt ht]
    obtain⟨m,rfl⟩:∃j,m=j+1:=⟨m-1,by omega⟩
    have e0:=toks_at h.htk hlt
    have tv:=(triv_run ts[i].1).of hn s
    rw[triv_eq]at ht
    rw[ht]at tv
    have hl:=h.len
    rw[aLoop,F99_L0]
    simp only[↓sW,sL,he0,he2,he3,h.ld0,toks_len h.htk,hlt,decide_true,e0,tv,wadd1 (a:=i) (by omega)]
    exact ih (i+1) (by omega) (by omega) m (by omega) n' _ (by simp[upds_at,upd_at,he0]) (by simp[upds_at,upd_at,he2]) (by simp[upds_at,upd_at])
  ·exact out i hi (.inl (by omega)) m (by omega) n' e he0 he2 he3
theorem peek_run {ts:List Tok}{P:Nat}{s:Heap}{pos:Nat}{tk st:AV}(h:Rdy ts P s pos tk st){n:Nat}(hn:ts.length+5≤n):∃t,aCall Tryz.prog (den C n) 99 [.ref P 0] s=some (tokA (pk (ts.drop pos)),s++t):=by
 obtain⟨n,rfl⟩:∃j,n=j+1:=⟨n-1,by omega⟩
 have h':=h.app [(53,[I 0,.str []])]
 refine⟨[(53,[I (pk (ts.drop pos)).1,.str (pk (ts.drop pos)).2])],?_⟩
 rw[callR en99 (ref1 ..),F99_eq,F99]
 simp only[↓sW,sL,zero80,h'.ld1]
 rw[peek_loop h' gapp_new rfl (by omega) (ts.length-pos) pos (Nat.le_refl _) h.pos n (by omega) n _ (by simp[upds_at,upd_at,argEnv]) (by simp[upds_at,upd_at]) (by simp[upds_at,upd_at]),set_end]
end ParF
end

section
namespace ParF
open Go Go.Abs Go.Proofs Pm
abbrev strs (xs:List Bytes):AV:=.sl 9 1 (xs.map .str) .sh
theorem strs_noRef (xs:List Bytes):noRefL (xs.map .str)=true:=by induction xs with
 | nil=>rfl
 | cons x xs ih=>show noRefL (.str x::xs.map .str)=true;rw[noRefL_cons,ih];rfl
theorem bs1 (a:Bytes):aBuildSlice Tryz.prog 38 1 [(0,.str a)]=some (.sl 9 1 [.str a] .own):=by
 have hz:(Tryz.prog.info? 9).bind (·.zero)=some (.string ⟨#[]⟩):=by kernel_rfl
 simp[aBuildSlice,under215,sz9,hz,inRow,AV.cells,Value.cells]
theorem bs2 (a b:Bytes):aBuildSlice Tryz.prog 38 2 [(0,.str a),(1,.str b)]=some (.sl 9 1 [.str a,.str b] .own):=by
 have hz:(Tryz.prog.info? 9).bind (·.zero)=some (.string ⟨#[]⟩):=by kernel_rfl
 simp[aBuildSlice,under215,sz9,hz,inRow,AV.cells,Value.cells]
theorem bs3 (a b c:Bytes):aBuildSlice Tryz.prog 38 3 [(0,.str a),(1,.str b),(2,.str c)]=some (.sl 9 1 [.str a,.str b,.str c] .own):=by
 have hz:(Tryz.prog.info? 9).bind (·.zero)=some (.string ⟨#[]⟩):=by kernel_rfl
 simp[aBuildSlice,under215,sz9,hz,inRow,AV.cells,Value.cells]
theorem idx215 {xs:List Bytes}{i:Nat}(h:i<xs.length):aIndexAddr Tryz.prog 38 (strs xs) (I i)=some (.box [.str xs[i]] 0):=by
 simp[aIndexAddr,under215,sz9,h,AV.cells]
theorem len215 (xs:List Bytes):aLen Tryz.prog 38 (strs xs)=some (I xs.length):=by simp[aLen,under215]
def findI (xs:List Bytes)(w:Bytes)(i:Nat):Int:=match (xs.drop i).idxOf? w with
 | some k=>((i+k:Nat):Int)
 | none=>-1
theorem findI_hit {xs:List Bytes}{w:Bytes}{i:Nat}(h:i<xs.length)(e:w=xs[i]):findI xs w i=i:=by
 unfold findI
 rw[List.drop_eq_getElem_cons h,List.idxOf?_cons]
 simp[e]
theorem findI_miss {xs:List Bytes}{w:Bytes}{i:Nat}(h:i<xs.length)(e:w≠xs[i]):findI xs w i=findI xs w (i+1):=by
 unfold findI
 rw[List.drop_eq_getElem_cons h,List.idxOf?_cons]
 have:(xs[i]==w)=false:=by simp;exact fun h=>e h.symm
 rw[this]
 cases(xs.drop (i+1)).idxOf? w with
 | none=>simp
 | some k=>simp;omega
theorem index_loop {xs:List Bytes}{w:Bytes}(hl:xs.length<1000){n:Nat}:∀(k i:Nat),xs.length-i≤k→i≤xs.length→∀m,k<m→∀n' e s,e 0=strs xs→e 1=.str w→e 7=I xs.length→e 8=I i →
  aLoop (F129_L0 (den C n) n') m e s=some (I (findI xs w i),s):=by
 have out:∀m,0<m→∀n' e s,e 0=strs xs→e 1=.str w→e 7=I xs.length→e 8=I xs.length→aLoop (F129_L0 (den C n) n') m e s=some (I (findI xs w xs.length),s):=by
  intro m hm n' e s h0 h1 h7 h8
  obtain⟨m,rfl⟩:∃j,m=j+1:=⟨m-1,by omega⟩
  have:findI xs w xs.length=-1:=by unfold findI;rw[List.drop_length];rfl
  rw[aLoop,F129_L0,this]
  simp only[↓sW,sL,h7,h8,Nat.lt_irrefl,decide_false]
 intro k
 induction k with
 | zero =>
  intro i hk hi m hm n' e s h0 h1 h7 h8
  have:i=xs.length:=by omega
  subst this;exact out m hm n' e s h0 h1 h7 h8
 | succ k ih =>
  intro i hk hi m hm n' e s h0 h1 h7 h8
  by_cases hlt:i<xs.length
  ·obtain⟨m,rfl⟩:∃j,m=j+1:=⟨m-1,by omega⟩
   rw[aLoop,F129_L0]
   by_cases e':w=xs[i]
   ·rw[findI_hit hlt e']
    have hs:(strs xs).strip=strs xs:=rfl
    simp only[↓sW,sL,hs,h0,h1,h7,h8,hlt,decide_true,idx215 hlt,e',beq_self_eq_true]
   ·rw[findI_miss hlt e']
    have hs:(strs xs).strip=strs xs:=rfl
    simp only[↓sW,sL,hs,h0,h1,h7,h8,hlt,decide_true,idx215 hlt,beq_eq_false_iff_ne.2 e',wadd1 (a:=i) (by omega)]
    exact ih (i+1) (by omega) (by omega) m (by omega) n' _ s (by simp[upds_at,upd_at,h0]) (by simp[upds_at,upd_at,h1]) (by simp[upds_at,upd_at,h7]) (by simp[upds_at,upd_at])
  ·have:i=xs.length:=by omega
   subst this;exact out m (by omega) n' e s h0 h1 h7 h8
theorem index_run (xs:List Bytes)(w:Bytes)(hl:xs.length<50):AN 60 129 [strs xs,.str w] (I (findI xs w 0)):=by
 refine .intro (N:=59) en129 (by rw[noRefL_cons,noRefL_cons,noRefL_nil,noRef_sl,strs_noRef,noRef_str];rfl) (by rfl) fun n hn=>⟨[],?_⟩
 have hs:(strs xs).strip=strs xs:=rfl
 rw[F129_eq,F129]
 simp only[↓sW,sL,hs,len215]
 rw[index_loop (xs:=xs) (w:=w) (by omega) xs.length 0 (by omega) (by omega) n (by omega) n _ [] (by simp[upds_at,upd_at,argEnv]) (by simp[upds_at,upd_at,argEnv]) (by simp[upds_at,upd_at]) (by simp[upds_at,upd_at])]
theorem findI_ge (xs:List Bytes)(w:Bytes):decide (0≤findI xs w 0)=xs.contains w:=by
 unfold findI
 rw[List.drop_zero]
 cases h:xs.idxOf? w with
 | none =>
  have:w∉xs:=by simpa[List.idxOf?_eq_none_iff] using h
  simp[this]
 | some k =>
  have:w∈xs:=by
   refine Classical.byContradiction fun hn=>?_
   rw[List.idxOf?_eq_none_iff.2 hn]at h;cases h
  simp[this]
theorem contains_run (xs:List Bytes)(w:Bytes)(hl:xs.length<50):AN 62 67 [strs xs,.str w] (.bool (xs.contains w)):=by
 refine .intro (N:=61) en67 (by rw[noRefL_cons,noRefL_cons,noRefL_nil,noRef_sl,strs_noRef,noRef_str];rfl) (by rfl) fun n hn=>⟨[],?_⟩
 have q:=(index_run xs w hl).of (n:=n) (by omega)
 have hs:(strs xs).strip=strs xs:=rfl
 rw[F67_eq,F67]
 simp only[↓sW,sL,hs,q]
 rw[findI_ge]
def Rd (ts:List Tok)(f:FuncId)(args:Nat→List AV)(v:List Tok→AV):Prop:=∀n,ts.length+80≤n→∀P s pos tk st,Rdy ts P s pos tk st→∃t,aCall Tryz.prog (den C n) f (args P) s=some (v (ts.drop pos),s++t)
theorem field80_0 (a b:AV):aField Tryz.prog 53 0 (.agg [a,b])=some a.strip:=by
 have hu:(match Tryz.prog.underlying 53 with|some (.struct fs)=>fs[0]?.map fun x=>(isAggT Tryz.prog x.type,szOf Tryz.prog x.type,x.offset)|_=>none)=some (some false,some 1,0):=by kernel_rfl
 unfold aField
 simp only
 split at hu
 ·rename_i fs h
  rw[h]
  simp only
  cases hx:fs[0]? with
  | none=>rw[hx]at hu;cases hu
  | some x =>
   rw[hx]at hu
   simp only[Option.map_some,Option.some.injEq,Prod.mk.injEq]at hu
   obtain⟨h1,h2,h3⟩:=hu
   simp[h1,h2,h3,aLoadC]
 ·cases hu
theorem at_rd {ts:List Tok}(xs:List Bytes)(hl:xs.length<50):Rd ts 100 (fun P=>[.ref P 0,strs xs]) fun r=>.bool (atT xs (pk r)):=by
 intro n hn P s pos tk st h
 obtain⟨n,rfl⟩:∃j,n=j+1:=⟨n-1,by omega⟩
 obtain⟨t,e1⟩:=peek_run h (n:=n) (by omega)
 show ∃t,aCall Tryz.prog (den C (n+1)) 100 [.ref P 0,strs xs] s=some (AV.bool (atT xs (pk (ts.drop pos))),s++t)
 generalize pk (ts.drop pos)=x at e1 ⊢
 refine⟨t++[(53,[I x.1,.str x.2])],?_⟩
 rw[callR en100 (ref1 ..),F100_eq,F100,←List.append_assoc]
 generalize s++t=s1 at *
 have l0:aLoad false false 1 (.ref s1.length 0) (s1++[(53,[I x.1,.str x.2])])=some (I x.1,s1++[(53,[I x.1,.str x.2])]):=by rw[ld (o:=0) gapp_new (by decide) rfl (by decide)];rfl
 have l1:aLoad false false 1 (.ref s1.length 1) (s1++[(53,[I x.1,.str x.2])])=some (.str x.2,s1++[(53,[I x.1,.str x.2])]):=by rw[ld (o:=1) gapp_new (by decide) rfl (by decide)];rfl
 have sto:aStore 2 (s1++[(53,[I 0,.str []])]) (.ref s1.length 0) (tokA x)=some (s1++[(53,[I x.1,.str x.2])]):=by
  rw[ParF.st (o:=0) (n:=2) (v:=tokA x) gapp_new (by decide) rfl rfl (by show 0+2≤2;omega),set_end];rfl
 have c:=(contains_run xs x.2 hl).of (n:=n) (by omega) (s1++[(53,[I x.1,.str x.2])])
 have k1:((x.1:Int)==104)=(x.1==104):=by rw[Bool.eq_iff_iff];simp;omega
 have k2:((x.1:Int)==107)=(x.1==107):=by rw[Bool.eq_iff_iff];simp;omega
 have hs:(strs xs).strip=strs xs:=rfl
 unfold atT
 cases b1:(x.1==104) with
 | true=>simp only[↓sW,sL,e1,zero80,sto,l0,k1,b1,hs,l1,c,Bool.true_or,Bool.true_and]
 | false =>
  cases b2:(x.1==107) with
  | true=>simp only[↓sW,sL,e1,zero80,sto,l0,k1,k2,b1,b2,hs,l1,c,Bool.false_or,Bool.true_and]
  | false=>simp only[↓sW,sL,e1,zero80,sto,l0,k1,k2,b1,b2,hs,l1,c,Bool.false_or,Bool.false_and]
end ParF
end

section
namespace ParF
open Go Go.Abs Go.Proofs Pm
def PR (ts:List Tok)(P:Nat)(s:Heap)(rest:List Tok)(base:List Lv)(k:Nat)(cs:List Tree)(J:List Nat):Prop :=
 ∃pos i,rest=ts.drop pos∧PS ts P s pos (base++[⟨k,cs,i⟩]) J
theorem PS.rdy {ts:List Tok}{P:Nat}{s:Heap}{pos:Nat}{lvs:List Lv}{J:List Nat}(h:PS ts P s pos lvs J):∃tk st,Rdy ts P s pos tk st:=by
 obtain⟨tk,Q,junk,h1,h2,h3,h4⟩:=h.par
 exact⟨tk,_,h1,h2,h.pos,h.len⟩
theorem PS.app {ts:List Tok}{P:Nat}{s:Heap}{pos:Nat}{lvs:List Lv}{J:List Nat}(h:PS ts P s pos lvs J)(t:Heap):PS ts P (s++t) pos lvs J :=
 h.frame fun x hx=>List.getElem?_append_left (h.lt x hx)
theorem Ex.app (s t:Heap)(J:List Nat):Ex s (s++t) J J:=⟨by simp,fun x hx _=>List.getElem?_append_left hx,fun _ h=>.inl h⟩
theorem PR.app {ts:List Tok}{P:Nat}{s:Heap}{rest:List Tok}{base:List Lv}{k:Nat}{cs:List Tree}{J:List Nat}(h:PR ts P s rest base k cs J)(t:Heap):PR ts P (s++t) rest base k cs J:=by
 obtain⟨pos,i,e,h⟩:=h;exact⟨pos,i,e,h.app t⟩
theorem Rd.use {ts:List Tok}{f:FuncId}{args:Nat→List AV}{v:List Tok→AV}(q:Rd ts f args v){n:Nat}(hn:ts.length+80≤n){P:Nat}{s:Heap}{rest:List Tok}{base:List Lv}{k:Nat}{cs:List Tree}{J:List Nat}
  (h:PR ts P s rest base k cs J):∃s',aCall Tryz.prog (den C n) f (args P) s=some (v rest,s')∧PR ts P s' rest base k cs J∧Ex s s' J J:=by
 obtain⟨pos,i,rfl,h⟩:=h
 obtain⟨tk,st,r⟩:=h.rdy
 obtain⟨t,e⟩:=q n hn P s pos tk st r
 exact⟨_,e,⟨pos,i,rfl,h.app t⟩,.app s t J⟩
theorem build52 (x y:AV)(hx:x.cells=[x])(hy:y.cells=[y])(sx:x.strip=x)(sy:y.strip=y)(ox:x.solid=true)(oy:y.solid=true):aBuild Tryz.prog 65 [(0,x),(1,y)]=some (.agg [x,y,.nils]):=by
 have hz:zeroOf Tryz.prog 65=some (.agg [I 0,.str [],.nils]):=by kernel_rfl
 have hu:(match Tryz.prog.underlying 65 with|some (.struct fs)=>placesOf Tryz.prog fs.toList|_=>none)=some [(0,1),(1,1),(2,1)]:=by kernel_rfl
 unfold aBuild
 split at hu
 ·rename_i fs h
  rw[hz,h]
  simp[hu,aFill,hx,hy,setL,sx,sy,ox,oy]
 ·cases hu
theorem build52_1 (x:AV)(hx:x.cells=[x])(sx:x.strip=x)(ox:x.solid=true):aBuild Tryz.prog 65 [(0,x)]=some (.agg [x,.str [],.nils]):=by
 have hz:zeroOf Tryz.prog 65=some (.agg [I 0,.str [],.nils]):=by kernel_rfl
 have hu:(match Tryz.prog.underlying 65 with|some (.struct fs)=>placesOf Tryz.prog fs.toList|_=>none)=some [(0,1),(1,1),(2,1)]:=by kernel_rfl
 unfold aBuild
 split at hu
 ·rename_i fs h
  rw[hz,h]
  simp[hu,aFill,hx,setL,sx,ox]
 ·cases hu
theorem setpos {ts:List Tok}{P:Nat}{s:Heap}{pos pos':Nat}{lvs:List Lv}{J:List Nat}(h:PS ts P s pos lvs J)(hp:pos'≤ts.length):∃s',aStore 1 s (.ref P 1) (I pos')=some s'∧PS ts P s' pos' lvs J∧Ex s s' J J:=by
 obtain⟨tk,Q,junk,h1,h2,h3,h4⟩:=h.par
 have nd:=h.nd
 rw[h4,List.nodup_cons,List.nodup_cons]at nd
 have hPQ:P≠Q:=fun e=>nd.1 (by rw[e];exact List.mem_cons_self ..)
 refine⟨_,st (n:=1) (o:=1) (v:=I pos') h2 (by decide) rfl rfl (by show 2≤3;omega),⟨⟨tk,Q,junk,h1,gset_eq h2,(gset_ne hPQ).trans h3,h4⟩,fun l hl=>Lv.ok_frame (h.ok l hl) fun i hi=>gset_ne fun e=>?_,h.nd,hp,h.len⟩,⟨by rw[set_length];exact Nat.le_refl _,fun x hx hj=>gset_ne fun e=>hj ?_,fun _ h=>.inl h⟩⟩
 ·rw[e]at nd
  exact nd.1 (List.mem_cons_of_mem _ (List.mem_filterMap.2 ⟨l,hl,hi⟩))
 ·rw[h4,←e];exact List.mem_cons_self ..
theorem isT_leaf (t:Tok):IsT (leaf t) (.agg [I t.1,.str t.2,.nils]):=.mk _ _ _ _ .nil
theorem addToken_run {ts:List Tok}{P pos:Nat}{s:Heap}{base:List Lv}{l:Lv}{J:List Nat}(h:PS ts P s pos (base++[l]) J)(hp:pos<ts.length)(hn:l.cs.length+base.length<1000000000) :
  ∃s' i' J',(∀n,aCall Tryz.prog (den C (n+3)) 110 [.ref P 0] s=some (.tup [],s'))∧PS ts P s' (pos+1) (base++[⟨l.k,l.cs++[leaf ts[pos]],i'⟩]) J'∧Ex s s' J J':=by
 obtain⟨tk,st0,r⟩:=h.rdy
 obtain⟨s1,i1,J1,a1,p1,x1⟩:=add_run h (isT_leaf ts[pos]) hn
 obtain⟨tk',st',r'⟩:=p1.rdy
 obtain⟨s2,a2,p2,x2⟩:=setpos p1 (pos':=pos+1) (by omega)
 refine⟨s2,i1,J1,fun n=>?_,p2,x1.trans x2⟩
 have e1:=a1 (n+1)
 have b:=build52 (I ts[pos].1) (.str ts[pos].2) rfl rfl rfl rfl rfl rfl
 have hl:=h.len
 rw[callR en110 (ref1 ..),F110_eq,F110]
 have nr:noRefL [AV.ref P 0,.agg [I ts[pos].1,.str ts[pos].2,.nils]]=false:=ref1 ..
 simp only[↓sW,sL,r.ld0,r.ld1,toks_at r.htk hp,b,e1,r'.ld1,wadd1 (a:=pos) (by omega),a2,nr,Bool.false_eq_true,ite_false,d110_0]
theorem drop_cons {ts:List Tok}{i:Nat}(h:i<ts.length):ts.drop i=ts[i]::ts.drop (i+1):=List.drop_eq_getElem_cons h
theorem skip_loop {ts:List Tok}{P:Nat}{base:List Lv}{kd n:Nat}(hn:5≤n):∀(k pos:Nat),ts.length-pos≤k→∀(m:Nat),k<m→∀n' e s cs i J,e 0=.ref P 0→PS ts P s pos (base++[⟨kd,cs,i⟩]) J→cs.length+k+base.length<1000000000 →
  ∃s' i' J' pos',aLoop (F51_L0 (den C n) n') m e s=some (.tup [],s')∧ts.drop pos'=skp (ts.drop pos)∧PS ts P s' pos' (base++[⟨kd,cs++((ts.drop pos).takeWhile triv).map leaf,i'⟩]) J'∧Ex s s' J J':=by
 obtain⟨n,rfl⟩:∃j,n=j+3:=⟨n-3,by omega⟩
 have out:∀pos m,0<m→∀n' e s cs i J,e 0=.ref P 0→PS ts P s pos (base++[⟨kd,cs,i⟩]) J→(pos=ts.length∨∃h:pos<ts.length,triv ts[pos]=false) →
   ∃s' i' J' pos',aLoop (F51_L0 (den C (n+3)) n') m e s=some (.tup [],s')∧ts.drop pos'=skp (ts.drop pos)∧PS ts P s' pos' (base++[⟨kd,cs++((ts.drop pos).takeWhile triv).map leaf,i'⟩]) J'∧Ex s s' J J':=by
  intro pos m hm n' e s cs i J he h ho
  obtain⟨m,rfl⟩:∃j,m=j+1:=⟨m-1,by omega⟩
  obtain⟨tk,st0,r⟩:=h.rdy
  have e1:ts.drop pos=skp (ts.drop pos)∧(ts.drop pos).takeWhile triv=[]:=by
   rcases ho with rfl|⟨hlt,ht⟩
   ·rw[List.drop_length];exact⟨rfl,rfl⟩
   ·rw[drop_cons hlt,skp,List.dropWhile_cons,List.takeWhile_cons,if_neg (by rw[ht];exact Bool.noConfusion),if_neg (by rw[ht];exact Bool.noConfusion)];exact⟨rfl,rfl⟩
  refine⟨s,i,J,pos,?_,e1.1,by rw[e1.2,List.map_nil,List.append_nil];exact h,.refl s J⟩
  rw[aLoop,F51_L0]
  rcases ho with rfl|⟨hlt,ht⟩
  ·simp only[↓sW,sL,he,r.ld0,r.ld1,toks_len r.htk,Nat.lt_irrefl,decide_false,d51_0]
   exact drawOK_base (by kernel_rfl)
  ·have tv:=(triv_run ts[pos].1).of (n:=n+3) (by omega) s
   rw[triv_eq]at ht
   rw[ht]at tv
   simp only[↓sW,sL,he,r.ld0,r.ld1,toks_len r.htk,hlt,decide_true,toks_at r.htk hlt,tv,d51_0]
 intro k
 induction k with
 | zero =>
  intro pos hk m hm n' e s cs i J he h hb
  have:=h.pos
  exact out pos m hm n' e s cs i J he h (.inl (by omega))
 | succ k ih =>
  intro pos hk m hm n' e s cs i J he h hb
  have hpos:=h.pos
  by_cases hlt:pos<ts.length
  ·cases ht:triv ts[pos] with
   | false=>exact out pos m (by omega) n' e s cs i J he h (.inr ⟨hlt,ht⟩)
   | true =>
    obtain⟨m,rfl⟩:∃j,m=j+1:=⟨m-1,by omega⟩
    obtain⟨tk,st0,r⟩:=h.rdy
    have tv:=(triv_run ts[pos].1).of (n:=n+3) (by omega) s
    have ht':=ht
    rw[triv_eq]at ht'
    rw[ht']at tv
    obtain⟨s1,i1,J1,a1,p1,x1⟩:=addToken_run h hlt (by show cs.length+_<_;omega)
    have e1:=a1 n
    obtain⟨s2,i2,J2,pos2,a2,d2,p2,x2⟩:=ih (pos+1) (by omega) m (by omega) n' (upds e [(2,.ref P 0),(3,.ref P 0),(4,.ref P 1),(5,I pos),(6,.ref P 0),(7,.ref P 0),(8,.ref P 0),(9,tk),(10,I ts.length),(11,.bool true),(12,.bool true),(13,.ref P 0),(14,.ref P 0),(15,.ref P 0),(16,tk),(17,.ref P 0),(18,.ref P 0),(19,.ref P 1),(20,I pos),(21,.box [I ts[pos].1,.str ts[pos].2] 0),(22,.box [I ts[pos].1,.str ts[pos].2] 0),(23,I ts[pos].1),(24,.bool true),(25,.bool true),(26,.ref P 0),(27,.tup [])]) s1 (cs++[leaf ts[pos]]) i1 J1 (by simp[upds_at,upd_at,he]) p1 (by rw[List.length_append];show cs.length+1+_+_<_;omega)
    have e3:skp (ts.drop pos)=skp (ts.drop (pos+1)):=by rw[drop_cons hlt,skp,List.dropWhile_cons,if_pos ht];rfl
    have e4:(ts.drop pos).takeWhile triv=ts[pos]::(ts.drop (pos+1)).takeWhile triv:=by rw[drop_cons hlt,List.takeWhile_cons,if_pos ht]
    refine⟨s2,i2,J2,pos2,?_,by rw[d2,e3],by rw[e4,List.map_cons];rw[List.append_assoc]at p2;exact p2,x1.trans x2⟩
    rw[aLoop,F51_L0]
    simp only[↓sW,sL,he,r.ld0,r.ld1,toks_len r.htk,hlt,decide_true,toks_at r.htk hlt,tv,e1,d51_0]
    exact a2
  ·exact out pos m (by omega) n' e s cs i J he h (.inl (by omega))
theorem skip_run {ts:List Tok}{P:Nat}{s:Heap}{pos:Nat}{base:List Lv}{kd:Nat}{cs:List Tree}{i:Option Nat}{J:List Nat}(h:PS ts P s pos (base++[⟨kd,cs,i⟩]) J)(hb:cs.length+ts.length+base.length<1000000000){n:Nat}(hn:ts.length+10≤n) :
  ∃s' i' J' pos',aCall Tryz.prog (den C n) 51 [.ref P 0] s=some (.tup [],s')∧ts.drop pos'=skp (ts.drop pos)∧PS ts P s' pos' (base++[⟨kd,cs++((ts.drop pos).takeWhile triv).map leaf,i'⟩]) J'∧Ex s s' J J':=by
 obtain⟨n,rfl⟩:∃j,n=j+1:=⟨n-1,by omega⟩
 obtain⟨s',i',J',pos',a,b,c,d⟩:=skip_loop (n:=n) (by omega) ts.length pos (by omega) n (by omega) n (argEnv [.ref P 0]) s cs i J rfl h (by omega)
 refine⟨s',i',J',pos',?_,b,c,d⟩
 rw[callR en51 (ref1 ..),F51_eq,F51]
 exact a
theorem len_le_sz (cs:List Tree):cs.length≤szL cs:=by
 induction cs with
 | nil=>exact Nat.zero_le _
 | cons t cs ih=>cases t;rw[List.length_cons,szL,szT_mk];omega
def Sim (ts:List Tok)(m:Nat)(g:G)(rv:Bool→AV)(F:Nat→Nat→Heap→Option (AV×Heap)):Prop :=
 ∀n,m*20+ts.length+100≤n→∀P s rest base k cs J b rest' cs',PR ts P s rest base k cs J→run m g rest cs=some (b,rest',cs')→base.length+szL cs'<900000000 →
  ∃s' J',F n P s=some (rv b,s')∧PR ts P s' rest' base k cs' J'∧Ex s s' J J'
abbrev vd:Bool→AV:=fun _=>.tup []
abbrev bv:Bool→AV:=.bool
noncomputable def fnF (f:FuncId)(args:Nat→List AV):Nat→Nat→Heap→Option (AV×Heap):=fun n P s=>aCall Tryz.prog (den C n) f (args P) s
noncomputable def cvF (v:Nat→AV):Nat→Nat→Heap→Option (AV×Heap):=fun n P s=>aCallV Tryz.prog (den C n) (v P) [] s
theorem run_pos {m:Nat}{g:G}{ts:List Tok}{cs:List Tree}{r:Bool×List Tok×List Tree}(h:run m g ts cs=some r):∃m',m=m'+1:=by
 cases m with
 | zero=>rw[Pm.run_zero]at h;cases h
 | succ m=>exact⟨m,rfl⟩
theorem bump_sim (ts:List Tok)(m:Nat):Sim ts m .bump vd (fnF 107 fun P=>[.ref P 0]):=by
 intro n hn P s rest base k cs J b rest' cs' h hr hb
 obtain⟨m,rfl⟩:=run_pos hr
 obtain⟨n,rfl⟩:∃j,n=j+4:=⟨n-4,by omega⟩
 rw[run_bump]at hr
 simp only[Option.some.injEq,Prod.mk.injEq]at hr
 obtain⟨rfl,rfl,rfl⟩:=hr
 obtain⟨pos,i,rfl,h⟩:=h
 have hl:=h.len
 have hc:=len_le_sz (cs++(((ts.drop pos).takeWhile triv).map leaf++((skp (ts.drop pos)).take 1).map leaf))
 rw[List.length_append]at hc
 obtain⟨s1,i1,J1,pos1,a1,d1,p1,x1⟩:=skip_run h (by omega) (n:=n+3) (by omega)
 obtain⟨tk,st0,r⟩:=p1.rdy
 have hz:=len_le_sz (cs++((ts.drop pos).takeWhile triv).map leaf)
 have hz2:szL (cs++((ts.drop pos).takeWhile triv).map leaf)≤szL (cs++(((ts.drop pos).takeWhile triv).map leaf++((skp (ts.drop pos)).take 1).map leaf)):=by
  rw[←List.append_assoc,szL_append (cs++_)];omega
 by_cases hlt:pos1<ts.length
 ·obtain⟨s2,i2,J2,a2,p2,x2⟩:=addToken_run p1 hlt (by show (cs++_).length+_<_;omega)
  have e2:=a2 n
  have es:skp (ts.drop pos)=ts[pos1]::ts.drop (pos1+1):=by rw[←d1,drop_cons hlt]
  refine⟨s2,J2,?_,⟨pos1+1,i2,by rw[la,es];rfl,?_⟩,x1.trans x2⟩
  ·show aCall Tryz.prog (den C (n+4)) 107 [.ref P 0] s=_
   rw[callR en107 (ref1 ..),F107_eq,F107]
   simp only[↓sW,sL,a1,r.ld0,r.ld1,toks_len r.htk,hlt,decide_true,e2,d107_1]
  ·rw[es,←List.append_assoc];exact p2
 ·have hp:=p1.pos
  have he:pos1=ts.length:=by omega
  have es:skp (ts.drop pos)=[]:=by rw[←d1,he,List.drop_length]
  refine⟨s1,J1,?_,⟨pos1,i1,by rw[la,es,d1,es];rfl,?_⟩,x1⟩
  ·show aCall Tryz.prog (den C (n+4)) 107 [.ref P 0] s=_
   rw[callR en107 (ref1 ..),F107_eq,F107]
   simp only[↓sW,sL,a1,r.ld0,r.ld1,toks_len r.htk,hlt,decide_false,d107_1]
  ·rw[es,List.take_nil,List.map_nil,List.append_nil];exact p1
end ParF
end

section
namespace ParF
open Go Go.Abs Go.Proofs Pm
theorem row_strip (l:Lv):l.row.map AV.strip=l.row:=by
 show [(I l.k).strip,(AV.str []).strip,l.ch.strip]=l.row
 rw[ch_strip];rfl
theorem PS.mem {ts:List Tok}{P:Nat}{s:Heap}{pos:Nat}{lvs:List Lv}{J:List Nat}(h:PS ts P s pos lvs J){l:Lv}(hl:l∈lvs){i:Nat}(hi:l.id=some i):i∈J:=by
 obtain⟨tk,Q,junk,h1,h2,h3,h4⟩:=h.par
 rw[h4]
 exact List.mem_cons_of_mem _ (List.mem_cons_of_mem _ (List.mem_filterMap.2 ⟨l,hl,hi⟩))
theorem push_lv {ts:List Tok}{P pos:Nat}{s:Heap}{lvs:List Lv}{J:List Nat}(h:PS ts P s pos lvs J)(hn:lvs.length<1000000000)(h0:0<lvs.length){l:Lv}(hl:l.ok s)(hid:∀i,l.id=some i→i∉J∧i<s.length) :
  ∃tk Q s1 s2 s3 J3,s[P]?=some (95,[tk,I pos,.rs 65 3 Q 0 lvs.length])∧Q≠P∧aRsAppend Tryz.prog 63 63 (.rs 65 3 Q 0 lvs.length) (.sl 65 3 [zrow] .own) s=some (.rs 65 3 s.length 0 (lvs.length+1),s1)∧aStore 3 s1 (.ref s.length (lvs.length*3)) (.agg l.row)=some s2 ∧
   aStore 1 s2 (.ref P 2) (.rs 65 3 s.length 0 (lvs.length+1))=some s3∧PS ts P s3 pos (lvs++[l]) J3∧s.length≤s3.length∧(∀x,x<s.length→x∉J→s3[x]?=s[x]?)∧(∀x∈J3,x∈J∨l.id=some x∨s.length≤x)∧P<s.length:=by
 have hlt:=h.lt
 have hmem:∀l'∈lvs,∀i,l'.id=some i→i∈J:=fun l' hl' i hi=>h.mem hl' hi
 obtain⟨tk,Q,junk,h1,h2,h3,h4⟩:=h.par
 have nd:=h.nd
 rw[h4,List.nodup_cons,List.nodup_cons]at nd
 obtain⟨n1,n2,n3⟩:=nd
 have hPQ:P≠Q:=fun e=>n1 (by rw[e];exact List.mem_cons_self ..)
 have hP:=glt h2
 have hQ:=glt h3
 have hr:=row_length lvs
 have hidP:∀l'∈lvs,∀i,l'.id=some i→i≠P∧i≠Q:=by
  intro l' hl' i hi
  have hm:i∈lvs.filterMap Lv.id:=List.mem_filterMap.2 ⟨l',hl',hi⟩
  exact⟨fun e=>n1 (e▸List.mem_cons_of_mem _ hm),fun e=>n2 (e▸hm)⟩
 have hPJ:P∈J:=by rw[h4];exact List.mem_cons_self ..
 have hQJ:Q∈J:=by rw[h4];exact List.mem_cons_of_mem _ (List.mem_cons_self ..)
 have hidl:∀i,l.id=some i→i≠P∧i≠Q:=fun i hi=>⟨fun e=>(hid i hi).1 (e▸hPJ),fun e=>(hid i hi).1 (e▸hQJ)⟩
 have ne:lvs.flatMap Lv.row++junk≠[]:=by
  intro e;have:=congrArg List.length e;rw[List.length_append,hr,List.length_nil]at this;omega
 have e1:=app_rs (len:=lvs.length) h3 (by rw[List.length_append,hr];omega) ne hn
 have tk1:(lvs.flatMap Lv.row++junk).take (lvs.length*3)=lvs.flatMap Lv.row:=by
  rw[List.take_append_of_le_length (by omega),List.take_of_length_le (by omega)]
 rw[tk1]at e1
 have g:(kill s Q++[(65,lvs.flatMap Lv.row++[I 0,.str [],.nils])])[s.length]?=some (65,lvs.flatMap Lv.row++[I 0,.str [],.nils]):=by
  have:=gapp_new (s:=kill s Q) (x:=(65,lvs.flatMap Lv.row++[I 0,.str [],.nils]))
  rw[kill_length]at this;exact this
 have e2:aStore 3 (kill s Q++[(65,lvs.flatMap Lv.row++[I 0,.str [],.nils])]) (.ref s.length (lvs.length*3)) (.agg l.row)=some (kill s Q++[(65,lvs.flatMap Lv.row++l.row)]):=by
  rw[ParF.st (n:=3) (o:=lvs.length*3) (v:=.agg l.row) g (by decide) rfl rfl (by rw[List.length_append,hr];show _≤_+3;omega)]
  have e:lvs.length*3=(lvs.flatMap Lv.row).length:=by omega
  show some (List.set _ s.length (65,setL _ _ (l.row.map AV.strip)))=_
  rw[row_strip,e,setL_end (lvs.flatMap Lv.row) l.row [I 0,.str [],.nils] rfl]
  have:=set_end (kill s Q) (65,lvs.flatMap Lv.row++[I 0,.str [],.nils]) (65,lvs.flatMap Lv.row++l.row)
  rw[kill_length]at this
  rw[this]
 have fr:∀x,x<s.length→x≠Q→(kill s Q++[(65,lvs.flatMap Lv.row++l.row)])[x]?=s[x]?:=by
  intro x hx hne
  rw[gapp_old (by rw[kill_length];exact hx),gkill_ne (Ne.symm hne)]
 have p2:(kill s Q++[(65,lvs.flatMap Lv.row++l.row)])[P]?=some (95,[tk,I pos,.rs 65 3 Q 0 lvs.length]):=(fr P hP hPQ).trans h2
 have e3:aStore 1 (kill s Q++[(65,lvs.flatMap Lv.row++l.row)]) (.ref P 2) (.rs 65 3 s.length 0 (lvs.length+1))=some ((kill s Q++[(65,lvs.flatMap Lv.row++l.row)]).set P (95,[tk,I pos,.rs 65 3 s.length 0 (lvs.length+1)])) :=
  ParF.st (n:=1) (o:=2) (v:=.rs 65 3 s.length 0 (lvs.length+1)) p2 (by decide) rfl rfl (by show 3≤3;omega)
 have len3:((kill s Q++[(65,lvs.flatMap Lv.row++l.row)]).set P (95,[tk,I pos,.rs 65 3 s.length 0 (lvs.length+1)])).length=s.length+1:=by rw[set_length,app_length,kill_length]
 have fr3:∀x,x<s.length→x≠Q→x≠P→((kill s Q++[(65,lvs.flatMap Lv.row++l.row)]).set P (95,[tk,I pos,.rs 65 3 s.length 0 (lvs.length+1)]))[x]?=s[x]?:=by
  intro x hx hne hne'
  rw[gset_ne (Ne.symm hne'),fr x hx hne]
 refine⟨tk,Q,_,_,_,P::s.length::(lvs++[l]).filterMap Lv.id,h2,hPQ.symm,e1,e2,e3,⟨⟨tk,s.length,[],h1,?_,?_,rfl⟩,fun l' hl'=>?_,?_,h.pos,h.len⟩,by omega,fun x hx hj=>?_,fun x hx=>?_,hP⟩
 ·rw[gset_eq p2,List.length_append];rfl
 ·have:=gapp_new (s:=kill s Q) (x:=(65,lvs.flatMap Lv.row++l.row))
  rw[kill_length]at this
  rw[gset_ne (by omega),this,flat_snoc,List.append_nil]
 ·rw[List.mem_append,List.mem_singleton]at hl'
  rcases hl' with k|k
  ·refine Lv.ok_frame (h.ok l' k) fun i hi=>?_
   obtain⟨a,b⟩:=hidP l' k i hi
   exact fr3 i (hlt i (hmem l' k i hi)) b a
  ·rw[k]
   refine Lv.ok_frame hl fun i hi=>?_
   obtain⟨a,b⟩:=hidl i hi
   exact fr3 i (hid i hi).2 b a
 ·rw[ids_snoc,List.nodup_cons,List.nodup_cons,List.nodup_append]
  have mem:∀i,i∈lvs.filterMap Lv.id++l.id.toList→i≠P∧i<s.length:=by
   intro i hi
   rw[List.mem_append]at hi
   rcases hi with k|k
   ·obtain⟨l',hl',hi⟩:=List.mem_filterMap.1 k
    exact⟨(hidP l' hl' i hi).1,hlt i (hmem l' hl' i hi)⟩
   ·rw[Option.mem_toList]at k
    exact⟨(hidl i k).1,(hid i k).2⟩
  refine⟨fun hm=>?_,fun hm=>Nat.lt_irrefl _ (mem _ hm).2,n3,?_,fun i hi j hj e=>?_⟩
  ·rw[List.mem_cons]at hm
   rcases hm with k|k
   ·omega
   ·exact(mem P k).1 rfl
  ·cases l.id<;>simp
  ·rw[Option.mem_toList]at hj
   obtain⟨l',hl',hi'⟩:=List.mem_filterMap.1 hi
   exact(hid j hj).1 (e▸hmem l' hl' i hi')
 ·refine fr3 x hx (fun e=>hj ?_) (fun e=>hj ?_)
  ·rw[e];exact hQJ
  ·rw[e];exact hPJ
 ·rw[ids_snoc,List.mem_cons,List.mem_cons,List.mem_append,Option.mem_toList]at hx
  rcases hx with k|k|k|k
  ·exact .inl (by rw[k];exact hPJ)
  ·exact .inr (.inr (by omega))
  ·obtain⟨l',hl',hi'⟩:=List.mem_filterMap.1 k
   exact .inl (hmem l' hl' x hi')
  ·exact .inr (.inl k)
theorem pub_lv {s:Heap}{l:Lv}(h:l.ok s):∃a s1,aPub (.agg l.row) s=some (a,s1)∧IsT (.mk l.k [] l.cs) a∧s1.length=s.length∧∀x,l.id≠some x→s1[x]?=s[x]?:=by
 unfold Lv.ok at h
 cases l with
 | mk k cs id =>
  cases id with
  | none =>
   have h:cs=[]:=h
   subst h
   exact⟨.agg [I k,.str [],.nils],s,rfl,.mk _ _ _ _ .nil,rfl,fun _ _=>rfl⟩
  | some i =>
   obtain⟨rows,junk,h1,h2,h3⟩:=h
   obtain⟨r1,r2,r3,r4⟩:=h2.cells
   have r1:(cellsOf rows).length=3*cs.length:=r1
   have tk:(cellsOf rows++junk).take (cs.length*3)=cellsOf rows:=by
    rw[List.take_append_of_le_length (by omega),List.take_of_length_le (by omega)]
   have e:aPub1 (.rs 65 3 i 0 cs.length) s=some (.sl 65 3 rows .sh,kill s i):=by
    unfold aPub1
    simp only[h1]
    rw[if_pos ⟨trivial,by decide,by decide,by rw[List.length_append];omega,by rw[tk];exact r3⟩,tk,r2,show chunks 3 cs.length (cellsOf rows)=rows from r4]
   refine⟨.agg [I k,.str [],.sl 65 3 rows .sh],kill s i,?_,.mk _ _ _ _ (.sl _ _ h2),kill_length _ _,fun x hx=>gkill_ne fun e=>hx (by rw[e])⟩
   have e2:aPubL [I k,.str [],.rs 65 3 i 0 cs.length] s=some ([I k,.str [],.sl 65 3 rows .sh],kill s i):=by
    have a1:aPub1 (I k) s=some (I k,s):=rfl
    have a2:aPub1 (.str []) s=some (.str [],s):=rfl
    simp only[aPubL,a1,a2,e]
   show (match aPubL [I k,.str [],.rs 65 3 i 0 cs.length] s with|some (cs',s')=>some (AV.agg cs',s')|none=>none)=_
   rw[e2]
end ParF
end

section
namespace ParF
open Go Go.Abs Go.Proofs Pm
theorem zero52:aAlloc Tryz.prog 65=fun s=>some (.ref s.length 0,s++[(65,[I 0,.str [],.nils])]):=by
 have h:zeroOf Tryz.prog 65=some (.agg [I 0,.str [],.nils]):=by kernel_rfl
 funext s
 simp[aAlloc,h]
theorem take_rs (t i n:Nat):aSl Tryz.prog 63 (.rs t 3 i 0 (n+1)) none (some (I n)) none=some (.rs t 3 i 0 n):=by
 have hb:aBound (n+1) (I n)=some n:=by
  show (if 0≤(n:Int)∧(n:Int)≤((n+1:Nat):Int) then some (n:Int).toNat else none)=some n
  rw[if_pos ⟨by omega,by omega⟩];rfl
 have hz:szOf Tryz.prog 65=some 3:=by kernel_rfl
 simp[aSl,under50,aRsTake,hb,hz]
theorem app_len {α:Type}(a b:List α):(a++b).length=a.length+b.length:=List.length_append
theorem store_new {s:Heap}{a:AV}{t:Tree}(ht:IsT t a):aStore 3 (s++[(65,[I 0,.str [],.nils])]) (.ref s.length 0) a=some (s++[(65,a.cells)]):=by
 obtain⟨c1,c2,c3,c4⟩:=ht.cells
 have hs:a.solid=true:=by rw[c4];rfl
 have hst:stCells a=a.cells:=by rw[c4];exact c2
 rw[ParF.st (n:=3) (o:=0) (v:=a) gapp_new (by decide) hs c1 (by show 3≤3;omega),set_end,hst]
 have:=setL_end [] a.cells [I 0,.str [],.nils] c1.symm
 rw[List.nil_append,List.nil_append]at this
 rw[show setL [I 0,.str [],.nils] 0 a.cells=a.cells from this]
theorem row_drop (base:List Lv)(l:Lv)(junk:List AV):(((base++[l]).flatMap Lv.row++junk).drop (base.length*3)).take 3=l.row:=by
 have hr:=row_length base
 have e:base.length*3=(base.flatMap Lv.row).length:=by omega
 rw[flat_snoc,List.append_assoc,e,List.drop_left]
 rfl
theorem finish_run {ts:List Tok}{P pos:Nat}{s:Heap}{base:List Lv}{l0 l:Lv}{J:List Nat}(h:PS ts P s pos (base++[l0]++[l]) J)(hn:l0.cs.length+base.length<900000000) :
  ∃s' i' J',(∀n,aCall Tryz.prog (den C (n+2)) 162 [.ref P 0] s=some (.tup [],s'))∧PS ts P s' pos (base++[⟨l0.k,l0.cs++[.mk l.k [] l.cs],i'⟩]) J'∧Ex s s' J J':=by
 obtain⟨tk,Q,junk,f,rfl⟩:=h.facts
 obtain⟨a,s1,e1,ht,l1,f1⟩:=pub_lv f.ok
 have hP:=glt f.par
 have hQ:=glt f.row
 have nP:l.id≠some P:=fun e=>(f.top P e).1 rfl
 have nQ:l.id≠some Q:=fun e=>(f.top Q e).2.1 rfl
 have hlen:(base++[l0]).length=base.length+1:=by rw[List.length_append];rfl
 have hr:=row_length (base++[l0]++[l])
 have hr':(base++[l0]++[l]).length=base.length+2:=by rw[List.length_append,hlen];rfl
 have ldq:aLoad false true 3 (.ref Q ((base++[l0]).length*3)) s=some (.agg l.row,s):=by
  rw[ldA (o:=(base++[l0]).length*3) f.row (by decide) (by have:=app_len ((base++[l0]++[l]).flatMap Lv.row) junk;omega) (by decide),row_drop]
 have hs2:∀x,x<s.length→l.id≠some x→(s1++[(65,a.cells)])[x]?=s[x]?:=fun x hx hne=>(gapp_old (by omega)).trans (f1 x hne)
 have par2:(s1++[(65,a.cells)])[P]?=some (95,[tk,I pos,.rs 65 3 Q 0 ((base++[l0]).length+1)]):=(hs2 P hP nP).trans f.par
 have r2:Rdy ts P (s1++[(65,a.cells)]) pos tk _:=⟨f.htk,par2,f.pos,f.len⟩
 have ld2:aLoad false false 1 (.ref P 2) (s1++[(65,a.cells)])=some (.rs 65 3 Q 0 ((base++[l0]).length+1),s1++[(65,a.cells)]):=ld (o:=2) par2 (by decide) rfl (by decide)
 have st2:aStore 1 (s1++[(65,a.cells)]) (.ref P 2) (.rs 65 3 Q 0 (base++[l0]).length)=some ((s1++[(65,a.cells)]).set P (95,[tk,I pos,.rs 65 3 Q 0 (base++[l0]).length])) :=
  ParF.st (n:=1) (o:=2) (v:=.rs 65 3 Q 0 (base++[l0]).length) par2 (by decide) rfl rfl (by show 3≤3;omega)
 have len3:((s1++[(65,a.cells)]).set P (95,[tk,I pos,.rs 65 3 Q 0 (base++[l0]).length])).length=s.length+1:=by rw[set_length,app_length,l1]
 have fr3:∀x,x<s.length→l.id≠some x→x≠P→((s1++[(65,a.cells)]).set P (95,[tk,I pos,.rs 65 3 Q 0 (base++[l0]).length]))[x]?=s[x]?:=fun x hx hne hp=>by
  rw[gset_ne (Ne.symm hp),hs2 x hx hne]
 have ld3:aLoad false true 3 (.ref s1.length 0) ((s1++[(65,a.cells)]).set P (95,[tk,I pos,.rs 65 3 Q 0 (base++[l0]).length]))=some (a,(s1++[(65,a.cells)]).set P (95,[tk,I pos,.rs 65 3 Q 0 (base++[l0]).length])):=by
  obtain⟨c1,c2,c3,c4⟩:=ht.cells
  have g:((s1++[(65,a.cells)]).set P (95,[tk,I pos,.rs 65 3 Q 0 (base++[l0]).length]))[s1.length]?=some (65,a.cells):=by rw[gset_ne (by omega),gapp_new]
  rw[ldA (o:=0) g (by decide) (by omega) (by decide),List.drop_zero,List.take_of_length_le (by omega),←c4]
 have nd:=f.nd
 rw[ids_snoc,List.nodup_append]at nd
 have hb:∀i,i∈base.filterMap Lv.id→i∈(base++[l0]).filterMap Lv.id:=fun i hi=>by rw[ids_snoc];exact List.mem_append_left _ hi
 have ht0:∀i,l0.id=some i→i∈(base++[l0]).filterMap Lv.id:=fun i hi=>by rw[ids_snoc];exact List.mem_append_right _ (by rw[Option.mem_toList];exact hi)
 have F3:Fs ts P ((s1++[(65,a.cells)]).set P (95,[tk,I pos,.rs 65 3 Q 0 (base++[l0]).length])) pos base l0 tk Q (l.row++junk):=by
  refine⟨f.htk,by rw[gset_eq par2,hlen],?_,f.ne,fun i hi=>?_,fun i hi=>?_,nd.1,?_,fun l' hl'=>?_,f.pos,f.len⟩
  ·rw[fr3 Q hQ nQ f.ne.symm,f.row,flat_snoc (base++[l0]),List.append_assoc]
  ·obtain⟨a1,a2,a3,a4⟩:=f.hbase i (hb i hi)
   exact⟨a1,a2,by omega,fun e=>nd.2.2 i hi i (by rw[Option.mem_toList];exact e) rfl⟩
  ·obtain⟨a1,a2,a3,a4⟩:=f.hbase i (ht0 i hi)
   exact⟨a1,a2,by omega⟩
  ·refine Lv.ok_frame (f.oks l0 (by simp)) fun i hi=>?_
   obtain⟨a1,a2,a3,a4⟩:=f.hbase i (ht0 i hi)
   exact fr3 i a3 a4 a1
  ·refine Lv.ok_frame (f.oks l' (by simp[hl'])) fun i hi=>?_
   obtain⟨a1,a2,a3,a4⟩:=f.hbase i (hb i (List.mem_filterMap.2 ⟨l',hl',hi⟩))
   exact fr3 i a3 a4 a1
 obtain⟨s4,i4,J4,a4,p4,x4⟩:=add_run F3.ps ht (by omega)
 refine⟨s4,i4,J4,fun n=>?_,p4,?_⟩
 ·have e4:=a4 n
  have p0:aLoad false false 1 (.ref P 2) s=some (.rs 65 3 Q 0 ((base++[l0]).length+1),s):=ld (o:=2) f.par (by decide) rfl (by decide)
  have ap:pubR (some (.agg l.row,s))=some (a,s1):=e1
  have ast:a.strip=a:=by have:=ht.cells.2.2.2;rw[this];rfl
  rw[callR en162 (ref1 ..),F162_eq,F162]
  simp only[↓sW,sL,p0,len50_rs,wsub1 (a:=(base++[l0]).length) (by omega),idx_top,ldq,ap,zero52,ast,store_new ht,ld2,take_rs,st2,ld3,e4]
 ·refine Ex.trans (J':=JJ P Q base l0) ⟨by omega,fun x hx hj=>?_,fun x hx=>.inl ?_⟩ x4
  ·unfold JJ at hj
   simp only[List.mem_cons,List.mem_append,Option.mem_toList,not_or]at hj
   exact fr3 x hx hj.2.2.2 hj.1
  ·unfold JJ at hx ⊢
   rw[ids_snoc]
   simp only[List.mem_cons,List.mem_append,Option.mem_toList]at hx ⊢
   rcases hx with k|k|k|k
   ·exact .inl k
   ·exact .inr (.inl k)
   ·exact .inr (.inr (.inl (.inl k)))
   ·exact .inr (.inr (.inl (.inr k)))
end ParF
end

section
namespace ParF
open Go Go.Abs Go.Proofs Pm
theorem node_inv {m k:Nat}{g:G}{ts ts':List Tok}{cs cs':List Tree}{b:Bool}(h:run m (.node k g) ts cs=some (b,ts',cs')):∃m' ds,m=m'+1∧run m' g ts []=some (b,ts',ds)∧cs'=cs++[.mk k [] ds]:=by
 obtain⟨m,rfl⟩:=run_pos h
 rw[run_node]at h
 obtain⟨⟨r1,t1,d1⟩,h1,h2⟩:=Option.bind_eq_some_iff.1 h
 simp only at h2
 split at h2
 ·cases h2;exact⟨m,d1,rfl,h1,rfl⟩
 ·cases h2
theorem wrap_inv {m k:Nat}{g:G}{ts ts':List Tok}{cs cs':List Tree}{b:Bool}(h:run m (.wrap k g) ts cs=some (b,ts',cs')):∃m' ini t ds,m=m'+1∧cs=ini++[t]∧run m' g ts [t]=some (b,ts',ds)∧cs'=ini++[.mk k [] ds]:=by
 obtain⟨m,rfl⟩:=run_pos h
 rw[run_wrap]at h
 obtain⟨t,h0,h⟩:=Option.bind_eq_some_iff.1 h
 obtain⟨⟨r1,t1,d1⟩,h1,h2⟩:=Option.bind_eq_some_iff.1 h
 simp only at h2
 split at h2
 ·cases h2;exact⟨m,cs.dropLast,t,d1,rfl,getLast_split h0,h1,rfl⟩
 ·cases h2
theorem seq_inv {m:Nat}{a b:G}{ts ts':List Tok}{cs cs':List Tree}{r:Bool}(h:run m (.seq a b) ts cs=some (r,ts',cs')):∃m' r1 t1 c1,m=m'+1∧run m' a ts cs=some (r1,t1,c1)∧run m' b t1 c1=some (r,ts',cs')∧szL c1≤szL cs':=by
 obtain⟨m,rfl⟩:=run_pos h
 rw[run_seq]at h
 obtain⟨⟨r1,t1,d1⟩,h1,h2⟩:=Option.bind_eq_some_iff.1 h
 exact⟨m,r1,t1,d1,rfl,h1,h2,runs_sz (runs_of _ _ _ _ _ _ _ h2)⟩
theorem ite_inv {m:Nat}{c:Cnd}{a b:G}{ts:List Tok}{cs:List Tree}{r:Bool×List Tok×List Tree}(h:run m (.ite c a b) ts cs=some r):∃m',m=m'+1∧((ev c ts=true∧run m' a ts cs=some r)∨(ev c ts=false∧run m' b ts cs=some r)):=by
 obtain⟨m,rfl⟩:=run_pos h
 rw[run_ite]at h
 refine⟨m,rfl,?_⟩
 split at h
 ·rename_i hc;exact .inl ⟨hc,h⟩
 ·rename_i hc;exact .inr ⟨bool_eq_false hc,h⟩
theorem whil_inv {m:Nat}{c:Cnd}{g:G}{ts ts':List Tok}{cs cs':List Tree}{r:Bool}(h:run m (.whil c g) ts cs=some (r,ts',cs')):∃m',m=m'+1∧((ev c ts=false∧r=false∧ts'=ts∧cs'=cs) ∨
  (ev c ts=true∧run m' g ts cs=some (true,ts',cs')∧r=true)∨(ev c ts=true∧∃t1 c1,run m' g ts cs=some (false,t1,c1)∧run m' (.whil c g) t1 c1=some (r,ts',cs')∧szL c1≤szL cs')):=by
 obtain⟨m,rfl⟩:=run_pos h
 rw[run_whil]at h
 refine⟨m,rfl,?_⟩
 split at h
 ·rename_i hc
  obtain⟨⟨r1,t1,d1⟩,h1,h2⟩:=Option.bind_eq_some_iff.1 h
  simp only at h2
  split at h2
  ·rename_i hb;subst hb;cases h2;exact .inr (.inl ⟨hc,h1,rfl⟩)
  ·rename_i hb;have hb:=bool_eq_false hb;subst hb;exact .inr (.inr ⟨hc,t1,d1,h1,h2,runs_sz (runs_of _ _ _ _ _ _ _ h2)⟩)
 ·rename_i hc;cases h;exact .inl ⟨bool_eq_false hc,rfl,rfl,rfl⟩
theorem prog_inv {m:Nat}{g a b:G}{ts ts':List Tok}{cs cs':List Tree}{r:Bool}(h:run m (.prog g a b) ts cs=some (r,ts',cs')):∃m' r1 t1 c1,m=m'+1∧run m' g ts cs=some (r1,t1,c1)∧szL c1≤szL cs' ∧
  ((t1.length=ts.length∧run m' a t1 c1=some (r,ts',cs'))∨(t1.length≠ts.length∧run m' b t1 c1=some (r,ts',cs'))):=by
 obtain⟨m,rfl⟩:=run_pos h
 rw[run_prog]at h
 obtain⟨⟨r1,t1,d1⟩,h1,h2⟩:=Option.bind_eq_some_iff.1 h
 simp only at h2
 split at h2
 ·rename_i hc;exact⟨m,r1,t1,d1,rfl,h1,runs_sz (runs_of _ _ _ _ _ _ _ h2),.inl ⟨hc,h2⟩⟩
 ·rename_i hc;exact⟨m,r1,t1,d1,rfl,h1,runs_sz (runs_of _ _ _ _ _ _ _ h2),.inr ⟨hc,h2⟩⟩
theorem bra_inv {m:Nat}{g a b:G}{ts ts':List Tok}{cs cs':List Tree}{r:Bool}(h:run m (.bra g a b) ts cs=some (r,ts',cs')):∃m' r1 t1 c1,m=m'+1∧run m' g ts cs=some (r1,t1,c1)∧szL c1≤szL cs' ∧
  ((r1=true∧run m' a t1 c1=some (r,ts',cs'))∨(r1=false∧run m' b t1 c1=some (r,ts',cs'))):=by
 obtain⟨m,rfl⟩:=run_pos h
 rw[run_bra]at h
 obtain⟨⟨r1,t1,d1⟩,h1,h2⟩:=Option.bind_eq_some_iff.1 h
 simp only at h2
 split at h2
 ·rename_i hc;exact⟨m,r1,t1,d1,rfl,h1,runs_sz (runs_of _ _ _ _ _ _ _ h2),.inl ⟨hc,h2⟩⟩
 ·rename_i hc;exact⟨m,r1,t1,d1,rfl,h1,runs_sz (runs_of _ _ _ _ _ _ _ h2),.inr ⟨bool_eq_false hc,h2⟩⟩
theorem call_inv {m f:Nat}{ts:List Tok}{cs:List Tree}{r:Bool×List Tok×List Tree}(h:run m (.call f) ts cs=some r):∃m',m=m'+1∧run m' (defs f) ts cs=some r:=by
 obtain⟨m,rfl⟩:=run_pos h
 exact⟨m,rfl,h⟩
theorem ret_inv {m:Nat}{b r:Bool}{ts ts':List Tok}{cs cs':List Tree}(h:run m (.ret b) ts cs=some (r,ts',cs')):r=b∧ts'=ts∧cs'=cs:=by
 obtain⟨m,rfl⟩:=run_pos h
 rw[run_ret]at h;cases h;exact⟨rfl,rfl,rfl⟩
theorem Ex.weak {s s':Heap}{J J':List Nat}(h:Ex s s' J J')(X:List Nat):Ex s s' (X++J) (X++J') :=
 ⟨h.len,fun x hx hj=>h.fr x hx fun e=>hj (List.mem_append_right _ e),fun x hx=>by
  rw[List.mem_append]at hx ⊢
  rcases hx with k|k
  ·exact .inl (.inl k)
  ·rcases h.sub x k with q|q
   ·exact .inl (.inr q)
   ·exact .inr q⟩
theorem node_run {ts:List Tok}{k:Nat}{P:Nat}{s:Heap}{rest rest':List Tok}{base:List Lv}{k0:Nat}{cs ds:List Tree}{J:List Nat}(X:List Nat)(h:PR ts P s rest base k0 cs J)(hb:base.length+(szL cs+(1+szL ds))<900000000){v:AV}(hv:v.strip=v)(n:Nat)
  (hg:∀s3 lv J3,PR ts P s3 rest (base++[lv]) k [] J3→Ex s s3 J J3→∃s4 J4 r,aCallV Tryz.prog (den C (n+2)) v [] s3=some (r,s4)∧PR ts P s4 rest' (base++[lv]) k ds J4∧Ex s3 s4 (X++J3) (X++J4)) :
  ∃s5 J5,aCall Tryz.prog (den C (n+3)) 104 [.ref P 0,I k,v] s=some (.tup [],s5)∧PR ts P s5 rest' base k0 (cs++[.mk k [] ds]) J5∧Ex s s5 (X++J) (X++J5):=by
 obtain⟨pos,i,rfl,h⟩:=h
 have hc:=len_le_sz cs
 obtain⟨tk,Q,s1,s2,s3,J3,p0,nQ,e1,e2,e3,p3,l3,f3,j3,hP⟩:=push_lv h (by rw[app_len];show base.length+1<_;omega) (by rw[app_len];show 0<_+1;omega) (l:=⟨k,[],none⟩) rfl nofun
 have x3:Ex s s3 J J3:=⟨l3,f3,fun x hx=>by
  rcases j3 x hx with k|k|k
  ·exact .inl k
  ·cases k
  ·exact .inr k⟩
 obtain⟨s4,J4,r,e4,p4,x4⟩:=hg s3 ⟨k0,cs,i⟩ J3 ⟨pos,none,rfl,p3⟩ x3
 obtain⟨pos4,i4,rfl,p4⟩:=p4
 obtain⟨s5,i5,J5,e5,p5,x5⟩:=finish_run p4 (by show cs.length+_<_;omega)
 refine⟨s5,J5,?_,⟨pos4,i5,rfl,p5⟩,((x3.weak X).trans x4).trans (x5.weak X)⟩
 have e5:=e5 n
 have q0:aLoad false false 1 (.ref P 2) s=some (.rs 65 3 Q 0 (base++[(⟨k0,cs,i⟩:Lv)]).length,s):=ld (o:=2) p0 (by decide) rfl (by decide)
 have e2:aStore 3 s1 (.ref s.length ((base++[(⟨k0,cs,i⟩:Lv)]).length*3)) (.agg [I k,.str [],.nils])=some s2:=e2
 rw[callR en104 (ref1 ..),F104_eq,F104]
 simp only[↓sW,sL,q0,build52_1 (I k) rfl rfl rfl,len50_rs,zero50,e1,idx_top,e2,strip_rs,e3,kStore_ref,appK_rs,d104_0 s.length P (by omega),hv,e4,e5]
end ParF
end

section
namespace ParF
open Go Go.Abs Go.Proofs Pm
theorem rsbuild {s:Heap}{a:AV}{t:Tree}(ht:IsT t a):aRsBuild Tryz.prog 63 1 [(0,a)] s=some (.rs 65 3 s.length 0 1,s++[(65,a.cells)]):=by
 obtain⟨c1,c2,c3,c4⟩:=ht.cells
 have hz:szOf Tryz.prog 65=some 3:=by kernel_rfl
 have hi:((Tryz.prog.info? 65).bind (·.zero)).map (·.cells.size)=some 3:=by kernel_rfl
 have hs:a.solid=true:=by rw[c4];rfl
 cases hz':(Tryz.prog.info? 65).bind (·.zero) with
 | none=>rw[hz']at hi;cases hi
 | some zv =>
  rw[hz']at hi
  simp only[Option.map_some,Option.some.injEq]at hi
  have hne:a.cells≠[]:=by intro e;rw[e]at c1;cases c1
  have e:aBuildSlice Tryz.prog 63 1 [(0,a)]=some (.sl 65 3 [a] .own):=by
   simp[aBuildSlice,under50,hz,hz',hi,inRow,hs,c1]
  have ec:cellsOf [a]=a.cells:=by show a.cells++[]=_;rw[List.append_nil]
  have hem:(cellsOf [a]).isEmpty=false:=by rw[ec];cases h:a.cells with
   | nil=>exact absurd h hne
   | cons x y=>rfl
  simp only[aRsBuild,newRs,e]
  rw[hem]
  simp only[Bool.false_eq_true,if_false,ec,c2]
  rfl
theorem build52_c (x y:AV)(hx:x.cells=[x])(hy:y.cells=[y])(sx:x.strip=x)(sy:y.strip=y)(ox:x.solid=true)(oy:y.solid=true):aBuild Tryz.prog 65 [(0,x),(2,y)]=some (.agg [x,.str [],y]):=by
 have hz:zeroOf Tryz.prog 65=some (.agg [I 0,.str [],.nils]):=by kernel_rfl
 have hu:(match Tryz.prog.underlying 65 with|some (.struct fs)=>placesOf Tryz.prog fs.toList|_=>none)=some [(0,1),(1,1),(2,1)]:=by kernel_rfl
 unfold aBuild
 split at hu
 ·rename_i fs h
  rw[hz,h]
  simp[hu,aFill,hx,hy,setL,sx,sy,ox,oy]
 ·cases hu
theorem wrap_run {ts:List Tok}{k:Nat}{P:Nat}{s:Heap}{rest rest':List Tok}{base:List Lv}{k0:Nat}{ini ds:List Tree}{t:Tree}{J:List Nat}(h:PR ts P s rest base k0 (ini++[t]) J)(hb:base.length+(szL ini+(1+szL ds))<900000000){v:AV}(hv:v.strip=v)(n:Nat)
  (hg:∀s3 lv J3,PR ts P s3 rest (base++[lv]) k [t] J3→Ex s s3 J J3→∃s4 J4 r,aCallV Tryz.prog (den C (n+2)) v [] s3=some (r,s4)∧PR ts P s4 rest' (base++[lv]) k ds J4∧Ex s3 s4 J3 J4) :
  ∃s5 J5,aCall Tryz.prog (den C (n+3)) 240 [.ref P 0,I k,v] s=some (.tup [],s5)∧PR ts P s5 rest' base k0 (ini++[.mk k [] ds]) J5∧Ex s s5 J J5:=by
 obtain⟨pos,i,rfl,h⟩:=h
 have hc:=len_le_sz ini
 obtain⟨tk,Q,junk,f,rfl⟩:=h.facts
 have hP:=glt f.par
 have hQ:=glt f.row
 -- the last child
 have hok:=f.ok
 obtain⟨id,rfl⟩:∃id,i=some id:=by
  cases i with
  | none=>have h0:ini++[t]=[]:=hok;simp at h0
  | some id=>exact⟨id,rfl⟩
 obtain⟨rows,cj,h1,h2,h3⟩:=hok
 obtain⟨r1,r2,rfl,l1,l2⟩:=IsL.split h2
 cases l2 with
 | cons _ a _ _ ht l3 =>
 cases l3 with
 | nil =>
 obtain⟨c1,c2,c3,c4⟩:=ht.cells
 obtain⟨d1,d2,d3,d4⟩:=l1.cells
 obtain⟨tP,tQ,tl⟩:=f.top id rfl
 rw[cellsOf_snoc]at h1
 have hil:(ini++[t]).length=ini.length+1:=by rw[app_len];rfl
 have ldc:aLoad false true 3 (.ref id (ini.length*3)) s=some (a,s):=by
  rw[ldA (o:=ini.length*3) h1 (by decide) (by rw[app_len,app_len];omega) (by decide)]
  have e:ini.length*3=(cellsOf r1).length:=by omega
  rw[List.append_assoc,e,List.drop_left,List.take_append_of_le_length (by omega),List.take_of_length_le (by omega),←c4]
 -- the heap with the child taken off
 have q1:(s++[(65,a.cells)])[Q]?=some (65,(base++[(⟨k0,ini++[t],some id⟩:Lv)]).flatMap Lv.row++junk):=(gapp_old hQ).trans f.row
 have hrl:=row_length (base++[(⟨k0,ini++[t],some id⟩:Lv)])
 rw[app_len]at hrl
 have st1:=ParF.st (s:=s++[(65,a.cells)]) (o:=base.length*3+2) (n:=1) (v:=.rs 65 3 id 0 ini.length) q1 (by decide) rfl rfl (by rw[app_len,hrl];show _≤3*(base.length+1)+_;omega)
 have hst':stCells (.rs 65 3 id 0 ini.length)=[AV.rs 65 3 id 0 ini.length]:=rfl
 rw[hst',row_set]at st1
 generalize hs2:(s++[(65,a.cells)]).set Q (65,base.flatMap Lv.row++[I (k0:Nat),.str [],.rs 65 3 id 0 ini.length]++junk)=s2 at st1
 have hs2':(s++[(65,a.cells)]).set Q (65,base.flatMap Lv.row++[I ((⟨k0,ini++[t],some id⟩:Lv).k),.str [],.rs 65 3 id 0 ini.length]++junk)=s2:=hs2
 have len2:s2.length=s.length+1:=by rw[←hs2,set_length,app_length]
 have fr2:∀x,x<s.length→x≠Q→s2[x]?=s[x]?:=fun x hx hne=>by rw[←hs2,gset_ne (Ne.symm hne),gapp_old hx]
 have g2:s2[s.length]?=some (65,a.cells):=by rw[←hs2,gset_ne (by omega),gapp_new]
 have p2:PS ts P s2 pos (base++[⟨k0,ini,some id⟩]) (JJ P Q base ⟨k0,ini++[t],some id⟩):=by
  refine Fs.ps (tk:=tk) (Q:=Q) (junk:=junk) (l:=⟨k0,ini,some id⟩) ⟨f.htk,?_,?_,f.ne,fun i hi=>?_,fun i hi=>?_,f.nd,⟨r1,a.cells++cj,?_,l1,?_⟩,fun l' hl'=>?_,f.pos,f.len⟩
  ·rw[fr2 P hP f.ne];exact f.par
  ·rw[←hs2,gset_eq q1,flat_snoc];rfl
  ·obtain⟨a1,a2,a3,a4⟩:=f.hbase i hi
   exact⟨a1,a2,by omega,a4⟩
  ·obtain⟨a1,a2,a3⟩:=f.top i hi
   exact⟨a1,a2,by omega⟩
  ·rw[fr2 id tl tQ,h1,List.append_assoc]
  ·intro e;have:=congrArg List.length e;rw[app_len,app_len,c1]at this;simp at this
  ·refine Lv.ok_frame (f.oks l' hl') fun i hi=>?_
   obtain⟨a1,a2,a3,a4⟩:=f.hbase i (List.mem_filterMap.2 ⟨l',hl',hi⟩)
   exact fr2 i a3 a2
 have p3:=p2.app [(65,a.cells)]
 have ok3:Lv.ok (s2++[(65,a.cells)]) ⟨k,[t],some s2.length⟩:=⟨[a],[],by rw[gapp_new];show _=some (65,(a.cells++[])++[]);rw[List.append_nil,List.append_nil],.cons _ _ _ _ ht .nil,by
  show (a.cells++[])++[]≠[]
  intro e
  have:=congrArg List.length e
  simp[c1]at this⟩
 obtain⟨tk',Q',s4,s5,s6,J6,pp,nQ,e1,e2,e3,p6,l6,f6,j6,hP6⟩:=push_lv p3 (by rw[app_len];show base.length+1<_;omega) (by rw[app_len];show 0<_+1;omega) ok3 (fun i hi=>by
  cases hi
  refine⟨fun hm=>Nat.lt_irrefl _ (p2.lt _ hm),by rw[app_length];omega⟩)
 have lA:(s2++[(65,a.cells)]).length=s.length+2:=by rw[app_length,len2]
 have x6:Ex s s6 (JJ P Q base ⟨k0,ini++[t],some id⟩) J6:=by
  refine⟨by omega,fun x hx hj=>?_,fun x hx=>?_⟩
  ·have nQ:x≠Q:=fun e=>hj (by rw[e];unfold JJ;simp)
   rw[f6 x (by omega) hj,gapp_old (by omega),fr2 x hx nQ]
  ·rcases j6 x hx with k|k|k
   ·exact .inl k
   ·cases k;exact .inr (by omega)
   ·exact .inr (by omega)
 obtain⟨s7,J7,r,e7,p7,x7⟩:=hg s6 ⟨k0,ini,some id⟩ J6 ⟨pos,some s2.length,rfl,p6⟩ x6
 obtain⟨pos7,i7,rfl,p7⟩:=p7
 obtain⟨s8,i8,J8,e8,p8,x8⟩:=finish_run p7 (by show ini.length+_<_;omega)
 refine⟨s8,J8,?_,⟨pos7,i8,rfl,p8⟩,(x6.trans x7).trans x8⟩
 have e8:=e8 n
 have q0:aLoad false false 1 (.ref P 2) s=some (.rs 65 3 Q 0 (base.length+1),s):=ld (o:=2) f.par (by decide) rfl (by decide)
 have qc:aLoad false false 1 (.ref Q (base.length*3+2)) s=some (.rs 65 3 id 0 (ini.length+1),s):=by
  rw[ld (n:=1) (o:=base.length*3+2) f.row (by decide) (row_at 2 (by decide)) (by decide),ch_strip,←hil];rfl
 have qc1:aLoad false false 1 (.ref Q (base.length*3+2)) (s++[(65,a.cells)])=some (.rs 65 3 id 0 (ini.length+1),s++[(65,a.cells)]):=by
  rw[ld (n:=1) (o:=base.length*3+2) q1 (by decide) (row_at 2 (by decide)) (by decide),ch_strip,←hil];rfl
 have pp2:s2[P]?=some (95,[tk',I pos,.rs 65 3 Q' 0 (base.length+1)]):=by
  rw[gapp_old (by omega),app_len]at pp;exact pp
 have q2:aLoad false false 1 (.ref P 2) s2=some (.rs 65 3 Q' 0 (base.length+1),s2):=ld (o:=2) pp2 (by decide) rfl (by decide)
 have q8:aLoad false true 3 (.ref s.length 0) s2=some (a,s2):=by
  rw[ldA (o:=0) g2 (by decide) (by omega) (by decide),List.drop_zero,List.take_of_length_le (by omega),←c4]
 have bl:(base++[(⟨k0,ini,some id⟩:Lv)]).length=base.length+1:=by rw[app_len];rfl
 rw[bl]at e1 e2 e3
 have e2:aStore 3 s4 (.ref (s2++[(65,a.cells)]).length ((base.length+1)*3)) (.agg [I k,.str [],.rs 65 3 s2.length 0 1])=some s5:=e2
 have nP2:(s2++[(65,a.cells)]).length≠P:=by omega
 have it:=idx_top 65 (s2++[(65,a.cells)]).length (base.length+1)
 rw[callR en240 (ref1 ..),F240_eq,F240]
 simp only[↓sW,sL,q0,qc,qc1,q2,q8,build52_c (I k) (.rs 65 3 s2.length 0 1) rfl rfl rfl rfl rfl rfl,rsbuild ht,len50_rs,wsub1 (a:=base.length) (by omega),wsub1 (a:=ini.length) (by omega),zero50,zero52,store_new ht,ldc,take_rs,st1,hs2',e1,idx_top,it,e2,strip_rs,e3,kStore_ref,appK_rs,d240_0,d240_4 (s2++[(65,a.cells)]).length P nP2,hv,e7,e8]
end ParF
end

section
namespace ParF
open Go Go.Abs Go.Proofs Pm
theorem kind_eq (a b:Nat):((a:Int)==(b:Int))=(a==b):=by rw[Bool.eq_iff_iff];simp;omega
theorem eof_rd (ts:List Tok):Rd ts 49 (fun P=>[.ref P 0]) fun r=>.bool (ev rEof r):=by
 intro n hn P s pos tk st h
 obtain⟨n,rfl⟩:∃j,n=j+1:=⟨n-1,by omega⟩
 obtain⟨t,e1⟩:=peek_run h (n:=n) (by omega)
 refine⟨t,?_⟩
 have k:(((pk (ts.drop pos)).1:Int)==100)=((pk (ts.drop pos)).1==100):=kind_eq _ 100
 show aCall Tryz.prog (den C (n+1)) 49 [.ref P 0] s=_
 rw[callR en49 (ref1 ..),F49_eq,F49]
 unfold tokA at e1
 simp only[↓sW,sL,e1,field80_0,k]
 rfl
theorem ident_rd (ts:List Tok):Rd ts 201 (fun P=>[.ref P 0]) fun r=>.bool (ev rId r):=by
 intro n hn P s pos tk st h
 obtain⟨n,rfl⟩:∃j,n=j+1:=⟨n-1,by omega⟩
 obtain⟨t,e1⟩:=peek_run h (n:=n) (by omega)
 refine⟨t,?_⟩
 have k:(((pk (ts.drop pos)).1:Int)==103)=((pk (ts.drop pos)).1==103):=kind_eq _ 103
 show aCall Tryz.prog (den C (n+1)) 201 [.ref P 0] s=_
 rw[callR en201 (ref1 ..),F201_eq,F201]
 unfold tokA at e1
 simp only[↓sW,sL,e1,field80_0,k]
 rfl
theorem put_sim (ts:List Tok)(m:Nat):Sim ts m (.put 46) vd (fnF 211 fun P=>[.ref P 0])∧Sim ts m (.put 108) vd (fnF 204 fun P=>[.ref P 0])∧Sim ts m (.put 0) vd (fnF 197 fun P=>[.ref P 0]):=by
 have key:∀{k n:Nat} {P:Nat} {s:Heap} {rest:List Tok} {base:List Lv} {k0:Nat} {cs:List Tree} {J:List Nat} {b:Bool} {rest':List Tok} {cs':List Tree},PR ts P s rest base k0 cs J→run m (.put k) rest cs=some (b,rest',cs')→base.length+szL cs'<900000000 →
   ∃s' J',(∀n,aCall Tryz.prog (den C (n+1)) 173 [.ref P 0,.agg [I k,.str [],.nils]] s=some (.tup [],s'))∧PR ts P s' rest' base k0 cs' J'∧Ex s s' J J':=by
  intro k n P s rest base k0 cs J b rest' cs' h hr hb
  obtain⟨m,rfl⟩:=run_pos hr
  rw[run_put]at hr
  simp only[Option.some.injEq,Prod.mk.injEq]at hr
  obtain⟨rfl,rfl,rfl⟩:=hr
  obtain⟨pos,i,rfl,h⟩:=h
  have hc:=len_le_sz (cs++[.mk k [] []])
  rw[app_len]at hc
  obtain⟨s',i',J',e,p,x⟩:=add_run h (t:=.mk k [] []) (.mk _ _ _ _ .nil) (by show cs.length+_<_;omega)
  exact⟨s',J',e,⟨pos,i',rfl,p⟩,x⟩
 refine⟨fun n hn P s rest base k0 cs J b rest' cs' h hr hb=>?_,fun n hn P s rest base k0 cs J b rest' cs' h hr hb=>?_,fun n hn P s rest base k0 cs J b rest' cs' h hr hb=>?_⟩
 ·obtain⟨n,rfl⟩:∃j,n=j+2:=⟨n-2,by omega⟩
  obtain⟨s',J',e,p,x⟩:=key (n:=0) h hr hb
  refine⟨s',J',?_,p,x⟩
  have e:aCall Tryz.prog (den C (n+1)) 173 [.ref P 0,.agg [.int .i64 46,.str [],.nils]] s=some (.tup [],s'):=e n
  have b:=build52_1 (I 46) rfl rfl rfl
  show aCall Tryz.prog (den C (n+2)) 211 [.ref P 0] s=_
  rw[callR en211 (ref1 ..),F211_eq,F211]
  simp only[↓sW,sL,b,e]
 ·obtain⟨n,rfl⟩:∃j,n=j+2:=⟨n-2,by omega⟩
  obtain⟨s',J',e,p,x⟩:=key (n:=0) h hr hb
  refine⟨s',J',?_,p,x⟩
  have e:aCall Tryz.prog (den C (n+1)) 173 [.ref P 0,.agg [.int .i64 108,.str [],.nils]] s=some (.tup [],s'):=e n
  have b:=build52_1 (I 108) rfl rfl rfl
  show aCall Tryz.prog (den C (n+2)) 204 [.ref P 0] s=_
  rw[callR en204 (ref1 ..),F204_eq,F204]
  simp only[↓sW,sL,b,e]
 ·obtain⟨n,rfl⟩:∃j,n=j+2:=⟨n-2,by omega⟩
  obtain⟨s',J',e,p,x⟩:=key (n:=0) h hr hb
  refine⟨s',J',?_,p,x⟩
  have e:aCall Tryz.prog (den C (n+1)) 173 [.ref P 0,.agg [.int .i64 0,.str [],.nils]] s=some (.tup [],s'):=e n
  have b:=build52_1 (I 0) rfl rfl rfl
  show aCall Tryz.prog (den C (n+2)) 197 [.ref P 0] s=_
  rw[callR en197 (ref1 ..),F197_eq,F197]
  simp only[↓sW,sL,b,e]
theorem acc_yes {ts:List Tok}{m:Nat}(xs:List Bytes)(hl:xs.length<50){n:Nat}(hn:m*20+ts.length+101≤n){P:Nat}{s:Heap}{rest:List Tok}{base:List Lv}{k:Nat}{cs:List Tree}{J:List Nat}{b:Bool}{rest':List Tok}{cs':List Tree}
  (h:PR ts P s rest base k cs J)(hc:ev (rAt xs) rest=true)(hr:run m .bump rest cs=some (b,rest',cs'))(hb:base.length+szL cs'<900000000) :
  ∃s' J',aCall Tryz.prog (den C n) 106 [.ref P 0,strs xs] s=some (.bool true,s')∧PR ts P s' rest' base k cs' J'∧Ex s s' J J':=by
 obtain⟨n,rfl⟩:∃j,n=j+1:=⟨n-1,by omega⟩
 obtain⟨s1,e1,p1,x1⟩:=(at_rd (ts:=ts) xs hl).use (n:=n) (by omega) h
 obtain⟨s2,J2,e2,p2,x2⟩:=bump_sim ts m n (by omega) P s1 rest base k cs J b rest' cs' p1 hr hb
 refine⟨s2,J2,?_,p2,x1.trans x2⟩
 have e1:aCall Tryz.prog (den C n) 100 [.ref P 0,strs xs] s=some (.bool true,s1):=by rw[←hc];exact e1
 have e2:aCall Tryz.prog (den C n) 107 [.ref P 0] s1=some (.tup [],s2):=e2
 have hs:(strs xs).strip=strs xs:=rfl
 rw[callR en106 (ref1 ..),F106_eq,F106]
 simp only[↓sW,sL,hs,e1,e2]
theorem acc_no {ts:List Tok}(xs:List Bytes)(hl:xs.length<50){n:Nat}(hn:ts.length+81≤n){P:Nat}{s:Heap}{rest:List Tok}{base:List Lv}{k:Nat}{cs:List Tree}{J:List Nat}
  (h:PR ts P s rest base k cs J)(hc:ev (rAt xs) rest=false) :
  ∃s',aCall Tryz.prog (den C n) 106 [.ref P 0,strs xs] s=some (.bool false,s')∧PR ts P s' rest base k cs J∧Ex s s' J J:=by
 obtain⟨n,rfl⟩:∃j,n=j+1:=⟨n-1,by omega⟩
 obtain⟨s1,e1,p1,x1⟩:=(at_rd (ts:=ts) xs hl).use (n:=n) (by omega) h
 refine⟨s1,?_,p1,x1⟩
 have e1:aCall Tryz.prog (den C n) 100 [.ref P 0,strs xs] s=some (.bool false,s1):=by rw[←hc];exact e1
 have hs:(strs xs).strip=strs xs:=rfl
 rw[callR en106 (ref1 ..),F106_eq,F106]
 simp only[↓sW,sL,hs,e1]
theorem own1 (a:Bytes):(AV.sl 9 1 [.str a] .own).strip=strs [a]:=rfl
theorem own2 (a b:Bytes):(AV.sl 9 1 [.str a,.str b] .own).strip=strs [a,b]:=rfl
theorem expect_sim (ts:List Tok)(m:Nat)(w:Bytes):Sim ts m (gExpect w) vd (fnF 169 fun P=>[.ref P 0,.str w]):=by
 intro n hn P s rest base k cs J b rest' cs' h hr hb
 obtain⟨m,rfl,hr1⟩:=ite_inv hr
 obtain⟨n,rfl⟩:∃j,n=j+1:=⟨n-1,by omega⟩
 have b1:=bs1 w
 rcases hr1 with ⟨hc,hr1⟩|⟨hc,hr1⟩
 ·obtain⟨s1,J1,e1,p1,x1⟩:=acc_yes [w] (by decide:1<50) (n:=n) (by omega) h hc hr1 hb
  refine⟨s1,J1,?_,p1,x1⟩
  show aCall Tryz.prog (den C (n+1)) 169 [.ref P 0,.str w] s=_
  rw[callR en169 (ref1 ..),F169_eq,F169]
  simp only[↓sW,sL,b1,own1,e1]
 ·obtain⟨s1,e1,p1,x1⟩:=acc_no [w] (by decide:1<50) (n:=n) (by omega) h hc
  obtain⟨s2,J2,e2,p2,x2⟩:=(put_sim ts m).2.1 n (by omega) P s1 rest base k cs J b rest' cs' p1 hr1 hb
  refine⟨s2,J2,?_,p2,x1.trans x2⟩
  have e2:aCall Tryz.prog (den C n) 204 [.ref P 0] s1=some (.tup [],s2):=e2
  show aCall Tryz.prog (den C (n+1)) 169 [.ref P 0,.str w] s=_
  rw[callR en169 (ref1 ..),F169_eq,F169]
  simp only[↓sW,sL,b1,own1,e1,e2]
theorem ident_sim (ts:List Tok)(m:Nat):Sim ts m gIdent vd (fnF 166 fun P=>[.ref P 0]):=by
 intro n hn P s rest base k cs J b rest' cs' h hr hb
 obtain⟨m,rfl,hr1⟩:=ite_inv hr
 obtain⟨n,rfl⟩:∃j,n=j+1:=⟨n-1,by omega⟩
 obtain⟨s1,e1,p1,x1⟩:=(ident_rd ts).use (n:=n) (by omega) h
 rcases hr1 with ⟨hc,hr1⟩|⟨hc,hr1⟩
 ·obtain⟨s2,J2,e2,p2,x2⟩:=bump_sim ts m n (by omega) P s1 rest base k cs J b rest' cs' p1 hr1 hb
  refine⟨s2,J2,?_,p2,x1.trans x2⟩
  have e2:aCall Tryz.prog (den C n) 107 [.ref P 0] s1=some (.tup [],s2):=e2
  show aCall Tryz.prog (den C (n+1)) 166 [.ref P 0] s=_
  rw[callR en166 (ref1 ..),F166_eq,F166]
  simp only[↓sW,sL,e1,hc,e2]
 ·obtain⟨s2,J2,e2,p2,x2⟩:=(put_sim ts m).2.1 n (by omega) P s1 rest base k cs J b rest' cs' p1 hr1 hb
  refine⟨s2,J2,?_,p2,x1.trans x2⟩
  have e2:aCall Tryz.prog (den C n) 204 [.ref P 0] s1=some (.tup [],s2):=e2
  show aCall Tryz.prog (den C (n+1)) 166 [.ref P 0] s=_
  rw[callR en166 (ref1 ..),F166_eq,F166]
  simp only[↓sW,sL,e1,hc,e2]
theorem opt_sim {ts:List Tok}{m:Nat}(w:Bytes){g:G}{rv:Bool→AV}{v:Nat→AV}(hv:∀P,(v P).strip=v P)(hg:∀m'<m,Sim ts m' g rv (cvF v)):Sim ts m (gOpt w g) vd (fnF 196 fun P=>[.ref P 0,.str w,v P]):=by
 intro n hn P s rest base k cs J b rest' cs' h hr hb
 obtain⟨m,rfl,hr1⟩:=ite_inv hr
 obtain⟨n,rfl⟩:∃j,n=j+1:=⟨n-1,by omega⟩
 have b1:=bs1 w
 rcases hr1 with ⟨hc,hr1⟩|⟨hc,hr1⟩
 ·obtain⟨m,b0,t1,c1,rfl,ha,hr2,hz⟩:=seq_inv hr1
  obtain⟨s1,J1,e1,p1,x1⟩:=acc_yes [w] (by decide:1<50) (n:=n) (by omega) h hc ha (by omega)
  obtain⟨s2,J2,e2,p2,x2⟩:=hg m (by omega) n (by omega) P s1 t1 base k c1 J1 b rest' cs' p1 hr2 hb
  refine⟨s2,J2,?_,p2,x1.trans x2⟩
  have e2:aCallV Tryz.prog (den C n) (v P) [] s1=some (rv b,s2):=e2
  show aCall Tryz.prog (den C (n+1)) 196 [.ref P 0,.str w,v P] s=_
  rw[callR en196 (ref1 ..),F196_eq,F196]
  simp only[↓sW,sL,b1,own1,e1,hv,e2]
 ·obtain⟨s1,e1,p1,x1⟩:=acc_no [w] (by decide:1<50) (n:=n) (by omega) h hc
  obtain⟨s2,J2,e2,p2,x2⟩:=(put_sim ts m).2.2 n (by omega) P s1 rest base k cs J b rest' cs' p1 hr1 hb
  refine⟨s2,J2,?_,p2,x1.trans x2⟩
  have e2:aCall Tryz.prog (den C n) 197 [.ref P 0] s1=some (.tup [],s2):=e2
  show aCall Tryz.prog (den C (n+1)) 196 [.ref P 0,.str w,v P] s=_
  rw[callR en196 (ref1 ..),F196_eq,F196]
  simp only[↓sW,sL,b1,own1,e1,hv,e2]
theorem unexpected_sim (ts:List Tok)(m:Nat):Sim ts m (.node 46 .bump) vd (fnF 233 fun P=>[.ref P 0]):=by
 intro n hn P s rest base k cs J b rest' cs' h hr hb
 obtain⟨m',hm⟩:=run_pos hr
 obtain⟨n,rfl⟩:∃j,n=j+1:=⟨n-1,by omega⟩
 obtain⟨m2,ds,e,hr1,hcs⟩:=node_inv hr
 obtain⟨n,rfl⟩:∃j,n=j+3:=⟨n-3,by omega⟩
 rw[hcs,szL_append,szL_one,szT_mk]at hb
 obtain⟨s1,J1,e1,p1,x1⟩:=node_run (k:=46) [] h hb (v:=.fn 107 [.ref P 0] []) rfl n fun s3 lv J3 p3 x3=>by
  obtain⟨s4,J4,e4,p4,x4⟩:=bump_sim ts m2 (n+2) (by omega) P s3 rest (base++[lv]) 46 [] J3 b rest' ds p3 hr1 (by rw[app_len];show base.length+1+_<_;omega)
  exact⟨s4,J4,_,e4,p4,x4⟩
 refine⟨s1,J1,?_,by rw[hcs];exact p1,x1⟩
 have e1:aCall Tryz.prog (den C (n+3)) 104 [.ref P 0,.int .i64 46,.fn 107 [.ref P 0] []] s=some (.tup [],s1):=e1
 show aCall Tryz.prog (den C (n+3+1)) 233 [.ref P 0] s=_
 rw[callR en233 (ref1 ..),F233_eq,F233]
 simp only[↓sW,sL,e1]
end ParF
end

section
namespace ParF
open Go Go.Abs Go.Proofs Pm
def itemText:Bytes:=[117,115,101,32,112,117,98,32,102,110,32,115,116,114,117,99,116,32,101,110,117,109,32,116,114,97,105,116,32,105,109,112,108,32,99,111,110,115,116,32,109,97,99,114,111]
def kindText:Bytes:=[117,115,101,32,102,110,32,115,116,114,117,99,116,32,101,110,117,109,32,116,114,97,105,116,32,105,109,112,108,32,99,111,110,115,116,32,109,97,99,114,111]
theorem fields_item:Lib.fields itemText=itemKws:=by kernel_rfl
theorem fields_kind:Lib.fields kindText=kindKws:=by kernel_rfl
theorem fields_run (a:Bytes)(h1:a.length<1000)(h2:(a.all fun b=>b.toNat<128)=true):AN 1 130 [.str a] (strs (Lib.fields a)) :=
 .intro (by kernel_rfl) rfl (by rw[noRef_sl,strs_noRef]) fun n _=>⟨[],by rw[den_ext (e:=eFields) (by rfl)];simp only[eFields];rw[if_pos ⟨h1,h2⟩]⟩
theorem itemKeywords_run:AN 2 161 [] (strs itemKws):=by
 refine .intro en161 rfl (by rw[noRef_sl,strs_noRef]) fun n hn=>⟨[],?_⟩
 have q:=(fields_run itemText (by decide) (by decide)).of (n:=n) (by omega) []
 rw[fields_item]at q
 have hs:(strs itemKws).strip=strs itemKws:=rfl
 have q:aCall Tryz.prog (den C n) 130 [.str [117,115,101,32,112,117,98,32,102,110,32,115,116,114,117,99,116,32,101,110,117,109,32,116,114,97,105,116,32,105,109,112,108,32,99,111,110,115,116,32,109,97,99,114,111]] []=some (strs itemKws,[]):=q
 rw[F161_eq,F161]
 simp only[↓sW,sL,q]
theorem kindOf_eq (w:Bytes):(findI kindKws w 0<0∧kindOf w=0)∨(∃k,findI kindKws w 0=(k:Nat)∧k<8∧kindOf w=2+k):=by
 unfold findI kindOf
 rw[List.drop_zero]
 cases h:kindKws.idxOf? w with
 | none=>exact .inl ⟨by decide,rfl⟩
 | some k =>
  refine .inr ⟨k,by simp,?_,rfl⟩
  have:k<kindKws.length:=by
   have:=List.findIdx?_eq_some_iff_getElem.1 (by rw[List.idxOf?]at h;exact h)
   exact this.1
  exact this
theorem itemKind_run (w:Bytes):AN 70 102 [.str w] (I (kindOf w)):=by
 refine .intro (N:=69) en102 rfl rfl fun n hn=>⟨[],?_⟩
 have q:=(fields_run kindText (by decide) (by decide)).of (n:=n) (by omega) []
 rw[fields_kind]at q
 have q:aCall Tryz.prog (den C n) 130 [.str [117,115,101,32,102,110,32,115,116,114,117,99,116,32,101,110,117,109,32,116,114,97,105,116,32,105,109,112,108,32,99,111,110,115,116,32,109,97,99,114,111]] []=some (strs kindKws,[]):=q
 have q2:=(index_run kindKws w (by decide)).of (n:=n) (by omega) []
 have hs:(strs kindKws).strip=strs kindKws:=rfl
 rw[F102_eq,F102]
 rcases kindOf_eq w with ⟨h1,h2⟩|⟨k,h1,h2,h3⟩
 ·rw[h2]
  simp only[↓sW,sL,q,hs,q2,h1,decide_true]
  rfl
 ·rw[h3]
  rw[h1]at q2
  have h4:¬((k:Int)<0):=by omega
  have h5:IntKind.i64.wrap (2+(k:Int))=((2+k:Nat):Int):=by rw[wrap64]<;>omega
  simp only[↓sW,sL,q,hs,q2,h4,decide_false,h5]
def Rd' (d:Nat)(ts:List Tok)(f:FuncId)(args:Nat→List AV)(v:List Tok→AV):Prop:=∀n,ts.length+d≤n→∀P s pos tk st,Rdy ts P s pos tk st→∃t,aCall Tryz.prog (den C n) f (args P) s=some (v (ts.drop pos),s++t)
theorem Rd'.use {d:Nat}{ts:List Tok}{f:FuncId}{args:Nat→List AV}{v:List Tok→AV}(q:Rd' d ts f args v){n:Nat}(hn:ts.length+d≤n){P:Nat}{s:Heap}{rest:List Tok}{base:List Lv}{k:Nat}{cs:List Tree}{J:List Nat}
  (h:PR ts P s rest base k cs J):∃s',aCall Tryz.prog (den C n) f (args P) s=some (v rest,s')∧PR ts P s' rest base k cs J∧Ex s s' J J:=by
 obtain⟨pos,i,rfl,h⟩:=h
 obtain⟨tk,st,r⟩:=h.rdy
 obtain⟨t,e⟩:=q n hn P s pos tk st r
 exact⟨_,e,⟨pos,i,rfl,h.app t⟩,.app s t J⟩
theorem item_rd (ts:List Tok):Rd' 90 ts 232 (fun P=>[.ref P 0]) fun r=>.bool (isItem (pk r)):=by
 intro n hn P s pos tk st h
 obtain⟨n,rfl⟩:∃j,n=j+1:=⟨n-1,by omega⟩
 have e0:=itemKeywords_run.of (n:=n) (by omega) s
 obtain⟨t1,e1⟩:=at_rd (ts:=ts) itemKws (by decide) n (by omega) P s pos tk st h
 obtain⟨t2,e2⟩:=at_rd (ts:=ts) [wFn] (by decide) n (by omega) P (s++t1) pos tk st (h.app t1)
 dsimp only at e1 e2
 have b1:aBuildSlice Tryz.prog 38 1 [(0,.str [102,110])]=_:=bs1 [102,110]
 have hs:(strs itemKws).strip=strs itemKws:=rfl
 have o1:(AV.sl 9 1 [.str [102,110]] .own).strip=strs [wFn]:=rfl
 show ∃t,aCall Tryz.prog (den C (n+1)) 232 [.ref P 0] s=some (.bool (isItem (pk (ts.drop pos))),s++t)
 unfold isItem
 cases h1:atT itemKws (pk (ts.drop pos)) with
 | false =>
  rw[h1]at e1
  refine⟨t1,?_⟩
  rw[callR en232 (ref1 ..),F232_eq,F232]
  simp only[↓sW,sL,e0,hs,e1,Bool.false_and]
 | true =>
  rw[h1]at e1
  refine⟨t1++t2,?_⟩
  rw[callR en232 (ref1 ..),F232_eq,F232,←List.append_assoc]
  simp only[↓sW,sL,e0,hs,e1,b1,o1,e2,Bool.true_and]
theorem arm_rd (ts:List Tok):Rd' 90 ts 308 (fun P=>[.ref P 0]) fun r=>.bool ((pk r).1==103 || (pk r).1==105 || atT [wTrue,wFalse,wMut] (pk r)):=by
 intro n hn P s pos tk st h
 obtain⟨n,rfl⟩:∃j,n=j+1:=⟨n-1,by omega⟩
 obtain⟨t1,e1⟩:=ident_rd ts n (by omega) P s pos tk st h
 obtain⟨t2,e2⟩:=peek_run (h.app t1) (n:=n) (by omega)
 obtain⟨t3,e3⟩:=at_rd (ts:=ts) [wTrue,wFalse,wMut] (by decide) n (by omega) P (s++t1++t2) pos tk st ((h.app t1).app t2)
 dsimp only at e1 e2 e3
 have b3:aBuildSlice Tryz.prog 38 3 [(0,.str [116,114,117,101]),(1,.str [102,97,108,115,101]),(2,.str [109,117,116])]=_:=bs3 [116,114,117,101] [102,97,108,115,101] [109,117,116]
 have o3:(AV.sl 9 1 [.str [116,114,117,101],.str [102,97,108,115,101],.str [109,117,116]] .own).strip=strs [wTrue,wFalse,wMut]:=rfl
 show ∃t,aCall Tryz.prog (den C (n+1)) 308 [.ref P 0] s=some (.bool ((pk (ts.drop pos)).1==103 || (pk (ts.drop pos)).1==105 || atT [wTrue,wFalse,wMut] (pk (ts.drop pos))),s++t)
 have hid:ev rId (ts.drop pos)=((pk (ts.drop pos)).1==103):=rfl
 unfold tokA at e2
 have k:(((pk (ts.drop pos)).1:Int)==105)=((pk (ts.drop pos)).1==105):=kind_eq _ 105
 generalize pk (ts.drop pos)=x at *
 cases h1:(x.1==103) with
 | true =>
  rw[hid,h1]at e1
  refine⟨t1,?_⟩
  rw[callR en308 (ref1 ..),F308_eq,F308]
  simp only[↓sW,sL,e1,Bool.true_or]
 | false =>
  rw[hid,h1]at e1
  cases h2:(x.1==105) with
  | true =>
   refine⟨t1++t2,?_⟩
   rw[callR en308 (ref1 ..),F308_eq,F308,←List.append_assoc]
   simp only[↓sW,sL,e1,e2,field80_0,k,h2,Bool.true_or,Bool.false_or]
  | false =>
   refine⟨t1++t2++t3,?_⟩
   rw[callR en308 (ref1 ..),F308_eq,F308,←List.append_assoc,←List.append_assoc]
   simp only[↓sW,sL,e1,e2,field80_0,k,h2,b3,o3,e3,Bool.false_or]
theorem look_run {ts:List Tok}{P:Nat}{s:Heap}{pos:Nat}{tk st0:AV}(h:Rdy ts P s pos tk st0){n:Nat}(hn:ts.length+130≤n) :
  ∃t P' pos' tk' st',aCall Tryz.prog (den C n) 101 [.ref P 0] s=some (.ref P' 0,s++t)∧Rdy ts P' (s++t) pos' tk' st'∧ts.drop pos'=la (ts.drop pos):=by
 obtain⟨n,rfl⟩:∃j,n=j+1:=⟨n-1,by omega⟩
 have hb:aBuild Tryz.prog 65 []=some (.agg [I 0,.str [],.nils]):=by kernel_rfl
 have rb:=rsbuild (s:=s) (a:=.agg [I 0,.str [],.nils]) (t:=.mk 0 [] []) (.mk _ _ _ _ .nil)
 have rb:aRsBuild Tryz.prog 63 1 [(0,.agg [I 0,.str [],.nils])] s=some (.rs 65 3 s.length 0 1,s++[(65,[I 0,.str [],.nils])]):=rb
 have h2:(s++[(65,[I 0,.str [],.nils])]++[(95,[tk,I pos,.rs 65 3 s.length 0 1])])[s.length+1]?=some (95,[tk,I pos,.rs 65 3 s.length 0 1]):=by
  have:=gapp_new (s:=s++[(65,[I 0,.str [],.nils])]) (x:=(95,[tk,I pos,.rs 65 3 s.length 0 1]))
  rw[app_length]at this;exact this
 have ps:PS ts (s.length+1) (s++[(65,[I 0,.str [],.nils])]++[(95,[tk,I pos,.rs 65 3 s.length 0 1])]) pos ([]++[⟨0,[],none⟩]) (JJ (s.length+1) s.length [] ⟨0,[],none⟩):=by
  refine Fs.ps (tk:=tk) (junk:=[]) ⟨h.htk,h2,?_,by omega,nofun,nofun,List.nodup_nil,rfl,nofun,h.pos,h.len⟩
  rw[gapp_old (by rw[app_length];omega),gapp_new];rfl
 obtain⟨s',J',e1,⟨pos',i',ed,p'⟩,x'⟩:=bump_sim ts 1 n (by omega) (s.length+1) _ (ts.drop pos) [] 0 [] _ false (la (ts.drop pos)) _ ⟨pos,none,rfl,ps⟩ rfl (by
  have e:=runs_sz (Runs.bump (ts.drop pos) [])
  have hl:szL ([]++(((ts.drop pos).takeWhile triv).map leaf++((skp (ts.drop pos)).take 1).map leaf))≤ts.length:=by
   rw[List.nil_append,←List.map_append,szL_leaf]
   have:=congrArg List.length (bump_split (ts.drop pos))
   rw[app_len,List.length_drop]at this
   omega
  have:=h.len
  show 0+_<_
  omega)
 obtain⟨tk',st',r'⟩:=p'.rdy
 have hfr:∀x,x<s.length→s'[x]?=s[x]?:=fun x hx=>by
  rw[x'.fr x (by rw[app_length,app_length];omega) (by unfold JJ;simp;omega),gapp_old (by rw[app_length];omega),gapp_old hx]
 have hlen:s.length≤s'.length:=by have:=x'.len;rw[app_length,app_length]at this;omega
 have hs':s'=s++s'.drop s.length:=by
  apply List.ext_getElem?
  intro x
  by_cases hx:x<s.length
  ·rw[hfr x hx,List.getElem?_append_left hx]
  ·rw[List.getElem?_append_right (by omega),List.getElem?_drop]
   congr 1;omega
 refine⟨s'.drop s.length,s.length+1,pos',tk',st',?_,by rw[←hs'];exact r',ed.symm⟩
 rw[←hs']
 have e1:aCall Tryz.prog (den C n) 107 [.ref (s.length+1) 0] (s++[(65,[I 0,.str [],.nils])]++[(95,[tk,I pos,.rs 65 3 s.length 0 1])])=some (.tup [],s'):=e1
 have b128:aBuild Tryz.prog 95 [(0,tk),(1,I pos),(2,.rs 65 3 s.length 0 1)]=some (.agg [tk,I pos,.rs 65 3 s.length 0 1]):=by
  have hz:zeroOf Tryz.prog 95=some (.agg [.nils,I 0,.nils]):=by kernel_rfl
  have hu:(match Tryz.prog.underlying 95 with|some (.struct fs)=>placesOf Tryz.prog fs.toList|_=>none)=some [(0,1),(1,1),(2,1)]:=by kernel_rfl
  have c1:tk.cells=[tk]:=by rcases h.htk with ⟨e,_⟩|⟨T,e⟩<;>rw[e]<;>rfl
  have c2:tk.solid=true:=by rcases h.htk with ⟨e,_⟩|⟨T,e⟩<;>rw[e]<;>rfl
  have c3:=toks_strip h.htk
  have c4:(AV.rs 65 3 s.length 0 1).cells=[.rs 65 3 s.length 0 1]:=rfl
  have c5:(AV.rs 65 3 s.length 0 1).solid=true:=rfl
  unfold aBuild
  split at hu
  ·rename_i fs hh
   rw[hz,hh]
   simp[hu,aFill,setL,c1,c2,c3,c4,c5,strip_rs,cells_int]
  ·cases hu
 have bx:aBox true 95 (.agg [tk,I pos,.rs 65 3 s.length 0 1]) (s++[(65,[I 0,.str [],.nils])])=some (.ref (s.length+1) 0,s++[(65,[I 0,.str [],.nils])]++[(95,[tk,I pos,.rs 65 3 s.length 0 1])]):=by
  have:=toks_strip h.htk
  simp[aBox,this,strip_rs]
 rw[callR en101 (ref1 ..),F101_eq,F101]
 simp only[↓sW,sL,h.ld0,h.ld1,hb,rb,b128,bx,d101_1,e1]
end ParF
end

section
namespace ParF
open Go Go.Abs Go.Proofs Pm
theorem PR.rdy {ts:List Tok}{P:Nat}{s:Heap}{rest:List Tok}{base:List Lv}{k:Nat}{cs:List Tree}{J:List Nat}(h:PR ts P s rest base k cs J):∃pos tk st,Rdy ts P s pos tk st∧rest=ts.drop pos∧rest.length+pos=ts.length:=by
 obtain⟨pos,i,rfl,h⟩:=h
 obtain⟨tk,st,r⟩:=h.rdy
 exact⟨pos,tk,st,r,rfl,by rw[List.length_drop];have:=h.pos;omega⟩
theorem upds_get:∀(l:List (Nat×AV))(e:Env)(i:Nat),l.all (fun p=>p.1 != i)=true→upds e l i=e i
 | [],_,_,_=>rfl
 | (j,v)::l,e,i,h=>by
  simp only[List.all_cons,Bool.and_eq_true,bne_iff_ne,ne_eq]at h
  rw[upds_at,upds_get l _ i h.2,upd_at,if_neg (fun x=>h.1 x.symm)]
def lBody (cl:Bytes)(el:G):G:=.prog el (.node 46 .bump) (.ite (rAt [cl]) nop (gExpect wComma))
theorem expect_false {m:Nat}{w:Bytes}{ts ts':List Tok}{cs cs':List Tree}{b:Bool}(h:run m (gExpect w) ts cs=some (b,ts',cs')):b=false:=by
 obtain⟨m,rfl,h|h⟩:=ite_inv h
 ·obtain⟨m,rfl⟩:=run_pos h.2;have h:=h.2;rw[run_bump]at h;cases h;rfl
 ·obtain⟨m,rfl⟩:=run_pos h.2;have h:=h.2;rw[run_put]at h;cases h;rfl
theorem body_false {m:Nat}{cl:Bytes}{el:G}{ts ts':List Tok}{cs cs':List Tree}{b:Bool}(h:run m (lBody cl el) ts cs=some (b,ts',cs')):b=false:=by
 obtain⟨m,r1,t1,c1,rfl,h1,_,h|h⟩:=prog_inv h
 ·have h:=h.2
  cases m with
  | zero=>rw[Pm.run_zero]at h;cases h
  | succ m =>
   rw[run_node]at h
   obtain⟨⟨r1,t1,d1⟩,h1,h2⟩:=Option.bind_eq_some_iff.1 h
   obtain⟨m,rfl⟩:=run_pos h1
   rw[run_bump]at h1
   cases h1
   simp at h2
   exact h2.1.symm▸rfl
 ·obtain⟨m,rfl,h|h⟩:=ite_inv h.2
  ·exact(ret_inv h.2).1
  ·exact expect_false h.2
theorem list_loop {ts:List Tok}{P:Nat}{cl:Bytes}{el:G}{rv:Bool→AV}{v:Nat→AV}(hv:∀P,(v P).strip=v P){n:Nat}:∀(m:Nat),(∀m'<m,Sim ts m' el rv (cvF v))→m*20+ts.length+110≤n →
  ∀s rest base k cs J b t1 c1 m2 b' rest' cs',PR ts P s rest base k cs J→run m (.whil (gMore cl) (lBody cl el)) rest cs=some (b,t1,c1)→m2*20+ts.length+100≤n→run m2 (gExpect cl) t1 c1=some (b',rest',cs')→base.length+szL cs'<900000000 →
  ∃s' J',(∀M n' e,m<M→e 0=.ref P 0→e 1=.str cl→e 2=v P→aLoop (F199_L0 (den C n) n') M e s=some (.tup [],s'))∧PR ts P s' rest' base k cs' J'∧Ex s s' J J':=by
 intro m
 induction m with
 | zero=>intro _ _ s rest base k cs J b t1 c1 m2 b' rest' cs' h hr;rw[Pm.run_zero]at hr;cases hr
 | succ m ih =>
  intro hg hn s rest base k cs J b t1 c1 m2 b' rest' cs' h hr hm2 hr2 hb
  have hn0:m*20+ts.length+110≤n:=by omega
  have hg0:∀m'<m,Sim ts m' el rv (cvF v):=fun m' hm'=>hg m' (Nat.lt_succ_of_lt hm')
  have b1:=bs1 cl
  have bc:aBuildSlice Tryz.prog 38 1 [(0,.str [44])]=_:=bs1 [44]
  obtain⟨sa,ea,pa,xa⟩:=(at_rd (ts:=ts) [cl] (by decide:1<50)).use (n:=n) (by omega) h
  obtain⟨sb,eb,pb,xb⟩:=(eof_rd ts).use (n:=n) (by omega) pa
  obtain⟨sc,ec,pc,xc⟩:=(item_rd ts).use (n:=n) (by omega) pb
  obtain⟨m',hm',hw⟩:=whil_inv hr
  cases hm'
  have hev:ev (gMore cl) rest=(!atT [cl] (pk rest)&&!(ev rEof rest)&&!isItem (pk rest)):=rfl
  rcases hw with ⟨hc,rfl,rfl,rfl⟩|⟨hc,hr1,rfl⟩|⟨hc,t2,c2,hr1,hr3,hz⟩
  ·-- the end
   have fin:∀sx,PR ts P sx t1 base k c1 J→Ex s sx J J→∃s' J',aCall Tryz.prog (den C n) 169 [.ref P 0,.str cl] sx=some (.tup [],s')∧PR ts P s' rest' base k cs' J'∧Ex s s' J J':=by
    intro sx px xx
    obtain⟨s',J',e,p,x⟩:=expect_sim ts m2 cl n (by omega) P sx t1 base k c1 J b' rest' cs' px hr2 hb
    exact⟨s',J',e,p,xx.trans x⟩
   rw[hc]at hev
   cases h1:atT [cl] (pk t1) with
   | true =>
    rw[h1]at ea
    obtain⟨s',J',e,p,x⟩:=fin sa pa xa
    refine⟨s',J',fun M n' en hM he0 he1 he2=>?_,p,x⟩
    obtain⟨M,rfl⟩:∃j,M=j+1:=⟨M-1,by omega⟩
    rw[aLoop,F199_L0]
    simp only[↓sW,sL,he0,he1,he2,b1,own1,ea,e]
   | false =>
    rw[h1]at ea hev
    cases h2:ev rEof t1 with
    | true =>
     rw[h2]at eb
     obtain⟨s',J',e,p,x⟩:=fin sb pb (xa.trans xb)
     refine⟨s',J',fun M n' en hM he0 he1 he2=>?_,p,x⟩
     obtain⟨M,rfl⟩:∃j,M=j+1:=⟨M-1,by omega⟩
     rw[aLoop,F199_L0]
     simp only[↓sW,sL,he0,he1,he2,b1,own1,ea,eb,e]
    | false =>
     rw[h2]at eb hev
     have h3:isItem (pk t1)=true:=by simpa using hev
     rw[h3]at ec
     obtain⟨s',J',e,p,x⟩:=fin sc pc ((xa.trans xb).trans xc)
     refine⟨s',J',fun M n' en hM he0 he1 he2=>?_,p,x⟩
     obtain⟨M,rfl⟩:∃j,M=j+1:=⟨M-1,by omega⟩
     rw[aLoop,F199_L0]
     simp only[↓sW,sL,he0,he1,he2,b1,own1,ea,eb,ec,e]
  ·exact absurd (body_false hr1) (by decide)
  ·-- a round
   rw[hc]at hev
   simp only[Bool.true_eq,Bool.and_eq_true,Bool.not_eq_true']at hev
   obtain⟨⟨h1,h2⟩,h3⟩:=hev
   rw[h1]at ea
   rw[h2]at eb
   rw[h3]at ec
   have hzz:szL c1≤szL cs':=runs_sz (runs_of _ _ _ _ _ _ _ hr2)
   obtain⟨pos3,tk3,st3,r3,hd3,hl3⟩:=pc.rdy
   obtain⟨m1,b4,t4,c4,hmm,hr4,hz4,hrest⟩:=prog_inv hr1
   have hm1:m1<m+1:=by omega
   have hn1:m1*20+ts.length+100≤n:=by omega
   obtain⟨s4,J4,e4,p4,x4⟩:=hg m1 hm1 n hn1 P sc rest base k cs J b4 t4 c4 pc hr4 (by omega)
   have e4:aCallV Tryz.prog (den C n) (v P) [] sc=some (rv b4,s4):=e4
   obtain⟨pos4,tk4,st4,r4,hd4,hl4⟩:=p4.rdy
   rcases hrest with ⟨hl,hr5⟩|⟨hl,hr5⟩
   ·obtain⟨s5,J5,e5,p5,x5⟩:=unexpected_sim ts m1 n hn1 P s4 t4 base k c4 J4 false t2 c2 p4 hr5 (by omega)
    have e5:aCall Tryz.prog (den C n) 233 [.ref P 0] s4=some (.tup [],s5):=e5
    obtain⟨s6,J6,e6,p6,x6⟩:=ih hg0 hn0 s5 t2 base k c2 J5 b t1 c1 m2 b' rest' cs' p5 hr3 hm2 hr2 hb
    refine⟨s6,J6,fun M n' en hM he0 he1 he2=>?_,p6,(((xa.trans xb).trans xc).trans x4).trans (x5.trans x6)⟩
    obtain⟨M,rfl⟩:∃j,M=j+1:=⟨M-1,by omega⟩
    have hpe:((pos4:Int)==(pos3:Int))=true:=by simp;omega
    rw[aLoop,F199_L0]
    simp only[↓sW,sL,he0,he1,he2,b1,own1,ea,eb,ec,r3.ld1,hv,e4,r4.ld1,hpe,e5]
    exact e6 _ _ _ (by omega) ((upds_get _ _ _ rfl).trans he0) ((upds_get _ _ _ rfl).trans he1) ((upds_get _ _ _ rfl).trans he2)
   ·have hpe:((pos4:Int)==(pos3:Int))=false:=by simp;omega
    obtain⟨m0,rfl,hr6|hr6⟩:=ite_inv hr5
    ·obtain⟨hc6,hr6⟩:=hr6
     obtain⟨-,rfl,rfl⟩:=ret_inv hr6
     obtain⟨s5,e5,p5,x5⟩:=(at_rd (ts:=ts) [cl] (by decide:1<50)).use (n:=n) (by omega) p4
     have e5:aCall Tryz.prog (den C n) 100 [.ref P 0,strs [cl]] s4=some (.bool true,s5):=by rw[←hc6];exact e5
     obtain⟨s6,J6,e6,p6,x6⟩:=ih hg0 hn0 s5 t2 base k c2 J4 b t1 c1 m2 b' rest' cs' p5 hr3 hm2 hr2 hb
     refine⟨s6,J6,fun M n' en hM he0 he1 he2=>?_,p6,(((xa.trans xb).trans xc).trans x4).trans (x5.trans x6)⟩
     obtain⟨M,rfl⟩:∃j,M=j+1:=⟨M-1,by omega⟩
     rw[aLoop,F199_L0]
     simp only[↓sW,sL,he0,he1,he2,b1,own1,ea,eb,ec,r3.ld1,hv,e4,r4.ld1,hpe,e5]
     exact e6 _ _ _ (by omega) ((upds_get _ _ _ rfl).trans he0) ((upds_get _ _ _ rfl).trans he1) ((upds_get _ _ _ rfl).trans he2)
    ·obtain⟨hc6,hr6⟩:=hr6
     obtain⟨s5,e5,p5,x5⟩:=(at_rd (ts:=ts) [cl] (by decide:1<50)).use (n:=n) (by omega) p4
     have e5:aCall Tryz.prog (den C n) 100 [.ref P 0,strs [cl]] s4=some (.bool false,s5):=by rw[←hc6];exact e5
     obtain⟨s7,J7,e7,p7,x7⟩:=expect_sim ts m0 wComma n (by omega) P s5 t4 base k c4 J4 false t2 c2 p5 hr6 (by omega)
     have e7:aCall Tryz.prog (den C n) 169 [.ref P 0,.str [44]] s5=some (.tup [],s7):=e7
     obtain⟨s6,J6,e6,p6,x6⟩:=ih hg0 hn0 s7 t2 base k c2 J7 b t1 c1 m2 b' rest' cs' p7 hr3 hm2 hr2 hb
     refine⟨s6,J6,fun M n' en hM he0 he1 he2=>?_,p6,(((xa.trans xb).trans xc).trans x4).trans ((x5.trans x7).trans x6)⟩
     obtain⟨M,rfl⟩:∃j,M=j+1:=⟨M-1,by omega⟩
     rw[aLoop,F199_L0]
     simp only[↓sW,sL,he0,he1,he2,b1,own1,ea,eb,ec,r3.ld1,hv,e4,r4.ld1,hpe,e5,e7]
     exact e6 _ _ _ (by omega) ((upds_get _ _ _ rfl).trans he0) ((upds_get _ _ _ rfl).trans he1) ((upds_get _ _ _ rfl).trans he2)
theorem call_sim {ts:List Tok}{m f:Nat}{rv:Bool→AV}{F:Nat→Nat→Heap→Option (AV×Heap)}(h:∀k<m,Sim ts k (defs f) rv F):Sim ts m (.call f) rv F:=by
 intro n hn P s rest base k cs J b rest' cs' hp hr hb
 obtain⟨m',hm,hr⟩:=call_inv hr
 exact h m' (by omega) n (by omega) P s rest base k cs J b rest' cs' hp hr hb
theorem box1 (i o:Nat)(l:List AV):noRefL (.box [.ref i o] 0::l)=false:=by rw[noRefL_cons];simp[AV.noRef,noRefL]
theorem aBox_ref (t i o:Nat)(s:Heap):aBox false t (.ref i o) s=some (.box [.ref i o] 0,s):=rfl
theorem aBox_str (t:Nat)(a:Bytes)(s:Heap):aBox false t (.str a) s=some (.box [.str a] 0,s):=rfl
theorem aBox_bool (t:Nat)(a:Bool)(s:Heap):aBox false t (.bool a) s=some (.box [.bool a] 0,s):=rfl
theorem aBox_int (t:Nat)(a:Int)(s:Heap):aBox false t (I a) s=some (.box [I a] 0,s):=rfl
abbrev pb (P:Nat):AV:=.box [.ref P 0] 0
structure AllS (ts:List Tok)(m:Nat):Prop where
 ty:Sim ts m (.call 0) vd (fnF 170 fun P=>[.ref P 0])
 bl:Sim ts m (.call 1) vd (fnF 198 fun P=>[.ref P 0])
 st:Sim ts m (.call 2) bv (fnF 231 fun P=>[.ref P 0])
 pr:Sim ts m (.call 4) vd (fnF 267 fun P=>[.ref P 0])
 pa:Sim ts m (.call 5) vd (fnF 288 fun P=>[.ref P 0])
 ix:Sim ts m (.call 6) vd (fnF 292 fun P=>[.ref P 0])
 ex:Sim ts m (.call 10) vd (fnF 171 fun P=>[.ref P 0])
 un:Sim ts m (.call 15) vd (fnF 238 fun P=>[.ref P 0])
 bi:∀l:Nat,l≤5→Sim ts m (.call (10+l)) vd (fnF 212 fun P=>[.ref P 0,I l])
end ParF
end

section
namespace ParF
open Go Go.Abs Go.Proofs Pm
def valF:G→Bool
 | .ret b=>!b
 | .bump|.put _|.insN=>true
 | .seq _ b=>valF b
 | .node _ g=>valF g
 | .wrap _ g=>valF g
 | .ite _ a b=>valF a&&valF b
 | .bra _ a b=>valF a&&valF b
 | .prog _ a b=>valF a&&valF b
 | .stm _ b=>valF b
 | .whil _ g=>valF g
 | .call _=>false
theorem val_false:∀{m:Nat}{g:G}{ts ts':List Tok}{cs cs':List Tree}{b:Bool},valF g=true→run m g ts cs=some (b,ts',cs')→b=false:=by
 have key:∀{g:G} {ts ts':List Tok} {cs cs':List Tree} {b:Bool},Runs g ts cs b ts' cs'→valF g=true→b=false:=by
  intro g ts ts' cs cs' b h
  induction h with
  | ret b ts cs=>intro h;simpa[valF] using h
  | bump ts cs=>intro _;rfl
  | put k ts cs=>intro _;rfl
  | insN ts cs t=>intro _;rfl
  | seq h1 h2 i1 i2=>exact i2
  | node cs hk h i=>exact i
  | wrap cs hk h i=>exact i
  | ite1 hc h i=>intro k;simp only[valF,Bool.and_eq_true]at k;exact i k.1
  | ite2 hc h i=>intro k;simp only[valF,Bool.and_eq_true]at k;exact i k.2
  | bra1 h1 h2 i1 i2=>intro k;simp only[valF,Bool.and_eq_true]at k;exact i2 k.1
  | bra2 h1 h2 i1 i2=>intro k;simp only[valF,Bool.and_eq_true]at k;exact i2 k.2
  | prog1 h1 hl h2 i1 i2=>intro k;simp only[valF,Bool.and_eq_true]at k;exact i2 k.1
  | prog2 h1 hl h2 i1 i2=>intro k;simp only[valF,Bool.and_eq_true]at k;exact i2 k.2
  | stm1 h1 hl ht h2 i1 i2=>intro _;exact i2 rfl
  | stm2 h1 hl h2 i1 i2=>exact i2
  | whil0 hc=>intro _;rfl
  | whil1 hc h i=>exact i
  | whil2 hc h h2 i1 i2=>exact i2
  | call h i=>intro k;cases k
 intro m g ts ts' cs cs' b hv h
 exact key (runs_of _ _ _ _ _ _ _ h) hv
def SimD (d:Nat)(ts:List Tok)(m:Nat)(g:G)(rv:Bool→AV)(F:Nat→Nat→Heap→Option (AV×Heap)):Prop :=
 ∀n,m*20+ts.length+100≤n+d→∀P s rest base k cs J b rest' cs',PR ts P s rest base k cs J→run m g rest cs=some (b,rest',cs')→base.length+szL cs'<900000000 →
  ∃s' J',F n P s=some (rv b,s')∧PR ts P s' rest' base k cs' J'∧Ex s s' J J'
theorem node_simD {ts:List Tok}{m k:Nat}{g:G}{rv:Bool→AV}{v:Nat→AV}(hv:∀P,(v P).strip=v P)(hg:∀m'<m,Sim ts m' g rv (cvF v)):SimD 8 ts m (.node k g) vd (fnF 104 fun P=>[.ref P 0,I k,v P]):=by
 intro n hn P s rest base k0 cs J b rest' cs' h hr hb
 obtain⟨m1,ds,hm,hr1,rfl⟩:=node_inv hr
 obtain⟨n,rfl⟩:∃j,n=j+3:=⟨n-3,by omega⟩
 rw[szL_append,szL_one,szT_mk]at hb
 exact node_run [] h hb (hv P) n fun s3 lv J3 p3 x3=>by
  obtain⟨s4,J4,e4,p4,x4⟩:=hg m1 (by omega) (n+2) (by omega) P s3 rest (base++[lv]) k [] J3 b rest' ds p3 hr1 (by rw[app_len];show base.length+1+_<_;omega)
  exact⟨s4,J4,_,e4,p4,x4⟩
theorem wrap_simD {ts:List Tok}{m k:Nat}{g:G}{rv:Bool→AV}{v:Nat→AV}(hv:∀P,(v P).strip=v P)(hg:∀m'<m,Sim ts m' g rv (cvF v)):SimD 8 ts m (.wrap k g) vd (fnF 240 fun P=>[.ref P 0,I k,v P]):=by
 intro n hn P s rest base k0 cs J b rest' cs' h hr hb
 obtain⟨m1,ini,t,ds,hm,rfl,hr1,rfl⟩:=wrap_inv hr
 obtain⟨n,rfl⟩:∃j,n=j+3:=⟨n-3,by omega⟩
 rw[szL_append,szL_one,szT_mk]at hb
 exact wrap_run h hb (hv P) n fun s3 lv J3 p3 x3=>by
  obtain⟨s4,J4,e4,p4,x4⟩:=hg m1 (by omega) (n+2) (by omega) P s3 rest (base++[lv]) k [t] J3 b rest' ds p3 hr1 (by rw[app_len];show base.length+1+_<_;omega)
  exact⟨s4,J4,_,e4,p4,x4⟩
theorem list_simD {ts:List Tok}{m:Nat}(cl:Bytes){el:G}{rv:Bool→AV}{v:Nat→AV}(hv:∀P,(v P).strip=v P)(hg:∀m'<m,Sim ts m' el rv (cvF v)):SimD 8 ts m (gList cl el) vd (fnF 199 fun P=>[.ref P 0,.str cl,v P]):=by
 intro n hn P s rest base k cs J b rest' cs' h hr hb
 obtain⟨m1,b1,t1,c1,hm,hr1,hr2,hz⟩:=seq_inv hr
 obtain⟨n,rfl⟩:∃j,n=j+1:=⟨n-1,by omega⟩
 obtain⟨s1,J1,e1,p1,x1⟩:=list_loop hv (n:=n) m1 (fun m' hm'=>hg m' (by omega)) (by omega) s rest base k cs J b1 t1 c1 m1 b rest' cs' h hr1 (by omega) hr2 hb
 refine⟨s1,J1,?_,p1,x1⟩
 show aCall Tryz.prog (den C (n+1)) 199 [.ref P 0,.str cl,v P] s=_
 rw[callR en199 (ref1 ..),F199_eq,F199]
 exact e1 _ _ _ (by omega) rfl rfl rfl
theorem argEnv_0 (a:AV)(l:List AV):argEnv (a::l) 0=a:=rfl
theorem argEnv_1 (a b:AV)(l:List AV):argEnv (a::b::l) 1=b:=rfl
def SimU (ts:List Tok)(m:Nat)(g:G)(rv:Bool→AV)(F:Nat→Nat→Heap→Option (AV×Heap)):Prop :=
 ∀n,m*20+ts.length+115≤n→∀P s rest base k cs J b rest' cs',PR ts P s rest base k cs J→run m g rest cs=some (b,rest',cs')→base.length+szL cs'<900000000 →
  ∃s' J',F n P s=some (rv b,s')∧PR ts P s' rest' base k cs' J'∧Ex s s' J J'
end ParF
end

section
namespace ParF
open Go Go.Abs Go.Proofs Pm
theorem peek_cell {ts:List Tok}{n:Nat}(hn:ts.length+20≤n){P:Nat}{s:Heap}{rest:List Tok}{base:List Lv}{k:Nat}{cs:List Tree}{J:List Nat}(h:PR ts P s rest base k cs J) :
  ∃sp s2 L,aCall Tryz.prog (den C n) 99 [.ref P 0] s=some (tokA (pk rest),sp)∧aStore 2 (sp++[(53,[I 0,.str []])]) (.ref sp.length 0) (tokA (pk rest))=some s2∧PR ts P s2 rest base k cs J∧Ex s s2 J J ∧
   s2[L]?=some (53,[I (pk rest).1,.str (pk rest).2])∧L<s2.length∧L∉J∧L=sp.length:=by
 have h':=h
 obtain⟨pos,i,rfl,h⟩:=h
 obtain⟨tk,st,r⟩:=h.rdy
 obtain⟨t,e⟩:=peek_run r (n:=n) (by omega)
 have sto:aStore 2 (s++t++[(53,[I 0,.str []])]) (.ref (s++t).length 0) (tokA (pk (ts.drop pos)))=some (s++t++[(53,[I (pk (ts.drop pos)).1,.str (pk (ts.drop pos)).2])]):=by
  rw[ParF.st (o:=0) (n:=2) (v:=tokA (pk (ts.drop pos))) gapp_new (by decide) rfl rfl (by show 0+2≤2;omega),set_end];rfl
 refine⟨s++t,_,(s++t).length,e,sto,(h'.app t).app _,((Ex.app s t J).trans (Ex.app _ _ J)),gapp_new,by rw[app_length];omega,fun hm=>?_,rfl⟩
 have:=h.lt _ hm
 rw[app_len]at this
 omega
theorem look_at {ts:List Tok}(xs:List Bytes)(hl:xs.length<50){n:Nat}(hn:ts.length+130≤n){P:Nat}{s:Heap}{rest:List Tok}{base:List Lv}{k:Nat}{cs:List Tree}{J:List Nat}(h:PR ts P s rest base k cs J) :
  ∃s1 P1 s2,aCall Tryz.prog (den C n) 101 [.ref P 0] s=some (.ref P1 0,s1)∧aCall Tryz.prog (den C n) 100 [.ref P1 0,strs xs] s1=some (.bool (atT xs (pk (la rest))),s2)∧PR ts P s2 rest base k cs J∧Ex s s2 J J:=by
 have h':=h
 obtain⟨pos,i,rfl,h⟩:=h
 obtain⟨tk,st,r⟩:=h.rdy
 obtain⟨t,P1,pos1,tk1,st1,e1,r1,d1⟩:=look_run r (n:=n) (by omega)
 obtain⟨t2,e2⟩:=at_rd (ts:=ts) xs hl n (by omega) P1 (s++t) pos1 tk1 st1 r1
 dsimp only at e2
 rw[d1]at e2
 exact⟨_,P1,_,e1,e2,(h'.app t).app t2,(Ex.app s t J).trans (Ex.app _ _ J)⟩
theorem look_id {ts:List Tok}{n:Nat}(hn:ts.length+130≤n){P:Nat}{s:Heap}{rest:List Tok}{base:List Lv}{k:Nat}{cs:List Tree}{J:List Nat}(h:PR ts P s rest base k cs J) :
  ∃s1 P1 s2,aCall Tryz.prog (den C n) 101 [.ref P 0] s=some (.ref P1 0,s1)∧aCall Tryz.prog (den C n) 201 [.ref P1 0] s1=some (.bool ((pk (la rest)).1==103),s2)∧PR ts P s2 rest base k cs J∧Ex s s2 J J:=by
 have h':=h
 obtain⟨pos,i,rfl,h⟩:=h
 obtain⟨tk,st,r⟩:=h.rdy
 obtain⟨t,P1,pos1,tk1,st1,e1,r1,d1⟩:=look_run r (n:=n) (by omega)
 obtain⟨t2,e2⟩:=ident_rd ts n (by omega) P1 (s++t) pos1 tk1 st1 r1
 dsimp only at e2
 rw[d1]at e2
 exact⟨_,P1,_,e1,e2,(h'.app t).app t2,(Ex.app s t J).trans (Ex.app _ _ J)⟩
theorem look_post {ts:List Tok}{n:Nat}(hn:ts.length+130≤n){P:Nat}{s:Heap}{rest:List Tok}{base:List Lv}{k:Nat}{cs:List Tree}{J:List Nat}(h:PR ts P s rest base k cs J) :
  ∃s1 P1 s2 s3 P2 s4,aCall Tryz.prog (den C n) 101 [.ref P 0] s=some (.ref P1 0,s1)∧aCall Tryz.prog (den C n) 201 [.ref P1 0] s1=some (.bool ((pk (la rest)).1==103),s2) ∧
   aCall Tryz.prog (den C n) 101 [.ref P1 0] s2=some (.ref P2 0,s3)∧aCall Tryz.prog (den C n) 100 [.ref P2 0,strs [wLPar]] s3=some (.bool (atT [wLPar] (pk (la (la rest)))),s4)∧PR ts P s4 rest base k cs J∧Ex s s4 J J:=by
 have h':=h
 obtain⟨pos,i,rfl,h⟩:=h
 obtain⟨tk,st,r⟩:=h.rdy
 obtain⟨t,P1,pos1,tk1,st1,e1,r1,d1⟩:=look_run r (n:=n) (by omega)
 obtain⟨t2,e2⟩:=ident_rd ts n (by omega) P1 (s++t) pos1 tk1 st1 r1
 obtain⟨t3,P2,pos2,tk2,st2,e3,r2,d2⟩:=look_run (r1.app t2) (n:=n) (by omega)
 obtain⟨t4,e4⟩:=at_rd (ts:=ts) [wLPar] (by decide) n (by omega) P2 (s++t++t2++t3) pos2 tk2 st2 r2
 dsimp only at e2 e4
 rw[d1]at e2 d2
 rw[d2]at e4
 exact⟨_,P1,_,_,P2,_,e1,e2,e3,e4,(((h'.app t).app t2).app t3).app t4,(((Ex.app s t J).trans (Ex.app _ _ J)).trans (Ex.app _ _ J)).trans (Ex.app _ _ J)⟩
theorem bops_run (l:Nat)(hl:l≤4):AN 1 239 [I l] (strs (binOps l)):=by
 refine .intro (N:=0) en239 rfl (by rw[noRef_sl,strs_noRef]) fun n _=>⟨[],?_⟩
 rw[F239_eq]
 match l with
 | 0=>rfl
 | 1=>rfl
 | 2=>rfl
 | 3=>rfl
 | 4=>rfl
 | n+5=>omega
end ParF
end
