/- AstH, AstI, AstJ, AstK, AstS, AstL -/
import Derived.Test.YtnhnmigafkodfaaGreatDoorG
import Derived.Test.YtnhnmigafkodfaaGreatDoorP
import Derived.Test.YtnhnmigafkodfaaGreatDoorC
import Derived.Sort.AssemblyPlain
set_option linter.all false
set_option maxRecDepth 100000
set_option maxHeartbeats 2000000

section
namespace ParF
open Go Go.Abs Go.Proofs Pm AstF
theorem IsNL.at:∀{cs:List Nd}{rows:List AV},IsNL cs rows→∀{i:Nat}{t:Nd},cs[i]?=some t→∃a,rows[i]?=some a∧IsN t a
 | _,_,.nil,i,t,h=>by simp at h
 | _,_,.cons t a cs rows h h',0,t',e=>by
  simp only[List.getElem?_cons_zero,Option.some.injEq]at e
  subst e;exact⟨a,rfl,h⟩
 | _,_,.cons t a cs rows h h',i+1,t',e=>by
  rw[List.getElem?_cons_succ]at e
  obtain⟨b,h1,h2⟩:=IsNL.at h' e
  exact⟨b,by rw[List.getElem?_cons_succ,h1],h2⟩
theorem under25:Tryz.prog.underlying 25=some (.slice 27):=by kernel_rfl
theorem sz27:szOf Tryz.prog 27=some 7:=by kernel_rfl
theorem idx25 {rows:List AV}{i:Nat}{a:AV}{f:Flag}(h:rows[i]?=some a):aIndexAddr Tryz.prog 25 (.sl 27 7 rows f) (I i)=some (.box a.cells 0):=by
 simp[aIndexAddr,under25,sz27,h]
theorem len25 (rows:List AV)(f:Flag):aLen Tryz.prog 25 (.sl 27 7 rows f)=some (I rows.length):=by simp[aLen,under25]
theorem len25_nil:aLen Tryz.prog 25 .nils=some (I 0):=by simp[aLen,under25]
theorem IsNC.facts {cs:List Nd}{ch:AV}(h:IsNC cs ch):aLen Tryz.prog 25 ch=some (I cs.length)∧∀{i:Nat}{t:Nd},cs[i]?=some t→∃a,aIndexAddr Tryz.prog 25 ch (I i)=some (.box a.cells 0)∧IsN t a:=by
 cases h with
 | nil=>exact⟨len25_nil,fun e=>by simp at e⟩
 | sl cs rows h =>
  refine⟨by rw[len25,h.length],fun e=>?_⟩
  obtain⟨a,h1,h2⟩:=h.at e
  exact⟨a,idx25 h1,h2⟩
theorem zero27:aAlloc Tryz.prog 27=fun s=>some (.ref s.length 0,s++[(27,[I 0,I 0,.str [],I 0,I 0,I 0,.nils])]):=by
 have h:zeroOf Tryz.prog 27=some (.agg [I 0,I 0,.str [],I 0,I 0,I 0,.nils]):=by kernel_rfl
 funext s
 simp[aAlloc,h]
theorem st7 {s:Heap}{i:Nat}{cs:List AV}(h:s[i]?=some (27,cs))(hc:cs.length=7){a:AV}(h1:a.cells.length=7)(h2:a.cells.map AV.strip=a.cells)(h4:a=.agg a.cells):aStore 7 s (.ref i 0) a=some (s.set i (27,a.cells)):=by
 have hsol:a.solid=true:=by rw[h4];rfl
 have hst:stCells a=a.cells:=by rw[h4];exact h2
 rw[ParF.st (n:=7) (o:=0) (v:=a) h (by decide) hsol h1 (by omega),hst]
 have:=setL_end [] a.cells cs (by omega)
 rw[List.nil_append,List.nil_append]at this
 rw[show setL cs 0 a.cells=a.cells from this]
theorem ld7 {s:Heap}{i:Nat}{a:AV}(h:s[i]?=some (27,a.cells))(h1:a.cells.length=7)(h4:a=.agg a.cells):aLoad false true 7 (.ref i 0) s=some (a,s):=by
 rw[ldA (o:=0) h (by decide) (by omega) (by decide),List.drop_zero,List.take_of_length_le (by omega),←h4]
theorem box7 {a:AV}(s:Heap)(h1:a.cells.length=7)(h4:a=.agg a.cells):aLoad false true 7 (.box a.cells 0) s=some (a,s):=by
 rw[aLoad_agg _ _ _ _ _ (by omega),List.drop_zero,List.take_of_length_le (by omega),←h4]
def finD (k:Int)(h:Hd):List Dg:=if k=46 then[⟨if h.s=max h.e h.s then 1 else 2,h.s,max h.e h.s⟩] else[]
theorem finN_ds (src:Bytes)(k:Int)(h:Hd)(ns:List Nd)(d:List Dg):finN src k h ns d=((finN src k h ns []).1,d++finD k h):=by
 unfold finN finD
 by_cases c1:k=60
 ·subst c1;simp
 ·by_cases c2:k=46
  ·subst c2;simp
  ·simp[c1,c2]
def hend (h:Hd):Hd:=⟨h.v,h.x,h.s,max h.e h.s,h.ns⟩
theorem Ex.fresh {s s':Heap}(J:List Nat)(hl:s.length≤s'.length)(fr:∀x,x<s.length→s'[x]?=s[x]?):Ex s s' J J:=⟨hl,fun x hx _=>fr x hx,fun x hx=>.inl hx⟩
theorem BS.fresh {src:Bytes}{B:Nat}{s s':Heap}{off:Nat}{ds:List Dg}{q:Option Nat}(h:BS src B s off ds q)(fr:∀x,x<s.length→s'[x]?=s[x]?):BS src B s' off ds q:=h.frame fun x hx=>fr x (h.lt x hx)
end ParF
end

section
namespace ParF
open Go Go.Abs Go.Proofs Pm AstF
abbrev zrow7:List AV:=[I 0,I 0,.str [],I 0,I 0,I 0,.nils]
theorem info27':(Tryz.prog.info? 27).map (fun i=>(i.size,i.zero.map (·.cells.size),decide (i.bytes≤96)))=some (7,some 7,true):=by kernel_rfl
theorem info27:∃i z,Tryz.prog.info? 27=some i∧i.size=7∧i.zero=some z∧z.cells.size=7∧i.bytes≤96:=by
 have h:=info27'
 rw[Option.map_eq_some_iff]at h
 obtain⟨i,h1,h2⟩:=h
 simp only[Prod.mk.injEq,Option.map_eq_some_iff,decide_eq_true_eq]at h2
 obtain⟨a,⟨z,b,c⟩,d⟩:=h2
 exact⟨i,z,h1,a,b,c,d⟩
theorem app27_nil (s:Heap){a:AV}(h1:a.cells.length=7)(h2:a.cells.map AV.strip=a.cells)(h4:a=.agg a.cells):aRsAppend Tryz.prog 25 25 .nils (.sl 27 7 [a] .own) s=some (.rs 27 7 s.length 0 1,s++[(27,a.cells)]):=by
 obtain⟨i,z,e1,e2,e3,e4,e5⟩:=info27
 have hb:bound i 1:=⟨by omega,by omega⟩
 have ec:cellsOf [a]=a.cells:=by show a.cells++[]=a.cells;rw[List.append_nil]
 simp[aRsAppend,under25,e1,srcOf,e2,e3,e4,hb,deadTy,ec,h2]
theorem app27_rs {s:Heap}{id len:Nat}{cs:List AV}(h:s[id]?=some (27,cs))(hl:len*7≤cs.length)(hne:cs≠[])(hn:len<1800000000000){a:AV}(h1:a.cells.length=7)(h2:a.cells.map AV.strip=a.cells)(h4:a=.agg a.cells) :
  aRsAppend Tryz.prog 25 25 (.rs 27 7 id 0 len) (.sl 27 7 [a] .own) s=some (.rs 27 7 s.length 0 (len+1),kill s id++[(27,cs.take (len*7)++a.cells)]):=by
 obtain⟨i,z,e1,e2,e3,e4,e5⟩:=info27
 have hb:bound i (len+1):=⟨by
  have:(len+1+(len+1) / 4+512)*i.bytes≤(len+1+(len+1) / 4+512)*96:=Nat.mul_le_mul_left _ e5
  omega,by omega⟩
 have ec:cellsOf [a]=a.cells:=by show a.cells++[]=a.cells;rw[List.append_nil]
 simp[aRsAppend,under25,e1,srcOf,e2,e3,e4,hb,deadTy,ec,h2,h,hl,hne]
theorem lit27 {a:AV}(h1:a.cells.length=7)(h2:a.cells.map AV.strip=a.cells)(h4:a=.agg a.cells):aBuildSlice Tryz.prog 25 1 [(0,a)]=some (.sl 27 7 [a] .own):=by
 obtain⟨i,z,e1,e2,e3,e4,e5⟩:=info27
 have hs:a.solid=true:=by rw[h4];rfl
 simp[aBuildSlice,under25,sz27,e1,e3,e4,inRow,h1,hs]
def chOf (ns:List Nd)(r:Option Nat):AV:=match r with
 | none=>.nils
 | some R=>.rs 27 7 R 0 ns.length
def RowOk (s:Heap)(ns:List Nd)(r:Option Nat):Prop:=match r with
 | none=>ns=[]
 | some R=>∃rows junk,s[R]?=some (27,cellsOf rows++junk)∧IsNL ns rows∧cellsOf rows++junk≠[]
theorem RowOk.fr {s s':Heap}{ns:List Nd}{r:Option Nat}(h:RowOk s ns r)(k:∀R,r=some R→s'[R]?=s[R]?):RowOk s' ns r:=by
 cases r with
 | none=>exact h
 | some R =>
  obtain⟨rows,junk,h1,h2⟩:=h
  exact⟨rows,junk,(k R rfl).trans h1,h2⟩
theorem RowOk.lt {s:Heap}{ns:List Nd}{R:Nat}(h:RowOk s ns (some R)):R<s.length:=by
 obtain⟨rows,junk,h1,h2⟩:=h
 exact glt h1
theorem chOf_strip (ns:List Nd)(r:Option Nat):(chOf ns r).strip=chOf ns r:=by unfold chOf;cases r<;>rfl
theorem appK_chOf (ns:List Nd)(r:Option Nat):appK (chOf ns r)=.app r:=by unfold chOf;cases r<;>rfl
theorem grow27 {s:Heap}{ns:List Nd}{r:Option Nat}(h:RowOk s ns r){a:AV}(h1:a.cells.length=7)(h2:a.cells.map AV.strip=a.cells)(h4:a=.agg a.cells)(hn:ns.length<1800000000000) :
  ∃s0 rows,aRsAppend Tryz.prog 25 25 (chOf ns r) (.sl 27 7 [a] .own) s=some (.rs 27 7 s.length 0 (ns.length+1),s0)∧s0.length=s.length+1∧(∀x,x<s.length→r≠some x→s0[x]?=s[x]?)∧s0[s.length]?=some (27,cellsOf rows++a.cells)∧IsNL ns rows∧(cellsOf rows).length=7*ns.length:=by
 cases r with
 | none =>
  have h:ns=[]:=h
  subst h
  exact⟨_,[],app27_nil s h1 h2 h4,app_length _ _,fun x hx _=>gapp_old hx,gapp_new,.nil,rfl⟩
 | some R =>
  obtain⟨rows,junk,k1,k2,k3⟩:=h
  obtain⟨r1,r2,r3,r4⟩:=k2.cells
  have ap:=app27_rs (len:=ns.length) k1 (by rw[List.length_append];omega) k3 hn h1 h2 h4
  rw[List.take_append_of_le_length (by omega),List.take_of_length_le (by omega)]at ap
  refine⟨_,rows,ap,by rw[app_length,kill_length],fun x hx hr=>by rw[gapp_old (by rw[kill_length];exact hx),gkill_ne (fun e=>hr (by rw[e]))],?_,k2,r1⟩
  have:=gapp_new (s:=kill s R) (x:=(27,cellsOf rows++a.cells))
  rw[kill_length]at this;exact this
theorem cellsOf_one {rows:List AV}{a:AV}:cellsOf (rows++[a])=cellsOf rows++a.cells:=cellsOf_snoc _ _
theorem pub27 {s:Heap}{ns:List Nd}{r:Option Nat}(h:RowOk s ns r)(k:Int)(hd:Hd):∃ch s1,aPub (.agg (hrow k hd (chOf ns r))) s=some (.agg (hrow k hd ch),s1)∧IsNC ns ch∧s1.length=s.length∧∀x,r≠some x→s1[x]?=s[x]?:=by
 cases r with
 | none =>
  have h:ns=[]:=h
  subst h
  exact⟨.nils,s,rfl,.nil,rfl,fun _ _=>rfl⟩
 | some i =>
  obtain⟨rows,junk,h1,h2,h3⟩:=h
  obtain⟨r1,r2,r3,r4⟩:=h2.cells
  have tk:(cellsOf rows++junk).take (ns.length*7)=cellsOf rows:=by
   rw[List.take_append_of_le_length (by omega),List.take_of_length_le (by omega)]
  have e:aPub1 (.rs 27 7 i 0 ns.length) s=some (.sl 27 7 rows .sh,kill s i):=by
   unfold aPub1
   simp only[h1]
   rw[if_pos ⟨trivial,by decide,by decide,by rw[List.length_append];omega,by rw[tk];exact r3⟩,tk,r2,r4]
  refine⟨.sl 27 7 rows .sh,kill s i,?_,.sl _ _ h2,kill_length _ _,fun x hx=>gkill_ne fun e=>hx (by rw[e])⟩
  have a1:∀v:Int,aPub1 (I v) s=some (I v,s):=fun _=>rfl
  have a2:∀v:Bytes,aPub1 (.str v) s=some (.str v,s):=fun _=>rfl
  have e2:aPubL (hrow k hd (.rs 27 7 i 0 ns.length)) s=some (hrow k hd (.sl 27 7 rows .sh),kill s i):=by
   simp only[hrow,aPubL,a1,a2,e]
  show (match aPubL (hrow k hd (.rs 27 7 i 0 ns.length)) s with|some (cs',s')=>some (AV.agg cs',s')|none=>none)=_
  rw[e2]
end ParF
end

section
namespace ParF
open Go Go.Abs Go.Proofs Pm AstF
mutual
def LfT:Tree→Prop
 | .mk k x cs=>(100≤k→LeafOk k x)∧LfL cs
def LfL:List Tree→Prop
 | []=>True
 | t::ts=>LfT t∧LfL ts
end
theorem LfL_cons (t:Tree)(ts:List Tree):LfL (t::ts)=(LfT t∧LfL ts):=by rw[LfL]
theorem LfL.mem:∀{ts:List Tree},LfL ts→∀t∈ts,LfT t
 | [],_,t,h=>by cases h
 | u::ts,h,t,hm=>by
  rw[LfL_cons]at h
  rcases List.mem_cons.1 hm with rfl|hm
  ·exact h.1
  ·exact LfL.mem h.2 t hm
theorem IsL.atT:∀{cs:List Tree}{rows:List AV},IsL cs rows→∀{i:Nat}{t:Tree},cs[i]?=some t→∃a,rows[i]?=some a∧IsT t a
 | _,_,.nil,i,t,h=>by simp at h
 | _,_,.cons t a cs rows h h',0,t',e=>by
  simp only[List.getElem?_cons_zero,Option.some.injEq]at e
  subst e;exact⟨a,rfl,h⟩
 | _,_,.cons t a cs rows h h',i+1,t',e=>by
  rw[List.getElem?_cons_succ]at e
  obtain⟨b,h1,h2⟩:=IsL.atT h' e
  exact⟨b,by rw[List.getElem?_cons_succ,h1],h2⟩
theorem st3 {s:Heap}{i:Nat}{cs:List AV}(h:s[i]?=some (65,cs))(hc:cs.length=3){a:AV}(h1:a.cells.length=3)(h2:a.cells.map AV.strip=a.cells)(h4:a=.agg a.cells):aStore 3 s (.ref i 0) a=some (s.set i (65,a.cells)):=by
 have hsol:a.solid=true:=by rw[h4];rfl
 have hst:stCells a=a.cells:=by rw[h4];exact h2
 rw[ParF.st (n:=3) (o:=0) (v:=a) h (by decide) hsol h1 (by omega),hst]
 have:=setL_end [] a.cells cs (by omega)
 rw[List.nil_append,List.nil_append]at this
 rw[show setL cs 0 a.cells=a.cells from this]
theorem ld3 {s:Heap}{i:Nat}{a:AV}(h:s[i]?=some (65,a.cells))(h1:a.cells.length=3)(h4:a=.agg a.cells):aLoad false true 3 (.ref i 0) s=some (a,s):=by
 rw[ldA (o:=0) h (by decide) (by omega) (by decide),List.drop_zero,List.take_of_length_le (by omega),←h4]
end ParF
end

section
namespace ParF
open Go Go.Abs Go.Proofs Pm
theorem unq_len:∀(n:Nat)(l:Bytes)(o:Int),l.length≤n→(unq o l).2.length≤l.length:=by
 intro n
 induction n with
 | zero =>
  intro l o h
  have:l=[]:=List.length_eq_zero_iff.1 (by omega)
  subst this;simp[unq]
 | succ n ih =>
  intro l o h
  match l,h with
  | [],_=>simp[unq]
  | [c],_=>simp[unq]
  | c::e::r,h =>
   simp only[unq]
   have e1:=ih r (o+2) (by simp at h;omega)
   have e2:=ih (e::r) (o+1) (by simp at h ⊢;omega)
   by_cases hc:c=92
   ·rw[if_pos hc]
    simp only
    split
    ·simp;omega
    ·simp;omega
   ·rw[if_neg hc]
    simp at e2 ⊢;omega
theorem tokH_len (k:Int)(h:Hd)(c:Nat)(x:Bytes)(o:Int):(tokH k h c x o).2.length≤1+x.length:=by
 unfold tokH
 repeat' split
 ·simp
 ·simp
 ·simp
 ·unfold identH;simp only;split<;>simp
 ·unfold intV;split<;>simp
 ·have:=unq_len _ (x.drop 1) (o+1) (Nat.le_refl _)
  rw[List.length_drop]at this
  simp only;omega
 ·simp
mutual
theorem node_len (src:Bytes):∀(o:Nat)(t:Tree),okT t=true→(nodeB src o t).2.length≤szT t+(srcT t).length
 | o,.mk k x cs,ok=>by
  have i:=kids_len src k o (h0 o) cs (okT_mk k x cs ok).2.2
  rw[nodeB_mk,finN_ds,szT_mk,srcT,List.length_append]
  have:(finD k (kidsB src k o (h0 o) cs).h).length≤1:=by unfold finD;split<;>simp
  rw[List.length_append];omega
theorem kids_len (src:Bytes)(k:Int):∀(o:Nat)(h:Hd)(ts:List Tree),okL ts=true→(kidsB src k o h ts).ds.length≤szL ts+(srcL ts).length
 | o,h,[],_=>by rw[kidsB_nil,szL,srcL];simp
 | o,h,t::ts,ok=>by
  rw[okL_cons,Bool.and_eq_true]at ok
  rw[szL,srcL,List.length_append]
  by_cases c:100≤t.kind
  ·have i:=kids_len src k (o+t.text.length) (tokH k h t.kind t.text o).1 ts ok.2
   have j:=tokH_len k h t.kind t.text o
   rw[kidsB_leaf _ _ _ _ _ _ c,srcT_leafk ok.1 c,List.length_append]
   have:1≤szT t:=by cases t;rw[szT_mk];omega
   omega
  ·have i:=kids_len src k (o+(srcT t).length) (h.ext (nodeB src o t).1.s (nodeB src o t).1.e) ts ok.2
   have j:=node_len src o t ok.1
   rw[kidsB_node _ _ _ _ _ _ c,List.length_append];omega
end
end ParF
end

section
namespace ParF
open Go
theorem cmpI_lt (a b:Int):(cmpI a b<0↔a<b)∧(cmpI a b≠0↔a≠b):=by
 unfold cmpI
 split
 ·exact⟨by simp;assumption,by simp;omega⟩
 ·split
  ·exact⟨by simp;omega,by simp;omega⟩
  ·exact⟨by simp;omega,by simp;omega⟩
theorem or0_lt (x y:Int):or0 x y<0↔x<0∨(x=0∧y<0):=by
 unfold or0;split<;>omega
def Dr.lt (a b:Dr):Bool:=decide (Dr.cmp a b<0)
theorem Dr.lt_iff (a b:Dr):Dr.lt a b=true↔a.s<b.s∨(a.s=b.s∧(a.e<b.e∨(a.e=b.e∧a.c<b.c))):=by
 have h1:=cmpI_lt a.s b.s
 have h2:=cmpI_lt a.e b.e
 have h3:=cmpI_lt a.c b.c
 have e1:cmpI a.s b.s=0↔a.s=b.s:=by have:=h1.2;omega
 have e2:cmpI a.e b.e=0↔a.e=b.e:=by have:=h2.2;omega
 unfold Dr.lt Dr.cmp
 rw[decide_eq_true_eq,or0_lt,or0_lt,h1.1,h2.1,h3.1,e1,e2]
theorem Dr.lt_false (a b:Dr):Dr.lt a b=false↔¬(a.s<b.s∨(a.s=b.s∧(a.e<b.e∨(a.e=b.e∧a.c<b.c)))):=by
 rw[←Dr.lt_iff];cases Dr.lt a b<;>simp
theorem swo_dr:Sort.SWO Dr.lt where
 irrefl:=fun x=>by rw[Dr.lt_false];omega
 trans:=fun x y z h1 h2=>by rw[Dr.lt_iff]at *;omega
 ntrans:=fun x y z h1 h2=>by rw[Dr.lt_false]at *;omega
theorem pdq_facts (d:List Dr):(Sort.pdq Dr.lt d.toArray 0 d.length (Lib.bitLen d.length) true true).size=d.length∧((Sort.pdq Dr.lt d.toArray 0 d.length (Lib.bitLen d.length) true true).toList).Perm d:=by
 have h:=Sort.pdq_sorts Dr.lt swo_dr d.toArray 0 d.length (Lib.bitLen d.length) true true (Nat.zero_le _) (by simp) (.inl rfl)
 obtain⟨h1,h2,h3⟩:=h.1
 have hs:(Sort.pdq Dr.lt d.toArray 0 d.length (Lib.bitLen d.length) true true).size=d.length:=by rw[h1];simp
 refine⟨hs,?_⟩
 have e1:∀a:Array Dr,a.size=d.length→(a.extract 0 d.length).toList=a.toList:=fun a ha=>by
  rw[←ha];simp
 rw[e1 _ hs,e1 _ (by simp)]at h3
 simpa using h3
theorem srt_length (d:List Dr):(srt d).length=d.length:=by
 unfold srt
 split
 ·rfl
 ·rw[Array.length_toList];exact(pdq_facts d).1
end ParF
end

section
namespace ParF
open Go Go.Abs Go.Proofs Pm AstF
end ParF
end
