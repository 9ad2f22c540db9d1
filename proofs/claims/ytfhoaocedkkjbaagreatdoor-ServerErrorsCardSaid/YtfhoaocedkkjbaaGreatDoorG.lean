/- LxA, LxB, WsA, SsA, SsB, SsC, SsD, SsE -/
import Derived.Test.YtfhoaocedkkjbaaGreatDoorD
import Derived.Test.YtfhoaocedkkjbaaGreatDoorE
import Derived.Test.YtfhoaocedkkjbaaGreatDoorF
set_option linter.all false
set_option maxRecDepth 100000

section
namespace Srv
open Go Go.Abs Go.Proofs
def PT (g:FuncId)(p:UInt8→Bool):Prop:=∀(b:UInt8) n s,aCall Tryz.prog (den C (n+5)) g [.int .u8 b.toNat] s=some (.bool (p b),s)
noncomputable def bts (n:Nat)(g:FuncId):Bool:=(List.range 256).all fun c=>match den C (n+5) g [.int .u8 c] [],den C 5 g [.int .u8 c] [] with
 | some (.bool x,_),some (.bool y,_)=>x==y
 | _,_=>false
noncomputable def byP (g:FuncId)(b:UInt8):Bool:=match den C 5 g [.int .u8 b.toNat] [] with
 | some (.bool y,_)=>y
 | _=>false
theorem PT.of {g:FuncId}(en:enterable Tryz.prog g=true)(h:∀n,bts n g=true):PT g (byP g):=by
 intro b n s
 have h:=h n
 unfold bts at h
 rw[List.all_eq_true]at h
 have hb:b.toNat∈List.range 256:=List.mem_range.2 b.toNat_lt
 have:=h _ hb
 split at this
 ·rename_i x s1 y s2 e1 e2
  have hx:x=y:=by simpa using this
  unfold byP
  rw[e2]
  exact aC en rfl (fun _=>⟨s1,by rw[e1,hx]⟩) nofun
 ·cases this
theorem pt123:PT 123 (byP 123):=.of (by kernel_rfl) fun n=>by kernel_rfl
theorem pt126:PT 126 (byP 126):=.of (by kernel_rfl) fun n=>by kernel_rfl
theorem pt127:PT 127 (byP 127):=.of (by kernel_rfl) fun n=>by kernel_rfl
theorem pt128:PT 128 (byP 128):=.of (by kernel_rfl) fun n=>by kernel_rfl
theorem pt129:PT 129 (byP 129):=.of (by kernel_rfl) fun n=>by kernel_rfl
theorem pt155:PT 155 (byP 155):=.of (by kernel_rfl) fun n=>by kernel_rfl
theorem und9':Tryz.prog.underlying 9=some .string:=by kernel_rfl
theorem len9' (t:Bytes):aLen Tryz.prog 9 (.str t)=some (I t.length):=by simp[aLen,und9']
theorem ix9 (t:Bytes){i:Nat}(h:i<t.length):aIndex Tryz.prog 9 (.str t) (I i)=some (.int .u8 t[i].toNat):=by
 simp[aIndex,und9',h]
def scanK (p:UInt8→Bool)(t:Bytes)(j:Nat):Nat:=j+((t.drop j).takeWhile p).length
theorem scanK_step {p:UInt8→Bool}{t:Bytes}{j:Nat}(h:j<t.length):scanK p t j=if p t[j] then scanK p t (j+1) else j:=by
 unfold scanK
 rw[List.drop_eq_getElem_cons h,List.takeWhile_cons]
 cases p t[j]<;>simp
 omega
theorem scanK_end {p:UInt8→Bool}{t:Bytes}{j:Nat}(h:t.length≤j):scanK p t j=j:=by
 unfold scanK
 rw[List.drop_of_length_le h];rfl
theorem scanK_le {p:UInt8→Bool}{t:Bytes}{j:Nat}(h:j≤t.length):scanK p t j≤t.length:=by
 unfold scanK
 have:=(List.takeWhile_prefix (l:=t.drop j) p).length_le
 rw[List.length_drop]at this
 omega
theorem c124 {n:Nat}{g:FuncId}{p:UInt8→Bool}(hg:PT g p)(t:Bytes)(j:Nat)(hj:j≤t.length)(hn:t.length<n)(hb:t.length<1000):den C (n+6) 124 [.str t,I j,.fn g [] []] []=some (I (scanK p t j),[]):=by
 rw[rd Tryz.func124];conv in compF _ _ _ _ _ _=>cbv
 simp only[strip_rs,strip_mr,strip_nilf,Bool.false_eq_true,if_false,↓kR,kE,kK,sL,C_P,Nat.reduceEqDiff,reduceIte,Tryz.f124,sL]
 refine loopI (R:=fun a=>a=some (I (scanK p t j),[])) (fun i e s1=>j+i≤t.length∧e 0=.str t∧e 1=I ((j+i:Nat):Int)∧e 2=.fn g [] []∧s1=[]∧scanK p t (j+i)=scanK p t j) (t.length-j) ?_ ?_ (t.length-j) 0 (by omega) _ (by omega) _ _ ⟨by omega,rfl,rfl,rfl,rfl,rfl⟩
 ·rintro i e s1 q hi ⟨h1,e0,e1,e2,rfl,hs⟩ hk
  have hlt':j+i<t.length:=by omega
  have hlt:decide (j+i<t.length)=true:=decide_eq_true hlt'
  have hb2:aCallV Tryz.prog (den C (n+5)) (.fn g [] []) [.int .u8 t[j+i].toNat] []=some (.bool (p t[j+i]),[]):=hg _ n []
  have sg:(AV.fn g [] []).strip=.fn g [] []:=rfl
  rw[scanK_step hlt']at hs
  simp only[strip_rs,strip_mr,strip_nilf,Bool.false_eq_true,if_false,↓kR,kE,kK,sL,C_P,Nat.reduceEqDiff,reduceIte,e0,e1,e2,len9',hlt,ix9 t hlt',sg,hb2,sL]
  cases hp:p t[j+i] with
  | false =>
   rw[hp]at hs
   simp only[strip_rs,strip_mr,strip_nilf,Bool.false_eq_true,if_false,↓kR,kE,kK,sL,C_P,Nat.reduceEqDiff,reduceIte,e1,sL]
   rw[←hs];rfl
  | true =>
   rw[hp]at hs
   simp only[strip_rs,strip_mr,strip_nilf,Bool.false_eq_true,if_false,↓kR,kE,kK,sL,C_P,Nat.reduceEqDiff,reduceIte,e1,wrap64 (show -9223372036854775808≤((j+i:Nat):Int)+1 by omega) (by omega),sL]
   refine hk _ _ ⟨by omega,e0,?_,e2,rfl,hs⟩
   show I (((j+i:Nat):Int)+1)=_
   rw[iS];rfl
 ·rintro e s1 q ⟨h1,e0,e1,e2,rfl,hs⟩
  have hlt:decide (j+(t.length-j)<t.length)=false:=decide_eq_false (by omega)
  simp only[strip_rs,strip_mr,strip_nilf,Bool.false_eq_true,if_false,↓kR,kE,kK,sL,C_P,Nat.reduceEqDiff,reduceIte,e0,e1,e2,len9',hlt,sL]
  rw[←hs,scanK_end (by omega)]
theorem a124 {n:Nat}{g:FuncId}{p:UInt8→Bool}(hg:PT g p)(hgr:(AV.fn g [] []).noRef=true:=by rfl)(t:Bytes)(j:Nat)(hj:j≤t.length)(hn:t.length<n)(hb:t.length<1000)(s:Heap):aCall Tryz.prog (den C (n+6)) 124 [.str t,I j,.fn g [] []] s=some (I (scanK p t j),s) :=
 aC (by kernel_rfl) rfl (fun _=>⟨[],c124 hg t j hj hn hb⟩) fun e=>nomatch (show true=false from e)
end Srv
end

section
namespace Srv
open Go Go.Abs Go.Proofs
theorem und198:Tryz.prog.underlying 198=some (.slice 9):=by kernel_rfl
theorem sz9:szOf Tryz.prog 9=some 1:=by kernel_rfl
theorem eq9 (a b:Bytes):aBin Tryz.prog .eql 9 (.str a) (.str b)=some (.bool (a==b)):=by
 have:∀a b,aBin Tryz.prog .eql 9 (.str a) (.str b)=some (.bool (a==b)):=fun a b=>by kernel_rfl
 exact this a b
abbrev Ws (l:List Bytes):AV:=.sl 9 1 (l.map .str) .sh
theorem ixw (l:List Bytes){i:Nat}(h:i<l.length):aIndexAddr Tryz.prog 198 (Ws l) (I i)=some (.box [.str l[i]] 0):=by
 have:(l.map AV.str)[i]?=some (.str l[i]):=by rw[List.getElem?_map,List.getElem?_eq_getElem h];rfl
 simp[aIndexAddr,und198,sz9,this,AV.cells]
theorem strW (l:List Bytes):(Ws l).strip=Ws l:=rfl
theorem lenw (l:List Bytes):aLen Tryz.prog 198 (Ws l)=some (I l.length):=by simp[aLen,und198]
theorem c153 {n:Nat}(l:List Bytes)(t:Bytes)(hn:l.length<n)(hl:l.length<1000):den C (n+1) 153 [Ws l,.str t] []=some (I (ix l t),[]):=by
 have sw:(Ws l).strip=Ws l:=rfl
 rw[rd Tryz.func153];conv in compF _ _ _ _ _ _=>cbv
 simp only[strip_rs,strip_mr,strip_nilf,Bool.false_eq_true,if_false,↓kR,kE,kK,sL,C_P,Nat.reduceEqDiff,reduceIte,Tryz.f153,sw,lenw,sL]
 refine loopI (R:=fun a=>a=some (I (ix l t),[])) (fun i e s1=>s1=[]∧e 0=Ws l∧e 1=.str t∧e 7=I l.length∧e 8=I i∧t∉l.take i) l.length ?_ ?_ l.length 0 (by omega) n hn _ _ ⟨rfl,rfl,rfl,rfl,rfl,by simp⟩
 ·rintro i e s1 q hi ⟨rfl,e0,e1,e7,e8,ht⟩ hk
  have hlt:decide (i<l.length)=true:=decide_eq_true hi
  have bx:aLoad false false 1 (.box [.str l[i]] 0) []=some (.str l[i],[]):=by rw[aLoad_one];rfl
  simp only[strip_rs,strip_mr,strip_nilf,Bool.false_eq_true,if_false,↓kR,kE,kK,sL,C_P,Nat.reduceEqDiff,reduceIte,e0,e1,e7,e8,hlt,sw,ixw l hi,bx,eq9,sL]
  by_cases hx:l[i]=t
  ·have hx':(t==l[i])=true:=by simp[hx]
   rw[hx']
   simp only[strip_rs,strip_mr,strip_nilf,Bool.false_eq_true,if_false,↓kR,kE,kK,sL,C_P,Nat.reduceEqDiff,reduceIte,sL]
   rw[ix_at hi ht hx]
  ·have hx':(t==l[i])=false:=by simpa using fun e=>hx e.symm
   rw[hx']
   simp only[strip_rs,strip_mr,strip_nilf,Bool.false_eq_true,if_false,↓kR,kE,kK,sL,C_P,Nat.reduceEqDiff,reduceIte,sL]
   rw[wrap64 (by omega) (by omega)]
   refine hk _ _ ⟨rfl,e0,e1,e7,iS i,?_⟩
   rw[List.take_succ,List.getElem?_eq_getElem hi]
   simp only[Option.toList_some,List.mem_append,List.mem_singleton,not_or]
   exact⟨ht,fun e=>hx e.symm⟩
 ·rintro e s1 q ⟨rfl,e0,e1,e7,e8,ht⟩
  have hlt:decide (l.length<l.length)=false:=decide_eq_false (by omega)
  simp only[strip_rs,strip_mr,strip_nilf,Bool.false_eq_true,if_false,↓kR,kE,kK,sL,C_P,Nat.reduceEqDiff,reduceIte,e7,e8,hlt,sL]
  rw[List.take_length]at ht
  rw[ix_no ht]
theorem ix_nn (l:List Bytes)(t:Bytes):decide (0≤ix l t)=decide (t∈l):=by
 unfold ix
 by_cases h:t∈l<;>simp[h]
theorem nrw (l:List Bytes)(t:Bytes):noRefL [Ws l,.str t]=true:=by
 have:noRefL (l.map .str)=true:=by
  induction l with
  | nil=>rfl
  | cons a l ih=>simp only[List.map_cons,noRefL,AV.noRef,ih,Bool.and_self]
 simp only[noRefL,AV.noRef,this,Bool.and_self]
theorem a130 {n:Nat}(l:List Bytes)(t:Bytes)(hn:l.length<n)(hl:l.length<1000)(s:Heap):aCall Tryz.prog (den C (n+2)) 130 [Ws l,.str t] s=some (.bool (decide (t∈l)),s):=by
 refine aC (by kernel_rfl) rfl (fun _=>⟨[],?_⟩) fun e=>by rw[nrw]at e;cases e
 have cl:aCall Tryz.prog (den C (n+1)) 153 [Ws l,.str t] []=some (I (ix l t),[]):=aC (by kernel_rfl) rfl (fun _=>⟨[],c153 l t hn hl⟩) fun e=>by rw[nrw]at e;cases e
 have sw:(Ws l).strip=Ws l:=rfl
 have q:=ix_nn l t
 have q':decide (ix l t ≥ 0)=decide (t∈l):=q
 rw[rd Tryz.func130];conv in compF _ _ _ _ _ _=>cbv
 simp only[strip_rs,strip_mr,strip_nilf,Bool.false_eq_true,if_false,↓kR,kE,kK,sL,C_P,Nat.reduceEqDiff,reduceIte,Tryz.f130,sw,cl,q,q',sL]
noncomputable def wsOf (g:FuncId):List Bytes:=match den C 3 g [] [] with
 | some (.sl _ _ l _,_)=>l.map fun x=>match x with|.str b=>b|_=>[]
 | _=>[]
theorem a131 (n:Nat)(s:Heap):aCall Tryz.prog (den C (n+3)) 131 [] s=some (Ws (wsOf 131),s) :=
 aC (by kernel_rfl) (by kernel_rfl) (fun _=>⟨[],by kernel_rfl⟩) fun e=>nomatch (show true=false from e)
theorem a133 (n:Nat)(s:Heap):aCall Tryz.prog (den C (n+3)) 133 [] s=some (Ws (wsOf 133),s) :=
 aC (by kernel_rfl) (by kernel_rfl) (fun _=>⟨[],by kernel_rfl⟩) fun e=>nomatch (show true=false from e)
theorem l131:(wsOf 131).length<100:=of_decide_eq_true (by kernel_rfl)
theorem l133:(wsOf 133).length<100:=of_decide_eq_true (by kernel_rfl)
theorem c132 (n:Nat)(t:Bytes)(h0:0<t.length)(hn:t.length<n)(hb:t.length<1000):∃k c:Int,(c=106∨c=108)∧den C (n+7) 132 [.str t] []=some (.tup [I k,I c],[]):=by
 rw[rd Tryz.func132];conv in compF _ _ _ _ _ _=>cbv
 simp only[strip_rs,strip_mr,strip_nilf,Bool.false_eq_true,if_false,↓kR,kE,kK,sL,C_P,Nat.reduceEqDiff,reduceIte,Tryz.f132,sL]
 refine loopI (R:=fun a=>∃k c:Int,(c=106∨c=108)∧a=some (.tup [I k,I c],[])) (fun i e s1=>s1=[]∧e 0=.str t∧∃j:Nat,e 4=I j∧i+1≤j∧j≤t.length+1) t.length ?_ ?_ t.length 0 (by omega) _ (by omega) _ _ ⟨rfl,rfl,1,rfl,by omega,by omega⟩
 ·rintro i e s1 q hi ⟨rfl,e0,j,e4,hj,hj2⟩ hk
  have tl:aCall Tryz.prog (den C (n+6)) 124 [.str t,I 1,.fn 155 [] []] []=some (I (scanK (byP 155) t 1),[]):=a124 (n:=n) pt155 rfl t 1 (by omega) hn hb []
  have fin:∀E:Env,E 0=.str t→True:=fun _ _=>trivial
  by_cases hlt':j<t.length
  ·have hlt:decide (j<t.length)=true:=decide_eq_true hlt'
   have wj:=wrap64 (show -9223372036854775808≤(j:Int)+1 by omega) (by omega)
   have wj2:=wrap64 (show -9223372036854775808≤(j:Int)+1+1 by omega) (by omega)
   simp only[strip_rs,strip_mr,strip_nilf,Bool.false_eq_true,if_false,↓kR,kE,kK,sL,C_P,Nat.reduceEqDiff,reduceIte,e0,e4,len9',hlt,ix9 t hlt',wj,sL]
   cases hb1:((t[j].toNat:Int) != 10) with
   | false =>
    simp only[strip_rs,strip_mr,strip_nilf,Bool.false_eq_true,if_false,↓kR,kE,kK,sL,C_P,Nat.reduceEqDiff,reduceIte,e0,e4,tl,sL]
    exact⟨_,108,.inr rfl,rfl⟩
   | true =>
    simp only[strip_rs,strip_mr,strip_nilf,Bool.false_eq_true,if_false,↓kR,kE,kK,sL,C_P,Nat.reduceEqDiff,reduceIte,↓rC_seqj,e0,e4,len9',ix9 t hlt',wj,sL]
    cases hb2:((t[j].toNat:Int)==34) with
    | true =>
     simp only[strip_rs,strip_mr,strip_nilf,Bool.false_eq_true,if_false,↓kR,kE,kK,sL,C_P,Nat.reduceEqDiff,reduceIte,e4,wj,sL]
     exact⟨_,106,.inl rfl,rfl⟩
    | false =>
     simp only[strip_rs,strip_mr,strip_nilf,Bool.false_eq_true,if_false,↓kR,kE,kK,sL,C_P,Nat.reduceEqDiff,reduceIte,e0,e4,len9',ix9 t hlt',wj,sL]
     cases hb3:((t[j].toNat:Int)==92) with
     | false =>
      simp only[strip_rs,strip_mr,strip_nilf,Bool.false_eq_true,if_false,↓kR,kE,kK,sL,C_P,Nat.reduceEqDiff,reduceIte,e4,wj,sL]
      exact hk _ _ ⟨rfl,e0,j+1,iS j,by omega,by omega⟩
     | true =>
      by_cases hl2:j+1<t.length
      ·have hx:decide ((j:Int)+1<t.length)=true:=decide_eq_true (by omega)
       have ix':aIndex Tryz.prog 9 (.str t) (I ((j:Int)+1))=some (.int .u8 t[j+1].toNat):=by rw[iS];exact ix9 t hl2
       simp only[strip_rs,strip_mr,strip_nilf,Bool.false_eq_true,if_false,↓kR,kE,kK,sL,C_P,Nat.reduceEqDiff,reduceIte,e0,e4,len9',hx,ix',wj,sL]
       cases hb4:((t[j+1].toNat:Int) != 10) with
       | false =>
        simp only[strip_rs,strip_mr,strip_nilf,Bool.false_eq_true,if_false,↓kR,kE,kK,sL,C_P,Nat.reduceEqDiff,reduceIte,e4,wj,sL]
        exact hk _ _ ⟨rfl,e0,j+1,iS j,by omega,by omega⟩
       | true =>
        simp only[strip_rs,strip_mr,strip_nilf,Bool.false_eq_true,if_false,↓kR,kE,kK,sL,C_P,Nat.reduceEqDiff,reduceIte,e4,wj,wj2,sL]
        refine hk _ _ ⟨rfl,e0,j+2,?_,by omega,by omega⟩
        show I ((j:Int)+1+1)=_
        rw[show (j:Int)+1+1=((j+2:Nat):Int) by omega]
      ·have hx:decide ((j:Int)+1<t.length)=false:=decide_eq_false (by omega)
       simp only[strip_rs,strip_mr,strip_nilf,Bool.false_eq_true,if_false,↓kR,kE,kK,sL,C_P,Nat.reduceEqDiff,reduceIte,e0,e4,len9',hx,wj,sL]
       exact hk _ _ ⟨rfl,e0,j+1,iS j,by omega,by omega⟩
  ·have hlt:decide (j<t.length)=false:=decide_eq_false hlt'
   simp only[strip_rs,strip_mr,strip_nilf,Bool.false_eq_true,if_false,↓kR,kE,kK,sL,C_P,Nat.reduceEqDiff,reduceIte,e0,e4,len9',hlt,tl,sL]
   exact⟨_,108,.inr rfl,rfl⟩
 ·rintro e s1 q ⟨rfl,e0,j,e4,hj,hj2⟩
  have tl:aCall Tryz.prog (den C (n+6)) 124 [.str t,I 1,.fn 155 [] []] []=some (I (scanK (byP 155) t 1),[]):=a124 (n:=n) pt155 rfl t 1 (by omega) hn hb []
  have hlt:decide (j<t.length)=false:=decide_eq_false (by omega)
  simp only[strip_rs,strip_mr,strip_nilf,Bool.false_eq_true,if_false,↓kR,kE,kK,sL,C_P,Nat.reduceEqDiff,reduceIte,e0,e4,len9',hlt,tl,sL]
  exact⟨_,108,.inr rfl,rfl⟩
theorem a132 (n:Nat)(t:Bytes)(h0:0<t.length)(hn:t.length<n)(hb:t.length<1000):∃k c:Int,(c=106∨c=108)∧∀s,aCall Tryz.prog (den C (n+7)) 132 [.str t] s=some (.tup [I k,I c],s):=by
 obtain⟨k,c,h1,h2⟩:=c132 n t h0 hn hb
 exact⟨k,c,h1,fun s=>aC (by kernel_rfl) rfl (fun _=>⟨[],h2⟩) fun e=>nomatch (show true=false from e)⟩
theorem ei134 (D:Den)(n:Nat)(a:Bytes)(c:Int)(s:Heap):aCall Tryz.prog (den C (n+1)) 134 [.str a,.int .u8 c] s=some (I (Lib.indexByte a c.toNat.toUInt8),s) :=
 aC (by kernel_rfl) rfl (fun _=>⟨[],rfl⟩) fun e=>nomatch (show true=false from e)
theorem ep125 (n:Nat)(a b:Bytes)(s:Heap):aCall Tryz.prog (den C (n+1)) 125 [.str a,.str b] s=some (.bool (Lib.hasPrefix a b),s) :=
 aC (by kernel_rfl) rfl (fun _=>⟨[],rfl⟩) fun e=>nomatch (show true=false from e)
theorem sub9' (t:Bytes)(m:Nat)(h:m≤t.length):aSl Tryz.prog 9 (.str t) none (some (I m)) none=some (.str (t.take m)):=sub9 t m h
theorem c112 (t:Bytes)(h0:0<t.length)(hb:t.length<1000):∃b:Bool,∀n,t.length+100<n→∃k c:Int,(k==(t.length:Int)&&c==103)=b∧den C (n+9) 112 [.str t] []=some (.tup [I k,I c],[]):=by
 have i0:aIndex Tryz.prog 9 (.str t) (I 0)=some (.int .u8 t[0].toNat):=ix9 t h0
 have sc:∀{g:FuncId} {p:UInt8→Bool} (hg:PT g p) (hgr:(AV.fn g [] []).noRef=true) (n:Nat) (hn:t.length+100<n),aCall Tryz.prog (den C (n+8)) 124 [.str t,I 0,.fn g [] []] []=some (I (scanK p t 0),[]):=fun hg hgr n hn=>a124 (n:=n+2) hg hgr t 0 (by omega) (by omega) hb []
 have q1:=fun n=>pt123 t[0] (n+3) []
 have q2:=fun n=>ep125 (n+7) t [47,47] []
 have q3:=fun n=>pt127 t[0] (n+3) []
 have q4:=fun n=>pt129 t[0] (n+3) []
 have sk:scanK (byP 128) t 0≤t.length:=scanK_le (by omega)
 have f123:(AV.fn 123 [] []).strip=.fn 123 [] []:=rfl
 cases h1:byP 123 t[0] with
 | true =>
  refine⟨false,fun n hn=>⟨scanK (byP 123) t 0,101,by simp,?_⟩⟩
  have q1:=q1 n
  rw[h1]at q1
  rw[rd Tryz.func112];conv in compF _ _ _ _ _ _=>cbv
  simp only[strip_rs,strip_mr,strip_nilf,Bool.false_eq_true,if_false,↓kR,kE,kK,sL,C_P,Nat.reduceEqDiff,reduceIte,Tryz.f112,i0,↓rC_seqj,q1,sc pt123 rfl n hn,sL]
 | false =>
 have q1:∀n,aCall Tryz.prog (den C (n+8)) 123 [.int .u8 t[0].toNat] []=some (.bool false,[]):=fun n=>by rw[←h1];exact q1 n
 cases h2:Lib.hasPrefix t [47,47] with
 | true =>
  refine⟨false,fun n hn=>⟨scanK (byP 126) t 0,102,by simp,?_⟩⟩
  have q2:=q2 n
  rw[h2]at q2
  rw[rd Tryz.func112];conv in compF _ _ _ _ _ _=>cbv
  simp only[strip_rs,strip_mr,strip_nilf,Bool.false_eq_true,if_false,↓kR,kE,kK,sL,C_P,Nat.reduceEqDiff,reduceIte,Tryz.f112,i0,↓rC_seqj,q1,q2,sc pt126 rfl n hn,sL]
 | false =>
 have q2:∀n,aCall Tryz.prog (den C (n+8)) 125 [.str t,.str [47,47]] []=some (.bool false,[]):=fun n=>by rw[←h2];exact q2 n
 cases h3:byP 127 t[0] with
 | true =>
  have q3:∀n,aCall Tryz.prog (den C (n+8)) 127 [.int .u8 t[0].toNat] []=some (.bool true,[]):=fun n=>by rw[←h3];exact q3 n
  have kw:=fun n=>a131 (n+5) ([]:Heap)
  have ct:=fun n (hn:100<n)=>a130 (n:=n+6) (wsOf 131) (t.take (scanK (byP 128) t 0)) (by have:=l131;omega) (by have:=l131;omega) []
  have sb:=sub9' t (scanK (byP 128) t 0) sk
  by_cases h5:t.take (scanK (byP 128) t 0)∈wsOf 131
  ·refine⟨false,fun n hn=>⟨scanK (byP 128) t 0,104,by simp,?_⟩⟩
   have ct:=ct n (by omega)
   rw[decide_eq_true h5]at ct
   rw[rd Tryz.func112];conv in compF _ _ _ _ _ _=>cbv
   simp only[strip_rs,strip_mr,strip_nilf,Bool.false_eq_true,if_false,↓kR,kE,kK,sL,C_P,Nat.reduceEqDiff,reduceIte,Tryz.f112,i0,↓rC_seqj,q1,q2,q3,sc pt128 rfl n hn,kw n,strW,sb,ct,sL]
  ·refine⟨((scanK (byP 128) t 0:Nat):Int)==(t.length:Int),fun n hn=>⟨scanK (byP 128) t 0,103,by simp,?_⟩⟩
   have ct:=ct n (by omega)
   rw[decide_eq_false h5]at ct
   rw[rd Tryz.func112];conv in compF _ _ _ _ _ _=>cbv
   simp only[strip_rs,strip_mr,strip_nilf,Bool.false_eq_true,if_false,↓kR,kE,kK,sL,C_P,Nat.reduceEqDiff,reduceIte,Tryz.f112,i0,↓rC_seqj,q1,q2,q3,sc pt128 rfl n hn,kw n,strW,sb,ct,sL]
 | false =>
 have q3:∀n,aCall Tryz.prog (den C (n+8)) 127 [.int .u8 t[0].toNat] []=some (.bool false,[]):=fun n=>by rw[←h3];exact q3 n
 cases h4:byP 129 t[0] with
 | true =>
  refine⟨false,fun n hn=>⟨scanK (byP 129) t 0,105,by simp,?_⟩⟩
  have q4:=q4 n
  rw[h4]at q4
  rw[rd Tryz.func112];conv in compF _ _ _ _ _ _=>cbv
  simp only[strip_rs,strip_mr,strip_nilf,Bool.false_eq_true,if_false,↓kR,kE,kK,sL,C_P,Nat.reduceEqDiff,reduceIte,Tryz.f112,i0,↓rC_seqj,q1,q2,q3,q4,sc pt129 rfl n hn,sL]
 | false =>
 have q4:∀n,aCall Tryz.prog (den C (n+8)) 129 [.int .u8 t[0].toNat] []=some (.bool false,[]):=fun n=>by rw[←h4];exact q4 n
 cases h5:((t[0].toNat:Int)==34) with
 | true =>
  refine⟨false,fun n hn=>?_⟩
  obtain⟨k,c,e1,e2⟩:=a132 (n+1) t h0 (by omega) hb
  have e2:=e2 []
  refine⟨k,c,by rcases e1 with rfl|rfl<;>simp,?_⟩
  rw[rd Tryz.func112];conv in compF _ _ _ _ _ _=>cbv
  simp only[strip_rs,strip_mr,strip_nilf,Bool.false_eq_true,if_false,↓kR,kE,kK,sL,C_P,Nat.reduceEqDiff,reduceIte,Tryz.f112,i0,↓rC_seqj,q1,q2,q3,q4,h5,e2,sL]
 | false =>
 refine⟨false,fun n hn=>?_⟩
 have fin:∀x:Bool,∃k c:Int,(k==(t.length:Int)&&c==103)=false∧br (.bool x) (some (AV.tup [I 1,I 107],([]:Heap))) (some (AV.tup [I 1,I 108],[]))=some (.tup [I k,I c],[]):=fun x=>by
  cases x
  ·exact⟨1,108,by simp,rfl⟩
  ·exact⟨1,107,by simp,rfl⟩
 have q5:=ei134 (den C 0) (n+7) [40,41,123,125,91,93,60,62,44,59,58,46,61,43,45,42,47,33,38,124] t[0].toNat []
 by_cases hl:1<t.length
 ·have hl':decide ((1:Int)<t.length)=true:=decide_eq_true (by omega)
  have tw:=a133 (n+5) ([]:Heap)
  have s2:aSl Tryz.prog 9 (.str t) none (some (I 2)) none=some (.str (t.take 2)):=sub9' t 2 (by omega)
  have ct:=a130 (n:=n+6) (wsOf 133) (t.take 2) (by have:=l133;omega) (by have:=l133;omega) []
  by_cases h6:t.take 2∈wsOf 133
  ·rw[decide_eq_true h6]at ct
   refine⟨2,107,by simp,?_⟩
   rw[rd Tryz.func112];conv in compF _ _ _ _ _ _=>cbv
   simp only[strip_rs,strip_mr,strip_nilf,Bool.false_eq_true,if_false,↓kR,kE,kK,sL,C_P,Nat.reduceEqDiff,reduceIte,Tryz.f112,i0,↓rC_seqj,q1,q2,q3,q4,h5,len9',hl',tw,strW,s2,ct,sL]
  ·rw[decide_eq_false h6]at ct
   rw[rd Tryz.func112];conv in compF _ _ _ _ _ _=>cbv
   simp only[strip_rs,strip_mr,strip_nilf,Bool.false_eq_true,if_false,↓kR,kE,kK,sL,C_P,Nat.reduceEqDiff,reduceIte,Tryz.f112,i0,↓rC_seqj,q1,q2,q3,q4,h5,len9',hl',tw,strW,s2,ct,q5,sL]
   exact fin _
 ·have hl':decide ((1:Int)<t.length)=false:=decide_eq_false (by omega)
  rw[rd Tryz.func112];conv in compF _ _ _ _ _ _=>cbv
  simp only[strip_rs,strip_mr,strip_nilf,Bool.false_eq_true,if_false,↓kR,kE,kK,sL,C_P,Nat.reduceEqDiff,reduceIte,Tryz.f112,i0,↓rC_seqj,q1,q2,q3,q4,h5,len9',hl',q5,sL]
  exact fin _
theorem ex100 (t:Bytes):∃b:Bool,∀n,den C (n+300) 100 [.str t] []=some (.bool b,[]):=by
 by_cases h0:t.length=0
 ·refine⟨false,fun n=>?_⟩
  have e:((t.length:Int)==0)=true:=by simp[h0]
  rw[rd Tryz.func100];conv in compF _ _ _ _ _ _=>cbv
  simp only[strip_rs,strip_mr,strip_nilf,Bool.false_eq_true,if_false,↓kR,kE,kK,sL,C_P,Nat.reduceEqDiff,reduceIte,Tryz.f100,len9',e,sL]
 ·have e:((t.length:Int)==0)=false:=by simpa using h0
  by_cases h1:30<t.length
  ·refine⟨false,fun n=>?_⟩
   have e2:decide ((30:Int)<t.length)=true:=decide_eq_true (by omega)
   rw[rd Tryz.func100];conv in compF _ _ _ _ _ _=>cbv
   simp only[strip_rs,strip_mr,strip_nilf,Bool.false_eq_true,if_false,↓kR,kE,kK,sL,C_P,Nat.reduceEqDiff,reduceIte,Tryz.f100,len9',e,e2,sL]
  ·have e2:decide ((30:Int)<t.length)=false:=decide_eq_false (by omega)
   obtain⟨b,hb⟩:=c112 t (by omega) (by omega)
   refine⟨b,fun n=>?_⟩
   obtain⟨k,c,k1,k2⟩:=hb (n+290) (by omega)
   have cl:aCall Tryz.prog (den C (n+299)) 112 [.str t] []=some (.tup [I k,I c],[]):=aC (by kernel_rfl) rfl (fun _=>⟨[],k2⟩) fun e=>nomatch (show true=false from e)
   rw[rd Tryz.func100];conv in compF _ _ _ _ _ _=>cbv
   simp only[strip_rs,strip_mr,strip_nilf,Bool.false_eq_true,if_false,↓kR,kE,kK,sL,C_P,Nat.reduceEqDiff,reduceIte,Tryz.f100,len9',e,e2,cl,sL]
   cases hk:(k==(t.length:Int)) with
   | false =>
    rw[hk]at k1
    simp only[strip_rs,strip_mr,strip_nilf,Bool.false_eq_true,if_false,↓kR,kE,kK,sL,C_P,Nat.reduceEqDiff,reduceIte,sL]
    rw[←k1];rfl
   | true =>
    rw[hk]at k1
    simp only[strip_rs,strip_mr,strip_nilf,Bool.false_eq_true,if_false,↓kR,kE,kK,sL,C_P,Nat.reduceEqDiff,reduceIte,sL]
    rw[←k1];rfl
noncomputable def isId (t:Bytes):Bool:=Classical.choose (ex100 t)
theorem a100 (n:Nat)(t:Bytes)(s:Heap):aCall Tryz.prog (den C (n+300)) 100 [.str t] s=some (.bool (isId t),s) :=
 aC (by kernel_rfl) rfl (fun _=>⟨[],Classical.choose_spec (ex100 t) n⟩) fun e=>nomatch (show true=false from e)
end Srv
end

section
namespace Srv
open Go Go.Abs Go.Proofs
theorem c95 {N:Nat}{s:Heap}{v f:AV}{l:List Mod}(h:SL 45 2 s v (l.map modC))(hf:f.strip=f)(p:Mod→Bool)(hp:∀s1,Gr s s1→∀d∈l,∃s2,aCallV Tryz.prog (den C N) f [.agg (modC d)] s1=some (.bool (p d),s2)∧Gr s1 s2)(hn:l.length<N) :
  ∃s',den C (N+1) 95 [v,f] s=some (I (fidx p l),s')∧Gr s s':=by
 have hs:=h.strip
 have hlen:aLen Tryz.prog 46 v.strip=some (I l.length):=by have:=hs.len und46;rwa [List.length_map]at this
 have hb:=h.els.2
 rw[List.length_map]at hb
 rw[rd Tryz.func95];conv in compF _ _ _ _ _ _=>cbv
 simp only[strip_rs,strip_mr,strip_nilf,Bool.false_eq_true,if_false,↓kR,kE,kK,sL,C_P,Nat.reduceEqDiff,reduceIte,Tryz.f95,hlen,sL]
 refine loopI (R:=fun a=>∃s',a=some (I (fidx p l),s')∧Gr s s') (fun i e s1=>Gr s s1∧e 0=v∧e 1=f∧e 7=I l.length∧e 8=I i∧∀x∈l.take i,p x=false) l.length ?_ ?_ l.length 0 (by omega) N hn _ _ ⟨.refl _,rfl,rfl,rfl,rfl,by simp⟩
 ·rintro i e s1 q hi ⟨g1,e0,e1,e7,e8,ht⟩ hk
  have hi':i<(l.map modC).length:=by rw[List.length_map];exact hi
  obtain⟨a,p1,p2,p3,_⟩:=(hs.gr g1).at und46 sz45 (by decide) (by decide) hi'
  rw[List.getElem_map]at p2
  have hlt:decide (i<l.length)=true:=decide_eq_true hi
  obtain⟨s2,c1,c2⟩:=hp s1 g1 l[i] (List.getElem_mem hi)
  simp only[strip_rs,strip_mr,strip_nilf,Bool.false_eq_true,if_false,↓kR,kE,kK,sL,C_P,Nat.reduceEqDiff,reduceIte,e0,e1,e7,e8,hf,hlt,p1,p2,c1,sL]
  by_cases hx:p l[i]=true
  ·rw[hx]
   simp only[sL]
   rw[fidx_at hi hx ht]
   exact⟨s2,rfl,g1.trans c2⟩
  ·have hx:p l[i]=false:=by simpa using hx
   rw[hx]
   simp only[sL]
   rw[wrap64 (by omega) (by omega)]
   refine hk _ _ ⟨g1.trans c2,e0,e1,e7,iS i,?_⟩
   rw[List.take_succ,List.getElem?_eq_getElem hi]
   intro x hx'
   rcases List.mem_append.1 hx' with hx'|hx'
   ·exact ht x hx'
   ·simp only[Option.toList_some,List.mem_singleton]at hx'
    rw[hx'];exact hx
 ·rintro e s1 q ⟨g1,e0,e1,e7,e8,ht⟩
  have hlt:decide (l.length<l.length)=false:=decide_eq_false (by omega)
  simp only[strip_rs,strip_mr,strip_nilf,Bool.false_eq_true,if_false,↓kR,kE,kK,sL,C_P,Nat.reduceEqDiff,reduceIte,e7,e8,hlt,sL]
  rw[List.take_length]at ht
  rw[fidx_no ht]
  exact⟨s1,rfl,g1⟩
theorem SL.pure {ty z:Nat}{s s':Heap}{v:AV}{es:List (List AV)}(h:SL ty z s v es)(hr:v.noRef=true):SL ty z s' v es:=h.fr fun Q off n e=>by rw[e]at hr;cases hr
theorem aGr {D:Den}{g:FuncId}{args:List AV}{s:Heap}{r:AV}(en:enterable Tryz.prog g=true)(hr:r.noRef=true)(h:noRefL args=true→∃s1,D g args []=some (r,s1))(k:noRefL args=false→∃s',D g args s=some (r,s')∧Gr s s'):∃s',aCall Tryz.prog D g args s=some (r,s')∧Gr s s':=by
 cases hn:noRefL args with
 | true=>exact⟨s,aC en hr h (fun e=>by rw[hn]at e;cases e),.refl s⟩
 | false =>
  obtain⟨s',h1,h2⟩:=k hn
  refine⟨s',?_,h2⟩
  rw[aCall,if_pos en,if_neg (by rw[hn];exact Bool.noConfusion)]
  exact h1
theorem noRefL2 {x y:AV}(h:noRefL [x,y]=true):x.noRef=true:=by
 simp only[noRefL,Bool.and_eq_true]at h
 exact h.1
theorem c96 (n:Nat)(a b x:Bytes)(s:Heap):den C (n+1) 96 [.agg [.str a,.str b],.box [.str x] 0] s=some (.bool (a==x),s):=by
 have bx:∀s,aBox false 45 (.agg [.str a,.str b]) s=some (.box [.str a,.str b] 0,s):=fun s=>boxV rfl s
 have l0:∀s:Heap,aLoad false false 1 (.box [.str a,.str b] 0) s=some (.str a,s):=fun s=>by rw[aLoad_one];rfl
 have l1:∀s:Heap,aLoad false false 1 (.box [.str x] 0) s=some (.str x,s):=fun s=>by rw[aLoad_one];rfl
 rw[rd Tryz.func96];conv in compF _ _ _ _ _ _=>cbv
 simp only[strip_rs,strip_mr,strip_nilf,Bool.false_eq_true,if_false,↓kR,kE,kK,sL,C_P,Nat.reduceEqDiff,reduceIte,Tryz.f96,bx,l0,l1,eq9,sL]
abbrev nmP (t:Bytes)(m:Mod):Bool:=m.1==t
theorem c80 (n:Nat){s:Heap}{v:AV}{ms:List Mod}(h:SL 45 2 s v (ms.map modC))(t:Bytes)(hn:ms.length<n):∃s',den C (n+5) 80 [v,.str t] s=some (I (fidx (nmP t) ms),s')∧Gr s s':=by
 have bx:∀s,aBox false 9 (.str t) s=some (.box [.str t] 0,s):=fun s=>boxV rfl s
 have hp:∀{s:Heap},SL 45 2 s v.strip (ms.map modC)→∃s',den C (n+4) 95 [v.strip,.fn 96 [] [.box [.str t] 0]] s=some (I (fidx (nmP t) ms),s')∧Gr s s':=fun {s} h=>c95 (N:=n+3) h rfl (nmP t) (fun s1 g1 d hd=>⟨s1,by
  show aCall Tryz.prog (den C (n+3)) 96 [.agg [.str d.1,.str d.2],.box [.str t] 0] s1=_
  exact aC (by kernel_rfl) rfl (fun _=>⟨[],c96 (n+2) d.1 d.2 t []⟩) fun e=>(nomatch (show true=false from e)),.refl _⟩) (by omega)
 obtain⟨s1,c1,c2⟩:=aGr (D:=den C (n+4)) (args:=[v.strip,.fn 96 [] [.box [.str t] 0]]) (by kernel_rfl:enterable Tryz.prog 95=true) rfl (fun hr=>(hp (s:=[]) (h.strip.pure (noRefL2 hr))).imp fun _ h=>h.1) (fun _=>hp h.strip)
 rw[rd Tryz.func80];conv in compF _ _ _ _ _ _=>cbv
 simp only[strip_rs,strip_mr,strip_nilf,Bool.false_eq_true,if_false,↓kR,kE,kK,sL,C_P,Nat.reduceEqDiff,reduceIte,Tryz.f80,bx,strip2,c1,sL]
 exact⟨s1,rfl,c2⟩
theorem a80 (n:Nat){s:Heap}{v:AV}{ms:List Mod}(h:SL 45 2 s v (ms.map modC))(t:Bytes)(hn:ms.length<n):∃s',aCall Tryz.prog (den C (n+5)) 80 [v,.str t] s=some (I (fidx (nmP t) ms),s')∧Gr s s' :=
 aGr (by kernel_rfl) rfl (fun hr=>(c80 n (h.pure (noRefL2 hr)) t hn).imp fun _ h=>h.1) fun _=>c80 n h t hn
theorem a97 (n:Nat){s:Heap}{v:AV}{ms:List Mod}(h:SL 45 2 s v (ms.map modC)){g:FuncId}(p:Mod→Bool)(hp:∀(s:Heap)(d:Mod),aCallV Tryz.prog (den C (n+3)) (.fn g [] []) [.agg (modC d)] s=some (.bool (p d),s))(hn:ms.length<n):∃s',aCall Tryz.prog (den C (n+5)) 97 [v,.fn g [] []] s=some (.bool (ms.any p),s')∧Gr s s':=by
 have k:∀{s:Heap} {v:AV},SL 45 2 s v (ms.map modC)→∃s',den C (n+4) 95 [v,.fn g [] []] s=some (I (fidx p ms),s')∧Gr s s':=fun {s v} h=>c95 (N:=n+3) h rfl p (fun s1 g1 d hd=>⟨s1,hp s1 d,.refl _⟩) (by omega)
 have q':decide (fidx p ms ≥ 0)=ms.any p:=fidx_nn p ms
 have q:=fidx_nn p ms
 have sg:(AV.fn g [] []).strip=.fn g [] []:=rfl
 have m:∀{s:Heap} {v:AV},SL 45 2 s v (ms.map modC)→∃s',den C (n+5) 97 [v,.fn g [] []] s=some (.bool (ms.any p),s')∧Gr s s':=fun {s v} h=>by
  obtain⟨s1,c1,c2⟩:=aGr (D:=den C (n+4)) (args:=[v.strip,.fn g [] []]) (by kernel_rfl:enterable Tryz.prog 95=true) rfl (fun hr=>(k (s:=[]) (h.strip.pure (noRefL2 hr))).imp fun _ h=>h.1) (fun _=>k h.strip)
  rw[rd Tryz.func97];conv in compF _ _ _ _ _ _=>cbv
  simp only[strip_rs,strip_mr,strip_nilf,Bool.false_eq_true,if_false,↓kR,kE,kK,sL,C_P,Nat.reduceEqDiff,reduceIte,Tryz.f97,sg,strip2,c1,q,q',sL]
  exact⟨s1,rfl,c2⟩
 exact aGr (by kernel_rfl) rfl (fun hr=>(m (s:=[]) (h.pure (noRefL2 hr))).imp fun _ h=>h.1) fun _=>m h
theorem c98 (n:Nat)(a b:Bytes)(s:Heap):den C (n+1) 98 [.agg [.str a,.str b]] s=some (.bool (decide (2000<b.length)),s):=by
 have bx:∀s,aBox false 45 (.agg [.str a,.str b]) s=some (.box [.str a,.str b] 0,s):=fun s=>boxV rfl s
 have l0:∀s:Heap,aLoad false false 1 (.box [.str a,.str b] 1) s=some (.str b,s):=fun s=>by rw[aLoad_one];rfl
 have e:decide ((2000:Int)<b.length)=decide (2000<b.length):=decide_eq_decide.2 (by omega)
 rw[rd Tryz.func98];conv in compF _ _ _ _ _ _=>cbv
 simp only[strip_rs,strip_mr,strip_nilf,Bool.false_eq_true,if_false,↓kR,kE,kK,sL,C_P,Nat.reduceEqDiff,reduceIte,Tryz.f98,bx,l0,len9,e,sL]
theorem c99 (n:Nat)(a b:Bytes)(s:Heap):den C (n+301) 99 [.agg [.str a,.str b]] s=some (.bool (!isId a),s):=by
 have bx:∀s,aBox false 45 (.agg [.str a,.str b]) s=some (.box [.str a,.str b] 0,s):=fun s=>boxV rfl s
 have l0:∀s:Heap,aLoad false false 1 (.box [.str a,.str b] 0) s=some (.str a,s):=fun s=>by rw[aLoad_one];rfl
 rw[rd Tryz.func99];conv in compF _ _ _ _ _ _=>cbv
 simp only[strip_rs,strip_mr,strip_nilf,Bool.false_eq_true,if_false,↓kR,kE,kK,sL,C_P,Nat.reduceEqDiff,reduceIte,Tryz.f99,bx,l0,a100,sL]
theorem SL.take {ty z t:Nat}(hu:Tryz.prog.underlying t=some (.slice ty))(hz:szOf Tryz.prog ty=some z){s:Heap}{v:AV}{es:List (List AV)}(h:SL ty z s v es){i:Nat}(hi:i≤es.length):∃v',aSl Tryz.prog t v none (some (I i)) none=some v'∧SL ty z s v' (es.take i)∧v'.strip=v':=by
 cases h with
 | nil =>
  have:i=0:=Nat.le_zero.1 hi
  subst this
  refine⟨.nils,?_,.nil,rfl⟩
  simp[aSl,hu]
 | sl _ f h =>
  refine⟨.sl ty z ((es.take i).map .agg) .sh,?_,.sl _ _ ⟨fun e he=>h.1 e (List.mem_of_mem_take he),by have:=h.2;simp;omega⟩,rfl⟩
  have:(i:Int)≤es.length:=by omega
  simp[aSl,hu,hz,aSlice,aBound,this,List.map_take]
 | rs Q off pre junk _ h hQ hp hn =>
  have hle:(i:Int)≤es.length:=by omega
  refine⟨.rs ty z Q off i,?_,?_,rfl⟩
  ·simp[aSl,hu,hz,aRsTake,aBound,hle]
  ·have h2:Els z (es.take i):=⟨fun e he=>h.1 e (List.mem_of_mem_take he),by have:=h.2;simp;omega⟩
   have:=SL.rs (ty:=ty) (s:=s) Q off pre ((es.drop i).flatten++junk) (es.take i) h2 (by rw[hQ,←List.append_assoc (es.take i).flatten,←List.flatten_append,List.take_append_drop]) hp (by rw[←List.append_assoc (es.take i).flatten,←List.flatten_append,List.take_append_drop];exact hn)
   rwa [List.length_take,Nat.min_eq_left hi]at this
noncomputable def vErr (ms:List Mod):Int:=if 8<ms.length∨(ms.any fun m=>decide (2000<m.2.length))=true then 2 else if(ms.any fun m=>!isId m.1)=true then 3 else if(nms ms).Nodup then 0 else 6
theorem nms_take (ms:List Mod)(i:Nat):nms (ms.take i)=(nms ms).take i:=by simp[nms,List.map_take]
theorem nodup_succ {α:Type}{l:List α}{i:Nat}(hi:i<l.length):(l.take (i+1)).Nodup↔(l.take i).Nodup∧l[i]∉l.take i:=by
 rw[List.take_succ,List.getElem?_eq_getElem hi]
 simp only[Option.toList_some]
 rw[List.nodup_append]
 simp only[List.nodup_cons,List.not_mem_nil,not_false_eq_true,List.nodup_nil,and_self,List.mem_singleton,true_and]
 constructor
 ·rintro⟨h1,h2⟩
  exact⟨h1,fun hm=>h2 _ hm _ rfl rfl⟩
 ·rintro⟨h1,h2⟩
  exact⟨h1,fun a ha b hb e=>h2 (hb▸e▸ha)⟩
theorem c81 (n:Nat){s:Heap}{v:AV}{ms:List Mod}(h:SL 45 2 s v (ms.map modC))(hn:ms.length<n):∃s',den C (n+320) 81 [v] s=some (I (vErr ms),s')∧Gr s s':=by
 have hs:=h.strip
 have hlen:aLen Tryz.prog 46 v.strip=some (I ms.length):=by have:=hs.len und46;rwa [List.length_map]at this
 have p98:∀(s:Heap) (d:Mod),aCallV Tryz.prog (den C (n+317)) (.fn 98 [] []) [.agg (modC d)] s=some (.bool (decide (2000<d.2.length)),s):=fun s d=>by
  show aCall Tryz.prog (den C (n+317)) 98 [.agg [.str d.1,.str d.2]] s=_
  exact aC (by kernel_rfl) rfl (fun _=>⟨[],c98 (n+316) d.1 d.2 []⟩) fun e=>(nomatch (show true=false from e))
 have p99:∀(s:Heap) (d:Mod),aCallV Tryz.prog (den C (n+317)) (.fn 99 [] []) [.agg (modC d)] s=some (.bool (!isId d.1),s):=fun s d=>by
  show aCall Tryz.prog (den C (n+317)) 99 [.agg [.str d.1,.str d.2]] s=_
  exact aC (by kernel_rfl) rfl (fun _=>⟨[],c99 (n+16) d.1 d.2 []⟩) fun e=>(nomatch (show true=false from e))
 obtain⟨s1,a1,g1⟩:=a97 (n+314) hs (g:=98) (fun m=>decide (2000<m.2.length)) p98 (by omega)
 obtain⟨s2,a2,g2⟩:=a97 (n+314) (hs.gr g1) (g:=99) (fun m=>!isId m.1) p99 (by omega)
 have hb:=h.els.2
 rw[List.length_map]at hb
 unfold vErr
 by_cases h8:8<ms.length
 ·have e8:decide ((8:Int)<ms.length)=true:=decide_eq_true (by omega)
  rw[rd Tryz.func81];conv in compF _ _ _ _ _ _=>cbv
  simp only[strip_rs,strip_mr,strip_nilf,Bool.false_eq_true,if_false,↓kR,kE,kK,sL,C_P,Nat.reduceEqDiff,reduceIte,Tryz.f81,hlen,e8,sL]
  rw[if_pos (.inl h8)]
  exact⟨s,rfl,.refl s⟩
 ·have e8:decide ((8:Int)<ms.length)=false:=decide_eq_false (by omega)
  cases hl:ms.any fun m=>decide (2000<m.2.length) with
  | true =>
   rw[hl]at a1
   rw[rd Tryz.func81];conv in compF _ _ _ _ _ _=>cbv
   simp only[strip_rs,strip_mr,strip_nilf,Bool.false_eq_true,if_false,↓kR,kE,kK,sL,C_P,Nat.reduceEqDiff,reduceIte,Tryz.f81,hlen,e8,strip2,a1,sL]
   rw[if_pos (Or.inr trivial)]
   exact⟨s1,rfl,g1⟩
  | false =>
   rw[hl]at a1
   rw[if_neg (by rintro(h|h);exact h8 h;cases h)]
   cases hi:ms.any fun m=>!isId m.1 with
   | true =>
    rw[hi]at a2
    rw[rd Tryz.func81];conv in compF _ _ _ _ _ _=>cbv
    simp only[strip_rs,strip_mr,strip_nilf,Bool.false_eq_true,if_false,↓kR,kE,kK,sL,C_P,Nat.reduceEqDiff,reduceIte,Tryz.f81,hlen,e8,strip2,a1,a2,sL]
    exact⟨s2,rfl,g1.trans g2⟩
   | false =>
    rw[hi]at a2
    rw[if_neg (by decide)]
    rw[rd Tryz.func81];conv in compF _ _ _ _ _ _=>cbv
    simp only[strip_rs,strip_mr,strip_nilf,Bool.false_eq_true,if_false,↓kR,kE,kK,sL,C_P,Nat.reduceEqDiff,reduceIte,Tryz.f81,hlen,e8,strip2,a1,a2,sL]
    refine loopI (R:=fun a=>∃s',a=some (I (if(nms ms).Nodup then 0 else 6),s')∧Gr s s') (fun i e s1=>Gr s s1∧e 0=v∧e 14=v.strip∧e 15=I ms.length∧e 16=I i∧(nms (ms.take i)).Nodup) ms.length ?_ ?_ ms.length 0 (by omega) _ (by omega) _ _ ⟨g1.trans g2,rfl,rfl,rfl,rfl,by simp[nms]⟩
    ·rintro i e s3 q hi ⟨g3,e0,e14,e15,e16,hd⟩ hk
     have hi':i<(ms.map modC).length:=by rw[List.length_map];exact hi
     obtain⟨p,p1,p2,p3,_⟩:=(hs.gr g3).at und46 sz45 (by decide) (by decide) hi'
     rw[List.getElem_map]at p2
     have hlt:decide (i<ms.length)=true:=decide_eq_true hi
     obtain⟨s4,e4⟩:∃s4,s3++[(45,[AV.str ms[i].1,AV.str ms[i].2])]=s4:=⟨_,rfl⟩
     have st4:aStore 2 (s3++[(45,[AV.str [],AV.str []])]) (.ref s3.length 0) (.agg (modC ms[i]))=some s4:=by rw[←e4];exact st45 s3 _ _
     have g4:Gr s3 s4:=e4▸Gr.app ..
     have at4:s4[s3.length]?=some (45,[AV.str ms[i].1,AV.str ms[i].2]):=by rw[←e4];exact gapp_new
     have l4:aLoad false false 1 (.ref s3.length 0) s4=some (.str ms[i].1,s4):=ldv at4 (by decide) rfl
     obtain⟨w,w1,w2,w3⟩:=(hs.gr (g3.trans g4)).take und46 sz45 (i:=i) (by rw[List.length_map];omega)
     rw[←List.map_take]at w2
     obtain⟨s5,a5,g5⟩:=a80 (n+314) w2 ms[i].1 (by simp;omega)
     have q1:decide (fidx (nmP ms[i].1) (ms.take i) ≥ 0)=(ms.take i).any (nmP ms[i].1):=fidx_nn _ _
     have q2:=fidx_nn (nmP ms[i].1) (ms.take i)
     simp only[strip_rs,strip_mr,strip_nilf,Bool.false_eq_true,if_false,↓kR,kE,kK,sL,C_P,Nat.reduceEqDiff,reduceIte,e0,e14,e15,e16,hlt,p1,p2,allocS z45 (by decide) ⟨nofun,rfl⟩,st4,w1,w3,l4,a5,q1,q2,sL]
     have mem:(ms.take i).any (nmP ms[i].1)=true↔(nms ms)[i]'(by simpa[nms] using hi)∈(nms ms).take i:=by
      rw[←nms_take]
      simp only[List.any_eq_true,nmP,beq_iff_eq,nms,List.mem_map,List.getElem_map]
     cases hx:(ms.take i).any (nmP ms[i].1) with
     | true =>
      simp only[sL]
      have hm:=mem.1 hx
      rw[if_neg (fun hnd=>?_)]
      ·exact⟨s5,rfl,(g3.trans g4).trans g5⟩
      ·have:=(nodup_succ (l:=nms ms) (by simpa[nms] using hi)).1 (hnd.sublist (List.take_sublist _ _))
       exact this.2 hm
     | false =>
      simp only[sL]
      rw[wrap64 (by omega) (by omega)]
      refine hk _ _ ⟨(g3.trans g4).trans g5,e0,e14,e15,iS i,?_⟩
      rw[nms_take,nodup_succ (by simpa[nms] using hi),←nms_take]
      exact⟨hd,fun hm=>by rw[nms_take]at hm;rw[mem.2 hm]at hx;cases hx⟩
    ·rintro e s3 q ⟨g3,e0,e14,e15,e16,hd⟩
     have hlt:decide (ms.length<ms.length)=false:=decide_eq_false (by omega)
     simp only[strip_rs,strip_mr,strip_nilf,Bool.false_eq_true,if_false,↓kR,kE,kK,sL,C_P,Nat.reduceEqDiff,reduceIte,e15,e16,hlt,sL]
     rw[List.take_length]at hd
     rw[if_pos hd]
     exact⟨s3,rfl,g3⟩
end Srv
end

section
namespace Srv
open Go Go.Abs Go.Proofs
theorem setF_same {f:Inp}{k:K3}{xs:List Int}{t:Bytes}{r:Int}:(setF f k xs t r k).xs=xs∧(setF f k xs t r k).t=t:=by
 unfold setF
 by_cases h:same1 f k xs t=true
 ·rw[if_pos h]
  unfold same1 at h
  simp only[Bool.and_eq_true,beq_iff_eq,decide_eq_true_eq]at h
  exact⟨h.2,h.1⟩
 ·rw[if_neg h];simp
theorem setF_other {f:Inp}{k d:K3}{xs:List Int}{t:Bytes}{r:Int}(h:k≠d):setF f k xs t r d=f d:=by
 unfold setF
 split
 ·rfl
 ·simp[h]
theorem setF_new (f:Inp)(k d:K3)(xs:List Int)(t:Bytes)(r:Int):setF f k xs t r d=f d∨(setF f k xs t r d).ch=r+1:=by
 unfold setF
 split
 ·exact .inl rfl
 ·by_cases h:k=d
  ·exact .inr (by simp[h])
  ·exact .inl (by simp[h])
theorem setR_le (f:Inp)(k:K3)(xs:List Int)(t:Bytes)(r:Int):r≤setR f k xs t r∧setR f k xs t r≤r+1:=by
 unfold setR;split<;>omega
theorem setF_ch {f:Inp}{k:K3}{xs:List Int}{t:Bytes}{r:Int}(h:∀d,(f d).ch≤r)(d:K3):(setF f k xs t r d).ch≤setR f k xs t r:=by
 unfold setF setR
 by_cases hs:same1 f k xs t=true
 ·rw[if_pos hs,if_pos hs];exact h d
 ·rw[if_neg hs,if_neg hs]
  by_cases hk:k=d
  ·simp[hk]
  ·have:=h d
   simp only[hk,if_false];omega
theorem setF_step (f:Inp)(k:K3)(xs:List Int)(t:Bytes){r r0:Int}(h:r0≤r)(d:K3):setF f k xs t r d=f d∨r0<(setF f k xs t r d).ch:=by
 rcases setF_new f k d xs t r with e|e
 ·exact .inl e
 ·exact .inr (by omega)
theorem ty_ne {s:Heap}{i j:Nat}{t t':TypeId}{c c':List AV}(h1:s[i]?=some (t,c))(h2:s[j]?=some (t',c'))(h3:t≠t'):i≠j:=fun e=>by rw[e,h2]at h1;cases h1;exact h3 rfl
theorem Upd.rows {X:List Nat}{s s':Heap}(u:Upd X s s')(h:∀i∈X,∃t cs,s[i]?=some (t,cs)∧t≠3∧t≠79):Rows s s':=fun i t cs hi ht=>by
 rw[u.old i (glt hi) (fun hm=>?_),hi]
 obtain⟨t',cs',h1,h2,h3⟩:=h i hm
 rw[hi]at h1;cases h1
 rcases ht with rfl|rfl
 ·exact h2 rfl
 ·exact h3 rfl
theorem m101 (n:Nat){s:Heap}{F:Foot}{S M D Mr Ma Av:Nat}{r:Int}{f:Inp}{comps clock:Int}{ql:List Ent}(h:Memo s F S M D Mr Ma Av r f comps clock ql)(hr:0≤r∧r<1000000000){v:AV}{xs:List Int}(hv:NV s v xs)(a b:Int)(t:Bytes)(hn:xs.length<2) :
  ∃s',aCall Tryz.prog (den C (n+11)) 101 [.ref D 0,Key 0 a b,.agg [v,.str t],I 0] s=some (I 0,s')∧Memo s' (FN F s s') S M D Mr Ma Av (setR f (0,a,b) xs t r) (setF f (0,a,b) xs t r) comps clock ql∧Upd [S,M] s s':=by
 obtain⟨s',c1,c2,c3⟩:=c101 n h.db.inp h.hF hr h.db.db hv a b t hn
 obtain⟨xb,xc,hS⟩:=h.db.inp.st
 obtain⟨l,hM,_⟩:=h.db.inp.mp
 have old:∀{i t cs},s[i]?=some (t,cs)→t≠148→i≠M→s'[i]?=some (t,cs):=fun hi h1 h2=>by
  rw[c3.old _ (glt hi) (by simp only[List.mem_cons,List.not_mem_nil,or_false,not_or];exact⟨ty_ne hi hS h1,h2⟩),hi]
 have FM:=h.db.inp.FM
 have rows:Rows s s':=c3.rows (by
  intro i hi
  simp only[List.mem_cons,List.not_mem_nil,or_false]at hi
  rcases hi with rfl|rfl
  ·exact⟨_,_,hS,by decide,by decide⟩
  ·exact⟨_,_,hM,by decide,by decide⟩)
 have nF:∀{i},i<s.length→¬F i→¬FN F s s' i:=fun h1 h2 h3=>by
  rcases h3 with h3|h3
  ·exact h2 h3
  ·omega
 have step:=setF_step f (0,a,b) xs t (Int.le_refl r)
 have rle:=setR_le f (0,a,b) xs t r
 refine⟨s',?_,⟨⟨c2,old h.db.db (by decide) (ty_ne h.db.db hM (by decide)),old h.db.av (by decide) (ty_ne h.db.av hM (by decide)),old h.db.rm (by decide) (fun e=>h.hFM.2.2 (e▸FM)),old h.db.am (by decide) (fun e=>h.hFM.1 (e▸FM))⟩,⟨fun e he=>?_,fun e he=>(h.q.sem e he).step rle.1 step,h.q.ks,h.q.Rs,h.q.us,h.q.ub⟩,FN.lt h.hF c3.len,⟨nF (glt h.db.am) h.hFM.1,nF (glt h.db.db) h.hFM.2.1,nF (glt h.db.rm) h.hFM.2.2⟩,h.ne,fun e he=>?_,setF_ch h.ch,h.cb⟩,c3⟩
 ·rw[aCall,if_pos (by kernel_rfl),if_neg (by simp[noRefL_cons,AV.noRef])]
  exact c1
 ·obtain⟨_,_,_,hh,_⟩:=h.q.ro e he
  exact(h.q.ro e he).keep rows (by rw[old hh (by decide) (ty_ne hh hM (by decide)),hh])
 ·obtain⟨_,_,_,hh,_⟩:=h.q.ro e he
  exact nF (glt hh) (h.Fq e he)
theorem Memo.gr {s s':Heap}{F:Foot}{S M D Mr Ma Av:Nat}{r:Int}{f:Inp}{comps clock:Int}{ql:List Ent}(h:Memo s F S M D Mr Ma Av r f comps clock ql)(g:Gr s s'):Memo s' F S M D Mr Ma Av r f comps clock ql :=
 ⟨h.db.gr g,⟨fun e he=>by
  obtain⟨_,_,_,hh,_⟩:=h.q.ro e he
  exact(h.q.ro e he).keep g.rows (g.get (glt hh)),h.q.sem,h.q.ks,h.q.Rs,h.q.us,h.q.ub⟩,fun i hi=>Nat.lt_of_lt_of_le (h.hF i hi) g.len,h.hFM,h.ne,h.Fq,h.ch,h.cb⟩
def Enc (f:Inp)(ms:List Mod):Prop:=(f (0,0,0)).xs=[(ms.length:Int)]∧∀i (h:i<ms.length),(f (0,1,(i:Int))).t=ms[i].1∧(f (0,2,(i:Int))).t=ms[i].2
abbrev SvT:TypeId:=86
theorem c82 (n:Nat){s:Heap}{F:Foot}{V S M D Mr Ma Av:Nat}{r:Int}{f:Inp}{comps clock:Int}{ql:List Ent}(h:Memo s F S M D Mr Ma Av r f comps clock ql)(hr:0≤r∧r<900000000){mv vv pv:AV}{rev:Int}{ms:List Mod}(hV:s[V]?=some (86,[mv,vv,pv,I rev,.ref D 0]))(hm:SL 45 2 s mv (ms.map modC))(hms:mv.strip=mv)(h8:ms.length≤8)(hn:20<n) :
  ∃s' F' r' f',den C (n+12) 82 [.ref V 0] s=some (.tup [],s')∧Memo s' F' S M D Mr Ma Av r' f' comps clock ql∧Upd [S,M] s s'∧Enc f' ms∧r≤r'∧r'≤r+17∧(∀i,F i→F' i)∧(∀i,F' i→F i∨s.length≤i):=by
 have hlen:aLen Tryz.prog 46 mv=some (I ms.length):=by have:=hm.len und46;rwa [List.length_map]at this
 obtain⟨xb,xc,hS⟩:=h.db.inp.st
 obtain⟨lM,hM,_⟩:=h.db.inp.mp
 have old:∀{s1:Heap},Upd [S,M] s s1→∀{i t cs},s[i]?=some (t,cs)→t≠148→t≠mapTy→s1[i]?=some (t,cs):=fun {s1} u {i t cs} hi h1 h2=>by
  rw[u.old _ (glt hi) (by simp only[List.mem_cons,List.not_mem_nil,or_false,not_or];exact⟨ty_ne hi hS h1,ty_ne hi hM h2⟩),hi]
 have lV4:∀{s1:Heap},Upd [S,M] s s1→aLoad false false 1 (.ref V 4) s1=some (.ref D 0,s1):=fun u=>ldv (old u hV (by decide) (by decide)) (by decide) rfl
 have lV0:∀{s1:Heap},Upd [S,M] s s1→aLoad false false 1 (.ref V 0) s1=some (mv,s1):=fun u=>ldv (old u hV (by decide) (by decide)) (by decide) rfl hms
 have bs:∀c:Int,aBuildSlice Tryz.prog 59 1 [(0,I c)]=some (.sl 3 1 [I c] .own):=fun c=>by
  have:∀c,aBuildSlice Tryz.prog 59 1 [(0,I c)]=some (.sl 3 1 [I c] .own):=fun c=>by kernel_rfl
  exact this c
 have b82n:∀c:Int,aBuild Tryz.prog 82 [(0,.sl 3 1 [I c] .own)]=some (.agg [.sl 3 1 [I c] .own,.str []]):=fun c=>by
  have:∀c,aBuild Tryz.prog 82 [(0,.sl 3 1 [I c] .own)]=some (.agg [.sl 3 1 [I c] .own,.str []]):=fun c=>by kernel_rfl
  exact this c
 have b82t:∀t:Bytes,aBuild Tryz.prog 82 [(1,.str t)]=some (.agg [.nils,.str t]):=fun t=>by kernel_rfl
 obtain⟨s1,a1,m1,u1⟩:=m101 n h ⟨hr.1,by omega⟩ (v:=.sl 3 1 [I ms.length] .own) (.sl [(ms.length:Int)] .own (by simp)) 0 0 [] (by simp)
 have rl1:=setR_le f (0,0,0) [(ms.length:Int)] [] r
 obtain⟨r1,hr1⟩:∃r1,setR f (0,0,0) [(ms.length:Int)] [] r=r1:=⟨_,rfl⟩
 obtain⟨f1,hf1⟩:∃f1,setF f (0,0,0) [(ms.length:Int)] [] r=f1:=⟨_,rfl⟩
 have f1c:(f1 (0,0,0)).xs=[(ms.length:Int)]:=by rw[←hf1];exact setF_same.1
 rw[hr1,hf1]at m1
 rw[hr1]at rl1
 rw[rd Tryz.func82];conv in compF _ _ _ _ _ _=>cbv
 simp only[strip_rs,strip_mr,strip_nilf,Bool.false_eq_true,if_false,↓kR,kE,kK,sL,C_P,Nat.reduceEqDiff,reduceIte,Tryz.f82,lV4 (Upd.refl _ s),lV0 (Upd.refl _ s),bk791,hlen,bs,b82n,a1,lV0 u1,sL]
 refine loopI (R:=fun a=>∃s' F' r' f',a=some (.tup [],s')∧Memo s' F' S M D Mr Ma Av r' f' comps clock ql∧Upd [S,M] s s'∧Enc f' ms∧r≤r'∧r'≤r+17∧(∀i,F i→F' i)∧(∀i,F' i→F i∨s.length≤i))
  (fun i e s2=>e 0=.ref V 0∧e 20=mv∧e 21=I ms.length∧e 22=I i∧∃F2 r2 f2,Memo s2 F2 S M D Mr Ma Av r2 f2 comps clock ql∧Upd [S,M] s s2∧(f2 (0,0,0)).xs=[(ms.length:Int)]∧(∀j (hj:j<ms.length),j<i→(f2 (0,1,(j:Int))).t=ms[j].1∧(f2 (0,2,(j:Int))).t=ms[j].2)∧r≤r2∧r2≤r+1+2*i∧(∀i,F i→F2 i)∧(∀i,F2 i→F i∨s.length≤i)) ms.length ?_ ?_ ms.length 0 (by omega) _ (by omega) _ _ ⟨rfl,rfl,rfl,rfl,FN F s s1,r1,f1,m1,u1,f1c,fun j hj h0=>absurd h0 (Nat.not_lt_zero j),rl1.1,by omega,FN.sub,fun i hi=>hi.imp id (·.1)⟩
 ·rintro i e s2 q hi ⟨e0,e20,e21,e22,F2,r2,f2,m2,u2,fc,ft,rl,rl2,Fs,Fn⟩ hk
  have hi':i<(ms.map modC).length:=by rw[List.length_map];exact hi
  have hm2:SL 45 2 s2 mv (ms.map modC):=hm.fr fun Q off n e=>by
   obtain⟨cs,hc⟩:=hm.row e
   rw[old u2 hc (by decide) (by decide),hc]
  obtain⟨p,p1,p2,p3,_⟩:=hm2.at und46 sz45 (by decide) (by decide) hi'
  rw[List.getElem_map]at p2
  have hlt:decide (i<ms.length)=true:=decide_eq_true hi
  obtain⟨s3,e3⟩:∃s3,s2++[(45,[AV.str ms[i].1,AV.str ms[i].2])]=s3:=⟨_,rfl⟩
  have st3:aStore 2 (s2++[(45,[AV.str [],AV.str []])]) (.ref s2.length 0) (.agg (modC ms[i]))=some s3:=by rw[←e3];exact st45 s2 _ _
  have g3:Gr s2 s3:=e3▸Gr.app ..
  have u3:Upd [S,M] s s3:=u2.trans (g3.upd _)
  have at3:s3[s2.length]?=some (45,[AV.str ms[i].1,AV.str ms[i].2]):=by rw[←e3];exact gapp_new
  have l0:aLoad false false 1 (.ref s2.length 0) s3=some (.str ms[i].1,s3):=ldv at3 (by decide) rfl
  obtain⟨s4,a4,m4,u4⟩:=m101 n (m2.gr g3) ⟨by omega,by omega⟩ (v:=.nils) .nil 1 i ms[i].1 (by decide)
  obtain⟨yb,yc,hS3⟩:=(m2.gr g3).db.inp.st
  obtain⟨l3,hM3,_⟩:=(m2.gr g3).db.inp.mp
  have at4:s4[s2.length]?=some (45,[AV.str ms[i].1,AV.str ms[i].2]):=by
   rw[u4.old _ (glt at3) (by simp only[List.mem_cons,List.not_mem_nil,or_false,not_or];exact⟨ty_ne at3 hS3 (by decide),ty_ne at3 hM3 (by decide)⟩),at3]
  have l1:aLoad false false 1 (.ref s2.length 1) s4=some (.str ms[i].2,s4):=ldv at4 (by decide) rfl
  have rl4:=setR_le f2 (0,1,(i:Int)) [] ms[i].1 r2
  obtain⟨s5,a5,m5,u5⟩:=m101 n m4 ⟨by omega,by omega⟩ (v:=.nils) .nil 2 i ms[i].2 (by decide)
  have u4':Upd [S,M] s s4:=u3.trans u4
  have rl5:=setR_le (setF f2 (0,1,(i:Int)) [] ms[i].1 r2) (0,2,(i:Int)) [] ms[i].2 (setR f2 (0,1,(i:Int)) [] ms[i].1 r2)
  have ck:∀(p q:AV),Rd p→Rd q→compat (kLoad false p) (kLoad false q)=true:=fun p q h k=>rd_compat h k
  simp only[strip_rs,strip_mr,strip_nilf,Bool.false_eq_true,if_false,↓kR,kE,kK,sL,C_P,Nat.reduceEqDiff,reduceIte,e0,e20,e21,e22,hlt,p1,p2,allocS z45 (by decide) ⟨nofun,rfl⟩,st3,lV4 u3,bk79,l0,b82t,a4,lV4 u4',l1,a5,sL]
  rw[wrap64 (by omega) (by omega)]
  have n3:=g3.len
  have n4:=u4.len
  have n2:=u2.len
  refine hk _ _ ⟨e0,e20,e21,iS i,_,_,_,m5,u4'.trans u5,?_,fun j hj hji=>?_,by omega,by push_cast;omega,fun x hx=>.inl (.inl (Fs x hx)),fun x hx=>?_⟩
  ·rw[setF_other (by simp),setF_other (by simp)];exact fc
  ·by_cases hx:j=i
   ·subst hx
    refine⟨?_,setF_same.2⟩
    rw[setF_other (by simp)];exact setF_same.2
   ·have hx':¬(i:Int)=(j:Int):=by omega
    obtain⟨t1,t2⟩:=ft j hj (by omega)
    refine⟨?_,?_⟩
    ·rw[setF_other (by simp),setF_other (by simpa using fun e=>hx' e)];exact t1
    ·rw[setF_other (by simpa using fun e=>hx' e),setF_other (by simp)];exact t2
  ·rcases hx with (hx|hx)|hx
   ·exact Fn x hx
   ·exact .inr (by omega)
   ·exact .inr (by omega)
 ·rintro e s2 q ⟨e0,e20,e21,e22,F2,r2,f2,m2,u2,fc,ft,rl,rl2,Fs,Fn⟩
  have hlt:decide (ms.length<ms.length)=false:=decide_eq_false (by omega)
  simp only[strip_rs,strip_mr,strip_nilf,Bool.false_eq_true,if_false,↓kR,kE,kK,sL,C_P,Nat.reduceEqDiff,reduceIte,e21,e22,hlt,sL]
  exact⟨s2,F2,r2,f2,rfl,m2,u2,⟨fc,fun i hi=>ft i hi hi⟩,rl,by omega,Fs,Fn⟩
end Srv
end

section
namespace Srv
open Go Go.Abs Go.Proofs
structure Req where
 c:Int
 id:Int
 q:Int
 a:Int
 nm:Bytes
abbrev reqC (r:Req):List AV:=[I r.c,I r.id,I r.q,I r.a,.str r.nm]
abbrev intC (x:Int):List AV:=[I x]
structure St where
 ms:List Mod
 vs:List Int
 pd:List Req
 rev:Int
structure SI (s:Heap)(V:Nat)(G F:Foot)(S M D Mr Ma Av:Nat)(r:Int)(f:Inp)(comps clock:Int)(ql:List Ent)(mv vv pv:AV)(st:St):Prop where
 m:Memo s F S M D Mr Ma Av r f comps clock ql
 sv:s[V]?=some (86,[mv,vv,pv,I st.rev,.ref D 0])
 mm:SL 45 2 s mv (st.ms.map modC)
 vm:SL 3 1 s vv (st.vs.map intC)
 pm:SL 33 5 s pv (st.pd.map reqC)
 sp:mv.strip=mv∧vv.strip=vv∧(pv=.nils∨∃P off n,pv=.rs 33 5 P off n)
 enc:st.ms≠[]→Enc f st.ms
 ok:vErr st.ms=0
 vl:st.vs.length=st.ms.length
 nF:¬F V∧∀P,rowOf pv=some P→¬F P
 pl:st.pd.length≤20
 pk:(st.pd.map fun r=>(r.c,r.id)).Nodup
 pq:∀r∈st.pd,1≤r.q∧r.q≤8
 G1:∀i,F i→G i
 G2:G V∧G D∧G Mr∧G Ma∧(∀e∈ql,G e.R)∧∀P,rowOf pv=some P→G P
 GL:∀i,G i→i<s.length
 bd:0≤r∧0≤st.rev
def SrvI (s:Heap)(V:Nat)(G:Foot)(st:St)(B:Int):Prop:=∃(F:Foot)(S M D Mr Ma Av:Nat)(r:Int)(f:Inp)(comps clock:Int)(ql:List Ent)(mv vv pv:AV),SI s V G F S M D Mr Ma Av r f comps clock ql mv vv pv st∧r≤B∧comps≤B∧clock≤B∧st.rev≤B
structure Fg (G:Foot)(s s':Heap):Prop where
 len:s.length≤s'.length
 old:∀i,i<s.length→¬G i→s'[i]?=s[i]?
 tf:∀(i:Nat) (t:TypeId) (cs:List AV),s[i]?=some (t,cs)→t≠86→t≠121→t≠mapTy→t≠148→t≠163→t≠33→s'[i]?=some (t,cs)
theorem Gr.fg {s s':Heap}(g:Gr s s')(G:Foot):Fg G s s':=⟨g.len,fun i hi _=>g.get hi,fun i t cs h _ _ _ _ _ _=>g.at h⟩
theorem Fg.trans {G G':Foot}{a b c:Heap}(h:Fg G a b)(k:Fg G' b c)(hG:∀i,G' i→G i∨a.length≤i):Fg G a c :=
 ⟨Nat.le_trans h.len k.len,fun i hi hg=>by
  rw[k.old i (Nat.lt_of_lt_of_le hi h.len) (fun hg'=>(hG i hg').elim hg (by omega)),h.old i hi hg],fun i t cs hi a b c d e g=>k.tf i t cs (h.tf i t cs hi a b c d e g) a b c d e g⟩
theorem Memo.fr {s s':Heap}{F:Foot}{S M D Mr Ma Av:Nat}{r:Int}{f:Inp}{comps clock:Int}{ql:List Ent}(h:Memo s F S M D Mr Ma Av r f comps clock ql)(hl:s.length≤s'.length)(k:∀(i:Nat)(t:TypeId)(cs:List AV),s[i]?=some (t,cs)→t≠86→t≠33→s'[i]?=some (t,cs))(kF:∀i,F i→s'[i]?=s[i]?):Memo s' F S M D Mr Ma Av r f comps clock ql:=by
 have rows:Rows s s':=fun i t cs hi ht=>k i t cs hi (by rcases ht with rfl|rfl<;>decide) (by rcases ht with rfl|rfl<;>decide)
 exact⟨⟨h.db.inp.keep kF,k _ _ _ h.db.db (by decide) (by decide),k _ _ _ h.db.av (by decide) (by decide),k _ _ _ h.db.rm (by decide) (by decide),k _ _ _ h.db.am (by decide) (by decide)⟩,⟨fun e he=>by
  obtain⟨_,_,_,hh,_⟩:=h.q.ro e he
  exact(h.q.ro e he).keep rows (by rw[k _ _ _ hh (by decide) (by decide),hh]),h.q.sem,h.q.ks,h.q.Rs,h.q.us,h.q.ub⟩,fun i hi=>Nat.lt_of_lt_of_le (h.hF i hi) hl,h.hFM,h.ne,h.Fq,h.ch,h.cb⟩
theorem SL.tf {ty z:Nat}{s s':Heap}{v:AV}{es:List (List AV)}(h:SL ty z s v es)(k:∀(i:Nat)(cs:List AV),s[i]?=some (ty,cs)→s'[i]?=some (ty,cs)):SL ty z s' v es:=h.fr fun Q off n e=>by
 obtain⟨cs,hc⟩:=h.row e
 rw[k _ _ hc,hc]
theorem NV.tf {s s':Heap}{v:AV}{xs:List Int}(h:NV s v xs)(k:∀(i:Nat)(cs:List AV),s[i]?=some (3,cs)→s'[i]?=some (3,cs)):NV s' v xs:=h.fr fun Q n e=>by
 obtain⟨cs,hc⟩:=h.row e
 rw[k _ _ hc,hc]
section
variable {s s':Heap}{V:Nat}{G F:Foot}{S M D Mr Ma Av:Nat}{r:Int}{f:Inp}{comps clock:Int}{ql:List Ent}{mv vv pv:AV}{st:St}
theorem SI.pst (h:SI s V G F S M D Mr Ma Av r f comps clock ql mv vv pv st):pv.strip=pv:=by
 rcases h.sp.2.2 with rfl|⟨P,off,n,rfl⟩<;>rfl
theorem SI.row (h:SI s V G F S M D Mr Ma Av r f comps clock ql mv vv pv st){P:Nat}(hP:rowOf pv=some P):∃cs,s[P]?=some (33,cs):=by
 rcases h.sp.2.2 with e|⟨P',off,n,e⟩
 ·rw[e]at hP;cases hP
 ·rw[e]at hP;cases hP
  exact h.pm.row e
theorem SI.gr (h:SI s V G F S M D Mr Ma Av r f comps clock ql mv vv pv st)(g:Gr s s'):SI s' V G F S M D Mr Ma Av r f comps clock ql mv vv pv st :=
 ⟨h.m.gr g,g.at h.sv,h.mm.gr g,h.vm.gr g,h.pm.gr g,h.sp,h.enc,h.ok,h.vl,h.nF,h.pl,h.pk,h.pq,h.G1,h.G2,fun i hi=>Nat.lt_of_lt_of_le (h.GL i hi) g.len,h.bd⟩
theorem SI.len8 (h:vErr st.ms=0):st.ms.length≤8:=by
 unfold vErr at h
 split at h
 ·cases h
 ·rename_i hh;simp only[not_or]at hh;omega
theorem a61 (n:Nat)(h:SI s V G F S M D Mr Ma Av r f comps clock ql mv vv pv st)(t:Bytes)(hn:10<n):∃s',aCall Tryz.prog (den C (n+7)) 61 [.ref V 0,.str t] s=some (I (fidx (nmP t) st.ms),s')∧Gr s s':=by
 have l0:aLoad false false 1 (.ref V 0) s=some (mv,s):=ldv h.sv (by decide) rfl h.sp.1
 obtain⟨s1,c1,c2⟩:=a80 (n+1) h.mm t (by have:=SI.len8 h.ok;omega)
 refine⟨s1,?_,c2⟩
 rw[aCall,if_pos (by kernel_rfl),if_neg (by simp[noRefL_cons,AV.noRef])]
 rw[rd Tryz.func61];conv in compF _ _ _ _ _ _=>cbv
 simp only[strip_rs,strip_mr,strip_nilf,Bool.false_eq_true,if_false,↓kR,kE,kK,sL,C_P,Nat.reduceEqDiff,reduceIte,Tryz.f61,l0,h.sp.1,c1,sL]
theorem c62x (n:Nat)(h:SI s V G F S M D Mr Ma Av r f comps clock ql mv vv pv st){mv' vv':AV}{ms':List Mod}(hm:SL 45 2 s mv' (ms'.map modC))(hms:mv'.strip=mv')(hbad:vErr ms'≠0)(hn:ms'.length<n):∃s',den C (n+321) 62 [.ref V 0,mv',vv'] s=some (I (vErr ms'),s')∧Gr s s':=by
 obtain⟨s1,c1,c2⟩:=aGr (D:=den C (n+320)) (args:=[mv']) (by kernel_rfl:enterable Tryz.prog 81=true) rfl (fun hr=>(c81 n (s:=[]) (hm.pure (by simpa[noRefL] using hr)) hn).imp fun _ h=>h.1) (fun _=>c81 n hm hn)
 have q:(vErr ms' != 0)=true:=by simpa using hbad
 rw[rd Tryz.func62];conv in compF _ _ _ _ _ _=>cbv
 simp only[strip_rs,strip_mr,strip_nilf,Bool.false_eq_true,if_false,↓kR,kE,kK,sL,C_P,Nat.reduceEqDiff,reduceIte,Tryz.f62,hms,c1,q,sL]
 exact⟨s1,rfl,c2⟩
theorem c62 (n:Nat)(h:SI s V G F S M D Mr Ma Av r f comps clock ql mv vv pv st)(hr:r<900000000)(hrv:st.rev<900000000){mv' vv':AV}{ms':List Mod}{vs':List Int}(hm:SL 45 2 s mv' (ms'.map modC))(hm':∃Q off n,mv'=.rs 45 2 Q off n)(hv:SL 3 1 s vv' (vs'.map intC))(hv':∃Q off n,vv'=.rs 3 1 Q off n)(hok:vErr ms'=0)(hvl:vs'.length=ms'.length)(hn:20<n) :
  ∃s' F' r' f',den C (n+321) 62 [.ref V 0,mv',vv'] s=some (I 0,s')∧SI s' V (FN G s s') F' S M D Mr Ma Av r' f' comps clock ql mv' vv' pv { st with ms:=ms',vs:=vs',rev:=st.rev+1 }∧Fg G s s'∧r'≤r+17:=by
 have hms:mv'.strip=mv':=by obtain⟨Q,off,m,rfl⟩:=hm';rfl
 have hvs:vv'.strip=vv':=by obtain⟨Q,off,m,rfl⟩:=hv';rfl
 have h8:=SI.len8 (st:=⟨ms',[],[],0⟩) hok
 obtain⟨s1,c1,c2⟩:=aGr (D:=den C (n+320)) (args:=[mv']) (by kernel_rfl:enterable Tryz.prog 81=true) rfl (fun hr=>(c81 n (s:=[]) (hm.pure (by simpa[noRefL] using hr)) (by simp only at h8;omega)).imp fun _ h=>h.1) (fun _=>c81 n hm (by simp only at h8;omega))
 rw[hok]at c1
 have h1:=h.gr c2
 have hV1:=h1.sv
 obtain⟨s2,e2⟩:∃s2,s1.set V (86,[mv',vv,pv,I st.rev,.ref D 0])=s2:=⟨_,rfl⟩
 have st2:aStore 1 s1 (.ref V 0) mv'=some s2:=by
  obtain⟨Q,off,m,rfl⟩:=hm'
  rw[Srv.st (n:=1) hV1 (by decide) rfl rfl (by simp),←e2];rfl
 have hV2:s2[V]?=some (86,[mv',vv,pv,I st.rev,.ref D 0]):=e2▸gset_eq hV1
 obtain⟨s3,e3⟩:∃s3,s2.set V (86,[mv',vv',pv,I st.rev,.ref D 0])=s3:=⟨_,rfl⟩
 have st3:aStore 1 s2 (.ref V 1) vv'=some s3:=by
  obtain⟨Q,off,m,rfl⟩:=hv'
  rw[Srv.st (n:=1) hV2 (by decide) rfl rfl (by simp),←e3];rfl
 have hV3:s3[V]?=some (86,[mv',vv',pv,I st.rev,.ref D 0]):=e3▸gset_eq hV2
 have l3:aLoad false false 1 (.ref V 3) s3=some (I st.rev,s3):=ldv hV3 (by decide) rfl
 obtain⟨s4,e4⟩:∃s4,s3.set V (86,[mv',vv',pv,I (st.rev+1),.ref D 0])=s4:=⟨_,rfl⟩
 have st4:aStore 1 s3 (.ref V 3) (I (st.rev+1))=some s4:=by
  rw[Srv.st (n:=1) hV3 (by decide) rfl rfl (by simp),←e4];rfl
 have hV4:s4[V]?=some (86,[mv',vv',pv,I (st.rev+1),.ref D 0]):=e4▸gset_eq hV3
 have o4:∀i,i≠V→s4[i]?=s1[i]?:=fun i hi=>by rw[←e4,gset_ne hi.symm,←e3,gset_ne hi.symm,←e2,gset_ne hi.symm]
 have n4:s4.length=s1.length:=by rw[←e4,set_length,←e3,set_length,←e2,set_length]
 have t4:∀(i:Nat) (t:TypeId) (cs:List AV),s1[i]?=some (t,cs)→t≠86→s4[i]?=some (t,cs):=fun i t cs hi ht=>by rw[o4 i (ty_ne hi hV1 ht),hi]
 have m4:Memo s4 F S M D Mr Ma Av r f comps clock ql:=h1.m.fr (by omega) (fun i t cs hi h1 _=>t4 i t cs hi h1) fun i hi=>o4 i (fun e=>h1.nF.1 (e▸hi))
 have mm4:SL 45 2 s4 mv' (ms'.map modC):=(hm.gr c2).tf fun i cs hi=>t4 i _ cs hi (by decide)
 obtain⟨s5,F',r',f',d1,d2,d3,d4,d5,d6,d7,d8⟩:=c82 (n+308) m4 ⟨h.bd.1,hr⟩ hV4 mm4 hms h8 (by omega)
 have cl2:aCall Tryz.prog (den C (n+320)) 82 [.ref V 0] s4=some (.tup [],s5):=by
  rw[aCall,if_pos (by kernel_rfl),if_neg (by simp[noRefL_cons,AV.noRef])];exact d1
 have wr:=wrap64 (show -9223372036854775808≤st.rev+1 by have:=h.bd;omega) (by omega)
 obtain⟨xb,xc,hS4⟩:=m4.db.inp.st
 obtain⟨lM,hM4,_⟩:=m4.db.inp.mp
 have t5:∀(i:Nat) (t:TypeId) (cs:List AV),s4[i]?=some (t,cs)→t≠148→t≠mapTy→s5[i]?=some (t,cs):=fun i t cs hi h1 h2=>by
  rw[d3.old i (glt hi) (by simp only[List.mem_cons,List.not_mem_nil,or_false,not_or];exact⟨ty_ne hi hS4 h1,ty_ne hi hM4 h2⟩),hi]
 have l12:=c2.len
 have l5:=d3.len
 refine⟨s5,F',r',f',?_,⟨d2,t5 _ _ _ hV4 (by decide) (by decide),mm4.tf fun i cs hi=>t5 _ _ _ hi (by decide) (by decide),((hv.gr c2).tf fun i cs hi=>t4 _ _ _ hi (by decide)).tf fun i cs hi=>t5 _ _ _ hi (by decide) (by decide),(h1.pm.tf fun i cs hi=>t4 _ _ _ hi (by decide)).tf fun i cs hi=>t5 _ _ _ hi (by decide) (by decide),⟨hms,hvs,h.sp.2.2⟩,fun _=>d4,hok,hvl,⟨?_,fun P hP hF'=>?_⟩,h.pl,h.pk,h.pq,fun i hi=>?_,?_,fun i hi=>?_,⟨by have:=h.bd;omega,by show 0≤st.rev+1;have:=h.bd;omega⟩⟩,⟨by omega,fun i hi hg=>?_,fun i t cs hi a1 a2 a3 a4 a5 a6=>t5 _ _ _ (t4 _ _ _ (c2.at hi) a1) a4 a3⟩,d6⟩
 ·skip
  rw[rd Tryz.func62];conv in compF _ _ _ _ _ _=>cbv
  simp only[strip_rs,strip_mr,strip_nilf,Bool.false_eq_true,if_false,↓kR,kE,kK,sL,C_P,Nat.reduceEqDiff,reduceIte,Tryz.f62,hms,hvs,c1,bne_self_eq_false,st2,st3,l3,wr,st4,cl2,sL]
 ·intro hF'
  rcases d8 V hF' with h'|h'
  ·exact h.nF.1 h'
  ·have:=glt h.sv;omega
 ·rcases d8 P hF' with h'|h'
  ·exact h.nF.2 P hP h'
  ·obtain⟨cs,hc⟩:=h.row hP
   have:=glt hc;omega
 ·rcases d8 i hi with h'|h'
  ·exact .inl (h.G1 i h')
  ·exact .inr ⟨by omega,d2.hF i hi⟩
 ·obtain⟨g1,g2,g3,g4,g5,g6⟩:=h.G2
  exact⟨.inl g1,.inl g2,.inl g3,.inl g4,fun e he=>.inl (g5 e he),fun P hP=>.inl (g6 P hP)⟩
 ·rcases hi with hi|hi
  ·have:=h.GL i hi;omega
  ·exact hi.2
 ·have hSM:i∉[S,M]:=by
   simp only[List.mem_cons,List.not_mem_nil,or_false,not_or]
   exact⟨fun e=>hg (e▸h.G1 S h.m.db.inp.FSS),fun e=>hg (e▸h.G1 M h.m.db.inp.FM)⟩
  rw[d3.old i (by omega) hSM,o4 i (fun e=>hg (e▸h.G2.1)),c2.get hi]
end
end Srv
end

section
namespace Srv
open Go Go.Abs Go.Proofs
theorem und57:Tryz.prog.underlying 57=some (.slice 33):=by kernel_rfl
theorem sz33:szOf Tryz.prog 33=some 5:=by kernel_rfl
theorem info33:Info 33 5:=infoG (by kernel_rfl)
theorem eqN46 {v:AV}{s:Heap}{es:List (List AV)}(h:SL 45 2 s v es)(hn:v≠.nils):aBin Tryz.prog .eql 46 v .nils=some (.bool false):=by
 cases h with
 | nil=>exact absurd rfl hn
 | sl _ f h=>simp[aBin,aEq,und46,eqOp]
 | rs Q off pre junk _ h hQ hp hn=>simp[aBin,aEq,und46,eqOp]
theorem k49 (n:Nat){s:Heap}{v:AV}{es:List (List AV)}(h:SL 45 2 s v es)(hv:v.strip=v):∃v' s',den C (n+1) 49 [v] s=some (v',s')∧SL 45 2 s' v' es∧v'.strip=v'∧Gr s s'∧((es=[]∧(v'=.nils∨v'=.sl 45 2 [] .full)∧s'=s)∨(es≠[]∧v'=.rs 45 2 s.length 0 es.length∧s'=s++[(45,es.flatten)])):=by
 have bs:aBuildSlice Tryz.prog 46 0 []=some (.sl 45 2 [] .full):=by kernel_rfl
 by_cases hn:v=.nils
 ·subst hn
  cases h with
  | nil=>exact⟨.nils,s,by kernel_rfl,.nil,rfl,.refl _,.inl ⟨rfl,.inl rfl,rfl⟩⟩
 ·have e:=eqN46 h hn
  obtain⟨ys,h1,h2,h3⟩:=h.src (by decide) (by decide)
  have hl:=h.els.2
  obtain⟨a1,a2⟩:=apS (x:=.sl 45 2 [] .full) und46 und46 info45 (by decide) (by decide) (.inr rfl) h1 (by omega)
  by_cases hy:ys=[]
  ·subst hy
   have:es=[]:=List.length_eq_zero_iff.1 h2.symm
   subst this
   refine⟨.sl 45 2 [] .full,s,?_,.sl [] _ ⟨nofun,by decide⟩,rfl,.refl _,.inl ⟨rfl,.inr rfl,rfl⟩⟩
   have a1:=a1 rfl
   rw[rd Tryz.func49];conv in compF _ _ _ _ _ _=>cbv
   simp only[strip_rs,strip_mr,strip_nilf,Bool.false_eq_true,if_false,↓kR,kE,kK,sL,C_P,Nat.reduceEqDiff,reduceIte,Tryz.f49,hv,e,bs,a1,sL]
  ·have a2:=a2 hy
   have hne:es≠[]:=fun e=>hy (List.length_eq_zero_iff.1 (by rw[h2,e];rfl))
   rw[h2,h3]at a2
   refine⟨.rs 45 2 s.length 0 es.length,s++[(45,es.flatten)],?_,?_,rfl,Gr.app ..,.inr ⟨hne,rfl,rfl⟩⟩
   ·skip
    rw[rd Tryz.func49];conv in compF _ _ _ _ _ _=>cbv
    simp only[strip_rs,strip_mr,strip_nilf,Bool.false_eq_true,if_false,↓kR,kE,kK,sL,C_P,Nat.reduceEqDiff,reduceIte,Tryz.f49,hv,e,bs,a2,sL]
   ·refine SL.rs (ty:=45) s.length 0 [] [] es h.els (by rw[gapp_new,List.append_nil,List.nil_append]) rfl ?_
    rw[List.nil_append,List.append_nil,h.els.len]
    exact Nat.mul_pos (List.length_pos_iff.2 hne) (by decide)
theorem eqN57 {v:AV}{s:Heap}{es:List (List AV)}(h:SL 33 5 s v es)(hn:v≠.nils):aBin Tryz.prog .eql 57 v .nils=some (.bool false):=by
 cases h with
 | nil=>exact absurd rfl hn
 | sl _ f h=>simp[aBin,aEq,und57,eqOp]
 | rs Q off pre junk _ h hQ hp hn=>simp[aBin,aEq,und57,eqOp]
theorem k54 (n:Nat){s:Heap}{v:AV}{es:List (List AV)}(h:SL 33 5 s v es)(hv:v.strip=v):∃v' s',den C (n+1) 54 [v] s=some (v',s')∧SL 33 5 s' v' es∧v'.strip=v'∧Gr s s'∧((es=[]∧(v'=.nils∨v'=.sl 33 5 [] .full)∧s'=s)∨(es≠[]∧v'=.rs 33 5 s.length 0 es.length∧s'=s++[(33,es.flatten)])):=by
 have bs:aBuildSlice Tryz.prog 57 0 []=some (.sl 33 5 [] .full):=by kernel_rfl
 by_cases hn:v=.nils
 ·subst hn
  cases h with
  | nil=>exact⟨.nils,s,by kernel_rfl,.nil,rfl,.refl _,.inl ⟨rfl,.inl rfl,rfl⟩⟩
 ·have e:=eqN57 h hn
  obtain⟨ys,h1,h2,h3⟩:=h.src (by decide) (by decide)
  have hl:=h.els.2
  obtain⟨a1,a2⟩:=apS (x:=.sl 33 5 [] .full) und57 und57 info33 (by decide) (by decide) (.inr rfl) h1 (by omega)
  by_cases hy:ys=[]
  ·subst hy
   have:es=[]:=List.length_eq_zero_iff.1 h2.symm
   subst this
   refine⟨.sl 33 5 [] .full,s,?_,.sl [] _ ⟨nofun,by decide⟩,rfl,.refl _,.inl ⟨rfl,.inr rfl,rfl⟩⟩
   have a1:=a1 rfl
   rw[rd Tryz.func54];conv in compF _ _ _ _ _ _=>cbv
   simp only[strip_rs,strip_mr,strip_nilf,Bool.false_eq_true,if_false,↓kR,kE,kK,sL,C_P,Nat.reduceEqDiff,reduceIte,Tryz.f54,hv,e,bs,a1,sL]
  ·have a2:=a2 hy
   have hne:es≠[]:=fun e=>hy (List.length_eq_zero_iff.1 (by rw[h2,e];rfl))
   rw[h2,h3]at a2
   refine⟨.rs 33 5 s.length 0 es.length,s++[(33,es.flatten)],?_,?_,rfl,Gr.app ..,.inr ⟨hne,rfl,rfl⟩⟩
   ·skip
    rw[rd Tryz.func54];conv in compF _ _ _ _ _ _=>cbv
    simp only[strip_rs,strip_mr,strip_nilf,Bool.false_eq_true,if_false,↓kR,kE,kK,sL,C_P,Nat.reduceEqDiff,reduceIte,Tryz.f54,hv,e,bs,a2,sL]
   ·refine SL.rs (ty:=33) s.length 0 [] [] es h.els (by rw[gapp_new,List.append_nil,List.nil_append]) rfl ?_
    rw[List.nil_append,List.append_nil,h.els.len]
    exact Nat.mul_pos (List.length_pos_iff.2 hne) (by decide)
theorem eqN59 {v:AV}{s:Heap}{es:List (List AV)}(h:SL 3 1 s v es)(hn:v≠.nils):aBin Tryz.prog .eql 59 v .nils=some (.bool false):=by
 cases h with
 | nil=>exact absurd rfl hn
 | sl _ f h=>simp[aBin,aEq,under59,eqOp]
 | rs Q off pre junk _ h hQ hp hn=>simp[aBin,aEq,under59,eqOp]
theorem k60 (n:Nat){s:Heap}{v:AV}{es:List (List AV)}(h:SL 3 1 s v es)(hv:v.strip=v):∃v' s',den C (n+1) 60 [v] s=some (v',s')∧SL 3 1 s' v' es∧v'.strip=v'∧Gr s s'∧((es=[]∧(v'=.nils∨v'=.sl 3 1 [] .full)∧s'=s)∨(es≠[]∧v'=.rs 3 1 s.length 0 es.length∧s'=s++[(3,es.flatten)])):=by
 have bs:aBuildSlice Tryz.prog 59 0 []=some (.sl 3 1 [] .full):=by kernel_rfl
 by_cases hn:v=.nils
 ·subst hn
  cases h with
  | nil=>exact⟨.nils,s,by kernel_rfl,.nil,rfl,.refl _,.inl ⟨rfl,.inl rfl,rfl⟩⟩
 ·have e:=eqN59 h hn
  obtain⟨ys,h1,h2,h3⟩:=h.src (by decide) (by decide)
  have hl:=h.els.2
  obtain⟨a1,a2⟩:=apS (x:=.sl 3 1 [] .full) under59 under59 info3 (by decide) (by decide) (.inr rfl) h1 (by omega)
  by_cases hy:ys=[]
  ·subst hy
   have:es=[]:=List.length_eq_zero_iff.1 h2.symm
   subst this
   refine⟨.sl 3 1 [] .full,s,?_,.sl [] _ ⟨nofun,by decide⟩,rfl,.refl _,.inl ⟨rfl,.inr rfl,rfl⟩⟩
   have a1:=a1 rfl
   rw[rd Tryz.func60];conv in compF _ _ _ _ _ _=>cbv
   simp only[strip_rs,strip_mr,strip_nilf,Bool.false_eq_true,if_false,↓kR,kE,kK,sL,C_P,Nat.reduceEqDiff,reduceIte,Tryz.f60,hv,e,bs,a1,sL]
  ·have a2:=a2 hy
   have hne:es≠[]:=fun e=>hy (List.length_eq_zero_iff.1 (by rw[h2,e];rfl))
   rw[h2,h3]at a2
   refine⟨.rs 3 1 s.length 0 es.length,s++[(3,es.flatten)],?_,?_,rfl,Gr.app ..,.inr ⟨hne,rfl,rfl⟩⟩
   ·skip
    rw[rd Tryz.func60];conv in compF _ _ _ _ _ _=>cbv
    simp only[strip_rs,strip_mr,strip_nilf,Bool.false_eq_true,if_false,↓kR,kE,kK,sL,C_P,Nat.reduceEqDiff,reduceIte,Tryz.f60,hv,e,bs,a2,sL]
   ·refine SL.rs (ty:=3) s.length 0 [] [] es h.els (by rw[gapp_new,List.append_nil,List.nil_append]) rfl ?_
    rw[List.nil_append,List.append_nil,h.els.len]
    exact Nat.mul_pos (List.length_pos_iff.2 hne) (by decide)
theorem ec65 (n:Nat)(a b:Bytes)(s:Heap):aCall Tryz.prog (den C (n+1)) 65 [.str a,.str b] s=some (I (Lib.compareBytes a b),s) :=
 aC (by kernel_rfl) rfl (fun _=>⟨[],rfl⟩) fun e=>(nomatch (show true=false from e))
theorem c64 (n:Nat)(a b t:Bytes)(s:Heap):den C (n+2) 64 [.agg [.str a,.str b],.str t] s=some (I (Lib.compareBytes a t),s):=by
 have bx:∀s,aBox false 45 (.agg [.str a,.str b]) s=some (.box [.str a,.str b] 0,s):=fun s=>boxV rfl s
 have l0:∀s:Heap,aLoad false false 1 (.box [.str a,.str b] 0) s=some (.str a,s):=fun s=>by rw[aLoad_one];rfl
 rw[rd Tryz.func64];conv in compF _ _ _ _ _ _=>cbv
 simp only[strip_rs,strip_mr,strip_nilf,Bool.false_eq_true,if_false,↓kR,kE,kK,sL,C_P,Nat.reduceEqDiff,reduceIte,Tryz.f64,bx,l0,ec65,sL]
def lessAt (ms:List Mod)(t:Bytes)(h:Nat):Bool:=decide (Lib.compareBytes (ms.getD h ([],[])).1 t<0)
def bsF (p:Nat→Bool):Nat→Nat→Nat→Nat
 | 0,lo,_=>lo
 | n+1,lo,hi=>if lo<hi then(if p ((lo+hi) / 2) then bsF p n ((lo+hi) / 2+1) hi else bsF p n lo ((lo+hi) / 2)) else lo
def bsP (ms:List Mod)(t:Bytes):Nat:=bsF (lessAt ms t) ms.length 0 ms.length
theorem bsF_le (p:Nat→Bool):∀(n lo hi:Nat),lo≤hi→lo≤bsF p n lo hi∧bsF p n lo hi≤hi
 | 0,lo,hi,h=>⟨Nat.le_refl _,h⟩
 | n+1,lo,hi,h=>by
  simp only[bsF]
  split
  ·split
   ·have:=bsF_le p n ((lo+hi) / 2+1) hi (by omega);omega
   ·have:=bsF_le p n lo ((lo+hi) / 2) (by omega);omega
  ·exact⟨Nat.le_refl _,h⟩
theorem bsP_le (ms:List Mod)(t:Bytes):bsP ms t≤ms.length:=(bsF_le _ _ _ _ (Nat.zero_le _)).2
theorem wrapu (x:Nat)(h:x<1000000):IntKind.u64.wrap (x:Int)=x:=by
 unfold IntKind.wrap
 simp[IntKind.signed,IntKind.bits]
 omega
theorem cv1 (x:Nat)(h:x<1000000):aConv Tryz.prog 3 150 (I x)=some (.int .u64 x):=by
 have:∀x:Int,aConv Tryz.prog 3 150 (I x)=some (.int .u64 (IntKind.u64.wrap x)):=fun x=>by kernel_rfl
 rw[this,wrapu x h]
theorem cv2 (x:Nat)(h:x<1000000):aConv Tryz.prog 150 3 (.int .u64 x)=some (I x):=by
 have:∀x:Int,aConv Tryz.prog 150 3 (.int .u64 x)=some (I (IntKind.i64.wrap x)):=fun x=>by kernel_rfl
 rw[this,wrap64 (by omega) (by omega)]
theorem sh1 (x:Nat):aBin Tryz.prog .shr 150 (.int .u64 x) (.int .u64 1)=some (.int .u64 ((x / 2:Nat):Int)):=by
 have:∀x:Int,aBin Tryz.prog .shr 150 (.int .u64 x) (.int .u64 1)=some (.int .u64 (x.fdiv (2 ^ min 1 64))):=fun x=>by kernel_rfl
 rw[this]
 have:((x:Int).fdiv (2 ^ min 1 64))=((x / 2:Nat):Int):=by
  rw[show ((2:Int) ^ min 1 64)=2 from rfl,Int.fdiv_eq_ediv_of_nonneg _ (by decide)]
  omega
 rw[this]
theorem c63 (n:Nat){s:Heap}{v:AV}{ms:List Mod}(h:SL 45 2 s v (ms.map modC))(t:Bytes)(hn:ms.length<n)(h9:ms.length<1000):∃b,den C (n+4) 63 [v,.str t,.fn 64 [] []] s=some (.tup [I (bsP ms t),.bool b],s):=by
 have hs:=h.strip
 have hlen:aLen Tryz.prog 46 v.strip=some (I ms.length):=by have:=hs.len und46;rwa [List.length_map]at this
 have sg:(AV.fn 64 [] []).strip=.fn 64 [] []:=rfl
 rw[rd Tryz.func63];conv in compF _ _ _ _ _ _=>cbv
 simp only[strip_rs,strip_mr,strip_nilf,Bool.false_eq_true,if_false,↓kR,kE,kK,sL,C_P,Nat.reduceEqDiff,reduceIte,Tryz.f63,hlen,sL]
 refine loopI (R:=fun a=>∃b,a=some (.tup [I (bsP ms t),.bool b],s)) (fun i e s1=>s1=s∧e 0=v∧e 1=.str t∧e 2=.fn 64 [] []∧e 8=I ms.length∧∃lo hi:Nat,e 9=I lo∧e 10=I hi∧lo≤hi∧hi≤ms.length∧hi-lo≤ms.length-i∧bsF (lessAt ms t) (ms.length-i) lo hi=bsP ms t) ms.length ?_ ?_ ms.length 0 (by omega) _ (by omega) _ _ ⟨rfl,rfl,rfl,rfl,rfl,0,ms.length,rfl,rfl,by omega,by omega,by omega,rfl⟩
 ·rintro i e s1 q hi ⟨rfl,e0,e1,e2,e8,lo,hi',e9,e10,k1,k2,k3,k4⟩ hk
  by_cases hlt':lo<hi'
  ·have hlt:decide (lo<hi')=true:=decide_eq_true hlt'
   have wa:=wrap64 (show -9223372036854775808≤(lo:Int)+hi' by omega) (by omega)
   have hm':(lo+hi') / 2<ms.length:=by omega
   have hm:(lo+hi') / 2<(ms.map modC).length:=by rw[List.length_map];exact hm'
   obtain⟨p,p1,p2,p3,_⟩:=hs.at und46 sz45 (by decide) (by decide) hm
   rw[List.getElem_map]at p2
   have q1:aConv Tryz.prog 3 150 (I ((lo:Int)+hi'))=some (.int .u64 ((lo+hi':Nat):Int)):=cv1 (lo+hi') (by omega)
   have q2:=sh1 (lo+hi')
   have q3:=cv2 ((lo+hi') / 2) (by omega)
   obtain⟨m,hmm⟩:∃m,(lo+hi') / 2=m:=⟨_,rfl⟩
   rw[hmm]at q2 q3 p1
   simp only[hmm]at p2
   have hml:m<ms.length:=by omega
   have cl:aCallV Tryz.prog (den C (n+3)) (.fn 64 [] []) [.agg (modC ms[m]),.str t] s1=some (I (Lib.compareBytes ms[m].1 t),s1):=by
    show aCall Tryz.prog (den C (n+3)) 64 [.agg [.str ms[m].1,.str ms[m].2],.str t] s1=_
    exact aC (by kernel_rfl) rfl (fun _=>⟨[],c64 (n+1) _ _ _ _⟩) fun e=>(nomatch (show true=false from e))
   have gd:(ms.getD m ([],[])).1=ms[m].1:=by rw[List.getD_eq_getElem?_getD,List.getElem?_eq_getElem hml];rfl
   obtain⟨k,hk2⟩:∃k,ms.length-i=k+1:=⟨ms.length-i-1,by omega⟩
   have hk3:ms.length-(i+1)=k:=by omega
   rw[hk2]at k4
   simp only[bsF,if_pos hlt',hmm]at k4
   simp only[strip_rs,strip_mr,strip_nilf,Bool.false_eq_true,if_false,↓kR,kE,kK,sL,C_P,Nat.reduceEqDiff,reduceIte,e0,e1,e2,e8,e9,e10,hlt,wa,q1,q2,q3,p1,p2,sg,cl,sL]
   cases hp:decide (Lib.compareBytes ms[m].1 t<0) with
   | true =>
    have hl:lessAt ms t m=true:=by unfold lessAt;rw[gd];exact hp
    rw[hl,if_pos rfl]at k4
    have wm:=wrap64 (show -9223372036854775808≤(m:Int)+1 by omega) (by omega)
    simp only[strip_rs,strip_mr,strip_nilf,Bool.false_eq_true,if_false,↓kR,kE,kK,sL,C_P,Nat.reduceEqDiff,reduceIte,wm,sL]
    exact hk _ _ ⟨rfl,e0,e1,e2,e8,m+1,hi',iS m,e10,by omega,by omega,by omega,by rw[hk3];exact k4⟩
   | false =>
    have hl:lessAt ms t m=false:=by unfold lessAt;rw[gd];exact hp
    rw[hl,if_neg (by decide)]at k4
    simp only[strip_rs,strip_mr,strip_nilf,Bool.false_eq_true,if_false,↓kR,kE,kK,sL,C_P,Nat.reduceEqDiff,reduceIte,sL]
    exact hk _ _ ⟨rfl,e0,e1,e2,e8,lo,m,e9,rfl,by omega,by omega,by omega,by rw[hk3];exact k4⟩
  ·have hlt:decide (lo<hi')=false:=decide_eq_false hlt'
   have k5:bsP ms t=lo:=by
    rw[←k4]
    cases hx:ms.length-i with
    | zero=>rfl
    | succ k=>simp only[bsF,if_neg hlt']
   rw[k5]
   simp only[strip_rs,strip_mr,strip_nilf,Bool.false_eq_true,if_false,↓kR,kE,kK,sL,C_P,Nat.reduceEqDiff,reduceIte,e9,e10,hlt,sL]
   by_cases hl2:lo<ms.length
   ·have hlt2:decide (lo<ms.length)=true:=decide_eq_true hl2
    obtain⟨p,p1,p2,p3,_⟩:=hs.at und46 sz45 (by decide) (by decide) (i:=lo) (by rw[List.length_map];exact hl2)
    rw[List.getElem_map]at p2
    have cl:aCallV Tryz.prog (den C (n+3)) (.fn 64 [] []) [.agg (modC ms[lo]),.str t] s1=some (I (Lib.compareBytes ms[lo].1 t),s1):=by
     show aCall Tryz.prog (den C (n+3)) 64 [.agg [.str ms[lo].1,.str ms[lo].2],.str t] s1=_
     exact aC (by kernel_rfl) rfl (fun _=>⟨[],c64 (n+1) _ _ _ _⟩) fun e=>(nomatch (show true=false from e))
    simp only[strip_rs,strip_mr,strip_nilf,Bool.false_eq_true,if_false,↓kR,kE,kK,sL,C_P,Nat.reduceEqDiff,reduceIte,e0,e1,e2,e8,hlt2,p1,p2,sg,cl,sL]
    exact⟨_,rfl⟩
   ·have hlt2:decide (lo<ms.length)=false:=decide_eq_false hl2
    simp only[strip_rs,strip_mr,strip_nilf,Bool.false_eq_true,if_false,↓kR,kE,kK,sL,C_P,Nat.reduceEqDiff,reduceIte,e0,e1,e2,e8,hlt2,sL]
    exact⟨_,rfl⟩
 ·rintro e s1 q ⟨rfl,e0,e1,e2,e8,lo,hi',e9,e10,k1,k2,k3,k4⟩
  have hlt:decide (lo<hi')=false:=decide_eq_false (by omega)
  have k5:bsP ms t=lo:=by
   rw[←k4,Nat.sub_self];rfl
  rw[k5]
  simp only[strip_rs,strip_mr,strip_nilf,Bool.false_eq_true,if_false,↓kR,kE,kK,sL,C_P,Nat.reduceEqDiff,reduceIte,e9,e10,hlt,sL]
  by_cases hl2:lo<ms.length
  ·have hlt2:decide (lo<ms.length)=true:=decide_eq_true hl2
   obtain⟨p,p1,p2,p3,_⟩:=hs.at und46 sz45 (by decide) (by decide) (i:=lo) (by rw[List.length_map];exact hl2)
   rw[List.getElem_map]at p2
   have cl:aCallV Tryz.prog (den C (n+3)) (.fn 64 [] []) [.agg (modC ms[lo]),.str t] s1=some (I (Lib.compareBytes ms[lo].1 t),s1):=by
    show aCall Tryz.prog (den C (n+3)) 64 [.agg [.str ms[lo].1,.str ms[lo].2],.str t] s1=_
    exact aC (by kernel_rfl) rfl (fun _=>⟨[],c64 (n+1) _ _ _ _⟩) fun e=>(nomatch (show true=false from e))
   simp only[strip_rs,strip_mr,strip_nilf,Bool.false_eq_true,if_false,↓kR,kE,kK,sL,C_P,Nat.reduceEqDiff,reduceIte,e0,e1,e2,e8,hlt2,p1,p2,sg,cl,sL]
   exact⟨_,rfl⟩
  ·have hlt2:decide (lo<ms.length)=false:=decide_eq_false hl2
   simp only[strip_rs,strip_mr,strip_nilf,Bool.false_eq_true,if_false,↓kR,kE,kK,sL,C_P,Nat.reduceEqDiff,reduceIte,e0,e1,e2,e8,hlt2,sL]
   exact⟨_,rfl⟩
end Srv
end

section
namespace Srv
open Go Go.Abs Go.Proofs
theorem setL_one {cs:List AV}{o:Nat}{x:AV}:setL cs o [x]=cs.set o x:=rfl
theorem flat_set {z:Nat}{es:List (List AV)}(h:∀e∈es,e.length=z){k j:Nat}(hk:k<es.length)(hj:j<z)(x:AV):es.flatten.set (k*z+j) x=(es.set k (es[k].set j x)).flatten:=by
 induction es generalizing k with
 | nil=>cases hk
 | cons e l ih =>
  have he:=h e (by simp)
  cases k with
  | zero =>
   simp only[Nat.zero_mul,Nat.zero_add,List.flatten_cons,List.set_cons_zero,List.getElem_cons_zero]
   rw[List.set_append_left _ _ (by omega)]
  | succ k =>
   simp only[List.flatten_cons,List.set_cons_succ,List.getElem_cons_succ]
   rw[List.set_append_right _ _ (by rw[he,Nat.succ_mul];omega),←ih (fun e he=>h e (by simp[he])) (by simpa using hk)]
   congr 2
   rw[he,Nat.succ_mul];omega
abbrev Up0 (s s':Heap):Prop:=Upd [] s s'
theorem Up0.get {s s':Heap}(u:Up0 s s'){i:Nat}(hi:i<s.length):s'[i]?=s[i]?:=u.old i hi nofun
theorem Up0.at {s s':Heap}(u:Up0 s s'){i:Nat}{x:TypeId×List AV}(hi:s[i]?=some x):s'[i]?=some x:=(u.get (glt hi)).trans hi
theorem Gr.up {s s':Heap}(g:Gr s s'):Up0 s s':=g.upd []
theorem Up0.fg {s s':Heap}(u:Up0 s s')(G:Foot):Fg G s s':=⟨u.len,fun i hi _=>u.get hi,fun i t cs h _ _ _ _ _ _=>u.at h⟩
section
variable {s s':Heap}{V:Nat}{G F:Foot}{S M D Mr Ma Av:Nat}{r:Int}{f:Inp}{comps clock:Int}{ql:List Ent}{mv vv pv:AV}{st:St}
theorem SI.up (h:SI s V G F S M D Mr Ma Av r f comps clock ql mv vv pv st)(u:Up0 s s'):SI s' V G F S M D Mr Ma Av r f comps clock ql mv vv pv st :=
 ⟨h.m.fr u.len (fun i t cs hi _ _=>u.at hi) fun i hi=>u.get (h.m.hF i hi),u.at h.sv,h.mm.tf fun i cs hi=>u.at hi,h.vm.tf fun i cs hi=>u.at hi,h.pm.tf fun i cs hi=>u.at hi,h.sp,h.enc,h.ok,h.vl,h.nF,h.pl,h.pk,h.pq,h.G1,h.G2,fun i hi=>Nat.lt_of_lt_of_le (h.GL i hi) u.len,h.bd⟩
theorem cl37 (n:Nat)(h:SI s V G F S M D Mr Ma Av r f comps clock ql mv vv pv st):∃m1 s1 v1 s2,den C (n+1) 49 [mv] s=some (m1,s1)∧aLoad false false 1 (.ref V 0) s=some (mv,s)∧aLoad false false 1 (.ref V 1) s1=some (vv,s1)∧den C (n+1) 60 [vv] s1=some (v1,s2)∧Gr s s1∧Gr s1 s2∧(kept s s1).contains V=true∧(kept s1 s2).contains V=true∧m1.strip=m1∧v1.strip=v1∧SL 45 2 s2 m1 (st.ms.map modC)∧SL 3 1 s2 v1 (st.vs.map intC) ∧
  ((st.ms=[]∧(m1=.nils∨m1=.sl 45 2 [] .full)∧(v1=.nils∨v1=.sl 3 1 [] .full))∨(st.ms≠[]∧m1=.rs 45 2 s.length 0 st.ms.length∧v1=.rs 3 1 s1.length 0 st.ms.length∧s2[s.length]?=some (45,(st.ms.map modC).flatten)∧s2[s1.length]?=some (3,(st.vs.map intC).flatten)∧s1.length=s.length+1)):=by
 obtain⟨m1,s1,a1,a2,a3,a4,a5⟩:=k49 n h.mm h.sp.1
 have h1:=h.gr a4
 obtain⟨v1,s2,b1,b2,b3,b4,b5⟩:=k60 n h1.vm h.sp.2.1
 refine⟨m1,s1,v1,s2,a1,ldv h.sv (by decide) rfl h.sp.1,ldv h1.sv (by decide) rfl h.sp.2.1,b1,a4,b4,kept_of (glt h.sv) (a4.get (glt h.sv)),kept_of (glt h1.sv) (b4.get (glt h1.sv)),a3,b3,a2.gr b4,b2,?_⟩
 have hvl:=h.vl
 rcases a5 with ⟨c1,c2,c3⟩|⟨c1,c2,c3⟩
 ·have e:st.ms=[]:=by simpa using c1
  rcases b5 with ⟨d1,d2,d3⟩|⟨d1,d2,d3⟩
  ·exact .inl ⟨e,c2,d2⟩
  ·exact absurd (by rw[List.map_eq_nil_iff];exact List.length_eq_zero_iff.1 (by rw[hvl,e];rfl)) d1
 ·have e:st.ms≠[]:=by simpa using c1
  rcases b5 with ⟨d1,d2,d3⟩|⟨d1,d2,d3⟩
  ·have e2:st.vs=[]:=by simpa using d1
   exact absurd (List.length_eq_zero_iff.1 (by rw[←hvl,e2];rfl)) e
  ·right
   rw[List.length_map]at c2 d2
   rw[hvl]at d2
   refine⟨e,c2,d2,b4.at (by rw[c3];exact gapp_new),by rw[d3];exact gapp_new,by rw[c3,app_length]⟩
end
theorem SL.mk {ty z:Nat}(hz:z≠0){s:Heap}{Q:Nat}{es:List (List AV)}(hE:Els z es)(hQ:s[Q]?=some (ty,es.flatten))(hne:es≠[]):SL ty z s (.rs ty z Q 0 es.length) es:=by
 refine SL.rs (ty:=ty) Q 0 [] [] es hE (by rw[hQ,List.append_nil,List.nil_append]) rfl ?_
 rw[List.nil_append,List.append_nil,hE.len]
 exact Nat.mul_pos (List.length_pos_iff.2 hne) (Nat.pos_of_ne_zero hz)
theorem intC_els (xs:List Int)(h:xs.length<1000000):Els 1 (xs.map intC):=⟨fun e he=>by obtain⟨k,_,rfl⟩:=List.mem_map.1 he;exact⟨rfl,rfl⟩,by rw[List.length_map];exact h⟩
def wrM (ms:List Mod)(nm tx:Bytes):List Mod:=if ms.any (nmP nm)=true then ms.set (ms.findIdx (nmP nm)) (nm,tx) else ms.take (bsP ms nm)++(nm,tx)::ms.drop (bsP ms nm)
def wrV (ms:List Mod)(vs:List Int)(nm:Bytes):List Int:=if ms.any (nmP nm)=true then vs.set (ms.findIdx (nmP nm)) (IntKind.i64.wrap (vs.getD (ms.findIdx (nmP nm)) 0+1)) else vs.take (bsP ms nm)++1::vs.drop (bsP ms nm)
theorem wr_len (ms:List Mod)(vs:List Int)(nm tx:Bytes)(h:vs.length=ms.length):(wrV ms vs nm).length=(wrM ms nm tx).length:=by
 unfold wrV wrM
 split<;>simp[h]
theorem wrM_len (ms:List Mod)(nm tx:Bytes):(wrM ms nm tx).length≤ms.length+1:=by
 have:=bsP_le ms nm
 unfold wrM
 split<;>simp<;>omega
theorem findIdx_any {α:Type}{p:α→Bool}{l:List α}(h:l.any p=true):∃hi:l.findIdx p<l.length,p l[l.findIdx p]=true:=by
 have:l.findIdx p<l.length:=List.findIdx_lt_length.2 (by simpa[List.any_eq_true] using h)
 exact⟨this,List.findIdx_getElem (w:=this)⟩
theorem ohX (X:Option (AV×Heap)):oh X (fun r s'=>some (r,s'))=X:=by cases X<;>rfl
theorem Els.takeF {z:Nat}{es:List (List AV)}(h:Els z es)(p:Nat):es.flatten.take (p*z)=(es.take p).flatten∧es.flatten.drop (p*z)=(es.drop p).flatten:=by
 by_cases hp:p≤es.length
 ·have h1:(es.take p).flatten.length=p*z:=by
   have:Els z (es.take p):=⟨fun e he=>h.1 e (List.mem_of_mem_take he),by have:=h.2;simp;omega⟩
   rw[this.len,List.length_take,Nat.min_eq_left hp]
  have h2:es.flatten=(es.take p).flatten++(es.drop p).flatten:=by rw[←List.flatten_append,List.take_append_drop]
  rw[h2,List.take_left' h1,List.drop_left' h1]
  exact⟨rfl,rfl⟩
 ·have hl:es.flatten.length≤p*z:=by rw[h.len];exact Nat.mul_le_mul_right z (by omega)
  rw[List.take_of_length_le hl,List.drop_of_length_le hl,List.take_of_length_le (by omega),List.drop_of_length_le (by omega)]
  exact⟨rfl,rfl⟩
theorem ins_ok {ty z:Nat}(hz:0<z){s:Heap}{x:AV}{es:List (List AV)}(E:Els z es){e0:AV}{e:List AV}(he0:e0.cells=e)(he:e.length=z∧e.map AV.strip=e)(p:Nat)(hp:p≤es.length)(t':TypeId)(fl:Flag)
  (hx:(es=[]∧(x=.nils∨x=.sl ty z [] .full))∨∃id,es≠[]∧x=.rs ty z id 0 es.length∧s[id]?=some (ty,es.flatten)) :
  ∃s',eIns ty z [x,I p,.sl t' z [e0] fl] s=some (.rs ty z s.length 0 (es.length+1),s')∧s'[s.length]?=some (ty,(es.take p++e::es.drop p).flatten)∧s'.length=s.length+1∧∀j,j<s.length→(∀id,x=.rs ty z id 0 es.length→j≠id)→s'[j]?=s[j]?:=by
 rcases hx with ⟨rfl,hx⟩|⟨id,hne,rfl,hid⟩
 ·have hp0:p=0:=Nat.le_zero.1 hp
  subst hp0
  refine⟨s++[(ty,e)],?_,by rw[gapp_new];simp,app_length _ _,fun j hj _=>gapp_old hj⟩
  unfold eIns
  rcases hx with rfl|rfl<;>simp[he0,he.1,he.2]
 ·refine⟨kill s id++[(ty,(es.take p++e::es.drop p).flatten)],?_,?_,by rw[app_length];unfold kill;rw[set_length],fun j hj hk=>?_⟩
  ·have hl:0<es.length:=List.length_pos_iff.2 hne
   have h6:=E.2
   have hfl:=E.len
   have c1:(0:Int)≤p∧(p:Int)≤es.length:=by omega
   have c2:es.length*z≤es.flatten.length:=by omega
   unfold eIns
   simp only[he0,he.1,and_self,if_true]
   rw[if_pos (by first|exact⟨⟨rfl,rfl⟩,c1,hl,h6⟩|exact⟨trivial,c1,hl,h6⟩|exact⟨c1,hl,h6⟩)]
   simp only[hid,true_and]
   rw[if_pos c2]
   obtain⟨t1,t2⟩:=E.takeF p
   rw[List.take_of_length_le (by omega:es.flatten.length≤es.length*z),Int.toNat_natCast,t1,t2,he.2]
   have E1:Els z (es.take p):=⟨fun e he=>E.1 e (List.mem_of_mem_take he),by simp;omega⟩
   have E2:Els z (es.drop p):=⟨fun e he=>E.1 e (List.mem_of_mem_drop he),by simp;omega⟩
   rw[E1.strip,E2.strip]
   simp
  ·rw[show s.length=(kill s id).length by unfold kill;rw[set_length]];exact gapp_new
  ·rw[gapp_old (by unfold kill;rw[set_length];exact hj),kill_get,if_neg (hk id rfl)]
theorem mk37 (n:Nat){s:Heap}{V:Nat}{G F:Foot}{S M D Mr Ma Av:Nat}{r:Int}{f:Inp}{comps clock:Int}{ql:List Ent}{mv vv pv:AV}{st:St}(h:SI s V G F S M D Mr Ma Av r f comps clock ql mv vv pv st)(hn:20<n)(nm tx:Bytes)(P:Option (AV×Heap)→Prop)
  (fin:∀s3 mv' vv',Up0 s s3→SL 45 2 s3 mv' ((wrM st.ms nm tx).map modC)→SL 3 1 s3 vv' ((wrV st.ms st.vs nm).map intC)→(∃Q off n,mv'=.rs 45 2 Q off n)→(∃Q off n,vv'=.rs 3 1 Q off n)→P (aCall Tryz.prog (den C (n+321)) 62 [.ref V 0,mv',vv'] s3)) :
  P (den C (n+322) 37 [.ref V 0,.str nm,.str tx] s):=by
 obtain⟨m1,s1,v1,s2,a1,l0,l1,b1,g1,g2,kp1,kp2,ms1,vs1,sl1,sl2,hcase⟩:=cl37 (n+320) h
 have h2:=h.gr (g1.trans g2)
 obtain⟨s3,c3,g3⟩:=a61 (n+314) h2 nm (by omega)
 have h8:=SI.len8 h.ok
 have e49:enterable Tryz.prog 49=true:=by kernel_rfl
 have e60:enterable Tryz.prog 60=true:=by kernel_rfl
 have q1:decide (fidx (nmP nm) st.ms ≥ 0)=st.ms.any (nmP nm):=fidx_nn _ _
 have q2:decide (0≤fidx (nmP nm) st.ms)=st.ms.any (nmP nm):=fidx_nn _ _
 cases hany:st.ms.any (nmP nm) with
 | true =>
  rw[hany]at q1 q2
  obtain⟨hk,hp⟩:=findIdx_any hany
  obtain⟨k,hkk⟩:∃k,st.ms.findIdx (nmP nm)=k:=⟨_,rfl⟩
  have hfx:fidx (nmP nm) st.ms=(k:Int):=by unfold fidx;rw[if_pos hany,hkk]
  rw[hfx]at c3 q1 q2
  rw[hkk]at hk
  simp only[hkk]at hp
  rcases hcase with ⟨e,_⟩|⟨hne,rfl,rfl,at1,at2,n1⟩
  ·rw[e]at hk;cases hk
  have ix1:aIndexAddr Tryz.prog 46 (.rs 45 2 s.length 0 st.ms.length) (I k)=some (.ref s.length (k*2)):=by
   have:(k:Int)<st.ms.length:=by omega
   simp[aIndexAddr,und46,sz45,this]
  have ix2:aIndexAddr Tryz.prog 59 (.rs 3 1 s1.length 0 st.ms.length) (I k)=some (.ref s1.length (k*1)):=by
   have:(k:Int)<st.ms.length:=by omega
   simp[aIndexAddr,under59,sz3,this]
  have l3:=g3.len
  have l2:=g2.len
  have hl1:s.length<s2.length:=by omega
  have A1:s3[s.length]?=some (45,(st.ms.map modC).flatten):=g3.at at1
  have A2:s3[s1.length]?=some (3,(st.vs.map intC).flatten):=g3.at at2
  have hvl:=h.vl
  have E1:Els 2 (st.ms.map modC):=h.mm.els
  have E2:Els 1 (st.vs.map intC):=h.vm.els
  obtain⟨s4,e4⟩:∃s4,s3.set s.length (45,(st.ms.map modC).flatten.set (k*2+1) (.str tx))=s4:=⟨_,rfl⟩
  have fl1:(st.ms.map modC).flatten.length=st.ms.length*2:=by rw[E1.len,List.length_map]
  have fl2:(st.vs.map intC).flatten.length=st.ms.length*1:=by rw[E2.len,List.length_map,hvl]
  have st4:aStore 1 s3 (.ref s.length (k*2+1)) (.str tx)=some s4:=by
   rw[Srv.st (n:=1) A1 (by decide) rfl rfl (by omega),←e4];rfl
  have A4:s4[s.length]?=some (45,(st.ms.map modC).flatten.set (k*2+1) (.str tx)):=by rw[←e4];exact gset_eq A1
  have B4:s4[s1.length]?=some (3,(st.vs.map intC).flatten):=by rw[←e4,gset_ne (by omega)];exact A2
  have hkv:k<st.vs.length:=by omega
  have gk:(st.vs.map intC).flatten[k*1]?=some (I st.vs[k]):=by
   have:=E2.get (i:=k) (by rw[List.length_map];exact hkv)
   rw[List.getElem_map]at this
   have h0:((List.drop (k*1) (st.vs.map intC).flatten).take 1)[0]?=some (I st.vs[k]):=by rw[this];rfl
   rw[List.getElem?_take_of_lt (by decide),List.getElem?_drop]at h0
   exact h0
  have lk:aLoad false false 1 (.ref s1.length (k*1)) s4=some (I st.vs[k],s4):=ldv B4 (by decide) gk
  obtain⟨s5,e5⟩:∃s5,s4.set s1.length (3,(st.vs.map intC).flatten.set (k*1+0) (I (IntKind.i64.wrap (st.vs[k]+1))))=s5:=⟨_,rfl⟩
  have st5:aStore 1 s4 (.ref s1.length (k*1)) (I (IntKind.i64.wrap (st.vs[k]+1)))=some s5:=by
   rw[Srv.st (n:=1) B4 (by decide) rfl rfl (by omega),←e5];rfl
  have A5:s5[s.length]?=some (45,(st.ms.map modC).flatten.set (k*2+1) (.str tx)):=by rw[←e5,gset_ne (by omega)];exact A4
  have B5:s5[s1.length]?=some (3,(st.vs.map intC).flatten.set (k*1+0) (I (IntKind.i64.wrap (st.vs[k]+1)))):=by rw[←e5];exact gset_eq B4
  rw[flat_set (fun e he=>(E1.1 e he).1) (by rw[List.length_map];exact hk) (by decide)]at A5
  rw[flat_set (fun e he=>(E2.1 e he).1) (by rw[List.length_map];exact hkv) (by decide)]at B5
  have W1:(st.ms.map modC).set k ((st.ms.map modC)[k]'(by rw[List.length_map];exact hk) |>.set 1 (.str tx))=(wrM st.ms nm tx).map modC:=by
   unfold wrM
   rw[if_pos hany,hkk,List.map_set,List.getElem_map]
   have:st.ms[k].1=nm:=by simpa[nmP] using hp
   show (st.ms.map modC).set k [.str st.ms[k].1,.str tx]=_
   rw[this]
  have W2:(st.vs.map intC).set k ((st.vs.map intC)[k]'(by rw[List.length_map];exact hkv) |>.set 0 (I (IntKind.i64.wrap (st.vs[k]+1))))=(wrV st.ms st.vs nm).map intC:=by
   unfold wrV
   rw[if_pos hany,hkk,List.map_set,List.getElem_map]
   rw[List.getD_eq_getElem?_getD,List.getElem?_eq_getElem hkv];rfl
  rw[W1]at A5
  rw[W2]at B5
  have nw:(wrM st.ms nm tx).length=st.ms.length:=by unfold wrM;rw[if_pos hany];simp
  have nv:(wrV st.ms st.vs nm).length=st.ms.length:=by unfold wrV;rw[if_pos hany];simp[hvl]
  have up:Up0 s s5:=by
   rw[←e5,←e4]
   exact((((g1.trans g2).trans g3).upd []).set (.inr (Nat.le_refl _)) _).set (.inr (by omega)) _
  have S1:=SL.mk (by decide) (modC_els _ (by omega)) A5 (by intro e;rw[List.map_eq_nil_iff]at e;rw[e]at nw;simp at nw;omega)
  have S2:=SL.mk (by decide) (intC_els _ (by omega)) B5 (by intro e;rw[List.map_eq_nil_iff]at e;rw[e]at nv;simp at nv;omega)
  rw[List.length_map,nw]at S1
  rw[List.length_map,nv]at S2
  have fx:=fin s5 _ _ up S1 S2 ⟨_,_,_,rfl⟩ ⟨_,_,_,rfl⟩
  rw[rd Tryz.func37];conv in compF _ _ _ _ _ _=>cbv
  simp only[strip_rs,strip_mr,strip_nilf,Bool.false_eq_true,if_false,↓kR,kE,kK,sL,C_P,Nat.reduceEqDiff,reduceIte,Tryz.f37,l0,h.sp.1,h.sp.2.1,cFs _ _ e49,cFs _ _ e60,a1,l1,b1,kp1,kp2,c3,q1,q2,ms1,vs1,ix1,ix2,st4,lk,st5,ohX,sL]
  exact fx
 | false =>
  rw[hany]at q1 q2
  have hfx:fidx (nmP nm) st.ms=-1:=by unfold fidx;rw[hany];rfl
  rw[hfx]at c3 q1 q2
  have hl:SL 45 2 s3 m1 (st.ms.map modC):=sl1.gr g3
  obtain⟨bb,bs'⟩:∃bb,aCall Tryz.prog (den C (n+321)) 63 [m1,.str nm,.fn 64 [] []] s3=some (.tup [I (bsP st.ms nm),.bool bb],s3):=by
   cases hr:noRefL [m1,.str nm,.fn 64 [] []] with
   | true =>
    have:SL 45 2 [] m1 (st.ms.map modC):=hl.pure (by simp only[noRefL,Bool.and_eq_true]at hr;exact hr.1)
    obtain⟨b2,bs2⟩:=c63 (n+317) this nm (by omega) (by omega)
    exact⟨b2,aC (by kernel_rfl) rfl (fun _=>⟨[],bs2⟩) fun e=>by rw[hr]at e;cases e⟩
   | false =>
    obtain⟨bb,bs⟩:=c63 (n+317) hl nm (by omega) (by omega)
    exact⟨bb,aC (by kernel_rfl) rfl (fun e=>by rw[hr]at e;cases e) fun _=>bs⟩
  have e66:enterable Tryz.prog 66=true:=by kernel_rfl
  have e67:enterable Tryz.prog 67=true:=by kernel_rfl
  have s64:(AV.fn 64 [] []).strip=.fn 64 [] []:=rfl
  have b45:aBuild Tryz.prog 45 [(0,.str nm),(1,.str tx)]=some (.agg [.str nm,.str tx]):=bm45 nm tx
  have b46:=bs46 nm tx
  have b59:aBuildSlice Tryz.prog 59 1 [(0,I 1)]=some (.sl 3 1 [I 1] .own):=by kernel_rfl
  have so1:(AV.sl 45 2 [.agg [.str nm,.str tx]] .own).strip=.sl 45 2 [.agg [.str nm,.str tx]] .sh:=rfl
  have so2:(AV.sl 3 1 [I 1] .own).strip=.sl 3 1 [I 1] .sh:=rfl
  have hvl:=h.vl
  have hp:bsP st.ms nm≤st.ms.length:=bsP_le _ _
  have x1:((st.ms.map modC)=[]∧(m1=.nils∨m1=.sl 45 2 [] .full))∨∃id,(st.ms.map modC)≠[]∧m1=.rs 45 2 id 0 (st.ms.map modC).length∧s3[id]?=some (45,(st.ms.map modC).flatten):=by
   rcases hcase with ⟨e,h1,_⟩|⟨hne,h1,_,at1,_,_⟩
   ·exact .inl ⟨by rw[e];rfl,h1⟩
   ·exact .inr ⟨s.length,by simpa using hne,by rw[List.length_map];exact h1,g3.at at1⟩
  obtain⟨s4,i1,i2,i3,i4⟩:=ins_ok (ty:=45) (z:=2) (by decide) h.mm.els (e0:=.agg [.str nm,.str tx]) (e:=[.str nm,.str tx]) rfl ⟨rfl,rfl⟩ (bsP st.ms nm) (by rw[List.length_map];exact hp) 45 .sh x1
  have i1':den C (n+321) 66 [m1,I (bsP st.ms nm),.sl 45 2 [.agg [.str nm,.str tx]] .sh] s3=_:=i1
  have old4:∀j,j<s3.length→j≠s.length→s4[j]?=s3[j]?:=fun j j1 j2=>i4 j j1 fun id e=>by
   rcases hcase with ⟨_,h1,_⟩|⟨_,h1,_⟩
   ·rw[e]at h1;rcases h1 with h1|h1<;>cases h1
   ·rw[h1]at e;simp only[AV.rs.injEq]at e;rw[←e.2.2.1];exact j2
  have x2:((st.vs.map intC)=[]∧(v1=.nils∨v1=.sl 3 1 [] .full))∨∃id,(st.vs.map intC)≠[]∧v1=.rs 3 1 id 0 (st.vs.map intC).length∧s4[id]?=some (3,(st.vs.map intC).flatten):=by
   rcases hcase with ⟨e,_,h1⟩|⟨hne,_,h1,_,at2,n1⟩
   ·refine .inl ⟨?_,h1⟩
    rw[List.map_eq_nil_iff];exact List.length_eq_zero_iff.1 (by rw[hvl,e];rfl)
   ·refine .inr ⟨s1.length,?_,by rw[List.length_map,hvl];exact h1,?_⟩
    ·rw[Ne,List.map_eq_nil_iff]
     intro e
     exact hne (List.length_eq_zero_iff.1 (by rw[←hvl,e];rfl))
    ·rw[old4 _ (glt (g3.at at2)) (by omega)];exact g3.at at2
  obtain⟨s5,j1,j2,j3,j4⟩:=ins_ok (ty:=3) (z:=1) (by decide) h.vm.els (e0:=I 1) (e:=[I 1]) rfl ⟨rfl,rfl⟩ (bsP st.ms nm) (by rw[List.length_map,hvl];exact hp) 3 .sh x2
  have j1':den C (n+321) 67 [v1,I (bsP st.ms nm),.sl 3 1 [I 1] .sh] s4=_:=j1
  have l13:=(g1.trans (g2.trans g3)).len
  have l23:=(g2.trans g3).len
  have old5:∀j,j<s4.length→(∀n0,v1=.rs 3 1 s1.length 0 n0→j≠s1.length)→s5[j]?=s4[j]?:=fun j k1 k2=>j4 j k1 fun id e=>by
   rcases hcase with ⟨_,_,h1⟩|⟨_,_,h1,_⟩
   ·rw[e]at h1;rcases h1 with h1|h1<;>cases h1
   ·have e':=e
    rw[h1]at e;simp only[AV.rs.injEq]at e;rw[←e.2.2.1]
    exact k2 _ h1
  have n1':s.length≤s1.length:=g1.len
  have up:Up0 s s5:=⟨by omega,fun j k1 _=>by rw[old5 j (by omega) (fun _ _=>by omega),old4 j (by omega) (by omega),(g1.trans (g2.trans g3)).get k1]⟩
  have W1:(st.ms.map modC).take (bsP st.ms nm)++[AV.str nm,.str tx]::(st.ms.map modC).drop (bsP st.ms nm)=(wrM st.ms nm tx).map modC:=by
   unfold wrM
   rw[if_neg (by rw[hany];decide)]
   simp[List.map_take,List.map_drop]
  have W2:(st.vs.map intC).take (bsP st.ms nm)++[I 1]::(st.vs.map intC).drop (bsP st.ms nm)=(wrV st.ms st.vs nm).map intC:=by
   unfold wrV
   rw[if_neg (by rw[hany];decide)]
   simp[List.map_take,List.map_drop]
  rw[W1]at i2
  rw[W2]at j2
  have nw:(wrM st.ms nm tx).length=st.ms.length+1:=by unfold wrM;rw[if_neg (by rw[hany];decide)];simp;omega
  have nv:(wrV st.ms st.vs nm).length=st.ms.length+1:=by unfold wrV;rw[if_neg (by rw[hany];decide)];simp[hvl];omega
  have i2':s5[s3.length]?=some (45,((wrM st.ms nm tx).map modC).flatten):=by
   rw[old5 _ (by omega) (fun n0 e=>?_),i2]
   rcases hcase with ⟨_,_,h1⟩|⟨_,_,_,_,at2,_⟩
   ·rw[e]at h1;rcases h1 with h1|h1<;>cases h1
   ·have:=glt (g3.at at2);omega
  have S1:=SL.mk (by decide) (modC_els _ (by omega)) i2' (by intro e;rw[List.map_eq_nil_iff]at e;rw[e]at nw;simp at nw)
  have S2:=SL.mk (by decide) (intC_els _ (by omega)) j2 (by intro e;rw[List.map_eq_nil_iff]at e;rw[e]at nv;simp at nv)
  rw[List.length_map,nw]at S1
  rw[List.length_map,nv]at S2
  rw[List.length_map]at i1' j1'
  rw[hvl]at j1'
  have fx:=fin s5 _ _ up S1 S2 ⟨_,_,_,rfl⟩ ⟨_,_,_,rfl⟩
  rw[rd Tryz.func37];conv in compF _ _ _ _ _ _=>cbv
  simp only[strip_rs,strip_mr,strip_nilf,Bool.false_eq_true,if_false,↓kR,kE,kK,sL,C_P,Nat.reduceEqDiff,reduceIte,Tryz.f37,l0,h.sp.1,h.sp.2.1,cFs _ _ e49,cFs _ _ e60,a1,l1,b1,kp1,kp2,c3,q1,q2,ms1,vs1,s64,bs',b45,b46,b59,so1,so2,cFs _ _ e66,cFs _ _ e67,i1',j1',ohX,sL]
  exact fx
noncomputable def repl (st:St)(ms:List Mod)(vs:List Int):Int×St:=if vErr ms=0 then(0,{ st with ms:=ms,vs:=vs,rev:=st.rev+1 }) else(vErr ms,st)
theorem srvI_fn {s s':Heap}{V:Nat}{G F:Foot}{S M D Mr Ma Av:Nat}{r:Int}{f:Inp}{comps clock:Int}{ql:List Ent}{mv vv pv:AV}{st:St}(h:SI s' V G F S M D Mr Ma Av r f comps clock ql mv vv pv st)(hl:s.length≤s'.length):SI s' V (FN G s s') F S M D Mr Ma Av r f comps clock ql mv vv pv st :=
 ⟨h.m,h.sv,h.mm,h.vm,h.pm,h.sp,h.enc,h.ok,h.vl,h.nF,h.pl,h.pk,h.pq,fun i hi=>.inl (h.G1 i hi),⟨.inl h.G2.1,.inl h.G2.2.1,.inl h.G2.2.2.1,.inl h.G2.2.2.2.1,fun e he=>.inl (h.G2.2.2.2.2.1 e he),fun P hP=>.inl (h.G2.2.2.2.2.2 P hP)⟩,fun i hi=>hi.elim (h.GL i) (·.2),h.bd⟩
theorem put62 (n:Nat)(hn:20<n){s s3:Heap}{V:Nat}{G F:Foot}{S M D Mr Ma Av:Nat}{r:Int}{f:Inp}{comps clock:Int}{ql:List Ent}{mv vv pv:AV}{st:St}{B:Int}(h:SI s V G F S M D Mr Ma Av r f comps clock ql mv vv pv st)(hB:r≤B∧comps≤B∧clock≤B∧st.rev≤B)(hB2:B<800000000)(u:Up0 s s3){mv' vv':AV}{ms':List Mod}{vs':List Int}(hl:ms'.length<n)(hm:SL 45 2 s3 mv' (ms'.map modC))(hm':∃Q off n,mv'=.rs 45 2 Q off n)(hv:SL 3 1 s3 vv' (vs'.map intC))(hv':∃Q off n,vv'=.rs 3 1 Q off n)(hvl:vs'.length=ms'.length) :
  ∃s',aCall Tryz.prog (den C (n+321)) 62 [.ref V 0,mv',vv'] s3=some (I (repl st ms' vs').1,s')∧SrvI s' V (FN G s s') (repl st ms' vs').2 (B+20)∧Fg G s s':=by
 have h3:=h.up u
 have hms:mv'.strip=mv':=by obtain⟨Q,off,m,rfl⟩:=hm';rfl
 by_cases hok:vErr ms'=0
 ·obtain⟨s',F',r',f',c1,c2,c3,c4⟩:=c62 n h3 (by omega) (by omega) hm hm' hv hv' hok hvl hn
  have l3:=c3.len
  have l2:=u.len
  unfold repl
  rw[if_pos hok]
  refine⟨s',?_,⟨F',S,M,D,Mr,Ma,Av,r',f',comps,clock,ql,mv',vv',pv,⟨c2.m,c2.sv,c2.mm,c2.vm,c2.pm,c2.sp,c2.enc,c2.ok,c2.vl,c2.nF,c2.pl,c2.pk,c2.pq,fun i hi=>?_,?_,fun i hi=>?_,c2.bd⟩,by omega,by omega,by omega,by show st.rev+1≤B+20;omega⟩,(u.fg G).trans c3 fun i hi=>.inl hi⟩
  ·rw[aCall,if_pos (by kernel_rfl),if_neg (by simp[noRefL_cons,AV.noRef])];exact c1
  ·rcases c2.G1 i hi with h'|h'
   ·exact .inl h'
   ·exact .inr ⟨by omega,h'.2⟩
  ·exact⟨.inl h.G2.1,.inl h.G2.2.1,.inl h.G2.2.2.1,.inl h.G2.2.2.2.1,fun e he=>.inl (h.G2.2.2.2.2.1 e he),fun P hP=>.inl (h.G2.2.2.2.2.2 P hP)⟩
  ·rcases hi with hi|hi
   ·have:=h.GL i hi;omega
   ·exact hi.2
 ·obtain⟨s',c1,c2⟩:=c62x n h3 hm hms (vv':=vv') hok hl
  have l2:=u.len
  have l3:=c2.len
  unfold repl
  rw[if_neg hok]
  refine⟨s',?_,⟨F,S,M,D,Mr,Ma,Av,r,f,comps,clock,ql,mv,vv,pv,srvI_fn (h3.gr c2) (by omega),by omega,by omega,by omega,by show st.rev≤B+20;omega⟩,Up0.fg (u.trans c2.up) G⟩
  rw[aCall,if_pos (by kernel_rfl),if_neg (by simp[noRefL_cons,AV.noRef])];exact c1
noncomputable def wr (st:St)(nm tx:Bytes):Int×St:=repl st (wrM st.ms nm tx) (wrV st.ms st.vs nm)
theorem c37 (n:Nat)(hn:20<n){s:Heap}{V:Nat}{G:Foot}{st:St}{B:Int}(h:SrvI s V G st B)(hB:B<800000000)(nm tx:Bytes):∃s',den C (n+322) 37 [.ref V 0,.str nm,.str tx] s=some (I (wr st nm tx).1,s')∧SrvI s' V (FN G s s') (wr st nm tx).2 (B+20)∧Fg G s s':=by
 obtain⟨F,S,M,D,Mr,Ma,Av,r,f,comps,clock,ql,mv,vv,pv,h,b1,b2,b3,b4⟩:=h
 have h8:=SI.len8 h.ok
 have hl:=wrM_len st.ms nm tx
 exact mk37 n h hn nm tx (fun x=>∃s',x=some (I (wr st nm tx).1,s')∧SrvI s' V (FN G s s') (wr st nm tx).2 (B+20)∧Fg G s s') fun s3 mv' vv' u k1 k2 k3 k4=>put62 n hn h ⟨b1,b2,b3,b4⟩ hB u (by omega) k1 k3 k2 k4 (wr_len _ _ _ _ h.vl)
end Srv
end

section
namespace Srv
open Go Go.Abs Go.Proofs
theorem del_ok {ty z:Nat}(hz:0<z){s:Heap}{id off:Nat}{es:List (List AV)}{zc:List AV}(hzc:zc.length=z)(h:SL ty z s (.rs ty z id off es.length) es)(i:Nat)(hi:i<es.length) :
  ∃cs',eDel ty z zc [.rs ty z id off es.length,I i,I ((i:Int)+1)] s=some (.rs ty z id off (es.length-1),s.set id (ty,cs'))∧SL ty z (s.set id (ty,cs')) (.rs ty z id off (es.length-1)) (es.take i++es.drop (i+1)):=by
 obtain⟨w,hw⟩:∃w,w=AV.rs ty z id off es.length:=⟨_,rfl⟩
 rw[←hw]at h
 cases h with
 | nil=>cases hw
 | sl _ f h=>cases hw
 | rs Q off' pre junk _ E hQ hp hn =>
  simp only[AV.rs.injEq,true_and,and_true]at hw
  obtain⟨rfl,rfl⟩:=hw
  subst hp
  have hfl:=E.len
  have h6:=E.2
  have e1:Els z (es.take i):=⟨fun e he=>E.1 e (List.mem_of_mem_take he),by simp;omega⟩
  have e2:Els z (es.drop (i+1)):=⟨fun e he=>E.1 e (List.mem_of_mem_drop he),by simp;omega⟩
  have e12:Els z (es.take i++es.drop (i+1)):=⟨fun e he=>(List.mem_append.1 he).elim (e1.1 e) (e2.1 e),by simp;omega⟩
  have l1:(es.take i).flatten.length=i*z:=by rw[e1.len,List.length_take,Nat.min_eq_left (by omega)]
  have l2:(es.drop (i+1)).flatten.length=(es.length-(i+1))*z:=by rw[e2.len,List.length_drop]
  obtain⟨t1,t2⟩:=E.takeF (i+1)
  have hmul:es.length*z=i*z+z+(es.length-(i+1))*z:=by
   have:es.length=i+1+(es.length-(i+1)):=by omega
   conv=>lhs;rw[this]
   rw[Nat.add_mul,Nat.add_mul,Nat.one_mul]
  have lz:(es[i]).length=z:=(E.1 _ (List.getElem_mem hi)).1
  have split:es.flatten=(es.take i).flatten++(es[i]++(es.drop (i+1)).flatten):=by
   conv=>lhs;rw[←List.take_append_drop i es,List.flatten_append,List.drop_eq_getElem_cons hi,List.flatten_cons]
  have key:setL (pre++(es.flatten++junk)) (pre.length+i*z) ((es.drop (i+1)).flatten++zc)=pre++((es.take i++es.drop (i+1)).flatten++(zc++junk)):=by
   rw[setL_eq _ _ _ (by simp only[List.length_append,l2,hzc,hfl];omega)]
   have a1:(pre++(es.flatten++junk)).take (pre.length+i*z)=pre++(es.take i).flatten:=by
    rw[split,List.take_append,List.take_of_length_le (by omega),Nat.add_sub_cancel_left,List.append_assoc,List.take_left' l1]
   have a2:(pre++(es.flatten++junk)).drop (pre.length+i*z+((es.drop (i+1)).flatten++zc).length)=junk:=by
    have hl:((es.drop (i+1)).flatten++zc).length=(es.length-(i+1))*z+z:=by simp only[List.length_append,l2,hzc]
    rw[hl,←List.append_assoc]
    exact List.drop_left' (by simp only[List.length_append,hfl];omega)
   rw[a1,a2,List.flatten_append]
   simp only[List.append_assoc]
  refine⟨pre++((es.take i++es.drop (i+1)).flatten++(zc++junk)),?_,?_⟩
  ·have c1:(0:Int)≤i∧((i:Int)+1=i+1)∧(i:Int)+1≤es.length:=by omega
   unfold eDel
   simp only[]
   rw[if_pos ⟨⟨trivial,trivial⟩,⟨c1.1,trivial,c1.2.2⟩,h6⟩]
   rw[hQ]
   simp only[]
   rw[if_pos ⟨trivial,by simp only[List.length_append,hfl];omega⟩]
   have d1:(pre++(es.flatten++junk)).drop pre.length=es.flatten++junk:=List.drop_left' rfl
   rw[d1,List.take_left' hfl,Int.toNat_natCast,t2,e2.strip,key]
  ·have hl:(es.take i++es.drop (i+1)).length=es.length-1:=by simp;omega
   have:=SL.rs (ty:=ty) (s:=s.set Q (ty,pre++((es.take i++es.drop (i+1)).flatten++(zc++junk)))) Q pre.length pre (zc++junk) (es.take i++es.drop (i+1)) e12 (gset_eq hQ) rfl (by simp only[List.length_append,hzc];omega)
   rwa [hl]at this
theorem aStr {ty z Q off n:Nat}:(AV.rs ty z Q off n).strip=.rs ty z Q off n:=rfl
def rmM {α:Type}(l:List α)(i:Nat):List α:=l.take i++l.drop (i+1)
noncomputable def rem (st:St)(nm:Bytes):Int×St:=if st.ms.any (nmP nm)=true then repl st (rmM st.ms (st.ms.findIdx (nmP nm))) (rmM st.vs (st.ms.findIdx (nmP nm))) else(5,st)
theorem c38 (n:Nat)(hn:20<n){s:Heap}{V:Nat}{G:Foot}{st:St}{B:Int}(h:SrvI s V G st B)(hB:B<800000000)(nm:Bytes):∃s',den C (n+322) 38 [.ref V 0,.str nm] s=some (I (rem st nm).1,s')∧SrvI s' V (FN G s s') (rem st nm).2 (B+20)∧Fg G s s':=by
 obtain⟨F,S,M,D,Mr,Ma,Av,r,f,comps,clock,ql,mv,vv,pv,h,b1,b2,b3,b4⟩:=h
 have h8:=SI.len8 h.ok
 obtain⟨s1,c1,g1⟩:=a61 (n+314) h nm (by omega)
 have h1:=h.gr g1
 cases hany:st.ms.any (nmP nm) with
 | false =>
  have hfx:fidx (nmP nm) st.ms=-1:=by unfold fidx;rw[hany];rfl
  rw[hfx]at c1
  have q:decide ((-1:Int)<0)=true:=rfl
  have e:rem st nm=(5,st):=by unfold rem;rw[hany];rfl
  rw[e]
  rw[rd Tryz.func38];conv in compF _ _ _ _ _ _=>cbv
  simp only[strip_rs,strip_mr,strip_nilf,Bool.false_eq_true,if_false,↓kR,kE,kK,sL,C_P,Nat.reduceEqDiff,reduceIte,Tryz.f38,c1,q,sL]
  exact⟨s1,rfl,⟨F,S,M,D,Mr,Ma,Av,r,f,comps,clock,ql,mv,vv,pv,srvI_fn h1 g1.len,by omega,by omega,by omega,by show st.rev≤B+20;omega⟩,g1.fg G⟩
 | true =>
  obtain⟨hk,hp⟩:=findIdx_any hany
  have e:rem st nm=repl st (rmM st.ms (st.ms.findIdx (nmP nm))) (rmM st.vs (st.ms.findIdx (nmP nm))):=by unfold rem;rw[hany];rfl
  rw[e]
  obtain⟨k,hkk⟩:∃k,st.ms.findIdx (nmP nm)=k:=⟨_,rfl⟩
  have hfx:fidx (nmP nm) st.ms=(k:Int):=by unfold fidx;rw[if_pos hany,hkk]
  rw[hfx]at c1
  rw[hkk]at hk ⊢
  have hvl:=h.vl
  have hne:st.ms.map modC≠[]:=by intro e;rw[List.map_eq_nil_iff]at e;rw[e]at hk;cases hk
  have hne2:st.vs.map intC≠[]:=by intro e;rw[List.map_eq_nil_iff]at e;rw[e]at hvl;rw[←hvl]at hk;cases hk
  have l0:aLoad false false 1 (.ref V 0) s1=some (mv,s1):=ldv h1.sv (by decide) rfl h.sp.1
  obtain⟨m1,s2,a1,a2,a3,a4,a5⟩:=k49 (n+320) h1.mm h.sp.1
  have a5:=a5.resolve_left fun h=>hne h.1
  obtain⟨_,rfl,e2⟩:=a5
  have at2:s2[s1.length]?=some (45,(st.ms.map modC).flatten):=by rw[e2];exact gapp_new
  obtain⟨cs1,d1,d2⟩:=del_ok (z:=2) (by decide) (zc:=[.str [],.str []]) rfl a2 k (by rw[List.length_map];exact hk)
  obtain⟨s3,e3⟩:∃s3,s2.set s1.length (45,cs1)=s3:=⟨_,rfl⟩
  rw[e3]at d1 d2
  have d1':den C (n+321) 68 [.rs 45 2 s1.length 0 (st.ms.map modC).length,I k,I ((k:Int)+1)] s2=_:=d1
  have u3:Up0 s1 s3:=by rw[←e3];exact(a4.upd []).set (.inr (Nat.le_refl _)) _
  have h3:=h1.up u3
  have l1:aLoad false false 1 (.ref V 1) s3=some (vv,s3):=ldv h3.sv (by decide) rfl h.sp.2.1
  obtain⟨v1,s4,p1,p2,p3,p4,p5⟩:=k60 (n+320) h3.vm h.sp.2.1
  have p5:=p5.resolve_left fun h=>hne2 h.1
  obtain⟨_,rfl,e4⟩:=p5
  obtain⟨cs2,q1,q2⟩:=del_ok (z:=1) (by decide) (zc:=[I 0]) rfl p2 k (by rw[List.length_map,hvl];exact hk)
  obtain⟨s5,e5⟩:∃s5,s4.set s3.length (3,cs2)=s5:=⟨_,rfl⟩
  rw[e5]at q1 q2
  have q1':den C (n+321) 69 [.rs 3 1 s3.length 0 (st.vs.map intC).length,I k,I ((k:Int)+1)] s4=_:=q1
  have u5:Up0 s3 s5:=by rw[←e5];exact(p4.upd []).set (.inr (Nat.le_refl _)) _
  have d25:=d2.tf (s':=s5) fun i cs hi=>u5.at hi
  have u:Up0 s s5:=(g1.upd []).trans (u3.trans u5)
  have wk:=wrap64 (show -9223372036854775808≤(k:Int)+1 by omega) (by omega)
  have qk:decide ((k:Int)<0)=false:=decide_eq_false (by omega)
  have W1:(st.ms.map modC).take k++(st.ms.map modC).drop (k+1)=(rmM st.ms k).map modC:=by simp[rmM,List.map_take,List.map_drop]
  have W2:(st.vs.map intC).take k++(st.vs.map intC).drop (k+1)=(rmM st.vs k).map intC:=by simp[rmM,List.map_take,List.map_drop]
  rw[W1]at d25
  rw[W2]at q2
  have rl:(rmM st.ms k).length≤st.ms.length:=by simp[rmM];omega
  have rv:(rmM st.vs k).length=(rmM st.ms k).length:=by simp[rmM,hvl]
  obtain⟨s6,f1,f2,f3⟩:=put62 n hn h ⟨b1,b2,b3,b4⟩ hB u (by omega) d25 ⟨_,_,_,rfl⟩ q2 ⟨_,_,_,rfl⟩ rv
  have lV:=glt h1.sv
  have kp1:(kept s1 s2).contains V=true:=kept_of lV (a4.get lV)
  have kp2:(kept s2 s3).contains V=true:=kept_of (Nat.lt_of_lt_of_le lV a4.len) (by rw[←e3,gset_ne (by omega)])
  have e49:enterable Tryz.prog 49=true:=by kernel_rfl
  have e60:enterable Tryz.prog 60=true:=by kernel_rfl
  have e68:enterable Tryz.prog 68=true:=by kernel_rfl
  have e69:enterable Tryz.prog 69=true:=by kernel_rfl
  rw[rd Tryz.func38];conv in compF _ _ _ _ _ _=>cbv
  simp only[strip_rs,strip_mr,strip_nilf,Bool.false_eq_true,if_false,↓kR,kE,kK,sL,C_P,Nat.reduceEqDiff,reduceIte,Tryz.f38,c1,qk,l0,h.sp.1,cFs _ _ e49,a1,wk,cFs _ _ e68,d1',l1,h.sp.2.1,cFs _ _ e60,p1,cFs _ _ e69,q1',f1,ohX,kp1,kp2,sL]
  exact⟨s6,rfl,f2,f3⟩
end Srv
end
