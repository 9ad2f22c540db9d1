/- PrtG, PrtU, PrtH, PrtI, PrtJ, PrtK -/
import Derived.Test.YtnhnmigafkodfaaGreatDoorO
import Derived.Test.YtnhnmigafkodfaaGreatDoorN
import Derived.Test.YtnhnmigafkodfaaGreatDoorJ
set_option linter.all false
set_option maxRecDepth 100000
set_option maxHeartbeats 1000000

section
namespace ParF
open Go Go.Abs Go.Proofs Pm AstF PrtF
attribute [local irreducible] aCall oh
theorem node_em {z K:Nat}{N:Sd→List Bytes}{k v:Int}{x:Bytes}{ps pe pn:Int}{cs:List Nd}{ch:AV}(hch:IsNC cs ch)(ok:∀t,szN t≤z→fitN t→OKp K N t)(hf:fitL cs)(zr:OKp K N zNd)(hz:szNL cs≤z)(hK:z+2≤K)(hz2:z<1000000000)
  (hv:-9223372036854775808≤v∧v≤9223372036854775807)(hx:x.length<1000000000){m:Nat}(hm:K+6≤m):EmAt m 39 [.agg [I k,I v,.str x,I ps,I pe,I pn,ch]] (nodeP N k v x (sdL cs)).flatten:=by
 obtain⟨n,rfl⟩:∃n,m=n+1:=⟨m-1,by omega⟩
 obtain⟨la,ll,lt⟩:=kall (n:=n) hch ok hf zr hz hK hz2 (by omega)
 have ei:=fun hk=>item_em (v:=v) (x:=x) (ps:=ps) (pe:=pe) (pn:=pn) hch ok hf zr hz hK hz2 (k:=k) hk (m:=n) (by omega)
 have ep:=fun hk=>part_em (v:=v) (x:=x) (ps:=ps) (pe:=pe) (pn:=pn) hch ok hf zr hz hK hz2 (k:=k) hk (m:=n) (by omega)
 have es:=fun hk=>stmt_em (v:=v) (x:=x) (ps:=ps) (pe:=pe) (pn:=pn) hch ok hf zr hz hK hz2 (k:=k) hk (m:=n) (by omega)
 have ee:=fun hk=>expr_em (v:=v) (x:=x) (ps:=ps) (pe:=pe) (pn:=pn) hch ok hf zr hz hK hz2 (k:=k) hk hv hx (m:=n) (by omega)
 have ec:=cons_em (v:=v) (x:=x) (ps:=ps) (pe:=pe) (pn:=pn) hch ok hf zr hz hK hz2 (k:=k) (m:=n) (by omega)
 obtain hk|hk|hk|hk|hk|hk|hk|hk|hk|hk|hk:(k=1)∨(2≤k∧k≤9)∨(k=16)∨(10≤k∧k≤20∧k≠16)∨(22≤k∧k≤26)∨(27≤k∧k≤32)∨(39≤k∧k≤42)∨(k≤0)∨(k=21)∨(33≤k∧k≤38)∨(43≤k):=by omega
 ·have hp:(nodeP N k v x (sdL cs))=[listP N [] (sdL cs)]:=by rw[nodeP,if_pos (by omega)]
  rw[hp]
  refine em_of en39 rfl fun H s ts q=>?_
  rw[F39_eq,F39]
  simp only[↓sW,sL,nd_box hch,(beq_iff_eq (a:=k) (b:=1)).2 (by omega),show ¬2≤k by omega,show k≤9 by omega,beq_false_of_ne (a:=k) (b:=16) (by omega),show ¬10≤k by omega,show k≤20 by omega,show ¬22≤k by omega,show k≤26 by omega,show ¬27≤k by omega,show k≤32 by omega,show ¬39≤k by omega,show k≤42 by omega,nd_l6 hch,hch.strip.1,nd_ld hch]
  exact en_call (ll []) fun s' q'=>en_nil
 ·have hp:(nodeP N k v x (sdL cs))=itemP N k v x (sdL cs):=by rw[nodeP,if_neg (by omega),if_pos (by omega)]
  rw[hp]
  refine em_of (pp:=[_]) en39 (by rw[List.flatten_cons,List.flatten_nil,List.append_nil]) fun H s ts q=>?_
  rw[F39_eq,F39]
  simp only[↓sW,sL,nd_box hch,beq_false_of_ne (a:=k) (b:=1) (by omega),show 2≤k by omega,show k≤9 by omega,beq_false_of_ne (a:=k) (b:=16) (by omega),show ¬10≤k by omega,show k≤20 by omega,show ¬22≤k by omega,show k≤26 by omega,show ¬27≤k by omega,show k≤32 by omega,show ¬39≤k by omega,show k≤42 by omega,nd_l6 hch,hch.strip.1,nd_ld hch]
  exact en_call (ei (by omega)) fun s' q'=>en_nil
 ·have hp:(nodeP N k v x (sdL cs))=itemP N k v x (sdL cs):=by rw[nodeP,if_neg (by omega),if_pos (by omega)]
  rw[hp]
  refine em_of (pp:=[_]) en39 (by rw[List.flatten_cons,List.flatten_nil,List.append_nil]) fun H s ts q=>?_
  rw[F39_eq,F39]
  simp only[↓sW,sL,nd_box hch,beq_false_of_ne (a:=k) (b:=1) (by omega),show 2≤k by omega,show ¬k≤9 by omega,(beq_iff_eq (a:=k) (b:=16)).2 (by omega),show 10≤k by omega,show k≤20 by omega,show ¬22≤k by omega,show k≤26 by omega,show ¬27≤k by omega,show k≤32 by omega,show ¬39≤k by omega,show k≤42 by omega,nd_l6 hch,hch.strip.1,nd_ld hch]
  exact en_call (ei (by omega)) fun s' q'=>en_nil
 ·have hp:(nodeP N k v x (sdL cs))=partP N k v x (sdL cs):=by rw[nodeP,if_neg (by omega),if_neg (by omega),if_pos (by omega)]
  rw[hp]
  refine em_of (pp:=[_]) en39 (by rw[List.flatten_cons,List.flatten_nil,List.append_nil]) fun H s ts q=>?_
  rw[F39_eq,F39]
  simp only[↓sW,sL,nd_box hch,beq_false_of_ne (a:=k) (b:=1) (by omega),show 2≤k by omega,show ¬k≤9 by omega,beq_false_of_ne (a:=k) (b:=16) (by omega),show 10≤k by omega,show k≤20 by omega,show ¬22≤k by omega,show k≤26 by omega,show ¬27≤k by omega,show k≤32 by omega,show ¬39≤k by omega,show k≤42 by omega,nd_l6 hch,hch.strip.1,nd_ld hch]
  exact en_call (ep (by omega)) fun s' q'=>en_nil
 ·have hp:(nodeP N k v x (sdL cs))=stmtP N k (sdL cs):=by rw[nodeP,if_neg (by omega),if_neg (by omega),if_neg (by omega),if_pos (by omega)]
  rw[hp]
  refine em_of (pp:=[_]) en39 (by rw[List.flatten_cons,List.flatten_nil,List.append_nil]) fun H s ts q=>?_
  rw[F39_eq,F39]
  simp only[↓sW,sL,nd_box hch,beq_false_of_ne (a:=k) (b:=1) (by omega),show 2≤k by omega,show ¬k≤9 by omega,beq_false_of_ne (a:=k) (b:=16) (by omega),show 10≤k by omega,show ¬k≤20 by omega,show 22≤k by omega,show k≤26 by omega,show ¬27≤k by omega,show k≤32 by omega,show ¬39≤k by omega,show k≤42 by omega,nd_l6 hch,hch.strip.1,nd_ld hch]
  exact en_call (es (by omega)) fun s' q'=>en_nil
 ·have hp:(nodeP N k v x (sdL cs))=exprP N k v x (sdL cs):=by rw[nodeP,if_neg (by omega),if_neg (by omega),if_neg (by omega),if_neg (by omega),if_pos (by omega)]
  rw[hp]
  refine em_of (pp:=[_]) en39 (by rw[List.flatten_cons,List.flatten_nil,List.append_nil]) fun H s ts q=>?_
  rw[F39_eq,F39]
  simp only[↓sW,sL,nd_box hch,beq_false_of_ne (a:=k) (b:=1) (by omega),show 2≤k by omega,show ¬k≤9 by omega,beq_false_of_ne (a:=k) (b:=16) (by omega),show 10≤k by omega,show ¬k≤20 by omega,show 22≤k by omega,show ¬k≤26 by omega,show 27≤k by omega,show k≤32 by omega,show ¬39≤k by omega,show k≤42 by omega,nd_l6 hch,hch.strip.1,nd_ld hch]
  exact en_call (ee (by omega)) fun s' q'=>en_nil
 ·have hp:(nodeP N k v x (sdL cs))=exprP N k v x (sdL cs):=by rw[nodeP,if_neg (by omega),if_neg (by omega),if_neg (by omega),if_neg (by omega),if_pos (by omega)]
  rw[hp]
  refine em_of (pp:=[_]) en39 (by rw[List.flatten_cons,List.flatten_nil,List.append_nil]) fun H s ts q=>?_
  rw[F39_eq,F39]
  simp only[↓sW,sL,nd_box hch,beq_false_of_ne (a:=k) (b:=1) (by omega),show 2≤k by omega,show ¬k≤9 by omega,beq_false_of_ne (a:=k) (b:=16) (by omega),show 10≤k by omega,show ¬k≤20 by omega,show 22≤k by omega,show ¬k≤26 by omega,show 27≤k by omega,show ¬k≤32 by omega,show 39≤k by omega,show k≤42 by omega,nd_l6 hch,hch.strip.1,nd_ld hch]
  exact en_call (ee (by omega)) fun s' q'=>en_nil
 ·have hp:(nodeP N k v x (sdL cs))=consP N k v x (sdL cs):=by rw[nodeP,if_neg (by omega),if_neg (by omega),if_neg (by omega),if_neg (by omega),if_neg (by omega)]
  rw[hp]
  refine em_of (pp:=[_]) en39 (by rw[List.flatten_cons,List.flatten_nil,List.append_nil]) fun H s ts q=>?_
  rw[F39_eq,F39]
  simp only[↓sW,sL,nd_box hch,beq_false_of_ne (a:=k) (b:=1) (by omega),show ¬2≤k by omega,show k≤9 by omega,beq_false_of_ne (a:=k) (b:=16) (by omega),show ¬10≤k by omega,show k≤20 by omega,show ¬22≤k by omega,show k≤26 by omega,show ¬27≤k by omega,show k≤32 by omega,show ¬39≤k by omega,show k≤42 by omega,nd_l6 hch,hch.strip.1,nd_ld hch]
  exact en_call (ec) fun s' q'=>en_nil
 ·have hp:(nodeP N k v x (sdL cs))=consP N k v x (sdL cs):=by rw[nodeP,if_neg (by omega),if_neg (by omega),if_neg (by omega),if_neg (by omega),if_neg (by omega)]
  rw[hp]
  refine em_of (pp:=[_]) en39 (by rw[List.flatten_cons,List.flatten_nil,List.append_nil]) fun H s ts q=>?_
  rw[F39_eq,F39]
  simp only[↓sW,sL,nd_box hch,beq_false_of_ne (a:=k) (b:=1) (by omega),show 2≤k by omega,show ¬k≤9 by omega,beq_false_of_ne (a:=k) (b:=16) (by omega),show 10≤k by omega,show ¬k≤20 by omega,show ¬22≤k by omega,show k≤26 by omega,show ¬27≤k by omega,show k≤32 by omega,show ¬39≤k by omega,show k≤42 by omega,nd_l6 hch,hch.strip.1,nd_ld hch]
  exact en_call (ec) fun s' q'=>en_nil
 ·have hp:(nodeP N k v x (sdL cs))=consP N k v x (sdL cs):=by rw[nodeP,if_neg (by omega),if_neg (by omega),if_neg (by omega),if_neg (by omega),if_neg (by omega)]
  rw[hp]
  refine em_of (pp:=[_]) en39 (by rw[List.flatten_cons,List.flatten_nil,List.append_nil]) fun H s ts q=>?_
  rw[F39_eq,F39]
  simp only[↓sW,sL,nd_box hch,beq_false_of_ne (a:=k) (b:=1) (by omega),show 2≤k by omega,show ¬k≤9 by omega,beq_false_of_ne (a:=k) (b:=16) (by omega),show 10≤k by omega,show ¬k≤20 by omega,show 22≤k by omega,show ¬k≤26 by omega,show 27≤k by omega,show ¬k≤32 by omega,show ¬39≤k by omega,show k≤42 by omega,nd_l6 hch,hch.strip.1,nd_ld hch]
  exact en_call (ec) fun s' q'=>en_nil
 ·have hp:(nodeP N k v x (sdL cs))=consP N k v x (sdL cs):=by rw[nodeP,if_neg (by omega),if_neg (by omega),if_neg (by omega),if_neg (by omega),if_neg (by omega)]
  rw[hp]
  refine em_of (pp:=[_]) en39 (by rw[List.flatten_cons,List.flatten_nil,List.append_nil]) fun H s ts q=>?_
  rw[F39_eq,F39]
  simp only[↓sW,sL,nd_box hch,beq_false_of_ne (a:=k) (b:=1) (by omega),show 2≤k by omega,show ¬k≤9 by omega,beq_false_of_ne (a:=k) (b:=16) (by omega),show 10≤k by omega,show ¬k≤20 by omega,show 22≤k by omega,show ¬k≤26 by omega,show 27≤k by omega,show ¬k≤32 by omega,show 39≤k by omega,show ¬k≤42 by omega,nd_l6 hch,hch.strip.1,nd_ld hch]
  exact en_call (ec) fun s' q'=>en_nil
theorem zero_em (N:Sd→List Bytes)(hN:N zSd=[])(K:Nat)(hK:2≤K):OKp K N zNd:=by
 intro m hm a ha
 obtain⟨n,rfl⟩:∃n,m=n+2:=⟨m-2,by omega⟩
 cases ha with
 | mk k v x s e ns cs ch hch =>
 show EmAt (n+2) 39 _ (N zSd)
 rw[hN]
 have ec:EmAt (n+1) 77 [.agg [I 0,I 0,.str [],I 0,I 0,I 0,ch]] []:=by
  refine em_of (pp:=[]) en77 rfl fun H s ts q=>?_
  rw[F77_eq,F77]
  simp only[↓sW,sL,nd_box hch,Int.reduceBEq]
  exact en_nil
 refine em_of (pp:=[[]]) en39 rfl fun H s ts q=>?_
 rw[F39_eq,F39]
 simp only[↓sW,sL,nd_box hch,Int.reduceBEq,show ¬(2:Int)≤0 by decide,show ¬(10:Int)≤0 by decide,show ¬(22:Int)≤0 by decide,show ¬(27:Int)≤0 by decide,show ¬(39:Int)≤0 by decide,nd_ld hch]
 exact en_call ec fun s' q'=>en_nil
theorem print_em:∀z,z<1000000000→∃K,z+2≤K∧∀t,szN t≤z→fitN t→OKp K (prN z) t
 | 0,_=>⟨2,by omega,fun t ht=>by have:=szN_pos t;omega⟩
 | z+1,hz=>by
  obtain⟨K,hK,ok⟩:=print_em z (by omega)
  refine⟨K+6,by omega,fun t ht hf m hm a ha=>?_⟩
  cases ha with
  | mk k v x s e ns cs ch hch =>
  rw[szN_mk]at ht
  rw[fitN]at hf
  rw[sd,prN]
  exact node_em hch ok hf.2 (zero_em _ (prN_zero z) K (by omega)) (by omega) hK (by omega) ⟨hf.1.1,hf.1.2.1⟩ hf.1.2.2 hm
end ParF
end

section
namespace Pm
open ParF (itoaL quoteL)
mutual
def excN (d l:Int):Sd→Bool×Int
 | .mk _ _ _ cs=>if l-1<0∨30<d then(true,l-1) else excL (d+1) (l-1) cs
def excL (d l:Int):List Sd→Bool×Int
 | []=>(false,l)
 | c::cs=>if(excN d l c).1 then(true,(excN d l c).2) else excL d (excN d l c).2 cs
end
mutual
theorem exc_left:∀(t:Nd)(d l:Int),(excN d l (sd t)).1=false→(excN d l (sd t)).2=l-ParF.szN t∧0≤(excN d l (sd t)).2
 | .mk k v x s e ns cs,d,l=>by
  rw[sd,excN]
  split
  ·intro h;cases h
  ·rename_i c
   intro h
   obtain⟨h1,h2⟩:=excL_left cs (d+1) (l-1) (by omega) h
   rw[ParF.szN_mk,h1]
   exact⟨by omega,by omega⟩
theorem excL_left:∀(ts:List Nd)(d l:Int),0≤l→(excL d l (sdL ts)).1=false→(excL d l (sdL ts)).2=l-ParF.szNL ts∧0≤(excL d l (sdL ts)).2
 | [],d,l,hl=>fun _=>by rw[sdL,excL,ParF.szNL];exact⟨by omega,hl⟩
 | t::ts,d,l,hl=>by
  rw[sdL,excL]
  split
  ·intro h;cases h
  ·rename_i c
   intro h
   obtain⟨h1,h2⟩:=exc_left t d l (by simpa using c)
   obtain⟨h3,h4⟩:=excL_left ts d _ h2 h
   rw[ParF.szNL,h3,h1]
   exact⟨by omega,by omega⟩
end
def joinA:Bytes→List Bytes→Bytes
 | b,[]=>b
 | b,t::ts=>joinA ((if t≠[]∧b≠[] then b++[32] else b)++t) ts
def wtT:List Bytes→Nat
 | []=>0
 | t::ts=>t.length+1+wtT ts
theorem wtT_app:∀a b:List Bytes,wtT (a++b)=wtT a+wtT b
 | [],b=>by rw[List.nil_append,wtT,Nat.zero_add]
 | t::a,b=>by rw[List.cons_append,wtT,wtT,wtT_app a b];omega
theorem len_wtT:∀a:List Bytes,a.length≤wtT a
 | []=>Nat.le_refl _
 | t::a=>by rw[List.length_cons,wtT];have:=len_wtT a;omega
mutual
theorem fit_sd:∀a b:Nd,sd a=sd b→fitN a→fitN b
 | .mk k v x s e ns cs,.mk k' v' x' s' e' ns' cs'=>by
  rw[sd,sd,Sd.mk.injEq,fitN,fitN]
  rintro⟨rfl,rfl,rfl,h⟩ ⟨h1,h2⟩
  exact⟨h1,fitL_sd cs cs' h h2⟩
theorem fitL_sd:∀a b:List Nd,sdL a=sdL b→fitL a→fitL b
 | [],[]=>fun _ h=>h
 | c::cs,d::ds=>by
  rw[sdL,sdL,List.cons.injEq,fitL,fitL]
  rintro⟨h1,h2⟩ ⟨h3,h4⟩
  exact⟨fit_sd c d h1 h3,fitL_sd cs ds h2 h4⟩
 | [],_::_=>by simp[sdL]
 | _::_,[]=>by simp[sdL]
end
mutual
theorem sz_sd:∀a b:Nd,sd a=sd b→ParF.szN a=ParF.szN b
 | .mk k v x s e ns cs,.mk k' v' x' s' e' ns' cs'=>by
  rw[sd,sd,Sd.mk.injEq,ParF.szN_mk,ParF.szN_mk]
  rintro⟨rfl,rfl,rfl,h⟩
  rw[szL_sd cs cs' h]
theorem szL_sd:∀a b:List Nd,sdL a=sdL b→ParF.szNL a=ParF.szNL b
 | [],[]=>fun _=>rfl
 | c::cs,d::ds=>by
  rw[sdL,sdL,List.cons.injEq,ParF.szNL,ParF.szNL]
  rintro⟨h1,h2⟩
  rw[sz_sd c d h1,szL_sd cs ds h2]
 | [],_::_=>by simp[sdL]
 | _::_,[]=>by simp[sdL]
end
mutual
def heft:Sd→Nat
 | .mk _ _ x cs=>60+2*x.length+heftL cs
def heftL:List Sd→Nat
 | []=>0
 | c::cs=>heft c+3+heftL cs
end
theorem heft_cs (D:Sd):heftL D.cs+60≤heft D:=by cases D;rw[heft];show heftL _+60≤_;simp only[Sd.cs];omega
section
variable {N:Sd→List Bytes}(h:∀D,wtT (N D)≤heft D)
include h
theorem wt_tail (w:Bytes)(hw:w.length≤2):∀l,wtT (tailP N w l)≤heftL l
 | []=>Nat.le_refl _
 | t::l=>by rw[tailP,wtT,wtT_app,heftL];have:=wt_tail w hw l;have:=h t;omega
theorem wt_list (w:Bytes)(hw:w.length≤2):∀l,wtT (listP N w l)≤heftL l
 | []=>Nat.le_refl _
 | t::l=>by rw[listP,wtT_app,heftL];have:=wt_tail h w hw l;have:=h t;omega
theorem wt_enc (a w b:Bytes)(l:List Sd)(hw:w.length≤2):wtT (encP N a l w b)≤a.length+b.length+2+heftL l:=by
 rw[encP,wtT,wtT_app,wtT,wtT];have:=wt_list h w hw l;omega
theorem wt_opt (w:Bytes)(t:Sd):wtT (optP N w t)≤w.length+1+wtT (N t):=by
 rw[optP];split
 ·rw[wtT];omega
 ·rw[wtT];exact Nat.le_refl _
theorem wt_targ (l:List Sd):wtT (targP N l)≤4+heftL l:=by
 rw[targP];split
 ·rw[wtT];omega
 ·exact Nat.le_trans (wt_enc h _ _ _ l (by decide)) (by simp)
theorem wt_opnd (t:Sd):wtT (opndP N t)≤4+wtT (N t):=by
 rw[opndP];split
 ·omega
 ·rw[encP,wtT,wtT_app,listP,tailP,List.append_nil,wtT,wtT];simp;omega
theorem wt_ch {cs:List Sd}(hz:N zSd=[]):wtT (N (chS cs 0))+wtT (N (chS cs 1))+wtT (N (chS cs 2))+wtT (N (chS cs 3))≤heftL cs∧wtT (N (chS cs 0))+wtT (N (chS cs 1))+wtT (N (chS cs 2))+heftL (cs.drop 3)≤heftL cs∧wtT (N (chS cs 0))+heftL (cs.drop 1)≤heftL cs ∧
  wtT (N (chS cs 0))+heftL (chS cs 1).cs+wtT (N (chS cs 2))+wtT (N (chS cs 3))≤heftL cs∧heftL (chS cs 0).cs+wtT (N (chS cs 1))≤heftL cs∧heftL (cs.take (cs.length-1))+wtT (N (chS cs (cs.length-1)))≤heftL cs:=by
 have z1:wtT (N zSd)=0:=by rw[hz];rfl
 have z2:heftL zSd.cs=0:=rfl
 have last:∀l:List Sd,heftL (l.take (l.length-1))+wtT (N (chS l (l.length-1)))≤heftL l:=by
  intro l
  induction l with
  | nil=>show 0+wtT (N zSd)≤0;omega
  | cons a l ih =>
   cases l with
   | nil=>show 0+wtT (N a)≤heft a+3+0;have:=h a;omega
   | cons b l =>
    show heft a+3+heftL ((b::l).take l.length)+wtT (N (chS (b::l) l.length))≤heft a+3+heftL (b::l)
    have:heftL ((b::l).take l.length)+wtT (N (chS (b::l) l.length))≤heftL (b::l):=ih
    omega
 refine⟨?_,?_,?_,?_,?_,last cs⟩<;>rcases cs with _|⟨a,_|⟨b,_|⟨c,_|⟨d,cs⟩⟩⟩⟩<;>simp only[chS,List.getD_nil,List.getD_cons_zero,List.getD_cons_succ,List.drop_succ_cons,List.drop_zero,List.drop_nil,heftL,z1,z2]
 all_goals (try have q1:=h a);(try have q2:=h b);(try have q3:=h c);(try have q4:=h d);(try have q5:=heft_cs a);(try have q6:=heft_cs b);omega
end
theorem flag_len (v:Int)(w:Bytes):(flagP v w).length≤w.length:=by
 rw[flagP];split
 ·exact Nat.le_refl _
 ·exact Nat.zero_le _
theorem kw_len (k:Int):(kwP k).length≤6:=by
 rw[kwP];split
 ·decide
 ·generalize (k-2).toNat=i
  rcases i with _|_|_|_|_|_|_|_|i<;>simp
theorem dec_len:∀(f n:Nat),(ParF.decA f n).length≤f
 | 0,n=>Nat.le_refl _
 | f+1,n=>by
  rw[ParF.decA];split
  ·simp
  ·rw[List.length_append];have:=dec_len f (n / 10);simp;omega
theorem itoa_len (v:Int):(itoaL v).length≤21:=by
 rw[itoaL];split
 ·rw[List.length_cons];have:=dec_len 20 v.natAbs;omega
 ·have:=dec_len 20 v.toNat;omega
theorem quoL_len:∀x:Bytes,(quoteL x).length≤2*x.length
 | []=>Nat.le_refl _
 | c::x=>by
  have:=quoL_len x
  have e:quoteL (c::x)=(if c=92 then[92,92] else if c=34 then[92,34] else if c=10 then[92,110] else[c])++quoteL x:=rfl
  rw[e,List.length_append,List.length_cons]
  have:(if c=92 then[92,92] else if c=34 then[92,34] else if c=10 then[92,110] else[c]:Bytes).length≤2:=by
   split
   ·decide
   ·split
    ·decide
    ·split<;>simp
  omega
theorem quo_len2 (x:Bytes):(quoP x).length≤2*x.length+2:=by
 rw[quoP,List.length_cons,List.length_append];have:=quoL_len x;simp;omega
theorem bool_len (v:Int):(boolP v).length≤5:=by rw[boolP];split<;>decide
def wtP:List (List Bytes)→Nat
 | []=>0
 | p::pp=>wtT p+wtP pp
theorem wtP_flat:∀pp:List (List Bytes),wtT pp.flatten=wtP pp
 | []=>rfl
 | p::pp=>by rw[List.flatten_cons,wtT_app,wtP,wtP_flat pp]
theorem wt_item {N:Sd→List Bytes}(h:∀D,wtT (N D)≤heft D)(hz:N zSd=[])(k v:Int)(x:Bytes)(cs:List Sd):wtP (itemP N k v x cs)≤60+2*x.length+heftL cs:=by
 obtain⟨c1,c2,c3,c4,c5,c6⟩:=wt_ch h (cs:=cs) hz
 have f1:(flagP v [112,117,98]).length≤3:=flag_len v _
 have kl:=kw_len k
 have e1:wtT (encP N [40] (chS cs 1).cs [44] [41])≤4+heftL (chS cs 1).cs:=wt_enc h [40] [44] [41] (chS cs 1).cs (by decide)
 have o245_62:wtT (optP N [45,62] (chS cs 2))≤3+wtT (N (chS cs 2)):=wt_opt h [45,62] (chS cs 2)
 have g1:wtT (encP N [123] (cs.drop 1) [44] [125])≤4+heftL (cs.drop 1):=wt_enc h [123] [44] [125] (cs.drop 1) (by decide)
 have e:wtT (encP N [123] cs [] [125])≤4+heftL cs:=wt_enc h [123] [] [125] cs (by decide)
 have g3:wtT (encP N [123] (cs.drop 3) [] [125])≤4+heftL (cs.drop 3):=wt_enc h [123] [] [125] (cs.drop 3) (by decide)
 have o058:wtT (optP N [58] (chS cs 0))≤2+wtT (N (chS cs 0)):=wt_opt h [58] (chS cs 0)
 have o161:wtT (optP N [61] (chS cs 1))≤2+wtT (N (chS cs 1)):=wt_opt h [61] (chS cs 1)
 have e0:wtT (encP N [40] (chS cs 0).cs [44] [41])≤4+heftL (chS cs 0).cs:=wt_enc h [40] [44] [41] (chS cs 0).cs (by decide)
 have o061:wtT (optP N [61] (chS cs 0))≤2+wtT (N (chS cs 0)):=wt_opt h [61] (chS cs 0)
 rw[itemP,wtP]
 simp only[wtT]
 split
 ·simp only[wtP,wtT]
  split<;>split<;>simp only[wtT,List.length_cons,List.length_nil]<;>omega
 split
 ·simp only[wtP,wtT]
  split<;>simp only[wtT,List.length_cons,List.length_nil]<;>omega
 split
 ·simp only[wtP,wtT,List.length_cons,List.length_nil];omega
 split
 ·simp only[wtP,wtT,List.length_cons,List.length_nil];omega
 split
 ·simp only[wtP,wtT]
  split<;>simp only[wtT,List.length_cons,List.length_nil]<;>omega
 split
 ·simp only[wtP,wtT,List.length_cons,List.length_nil];omega
 split
 ·simp only[wtP,wtT,List.length_cons,List.length_nil];omega
 split
 ·simp only[wtP,wtT,List.length_cons,List.length_nil];omega
 ·simp only[wtP];omega
theorem wt_part {N:Sd→List Bytes}(h:∀D,wtT (N D)≤heft D)(hz:N zSd=[])(k v:Int)(x:Bytes)(cs:List Sd):wtP (partP N k v x cs)≤60+2*x.length+heftL cs:=by
 obtain⟨c1,c2,c3,c4,c5,c6⟩:=wt_ch h (cs:=cs) hz
 have f2:(flagP v [109,117,116]).length≤3:=flag_len v _
 have tg:=wt_targ h cs
 have l1:=wt_list h [43] (by decide) cs
 have l2:=wt_list h [58,58] (by decide) cs
 have ec:wtT (encP N [40] cs [44] [41])≤4+heftL cs:=wt_enc h [40] [44] [41] cs (by decide)
 have o058:wtT (optP N [58] (chS cs 0))≤2+wtT (N (chS cs 0)):=wt_opt h [58] (chS cs 0)
 have gt:wtT (encP N [40] (cs.take (cs.length-1)) [44] [41])≤4+heftL (cs.take (cs.length-1)):=wt_enc h [40] [44] [41] (cs.take (cs.length-1)) (by decide)
 have ol:wtT (optP N [45,62] (chS cs (cs.length-1)))≤3+wtT (N (chS cs (cs.length-1))):=wt_opt h [45,62] _
 rw[partP]
 split
 ·simp only[wtP,wtT,List.length_cons,List.length_nil];omega
 split
 ·rw[wtP]
  split<;>simp only[wtP,wtT,List.length_cons,List.length_nil]<;>omega
 split
 ·simp only[wtP,wtT,List.length_cons,List.length_nil];omega
 split
 ·rw[wtP]
  split<;>simp only[wtP,wtT,List.length_cons,List.length_nil]<;>omega
 split
 ·simp only[wtP,wtT,List.length_cons,List.length_nil];omega
 split
 ·simp only[wtP,wtT,List.length_cons,List.length_nil];omega
 split
 ·simp only[wtP,wtT,List.length_cons,List.length_nil];omega
 split
 ·simp only[wtP,wtT,List.length_cons,List.length_nil];omega
 ·simp only[wtP];omega
theorem wt_stmt {N:Sd→List Bytes}(h:∀D,wtT (N D)≤heft D)(hz:N zSd=[])(k v:Int)(x:Bytes)(cs:List Sd):wtP (stmtP N k cs)≤60+2*x.length+heftL cs:=by
 obtain⟨c1,c2,c3,c4,c5,c6⟩:=wt_ch h (cs:=cs) hz
 have o158:wtT (optP N [58] (chS cs 1))≤2+wtT (N (chS cs 1)):=wt_opt h [58] (chS cs 1)
 have o161:wtT (optP N [61] (chS cs 1))≤2+wtT (N (chS cs 1)):=wt_opt h [61] (chS cs 1)
 have o261:wtT (optP N [61] (chS cs 2))≤2+wtT (N (chS cs 2)):=wt_opt h [61] (chS cs 2)
 rw[stmtP]
 split
 ·simp only[wtP,wtT,List.length_cons,List.length_nil];omega
 split
 ·simp only[wtP,wtT,List.length_cons,List.length_nil];omega
 split
 ·simp only[wtP,wtT,List.length_cons,List.length_nil];omega
 split
 ·simp only[wtP,wtT,List.length_cons,List.length_nil];omega
 split
 ·simp only[wtP,wtT,List.length_cons,List.length_nil];omega
 ·simp only[wtP];omega
theorem wt_expr {N:Sd→List Bytes}(h:∀D,wtT (N D)≤heft D)(hz:N zSd=[])(k v:Int)(x:Bytes)(cs:List Sd):wtP (exprP N k v x cs)≤60+2*x.length+heftL cs:=by
 obtain⟨c1,c2,c3,c4,c5,c6⟩:=wt_ch h (cs:=cs) hz
 have f2:(flagP v [109,117,116]).length≤3:=flag_len v _
 have il:=itoa_len v
 have ql:=quo_len2 x
 have bl:=bool_len v
 have d0:=wt_opnd h (chS cs 0)
 have d1:=wt_opnd h (chS cs 1)
 have g1:wtT (encP N [40] (cs.drop 1) [44] [41])≤4+heftL (cs.drop 1):=wt_enc h [40] [44] [41] (cs.drop 1) (by decide)
 rw[exprP]
 split
 ·simp only[wtP,wtT,List.length_cons,List.length_nil];omega
 split
 ·simp only[wtP,wtT,List.length_cons,List.length_nil];omega
 split
 ·simp only[wtP,wtT,List.length_cons,List.length_nil];omega
 split
 ·simp only[wtP,wtT,List.length_cons,List.length_nil];omega
 split
 ·simp only[wtP,wtT,List.length_cons,List.length_nil];omega
 split
 ·simp only[wtP,wtT,List.length_cons,List.length_nil];omega
 split
 ·simp only[wtP,wtT,List.length_cons,List.length_nil];omega
 split
 ·simp only[wtP,wtT,List.length_cons,List.length_nil];omega
 split
 ·simp only[wtP,wtT,List.length_cons,List.length_nil];omega
 split
 ·simp only[wtP,wtT,List.length_cons,List.length_nil];omega
 ·simp only[wtP];omega
theorem wt_cons {N:Sd→List Bytes}(h:∀D,wtT (N D)≤heft D)(hz:N zSd=[])(k v:Int)(x:Bytes)(cs:List Sd):wtP (consP N k v x cs)≤60+2*x.length+heftL cs:=by
 obtain⟨c1,c2,c3,c4,c5,c6⟩:=wt_ch h (cs:=cs) hz
 have f2:(flagP v [109,117,116]).length≤3:=flag_len v _
 have e:wtT (encP N [123] cs [] [125])≤4+heftL cs:=wt_enc h [123] [] [125] cs (by decide)
 have g1:wtT (encP N [123] (cs.drop 1) [44] [125])≤4+heftL (cs.drop 1):=wt_enc h [123] [44] [125] (cs.drop 1) (by decide)
 have g2:wtT (encP N [40] (cs.drop 1) [44] [41])≤4+heftL (cs.drop 1):=wt_enc h [40] [44] [41] (cs.drop 1) (by decide)
 have e0:wtT (encP N [124] (chS cs 0).cs [44] [124])≤4+heftL (chS cs 0).cs:=wt_enc h [124] [44] [124] (chS cs 0).cs (by decide)
 have o058:wtT (optP N [58] (chS cs 0))≤2+wtT (N (chS cs 0)):=wt_opt h [58] (chS cs 0)
 have o161_62:wtT (optP N [61,62] (chS cs 1))≤3+wtT (N (chS cs 1)):=wt_opt h [61,62] (chS cs 1)
 have o2101_108_115_101:wtT (optP N [101,108,115,101] (chS cs 2))≤5+wtT (N (chS cs 2)):=wt_opt h [101,108,115,101] (chS cs 2)
 rw[consP]
 split
 ·simp only[wtP,wtT,List.length_cons,List.length_nil];omega
 split
 ·simp only[wtP,wtT,List.length_cons,List.length_nil];omega
 split
 ·simp only[wtP,wtT,List.length_cons,List.length_nil];omega
 split
 ·simp only[wtP,wtT,List.length_cons,List.length_nil];omega
 split
 ·simp only[wtP,wtT,List.length_cons,List.length_nil];omega
 split
 ·simp only[wtP,wtT,List.length_cons,List.length_nil];omega
 split
 ·simp only[wtP,wtT,List.length_cons,List.length_nil];omega
 split
 ·simp only[wtP,wtT,List.length_cons,List.length_nil];omega
 split
 ·simp only[wtP,wtT,List.length_cons,List.length_nil];omega
 split
 ·rw[wtP]
  split<;>simp only[wtP,wtT,List.length_cons,List.length_nil]<;>omega
 ·simp only[wtP];omega
theorem wt_node {N:Sd→List Bytes}(h:∀D,wtT (N D)≤heft D)(hz:N zSd=[])(k v:Int)(x:Bytes)(cs:List Sd):wtP (nodeP N k v x cs)≤60+2*x.length+heftL cs:=by
 rw[nodeP]
 split
 ·have l0:=wt_list h [] (by decide) cs
  simp only[wtP];omega
 split
 ·exact wt_item h hz k v x cs
 split
 ·exact wt_part h hz k v x cs
 split
 ·exact wt_stmt h hz k v x cs
 split
 ·exact wt_expr h hz k v x cs
 ·exact wt_cons h hz k v x cs
theorem wt_prN:∀(f:Nat)(D:Sd),wtT (prN f D)≤heft D
 | 0,D=>Nat.zero_le _
 | f+1,.mk k v x cs=>by rw[prN,wtP_flat,heft];exact wt_node (wt_prN f) (prN_zero f) k v x cs
end Pm
end

section
namespace ParF
open Go Go.Abs Go.Proofs Pm AstF PrtF
theorem exc_loop {n L:Nat}{cs:List Nd}{ch:AV}(hch:IsNC cs ch)(hn:cs.length<1800000000000){d:Int}(hd:1≤d∧d≤30)
  (ih:∀t∈cs,∀a,IsN t a→∀s l,s[L]?=some (3,[I l])→0≤l∧l≤800→∃s',aCall Tryz.prog (den C n) 38 [a,I (d+1),.ref L 0] s=some (.bool (excN (d+1) l (sd t)).1,s')∧s'[L]?=some (3,[I (excN (d+1) l (sd t)).2])∧s.length≤s'.length∧∀x,x<s.length→x≠L→s'[x]?=s[x]?) :
  ∀(j i:Nat),cs.length-i=j→i≤cs.length→∀(f:Nat),j<f→∀(e:Env) (s:Heap) (l:Int),s[L]?=some (3,[I l])→0≤l∧l≤800→e 1=I d→e 2=.ref L 0→e 23=ch→e 24=I cs.length→e 25=I i →
  ∃s',aLoop (F38_L0 (den C n) n) f e s=some (.bool (excL (d+1) l (sdL (cs.drop i))).1,s')∧s'[L]?=some (3,[I (excL (d+1) l (sdL (cs.drop i))).2])∧s.length≤s'.length∧∀x,x<s.length→x≠L→s'[x]?=s[x]?:=by
 intro j
 induction j with
 | zero =>
  intro i hj hi f hf e s l hL hl e1 e2 e23 e24 e25
  obtain⟨f,rfl⟩:∃g,f=g+1:=⟨f-1,by omega⟩
  have c:¬i<cs.length:=by omega
  rw[List.drop_of_length_le (by omega),sdL,excL]
  refine⟨s,?_,hL,Nat.le_refl _,fun _ _ _=>rfl⟩
  rw[aLoop,F38_L0]
  simp only[↓sW,sL,e24,e25,c]
 | succ j ih2 =>
  intro i hj hi f hf e s l hL hl e1 e2 e23 e24 e25
  obtain⟨f,rfl⟩:∃g,f=g+1:=⟨f-1,by omega⟩
  have c:i<cs.length:=by omega
  obtain⟨a,ha,hT⟩:=hch.nl.idx (List.getElem?_eq_getElem c)
  obtain⟨a1,a2,a3,a4⟩:=hT.cells
  rw[List.drop_eq_getElem_cons c,sdL,excL]
  have z:aAlloc Tryz.prog 27 s=some (.ref s.length 0,s++[(27,zrow7)]):=by rw[zero27]
  obtain⟨s1,hs1⟩:∃s1,s++[(27,a.cells)]=s1:=⟨_,rfl⟩
  have sto:aStore 7 (s++[(27,zrow7)]) (.ref s.length 0) a=some s1:=by rw[st7 (gapp_new) rfl a1 a2 a4,set_end,hs1]
  have l1:s1.length=s.length+1:=by rw[←hs1,app_length]
  have f1:∀x,x<s.length→s1[x]?=s[x]?:=fun x hx=>by rw[←hs1,gapp_old hx]
  have lda:aLoad false true 7 (.ref s.length 0) s1=some (a,s1):=ld7 (by rw[←hs1,gapp_new]) a1 a4
  have bx:=fun s=>hT.box s
  have hLl:=glt hL
  obtain⟨s2,q,hL2,l2,f2⟩:=ih _ (List.getElem_mem c) a hT s1 l ((f1 L hLl).trans hL) hl
  have w0:IntKind.i64.wrap (d+1)=d+1:=by rw[wrap64]<;>omega
  have w1:=wadd1L (a:=i) (by omega)
  obtain⟨r,hr⟩:∃r,r=excN (d+1) l (sd cs[i]):=⟨_,rfl⟩
  rw[←hr]at q hL2 ⊢
  by_cases c2:r.1=true
  ·rw[if_pos c2]
   refine⟨s2,?_,hL2,by omega,fun x hx hxL=>by rw[f2 x (by omega) hxL,f1 x hx]⟩
   rw[aLoop,F38_L0]
   simp only[↓sW,sL,e24,e25,e23,e1,e2,c,ha,bx,z,hT.strip,sto,lda,w0,q,c2]
  ·rw[if_neg c2]
   have c3:r.1=false:=by simpa using c2
   obtain⟨k1,k2⟩:=exc_left cs[i] (d+1) l (by rw[←hr];exact c3)
   rw[←hr]at k1 k2
   have hlt:=szN_pos cs[i]
   obtain⟨s3,q3,hL3,l3,f3⟩:=ih2 (i+1) (by omega) (by omega) f (by omega) (upds e [(26,.bool true),(27,.box a.cells 0),(28,a),(8,.ref s.length 0),(28,a),(29,a),(30,I d),(31,I (d+1)),(32,.ref L 0),(33,.bool false),(34,I ((i+1:Nat):Int)),(25,I ((i+1:Nat):Int))]) s2 r.2 hL2 ⟨k2,by omega⟩ (by simp[upds_at,upd_at,e1]) (by simp[upds_at,upd_at,e2]) (by simp[upds_at,upd_at,e23]) (by simp[upds_at,upd_at,e24]) (by simp[upds_at,upd_at])
   refine⟨s3,?_,hL3,by omega,fun x hx hxL=>by rw[f3 x (by omega) hxL,f2 x (by omega) hxL,f1 x hx]⟩
   rw[aLoop,F38_L0]
   simp only[↓sW,sL,e24,e25,e23,e1,e2,c,ha,bx,z,hT.strip,sto,lda,w0,q,c3,w1]
   exact q3
theorem exc_run:∀(z:Nat),z<1000000000→∀t,szN t≤z→∀m,z+2≤m→∀L a,IsN t a→∀d:Int,1≤d∧d≤31→∀s l,s[L]?=some (3,[I l])→0≤l∧l≤800 →
  ∃s',aCall Tryz.prog (den C m) 38 [a,I d,.ref L 0] s=some (.bool (excN d l (sd t)).1,s')∧s'[L]?=some (3,[I (excN d l (sd t)).2])∧s.length≤s'.length∧∀x,x<s.length→x≠L→s'[x]?=s[x]?:=by
 intro z
 induction z with
 | zero=>intro _ t ht;have:=szN_pos t;omega
 | succ z ih =>
  intro hz t ht m hm L a hT d hd s l hL hl
  obtain⟨n,rfl⟩:∃n,m=n+1:=⟨m-1,by omega⟩
  cases hT with
  | mk k v x s0 e0 n0 cs ch hch =>
  rw[szN_mk]at ht
  have hcl:=len_le_szN cs
  have nr:noRefL [.agg [I k,I v,.str x,I s0,I e0,I n0,ch],I d,.ref L 0]=false:=by rw[noRefL_cons,noRefL_cons,noRefL_cons,noRef_ref];simp
  have ld0:aLoad false false 1 (.ref L 0) s=some (I l,s):=by rw[ParF.ld (n:=1) (o:=0) hL (by decide) rfl (by decide)];rfl
  obtain⟨s1,hs1⟩:∃s1,s.set L (3,[I (l-1)])=s1:=⟨_,rfl⟩
  have st0:aStore 1 s (.ref L 0) (I (l-1))=some s1:=by rw[st (n:=1) (o:=0) hL (by decide) rfl rfl (by show 0+1≤1;decide),←hs1];rfl
  have hL1:s1[L]?=some (3,[I (l-1)]):=by rw[←hs1];exact gset_eq hL
  have ld1:aLoad false false 1 (.ref L 0) s1=some (I (l-1),s1):=by rw[ParF.ld (n:=1) (o:=0) hL1 (by decide) rfl (by decide)];rfl
  have l1:s1.length=s.length:=by rw[←hs1,set_length]
  have f1:∀x,x≠L→s1[x]?=s[x]?:=fun x hx=>by rw[←hs1,gset_ne (Ne.symm hx)]
  have wl:IntKind.i64.wrap (l-1)=l-1:=by rw[wrap64]<;>omega
  rw[sd,excN]
  show ∃s',aCall Tryz.prog (den C (n+1)) 38 _ s=_∧_
  simp only[aCall,en38,nr,if_true,Bool.false_eq_true,if_false]
  rw[F38_eq,F38]
  by_cases c1:l-1<0
  ·rw[if_pos (.inl c1)]
   refine⟨s1,?_,hL1,by omega,fun x _ hx=>f1 x hx⟩
   simp only[↓sW,sL,nd_box hch,ld0,wl,st0,ld1,c1]
  ·by_cases c2:30<d
   ·rw[if_pos (.inr c2)]
    refine⟨s1,?_,hL1,by omega,fun x _ hx=>f1 x hx⟩
    simp only[↓sW,sL,nd_box hch,ld0,wl,st0,ld1,c1,c2]
   ·rw[if_neg (by omega)]
    obtain⟨s2,q,hL2,l2,f2⟩:=exc_loop (n:=n) (L:=L) hch (by omega) (d:=d) (by omega) (fun t' ht' a' hT' s' l'=>ih (by omega) t' (by have:=szN_mem ht';omega) n (by omega) L a' hT' (d+1) (by omega) s' l') cs.length 0 (by omega) (by omega) n (by omega)
     (upds (argEnv [.agg [I k,I v,.str x,I s0,I e0,I n0,ch],I d,.ref L 0]) [(3,.box [I k,I v,.str x,I s0,I e0,I n0,ch] 0),(6,.bool false),(9,.ref L 0),(10,.ref L 0),(11,I l),(12,I (l-1)),(13,.ref L 0),(12,I (l-1)),(14,.ref L 0),(15,.ref L 0),(16,I (l-1)),(17,.bool false),(18,.bool false),(19,I d),(20,.bool false),(21,.bool false),(22,.box [I k,I v,.str x,I s0,I e0,I n0,ch] 6),(23,ch),(24,I cs.length),(25,I 0)]) s1 (l-1) hL1 (by omega) (by simp[upds_at,upd_at];rfl) (by simp[upds_at,upd_at];rfl) (by simp[upds_at,upd_at]) (by simp[upds_at,upd_at]) (by simp[upds_at,upd_at])
    rw[List.drop_zero]at q hL2
    refine⟨s2,?_,hL2,by omega,fun x hx hxL=>by rw[f2 x (by omega) hxL,f1 x hxL]⟩
    simp only[↓sW,sL,nd_box hch,nd_l6 hch,ld0,wl,st0,ld1,c1,c2,hch.nl.len]
    exact q
end ParF
end

section
namespace ParF
open Go Go.Abs Go.Proofs Pm AstF PrtF
theorem blen_run {s:Heap}{id:Nat}{bs:List UInt8}(hB:Bld s id bs){n:Nat}(hn:1≤n):aCall Tryz.prog (den C n) 78 [.ref id 0] s=some (I bs.length,s):=by
 obtain⟨a,hs,ha⟩:=hB
 obtain⟨n,rfl⟩:∃m,n=m+1:=⟨n-1,by omega⟩
 have l:aLoad false false 1 (.ref id 1) s=some ((bufV bs).strip,s):=ld (n:=1) (o:=1) hs (by decide) rfl (by decide)
 have l2:aLen Tryz.prog 111 (bufV bs).strip=some (I bs.length):=by
  cases bs with
  | nil=>exact lenN under111
  | cons b r =>
   show aLen Tryz.prog 111 (.sl 5 1 (bytesV (b::r)) .sh)=_
   rw[lenG under111];simp[bytesV]
 rw[callR en78 (ref1 ..),F78_eq,F78]
 simp only[↓sW,sL,l,l2]
theorem wstr_run (x:List UInt8){n:Nat}(hn:2≤n){s:Heap}{id:Nat}{bs:List UInt8}(hB:Bld s id bs)(hb:bs.length+x.length<1000000000) :
  aCall Tryz.prog (den C n) 80 [.ref id 0,.str x] s=some (.tup [I x.length,.nili],s.set id (113,[.ref id 0,bufV (bs++x)])):=by
 obtain⟨a,hs,ha⟩:=hB
 obtain⟨n,rfl⟩:∃m,n=m+2:=⟨n-2,by omega⟩
 have hlt:=(List.getElem?_eq_some_iff.1 hs).1
 have hc:enterable Tryz.prog 144=true:=by kernel_rfl
 have q1:aCall Tryz.prog (den C (n+1)) 144 [.ref id 0] s=some (.tup [],s.set id (113,[.ref id 0,bufV bs])):=by
  rw[callR hc (ref1 ..),den_ext (e:=bCheck 113) (by rfl),bCheck_ok hs ha]
 have q2:∀v,aLoad true false 1 (.ref id 1) (s.set id (113,[.ref id 0,v]))=some (v,s.set id (113,[.ref id 0,v.strip])):=fun v=>by
  simp[aLoad,aLoadT,List.getElem?_set_self hlt,List.set_set,deadTy]
 obtain⟨k1,k2,k3⟩:=bufV_solid (bs++x)
 have q3:∀v,aStore 1 (s.set id (113,[.ref id 0,v])) (.ref id 1) (bufV (bs++x))=some (s.set id (113,[.ref id 0,bufV (bs++x)])):=fun v=>by
  simp[aStore,k1,k2,k3,List.getElem?_set_self hlt,List.set_set,setL,deadTy]
 have q4:=app_ok bs x hb
 rw[callR en80 (ref1 ..),ParF.F80_eq,ParF.F80]
 simp only[↓sW,sL,q1,q2,q3,q4,LexF.len9]
theorem ix38 (R n m:Nat)(h:m<n):aIndexAddr Tryz.prog 38 (.rs 9 1 R 0 n) (I m)=some (.ref R m):=by
 have hz:szOf Tryz.prog 9=some 1:=by kernel_rfl
 simp[aIndexAddr,under38,hz,h]
theorem len38 (n:Nat)(q:Option Nat)(h:q=none→n=0):aLen Tryz.prog 38 (rsv 9 1 n q)=some (I n):=by
 cases q with
 | none=>rw[h rfl];exact lenN under38
 | some Q=>exact lenR under38 ..
theorem join_loop {n id:Nat}{ts:List Bytes}{q:Option Nat}(hq:q≠some id)(hn:2≤n)(hl:ts.length<1000000000):∀(j i:Nat),ts.length-i=j→i≤ts.length→∀(f:Nat),j<f→∀(e:Env)(s:Heap)(bs:Bytes),Bld s id bs→RowAt 9 s (ts.map AV.str) q→bs.length+wtT (ts.drop i)<1000000000 →
  e 3=.ref id 0→e 6=rsv 9 1 ts.length q→e 7=I ts.length→e 8=I i→∃s',aLoop (F40_L0 (den C n) n) f e s=some (.str (joinA bs (ts.drop i)),s'):=by
 intro j
 induction j with
 | zero =>
  intro i hj hi f hf e s bs hB hr hb e3 e6 e7 e8
  obtain⟨f,rfl⟩:∃g,f=g+1:=⟨f-1,by omega⟩
  have c:¬i<ts.length:=by omega
  rw[List.drop_of_length_le (by omega),wtT]at hb
  rw[List.drop_of_length_le (by omega),joinA]
  obtain⟨v,hv⟩:=bString_run hB (by omega) (n:=n) (by omega)
  refine⟨s.set id v,?_⟩
  rw[aLoop,F40_L0]
  simp only[↓sW,sL,e7,e8,e3,c,hv]
 | succ j ih =>
  intro i hj hi f hf e s bs hB hr hb e3 e6 e7 e8
  obtain⟨f,rfl⟩:∃g,f=g+1:=⟨f-1,by omega⟩
  have c:i<ts.length:=by omega
  obtain⟨Q,rfl⟩:∃Q,q=some Q:=by
   cases q with
   | none =>
    have:=hr.1 rfl
    have:=congrArg List.length this
    simp at this
    rw[this]at c;simp at c
   | some Q=>exact⟨Q,rfl⟩
  obtain⟨hne,junk,hQ⟩:=hr.2 Q rfl
  rw[List.drop_eq_getElem_cons c,wtT]at hb
  rw[List.drop_eq_getElem_cons c,joinA]
  have ix:=ix38 Q ts.length i c
  have ldt:aLoad false false 1 (.ref Q i) s=some (.str ts[i],s):=by
   rw[ld (n:=1) (o:=i) (v:=.str ts[i]) hQ (by decide) (by rw[List.getElem?_append_left (by rw[List.length_map];exact c),List.getElem?_map,List.getElem?_eq_getElem c];rfl) (by decide)];rfl
  have bl:=blen_run hB (n:=n) (by omega)
  have hQid:Q≠id:=fun h=>hq (by rw[h])
  have w1:=wadd1L (a:=i) (by omega)
  have hbs:ts[i]=[]→(ts[i]==([]:Bytes))=true:=fun h=>by simpa using h
  by_cases c1:ts[i]≠[]∧bs≠[]
  ·rw[if_pos c1]
   have k1:(!(ts[i]==([]:Bytes)))=true:=by simpa using c1.1
   have k2:(0:Int)<(bs.length:Int):=by
    cases bs with
    | nil=>exact absurd rfl c1.2
    | cons=>simp
   have wb:=wbyte_run 32 (n:=n) (by omega) hB (by omega)
   have hB1:=hB.set (bs++[32])
   have ws:=wstr_run ts[i] (n:=n) (by omega) hB1 (by simp;omega)
   have hB2:=hB1.set (bs++[32]++ts[i])
   obtain⟨s1,hs1⟩:∃s1,s.set id (113,[.ref id 0,bufV (bs++[32])])=s1:=⟨_,rfl⟩
   rw[hs1]at wb hB1 ws hB2
   obtain⟨s2,hs2⟩:∃s2,s1.set id (113,[.ref id 0,bufV (bs++[32]++ts[i])])=s2:=⟨_,rfl⟩
   rw[hs2]at ws hB2
   have hr2:RowAt 9 s2 (ts.map AV.str) (some Q):=hr.frame fun Q' hQ'=>by cases hQ';rw[←hs2,gset_ne (Ne.symm hQid),←hs1,gset_ne (Ne.symm hQid)]
   obtain⟨s3,q3⟩:=ih (i+1) (by omega) (by omega) f (by omega) (upds (upds e [(9,.bool true),(10,.ref Q i),(11,.str ts[i]),(11,.str ts[i]),(5,.str ts[i]),(12,.str ts[i]),(13,.bool true),(14,.bool true),(15,I bs.length),(16,.bool true),(17,.bool true),(18,.nili)]) [(19,.str ts[i]),(20,.tup [I ts[i].length,.nili]),(21,I ((i+1:Nat):Int)),(8,I ((i+1:Nat):Int))]) s2 _ hB2 hr2 (by simp;omega) (by simp[upds_at,upd_at,e3]) (by simp[upds_at,upd_at,e6]) (by simp[upds_at,upd_at,e7]) (by simp[upds_at,upd_at])
   refine⟨s3,?_⟩
   rw[aLoop,F40_L0]
   have wb':aCall Tryz.prog (den C n) 79 [.ref id 0,.int .u8 32] s=some (.nili,s1):=wb
   simp only[↓sW,sL,e7,e8,e6,e3,c,rsv,ix,ldt,str_neq,k1,bl,k2,wb',F40_J1,upds_at,upds_nil,upd_at,Nat.reduceEqDiff,reduceIte,ws,w1]
   simp only[upds_at,upds_nil]at q3
   exact q3
  ·rw[if_neg c1]
   have ws:=wstr_run ts[i] (n:=n) (by omega) hB (by omega)
   have hB2:=hB.set (bs++ts[i])
   obtain⟨s2,hs2⟩:∃s2,s.set id (113,[.ref id 0,bufV (bs++ts[i])])=s2:=⟨_,rfl⟩
   rw[hs2]at ws hB2
   have hr2:RowAt 9 s2 (ts.map AV.str) (some Q):=hr.frame fun Q' hQ'=>by cases hQ';rw[←hs2,gset_ne (Ne.symm hQid)]
   have fin:∀e',e' 3=.ref id 0→e' 5=.str ts[i]→e' 6=rsv 9 1 ts.length (some Q)→e' 7=I ts.length→e' 8=I i→∃s',F40_J1 (den C n) n (aLoop (F40_L0 (den C n) n) f) e' s=some (.str (joinA (bs++ts[i]) (ts.drop (i+1))),s'):=by
    intro e' h3 h5 h6 h7 h8
    obtain⟨s3,q3⟩:=ih (i+1) (by omega) (by omega) f (by omega) (upds e' [(19,.str ts[i]),(20,.tup [I ts[i].length,.nili]),(21,I ((i+1:Nat):Int)),(8,I ((i+1:Nat):Int))]) s2 _ hB2 hr2 (by simp;omega) (by simp[upds_at,upd_at,h3]) (by simp[upds_at,upd_at,h6]) (by simp[upds_at,upd_at,h7]) (by simp[upds_at,upd_at])
    refine⟨s3,?_⟩
    rw[F40_J1]
    simp only[↓sW,sL,h3,h5,h8,ws,w1]
    exact q3
   rw[aLoop,F40_L0]
   by_cases c2:ts[i]=[]
   ·have k1:(!(ts[i]==([]:Bytes)))=false:=by rw[hbs c2];rfl
    simp only[↓sW,sL,e7,e8,e6,e3,c,rsv,ix,ldt,str_neq,k1]
    exact fin _ (by simp[upds_at,upd_at,e3]) (by simp[upds_at,upd_at]) (by simp[upds_at,upd_at,e6]) (by simp[upds_at,upd_at,e7]) (by simp[upds_at,upd_at,e8])
   ·have k1:(!(ts[i]==([]:Bytes)))=true:=by simpa using c2
    have c3:bs=[]:=by
     cases bs with
     | nil=>rfl
     | cons=>exact absurd ⟨c2,by simp⟩ c1
    have k2:¬(0:Int)<(bs.length:Int):=by rw[c3];simp
    simp only[↓sW,sL,e7,e8,e6,e3,c,rsv,ix,ldt,str_neq,k1,bl,k2]
    exact fin _ (by simp[upds_at,upd_at,e3]) (by simp[upds_at,upd_at]) (by simp[upds_at,upd_at,e6]) (by simp[upds_at,upd_at,e7]) (by simp[upds_at,upd_at,e8])
theorem join_run {s:Heap}{ts:List Bytes}{q:Option Nat}(hr:RowAt 9 s (ts.map AV.str) q)(hw:wtT ts<1000000000){m:Nat}(hm:ts.length+4≤m):∃s',aCall Tryz.prog (den C m) 40 [rsv 9 1 ts.length q] s=some (.str (joinA [] ts),s'):=by
 obtain⟨n,rfl⟩:∃n,m=n+1:=⟨m-1,by omega⟩
 cases q with
 | none =>
  have h0:=hr.1 rfl
  obtain rfl:ts=[]:=by cases ts with|nil=>rfl|cons=>cases h0
  have hB:Bld [(113,[.nilp,.nils])] 0 []:=⟨.nilp,rfl,.inl rfl⟩
  obtain⟨s',q⟩:=join_loop (n:=n) (id:=0) (ts:=[]) (q:=none) (by simp) (by omega) (by simp) 0 0 rfl (by simp) n (by omega) (upds (argEnv [.nils]) [(2,.str []),(3,.ref 0 0),(6,.nils),(7,I 0),(8,I 0)]) [(113,[.nilp,.nils])] [] hB ⟨fun _=>rfl,fun _ h=>by cases h⟩ (by simp[wtT]) (by simp[upds_at,upd_at]) (by simp[upds_at,upd_at];rfl) (by simp[upds_at,upd_at]) (by simp[upds_at,upd_at])
  have al:aAlloc Tryz.prog 113 []=some (.ref 0 0,[(113,[.nilp,.nils])]):=alloc113 []
  have ln:aLen Tryz.prog 38 .nils=some (I 0):=lenN under38
  refine⟨s,callN en40 rfl rfl (s1:=s') ?_⟩
  rw[F40_eq,F40]
  simp only[↓sW,sL,al,rsv,ln,List.length_nil]
  exact q
 | some Q =>
  have hQ:=hr.lt rfl
  have l1:=len_wtT ts
  have hB:Bld (s++[(113,[.nilp,.nils])]) s.length []:=⟨.nilp,gapp_new,.inl rfl⟩
  obtain⟨s',q⟩:=join_loop (n:=n) (id:=s.length) (ts:=ts) (q:=some Q) (fun e=>by cases e;omega) (by omega) (by omega) ts.length 0 rfl (by omega) n (by omega) (upds (argEnv [rsv 9 1 ts.length (some Q)]) [(2,.str []),(3,.ref s.length 0),(6,rsv 9 1 ts.length (some Q)),(7,I ts.length),(8,I 0)]) (s++[(113,[.nilp,.nils])]) [] hB (hr.frame fun Q' hQ'=>by cases hQ';rw[gapp_old hQ]) (by simpa using hw) (by simp[upds_at,upd_at]) (by simp[upds_at,upd_at]) (by simp[upds_at,upd_at]) (by simp[upds_at,upd_at])
  have ln:=len38 ts.length (some Q) (fun e=>by cases e)
  rw[List.drop_zero]at q
  refine⟨s',?_⟩
  rw[callR en40 (by rfl),F40_eq,F40]
  simp only[↓sW,sL,alloc113,rsv_strip,ln]
  exact q
end ParF
end

section
namespace ParF
open Go Go.Abs Go.Proofs Pm AstF PrtF
theorem dg_len (ds:List Dg):∃k:Nat,aLen Tryz.prog 28 (dgOut ds)=some (I k)∧(k=0↔ds=[]):=by
 unfold dgOut
 by_cases c:ds=[]
 ·rw[if_pos c];exact⟨0,by simp[aLen,under28],by simp[c]⟩
 ·rw[if_neg c]
  refine⟨(cmpct (srt (ds.map drOf))).length,by simp[aLen,under28],?_⟩
  have:srt (ds.map drOf)≠[]:=by
   intro e
   have:=congrArg List.length e
   rw[srt_length,List.length_map]at this
   exact c (List.length_eq_zero_iff.1 (by simpa using this))
  have:=cmpct_ne _ this
  simp[c,this]
theorem tok_long {l:List UInt8}(h:2000<l.length):LexF.tokR l=.tup [.nils,I 2]:=by unfold LexF.tokR;rw[if_pos h]
theorem zroT:∀s:Heap,aAlloc Tryz.prog 65 s=some (.ref s.length 0,s++[(65,[I 0,.str [],.nils])]):=fun s=>by rw[zeroT]
theorem parse_long {l:List UInt8}(h:2000<l.length):AC C 32 [.str l] (.tup [.agg [I 0,.str [],.nils],I 2]):=by
 obtain⟨N0,q0⟩:=LexF.AC.at (LexF.tok_run l)
 rw[tok_long h]at q0
 have q:=q0 (N0+1) (by omega)
 have bd:aBuild Tryz.prog 65 []=some (.agg [I 0,.str [],.nils]):=by kernel_rfl
 have z:aAlloc Tryz.prog 65 []=some (.ref 0 0,[(65,[I 0,.str [],.nils])]):=zroT []
 have stt:aStore 3 [(65,[I 0,.str [],.nils])] (.ref 0 0) (.agg [I 0,.str [],.nils])=some [(65,[I 0,.str [],.nils])]:=by kernel_rfl
 have ldt:aLoad false true 3 (.ref 0 0) [(65,[I 0,.str [],.nils])]=some (.agg [I 0,.str [],.nils],[(65,[I 0,.str [],.nils])]):=by kernel_rfl
 refine AC.one (n:=N0+1+1) (s1:=[(65,[I 0,.str [],.nils])]) en32 rfl (by kernel_rfl) ?_
 rw[F32_eq,F32]
 simp only[↓sW,sL,z,q,show ((2:Int) != 0)=true from rfl,bd,stt,ldt]
theorem ast_long {l:List UInt8}(h:2000<l.length):AC C 15 [.str l] (.tup [.agg [I 0,I 0,.str [],I 0,I 0,I 0,.nils],.nils,I 2]):=by
 obtain⟨N0,q0⟩:=LexF.AC.at (parse_long h)
 have q:=q0 (N0+1) (by omega)
 have bd:aBuild Tryz.prog 27 []=some (.agg [I 0,I 0,.str [],I 0,I 0,I 0,.nils]):=by kernel_rfl
 have z27:aAlloc Tryz.prog 27 []=some (.ref 0 0,[(27,zrow7)]):=by rw[zero27];rfl
 have z65:aAlloc Tryz.prog 65 [(27,zrow7)]=some (.ref 1 0,[(27,zrow7),(65,[I 0,.str [],.nils])]):=zroT [(27,zrow7)]
 have st3:aStore 3 [(27,zrow7),(65,[I 0,.str [],.nils])] (.ref 1 0) (.agg [I 0,.str [],.nils])=some [(27,zrow7),(65,[I 0,.str [],.nils])]:=by kernel_rfl
 have st7:aStore 7 [(27,zrow7),(65,[I 0,.str [],.nils])] (.ref 0 0) (.agg [I 0,I 0,.str [],I 0,I 0,I 0,.nils])=some [(27,zrow7),(65,[I 0,.str [],.nils])]:=by kernel_rfl
 have ld:aLoad false true 7 (.ref 0 0) [(27,zrow7),(65,[I 0,.str [],.nils])]=some (.agg [I 0,I 0,.str [],I 0,I 0,I 0,.nils],[(27,zrow7),(65,[I 0,.str [],.nils])]):=by kernel_rfl
 refine AC.one (n:=N0+1+1) (s1:=[(27,zrow7),(65,[I 0,.str [],.nils])]) en15 rfl (by kernel_rfl) ?_
 rw[F15_eq,F15]
 simp only[↓sW,sL,z27,z65,q,st3,show ((2:Int) != 0)=true from rfl,bd,st7,ld]
structure Pd where
 (t:Nd)(ds:List Dg)(c:Int)(a:AV)
def PV (l:Bytes)(p:Pd):Prop:=IsN p.t p.a∧AC C 15 [.str l] (.tup [p.a,dgOut p.ds,I p.c])∧szN p.t<900000000∧(p.c=0∨p.c=2)
theorem pv_ex (l:Bytes):∃p,PV l p:=by
 by_cases h:l.length≤2000
 ·obtain⟨T,a,F,A,r⟩:=ast_run l h
  obtain⟨ok,src,sz,p60,lf,cs,hTe⟩:=isFile_facts (by omega) F
  have:=szA l T
  exact⟨⟨(astB l T).1,(astB l T).2,0,a⟩,A,r,by show szN (astB l T).1<_;omega,.inl rfl⟩
 ·exact⟨⟨zNd,[],2,_⟩,isN_z,ast_long (by omega),by decide,.inr rfl⟩
noncomputable def pV (l:Bytes):Pd:=Classical.choose (pv_ex l)
theorem pV_ok (l:Bytes):PV l (pV l):=Classical.choose_spec (pv_ex l)
def txtP (D:Sd):Bytes:=joinA [] (prN 800 D)
open Classical in
noncomputable def outP (D:Sd):Bytes×Int:=if(excN 1 800 D).1=true then([],2) else if(pV (txtP D)).c≠0 then([],(pV (txtP D)).c) else if(pV (txtP D)).ds≠[]∨sd (pV (txtP D)).t≠D then([],3) else(txtP D,0)
def okP (t:Nd):Prop:=fitN t∧heft (sd t)<900000000∧szN t<900000000
theorem okP_sd {a b:Nd}(h:sd a=sd b)(k:okP a):okP b:=⟨fit_sd a b h k.1,by rw[←h];exact k.2.1,by rw[←sz_sd a b h];exact k.2.2⟩
theorem print_run {t:Nd}{a:AV}(hT:IsN t a)(ok:okP t):AC C 21 [a] (.tup [.str (outP (sd t)).1,I (outP (sd t)).2]):=by
 obtain⟨hf,hw,hz⟩:=ok
 obtain⟨n1,hn1⟩:∃n1,n1=szN t:=⟨_,rfl⟩
 obtain⟨pn,pr,psz,pc⟩:=pV_ok (txtP (sd t))
 obtain⟨N1,q1⟩:=LexF.AC.at pr
 obtain⟨N2,q2⟩:=LexF.AC.at (equal_run _ _ _ _ _ (Nat.le_refl _) pn hT psz)
 obtain⟨K,hK,em⟩:=print_em 800 (by omega)
 have wl:=wt_prN 800 (sd t)
 have tl:=len_wtT (prN 800 (sd t))
 obtain⟨n,hn⟩:∃n,n=N1+N2+K+szN t+(prN 800 (sd t)).length+10:=⟨_,rfl⟩
 have q1:=q1 n (by omega)
 have q2:=q2 n (by omega)
 have nr:noRefL [a]=true:=by rw[noRefL_cons,hT.noRef];rfl
 have hst:=hT.strip
 have nrt:∀(b:Bytes) (c:Int),(AV.tup [.str b,I c]).noRef=true:=fun _ _=>rfl
 suffices hs:∃s',den C (n+1) 21 [a] []=some (.tup [.str (outP (sd t)).1,I (outP (sd t)).2],s') by
  obtain⟨s',hs⟩:=hs
  exact AC.one en21 nr (nrt _ _) hs
 -- the counter
 have z3:aAlloc Tryz.prog 3 []=some (.ref 0 0,[(3,[I 0])]):=by kernel_rfl
 have s3:aStore 1 [(3,[I 0])] (.ref 0 0) (I 800)=some [(3,[I 800])]:=by kernel_rfl
 obtain⟨s1,e1,hL,l1,f1⟩:=exc_run (szN t) (by omega) t (Nat.le_refl _) n (by omega) 0 a hT 1 (by omega) [(3,[I 800])] 800 rfl (by omega)
 have e1:aCall Tryz.prog (den C n) 38 [a,I 1,.ref 0 0] [(3,[I 800])]=some (.bool (excN 1 800 (sd t)).1,s1):=e1
 obtain⟨x,hx⟩:∃x,x=(excN 1 800 (sd t)).1:=⟨_,rfl⟩
 rw[←hx]at e1
 rw[F21_eq,F21]
 have hbx:∀s,aBox false 27 a s=some (.box a.cells 0,s):=fun s=>by
  cases hT with
  | mk k v x s0 e0 n0 cs ch hch=>exact nd_box hch s
 have bx:=fun s=>hT.box s
 unfold outP
 cases x with
 | true =>
  rw[if_pos hx.symm]
  refine⟨s1,?_⟩
  simp only[↓sW,sL,hbx,z3,s3,bx,hst,e1]
 | false =>
  rw[if_neg (by rw[←hx];decide)]
  obtain⟨k1,k2⟩:=exc_left t 1 800 hx.symm
  have hsz:szN t≤800:=by omega
  have b81:aBuild Tryz.prog 81 []=some (.agg [.nils]):=by kernel_rfl
  have bx81:aBox true 81 (.agg [.nils]) s1=some (.ref s1.length 0,s1++[(81,[.nils])]):=by simp[aBox,AV.cells,AV.solid,AV.strip]
  have P0:PT (s1++[(81,[.nils])]) s1.length [] none:=⟨gapp_new,⟨fun _=>rfl,fun _ h=>by cases h⟩,by simp⟩
  obtain⟨s2,e2,q',⟨p1,p2,p3⟩,_⟩:=em t hsz hf n (by omega) a hT s1.length _ [] none P0 (by rw[List.length_nil];omega)
  rw[List.nil_append]at p1 p2
  have ld2:aLoad false false 1 (.ref s1.length 0) s2=some (rsv 9 1 (prN 800 (sd t)).length q',s2):=by rw[ParF.ld (n:=1) (o:=0) p1 (by decide) rfl (by decide),rsv_strip]
  obtain⟨s3',e3⟩:=join_run p2 (by omega) (m:=n) (by omega)
  have e3:aCall Tryz.prog (den C n) 40 [rsv 9 1 (prN 800 (sd t)).length q'] s2=some (.str (txtP (sd t)),s3'):=e3
  obtain⟨a1,a2,a3,a4⟩:=pn.cells
  have pst:(pV (txtP (sd t))).a.strip=(pV (txtP (sd t))).a:=pn.strip
  obtain⟨kl,hkl,hk0⟩:=dg_len (pV (txtP (sd t))).ds
  have dst:=(dgOut_noRef (pV (txtP (sd t))).ds).2
  have z27:aAlloc Tryz.prog 27 s3'=some (.ref s3'.length 0,s3'++[(27,zrow7)]):=by rw[zero27]
  obtain⟨s4,hs4⟩:∃s4,s3'++[(27,(pV (txtP (sd t))).a.cells)]=s4:=⟨_,rfl⟩
  have sto:aStore 7 (s3'++[(27,zrow7)]) (.ref s3'.length 0) (pV (txtP (sd t))).a=some s4:=by rw[st7 (gapp_new) rfl a1 a2 a4,set_end,hs4]
  have ld7':aLoad false true 7 (.ref s3'.length 0) s4=some ((pV (txtP (sd t))).a,s4):=ld7 (by rw[←hs4,gapp_new]) a1 a4
  refine⟨s4,?_⟩
  by_cases c1:(pV (txtP (sd t))).c=0
  ·rw[if_neg (by simp[c1])]
   have k0:((pV (txtP (sd t))).c != 0)=false:=by simp[c1]
   by_cases c2:(pV (txtP (sd t))).ds=[]
   ·have hk:kl=0:=hk0.2 c2
    subst hk
    have y:¬((0:Int)<((0:Nat):Int)):=by decide
    by_cases c3:sd (pV (txtP (sd t))).t=sd t
    ·have ce:eqN (pV (txtP (sd t))).t t=true:=(eqN_iff _ _).2 c3
     rw[if_neg (by simp[c2,c3])]
     simp only[↓sW,sL,hbx,z3,s3,bx,hst,e1,b81,bx81,e2,ld2,rsv_strip,e3,q1,dst,pst,z27,sto,k0,hkl,y,ld7',q2,ce]
    ·have ce:eqN (pV (txtP (sd t))).t t=false:=by cases h:eqN (pV (txtP (sd t))).t t with|false=>rfl|true=>exact absurd ((eqN_iff _ _).1 h) c3
     rw[if_pos (.inr c3)]
     simp only[↓sW,sL,hbx,z3,s3,bx,hst,e1,b81,bx81,e2,ld2,rsv_strip,e3,q1,dst,pst,z27,sto,k0,hkl,y,ld7',q2,ce]
   ·have hk:kl≠0:=fun h=>c2 (hk0.1 h)
    have y:(0:Int)<(kl:Int):=by omega
    rw[if_pos (.inl c2)]
    simp only[↓sW,sL,hbx,z3,s3,bx,hst,e1,b81,bx81,e2,ld2,rsv_strip,e3,q1,dst,pst,z27,sto,k0,hkl,y]
  ·rw[if_pos c1]
   have k0:((pV (txtP (sd t))).c != 0)=true:=by simpa using c1
   simp only[↓sW,sL,hbx,z3,s3,bx,hst,e1,b81,bx81,e2,ld2,rsv_strip,e3,q1,dst,pst,z27,sto,k0]
theorem valid_run {t:Nd}{a:AV}(hT:IsN t a)(ok:okP t):AC C 26 [a] (I (outP (sd t)).2):=by
 obtain⟨N,q⟩:=LexF.AC.at (print_run hT ok)
 have q:=q N (Nat.le_refl _)
 have nr:noRefL [a]=true:=by rw[noRefL_cons,hT.noRef];rfl
 have hst:=hT.strip
 have hbx:∀s,aBox false 27 a s=some (.box a.cells 0,s):=fun s=>by
  cases hT with
  | mk k v x s0 e0 n0 cs ch hch=>exact nd_box hch s
 have bx:=fun s=>hT.box s
 refine AC.one (n:=N+1) (s1:=[]) en26 nr rfl ?_
 rw[F26_eq,F26]
 simp only[↓sW,sL,hbx,bx,hst,q]
end ParF
end

section
namespace ParF
open Go Go.Abs Go.Proofs Pm AstF PrtF
theorem outP_err {D:Sd}(h:(outP D).2≠0):(outP D).1=[]:=by
 unfold outP at h ⊢
 split
 ·rfl
 ·split
  ·rfl
  ·split
   ·rfl
   ·rename_i c1 c2 c3
    rw[if_neg c1,if_neg c2,if_neg c3]at h
    exact absurd rfl h
theorem outP_ok {D:Sd}(h:(outP D).2=0):(outP D).1=txtP D∧(pV (txtP D)).c=0∧(pV (txtP D)).ds=[]∧sd (pV (txtP D)).t=D:=by
 unfold outP at h ⊢
 split
 ·rename_i c;rw[if_pos c]at h;cases h
 ·rename_i c1
  rw[if_neg c1]at h
  split
  ·rename_i c;rw[if_pos c]at h;exact absurd h c
  ·rename_i c2
   rw[if_neg c2]at h
   split
   ·rename_i c;rw[if_pos c]at h;cases h
   ·rename_i c3
    refine⟨rfl,by simpa using c2,?_,?_⟩
    ·by_cases e:(pV (txtP D)).ds=[]
     ·exact e
     ·exact absurd (.inl e) c3
    ·by_cases e:sd (pV (txtP D)).t=D
     ·exact e
     ·exact absurd (.inr e) c3
theorem prt_run {t:Nd}{a:AV}(hT:IsN t a)(ok:okP t):AC C 9 [a] (.bool true):=by
 obtain⟨N0,q0⟩:=LexF.AC.at exa_run
 obtain⟨N1,q1⟩:=LexF.AC.at (print_run hT ok)
 obtain⟨N2,q2⟩:=LexF.AC.at (valid_run hT ok)
 have nr:noRefL [a]=true:=by rw[noRefL_cons,hT.noRef];rfl
 have hst:=hT.strip
 have hbx:∀s,aBox false 27 a s=some (.box a.cells 0,s):=fun s=>by
  cases hT with
  | mk k v x s0 e0 n0 cs ch hch=>exact nd_box hch s
 have bx:=fun s=>hT.box s
 obtain⟨r,hr⟩:∃r,r=outP (sd t):=⟨_,rfl⟩
 rw[←hr]at q1 q2
 by_cases c:r.2=0
 ·obtain⟨h1,h2,h3,h4⟩:=outP_ok (D:=sd t) (by rw[←hr];exact c)
  obtain⟨pn,pr,psz,pc⟩:=pV_ok (txtP (sd t))
  generalize pV (txtP (sd t))=p at *
  rw[h2,h3]at pr
  have hd:dgOut []=.nils:=rfl
  rw[hd]at pr
  obtain⟨N3,q3⟩:=LexF.AC.at pr
  obtain⟨N4,q4⟩:=LexF.AC.at (print_run pn (okP_sd h4.symm ok))
  rw[h4,←hr]at q4
  obtain⟨N5,q5⟩:=LexF.AC.at (equal_run _ _ _ _ _ (Nat.le_refl _) pn hT psz)
  rw[(eqN_iff _ _).2 h4]at q5
  obtain⟨n,hn⟩:∃n,n=N0+N1+N2+N3+N4+N5:=⟨_,rfl⟩
  have q0:=q0 n (by omega)
  have q1:=q1 n (by omega)
  have q2:=q2 n (by omega)
  have q3:=q3 n (by omega)
  have q4:=q4 n (by omega)
  have q5:=q5 n (by omega)
  rw[←hr]at h1
  rw[h1,c]at q1 q4
  rw[c]at q2
  obtain⟨a1,a2,a3,a4⟩:=pn.cells
  have pst:=pn.strip
  have z27:aAlloc Tryz.prog 27 []=some (.ref 0 0,[(27,zrow7)]):=by rw[zero27];rfl
  have sto:aStore 7 [(27,zrow7)] (.ref 0 0) p.a=some [(27,p.a.cells)]:=by rw[st7 (s:=[(27,zrow7)]) (i:=0) rfl rfl a1 a2 a4];rfl
  have ldt:aLoad false true 7 (.ref 0 0) [(27,p.a.cells)]=some (p.a,[(27,p.a.cells)]):=ld7 rfl a1 a4
  have l28:aLen Tryz.prog 28 .nils=some (I 0):=lenN (e:=61) (by kernel_rfl)
  refine AC.one (n:=n+1) (s1:=[(27,p.a.cells)]) en9 nr rfl ?_
  rw[F9_eq,F9]
  simp only[↓sW,sL,hbx,q0,bx,hst,q1,bne_self_eq_false,q3,pst,z27,sto,ldt,q4,beq_self_eq_true,l28,q5,q2]
 ·have h1:=outP_err (D:=sd t) (by rw[←hr];exact c)
  rw[←hr]at h1
  obtain⟨n,hn⟩:∃n,n=N0+N1+N2:=⟨_,rfl⟩
  have q0:=q0 n (by omega)
  have q1:=q1 n (by omega)
  have q2:=q2 n (by omega)
  rw[h1]at q1
  have c1:(r.2 != 0)=true:=by simpa using c
  refine AC.one (n:=n+1) (s1:=[]) en9 nr rfl ?_
  rw[F9_eq,F9]
  simp only[↓sW,sL,hbx,q0,bx,hst,q1,c1,beq_self_eq_true,q2]
end ParF
end
