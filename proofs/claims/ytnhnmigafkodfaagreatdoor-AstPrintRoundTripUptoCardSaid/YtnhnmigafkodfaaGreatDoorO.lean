/- PrtC, PrtD, PrtE -/
import Derived.Test.YtnhnmigafkodfaaGreatDoorN
set_option linter.all false
set_option maxRecDepth 100000
set_option maxHeartbeats 1000000

section
namespace ParF
open Go Go.Abs Go.Proofs Pm AstF PrtF
attribute [local irreducible] aCall oh
section
variable {z K:Nat}{N:Sd→List Bytes}{k v:Int}{x:Bytes}{ps pe pn:Int}{cs:List Nd}{ch:AV}(hch:IsNC cs ch)(ok:∀t,szN t≤z→fitN t→OKp K N t)(hf:fitL cs)(zr:OKp K N zNd)(hz:szNL cs≤z)(hK:z+2≤K)(hz2:z<1000000000)
include hch ok hf zr hz hK hz2
theorem kid (i:Nat){j:Int}(hj:j=i){n:Nat}(hn:K+4≤n):∃b,b.strip=b∧(∀s,aCall Tryz.prog (den C n) 136 [.agg [I k,I v,.str x,I ps,I pe,I pn,ch],I j] s=some (b,s))∧EmAt n 39 [b] (N (chS (sdL cs) i)) ∧
  (∀w,EmAt n 138 [.str w,b] (optP N w (chS (sdL cs) i)))∧EmAt n 143 [b] (opndP N (chS (sdL cs) i))∧aField Tryz.prog 27 0 b=some (I (chS (sdL cs) i).kd) ∧
  ∃c,aField Tryz.prog 27 6 b=some c∧c.strip=c∧aLen Tryz.prog 25 c=some (I (chS (sdL cs) i).cs.length)∧∀a w d,EmAt n 137 [.str a,c,.str w,.str d] (encP N a (chS (sdL cs) i).cs w d):=by
 obtain⟨b,hb,hc⟩:=child_run (k:=k) (v:=v) (x:=x) (s0:=ps) (e0:=pe) (n0:=pn) hch i hj
 have hk:OKp K N (cs.getD i zNd)∧∀t∈(cs.getD i zNd).cs,OKp K N t:=by
  rw[List.getD_eq_getElem?_getD]
  by_cases c:i<cs.length
  ·rw[List.getElem?_eq_getElem c]
   have h1:=szN_mem (List.getElem_mem c)
   refine⟨ok _ (by show szN cs[i]≤z;omega) (fitL_mem hf (List.getElem_mem c)),fun t ht=>?_⟩
   have hf1:=fitL_mem hf (List.getElem_mem c)
   have ht:t∈(cs[i]).cs:=ht
   obtain⟨p,hp⟩:∃p,p=cs[i]:=⟨_,rfl⟩
   rw[←hp]at ht h1 hf1
   cases p with
   | mk k v x s e n l =>
    rw[szN_mk]at h1
    rw[fitN]at hf1
    have:=szN_mem (show t∈l from ht)
    exact ok t (by omega) (fitL_mem hf1.2 ht)
  ·rw[List.getElem?_eq_none (by omega)]
   exact⟨zr,fun t ht=>by cases ht⟩
 have hln:(cs.getD i zNd).cs.length≤z:=by
  rw[List.getD_eq_getElem?_getD]
  by_cases c:i<cs.length
  ·rw[List.getElem?_eq_getElem c]
   have h1:=szN_mem (List.getElem_mem c)
   show (cs[i]).cs.length≤z
   obtain⟨p,hp⟩:∃p,p=cs[i]:=⟨_,rfl⟩
   rw[←hp]at h1 ⊢
   cases p with
   | mk k v x s e n l =>
    rw[szN_mk]at h1
    have:=len_le_szN l
    show l.length≤z
    omega
  ·rw[List.getElem?_eq_none (by omega)]
   exact Nat.zero_le _
 obtain⟨n,rfl⟩:∃m,n=m+1:=⟨n-1,by omega⟩
 rw[chS_sd]
 obtain⟨c,f6,nl⟩:=hb.f6
 refine⟨b,hb.strip,hc n,hk.1 _ (by omega) b hb,fun w=>opt_em hb hk.1 w (by omega) (by omega),opnd_em hb hk.1 (by omega) (by omega),?_,c,f6,nl.1,?_,fun a w d=>?_⟩
 ·rw[hb.f0,sd_kd]
 ·rw[nl.len,sd_cs,sdL_len]
 ·rw[sd_cs];exact enc_em nl hk.2 (by omega) (by omega) a w d (by omega)
theorem kfrom (i:Nat){j:Int}(hj:j=i){n:Nat}(hn:K+4≤n):∃b,b.strip=b∧(∀s,aCall Tryz.prog (den C n) 139 [.agg [I k,I v,.str x,I ps,I pe,I pn,ch],I j] s=some (b,s))∧∀a w d,EmAt n 137 [.str a,b,.str w,.str d] (encP N a ((sdL cs).drop i) w d):=by
 obtain⟨b,hb,hc⟩:=from_run (k:=k) (v:=v) (x:=x) (s0:=ps) (e0:=pe) (n0:=pn) hch i hj
 obtain⟨n,rfl⟩:∃m,n=m+1:=⟨n-1,by omega⟩
 have h1:=len_le_szN cs
 have h2:(cs.drop i).length≤cs.length:=by rw[List.length_drop];omega
 refine⟨b,hb.1,hc n,fun a w d=>?_⟩
 rw[←sdL_drop]
 exact enc_em hb (fun t ht=>ok t (by have:=szN_mem (List.mem_of_mem_drop ht);omega) (fitL_mem hf (List.mem_of_mem_drop ht))) (by omega) (by omega) a w d (by omega)
theorem kall {n:Nat}(hn:K+4≤n):(∀a w d,EmAt n 137 [.str a,ch,.str w,.str d] (encP N a (sdL cs) w d))∧(∀w,EmAt n 72 [ch,.str w] (listP N w (sdL cs)))∧EmAt n 140 [ch] (targP N (sdL cs)):=by
 have h1:=len_le_szN cs
 have hk:∀t∈cs,OKp K N t:=fun t ht=>ok t (by have:=szN_mem ht;omega) (fitL_mem hf ht)
 exact⟨fun a w d=>enc_em hch.nl hk (by omega) (by omega) a w d (by omega),fun w=>list_em hch.nl hk (by omega) (by omega) w (by omega),targ_em hch.nl hk (by omega) (by omega) (by omega)⟩
theorem stmt_em (hk:22≤k∧k≤26){m:Nat}(hm:K+5≤m):EmAt m 75 [.agg [I k,I v,.str x,I ps,I pe,I pn,ch]] (stmtP N k (sdL cs)).flatten:=by
 obtain⟨n,rfl⟩:∃n,m=n+1:=⟨m-1,by omega⟩
 have hn:K+4≤n:=by omega
 obtain⟨p,rfl⟩:∃p,n=p+2:=⟨n-2,by omega⟩
 obtain⟨b0,t0,c0,e0,o0,d0,f0,g0,h0,u0,w0,l0⟩:=kid (k:=k) (v:=v) (x:=x) (ps:=ps) (pe:=pe) (pn:=pn) hch ok hf zr hz hK hz2 0 (j:=0) rfl hn
 obtain⟨b1,t1,c1,e1,o1,d1,f1,g1,h1,u1,w1,l1⟩:=kid (k:=k) (v:=v) (x:=x) (ps:=ps) (pe:=pe) (pn:=pn) hch ok hf zr hz hK hz2 1 (j:=1) rfl hn
 obtain⟨b2,t2,c2,e2,o2,d2,f2,g2,h2,u2,w2,l2⟩:=kid (k:=k) (v:=v) (x:=x) (ps:=ps) (pe:=pe) (pn:=pn) hch ok hf zr hz hK hz2 2 (j:=2) rfl hn
 refine em_of en75 rfl fun H s ts q=>?_
 obtain rfl|rfl|rfl|rfl|rfl:k=22∨k=23∨k=24∨k=25∨k=26:=by omega
 all_goals
  simp only[stmtP,Int.reduceEq,reduceIte,or_false,false_or,or_self]
  rw[F75_eq,F75]
  iterate 10 (try simp only[↓sW,sL,nd_box hch,Int.reduceBEq,nd_ld hch,nd_l6 hch,hch.strip.1,bs1,bs2,own_strip,beq_self_eq_true,c0,t0,f0,h0,u0,w0,c1,t1,f1,h1,u1,w1,c2,t2,f2,h2,u2,w2]);(first|exact en_nil|refine en_call put1 fun s' q'=>?_|refine en_call put2 fun s' q'=>?_|refine en_call e0 fun s' q'=>?_|refine en_call (o0 _) fun s' q'=>?_|refine en_call d0 fun s' q'=>?_|refine en_call (l0 _ _ _) fun s' q'=>?_|refine en_call e1 fun s' q'=>?_|refine en_call (o1 _) fun s' q'=>?_|refine en_call d1 fun s' q'=>?_|refine en_call (l1 _ _ _) fun s' q'=>?_|refine en_call e2 fun s' q'=>?_|refine en_call (o2 _) fun s' q'=>?_|refine en_call d2 fun s' q'=>?_|refine en_call (l2 _ _ _) fun s' q'=>?_|skip)
theorem expr_em (hk:27≤k∧k≤32∨39≤k∧k≤42)(hv:-9223372036854775808≤v∧v≤9223372036854775807)(hx:x.length<1000000000){m:Nat}(hm:K+5≤m):EmAt m 76 [.agg [I k,I v,.str x,I ps,I pe,I pn,ch]] (exprP N k v x (sdL cs)).flatten:=by
 obtain⟨n,rfl⟩:∃n,m=n+1:=⟨m-1,by omega⟩
 have hn:K+4≤n:=by omega
 obtain⟨p,rfl⟩:∃p,n=p+2:=⟨n-2,by omega⟩
 obtain⟨b0,t0,c0,e0,o0,d0,f0,g0,h0,u0,w0,l0⟩:=kid (k:=k) (v:=v) (x:=x) (ps:=ps) (pe:=pe) (pn:=pn) hch ok hf zr hz hK hz2 0 (j:=0) rfl hn
 obtain⟨b1,t1,c1,e1,o1,d1,f1,g1,h1,u1,w1,l1⟩:=kid (k:=k) (v:=v) (x:=x) (ps:=ps) (pe:=pe) (pn:=pn) hch ok hf zr hz hK hz2 1 (j:=1) rfl hn
 obtain⟨r1,a1,q1,m1⟩:=kfrom (k:=k) (v:=v) (x:=x) (ps:=ps) (pe:=pe) (pn:=pn) hch ok hf zr hz hK hz2 1 (j:=1) rfl hn
 refine em_of en76 rfl fun H s ts q=>?_
 obtain rfl|rfl|rfl|rfl|rfl|rfl|rfl|rfl|rfl|rfl:k=27∨k=28∨k=29∨k=30∨k=31∨k=32∨k=39∨k=40∨k=41∨k=42:=by omega
 all_goals
  simp only[exprP,Int.reduceEq,reduceIte,or_false,false_or,or_self]
  rw[F76_eq,F76]
  iterate 10 (try simp only[↓sW,sL,nd_box hch,Int.reduceBEq,nd_ld hch,nd_l6 hch,hch.strip.1,bs1,bs2,own_strip,beq_self_eq_true,c0,t0,f0,h0,u0,w0,c1,t1,f1,h1,u1,w1,q1,a1,pflag_run hch,pitoa_run hv,pquo_run hx,pbool_run]);(first|exact en_nil|refine en_call put1 fun s' q'=>?_|refine en_call put2 fun s' q'=>?_|refine en_call e0 fun s' q'=>?_|refine en_call (o0 _) fun s' q'=>?_|refine en_call d0 fun s' q'=>?_|refine en_call (l0 _ _ _) fun s' q'=>?_|refine en_call e1 fun s' q'=>?_|refine en_call (o1 _) fun s' q'=>?_|refine en_call d1 fun s' q'=>?_|refine en_call (l1 _ _ _) fun s' q'=>?_|refine en_call (m1 _ _ _) fun s' q'=>?_|skip)
theorem cons_em  {m:Nat}(hm:K+5≤m):EmAt m 77 [.agg [I k,I v,.str x,I ps,I pe,I pn,ch]] (consP N k v x (sdL cs)).flatten:=by
 obtain⟨n,rfl⟩:∃n,m=n+1:=⟨m-1,by omega⟩
 have hn:K+4≤n:=by omega
 obtain⟨p,rfl⟩:∃p,n=p+2:=⟨n-2,by omega⟩
 obtain⟨b0,t0,c0,e0,o0,d0,f0,g0,h0,u0,w0,l0⟩:=kid (k:=k) (v:=v) (x:=x) (ps:=ps) (pe:=pe) (pn:=pn) hch ok hf zr hz hK hz2 0 (j:=0) rfl hn
 obtain⟨b1,t1,c1,e1,o1,d1,f1,g1,h1,u1,w1,l1⟩:=kid (k:=k) (v:=v) (x:=x) (ps:=ps) (pe:=pe) (pn:=pn) hch ok hf zr hz hK hz2 1 (j:=1) rfl hn
 obtain⟨b2,t2,c2,e2,o2,d2,f2,g2,h2,u2,w2,l2⟩:=kid (k:=k) (v:=v) (x:=x) (ps:=ps) (pe:=pe) (pn:=pn) hch ok hf zr hz hK hz2 2 (j:=2) rfl hn
 obtain⟨r1,a1,q1,m1⟩:=kfrom (k:=k) (v:=v) (x:=x) (ps:=ps) (pe:=pe) (pn:=pn) hch ok hf zr hz hK hz2 1 (j:=1) rfl hn
 obtain⟨la,ll,lt⟩:=kall hch ok hf zr hz hK hz2 hn
 refine em_of en77 rfl fun H s ts q=>?_
 have ne:∀{j:Int},¬k=j→(k==j)=false:=fun h=>by simpa using h
 have y1:=hch.nl.len
 have y2:(1<cs.length∧(1:Int)<(cs.length:Int))∨(¬1<cs.length∧¬(1:Int)<(cs.length:Int)):=by omega
 have y3:((chS (sdL cs) 0).cs.length<2∧((chS (sdL cs) 0).cs.length:Int)<2)∨(¬(chS (sdL cs) 0).cs.length<2∧¬((chS (sdL cs) 0).cs.length:Int)<2):=by omega
 by_cases hk:k=45∨k=21∨k=33∨k=34∨k=35∨k=36∨k=37∨k=38∨k=43∨k=44
 ·obtain rfl|rfl|rfl|rfl|rfl|rfl|rfl|rfl|rfl|rfl:=hk
  obtain y2|y2:=y2<;>obtain y3|y3:=y3
  all_goals
   simp only[consP,Int.reduceEq,reduceIte,sdL_len,y2,y3,or_false,or_true,or_self]
   rw[F77_eq,F77]
   iterate 10 (try simp only[↓sW,sL,nd_box hch,Int.reduceBEq,nd_ld hch,nd_l6 hch,hch.strip.1,bs1,bs2,own_strip,beq_self_eq_true,c0,t0,f0,h0,u0,w0,c1,t1,f1,h1,u1,w1,c2,t2,f2,h2,u2,w2,q1,a1,y1,y2,y3,pflag_run hch,d77_29,hch.noRef,show (∀H o,(AV.ref H o).noRef=false) from fun _ _=>rfl,Bool.false_and,Bool.false_eq_true,ite_false,reduceIte]);(first|exact en_nil|refine en_call put1 fun s' q'=>?_|refine en_call put2 fun s' q'=>?_|refine en_call e0 fun s' q'=>?_|refine en_call (o0 _) fun s' q'=>?_|refine en_call d0 fun s' q'=>?_|refine en_call (l0 _ _ _) fun s' q'=>?_|refine en_call e1 fun s' q'=>?_|refine en_call (o1 _) fun s' q'=>?_|refine en_call d1 fun s' q'=>?_|refine en_call (l1 _ _ _) fun s' q'=>?_|refine en_call e2 fun s' q'=>?_|refine en_call (o2 _) fun s' q'=>?_|refine en_call d2 fun s' q'=>?_|refine en_call (l2 _ _ _) fun s' q'=>?_|refine en_call (m1 _ _ _) fun s' q'=>?_|refine en_call (la _ _ _) fun s' q'=>?_|refine en_call (ll _) fun s' q'=>?_|refine en_call lt fun s' q'=>?_|skip)
 ·simp only[not_or]at hk
  obtain⟨k0,k1,k2,k3,k4,k5,k6,k7,k8,k9⟩:=hk
  simp only[consP,k1,k2,k3,k4,k5,k6,k7,k8,k9,k0,reduceIte]
  rw[F77_eq,F77]
  simp only[↓sW,sL,nd_box hch,ne k1,ne k2,ne k3,ne k4,ne k5,ne k6,ne k7,ne k8,ne k9,ne k0]
  exact en_nil
end
end ParF
end

section
namespace ParF
open Go Go.Abs Go.Proofs Pm AstF PrtF
attribute [local irreducible] aCall oh
section
variable {z K:Nat}{N:Sd→List Bytes}{k v:Int}{x:Bytes}{ps pe pn:Int}{cs:List Nd}{ch:AV}(hch:IsNC cs ch)(ok:∀t,szN t≤z→fitN t→OKp K N t)(hf:fitL cs)(zr:OKp K N zNd)(hz:szNL cs≤z)(hK:z+2≤K)(hz2:z<1000000000)
include hch ok hf zr hz hK hz2
theorem kinit {n:Nat}(hn:K+4≤n):∃b,b.strip=b∧aSl Tryz.prog 25 ch none (some (I ((cs.length-1:Nat):Int))) none=some b∧∀a w d,EmAt n 137 [.str a,b,.str w,.str d] (encP N a ((sdL cs).take (cs.length-1)) w d):=by
 have hx:∃b,NL (cs.take (cs.length-1)) b∧aSl Tryz.prog 25 ch none (some (I ((cs.length-1:Nat):Int))) none=some b:=by
  cases hch with
  | nil=>exact⟨.nils,⟨rfl,.inl ⟨rfl,by simp⟩⟩,by simp[aSl,under25]⟩
  | sl cs rows h =>
   have hl:=h.length
   refine⟨.sl 27 7 (rows.take (cs.length-1)) .sh,⟨rfl,.inr ⟨_,rfl,h.take _⟩⟩,?_⟩
   simp only[aSl,under25,sz27,if_true,aSlice,aBound]
   rw[if_pos (by omega),Int.toNat_natCast]
 obtain⟨b,hb,h1⟩:=hx
 have h2:=len_le_szN cs
 have h3:(cs.take (cs.length-1)).length≤cs.length:=by rw[List.length_take];omega
 refine⟨b,hb.1,h1,fun a w d=>?_⟩
 rw[←sdL_take]
 exact enc_em hb (fun t ht=>ok t (by have:=szN_mem (List.mem_of_mem_take ht);omega) (fitL_mem hf (List.mem_of_mem_take ht))) (by omega) (by omega) a w d (by omega)
theorem part_em (hk:10≤k∧k≤20){m:Nat}(hm:K+5≤m):EmAt m 74 [.agg [I k,I v,.str x,I ps,I pe,I pn,ch]] (partP N k v x (sdL cs)).flatten:=by
 obtain⟨n,rfl⟩:∃n,m=n+1:=⟨m-1,by omega⟩
 have hn:K+4≤n:=by omega
 obtain⟨p,rfl⟩:∃p,n=p+2:=⟨n-2,by omega⟩
 obtain⟨b0,t0,c0,e0,o0,d0,f0,g0,h0,u0,w0,l0⟩:=kid (k:=k) (v:=v) (x:=x) (ps:=ps) (pe:=pe) (pn:=pn) hch ok hf zr hz hK hz2 0 (j:=0) rfl hn
 obtain⟨la,ll,lt⟩:=kall hch ok hf zr hz hK hz2 hn
 have wl:IntKind.i64.wrap ((cs.length:Int)-1)=(cs.length:Int)-1:=by have:=len_le_szN cs;rw[wrap64]<;>omega
 have ct:(if(cs.length:Int)-1<0 then(0:Int) else(cs.length:Int)-1)=((cs.length-1:Nat):Int):=by split<;>omega
 obtain⟨z0,zt,z1,z2,z5,z6⟩:=kid (k:=k) (v:=v) (x:=x) (ps:=ps) (pe:=pe) (pn:=pn) hch ok hf zr hz hK hz2 (cs.length-1) (j:=((cs.length-1:Nat):Int)) rfl hn
 obtain⟨z3,zs,s9,z4⟩:=kinit hch ok hf zr hz hK hz2 hn
 refine em_of en74 rfl fun H s ts q=>?_
 have y0:=hch.nl.len
 have y1:((∀a b:List (List Bytes),(if sdL cs=[] then a else b)=a)∧¬(0:Int)<(cs.length:Int))∨((∀a b:List (List Bytes),(if sdL cs=[] then a else b)=b)∧(0:Int)<(cs.length:Int)):=by
  cases cs with
  | nil=>exact .inl ⟨fun _ _=>by simp[sdL],by simp⟩
  | cons=>exact .inr ⟨fun _ _=>by simp[sdL],by simp⟩
 obtain rfl|rfl|rfl|rfl|rfl|rfl|rfl|rfl|rfl|rfl|rfl:k=10∨k=11∨k=12∨k=13∨k=14∨k=15∨k=16∨k=17∨k=18∨k=19∨k=20:=by omega
 all_goals
  rw[F74_eq,F74]
  obtain⟨y1,y2⟩|⟨y1,y2⟩:=y1
  all_goals
   simp only[partP,Int.reduceEq,reduceIte,or_false,false_or,or_self,y1,sdL_len]
   iterate 10 (try simp only[↓sW,sL,nd_box hch,Int.reduceBEq,nd_ld hch,nd_l6 hch,hch.strip.1,bs1,bs2,own_strip,beq_self_eq_true,c0,t0,f0,h0,u0,w0,y0,y1,y2,pflag_run hch,wl,ct,zt,z1,s9,zs,F74_J3,upds_at,upds_nil,upd_at,Nat.reduceEqDiff,reduceIte,argEnv_0]);(first|exact en_nil|refine en_call (z4 _ _ _) fun s' q'=>?_|refine en_call (z5 _) fun s' q'=>?_|refine en_call put1 fun s' q'=>?_|refine en_call put2 fun s' q'=>?_|refine en_call e0 fun s' q'=>?_|refine en_call (o0 _) fun s' q'=>?_|refine en_call d0 fun s' q'=>?_|refine en_call (l0 _ _ _) fun s' q'=>?_|refine en_call (la _ _ _) fun s' q'=>?_|refine en_call (ll _) fun s' q'=>?_|refine en_call lt fun s' q'=>?_|skip)
end
end ParF
end

section
namespace ParF
open Go Go.Abs Go.Proofs Pm AstF PrtF
attribute [local irreducible] aCall oh
section
variable {z K:Nat}{N:Sd→List Bytes}{k v:Int}{x:Bytes}{ps pe pn:Int}{cs:List Nd}{ch:AV}(hch:IsNC cs ch)(ok:∀t,szN t≤z→fitN t→OKp K N t)(hf:fitL cs)(zr:OKp K N zNd)(hz:szNL cs≤z)(hK:z+2≤K)(hz2:z<1000000000)
include hch ok hf zr hz hK hz2
theorem item_em (hk:2≤k∧k≤9∨k=16){m:Nat}(hm:K+5≤m):EmAt m 73 [.agg [I k,I v,.str x,I ps,I pe,I pn,ch]] (itemP N k v x (sdL cs)).flatten:=by
 obtain⟨n,rfl⟩:∃n,m=n+1:=⟨m-1,by omega⟩
 have hn:K+4≤n:=by omega
 obtain⟨p,rfl⟩:∃p,n=p+2:=⟨n-2,by omega⟩
 obtain⟨b0,t0,c0,e0,o0,d0,f0,g0,h0,u0,w0,l0⟩:=kid (k:=k) (v:=v) (x:=x) (ps:=ps) (pe:=pe) (pn:=pn) hch ok hf zr hz hK hz2 0 (j:=0) rfl hn
 obtain⟨b1,t1,c1,e1,o1,d1,f1,g1,h1,u1,w1,l1⟩:=kid (k:=k) (v:=v) (x:=x) (ps:=ps) (pe:=pe) (pn:=pn) hch ok hf zr hz hK hz2 1 (j:=1) rfl hn
 obtain⟨b2,t2,c2,e2,o2,d2,f2,g2,h2,u2,w2,l2⟩:=kid (k:=k) (v:=v) (x:=x) (ps:=ps) (pe:=pe) (pn:=pn) hch ok hf zr hz hK hz2 2 (j:=2) rfl hn
 obtain⟨b3,t3,c3,e3,o3,d3,f3,g3,h3,u3,w3,l3⟩:=kid (k:=k) (v:=v) (x:=x) (ps:=ps) (pe:=pe) (pn:=pn) hch ok hf zr hz hK hz2 3 (j:=3) rfl hn
 obtain⟨r1,a1,q1,m1⟩:=kfrom (k:=k) (v:=v) (x:=x) (ps:=ps) (pe:=pe) (pn:=pn) hch ok hf zr hz hK hz2 1 (j:=1) rfl hn
 obtain⟨r3,a3,q3,m3⟩:=kfrom (k:=k) (v:=v) (x:=x) (ps:=ps) (pe:=pe) (pn:=pn) hch ok hf zr hz hK hz2 3 (j:=3) rfl hn
 obtain⟨la,ll,lt⟩:=kall hch ok hf zr hz hK hz2 hn
 refine em_of en73 rfl fun H s ts q=>?_
 have kw:=fun(hk:k=2∨k=3∨k=4∨k=5∨k=6∨k=7∨k=8∨k=9∨k=16)=>pkw_run hk p
 have y1:((∀a b:List Bytes,(if andI v 2=0 then a else b)=a)∧(andI v 2 != 0)=false)∨((∀a b:List Bytes,(if andI v 2=0 then a else b)=b)∧(andI v 2 != 0)=true):=by
  by_cases h:andI v 2=0<;>simp[h]
 have y2:((∀a b:List Bytes,(if x=[] then a else b)=a)∧(!(x==[]))=false)∨((∀a b:List Bytes,(if x=[] then a else b)=b)∧(!(x==[]))=true):=by
  by_cases h:x=[]<;>simp[h]
 have y3:∀i,((∀a b:List Bytes,(if(chS (sdL cs) i).kd=0 then a else b)=a)∧((chS (sdL cs) i).kd != 0)=false∧((chS (sdL cs) i).kd==0)=true)∨((∀a b:List Bytes,(if(chS (sdL cs) i).kd=0 then a else b)=b)∧((chS (sdL cs) i).kd != 0)=true∧((chS (sdL cs) i).kd==0)=false):=fun i=>by
  by_cases h:(chS (sdL cs) i).kd=0<;>simp[h]
 obtain rfl|rfl|rfl|rfl|rfl|rfl|rfl|rfl|rfl:k=2∨k=3∨k=7∨k=4∨k=5∨k=6∨k=8∨k=9∨k=16:=by omega
 obtain y1|y1:=y1<;>obtain y2|y2:=y2
 rotate_left 4
 obtain y3|y3:=y3 3
 rotate_left 2
 obtain y3|y3:=y3 1
 all_goals
  simp only[itemP,Int.reduceEq,reduceIte,or_false,false_or,or_self,or_true,true_or,y1,y2,y3]
  have kw:=kw (by simp)
  rw[F73_eq,F73]
  iterate 10 (try simp only[↓sW,sL,nd_box hch,Int.reduceBEq,nd_ld hch,nd_l6 hch,hch.strip.1,bs1,bs2,own_strip,beq_self_eq_true,c0,t0,f0,h0,u0,w0,c1,t1,f1,h1,u1,w1,c2,t2,f2,h2,u2,w2,c3,t3,f3,h3,u3,w3,q1,a1,q3,a3,pflag_run hch,d73_1,hch.noRef,show (∀H o,(AV.ref H o).noRef=false) from fun _ _=>rfl,Bool.false_and,Bool.false_eq_true,ite_false,reduceIte,F73_J0,F73_J2,F73_J3,F73_J5,F73_J6,F73_J10,upds_at,upds_nil,upd_at,Nat.reduceEqDiff,reduceIte,argEnv_0,kw,aBin_and,str_neq,Int.reduceBNe,bne_self_eq_false,y1,y2,y3]);(first|refine en_skip ?_|exact en_nil|refine en_call put1 fun s' q'=>?_|refine en_call put2 fun s' q'=>?_|refine en_call e0 fun s' q'=>?_|refine en_call (o0 _) fun s' q'=>?_|refine en_call d0 fun s' q'=>?_|refine en_call (l0 _ _ _) fun s' q'=>?_|refine en_call e1 fun s' q'=>?_|refine en_call (o1 _) fun s' q'=>?_|refine en_call d1 fun s' q'=>?_|refine en_call (l1 _ _ _) fun s' q'=>?_|refine en_call e2 fun s' q'=>?_|refine en_call (o2 _) fun s' q'=>?_|refine en_call d2 fun s' q'=>?_|refine en_call (l2 _ _ _) fun s' q'=>?_|refine en_call e3 fun s' q'=>?_|refine en_call (o3 _) fun s' q'=>?_|refine en_call d3 fun s' q'=>?_|refine en_call (l3 _ _ _) fun s' q'=>?_|refine en_call (m1 _ _ _) fun s' q'=>?_|refine en_call (m3 _ _ _) fun s' q'=>?_|refine en_call (la _ _ _) fun s' q'=>?_|refine en_call (ll _) fun s' q'=>?_|refine en_call lt fun s' q'=>?_|skip)
end
end ParF
end
