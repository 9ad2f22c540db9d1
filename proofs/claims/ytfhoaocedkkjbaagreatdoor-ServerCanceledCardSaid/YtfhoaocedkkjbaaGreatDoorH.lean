/- RopeT, RopeN, RopeO, RopeS, RopeM, RopeW, RopeE, RopeA -/
import Derived.Test.YtfhoaocedkkjbaaGreatDoorD
set_option linter.all false
set_option maxRecDepth 100000

section
namespace RopeF
inductive T where
 | leaf (s:List UInt8)
 | node (l r:T)
namespace T
def str:T→List UInt8
 | leaf s=>s
 | node l r=>l.str++r.str
def h:T→Nat
 | leaf _=>0
 | node l r=>max l.h r.h+1
def lv:T→Nat
 | leaf _=>1
 | node l r=>l.lv+r.lv
def size:T→Nat
 | leaf _=>1
 | node l r=>l.size+r.size+1
def WF:T→Prop
 | leaf s=>s≠[]∧s.length≤32
 | node l r=>l.WF∧r.WF∧l.h≤r.h+1∧r.h≤l.h+1
def left:T→T
 | leaf s=>leaf s
 | node l _=>l
def right:T→T
 | leaf s=>leaf s
 | node _ r=>r
def rebalance (l r:T):T :=
 if l.h > r.h+1∧l.left.h ≥ l.right.h then node l.left (node l.right r)
 else if l.h > r.h+1 then node (node l.left l.right.left) (node l.right.right r)
 else if r.h > l.h+1∧r.right.h ≥ r.left.h then node (node l r.left) r.right
 else if r.h > l.h+1 then node (node l r.left.left) (node r.left.right r.right)
 else node l r
theorem left_size {t:T}(ht:t.h > 0):t.left.size<t.size:=by cases t<;>simp_all [h,left,size];omega
theorem right_size {t:T}(ht:t.h > 0):t.right.size<t.size:=by cases t<;>simp_all [h,right,size];omega
def concat (l r:T):T :=
 if l.h=0∧r.h=0∧l.str.length+r.str.length≤32 then leaf (l.str++r.str)
 else if hl:l.h > r.h+1 then rebalance l.left (concat l.right r)
 else if hr:r.h > l.h+1 then rebalance (concat l r.left) r.right
 else node l r
 termination_by l.size+r.size
 decreasing_by
 ·have:=right_size (t:=l) (by omega);omega
 ·have:=left_size (t:=r) (by omega);omega
theorem h0 {t:T}(ht:t.h=0):∃s,t=leaf s:=by cases t with
 | leaf s=>exact⟨s,rfl⟩
 | node l r=>simp[h]at ht
theorem hpos {t:T}(ht:t.h > 0):∃l r,t=node l r:=by cases t with
 | leaf s=>simp[h]at ht
 | node l r=>exact⟨l,r,rfl⟩
theorem WF.str_pos {t:T}(w:t.WF):0<t.str.length:=by
 induction t with
 | leaf s=>simp[str];exact List.length_pos_iff.2 w.1
 | node l r ihl ihr=>simp[str];have:=ihl w.1;omega
theorem lv_pos (t:T):0<t.lv:=by induction t with
 | leaf s=>simp[lv]
 | node l r ihl ihr=>simp[lv];omega
theorem WF.lv_le {t:T}(w:t.WF):t.lv≤t.str.length:=by
 induction t with
 | leaf s=>simp[lv,str];exact List.length_pos_iff.2 w.1
 | node l r ihl ihr=>simp[lv,str];have:=ihl w.1;have:=ihr w.2.1;omega
theorem h_lt_lv (t:T):t.h<t.lv:=by induction t with
 | leaf s=>simp[h,lv]
 | node l r ihl ihr=>simp only[h,lv];have:=lv_pos l;have:=lv_pos r;omega
theorem rebalance_near {l r:T}(h1:l.h≤r.h+1)(h2:r.h≤l.h+1):rebalance l r=node l r:=by
 unfold rebalance
 rw[if_neg (by omega),if_neg (by omega),if_neg (by omega),if_neg (by omega)]
theorem rebalance_ok {l r:T}(wl:l.WF)(wr:r.WF)(h1:l.h≤r.h+2)(h2:r.h≤l.h+2) :
  (rebalance l r).WF∧(rebalance l r).str=l.str++r.str∧(rebalance l r).h≤max l.h r.h+1∧max l.h r.h≤(rebalance l r).h:=by
 unfold rebalance
 split
 ·rename_i c
  obtain⟨a,b,rfl⟩:=hpos (t:=l) (by omega)
  simp only[left,right,h,WF,str]at *
  refine⟨⟨wl.1,⟨wl.2.1,wr,?_,?_⟩,?_,?_⟩,by simp,?_,?_⟩<;>omega
 ·split
  ·rename_i c d
   obtain⟨a,b,rfl⟩:=hpos (t:=l) (by omega)
   simp only[left,right]at c
   have:b.h > 0:=by simp only[h]at *;omega
   obtain⟨x,y,rfl⟩:=hpos this
   simp only[left,right,h,WF,str]at *
   refine⟨⟨⟨wl.1,wl.2.1.1,?_,?_⟩,⟨wl.2.1.2.1,wr,?_,?_⟩,?_,?_⟩,by simp,?_,?_⟩<;>omega
  ·split
   ·rename_i c
    obtain⟨a,b,rfl⟩:=hpos (t:=r) (by omega)
    simp only[left,right,h,WF,str]at *
    refine⟨⟨⟨wl,wr.1,?_,?_⟩,wr.2.1,?_,?_⟩,by simp,?_,?_⟩<;>omega
   ·split
    ·rename_i c d
     obtain⟨a,b,rfl⟩:=hpos (t:=r) (by omega)
     simp only[left,right]at c
     have:a.h > 0:=by simp only[h]at *;omega
     obtain⟨x,y,rfl⟩:=hpos this
     simp only[left,right,h,WF,str]at *
     refine⟨⟨⟨wl,wr.1.1,?_,?_⟩,⟨wr.1.2.1,wr.2.1,?_,?_⟩,?_,?_⟩,by simp,?_,?_⟩<;>omega
    ·simp only[h,WF,str]
     refine⟨⟨wl,wr,?_,?_⟩,trivial,?_,?_⟩<;>omega
theorem concat_ok:∀(n:Nat)(l r:T),l.size+r.size≤n→l.WF→r.WF →
  (concat l r).WF∧(concat l r).str=l.str++r.str∧(concat l r).h≤max l.h r.h+1∧max l.h r.h≤(concat l r).h:=by
 intro n
 induction n with
 | zero=>intro l r hn;cases l<;>cases r<;>simp[size]at hn
 | succ n ih =>
  intro l r hn wl wr
  unfold concat
  split
  ·rename_i c
   have:=wl.str_pos
   simp only[WF,str,h,List.length_append]
   refine⟨⟨?_,by omega⟩,trivial,by omega,by omega⟩
   intro e
   have:=congrArg List.length e
   simp at this
   simp[this]at *
  ·split
   ·rename_i c
    obtain⟨a,b,rfl⟩:=hpos (t:=l) (by omega)
    simp only[left,right,size]at *
    obtain⟨i1,i2,i3,i4⟩:=ih b r (by omega) wl.2.1 wr
    have hw:=wl
    simp only[WF,h]at hw c
    obtain⟨k1,k2,k3,k4⟩:=rebalance_ok wl.1 i1 (by omega) (by omega)
    have near:a.h≤(concat b r).h+1→(concat b r).h≤a.h+1→(rebalance a (concat b r)).h=max a.h (concat b r).h+1:=fun p q=>by rw[rebalance_near p q,h]
    refine⟨k1,by rw[k2,i2];simp[str],?_,?_⟩<;>simp only[h]<;>omega
   ·split
    ·rename_i c
     obtain⟨a,b,rfl⟩:=hpos (t:=r) (by omega)
     simp only[left,right,size]at *
     obtain⟨i1,i2,i3,i4⟩:=ih l a (by omega) wl wr.1
     have hw:=wr
     simp only[WF,h]at hw c
     obtain⟨k1,k2,k3,k4⟩:=rebalance_ok i1 wr.2.1 (by omega) (by omega)
     have near:(l.concat a).h≤b.h+1→b.h≤(l.concat a).h+1→(rebalance (l.concat a) b).h=max (l.concat a).h b.h+1:=fun p q=>by rw[rebalance_near p q,h]
     refine⟨k1,by rw[k2,i2];simp[str],?_,?_⟩<;>simp only[h]<;>omega
    ·simp only[h,WF,str]
     refine⟨⟨wl,wr,?_,?_⟩,trivial,?_,?_⟩<;>omega
end T
abbrev R:=Option T
def R.str:R→List UInt8
 | none=>[]
 | some t=>t.str
def R.WF:R→Prop
 | none=>True
 | some t=>t.WF
def R.concat:R→R→R
 | none,r=>r
 | l,none=>l
 | some l,some r=>some (l.concat r)
theorem R.concat_ok {l r:R}(wl:l.WF)(wr:r.WF):(l.concat r).WF∧(l.concat r).str=l.str++r.str:=by
 cases l with
 | none=>exact⟨wr,rfl⟩
 | some l=>cases r with
  | none=>exact⟨wl,(List.append_nil _).symm⟩
  | some r =>
   obtain⟨h1,h2,_⟩:=T.concat_ok _ l r (Nat.le_refl _) wl wr
   exact⟨h1,h2⟩
end RopeF
end

section
namespace RopeF
open Go Go.Abs Go.Proofs Srv
def enc:T→AV
 | .leaf s=>.box [.nilp,.nilp,.str s,I s.length,I 0,I 1] 0
 | .node l r=>.box [enc l,enc r,.str [],I (l.str.length+r.str.length:Nat),I (max l.h r.h+1:Nat),I (l.lv+r.lv:Nat)] 0
def lp:T→AV
 | .leaf _=>.nilp
 | .node l _=>enc l
def rp:T→AV
 | .leaf _=>.nilp
 | .node _ r=>enc r
def tx:T→List UInt8
 | .leaf s=>s
 | .node _ _=>[]
theorem enc_eq (t:T):enc t=.box [lp t,rp t,.str (tx t),I t.str.length,I t.h,I t.lv] 0:=by
 cases t with
 | leaf s=>rfl
 | node l r=>simp[enc,lp,rp,tx,T.str,T.h,T.lv]
@[simp] theorem enc_strip (t:T):(enc t).strip=enc t:=by rw[enc_eq];rfl
@[simp] theorem enc_noRef (t:T):(enc t).noRef=true:=by
 induction t with
 | leaf s=>rfl
 | node l r ihl ihr=>simp[enc,AV.noRef,noRefL,ihl,ihr]
@[simp] theorem lp_strip (t:T):(lp t).strip=lp t:=by cases t<;>simp[lp]
@[simp] theorem rp_strip (t:T):(rp t).strip=rp t:=by cases t<;>simp[rp]
@[simp] theorem enc_check (t:T):aNilCheck (enc t)=some (enc t):=by rw[enc_eq];rfl
@[simp] theorem enc_addr (k:Nat) (t:T):aAddr k (enc t)=some (.box [lp t,rp t,.str (tx t),I t.str.length,I t.h,I t.lv] k):=by
 rw[enc_eq,aAddr_box,Nat.zero_add]
def encR:R→AV
 | none=>.nilp
 | some t=>enc t
@[simp] theorem encR_strip (r:R):(encR r).strip=encR r:=by cases r<;>simp[encR]
@[simp] theorem encR_noRef (r:R):(encR r).noRef=true:=by cases r<;>simp[encR];rfl
theorem newLeaf_ok (s:List UInt8):AC C 47 [.str s] (enc (.leaf s)):=by
 refine .intro (by kernel_rfl) (by rfl) (by simp) ⟨0,fun n _=>⟨[],?_⟩⟩
 rw[F47_eq]
 kernel_rfl
theorem build56 (l r:T)(a b c:Int):aBuild Tryz.prog 144 [(0,enc l),(1,enc r),(3,I a),(4,I b),(5,I c)]=some (.agg [enc l,enc r,.str [],I a,I b,I c]):=by
 rw[enc_eq l,enc_eq r];kernel_rfl
def T.mass (t:T):Nat:=t.str.length+t.lv
theorem T.mass_node (l r:T):(T.node l r).mass=l.mass+r.mass:=by simp[T.mass,T.str,T.lv];omega
theorem T.h_mass (t:T):t.h<t.mass:=by have:=t.h_lt_lv;unfold T.mass;omega
theorem AC.at {g:FuncId}{args:List AV}{v:AV}(h:AC C g args v):∃N,∀n,N≤n→∀s,aCall Tryz.prog (den C n) g args s=some (v,s):=h
theorem wadd {a b:Nat}(h:a+b<2000000000):IntKind.i64.wrap ((a:Int)+(b:Int))=((a+b:Nat):Int):=by rw[wrap64]<;>omega
theorem wadd1 {a:Nat}(h:a<2000000000):IntKind.i64.wrap ((a:Int)+1)=((a+1:Nat):Int):=by rw[wrap64]<;>omega
theorem newNode_ok (l r:T)(h:l.mass+r.mass<1000000000):AC C 79 [enc l,enc r] (enc (.node l r)):=by
 refine .intro (by kernel_rfl) (by simp[noRefL]) (by simp) ⟨0,fun n _=>⟨[],?_⟩⟩
 have:=l.h_lt_lv
 have:=r.h_lt_lv
 unfold T.mass at *
 rw[F79_eq]
 unfold F79
 have e1:IntKind.i64.wrap ((l.str.length:Int)+r.str.length)=(l.str.length+r.str.length:Nat):=by rw[wrap64]<;>omega
 have e2:IntKind.i64.wrap ((if l.h<r.h then(r.h:Int) else l.h)+1)=(max l.h r.h+1:Nat):=by rw[wrap64]<;>split<;>omega
 have e3:IntKind.i64.wrap ((l.lv:Int)+r.lv)=(l.lv+r.lv:Nat):=by rw[wrap64]<;>omega
 simp -implicitDefEqProofs only[oh_some,mp_some,sto_some,br_true,br_false,gd_true,gd_false,wA_tt,wA_tup,wA_ft,wA_tf,wA_ff,enc_strip,lp_strip,rp_strip,encR_strip,enc_check,enc_addr,aNilCheck_box,aNilCheck_ref,aAddr_box,aAddr_ref,aLoad_one,List.getElem?_cons_succ,List.getElem?_cons_zero,Option.map_some,bin_add,bin_sub,bin_lss,bin_leq,bin_gtr,bin_geq,bin_eql,bin_neq,str_eql,aMax_int,aMin_int,aUn_not,aPick_true,aPick_false,strip_int,strip_bool,strip_str,strip_nilp,strip_nils,strip_box,strip_ref,strip_agg,strip_tup,strip_undef,aBox_f,solid_agg,cells_agg,kLoad_box,kGd_true,kGd_false,kCall_ok,gt_iff_lt,ge_iff_le,Int.ofNat_lt,Int.ofNat_le,decide_true,decide_false,Nat.zero_add,Bool.not_true,Bool.not_false,aExtract_tup,fin1_some,resL_nil,resL_some,enc_noRef,encR_noRef,noRefL_cons,noRefL_nil,noRef_int,noRef_str,noRef_bool,Bool.and_self,ite_true,dyn_silent,dyn_get,dyn_app,dyn_writer,kLoad_ref,build56,e1,e2,e3,d79_1]
 simp only[enc]
theorem rebalance_run (l r:T)(h:l.mass+r.mass<1000000000):AC C 78 [enc l,enc r] (enc (l.rebalance r)):=by
 refine .intro (by kernel_rfl) (by simp[noRefL]) (by simp) ?_
 have hl:=l.h_mass
 have hr:=r.h_mass
 have e1:=wadd1 (a:=l.h) (by omega)
 have e2:=wadd1 (a:=r.h) (by omega)
 unfold T.rebalance
 by_cases c1:r.h+1<l.h
 ·obtain⟨a,b,rfl⟩:=T.hpos (t:=l) (by omega)
  rw[T.mass_node]at h
  by_cases c2:b.h≤a.h
  ·obtain⟨N1,q1⟩:=AC.at (newNode_ok b r (by omega))
   obtain⟨N2,q2⟩:=AC.at (newNode_ok a (.node b r) (by rw[T.mass_node];omega))
   rw[if_pos (by exact⟨c1,c2⟩)]
   refine⟨max N1 N2,fun n hn=>⟨[],?_⟩⟩
   have q1:=q1 n (by omega)
   have q2:=q2 n (by omega)
   rw[F78_eq]
   unfold F78
   simp -implicitDefEqProofs only[oh_some,mp_some,sto_some,br_true,br_false,gd_true,gd_false,wA_tt,wA_tup,wA_ft,wA_tf,wA_ff,enc_strip,lp_strip,rp_strip,encR_strip,enc_check,enc_addr,aNilCheck_box,aNilCheck_ref,aAddr_box,aAddr_ref,aLoad_one,List.getElem?_cons_succ,List.getElem?_cons_zero,Option.map_some,bin_add,bin_sub,bin_lss,bin_leq,bin_gtr,bin_geq,bin_eql,bin_neq,str_eql,aMax_int,aMin_int,aUn_not,aPick_true,aPick_false,strip_int,strip_bool,strip_str,strip_nilp,strip_nils,strip_box,strip_ref,strip_agg,strip_tup,strip_undef,aBox_f,solid_agg,cells_agg,kLoad_box,kGd_true,kGd_false,kCall_ok,gt_iff_lt,ge_iff_le,Int.ofNat_lt,Int.ofNat_le,decide_true,decide_false,Nat.zero_add,Bool.not_true,Bool.not_false,aExtract_tup,fin1_some,resL_nil,resL_some,enc_noRef,encR_noRef,noRefL_cons,noRefL_nil,noRef_int,noRef_str,noRef_bool,Bool.and_self,ite_true,dyn_silent,dyn_get,dyn_app,dyn_writer,kLoad_ref,lp,rp,e1,e2,c1,c2,q1,q2,d78_1,d78_2,T.left,T.right]
  ·have:b.h > 0:=by omega
   obtain⟨x,y,rfl⟩:=T.hpos this
   rw[T.mass_node]at h
   obtain⟨N1,q1⟩:=AC.at (newNode_ok a x (by omega))
   obtain⟨N2,q2⟩:=AC.at (newNode_ok y r (by omega))
   obtain⟨N3,q3⟩:=AC.at (newNode_ok (.node a x) (.node y r) (by simp only[T.mass_node];omega))
   rw[if_neg (by rintro⟨_,h⟩;exact c2 h),if_pos c1]
   refine⟨max N1 (max N2 N3),fun n hn=>⟨[],?_⟩⟩
   have q1:=q1 n (by omega)
   have q2:=q2 n (by omega)
   have q3:=q3 n (by omega)
   rw[F78_eq]
   unfold F78
   simp -implicitDefEqProofs only[oh_some,mp_some,sto_some,br_true,br_false,gd_true,gd_false,wA_tt,wA_tup,wA_ft,wA_tf,wA_ff,enc_strip,lp_strip,rp_strip,encR_strip,enc_check,enc_addr,aNilCheck_box,aNilCheck_ref,aAddr_box,aAddr_ref,aLoad_one,List.getElem?_cons_succ,List.getElem?_cons_zero,Option.map_some,bin_add,bin_sub,bin_lss,bin_leq,bin_gtr,bin_geq,bin_eql,bin_neq,str_eql,aMax_int,aMin_int,aUn_not,aPick_true,aPick_false,strip_int,strip_bool,strip_str,strip_nilp,strip_nils,strip_box,strip_ref,strip_agg,strip_tup,strip_undef,aBox_f,solid_agg,cells_agg,kLoad_box,kGd_true,kGd_false,kCall_ok,gt_iff_lt,ge_iff_le,Int.ofNat_lt,Int.ofNat_le,decide_true,decide_false,Nat.zero_add,Bool.not_true,Bool.not_false,aExtract_tup,fin1_some,resL_nil,resL_some,enc_noRef,encR_noRef,noRefL_cons,noRefL_nil,noRef_int,noRef_str,noRef_bool,Bool.and_self,ite_true,dyn_silent,dyn_get,dyn_app,dyn_writer,kLoad_ref,lp,rp,e1,e2,c1,c2,q1,q2,q3,d78_1,d78_3,d78_4,T.left,T.right]
 ·rw[if_neg (by omega),if_neg (by omega)]
  by_cases c3:l.h+1<r.h
  ·obtain⟨a,b,rfl⟩:=T.hpos (t:=r) (by omega)
   rw[T.mass_node]at h
   by_cases c2:a.h≤b.h
   ·obtain⟨N1,q1⟩:=AC.at (newNode_ok l a (by omega))
    obtain⟨N2,q2⟩:=AC.at (newNode_ok (.node l a) b (by rw[T.mass_node];omega))
    rw[if_pos (by exact⟨c3,c2⟩)]
    refine⟨max N1 N2,fun n hn=>⟨[],?_⟩⟩
    have q1:=q1 n (by omega)
    have q2:=q2 n (by omega)
    rw[F78_eq]
    unfold F78
    simp -implicitDefEqProofs only[oh_some,mp_some,sto_some,br_true,br_false,gd_true,gd_false,wA_tt,wA_tup,wA_ft,wA_tf,wA_ff,enc_strip,lp_strip,rp_strip,encR_strip,enc_check,enc_addr,aNilCheck_box,aNilCheck_ref,aAddr_box,aAddr_ref,aLoad_one,List.getElem?_cons_succ,List.getElem?_cons_zero,Option.map_some,bin_add,bin_sub,bin_lss,bin_leq,bin_gtr,bin_geq,bin_eql,bin_neq,str_eql,aMax_int,aMin_int,aUn_not,aPick_true,aPick_false,strip_int,strip_bool,strip_str,strip_nilp,strip_nils,strip_box,strip_ref,strip_agg,strip_tup,strip_undef,aBox_f,solid_agg,cells_agg,kLoad_box,kGd_true,kGd_false,kCall_ok,gt_iff_lt,ge_iff_le,Int.ofNat_lt,Int.ofNat_le,decide_true,decide_false,Nat.zero_add,Bool.not_true,Bool.not_false,aExtract_tup,fin1_some,resL_nil,resL_some,enc_noRef,encR_noRef,noRefL_cons,noRefL_nil,noRef_int,noRef_str,noRef_bool,Bool.and_self,ite_true,dyn_silent,dyn_get,dyn_app,dyn_writer,kLoad_ref,lp,rp,e1,e2,c1,c2,c3,q1,q2,d78_1,d78_3,d78_5,d78_6,T.left,T.right]
   ·have:a.h > 0:=by omega
    obtain⟨x,y,rfl⟩:=T.hpos this
    rw[T.mass_node]at h
    obtain⟨N1,q1⟩:=AC.at (newNode_ok l x (by omega))
    obtain⟨N2,q2⟩:=AC.at (newNode_ok y b (by omega))
    obtain⟨N3,q3⟩:=AC.at (newNode_ok (.node l x) (.node y b) (by simp only[T.mass_node];omega))
    rw[if_neg (by rintro⟨_,h⟩;exact c2 h),if_pos c3]
    refine⟨max N1 (max N2 N3),fun n hn=>⟨[],?_⟩⟩
    have q1:=q1 n (by omega)
    have q2:=q2 n (by omega)
    have q3:=q3 n (by omega)
    rw[F78_eq]
    unfold F78
    simp -implicitDefEqProofs only[oh_some,mp_some,sto_some,br_true,br_false,gd_true,gd_false,wA_tt,wA_tup,wA_ft,wA_tf,wA_ff,enc_strip,lp_strip,rp_strip,encR_strip,enc_check,enc_addr,aNilCheck_box,aNilCheck_ref,aAddr_box,aAddr_ref,aLoad_one,List.getElem?_cons_succ,List.getElem?_cons_zero,Option.map_some,bin_add,bin_sub,bin_lss,bin_leq,bin_gtr,bin_geq,bin_eql,bin_neq,str_eql,aMax_int,aMin_int,aUn_not,aPick_true,aPick_false,strip_int,strip_bool,strip_str,strip_nilp,strip_nils,strip_box,strip_ref,strip_agg,strip_tup,strip_undef,aBox_f,solid_agg,cells_agg,kLoad_box,kGd_true,kGd_false,kCall_ok,gt_iff_lt,ge_iff_le,Int.ofNat_lt,Int.ofNat_le,decide_true,decide_false,Nat.zero_add,Bool.not_true,Bool.not_false,aExtract_tup,fin1_some,resL_nil,resL_some,enc_noRef,encR_noRef,noRefL_cons,noRefL_nil,noRef_int,noRef_str,noRef_bool,Bool.and_self,ite_true,dyn_silent,dyn_get,dyn_app,dyn_writer,kLoad_ref,lp,rp,e1,e2,c1,c2,c3,q1,q2,q3,d78_1,d78_3,d78_5,d78_7,d78_8,T.left,T.right]
  ·rw[if_neg (by omega),if_neg (by omega)]
   obtain⟨N1,q1⟩:=AC.at (newNode_ok l r (by omega))
   refine⟨N1,fun n hn=>⟨[],?_⟩⟩
   have q1:=q1 n (by omega)
   rw[F78_eq]
   unfold F78
   simp -implicitDefEqProofs only[oh_some,mp_some,sto_some,br_true,br_false,gd_true,gd_false,wA_tt,wA_tup,wA_ft,wA_tf,wA_ff,enc_strip,lp_strip,rp_strip,encR_strip,enc_check,enc_addr,aNilCheck_box,aNilCheck_ref,aAddr_box,aAddr_ref,aLoad_one,List.getElem?_cons_succ,List.getElem?_cons_zero,Option.map_some,bin_add,bin_sub,bin_lss,bin_leq,bin_gtr,bin_geq,bin_eql,bin_neq,str_eql,aMax_int,aMin_int,aUn_not,aPick_true,aPick_false,strip_int,strip_bool,strip_str,strip_nilp,strip_nils,strip_box,strip_ref,strip_agg,strip_tup,strip_undef,aBox_f,solid_agg,cells_agg,kLoad_box,kGd_true,kGd_false,kCall_ok,gt_iff_lt,ge_iff_le,Int.ofNat_lt,Int.ofNat_le,decide_true,decide_false,Nat.zero_add,Bool.not_true,Bool.not_false,aExtract_tup,fin1_some,resL_nil,resL_some,enc_noRef,encR_noRef,noRefL_cons,noRefL_nil,noRef_int,noRef_str,noRef_bool,Bool.and_self,ite_true,dyn_silent,dyn_get,dyn_app,dyn_writer,kLoad_ref,lp,rp,e1,e2,c1,c3,q1,d78_1,d78_3,d78_5,d78_7,T.left,T.right]
end RopeF
end

section
namespace RopeF
open Go Go.Abs Go.Proofs Srv
theorem T.mass_pos (t:T):0<t.mass:=by have:=t.lv_pos;unfold T.mass;omega
theorem T.rebalance_mass (l r:T):(l.rebalance r).mass=l.mass+r.mass:=by
 unfold T.rebalance
 split
 ·rename_i c
  obtain⟨a,b,rfl⟩:=T.hpos (t:=l) (by omega)
  simp only[T.left,T.right,T.mass_node];omega
 ·split
  ·rename_i c d
   obtain⟨a,b,rfl⟩:=T.hpos (t:=l) (by omega)
   simp only[T.left,T.right]at c
   obtain⟨x,y,rfl⟩:=T.hpos (t:=b) (by simp only[T.h]at *;omega)
   simp only[T.left,T.right,T.mass_node];omega
  ·split
   ·rename_i c
    obtain⟨a,b,rfl⟩:=T.hpos (t:=r) (by omega)
    simp only[T.left,T.right,T.mass_node];omega
   ·split
    ·rename_i c d
     obtain⟨a,b,rfl⟩:=T.hpos (t:=r) (by omega)
     simp only[T.left,T.right]at c
     obtain⟨x,y,rfl⟩:=T.hpos (t:=a) (by simp only[T.h]at *;omega)
     simp only[T.left,T.right,T.mass_node];omega
    ·simp only[T.mass_node]
theorem T.concat_mass:∀(n:Nat)(l r:T),l.size+r.size≤n→(l.concat r).mass≤l.mass+r.mass:=by
 intro n
 induction n with
 | zero=>intro l r hn;cases l<;>cases r<;>simp[T.size]at hn
 | succ n ih =>
  intro l r hn
  unfold T.concat
  split
  ·have:=l.lv_pos
   have:=r.lv_pos
   simp only[T.mass,T.str,T.lv,List.length_append];omega
  ·split
   ·rename_i c
    obtain⟨a,b,rfl⟩:=T.hpos (t:=l) (by omega)
    simp only[T.left,T.right,T.size]at *
    have:=ih b r (by omega)
    rw[T.rebalance_mass,T.mass_node];omega
   ·split
    ·rename_i c
     obtain⟨a,b,rfl⟩:=T.hpos (t:=r) (by omega)
     simp only[T.left,T.right,T.size]at *
     have:=ih l a (by omega)
     rw[T.rebalance_mass,T.mass_node];omega
    ·rw[T.mass_node];exact Nat.le_refl _
theorem eqNil (t:T):aBin Tryz.prog .eql 38 (enc t) .nilp=some (.bool false):=by rw[enc_eq];kernel_rfl
theorem neNil (t:T):aBin Tryz.prog .neq 38 (enc t) .nilp=some (.bool true):=by rw[enc_eq];kernel_rfl
theorem nilNil:aBin Tryz.prog .eql 38 .nilp .nilp=some (.bool true):=by kernel_rfl
theorem nilNe:aBin Tryz.prog .neq 38 .nilp .nilp=some (.bool false):=by kernel_rfl
theorem concat_tree:∀(m:Nat)(l r:T),l.size+r.size≤m→l.mass+r.mass<1000000000→AC C 46 [enc l,enc r] (enc (l.concat r)):=by
 intro m
 induction m with
 | zero=>intro l r hn;cases l<;>cases r<;>simp[T.size]at hn
 | succ m ih =>
  intro l r hn h
  refine .intro (by kernel_rfl) (by simp[noRefL]) (by simp) ?_
  have hl:=l.h_mass
  have hr:=r.h_mass
  have e1:=wadd1 (a:=l.h) (by omega)
  have e2:=wadd1 (a:=r.h) (by omega)
  have e3:=wadd (a:=l.str.length) (b:=r.str.length) (by unfold T.mass at h;omega)
  have e4:(((l.str.length+r.str.length:Nat):Int)≤32)↔l.str.length+r.str.length≤32:=by omega
  by_cases c:l.h=0∧r.h=0∧l.str.length+r.str.length≤32
  ·obtain⟨c1,c2,c3⟩:=c
   have e5:T.concat l r=T.leaf (l.str++r.str):=by unfold T.concat;rw[if_pos ⟨c1,c2,c3⟩]
   have t1:tx l=l.str:=by obtain⟨s,rfl⟩:=T.h0 c1;rfl
   have t2:tx r=r.str:=by obtain⟨s,rfl⟩:=T.h0 c2;rfl
   have e6:aBin Tryz.prog .add 9 (.str l.str) (.str r.str)=some (.str (l.str++r.str)):=str_add _ _ (by omega)
   have z1:((l.h:Int)==0)=true:=by simp;omega
   have z2:((r.h:Int)==0)=true:=by simp;omega
   obtain⟨N1,q1⟩:=AC.at (newLeaf_ok (l.str++r.str))
   rw[e5]
   refine⟨N1,fun n hn=>⟨[],?_⟩⟩
   have q1:=q1 n (by omega)
   rw[F46_eq]
   unfold F46
   simp -implicitDefEqProofs only[oh_some,mp_some,sto_some,br_true,br_false,gd_true,gd_false,wA_tt,wA_tup,wA_ft,wA_tf,wA_ff,enc_strip,lp_strip,rp_strip,encR_strip,enc_check,enc_addr,aNilCheck_box,aNilCheck_ref,aAddr_box,aAddr_ref,aLoad_one,List.getElem?_cons_succ,List.getElem?_cons_zero,Option.map_some,bin_add,bin_sub,bin_lss,bin_leq,bin_gtr,bin_geq,bin_eql,bin_neq,str_eql,aMax_int,aMin_int,aUn_not,aPick_true,aPick_false,strip_int,strip_bool,strip_str,strip_nilp,strip_nils,strip_box,strip_ref,strip_agg,strip_tup,strip_undef,aBox_f,solid_agg,cells_agg,kLoad_box,kGd_true,kGd_false,kCall_ok,gt_iff_lt,ge_iff_le,Int.ofNat_lt,Int.ofNat_le,decide_true,decide_false,Nat.zero_add,Bool.not_true,Bool.not_false,aExtract_tup,fin1_some,resL_nil,resL_some,enc_noRef,encR_noRef,noRefL_cons,noRefL_nil,noRef_int,noRef_str,noRef_bool,Bool.and_self,ite_true,dyn_silent,dyn_get,dyn_app,dyn_writer,kLoad_ref,eqNil,e3,e4,e6,t1,t2,z1,z2,c3,q1,d46_5,d46_6]
  ·by_cases c1:r.h+1<l.h
   ·obtain⟨a,b,rfl⟩:=T.hpos (t:=l) (by omega)
    simp only[T.size,T.mass_node]at hn h
    obtain⟨N1,q1⟩:=AC.at (ih b r (by omega) (by omega))
    have:=T.concat_mass _ b r (Nat.le_refl _)
    obtain⟨N2,q2⟩:=AC.at (rebalance_run a (b.concat r) (by omega))
    have e5:T.concat (.node a b) r=a.rebalance (b.concat r):=by rw[T.concat,if_neg c,dif_pos c1];rfl
    have z1:(((T.node a b).h:Int)==0)=false:=by simp;omega
    rw[e5]
    refine⟨max N1 N2,fun n hn=>⟨[],?_⟩⟩
    have q1:=q1 n (by omega)
    have q2:=q2 n (by omega)
    rw[F46_eq]
    unfold F46
    simp -implicitDefEqProofs only[oh_some,mp_some,sto_some,br_true,br_false,gd_true,gd_false,wA_tt,wA_tup,wA_ft,wA_tf,wA_ff,enc_strip,lp_strip,rp_strip,encR_strip,enc_check,enc_addr,aNilCheck_box,aNilCheck_ref,aAddr_box,aAddr_ref,aLoad_one,List.getElem?_cons_succ,List.getElem?_cons_zero,Option.map_some,bin_add,bin_sub,bin_lss,bin_leq,bin_gtr,bin_geq,bin_eql,bin_neq,str_eql,aMax_int,aMin_int,aUn_not,aPick_true,aPick_false,strip_int,strip_bool,strip_str,strip_nilp,strip_nils,strip_box,strip_ref,strip_agg,strip_tup,strip_undef,aBox_f,solid_agg,cells_agg,kLoad_box,kGd_true,kGd_false,kCall_ok,gt_iff_lt,ge_iff_le,Int.ofNat_lt,Int.ofNat_le,decide_true,decide_false,Nat.zero_add,Bool.not_true,Bool.not_false,aExtract_tup,fin1_some,resL_nil,resL_some,enc_noRef,encR_noRef,noRefL_cons,noRefL_nil,noRef_int,noRef_str,noRef_bool,Bool.and_self,ite_true,dyn_silent,dyn_get,dyn_app,dyn_writer,kLoad_ref,lp,rp,eqNil,e1,e2,e3,e4,z1,c1,q1,q2,d46_5,d46_7,d46_8]
   ·by_cases c2:l.h+1<r.h
    ·obtain⟨a,b,rfl⟩:=T.hpos (t:=r) (by omega)
     simp only[T.size,T.mass_node]at hn h
     obtain⟨N1,q1⟩:=AC.at (ih l a (by omega) (by omega))
     have:=T.concat_mass _ l a (Nat.le_refl _)
     obtain⟨N2,q2⟩:=AC.at (rebalance_run (l.concat a) b (by omega))
     have e5:T.concat l (.node a b)=(l.concat a).rebalance b:=by rw[T.concat,if_neg c,dif_neg c1,dif_pos c2];rfl
     have z2:(((T.node a b).h:Int)==0)=false:=by simp;omega
     rw[e5]
     refine⟨max N1 N2,fun n hn=>⟨[],?_⟩⟩
     have q1:=q1 n (by omega)
     have q2:=q2 n (by omega)
     rw[F46_eq]
     unfold F46
     by_cases z:l.h=0
     ·have z1:((l.h:Int)==0)=true:=by simp;omega
      simp -implicitDefEqProofs only[oh_some,mp_some,sto_some,br_true,br_false,gd_true,gd_false,wA_tt,wA_tup,wA_ft,wA_tf,wA_ff,enc_strip,lp_strip,rp_strip,encR_strip,enc_check,enc_addr,aNilCheck_box,aNilCheck_ref,aAddr_box,aAddr_ref,aLoad_one,List.getElem?_cons_succ,List.getElem?_cons_zero,Option.map_some,bin_add,bin_sub,bin_lss,bin_leq,bin_gtr,bin_geq,bin_eql,bin_neq,str_eql,aMax_int,aMin_int,aUn_not,aPick_true,aPick_false,strip_int,strip_bool,strip_str,strip_nilp,strip_nils,strip_box,strip_ref,strip_agg,strip_tup,strip_undef,aBox_f,solid_agg,cells_agg,kLoad_box,kGd_true,kGd_false,kCall_ok,gt_iff_lt,ge_iff_le,Int.ofNat_lt,Int.ofNat_le,decide_true,decide_false,Nat.zero_add,Bool.not_true,Bool.not_false,aExtract_tup,fin1_some,resL_nil,resL_some,enc_noRef,encR_noRef,noRefL_cons,noRefL_nil,noRef_int,noRef_str,noRef_bool,Bool.and_self,ite_true,dyn_silent,dyn_get,dyn_app,dyn_writer,kLoad_ref,lp,rp,eqNil,e1,e2,e3,e4,z1,z2,c1,c2,q1,q2,d46_5,d46_7,d46_9,d46_10]
     ·have z1:((l.h:Int)==0)=false:=by simp;omega
      simp -implicitDefEqProofs only[oh_some,mp_some,sto_some,br_true,br_false,gd_true,gd_false,wA_tt,wA_tup,wA_ft,wA_tf,wA_ff,enc_strip,lp_strip,rp_strip,encR_strip,enc_check,enc_addr,aNilCheck_box,aNilCheck_ref,aAddr_box,aAddr_ref,aLoad_one,List.getElem?_cons_succ,List.getElem?_cons_zero,Option.map_some,bin_add,bin_sub,bin_lss,bin_leq,bin_gtr,bin_geq,bin_eql,bin_neq,str_eql,aMax_int,aMin_int,aUn_not,aPick_true,aPick_false,strip_int,strip_bool,strip_str,strip_nilp,strip_nils,strip_box,strip_ref,strip_agg,strip_tup,strip_undef,aBox_f,solid_agg,cells_agg,kLoad_box,kGd_true,kGd_false,kCall_ok,gt_iff_lt,ge_iff_le,Int.ofNat_lt,Int.ofNat_le,decide_true,decide_false,Nat.zero_add,Bool.not_true,Bool.not_false,aExtract_tup,fin1_some,resL_nil,resL_some,enc_noRef,encR_noRef,noRefL_cons,noRefL_nil,noRef_int,noRef_str,noRef_bool,Bool.and_self,ite_true,dyn_silent,dyn_get,dyn_app,dyn_writer,kLoad_ref,lp,rp,eqNil,e1,e2,e3,e4,z1,z2,c1,c2,q1,q2,d46_5,d46_7,d46_9,d46_10]
    ·have e5:T.concat l r=.node l r:=by rw[T.concat,if_neg c,dif_neg c1,dif_neg c2]
     obtain⟨N1,q1⟩:=AC.at (newNode_ok l r h)
     rw[e5]
     refine⟨N1,fun n hn=>⟨[],?_⟩⟩
     have q1:=q1 n (by omega)
     rw[F46_eq]
     unfold F46
     by_cases z:l.h=0
     ·have z1:((l.h:Int)==0)=true:=by simp;omega
      by_cases y:r.h=0
      ·have z2:((r.h:Int)==0)=true:=by simp;omega
       have c3:¬l.str.length+r.str.length≤32:=fun e=>c ⟨z,y,e⟩
       simp -implicitDefEqProofs only[oh_some,mp_some,sto_some,br_true,br_false,gd_true,gd_false,wA_tt,wA_tup,wA_ft,wA_tf,wA_ff,enc_strip,lp_strip,rp_strip,encR_strip,enc_check,enc_addr,aNilCheck_box,aNilCheck_ref,aAddr_box,aAddr_ref,aLoad_one,List.getElem?_cons_succ,List.getElem?_cons_zero,Option.map_some,bin_add,bin_sub,bin_lss,bin_leq,bin_gtr,bin_geq,bin_eql,bin_neq,str_eql,aMax_int,aMin_int,aUn_not,aPick_true,aPick_false,strip_int,strip_bool,strip_str,strip_nilp,strip_nils,strip_box,strip_ref,strip_agg,strip_tup,strip_undef,aBox_f,solid_agg,cells_agg,kLoad_box,kGd_true,kGd_false,kCall_ok,gt_iff_lt,ge_iff_le,Int.ofNat_lt,Int.ofNat_le,decide_true,decide_false,Nat.zero_add,Bool.not_true,Bool.not_false,aExtract_tup,fin1_some,resL_nil,resL_some,enc_noRef,encR_noRef,noRefL_cons,noRefL_nil,noRef_int,noRef_str,noRef_bool,Bool.and_self,ite_true,dyn_silent,dyn_get,dyn_app,dyn_writer,kLoad_ref,eqNil,e1,e2,e3,e4,z1,z2,c1,c2,c3,q1,d46_5,d46_7,d46_9,d46_10]
      ·have z2:((r.h:Int)==0)=false:=by simp;omega
       simp -implicitDefEqProofs only[oh_some,mp_some,sto_some,br_true,br_false,gd_true,gd_false,wA_tt,wA_tup,wA_ft,wA_tf,wA_ff,enc_strip,lp_strip,rp_strip,encR_strip,enc_check,enc_addr,aNilCheck_box,aNilCheck_ref,aAddr_box,aAddr_ref,aLoad_one,List.getElem?_cons_succ,List.getElem?_cons_zero,Option.map_some,bin_add,bin_sub,bin_lss,bin_leq,bin_gtr,bin_geq,bin_eql,bin_neq,str_eql,aMax_int,aMin_int,aUn_not,aPick_true,aPick_false,strip_int,strip_bool,strip_str,strip_nilp,strip_nils,strip_box,strip_ref,strip_agg,strip_tup,strip_undef,aBox_f,solid_agg,cells_agg,kLoad_box,kGd_true,kGd_false,kCall_ok,gt_iff_lt,ge_iff_le,Int.ofNat_lt,Int.ofNat_le,decide_true,decide_false,Nat.zero_add,Bool.not_true,Bool.not_false,aExtract_tup,fin1_some,resL_nil,resL_some,enc_noRef,encR_noRef,noRefL_cons,noRefL_nil,noRef_int,noRef_str,noRef_bool,Bool.and_self,ite_true,dyn_silent,dyn_get,dyn_app,dyn_writer,kLoad_ref,eqNil,e1,e2,e3,e4,z1,z2,c1,c2,q1,d46_5,d46_7,d46_9,d46_10]
     ·have z1:((l.h:Int)==0)=false:=by simp;omega
      simp -implicitDefEqProofs only[oh_some,mp_some,sto_some,br_true,br_false,gd_true,gd_false,wA_tt,wA_tup,wA_ft,wA_tf,wA_ff,enc_strip,lp_strip,rp_strip,encR_strip,enc_check,enc_addr,aNilCheck_box,aNilCheck_ref,aAddr_box,aAddr_ref,aLoad_one,List.getElem?_cons_succ,List.getElem?_cons_zero,Option.map_some,bin_add,bin_sub,bin_lss,bin_leq,bin_gtr,bin_geq,bin_eql,bin_neq,str_eql,aMax_int,aMin_int,aUn_not,aPick_true,aPick_false,strip_int,strip_bool,strip_str,strip_nilp,strip_nils,strip_box,strip_ref,strip_agg,strip_tup,strip_undef,aBox_f,solid_agg,cells_agg,kLoad_box,kGd_true,kGd_false,kCall_ok,gt_iff_lt,ge_iff_le,Int.ofNat_lt,Int.ofNat_le,decide_true,decide_false,Nat.zero_add,Bool.not_true,Bool.not_false,aExtract_tup,fin1_some,resL_nil,resL_some,enc_noRef,encR_noRef,noRefL_cons,noRefL_nil,noRef_int,noRef_str,noRef_bool,Bool.and_self,ite_true,dyn_silent,dyn_get,dyn_app,dyn_writer,kLoad_ref,eqNil,e1,e2,e3,e4,z1,c1,c2,q1,d46_5,d46_7,d46_9,d46_10]
def R.mass:R→Nat
 | none=>0
 | some t=>t.mass
theorem concat_run (l r:R)(h:l.mass+r.mass<1000000000):AC C 46 [encR l,encR r] (encR (l.concat r)):=by
 cases l with
 | none =>
  refine .intro (by kernel_rfl) (by simp[noRefL_cons,noRefL_nil]) (by simp) ⟨0,fun n hn=>⟨[],?_⟩⟩
  rw[F46_eq]
  unfold F46
  simp -implicitDefEqProofs only[oh_some,mp_some,sto_some,br_true,br_false,gd_true,gd_false,wA_tt,wA_tup,wA_ft,wA_tf,wA_ff,enc_strip,lp_strip,rp_strip,encR_strip,enc_check,enc_addr,aNilCheck_box,aNilCheck_ref,aAddr_box,aAddr_ref,aLoad_one,List.getElem?_cons_succ,List.getElem?_cons_zero,Option.map_some,bin_add,bin_sub,bin_lss,bin_leq,bin_gtr,bin_geq,bin_eql,bin_neq,str_eql,aMax_int,aMin_int,aUn_not,aPick_true,aPick_false,strip_int,strip_bool,strip_str,strip_nilp,strip_nils,strip_box,strip_ref,strip_agg,strip_tup,strip_undef,aBox_f,solid_agg,cells_agg,kLoad_box,kGd_true,kGd_false,kCall_ok,gt_iff_lt,ge_iff_le,Int.ofNat_lt,Int.ofNat_le,decide_true,decide_false,Nat.zero_add,Bool.not_true,Bool.not_false,aExtract_tup,fin1_some,resL_nil,resL_some,enc_noRef,encR_noRef,noRefL_cons,noRefL_nil,noRef_int,noRef_str,noRef_bool,Bool.and_self,ite_true,dyn_silent,dyn_get,dyn_app,dyn_writer,kLoad_ref,encR,R.concat,nilNil]
  cases r<;>simp
 | some l=>cases r with
  | none =>
   refine .intro (by kernel_rfl) (by simp[noRefL_cons,noRefL_nil]) (by simp) ⟨0,fun n hn=>⟨[],?_⟩⟩
   rw[F46_eq]
   unfold F46
   simp -implicitDefEqProofs only[oh_some,mp_some,sto_some,br_true,br_false,gd_true,gd_false,wA_tt,wA_tup,wA_ft,wA_tf,wA_ff,enc_strip,lp_strip,rp_strip,encR_strip,enc_check,enc_addr,aNilCheck_box,aNilCheck_ref,aAddr_box,aAddr_ref,aLoad_one,List.getElem?_cons_succ,List.getElem?_cons_zero,Option.map_some,bin_add,bin_sub,bin_lss,bin_leq,bin_gtr,bin_geq,bin_eql,bin_neq,str_eql,aMax_int,aMin_int,aUn_not,aPick_true,aPick_false,strip_int,strip_bool,strip_str,strip_nilp,strip_nils,strip_box,strip_ref,strip_agg,strip_tup,strip_undef,aBox_f,solid_agg,cells_agg,kLoad_box,kGd_true,kGd_false,kCall_ok,gt_iff_lt,ge_iff_le,Int.ofNat_lt,Int.ofNat_le,decide_true,decide_false,Nat.zero_add,Bool.not_true,Bool.not_false,aExtract_tup,fin1_some,resL_nil,resL_some,enc_noRef,encR_noRef,noRefL_cons,noRefL_nil,noRef_int,noRef_str,noRef_bool,Bool.and_self,ite_true,dyn_silent,dyn_get,dyn_app,dyn_writer,kLoad_ref,encR,R.concat,nilNil,eqNil]
  | some r=>exact concat_tree _ l r (Nat.le_refl _) h
end RopeF
end

section
namespace RopeF
open Go Go.Abs Go.Proofs Srv
theorem R.mass_some (t:T):R.mass (some t)=t.mass:=rfl
theorem R.concat_mass (l r:R):(l.concat r).mass≤l.mass+r.mass:=by
 cases l with
 | none=>simp[R.concat,R.mass]
 | some l=>cases r with
  | none=>simp[R.concat,R.mass]
  | some r=>exact T.concat_mass _ l r (Nat.le_refl _)
def T.split:T→Nat→R×R
 | .leaf s,i=>if i=0 then(none,some (.leaf s)) else if s.length≤i then(some (.leaf s),none) else(some (.leaf (s.take i)),some (.leaf (s.drop i)))
 | .node l r,i=>if i=0 then(none,some (.node l r)) else if(T.node l r).str.length≤i then(some (.node l r),none)
  else if i<l.str.length then((l.split i).1,R.concat (l.split i).2 (some r))
  else(R.concat (some l) (r.split (i-l.str.length)).1,(r.split (i-l.str.length)).2)
def R.split:R→Nat→R×R
 | none,_=>(none,none)
 | some t,i=>t.split i
theorem T.split_mass (t:T)(i:Nat):(t.split i).1.mass≤t.mass∧(t.split i).2.mass≤t.mass:=by
 induction t generalizing i with
 | leaf s =>
  unfold T.split
  split
  ·simp[R.mass]
  ·split
   ·simp[R.mass]
   ·simp[R.mass,T.mass,T.str,T.lv];omega
 | node l r ihl ihr =>
  unfold T.split
  split
  ·simp[R.mass]
  ·split
   ·simp[R.mass]
   ·split
    ·have:=ihl i
     have:=R.concat_mass (l.split i).2 (some r)
     simp only[T.mass_node,R.mass]at *;omega
    ·have:=ihr (i-l.str.length)
     have:=R.concat_mass (some l) (r.split (i-l.str.length)).1
     simp only[T.mass_node,R.mass]at *;omega
theorem T.split_ok (t:T)(i:Nat)(w:t.WF):(t.split i).1.WF∧(t.split i).2.WF∧(t.split i).1.str=t.str.take i∧(t.split i).2.str=t.str.drop i:=by
 induction t generalizing i with
 | leaf s =>
  unfold T.split
  split
  ·rename_i h;subst h;exact⟨trivial,w,by simp[R.str],by simp[R.str]⟩
  ·split
   ·rename_i h;exact⟨w,trivial,by simp only[R.str,T.str];rw[List.take_of_length_le h],by simp only[R.str,T.str];rw[List.drop_of_length_le h]⟩
   ·simp only[R.WF,R.str,T.str,T.WF]at *
    refine⟨⟨?_,?_⟩,⟨?_,?_⟩,trivial,trivial⟩
    ·intro e;have:=congrArg List.length e;have:=List.length_pos_iff.2 w.1;simp only[List.length_take,List.length_nil]at *;omega
    ·simp only[List.length_take];omega
    ·intro e;have:=congrArg List.length e;simp only[List.length_drop,List.length_nil]at *;omega
    ·simp only[List.length_drop];omega
 | node l r ihl ihr =>
  unfold T.split
  split
  ·rename_i h;subst h;exact⟨trivial,w,by simp[R.str],by simp[R.str]⟩
  ·split
   ·rename_i h;exact⟨w,trivial,by simp only[R.str];rw[List.take_of_length_le h],by simp only[R.str];rw[List.drop_of_length_le h]⟩
   ·split
    ·rename_i h
     obtain⟨a,b,c,d⟩:=ihl i w.1
     obtain⟨e,f⟩:=R.concat_ok b (show R.WF (some r) from w.2.1)
     refine⟨a,e,?_,?_⟩
     ·rw[c];simp only[T.str];rw[List.take_append_of_le_length (by omega)]
     ·rw[f,d];simp only[T.str,R.str];rw[List.drop_append_of_le_length (by omega)]
    ·rename_i h
     obtain⟨a,b,c,d⟩:=ihr (i-l.str.length) w.2.1
     obtain⟨e,f⟩:=R.concat_ok (show R.WF (some l) from w.1) a
     refine⟨e,b,?_,?_⟩
     ·rw[f,c];simp only[T.str,R.str];rw[List.take_append,List.take_of_length_le (l:=l.str) (by omega)]
     ·rw[d];simp only[T.str];rw[List.drop_append,List.drop_of_length_le (l:=l.str) (by omega),List.nil_append]
theorem subTake {s:List UInt8}{i:Int}(h0:0≤i)(h1:i≤s.length):aSl Tryz.prog 9 (.str s) none (some (I i)) none=some (.str (s.take i.toNat)):=by
 have h:Tryz.prog.underlying 9=some .string:=by kernel_rfl
 simp[aSl,h,aSubstr,aBound,h0,h1]
theorem subDrop {s:List UInt8}{i:Int}(h0:0≤i)(h1:i≤s.length):aSl Tryz.prog 9 (.str s) (some (I i)) none none=some (.str (s.drop i.toNat)):=by
 have h:Tryz.prog.underlying 9=some .string:=by kernel_rfl
 simp[aSl,h,aSubstr,aBound,h0,h1]
theorem split_tree (t:T)(i:Nat)(h:t.mass<1000000000)(hi:i<2000000000):AC C 48 [enc t,I i] (.tup [encR (t.split i).1,encR (t.split i).2]):=by
 induction t generalizing i with
 | leaf s =>
  refine .intro (by kernel_rfl) (by simp[noRefL_cons,noRefL_nil,noRef_int]) (by simp[noRefL_cons,noRefL_nil,noRef_tup]) ?_
  have e0:((i:Int)≤0)↔i=0:=by omega
  by_cases c1:i=0
  ·refine⟨0,fun n hn=>⟨[],?_⟩⟩
   unfold T.split
   rw[F48_eq,if_pos c1]
   unfold F48
   simp -implicitDefEqProofs only[oh_some,mp_some,sto_some,br_true,br_false,gd_true,gd_false,wA_tt,wA_tup,wA_ft,wA_tf,wA_ff,enc_strip,lp_strip,rp_strip,encR_strip,enc_check,enc_addr,aNilCheck_box,aNilCheck_ref,aAddr_box,aAddr_ref,aLoad_one,List.getElem?_cons_succ,List.getElem?_cons_zero,Option.map_some,bin_add,bin_sub,bin_lss,bin_leq,bin_gtr,bin_geq,bin_eql,bin_neq,str_eql,aMax_int,aMin_int,aUn_not,aPick_true,aPick_false,strip_int,strip_bool,strip_str,strip_nilp,strip_nils,strip_box,strip_ref,strip_agg,strip_tup,strip_undef,aBox_f,solid_agg,cells_agg,kLoad_box,kGd_true,kGd_false,kCall_ok,gt_iff_lt,ge_iff_le,Int.ofNat_lt,Int.ofNat_le,decide_true,decide_false,Nat.zero_add,Bool.not_true,Bool.not_false,aExtract_tup,fin1_some,resL_nil,resL_some,enc_noRef,encR_noRef,noRefL_cons,noRefL_nil,noRef_int,noRef_str,noRef_bool,Bool.and_self,ite_true,dyn_silent,dyn_get,dyn_app,dyn_writer,kLoad_ref,eqNil,e0,c1,encR,Int.natCast_zero,Int.le_refl]
  ·by_cases c2:s.length≤i
   ·refine⟨0,fun n hn=>⟨[],?_⟩⟩
    unfold T.split
    rw[F48_eq,if_neg c1,if_pos c2]
    unfold F48
    simp -implicitDefEqProofs only[oh_some,mp_some,sto_some,br_true,br_false,gd_true,gd_false,wA_tt,wA_tup,wA_ft,wA_tf,wA_ff,enc_strip,lp_strip,rp_strip,encR_strip,enc_check,enc_addr,aNilCheck_box,aNilCheck_ref,aAddr_box,aAddr_ref,aLoad_one,List.getElem?_cons_succ,List.getElem?_cons_zero,Option.map_some,bin_add,bin_sub,bin_lss,bin_leq,bin_gtr,bin_geq,bin_eql,bin_neq,str_eql,aMax_int,aMin_int,aUn_not,aPick_true,aPick_false,strip_int,strip_bool,strip_str,strip_nilp,strip_nils,strip_box,strip_ref,strip_agg,strip_tup,strip_undef,aBox_f,solid_agg,cells_agg,kLoad_box,kGd_true,kGd_false,kCall_ok,gt_iff_lt,ge_iff_le,Int.ofNat_lt,Int.ofNat_le,decide_true,decide_false,Nat.zero_add,Bool.not_true,Bool.not_false,aExtract_tup,fin1_some,resL_nil,resL_some,enc_noRef,encR_noRef,noRefL_cons,noRefL_nil,noRef_int,noRef_str,noRef_bool,Bool.and_self,ite_true,dyn_silent,dyn_get,dyn_app,dyn_writer,kLoad_ref,eqNil,e0,c1,c2,encR,T.str]
   ·obtain⟨N1,q1⟩:=AC.at (newLeaf_ok (s.take i))
    obtain⟨N2,q2⟩:=AC.at (newLeaf_ok (s.drop i))
    have z1:(((T.leaf s).h:Int)==0)=true:=by simp[T.h]
    refine⟨max N1 N2,fun n hn=>⟨[],?_⟩⟩
    have q1:=q1 n (by omega)
    have q2:=q2 n (by omega)
    have u1:=subTake (s:=s) (i:=i) (by omega) (by omega)
    have u2:=subDrop (s:=s) (i:=i) (by omega) (by omega)
    unfold T.split
    rw[F48_eq,if_neg c1,if_neg c2]
    unfold F48
    simp -implicitDefEqProofs only[oh_some,mp_some,sto_some,br_true,br_false,gd_true,gd_false,wA_tt,wA_tup,wA_ft,wA_tf,wA_ff,enc_strip,lp_strip,rp_strip,encR_strip,enc_check,enc_addr,aNilCheck_box,aNilCheck_ref,aAddr_box,aAddr_ref,aLoad_one,List.getElem?_cons_succ,List.getElem?_cons_zero,Option.map_some,bin_add,bin_sub,bin_lss,bin_leq,bin_gtr,bin_geq,bin_eql,bin_neq,str_eql,aMax_int,aMin_int,aUn_not,aPick_true,aPick_false,strip_int,strip_bool,strip_str,strip_nilp,strip_nils,strip_box,strip_ref,strip_agg,strip_tup,strip_undef,aBox_f,solid_agg,cells_agg,kLoad_box,kGd_true,kGd_false,kCall_ok,gt_iff_lt,ge_iff_le,Int.ofNat_lt,Int.ofNat_le,decide_true,decide_false,Nat.zero_add,Bool.not_true,Bool.not_false,aExtract_tup,fin1_some,resL_nil,resL_some,enc_noRef,encR_noRef,noRefL_cons,noRefL_nil,noRef_int,noRef_str,noRef_bool,Bool.and_self,ite_true,dyn_silent,dyn_get,dyn_app,dyn_writer,kLoad_ref,eqNil,e0,c1,c2,encR,tx,z1,u1,u2,Int.toNat_natCast,q1,q2,d48_6,T.str]
 | node l r ihl ihr =>
  refine .intro (by kernel_rfl) (by simp[noRefL_cons,noRefL_nil,noRef_int]) (by simp[noRefL_cons,noRefL_nil,noRef_tup]) ?_
  have e0:((i:Int)≤0)↔i=0:=by omega
  rw[T.mass_node]at h
  by_cases c1:i=0
  ·refine⟨0,fun n hn=>⟨[],?_⟩⟩
   unfold T.split
   rw[F48_eq,if_pos c1]
   unfold F48
   simp -implicitDefEqProofs only[oh_some,mp_some,sto_some,br_true,br_false,gd_true,gd_false,wA_tt,wA_tup,wA_ft,wA_tf,wA_ff,enc_strip,lp_strip,rp_strip,encR_strip,enc_check,enc_addr,aNilCheck_box,aNilCheck_ref,aAddr_box,aAddr_ref,aLoad_one,List.getElem?_cons_succ,List.getElem?_cons_zero,Option.map_some,bin_add,bin_sub,bin_lss,bin_leq,bin_gtr,bin_geq,bin_eql,bin_neq,str_eql,aMax_int,aMin_int,aUn_not,aPick_true,aPick_false,strip_int,strip_bool,strip_str,strip_nilp,strip_nils,strip_box,strip_ref,strip_agg,strip_tup,strip_undef,aBox_f,solid_agg,cells_agg,kLoad_box,kGd_true,kGd_false,kCall_ok,gt_iff_lt,ge_iff_le,Int.ofNat_lt,Int.ofNat_le,decide_true,decide_false,Nat.zero_add,Bool.not_true,Bool.not_false,aExtract_tup,fin1_some,resL_nil,resL_some,enc_noRef,encR_noRef,noRefL_cons,noRefL_nil,noRef_int,noRef_str,noRef_bool,Bool.and_self,ite_true,dyn_silent,dyn_get,dyn_app,dyn_writer,kLoad_ref,eqNil,e0,c1,encR,Int.natCast_zero,Int.le_refl]
  ·by_cases c2:(T.node l r).str.length≤i
   ·refine⟨0,fun n hn=>⟨[],?_⟩⟩
    unfold T.split
    rw[F48_eq,if_neg c1,if_pos c2]
    unfold F48
    simp -implicitDefEqProofs only[oh_some,mp_some,sto_some,br_true,br_false,gd_true,gd_false,wA_tt,wA_tup,wA_ft,wA_tf,wA_ff,enc_strip,lp_strip,rp_strip,encR_strip,enc_check,enc_addr,aNilCheck_box,aNilCheck_ref,aAddr_box,aAddr_ref,aLoad_one,List.getElem?_cons_succ,List.getElem?_cons_zero,Option.map_some,bin_add,bin_sub,bin_lss,bin_leq,bin_gtr,bin_geq,bin_eql,bin_neq,str_eql,aMax_int,aMin_int,aUn_not,aPick_true,aPick_false,strip_int,strip_bool,strip_str,strip_nilp,strip_nils,strip_box,strip_ref,strip_agg,strip_tup,strip_undef,aBox_f,solid_agg,cells_agg,kLoad_box,kGd_true,kGd_false,kCall_ok,gt_iff_lt,ge_iff_le,Int.ofNat_lt,Int.ofNat_le,decide_true,decide_false,Nat.zero_add,Bool.not_true,Bool.not_false,aExtract_tup,fin1_some,resL_nil,resL_some,enc_noRef,encR_noRef,noRefL_cons,noRefL_nil,noRef_int,noRef_str,noRef_bool,Bool.and_self,ite_true,dyn_silent,dyn_get,dyn_app,dyn_writer,kLoad_ref,eqNil,e0,c1,c2,encR]
   ·have z1:(((T.node l r).h:Int)==0)=false:=by simp[T.h];omega
    by_cases c3:i<l.str.length
    ·have:=T.split_mass l i
     obtain⟨N1,q1⟩:=AC.at (ihl i (by omega) hi)
     obtain⟨N2,q2⟩:=AC.at (concat_run (l.split i).2 (some r) (by rw[R.mass_some];omega))
     refine⟨max N1 N2,fun n hn=>⟨[],?_⟩⟩
     have q1:=q1 n (by omega)
     have q2:=q2 n (by omega)
     unfold T.split
     rw[F48_eq,if_neg c1,if_neg c2,if_pos c3]
     unfold F48
     have q2':∀s,aCall Tryz.prog (den C n) 46 [encR (l.split i).2,enc r] s=_:=q2
     simp -implicitDefEqProofs only[oh_some,mp_some,sto_some,br_true,br_false,gd_true,gd_false,wA_tt,wA_tup,wA_ft,wA_tf,wA_ff,enc_strip,lp_strip,rp_strip,encR_strip,enc_check,enc_addr,aNilCheck_box,aNilCheck_ref,aAddr_box,aAddr_ref,aLoad_one,List.getElem?_cons_succ,List.getElem?_cons_zero,Option.map_some,bin_add,bin_sub,bin_lss,bin_leq,bin_gtr,bin_geq,bin_eql,bin_neq,str_eql,aMax_int,aMin_int,aUn_not,aPick_true,aPick_false,strip_int,strip_bool,strip_str,strip_nilp,strip_nils,strip_box,strip_ref,strip_agg,strip_tup,strip_undef,aBox_f,solid_agg,cells_agg,kLoad_box,kGd_true,kGd_false,kCall_ok,gt_iff_lt,ge_iff_le,Int.ofNat_lt,Int.ofNat_le,decide_true,decide_false,Nat.zero_add,Bool.not_true,Bool.not_false,aExtract_tup,fin1_some,resL_nil,resL_some,enc_noRef,encR_noRef,noRefL_cons,noRefL_nil,noRef_int,noRef_str,noRef_bool,Bool.and_self,ite_true,dyn_silent,dyn_get,dyn_app,dyn_writer,kLoad_ref,lp,rp,eqNil,e0,c1,c2,c3,z1,q1,q2']
    ·have:=T.split_mass r (i-l.str.length)
     obtain⟨N1,q1⟩:=AC.at (ihr (i-l.str.length) (by omega) (by omega))
     obtain⟨N2,q2⟩:=AC.at (concat_run (some l) (r.split (i-l.str.length)).1 (by rw[R.mass_some];omega))
     refine⟨max N1 N2,fun n hn=>⟨[],?_⟩⟩
     have q1:=q1 n (by omega)
     have q2:=q2 n (by omega)
     unfold T.split
     rw[F48_eq,if_neg c1,if_neg c2,if_neg c3]
     unfold F48
     have q2':∀s,aCall Tryz.prog (den C n) 46 [enc l,encR (r.split (i-l.str.length)).1] s=_:=q2
     have e1:IntKind.i64.wrap ((i:Int)-(l.str.length:Int))=((i-l.str.length:Nat):Int):=by rw[wrap64]<;>omega
     simp -implicitDefEqProofs only[oh_some,mp_some,sto_some,br_true,br_false,gd_true,gd_false,wA_tt,wA_tup,wA_ft,wA_tf,wA_ff,enc_strip,lp_strip,rp_strip,encR_strip,enc_check,enc_addr,aNilCheck_box,aNilCheck_ref,aAddr_box,aAddr_ref,aLoad_one,List.getElem?_cons_succ,List.getElem?_cons_zero,Option.map_some,bin_add,bin_sub,bin_lss,bin_leq,bin_gtr,bin_geq,bin_eql,bin_neq,str_eql,aMax_int,aMin_int,aUn_not,aPick_true,aPick_false,strip_int,strip_bool,strip_str,strip_nilp,strip_nils,strip_box,strip_ref,strip_agg,strip_tup,strip_undef,aBox_f,solid_agg,cells_agg,kLoad_box,kGd_true,kGd_false,kCall_ok,gt_iff_lt,ge_iff_le,Int.ofNat_lt,Int.ofNat_le,decide_true,decide_false,Nat.zero_add,Bool.not_true,Bool.not_false,aExtract_tup,fin1_some,resL_nil,resL_some,enc_noRef,encR_noRef,noRefL_cons,noRefL_nil,noRef_int,noRef_str,noRef_bool,Bool.and_self,ite_true,dyn_silent,dyn_get,dyn_app,dyn_writer,kLoad_ref,lp,rp,eqNil,e0,e1,c1,c2,c3,z1,q1,q2',d48_10]
theorem split_run (r:R)(i:Nat)(h:r.mass<1000000000)(hi:i<2000000000):AC C 48 [encR r,I i] (.tup [encR (r.split i).1,encR (r.split i).2]):=by
 cases r with
 | none =>
  refine .intro (by kernel_rfl) (by simp[noRefL_cons,noRefL_nil,noRef_int]) (by simp[noRefL_cons,noRefL_nil,noRef_tup]) ⟨0,fun n hn=>⟨[],?_⟩⟩
  rw[F48_eq]
  unfold F48
  simp -implicitDefEqProofs only[oh_some,mp_some,sto_some,br_true,br_false,gd_true,gd_false,wA_tt,wA_tup,wA_ft,wA_tf,wA_ff,enc_strip,lp_strip,rp_strip,encR_strip,enc_check,enc_addr,aNilCheck_box,aNilCheck_ref,aAddr_box,aAddr_ref,aLoad_one,List.getElem?_cons_succ,List.getElem?_cons_zero,Option.map_some,bin_add,bin_sub,bin_lss,bin_leq,bin_gtr,bin_geq,bin_eql,bin_neq,str_eql,aMax_int,aMin_int,aUn_not,aPick_true,aPick_false,strip_int,strip_bool,strip_str,strip_nilp,strip_nils,strip_box,strip_ref,strip_agg,strip_tup,strip_undef,aBox_f,solid_agg,cells_agg,kLoad_box,kGd_true,kGd_false,kCall_ok,gt_iff_lt,ge_iff_le,Int.ofNat_lt,Int.ofNat_le,decide_true,decide_false,Nat.zero_add,Bool.not_true,Bool.not_false,aExtract_tup,fin1_some,resL_nil,resL_some,enc_noRef,encR_noRef,noRefL_cons,noRefL_nil,noRef_int,noRef_str,noRef_bool,Bool.and_self,ite_true,dyn_silent,dyn_get,dyn_app,dyn_writer,kLoad_ref,encR,R.split,nilNil]
 | some t=>exact split_tree t i h hi
theorem R.split_mass (r:R)(i:Nat):(r.split i).1.mass≤r.mass∧(r.split i).2.mass≤r.mass:=by
 cases r with
 | none=>simp[R.split,R.mass]
 | some t=>exact T.split_mass t i
theorem R.split_ok (r:R)(i:Nat)(w:r.WF):(r.split i).1.WF∧(r.split i).2.WF∧(r.split i).1.str=r.str.take i∧(r.split i).2.str=r.str.drop i:=by
 cases r with
 | none=>exact⟨trivial,trivial,by simp[R.split,R.str],by simp[R.split,R.str]⟩
 | some t=>exact T.split_ok t i w
end RopeF
end

section
namespace RopeF
open Go Go.Abs Go.Proofs Srv
theorem encR_none:encR none=.nilp:=rfl
theorem encR_some (t:T):encR (some t)=enc t:=rfl
abbrev rop (r:R):AV:=.agg [encR r]
def R.h:R→Nat
 | none=>0
 | some t=>t.h
def R.lv:R→Nat
 | none=>0
 | some t=>t.lv
theorem R.len_mass (r:R):r.str.length≤r.mass:=by cases r<;>simp[R.str,R.mass,T.mass]
theorem alloc27 (s:Heap):aAlloc Tryz.prog 40 s=some (.ref s.length 0,s++[(40,[.nilp])]):=by kernel_rfl
theorem build27 (r:R):aBuild Tryz.prog 40 [(0,encR r)]=some (rop r):=by
 cases r with
 | none=>kernel_rfl
 | some t=>simp only[encR,rop];rw[enc_eq];kernel_rfl
theorem build27z:aBuild Tryz.prog 40 []=some (rop none):=by kernel_rfl
theorem load1 (a:AV):aLoad false true 1 (.ref 0 0) [(40,[a])]=some (.agg [a],[(40,[a])]):=by kernel_rfl
theorem load2a (a b:AV):aLoad false true 1 (.ref 0 0) [(40,[a]),(40,[b])]=some (.agg [a],[(40,[a]),(40,[b])]):=by kernel_rfl
theorem load2b (a b:AV):aLoad false true 1 (.ref 1 0) [(40,[a]),(40,[b])]=some (.agg [b],[(40,[a]),(40,[b])]):=by kernel_rfl
theorem store1 (a b:AV):aStore 1 [(40,[a])] (.ref 0 0) (.agg [b])=some [(40,[b.strip])]:=by kernel_rfl
theorem store2a (a b c:AV):aStore 1 [(40,[a]),(40,[b])] (.ref 0 0) (.agg [c])=some [(40,[c.strip]),(40,[b])]:=by kernel_rfl
theorem store2b (a b c:AV):aStore 1 [(40,[a]),(40,[b])] (.ref 1 0) (.agg [c])=some [(40,[a]),(40,[c.strip])]:=by kernel_rfl
theorem minNat (a b:Nat):(if(b:Int)<(a:Int) then(b:Int) else(a:Int))=((min a b:Nat):Int):=by split<;>omega
theorem len9 (s:List UInt8):aLen Tryz.prog 9 (.str s)=some (I s.length):=by
 have h:Tryz.prog.underlying 9=some .string:=by kernel_rfl
 simp[aLen,h]
def R.from (root:R)(s:List UInt8):R :=
 if h:s=[] then root else R.from (R.concat root (some (.leaf (s.take 32)))) (s.drop 32)
 termination_by s.length
 decreasing_by
 have:=List.length_pos_iff.2 (show s≠[] by assumption)
 simp;omega
theorem leaf_mass (s:List UInt8)(h:s≠[]):(T.leaf (s.take 32)).mass+2*(s.drop 32).length≤2*s.length:=by
 have:=List.length_pos_iff.2 h
 simp[T.mass,T.str,T.lv];omega
theorem R.from_ok (root:R)(s:List UInt8)(w:root.WF):(root.from s).WF∧(root.from s).str=root.str++s:=by
 unfold R.from
 split
 ·rename_i h;subst h;exact⟨w,by simp⟩
 ·rename_i h
  have hl:R.WF (some (.leaf (s.take 32))):=by
   refine⟨?_,by simp;omega⟩
   intro e;have:=congrArg List.length e;have:=List.length_pos_iff.2 h;simp only[List.length_take,List.length_nil]at *;omega
  obtain⟨a,b⟩:=R.concat_ok w hl
  obtain⟨c,d⟩:=R.from_ok _ (s.drop 32) a
  refine⟨c,?_⟩
  rw[d,b]
  simp only[R.str,T.str,List.append_assoc,List.take_append_drop]
 termination_by s.length
 decreasing_by
 have:=List.length_pos_iff.2 (show s≠[] by assumption)
 simp;omega
theorem R.from_mass (root:R)(s:List UInt8):(root.from s).mass≤root.mass+2*s.length:=by
 unfold R.from
 split
 ·omega
 ·rename_i h
  have h1:=R.from_mass (R.concat root (some (.leaf (s.take 32)))) (s.drop 32)
  have h2:=R.concat_mass root (some (.leaf (s.take 32)))
  have h3:=leaf_mass s h
  rw[R.mass_some]at h2
  omega
 termination_by s.length
 decreasing_by
 have:=List.length_pos_iff.2 (show s≠[] by assumption)
 simp;omega
theorem new_loop:∀(k:Nat)(root:R)(s:List UInt8),s.length≤k→root.mass+2*s.length<1000000000→∃N,∀n,N≤n→∀m,k<m→∀n' e,e 0=.str s→e 3=encR root→e 2=.ref 0 0 →
  aLoop (F14_L0 (den C n) n') m e [(40,[.nilp])]=some (rop (root.from s),[(40,[encR (root.from s)])]):=by
 intro k
 induction k with
 | zero =>
  intro root s hs hm
  refine⟨0,fun n _ m hk n' e h0 h3 h2=>?_⟩
  obtain⟨m,rfl⟩:∃j,m=j+1:=⟨m-1,by omega⟩
  have e0:s=[]:=List.length_eq_zero_iff.1 (by omega)
  subst e0
  rw[aLoop,R.from,dif_pos rfl,F14_L0]
  simp -implicitDefEqProofs only[oh_some,mp_some,sto_some,br_true,br_false,gd_true,gd_false,wA_tt,wA_tup,wA_ft,wA_tf,wA_ff,enc_strip,lp_strip,rp_strip,encR_strip,enc_check,enc_addr,aNilCheck_box,aNilCheck_ref,aAddr_box,aAddr_ref,aLoad_one,List.getElem?_cons_succ,List.getElem?_cons_zero,Option.map_some,bin_add,bin_sub,bin_lss,bin_leq,bin_gtr,bin_geq,bin_eql,bin_neq,str_eql,aMax_int,aMin_int,aUn_not,aPick_true,aPick_false,strip_int,strip_bool,strip_str,strip_nilp,strip_nils,strip_box,strip_ref,strip_agg,strip_tup,strip_undef,aBox_f,solid_agg,cells_agg,kLoad_box,kGd_true,kGd_false,kCall_ok,gt_iff_lt,ge_iff_le,Int.ofNat_lt,Int.ofNat_le,decide_true,decide_false,Nat.zero_add,Bool.not_true,Bool.not_false,aExtract_tup,fin1_some,resL_nil,resL_some,enc_noRef,encR_noRef,noRefL_cons,noRefL_nil,noRef_int,noRef_str,noRef_bool,Bool.and_self,ite_true,dyn_silent,dyn_get,dyn_app,dyn_writer,kLoad_ref,h0,h3,h2,len9,List.length_nil,Int.natCast_zero,Int.lt_irrefl,build27,store1,load1,rop]
 | succ k ih =>
  intro root s hs hm
  by_cases e0:s=[]
  ·subst e0
   refine⟨0,fun n _ m hk n' e h0 h3 h2=>?_⟩
   obtain⟨m,rfl⟩:∃j,m=j+1:=⟨m-1,by omega⟩
   rw[aLoop,R.from,dif_pos rfl,F14_L0]
   simp -implicitDefEqProofs only[oh_some,mp_some,sto_some,br_true,br_false,gd_true,gd_false,wA_tt,wA_tup,wA_ft,wA_tf,wA_ff,enc_strip,lp_strip,rp_strip,encR_strip,enc_check,enc_addr,aNilCheck_box,aNilCheck_ref,aAddr_box,aAddr_ref,aLoad_one,List.getElem?_cons_succ,List.getElem?_cons_zero,Option.map_some,bin_add,bin_sub,bin_lss,bin_leq,bin_gtr,bin_geq,bin_eql,bin_neq,str_eql,aMax_int,aMin_int,aUn_not,aPick_true,aPick_false,strip_int,strip_bool,strip_str,strip_nilp,strip_nils,strip_box,strip_ref,strip_agg,strip_tup,strip_undef,aBox_f,solid_agg,cells_agg,kLoad_box,kGd_true,kGd_false,kCall_ok,gt_iff_lt,ge_iff_le,Int.ofNat_lt,Int.ofNat_le,decide_true,decide_false,Nat.zero_add,Bool.not_true,Bool.not_false,aExtract_tup,fin1_some,resL_nil,resL_some,enc_noRef,encR_noRef,noRefL_cons,noRefL_nil,noRef_int,noRef_str,noRef_bool,Bool.and_self,ite_true,dyn_silent,dyn_get,dyn_app,dyn_writer,kLoad_ref,h0,h3,h2,len9,List.length_nil,Int.natCast_zero,Int.lt_irrefl,build27,store1,load1,rop]
  ·have hpos:=List.length_pos_iff.2 e0
   have hm3:=leaf_mass s e0
   have hm2:=R.concat_mass root (some (.leaf (s.take 32)))
   rw[R.mass_some]at hm2
   obtain⟨N1,q1⟩:=AC.at (newLeaf_ok (s.take 32))
   obtain⟨N2,q2⟩:=AC.at (concat_run root (some (.leaf (s.take 32))) (by rw[R.mass_some];omega))
   obtain⟨N3,q3⟩:=ih (R.concat root (some (.leaf (s.take 32)))) (s.drop 32) (by simp;omega) (by omega)
   refine⟨max N1 (max N2 N3),fun n hn m hk n' e h0 h3 h2=>?_⟩
   obtain⟨m,rfl⟩:∃j,m=j+1:=⟨m-1,by omega⟩
   have q1:=q1 n (by omega)
   have q2:=q2 n (by omega)
   have e1:(0:Int)<(s.length:Int):=by omega
   have e2:(if(32:Int)<(s.length:Int) then(32:Int) else(s.length:Int))=((min s.length 32:Nat):Int):=by split<;>omega
   have u:=subTake (s:=s) (i:=((min s.length 32:Nat):Int)) (by omega) (by omega)
   have u':=subDrop (s:=s) (i:=((min s.length 32:Nat):Int)) (by omega) (by omega)
   have v:s.take (min s.length 32)=s.take 32:=by
    rw[Nat.min_def];split
    ·rw[List.take_of_length_le (Nat.le_refl _),List.take_of_length_le (by assumption)]
    ·rfl
   have v':s.drop (min s.length 32)=s.drop 32:=by
    rw[Nat.min_def];split
    ·rw[List.drop_of_length_le (Nat.le_refl _),List.drop_of_length_le (by assumption)]
    ·rfl
   rw[aLoop,R.from,dif_neg e0,F14_L0]
   simp only[encR_some]at q2
   simp -implicitDefEqProofs only[oh_some,mp_some,sto_some,br_true,br_false,gd_true,gd_false,wA_tt,wA_tup,wA_ft,wA_tf,wA_ff,enc_strip,lp_strip,rp_strip,encR_strip,enc_check,enc_addr,aNilCheck_box,aNilCheck_ref,aAddr_box,aAddr_ref,aLoad_one,List.getElem?_cons_succ,List.getElem?_cons_zero,Option.map_some,bin_add,bin_sub,bin_lss,bin_leq,bin_gtr,bin_geq,bin_eql,bin_neq,str_eql,aMax_int,aMin_int,aUn_not,aPick_true,aPick_false,strip_int,strip_bool,strip_str,strip_nilp,strip_nils,strip_box,strip_ref,strip_agg,strip_tup,strip_undef,aBox_f,solid_agg,cells_agg,kLoad_box,kGd_true,kGd_false,kCall_ok,gt_iff_lt,ge_iff_le,Int.ofNat_lt,Int.ofNat_le,decide_true,decide_false,Nat.zero_add,Bool.not_true,Bool.not_false,aExtract_tup,fin1_some,resL_nil,resL_some,enc_noRef,encR_noRef,noRefL_cons,noRefL_nil,noRef_int,noRef_str,noRef_bool,Bool.and_self,ite_true,dyn_silent,dyn_get,dyn_app,dyn_writer,kLoad_ref,h0,h3,h2,len9,e1,e2,u,u',v,v',Int.toNat_natCast,q1,q2]
   refine q3 n (by omega) m (by omega) n' _ ?_ ?_ ?_
   ·simp[upds_at,upd_at]
   ·simp[upds_at,upd_at]
   ·simp[upds_at,upd_at,h2]
theorem New_run (s:List UInt8)(h:2*s.length<1000000000):AC C 14 [.str s] (rop (R.from none s)):=by
 refine .intro (by kernel_rfl) (by rfl) (by simp[noRef_agg,noRefL_cons,noRefL_nil]) ?_
 obtain⟨N1,q1⟩:=new_loop s.length none s (Nat.le_refl _) (by simp[R.mass];omega)
 refine⟨max N1 (s.length+1),fun n hn=>⟨[(40,[encR (R.from none s)])],?_⟩⟩
 have q1:=q1 n (by omega) n (by omega) n
 rw[F14_eq]
 unfold F14
 simp -implicitDefEqProofs only[oh_some,mp_some,sto_some,br_true,br_false,gd_true,gd_false,wA_tt,wA_tup,wA_ft,wA_tf,wA_ff,enc_strip,lp_strip,rp_strip,encR_strip,enc_check,enc_addr,aNilCheck_box,aNilCheck_ref,aAddr_box,aAddr_ref,aLoad_one,List.getElem?_cons_succ,List.getElem?_cons_zero,Option.map_some,bin_add,bin_sub,bin_lss,bin_leq,bin_gtr,bin_geq,bin_eql,bin_neq,str_eql,aMax_int,aMin_int,aUn_not,aPick_true,aPick_false,strip_int,strip_bool,strip_str,strip_nilp,strip_nils,strip_box,strip_ref,strip_agg,strip_tup,strip_undef,aBox_f,solid_agg,cells_agg,kLoad_box,kGd_true,kGd_false,kCall_ok,gt_iff_lt,ge_iff_le,Int.ofNat_lt,Int.ofNat_le,decide_true,decide_false,Nat.zero_add,Bool.not_true,Bool.not_false,aExtract_tup,fin1_some,resL_nil,resL_some,enc_noRef,encR_noRef,noRefL_cons,noRefL_nil,noRef_int,noRef_str,noRef_bool,Bool.and_self,ite_true,dyn_silent,dyn_get,dyn_app,dyn_writer,kLoad_ref,alloc27,List.length_nil,List.nil_append]
 exact q1 _ (by simp[upds_at,upd_at,argEnv]) (by simp[upds_at,upd_at,encR]) (by simp[upds_at,upd_at])
end RopeF
end

section
namespace RopeF
open Go Go.Abs Go.Proofs Srv
def bytesV (bs:List UInt8):List AV:=bs.map fun b=>.int .u8 b.toNat
def bufV (bs:List UInt8):AV:=match bs with
 | []=>.nils
 | b::r=>.sl 5 1 (bytesV (b::r)) .own
def Bld (s:Heap)(id:Nat)(bs:List UInt8):Prop:=∃a,s[id]?=some (97,[a,bufV bs])∧(a=.nilp∨a=.ref id 0)
theorem bCheck_ok {s:Heap}{id:Nat}{a b:AV}(h:s[id]?=some (97,[a,b]))(ha:a=.nilp∨a=.ref id 0):bCheck 97 [.ref id 0] s=some (.tup [],s.set id (97,[.ref id 0,b])):=by
 rcases ha with rfl|rfl
 ·simp[bCheck,h]
 ·simp only[bCheck,h,and_self,if_true]
  congr 2
  apply List.ext_getElem?
  intro i
  by_cases e:id=i
  ·subst e
   rw[h,List.getElem?_set_self (List.getElem?_eq_some_iff.1 h).1]
  ·rw[List.getElem?_set_ne e]
theorem under51:Tryz.prog.underlying 95=some (.slice 5):=by kernel_rfl
theorem under9:Tryz.prog.underlying 9=some .string:=by kernel_rfl
theorem info5':((Tryz.prog.info? 5).map fun i=>(i.size,i.bytes,i.zero.map fun z=>z.cells.size))=some (1,1,some 1):=by kernel_rfl
theorem info5:∃i,Tryz.prog.info? 5=some i∧i.size=1∧i.bytes=1∧∃z,i.zero=some z∧z.cells.size=1:=by
 have h:=info5'
 rw[Option.map_eq_some_iff]at h
 obtain⟨i,h1,h2⟩:=h
 simp only[Prod.mk.injEq,Option.map_eq_some_iff]at h2
 exact⟨i,h1,h2.1,h2.2.1,h2.2.2⟩
theorem app_ok (bs x:List UInt8)(h:bs.length+x.length<1000000000):aAppend Tryz.prog 95 9 (bufV bs) (.str x)=some (bufV (bs++x)):=by
 obtain⟨i,h1,h2,h3,z,h4,h5⟩:=info5
 unfold aAppend
 rw[under51,under9]
 simp only[h1,h2,srcOf,if_true,h4,h5,ne_eq,not_true,if_false,h3,Nat.mul_one]
 cases bs with
 | nil =>
  simp only[bufV,List.nil_append]
  cases x with
  | nil=>simp
  | cons a r =>
   simp only[List.length_map,List.length_cons,List.map_cons,bytesV]at *
   rw[if_pos (by omega)]
 | cons b r =>
  simp only[bufV,bytesV,List.length_map,List.length_cons,List.map_cons,List.cons_append,List.map_append]at *
  rw[if_pos ⟨trivial,trivial,by omega,by omega⟩]
theorem bufV_solid (bs:List UInt8):(bufV bs).solid=true∧(bufV bs).cells.length=1∧stCells (bufV bs)=[bufV bs]:=by cases bs<;>exact⟨rfl,rfl,rfl⟩
theorem write_run (x:List UInt8):∃N,N≤2∧∀n,N≤n→∀s id bs,Bld s id bs→bs.length+x.length<1000000000 →
  aCall Tryz.prog (den C n) 44 [.ref id 0,.str x] s=some (.tup [I x.length,.nili],s.set id (97,[.ref id 0,bufV (bs++x)])):=by
 refine⟨2,Nat.le_refl 2,fun n hn s id bs ⟨a,hs,ha⟩ hb=>?_⟩
 obtain⟨n,rfl⟩:∃m,n=m+2:=⟨n-2,by omega⟩
 have hlt:=(List.getElem?_eq_some_iff.1 hs).1
 have hc:enterable Tryz.prog 77=true:=by kernel_rfl
 have q1:aCall Tryz.prog (den C (n+1)) 77 [.ref id 0] s=some (.tup [],s.set id (97,[.ref id 0,bufV bs])):=by
  simp only[aCall,hc,if_true,noRefL,AV.noRef,Bool.false_and,Bool.false_eq_true,if_false]
  rw[den_ext (e:=fun _=>bCheck 97) (by rfl),bCheck_ok hs ha]
 have q2:∀v,aLoad true false 1 (.ref id 1) (s.set id (97,[.ref id 0,v]))=some (v,s.set id (97,[.ref id 0,v.strip])):=fun v=>by
  simp[aLoad,deadTy,aLoadT,List.getElem?_set_self hlt,List.set_set]
 obtain⟨k1,k2,k3⟩:=bufV_solid (bs++x)
 have q3:∀v,aStore 1 (s.set id (97,[.ref id 0,v])) (.ref id 1) (bufV (bs++x))=some (s.set id (97,[.ref id 0,bufV (bs++x)])):=fun v=>by
  simp[aStore,deadTy,k1,k2,k3,List.getElem?_set_self hlt,List.set_set,setL]
 have q4:=app_ok bs x hb
 rw[aCall,en44]
 simp only[if_true,noRefL,AV.noRef,Bool.false_and,Bool.false_eq_true,if_false]
 rw[F44_eq,F44]
 simp -implicitDefEqProofs only[oh_some,mp_some,sto_some,br_true,br_false,gd_true,gd_false,wA_tt,wA_tup,wA_ft,wA_tf,wA_ff,enc_strip,lp_strip,rp_strip,encR_strip,enc_check,enc_addr,aNilCheck_box,aNilCheck_ref,aAddr_box,aAddr_ref,aLoad_one,List.getElem?_cons_succ,List.getElem?_cons_zero,Option.map_some,bin_add,bin_sub,bin_lss,bin_leq,bin_gtr,bin_geq,bin_eql,bin_neq,str_eql,aMax_int,aMin_int,aUn_not,aPick_true,aPick_false,strip_int,strip_bool,strip_str,strip_nilp,strip_nils,strip_box,strip_ref,strip_agg,strip_tup,strip_undef,aBox_f,solid_agg,cells_agg,kLoad_box,kGd_true,kGd_false,kCall_ok,gt_iff_lt,ge_iff_le,Int.ofNat_lt,Int.ofNat_le,decide_true,decide_false,Nat.zero_add,Bool.not_true,Bool.not_false,aExtract_tup,fin1_some,resL_nil,resL_some,enc_noRef,encR_noRef,noRefL_cons,noRefL_nil,noRef_int,noRef_str,noRef_bool,Bool.and_self,ite_true,dyn_silent,dyn_get,dyn_app,dyn_writer,kLoad_ref,q1,q2,q3,q4,len9]
theorem Bld.set {s:Heap}{id:Nat}{bs:List UInt8}(h:Bld s id bs)(bs':List UInt8):Bld (s.set id (97,[.ref id 0,bufV bs'])) id bs':=by
 obtain⟨a,h,_⟩:=h
 exact⟨_,List.getElem?_set_self (List.getElem?_eq_some_iff.1 h).1,.inr rfl⟩
theorem tree_write (t:T):∃N,∀n,N≤n→∀s id bs,Bld s id bs→bs.length+t.str.length<1000000000 →
  aCall Tryz.prog (den C n) 50 [enc t,.ref id 0] s=some (.tup [],s.set id (97,[.ref id 0,bufV (bs++t.str)])):=by
 induction t with
 | leaf x =>
  obtain⟨N,_,q⟩:=write_run x
  refine⟨N+1,fun n hn s id bs h hb=>?_⟩
  obtain⟨n,rfl⟩:∃m,n=m+1:=⟨n-1,by omega⟩
  have q:=q n (by omega) s id bs h hb
  have z1:(((T.leaf x).h:Int)==0)=true:=by simp[T.h]
  rw[aCall,en50]
  simp only[if_true,noRefL,AV.noRef,Bool.and_false,Bool.false_and,Bool.false_eq_true,if_false]
  rw[F50_eq,F50]
  simp -implicitDefEqProofs only[oh_some,mp_some,sto_some,br_true,br_false,gd_true,gd_false,wA_tt,wA_tup,wA_ft,wA_tf,wA_ff,enc_strip,lp_strip,rp_strip,encR_strip,enc_check,enc_addr,aNilCheck_box,aNilCheck_ref,aAddr_box,aAddr_ref,aLoad_one,List.getElem?_cons_succ,List.getElem?_cons_zero,Option.map_some,bin_add,bin_sub,bin_lss,bin_leq,bin_gtr,bin_geq,bin_eql,bin_neq,str_eql,aMax_int,aMin_int,aUn_not,aPick_true,aPick_false,strip_int,strip_bool,strip_str,strip_nilp,strip_nils,strip_box,strip_ref,strip_agg,strip_tup,strip_undef,aBox_f,solid_agg,cells_agg,kLoad_box,kGd_true,kGd_false,kCall_ok,gt_iff_lt,ge_iff_le,Int.ofNat_lt,Int.ofNat_le,decide_true,decide_false,Nat.zero_add,Bool.not_true,Bool.not_false,aExtract_tup,fin1_some,resL_nil,resL_some,enc_noRef,encR_noRef,noRefL_cons,noRefL_nil,noRef_int,noRef_str,noRef_bool,Bool.and_self,ite_true,dyn_silent,dyn_get,dyn_app,dyn_writer,kLoad_ref,z1,tx,q,T.str]
 | node l r ihl ihr =>
  obtain⟨N1,q1⟩:=ihl
  obtain⟨N2,q2⟩:=ihr
  refine⟨max N1 N2+1,fun n hn s id bs h hb=>?_⟩
  obtain⟨n,rfl⟩:∃m,n=m+1:=⟨n-1,by omega⟩
  simp only[T.str,List.length_append]at hb
  have q1:=q1 n (by omega) s id bs h (by omega)
  have q2:=q2 n (by omega) _ id (bs++l.str) (h.set _) (by simp;omega)
  have z1:(((T.node l r).h:Int)==0)=false:=by simp[T.h];omega
  rw[aCall,en50]
  simp only[if_true,noRefL,AV.noRef,Bool.and_false,Bool.false_and,Bool.false_eq_true,if_false]
  rw[F50_eq,F50]
  simp -implicitDefEqProofs only[oh_some,mp_some,sto_some,br_true,br_false,gd_true,gd_false,wA_tt,wA_tup,wA_ft,wA_tf,wA_ff,enc_strip,lp_strip,rp_strip,encR_strip,enc_check,enc_addr,aNilCheck_box,aNilCheck_ref,aAddr_box,aAddr_ref,aLoad_one,List.getElem?_cons_succ,List.getElem?_cons_zero,Option.map_some,bin_add,bin_sub,bin_lss,bin_leq,bin_gtr,bin_geq,bin_eql,bin_neq,str_eql,aMax_int,aMin_int,aUn_not,aPick_true,aPick_false,strip_int,strip_bool,strip_str,strip_nilp,strip_nils,strip_box,strip_ref,strip_agg,strip_tup,strip_undef,aBox_f,solid_agg,cells_agg,kLoad_box,kGd_true,kGd_false,kCall_ok,gt_iff_lt,ge_iff_le,Int.ofNat_lt,Int.ofNat_le,decide_true,decide_false,Nat.zero_add,Bool.not_true,Bool.not_false,aExtract_tup,fin1_some,resL_nil,resL_some,enc_noRef,encR_noRef,noRefL_cons,noRefL_nil,noRef_int,noRef_str,noRef_bool,Bool.and_self,ite_true,dyn_silent,dyn_get,dyn_app,dyn_writer,kLoad_ref,z1,lp,rp,q1,q2,T.str,List.set_set,List.append_assoc]
theorem alloc53 (s:Heap):aAlloc Tryz.prog 97 s=some (.ref s.length 0,s++[(97,[.nilp,.nils])]):=by kernel_rfl
theorem bString_ok {s:Heap}{id:Nat}{bs:List UInt8}(h:Bld s id bs)(hl:bs.length<1000000000):∃s',bString 5 [.ref id 0] s=some (.str bs,s'):=by
 obtain⟨a,h,_⟩:=h
 cases bs with
 | nil=>exact⟨s,by simp[bString,headTy,h,bufV]⟩
 | cons b r =>
  have:=asBytes_bytes (b::r)
  refine⟨s.set id (97,[a,.sl 5 1 (bytesV (b::r)) .sh]),?_⟩
  simp only[bString,h,bufV,if_true]
  simp only[bytesV,this]
  have hh:r.length<1000000000000:=by simp only[List.length_cons]at hl;omega
  have hh2:(b::r).length<1000000000000:=by simp only[List.length_cons]at hl ⊢;omega
  first|rw[if_pos hh]|rw[if_pos hh2]
  rw[if_pos ⟨trivial,by decide⟩]
theorem bString_run {s:Heap}{id:Nat}{bs:List UInt8}(h:Bld s id bs)(hl:bs.length<1000000000):∃s',∀n,aCall Tryz.prog (den C (n+1)) 45 [.ref id 0] s=some (.str bs,s'):=by
 obtain⟨s',q⟩:=bString_ok h hl
 have hc:enterable Tryz.prog 45=true:=by kernel_rfl
 refine⟨s',fun n=>?_⟩
 simp only[aCall,hc,if_true,noRefL,AV.noRef,Bool.false_and,Bool.false_eq_true,if_false]
 rw[den_ext (e:=fun _=>bString 5) (by rfl),q]
theorem String_run (r:R)(h:r.mass<1000000000):AC C 17 [rop r] (.str r.str):=by
 refine .intro (by kernel_rfl) (by simp[noRefL_cons,noRefL_nil,noRef_agg]) (by rfl) ?_
 cases r with
 | none =>
  have hb:Bld [(97,[.nilp,.nils])] 0 []:=⟨.nilp,rfl,.inl rfl⟩
  obtain⟨s',q1⟩:=bString_run hb (by simp)
  refine⟨1,fun n hn=>⟨s',?_⟩⟩
  obtain⟨n,rfl⟩:∃m,n=m+1:=⟨n-1,by omega⟩
  have q1:=q1 n
  rw[F17_eq,F17]
  simp -implicitDefEqProofs only[oh_some,mp_some,sto_some,br_true,br_false,gd_true,gd_false,wA_tt,wA_tup,wA_ft,wA_tf,wA_ff,enc_strip,lp_strip,rp_strip,encR_strip,enc_check,enc_addr,aNilCheck_box,aNilCheck_ref,aAddr_box,aAddr_ref,aLoad_one,List.getElem?_cons_succ,List.getElem?_cons_zero,Option.map_some,bin_add,bin_sub,bin_lss,bin_leq,bin_gtr,bin_geq,bin_eql,bin_neq,str_eql,aMax_int,aMin_int,aUn_not,aPick_true,aPick_false,strip_int,strip_bool,strip_str,strip_nilp,strip_nils,strip_box,strip_ref,strip_agg,strip_tup,strip_undef,aBox_f,solid_agg,cells_agg,kLoad_box,kGd_true,kGd_false,kCall_ok,gt_iff_lt,ge_iff_le,Int.ofNat_lt,Int.ofNat_le,decide_true,decide_false,Nat.zero_add,Bool.not_true,Bool.not_false,aExtract_tup,fin1_some,resL_nil,resL_some,enc_noRef,encR_noRef,noRefL_cons,noRefL_nil,noRef_int,noRef_str,noRef_bool,Bool.and_self,ite_true,dyn_silent,dyn_get,dyn_app,dyn_writer,kLoad_ref,rop,encR_none,alloc53,List.length_nil,List.nil_append,nilNe,F17_J0,upds_at,upds_nil,upd_at,q1,R.str,Nat.reduceEqDiff,if_false,if_true]
 | some t =>
  have hb:Bld [(97,[.nilp,.nils])] 0 []:=⟨.nilp,rfl,.inl rfl⟩
  obtain⟨N,q⟩:=tree_write t
  obtain⟨s',q1⟩:=bString_run (hb.set t.str) (by have:=R.len_mass (some t);simp only[R.str]at this;omega)
  refine⟨N+1,fun n hn=>⟨s',?_⟩⟩
  obtain⟨n,rfl⟩:∃m,n=m+1:=⟨n-1,by omega⟩
  have q:=q (n+1) (by omega) _ _ _ hb (by have:=R.len_mass (some t);simp only[R.str,List.length_nil]at *;omega)
  have q1:=q1 n
  rw[List.nil_append]at q
  simp only[List.set_cons_zero]at q q1
  rw[F17_eq,F17]
  simp -implicitDefEqProofs only[oh_some,mp_some,sto_some,br_true,br_false,gd_true,gd_false,wA_tt,wA_tup,wA_ft,wA_tf,wA_ff,enc_strip,lp_strip,rp_strip,encR_strip,enc_check,enc_addr,aNilCheck_box,aNilCheck_ref,aAddr_box,aAddr_ref,aLoad_one,List.getElem?_cons_succ,List.getElem?_cons_zero,Option.map_some,bin_add,bin_sub,bin_lss,bin_leq,bin_gtr,bin_geq,bin_eql,bin_neq,str_eql,aMax_int,aMin_int,aUn_not,aPick_true,aPick_false,strip_int,strip_bool,strip_str,strip_nilp,strip_nils,strip_box,strip_ref,strip_agg,strip_tup,strip_undef,aBox_f,solid_agg,cells_agg,kLoad_box,kGd_true,kGd_false,kCall_ok,gt_iff_lt,ge_iff_le,Int.ofNat_lt,Int.ofNat_le,decide_true,decide_false,Nat.zero_add,Bool.not_true,Bool.not_false,aExtract_tup,fin1_some,resL_nil,resL_some,enc_noRef,encR_noRef,noRefL_cons,noRefL_nil,noRef_int,noRef_str,noRef_bool,Bool.and_self,ite_true,dyn_silent,dyn_get,dyn_app,dyn_writer,kLoad_ref,rop,encR_some,alloc53,List.length_nil,List.nil_append,neNil,q,F17_J0]
  simp[upds_at,upds_nil,upd_at,q1,R.str]
end RopeF
end

section
namespace RopeF
open Go Go.Abs Go.Proofs Srv
structure Ed where
 a:Int
 b:Int
 t:List UInt8
abbrev Ed.v (x:Ed):AV:=.agg [I x.a,I x.b,.str x.t]
abbrev eds (xs:List Ed):List AV:=xs.map Ed.v
theorem under44:Tryz.prog.underlying 22=some (.slice 70):=by kernel_rfl
theorem sz65:szOf Tryz.prog 70=some 3:=by kernel_rfl
theorem idx44 {xs:List Ed}{i:Nat}{x:Ed}{f:Flag}(h:xs[i]?=some x):aIndexAddr Tryz.prog 22 (.sl 70 3 (eds xs) f) (I i)=some (.box [I x.a,I x.b,.str x.t] 0):=by
 simp[aIndexAddr,under44,sz65,h,AV.cells]
theorem alloc65 (s:Heap):aAlloc Tryz.prog 70 s=some (.ref s.length 0,s++[(70,[I 0,I 0,.str []])]):=by kernel_rfl
theorem store65 (s:Heap)(a b c:AV)(x:Ed):aStore 3 (s++[(70,[a,b,c])]) (.ref s.length 0) x.v=some (s++[(70,[I x.a,I x.b,.str x.t])]):=by
 simp[aStore,deadTy,AV.solid,AV.cells,setL,stCells]
theorem load65 (s:Heap)(x y z:AV)(k:Nat):aLoad false false 1 (.ref s.length k) (s++[(70,[x,y,z])])=[x,y,z][k]?.map fun r=>(r.strip,s++[(70,[x,y,z])]):=by
 simp[aLoad,deadTy,aLoadR,aLoadC_one]
 cases[x,y,z][k]?<;>rfl
def IsE (v:AV)(xs:List Ed):Prop:=v=.sl 70 3 (eds xs) .sh∨(xs=[]∧v=.nils)
theorem IsE.strip {v:AV}{xs:List Ed}(h:IsE v xs):v.strip=v:=by rcases h with rfl|⟨_,rfl⟩<;>rfl
theorem eds_noRef (xs:List Ed):noRefL (eds xs)=true:=by induction xs with
 | nil=>rfl
 | cons x xs ih=>show noRefL (x.v::eds xs)=true;rw[noRefL_cons,ih];rfl
theorem IsE.noRef {v:AV}{xs:List Ed}(h:IsE v xs):v.noRef=true:=by
 rcases h with rfl|⟨_,rfl⟩
 ·simp[AV.noRef,eds_noRef]
 ·rfl
theorem IsE.len {v:AV}{xs:List Ed}(h:IsE v xs):aLen Tryz.prog 22 v=some (I xs.length):=by
 rcases h with rfl|⟨rfl,rfl⟩
 ·simp[aLen,under44]
 ·simp[aLen,under44]
def valid (len:Nat):Int→Int→List Ed→Int
 | _,n,[]=>if 2000<n then 2 else 0
 | p,n,x::xs=>if x.a≤p∨x.b<x.a∨(len:Int)<x.b then 3 else valid len x.b (n+(x.t.length-(x.b-x.a))) xs
theorem valid_loop (src:List UInt8)(hs:src.length≤2000)(xs:List Ed)(hl:xs.length≤50)(ht:∀x∈xs,x.t.length≤140737488355328):∀(k i:Nat)(p n:Int)(s:Heap),xs.length-i=k→i≤xs.length→-1≤p→-(10000*(i:Int))≤n→n≤2000+(i:Int)*140737488355328 →
  ∀D m n' e,k<m→e 21=I i→e 20=I xs.length→IsE (e 19) xs→e 5=I p→e 6=I n→e 0=.str src→∃s',aLoop (F29_L0 D n') m e s=some (I (valid src.length p n (xs.drop i)),s'):=by
 intro k
 induction k with
 | zero =>
  intro i p n s hk hi hp h1 h2 D m n' e hm h21 h20 h19 h5 h6 h0
  obtain⟨m,rfl⟩:∃j,m=j+1:=⟨m-1,by omega⟩
  have c:¬i<xs.length:=by omega
  rw[aLoop,F29_L0,List.drop_of_length_le (by omega),valid]
  refine⟨s,?_⟩
  by_cases c2:2000<n
  ·rw[if_pos c2]
   simp -implicitDefEqProofs only[oh_some,mp_some,sto_some,br_true,br_false,gd_true,gd_false,wA_tt,wA_tup,wA_ft,wA_tf,wA_ff,enc_strip,lp_strip,rp_strip,encR_strip,enc_check,enc_addr,aNilCheck_box,aNilCheck_ref,aAddr_box,aAddr_ref,aLoad_one,List.getElem?_cons_succ,List.getElem?_cons_zero,Option.map_some,bin_add,bin_sub,bin_lss,bin_leq,bin_gtr,bin_geq,bin_eql,bin_neq,str_eql,aMax_int,aMin_int,aUn_not,aPick_true,aPick_false,strip_int,strip_bool,strip_str,strip_nilp,strip_nils,strip_box,strip_ref,strip_agg,strip_tup,strip_undef,aBox_f,solid_agg,cells_agg,kLoad_box,kGd_true,kGd_false,kCall_ok,gt_iff_lt,ge_iff_le,Int.ofNat_lt,Int.ofNat_le,decide_true,decide_false,Nat.zero_add,Bool.not_true,Bool.not_false,aExtract_tup,fin1_some,resL_nil,resL_some,enc_noRef,encR_noRef,noRefL_cons,noRefL_nil,noRef_int,noRef_str,noRef_bool,Bool.and_self,ite_true,dyn_silent,dyn_get,dyn_app,dyn_writer,kLoad_ref,h21,h20,h5,h6,h0,c,c2]
  ·rw[if_neg c2]
   simp -implicitDefEqProofs only[oh_some,mp_some,sto_some,br_true,br_false,gd_true,gd_false,wA_tt,wA_tup,wA_ft,wA_tf,wA_ff,enc_strip,lp_strip,rp_strip,encR_strip,enc_check,enc_addr,aNilCheck_box,aNilCheck_ref,aAddr_box,aAddr_ref,aLoad_one,List.getElem?_cons_succ,List.getElem?_cons_zero,Option.map_some,bin_add,bin_sub,bin_lss,bin_leq,bin_gtr,bin_geq,bin_eql,bin_neq,str_eql,aMax_int,aMin_int,aUn_not,aPick_true,aPick_false,strip_int,strip_bool,strip_str,strip_nilp,strip_nils,strip_box,strip_ref,strip_agg,strip_tup,strip_undef,aBox_f,solid_agg,cells_agg,kLoad_box,kGd_true,kGd_false,kCall_ok,gt_iff_lt,ge_iff_le,Int.ofNat_lt,Int.ofNat_le,decide_true,decide_false,Nat.zero_add,Bool.not_true,Bool.not_false,aExtract_tup,fin1_some,resL_nil,resL_some,enc_noRef,encR_noRef,noRefL_cons,noRefL_nil,noRef_int,noRef_str,noRef_bool,Bool.and_self,ite_true,dyn_silent,dyn_get,dyn_app,dyn_writer,kLoad_ref,h21,h20,h5,h6,h0,c,c2]
 | succ k ih =>
  intro i p n s hk hi hp h1 h2 D m n' e hm h21 h20 h19 h5 h6 h0
  obtain⟨m,rfl⟩:∃j,m=j+1:=⟨m-1,by omega⟩
  have hlt:i<xs.length:=by omega
  have e0:xs[i]?=some xs[i]:=List.getElem?_eq_getElem hlt
  replace h19:e 19=.sl 70 3 (eds xs) .sh:=by
   rcases h19 with h|⟨h,_⟩
   ·exact h
   ·subst h;simp at hlt
  have e1:=idx44 (f:=.sh) e0
  have e2:=wadd1 (a:=i) (by omega)
  have htx:=ht xs[i] (List.getElem_mem hlt)
  rw[aLoop,F29_L0,List.drop_eq_getElem_cons hlt,valid]
  by_cases c1:xs[i].a≤p
  ·rw[if_pos (.inl c1)]
   refine⟨s++[(70,[I xs[i].a,I xs[i].b,.str xs[i].t])],?_⟩
   simp -implicitDefEqProofs only[oh_some,mp_some,sto_some,br_true,br_false,gd_true,gd_false,wA_tt,wA_tup,wA_ft,wA_tf,wA_ff,enc_strip,lp_strip,rp_strip,encR_strip,enc_check,enc_addr,aNilCheck_box,aNilCheck_ref,aAddr_box,aAddr_ref,aLoad_one,List.getElem?_cons_succ,List.getElem?_cons_zero,Option.map_some,bin_add,bin_sub,bin_lss,bin_leq,bin_gtr,bin_geq,bin_eql,bin_neq,str_eql,aMax_int,aMin_int,aUn_not,aPick_true,aPick_false,strip_int,strip_bool,strip_str,strip_nilp,strip_nils,strip_box,strip_ref,strip_agg,strip_tup,strip_undef,aBox_f,solid_agg,cells_agg,kLoad_box,kGd_true,kGd_false,kCall_ok,gt_iff_lt,ge_iff_le,Int.ofNat_lt,Int.ofNat_le,decide_true,decide_false,Nat.zero_add,Bool.not_true,Bool.not_false,aExtract_tup,fin1_some,resL_nil,resL_some,enc_noRef,encR_noRef,noRefL_cons,noRefL_nil,noRef_int,noRef_str,noRef_bool,Bool.and_self,ite_true,dyn_silent,dyn_get,dyn_app,dyn_writer,kLoad_ref,h21,h20,h19,h5,h6,h0,hlt,e1,aLoad_agg,List.length_cons,List.length_nil,List.drop_zero,List.take_succ_cons,List.take_zero,Nat.le_refl,alloc65,store65,load65,c1]
  ·by_cases c2:xs[i].b<xs[i].a
   ·rw[if_pos (.inr (.inl c2))]
    refine⟨s++[(70,[I xs[i].a,I xs[i].b,.str xs[i].t])],?_⟩
    simp -implicitDefEqProofs only[oh_some,mp_some,sto_some,br_true,br_false,gd_true,gd_false,wA_tt,wA_tup,wA_ft,wA_tf,wA_ff,enc_strip,lp_strip,rp_strip,encR_strip,enc_check,enc_addr,aNilCheck_box,aNilCheck_ref,aAddr_box,aAddr_ref,aLoad_one,List.getElem?_cons_succ,List.getElem?_cons_zero,Option.map_some,bin_add,bin_sub,bin_lss,bin_leq,bin_gtr,bin_geq,bin_eql,bin_neq,str_eql,aMax_int,aMin_int,aUn_not,aPick_true,aPick_false,strip_int,strip_bool,strip_str,strip_nilp,strip_nils,strip_box,strip_ref,strip_agg,strip_tup,strip_undef,aBox_f,solid_agg,cells_agg,kLoad_box,kGd_true,kGd_false,kCall_ok,gt_iff_lt,ge_iff_le,Int.ofNat_lt,Int.ofNat_le,decide_true,decide_false,Nat.zero_add,Bool.not_true,Bool.not_false,aExtract_tup,fin1_some,resL_nil,resL_some,enc_noRef,encR_noRef,noRefL_cons,noRefL_nil,noRef_int,noRef_str,noRef_bool,Bool.and_self,ite_true,dyn_silent,dyn_get,dyn_app,dyn_writer,kLoad_ref,h21,h20,h19,h5,h6,h0,hlt,e1,aLoad_agg,List.length_cons,List.length_nil,List.drop_zero,List.take_succ_cons,List.take_zero,Nat.le_refl,alloc65,store65,load65,c1,c2]
   ·by_cases c3:(src.length:Int)<xs[i].b
    ·rw[if_pos (.inr (.inr c3))]
     refine⟨s++[(70,[I xs[i].a,I xs[i].b,.str xs[i].t])],?_⟩
     simp -implicitDefEqProofs only[oh_some,mp_some,sto_some,br_true,br_false,gd_true,gd_false,wA_tt,wA_tup,wA_ft,wA_tf,wA_ff,enc_strip,lp_strip,rp_strip,encR_strip,enc_check,enc_addr,aNilCheck_box,aNilCheck_ref,aAddr_box,aAddr_ref,aLoad_one,List.getElem?_cons_succ,List.getElem?_cons_zero,Option.map_some,bin_add,bin_sub,bin_lss,bin_leq,bin_gtr,bin_geq,bin_eql,bin_neq,str_eql,aMax_int,aMin_int,aUn_not,aPick_true,aPick_false,strip_int,strip_bool,strip_str,strip_nilp,strip_nils,strip_box,strip_ref,strip_agg,strip_tup,strip_undef,aBox_f,solid_agg,cells_agg,kLoad_box,kGd_true,kGd_false,kCall_ok,gt_iff_lt,ge_iff_le,Int.ofNat_lt,Int.ofNat_le,decide_true,decide_false,Nat.zero_add,Bool.not_true,Bool.not_false,aExtract_tup,fin1_some,resL_nil,resL_some,enc_noRef,encR_noRef,noRefL_cons,noRefL_nil,noRef_int,noRef_str,noRef_bool,Bool.and_self,ite_true,dyn_silent,dyn_get,dyn_app,dyn_writer,kLoad_ref,h21,h20,h19,h5,h6,h0,hlt,e1,aLoad_agg,List.length_cons,List.length_nil,List.drop_zero,List.take_succ_cons,List.take_zero,Nat.le_refl,alloc65,store65,load65,c1,c2,c3,len9]
    ·rw[if_neg (by rintro(h|h|h);exact c1 h;exact c2 h;exact c3 h)]
     have w1:IntKind.i64.wrap (xs[i].b-xs[i].a)=xs[i].b-xs[i].a:=by rw[wrap64]<;>omega
     have w2:IntKind.i64.wrap ((xs[i].t.length:Int)-(xs[i].b-xs[i].a))=(xs[i].t.length:Int)-(xs[i].b-xs[i].a):=by rw[wrap64]<;>omega
     have w3:IntKind.i64.wrap (n+((xs[i].t.length:Int)-(xs[i].b-xs[i].a)))=n+((xs[i].t.length:Int)-(xs[i].b-xs[i].a)):=by rw[wrap64]<;>omega
     simp -implicitDefEqProofs only[oh_some,mp_some,sto_some,br_true,br_false,gd_true,gd_false,wA_tt,wA_tup,wA_ft,wA_tf,wA_ff,enc_strip,lp_strip,rp_strip,encR_strip,enc_check,enc_addr,aNilCheck_box,aNilCheck_ref,aAddr_box,aAddr_ref,aLoad_one,List.getElem?_cons_succ,List.getElem?_cons_zero,Option.map_some,bin_add,bin_sub,bin_lss,bin_leq,bin_gtr,bin_geq,bin_eql,bin_neq,str_eql,aMax_int,aMin_int,aUn_not,aPick_true,aPick_false,strip_int,strip_bool,strip_str,strip_nilp,strip_nils,strip_box,strip_ref,strip_agg,strip_tup,strip_undef,aBox_f,solid_agg,cells_agg,kLoad_box,kGd_true,kGd_false,kCall_ok,gt_iff_lt,ge_iff_le,Int.ofNat_lt,Int.ofNat_le,decide_true,decide_false,Nat.zero_add,Bool.not_true,Bool.not_false,aExtract_tup,fin1_some,resL_nil,resL_some,enc_noRef,encR_noRef,noRefL_cons,noRefL_nil,noRef_int,noRef_str,noRef_bool,Bool.and_self,ite_true,dyn_silent,dyn_get,dyn_app,dyn_writer,kLoad_ref,h21,h20,h19,h5,h6,h0,hlt,e1,e2,aLoad_agg,List.length_cons,List.length_nil,List.drop_zero,List.take_succ_cons,List.take_zero,Nat.le_refl,alloc65,store65,load65,c1,c2,c3,len9,w1,w2,w3]
     exact ih (i+1) xs[i].b _ _ (by omega) (by omega) (by omega) (by omega) (by omega) D m n' _ (by omega) (by simp[upds_at,upd_at]) (by simp[upds_at,upd_at,h20]) (.inl (by simp[upds_at,upd_at,h19])) (by simp[upds_at,upd_at]) (by simp[upds_at,upd_at]) (by simp[upds_at,upd_at,h0])
def validate (src:List UInt8)(xs:List Ed):Int:=if 2000<src.length∨50<xs.length then 2 else valid src.length (-1) src.length xs
def ACn (N:Nat)(g:FuncId)(args:List AV)(v:AV):Prop:=∀n,N≤n→∀s,aCall Tryz.prog (den C n) g args s=some (v,s)
theorem ACn.intro {N:Nat}{g:FuncId}{args:List AV}{v:AV}(he:enterable Tryz.prog g=true)(hn:noRefL args=true)(hv:v.noRef=true)(h:∀n,N≤n→∃s1,den C (n+1) g args []=some (v,s1)):ACn (N+1) g args v:=fun n hN s=>by
 obtain⟨m,rfl⟩:∃m,n=m+1:=⟨n-1,by omega⟩
 obtain⟨s1,h1⟩:=h m (by omega)
 simp[aCall,he,hn,h1,hv]
theorem validate_run (src:List UInt8)(v:AV)(xs:List Ed)(h:IsE v xs)(ht:∀x∈xs,x.t.length≤140737488355328):ACn 53 29 [.str src,v] (I (validate src xs)):=by
 refine .intro en29 (by simp[noRefL_cons,noRefL_nil,noRef_str,h.noRef]) (by rfl) ?_
 have l:=h.len
 have st:=h.strip
 intro n hn
 rw[F29_eq,F29]
 have e1:((2000:Int)<(src.length:Int))↔2000<src.length:=by omega
 have e2:((50:Int)<(xs.length:Int))↔50<xs.length:=by omega
 unfold validate
 by_cases c1:2000<src.length
 ·rw[if_pos (.inl c1)]
  refine⟨[],?_⟩
  simp -implicitDefEqProofs only[oh_some,mp_some,sto_some,br_true,br_false,gd_true,gd_false,wA_tt,wA_tup,wA_ft,wA_tf,wA_ff,enc_strip,lp_strip,rp_strip,encR_strip,enc_check,enc_addr,aNilCheck_box,aNilCheck_ref,aAddr_box,aAddr_ref,aLoad_one,List.getElem?_cons_succ,List.getElem?_cons_zero,Option.map_some,bin_add,bin_sub,bin_lss,bin_leq,bin_gtr,bin_geq,bin_eql,bin_neq,str_eql,aMax_int,aMin_int,aUn_not,aPick_true,aPick_false,strip_int,strip_bool,strip_str,strip_nilp,strip_nils,strip_box,strip_ref,strip_agg,strip_tup,strip_undef,aBox_f,solid_agg,cells_agg,kLoad_box,kGd_true,kGd_false,kCall_ok,gt_iff_lt,ge_iff_le,Int.ofNat_lt,Int.ofNat_le,decide_true,decide_false,Nat.zero_add,Bool.not_true,Bool.not_false,aExtract_tup,fin1_some,resL_nil,resL_some,enc_noRef,encR_noRef,noRefL_cons,noRefL_nil,noRef_int,noRef_str,noRef_bool,Bool.and_self,ite_true,dyn_silent,dyn_get,dyn_app,dyn_writer,kLoad_ref,st,l,len9,e1,c1]
 ·by_cases c2:50<xs.length
  ·rw[if_pos (.inr c2)]
   refine⟨[],?_⟩
   simp -implicitDefEqProofs only[oh_some,mp_some,sto_some,br_true,br_false,gd_true,gd_false,wA_tt,wA_tup,wA_ft,wA_tf,wA_ff,enc_strip,lp_strip,rp_strip,encR_strip,enc_check,enc_addr,aNilCheck_box,aNilCheck_ref,aAddr_box,aAddr_ref,aLoad_one,List.getElem?_cons_succ,List.getElem?_cons_zero,Option.map_some,bin_add,bin_sub,bin_lss,bin_leq,bin_gtr,bin_geq,bin_eql,bin_neq,str_eql,aMax_int,aMin_int,aUn_not,aPick_true,aPick_false,strip_int,strip_bool,strip_str,strip_nilp,strip_nils,strip_box,strip_ref,strip_agg,strip_tup,strip_undef,aBox_f,solid_agg,cells_agg,kLoad_box,kGd_true,kGd_false,kCall_ok,gt_iff_lt,ge_iff_le,Int.ofNat_lt,Int.ofNat_le,decide_true,decide_false,Nat.zero_add,Bool.not_true,Bool.not_false,aExtract_tup,fin1_some,resL_nil,resL_some,enc_noRef,encR_noRef,noRefL_cons,noRefL_nil,noRef_int,noRef_str,noRef_bool,Bool.and_self,ite_true,dyn_silent,dyn_get,dyn_app,dyn_writer,kLoad_ref,st,l,len9,e1,e2,c1,c2]
  ·rw[if_neg (by omega)]
   have q:=valid_loop src (by omega) xs (by omega) ht xs.length 0 (-1) src.length [] (by omega) (by omega) (by omega) (by omega) (by omega) (den C n) n n
   simp -implicitDefEqProofs only[oh_some,mp_some,sto_some,br_true,br_false,gd_true,gd_false,wA_tt,wA_tup,wA_ft,wA_tf,wA_ff,enc_strip,lp_strip,rp_strip,encR_strip,enc_check,enc_addr,aNilCheck_box,aNilCheck_ref,aAddr_box,aAddr_ref,aLoad_one,List.getElem?_cons_succ,List.getElem?_cons_zero,Option.map_some,bin_add,bin_sub,bin_lss,bin_leq,bin_gtr,bin_geq,bin_eql,bin_neq,str_eql,aMax_int,aMin_int,aUn_not,aPick_true,aPick_false,strip_int,strip_bool,strip_str,strip_nilp,strip_nils,strip_box,strip_ref,strip_agg,strip_tup,strip_undef,aBox_f,solid_agg,cells_agg,kLoad_box,kGd_true,kGd_false,kCall_ok,gt_iff_lt,ge_iff_le,Int.ofNat_lt,Int.ofNat_le,decide_true,decide_false,Nat.zero_add,Bool.not_true,Bool.not_false,aExtract_tup,fin1_some,resL_nil,resL_some,enc_noRef,encR_noRef,noRefL_cons,noRefL_nil,noRef_int,noRef_str,noRef_bool,Bool.and_self,ite_true,dyn_silent,dyn_get,dyn_app,dyn_writer,kLoad_ref,st,l,len9,e1,e2,c1,c2]
   exact q _ (by omega) (by simp[upds_at,upd_at]) (by simp[upds_at,upd_at]) (by simpa[upds_at,upd_at] using h) (by simp[upds_at,upd_at]) (by simp[upds_at,upd_at]) (by simp[upds_at,upd_at,argEnv])
end RopeF
end

section
namespace RopeF
open Go Go.Abs Go.Proofs Srv
def applyS (src:List UInt8):Nat→List Ed→List UInt8
 | o,[]=>src.drop o
 | o,x::xs=>(src.take x.a.toNat).drop o++x.t++applyS src x.b.toNat xs
theorem valid_cons {len:Nat}{p n:Int}{x:Ed}{xs:List Ed}(h:valid len p n (x::xs)=0):p<x.a∧x.a≤x.b∧x.b≤len∧valid len x.b (n+(x.t.length-(x.b-x.a))) xs=0:=by
 unfold valid at h
 split at h
 ·cases h
 ·exact⟨by omega,by omega,by omega,h⟩
theorem valid_room {len:Nat}:∀{xs:List Ed}{p n:Int}{o:Nat},valid len p n xs=0→(o:Int)≤p+1→o≤len→n-((len:Int)-o)≤2000
 | [],p,n,o,h,h1,h2=>by
  unfold valid at h
  split at h
  ·cases h
  ·omega
 | x::xs,p,n,o,h,h1,h2=>by
  obtain⟨k1,k2,k3,k4⟩:=valid_cons h
  have:=valid_room (o:=x.b.toNat) k4 (by omega) (by omega)
  omega
theorem subBoth {s:List UInt8}{i j:Int}(h0:0≤i)(h1:i≤j)(h2:j≤s.length):aSl Tryz.prog 9 (.str s) (some (I i)) (some (I j)) none=some (.str ((s.take j.toNat).drop i.toNat)):=by
 have h:Tryz.prog.underlying 9=some .string:=by kernel_rfl
 have h3:0≤j:=by omega
 have h4:i≤max j 0:=by omega
 simp[aSl,h,aSubstr,aBound,h0,h2,h3,h4]
theorem noRef_ref (i o:Nat):(AV.ref i o).noRef=false:=by simp[AV.noRef]
theorem load65s (s:Heap)(w:TypeId×List AV)(id:Nat)(x y z:AV)(k:Nat):aLoad false false 1 (.ref s.length k) (s.set id w++[(70,[x,y,z])])=[x,y,z][k]?.map fun r=>(r.strip,s.set id w++[(70,[x,y,z])]):=by
 have:=load65 (s.set id w) x y z k
 rwa [List.length_set]at this
theorem Bld.app {s:Heap}{id:Nat}{bs:List UInt8}(h:Bld s id bs)(l:Heap):Bld (s++l) id bs:=by
 obtain⟨a,h,q⟩:=h
 exact⟨a,by rw[List.getElem?_append_left (List.getElem?_eq_some_iff.1 h).1,h],q⟩
theorem Bld.lt {s:Heap}{id:Nat}{bs:List UInt8}(h:Bld s id bs):id<s.length:=by
 obtain⟨a,h,_⟩:=h
 exact(List.getElem?_eq_some_iff.1 h).1
theorem apply_loop (src:List UInt8)(hs:src.length≤2000)(xs:List Ed)(hl:xs.length≤50):∀(k i:Nat)(p n:Int)(o:Nat)(acc:List UInt8),xs.length-i=k→i≤xs.length→valid src.length p n (xs.drop i)=0→(o:Int)≤p+1→o≤src.length→(acc.length:Int)=n-(src.length-o) →
  ∃N,N≤3∧∀f,N≤f→∀m,k<m→∀n' e s,Bld s 0 acc→e 19=I i→e 18=I xs.length→IsE (e 17) xs→e 8=I o→e 7=.ref 0 0→e 0=.str src→∃s',aLoop (F13_L0 (den C f) n') m e s=some (.tup [.str (acc++applyS src o (xs.drop i)),I 0],s'):=by
 intro k
 induction k with
 | zero =>
  intro i p n o acc hk hi hv hp ho ha
  have hr:=valid_room hv hp ho
  obtain⟨N,hN,q⟩:=write_run (src.drop o)
  refine⟨N+1,by omega,fun f hf m hm n' e s hb h19 h18 h17 h8 h7 h0=>?_⟩
  obtain⟨m,rfl⟩:∃j,m=j+1:=⟨m-1,by omega⟩
  obtain⟨f,rfl⟩:∃j,f=j+1:=⟨f-1,by omega⟩
  have c:¬i<xs.length:=by omega
  have q:=q (f+1) (by omega) s 0 acc hb (by simp;omega)
  obtain⟨s',q2⟩:=bString_run (hb.set (acc++src.drop o)) (by simp;omega)
  have q2:=q2 f
  have e1:=subDrop (s:=src) (i:=(o:Int)) (by omega) (by omega)
  rw[Int.toNat_natCast]at e1
  rw[aLoop,F13_L0,List.drop_of_length_le (by omega),applyS]
  refine⟨s',?_⟩
  simp -implicitDefEqProofs only[oh_some,mp_some,sto_some,br_true,br_false,gd_true,gd_false,wA_tt,wA_tup,wA_ft,wA_tf,wA_ff,enc_strip,lp_strip,rp_strip,encR_strip,enc_check,enc_addr,aNilCheck_box,aNilCheck_ref,aAddr_box,aAddr_ref,aLoad_one,List.getElem?_cons_succ,List.getElem?_cons_zero,Option.map_some,bin_add,bin_sub,bin_lss,bin_leq,bin_gtr,bin_geq,bin_eql,bin_neq,str_eql,aMax_int,aMin_int,aUn_not,aPick_true,aPick_false,strip_int,strip_bool,strip_str,strip_nilp,strip_nils,strip_box,strip_ref,strip_agg,strip_tup,strip_undef,aBox_f,solid_agg,cells_agg,kLoad_box,kGd_true,kGd_false,kCall_ok,gt_iff_lt,ge_iff_le,Int.ofNat_lt,Int.ofNat_le,decide_true,decide_false,Nat.zero_add,Bool.not_true,Bool.not_false,aExtract_tup,fin1_some,resL_nil,resL_some,enc_noRef,encR_noRef,noRefL_cons,noRefL_nil,noRef_int,noRef_str,noRef_bool,Bool.and_self,ite_true,dyn_silent,dyn_get,dyn_app,dyn_writer,kLoad_ref,h19,h18,h8,h7,h0,c,q,q2,e1]
 | succ k ih =>
  intro i p n o acc hk hi hv hp ho ha
  have hlt:i<xs.length:=by omega
  have e0:xs[i]?=some xs[i]:=List.getElem?_eq_getElem hlt
  rw[List.drop_eq_getElem_cons hlt]at hv ⊢
  obtain⟨k1,k2,k3,k4⟩:=valid_cons hv
  have hr:=valid_room (o:=xs[i].b.toNat) k4 (by omega) (by omega)
  have hlen:((src.take xs[i].a.toNat).drop o).length=xs[i].a.toNat-o:=by simp;omega
  obtain⟨N1,hN1,q1⟩:=write_run ((src.take xs[i].a.toNat).drop o++xs[i].t)
  obtain⟨N2,hN2,q2⟩:=ih (i+1) xs[i].b _ xs[i].b.toNat (acc++((src.take xs[i].a.toNat).drop o++xs[i].t)) (by omega) (by omega) k4 (by omega) (by omega) (by rw[List.length_append,List.length_append,hlen];omega)
  rw[List.append_assoc acc]at q2
  refine⟨max N1 N2,by omega,fun f hf m hm n' e s hb h19 h18 h17 h8 h7 h0=>?_⟩
  obtain⟨m,rfl⟩:∃j,m=j+1:=⟨m-1,by omega⟩
  replace h17:e 17=.sl 70 3 (eds xs) .sh:=by
   rcases h17 with h|⟨h,_⟩
   ·exact h
   ·subst h;simp at hlt
  have e1:=idx44 (f:=.sh) e0
  have e2:=wadd1 (a:=i) (by omega)
  have e3:=subBoth (s:=src) (i:=(o:Int)) (j:=xs[i].a) (by omega) (by omega) (by omega)
  rw[Int.toNat_natCast]at e3
  have e4:aBin Tryz.prog .add 9 (.str ((src.take xs[i].a.toNat).drop o)) (.str xs[i].t)=some (.str ((src.take xs[i].a.toNat).drop o++xs[i].t)):=str_add _ _ (by rw[hlen];omega)
  have q1:=q1 f (by omega) (s++[(70,[I xs[i].a,I xs[i].b,.str xs[i].t])]) 0 acc (hb.app _) (by rw[List.length_append,hlen];omega)
  rw[List.set_append_left _ _ hb.lt]at q1
  have e5:((xs[i].b.toNat:Nat):Int)=xs[i].b:=by omega
  rw[aLoop,F13_L0,applyS]
  simp -implicitDefEqProofs only[oh_some,mp_some,sto_some,br_true,br_false,gd_true,gd_false,wA_tt,wA_tup,wA_ft,wA_tf,wA_ff,enc_strip,lp_strip,rp_strip,encR_strip,enc_check,enc_addr,aNilCheck_box,aNilCheck_ref,aAddr_box,aAddr_ref,aLoad_one,List.getElem?_cons_succ,List.getElem?_cons_zero,Option.map_some,bin_add,bin_sub,bin_lss,bin_leq,bin_gtr,bin_geq,bin_eql,bin_neq,str_eql,aMax_int,aMin_int,aUn_not,aPick_true,aPick_false,strip_int,strip_bool,strip_str,strip_nilp,strip_nils,strip_box,strip_ref,strip_agg,strip_tup,strip_undef,aBox_f,solid_agg,cells_agg,kLoad_box,kGd_true,kGd_false,kCall_ok,gt_iff_lt,ge_iff_le,Int.ofNat_lt,Int.ofNat_le,decide_true,decide_false,Nat.zero_add,Bool.not_true,Bool.not_false,aExtract_tup,fin1_some,resL_nil,resL_some,enc_noRef,encR_noRef,noRefL_cons,noRefL_nil,noRef_int,noRef_str,noRef_bool,Bool.and_self,ite_true,dyn_silent,dyn_get,dyn_app,dyn_writer,kLoad_ref,h19,h18,h17,h8,h7,h0,hlt,e1,e2,e3,e4,q1,aLoad_agg,List.length_cons,List.length_nil,List.drop_zero,List.take_succ_cons,List.take_zero,Nat.le_refl,alloc65,store65,load65,load65s,kLoad_ref,noRef_ref,Bool.false_and,Bool.false_eq_true,if_false,d13_9]
  exact q2 f (by omega) m (by omega) n' _ _ ((hb.set _).app [(70,[I xs[i].a,I xs[i].b,.str xs[i].t])]) (by simp[upds_at,upd_at]) (by simp[upds_at,upd_at,h18]) (.inl (by simp[upds_at,upd_at,h17])) (by simp[upds_at,upd_at,e5]) (by simp[upds_at,upd_at,h7]) (by simp[upds_at,upd_at,h0])
theorem apply_run (src:List UInt8)(v:AV)(xs:List Ed)(h:IsE v xs)(ht:∀x∈xs,x.t.length≤140737488355328):ACn 61 13 [.str src,v] (if validate src xs=0 then .tup [.str (applyS src 0 xs),I 0] else .tup [.str [],I (validate src xs)]):=by
 refine .intro en13 (by simp[noRefL_cons,noRefL_nil,noRef_str,h.noRef]) (by split<;>rfl) ?_
 have l:=h.len
 have st:=h.strip
 intro n hn
 have q1:=validate_run src v xs h ht n (by omega)
 by_cases c:validate src xs=0
 ·rw[if_pos c]
  have c':=c
  unfold validate at c'
  split at c'
  ·cases c'
  ·obtain⟨N2,hN2,q2⟩:=apply_loop src (by omega) xs (by omega) xs.length 0 (-1) src.length 0 [] (by omega) (by omega) c' (by omega) (by omega) (by simp)
   have hb:Bld [(97,[.nilp,.nils])] 0 []:=⟨.nilp,rfl,.inl rfl⟩
   have q2:=q2 n (by omega) n (by omega) n
   have z:((0:Int) != 0)=false:=rfl
   have q1:=q1 []
   rw[c]at q1
   rw[F13_eq,F13]
   simp -implicitDefEqProofs only[oh_some,mp_some,sto_some,br_true,br_false,gd_true,gd_false,wA_tt,wA_tup,wA_ft,wA_tf,wA_ff,enc_strip,lp_strip,rp_strip,encR_strip,enc_check,enc_addr,aNilCheck_box,aNilCheck_ref,aAddr_box,aAddr_ref,aLoad_one,List.getElem?_cons_succ,List.getElem?_cons_zero,Option.map_some,bin_add,bin_sub,bin_lss,bin_leq,bin_gtr,bin_geq,bin_eql,bin_neq,str_eql,aMax_int,aMin_int,aUn_not,aPick_true,aPick_false,strip_int,strip_bool,strip_str,strip_nilp,strip_nils,strip_box,strip_ref,strip_agg,strip_tup,strip_undef,aBox_f,solid_agg,cells_agg,kLoad_box,kGd_true,kGd_false,kCall_ok,gt_iff_lt,ge_iff_le,Int.ofNat_lt,Int.ofNat_le,decide_true,decide_false,Nat.zero_add,Bool.not_true,Bool.not_false,aExtract_tup,fin1_some,resL_nil,resL_some,enc_noRef,encR_noRef,noRefL_cons,noRefL_nil,noRef_int,noRef_str,noRef_bool,Bool.and_self,ite_true,dyn_silent,dyn_get,dyn_app,dyn_writer,kLoad_ref,st,l,q1,z,alloc53,List.length_nil,List.nil_append]
   exact q2 _ _ hb (by simp[upds_at,upd_at]) (by simp[upds_at,upd_at]) (by simpa[upds_at,upd_at] using h) (by simp[upds_at,upd_at]) (by simp[upds_at,upd_at]) (by simp[upds_at,upd_at,argEnv])
 ·rw[if_neg c]
  refine⟨[],?_⟩
  have q1:=q1 []
  have z:(validate src xs != 0)=true:=by simp[c]
  rw[F13_eq,F13]
  simp -implicitDefEqProofs only[oh_some,mp_some,sto_some,br_true,br_false,gd_true,gd_false,wA_tt,wA_tup,wA_ft,wA_tf,wA_ff,enc_strip,lp_strip,rp_strip,encR_strip,enc_check,enc_addr,aNilCheck_box,aNilCheck_ref,aAddr_box,aAddr_ref,aLoad_one,List.getElem?_cons_succ,List.getElem?_cons_zero,Option.map_some,bin_add,bin_sub,bin_lss,bin_leq,bin_gtr,bin_geq,bin_eql,bin_neq,str_eql,aMax_int,aMin_int,aUn_not,aPick_true,aPick_false,strip_int,strip_bool,strip_str,strip_nilp,strip_nils,strip_box,strip_ref,strip_agg,strip_tup,strip_undef,aBox_f,solid_agg,cells_agg,kLoad_box,kGd_true,kGd_false,kCall_ok,gt_iff_lt,ge_iff_le,Int.ofNat_lt,Int.ofNat_le,decide_true,decide_false,Nat.zero_add,Bool.not_true,Bool.not_false,aExtract_tup,fin1_some,resL_nil,resL_some,enc_noRef,encR_noRef,noRefL_cons,noRefL_nil,noRef_int,noRef_str,noRef_bool,Bool.and_self,ite_true,dyn_silent,dyn_get,dyn_app,dyn_writer,kLoad_ref,st,l,q1,z]
end RopeF
end
