/- Le, L5, L20, L4, L4w, L4x, L7, L7w, L7x -/
import Derived.Test.YtfhoaocedkkjbaaGreatDoorI
set_option linter.all false
set_option maxRecDepth 100000

section
namespace Srv
open Go Go.Abs Go.Proofs
theorem e11:enterable Tryz.prog 11=true:=by kernel_rfl
theorem e19:enterable Tryz.prog 19=true:=by kernel_rfl
theorem strF (g:FuncId):(AV.fn g [] []).strip=.fn g [] []:=rfl
theorem Own.up {ty z b:Nat}{s s':Heap}{v:AV}{es:List (List AV)}(h:Own ty z b s v es)(k:∀(i:Nat)(cs:List AV),s[i]?=some (ty,cs)→s'[i]?=some (ty,cs)):Own ty z b s' v es:=⟨h.1.tf k,h.2⟩
theorem evs_ok {l:List Evn}(h:∀e∈l,EvOK e)(m:Nat):∀e∈(l.take m).map evS,EvOK e:=fun e he=>by
 obtain⟨x,hx,rfl⟩:=List.mem_map.1 he
 exact(h x (List.mem_of_mem_take hx)).s
theorem start (m:Nat)(hm:m≤20){s:Heap}{v:AV}{l:List Evn}(hv:EvA v l):∃V s1 v' s2 w s3 rs st',aCallF Tryz.prog (den C 200331) 11 [.fn 22 [] []] s=some (.ref V 0,s1)∧aCallF Tryz.prog (den C 200331) 19 [v.strip,I m] s1=some (v',s2)∧v'.strip=v'∧aCall Tryz.prog (den C 200331) 21 [.ref V 0,v'] s2=some (w,s3)∧Steps st0 ((l.take m).map evS) rs st'∧SrvI s3 V (fun i=>s.length≤i∧i<s3.length) st' 1000∧Fg (fun _=>False) s s3∧w.strip=w∧OV s2.length s3 w rs∧s.length≤s2.length∧rs.length≤1000:=by
 obtain⟨s1,V,a1,a2,a3⟩:=c11 200328 s
 obtain⟨v',s2,b1,b2,b3⟩:=c19 200330 (by decide) (s:=s1) (v:=v.strip) hv.strip m (by omega)
 have hok:=evs_ok hv.2 m
 obtain⟨w,s3,rs,st',d1,d2,d3,d4,d5,d6⟩:=c21 200000 (by decide) (by decide) (a2.up b3) (v:=v') ⟨b2.1,hok⟩ (by simp;omega) (by decide)
 have n1:=a3.len
 have n2:=b3.len
 have n3:=d5.len
 refine⟨V,s1,v',s2,w,s3,rs,st',(cFs _ _ e11).trans a1,(cFs _ _ e19).trans b1,b2.strip,?_,d3,?_,?_,d2.strip,d2,by omega,d6⟩
 ·rw[aCall,if_pos (by kernel_rfl),if_neg (by simp[noRefL_cons,AV.noRef])];exact d1
 ·refine d4.wid (fun i hi=>?_) fun i hi=>hi.2
  rcases hi with hi|hi
  ·exact⟨hi.1,by omega⟩
  ·exact⟨by omega,hi.2⟩
 ·refine⟨by omega,fun i hi _=>?_,fun i t cs hi c1 c2 c3 c4 c5 c6=>d5.tf i t cs (b3.at (a3.at hi)) c1 c2 c3 c4 c5 c6⟩
  rw[d5.old i (by omega) (fun h=>by omega),b3.get (by omega),a3.get hi]
theorem RV.len {s:Heap}{v:AV}{l:List Resp}(h:RV s v l):aLen Tryz.prog 29 v=some (I l.length):=by
 obtain⟨es,h1,h2⟩:=h
 have:=h1.len und29
 rwa [h2.len]at this
theorem c8 {s:Heap}{v:AV}{l:List Evn}(hv:EvA v l){e:Evn}(he:EvOK e):∃s',den C 200332 8 [v,.agg (evC e)] s=some (.bool true,s'):=by
 have bx:∀s,aBox false 35 (.agg (evC e)) s=some (.box (evC e) 0,s):=fun s=>boxV rfl s
 have hst:=he.ed.strip
 have lE:∀s,aLoad false true 11 (.box (evC e) 0) s=some (.agg (evC e),s):=fun s=>boxG (n:=11) rfl false s
 obtain⟨V,s1,v',s2,w,s3,rs,st',a1,a2,a3,a4,a5,a6,a7,a8,_⟩:=start (s:=s) 12 (by decide) hv
 obtain⟨m1,s4,b1,b2,b3,b4⟩:=a16 200329 a6
 have h4:=a6.up b4.up
 obtain⟨p1,s5,c1,c2,c3,c4,c5⟩:=a24 200329 h4
 have h5:=h4.up c4.up
 obtain⟨r,s6,l1,err,st2,d1,d2,d3,d4,d5⟩:=c12 200001 (by decide) (by decide) h5 (by decide) e he
 have cl:aCall Tryz.prog (den C 200331) 12 [.ref V 0,.agg (evC e)] s5=some (.tup [r,I err],s6):=by
  rw[aCall,if_pos (by kernel_rfl),if_neg (by simp[noRefL_cons,AV.noRef])];exact d1
 have a2:aCallF Tryz.prog (den C 200331) 19 [v.strip,I 12] s1=some (v',s2):=a2
 by_cases hz:err=0
 ·have q:(err==0)=true:=by simp[hz]
  rw[rd Tryz.func8];conv in compF _ _ _ _ _ _=>cbv
  simp only[strip_rs,strip_mr,strip_nilf,Bool.false_eq_true,if_false,↓kR,kE,kK,sL,C_P,Nat.reduceEqDiff,reduceIte,Tryz.f8,bx,f18,strF,strip2,a1,a2,a3,a4,b1,b3,c1,c3,lE,cl,q,sL]
  exact⟨s6,rfl⟩
 ·have q:(err==0)=false:=by simpa using hz
  obtain⟨rfl,rfl⟩:=d3.err hz
  have k45:∀(i:Nat) (cs:List AV),s5[i]?=some (45,cs)→s6[i]?=some (45,cs):=fun i cs hi=>d5.tf i _ cs hi (by decide) (by decide) (by decide) (by decide) (by decide) (by decide)
  have m1':SL 45 2 s6 m1 (st2.ms.map modC):=(b2.gr c4).tf k45
  obtain⟨m2,s7,f1,f2,f3,f4⟩:=a16 200329 d4
  have h7:=d4.up f4.up
  have e27:=a27 200330 f2 (m1'.gr f4) (by have:=d4.ms8;omega)
  obtain⟨p2,s8,g1,g2,g3,g4,_⟩:=a24 200329 h7
  have p1':SL 33 5 s6 p1 (st2.pd.map reqC):=c2.fr fun Q off m e=>by
   obtain⟨cs,hc⟩:=c2.row e
   refine d5.old Q (glt hc) fun hg=>?_
   have:=c5 Q off m e
   have:=b4.len
   have:=hg.2
   omega
  have e28:=a28 200330 g2 ((p1'.gr f4).gr g4) (by have:=d4.pl;omega)
  have lr:=d2.strip.len
  have z00:((0:Int)==0)=true:=rfl
  rw[rd Tryz.func8];conv in compF _ _ _ _ _ _=>cbv
  simp only[strip_rs,strip_mr,strip_nilf,Bool.false_eq_true,if_false,↓kR,kE,kK,sL,C_P,Nat.reduceEqDiff,reduceIte,Tryz.f8,bx,f18,strF,strip2,a1,a2,a3,a4,b1,b3,c1,c3,lE,cl,q,lr,List.length_nil,Int.natCast_zero,z00,f1,f3,e27,g1,g3,e28,sL]
  exact⟨s8,rfl⟩
end Srv
end

section
namespace Srv
open Go Go.Abs Go.Proofs
theorem Steps.inv {st st':St}{es:List Evn}{rs:List Resp}(h:Steps st es rs st'):(es=[]∧rs=[]∧st'=st)∨∃es' e l l1 st1 err,es=es'++[e]∧rs=l++l1∧Steps st es' l st1∧HStep st1 e l1 err st'∧st1.ms.length≤8∧st1.pd.length≤20:=by
 cases h with
 | nil=>exact .inl ⟨rfl,rfl,rfl⟩
 | snoc h hb k=>exact .inr ⟨_,_,_,_,_,_,rfl,rfl,h,k,hb⟩
theorem Steps.one {st st':St}{e:Evn}{rs:List Resp}(h:Steps st [e] rs st'):∃err,HStep st e rs err st':=by
 rcases h.inv with ⟨h1,_⟩|⟨es',e',l,l1,st1,err,h1,rfl,h3,h4,_⟩
 ·cases h1
 ·have hl:=congrArg List.length h1
  simp at hl
  subst hl
  simp at h1
  subst h1
  rcases h3.inv with ⟨_,rfl,rfl⟩|⟨_,_,_,_,_,_,h5,_⟩
  ·exact⟨err,h4⟩
  ·exact absurd (congrArg List.length h5) (by simp)
def run1 (N:Int):Evn:=⟨6,N,0,[],[],.nils,[],⟨0,0,0,0,[]⟩⟩
theorem run1_ok {N:Int}(h:N<9223372036854775808):EvOK (run1 N):=⟨.inr ⟨rfl,rfl⟩,nofun,h⟩
theorem run1_step {st st':St}{N:Int}(hN:0≤N){rs:List Resp}{err:Int}(h:HStep st (run1 N) rs err st'):∃m,RunOK st N rs st' m:=by
 have h:(if N<0 then(rs=[]∧err=1∧st'=st) else err=0∧∃m,RunOK st N rs st' m):=h
 rw[if_neg (by omega)]at h
 exact h.2
theorem bd35 (N:Int):aBuild Tryz.prog 35 [(0,I 6),(1,I N)]=some (.agg (evC (run1 N))):=by
 have:∀N,aBuild Tryz.prog 35 [(0,I 6),(1,I N)]=some (.agg [I 6,I N,I 0,.str [],.str [],.nils,I 0,I 0,I 0,I 0,.str []]):=fun N=>by kernel_rfl
 exact this N
theorem bs50 (N:Int):aBuildSlice Tryz.prog 50 1 [(0,.agg (evC (run1 N)))]=some (.sl 35 11 [.agg (evC (run1 N))] .own):=by
 have:∀N,aBuildSlice Tryz.prog 50 1 [(0,.agg [I 6,I N,I 0,.str [],.str [],.nils,I 0,I 0,I 0,I 0,.str []])]=some (.sl 35 11 [.agg [I 6,I N,I 0,.str [],.str [],.nils,I 0,I 0,I 0,I 0,.str []]] .own):=fun N=>by kernel_rfl
 exact this N
theorem evL1 {s:Heap}{e:Evn}(h:EvOK e):EvL s (.sl 35 11 [.agg (evC e)] .sh) [e]:=by
 have:=SL.sl (s:=s) (ty:=35) (z:=11) ([e].map evC) .sh (ev_els [e] (fun x hx=>by rw[List.mem_singleton.1 hx];exact h) (by simp))
 exact⟨this,fun x hx=>by rw[List.mem_singleton.1 hx];exact h⟩
theorem ansR_pd (st:St)(p:List Req)(r:Req):ansR { st with pd:=p } r=ansR st r:=rfl
theorem ansR_ci (st:St)(r:Req):(ansR st r).c=r.c∧(ansR st r).id=r.id:=by
 unfold ansR
 split<;>exact⟨rfl,rfl⟩
theorem RunOK.next {st:St}{k:Nat}{N:Int}{rs l:List Resp}{st':St}{m:Nat}(hk:k≤st.pd.length)(h:RunOK { st with pd:=st.pd.drop k } N l st' m)(hr:rs=(st.pd.take k).map (ansR st)) :
  rs++l=(st.pd.take (k+m)).map (ansR st)∧st'={ st with pd:=st.pd.drop (k+m) }∧k+m≤st.pd.length∧(k+m=st.pd.length∨N≤m):=by
 have h1:=h.le
 have h2:=h.ans
 have h3:=h.eq
 have h4:=h.all
 simp only[List.length_drop]at h1 h4
 refine⟨?_,?_,by omega,h4.imp (fun e=>by omega) id⟩
 ·rw[hr,h2,List.take_add,List.map_append]
  rfl
 ·rw[h3,List.drop_drop]
theorem RC.at {s:Heap}:∀{es:List (List AV)}{l:List Resp},RC s es l→∀{i:Nat}(hi:i<l.length)(hi':i<es.length),RC1 s es[i] l[i]
 | e::es,r::l,h,0,_,_=>h.1
 | e::es,r::l,h,i+1,h1,h2=>RC.at h.2 (Nat.lt_of_succ_lt_succ h1) (Nat.lt_of_succ_lt_succ h2)
theorem und29l:aLen Tryz.prog 29 .nils=some (I 0):=by kernel_rfl
theorem RV.at {s:Heap}{v:AV}{l:List Resp}(h:RV s v l){i:Nat}(hi:i<l.length):∃p,aIndexAddr Tryz.prog 29 v (I i)=some p∧Rd p∧(∃q,aAddr 0 p=some q∧aLoad false false 1 q s=some (I l[i].c,s)∧Rd q)∧(∃q,aAddr 1 p=some q∧aLoad false false 1 q s=some (I l[i].id,s)∧Rd q):=by
 obtain⟨es,h1,h2⟩:=h
 have hl:=h2.len
 have hi':i<es.length:=by omega
 obtain⟨p,p1,_,p3,p4⟩:=h1.at und29 sz61 (by decide) (by decide) hi'
 obtain⟨nv,hn,_⟩:=h2.at hi hi'
 exact⟨p,p1,p3,p4 0 _ (by rw[hn];rfl),p4 1 _ (by rw[hn];rfl)⟩
theorem ls35 (N:Int):(AV.sl 35 11 [.agg (evC (run1 N))] .own).strip=.sl 35 11 [.agg (evC (run1 N))] .sh:=rfl
theorem play1 {s:Heap}{V:Nat}{G:Foot}{st:St}{k:Nat}{B:Int}(h:SrvI s V G { st with pd:=st.pd.drop k } B)(hB:B<90000)(hk:k≤st.pd.length){N:Int}(hN:0≤N)(hN2:N<9223372036854775808) :
  ∃w s' l m,aCall Tryz.prog (den C 200331) 21 [.ref V 0,.sl 35 11 [.agg (evC (run1 N))] .sh] s=some (w,s')∧OV s.length s' w l∧SrvI s' V (FN G s s') { st with pd:=st.pd.drop (k+m) } (B+1000)∧Fg G s s'∧(st.pd.take k).map (ansR st)++l=(st.pd.take (k+m)).map (ansR st)∧k+m≤st.pd.length∧(k+m=st.pd.length∨N≤m)∧l.length≤1000:=by
 obtain⟨w,s',l,st2,d1,d2,d3,d4,d5,d6⟩:=c21 200000 (by decide) (by decide) h (evL1 (run1_ok hN2)) (by simp) hB
 obtain⟨err,hs⟩:=d3.one
 obtain⟨m,hm⟩:=run1_step hN hs
 obtain⟨n1,rfl,n3,n4⟩:=hm.next hk rfl
 refine⟨w,s',l,m,?_,d2,d4,d5,n1,n3,n4,d6⟩
 rw[aCall,if_pos (by kernel_rfl),if_neg (by simp[noRefL_cons,AV.noRef,noRefL])];exact d1
end Srv
end

section
namespace Srv
open Go Go.Abs Go.Proofs
theorem c52 (n:Nat){s:Heap}{v w:AV}{l:List Int}(h:IV s v l)(k:IV s w l)(hn:l.length<n):den C (n+1) 52 [v,w] s=some (.bool true,s):=by
 have hs:=h.strip
 have ks:=k.strip
 have l1:aLen Tryz.prog 59 v.strip=some (I l.length):=hs.len
 have l2:aLen Tryz.prog 59 w.strip=some (I l.length):=ks.len
 have hb:=h.bnd
 rw[rd Tryz.func52];conv in compF _ _ _ _ _ _=>cbv
 simp only[strip_rs,strip_mr,strip_nilf,Bool.false_eq_true,if_false,↓kR,kE,kK,sL,C_P,Nat.reduceEqDiff,reduceIte,Tryz.f52,l1,l2,bne_self_eq_false,sL]
 refine loopI (R:=fun a=>a=some (.bool true,s)) (fun i e s1=>s1=s∧e 0=v∧e 1=w∧e 12=I l.length∧e 13=I i) l.length ?_ ?_ l.length 0 (by omega) n hn _ _ ⟨rfl,rfl,rfl,rfl,rfl⟩
 ·rintro i e s1 q hi ⟨rfl,e0,e1,e12,e13⟩ hk
  have hlt:decide (i<l.length)=true:=decide_eq_true hi
  obtain⟨p,p1,p2,p3⟩:=hs.at hi
  obtain⟨p',p1',p2',p3'⟩:=ks.at hi
  simp only[strip_rs,strip_mr,strip_nilf,Bool.false_eq_true,if_false,↓kR,kE,kK,sL,C_P,Nat.reduceEqDiff,reduceIte,e0,e1,e12,e13,hlt,p1,p2,p1',p2',bne_self_eq_false,rd_compat p3 p3',sL]
  rw[wrap64 (by omega) (by omega)]
  exact hk _ _ ⟨rfl,e0,e1,e12,iS i⟩
 ·rintro e s1 q ⟨rfl,e0,e1,e12,e13⟩
  have hlt:decide (l.length<l.length)=false:=decide_eq_false (by omega)
  simp only[strip_rs,strip_mr,strip_nilf,Bool.false_eq_true,if_false,↓kR,kE,kK,sL,C_P,Nat.reduceEqDiff,reduceIte,e12,e13,hlt,sL]
theorem IV.pure {s t:Heap}{v:AV}{xs:List Int}(h:IV s v xs)(hr:v.noRef=true):IV t v xs:=by
 cases h with
 | nil=>exact .nil
 | sl _ f hb=>exact .sl _ f hb
 | rs Q off pre junk xs h hp hb=>exact absurd hr (by simp[AV.noRef])
theorem a52 (n:Nat){s:Heap}{v w:AV}{l:List Int}(h:IV s v l)(k:IV s w l)(hn:l.length<n):aCall Tryz.prog (den C (n+1)) 52 [v,w] s=some (.bool true,s) :=
 aC (by kernel_rfl) rfl (fun hr=>⟨[],by
  simp only[noRefL,Bool.and_eq_true]at hr
  exact c52 n (h.pure hr.1) (k.pure hr.2.1) hn⟩) fun _=>c52 n h k hn
theorem RC.at' {s:Heap}:∀{es:List (List AV)}{l:List Resp},RC s es l→∀{i:Nat}(hi:i<l.length)(hi':i<es.length),RC1 s es[i] l[i]
 | e::es,r::l,h,0,_,_=>h.1
 | e::es,r::l,h,i+1,h1,h2=>RC.at' h.2 (Nat.lt_of_succ_lt_succ h1) (Nat.lt_of_succ_lt_succ h2)
theorem RV.strip' {s:Heap}{v:AV}{l:List Resp}(h:RV s v l):RV s v.strip l:=by
 obtain⟨es,h1,h2⟩:=h
 exact⟨es,h1.strip,h2⟩
theorem RV.at' {s:Heap}{v:AV}{l:List Resp}(h:RV s v l){i:Nat}(hi:i<l.length):∃p,aIndexAddr Tryz.prog 29 v (I i)=some p∧(∃q,aAddr 0 p=some q∧aLoad false false 1 q s=some (I l[i].c,s)∧Rd q)∧(∃q,aAddr 1 p=some q∧aLoad false false 1 q s=some (I l[i].id,s)∧Rd q)∧(∃q,aAddr 2 p=some q∧aLoad false false 1 q s=some (I l[i].err,s)∧Rd q)∧(∃q,aAddr 3 p=some q∧aLoad false false 1 q s=some (I l[i].rev,s)∧Rd q)∧(∃q nv,aAddr 4 p=some q∧aLoad false false 1 q s=some (nv,s)∧Rd q∧IV s nv l[i].nums∧nv.strip=nv)∧(∃q,aAddr 5 p=some q∧aLoad false false 1 q s=some (.str l[i].tx,s)∧Rd q):=by
 obtain⟨es,h1,h2⟩:=h
 have hl:=h2.len
 have hi':i<es.length:=by omega
 obtain⟨p,p1,_,p3,p4⟩:=h1.at und29 sz61 (by decide) (by decide) hi'
 obtain⟨nv,hn,hi1,hi2⟩:=h2.at' hi hi'
 obtain⟨q4,a4,b4,c4⟩:=p4 4 _ (by rw[hn];rfl)
 exact⟨p,p1,p4 0 _ (by rw[hn];rfl),p4 1 _ (by rw[hn];rfl),p4 2 _ (by rw[hn];rfl),p4 3 _ (by rw[hn];rfl),⟨q4,nv,a4,b4,c4,hi1,hi2⟩,p4 5 _ (by rw[hn];rfl)⟩
theorem RV.len' {s:Heap}{v:AV}{l:List Resp}(h:RV s v l):aLen Tryz.prog 29 v=some (I l.length)∧l.length<1000000:=by
 obtain⟨es,h1,h2⟩:=h
 have:=h1.len und29
 have hb:=h1.els.2
 rw[h2.len]at this hb
 exact⟨this,hb⟩
theorem t20:compF C 20 refs owns Tryz.f20 2=RC.seq (RC.reg [RO.n (some 4) (RP.raw false false (Op.assign (Operand.const (Value.bool false))))]) (RC.seq (RC.seq (RC.reg [RO.n (some 6) (RP.raw false false (Op.move (Operand.tmp 0))),RO.n (some 7) (RP.raw false false (Op.call { callee:=Callee.builtin Builtin.len,args:={ toList:=[Operand.tmp 6] },argTypes:={ toList:=[29] } })),RO.n (some 8) (RP.raw false false (Op.move (Operand.tmp 1))),RO.n (some 9) (RP.raw false false (Op.call { callee:=Callee.builtin Builtin.len,args:={ toList:=[Operand.tmp 8] },argTypes:={ toList:=[29] } })),RO.n (some 10) (RP.raw false false (Op.binOp BinOp.neq 3 (Operand.tmp 7) (Operand.tmp 9) 3))]) (RC.cond (Operand.tmp 10) (RC.seq (RC.reg [RO.n (some 4) (RP.raw false false (Op.assign (Operand.const (Value.bool false))))]) RC.ret) RC.skip)) (RC.seq (RC.seq (RC.reg [RO.n (some 11) (RP.raw false false (Op.move (Operand.tmp 0))),RO.n (some 12) (RP.raw false false (Op.call { callee:=Callee.builtin Builtin.len,args:={ toList:=[Operand.tmp 11] },argTypes:={ toList:=[29] } })),RO.n (some 13) (RP.raw false false (Op.move (Operand.const (Value.int IntKind.i64 0))))]) (RC.block 0 (RC.loop (RC.seq (RC.reg [RO.n (some 14) (RP.raw false false (Op.binOp BinOp.lss 3 (Operand.tmp 13) (Operand.tmp 12) 3))]) (RC.seq (RC.cond (Operand.tmp 14) RC.skip (RC.exit 0)) (RC.seq (RC.block 1 (RC.seq (RC.reg [RO.n (some 15) (RP.raw false false (Op.move (Operand.tmp 13))),RO.t (some 5) 15 (RP.raw false false (Op.assign (Operand.tmp 15)))]) (RC.seq (RC.regK [RO.n (some 16) (RP.raw false false (Op.move (Operand.tmp 0))),RO.n (some 17) (RP.raw false false (Op.move (Operand.tmp 5))),RO.n (some 18) (RP.raw false false (Op.indexAddr 29 (Operand.tmp 16) (Operand.tmp 17))),RO.n (some 19) (RP.fa 0 (Operand.tmp 18)),RO.n (some 20) (RP.ld false false 1 (Operand.tmp 19)),RO.n (some 21) (RP.raw false false (Op.move (Operand.tmp 1))),RO.n (some 22) (RP.raw false false (Op.move (Operand.tmp 5))),RO.n (some 23) (RP.raw false false (Op.indexAddr 29 (Operand.tmp 21) (Operand.tmp 22))),RO.n (some 24) (RP.fa 0 (Operand.tmp 23)),RO.n (some 25) (RP.ld false false 1 (Operand.tmp 24)),RO.n (some 26) (RP.raw false false (Op.binOp BinOp.neq 3 (Operand.tmp 20) (Operand.tmp 25) 3)),RO.n (some 27) (RP.raw false false (Op.move (Operand.tmp 26))),RO.g (some 28) 27 false (RP.raw false false (Op.move (Operand.tmp 0))),RO.g (some 29) 27 false (RP.raw false false (Op.move (Operand.tmp 5))),RO.g (some 30) 27 false (RP.raw false false (Op.indexAddr 29 (Operand.tmp 28) (Operand.tmp 29))),RO.g (some 31) 27 false (RP.fa 1 (Operand.tmp 30)),RO.g (some 32) 27 false (RP.ld false false 1 (Operand.tmp 31)),RO.g (some 33) 27 false (RP.raw false false (Op.move (Operand.tmp 1))),RO.g (some 34) 27 false (RP.raw false false (Op.move (Operand.tmp 5))),RO.g (some 35) 27 false (RP.raw false false (Op.indexAddr 29 (Operand.tmp 33) (Operand.tmp 34))),RO.g (some 36) 27 false (RP.fa 1 (Operand.tmp 35)),RO.g (some 37) 27 false (RP.ld false false 1 (Operand.tmp 36)),RO.g (some 38) 27 false (RP.raw false false (Op.binOp BinOp.neq 3 (Operand.tmp 32) (Operand.tmp 37) 3)),RO.n (some 39) (RP.raw false false (Op.pick (Operand.tmp 27) (Operand.const (Value.bool true)) (Operand.tmp 38))),RO.n (some 40) (RP.raw false false (Op.move (Operand.tmp 39))),RO.g (some 41) 40 false (RP.raw false false (Op.move (Operand.tmp 0))),RO.g (some 42) 40 false (RP.raw false false (Op.move (Operand.tmp 5))),RO.g (some 43) 40 false (RP.raw false false (Op.indexAddr 29 (Operand.tmp 41) (Operand.tmp 42))),RO.g (some 44) 40 false (RP.fa 2 (Operand.tmp 43)),RO.g (some 45) 40 false (RP.ld false false 1 (Operand.tmp 44)),RO.g (some 46) 40 false (RP.raw false false (Op.move (Operand.tmp 1))),RO.g (some 47) 40 false (RP.raw false false (Op.move (Operand.tmp 5))),RO.g (some 48) 40 false (RP.raw false false (Op.indexAddr 29 (Operand.tmp 46) (Operand.tmp 47))),RO.g (some 49) 40 false (RP.fa 2 (Operand.tmp 48)),RO.g (some 50) 40 false (RP.ld false false 1 (Operand.tmp 49)),RO.g (some 51) 40 false (RP.raw false false (Op.binOp BinOp.neq 24 (Operand.tmp 45) (Operand.tmp 50) 24)),RO.n (some 52) (RP.raw false false (Op.pick (Operand.tmp 40) (Operand.const (Value.bool true)) (Operand.tmp 51))),RO.n (some 53) (RP.raw false false (Op.move (Operand.tmp 52))),RO.g (some 54) 53 false (RP.raw false false (Op.move (Operand.tmp 0))),RO.g (some 55) 53 false (RP.raw false false (Op.move (Operand.tmp 5))),RO.g (some 56) 53 false (RP.raw false false (Op.indexAddr 29 (Operand.tmp 54) (Operand.tmp 55))),RO.g (some 57) 53 false (RP.fa 3 (Operand.tmp 56)),RO.g (some 58) 53 false (RP.ld false false 1 (Operand.tmp 57)),RO.g (some 59) 53 false (RP.raw false false (Op.move (Operand.tmp 1))),RO.g (some 60) 53 false (RP.raw false false (Op.move (Operand.tmp 5))),RO.g (some 61) 53 false (RP.raw false false (Op.indexAddr 29 (Operand.tmp 59) (Operand.tmp 60))),RO.g (some 62) 53 false (RP.fa 3 (Operand.tmp 61)),RO.g (some 63) 53 false (RP.ld false false 1 (Operand.tmp 62)),RO.g (some 64) 53 false (RP.raw false false (Op.binOp BinOp.neq 3 (Operand.tmp 58) (Operand.tmp 63) 3)),RO.n (some 65) (RP.raw false false (Op.pick (Operand.tmp 53) (Operand.const (Value.bool true)) (Operand.tmp 64))),RO.n (some 66) (RP.raw false false (Op.move (Operand.tmp 65))),RO.g (some 67) 66 false (RP.raw false false (Op.move (Operand.tmp 0))),RO.g (some 68) 66 false (RP.raw false false (Op.move (Operand.tmp 5))),RO.g (some 69) 66 false (RP.raw false false (Op.indexAddr 29 (Operand.tmp 67) (Operand.tmp 68))),RO.g (some 70) 66 false (RP.fa 5 (Operand.tmp 69)),RO.g (some 71) 66 false (RP.ld false false 1 (Operand.tmp 70)),RO.g (some 72) 66 false (RP.raw false false (Op.move (Operand.tmp 1))),RO.g (some 73) 66 false (RP.raw false false (Op.move (Operand.tmp 5))),RO.g (some 74) 66 false (RP.raw false false (Op.indexAddr 29 (Operand.tmp 72) (Operand.tmp 73))),RO.g (some 75) 66 false (RP.fa 5 (Operand.tmp 74)),RO.g (some 76) 66 false (RP.ld false false 1 (Operand.tmp 75)),RO.g (some 77) 66 false (RP.raw false false (Op.binOp BinOp.neq 9 (Operand.tmp 71) (Operand.tmp 76) 9)),RO.n (some 78) (RP.raw false false (Op.pick (Operand.tmp 66) (Operand.const (Value.bool true)) (Operand.tmp 77))),RO.n (some 79) (RP.raw false false (Op.move (Operand.tmp 78))),RO.g (some 80) 79 false (RP.raw false false (Op.move (Operand.tmp 0))),RO.g (some 81) 79 false (RP.raw false false (Op.move (Operand.tmp 5))),RO.g (some 82) 79 false (RP.raw false false (Op.indexAddr 29 (Operand.tmp 80) (Operand.tmp 81))),RO.g (some 83) 79 false (RP.fa 4 (Operand.tmp 82)),RO.g (some 84) 79 false (RP.ld false false 1 (Operand.tmp 83)),RO.g (some 85) 79 false (RP.raw false false (Op.move (Operand.tmp 1))),RO.g (some 86) 79 false (RP.raw false false (Op.move (Operand.tmp 5))),RO.g (some 87) 79 false (RP.raw false false (Op.indexAddr 29 (Operand.tmp 85) (Operand.tmp 86))),RO.g (some 88) 79 false (RP.fa 4 (Operand.tmp 87)),RO.g (some 89) 79 false (RP.ld false false 1 (Operand.tmp 88)),RO.g (some 90) 79 false (RP.raw false false (Op.call { callee:=Callee.value (Operand.func 52),args:={ toList:=[Operand.tmp 84,Operand.tmp 89] },argTypes:={ toList:=[59,59] } })),RO.g (some 91) 79 false (RP.raw false false (Op.unOp UnOp.not 4 (Operand.tmp 90))),RO.n (some 92) (RP.raw false false (Op.pick (Operand.tmp 79) (Operand.const (Value.bool true)) (Operand.tmp 91)))] [(0,1),(0,5),(1,5),(2,5),(3,5),(4,5),(0,6),(1,6),(2,6),(3,6),(4,6),(5,6),(0,7),(1,7),(2,7),(3,7),(4,7),(0,8),(1,8),(2,8),(3,8),(4,8),(0,9),(1,9),(2,9),(3,9),(4,9),(12,13),(12,17),(13,17),(14,17),(15,17),(16,17),(12,18),(13,18),(14,18),(15,18),(16,18),(17,18),(12,19),(13,19),(14,19),(15,19),(16,19),(12,20),(13,20),(14,20),(15,20),(16,20),(12,21),(13,21),(14,21),(15,21),(16,21),(25,26),(25,30),(26,30),(27,30),(28,30),(29,30),(25,31),(26,31),(27,31),(28,31),(29,31),(30,31),(25,32),(26,32),(27,32),(28,32),(29,32),(25,33),(26,33),(27,33),(28,33),(29,33),(25,34),(26,34),(27,34),(28,34),(29,34),(38,39),(38,43),(39,43),(40,43),(41,43),(42,43),(38,44),(39,44),(40,44),(41,44),(42,44),(43,44),(38,45),(39,45),(40,45),(41,45),(42,45),(38,46),(39,46),(40,46),(41,46),(42,46),(38,47),(39,47),(40,47),(41,47),(42,47),(51,52),(51,56),(52,56),(53,56),(54,56),(55,56),(51,57),(52,57),(53,57),(54,57),(55,57),(56,57),(51,58),(52,58),(53,58),(54,58),(55,58),(51,59),(52,59),(53,59),(54,59),(55,59),(51,60),(52,60),(53,60),(54,60),(55,60),(64,65),(64,69),(65,69),(66,69),(67,69),(68,69),(64,70),(65,70),(66,70),(67,70),(68,70),(69,70),(64,71),(65,71),(66,71),(67,71),(68,71),(64,72),(65,72),(66,72),(67,72),(68,72),(64,73),(65,73),(66,73),(67,73),(68,73)]) (RC.cond (Operand.tmp 92) (RC.seq (RC.reg [RO.n (some 4) (RP.raw false false (Op.assign (Operand.const (Value.bool false))))]) RC.ret) RC.skip)))) (RC.reg [RO.n (some 93) (RP.raw false false (Op.binOp BinOp.add 3 (Operand.tmp 13) (Operand.const (Value.int IntKind.i64 1)) 3)),RO.n (some 13) (RP.raw false false (Op.move (Operand.tmp 93)))]))))))) (RC.seq (RC.reg [RO.n (some 4) (RP.raw false false (Op.assign (Operand.const (Value.bool true))))]) RC.ret))):=by kernel_rfl
set_option maxHeartbeats 4000000 in
theorem c20 (n:Nat){s:Heap}{v w:AV}{l:List Resp}(h:RV s v l)(k:RV s w l)(hn:l.length<n)(hm:∀r∈l,r.nums.length<n):den C (n+2) 20 [v,w] s=some (.bool true,s):=by
 have hs:=h.strip'
 have ks:=k.strip'
 obtain⟨l1,hb⟩:=hs.len'
 obtain⟨l2,_⟩:=ks.len'
 rw[rd Tryz.func20,show compF C 20 refs owns Tryz.f20 [v,w].length=_ from t20]
 simp only[strip_rs,strip_mr,strip_nilf,Bool.false_eq_true,if_false,↓kR,kE,kK,sL,C_P,Nat.reduceEqDiff,reduceIte,Tryz.f20,l1,l2,bne_self_eq_false,sL]
 refine loopI (R:=fun a=>a=some (.bool true,s)) (fun i e s1=>s1=s∧e 0=v∧e 1=w∧e 12=I l.length∧e 13=I i) l.length ?_ ?_ l.length 0 (by omega) _ (by omega) _ _ ⟨rfl,rfl,rfl,rfl,rfl⟩
 ·rintro i e s1 q hi ⟨rfl,e0,e1,e12,e13⟩ hk
  have hlt:decide (i<l.length)=true:=decide_eq_true hi
  obtain⟨p,p1,⟨q0,a0,b0,g0⟩,⟨q1,a1,b1,g1⟩,⟨q2,a2,b2,g2⟩,⟨q3,a3,b3,g3⟩,⟨q4,nv,a4,b4,g4,d4,f4⟩,⟨q5,a5,b5,g5⟩⟩:=hs.at' hi
  obtain⟨p',p1',⟨u0,x0,y0,z0⟩,⟨u1,x1,y1,z1⟩,⟨u2,x2,y2,z2⟩,⟨u3,x3,y3,z3⟩,⟨u4,mv,x4,y4,z4,w4,v4⟩,⟨u5,x5,y5,z5⟩⟩:=ks.at' hi
  have ns:aBin Tryz.prog .neq 9 (.str l[i].tx) (.str l[i].tx)=some (.bool false):=by simp[str_neq]
  have cl:=a52 n d4 w4 (hm _ (List.getElem_mem hi))
  simp only[strip_rs,strip_mr,strip_nilf,Bool.false_eq_true,if_false,↓kR,kE,kK,sL,C_P,Nat.reduceEqDiff,reduceIte,e0,e1,e12,e13,hlt,p1,p1',a0,b0,a1,b1,a2,b2,a3,b3,a4,b4,a5,b5,x0,y0,x1,y1,x2,y2,x3,y3,x4,y4,x5,y5,f4,v4,cl,ns,bne_self_eq_false,rd_compat g0 z0,rd_compat g1 z1,rd_compat g2 z2,rd_compat g3 z3,rd_compat g4 z4,rd_compat g5 z5,sL]
  rw[wrap64 (by omega) (by omega)]
  exact hk _ _ ⟨rfl,e0,e1,e12,iS i⟩
 ·rintro e s1 q ⟨rfl,e0,e1,e12,e13⟩
  have hlt:decide (l.length<l.length)=false:=decide_eq_false (by omega)
  simp only[strip_rs,strip_mr,strip_nilf,Bool.false_eq_true,if_false,↓kR,kE,kK,sL,C_P,Nat.reduceEqDiff,reduceIte,e12,e13,hlt,sL]
end Srv
end

section
namespace Srv
open Go Go.Abs Go.Proofs
def evN (e:Evn):Evn:=if e.k=6 then { e with n:=20 } else e
theorem evN_ok {e:Evn}(h:EvOK e):EvOK (evN e):=by
 unfold evN
 split
 ·exact⟨h.ed,h.et,by show (20:Int)<_;decide⟩
 ·exact h
theorem evN_k (e:Evn):(evN e).k=e.k:=by unfold evN;split<;>rfl
theorem evN_n {e:Evn}(h:(evN e).k=6):(evN e).n=20:=by
 rw[evN_k]at h
 unfold evN
 rw[if_pos h]
theorem evN_evN (e:Evn):evN (evN e)=evN e:=by
 by_cases h:e.k=6
 ·have h2:(evN e).k=6:=by rw[evN_k];exact h
  have:evN (evN e)={ evN e with n:=20 }:=by
   show (if(evN e).k=6 then _ else _)=_
   rw[if_pos h2]
  rw[this]
  unfold evN
  rw[if_pos h]
 ·unfold evN
  rw[if_neg h,if_neg h]
def no7 (e:Evn):Bool:=decide (e.k≠7)
def wo (l:List Evn):List Evn:=(l.map evN).filter no7
theorem ansR_len (st:St)(r:Req)(h:st.ms.length≤8):(ansR st r).nums.length≤100:=by
 unfold ansR
 split
 ·show (compM _ _).2.1.length≤_
  unfold compM
  split
  ·exact Nat.le_of_lt (sk_len _ _ _ _ (by simp))
  ·exact Nat.le_of_lt (sk_len _ _ _ _ h)
 ·simp
theorem HStep.nums {st st':St}{e:Evn}{l:List Resp}{err:Int}(h:HStep st e l err st')(hb:st.ms.length≤8):∀r∈l,r.nums.length≤100:=by
 have nil:l=[]→∀r∈l,r.nums.length≤100:=fun e r hr=>by rw[e]at hr;cases hr
 unfold HStep at h
 split at h
 ·exact nil h.1
 split at h
 ·exact nil h.1
 split at h
 ·exact nil h.1
 split at h
 ·exact nil h.1
 split at h
 ·unfold canS at h
  split at h
  ·cases h
   intro r hr
   rw[List.mem_singleton.1 hr]
   simp
  ·cases h;exact nil rfl
 split at h
 ·split at h
  ·exact nil h.1
  ·obtain⟨_,m,hm⟩:=h
   intro r hr
   rw[hm.ans]at hr
   obtain⟨q,_,rfl⟩:=List.mem_map.1 hr
   exact ansR_len st q hb
 split at h
 ·split at h
  ·exact nil h.1
  ·exact nil h.1
 ·exact nil h.1
theorem Steps.nums {st st':St}{es:List Evn}{rs:List Resp}(h:Steps st es rs st'):∀r∈rs,r.nums.length≤100:=by
 induction h with
 | nil=>nofun
 | snoc h hb k ih =>
  intro r hr
  rcases List.mem_append.1 hr with hr|hr
  ·exact ih r hr
  ·exact k.nums hb.1 r hr
theorem RunOK.full {st st':St}{N:Int}{l:List Resp}{m:Nat}(h:RunOK st N l st' m)(hN:N=20)(hp:st.pd.length≤20):l=st.pd.map (ansR st)∧st'={ st with pd:=[] }:=by
 have h1:=h.le
 have h2:=h.all
 have e:m=st.pd.length:=by omega
 have h3:=h.ans
 have h4:=h.eq
 rw[e,List.take_length]at h3
 rw[e,List.drop_length]at h4
 exact⟨h3,h4⟩
end Srv
end

section
namespace Srv
open Go Go.Abs Go.Proofs
theorem SL.rs_inv {ty z:Nat}{s:Heap}{v:AV}{es:List (List AV)}(h:SL ty z s v es){Q len:Nat}(e:v=.rs ty z Q 0 len):∃junk,Els z es∧s[Q]?=some (ty,es.flatten++junk)∧0<(es.flatten++junk).length:=by
 cases h with
 | nil=>cases e
 | sl _ f h=>cases e
 | rs Q' off pre junk es hE hQ hp hn =>
  cases e
  have hpre:pre=[]:=List.eq_nil_of_length_eq_zero hp
  subst hpre
  exact⟨junk,hE,hQ,hn⟩
theorem Own.set {ty z b t:Nat}(hu:Tryz.prog.underlying t=some (.slice ty))(hz:szOf Tryz.prog ty=some z)(ht:ty<deadTy){s:Heap}{v:AV}{es:List (List AV)}(h:Own ty z b s v es){i j:Nat}(hi:i<es.length)(hj:j<z){x:AV}(hx:x.strip=x)(hx2:x.solid=true)(hx3:x.cells=[x])(hx4:stCells x=[x]) :
  ∃p q s',aIndexAddr Tryz.prog t v (I i)=some p∧aAddr j p=some q∧aStore 1 s q x=some s'∧Own ty z b s' v (es.set i (es[i].set j x))∧s'.length=s.length∧∀k,rowOf v≠some k→s'[k]?=s[k]?:=by
 obtain⟨hs,hv⟩:=h
 rcases hv with ⟨rfl,rfl⟩|⟨Q,rfl,hne,hb⟩
 ·cases hi
 ·obtain⟨junk,hE,hQ,hn⟩:=hs.rs_inv rfl
  have hl:=hE.len
  have hiz:i*z+z≤es.length*z:=by
   have:=Nat.mul_le_mul_right z (show i+1≤es.length from hi)
   rw[Nat.add_mul,Nat.one_mul]at this;exact this
  have hlt:(i:Int)<es.length:=by omega
  refine⟨.ref Q (0+i*z),.ref Q (0+i*z+j),s.set Q (ty,(es.set i (es[i].set j x)).flatten++junk),by simp[aIndexAddr,hu,hz,hlt],rfl,?_,⟨?_,.inr ⟨Q,by rw[List.length_set],?_,hb⟩⟩,by rw[List.length_set],fun k hk=>?_⟩
  ·rw[Srv.st (n:=1) hQ ht hx2 (by rw[hx3];rfl) (by rw[List.length_append];omega),hx4,setL_one,List.set_append_left _ _ (by omega),Nat.zero_add,flat_set (fun e he=>(hE.1 e he).1) hi hj]
  ·have hE2:Els z (es.set i (es[i].set j x)):=⟨fun e he=>by
    rcases List.mem_or_eq_of_mem_set he with he|rfl
    ·exact hE.1 e he
    ·obtain⟨a1,a2⟩:=hE.1 es[i] (List.getElem_mem hi)
     exact⟨by rw[List.length_set];exact a1,by rw[List.map_set,a2,hx]⟩,by rw[List.length_set];exact hE.2⟩
   have:=SL.rs (ty:=ty) (s:=s.set Q (ty,(es.set i (es[i].set j x)).flatten++junk)) Q 0 [] junk (es.set i (es[i].set j x)) hE2 (by rw[List.nil_append];exact gset_eq hQ) rfl (by
    rw[List.nil_append,List.length_append,hE2.len,List.length_set]
    rw[List.length_append,hl]at hn;exact hn)
   rwa [List.length_set]at this
  ·intro e
   have:=congrArg List.length e
   rw[List.length_set]at this
   exact hne (List.length_eq_zero_iff.1 this)
  ·exact gset_ne fun e=>hk (by rw[e];rfl)
theorem bsE (y:Evn):aBuildSlice Tryz.prog 50 1 [(0,.agg (evC y))]=some (.sl 35 11 [.agg (evC y)] .own):=by
 have:∀a b c d e f g h i j k,aBuildSlice Tryz.prog 50 1 [(0,.agg [I a,I b,I c,.str d,.str e,f,I g,I h,I i,I j,.str k])]=some (.sl 35 11 [.agg [I a,I b,I c,.str d,.str e,f,I g,I h,I i,I j,.str k]] .own):=fun a b c d e f g h i j k=>by kernel_rfl
 exact this _ _ _ _ _ _ _ _ _ _ _
theorem evN_6 {x:Evn}(h:x.k=6):evN x={ x with n:=20 }:=if_pos h
theorem evN_n6 {x:Evn}(h:¬x.k=6):evN x=x:=if_neg h
end Srv
end

section
namespace Srv
open Go Go.Abs Go.Proofs
theorem e23:enterable Tryz.prog 23=true:=by kernel_rfl
theorem e20:enterable Tryz.prog 20=true:=by kernel_rfl
theorem RV.pure {s t:Heap}{v:AV}{l:List Resp}(h:RV s v l)(hr:v.noRef=true):RV t v l:=by
 obtain⟨es,h1,h2⟩:=h
 refine⟨es,h1.pure hr,?_⟩
 have key:∀(es:List (List AV)) (l:List Resp),RC s es l→(∀e∈es,(AV.agg e).noRef=true)→RC t es l:=by
  intro es
  induction es with
  | nil=>intro l h _;cases l<;>first|exact h|exact h.elim
  | cons e es ih =>
   intro l h hn
   cases l with
   | nil=>exact h.elim
   | cons r l =>
    obtain⟨⟨nv,h3,h4,h5⟩,h6⟩:=h
    refine⟨⟨nv,h3,h4.pure ?_,h5⟩,ih l h6 fun x hx=>hn x (List.mem_cons_of_mem _ hx)⟩
    have:=hn e (List.mem_cons_self ..)
    rw[h3]at this
    simp only[AV.noRef,noRefL,Bool.and_eq_true]at this
    exact this.2.2.2.2.1
 refine key es l h2 fun e he=>?_
 cases h1 with
 | nil=>cases he
 | sl _ f hE =>
  simp only[AV.noRef]at hr
  have:∀(xs:List AV),noRefL xs=true→∀x∈xs,x.noRef=true:=by
   intro xs
   induction xs with
   | nil=>intro _ x hx;cases hx
   | cons y ys ih =>
    intro h x hx
    simp only[noRefL,Bool.and_eq_true]at h
    rcases List.mem_cons.1 hx with rfl|hx
    ·exact h.1
    ·exact ih h.2 x hx
  exact this _ hr _ (List.mem_map_of_mem he)
 | rs=>simp[AV.noRef]at hr
theorem a20 (n:Nat){s:Heap}{v w:AV}{l:List Resp}(h:RV s v l)(k:RV s w l)(hn:l.length<n)(hm:∀r∈l,r.nums.length<n):aCall Tryz.prog (den C (n+2)) 20 [v,w] s=some (.bool true,s) :=
 aC e20 rfl (fun hr=>⟨[],by
  simp only[noRefL,Bool.and_eq_true]at hr
  exact c20 n (h.pure hr.1) (k.pure hr.2.1) hn hm⟩) fun _=>c20 n h k hn hm
end Srv
end

section
namespace Srv
open Go Go.Abs Go.Proofs
theorem cb_eq:∀{a b:List UInt8},Lib.compareBytes a b=0→a=b
 | [],[],_=>rfl
 | [],_::_,h=>by simp[Lib.compareBytes]at h
 | _::_,[],h=>by simp[Lib.compareBytes]at h
 | a::xs,b::ys,h=>by
  unfold Lib.compareBytes at h
  split at h
  ·cases h
  ·rename_i h1
   split at h
   ·cases h
   ·rename_i h2
    have:a=b:=UInt8.le_antisymm (UInt8.not_lt.1 h2) (UInt8.not_lt.1 h1)
    rw[this,cb_eq h]
theorem cb_self:∀a:List UInt8,Lib.compareBytes a a=0
 | []=>rfl
 | a::xs=>by
  unfold Lib.compareBytes
  rw[if_neg (UInt8.lt_irrefl a),if_neg (UInt8.lt_irrefl a),cb_self xs]
theorem cb_swap:∀(a b:List UInt8),Lib.compareBytes a b<0↔0<Lib.compareBytes b a
 | [],[]=>by simp[Lib.compareBytes]
 | [],_::_=>by simp[Lib.compareBytes]
 | _::_,[]=>by simp[Lib.compareBytes]
 | a::xs,b::ys=>by
  unfold Lib.compareBytes
  by_cases h1:a<b
  ·have h2:¬b<a:=fun h=>UInt8.lt_asymm h1 h
   simp[h1,h2]
  ·by_cases h2:b<a
   ·simp[h1,h2]
   ·simp only[h1,h2,if_false]
    exact cb_swap xs ys
theorem cb_trans:∀{a b c:List UInt8},Lib.compareBytes a b<0→Lib.compareBytes b c<0→Lib.compareBytes a c<0
 | [],_,[],h,k=>by
  rename_i b
  cases b with
  | nil=>exact h
  | cons x xs=>simp[Lib.compareBytes]at k
 | [],_,_::_,h,k=>by simp[Lib.compareBytes]
 | _::_,[],_,h,k=>by simp[Lib.compareBytes]at h
 | _::_,_::_,[],h,k=>by simp[Lib.compareBytes]at k
 | a::xs,b::ys,c::zs,h,k=>by
  unfold Lib.compareBytes at h k ⊢
  by_cases h1:a<b
  ·by_cases k1:b<c
   ·rw[if_pos (UInt8.lt_trans h1 k1)];decide
   ·rw[if_neg k1]at k
    by_cases k2:c<b
    ·rw[if_pos k2]at k;exact absurd k (by decide)
    ·have:b=c:=UInt8.le_antisymm (UInt8.not_lt.1 k2) (UInt8.not_lt.1 k1)
     rw[←this,if_pos h1];decide
  ·rw[if_neg h1]at h
   by_cases h2:b<a
   ·rw[if_pos h2]at h;exact absurd h (by decide)
   ·have e:a=b:=UInt8.le_antisymm (UInt8.not_lt.1 h2) (UInt8.not_lt.1 h1)
    rw[if_neg h2]at h
    subst e
    by_cases k1:a<c
    ·rw[if_pos k1];decide
    ·rw[if_neg k1]at k ⊢
     by_cases k2:c<a
     ·rw[if_pos k2]at k;exact absurd k (by decide)
     ·rw[if_neg k2]at k ⊢
      exact cb_trans h k
theorem cb_total {a b:List UInt8}(h:¬Lib.compareBytes a b<0)(hne:a≠b):Lib.compareBytes b a<0:=by
 have h1:=cb_swap b a
 have h0:Lib.compareBytes a b≠0:=fun e=>hne (cb_eq e)
 exact h1.2 (by omega)
theorem bsF_ok {p:Nat→Bool}{N:Nat}(hp:∀i j,i<j→j<N→p j=true→p i=true):∀(n lo hi:Nat),lo≤hi→hi-lo≤n→hi≤N→(∀i,i<lo→p i=true)→(∀i,hi≤i→i<N→p i=false) →
  (∀i,i<bsF p n lo hi→p i=true)∧(∀i,bsF p n lo hi≤i→i<N→p i=false)
 | 0,lo,hi,h1,h2,h3,h4,h5=>by
  have:lo=hi:=by omega
  subst this
  exact⟨h4,h5⟩
 | n+1,lo,hi,h1,h2,h3,h4,h5=>by
  unfold bsF
  by_cases hlt:lo<hi
  ·rw[if_pos hlt]
   cases hm:p ((lo+hi) / 2) with
   | true =>
    rw[if_pos rfl]
    exact bsF_ok hp n _ _ (by omega) (by omega) h3 (fun i hi'=>by
     by_cases e:i=(lo+hi) / 2
     ·rw[e];exact hm
     ·exact hp i _ (by omega) (by omega) hm) h5
   | false =>
    rw[if_neg (by decide)]
    exact bsF_ok hp n _ _ (by omega) (by omega) (by omega) h4 (fun i hi' hN=>by
     by_cases e:i=(lo+hi) / 2
     ·rw[e];exact hm
     ·cases hpi:p i with
      | false=>rfl
      | true=>rw[hp _ i (by omega) hN hpi]at hm;cases hm)
  ·rw[if_neg hlt]
   have:lo=hi:=by omega
   subst this
   exact⟨h4,h5⟩
def Srt (ms:List Mod):Prop:=ms.Pairwise fun a b=>Lib.compareBytes a.1 b.1<0
theorem lessAt_eq {ms:List Mod}{t:Bytes}{i:Nat}(hi:i<ms.length):lessAt ms t i=decide (Lib.compareBytes ms[i].1 t<0):=by
 unfold lessAt
 rw[List.getD_eq_getElem?_getD,List.getElem?_eq_getElem hi];rfl
theorem bsP_ok {ms:List Mod}(hs:Srt ms)(t:Bytes):(∀i (h:i<ms.length),i<bsP ms t→Lib.compareBytes ms[i].1 t<0)∧(∀i (h:i<ms.length),bsP ms t≤i→¬Lib.compareBytes ms[i].1 t<0):=by
 have hs':=List.pairwise_iff_getElem.1 hs
 have:=bsF_ok (p:=lessAt ms t) (N:=ms.length) (fun i j hij hj hpj=>by
  rw[lessAt_eq hj,decide_eq_true_eq]at hpj
  rw[lessAt_eq (by omega),decide_eq_true_eq]
  exact cb_trans (hs' i j (by omega) hj hij) hpj) ms.length 0 ms.length (Nat.zero_le _) (by omega) (Nat.le_refl _) nofun (fun i h1 h2=>by omega)
 refine⟨fun i h hlt=>?_,fun i h hle=>?_⟩
 ·have:=this.1 i hlt
  rw[lessAt_eq h,decide_eq_true_eq]at this;exact this
 ·have:=this.2 i hle h
  rw[lessAt_eq h,decide_eq_false_iff_not]at this;exact this
theorem nmP_iff {nm:Bytes}{m:Mod}:nmP nm m=true↔m.1=nm:=by simp[nmP]
theorem any_nm {ms:List Mod}{nm:Bytes}(h:ms.any (nmP nm)=false):∀m∈ms,m.1≠nm:=fun m hm e=>by
 have:ms.any (nmP nm)=true:=List.any_eq_true.2 ⟨m,hm,nmP_iff.2 e⟩
 rw[h]at this;cases this
theorem wrM_srt {ms:List Mod}(hs:Srt ms)(nm tx:Bytes):Srt (wrM ms nm tx):=by
 unfold wrM
 cases h:ms.any (nmP nm) with
 | true =>
  rw[if_pos rfl]
  obtain⟨hi,he⟩:=findIdx_any h
  have he:=nmP_iff.1 he
  have hmap:∀(l:List Mod),Srt l↔(l.map (·.1)).Pairwise fun a b=>Lib.compareBytes a b<0:=fun l=>by unfold Srt;rw[List.pairwise_map]
  rw[hmap]at hs ⊢
  rw[List.map_set]
  have hj:ms.findIdx (nmP nm)<(ms.map (·.1)).length:=by rw[List.length_map];exact hi
  have he2:nm=(ms.map (·.1))[ms.findIdx (nmP nm)]:=by rw[List.getElem_map];exact he.symm
  have:(ms.map (·.1)).set (ms.findIdx (nmP nm)) nm=ms.map (·.1):=by
   conv=>lhs;arg 3;rw[he2]
   exact List.set_getElem_self hj
  rw[this];exact hs
 | false =>
  rw[if_neg (by decide)]
  obtain⟨b1,b2⟩:=bsP_ok hs nm
  have hne:=any_nm h
  have hcat:(ms.take (bsP ms nm)++ms.drop (bsP ms nm))=ms:=List.take_append_drop _ _
  have hs2:Srt (ms.take (bsP ms nm)++ms.drop (bsP ms nm)):=by rw[hcat];exact hs
  obtain⟨p1,p2,p3⟩:=List.pairwise_append.1 hs2
  have q1:∀m∈ms.take (bsP ms nm),Lib.compareBytes m.1 nm<0:=fun m hm=>by
   obtain⟨i,hi,rfl⟩:=List.getElem_of_mem hm
   rw[List.length_take]at hi
   rw[List.getElem_take]
   exact b1 i (by omega) (by omega)
  have q2:∀m∈ms.drop (bsP ms nm),Lib.compareBytes nm m.1<0:=fun m hm=>by
   have hm':=List.mem_of_mem_drop hm
   obtain⟨i,hi,rfl⟩:=List.getElem_of_mem hm
   rw[List.length_drop]at hi
   rw[List.getElem_drop]at hm' ⊢
   exact cb_total (b2 _ (by omega) (by omega)) (hne _ hm')
  refine List.pairwise_append.2 ⟨p1,List.pairwise_cons.2 ⟨q2,p2⟩,fun a ha b hb=>?_⟩
  rcases List.mem_cons.1 hb with rfl|hb
  ·exact q1 a ha
  ·exact p3 a ha b hb
theorem repl_ms {st st':St}{err:Int}{ms:List Mod}{vs:List Int}(h:(err,st')=repl st ms vs):st'.ms=st.ms∨st'.ms=ms:=by
 unfold repl at h
 split at h
 ·cases h;exact .inr rfl
 ·cases h;exact .inl rfl
theorem HStep.srt {st st':St}{e:Evn}{l:List Resp}{err:Int}(h:HStep st e l err st')(hs:Srt st.ms):Srt st'.ms:=by
 have rp:∀(ms:List Mod) (vs:List Int),Srt ms→(err,st')=repl st ms vs→Srt st'.ms:=fun ms vs hm hx=>by
  rcases repl_ms hx with e|e<;>rw[e]
  ·exact hs
  ·exact hm
 have wp:∀(a b:Bytes),(err,st')=wr st a b→Srt st'.ms:=fun a b hx=>rp _ _ (wrM_srt hs a b) hx
 unfold HStep at h
 split at h
 ·exact wp _ _ h.2
 split at h
 ·have:=h.2
  unfold rem at this
  split at this
  ·exact rp _ _ (hs.sublist (rmM_sub _ _)) this
  ·cases this;exact hs
 split at h
 ·have:=h.2
  unfold edt at this
  split at this
  ·split at this
   ·split at this
    ·exact wp _ _ this
    ·cases this;exact hs
   ·cases this;exact hs
  ·cases this;exact hs
 split at h
 ·have:=h.2
  unfold reqS at this
  split at this
  ·cases this;exact hs
  split at this
  ·cases this;exact hs
  split at this
  ·cases this;exact hs
  ·cases this;exact hs
 split at h
 ·unfold canS at h
  split at h
  ·cases h;exact hs
  ·cases h;exact hs
 split at h
 ·split at h
  ·rw[h.2.2];exact hs
  ·obtain⟨_,m,hm⟩:=h
   rw[hm.eq];exact hs
 split at h
 ·split at h
  ·rw[h.2.2];exact hs
  ·rw[h.2.2];exact hs
 ·rw[h.2.2];exact hs
theorem Steps.srt {st st':St}{es:List Evn}{rs:List Resp}(h:Steps st es rs st')(hs:Srt st.ms):Srt st'.ms:=by
 induction h with
 | nil=>exact hs
 | snoc h hb k ih=>exact k.srt ih
theorem vErr_take {ms:List Mod}(h:vErr ms=0)(i:Nat):vErr (ms.take i)=0:=by
 unfold vErr at h ⊢
 split at h
 ·cases h
 rename_i h1
 split at h
 ·cases h
 rename_i h2
 split at h
 ·rename_i h3
  have c1:¬(8<(ms.take i).length∨((ms.take i).any fun m=>decide (2000<m.2.length))=true):=by
   intro hc
   refine h1 (hc.imp (fun hc=>?_) fun hc=>?_)
   ·rw[List.length_take]at hc;omega
   ·obtain⟨m,hm,hq⟩:=List.any_eq_true.1 hc
    exact List.any_eq_true.2 ⟨m,List.mem_of_mem_take hm,hq⟩
  have c2:¬((ms.take i).any fun m=>!isId m.1)=true:=by
   intro hc
   refine h2 ?_
   obtain⟨m,hm,hq⟩:=List.any_eq_true.1 hc
   exact List.any_eq_true.2 ⟨m,List.mem_of_mem_take hm,hq⟩
  rw[if_neg c1,if_neg c2,if_pos]
  rw[nms_take]
  exact h3.sublist (List.take_sublist _ _)
 ·cases h
theorem wr_next {ms:List Mod}(hs:Srt ms)(hv:vErr ms=0){i:Nat}(hi:i<ms.length){st st':St}{err:Int}(hst:st.ms=ms.take i)(h:(err,st')=wr st ms[i].1 ms[i].2):st'.ms=ms.take (i+1)∧st'.pd=st.pd:=by
 have hs':=List.pairwise_iff_getElem.1 hs
 have hlt:∀j (h:j<(ms.take i).length),Lib.compareBytes (ms.take i)[j].1 ms[i].1<0:=fun j hj=>by
  rw[List.length_take]at hj
  rw[List.getElem_take]
  exact hs' j i (by omega) hi (by omega)
 have hany:(ms.take i).any (nmP ms[i].1)=false:=by
  cases hc:(ms.take i).any (nmP ms[i].1) with
  | false=>rfl
  | true =>
   obtain⟨m,hm,he⟩:=List.any_eq_true.1 hc
   obtain⟨j,hj,rfl⟩:=List.getElem_of_mem hm
   have:=hlt j hj
   rw[nmP_iff.1 he,cb_self]at this
   exact absurd this (by decide)
 have hbs:bsP (ms.take i) ms[i].1=(ms.take i).length:=by
  have h1:=bsP_le (ms.take i) ms[i].1
  rcases Nat.lt_or_ge (bsP (ms.take i) ms[i].1) (ms.take i).length with h2|h2
  ·exact absurd (hlt _ h2) ((bsP_ok (hs.sublist (List.take_sublist _ _)) ms[i].1).2 _ h2 (Nat.le_refl _))
  ·omega
 have hM:wrM (ms.take i) ms[i].1 ms[i].2=ms.take (i+1):=by
  unfold wrM
  rw[hany,if_neg (by decide),hbs,List.take_length,List.drop_length,List.take_succ,List.getElem?_eq_getElem hi]
  rfl
 unfold wr repl at h
 rw[hst,hM,vErr_take hv,if_pos rfl]at h
 cases h
 exact⟨rfl,rfl⟩
theorem can_head {st:St}{r:Req}{l:List Req}(h:st.pd=r::l){l1:List Resp}{err:Int}{st':St}(hc:(l1,err,st')=canS st r.c r.id):st'={ st with pd:=l }:=by
 have ha:rqP r.c r.id r=true:=by simp[rqP]
 unfold canS at hc
 rw[h,if_pos (by rw[List.any_cons,ha];rfl)]at hc
 have hf:(r::l).findIdx (rqP r.c r.id)=0:=by rw[List.findIdx_cons,ha];rfl
 rw[hf]at hc
 cases hc
 rfl
def z0 (r:Resp):Resp:={ r with rev:=0 }
theorem ansR_z0 {st st2:St}(h:st.ms=st2.ms)(r:Req):z0 (ansR st r)=z0 (ansR st2 r):=by
 unfold ansR
 rw[h]
 split<;>rfl
def ask (r:Req):List Evn:=[⟨4,0,0,[],[],.nils,[],r⟩,run1 1]
theorem ask_run {st st':St}{r:Req}{rs:List Resp}(h:Steps st (ask r) rs st')(hp:st.pd=[]):rs=(if r.q<1∨8<r.q then[] else[ansR st r])∧st'.ms=st.ms:=by
 rcases h.inv with ⟨h1,_⟩|⟨es',e',l,l1,st1,err,h1,rfl,h3,h4,_⟩
 ·cases h1
 ·have h1:[⟨4,0,0,[],[],.nils,[],r⟩]++[run1 1]=es'++[e']:=h1
  obtain⟨h5,h6⟩:=List.append_inj' h1 rfl
  obtain rfl:=(List.cons.inj h6).1
  subst h5
  obtain⟨err1,k⟩:=h3.one
  have k:l=[]∧(err1,st1)=reqS st r:=k
  obtain⟨m,hm⟩:=run1_step (by decide) h4
  have a1:=hm.le
  have a2:=hm.ans
  have a3:=hm.eq
  have a4:=hm.all
  have k2:=k.2
  unfold reqS at k2
  rw[hp]at k2
  rw[if_neg (by simp),if_neg (by simp)]at k2
  rw[k.1,List.nil_append]
  by_cases hq:r.q<1∨8<r.q
  ·rw[if_pos hq]at k2 ⊢
   cases k2
   rw[a2,hp,a3]
   exact⟨by simp,rfl⟩
  ·rw[if_neg hq]at k2 ⊢
   cases k2
   have hm1:m=1:=by
    simp at a1 a4
    omega
   rw[a2,a3,hm1]
   exact⟨rfl,rfl⟩
end Srv
end

section
namespace Srv
open Go Go.Abs Go.Proofs
theorem SI.sep {s s':Heap}{V:Nat}{G F:Foot}{S M D Mr Ma Av:Nat}{r:Int}{f:Inp}{comps clock:Int}{ql:List Ent}{mv vv pv:AV}{st:St}(h:SI s V G F S M D Mr Ma Av r f comps clock ql mv vv pv st)(hl:s.length≤s'.length)(ty:∀(i:Nat)(t:TypeId)(cs:List AV),s[i]?=some (t,cs)→t≠86→t≠121→t≠mapTy→t≠148→t≠163→t≠33→s'[i]?=some (t,cs))(gk:∀i,G i→s'[i]?=s[i]?):SI s' V G F S M D Mr Ma Av r f comps clock ql mv vv pv st:=by
 have tyE:∀(i:Nat) (t:TypeId) (cs:List AV),s[i]?=some (t,cs)→t=3∨t=79∨t=45∨t=54→s'[i]?=some (t,cs):=fun i t cs hi ht=>by
  rcases ht with rfl|rfl|rfl|rfl<;>exact ty i _ cs hi (by decide) (by decide) (by decide) (by decide) (by decide) (by decide)
 have rows:Rows s s':=fun i t cs hi ht=>tyE i t cs hi (ht.elim .inl fun h=>.inr (.inl h))
 have m:=h.m
 exact⟨⟨⟨m.db.inp.keep fun i hi=>gk i (h.G1 i hi),(gk _ h.G2.2.1).trans m.db.db,tyE _ _ _ m.db.av (by simp),(gk _ h.G2.2.2.1).trans m.db.rm,(gk _ h.G2.2.2.2.1).trans m.db.am⟩,⟨fun e he=>(m.q.ro e he).keep rows (gk _ (h.G2.2.2.2.2.1 e he)),m.q.sem,m.q.ks,m.q.Rs,m.q.us,m.q.ub⟩,fun i hi=>Nat.lt_of_lt_of_le (m.hF i hi) hl,m.hFM,m.ne,m.Fq,m.ch,m.cb⟩,(gk _ h.G2.1).trans h.sv,h.mm.tf fun i cs hi=>tyE i _ cs hi (by simp),h.vm.tf fun i cs hi=>tyE i _ cs hi (by simp),h.pm.fr fun Q off n e=>gk Q (h.G2.2.2.2.2.2 Q (by rw[e];rfl)),h.sp,h.enc,h.ok,h.vl,h.nF,h.pl,h.pk,h.pq,h.G1,h.G2,fun i hi=>Nat.lt_of_lt_of_le (h.GL i hi) hl,h.bd⟩
theorem SrvI.sep {s s':Heap}{V:Nat}{G G2:Foot}{st:St}{B:Int}(h:SrvI s V G st B)(k:Fg G2 s s')(hd:∀i,G i→¬G2 i):SrvI s' V G st B:=by
 have hGL:=h.GL
 obtain⟨F,S,M,D,Mr,Ma,Av,r,f,comps,clock,ql,mv,vv,pv,h,b⟩:=h
 exact⟨F,S,M,D,Mr,Ma,Av,r,f,comps,clock,ql,mv,vv,pv,h.sep k.len k.tf fun i hi=>k.old i (hGL i hi) (hd i hi),b⟩
theorem SrvI.verr {s:Heap}{V:Nat}{G:Foot}{st:St}{B:Int}(h:SrvI s V G st B):vErr st.ms=0:=by
 obtain⟨F,S,M,D,Mr,Ma,Av,r,f,comps,clock,ql,mv,vv,pv,h,b⟩:=h
 exact h.ok
theorem RC.set {s:Heap}:∀{es:List (List AV)}{l:List Resp},RC s es l→∀(i:Nat){x:List AV}{r:Resp},RC1 s x r→RC s (es.set i x) (l.set i r)
 | [],[],h,i,x,r,_=>h
 | e::es,r::l,h,0,x,r',k=>⟨k,h.2⟩
 | e::es,r::l,h,i+1,x,r',k=>⟨h.1,RC.set h.2 i k⟩
theorem OV.setrev {b:Nat}{s:Heap}{v:AV}{l:List Resp}(h:OV b s v l){i:Nat}(hi:i<l.length) :
  ∃p q s',aIndexAddr Tryz.prog 29 v (I i)=some p∧aAddr 3 p=some q∧aStore 1 s q (I 0)=some s'∧OV b s' v (l.set i (z0 l[i]))∧s'.length=s.length∧∀k,rowOf v≠some k→s'[k]?=s[k]?:=by
 obtain⟨es,h1,h2⟩:=h
 have hl:=h2.len
 have hi':i<es.length:=by omega
 obtain⟨p,q,s',x1,x2,x3,x4,x5,x6⟩:=h1.set und29 sz61 (by decide) (i:=i) (j:=3) hi' (by decide) (x:=I 0) rfl rfl rfl rfl
 have f3:∀(k:Nat) (cs:List AV),s[k]?=some (3,cs)→s'[k]?=some (3,cs):=fun k cs hk=>by
  rw[x6 k fun e=>?_,hk]
  obtain⟨cs',hc⟩:=h1.1.rowAt e
  rw[hk]at hc;cases hc
 refine⟨p,q,s',x1,x2,x3,⟨_,x4,?_⟩,x5,x6⟩
 obtain⟨nv,hn,hv,hs⟩:=h2.at' hi hi'
 exact(RC.tf f3 h2).set i ⟨nv,by rw[hn];rfl,hv.tf f3,hs⟩
theorem OV.keep {b:Nat}{s s':Heap}{v:AV}{l:List Resp}(h:OV b s v l)(k3:∀(i:Nat)(cs:List AV),s[i]?=some (3,cs)→s'[i]?=some (3,cs))(kQ:∀Q,rowOf v=some Q→s'[Q]?=s[Q]?):OV b s' v l:=by
 obtain⟨es,h1,h2⟩:=h
 exact⟨es,⟨h1.1.fr fun Q off n e=>kQ Q (by rw[e];rfl),h1.2⟩,RC.tf k3 h2⟩
theorem OV.ge {b:Nat}{s:Heap}{v:AV}{l:List Resp}(h:OV b s v l){Q:Nat}(e:rowOf v=some Q):b≤Q∧∃cs,s[Q]?=some (61,cs):=by
 obtain⟨es,h1,h2⟩:=h
 exact⟨h1.row e,h1.1.rowAt e⟩
theorem mid_set {α:Type}(f:α→α){L:List α}{i:Nat}(hi:i<L.length)(h:i<((L.take i).map f++L.drop i).length):((L.take i).map f++L.drop i)[i]=L[i]∧((L.take i).map f++L.drop i).set i (f L[i])=(L.take (i+1)).map f++L.drop (i+1):=by
 have hl:((L.take i).map f).length=i:=by rw[List.length_map,List.length_take];omega
 constructor
 ·have:((L.take i).map f++L.drop i)[i]?=L[i]?:=by
   rw[List.getElem?_append_right (by omega),hl,Nat.sub_self,List.getElem?_drop,Nat.add_zero]
  rw[List.getElem?_eq_getElem h,List.getElem?_eq_getElem hi]at this
  exact Option.some.inj this
 ·rw[List.set_append_right _ _ (by omega),hl,Nat.sub_self,List.drop_eq_getElem_cons hi,List.set_cons_zero,List.take_succ,List.getElem?_eq_getElem hi,List.map_append,List.append_assoc]
  rfl
def evCan (r:Req):Evn:=⟨5,0,0,[],[],.nils,[],r⟩
def evWr (m:Mod):Evn:=⟨1,0,0,m.1,m.2,.nils,[],⟨0,0,0,0,[]⟩⟩
def evQ (r:Req):Evn:=⟨4,0,0,[],[],.nils,[],r⟩
theorem evCan_ok (r:Req):EvOK (evCan r):=⟨.inr ⟨rfl,rfl⟩,nofun,by show (0:Int)<_;decide⟩
theorem evWr_ok (m:Mod):EvOK (evWr m):=⟨.inr ⟨rfl,rfl⟩,nofun,by show (0:Int)<_;decide⟩
theorem evQ_ok (r:Req):EvOK (evQ r):=⟨.inr ⟨rfl,rfl⟩,nofun,by show (0:Int)<_;decide⟩
theorem bdC (r:Req):aBuild Tryz.prog 35 [(0,I 5),(6,.agg (reqC r))]=some (.agg (evC (evCan r))):=by
 have:∀a b c d e,aBuild Tryz.prog 35 [(0,I 5),(6,.agg [I a,I b,I c,I d,.str e])]=some (.agg [I 5,I 0,I 0,.str [],.str [],.nils,I a,I b,I c,I d,.str e]):=fun a b c d e=>by kernel_rfl
 exact this _ _ _ _ _
theorem bdQ (r:Req):aBuild Tryz.prog 35 [(0,I 4),(6,.agg (reqC r))]=some (.agg (evC (evQ r))):=by
 have:∀a b c d e,aBuild Tryz.prog 35 [(0,I 4),(6,.agg [I a,I b,I c,I d,.str e])]=some (.agg [I 4,I 0,I 0,.str [],.str [],.nils,I a,I b,I c,I d,.str e]):=fun a b c d e=>by kernel_rfl
 exact this _ _ _ _ _
theorem bdW (m:Mod):aBuild Tryz.prog 35 [(0,I 1),(3,.str m.1),(4,.str m.2)]=some (.agg (evC (evWr m))):=by
 have:∀a b,aBuild Tryz.prog 35 [(0,I 1),(3,.str a),(4,.str b)]=some (.agg [I 1,I 0,I 0,.str a,.str b,.nils,I 0,I 0,I 0,I 0,.str []]):=fun a b=>by kernel_rfl
 exact this _ _
theorem bsQ (r:Req):aBuildSlice Tryz.prog 50 2 [(0,.agg (evC (evQ r))),(1,.agg (evC (run1 1)))]=some (.sl 35 11 [.agg (evC (evQ r)),.agg (evC (run1 1))] .own):=by
 have:∀a b c d e,aBuildSlice Tryz.prog 50 2 [(0,.agg [I 4,I 0,I 0,.str [],.str [],.nils,I a,I b,I c,I d,.str e]),(1,.agg [I 6,I 1,I 0,.str [],.str [],.nils,I 0,I 0,I 0,I 0,.str []])]=some (.sl 35 11 [.agg [I 4,I 0,I 0,.str [],.str [],.nils,I a,I b,I c,I d,.str e],.agg [I 6,I 1,I 0,.str [],.str [],.nils,I 0,I 0,I 0,I 0,.str []]] .own):=fun a b c d e=>by kernel_rfl
 exact this _ _ _ _ _
theorem ls2 (r:Req):(AV.sl 35 11 [.agg (evC (evQ r)),.agg (evC (run1 1))] .own).strip=.sl 35 11 [.agg (evC (evQ r)),.agg (evC (run1 1))] .sh:=rfl
theorem ls2' (r:Req):(AV.sl 35 11 [.agg (evC (evQ r)),.agg (evC (run1 1))] .sh).strip=.sl 35 11 [.agg (evC (evQ r)),.agg (evC (run1 1))] .sh:=rfl
theorem evL2 (s:Heap)(r:Req):EvL s (.sl 35 11 [.agg (evC (evQ r)),.agg (evC (run1 1))] .sh) (ask r):=by
 have hok:∀x∈ask r,EvOK x:=fun x hx=>by
  rcases List.mem_cons.1 hx with rfl|hx
  ·exact evQ_ok r
  ·rw[List.mem_singleton.1 hx];exact run1_ok (by decide)
 exact⟨SL.sl (s:=s) (ty:=35) (z:=11) ((ask r).map evC) .sh (ev_els _ hok (by simp[ask])),hok⟩
theorem den25 (n:Nat)(s:Heap)(a:Int):∃x,den C (n+1) 25 [I a,I 300] s=some (I x,s):=by
 have q:∃x,aBin Tryz.prog .rem 3 (I a) (I 300)=some (I x):=by
  have:∀a:Int,aBin Tryz.prog .rem 3 (I a) (I 300)=some (I (a.tmod 300)):=fun a=>by kernel_rfl
  exact⟨_,this a⟩
 obtain⟨x,hx⟩:=q
 cases hl:decide (x<0) with
 | true =>
  refine⟨IntKind.i64.wrap (x+300),?_⟩
  rw[rd Tryz.func25];conv in compF _ _ _ _ _ _=>cbv
  simp only[strip_rs,strip_mr,strip_nilf,Bool.false_eq_true,if_false,↓kR,kE,kK,sL,C_P,Nat.reduceEqDiff,reduceIte,Tryz.f25,↓rC_seqj,hx,hl,sL]
 | false =>
  refine⟨x,?_⟩
  rw[rd Tryz.func25];conv in compF _ _ _ _ _ _=>cbv
  simp only[strip_rs,strip_mr,strip_nilf,Bool.false_eq_true,if_false,↓kR,kE,kK,sL,C_P,Nat.reduceEqDiff,reduceIte,Tryz.f25,↓rC_seqj,hx,hl,sL]
theorem a25 (n:Nat)(s:Heap)(a:Int):∃x,aCall Tryz.prog (den C (n+1)) 25 [I a,I 300] s=some (I x,s):=by
 obtain⟨x,hx⟩:=den25 n [] a
 exact⟨x,aC (by kernel_rfl) rfl (fun _=>⟨[],hx⟩) fun e=>(nomatch (show true=false from e))⟩
end Srv
end

section
namespace Srv
open Go Go.Abs Go.Proofs
theorem h12 {s:Heap}{V:Nat}{G:Foot}{st:St}{B:Int}(h:SrvI s V G st B)(hB:B<100000){e:Evn}(he:EvOK e) :
  ∃v s' l err st',aCall Tryz.prog (den C 200331) 12 [.ref V 0,.agg (evC e)] s=some (v,s')∧HStep st e l err st'∧SrvI s' V (FN G s s') st' (B+20)∧Fg G s s':=by
 obtain⟨v,s',l,err,st',d1,d2,d3,d4,d5⟩:=c12 200001 (by decide) (by decide) h hB e he
 refine⟨.tup [v,I err],s',l,err,st',?_,d3,d4,d5⟩
 rw[aCall,if_pos (by kernel_rfl),if_neg (by simp[noRefL_cons,AV.noRef])];exact d1
theorem h21 {s:Heap}{V:Nat}{G:Foot}{st:St}{B:Int}(h:SrvI s V G st B)(hB:B<90000)(hp:st.pd=[])(r:Req) :
  ∃w s' rs st',aCall Tryz.prog (den C 200331) 21 [.ref V 0,.sl 35 11 [.agg (evC (evQ r)),.agg (evC (run1 1))] .sh] s=some (w,s')∧OV s.length s' w rs∧rs=(if r.q<1∨8<r.q then[] else[ansR st r])∧st'.ms=st.ms∧SrvI s' V (FN G s s') st' (B+1000)∧Fg G s s':=by
 obtain⟨w,s',rs,st',d1,d2,d3,d4,d5,d6⟩:=c21 200000 (by decide) (by decide) h (evL2 s r) (by simp[ask]) hB
 obtain⟨e1,e2⟩:=ask_run d3 hp
 refine⟨w,s',rs,st',?_,d2,e1,e2,d4,d5⟩
 rw[aCall,if_pos (by kernel_rfl),if_neg (by simp[noRefL_cons,AV.noRef])];exact d1
set_option maxHeartbeats 8000000 in
theorem c7 {s0:Heap}{v:AV}{l:List Evn}(hv:EvA v l)(r:Req):∃s',den C 200332 7 [v,.agg (reqC r)] s0=some (.bool true,s'):=by
 have bx:aBox true 33 (.agg (reqC r)) s0=some (.ref s0.length 0,s0++[(33,reqC r)]):=boxR (t:=33) (by decide) rfl (by intro e;cases e) s0
 obtain⟨s,es⟩:∃s,s0++[(33,reqC r)]=s:=⟨_,rfl⟩
 have atX:s[s0.length]?=some (33,reqC r):=by rw[←es];exact gapp_new
 have lX:s0.length<s.length:=glt atX
 obtain⟨V,s1,v',s2,w,s3,rs,st',a1,a2,a3,a4,a5,a6,a7,a8,_⟩:=start (s:=s) 12 (by decide) hv
 obtain⟨p1,s5,c1,c2,c3,c4,c5⟩:=a24 200329 a6
 have h5:=a6.up c4.up
 have hpl:=a6.pl
 have lp1:aLen Tryz.prog 57 p1=some (I st'.pd.length):=by have:=c2.len und57;rwa [List.length_map]at this
 have a2:aCallF Tryz.prog (den C 200331) 19 [v.strip,I 12] s1=some (v',s2):=a2
 obtain⟨G,hG⟩:∃G:Foot,G=fun i=>s.length≤i∧i<s3.length:=⟨_,rfl⟩
 rw[←hG]at h5
 have g5:=c4.len
 have l3:=a7.len
 have hsrt:Srt st'.ms:=a5.srt .nil
 have hverr:=a6.verr
 have atX5:s5[s0.length]?=some (33,reqC r):=by
  rw[c4.get (by omega),a7.old _ lX (fun h=>h)];exact atX
 have nGX:¬G s0.length:=by rw[hG];intro h;have:=h.1;omega
 rw[rd Tryz.func7];conv in compF _ _ _ _ _ _=>cbv
 simp only[strip_rs,strip_mr,strip_nilf,Bool.false_eq_true,if_false,↓kR,kE,kK,sL,C_P,Nat.reduceEqDiff,reduceIte,Tryz.f7,bx,es,f18,strF,strip2,a1,a2,a3,a4,c1,c3,lp1,sL]
 refine loopI (R:=fun a=>∃s',a=some (.bool true,s'))
  (fun i e t=>e 3=.ref s0.length 0∧e 5=.ref V 0∧e 24=p1∧e 25=I st'.pd.length∧e 26=I i∧i≤st'.pd.length∧SrvI t V (FN G s5 t) { st' with pd:=st'.pd.drop i } (1000+20*i)∧Fg G s5 t) st'.pd.length ?_ ?_ st'.pd.length 0 (by omega) _ (by omega) _ _ ⟨rfl,rfl,rfl,rfl,rfl,by omega,?_,(Gr.refl s5).fg G⟩
 ·rintro i e t q hi ⟨e3,e5,e24,e25,e26,_,si,fg⟩ hnext
  have hlt:decide (i<st'.pd.length)=true:=decide_eq_true hi
  have p1':SL 33 5 t p1 (st'.pd.map reqC):=c2.fr fun Q off m e=>by
   obtain⟨cs,hc⟩:=c2.row e
   refine fg.old Q (glt hc) fun hg=>?_
   have:=c5 Q off m e
   rw[hG]at hg;have:=hg.2;omega
  obtain⟨x,hx⟩:∃x,st'.pd[i]=x:=⟨_,rfl⟩
  obtain⟨p,y1,y2,y3,_⟩:=p1'.at und57 sz33 (by decide) (by decide) (i:=i) (by rw[List.length_map];exact hi)
  rw[List.getElem_map,hx]at y2
  obtain⟨t2,e2⟩:∃t2,t++[(33,reqC x)]=t2:=⟨_,rfl⟩
  have st2:aStore 5 (t++[(33,[I 0,I 0,I 0,I 0,.str []])]) (.ref t.length 0) (.agg (reqC x))=some t2:=by
   rw[stW (n:=5) gapp_new (by decide) rfl rfl (by simp),set_end,e2]
  have g2:Gr t t2:=e2▸Gr.app ..
  have at2:t2[t.length]?=some (33,reqC x):=by rw[←e2];exact gapp_new
  have lA:aLoad false true 5 (.ref t.length 0) t2=some (.agg (reqC x),t2):=ldA (n:=5) (o:=0) at2 (by decide) (by simp) (by decide)
  obtain⟨u,t3,l1,err,stn,d1,d2,d3,d4⟩:=h12 (si.up g2.up) (by omega) (evCan_ok x)
  have hst:stn={ st' with pd:=st'.pd.drop (i+1) }:=by
   have k:(l1,err,stn)=canS { st' with pd:=st'.pd.drop i } x.c x.id:=d2
   exact can_head (st:={ st' with pd:=st'.pd.drop i }) (r:=x) (l:=st'.pd.drop (i+1)) (by show st'.pd.drop i=_;rw[List.drop_eq_getElem_cons hi,hx]) k
  subst hst
  have wi:=wrap64 (show -9223372036854775808≤(i:Int)+1 by omega) (by omega)
  have f1:=fg.len
  have f2:=g2.len
  have f3:=d4.len
  simp only[strip_rs,strip_mr,strip_nilf,Bool.false_eq_true,if_false,↓kR,kE,kK,sL,C_P,Nat.reduceEqDiff,reduceIte,e3,e5,e24,e25,e26,hlt,y1,y2,y3,allocS z33 (by decide) ⟨nofun,rfl⟩,st2,lA,bdC,d1,wi,sL]
  refine hnext _ _ ⟨e3,e5,e24,e25,iS i,by omega,?_,?_⟩
  ·refine(d3.mono (by push_cast;omega)).wid (fun j hj=>?_) fun j hj=>?_
   ·rcases hj with (hj|hj)|hj
    ·exact .inl hj
    ·exact .inr ⟨hj.1,by omega⟩
    ·exact .inr ⟨by omega,by omega⟩
   ·rcases hj with hj|hj
    ·have:=h5.GL j hj;omega
    ·exact hj.2
  ·exact(fg.trans (g2.fg (FN G s5 t)) fun j hj=>hj.imp (fun h=>h) (·.1)).trans d4 fun j hj=>hj.imp (fun h=>h) (·.1)
 ·rintro e tA q ⟨e3,e5,e24,e25,e26,_,si,fg⟩
  have hlt:decide (st'.pd.length<st'.pd.length)=false:=decide_eq_false (by omega)
  rw[List.drop_length]at si
  have fA:=fg.len
  have atXA:tA[s0.length]?=some (33,reqC r):=by
   rw[fg.old _ (by omega) nGX];exact atX5
  obtain⟨tB,V2,x1,x2,x3⟩:=c11 200328 tA
  obtain⟨m1,tC,y1,y2,y3,y4⟩:=a16 200329 (si.up x3.up)
  have k1:aCallF Tryz.prog (den C 200331) 11 [.fn 22 [] []] tA=some (.ref V2 0,tB):=(cFs _ _ e11).trans x1
  obtain⟨G2,hG2⟩:∃G2:Foot,G2=fun i=>tA.length≤i∧i<tB.length:=⟨_,rfl⟩
  rw[←hG2]at x2
  have fB:=x3.len
  have fC:=y4.len
  have lm1:aLen Tryz.prog 46 m1=some (I st'.ms.length):=by have:=y2.len und46;rwa [List.length_map]at this
  have siC:=(si.up x3.up).up y4.up
  have x2C:=x2.up y4.up
  have hm8:=a6.ms8
  have atXC:tC[s0.length]?=some (33,reqC r):=by
   rw[y4.get (by omega),x3.get (by omega)];exact atXA
  have nG2X:¬G2 s0.length:=by rw[hG2];intro h;have:=h.1;omega
  simp only[strip_rs,strip_mr,strip_nilf,Bool.false_eq_true,if_false,↓kR,kE,kK,sL,C_P,Nat.reduceEqDiff,reduceIte,e3,e5,e24,e25,e26,hlt,strF,k1,y1,y3,lm1,sL]
  refine loopI (R:=fun a=>∃s',a=some (.bool true,s'))
   (fun i e t=>e 3=.ref s0.length 0∧e 5=.ref V 0∧e 8=.ref V2 0∧e 37=m1∧e 38=I st'.ms.length∧e 39=I i∧i≤st'.ms.length∧(∃stF,SrvI t V2 (FN G2 tC t) stF (20*i)∧stF.ms=st'.ms.take i∧stF.pd=[])∧Fg G2 tC t) st'.ms.length ?_ ?_ st'.ms.length 0 (by omega) _ (by omega) _ _ ⟨e3,e5,rfl,rfl,rfl,rfl,by omega,⟨st0,?_,rfl,rfl⟩,(Gr.refl tC).fg G2⟩
  ·rintro i e t q hi ⟨e3,e5,e8,e37,e38,e39,_,⟨stF,sf,sm,sp⟩,fg2⟩ hnext
   have hlt:decide (i<st'.ms.length)=true:=decide_eq_true hi
   have m1':SL 45 2 t m1 (st'.ms.map modC):=y2.tf fun j cs hj=>fg2.tf j _ cs hj (by decide) (by decide) (by decide) (by decide) (by decide) (by decide)
   obtain⟨x,hx⟩:∃x,st'.ms[i]=x:=⟨_,rfl⟩
   obtain⟨p,z1,z2,z3,_⟩:=m1'.at und46 sz45 (by decide) (by decide) (i:=i) (by rw[List.length_map];exact hi)
   rw[List.getElem_map,hx]at z2
   obtain⟨t2,e2⟩:∃t2,t++[(45,modC x)]=t2:=⟨_,rfl⟩
   have st2:aStore 2 (t++[(45,[.str [],.str []])]) (.ref t.length 0) (.agg (modC x))=some t2:=by
    rw[stW (n:=2) gapp_new (by decide) rfl rfl (by simp),set_end,e2]
   have g2:Gr t t2:=e2▸Gr.app ..
   have at2:t2[t.length]?=some (45,modC x):=by rw[←e2];exact gapp_new
   have l0:aLoad false false 1 (.ref t.length 0) t2=some (.str x.1,t2):=ldv at2 (by decide) rfl
   have l1:aLoad false false 1 (.ref t.length 1) t2=some (.str x.2,t2):=ldv at2 (by decide) rfl
   obtain⟨u,t3,ll,err,stn,d1,d2,d3,d4⟩:=h12 (sf.up g2.up) (by omega) (evWr_ok x)
   have hk:(err,stn)=wr stF st'.ms[i].1 st'.ms[i].2:=by
    have k:ll=[]∧(err,stn)=wr stF x.1 x.2:=d2
    rw[hx];exact k.2
   obtain⟨n1,n2⟩:=wr_next hsrt hverr hi sm hk
   have wi:=wrap64 (show -9223372036854775808≤(i:Int)+1 by omega) (by omega)
   have f1:=fg2.len
   have f2:=g2.len
   have f3:=d4.len
   simp only[strip_rs,strip_mr,strip_nilf,Bool.false_eq_true,if_false,↓kR,kE,kK,sL,C_P,Nat.reduceEqDiff,reduceIte,e3,e5,e8,e37,e38,e39,hlt,z1,z2,z3,allocS z45 (by decide) ⟨nofun,rfl⟩,st2,l0,l1,bdW,d1,wi,sL]
   refine hnext _ _ ⟨e3,e5,e8,e37,e38,iS i,by omega,⟨stn,?_,n1,n2.trans sp⟩,?_⟩
   ·refine(d3.mono (by push_cast;omega)).wid (fun j hj=>?_) fun j hj=>?_
    ·rcases hj with (hj|hj)|hj
     ·exact .inl hj
     ·exact .inr ⟨hj.1,by omega⟩
     ·exact .inr ⟨by omega,by omega⟩
    ·rcases hj with hj|hj
     ·have:=x2C.GL j hj;omega
     ·exact hj.2
   ·exact(fg2.trans (g2.fg (FN G2 tC t)) fun j hj=>hj.imp (fun h=>h) (·.1)).trans d4 fun j hj=>hj.imp (fun h=>h) (·.1)
  ·rintro e t q ⟨e3,e5,e8,e37,e38,e39,_,⟨stF,sf,sm,sp⟩,fg2⟩
   have hlt:decide (st'.ms.length<st'.ms.length)=false:=decide_eq_false (by omega)
   rw[List.take_length]at sm
   have fT:=fg2.len
   have d12:∀i,FN G s5 tA i→¬G2 i:=fun i hi h2=>by
    rw[hG2]at h2
    rcases hi with hi|hi
    ·have:=h5.GL i hi;have:=h2.1;omega
    ·have:=hi.2;have:=h2.1;omega
   have siT:SrvI t V (FN G s5 tA) { st' with pd:=[] } (1000+20*st'.pd.length):=siC.sep fg2 d12
   have atXT:t[s0.length]?=some (33,reqC r):=by
    rw[fg2.old _ (by omega) nG2X];exact atXC
   have b2:aLoad false false 1 (.ref s0.length 2) t=some (I r.q,t):=ldv atXT (by decide) rfl
   have b3:aLoad false false 1 (.ref s0.length 3) t=some (I r.a,t):=ldv atXT (by decide) rfl
   -- from the question on
   obtain⟨x,k25⟩:=a25 200330 t r.a
   obtain⟨tx,r',hh,atX',lx,ox⟩:∃tx r',((r.q==8)=true∧aStore 1 t (.ref s0.length 3) (I x)=some tx∨(r.q==8)=false∧tx=t)∧tx[s0.length]?=some (33,reqC r')∧tx.length=t.length∧(∀i,i≠s0.length→tx[i]?=t[i]?):=by
    cases h8:(r.q==8) with
    | true =>
     refine⟨t.set s0.length (33,reqC { r with a:=x }),{ r with a:=x },.inl ⟨rfl,?_⟩,gset_eq atXT,by rw[set_length],fun i hi=>gset_ne hi.symm⟩
     rw[Srv.st (n:=1) atXT (by decide) rfl rfl (by simp)];rfl
    | false=>exact⟨t,r,.inr ⟨rfl,rfl⟩,atXT,rfl,fun _ _=>rfl⟩
   have fX:Fg (fun i=>i=s0.length) t tx:=⟨by omega,fun i _ hi=>ox i hi,fun i u cs hi _ _ _ _ _ h33=>by
    rw[ox i fun e=>?_,hi]
    rw[e,atXT]at hi
    cases hi
    exact h33 rfl⟩
   obtain⟨GA,hGA⟩:∃GA:Foot,GA=FN G s5 tA:=⟨_,rfl⟩
   obtain⟨GB,hGB⟩:∃GB:Foot,GB=FN G2 tC t:=⟨_,rfl⟩
   rw[←hGA]at siT
   rw[←hGB]at sf
   have bGA:∀i,GA i→i<tA.length∧i≠s0.length:=fun i hi=>by
    rw[hGA]at hi
    rcases hi with hi|hi
    ·have:=h5.GL i hi
     exact⟨by omega,fun e=>nGX (e▸hi)⟩
    ·exact⟨hi.2,by have:=hi.1;omega⟩
   have bGB:∀i,GB i→tA.length≤i∧i<t.length:=fun i hi=>by
    rw[hGB]at hi
    rcases hi with hi|hi
    ·rw[hG2]at hi
     exact⟨hi.1,by have:=hi.2;omega⟩
    ·exact⟨by have:=hi.1;omega,hi.2⟩
   have siX:=siT.sep fX fun i hi=>(bGA i hi).2
   have sfX:=sf.sep fX fun i hi e=>by have:=(bGB i hi).1;omega
   have lA':aLoad false true 5 (.ref s0.length 0) tx=some (.agg (reqC r'),tx):=ldA (n:=5) (o:=0) atX' (by decide) (by simp) (by decide)
   obtain⟨w1,u1,ra,sa,k1,z1,hra,msa,si1,fg1⟩:=h21 siX (by omega) rfl r'
   have fl1:=fg1.len
   obtain⟨w2,u2,rb,sb,k2,z2,hrb,msb,sf2,fgb⟩:=h21 (sfX.sep fg1 fun i hi h=>by have:=(bGB i hi).1;have:=(bGA i h).1;omega) (by omega) sp r'
   have fl2:=fgb.len
   have si2:=si1.sep fgb fun i hi h=>by
    have b:=bGB i h
    rcases hi with hi|hi
    ·have:=(bGA i hi).1;omega
    ·have:=hi.1;omega
   have ov1:=z1.fg fgb
   have Q1:∀Q,rowOf w1=some Q→Q<u1.length:=fun Q hQ=>by
    obtain⟨cs,hc⟩:=(z1.ge hQ).2
    exact glt hc
   have heq:ra.map z0=rb.map z0:=by
    rw[hra,hrb]
    split
    ·rfl
    ·exact congrArg (fun y=>[y]) (ansR_z0 (st:={ st' with pd:=[] }) (st2:=stF) sm.symm r')
   have hla:ra.length≤1:=by rw[hra];split<;>simp
   have hlb:rb.length≤1:=by rw[hrb];split<;>simp
   have hnum:∀y∈ra.map z0,y.nums.length<200329:=fun y hy=>by
    obtain⟨z,hz,rfl⟩:=List.mem_map.1 hy
    rw[hra]at hz
    split at hz
    ·cases hz
    ·rw[List.mem_singleton.1 hz]
     have:=ansR_len { st' with pd:=[] } r' hm8
     show (ansR _ r').nums.length<_
     omega
   have lw1:aLen Tryz.prog 29 w1=some (I ra.length):=ov1.rv.len
   have lw2:aLen Tryz.prog 29 w2=some (I rb.length):=z2.rv.len
   rcases hh with ⟨q8,sx⟩|⟨q8,rfl⟩
   ·skip
    simp only[strip_rs,strip_mr,strip_nilf,Bool.false_eq_true,if_false,↓kR,kE,kK,sL,C_P,Nat.reduceEqDiff,reduceIte,↓rC_seqj,e3,e5,e8,e37,e38,e39,hlt,b2,q8,b3,k25,sx,lA',bdQ,bd35,bsQ,ls2,ls2',k1,k2,z1.strip,z2.strip,lw1,sL]
    refine loopI (R:=fun a=>∃s',a=some (.bool true,s'))
     (fun i e h=>e 5=.ref V 0∧e 8=.ref V2 0∧e 12=w1∧e 13=w2∧e 69=I ra.length∧e 70=I i∧i≤ra.length∧OV tx.length h w1 ((ra.take i).map z0++ra.drop i)∧h.length=u2.length∧(∀k,rowOf w1≠some k→h[k]?=u2[k]?)) ra.length ?_ ?_ ra.length 0 (by omega) _ (by omega) _ _ ⟨e5,e8,rfl,rfl,rfl,rfl,by omega,by simpa using ov1,rfl,fun _ _=>rfl⟩
    ·rintro i e h q hi ⟨e5,e8,e12,e13,e69,e70,_,ov,hl,fr⟩ hnext
     have hlt:decide (i<ra.length)=true:=decide_eq_true hi
     have hM:i<((ra.take i).map z0++ra.drop i).length:=by rw[List.length_append,List.length_map,List.length_take,List.length_drop];omega
     obtain⟨mg,ms⟩:=mid_set z0 hi hM
     obtain⟨p,q0,h',n1,n2,n3,n4,n5,n6⟩:=ov.setrev hM
     rw[mg,ms]at n4
     have wi:=wrap64 (show -9223372036854775808≤(i:Int)+1 by omega) (by omega)
     simp only[strip_rs,strip_mr,strip_nilf,Bool.false_eq_true,if_false,↓kR,kE,kK,sL,C_P,Nat.reduceEqDiff,reduceIte,↓rC_seqj,e5,e8,e12,e13,e69,e70,hlt,ov.strip,n1,n2,n3,wi,sL]
     exact hnext _ _ ⟨e5,e8,e12,e13,e69,iS i,by omega,n4,by omega,fun k hk=>(n6 k hk).trans (fr k hk)⟩
    ·rintro e h q ⟨e5,e8,e12,e13,e69,e70,_,ov,hl,fr⟩
     have hlt:decide (ra.length<ra.length)=false:=decide_eq_false (by omega)
     rw[List.take_length,List.drop_length,List.append_nil]at ov
     have ty:∀(k:Nat) (u:TypeId) (cs:List AV),u2[k]?=some (u,cs)→u≠61→h[k]?=some (u,cs):=fun k u cs hk hu=>by
      rw[fr k fun e=>?_,hk]
      obtain⟨cs',hc⟩:=(ov1.ge e).2
      rw[hk]at hc;cases hc;exact hu rfl
     have ov2:=z2.keep (fun k cs hk=>ty k 3 cs hk (by decide)) fun Q hQ=>fr Q fun e=>by
      have:=Q1 Q e;have:=(z2.ge hQ).1;omega
     simp only[strip_rs,strip_mr,strip_nilf,Bool.false_eq_true,if_false,↓kR,kE,kK,sL,C_P,Nat.reduceEqDiff,reduceIte,↓rC_seqj,e5,e8,e12,e13,e69,e70,hlt,z2.strip,lw2,sL]
     refine loopI (R:=fun a=>∃s',a=some (.bool true,s'))
      (fun i e g=>e 5=.ref V 0∧e 8=.ref V2 0∧e 12=w1∧e 13=w2∧e 79=I rb.length∧e 80=I i∧i≤rb.length∧OV u1.length g w2 ((rb.take i).map z0++rb.drop i)∧g.length=h.length∧(∀k,rowOf w2≠some k→g[k]?=h[k]?)) rb.length ?_ ?_ rb.length 0 (by omega) _ (by omega) _ _ ⟨e5,e8,e12,e13,rfl,rfl,by omega,by simpa using ov2,rfl,fun _ _=>rfl⟩
     ·rintro i e g q hi ⟨e5,e8,e12,e13,e79,e80,_,ovb,hlg,frg⟩ hnext
      have hlt:decide (i<rb.length)=true:=decide_eq_true hi
      have hM:i<((rb.take i).map z0++rb.drop i).length:=by rw[List.length_append,List.length_map,List.length_take,List.length_drop];omega
      obtain⟨mg,ms⟩:=mid_set z0 hi hM
      obtain⟨p,q0,h',n1,n2,n3,n4,n5,n6⟩:=ovb.setrev hM
      rw[mg,ms]at n4
      have wi:=wrap64 (show -9223372036854775808≤(i:Int)+1 by omega) (by omega)
      simp only[strip_rs,strip_mr,strip_nilf,Bool.false_eq_true,if_false,↓kR,kE,kK,sL,C_P,Nat.reduceEqDiff,reduceIte,↓rC_seqj,e5,e8,e12,e13,e79,e80,hlt,z2.strip,n1,n2,n3,wi,sL]
      exact hnext _ _ ⟨e5,e8,e12,e13,e79,iS i,by omega,n4,by omega,fun k hk=>(n6 k hk).trans (frg k hk)⟩
     ·rintro e g q ⟨e5,e8,e12,e13,e79,e80,_,ovb,hlg,frg⟩
      have hlt:decide (rb.length<rb.length)=false:=decide_eq_false (by omega)
      rw[List.take_length,List.drop_length,List.append_nil]at ovb
      have tyg:∀(k:Nat) (u:TypeId) (cs:List AV),h[k]?=some (u,cs)→u≠61→g[k]?=some (u,cs):=fun k u cs hk hu=>by
       rw[frg k fun e=>?_,hk]
       obtain⟨cs',hc⟩:=(ov2.ge e).2
       rw[hk]at hc;cases hc;exact hu rfl
      have ova:=ov.keep (fun k cs hk=>tyg k 3 cs hk (by decide)) fun Q hQ=>frg Q fun e=>by
       have:=Q1 Q hQ;have:=(z2.ge e).1;omega
      have siF:=(si2.chg (by omega) ty).chg (by omega) tyg
      have sfF:=(sf2.chg (by omega) ty).chg (by omega) tyg
      rw[←heq]at ovb
      have g20:=a20 200329 ova.rv ovb.rv (by rw[List.length_map];omega) hnum
      obtain⟨m2,h3,f1,f2,f3,f4⟩:=a16 200329 siF
      obtain⟨m3,h4,f5,f6,f7,f8⟩:=a16 200329 (sfF.up f4.up)
      rw[msb,sm]at f6
      rw[msa]at f2
      have g27:=a27 200330 (f2.gr f8) f6 (by show st'.ms.length<_;omega)
      simp only[strip_rs,strip_mr,strip_nilf,Bool.false_eq_true,if_false,↓kR,kE,kK,sL,C_P,Nat.reduceEqDiff,reduceIte,e5,e8,e12,e13,e79,e80,hlt,f18,ov1.strip,z2.strip,g20,f1,f3,f5,f7,g27,sL]
      exact⟨h4,rfl⟩
   ·skip
    simp only[strip_rs,strip_mr,strip_nilf,Bool.false_eq_true,if_false,↓kR,kE,kK,sL,C_P,Nat.reduceEqDiff,reduceIte,↓rC_seqj,e3,e5,e8,e37,e38,e39,hlt,b2,q8,lA',bdQ,bd35,bsQ,ls2,ls2',k1,k2,z1.strip,z2.strip,lw1,sL]
    refine loopI (R:=fun a=>∃s',a=some (.bool true,s'))
     (fun i e h=>e 5=.ref V 0∧e 8=.ref V2 0∧e 12=w1∧e 13=w2∧e 69=I ra.length∧e 70=I i∧i≤ra.length∧OV tx.length h w1 ((ra.take i).map z0++ra.drop i)∧h.length=u2.length∧(∀k,rowOf w1≠some k→h[k]?=u2[k]?)) ra.length ?_ ?_ ra.length 0 (by omega) _ (by omega) _ _ ⟨e5,e8,rfl,rfl,rfl,rfl,by omega,by simpa using ov1,rfl,fun _ _=>rfl⟩
    ·rintro i e h q hi ⟨e5,e8,e12,e13,e69,e70,_,ov,hl,fr⟩ hnext
     have hlt:decide (i<ra.length)=true:=decide_eq_true hi
     have hM:i<((ra.take i).map z0++ra.drop i).length:=by rw[List.length_append,List.length_map,List.length_take,List.length_drop];omega
     obtain⟨mg,ms⟩:=mid_set z0 hi hM
     obtain⟨p,q0,h',n1,n2,n3,n4,n5,n6⟩:=ov.setrev hM
     rw[mg,ms]at n4
     have wi:=wrap64 (show -9223372036854775808≤(i:Int)+1 by omega) (by omega)
     simp only[strip_rs,strip_mr,strip_nilf,Bool.false_eq_true,if_false,↓kR,kE,kK,sL,C_P,Nat.reduceEqDiff,reduceIte,↓rC_seqj,e5,e8,e12,e13,e69,e70,hlt,ov.strip,n1,n2,n3,wi,sL]
     exact hnext _ _ ⟨e5,e8,e12,e13,e69,iS i,by omega,n4,by omega,fun k hk=>(n6 k hk).trans (fr k hk)⟩
    ·rintro e h q ⟨e5,e8,e12,e13,e69,e70,_,ov,hl,fr⟩
     have hlt:decide (ra.length<ra.length)=false:=decide_eq_false (by omega)
     rw[List.take_length,List.drop_length,List.append_nil]at ov
     have ty:∀(k:Nat) (u:TypeId) (cs:List AV),u2[k]?=some (u,cs)→u≠61→h[k]?=some (u,cs):=fun k u cs hk hu=>by
      rw[fr k fun e=>?_,hk]
      obtain⟨cs',hc⟩:=(ov1.ge e).2
      rw[hk]at hc;cases hc;exact hu rfl
     have ov2:=z2.keep (fun k cs hk=>ty k 3 cs hk (by decide)) fun Q hQ=>fr Q fun e=>by
      have:=Q1 Q e;have:=(z2.ge hQ).1;omega
     simp only[strip_rs,strip_mr,strip_nilf,Bool.false_eq_true,if_false,↓kR,kE,kK,sL,C_P,Nat.reduceEqDiff,reduceIte,↓rC_seqj,e5,e8,e12,e13,e69,e70,hlt,z2.strip,lw2,sL]
     refine loopI (R:=fun a=>∃s',a=some (.bool true,s'))
      (fun i e g=>e 5=.ref V 0∧e 8=.ref V2 0∧e 12=w1∧e 13=w2∧e 79=I rb.length∧e 80=I i∧i≤rb.length∧OV u1.length g w2 ((rb.take i).map z0++rb.drop i)∧g.length=h.length∧(∀k,rowOf w2≠some k→g[k]?=h[k]?)) rb.length ?_ ?_ rb.length 0 (by omega) _ (by omega) _ _ ⟨e5,e8,e12,e13,rfl,rfl,by omega,by simpa using ov2,rfl,fun _ _=>rfl⟩
     ·rintro i e g q hi ⟨e5,e8,e12,e13,e79,e80,_,ovb,hlg,frg⟩ hnext
      have hlt:decide (i<rb.length)=true:=decide_eq_true hi
      have hM:i<((rb.take i).map z0++rb.drop i).length:=by rw[List.length_append,List.length_map,List.length_take,List.length_drop];omega
      obtain⟨mg,ms⟩:=mid_set z0 hi hM
      obtain⟨p,q0,h',n1,n2,n3,n4,n5,n6⟩:=ovb.setrev hM
      rw[mg,ms]at n4
      have wi:=wrap64 (show -9223372036854775808≤(i:Int)+1 by omega) (by omega)
      simp only[strip_rs,strip_mr,strip_nilf,Bool.false_eq_true,if_false,↓kR,kE,kK,sL,C_P,Nat.reduceEqDiff,reduceIte,↓rC_seqj,e5,e8,e12,e13,e79,e80,hlt,z2.strip,n1,n2,n3,wi,sL]
      exact hnext _ _ ⟨e5,e8,e12,e13,e79,iS i,by omega,n4,by omega,fun k hk=>(n6 k hk).trans (frg k hk)⟩
     ·rintro e g q ⟨e5,e8,e12,e13,e79,e80,_,ovb,hlg,frg⟩
      have hlt:decide (rb.length<rb.length)=false:=decide_eq_false (by omega)
      rw[List.take_length,List.drop_length,List.append_nil]at ovb
      have tyg:∀(k:Nat) (u:TypeId) (cs:List AV),h[k]?=some (u,cs)→u≠61→g[k]?=some (u,cs):=fun k u cs hk hu=>by
       rw[frg k fun e=>?_,hk]
       obtain⟨cs',hc⟩:=(ov2.ge e).2
       rw[hk]at hc;cases hc;exact hu rfl
      have ova:=ov.keep (fun k cs hk=>tyg k 3 cs hk (by decide)) fun Q hQ=>frg Q fun e=>by
       have:=Q1 Q hQ;have:=(z2.ge e).1;omega
      have siF:=(si2.chg (by omega) ty).chg (by omega) tyg
      have sfF:=(sf2.chg (by omega) ty).chg (by omega) tyg
      rw[←heq]at ovb
      have g20:=a20 200329 ova.rv ovb.rv (by rw[List.length_map];omega) hnum
      obtain⟨m2,h3,f1,f2,f3,f4⟩:=a16 200329 siF
      obtain⟨m3,h4,f5,f6,f7,f8⟩:=a16 200329 (sfF.up f4.up)
      rw[msb,sm]at f6
      rw[msa]at f2
      have g27:=a27 200330 (f2.gr f8) f6 (by show st'.ms.length<_;omega)
      simp only[strip_rs,strip_mr,strip_nilf,Bool.false_eq_true,if_false,↓kR,kE,kK,sL,C_P,Nat.reduceEqDiff,reduceIte,e5,e8,e12,e13,e79,e80,hlt,f18,ov1.strip,z2.strip,g20,f1,f3,f5,f7,g27,sL]
      exact⟨h4,rfl⟩
  ·have:=x2C.wid (G':=FN G2 tC tC) (fun i hi=>.inl hi) fun i hi=>hi.elim (x2C.GL i) (·.2)
   exact this.mono (by simp)
 ·have:=h5.wid (G':=FN G s5 s5) (fun i hi=>.inl hi) fun i hi=>hi.elim (h5.GL i) (·.2)
  exact this.mono (by simp)
end Srv
end
