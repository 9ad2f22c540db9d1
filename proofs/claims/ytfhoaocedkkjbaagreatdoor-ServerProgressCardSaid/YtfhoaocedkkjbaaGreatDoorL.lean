/- Le, L5 -/
import Derived.Test.YtfhoaocedkkjbaaGreatDoorI
set_option linter.all false
set_option maxRecDepth 100000

section
namespace Srv
open Go Go.Abs Go.Proofs
theorem e11:enterable Tryz.prog 11=true:=by kernel_rfl
theorem e19:enterable Tryz.prog 19=true:=by kernel_rfl
theorem strF (g:FuncId):(AV.fn g [] []).strip=.fn g [] []:=rfl
theorem Own.up {ty z b:Nat}{s s':Heap}{v:AV}{es:List (List AV)}(h:Own ty z b s v es)(k:∀(i:Nat)(cs:List AV),s[i]?=some (ty,cs)→s'[i]?=some (ty,cs)):Own ty z b s' v es:=⟨h.1.tf k,h.2⟩
theorem evs_ok {l:List Evn}(h:∀e∈l,EvOK e)(m:Nat):∀e∈(l.take m).map evS,EvOK e:=fun e he=>by
 obtain⟨x,hx,rfl⟩:=List.mem_map.1 he
 exact(h x (List.mem_of_mem_take hx)).s
theorem start (m:Nat)(hm:m≤20){s:Heap}{v:AV}{l:List Evn}(hv:EvA v l):∃V s1 v' s2 w s3 rs st',aCallF Tryz.prog (den C 200331) 11 [.fn 22 [] []] s=some (.ref V 0,s1)∧aCallF Tryz.prog (den C 200331) 19 [v.strip,I m] s1=some (v',s2)∧v'.strip=v'∧aCall Tryz.prog (den C 200331) 21 [.ref V 0,v'] s2=some (w,s3)∧Steps st0 ((l.take m).map evS) rs st'∧SrvI s3 V (fun i=>s.length≤i∧i<s3.length) st' 1000∧Fg (fun _=>False) s s3∧w.strip=w∧OV s2.length s3 w rs∧s.length≤s2.length∧rs.length≤1000:=by
 obtain⟨s1,V,a1,a2,a3⟩:=c11 200328 s
 obtain⟨v',s2,b1,b2,b3⟩:=c19 200330 (by decide) (s:=s1) (v:=v.strip) hv.strip m (by omega)
 have hok:=evs_ok hv.2 m
 obtain⟨w,s3,rs,st',d1,d2,d3,d4,d5,d6⟩:=c21 200000 (by decide) (by decide) (a2.up b3) (v:=v') ⟨b2.1,hok⟩ (by simp;omega) (by decide)
 have n1:=a3.len
 have n2:=b3.len
 have n3:=d5.len
 refine⟨V,s1,v',s2,w,s3,rs,st',(cFs _ _ e11).trans a1,(cFs _ _ e19).trans b1,b2.strip,?_,d3,?_,?_,d2.strip,d2,by omega,d6⟩
 ·rw[aCall,if_pos (by kernel_rfl),if_neg (by simp[noRefL_cons,AV.noRef])];exact d1
 ·refine d4.wid (fun i hi=>?_) fun i hi=>hi.2
  rcases hi with hi|hi
  ·exact⟨hi.1,by omega⟩
  ·exact⟨by omega,hi.2⟩
 ·refine⟨by omega,fun i hi _=>?_,fun i t cs hi c1 c2 c3 c4 c5 c6=>d5.tf i t cs (b3.at (a3.at hi)) c1 c2 c3 c4 c5 c6⟩
  rw[d5.old i (by omega) (fun h=>by omega),b3.get (by omega),a3.get hi]
theorem RV.len {s:Heap}{v:AV}{l:List Resp}(h:RV s v l):aLen Tryz.prog 29 v=some (I l.length):=by
 obtain⟨es,h1,h2⟩:=h
 have:=h1.len und29
 rwa [h2.len]at this
theorem c8 {s:Heap}{v:AV}{l:List Evn}(hv:EvA v l){e:Evn}(he:EvOK e):∃s',den C 200332 8 [v,.agg (evC e)] s=some (.bool true,s'):=by
 have bx:∀s,aBox false 35 (.agg (evC e)) s=some (.box (evC e) 0,s):=fun s=>boxV rfl s
 have hst:=he.ed.strip
 have lE:∀s,aLoad false true 11 (.box (evC e) 0) s=some (.agg (evC e),s):=fun s=>boxG (n:=11) rfl false s
 obtain⟨V,s1,v',s2,w,s3,rs,st',a1,a2,a3,a4,a5,a6,a7,a8,_⟩:=start (s:=s) 12 (by decide) hv
 obtain⟨m1,s4,b1,b2,b3,b4⟩:=a16 200329 a6
 have h4:=a6.up b4.up
 obtain⟨p1,s5,c1,c2,c3,c4,c5⟩:=a24 200329 h4
 have h5:=h4.up c4.up
 obtain⟨r,s6,l1,err,st2,d1,d2,d3,d4,d5⟩:=c12 200001 (by decide) (by decide) h5 (by decide) e he
 have cl:aCall Tryz.prog (den C 200331) 12 [.ref V 0,.agg (evC e)] s5=some (.tup [r,I err],s6):=by
  rw[aCall,if_pos (by kernel_rfl),if_neg (by simp[noRefL_cons,AV.noRef])];exact d1
 have a2:aCallF Tryz.prog (den C 200331) 19 [v.strip,I 12] s1=some (v',s2):=a2
 by_cases hz:err=0
 ·have q:(err==0)=true:=by simp[hz]
  rw[rd Tryz.func8];conv in compF _ _ _ _ _ _=>cbv
  simp only[strip_rs,strip_mr,strip_nilf,Bool.false_eq_true,if_false,↓kR,kE,kK,sL,C_P,Nat.reduceEqDiff,reduceIte,Tryz.f8,bx,f18,strF,strip2,a1,a2,a3,a4,b1,b3,c1,c3,lE,cl,q,sL]
  exact⟨s6,rfl⟩
 ·have q:(err==0)=false:=by simpa using hz
  obtain⟨rfl,rfl⟩:=d3.err hz
  have k45:∀(i:Nat) (cs:List AV),s5[i]?=some (45,cs)→s6[i]?=some (45,cs):=fun i cs hi=>d5.tf i _ cs hi (by decide) (by decide) (by decide) (by decide) (by decide) (by decide)
  have m1':SL 45 2 s6 m1 (st2.ms.map modC):=(b2.gr c4).tf k45
  obtain⟨m2,s7,f1,f2,f3,f4⟩:=a16 200329 d4
  have h7:=d4.up f4.up
  have e27:=a27 200330 f2 (m1'.gr f4) (by have:=d4.ms8;omega)
  obtain⟨p2,s8,g1,g2,g3,g4,_⟩:=a24 200329 h7
  have p1':SL 33 5 s6 p1 (st2.pd.map reqC):=c2.fr fun Q off m e=>by
   obtain⟨cs,hc⟩:=c2.row e
   refine d5.old Q (glt hc) fun hg=>?_
   have:=c5 Q off m e
   have:=b4.len
   have:=hg.2
   omega
  have e28:=a28 200330 g2 ((p1'.gr f4).gr g4) (by have:=d4.pl;omega)
  have lr:=d2.strip.len
  have z00:((0:Int)==0)=true:=rfl
  rw[rd Tryz.func8];conv in compF _ _ _ _ _ _=>cbv
  simp only[strip_rs,strip_mr,strip_nilf,Bool.false_eq_true,if_false,↓kR,kE,kK,sL,C_P,Nat.reduceEqDiff,reduceIte,Tryz.f8,bx,f18,strF,strip2,a1,a2,a3,a4,b1,b3,c1,c3,lE,cl,q,lr,List.length_nil,Int.natCast_zero,z00,f1,f3,e27,g1,g3,e28,sL]
  exact⟨s8,rfl⟩
end Srv
end

section
namespace Srv
open Go Go.Abs Go.Proofs
theorem Steps.inv {st st':St}{es:List Evn}{rs:List Resp}(h:Steps st es rs st'):(es=[]∧rs=[]∧st'=st)∨∃es' e l l1 st1 err,es=es'++[e]∧rs=l++l1∧Steps st es' l st1∧HStep st1 e l1 err st'∧st1.ms.length≤8∧st1.pd.length≤20:=by
 cases h with
 | nil=>exact .inl ⟨rfl,rfl,rfl⟩
 | snoc h hb k=>exact .inr ⟨_,_,_,_,_,_,rfl,rfl,h,k,hb⟩
theorem Steps.one {st st':St}{e:Evn}{rs:List Resp}(h:Steps st [e] rs st'):∃err,HStep st e rs err st':=by
 rcases h.inv with ⟨h1,_⟩|⟨es',e',l,l1,st1,err,h1,rfl,h3,h4,_⟩
 ·cases h1
 ·have hl:=congrArg List.length h1
  simp at hl
  subst hl
  simp at h1
  subst h1
  rcases h3.inv with ⟨_,rfl,rfl⟩|⟨_,_,_,_,_,_,h5,_⟩
  ·exact⟨err,h4⟩
  ·exact absurd (congrArg List.length h5) (by simp)
def run1 (N:Int):Evn:=⟨6,N,0,[],[],.nils,[],⟨0,0,0,0,[]⟩⟩
theorem run1_ok {N:Int}(h:N<9223372036854775808):EvOK (run1 N):=⟨.inr ⟨rfl,rfl⟩,nofun,h⟩
theorem run1_step {st st':St}{N:Int}(hN:0≤N){rs:List Resp}{err:Int}(h:HStep st (run1 N) rs err st'):∃m,RunOK st N rs st' m:=by
 have h:(if N<0 then(rs=[]∧err=1∧st'=st) else err=0∧∃m,RunOK st N rs st' m):=h
 rw[if_neg (by omega)]at h
 exact h.2
theorem bd35 (N:Int):aBuild Tryz.prog 35 [(0,I 6),(1,I N)]=some (.agg (evC (run1 N))):=by
 have:∀N,aBuild Tryz.prog 35 [(0,I 6),(1,I N)]=some (.agg [I 6,I N,I 0,.str [],.str [],.nils,I 0,I 0,I 0,I 0,.str []]):=fun N=>by kernel_rfl
 exact this N
theorem bs50 (N:Int):aBuildSlice Tryz.prog 50 1 [(0,.agg (evC (run1 N)))]=some (.sl 35 11 [.agg (evC (run1 N))] .own):=by
 have:∀N,aBuildSlice Tryz.prog 50 1 [(0,.agg [I 6,I N,I 0,.str [],.str [],.nils,I 0,I 0,I 0,I 0,.str []])]=some (.sl 35 11 [.agg [I 6,I N,I 0,.str [],.str [],.nils,I 0,I 0,I 0,I 0,.str []]] .own):=fun N=>by kernel_rfl
 exact this N
theorem evL1 {s:Heap}{e:Evn}(h:EvOK e):EvL s (.sl 35 11 [.agg (evC e)] .sh) [e]:=by
 have:=SL.sl (s:=s) (ty:=35) (z:=11) ([e].map evC) .sh (ev_els [e] (fun x hx=>by rw[List.mem_singleton.1 hx];exact h) (by simp))
 exact⟨this,fun x hx=>by rw[List.mem_singleton.1 hx];exact h⟩
theorem ansR_pd (st:St)(p:List Req)(r:Req):ansR { st with pd:=p } r=ansR st r:=rfl
theorem ansR_ci (st:St)(r:Req):(ansR st r).c=r.c∧(ansR st r).id=r.id:=by
 unfold ansR
 split<;>exact⟨rfl,rfl⟩
theorem RunOK.next {st:St}{k:Nat}{N:Int}{rs l:List Resp}{st':St}{m:Nat}(hk:k≤st.pd.length)(h:RunOK { st with pd:=st.pd.drop k } N l st' m)(hr:rs=(st.pd.take k).map (ansR st)) :
  rs++l=(st.pd.take (k+m)).map (ansR st)∧st'={ st with pd:=st.pd.drop (k+m) }∧k+m≤st.pd.length∧(k+m=st.pd.length∨N≤m):=by
 have h1:=h.le
 have h2:=h.ans
 have h3:=h.eq
 have h4:=h.all
 simp only[List.length_drop]at h1 h4
 refine⟨?_,?_,by omega,h4.imp (fun e=>by omega) id⟩
 ·rw[hr,h2,List.take_add,List.map_append]
  rfl
 ·rw[h3,List.drop_drop]
theorem RC.at {s:Heap}:∀{es:List (List AV)}{l:List Resp},RC s es l→∀{i:Nat}(hi:i<l.length)(hi':i<es.length),RC1 s es[i] l[i]
 | e::es,r::l,h,0,_,_=>h.1
 | e::es,r::l,h,i+1,h1,h2=>RC.at h.2 (Nat.lt_of_succ_lt_succ h1) (Nat.lt_of_succ_lt_succ h2)
theorem und29l:aLen Tryz.prog 29 .nils=some (I 0):=by kernel_rfl
theorem RV.at {s:Heap}{v:AV}{l:List Resp}(h:RV s v l){i:Nat}(hi:i<l.length):∃p,aIndexAddr Tryz.prog 29 v (I i)=some p∧Rd p∧(∃q,aAddr 0 p=some q∧aLoad false false 1 q s=some (I l[i].c,s)∧Rd q)∧(∃q,aAddr 1 p=some q∧aLoad false false 1 q s=some (I l[i].id,s)∧Rd q):=by
 obtain⟨es,h1,h2⟩:=h
 have hl:=h2.len
 have hi':i<es.length:=by omega
 obtain⟨p,p1,_,p3,p4⟩:=h1.at und29 sz61 (by decide) (by decide) hi'
 obtain⟨nv,hn,_⟩:=h2.at hi hi'
 exact⟨p,p1,p3,p4 0 _ (by rw[hn];rfl),p4 1 _ (by rw[hn];rfl)⟩
theorem ls35 (N:Int):(AV.sl 35 11 [.agg (evC (run1 N))] .own).strip=.sl 35 11 [.agg (evC (run1 N))] .sh:=rfl
theorem play1 {s:Heap}{V:Nat}{G:Foot}{st:St}{k:Nat}{B:Int}(h:SrvI s V G { st with pd:=st.pd.drop k } B)(hB:B<90000)(hk:k≤st.pd.length){N:Int}(hN:0≤N)(hN2:N<9223372036854775808) :
  ∃w s' l m,aCall Tryz.prog (den C 200331) 21 [.ref V 0,.sl 35 11 [.agg (evC (run1 N))] .sh] s=some (w,s')∧OV s.length s' w l∧SrvI s' V (FN G s s') { st with pd:=st.pd.drop (k+m) } (B+1000)∧Fg G s s'∧(st.pd.take k).map (ansR st)++l=(st.pd.take (k+m)).map (ansR st)∧k+m≤st.pd.length∧(k+m=st.pd.length∨N≤m)∧l.length≤1000:=by
 obtain⟨w,s',l,st2,d1,d2,d3,d4,d5,d6⟩:=c21 200000 (by decide) (by decide) h (evL1 (run1_ok hN2)) (by simp) hB
 obtain⟨err,hs⟩:=d3.one
 obtain⟨m,hm⟩:=run1_step hN hs
 obtain⟨n1,rfl,n3,n4⟩:=hm.next hk rfl
 refine⟨w,s',l,m,?_,d2,d4,d5,n1,n3,n4,d6⟩
 rw[aCall,if_pos (by kernel_rfl),if_neg (by simp[noRefL_cons,AV.noRef,noRefL])];exact d1
set_option maxHeartbeats 2000000 in
theorem c5 {s:Heap}{v:AV}{l:List Evn}(hv:EvA v l):∃s',den C 200332 5 [v] s=some (.bool true,s'):=by
 obtain⟨V,s1,v',s2,w,s3,rs,st',a1,a2,a3,a4,a5,a6,a7,a8,_⟩:=start (s:=s) 12 (by decide) hv
 obtain⟨p1,s5,c1,c2,c3,c4,c5⟩:=a24 200329 a6
 have h5:=a6.up c4.up
 have hpl:=a6.pl
 have lp1:aLen Tryz.prog 57 p1=some (I st'.pd.length):=by have:=c2.len und57;rwa [List.length_map]at this
 have a2:aCallF Tryz.prog (den C 200331) 19 [v.strip,I 12] s1=some (v',s2):=a2
 obtain⟨G,hG⟩:∃G:Foot,G=fun i=>s.length≤i∧i<s3.length:=⟨_,rfl⟩
 rw[←hG]at h5
 have g5:=c4.len
 rw[rd Tryz.func5];conv in compF _ _ _ _ _ _=>cbv
 simp only[strip_rs,strip_mr,strip_nilf,Bool.false_eq_true,if_false,↓kR,kE,kK,sL,C_P,Nat.reduceEqDiff,reduceIte,Tryz.f5,f18,strF,strip2,a1,a2,a3,a4,c1,c3,lp1,sL]
 refine loopI (R:=fun a=>∃s',a=some (.bool true,s'))
  (fun i e t=>e 3=.ref V 0∧e 4=p1∧e 18=I st'.pd.length∧e 19=I i∧i≤st'.pd.length∧∃v5 k,e 5=v5∧OV s5.length t v5 ((st'.pd.take k).map (ansR st'))∧SrvI t V (FN G s5 t) { st' with pd:=st'.pd.drop k } (1000+1000*i)∧Fg G s5 t∧k≤st'.pd.length∧i≤k) st'.pd.length ?_ ?_ st'.pd.length 0 (by omega) _ (by omega) _ _ ⟨rfl,rfl,rfl,rfl,by omega,.nils,0,rfl,⟨[],.nil ..,trivial⟩,?_,(Gr.refl s5).fg G,by omega,by omega⟩
 ·rintro i e t q hi ⟨e3,e4,e18,e19,hil,v5,k,e5,ov,si,fg,hk,hik⟩ hnext
  have hlt:decide (i<st'.pd.length)=true:=decide_eq_true hi
  obtain⟨w1,t2,l1,m,b1,b2,b3,b4,b5,b6,b7,b8⟩:=play1 (N:=1) si (by omega) hk (by decide) (by decide)
  have ov3:=ov.fg b4
  have f1:=fg.len
  have f2:=b4.len
  obtain⟨v',t3,x1,x2,x3,x4⟩:=ov3.app b2.rv (by simp;omega) (by omega)
  have wi:=wrap64 (show -9223372036854775808≤(i:Int)+1 by omega) (by omega)
  simp only[strip_rs,strip_mr,strip_nilf,Bool.false_eq_true,if_false,↓kR,kE,kK,sL,C_P,Nat.reduceEqDiff,reduceIte,e3,e4,e5,e18,e19,hlt,bd35,bs50,ls35,b1,b2.strip,ov.strip,x1,wi,sL]
  rw[b5]at x2
  refine hnext _ _ ⟨e3,e4,e18,iS i,by omega,v',k+m,rfl,x2,?_,?_,b6,by omega⟩
  ·have c4':SrvI t3 V (FN (FN G s5 t) t t2) { st' with pd:=st'.pd.drop (k+m) } (1000+1000*i+1000):=b3.chg x3 fun j tt cs hj ht=>x4 j tt cs hj (.inl ht)
   refine(c4'.mono (by push_cast;omega)).wid (fun j hj=>?_) fun j hj=>?_
   ·rcases hj with (hj|hj)|hj
    ·exact .inl hj
    ·exact .inr ⟨hj.1,by omega⟩
    ·exact .inr ⟨by omega,by omega⟩
   ·rcases hj with hj|hj
    ·have:=h5.GL j hj;omega
    ·exact hj.2
  ·have f03:Fg G s5 t2:=fg.trans b4 fun j hj=>hj.imp (fun h=>h) (·.1)
   refine⟨by omega,fun j hj hg=>?_,fun j tt cs hj y1 y2 y3 y4 y5 y6=>x4 j tt cs (f03.tf j tt cs hj y1 y2 y3 y4 y5 y6) (.inr (glt hj))⟩
   have h3:=f03.old j hj hg
   obtain⟨y,hy⟩:∃y,s5[j]?=some y:=⟨_,List.getElem?_eq_getElem hj⟩
   rw[hy]at h3 ⊢
   exact x4 j y.1 y.2 h3 (.inr hj)
 ·rintro e t q ⟨e3,e4,e18,e19,_,v5,k,e5,ov,si,fg,hk,hik⟩
  have hlt:decide (st'.pd.length<st'.pd.length)=false:=decide_eq_false (by omega)
  obtain rfl:k=st'.pd.length:=by omega
  rw[List.take_length]at ov
  have lv:aLen Tryz.prog 29 v5=some (I st'.pd.length):=by have:=ov.rv.len;rwa [List.length_map]at this
  simp only[strip_rs,strip_mr,strip_nilf,Bool.false_eq_true,if_false,↓kR,kE,kK,sL,C_P,Nat.reduceEqDiff,reduceIte,e3,e4,e5,e18,e19,hlt,ov.strip,c3,lv,lp1,bne_self_eq_false,sL]
  refine loopI (R:=fun a=>∃s',a=some (.bool true,s'))
   (fun i e t1=>e 3=.ref V 0∧e 5=v5∧e 33=p1∧e 34=I st'.pd.length∧e 35=I i∧i≤st'.pd.length∧Gr t t1) st'.pd.length ?_ ?_ st'.pd.length 0 (by omega) _ (by omega) _ _ ⟨e3,e5,rfl,rfl,rfl,by omega,Gr.refl t⟩
  ·rintro i e t1 q hi ⟨e3,e5,e33,e34,e35,hil,gt⟩ hnext
   have hlt:decide (i<st'.pd.length)=true:=decide_eq_true hi
   have p1':SL 33 5 t p1 (st'.pd.map reqC):=c2.fr fun Q off m e=>by
    obtain⟨cs,hc⟩:=c2.row e
    refine fg.old Q (glt hc) fun hg=>?_
    have:=c5 Q off m e
    rw[hG]at hg;have:=hg.2;omega
   obtain⟨r,hr⟩:∃r,st'.pd[i]=r:=⟨_,rfl⟩
   obtain⟨p,y1,y2,y3,_⟩:=(p1'.gr gt).at und57 sz33 (by decide) (by decide) (i:=i) (by rw[List.length_map];exact hi)
   rw[List.getElem_map,hr]at y2
   obtain⟨t2,e2⟩:∃t2,t1++[(33,reqC r)]=t2:=⟨_,rfl⟩
   have st2:aStore 5 (t1++[(33,[I 0,I 0,I 0,I 0,.str []])]) (.ref t1.length 0) (.agg (reqC r))=some t2:=by
    rw[stW (n:=5) gapp_new (by decide) rfl rfl (by simp),set_end,e2]
   have g2:Gr t1 t2:=e2▸Gr.app ..
   have at2:t2[t1.length]?=some (33,reqC r):=by rw[←e2];exact gapp_new
   have z0:aLoad false false 1 (.ref t1.length 0) t2=some (I r.c,t2):=ldv at2 (by decide) rfl
   have z1:aLoad false false 1 (.ref t1.length 1) t2=some (I r.id,t2):=ldv at2 (by decide) rfl
   have ov2:OV s5.length t2 v5 (st'.pd.map (ansR st')):=ov.tf (fun j cs hj=>g2.at (gt.at hj)) fun j cs hj=>g2.at (gt.at hj)
   obtain⟨p',w1,w2,⟨q0,w3,w4,w5⟩,⟨q1,w6,w7,w8⟩⟩:=ov2.rv.at (i:=i) (by rw[List.length_map];exact hi)
   rw[List.getElem_map,hr]at w4 w7
   rw[(ansR_ci st' r).1]at w4
   rw[(ansR_ci st' r).2]at w7
   have wi:=wrap64 (show -9223372036854775808≤(i:Int)+1 by omega) (by omega)
   simp only[strip_rs,strip_mr,strip_nilf,Bool.false_eq_true,if_false,↓kR,kE,kK,sL,C_P,Nat.reduceEqDiff,reduceIte,e3,e5,e33,e34,e35,hlt,c3,ov.strip,y1,y2,y3,allocS z33 (by decide) ⟨nofun,rfl⟩,st2,z0,z1,w1,w3,w4,w6,w7,rd_get w5,rd_get w8,bne_self_eq_false,wi,sL]
   exact hnext _ _ ⟨e3,e5,e33,e34,iS i,by omega,gt.trans g2⟩
  ·rintro e t1 q ⟨e3,e5,e33,e34,e35,_,gt⟩
   have hlt:decide (st'.pd.length<st'.pd.length)=false:=decide_eq_false (by omega)
   obtain⟨p2,t2,d1,d2,d3,_⟩:=a24 200329 (si.up gt.up)
   have lp2:aLen Tryz.prog 57 p2=some (I 0):=by
    have:=d2.len und57
    simpa using this
   have z00:((0:Int)==0)=true:=rfl
   simp only[strip_rs,strip_mr,strip_nilf,Bool.false_eq_true,if_false,↓kR,kE,kK,sL,C_P,Nat.reduceEqDiff,reduceIte,e3,e34,e35,hlt,f18,d1,d3,lp2,z00,sL]
   exact⟨t2,rfl⟩
 ·have:=h5.wid (G':=FN G s5 s5) (fun i hi=>.inl hi) fun i hi=>hi.elim (h5.GL i) (·.2)
  exact this.mono (by simp)
end Srv
end
