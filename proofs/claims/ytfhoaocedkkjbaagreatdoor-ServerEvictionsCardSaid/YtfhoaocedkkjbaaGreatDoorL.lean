/- Le, L5, L20, L4, L4w, L4x -/
import Derived.Test.YtfhoaocedkkjbaaGreatDoorI
set_option linter.all false
set_option maxRecDepth 100000

section
namespace Srv
open Go Go.Abs Go.Proofs
theorem e11:enterable Tryz.prog 11=true:=by kernel_rfl
theorem e19:enterable Tryz.prog 19=true:=by kernel_rfl
theorem strF (g:FuncId):(AV.fn g [] []).strip=.fn g [] []:=rfl
theorem Own.up {ty z b:Nat}{s s':Heap}{v:AV}{es:List (List AV)}(h:Own ty z b s v es)(k:∀(i:Nat)(cs:List AV),s[i]?=some (ty,cs)→s'[i]?=some (ty,cs)):Own ty z b s' v es:=⟨h.1.tf k,h.2⟩
theorem evs_ok {l:List Evn}(h:∀e∈l,EvOK e)(m:Nat):∀e∈(l.take m).map evS,EvOK e:=fun e he=>by
 obtain⟨x,hx,rfl⟩:=List.mem_map.1 he
 exact(h x (List.mem_of_mem_take hx)).s
theorem start (m:Nat)(hm:m≤20){s:Heap}{v:AV}{l:List Evn}(hv:EvA v l):∃V s1 v' s2 w s3 rs st',aCallF Tryz.prog (den C 200331) 11 [.fn 22 [] []] s=some (.ref V 0,s1)∧aCallF Tryz.prog (den C 200331) 19 [v.strip,I m] s1=some (v',s2)∧v'.strip=v'∧aCall Tryz.prog (den C 200331) 21 [.ref V 0,v'] s2=some (w,s3)∧Steps st0 ((l.take m).map evS) rs st'∧SrvI s3 V (fun i=>s.length≤i∧i<s3.length) st' 1000∧Fg (fun _=>False) s s3∧w.strip=w∧OV s2.length s3 w rs∧s.length≤s2.length∧rs.length≤1000:=by
 obtain⟨s1,V,a1,a2,a3⟩:=c11 200328 s
 obtain⟨v',s2,b1,b2,b3⟩:=c19 200330 (by decide) (s:=s1) (v:=v.strip) hv.strip m (by omega)
 have hok:=evs_ok hv.2 m
 obtain⟨w,s3,rs,st',d1,d2,d3,d4,d5,d6⟩:=c21 200000 (by decide) (by decide) (a2.up b3) (v:=v') ⟨b2.1,hok⟩ (by simp;omega) (by decide)
 have n1:=a3.len
 have n2:=b3.len
 have n3:=d5.len
 refine⟨V,s1,v',s2,w,s3,rs,st',(cFs _ _ e11).trans a1,(cFs _ _ e19).trans b1,b2.strip,?_,d3,?_,?_,d2.strip,d2,by omega,d6⟩
 ·rw[aCall,if_pos (by kernel_rfl),if_neg (by simp[noRefL_cons,AV.noRef])];exact d1
 ·refine d4.wid (fun i hi=>?_) fun i hi=>hi.2
  rcases hi with hi|hi
  ·exact⟨hi.1,by omega⟩
  ·exact⟨by omega,hi.2⟩
 ·refine⟨by omega,fun i hi _=>?_,fun i t cs hi c1 c2 c3 c4 c5 c6=>d5.tf i t cs (b3.at (a3.at hi)) c1 c2 c3 c4 c5 c6⟩
  rw[d5.old i (by omega) (fun h=>by omega),b3.get (by omega),a3.get hi]
theorem RV.len {s:Heap}{v:AV}{l:List Resp}(h:RV s v l):aLen Tryz.prog 29 v=some (I l.length):=by
 obtain⟨es,h1,h2⟩:=h
 have:=h1.len und29
 rwa [h2.len]at this
theorem c8 {s:Heap}{v:AV}{l:List Evn}(hv:EvA v l){e:Evn}(he:EvOK e):∃s',den C 200332 8 [v,.agg (evC e)] s=some (.bool true,s'):=by
 have bx:∀s,aBox false 35 (.agg (evC e)) s=some (.box (evC e) 0,s):=fun s=>boxV rfl s
 have hst:=he.ed.strip
 have lE:∀s,aLoad false true 11 (.box (evC e) 0) s=some (.agg (evC e),s):=fun s=>boxG (n:=11) rfl false s
 obtain⟨V,s1,v',s2,w,s3,rs,st',a1,a2,a3,a4,a5,a6,a7,a8,_⟩:=start (s:=s) 12 (by decide) hv
 obtain⟨m1,s4,b1,b2,b3,b4⟩:=a16 200329 a6
 have h4:=a6.up b4.up
 obtain⟨p1,s5,c1,c2,c3,c4,c5⟩:=a24 200329 h4
 have h5:=h4.up c4.up
 obtain⟨r,s6,l1,err,st2,d1,d2,d3,d4,d5⟩:=c12 200001 (by decide) (by decide) h5 (by decide) e he
 have cl:aCall Tryz.prog (den C 200331) 12 [.ref V 0,.agg (evC e)] s5=some (.tup [r,I err],s6):=by
  rw[aCall,if_pos (by kernel_rfl),if_neg (by simp[noRefL_cons,AV.noRef])];exact d1
 have a2:aCallF Tryz.prog (den C 200331) 19 [v.strip,I 12] s1=some (v',s2):=a2
 by_cases hz:err=0
 ·have q:(err==0)=true:=by simp[hz]
  rw[rd Tryz.func8];conv in compF _ _ _ _ _ _=>cbv
  simp only[strip_rs,strip_mr,strip_nilf,Bool.false_eq_true,if_false,↓kR,kE,kK,sL,C_P,Nat.reduceEqDiff,reduceIte,Tryz.f8,bx,f18,strF,strip2,a1,a2,a3,a4,b1,b3,c1,c3,lE,cl,q,sL]
  exact⟨s6,rfl⟩
 ·have q:(err==0)=false:=by simpa using hz
  obtain⟨rfl,rfl⟩:=d3.err hz
  have k45:∀(i:Nat) (cs:List AV),s5[i]?=some (45,cs)→s6[i]?=some (45,cs):=fun i cs hi=>d5.tf i _ cs hi (by decide) (by decide) (by decide) (by decide) (by decide) (by decide)
  have m1':SL 45 2 s6 m1 (st2.ms.map modC):=(b2.gr c4).tf k45
  obtain⟨m2,s7,f1,f2,f3,f4⟩:=a16 200329 d4
  have h7:=d4.up f4.up
  have e27:=a27 200330 f2 (m1'.gr f4) (by have:=d4.ms8;omega)
  obtain⟨p2,s8,g1,g2,g3,g4,_⟩:=a24 200329 h7
  have p1':SL 33 5 s6 p1 (st2.pd.map reqC):=c2.fr fun Q off m e=>by
   obtain⟨cs,hc⟩:=c2.row e
   refine d5.old Q (glt hc) fun hg=>?_
   have:=c5 Q off m e
   have:=b4.len
   have:=hg.2
   omega
  have e28:=a28 200330 g2 ((p1'.gr f4).gr g4) (by have:=d4.pl;omega)
  have lr:=d2.strip.len
  have z00:((0:Int)==0)=true:=rfl
  rw[rd Tryz.func8];conv in compF _ _ _ _ _ _=>cbv
  simp only[strip_rs,strip_mr,strip_nilf,Bool.false_eq_true,if_false,↓kR,kE,kK,sL,C_P,Nat.reduceEqDiff,reduceIte,Tryz.f8,bx,f18,strF,strip2,a1,a2,a3,a4,b1,b3,c1,c3,lE,cl,q,lr,List.length_nil,Int.natCast_zero,z00,f1,f3,e27,g1,g3,e28,sL]
  exact⟨s8,rfl⟩
end Srv
end

section
namespace Srv
open Go Go.Abs Go.Proofs
theorem Steps.inv {st st':St}{es:List Evn}{rs:List Resp}(h:Steps st es rs st'):(es=[]∧rs=[]∧st'=st)∨∃es' e l l1 st1 err,es=es'++[e]∧rs=l++l1∧Steps st es' l st1∧HStep st1 e l1 err st'∧st1.ms.length≤8∧st1.pd.length≤20:=by
 cases h with
 | nil=>exact .inl ⟨rfl,rfl,rfl⟩
 | snoc h hb k=>exact .inr ⟨_,_,_,_,_,_,rfl,rfl,h,k,hb⟩
theorem Steps.one {st st':St}{e:Evn}{rs:List Resp}(h:Steps st [e] rs st'):∃err,HStep st e rs err st':=by
 rcases h.inv with ⟨h1,_⟩|⟨es',e',l,l1,st1,err,h1,rfl,h3,h4,_⟩
 ·cases h1
 ·have hl:=congrArg List.length h1
  simp at hl
  subst hl
  simp at h1
  subst h1
  rcases h3.inv with ⟨_,rfl,rfl⟩|⟨_,_,_,_,_,_,h5,_⟩
  ·exact⟨err,h4⟩
  ·exact absurd (congrArg List.length h5) (by simp)
def run1 (N:Int):Evn:=⟨6,N,0,[],[],.nils,[],⟨0,0,0,0,[]⟩⟩
theorem run1_ok {N:Int}(h:N<9223372036854775808):EvOK (run1 N):=⟨.inr ⟨rfl,rfl⟩,nofun,h⟩
theorem run1_step {st st':St}{N:Int}(hN:0≤N){rs:List Resp}{err:Int}(h:HStep st (run1 N) rs err st'):∃m,RunOK st N rs st' m:=by
 have h:(if N<0 then(rs=[]∧err=1∧st'=st) else err=0∧∃m,RunOK st N rs st' m):=h
 rw[if_neg (by omega)]at h
 exact h.2
theorem bd35 (N:Int):aBuild Tryz.prog 35 [(0,I 6),(1,I N)]=some (.agg (evC (run1 N))):=by
 have:∀N,aBuild Tryz.prog 35 [(0,I 6),(1,I N)]=some (.agg [I 6,I N,I 0,.str [],.str [],.nils,I 0,I 0,I 0,I 0,.str []]):=fun N=>by kernel_rfl
 exact this N
theorem bs50 (N:Int):aBuildSlice Tryz.prog 50 1 [(0,.agg (evC (run1 N)))]=some (.sl 35 11 [.agg (evC (run1 N))] .own):=by
 have:∀N,aBuildSlice Tryz.prog 50 1 [(0,.agg [I 6,I N,I 0,.str [],.str [],.nils,I 0,I 0,I 0,I 0,.str []])]=some (.sl 35 11 [.agg [I 6,I N,I 0,.str [],.str [],.nils,I 0,I 0,I 0,I 0,.str []]] .own):=fun N=>by kernel_rfl
 exact this N
theorem evL1 {s:Heap}{e:Evn}(h:EvOK e):EvL s (.sl 35 11 [.agg (evC e)] .sh) [e]:=by
 have:=SL.sl (s:=s) (ty:=35) (z:=11) ([e].map evC) .sh (ev_els [e] (fun x hx=>by rw[List.mem_singleton.1 hx];exact h) (by simp))
 exact⟨this,fun x hx=>by rw[List.mem_singleton.1 hx];exact h⟩
theorem ansR_pd (st:St)(p:List Req)(r:Req):ansR { st with pd:=p } r=ansR st r:=rfl
theorem ansR_ci (st:St)(r:Req):(ansR st r).c=r.c∧(ansR st r).id=r.id:=by
 unfold ansR
 split<;>exact⟨rfl,rfl⟩
theorem RunOK.next {st:St}{k:Nat}{N:Int}{rs l:List Resp}{st':St}{m:Nat}(hk:k≤st.pd.length)(h:RunOK { st with pd:=st.pd.drop k } N l st' m)(hr:rs=(st.pd.take k).map (ansR st)) :
  rs++l=(st.pd.take (k+m)).map (ansR st)∧st'={ st with pd:=st.pd.drop (k+m) }∧k+m≤st.pd.length∧(k+m=st.pd.length∨N≤m):=by
 have h1:=h.le
 have h2:=h.ans
 have h3:=h.eq
 have h4:=h.all
 simp only[List.length_drop]at h1 h4
 refine⟨?_,?_,by omega,h4.imp (fun e=>by omega) id⟩
 ·rw[hr,h2,List.take_add,List.map_append]
  rfl
 ·rw[h3,List.drop_drop]
theorem RC.at {s:Heap}:∀{es:List (List AV)}{l:List Resp},RC s es l→∀{i:Nat}(hi:i<l.length)(hi':i<es.length),RC1 s es[i] l[i]
 | e::es,r::l,h,0,_,_=>h.1
 | e::es,r::l,h,i+1,h1,h2=>RC.at h.2 (Nat.lt_of_succ_lt_succ h1) (Nat.lt_of_succ_lt_succ h2)
theorem und29l:aLen Tryz.prog 29 .nils=some (I 0):=by kernel_rfl
theorem RV.at {s:Heap}{v:AV}{l:List Resp}(h:RV s v l){i:Nat}(hi:i<l.length):∃p,aIndexAddr Tryz.prog 29 v (I i)=some p∧Rd p∧(∃q,aAddr 0 p=some q∧aLoad false false 1 q s=some (I l[i].c,s)∧Rd q)∧(∃q,aAddr 1 p=some q∧aLoad false false 1 q s=some (I l[i].id,s)∧Rd q):=by
 obtain⟨es,h1,h2⟩:=h
 have hl:=h2.len
 have hi':i<es.length:=by omega
 obtain⟨p,p1,_,p3,p4⟩:=h1.at und29 sz61 (by decide) (by decide) hi'
 obtain⟨nv,hn,_⟩:=h2.at hi hi'
 exact⟨p,p1,p3,p4 0 _ (by rw[hn];rfl),p4 1 _ (by rw[hn];rfl)⟩
theorem ls35 (N:Int):(AV.sl 35 11 [.agg (evC (run1 N))] .own).strip=.sl 35 11 [.agg (evC (run1 N))] .sh:=rfl
theorem play1 {s:Heap}{V:Nat}{G:Foot}{st:St}{k:Nat}{B:Int}(h:SrvI s V G { st with pd:=st.pd.drop k } B)(hB:B<90000)(hk:k≤st.pd.length){N:Int}(hN:0≤N)(hN2:N<9223372036854775808) :
  ∃w s' l m,aCall Tryz.prog (den C 200331) 21 [.ref V 0,.sl 35 11 [.agg (evC (run1 N))] .sh] s=some (w,s')∧OV s.length s' w l∧SrvI s' V (FN G s s') { st with pd:=st.pd.drop (k+m) } (B+1000)∧Fg G s s'∧(st.pd.take k).map (ansR st)++l=(st.pd.take (k+m)).map (ansR st)∧k+m≤st.pd.length∧(k+m=st.pd.length∨N≤m)∧l.length≤1000:=by
 obtain⟨w,s',l,st2,d1,d2,d3,d4,d5,d6⟩:=c21 200000 (by decide) (by decide) h (evL1 (run1_ok hN2)) (by simp) hB
 obtain⟨err,hs⟩:=d3.one
 obtain⟨m,hm⟩:=run1_step hN hs
 obtain⟨n1,rfl,n3,n4⟩:=hm.next hk rfl
 refine⟨w,s',l,m,?_,d2,d4,d5,n1,n3,n4,d6⟩
 rw[aCall,if_pos (by kernel_rfl),if_neg (by simp[noRefL_cons,AV.noRef,noRefL])];exact d1
set_option maxHeartbeats 2000000 in
theorem c5 {s:Heap}{v:AV}{l:List Evn}(hv:EvA v l):∃s',den C 200332 5 [v] s=some (.bool true,s'):=by
 obtain⟨V,s1,v',s2,w,s3,rs,st',a1,a2,a3,a4,a5,a6,a7,a8,_⟩:=start (s:=s) 12 (by decide) hv
 obtain⟨p1,s5,c1,c2,c3,c4,c5⟩:=a24 200329 a6
 have h5:=a6.up c4.up
 have hpl:=a6.pl
 have lp1:aLen Tryz.prog 57 p1=some (I st'.pd.length):=by have:=c2.len und57;rwa [List.length_map]at this
 have a2:aCallF Tryz.prog (den C 200331) 19 [v.strip,I 12] s1=some (v',s2):=a2
 obtain⟨G,hG⟩:∃G:Foot,G=fun i=>s.length≤i∧i<s3.length:=⟨_,rfl⟩
 rw[←hG]at h5
 have g5:=c4.len
 rw[rd Tryz.func5];conv in compF _ _ _ _ _ _=>cbv
 simp only[strip_rs,strip_mr,strip_nilf,Bool.false_eq_true,if_false,↓kR,kE,kK,sL,C_P,Nat.reduceEqDiff,reduceIte,Tryz.f5,f18,strF,strip2,a1,a2,a3,a4,c1,c3,lp1,sL]
 refine loopI (R:=fun a=>∃s',a=some (.bool true,s'))
  (fun i e t=>e 3=.ref V 0∧e 4=p1∧e 18=I st'.pd.length∧e 19=I i∧i≤st'.pd.length∧∃v5 k,e 5=v5∧OV s5.length t v5 ((st'.pd.take k).map (ansR st'))∧SrvI t V (FN G s5 t) { st' with pd:=st'.pd.drop k } (1000+1000*i)∧Fg G s5 t∧k≤st'.pd.length∧i≤k) st'.pd.length ?_ ?_ st'.pd.length 0 (by omega) _ (by omega) _ _ ⟨rfl,rfl,rfl,rfl,by omega,.nils,0,rfl,⟨[],.nil ..,trivial⟩,?_,(Gr.refl s5).fg G,by omega,by omega⟩
 ·rintro i e t q hi ⟨e3,e4,e18,e19,hil,v5,k,e5,ov,si,fg,hk,hik⟩ hnext
  have hlt:decide (i<st'.pd.length)=true:=decide_eq_true hi
  obtain⟨w1,t2,l1,m,b1,b2,b3,b4,b5,b6,b7,b8⟩:=play1 (N:=1) si (by omega) hk (by decide) (by decide)
  have ov3:=ov.fg b4
  have f1:=fg.len
  have f2:=b4.len
  obtain⟨v',t3,x1,x2,x3,x4⟩:=ov3.app b2.rv (by simp;omega) (by omega)
  have wi:=wrap64 (show -9223372036854775808≤(i:Int)+1 by omega) (by omega)
  simp only[strip_rs,strip_mr,strip_nilf,Bool.false_eq_true,if_false,↓kR,kE,kK,sL,C_P,Nat.reduceEqDiff,reduceIte,e3,e4,e5,e18,e19,hlt,bd35,bs50,ls35,b1,b2.strip,ov.strip,x1,wi,sL]
  rw[b5]at x2
  refine hnext _ _ ⟨e3,e4,e18,iS i,by omega,v',k+m,rfl,x2,?_,?_,b6,by omega⟩
  ·have c4':SrvI t3 V (FN (FN G s5 t) t t2) { st' with pd:=st'.pd.drop (k+m) } (1000+1000*i+1000):=b3.chg x3 fun j tt cs hj ht=>x4 j tt cs hj (.inl ht)
   refine(c4'.mono (by push_cast;omega)).wid (fun j hj=>?_) fun j hj=>?_
   ·rcases hj with (hj|hj)|hj
    ·exact .inl hj
    ·exact .inr ⟨hj.1,by omega⟩
    ·exact .inr ⟨by omega,by omega⟩
   ·rcases hj with hj|hj
    ·have:=h5.GL j hj;omega
    ·exact hj.2
  ·have f03:Fg G s5 t2:=fg.trans b4 fun j hj=>hj.imp (fun h=>h) (·.1)
   refine⟨by omega,fun j hj hg=>?_,fun j tt cs hj y1 y2 y3 y4 y5 y6=>x4 j tt cs (f03.tf j tt cs hj y1 y2 y3 y4 y5 y6) (.inr (glt hj))⟩
   have h3:=f03.old j hj hg
   obtain⟨y,hy⟩:∃y,s5[j]?=some y:=⟨_,List.getElem?_eq_getElem hj⟩
   rw[hy]at h3 ⊢
   exact x4 j y.1 y.2 h3 (.inr hj)
 ·rintro e t q ⟨e3,e4,e18,e19,_,v5,k,e5,ov,si,fg,hk,hik⟩
  have hlt:decide (st'.pd.length<st'.pd.length)=false:=decide_eq_false (by omega)
  obtain rfl:k=st'.pd.length:=by omega
  rw[List.take_length]at ov
  have lv:aLen Tryz.prog 29 v5=some (I st'.pd.length):=by have:=ov.rv.len;rwa [List.length_map]at this
  simp only[strip_rs,strip_mr,strip_nilf,Bool.false_eq_true,if_false,↓kR,kE,kK,sL,C_P,Nat.reduceEqDiff,reduceIte,e3,e4,e5,e18,e19,hlt,ov.strip,c3,lv,lp1,bne_self_eq_false,sL]
  refine loopI (R:=fun a=>∃s',a=some (.bool true,s'))
   (fun i e t1=>e 3=.ref V 0∧e 5=v5∧e 33=p1∧e 34=I st'.pd.length∧e 35=I i∧i≤st'.pd.length∧Gr t t1) st'.pd.length ?_ ?_ st'.pd.length 0 (by omega) _ (by omega) _ _ ⟨e3,e5,rfl,rfl,rfl,by omega,Gr.refl t⟩
  ·rintro i e t1 q hi ⟨e3,e5,e33,e34,e35,hil,gt⟩ hnext
   have hlt:decide (i<st'.pd.length)=true:=decide_eq_true hi
   have p1':SL 33 5 t p1 (st'.pd.map reqC):=c2.fr fun Q off m e=>by
    obtain⟨cs,hc⟩:=c2.row e
    refine fg.old Q (glt hc) fun hg=>?_
    have:=c5 Q off m e
    rw[hG]at hg;have:=hg.2;omega
   obtain⟨r,hr⟩:∃r,st'.pd[i]=r:=⟨_,rfl⟩
   obtain⟨p,y1,y2,y3,_⟩:=(p1'.gr gt).at und57 sz33 (by decide) (by decide) (i:=i) (by rw[List.length_map];exact hi)
   rw[List.getElem_map,hr]at y2
   obtain⟨t2,e2⟩:∃t2,t1++[(33,reqC r)]=t2:=⟨_,rfl⟩
   have st2:aStore 5 (t1++[(33,[I 0,I 0,I 0,I 0,.str []])]) (.ref t1.length 0) (.agg (reqC r))=some t2:=by
    rw[stW (n:=5) gapp_new (by decide) rfl rfl (by simp),set_end,e2]
   have g2:Gr t1 t2:=e2▸Gr.app ..
   have at2:t2[t1.length]?=some (33,reqC r):=by rw[←e2];exact gapp_new
   have z0:aLoad false false 1 (.ref t1.length 0) t2=some (I r.c,t2):=ldv at2 (by decide) rfl
   have z1:aLoad false false 1 (.ref t1.length 1) t2=some (I r.id,t2):=ldv at2 (by decide) rfl
   have ov2:OV s5.length t2 v5 (st'.pd.map (ansR st')):=ov.tf (fun j cs hj=>g2.at (gt.at hj)) fun j cs hj=>g2.at (gt.at hj)
   obtain⟨p',w1,w2,⟨q0,w3,w4,w5⟩,⟨q1,w6,w7,w8⟩⟩:=ov2.rv.at (i:=i) (by rw[List.length_map];exact hi)
   rw[List.getElem_map,hr]at w4 w7
   rw[(ansR_ci st' r).1]at w4
   rw[(ansR_ci st' r).2]at w7
   have wi:=wrap64 (show -9223372036854775808≤(i:Int)+1 by omega) (by omega)
   simp only[strip_rs,strip_mr,strip_nilf,Bool.false_eq_true,if_false,↓kR,kE,kK,sL,C_P,Nat.reduceEqDiff,reduceIte,e3,e5,e33,e34,e35,hlt,c3,ov.strip,y1,y2,y3,allocS z33 (by decide) ⟨nofun,rfl⟩,st2,z0,z1,w1,w3,w4,w6,w7,rd_get w5,rd_get w8,bne_self_eq_false,wi,sL]
   exact hnext _ _ ⟨e3,e5,e33,e34,iS i,by omega,gt.trans g2⟩
  ·rintro e t1 q ⟨e3,e5,e33,e34,e35,_,gt⟩
   have hlt:decide (st'.pd.length<st'.pd.length)=false:=decide_eq_false (by omega)
   obtain⟨p2,t2,d1,d2,d3,_⟩:=a24 200329 (si.up gt.up)
   have lp2:aLen Tryz.prog 57 p2=some (I 0):=by
    have:=d2.len und57
    simpa using this
   have z00:((0:Int)==0)=true:=rfl
   simp only[strip_rs,strip_mr,strip_nilf,Bool.false_eq_true,if_false,↓kR,kE,kK,sL,C_P,Nat.reduceEqDiff,reduceIte,e3,e34,e35,hlt,f18,d1,d3,lp2,z00,sL]
   exact⟨t2,rfl⟩
 ·have:=h5.wid (G':=FN G s5 s5) (fun i hi=>.inl hi) fun i hi=>hi.elim (h5.GL i) (·.2)
  exact this.mono (by simp)
end Srv
end

section
namespace Srv
open Go Go.Abs Go.Proofs
theorem c52 (n:Nat){s:Heap}{v w:AV}{l:List Int}(h:IV s v l)(k:IV s w l)(hn:l.length<n):den C (n+1) 52 [v,w] s=some (.bool true,s):=by
 have hs:=h.strip
 have ks:=k.strip
 have l1:aLen Tryz.prog 59 v.strip=some (I l.length):=hs.len
 have l2:aLen Tryz.prog 59 w.strip=some (I l.length):=ks.len
 have hb:=h.bnd
 rw[rd Tryz.func52];conv in compF _ _ _ _ _ _=>cbv
 simp only[strip_rs,strip_mr,strip_nilf,Bool.false_eq_true,if_false,↓kR,kE,kK,sL,C_P,Nat.reduceEqDiff,reduceIte,Tryz.f52,l1,l2,bne_self_eq_false,sL]
 refine loopI (R:=fun a=>a=some (.bool true,s)) (fun i e s1=>s1=s∧e 0=v∧e 1=w∧e 12=I l.length∧e 13=I i) l.length ?_ ?_ l.length 0 (by omega) n hn _ _ ⟨rfl,rfl,rfl,rfl,rfl⟩
 ·rintro i e s1 q hi ⟨rfl,e0,e1,e12,e13⟩ hk
  have hlt:decide (i<l.length)=true:=decide_eq_true hi
  obtain⟨p,p1,p2,p3⟩:=hs.at hi
  obtain⟨p',p1',p2',p3'⟩:=ks.at hi
  simp only[strip_rs,strip_mr,strip_nilf,Bool.false_eq_true,if_false,↓kR,kE,kK,sL,C_P,Nat.reduceEqDiff,reduceIte,e0,e1,e12,e13,hlt,p1,p2,p1',p2',bne_self_eq_false,rd_compat p3 p3',sL]
  rw[wrap64 (by omega) (by omega)]
  exact hk _ _ ⟨rfl,e0,e1,e12,iS i⟩
 ·rintro e s1 q ⟨rfl,e0,e1,e12,e13⟩
  have hlt:decide (l.length<l.length)=false:=decide_eq_false (by omega)
  simp only[strip_rs,strip_mr,strip_nilf,Bool.false_eq_true,if_false,↓kR,kE,kK,sL,C_P,Nat.reduceEqDiff,reduceIte,e12,e13,hlt,sL]
theorem IV.pure {s t:Heap}{v:AV}{xs:List Int}(h:IV s v xs)(hr:v.noRef=true):IV t v xs:=by
 cases h with
 | nil=>exact .nil
 | sl _ f hb=>exact .sl _ f hb
 | rs Q off pre junk xs h hp hb=>exact absurd hr (by simp[AV.noRef])
theorem a52 (n:Nat){s:Heap}{v w:AV}{l:List Int}(h:IV s v l)(k:IV s w l)(hn:l.length<n):aCall Tryz.prog (den C (n+1)) 52 [v,w] s=some (.bool true,s) :=
 aC (by kernel_rfl) rfl (fun hr=>⟨[],by
  simp only[noRefL,Bool.and_eq_true]at hr
  exact c52 n (h.pure hr.1) (k.pure hr.2.1) hn⟩) fun _=>c52 n h k hn
theorem RC.at' {s:Heap}:∀{es:List (List AV)}{l:List Resp},RC s es l→∀{i:Nat}(hi:i<l.length)(hi':i<es.length),RC1 s es[i] l[i]
 | e::es,r::l,h,0,_,_=>h.1
 | e::es,r::l,h,i+1,h1,h2=>RC.at' h.2 (Nat.lt_of_succ_lt_succ h1) (Nat.lt_of_succ_lt_succ h2)
theorem RV.strip' {s:Heap}{v:AV}{l:List Resp}(h:RV s v l):RV s v.strip l:=by
 obtain⟨es,h1,h2⟩:=h
 exact⟨es,h1.strip,h2⟩
theorem RV.at' {s:Heap}{v:AV}{l:List Resp}(h:RV s v l){i:Nat}(hi:i<l.length):∃p,aIndexAddr Tryz.prog 29 v (I i)=some p∧(∃q,aAddr 0 p=some q∧aLoad false false 1 q s=some (I l[i].c,s)∧Rd q)∧(∃q,aAddr 1 p=some q∧aLoad false false 1 q s=some (I l[i].id,s)∧Rd q)∧(∃q,aAddr 2 p=some q∧aLoad false false 1 q s=some (I l[i].err,s)∧Rd q)∧(∃q,aAddr 3 p=some q∧aLoad false false 1 q s=some (I l[i].rev,s)∧Rd q)∧(∃q nv,aAddr 4 p=some q∧aLoad false false 1 q s=some (nv,s)∧Rd q∧IV s nv l[i].nums∧nv.strip=nv)∧(∃q,aAddr 5 p=some q∧aLoad false false 1 q s=some (.str l[i].tx,s)∧Rd q):=by
 obtain⟨es,h1,h2⟩:=h
 have hl:=h2.len
 have hi':i<es.length:=by omega
 obtain⟨p,p1,_,p3,p4⟩:=h1.at und29 sz61 (by decide) (by decide) hi'
 obtain⟨nv,hn,hi1,hi2⟩:=h2.at' hi hi'
 obtain⟨q4,a4,b4,c4⟩:=p4 4 _ (by rw[hn];rfl)
 exact⟨p,p1,p4 0 _ (by rw[hn];rfl),p4 1 _ (by rw[hn];rfl),p4 2 _ (by rw[hn];rfl),p4 3 _ (by rw[hn];rfl),⟨q4,nv,a4,b4,c4,hi1,hi2⟩,p4 5 _ (by rw[hn];rfl)⟩
theorem RV.len' {s:Heap}{v:AV}{l:List Resp}(h:RV s v l):aLen Tryz.prog 29 v=some (I l.length)∧l.length<1000000:=by
 obtain⟨es,h1,h2⟩:=h
 have:=h1.len und29
 have hb:=h1.els.2
 rw[h2.len]at this hb
 exact⟨this,hb⟩
theorem t20:compF C 20 refs owns Tryz.f20 2=RC.seq (RC.reg [RO.n (some 4) (RP.raw false false (Op.assign (Operand.const (Value.bool false))))]) (RC.seq (RC.seq (RC.reg [RO.n (some 6) (RP.raw false false (Op.move (Operand.tmp 0))),RO.n (some 7) (RP.raw false false (Op.call { callee:=Callee.builtin Builtin.len,args:={ toList:=[Operand.tmp 6] },argTypes:={ toList:=[29] } })),RO.n (some 8) (RP.raw false false (Op.move (Operand.tmp 1))),RO.n (some 9) (RP.raw false false (Op.call { callee:=Callee.builtin Builtin.len,args:={ toList:=[Operand.tmp 8] },argTypes:={ toList:=[29] } })),RO.n (some 10) (RP.raw false false (Op.binOp BinOp.neq 3 (Operand.tmp 7) (Operand.tmp 9) 3))]) (RC.cond (Operand.tmp 10) (RC.seq (RC.reg [RO.n (some 4) (RP.raw false false (Op.assign (Operand.const (Value.bool false))))]) RC.ret) RC.skip)) (RC.seq (RC.seq (RC.reg [RO.n (some 11) (RP.raw false false (Op.move (Operand.tmp 0))),RO.n (some 12) (RP.raw false false (Op.call { callee:=Callee.builtin Builtin.len,args:={ toList:=[Operand.tmp 11] },argTypes:={ toList:=[29] } })),RO.n (some 13) (RP.raw false false (Op.move (Operand.const (Value.int IntKind.i64 0))))]) (RC.block 0 (RC.loop (RC.seq (RC.reg [RO.n (some 14) (RP.raw false false (Op.binOp BinOp.lss 3 (Operand.tmp 13) (Operand.tmp 12) 3))]) (RC.seq (RC.cond (Operand.tmp 14) RC.skip (RC.exit 0)) (RC.seq (RC.block 1 (RC.seq (RC.reg [RO.n (some 15) (RP.raw false false (Op.move (Operand.tmp 13))),RO.t (some 5) 15 (RP.raw false false (Op.assign (Operand.tmp 15)))]) (RC.seq (RC.regK [RO.n (some 16) (RP.raw false false (Op.move (Operand.tmp 0))),RO.n (some 17) (RP.raw false false (Op.move (Operand.tmp 5))),RO.n (some 18) (RP.raw false false (Op.indexAddr 29 (Operand.tmp 16) (Operand.tmp 17))),RO.n (some 19) (RP.fa 0 (Operand.tmp 18)),RO.n (some 20) (RP.ld false false 1 (Operand.tmp 19)),RO.n (some 21) (RP.raw false false (Op.move (Operand.tmp 1))),RO.n (some 22) (RP.raw false false (Op.move (Operand.tmp 5))),RO.n (some 23) (RP.raw false false (Op.indexAddr 29 (Operand.tmp 21) (Operand.tmp 22))),RO.n (some 24) (RP.fa 0 (Operand.tmp 23)),RO.n (some 25) (RP.ld false false 1 (Operand.tmp 24)),RO.n (some 26) (RP.raw false false (Op.binOp BinOp.neq 3 (Operand.tmp 20) (Operand.tmp 25) 3)),RO.n (some 27) (RP.raw false false (Op.move (Operand.tmp 26))),RO.g (some 28) 27 false (RP.raw false false (Op.move (Operand.tmp 0))),RO.g (some 29) 27 false (RP.raw false false (Op.move (Operand.tmp 5))),RO.g (some 30) 27 false (RP.raw false false (Op.indexAddr 29 (Operand.tmp 28) (Operand.tmp 29))),RO.g (some 31) 27 false (RP.fa 1 (Operand.tmp 30)),RO.g (some 32) 27 false (RP.ld false false 1 (Operand.tmp 31)),RO.g (some 33) 27 false (RP.raw false false (Op.move (Operand.tmp 1))),RO.g (some 34) 27 false (RP.raw false false (Op.move (Operand.tmp 5))),RO.g (some 35) 27 false (RP.raw false false (Op.indexAddr 29 (Operand.tmp 33) (Operand.tmp 34))),RO.g (some 36) 27 false (RP.fa 1 (Operand.tmp 35)),RO.g (some 37) 27 false (RP.ld false false 1 (Operand.tmp 36)),RO.g (some 38) 27 false (RP.raw false false (Op.binOp BinOp.neq 3 (Operand.tmp 32) (Operand.tmp 37) 3)),RO.n (some 39) (RP.raw false false (Op.pick (Operand.tmp 27) (Operand.const (Value.bool true)) (Operand.tmp 38))),RO.n (some 40) (RP.raw false false (Op.move (Operand.tmp 39))),RO.g (some 41) 40 false (RP.raw false false (Op.move (Operand.tmp 0))),RO.g (some 42) 40 false (RP.raw false false (Op.move (Operand.tmp 5))),RO.g (some 43) 40 false (RP.raw false false (Op.indexAddr 29 (Operand.tmp 41) (Operand.tmp 42))),RO.g (some 44) 40 false (RP.fa 2 (Operand.tmp 43)),RO.g (some 45) 40 false (RP.ld false false 1 (Operand.tmp 44)),RO.g (some 46) 40 false (RP.raw false false (Op.move (Operand.tmp 1))),RO.g (some 47) 40 false (RP.raw false false (Op.move (Operand.tmp 5))),RO.g (some 48) 40 false (RP.raw false false (Op.indexAddr 29 (Operand.tmp 46) (Operand.tmp 47))),RO.g (some 49) 40 false (RP.fa 2 (Operand.tmp 48)),RO.g (some 50) 40 false (RP.ld false false 1 (Operand.tmp 49)),RO.g (some 51) 40 false (RP.raw false false (Op.binOp BinOp.neq 24 (Operand.tmp 45) (Operand.tmp 50) 24)),RO.n (some 52) (RP.raw false false (Op.pick (Operand.tmp 40) (Operand.const (Value.bool true)) (Operand.tmp 51))),RO.n (some 53) (RP.raw false false (Op.move (Operand.tmp 52))),RO.g (some 54) 53 false (RP.raw false false (Op.move (Operand.tmp 0))),RO.g (some 55) 53 false (RP.raw false false (Op.move (Operand.tmp 5))),RO.g (some 56) 53 false (RP.raw false false (Op.indexAddr 29 (Operand.tmp 54) (Operand.tmp 55))),RO.g (some 57) 53 false (RP.fa 3 (Operand.tmp 56)),RO.g (some 58) 53 false (RP.ld false false 1 (Operand.tmp 57)),RO.g (some 59) 53 false (RP.raw false false (Op.move (Operand.tmp 1))),RO.g (some 60) 53 false (RP.raw false false (Op.move (Operand.tmp 5))),RO.g (some 61) 53 false (RP.raw false false (Op.indexAddr 29 (Operand.tmp 59) (Operand.tmp 60))),RO.g (some 62) 53 false (RP.fa 3 (Operand.tmp 61)),RO.g (some 63) 53 false (RP.ld false false 1 (Operand.tmp 62)),RO.g (some 64) 53 false (RP.raw false false (Op.binOp BinOp.neq 3 (Operand.tmp 58) (Operand.tmp 63) 3)),RO.n (some 65) (RP.raw false false (Op.pick (Operand.tmp 53) (Operand.const (Value.bool true)) (Operand.tmp 64))),RO.n (some 66) (RP.raw false false (Op.move (Operand.tmp 65))),RO.g (some 67) 66 false (RP.raw false false (Op.move (Operand.tmp 0))),RO.g (some 68) 66 false (RP.raw false false (Op.move (Operand.tmp 5))),RO.g (some 69) 66 false (RP.raw false false (Op.indexAddr 29 (Operand.tmp 67) (Operand.tmp 68))),RO.g (some 70) 66 false (RP.fa 5 (Operand.tmp 69)),RO.g (some 71) 66 false (RP.ld false false 1 (Operand.tmp 70)),RO.g (some 72) 66 false (RP.raw false false (Op.move (Operand.tmp 1))),RO.g (some 73) 66 false (RP.raw false false (Op.move (Operand.tmp 5))),RO.g (some 74) 66 false (RP.raw false false (Op.indexAddr 29 (Operand.tmp 72) (Operand.tmp 73))),RO.g (some 75) 66 false (RP.fa 5 (Operand.tmp 74)),RO.g (some 76) 66 false (RP.ld false false 1 (Operand.tmp 75)),RO.g (some 77) 66 false (RP.raw false false (Op.binOp BinOp.neq 9 (Operand.tmp 71) (Operand.tmp 76) 9)),RO.n (some 78) (RP.raw false false (Op.pick (Operand.tmp 66) (Operand.const (Value.bool true)) (Operand.tmp 77))),RO.n (some 79) (RP.raw false false (Op.move (Operand.tmp 78))),RO.g (some 80) 79 false (RP.raw false false (Op.move (Operand.tmp 0))),RO.g (some 81) 79 false (RP.raw false false (Op.move (Operand.tmp 5))),RO.g (some 82) 79 false (RP.raw false false (Op.indexAddr 29 (Operand.tmp 80) (Operand.tmp 81))),RO.g (some 83) 79 false (RP.fa 4 (Operand.tmp 82)),RO.g (some 84) 79 false (RP.ld false false 1 (Operand.tmp 83)),RO.g (some 85) 79 false (RP.raw false false (Op.move (Operand.tmp 1))),RO.g (some 86) 79 false (RP.raw false false (Op.move (Operand.tmp 5))),RO.g (some 87) 79 false (RP.raw false false (Op.indexAddr 29 (Operand.tmp 85) (Operand.tmp 86))),RO.g (some 88) 79 false (RP.fa 4 (Operand.tmp 87)),RO.g (some 89) 79 false (RP.ld false false 1 (Operand.tmp 88)),RO.g (some 90) 79 false (RP.raw false false (Op.call { callee:=Callee.value (Operand.func 52),args:={ toList:=[Operand.tmp 84,Operand.tmp 89] },argTypes:={ toList:=[59,59] } })),RO.g (some 91) 79 false (RP.raw false false (Op.unOp UnOp.not 4 (Operand.tmp 90))),RO.n (some 92) (RP.raw false false (Op.pick (Operand.tmp 79) (Operand.const (Value.bool true)) (Operand.tmp 91)))] [(0,1),(0,5),(1,5),(2,5),(3,5),(4,5),(0,6),(1,6),(2,6),(3,6),(4,6),(5,6),(0,7),(1,7),(2,7),(3,7),(4,7),(0,8),(1,8),(2,8),(3,8),(4,8),(0,9),(1,9),(2,9),(3,9),(4,9),(12,13),(12,17),(13,17),(14,17),(15,17),(16,17),(12,18),(13,18),(14,18),(15,18),(16,18),(17,18),(12,19),(13,19),(14,19),(15,19),(16,19),(12,20),(13,20),(14,20),(15,20),(16,20),(12,21),(13,21),(14,21),(15,21),(16,21),(25,26),(25,30),(26,30),(27,30),(28,30),(29,30),(25,31),(26,31),(27,31),(28,31),(29,31),(30,31),(25,32),(26,32),(27,32),(28,32),(29,32),(25,33),(26,33),(27,33),(28,33),(29,33),(25,34),(26,34),(27,34),(28,34),(29,34),(38,39),(38,43),(39,43),(40,43),(41,43),(42,43),(38,44),(39,44),(40,44),(41,44),(42,44),(43,44),(38,45),(39,45),(40,45),(41,45),(42,45),(38,46),(39,46),(40,46),(41,46),(42,46),(38,47),(39,47),(40,47),(41,47),(42,47),(51,52),(51,56),(52,56),(53,56),(54,56),(55,56),(51,57),(52,57),(53,57),(54,57),(55,57),(56,57),(51,58),(52,58),(53,58),(54,58),(55,58),(51,59),(52,59),(53,59),(54,59),(55,59),(51,60),(52,60),(53,60),(54,60),(55,60),(64,65),(64,69),(65,69),(66,69),(67,69),(68,69),(64,70),(65,70),(66,70),(67,70),(68,70),(69,70),(64,71),(65,71),(66,71),(67,71),(68,71),(64,72),(65,72),(66,72),(67,72),(68,72),(64,73),(65,73),(66,73),(67,73),(68,73)]) (RC.cond (Operand.tmp 92) (RC.seq (RC.reg [RO.n (some 4) (RP.raw false false (Op.assign (Operand.const (Value.bool false))))]) RC.ret) RC.skip)))) (RC.reg [RO.n (some 93) (RP.raw false false (Op.binOp BinOp.add 3 (Operand.tmp 13) (Operand.const (Value.int IntKind.i64 1)) 3)),RO.n (some 13) (RP.raw false false (Op.move (Operand.tmp 93)))]))))))) (RC.seq (RC.reg [RO.n (some 4) (RP.raw false false (Op.assign (Operand.const (Value.bool true))))]) RC.ret))):=by kernel_rfl
set_option maxHeartbeats 4000000 in
theorem c20 (n:Nat){s:Heap}{v w:AV}{l:List Resp}(h:RV s v l)(k:RV s w l)(hn:l.length<n)(hm:∀r∈l,r.nums.length<n):den C (n+2) 20 [v,w] s=some (.bool true,s):=by
 have hs:=h.strip'
 have ks:=k.strip'
 obtain⟨l1,hb⟩:=hs.len'
 obtain⟨l2,_⟩:=ks.len'
 rw[rd Tryz.func20,show compF C 20 refs owns Tryz.f20 [v,w].length=_ from t20]
 simp only[strip_rs,strip_mr,strip_nilf,Bool.false_eq_true,if_false,↓kR,kE,kK,sL,C_P,Nat.reduceEqDiff,reduceIte,Tryz.f20,l1,l2,bne_self_eq_false,sL]
 refine loopI (R:=fun a=>a=some (.bool true,s)) (fun i e s1=>s1=s∧e 0=v∧e 1=w∧e 12=I l.length∧e 13=I i) l.length ?_ ?_ l.length 0 (by omega) _ (by omega) _ _ ⟨rfl,rfl,rfl,rfl,rfl⟩
 ·rintro i e s1 q hi ⟨rfl,e0,e1,e12,e13⟩ hk
  have hlt:decide (i<l.length)=true:=decide_eq_true hi
  obtain⟨p,p1,⟨q0,a0,b0,g0⟩,⟨q1,a1,b1,g1⟩,⟨q2,a2,b2,g2⟩,⟨q3,a3,b3,g3⟩,⟨q4,nv,a4,b4,g4,d4,f4⟩,⟨q5,a5,b5,g5⟩⟩:=hs.at' hi
  obtain⟨p',p1',⟨u0,x0,y0,z0⟩,⟨u1,x1,y1,z1⟩,⟨u2,x2,y2,z2⟩,⟨u3,x3,y3,z3⟩,⟨u4,mv,x4,y4,z4,w4,v4⟩,⟨u5,x5,y5,z5⟩⟩:=ks.at' hi
  have ns:aBin Tryz.prog .neq 9 (.str l[i].tx) (.str l[i].tx)=some (.bool false):=by simp[str_neq]
  have cl:=a52 n d4 w4 (hm _ (List.getElem_mem hi))
  simp only[strip_rs,strip_mr,strip_nilf,Bool.false_eq_true,if_false,↓kR,kE,kK,sL,C_P,Nat.reduceEqDiff,reduceIte,e0,e1,e12,e13,hlt,p1,p1',a0,b0,a1,b1,a2,b2,a3,b3,a4,b4,a5,b5,x0,y0,x1,y1,x2,y2,x3,y3,x4,y4,x5,y5,f4,v4,cl,ns,bne_self_eq_false,rd_compat g0 z0,rd_compat g1 z1,rd_compat g2 z2,rd_compat g3 z3,rd_compat g4 z4,rd_compat g5 z5,sL]
  rw[wrap64 (by omega) (by omega)]
  exact hk _ _ ⟨rfl,e0,e1,e12,iS i⟩
 ·rintro e s1 q ⟨rfl,e0,e1,e12,e13⟩
  have hlt:decide (l.length<l.length)=false:=decide_eq_false (by omega)
  simp only[strip_rs,strip_mr,strip_nilf,Bool.false_eq_true,if_false,↓kR,kE,kK,sL,C_P,Nat.reduceEqDiff,reduceIte,e12,e13,hlt,sL]
end Srv
end

section
namespace Srv
open Go Go.Abs Go.Proofs
def evN (e:Evn):Evn:=if e.k=6 then { e with n:=20 } else e
theorem evN_ok {e:Evn}(h:EvOK e):EvOK (evN e):=by
 unfold evN
 split
 ·exact⟨h.ed,h.et,by show (20:Int)<_;decide⟩
 ·exact h
theorem evN_k (e:Evn):(evN e).k=e.k:=by unfold evN;split<;>rfl
theorem evN_n {e:Evn}(h:(evN e).k=6):(evN e).n=20:=by
 rw[evN_k]at h
 unfold evN
 rw[if_pos h]
theorem evN_evN (e:Evn):evN (evN e)=evN e:=by
 by_cases h:e.k=6
 ·have h2:(evN e).k=6:=by rw[evN_k];exact h
  have:evN (evN e)={ evN e with n:=20 }:=by
   show (if(evN e).k=6 then _ else _)=_
   rw[if_pos h2]
  rw[this]
  unfold evN
  rw[if_pos h]
 ·unfold evN
  rw[if_neg h,if_neg h]
def no7 (e:Evn):Bool:=decide (e.k≠7)
def wo (l:List Evn):List Evn:=(l.map evN).filter no7
theorem ansR_len (st:St)(r:Req)(h:st.ms.length≤8):(ansR st r).nums.length≤100:=by
 unfold ansR
 split
 ·show (compM _ _).2.1.length≤_
  unfold compM
  split
  ·exact Nat.le_of_lt (sk_len _ _ _ _ (by simp))
  ·exact Nat.le_of_lt (sk_len _ _ _ _ h)
 ·simp
theorem HStep.nums {st st':St}{e:Evn}{l:List Resp}{err:Int}(h:HStep st e l err st')(hb:st.ms.length≤8):∀r∈l,r.nums.length≤100:=by
 have nil:l=[]→∀r∈l,r.nums.length≤100:=fun e r hr=>by rw[e]at hr;cases hr
 unfold HStep at h
 split at h
 ·exact nil h.1
 split at h
 ·exact nil h.1
 split at h
 ·exact nil h.1
 split at h
 ·exact nil h.1
 split at h
 ·unfold canS at h
  split at h
  ·cases h
   intro r hr
   rw[List.mem_singleton.1 hr]
   simp
  ·cases h;exact nil rfl
 split at h
 ·split at h
  ·exact nil h.1
  ·obtain⟨_,m,hm⟩:=h
   intro r hr
   rw[hm.ans]at hr
   obtain⟨q,_,rfl⟩:=List.mem_map.1 hr
   exact ansR_len st q hb
 split at h
 ·split at h
  ·exact nil h.1
  ·exact nil h.1
 ·exact nil h.1
theorem Steps.nums {st st':St}{es:List Evn}{rs:List Resp}(h:Steps st es rs st'):∀r∈rs,r.nums.length≤100:=by
 induction h with
 | nil=>nofun
 | snoc h hb k ih =>
  intro r hr
  rcases List.mem_append.1 hr with hr|hr
  ·exact ih r hr
  ·exact k.nums hb.1 r hr
theorem RunOK.full {st st':St}{N:Int}{l:List Resp}{m:Nat}(h:RunOK st N l st' m)(hN:N=20)(hp:st.pd.length≤20):l=st.pd.map (ansR st)∧st'={ st with pd:=[] }:=by
 have h1:=h.le
 have h2:=h.all
 have e:m=st.pd.length:=by omega
 have h3:=h.ans
 have h4:=h.eq
 rw[e,List.take_length]at h3
 rw[e,List.drop_length]at h4
 exact⟨h3,h4⟩
theorem HStep.det {st st1 st2:St}{e:Evn}{l1 l2:List Resp}{err1 err2:Int}(h:HStep st e l1 err1 st1)(k:HStep st e l2 err2 st2)(hn:e.k=6→e.n=20)(hp:st.pd.length≤20):l1=l2∧st1=st2:=by
 have pr:∀{x y:Int} {a b:St} {z:Int×St},(x,a)=z→(y,b)=z→a=b:=fun h k=>by rw[←k]at h;cases h;rfl
 unfold HStep at h k
 split at h
 ·rename_i c;rw[if_pos c]at k;exact⟨h.1.trans k.1.symm,pr h.2 k.2⟩
 rename_i c1;rw[if_neg c1]at k
 split at h
 ·rename_i c;rw[if_pos c]at k;exact⟨h.1.trans k.1.symm,pr h.2 k.2⟩
 rename_i c2;rw[if_neg c2]at k
 split at h
 ·rename_i c;rw[if_pos c]at k;exact⟨h.1.trans k.1.symm,pr h.2 k.2⟩
 rename_i c3;rw[if_neg c3]at k
 split at h
 ·rename_i c;rw[if_pos c]at k;exact⟨h.1.trans k.1.symm,pr h.2 k.2⟩
 rename_i c4;rw[if_neg c4]at k
 split at h
 ·rename_i c;rw[if_pos c,←h]at k;cases k;exact⟨rfl,rfl⟩
 rename_i c5;rw[if_neg c5]at k
 split at h
 ·rename_i c;rw[if_pos c]at k
  split at h
  ·rename_i d;rw[if_pos d]at k;exact⟨h.1.trans k.1.symm,h.2.2.trans k.2.2.symm⟩
  ·rename_i d;rw[if_neg d]at k
   obtain⟨_,m,hm⟩:=h
   obtain⟨_,m',hm'⟩:=k
   obtain⟨a1,a2⟩:=hm.full (hn c) hp
   obtain⟨b1,b2⟩:=hm'.full (hn c) hp
   exact⟨a1.trans b1.symm,a2.trans b2.symm⟩
 rename_i c6;rw[if_neg c6]at k
 split at h
 ·rename_i c;rw[if_pos c]at k
  split at h
  ·rename_i d;rw[if_pos d]at k;exact⟨h.1.trans k.1.symm,h.2.2.trans k.2.2.symm⟩
  ·rename_i d;rw[if_neg d]at k;exact⟨h.1.trans k.1.symm,h.2.2.trans k.2.2.symm⟩
 ·rename_i c;rw[if_neg c]at k;exact⟨h.1.trans k.1.symm,h.2.2.trans k.2.2.symm⟩
theorem HStep.ev7 {st st1:St}{e:Evn}{l1:List Resp}{err1:Int}(h:HStep st e l1 err1 st1)(he:e.k=7):l1=[]∧st1=st:=by
 unfold HStep at h
 rw[if_neg (by omega),if_neg (by omega),if_neg (by omega),if_neg (by omega),if_neg (by omega),if_neg (by omega),if_pos he]at h
 split at h
 ·exact⟨h.1,h.2.2⟩
 ·exact⟨h.1,h.2.2⟩
theorem Steps.wo {st st':St}{es:List Evn}{rs:List Resp}(h:Steps st es rs st'):Steps st (es.filter no7) rs st':=by
 induction h with
 | nil=>exact .nil _
 | @snoc st1 st2 es l l1 e err h hb k ih =>
  rw[List.filter_append]
  by_cases h7:e.k=7
  ·obtain⟨rfl,rfl⟩:=k.ev7 h7
   have:[e].filter no7=[]:=by simp[no7,h7]
   rw[this,List.append_nil,List.append_nil]
   exact ih
  ·have:[e].filter no7=[e]:=by simp[no7,h7]
   rw[this]
   exact .snoc ih hb k
theorem Steps.det {st st1:St}{es:List Evn}{r1:List Resp}(h:Steps st es r1 st1):∀{r2:List Resp}{st2:St},Steps st es r2 st2→(∀e∈es,e.k=6→e.n=20)→r1=r2∧st1=st2:=by
 induction h with
 | nil =>
  intro r2 st2 k _
  rcases k.inv with ⟨_,rfl,rfl⟩|⟨_,_,_,_,_,_,h5,_⟩
  ·exact⟨rfl,rfl⟩
  ·exact absurd (congrArg List.length h5) (by simp)
 | @snoc sa sb es l l1 e err h hb k ih =>
  intro r2 st2 k2 hn
  rcases k2.inv with ⟨h5,_⟩|⟨es',e',l',l1',s1',err',h5,rfl,k3,k4,_⟩
  ·exact absurd (congrArg List.length h5) (by simp)
  ·obtain⟨h6,h7⟩:=List.append_inj' h5 rfl
   obtain rfl:=(List.cons.inj h7).1
   subst h6
   obtain⟨rfl,rfl⟩:=ih k3 fun x hx=>hn x (List.mem_append_left _ hx)
   obtain⟨rfl,rfl⟩:=k.det k4 (hn e (by simp)) hb.2
   exact⟨rfl,rfl⟩
end Srv
end

section
namespace Srv
open Go Go.Abs Go.Proofs
theorem SL.rs_inv {ty z:Nat}{s:Heap}{v:AV}{es:List (List AV)}(h:SL ty z s v es){Q len:Nat}(e:v=.rs ty z Q 0 len):∃junk,Els z es∧s[Q]?=some (ty,es.flatten++junk)∧0<(es.flatten++junk).length:=by
 cases h with
 | nil=>cases e
 | sl _ f h=>cases e
 | rs Q' off pre junk es hE hQ hp hn =>
  cases e
  have hpre:pre=[]:=List.eq_nil_of_length_eq_zero hp
  subst hpre
  exact⟨junk,hE,hQ,hn⟩
theorem Own.set {ty z b t:Nat}(hu:Tryz.prog.underlying t=some (.slice ty))(hz:szOf Tryz.prog ty=some z)(ht:ty<deadTy){s:Heap}{v:AV}{es:List (List AV)}(h:Own ty z b s v es){i j:Nat}(hi:i<es.length)(hj:j<z){x:AV}(hx:x.strip=x)(hx2:x.solid=true)(hx3:x.cells=[x])(hx4:stCells x=[x]) :
  ∃p q s',aIndexAddr Tryz.prog t v (I i)=some p∧aAddr j p=some q∧aStore 1 s q x=some s'∧Own ty z b s' v (es.set i (es[i].set j x))∧s'.length=s.length∧∀k,rowOf v≠some k→s'[k]?=s[k]?:=by
 obtain⟨hs,hv⟩:=h
 rcases hv with ⟨rfl,rfl⟩|⟨Q,rfl,hne,hb⟩
 ·cases hi
 ·obtain⟨junk,hE,hQ,hn⟩:=hs.rs_inv rfl
  have hl:=hE.len
  have hiz:i*z+z≤es.length*z:=by
   have:=Nat.mul_le_mul_right z (show i+1≤es.length from hi)
   rw[Nat.add_mul,Nat.one_mul]at this;exact this
  have hlt:(i:Int)<es.length:=by omega
  refine⟨.ref Q (0+i*z),.ref Q (0+i*z+j),s.set Q (ty,(es.set i (es[i].set j x)).flatten++junk),by simp[aIndexAddr,hu,hz,hlt],rfl,?_,⟨?_,.inr ⟨Q,by rw[List.length_set],?_,hb⟩⟩,by rw[List.length_set],fun k hk=>?_⟩
  ·rw[Srv.st (n:=1) hQ ht hx2 (by rw[hx3];rfl) (by rw[List.length_append];omega),hx4,setL_one,List.set_append_left _ _ (by omega),Nat.zero_add,flat_set (fun e he=>(hE.1 e he).1) hi hj]
  ·have hE2:Els z (es.set i (es[i].set j x)):=⟨fun e he=>by
    rcases List.mem_or_eq_of_mem_set he with he|rfl
    ·exact hE.1 e he
    ·obtain⟨a1,a2⟩:=hE.1 es[i] (List.getElem_mem hi)
     exact⟨by rw[List.length_set];exact a1,by rw[List.map_set,a2,hx]⟩,by rw[List.length_set];exact hE.2⟩
   have:=SL.rs (ty:=ty) (s:=s.set Q (ty,(es.set i (es[i].set j x)).flatten++junk)) Q 0 [] junk (es.set i (es[i].set j x)) hE2 (by rw[List.nil_append];exact gset_eq hQ) rfl (by
    rw[List.nil_append,List.length_append,hE2.len,List.length_set]
    rw[List.length_append,hl]at hn;exact hn)
   rwa [List.length_set]at this
  ·intro e
   have:=congrArg List.length e
   rw[List.length_set]at this
   exact hne (List.length_eq_zero_iff.1 this)
  ·exact gset_ne fun e=>hk (by rw[e];rfl)
theorem bsE (y:Evn):aBuildSlice Tryz.prog 50 1 [(0,.agg (evC y))]=some (.sl 35 11 [.agg (evC y)] .own):=by
 have:∀a b c d e f g h i j k,aBuildSlice Tryz.prog 50 1 [(0,.agg [I a,I b,I c,.str d,.str e,f,I g,I h,I i,I j,.str k])]=some (.sl 35 11 [.agg [I a,I b,I c,.str d,.str e,f,I g,I h,I i,I j,.str k]] .own):=fun a b c d e f g h i j k=>by kernel_rfl
 exact this _ _ _ _ _ _ _ _ _ _ _
theorem evN_6 {x:Evn}(h:x.k=6):evN x={ x with n:=20 }:=if_pos h
theorem evN_n6 {x:Evn}(h:¬x.k=6):evN x=x:=if_neg h
theorem wo_snoc (l:List Evn)(x:Evn):wo (l++[x])=wo l++(if no7 (evN x)=true then[evN x] else[]):=by
 unfold wo
 rw[List.map_append,List.filter_append]
 congr 1
 simp only[List.map_cons,List.map_nil,List.filter_cons,List.filter_nil]
set_option maxHeartbeats 2000000 in
theorem c23 (n:Nat)(hn:100<n){s:Heap}{v:AV}{l:List Evn}(h:EvL s v l)(hl:l.length≤50) :
  ∃v' s',den C (n+1) 23 [v] s=some (v',s')∧Own 35 11 s.length s' v' ((wo l).map evC)∧Up0 s s':=by
 have w2:=h.1.strip
 have hlen2:aLen Tryz.prog 50 v.strip=some (I l.length):=by have:=w2.len und50;rwa [List.length_map]at this
 rw[rd Tryz.func23];conv in compF _ _ _ _ _ _=>cbv
 simp only[strip_rs,strip_mr,strip_nilf,Bool.false_eq_true,if_false,↓kR,kE,kK,sL,C_P,Nat.reduceEqDiff,reduceIte,Tryz.f23,hlen2,sL]
 refine loopI (R:=fun a=>∃v' s',a=some (v',s')∧Own 35 11 s.length s' v' ((wo l).map evC)∧Up0 s s')
  (fun i e s1=>e 6=v.strip∧e 7=I l.length∧e 8=I i∧Up0 s s1∧∃v5,e 3=v5∧Own 35 11 s.length s1 v5 ((wo (l.take i)).map evC)∧(wo (l.take i)).length≤i) l.length ?_ ?_ l.length 0 (by omega) _ (by omega) _ _ ⟨rfl,rfl,rfl,Upd.refl _ _,.nils,rfl,.nil ..,Nat.le_refl _⟩
 ·rintro i e s1 q hi ⟨e6,e7,e8,u1,v5,e3,o5,wl⟩ hk'
  have hil:decide (i<l.length)=true:=decide_eq_true hi
  have w2':SL 35 11 s1 v.strip (l.map evC):=w2.tf fun j cs hj=>u1.at hj
  obtain⟨p,p1,p2,p3,_⟩:=w2'.at und50 sz35 (by decide) (by decide) (i:=i) (by rw[List.length_map];exact hi)
  rw[List.getElem_map]at p2
  obtain⟨x,hx⟩:∃x,l[i]=x:=⟨_,rfl⟩
  have hxo:EvOK x:=h.2 x (by rw[←hx];exact List.getElem_mem hi)
  rw[hx]at p2
  obtain⟨s2,e2⟩:∃s2,s1++[(35,evC x)]=s2:=⟨_,rfl⟩
  have hst:=hxo.ed.strip
  have st2:aStore 11 (s1++[(35,[I 0,I 0,I 0,.str [],.str [],.nils,I 0,I 0,I 0,I 0,.str []])]) (.ref s1.length 0) (.agg (evC x))=some s2:=by
   rw[stW (n:=11) gapp_new (by decide) rfl rfl (by simp[hst]),set_end,e2]
  have g2:Gr s1 s2:=e2▸Gr.app ..
  have at2:s2[s1.length]?=some (35,evC x):=by rw[←e2];exact gapp_new
  have m0:aLoad false false 1 (.ref s1.length 0) s2=some (I x.k,s2):=ldv at2 (by decide) rfl
  have wi:=wrap64 (show -9223372036854775808≤(i:Int)+1 by omega) (by omega)
  have lu:=u1.len
  -- from the test of the kind on
  have fin:∀(sx:Heap),sx[s1.length]?=some (35,evC (evN x))→(∀j,j≠s1.length→sx[j]?=s2[j]?)→sx.length=s2.length→aLoad false false 1 (.ref s1.length 0) sx=some (I x.k,sx)∧v5.strip=v5 ∧
    (no7 (evN x)=true→∃w' s5,aLoad false true 11 (.ref s1.length 0) sx=some (.agg (evC (evN x)),sx)∧aRsAppend Tryz.prog 50 50 v5 (.sl 35 11 [.agg (evC (evN x))] .own) sx=some (w',s5)∧w'.strip=w'∧(∀E:Env,E 6=v.strip→E 7=I l.length→E 8=I ((i:Int)+1)→E 3=w'→∃v' s',q E s5=some (v',s')∧Own 35 11 s.length s' v' ((wo l).map evC)∧Up0 s s')) ∧
    (no7 (evN x)=false→(∀E:Env,E 6=v.strip→E 7=I l.length→E 8=I ((i:Int)+1)→E 3=v5→∃v' s',q E sx=some (v',s')∧Own 35 11 s.length s' v' ((wo l).map evC)∧Up0 s s')):=by
   intro sx hxx hxo' hxl
   have g2l:=g2.len
   have lA:=ldA (n:=11) (o:=0) hxx (by decide) (by simp) (by decide)
   have o5':Own 35 11 s.length sx v5 ((wo (l.take i)).map evC):=by
    refine⟨o5.1.fr fun Q off m' e=>?_,o5.2⟩
    obtain⟨cs,hcs⟩:=o5.1.row e
    have:=glt hcs
    rw[hxo' Q (by omega),g2.get this]
   have hts:l.take (i+1)=l.take i++[x]:=by rw[List.take_succ,List.getElem?_eq_getElem hi,hx];rfl
   refine⟨?_,o5.strip,fun h7=>?_,fun h7 E f1 f2 f3 f4=>?_⟩
   ·have:=ldv (o:=0) (w:=I (evN x).k) hxx (by decide) rfl
    rw[evN_k]at this;exact this
   ·have hEls:Els 11 [evC (evN x)]:=ev_els [evN x] (fun y hy=>by rw[List.mem_singleton.1 hy];exact evN_ok hxo) (by simp)
    obtain⟨w',s5,a1,a2,a3,a4⟩:=Own.app und50 info35 (by decide) (by decide) (by decide) o5' (SL.sl [evC (evN x)] .own hEls) (by simp;omega) (by omega)
    refine⟨w',s5,lA,a1,a2.strip,fun E f1 f2 f3 f4=>hk' E s5 ⟨f1,f2,by rw[f3];exact iS i,⟨by omega,fun j hj _=>?_⟩,w',f4,?_,?_⟩⟩
    ·rw[a4 j (by omega) (fun e=>by have:=o5.row e;omega),hxo' j (by omega),g2.get (by omega),u1.get hj]
    ·rw[hts,wo_snoc,if_pos h7,List.map_append]
     exact a2
    ·rw[hts,wo_snoc,if_pos h7,List.length_append];simp;omega
   ·refine hk' E sx ⟨f1,f2,by rw[f3];exact iS i,⟨by omega,fun j hj _=>?_⟩,v5,f4,?_,?_⟩
    ·rw[hxo' j (by omega),g2.get (by omega),u1.get hj]
    ·rw[hts,wo_snoc,if_neg (by rw[h7];decide),List.append_nil]
     exact o5'
    ·rw[hts,wo_snoc,if_neg (by rw[h7];decide),List.append_nil];omega
  have n7:no7 (evN x)=!(x.k==7):=by
   unfold no7
   rw[evN_k]
   by_cases h:x.k=7<;>simp[h]
  by_cases hk6:x.k=6
  ·have q6:(x.k==6)=true:=by simp[hk6]
   have ne7:(x.k != 7)=true:=by simp[hk6]
   obtain⟨s3,es3⟩:∃s3,s2.set s1.length (35,evC (evN x))=s3:=⟨_,rfl⟩
   have st3:aStore 1 s2 (.ref s1.length 1) (I 20)=some s3:=by
    rw[Srv.st (n:=1) at2 (by decide) rfl rfl (by simp),←es3,evN_6 hk6];rfl
   have at3:s3[s1.length]?=some (35,evC (evN x)):=by rw[←es3];exact gset_eq at2
   obtain⟨f1,f2,f3,_⟩:=fin s3 at3 (fun j hj=>by rw[←es3,gset_ne hj.symm]) (by rw[←es3,set_length])
   obtain⟨w',s5,g1,g2',g3,g4⟩:=f3 (by rw[n7];simp[hk6])
   simp only[strip_rs,strip_mr,strip_nilf,Bool.false_eq_true,if_false,↓kR,kE,kK,sL,C_P,Nat.reduceEqDiff,reduceIte,↓rC_seqj,e6,e7,e8,hil,p1,p2,allocS z35 (by decide) ⟨nofun,rfl⟩,st2,m0,q6,st3,f1,ne7,e3,f2,g1,bsE,g2',g3,wi,sL]
   refine g4 _ ?_ ?_ ?_ ?_<;>first|exact e6|exact e7|rfl
  ·have q6:(x.k==6)=false:=by simpa using hk6
   have at3:s2[s1.length]?=some (35,evC (evN x)):=by rw[evN_n6 hk6];exact at2
   obtain⟨f1,f2,f3,f4⟩:=fin s2 at3 (fun j hj=>rfl) rfl
   by_cases hk7:x.k=7
   ·have ne7:(x.k != 7)=false:=by simp[hk7]
    simp only[strip_rs,strip_mr,strip_nilf,Bool.false_eq_true,if_false,↓kR,kE,kK,sL,C_P,Nat.reduceEqDiff,reduceIte,↓rC_seqj,e6,e7,e8,hil,p1,p2,allocS z35 (by decide) ⟨nofun,rfl⟩,st2,m0,q6,ne7,e3,wi,sL]
    refine f4 (by rw[n7];simp[hk7]) _ ?_ ?_ ?_ ?_<;>first|exact e6|exact e7|exact e3|rfl
   ·have ne7:(x.k != 7)=true:=by simpa using hk7
    obtain⟨w',s5,g1,g2',g3,g4⟩:=f3 (by rw[n7];simpa using hk7)
    simp only[strip_rs,strip_mr,strip_nilf,Bool.false_eq_true,if_false,↓kR,kE,kK,sL,C_P,Nat.reduceEqDiff,reduceIte,↓rC_seqj,e6,e7,e8,hil,p1,p2,allocS z35 (by decide) ⟨nofun,rfl⟩,st2,m0,q6,ne7,e3,f2,g1,bsE,g2',g3,wi,sL]
    refine g4 _ ?_ ?_ ?_ ?_<;>first|exact e6|exact e7|rfl
 ·rintro e s1 q ⟨e6,e7,e8,u1,v5,e3,o5,_⟩
  have hil:decide (l.length<l.length)=false:=decide_eq_false (by omega)
  simp only[strip_rs,strip_mr,strip_nilf,Bool.false_eq_true,if_false,↓kR,kE,kK,sL,C_P,Nat.reduceEqDiff,reduceIte,e7,e8,hil,e3,o5.strip,sL]
  rw[List.take_length]at o5
  exact⟨v5,s1,rfl,o5,u1⟩
end Srv
end

section
namespace Srv
open Go Go.Abs Go.Proofs
theorem e23:enterable Tryz.prog 23=true:=by kernel_rfl
theorem e20:enterable Tryz.prog 20=true:=by kernel_rfl
theorem RV.pure {s t:Heap}{v:AV}{l:List Resp}(h:RV s v l)(hr:v.noRef=true):RV t v l:=by
 obtain⟨es,h1,h2⟩:=h
 refine⟨es,h1.pure hr,?_⟩
 have key:∀(es:List (List AV)) (l:List Resp),RC s es l→(∀e∈es,(AV.agg e).noRef=true)→RC t es l:=by
  intro es
  induction es with
  | nil=>intro l h _;cases l<;>first|exact h|exact h.elim
  | cons e es ih =>
   intro l h hn
   cases l with
   | nil=>exact h.elim
   | cons r l =>
    obtain⟨⟨nv,h3,h4,h5⟩,h6⟩:=h
    refine⟨⟨nv,h3,h4.pure ?_,h5⟩,ih l h6 fun x hx=>hn x (List.mem_cons_of_mem _ hx)⟩
    have:=hn e (List.mem_cons_self ..)
    rw[h3]at this
    simp only[AV.noRef,noRefL,Bool.and_eq_true]at this
    exact this.2.2.2.2.1
 refine key es l h2 fun e he=>?_
 cases h1 with
 | nil=>cases he
 | sl _ f hE =>
  simp only[AV.noRef]at hr
  have:∀(xs:List AV),noRefL xs=true→∀x∈xs,x.noRef=true:=by
   intro xs
   induction xs with
   | nil=>intro _ x hx;cases hx
   | cons y ys ih =>
    intro h x hx
    simp only[noRefL,Bool.and_eq_true]at h
    rcases List.mem_cons.1 hx with rfl|hx
    ·exact h.1
    ·exact ih h.2 x hx
  exact this _ hr _ (List.mem_map_of_mem he)
 | rs=>simp[AV.noRef]at hr
theorem a20 (n:Nat){s:Heap}{v w:AV}{l:List Resp}(h:RV s v l)(k:RV s w l)(hn:l.length<n)(hm:∀r∈l,r.nums.length<n):aCall Tryz.prog (den C (n+2)) 20 [v,w] s=some (.bool true,s) :=
 aC e20 rfl (fun hr=>⟨[],by
  simp only[noRefL,Bool.and_eq_true]at hr
  exact c20 n (h.pure hr.1) (k.pure hr.2.1) hn hm⟩) fun _=>c20 n h k hn hm
theorem midN {L:List Evn}{i:Nat}(hi:i<L.length):((L.take i).map evN++L.drop i).set i (evN L[i])=(L.take (i+1)).map evN++L.drop (i+1):=by
 have hl:((L.take i).map evN).length=i:=by rw[List.length_map,List.length_take];omega
 rw[List.set_append_right _ _ (by omega),hl,Nat.sub_self,List.drop_eq_getElem_cons hi,List.set_cons_zero,List.take_succ,List.getElem?_eq_getElem hi,List.map_append,List.append_assoc]
 rfl
theorem midN_get {L:List Evn}{i:Nat}(hi:i<L.length)(h:i<((L.take i).map evN++L.drop i).length):((L.take i).map evN++L.drop i)[i]=L[i]:=by
 have hl:((L.take i).map evN).length=i:=by rw[List.length_map,List.length_take];omega
 have:((L.take i).map evN++L.drop i)[i]?=L[i]?:=by
  rw[List.getElem?_append_right (by omega),hl,Nat.sub_self,List.getElem?_drop,Nat.add_zero]
 rw[List.getElem?_eq_getElem h,List.getElem?_eq_getElem hi]at this
 exact Option.some.inj this
theorem midN_id {L:List Evn}{i:Nat}(hi:i<L.length)(h6:¬L[i].k=6):(L.take i).map evN++L.drop i=(L.take (i+1)).map evN++L.drop (i+1):=by
 have hM:i<((L.take i).map evN++L.drop i).length:=by rw[List.length_append,List.length_map,List.length_take,List.length_drop];omega
 have h:=midN hi
 rw[evN_n6 h6,←midN_get hi hM,List.set_getElem_self]at h
 exact h
set_option maxHeartbeats 2000000 in
theorem c4 {s:Heap}{v:AV}{l:List Evn}(hv:EvA v l):∃s',den C 200332 4 [v] s=some (.bool true,s'):=by
 obtain⟨v',s2,b1,b2,b3⟩:=c19 200330 (by decide) (s:=s) (v:=v.strip) hv.strip 15 (by omega)
 obtain⟨L,hL⟩:∃L,L=(l.take 15).map evS:=⟨_,rfl⟩
 have hok:∀e∈L,EvOK e:=by rw[hL];exact evs_ok hv.2 15
 have hll:L.length≤15:=by rw[hL];simp;omega
 rw[←hL]at b2
 have a2:aCallF Tryz.prog (den C 200331) 19 [v.strip,I 15] s=some (v',s2):=(cFs _ _ e19).trans b1
 have hs':=b2.strip
 have len1:aLen Tryz.prog 50 v'=some (I L.length):=by have:=b2.1.len und50;rwa [List.length_map]at this
 rw[rd Tryz.func4];conv in compF _ _ _ _ _ _=>cbv
 simp only[strip_rs,strip_mr,strip_nilf,Bool.false_eq_true,if_false,↓kR,kE,kK,sL,C_P,Nat.reduceEqDiff,reduceIte,Tryz.f4,f18,strF,strip2,a2,hs',len1,sL]
 refine loopI (R:=fun a=>∃s',a=some (.bool true,s'))
  (fun i e t=>e 0=v'∧e 9=I L.length∧e 10=I i∧i≤L.length∧Own 35 11 s.length t v' (((L.take i).map evN++L.drop i).map evC)∧s2.length≤t.length) L.length ?_ ?_ L.length 0 (by omega) _ (by omega) _ _ ⟨rfl,rfl,rfl,by omega,by simpa using b2,Nat.le_refl _⟩
 ·rintro i e t q hi ⟨e0,e9,e10,_,ow,lt⟩ hnext
  have hlt:decide (i<L.length)=true:=decide_eq_true hi
  have hM:i<((L.take i).map evN++L.drop i).length:=by simp;omega
  have hMC:i<(((L.take i).map evN++L.drop i).map evC).length:=by rw[List.length_map];exact hM
  have hel:(((L.take i).map evN++L.drop i).map evC)[i]=evC L[i]:=by rw[List.getElem_map,midN_get hi hM]
  obtain⟨p,p1,_,p3,p4⟩:=ow.1.at und50 sz35 (by decide) (by decide) (i:=i) hMC
  obtain⟨q0,a0,l0,g0⟩:=p4 0 (I L[i].k) (by rw[hel];rfl)
  have wi:=wrap64 (show -9223372036854775808≤(i:Int)+1 by omega) (by omega)
  by_cases h6:L[i].k=6
  ·have q6:(L[i].k==6)=true:=by simp[h6]
   obtain⟨p',q1,t2,x1,x2,x3,x4,x5,x6⟩:=ow.set und50 sz35 (by decide) (i:=i) (j:=1) hMC (by decide) (x:=I 20) rfl rfl rfl rfl
   obtain rfl:=Option.some.inj (p1.symm.trans x1)
   rw[hel,show (evC L[i]).set 1 (I 20)=evC (evN L[i]) by rw[evN_6 h6];rfl,←List.map_set,midN hi]at x4
   simp only[strip_rs,strip_mr,strip_nilf,Bool.false_eq_true,if_false,↓kR,kE,kK,sL,C_P,Nat.reduceEqDiff,reduceIte,↓rC_seqj,e0,e9,e10,hlt,hs',p1,a0,l0,q6,x2,x3,wi,sL]
   exact hnext _ _ ⟨e0,e9,iS i,by omega,x4,by omega⟩
  ·have q6:(L[i].k==6)=false:=by simpa using h6
   have x4:=ow
   rw[midN_id hi h6]at x4
   simp only[strip_rs,strip_mr,strip_nilf,Bool.false_eq_true,if_false,↓kR,kE,kK,sL,C_P,Nat.reduceEqDiff,reduceIte,↓rC_seqj,e0,e9,e10,hlt,hs',p1,a0,l0,q6,wi,sL]
   exact hnext _ _ ⟨e0,e9,iS i,by omega,x4,lt⟩
 ·rintro e t q ⟨e0,e9,e10,_,ow,lt⟩
  have hlt:decide (L.length<L.length)=false:=decide_eq_false (by omega)
  rw[List.take_length,List.drop_length,List.append_nil]at ow
  obtain⟨E,hE⟩:∃E,E=L.map evN:=⟨_,rfl⟩
  rw[←hE]at ow
  have hEok:∀e∈E,EvOK e:=fun e he=>by
   rw[hE]at he
   obtain⟨x,hx,rfl⟩:=List.mem_map.1 he
   exact evN_ok (hok x hx)
  have hEl:E.length≤15:=by rw[hE,List.length_map];exact hll
  have hEE:E.map evN=E:=by
   rw[hE,List.map_map]
   exact List.map_congr_left fun x _=>evN_evN x
  have hwo:wo E=E.filter no7:=by unfold wo;rw[hEE]
  have hwl:(wo E).length≤15:=by rw[hwo];exact Nat.le_trans (List.length_filter_le _ _) hEl
  obtain⟨sA,V1,x1,x2,x3⟩:=c11 200328 t
  obtain⟨w1,sB,rs1,st1,d1,d2,d3,d4,d5,d6⟩:=c21 200000 (by decide) (by decide) x2 (v:=v') ⟨ow.1.gr x3,hEok⟩ (by omega) (by decide)
  obtain⟨sC,V2,y1,y2,y3⟩:=c11 200328 sB
  have evC':EvL sC v' E:=⟨((ow.1.gr x3).tf fun j cs hj=>d5.tf j _ cs hj (by decide) (by decide) (by decide) (by decide) (by decide) (by decide)).gr y3,hEok⟩
  obtain⟨v2,sD,z1,z2,z3⟩:=c23 200330 (by decide) evC' (by omega)
  have hwok:∀e∈wo E,EvOK e:=fun e he=>by
   rw[hwo]at he
   exact hEok e (List.mem_filter.1 he).1
  obtain⟨w2,sE,rs2,st2,f1,f2,f3,f4,f5,f6⟩:=c21 200000 (by decide) (by decide) (y2.up z3) (v:=v2) ⟨z2.1,hwok⟩ (by omega) (by decide)
  have heq:rs1=rs2:=by
   have h1:=d3.wo
   rw[←hwo]at h1
   exact(h1.det f3 fun x hx h6=>by
    rw[hwo]at hx
    have hx:=(List.mem_filter.1 hx).1
    rw[hE]at hx
    obtain⟨y,_,rfl⟩:=List.mem_map.1 hx
    exact evN_n h6).1
  subst heq
  have r1:RV sE w1 rs1:=((d2.tf (fun j cs hj=>z3.at (y3.at hj)) fun j cs hj=>z3.at (y3.at hj)).fg f5).rv
  have k1:aCallF Tryz.prog (den C 200331) 11 [.fn 22 [] []] t=some (.ref V1 0,sA):=(cFs _ _ e11).trans x1
  have k2:aCall Tryz.prog (den C 200331) 21 [.ref V1 0,v'] sA=some (w1,sB):=by
   rw[aCall,if_pos (by kernel_rfl),if_neg (by simp[noRefL_cons,AV.noRef])];exact d1
  have k3:aCallF Tryz.prog (den C 200331) 11 [.fn 22 [] []] sB=some (.ref V2 0,sC):=(cFs _ _ e11).trans y1
  have k4:aCall Tryz.prog (den C 200331) 23 [v'] sC=some (v2,sD):=by
   rcases ow.2 with ⟨rfl,h0⟩|⟨Q,rfl,_⟩
   ·have h0:E=[]:=List.map_eq_nil_iff.1 h0
    have hz:∀s:Heap,den C 200331 23 [.nils] s=some (.nils,s):=fun s=>by
     have ln:aLen Tryz.prog 50 .nils=some (I 0):=by kernel_rfl
     have q00:decide ((0:Int)<0)=false:=rfl
     rw[rd Tryz.func23];conv in compF _ _ _ _ _ _=>cbv
     simp only[strip_rs,strip_mr,strip_nilf,Bool.false_eq_true,if_false,↓kR,kE,kK,sL,C_P,Nat.reduceEqDiff,reduceIte,Tryz.f23,ln,sL]
     rw[aLoop_succ]
     simp only[strip_rs,strip_mr,strip_nilf,Bool.false_eq_true,if_false,↓kR,kE,kK,sL,C_P,Nat.reduceEqDiff,reduceIte,q00,sL]
    rw[hz]at z1
    cases z1
    rw[aCall,if_pos e23,if_pos (by kernel_rfl),hz]
    rfl
   ·rw[aCall,if_pos e23,if_neg (by simp[noRefL_cons,AV.noRef])];exact z1
  have k5:aCall Tryz.prog (den C 200331) 21 [.ref V2 0,v2] sD=some (w2,sE):=by
   rw[aCall,if_pos (by kernel_rfl),if_neg (by simp[noRefL_cons,AV.noRef])];exact f1
  have k6:aCall Tryz.prog (den C 200331) 20 [w1,w2] sE=some (.bool true,sE):=a20 200329 r1 f2.rv (by omega) (fun r hr=>by have:=d3.nums r hr;omega)
  simp only[strip_rs,strip_mr,strip_nilf,Bool.false_eq_true,if_false,↓kR,kE,kK,sL,C_P,Nat.reduceEqDiff,reduceIte,e0,e9,e10,hlt,hs',f18,strF,k1,k2,k3,k4,z2.strip,k5,d2.strip,f2.strip,k6,sL]
  exact⟨sE,rfl⟩
end Srv
end
