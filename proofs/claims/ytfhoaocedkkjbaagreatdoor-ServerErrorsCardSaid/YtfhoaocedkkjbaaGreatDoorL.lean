/- Le -/
import Derived.Test.YtfhoaocedkkjbaaGreatDoorI
set_option linter.all false
set_option maxRecDepth 100000

section
namespace Srv
open Go Go.Abs Go.Proofs
theorem e11:enterable Tryz.prog 11=true:=by kernel_rfl
theorem e19:enterable Tryz.prog 19=true:=by kernel_rfl
theorem strF (g:FuncId):(AV.fn g [] []).strip=.fn g [] []:=rfl
theorem Own.up {ty z b:Nat}{s s':Heap}{v:AV}{es:List (List AV)}(h:Own ty z b s v es)(k:∀(i:Nat)(cs:List AV),s[i]?=some (ty,cs)→s'[i]?=some (ty,cs)):Own ty z b s' v es:=⟨h.1.tf k,h.2⟩
theorem evs_ok {l:List Evn}(h:∀e∈l,EvOK e)(m:Nat):∀e∈(l.take m).map evS,EvOK e:=fun e he=>by
 obtain⟨x,hx,rfl⟩:=List.mem_map.1 he
 exact(h x (List.mem_of_mem_take hx)).s
theorem start (m:Nat)(hm:m≤20){s:Heap}{v:AV}{l:List Evn}(hv:EvA v l):∃V s1 v' s2 w s3 rs st',aCallF Tryz.prog (den C 200331) 11 [.fn 22 [] []] s=some (.ref V 0,s1)∧aCallF Tryz.prog (den C 200331) 19 [v.strip,I m] s1=some (v',s2)∧v'.strip=v'∧aCall Tryz.prog (den C 200331) 21 [.ref V 0,v'] s2=some (w,s3)∧Steps st0 ((l.take m).map evS) rs st'∧SrvI s3 V (fun i=>s.length≤i∧i<s3.length) st' 1000∧Fg (fun _=>False) s s3∧w.strip=w∧OV s2.length s3 w rs∧s.length≤s2.length∧rs.length≤1000:=by
 obtain⟨s1,V,a1,a2,a3⟩:=c11 200328 s
 obtain⟨v',s2,b1,b2,b3⟩:=c19 200330 (by decide) (s:=s1) (v:=v.strip) hv.strip m (by omega)
 have hok:=evs_ok hv.2 m
 obtain⟨w,s3,rs,st',d1,d2,d3,d4,d5,d6⟩:=c21 200000 (by decide) (by decide) (a2.up b3) (v:=v') ⟨b2.1,hok⟩ (by simp;omega) (by decide)
 have n1:=a3.len
 have n2:=b3.len
 have n3:=d5.len
 refine⟨V,s1,v',s2,w,s3,rs,st',(cFs _ _ e11).trans a1,(cFs _ _ e19).trans b1,b2.strip,?_,d3,?_,?_,d2.strip,d2,by omega,d6⟩
 ·rw[aCall,if_pos (by kernel_rfl),if_neg (by simp[noRefL_cons,AV.noRef])];exact d1
 ·refine d4.wid (fun i hi=>?_) fun i hi=>hi.2
  rcases hi with hi|hi
  ·exact⟨hi.1,by omega⟩
  ·exact⟨by omega,hi.2⟩
 ·refine⟨by omega,fun i hi _=>?_,fun i t cs hi c1 c2 c3 c4 c5 c6=>d5.tf i t cs (b3.at (a3.at hi)) c1 c2 c3 c4 c5 c6⟩
  rw[d5.old i (by omega) (fun h=>by omega),b3.get (by omega),a3.get hi]
theorem RV.len {s:Heap}{v:AV}{l:List Resp}(h:RV s v l):aLen Tryz.prog 29 v=some (I l.length):=by
 obtain⟨es,h1,h2⟩:=h
 have:=h1.len und29
 rwa [h2.len]at this
theorem c8 {s:Heap}{v:AV}{l:List Evn}(hv:EvA v l){e:Evn}(he:EvOK e):∃s',den C 200332 8 [v,.agg (evC e)] s=some (.bool true,s'):=by
 have bx:∀s,aBox false 35 (.agg (evC e)) s=some (.box (evC e) 0,s):=fun s=>boxV rfl s
 have hst:=he.ed.strip
 have lE:∀s,aLoad false true 11 (.box (evC e) 0) s=some (.agg (evC e),s):=fun s=>boxG (n:=11) rfl false s
 obtain⟨V,s1,v',s2,w,s3,rs,st',a1,a2,a3,a4,a5,a6,a7,a8,_⟩:=start (s:=s) 12 (by decide) hv
 obtain⟨m1,s4,b1,b2,b3,b4⟩:=a16 200329 a6
 have h4:=a6.up b4.up
 obtain⟨p1,s5,c1,c2,c3,c4,c5⟩:=a24 200329 h4
 have h5:=h4.up c4.up
 obtain⟨r,s6,l1,err,st2,d1,d2,d3,d4,d5⟩:=c12 200001 (by decide) (by decide) h5 (by decide) e he
 have cl:aCall Tryz.prog (den C 200331) 12 [.ref V 0,.agg (evC e)] s5=some (.tup [r,I err],s6):=by
  rw[aCall,if_pos (by kernel_rfl),if_neg (by simp[noRefL_cons,AV.noRef])];exact d1
 have a2:aCallF Tryz.prog (den C 200331) 19 [v.strip,I 12] s1=some (v',s2):=a2
 by_cases hz:err=0
 ·have q:(err==0)=true:=by simp[hz]
  rw[rd Tryz.func8];conv in compF _ _ _ _ _ _=>cbv
  simp only[strip_rs,strip_mr,strip_nilf,Bool.false_eq_true,if_false,↓kR,kE,kK,sL,C_P,Nat.reduceEqDiff,reduceIte,Tryz.f8,bx,f18,strF,strip2,a1,a2,a3,a4,b1,b3,c1,c3,lE,cl,q,sL]
  exact⟨s6,rfl⟩
 ·have q:(err==0)=false:=by simpa using hz
  obtain⟨rfl,rfl⟩:=d3.err hz
  have k45:∀(i:Nat) (cs:List AV),s5[i]?=some (45,cs)→s6[i]?=some (45,cs):=fun i cs hi=>d5.tf i _ cs hi (by decide) (by decide) (by decide) (by decide) (by decide) (by decide)
  have m1':SL 45 2 s6 m1 (st2.ms.map modC):=(b2.gr c4).tf k45
  obtain⟨m2,s7,f1,f2,f3,f4⟩:=a16 200329 d4
  have h7:=d4.up f4.up
  have e27:=a27 200330 f2 (m1'.gr f4) (by have:=d4.ms8;omega)
  obtain⟨p2,s8,g1,g2,g3,g4,_⟩:=a24 200329 h7
  have p1':SL 33 5 s6 p1 (st2.pd.map reqC):=c2.fr fun Q off m e=>by
   obtain⟨cs,hc⟩:=c2.row e
   refine d5.old Q (glt hc) fun hg=>?_
   have:=c5 Q off m e
   have:=b4.len
   have:=hg.2
   omega
  have e28:=a28 200330 g2 ((p1'.gr f4).gr g4) (by have:=d4.pl;omega)
  have lr:=d2.strip.len
  have z00:((0:Int)==0)=true:=rfl
  rw[rd Tryz.func8];conv in compF _ _ _ _ _ _=>cbv
  simp only[strip_rs,strip_mr,strip_nilf,Bool.false_eq_true,if_false,↓kR,kE,kK,sL,C_P,Nat.reduceEqDiff,reduceIte,Tryz.f8,bx,f18,strF,strip2,a1,a2,a3,a4,b1,b3,c1,c3,lE,cl,q,lr,List.length_nil,Int.natCast_zero,z00,f1,f3,e27,g1,g3,e28,sL]
  exact⟨s8,rfl⟩
end Srv
end
