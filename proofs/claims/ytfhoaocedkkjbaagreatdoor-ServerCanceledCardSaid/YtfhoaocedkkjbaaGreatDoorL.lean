/- Le, L20, L6a, L6 -/
import Derived.Test.YtfhoaocedkkjbaaGreatDoorI
set_option linter.all false
set_option maxRecDepth 100000

section
namespace Srv
open Go Go.Abs Go.Proofs
theorem e11:enterable Tryz.prog 11=true:=by kernel_rfl
theorem e19:enterable Tryz.prog 19=true:=by kernel_rfl
theorem strF (g:FuncId):(AV.fn g [] []).strip=.fn g [] []:=rfl
theorem Own.up {ty z b:Nat}{s s':Heap}{v:AV}{es:List (List AV)}(h:Own ty z b s v es)(k:∀(i:Nat)(cs:List AV),s[i]?=some (ty,cs)→s'[i]?=some (ty,cs)):Own ty z b s' v es:=⟨h.1.tf k,h.2⟩
theorem evs_ok {l:List Evn}(h:∀e∈l,EvOK e)(m:Nat):∀e∈(l.take m).map evS,EvOK e:=fun e he=>by
 obtain⟨x,hx,rfl⟩:=List.mem_map.1 he
 exact(h x (List.mem_of_mem_take hx)).s
theorem start (m:Nat)(hm:m≤20){s:Heap}{v:AV}{l:List Evn}(hv:EvA v l):∃V s1 v' s2 w s3 rs st',aCallF Tryz.prog (den C 200331) 11 [.fn 22 [] []] s=some (.ref V 0,s1)∧aCallF Tryz.prog (den C 200331) 19 [v.strip,I m] s1=some (v',s2)∧v'.strip=v'∧aCall Tryz.prog (den C 200331) 21 [.ref V 0,v'] s2=some (w,s3)∧Steps st0 ((l.take m).map evS) rs st'∧SrvI s3 V (fun i=>s.length≤i∧i<s3.length) st' 1000∧Fg (fun _=>False) s s3∧w.strip=w∧OV s2.length s3 w rs∧s.length≤s2.length∧rs.length≤1000:=by
 obtain⟨s1,V,a1,a2,a3⟩:=c11 200328 s
 obtain⟨v',s2,b1,b2,b3⟩:=c19 200330 (by decide) (s:=s1) (v:=v.strip) hv.strip m (by omega)
 have hok:=evs_ok hv.2 m
 obtain⟨w,s3,rs,st',d1,d2,d3,d4,d5,d6⟩:=c21 200000 (by decide) (by decide) (a2.up b3) (v:=v') ⟨b2.1,hok⟩ (by simp;omega) (by decide)
 have n1:=a3.len
 have n2:=b3.len
 have n3:=d5.len
 refine⟨V,s1,v',s2,w,s3,rs,st',(cFs _ _ e11).trans a1,(cFs _ _ e19).trans b1,b2.strip,?_,d3,?_,?_,d2.strip,d2,by omega,d6⟩
 ·rw[aCall,if_pos (by kernel_rfl),if_neg (by simp[noRefL_cons,AV.noRef])];exact d1
 ·refine d4.wid (fun i hi=>?_) fun i hi=>hi.2
  rcases hi with hi|hi
  ·exact⟨hi.1,by omega⟩
  ·exact⟨by omega,hi.2⟩
 ·refine⟨by omega,fun i hi _=>?_,fun i t cs hi c1 c2 c3 c4 c5 c6=>d5.tf i t cs (b3.at (a3.at hi)) c1 c2 c3 c4 c5 c6⟩
  rw[d5.old i (by omega) (fun h=>by omega),b3.get (by omega),a3.get hi]
theorem RV.len {s:Heap}{v:AV}{l:List Resp}(h:RV s v l):aLen Tryz.prog 29 v=some (I l.length):=by
 obtain⟨es,h1,h2⟩:=h
 have:=h1.len und29
 rwa [h2.len]at this
theorem c8 {s:Heap}{v:AV}{l:List Evn}(hv:EvA v l){e:Evn}(he:EvOK e):∃s',den C 200332 8 [v,.agg (evC e)] s=some (.bool true,s'):=by
 have bx:∀s,aBox false 35 (.agg (evC e)) s=some (.box (evC e) 0,s):=fun s=>boxV rfl s
 have hst:=he.ed.strip
 have lE:∀s,aLoad false true 11 (.box (evC e) 0) s=some (.agg (evC e),s):=fun s=>boxG (n:=11) rfl false s
 obtain⟨V,s1,v',s2,w,s3,rs,st',a1,a2,a3,a4,a5,a6,a7,a8,_⟩:=start (s:=s) 12 (by decide) hv
 obtain⟨m1,s4,b1,b2,b3,b4⟩:=a16 200329 a6
 have h4:=a6.up b4.up
 obtain⟨p1,s5,c1,c2,c3,c4,c5⟩:=a24 200329 h4
 have h5:=h4.up c4.up
 obtain⟨r,s6,l1,err,st2,d1,d2,d3,d4,d5⟩:=c12 200001 (by decide) (by decide) h5 (by decide) e he
 have cl:aCall Tryz.prog (den C 200331) 12 [.ref V 0,.agg (evC e)] s5=some (.tup [r,I err],s6):=by
  rw[aCall,if_pos (by kernel_rfl),if_neg (by simp[noRefL_cons,AV.noRef])];exact d1
 have a2:aCallF Tryz.prog (den C 200331) 19 [v.strip,I 12] s1=some (v',s2):=a2
 by_cases hz:err=0
 ·have q:(err==0)=true:=by simp[hz]
  rw[rd Tryz.func8];conv in compF _ _ _ _ _ _=>cbv
  simp only[strip_rs,strip_mr,strip_nilf,Bool.false_eq_true,if_false,↓kR,kE,kK,sL,C_P,Nat.reduceEqDiff,reduceIte,Tryz.f8,bx,f18,strF,strip2,a1,a2,a3,a4,b1,b3,c1,c3,lE,cl,q,sL]
  exact⟨s6,rfl⟩
 ·have q:(err==0)=false:=by simpa using hz
  obtain⟨rfl,rfl⟩:=d3.err hz
  have k45:∀(i:Nat) (cs:List AV),s5[i]?=some (45,cs)→s6[i]?=some (45,cs):=fun i cs hi=>d5.tf i _ cs hi (by decide) (by decide) (by decide) (by decide) (by decide) (by decide)
  have m1':SL 45 2 s6 m1 (st2.ms.map modC):=(b2.gr c4).tf k45
  obtain⟨m2,s7,f1,f2,f3,f4⟩:=a16 200329 d4
  have h7:=d4.up f4.up
  have e27:=a27 200330 f2 (m1'.gr f4) (by have:=d4.ms8;omega)
  obtain⟨p2,s8,g1,g2,g3,g4,_⟩:=a24 200329 h7
  have p1':SL 33 5 s6 p1 (st2.pd.map reqC):=c2.fr fun Q off m e=>by
   obtain⟨cs,hc⟩:=c2.row e
   refine d5.old Q (glt hc) fun hg=>?_
   have:=c5 Q off m e
   have:=b4.len
   have:=hg.2
   omega
  have e28:=a28 200330 g2 ((p1'.gr f4).gr g4) (by have:=d4.pl;omega)
  have lr:=d2.strip.len
  have z00:((0:Int)==0)=true:=rfl
  rw[rd Tryz.func8];conv in compF _ _ _ _ _ _=>cbv
  simp only[strip_rs,strip_mr,strip_nilf,Bool.false_eq_true,if_false,↓kR,kE,kK,sL,C_P,Nat.reduceEqDiff,reduceIte,Tryz.f8,bx,f18,strF,strip2,a1,a2,a3,a4,b1,b3,c1,c3,lE,cl,q,lr,List.length_nil,Int.natCast_zero,z00,f1,f3,e27,g1,g3,e28,sL]
  exact⟨s8,rfl⟩
end Srv
end

section
namespace Srv
open Go Go.Abs Go.Proofs
theorem c52 (n:Nat){s:Heap}{v w:AV}{l:List Int}(h:IV s v l)(k:IV s w l)(hn:l.length<n):den C (n+1) 52 [v,w] s=some (.bool true,s):=by
 have hs:=h.strip
 have ks:=k.strip
 have l1:aLen Tryz.prog 59 v.strip=some (I l.length):=hs.len
 have l2:aLen Tryz.prog 59 w.strip=some (I l.length):=ks.len
 have hb:=h.bnd
 rw[rd Tryz.func52];conv in compF _ _ _ _ _ _=>cbv
 simp only[strip_rs,strip_mr,strip_nilf,Bool.false_eq_true,if_false,↓kR,kE,kK,sL,C_P,Nat.reduceEqDiff,reduceIte,Tryz.f52,l1,l2,bne_self_eq_false,sL]
 refine loopI (R:=fun a=>a=some (.bool true,s)) (fun i e s1=>s1=s∧e 0=v∧e 1=w∧e 12=I l.length∧e 13=I i) l.length ?_ ?_ l.length 0 (by omega) n hn _ _ ⟨rfl,rfl,rfl,rfl,rfl⟩
 ·rintro i e s1 q hi ⟨rfl,e0,e1,e12,e13⟩ hk
  have hlt:decide (i<l.length)=true:=decide_eq_true hi
  obtain⟨p,p1,p2,p3⟩:=hs.at hi
  obtain⟨p',p1',p2',p3'⟩:=ks.at hi
  simp only[strip_rs,strip_mr,strip_nilf,Bool.false_eq_true,if_false,↓kR,kE,kK,sL,C_P,Nat.reduceEqDiff,reduceIte,e0,e1,e12,e13,hlt,p1,p2,p1',p2',bne_self_eq_false,rd_compat p3 p3',sL]
  rw[wrap64 (by omega) (by omega)]
  exact hk _ _ ⟨rfl,e0,e1,e12,iS i⟩
 ·rintro e s1 q ⟨rfl,e0,e1,e12,e13⟩
  have hlt:decide (l.length<l.length)=false:=decide_eq_false (by omega)
  simp only[strip_rs,strip_mr,strip_nilf,Bool.false_eq_true,if_false,↓kR,kE,kK,sL,C_P,Nat.reduceEqDiff,reduceIte,e12,e13,hlt,sL]
theorem IV.pure {s t:Heap}{v:AV}{xs:List Int}(h:IV s v xs)(hr:v.noRef=true):IV t v xs:=by
 cases h with
 | nil=>exact .nil
 | sl _ f hb=>exact .sl _ f hb
 | rs Q off pre junk xs h hp hb=>exact absurd hr (by simp[AV.noRef])
theorem a52 (n:Nat){s:Heap}{v w:AV}{l:List Int}(h:IV s v l)(k:IV s w l)(hn:l.length<n):aCall Tryz.prog (den C (n+1)) 52 [v,w] s=some (.bool true,s) :=
 aC (by kernel_rfl) rfl (fun hr=>⟨[],by
  simp only[noRefL,Bool.and_eq_true]at hr
  exact c52 n (h.pure hr.1) (k.pure hr.2.1) hn⟩) fun _=>c52 n h k hn
theorem RC.at' {s:Heap}:∀{es:List (List AV)}{l:List Resp},RC s es l→∀{i:Nat}(hi:i<l.length)(hi':i<es.length),RC1 s es[i] l[i]
 | e::es,r::l,h,0,_,_=>h.1
 | e::es,r::l,h,i+1,h1,h2=>RC.at' h.2 (Nat.lt_of_succ_lt_succ h1) (Nat.lt_of_succ_lt_succ h2)
theorem RV.strip' {s:Heap}{v:AV}{l:List Resp}(h:RV s v l):RV s v.strip l:=by
 obtain⟨es,h1,h2⟩:=h
 exact⟨es,h1.strip,h2⟩
theorem RV.at' {s:Heap}{v:AV}{l:List Resp}(h:RV s v l){i:Nat}(hi:i<l.length):∃p,aIndexAddr Tryz.prog 29 v (I i)=some p∧(∃q,aAddr 0 p=some q∧aLoad false false 1 q s=some (I l[i].c,s)∧Rd q)∧(∃q,aAddr 1 p=some q∧aLoad false false 1 q s=some (I l[i].id,s)∧Rd q)∧(∃q,aAddr 2 p=some q∧aLoad false false 1 q s=some (I l[i].err,s)∧Rd q)∧(∃q,aAddr 3 p=some q∧aLoad false false 1 q s=some (I l[i].rev,s)∧Rd q)∧(∃q nv,aAddr 4 p=some q∧aLoad false false 1 q s=some (nv,s)∧Rd q∧IV s nv l[i].nums∧nv.strip=nv)∧(∃q,aAddr 5 p=some q∧aLoad false false 1 q s=some (.str l[i].tx,s)∧Rd q):=by
 obtain⟨es,h1,h2⟩:=h
 have hl:=h2.len
 have hi':i<es.length:=by omega
 obtain⟨p,p1,_,p3,p4⟩:=h1.at und29 sz61 (by decide) (by decide) hi'
 obtain⟨nv,hn,hi1,hi2⟩:=h2.at' hi hi'
 obtain⟨q4,a4,b4,c4⟩:=p4 4 _ (by rw[hn];rfl)
 exact⟨p,p1,p4 0 _ (by rw[hn];rfl),p4 1 _ (by rw[hn];rfl),p4 2 _ (by rw[hn];rfl),p4 3 _ (by rw[hn];rfl),⟨q4,nv,a4,b4,c4,hi1,hi2⟩,p4 5 _ (by rw[hn];rfl)⟩
theorem RV.len' {s:Heap}{v:AV}{l:List Resp}(h:RV s v l):aLen Tryz.prog 29 v=some (I l.length)∧l.length<1000000:=by
 obtain⟨es,h1,h2⟩:=h
 have:=h1.len und29
 have hb:=h1.els.2
 rw[h2.len]at this hb
 exact⟨this,hb⟩
theorem t20:compF C 20 refs owns Tryz.f20 2=RC.seq (RC.reg [RO.n (some 4) (RP.raw false false (Op.assign (Operand.const (Value.bool false))))]) (RC.seq (RC.seq (RC.reg [RO.n (some 6) (RP.raw false false (Op.move (Operand.tmp 0))),RO.n (some 7) (RP.raw false false (Op.call { callee:=Callee.builtin Builtin.len,args:={ toList:=[Operand.tmp 6] },argTypes:={ toList:=[29] } })),RO.n (some 8) (RP.raw false false (Op.move (Operand.tmp 1))),RO.n (some 9) (RP.raw false false (Op.call { callee:=Callee.builtin Builtin.len,args:={ toList:=[Operand.tmp 8] },argTypes:={ toList:=[29] } })),RO.n (some 10) (RP.raw false false (Op.binOp BinOp.neq 3 (Operand.tmp 7) (Operand.tmp 9) 3))]) (RC.cond (Operand.tmp 10) (RC.seq (RC.reg [RO.n (some 4) (RP.raw false false (Op.assign (Operand.const (Value.bool false))))]) RC.ret) RC.skip)) (RC.seq (RC.seq (RC.reg [RO.n (some 11) (RP.raw false false (Op.move (Operand.tmp 0))),RO.n (some 12) (RP.raw false false (Op.call { callee:=Callee.builtin Builtin.len,args:={ toList:=[Operand.tmp 11] },argTypes:={ toList:=[29] } })),RO.n (some 13) (RP.raw false false (Op.move (Operand.const (Value.int IntKind.i64 0))))]) (RC.block 0 (RC.loop (RC.seq (RC.reg [RO.n (some 14) (RP.raw false false (Op.binOp BinOp.lss 3 (Operand.tmp 13) (Operand.tmp 12) 3))]) (RC.seq (RC.cond (Operand.tmp 14) RC.skip (RC.exit 0)) (RC.seq (RC.block 1 (RC.seq (RC.reg [RO.n (some 15) (RP.raw false false (Op.move (Operand.tmp 13))),RO.t (some 5) 15 (RP.raw false false (Op.assign (Operand.tmp 15)))]) (RC.seq (RC.regK [RO.n (some 16) (RP.raw false false (Op.move (Operand.tmp 0))),RO.n (some 17) (RP.raw false false (Op.move (Operand.tmp 5))),RO.n (some 18) (RP.raw false false (Op.indexAddr 29 (Operand.tmp 16) (Operand.tmp 17))),RO.n (some 19) (RP.fa 0 (Operand.tmp 18)),RO.n (some 20) (RP.ld false false 1 (Operand.tmp 19)),RO.n (some 21) (RP.raw false false (Op.move (Operand.tmp 1))),RO.n (some 22) (RP.raw false false (Op.move (Operand.tmp 5))),RO.n (some 23) (RP.raw false false (Op.indexAddr 29 (Operand.tmp 21) (Operand.tmp 22))),RO.n (some 24) (RP.fa 0 (Operand.tmp 23)),RO.n (some 25) (RP.ld false false 1 (Operand.tmp 24)),RO.n (some 26) (RP.raw false false (Op.binOp BinOp.neq 3 (Operand.tmp 20) (Operand.tmp 25) 3)),RO.n (some 27) (RP.raw false false (Op.move (Operand.tmp 26))),RO.g (some 28) 27 false (RP.raw false false (Op.move (Operand.tmp 0))),RO.g (some 29) 27 false (RP.raw false false (Op.move (Operand.tmp 5))),RO.g (some 30) 27 false (RP.raw false false (Op.indexAddr 29 (Operand.tmp 28) (Operand.tmp 29))),RO.g (some 31) 27 false (RP.fa 1 (Operand.tmp 30)),RO.g (some 32) 27 false (RP.ld false false 1 (Operand.tmp 31)),RO.g (some 33) 27 false (RP.raw false false (Op.move (Operand.tmp 1))),RO.g (some 34) 27 false (RP.raw false false (Op.move (Operand.tmp 5))),RO.g (some 35) 27 false (RP.raw false false (Op.indexAddr 29 (Operand.tmp 33) (Operand.tmp 34))),RO.g (some 36) 27 false (RP.fa 1 (Operand.tmp 35)),RO.g (some 37) 27 false (RP.ld false false 1 (Operand.tmp 36)),RO.g (some 38) 27 false (RP.raw false false (Op.binOp BinOp.neq 3 (Operand.tmp 32) (Operand.tmp 37) 3)),RO.n (some 39) (RP.raw false false (Op.pick (Operand.tmp 27) (Operand.const (Value.bool true)) (Operand.tmp 38))),RO.n (some 40) (RP.raw false false (Op.move (Operand.tmp 39))),RO.g (some 41) 40 false (RP.raw false false (Op.move (Operand.tmp 0))),RO.g (some 42) 40 false (RP.raw false false (Op.move (Operand.tmp 5))),RO.g (some 43) 40 false (RP.raw false false (Op.indexAddr 29 (Operand.tmp 41) (Operand.tmp 42))),RO.g (some 44) 40 false (RP.fa 2 (Operand.tmp 43)),RO.g (some 45) 40 false (RP.ld false false 1 (Operand.tmp 44)),RO.g (some 46) 40 false (RP.raw false false (Op.move (Operand.tmp 1))),RO.g (some 47) 40 false (RP.raw false false (Op.move (Operand.tmp 5))),RO.g (some 48) 40 false (RP.raw false false (Op.indexAddr 29 (Operand.tmp 46) (Operand.tmp 47))),RO.g (some 49) 40 false (RP.fa 2 (Operand.tmp 48)),RO.g (some 50) 40 false (RP.ld false false 1 (Operand.tmp 49)),RO.g (some 51) 40 false (RP.raw false false (Op.binOp BinOp.neq 24 (Operand.tmp 45) (Operand.tmp 50) 24)),RO.n (some 52) (RP.raw false false (Op.pick (Operand.tmp 40) (Operand.const (Value.bool true)) (Operand.tmp 51))),RO.n (some 53) (RP.raw false false (Op.move (Operand.tmp 52))),RO.g (some 54) 53 false (RP.raw false false (Op.move (Operand.tmp 0))),RO.g (some 55) 53 false (RP.raw false false (Op.move (Operand.tmp 5))),RO.g (some 56) 53 false (RP.raw false false (Op.indexAddr 29 (Operand.tmp 54) (Operand.tmp 55))),RO.g (some 57) 53 false (RP.fa 3 (Operand.tmp 56)),RO.g (some 58) 53 false (RP.ld false false 1 (Operand.tmp 57)),RO.g (some 59) 53 false (RP.raw false false (Op.move (Operand.tmp 1))),RO.g (some 60) 53 false (RP.raw false false (Op.move (Operand.tmp 5))),RO.g (some 61) 53 false (RP.raw false false (Op.indexAddr 29 (Operand.tmp 59) (Operand.tmp 60))),RO.g (some 62) 53 false (RP.fa 3 (Operand.tmp 61)),RO.g (some 63) 53 false (RP.ld false false 1 (Operand.tmp 62)),RO.g (some 64) 53 false (RP.raw false false (Op.binOp BinOp.neq 3 (Operand.tmp 58) (Operand.tmp 63) 3)),RO.n (some 65) (RP.raw false false (Op.pick (Operand.tmp 53) (Operand.const (Value.bool true)) (Operand.tmp 64))),RO.n (some 66) (RP.raw false false (Op.move (Operand.tmp 65))),RO.g (some 67) 66 false (RP.raw false false (Op.move (Operand.tmp 0))),RO.g (some 68) 66 false (RP.raw false false (Op.move (Operand.tmp 5))),RO.g (some 69) 66 false (RP.raw false false (Op.indexAddr 29 (Operand.tmp 67) (Operand.tmp 68))),RO.g (some 70) 66 false (RP.fa 5 (Operand.tmp 69)),RO.g (some 71) 66 false (RP.ld false false 1 (Operand.tmp 70)),RO.g (some 72) 66 false (RP.raw false false (Op.move (Operand.tmp 1))),RO.g (some 73) 66 false (RP.raw false false (Op.move (Operand.tmp 5))),RO.g (some 74) 66 false (RP.raw false false (Op.indexAddr 29 (Operand.tmp 72) (Operand.tmp 73))),RO.g (some 75) 66 false (RP.fa 5 (Operand.tmp 74)),RO.g (some 76) 66 false (RP.ld false false 1 (Operand.tmp 75)),RO.g (some 77) 66 false (RP.raw false false (Op.binOp BinOp.neq 9 (Operand.tmp 71) (Operand.tmp 76) 9)),RO.n (some 78) (RP.raw false false (Op.pick (Operand.tmp 66) (Operand.const (Value.bool true)) (Operand.tmp 77))),RO.n (some 79) (RP.raw false false (Op.move (Operand.tmp 78))),RO.g (some 80) 79 false (RP.raw false false (Op.move (Operand.tmp 0))),RO.g (some 81) 79 false (RP.raw false false (Op.move (Operand.tmp 5))),RO.g (some 82) 79 false (RP.raw false false (Op.indexAddr 29 (Operand.tmp 80) (Operand.tmp 81))),RO.g (some 83) 79 false (RP.fa 4 (Operand.tmp 82)),RO.g (some 84) 79 false (RP.ld false false 1 (Operand.tmp 83)),RO.g (some 85) 79 false (RP.raw false false (Op.move (Operand.tmp 1))),RO.g (some 86) 79 false (RP.raw false false (Op.move (Operand.tmp 5))),RO.g (some 87) 79 false (RP.raw false false (Op.indexAddr 29 (Operand.tmp 85) (Operand.tmp 86))),RO.g (some 88) 79 false (RP.fa 4 (Operand.tmp 87)),RO.g (some 89) 79 false (RP.ld false false 1 (Operand.tmp 88)),RO.g (some 90) 79 false (RP.raw false false (Op.call { callee:=Callee.value (Operand.func 52),args:={ toList:=[Operand.tmp 84,Operand.tmp 89] },argTypes:={ toList:=[59,59] } })),RO.g (some 91) 79 false (RP.raw false false (Op.unOp UnOp.not 4 (Operand.tmp 90))),RO.n (some 92) (RP.raw false false (Op.pick (Operand.tmp 79) (Operand.const (Value.bool true)) (Operand.tmp 91)))] [(0,1),(0,5),(1,5),(2,5),(3,5),(4,5),(0,6),(1,6),(2,6),(3,6),(4,6),(5,6),(0,7),(1,7),(2,7),(3,7),(4,7),(0,8),(1,8),(2,8),(3,8),(4,8),(0,9),(1,9),(2,9),(3,9),(4,9),(12,13),(12,17),(13,17),(14,17),(15,17),(16,17),(12,18),(13,18),(14,18),(15,18),(16,18),(17,18),(12,19),(13,19),(14,19),(15,19),(16,19),(12,20),(13,20),(14,20),(15,20),(16,20),(12,21),(13,21),(14,21),(15,21),(16,21),(25,26),(25,30),(26,30),(27,30),(28,30),(29,30),(25,31),(26,31),(27,31),(28,31),(29,31),(30,31),(25,32),(26,32),(27,32),(28,32),(29,32),(25,33),(26,33),(27,33),(28,33),(29,33),(25,34),(26,34),(27,34),(28,34),(29,34),(38,39),(38,43),(39,43),(40,43),(41,43),(42,43),(38,44),(39,44),(40,44),(41,44),(42,44),(43,44),(38,45),(39,45),(40,45),(41,45),(42,45),(38,46),(39,46),(40,46),(41,46),(42,46),(38,47),(39,47),(40,47),(41,47),(42,47),(51,52),(51,56),(52,56),(53,56),(54,56),(55,56),(51,57),(52,57),(53,57),(54,57),(55,57),(56,57),(51,58),(52,58),(53,58),(54,58),(55,58),(51,59),(52,59),(53,59),(54,59),(55,59),(51,60),(52,60),(53,60),(54,60),(55,60),(64,65),(64,69),(65,69),(66,69),(67,69),(68,69),(64,70),(65,70),(66,70),(67,70),(68,70),(69,70),(64,71),(65,71),(66,71),(67,71),(68,71),(64,72),(65,72),(66,72),(67,72),(68,72),(64,73),(65,73),(66,73),(67,73),(68,73)]) (RC.cond (Operand.tmp 92) (RC.seq (RC.reg [RO.n (some 4) (RP.raw false false (Op.assign (Operand.const (Value.bool false))))]) RC.ret) RC.skip)))) (RC.reg [RO.n (some 93) (RP.raw false false (Op.binOp BinOp.add 3 (Operand.tmp 13) (Operand.const (Value.int IntKind.i64 1)) 3)),RO.n (some 13) (RP.raw false false (Op.move (Operand.tmp 93)))]))))))) (RC.seq (RC.reg [RO.n (some 4) (RP.raw false false (Op.assign (Operand.const (Value.bool true))))]) RC.ret))):=by kernel_rfl
set_option maxHeartbeats 4000000 in
theorem c20 (n:Nat){s:Heap}{v w:AV}{l:List Resp}(h:RV s v l)(k:RV s w l)(hn:l.length<n)(hm:∀r∈l,r.nums.length<n):den C (n+2) 20 [v,w] s=some (.bool true,s):=by
 have hs:=h.strip'
 have ks:=k.strip'
 obtain⟨l1,hb⟩:=hs.len'
 obtain⟨l2,_⟩:=ks.len'
 rw[rd Tryz.func20,show compF C 20 refs owns Tryz.f20 [v,w].length=_ from t20]
 simp only[strip_rs,strip_mr,strip_nilf,Bool.false_eq_true,if_false,↓kR,kE,kK,sL,C_P,Nat.reduceEqDiff,reduceIte,Tryz.f20,l1,l2,bne_self_eq_false,sL]
 refine loopI (R:=fun a=>a=some (.bool true,s)) (fun i e s1=>s1=s∧e 0=v∧e 1=w∧e 12=I l.length∧e 13=I i) l.length ?_ ?_ l.length 0 (by omega) _ (by omega) _ _ ⟨rfl,rfl,rfl,rfl,rfl⟩
 ·rintro i e s1 q hi ⟨rfl,e0,e1,e12,e13⟩ hk
  have hlt:decide (i<l.length)=true:=decide_eq_true hi
  obtain⟨p,p1,⟨q0,a0,b0,g0⟩,⟨q1,a1,b1,g1⟩,⟨q2,a2,b2,g2⟩,⟨q3,a3,b3,g3⟩,⟨q4,nv,a4,b4,g4,d4,f4⟩,⟨q5,a5,b5,g5⟩⟩:=hs.at' hi
  obtain⟨p',p1',⟨u0,x0,y0,z0⟩,⟨u1,x1,y1,z1⟩,⟨u2,x2,y2,z2⟩,⟨u3,x3,y3,z3⟩,⟨u4,mv,x4,y4,z4,w4,v4⟩,⟨u5,x5,y5,z5⟩⟩:=ks.at' hi
  have ns:aBin Tryz.prog .neq 9 (.str l[i].tx) (.str l[i].tx)=some (.bool false):=by simp[str_neq]
  have cl:=a52 n d4 w4 (hm _ (List.getElem_mem hi))
  simp only[strip_rs,strip_mr,strip_nilf,Bool.false_eq_true,if_false,↓kR,kE,kK,sL,C_P,Nat.reduceEqDiff,reduceIte,e0,e1,e12,e13,hlt,p1,p1',a0,b0,a1,b1,a2,b2,a3,b3,a4,b4,a5,b5,x0,y0,x1,y1,x2,y2,x3,y3,x4,y4,x5,y5,f4,v4,cl,ns,bne_self_eq_false,rd_compat g0 z0,rd_compat g1 z1,rd_compat g2 z2,rd_compat g3 z3,rd_compat g4 z4,rd_compat g5 z5,sL]
  rw[wrap64 (by omega) (by omega)]
  exact hk _ _ ⟨rfl,e0,e1,e12,iS i⟩
 ·rintro e s1 q ⟨rfl,e0,e1,e12,e13⟩
  have hlt:decide (l.length<l.length)=false:=decide_eq_false (by omega)
  simp only[strip_rs,strip_mr,strip_nilf,Bool.false_eq_true,if_false,↓kR,kE,kK,sL,C_P,Nat.reduceEqDiff,reduceIte,e12,e13,hlt,sL]
end Srv
end

section
namespace Srv
open Go Go.Abs Go.Proofs
theorem Steps.inv {st st':St}{es:List Evn}{rs:List Resp}(h:Steps st es rs st'):(es=[]∧rs=[]∧st'=st)∨∃es' e l l1 st1 err,es=es'++[e]∧rs=l++l1∧Steps st es' l st1∧HStep st1 e l1 err st'∧st1.ms.length≤8∧st1.pd.length≤20:=by
 cases h with
 | nil=>exact .inl ⟨rfl,rfl,rfl⟩
 | snoc h hb k=>exact .inr ⟨_,_,_,_,_,_,rfl,rfl,h,k,hb⟩
theorem Steps.one {st st':St}{e:Evn}{rs:List Resp}(h:Steps st [e] rs st'):∃err,HStep st e rs err st':=by
 rcases h.inv with ⟨h1,_⟩|⟨es',e',l,l1,st1,err,h1,rfl,h3,h4,_⟩
 ·cases h1
 ·have hl:=congrArg List.length h1
  simp at hl
  subst hl
  simp at h1
  subst h1
  rcases h3.inv with ⟨_,rfl,rfl⟩|⟨_,_,_,_,_,_,h5,_⟩
  ·exact⟨err,h4⟩
  ·exact absurd (congrArg List.length h5) (by simp)
def run1 (N:Int):Evn:=⟨6,N,0,[],[],.nils,[],⟨0,0,0,0,[]⟩⟩
theorem run1_ok {N:Int}(h:N<9223372036854775808):EvOK (run1 N):=⟨.inr ⟨rfl,rfl⟩,nofun,h⟩
theorem run1_step {st st':St}{N:Int}(hN:0≤N){rs:List Resp}{err:Int}(h:HStep st (run1 N) rs err st'):∃m,RunOK st N rs st' m:=by
 have h:(if N<0 then(rs=[]∧err=1∧st'=st) else err=0∧∃m,RunOK st N rs st' m):=h
 rw[if_neg (by omega)]at h
 exact h.2
theorem bd35 (N:Int):aBuild Tryz.prog 35 [(0,I 6),(1,I N)]=some (.agg (evC (run1 N))):=by
 have:∀N,aBuild Tryz.prog 35 [(0,I 6),(1,I N)]=some (.agg [I 6,I N,I 0,.str [],.str [],.nils,I 0,I 0,I 0,I 0,.str []]):=fun N=>by kernel_rfl
 exact this N
theorem bs50 (N:Int):aBuildSlice Tryz.prog 50 1 [(0,.agg (evC (run1 N)))]=some (.sl 35 11 [.agg (evC (run1 N))] .own):=by
 have:∀N,aBuildSlice Tryz.prog 50 1 [(0,.agg [I 6,I N,I 0,.str [],.str [],.nils,I 0,I 0,I 0,I 0,.str []])]=some (.sl 35 11 [.agg [I 6,I N,I 0,.str [],.str [],.nils,I 0,I 0,I 0,I 0,.str []]] .own):=fun N=>by kernel_rfl
 exact this N
theorem evL1 {s:Heap}{e:Evn}(h:EvOK e):EvL s (.sl 35 11 [.agg (evC e)] .sh) [e]:=by
 have:=SL.sl (s:=s) (ty:=35) (z:=11) ([e].map evC) .sh (ev_els [e] (fun x hx=>by rw[List.mem_singleton.1 hx];exact h) (by simp))
 exact⟨this,fun x hx=>by rw[List.mem_singleton.1 hx];exact h⟩
theorem ansR_ci (st:St)(r:Req):(ansR st r).c=r.c∧(ansR st r).id=r.id:=by
 unfold ansR
 split<;>exact⟨rfl,rfl⟩
theorem ls35 (N:Int):(AV.sl 35 11 [.agg (evC (run1 N))] .own).strip=.sl 35 11 [.agg (evC (run1 N))] .sh:=rfl
theorem ansR_len (st:St)(r:Req)(h:st.ms.length≤8):(ansR st r).nums.length≤100:=by
 unfold ansR
 split
 ·show (compM _ _).2.1.length≤_
  unfold compM
  split
  ·exact Nat.le_of_lt (sk_len _ _ _ _ (by simp))
  ·exact Nat.le_of_lt (sk_len _ _ _ _ h)
 ·simp
theorem HStep.nums {st st':St}{e:Evn}{l:List Resp}{err:Int}(h:HStep st e l err st')(hb:st.ms.length≤8):∀r∈l,r.nums.length≤100:=by
 have nil:l=[]→∀r∈l,r.nums.length≤100:=fun e r hr=>by rw[e]at hr;cases hr
 unfold HStep at h
 split at h
 ·exact nil h.1
 split at h
 ·exact nil h.1
 split at h
 ·exact nil h.1
 split at h
 ·exact nil h.1
 split at h
 ·unfold canS at h
  split at h
  ·cases h
   intro r hr
   rw[List.mem_singleton.1 hr]
   simp
  ·cases h;exact nil rfl
 split at h
 ·split at h
  ·exact nil h.1
  ·obtain⟨_,m,hm⟩:=h
   intro r hr
   rw[hm.ans]at hr
   obtain⟨q,_,rfl⟩:=List.mem_map.1 hr
   exact ansR_len st q hb
 split at h
 ·split at h
  ·exact nil h.1
  ·exact nil h.1
 ·exact nil h.1
theorem Steps.nums {st st':St}{es:List Evn}{rs:List Resp}(h:Steps st es rs st'):∀r∈rs,r.nums.length≤100:=by
 induction h with
 | nil=>nofun
 | snoc h hb k ih =>
  intro r hr
  rcases List.mem_append.1 hr with hr|hr
  ·exact ih r hr
  ·exact k.nums hb.1 r hr
theorem e20:enterable Tryz.prog 20=true:=by kernel_rfl
theorem RV.pure {s t:Heap}{v:AV}{l:List Resp}(h:RV s v l)(hr:v.noRef=true):RV t v l:=by
 obtain⟨es,h1,h2⟩:=h
 refine⟨es,h1.pure hr,?_⟩
 have key:∀(es:List (List AV)) (l:List Resp),RC s es l→(∀e∈es,(AV.agg e).noRef=true)→RC t es l:=by
  intro es
  induction es with
  | nil=>intro l h _;cases l<;>first|exact h|exact h.elim
  | cons e es ih =>
   intro l h hn
   cases l with
   | nil=>exact h.elim
   | cons r l =>
    obtain⟨⟨nv,h3,h4,h5⟩,h6⟩:=h
    refine⟨⟨nv,h3,h4.pure ?_,h5⟩,ih l h6 fun x hx=>hn x (List.mem_cons_of_mem _ hx)⟩
    have:=hn e (List.mem_cons_self ..)
    rw[h3]at this
    simp only[AV.noRef,noRefL,Bool.and_eq_true]at this
    exact this.2.2.2.2.1
 refine key es l h2 fun e he=>?_
 cases h1 with
 | nil=>cases he
 | sl _ f hE =>
  simp only[AV.noRef]at hr
  have:∀(xs:List AV),noRefL xs=true→∀x∈xs,x.noRef=true:=by
   intro xs
   induction xs with
   | nil=>intro _ x hx;cases hx
   | cons y ys ih =>
    intro h x hx
    simp only[noRefL,Bool.and_eq_true]at h
    rcases List.mem_cons.1 hx with rfl|hx
    ·exact h.1
    ·exact ih h.2 x hx
  exact this _ hr _ (List.mem_map_of_mem he)
 | rs=>simp[AV.noRef]at hr
theorem a20 (n:Nat){s:Heap}{v w:AV}{l:List Resp}(h:RV s v l)(k:RV s w l)(hn:l.length<n)(hm:∀r∈l,r.nums.length<n):aCall Tryz.prog (den C (n+2)) 20 [v,w] s=some (.bool true,s) :=
 aC e20 rfl (fun hr=>⟨[],by
  simp only[noRefL,Bool.and_eq_true]at hr
  exact c20 n (h.pure hr.1) (k.pure hr.2.1) hn hm⟩) fun _=>c20 n h k hn hm
theorem SI.sep {s s':Heap}{V:Nat}{G F:Foot}{S M D Mr Ma Av:Nat}{r:Int}{f:Inp}{comps clock:Int}{ql:List Ent}{mv vv pv:AV}{st:St}(h:SI s V G F S M D Mr Ma Av r f comps clock ql mv vv pv st)(hl:s.length≤s'.length)(ty:∀(i:Nat)(t:TypeId)(cs:List AV),s[i]?=some (t,cs)→t≠86→t≠121→t≠mapTy→t≠148→t≠163→t≠33→s'[i]?=some (t,cs))(gk:∀i,G i→s'[i]?=s[i]?):SI s' V G F S M D Mr Ma Av r f comps clock ql mv vv pv st:=by
 have tyE:∀(i:Nat) (t:TypeId) (cs:List AV),s[i]?=some (t,cs)→t=3∨t=79∨t=45∨t=54→s'[i]?=some (t,cs):=fun i t cs hi ht=>by
  rcases ht with rfl|rfl|rfl|rfl<;>exact ty i _ cs hi (by decide) (by decide) (by decide) (by decide) (by decide) (by decide)
 have rows:Rows s s':=fun i t cs hi ht=>tyE i t cs hi (ht.elim .inl fun h=>.inr (.inl h))
 have m:=h.m
 exact⟨⟨⟨m.db.inp.keep fun i hi=>gk i (h.G1 i hi),(gk _ h.G2.2.1).trans m.db.db,tyE _ _ _ m.db.av (by simp),(gk _ h.G2.2.2.1).trans m.db.rm,(gk _ h.G2.2.2.2.1).trans m.db.am⟩,⟨fun e he=>(m.q.ro e he).keep rows (gk _ (h.G2.2.2.2.2.1 e he)),m.q.sem,m.q.ks,m.q.Rs,m.q.us,m.q.ub⟩,fun i hi=>Nat.lt_of_lt_of_le (m.hF i hi) hl,m.hFM,m.ne,m.Fq,m.ch,m.cb⟩,(gk _ h.G2.1).trans h.sv,h.mm.tf fun i cs hi=>tyE i _ cs hi (by simp),h.vm.tf fun i cs hi=>tyE i _ cs hi (by simp),h.pm.fr fun Q off n e=>gk Q (h.G2.2.2.2.2.2 Q (by rw[e];rfl)),h.sp,h.enc,h.ok,h.vl,h.nF,h.pl,h.pk,h.pq,h.G1,h.G2,fun i hi=>Nat.lt_of_lt_of_le (h.GL i hi) hl,h.bd,h.am⟩
theorem SrvI.sep {s s':Heap}{V:Nat}{G G2:Foot}{st:St}{B:Int}(h:SrvI s V G st B)(k:Fg G2 s s')(hd:∀i,G i→¬G2 i):SrvI s' V G st B:=by
 have hGL:=h.GL
 obtain⟨F,S,M,D,Mr,Ma,Av,r,f,comps,clock,ql,mv,vv,pv,h,b⟩:=h
 exact⟨F,S,M,D,Mr,Ma,Av,r,f,comps,clock,ql,mv,vv,pv,h.sep k.len k.tf fun i hi=>k.old i (hGL i hi) (hd i hi),b⟩
theorem OV.keep {b:Nat}{s s':Heap}{v:AV}{l:List Resp}(h:OV b s v l)(k3:∀(i:Nat)(cs:List AV),s[i]?=some (3,cs)→s'[i]?=some (3,cs))(kQ:∀Q,rowOf v=some Q→s'[Q]?=s[Q]?):OV b s' v l:=by
 obtain⟨es,h1,h2⟩:=h
 exact⟨es,⟨h1.1.fr fun Q off n e=>kQ Q (by rw[e];rfl),h1.2⟩,RC.tf k3 h2⟩
theorem OV.ge {b:Nat}{s:Heap}{v:AV}{l:List Resp}(h:OV b s v l){Q:Nat}(e:rowOf v=some Q):b≤Q∧∃cs,s[Q]?=some (61,cs):=by
 obtain⟨es,h1,h2⟩:=h
 exact⟨h1.row e,h1.1.rowAt e⟩
def evCan (r:Req):Evn:=⟨5,0,0,[],[],.nils,[],r⟩
theorem evCan_ok (r:Req):EvOK (evCan r):=⟨.inr ⟨rfl,rfl⟩,nofun,by show (0:Int)<_;decide⟩
theorem bdC (r:Req):aBuild Tryz.prog 35 [(0,I 5),(6,.agg (reqC r))]=some (.agg (evC (evCan r))):=by
 have:∀a b c d e,aBuild Tryz.prog 35 [(0,I 5),(6,.agg [I a,I b,I c,I d,.str e])]=some (.agg [I 5,I 0,I 0,.str [],.str [],.nils,I a,I b,I c,I d,.str e]):=fun a b c d e=>by kernel_rfl
 exact this _ _ _ _ _
theorem RunOK.det {st st1 st2:St}{N:Int}{l1 l2:List Resp}{m1 m2:Nat}(h:RunOK st N l1 st1 m1)(k:RunOK st N l2 st2 m2):l1=l2∧st1=st2:=by
 have e:=h.run.symm.trans k.run
 have e1:m1=m2:=congrArg Prod.fst e
 have e2:st1.am=st2.am:=congrArg Prod.snd e
 refine⟨by rw[h.ans,k.ans,e1],?_⟩
 have a:=h.eq
 have b:=k.eq
 rw[e1,e2]at a
 exact a.trans b.symm
theorem HStep.det {st st1 st2:St}{e:Evn}{l1 l2:List Resp}{err1 err2:Int}(h:HStep st e l1 err1 st1)(k:HStep st e l2 err2 st2):l1=l2∧st1=st2:=by
 have pr:∀{x y:Int} {a b:St} {z:Int×St},(x,a)=z→(y,b)=z→a=b:=fun h k=>by rw[←k]at h;cases h;rfl
 unfold HStep at h k
 split at h
 ·rename_i c;rw[if_pos c]at k;exact⟨h.1.trans k.1.symm,pr h.2 k.2⟩
 rename_i c1;rw[if_neg c1]at k
 split at h
 ·rename_i c;rw[if_pos c]at k;exact⟨h.1.trans k.1.symm,pr h.2 k.2⟩
 rename_i c2;rw[if_neg c2]at k
 split at h
 ·rename_i c;rw[if_pos c]at k;exact⟨h.1.trans k.1.symm,pr h.2 k.2⟩
 rename_i c3;rw[if_neg c3]at k
 split at h
 ·rename_i c;rw[if_pos c]at k;exact⟨h.1.trans k.1.symm,pr h.2 k.2⟩
 rename_i c4;rw[if_neg c4]at k
 split at h
 ·rename_i c;rw[if_pos c,←h]at k;cases k;exact⟨rfl,rfl⟩
 rename_i c5;rw[if_neg c5]at k
 split at h
 ·rename_i c;rw[if_pos c]at k
  split at h
  ·rename_i d;rw[if_pos d]at k;exact⟨h.1.trans k.1.symm,h.2.2.trans k.2.2.symm⟩
  ·rename_i d;rw[if_neg d]at k
   obtain⟨_,m,hm⟩:=h
   obtain⟨_,m',hm'⟩:=k
   exact hm.det hm'
 rename_i c6;rw[if_neg c6]at k
 split at h
 ·rename_i c;rw[if_pos c]at k
  split at h
  ·rename_i d;rw[if_pos d]at k;exact⟨h.1.trans k.1.symm,h.2.2.trans k.2.2.symm⟩
  ·rename_i d;rw[if_neg d]at k;exact⟨h.1.trans k.1.symm,h.2.2.trans k.2.2.symm⟩
 ·rename_i c;rw[if_neg c]at k;exact⟨h.1.trans k.1.symm,h.2.2.trans k.2.2.symm⟩
theorem Steps.det {st st1:St}{es:List Evn}{r1:List Resp}(h:Steps st es r1 st1):∀{r2:List Resp}{st2:St},Steps st es r2 st2→r1=r2∧st1=st2:=by
 induction h with
 | nil =>
  intro r2 st2 k
  rcases k.inv with ⟨_,rfl,rfl⟩|⟨_,_,_,_,_,_,h5,_⟩
  ·exact⟨rfl,rfl⟩
  ·exact absurd (congrArg List.length h5) (by simp)
 | @snoc sa sb es l l1 e err h hb k ih =>
  intro r2 st2 k2
  rcases k2.inv with ⟨h5,_⟩|⟨es',e',l',l1',s1',err',h5,rfl,k3,k4,_⟩
  ·exact absurd (congrArg List.length h5) (by simp)
  ·obtain⟨h6,h7⟩:=List.append_inj' h5 rfl
   obtain rfl:=(List.cons.inj h7).1
   subst h6
   obtain⟨rfl,rfl⟩:=ih k3
   obtain⟨rfl,rfl⟩:=k.det k4
   exact⟨rfl,rfl⟩
theorem run20 {st st':St}{rs:List Resp}(h:Steps st [run1 20] rs st')(hp:st.pd.length≤20):rs=st.pd.map (ansR st):=by
 obtain⟨err,k⟩:=h.one
 obtain⟨m,hm⟩:=run1_step (by decide) k
 have h1:=hm.le
 have h2:=hm.all
 have e:m=st.pd.length:=by omega
 rw[hm.ans,e,List.take_length]
theorem can_at {st:St}(hk:(st.pd.map fun r=>(r.c,r.id)).Nodup){k:Nat}(h:k<st.pd.length):canS st st.pd[k].c st.pd[k].id=([⟨st.pd[k].c,st.pd[k].id,12,st.rev,[],[]⟩],0,{ st with pd:=rmM st.pd k }) ∧
  canS { st with pd:=rmM st.pd k } st.pd[k].c st.pd[k].id=([],5,{ st with pd:=rmM st.pd k }):=by
 have inj:∀i (hi:i<st.pd.length),rqP st.pd[k].c st.pd[k].id st.pd[i]=true→i=k:=fun i hi hq=>by
  simp only[rqP,Bool.and_eq_true,beq_iff_eq]at hq
  have h1:(st.pd.map fun r=>(r.c,r.id))[i]'(by rw[List.length_map];exact hi)=(st.pd.map fun r=>(r.c,r.id))[k]'(by rw[List.length_map];exact h):=by
   rw[List.getElem_map,List.getElem_map,hq.1,hq.2]
  rcases Nat.lt_trichotomy i k with hlt|rfl|hlt
  ·exact absurd h1 (List.pairwise_iff_getElem.1 hk i k (by rw[List.length_map];exact hi) (by rw[List.length_map];exact h) hlt)
  ·rfl
  ·exact absurd h1.symm (List.pairwise_iff_getElem.1 hk k i (by rw[List.length_map];exact h) (by rw[List.length_map];exact hi) hlt)
 have hany:st.pd.any (rqP st.pd[k].c st.pd[k].id)=true:=List.any_eq_true.2 ⟨st.pd[k],List.getElem_mem h,by simp[rqP]⟩
 have hf:st.pd.findIdx (rqP st.pd[k].c st.pd[k].id)=k:=by
  obtain⟨hi,hq⟩:=findIdx_any hany
  exact inj _ hi hq
 constructor
 ·unfold canS
  rw[if_pos hany,hf]
 ·unfold canS
  have hn:(rmM st.pd k).any (rqP st.pd[k].c st.pd[k].id)=false:=by
   cases hc:(rmM st.pd k).any (rqP st.pd[k].c st.pd[k].id) with
   | false=>rfl
   | true =>
    obtain⟨m,hm,hq⟩:=List.any_eq_true.1 hc
    unfold rmM at hm
    rcases List.mem_append.1 hm with hm|hm
    ·obtain⟨j,hj,rfl⟩:=List.getElem_of_mem hm
     rw[List.length_take]at hj
     rw[List.getElem_take]at hq
     have:=inj j (by omega) hq
     omega
    ·obtain⟨j,hj,rfl⟩:=List.getElem_of_mem hm
     rw[List.length_drop]at hj
     rw[List.getElem_drop]at hq
     have:=inj (k+1+j) (by omega) hq
     omega
  rw[if_neg (by show ¬(rmM st.pd k).any _=true;rw[hn];decide)]
theorem SrvI.nd {s:Heap}{V:Nat}{G:Foot}{st:St}{B:Int}(h:SrvI s V G st B):(st.pd.map fun r=>(r.c,r.id)).Nodup:=by
 obtain⟨F,S,M,D,Mr,Ma,Av,r,f,comps,clock,ql,mv,vv,pv,h,b⟩:=h
 exact h.pk
theorem RC.take {s:Heap}:∀{es:List (List AV)}{l:List Resp},RC s es l→∀i,RC s (es.take i) (l.take i)
 | [],[],h,i=>by simp[RC]
 | e::es,r::l,h,0=>trivial
 | e::es,r::l,h,i+1=>⟨h.1,RC.take h.2 i⟩
theorem RC.drop {s:Heap}:∀{es:List (List AV)}{l:List Resp},RC s es l→∀i,RC s (es.drop i) (l.drop i)
 | [],[],h,i=>by simp[RC]
 | e::es,r::l,h,0=>h
 | e::es,r::l,h,i+1=>RC.drop h.2 i
theorem SL.dropS {ty z t:Nat}(hu:Tryz.prog.underlying t=some (.slice ty))(hz:szOf Tryz.prog ty=some z){s:Heap}{Q:Nat}{es:List (List AV)}(h:SL ty z s (.rs ty z Q 0 es.length) es){i:Nat}(hi:i≤es.length) :
  aSl Tryz.prog t (.rs ty z Q 0 es.length) (some (I i)) none none=some (.rs ty z Q (0+i*z) (es.length-i))∧SL ty z s (.rs ty z Q (0+i*z) (es.length-i)) (es.drop i):=by
 obtain⟨junk,hE,hQ,hn⟩:∃junk,Els z es∧s[Q]?=some (ty,es.flatten++junk)∧0<(es.flatten++junk).length:=by
  generalize hv:AV.rs ty z Q 0 es.length=v at h
  cases h with
  | nil=>cases hv
  | sl _ f h=>cases hv
  | rs Q' off pre junk es hE hQ hp hn =>
   cases hv
   have hpre:pre=[]:=List.eq_nil_of_length_eq_zero hp
   subst hpre
   exact⟨junk,hE,hQ,hn⟩
 have hle:(i:Int)≤es.length:=by omega
 refine⟨by simp[aSl,hu,hz,aRsTake,aBound,hle],?_⟩
 have hE2:Els z (es.drop i):=⟨fun e he=>hE.1 e (List.mem_of_mem_drop he),by have:=hE.2;simp;omega⟩
 have hE1:Els z (es.take i):=⟨fun e he=>hE.1 e (List.mem_of_mem_take he),by have:=hE.2;simp;omega⟩
 have:=SL.rs (ty:=ty) (s:=s) Q (0+i*z) (es.take i).flatten junk (es.drop i) hE2 (by rw[hQ,←List.append_assoc,←List.flatten_append,List.take_append_drop]) (by rw[hE1.len,List.length_take,Nat.min_eq_left hi];omega) (by rw[←List.append_assoc,←List.flatten_append,List.take_append_drop];exact hn)
 rwa [List.length_drop]at this
theorem OV.takeS {b:Nat}{s:Heap}{v:AV}{l:List Resp}(h:OV b s v l){i:Nat}(hi:i≤l.length):∃w,aSl Tryz.prog 29 v none (some (I i)) none=some w∧RV s w (l.take i)∧w.strip=w:=by
 obtain⟨es,h1,h2⟩:=h
 have hl:=h2.len
 obtain⟨w,w1,w2,w3⟩:=h1.1.take und29 sz61 (i:=i) (by omega)
 exact⟨w,w1,⟨es.take i,w2,h2.take i⟩,w3⟩
theorem OV.dropS {b:Nat}{s:Heap}{v:AV}{l:List Resp}(h:OV b s v l){i:Nat}(hi:i≤l.length)(h0:0<l.length):∃w,aSl Tryz.prog 29 v (some (I i)) none none=some w∧RV s w (l.drop i)∧w.strip=w∧rowOf w=rowOf v:=by
 obtain⟨es,h1,h2⟩:=h
 have hl:=h2.len
 rcases h1.2 with ⟨rfl,rfl⟩|⟨Q,rfl,_,_⟩
 ·simp at hl;omega
 ·obtain⟨w1,w2⟩:=SL.dropS und29 sz61 h1.1 (i:=i) (by omega)
  exact⟨_,w1,⟨es.drop i,w2,h2.drop i⟩,rfl,rfl⟩
theorem RV.keep {s s':Heap}{v:AV}{l:List Resp}(h:RV s v l)(k3:∀(i:Nat)(cs:List AV),s[i]?=some (3,cs)→s'[i]?=some (3,cs))(kQ:∀Q,rowOf v=some Q→s'[Q]?=s[Q]?):RV s' v l:=by
 obtain⟨es,h1,h2⟩:=h
 exact⟨es,h1.fr fun Q off n e=>kQ Q (by rw[e];rfl),RC.tf k3 h2⟩
theorem c26 (n:Nat){s:Heap}{v:AV}{l:List Resp}(h:RV s v l)(hs:v.strip=v)(hn:l.length<1000000):∃w s',den C (n+1) 26 [v] s=some (w,s')∧OV s.length s' w l∧s.length≤s'.length∧∀(i:Nat)(t:TypeId)(cs:List AV),s[i]?=some (t,cs)→s'[i]?=some (t,cs):=by
 have o0:OV s.length s .nils []:=⟨[],.nil ..,trivial⟩
 obtain⟨w,s',a1,a2,a3,a4⟩:=o0.app h (by simpa using hn) (Nat.le_refl _)
 refine⟨w,s',?_,by simpa using a2,a3,fun i t cs hi=>a4 i t cs hi (.inr (glt hi))⟩
 rw[rd Tryz.func26];conv in compF _ _ _ _ _ _=>cbv
 simp only[strip_rs,strip_mr,strip_nilf,Bool.false_eq_true,if_false,↓kR,kE,kK,sL,C_P,Nat.reduceEqDiff,reduceIte,Tryz.f26,hs,a1,a2.strip,sL]
theorem rem_pos {a:Int}{n:Nat}(h:0<n):aBin Tryz.prog .rem 3 (I a) (I n)=some (I (a.tmod n)):=by
 have:∀b:Int,b≠0→aBin Tryz.prog .rem 3 (I a) (I b)=some (I (a.tmod b)):=fun b hb=>by
  have:aBin Tryz.prog .rem 3 (I a) (I b)=(if b=0 then none else some (I (a.tmod b))):=by kernel_rfl
  rw[this,if_neg hb]
 exact this n (by omega)
theorem den25n (n:Nat)(s:Heap)(a:Int){m:Nat}(h0:0<m)(h1:m≤1000):∃k:Nat,k<m∧den C (n+1) 25 [I a,I m] s=some (I k,s):=by
 have hx:=rem_pos (a:=a) h0
 have b1:a.tmod m<m:=Int.tmod_lt_of_pos a (by omega)
 have b2:-(m:Int)<a.tmod m:=by
  exact Int.lt_tmod_of_pos a (by omega)
 generalize a.tmod m=x at hx b1 b2
 by_cases hneg:x<0
 ·have hl:decide (x<0)=true:=decide_eq_true hneg
  have wi:=wrap64 (show -9223372036854775808≤x+(m:Int) by omega) (by omega)
  refine⟨(x+m).toNat,by omega,?_⟩
  rw[show ((x+m).toNat:Int)=x+m from Int.toNat_of_nonneg (by omega)]
  rw[rd Tryz.func25];conv in compF _ _ _ _ _ _=>cbv
  simp only[strip_rs,strip_mr,strip_nilf,Bool.false_eq_true,if_false,↓kR,kE,kK,sL,C_P,Nat.reduceEqDiff,reduceIte,Tryz.f25,↓rC_seqj,hx,hl,wi,sL]
 ·have hl:decide (x<0)=false:=decide_eq_false hneg
  refine⟨x.toNat,by omega,?_⟩
  rw[show (x.toNat:Int)=x from Int.toNat_of_nonneg (by omega)]
  rw[rd Tryz.func25];conv in compF _ _ _ _ _ _=>cbv
  simp only[strip_rs,strip_mr,strip_nilf,Bool.false_eq_true,if_false,↓kR,kE,kK,sL,C_P,Nat.reduceEqDiff,reduceIte,Tryz.f25,↓rC_seqj,hx,hl,sL]
theorem a25n (n:Nat)(s:Heap)(a:Int){m:Nat}(h0:0<m)(h1:m≤1000):∃k:Nat,k<m∧aCall Tryz.prog (den C (n+1)) 25 [I a,I m] s=some (I k,s):=by
 obtain⟨k,hk,hx⟩:=den25n n [] a h0 h1
 exact⟨k,hk,aC (by kernel_rfl) rfl (fun _=>⟨[],hx⟩) fun e=>(nomatch (show true=false from e))⟩
end Srv
end

section
namespace Srv
open Go Go.Abs Go.Proofs
theorem rO_u {D:Den}{d:Option Nat}{j t:Nat}{w:Bool}{p:RP}{env:Env}{s:Heap}{k:Env→Heap→Ans}(h:wA (env j) w=some true):rO C D (.u d j w t p) env s k=oh (rV C D p (evO C env) s) fun r s'=>k (setE (stripE env (some t)) d r) s':=by
 simp only[rO,h]
theorem stripE_some (env:Env)(t:Nat):stripE env (some t)=upd env t (env t).strip:=rfl
theorem e26:enterable Tryz.prog 26=true:=by kernel_rfl
theorem h12 {s:Heap}{V:Nat}{G:Foot}{st:St}{B:Int}(h:SrvI s V G st B)(hB:B<100000)(r:Req) :
  ∃v s',aCall Tryz.prog (den C 200331) 12 [.ref V 0,.agg (evC (evCan r))] s=some (.tup [v,I (canS st r.c r.id).2.1],s')∧RV s' v (canS st r.c r.id).1∧SrvI s' V (FN G s s') (canS st r.c r.id).2.2 (B+20)∧Fg G s s':=by
 obtain⟨v,s',l,err,st',d1,d2,d3,d4,d5⟩:=c12 200001 (by decide) (by decide) h hB (evCan r) (evCan_ok r)
 have k:(l,err,st')=canS st r.c r.id:=d3
 rw[←k]
 refine⟨v,s',?_,d2,d4,d5⟩
 rw[aCall,if_pos (by kernel_rfl),if_neg (by simp[noRefL_cons,AV.noRef])];exact d1
theorem h21 {s:Heap}{V:Nat}{G:Foot}{st:St}{B:Int}(h:SrvI s V G st B){v:AV}{l:List Evn}(hv:EvL s v l)(hl:l.length≤50)(hB:B<90000) :
  ∃w s' rs st',aCall Tryz.prog (den C 200331) 21 [.ref V 0,v] s=some (w,s')∧OV s.length s' w rs∧Steps st l rs st'∧SrvI s' V (FN G s s') st' (B+1000)∧Fg G s s'∧rs.length≤1000:=by
 obtain⟨w,s',rs,st',d1,d2,d3,d4,d5,d6⟩:=c21 200000 (by decide) (by decide) h hv hl hB
 refine⟨w,s',rs,st',?_,d2,d3,d4,d5,d6⟩
 rw[aCall,if_pos (by kernel_rfl),if_neg (by simp[noRefL_cons,AV.noRef])];exact d1
set_option maxHeartbeats 8000000 in
theorem c6 {s:Heap}{v:AV}{l:List Evn}(hv:EvA v l)(a:Int):∃s',den C 200332 6 [v,I a] s=some (.bool true,s'):=by
 -- two servers
 obtain⟨sA,V1,x1,x2,x3⟩:=c11 200328 s
 obtain⟨sB,V2,y1,y2,y3⟩:=c11 200328 sA
 obtain⟨G1,hG1⟩:∃G:Foot,G=fun i=>s.length≤i∧i<sA.length:=⟨_,rfl⟩
 obtain⟨G2,hG2⟩:∃G:Foot,G=fun i=>sA.length≤i∧i<sB.length:=⟨_,rfl⟩
 rw[←hG1]at x2
 rw[←hG2]at y2
 obtain⟨v',sC,b1,b2,b3⟩:=c19 200330 (by decide) (s:=sB) (v:=v.strip) hv.strip 12 (by omega)
 have hok:=evs_ok hv.2 12
 obtain⟨E,hE⟩:∃E,E=(l.take 12).map evS:=⟨_,rfl⟩
 rw[←hE]at b2 hok
 have hEl:E.length≤50:=by rw[hE];simp;omega
 have lAB:=y3.len
 have lBC:=b3.len
 have k11:aCallF Tryz.prog (den C 200331) 11 [.fn 22 [] []] s=some (.ref V1 0,sA):=(cFs _ _ e11).trans x1
 have k12:aCallF Tryz.prog (den C 200331) 11 [.fn 22 [] []] sA=some (.ref V2 0,sB):=(cFs _ _ e11).trans y1
 have k19:aCallF Tryz.prog (den C 200331) 19 [v.strip,I 12] sB=some (v',sC):=(cFs _ _ e19).trans b1
 obtain⟨w1,sD,rs1,st1,p1,p2,p3,p4,p5,p6⟩:=h21 ((x2.up y3.up).up b3) (v:=v') ⟨b2.1,hok⟩ hEl (by decide)
 have lCD:=p5.len
 have G1b:∀i,G1 i→i<sA.length:=fun i hi=>by rw[hG1]at hi;exact hi.2
 have G2b:∀i,G2 i→sA.length≤i∧i<sB.length:=fun i hi=>by rw[hG2]at hi;exact hi
 have y2D:=(y2.up b3).sep p5 fun i hi h=>by have:=(G2b i hi).1;have:=G1b i h;omega
 obtain⟨w2,sE,rs2,st2,q1,q2,q3,q4,q5,q6⟩:=h21 y2D (v:=v') ⟨b2.1.tf fun j cs hj=>p5.tf j _ cs hj (by decide) (by decide) (by decide) (by decide) (by decide) (by decide),hok⟩ hEl (by decide)
 have lDE:=q5.len
 obtain⟨_,rfl⟩:=p3.det q3
 obtain⟨GA,hGA⟩:∃G:Foot,G=FN G1 sC sD:=⟨_,rfl⟩
 obtain⟨GB,hGB⟩:∃G:Foot,G=FN G2 sD sE:=⟨_,rfl⟩
 rw[←hGA]at p4
 rw[←hGB]at q4
 have GAb:∀i,GA i→i<sA.length∨(sC.length≤i∧i<sD.length):=fun i hi=>by
  rw[hGA]at hi
  exact hi.imp (G1b i) id
 have GBb:∀i,GB i→(sA.length≤i∧i<sB.length)∨(sD.length≤i∧i<sE.length):=fun i hi=>by
  rw[hGB]at hi
  exact hi.imp (G2b i) id
 have p4E:=p4.sep q5 fun i hi h=>by
  have:=GAb i hi;have:=G2b i h;omega
 -- what is pending
 obtain⟨pv,sF,c1,c2,c3,c4,c5⟩:=a24 200329 p4E
 have lEF:=c4.len
 have p4F:=p4E.up c4.up
 have hpl:=p4.pl
 have hm8:=p4.ms8
 have lpv:aLen Tryz.prog 57 pv=some (I st1.pd.length):=by have:=c2.len und57;rwa [List.length_map]at this
 by_cases h0:st1.pd.length=0
 ·have z00:(((st1.pd.length:Nat):Int)==0)=true:=by simp[h0]
  rw[rd Tryz.func6];conv in compF _ _ _ _ _ _=>cbv
  simp only[strip_rs,strip_mr,strip_nilf,Bool.false_eq_true,if_false,↓kR,kE,kK,sL,C_P,Nat.reduceEqDiff,reduceIte,Tryz.f6,↓rC_seqj,f18,strF,strip2,k11,k12,k19,b2.strip,p1,q1,c1,c3,lpv,z00,sL]
  exact⟨sF,rfl⟩
 have z00:(((st1.pd.length:Nat):Int)==0)=false:=by simpa using h0
 obtain⟨k,hk,k25⟩:=a25n 200330 sF a (m:=st1.pd.length) (by omega) (by omega)
 obtain⟨r,hr⟩:∃r,st1.pd[k]=r:=⟨_,rfl⟩
 obtain⟨can1,can2⟩:=can_at p4.nd hk
 rw[hr]at can1 can2
 obtain⟨stK,hstK⟩:∃stK:St,stK={ st1 with pd:=rmM st1.pd k }:=⟨_,rfl⟩
 rw[←hstK]at can1 can2
 obtain⟨p,m1,m2,m3,_⟩:=c2.at und57 sz33 (by decide) (by decide) (i:=k) (by rw[List.length_map];exact hk)
 rw[List.getElem_map,hr]at m2
 -- given up,and once more
 obtain⟨u1,sG,d1,d2,d3,d4⟩:=h12 p4F (by decide) r
 rw[can1]at d1 d2 d3
 have lFG:=d4.len
 have c2G:SL 33 5 sG pv (st1.pd.map reqC):=c2.fr fun Q off m e=>by
  obtain⟨cs,hc⟩:=c2.row e
  refine d4.old Q (glt hc) fun hg=>?_
  have:=c5 Q off m e
  have:=GAb Q hg
  omega
 obtain⟨pp,n1,n2,n3,_⟩:=c2G.at und57 sz33 (by decide) (by decide) (i:=k) (by rw[List.length_map];exact hk)
 rw[List.getElem_map,hr]at n2
 obtain rfl:=Option.some.inj (m1.symm.trans n1)
 obtain⟨u2,sH,g1,g2,g3,g4⟩:=h12 d3 (by omega) r
 rw[can2]at g1 g2 g3
 have lGH:=g4.len
 -- the rest,and all
 obtain⟨w3,sI,rs3,st3,j1,j2,j3,j4,j5,j6⟩:=h21 g3 (evL1 (run1_ok (N:=20) (by decide))) (by simp) (by omega)
 have lHI:=j5.len
 have q4F:=(((q4.up c4.up).sep d4 fun i hi h=>by have:=GBb i hi;have:=GAb i h;omega).sep g4 fun i hi h=>by
  rcases h with h|h
  ·have:=GBb i hi;have:=GAb i h;omega
  ·have:=GBb i hi;have:=h.1;omega).sep j5 fun i hi h=>by
   rcases h with (h|h)|h
   ·have:=GBb i hi;have:=GAb i h;omega
   ·have:=GBb i hi;have:=h.1;omega
   ·have:=GBb i hi;have:=h.1;omega
 obtain⟨w4,sJ,rs4,st4,i1,i2,i3,i4,i5,i6⟩:=h21 q4F (evL1 (run1_ok (N:=20) (by decide))) (by simp) (by omega)
 have lIJ:=i5.len
 have hall:=run20 i3 hpl
 have hkpl:stK.pd.length≤20:=by rw[hstK];exact Nat.le_trans (rmM_sub _ _).length_le hpl
 have hrest:=run20 j3 hkpl
 have hr3:rs3=rmM rs4 k:=by
  rw[hrest,hall,hstK]
  unfold rmM
  rw[List.map_append,List.map_take,List.map_drop]
  rfl
 have l4:rs4.length=st1.pd.length:=by rw[hall,List.length_map]
 -- the slices
 obtain⟨t1,t2,t3,t4⟩:=i2.takeS (i:=k) (by omega)
 obtain⟨cl,sK,e1,e2,e3,e4⟩:=c26 200330 t3 t4 (by rw[List.length_take];omega)
 obtain⟨f1,f2,f3,f4,f5⟩:=i2.dropS (i:=k+1) (by omega) (by omega)
 have f3K:RV sK f1 (rs4.drop (k+1)):=f3.keep (fun i cs hi=>e4 i 3 cs hi) fun Q hQ=>by
  rw[f5]at hQ
  obtain⟨cs,hc⟩:=(i2.ge hQ).2
  rw[e4 Q 61 cs hc,hc]
 obtain⟨ap,sL',o1,o2,o3,o4⟩:=e2.app f3K (by simp;omega) (by omega)
 have w3J:RV sJ w3 rs3:=j2.rv.fg i5
 have w3L:RV sL' w3 rs3:=(w3J.keep (s':=sK) (fun i cs hi=>e4 i 3 cs hi) fun Q hQ=>by
   obtain⟨es,h1,_⟩:=w3J
   obtain⟨cs,hc⟩:=h1.rowAt hQ
   rw[e4 Q 61 cs hc,hc]).keep (fun i cs hi=>o4 i 3 cs hi (.inl (by decide))) fun Q hQ=>by
   obtain⟨es,h1,_⟩:=w3J
   obtain⟨cs,hc⟩:=h1.rowAt hQ
   rw[o4 Q 61 cs (e4 Q 61 cs hc) (.inr (glt hc)),e4 Q 61 cs hc]
 have g20:=a20 200329 w3L (show RV sL' ap rs3 by rw[hr3];exact o2.rv) (by omega) (fun y hy=>by have:=j3.nums y hy;omega)
 have k26:aCallF Tryz.prog (den C 200331) 26 [t1] sJ=some (cl,sK):=(cFs _ _ e26).trans e1
 -- lengths
 have lu1:=(d2.fg g4).strip'.len'.1
 have u1J:RV sJ u1.strip _:=((d2.fg g4).fg j5).fg i5 |>.strip'
 have lu1':aLen Tryz.prog 29 u1.strip=some (I 1):=u1J.len'.1
 have lu2':aLen Tryz.prog 29 u2.strip=some (I 0):=g2.strip'.len'.1
 have lw4:aLen Tryz.prog 29 w4=some (I st1.pd.length):=by have:=i2.rv.len'.1;rwa [l4]at this
 obtain⟨pe,r1,_,_,⟨qe,r2,r3,r4⟩,_⟩:=u1J.at' (i:=0) (by simp)
 have r1:aIndexAddr Tryz.prog 29 u1.strip (I 0)=some pe:=r1
 have r3:aLoad false false 1 qe sJ=some (I 12,sJ):=r3
 have ls20:=ls35 20
 have wi:=wrap64 (show -9223372036854775808≤(k:Int)+1 by omega) (by omega)
 have f2:aSl Tryz.prog 29 w4 (some (I ((k:Int)+1))) none none=some f1:=by have:=f2;push_cast at this;exact this
 rw[rd Tryz.func6];conv in compF _ _ _ _ _ _=>cbv
 simp only[strip_rs,strip_mr,strip_nilf,Bool.false_eq_true,if_false,↓kR,kE,kK,sL,C_P,Nat.reduceEqDiff,reduceIte,Tryz.f6,↓rC_seqj,f18,strF,strip2,k11,k12,k19,b2.strip,p1,q1,c1,c3,lpv,z00,k25,m1,m2,bdC,d1,n2,g1,bd35,bs50,ls20,j1,i1,lw4,j2.strip,i2.strip,lu1',lu2',r1,r2,r3,bne_self_eq_false,t2,t4,k26,e2.strip,f2,f4,o1,o2.strip,wi,g20,sL]
 simp only[strip_rs,strip_mr,strip_nilf,Bool.false_eq_true,if_false,↓kR,kE,kK,sL,C_P,Nat.reduceEqDiff,reduceIte,rO_u,stripE_some,o1,o2.strip,strip2,w3L,g20,j2.strip,sL]
 exact⟨sL',rfl⟩
end Srv
end
