/- SvI, SvJ, SvG, SvK, SvL, SvM, SvN, SvO, SvP -/
import Derived.Test.YtfhoaocedkkjbaaGreatDoorD
set_option linter.all false
set_option maxRecDepth 100000

section
namespace Srv
open Go Go.Abs Go.Proofs
theorem c107 (n:Nat){s:Heap}{v:AV}{xs:List Int}(h:NV s v xs)(t:Bytes):∃v' s',den C (n+2) 107 [.agg [v,.str t]] s=some (.agg [v',.str t],s')∧NV s' v' xs∧Gr s s'∧v'.strip=v'∧NewR s v':=by
 rw[rd Tryz.func107];conv in compF _ _ _ _ _ _=>cbv
 simp only[strip_rs,strip_mr,strip_nilf,Bool.false_eq_true,if_false,↓kR,kE,kK,sL,C_P,Nat.reduceEqDiff,reduceIte,Tryz.f107,]
 obtain⟨w,s1,h1,h2,h3,h4⟩:=c60 n (h.strip.strip.gr (Gr.app s (82,[.nils,.str []])))
 obtain⟨g1,g2,g3⟩:=h3.set (y:=(82,[w.strip,.str t]))
 simp only[strip_rs,strip_mr,strip_nilf,Bool.false_eq_true,if_false,↓kR,kE,kK,sL,C_P,Nat.reduceEqDiff,reduceIte,allocG z82 (by decide) ⟨nofun,rfl⟩,b82 h2,cFs _ _ (by kernel_rfl:enterable Tryz.prog 60=true),h1,sL]
 have hst:aStore 2 s1 (.ref s.length 0) (.agg [w,.str t])=some (s1.set s.length (82,[w.strip,.str t])):=by
  have hat:=h3.at gapp_new
  rw[st (n:=2) (o:=0) (v:=.agg [w,.str t]) hat (by decide) (by cases h2<;>rfl) rfl (by decide)]
  rfl
 rw[hst]
 simp only[sL]
 rw[fkc ag82 sz82 (x:=.agg [w.strip,.str t]) (by rw[show (upd _ 8 _:Env) 2=AV.ref s.length 0 from rfl];exact ldA g2 (by decide) (by simp) (by decide))]
 refine⟨w.strip,_,rfl,h2.strip.fr fun Q n' e=>?_,g1,?_,fun Q n' e=>?_⟩
 ·refine g3 Q fun e'=>?_
  obtain⟨cs,hc⟩:=h2.strip.row e
  rw[e',h3.at gapp_new]at hc
  cases hc
 ·cases h2<;>first|rfl|(rename_i f _;cases f<;>rfl)
 ·have h4':=h4 Q n' (by cases h2<;>first|exact e|cases e|(rename_i f _;cases f<;>cases e))
  rw[app_length]at h4';omega
abbrev K3:=Int×Int×Int
abbrev Key (a b c:Int):AV:=.agg [I a,I b,I c]
abbrev Kv (k:K3):AV:=.agg [I k.1,I k.2.1,I k.2.2]
abbrev ML:=List (K3×AV)
def flat:ML→List AV
 | []=>[]
 | p::l=>Kv p.1::p.2::flat l
def mlook:ML→K3→Option AV
 | [],_=>none
 | p::l,k=>if p.1=k then some p.2 else mlook l k
def mset:ML→K3→AV→ML
 | [],k,v=>[(k,v)]
 | p::l,k,v=>if p.1=k then(k,v)::l else p::mset l k v
def mdel:ML→K3→ML
 | [],_=>[]
 | p::l,k=>if p.1=k then l else p::mdel l k
theorem mlook_mset (l:ML)(k k':K3)(v:AV):mlook (mset l k v) k'=if k=k' then some v else mlook l k':=by
 induction l with
 | nil=>simp[mset,mlook]
 | cons p l ih =>
  simp only[mset]
  by_cases h:p.1=k
  ·simp only[if_pos h,mlook]
   by_cases h':k=k'
   ·simp[h']
   ·have:¬p.1=k':=fun e=>h' (h▸e)
    simp[h',this]
  ·simp only[if_neg h,mlook,ih]
   by_cases h':p.1=k'
   ·have:¬k=k':=fun e=>h (h'.trans e.symm)
    simp[h',this]
   ·simp[h']
theorem key79 (k:K3):keyOK Tryz.prog 79 (Kv k)=true:=by
 have:∀a b c,keyOK Tryz.prog 79 (Key a b c)=true:=fun a b c=>by kernel_rfl
 exact this _ _ _
theorem eq79 (k k':K3):aEq Tryz.prog 6 79 (Kv k) (Kv k')=some (decide (k=k')):=by
 have:∀a b c a' b' c',aEq Tryz.prog 6 79 (Key a b c) (Key a' b' c')=some ((a==a')&&((b==b')&&((c==c')&&true))):=fun a b c a' b' c'=>by kernel_rfl
 obtain⟨a,b,c⟩:=k
 obtain⟨a',b',c'⟩:=k'
 rw[show Kv (a,b,c)=Key a b c from rfl,show Kv (a',b',c')=Key a' b' c' from rfl,this]
 congr 1
 rw[Bool.eq_iff_iff]
 simp
theorem kfind_flat (l:ML)(k:K3):(mlook l k=none∧kfind Tryz.prog 79 (Kv k) (flat l)=some none)∨∃i v,mlook l k=some v∧kfind Tryz.prog 79 (Kv k) (flat l)=some (some (i,v))∧(flat l)[2*i]?=some (Kv k)∧(∀w,((flat l).set (2*i) (Kv k)).set (2*i+1) w=flat (mset l k w))∧((flat l).eraseIdx (2*i)).eraseIdx (2*i)=flat (mdel l k):=by
 induction l with
 | nil=>exact .inl ⟨rfl,rfl⟩
 | cons p l ih =>
  by_cases h:p.1=k
  ·right
   refine⟨0,p.2,by simp[mlook,h],?_,by simp[flat,h],fun w=>?_,?_⟩
   ·simp only[flat,kfind,eq79,decide_eq_true h.symm]
   ·simp[mset,h,flat]
   ·simp[mdel,h,flat]
  ·have hk:decide (k=p.1)=false:=decide_eq_false (fun e=>h e.symm)
   rcases ih with ⟨h1,h2⟩|⟨i,v,h1,h2,h3,h4,h5⟩
   ·left
    exact⟨by simp[mlook,h,h1],by simp only[flat,kfind,eq79,hk,h2]⟩
   ·right
    refine⟨i+1,v,by simp[mlook,h,h1],by simp only[flat,kfind,eq79,hk,h2],?_,fun w=>?_,?_⟩
    ·rw[show 2*(i+1)=2*i+1+1 by omega];exact h3
    ·rw[show 2*(i+1)=2*i+1+1 by omega]
     simp only[mset,if_neg h]
     exact congrArg (fun q=>Kv p.1::p.2::q) (h4 w)
    ·rw[show 2*(i+1)=2*i+1+1 by omega]
     simp only[mdel,if_neg h]
     exact congrArg (fun q=>Kv p.1::p.2::q) h5
theorem und145:Tryz.prog.underlying 145=some (.map 79 189):=by kernel_rfl
theorem und118:Tryz.prog.underlying 118=some (.map 79 161):=by kernel_rfl
theorem und119:Tryz.prog.underlying 119=some (.map 79 3):=by kernel_rfl
theorem mGet {t E:TypeId}(ht:Tryz.prog.underlying t=some (.map 79 E)){z:AV}(hz:zeroOf Tryz.prog E=some z){s:Heap}{M:Nat}{l:ML}(hM:s[M]?=some (mapTy,.undef::flat l))(k:K3)(ok:Bool) :
  aMapGet Tryz.prog t (.mr M) (Kv k) ok s=some (getR ok (((mlook l k).getD z).strip) (mlook l k).isSome):=by
 unfold aMapGet
 rw[ht]
 simp only[key79,if_true,hM]
 rcases kfind_flat l k with ⟨h1,h2⟩|⟨i,v,h1,h2,_⟩
 ·simp[h1,h2,hz]
 ·simp[h1,h2]
theorem mSet {t E:TypeId}(ht:Tryz.prog.underlying t=some (.map 79 E)){s:Heap}{M:Nat}{l:ML}(hM:s[M]?=some (mapTy,.undef::flat l))(k:K3){v:AV}(hv:v.solid=true) :
  aMapSet Tryz.prog t (.mr M) (Kv k) v s=some (s.set M (mapTy,.undef::flat (mset l k v.strip))):=by
 unfold aMapSet
 rw[ht]
 simp only[key79,hv,and_self,if_true,hM]
 rcases kfind_flat l k with ⟨h1,h2⟩|⟨i,w,h1,h2,h3,h4,_⟩
 ·rw[h2]
  have:flat (mset l k v.strip)=flat l++[Kv k,v.strip]:=by
   clear hM h2
   induction l with
   | nil=>rfl
   | cons p l ih =>
    simp only[mlook]at h1
    split at h1
    ·cases h1
    ·rename_i hp
     simp[mset,hp,flat,ih h1]
  simp[this]
 ·have sk:sameKey (Kv k) (Kv k)=true:=by simp[sameKey,Kv,isI64]
  simp[h2,h3,sk,h4]
theorem mDel {t E:TypeId}(ht:Tryz.prog.underlying t=some (.map 79 E)){s:Heap}{M:Nat}{l:ML}(hM:s[M]?=some (mapTy,.undef::flat l))(k:K3) :
  aMapDel Tryz.prog t (.mr M) (Kv k) s=some (s.set M (mapTy,.undef::flat (mdel l k))):=by
 unfold aMapDel
 rw[ht]
 simp only[key79,if_true,hM]
 rcases kfind_flat l k with ⟨h1,h2⟩|⟨i,w,h1,h2,_,_,h5⟩
 ·rw[h2]
  have:mdel l k=l:=by
   clear hM h2
   induction l with
   | nil=>rfl
   | cons p l ih =>
    simp only[mlook]at h1
    split at h1
    ·cases h1
    ·rename_i hp
     simp[mdel,hp,ih h1]
  simp[this]
 ·simp[h2,h5]
structure Cell where
 xs:List Int
 t:Bytes
 ch:Int
def zc:Cell:=⟨[],[],0⟩
abbrev Foot:=Nat→Prop
def InF (F:Foot)(v:AV):Prop:=∀Q n,v=.rs 3 1 Q 0 n→F Q
def CV (s:Heap)(F:Foot)(x:AV)(c:Cell):Prop:=∃v,x=.agg [v,.str c.t,I c.ch,I 0]∧NV s v c.xs∧v.strip=v∧c.xs.length<2∧InF F v
abbrev Inp:=K3→Cell
def InpR (s:Heap)(F:Foot)(l:ML)(f:Inp):Prop:=∀k,(mlook l k=none∧f k=zc)∨∃x,mlook l k=some x∧CV s F x (f k)
def Keep (F:Foot)(s s':Heap):Prop:=∀i,F i→s'[i]?=s[i]?
theorem Gr.keep {s s':Heap}(h:Gr s s'){F:Foot}(hF:∀i,F i→i<s.length):Keep F s s':=fun i hi=>h.get (hF i hi)
theorem InF.sub {F F':Foot}(h:∀i,F i→F' i){v:AV}(k:InF F v):InF F' v:=fun Q n e=>h Q (k Q n e)
theorem NV.keep {F:Foot}{s s':Heap}{v:AV}{xs:List Int}(h:NV s v xs)(hF:InF F v)(k:Keep F s s'):NV s' v xs:=h.fr fun Q n e=>k Q (hF Q n e)
theorem CV.keep {F:Foot}{s s':Heap}{x:AV}{c:Cell}(h:CV s F x c)(k:Keep F s s'):CV s' F x c:=by
 obtain⟨v,e,h1,h2,h3,h4⟩:=h
 exact⟨v,e,h1.keep h4 k,h2,h3,h4⟩
theorem CV.sub {F F':Foot}{s:Heap}{x:AV}{c:Cell}(h:CV s F x c)(k:∀i,F i→F' i):CV s F' x c:=by
 obtain⟨v,e,h1,h2,h3,h4⟩:=h
 exact⟨v,e,h1,h2,h3,h4.sub k⟩
theorem InpR.keep {F:Foot}{s s':Heap}{l:ML}{f:Inp}(h:InpR s F l f)(k:Keep F s s'):InpR s' F l f:=fun q =>
 (h q).imp id fun⟨x,h1,h2⟩=>⟨x,h1,h2.keep k⟩
theorem InpR.sub {F F':Foot}{s:Heap}{l:ML}{f:Inp}(h:InpR s F l f)(k:∀i,F i→F' i):InpR s F' l f:=fun q =>
 (h q).imp id fun⟨x,h1,h2⟩=>⟨x,h1,h2.sub k⟩
theorem z189:zeroOf Tryz.prog 189=some (.agg [.nils,.str [],I 0,I 0]):=by kernel_rfl
theorem CV.strip {s:Heap}{F:Foot}{x:AV}{c:Cell}(h:CV s F x c):x.strip=x:=by
 obtain⟨v,rfl,_⟩:=h
 rfl
theorem CV.zero (s:Heap)(F:Foot):CV s F (.agg [.nils,.str [],I 0,I 0]) zc:=⟨.nils,rfl,.nil,rfl,by decide,fun _ _ e=>(by cases e)⟩
theorem InpR.get {s:Heap}{F:Foot}{M:Nat}{l:ML}{f:Inp}(hM:s[M]?=some (mapTy,.undef::flat l))(h:InpR s F l f)(k:K3):∃x,aMapGet Tryz.prog 145 (.mr M) (Kv k) false s=some x∧CV s F x (f k):=by
 rw[mGet und145 z189 hM]
 rcases h k with ⟨h1,h2⟩|⟨x,h1,h2⟩
 ·rw[h1,h2];exact⟨_,rfl,.zero s F⟩
 ·rw[h1];exact⟨x,by simp[getR,h2.strip],h2⟩
structure IS (s:Heap)(F:Foot)(S M:Nat)(r:Int)(f:Inp):Prop where
 ne:S≠M
 FSS:F S
 FM:F M
 st:∃b c,s[S]?=some (148,[I r,I r,I b,I c,.mr M])
 mp:∃l,s[M]?=some (mapTy,.undef::flat l)∧InpR s F l f
theorem IS.keep {s s':Heap}{F:Foot}{S M:Nat}{r:Int}{f:Inp}(h:IS s F S M r f)(k:Keep F s s'):IS s' F S M r f:=by
 obtain⟨b,c,hS⟩:=h.st
 obtain⟨l,hM,hl⟩:=h.mp
 exact⟨h.ne,h.FSS,h.FM,⟨b,c,(k S h.FSS).trans hS⟩,l,(k M h.FM).trans hM,hl.keep k⟩
theorem IS.sub {s:Heap}{F F':Foot}{S M:Nat}{r:Int}{f:Inp}(h:IS s F S M r f)(k:∀i,F i→F' i):IS s F' S M r f:=by
 obtain⟨l,hM,hl⟩:=h.mp
 exact⟨h.ne,k _ h.FSS,k _ h.FM,h.st,l,hM,hl.sub k⟩
theorem allocS {t:Nat}{zs:List AV}(hz:zeroOf Tryz.prog t=some (.agg zs))(ht:t<deadTy)(h:zs≠[]∧zs.map AV.strip=zs)(s:Heap):aAlloc Tryz.prog t s=some (.ref s.length 0,s++[(t,zs)]):=allocG hz ht h s
theorem c105 (n:Nat){s:Heap}{F:Foot}{S M:Nat}{r:Int}{f:Inp}(h:IS s F S M r f)(k:K3) :
  ∃v' s',den C (n+3) 105 [.ref S 0,Kv k] s=some (.tup [.agg [v',.str (f k).t],I (f k).ch,I 0],s')∧NV s' v' (f k).xs∧Gr s s'∧v'.strip=v'∧NewR s v':=by
 obtain⟨b,c,hS⟩:=h.st
 obtain⟨l,hM,hl⟩:=h.mp
 obtain⟨s1,e1⟩:∃s1,s++[(82,[AV.nils,AV.str []])]=s1:=⟨_,rfl⟩
 have g1:Gr s s1:=e1▸Gr.app ..
 have hM1:s1[M]?=_:=g1.at hM
 have hS1:s1[S]?=_:=g1.at hS
 have l4:aLoad false false 1 (.ref S 4) s1=some (.mr M,s1):=ldv hS1 (by decide) rfl
 have hl1:InpR s1 F l f:=fun q=>(hl q).imp id fun⟨x,h1,v,e,h2,h3,h4,h5⟩=>⟨x,h1,v,e,h2.gr g1,h3,h4,h5⟩
 obtain⟨x,hx,v,rfl,hv,hs,hn,_⟩:=hl1.get hM1 k
 have bx3:∀s,aLoad false true 3 (.box [I k.1,I k.2.1,I k.2.2] 0) s=some (Kv k,s):=fun s=>boxG (n:=3) rfl false s
 obtain⟨s2,e2⟩:∃s2,s1++[(189,[v,AV.str (f k).t,I (f k).ch,I 0])]=s2:=⟨_,rfl⟩
 have g2:Gr s1 s2:=e2▸Gr.app ..
 have hst:aStore 4 (s1++[(189,[.nils,.str [],I 0,I 0])]) (.ref s1.length 0) (.agg [v,.str (f k).t,I (f k).ch,I 0])=some s2:=by
  rw[stW (n:=4) (cs:=[.nils,.str [],I 0,I 0]) gapp_new (by decide) rfl rfl (by show [v.strip,_,_,_]=_;rw[hs];rfl),set_end,e2]
 have at2:s2[s1.length]?=some (189,[v,AV.str (f k).t,I (f k).ch,I 0]):=by rw[←e2];exact gapp_new
 have ld0:aLoad false true 2 (.ref s1.length 0) s2=some (.agg [v,.str (f k).t],s2):=ldA (n:=2) at2 (by decide) (by simp) (by decide)
 obtain⟨w,s3,c1,c2,c3,c4,c5⟩:=c116 n (hv.gr g2) (f k).t
 have at3:=c3.at at2
 have ld2:aLoad false false 1 (.ref s1.length 2) s3=some (I (f k).ch,s3):=ldv at3 (by decide) rfl
 have ld3:aLoad false false 1 (.ref s1.length 3) s3=some (I 0,s3):=ldv at3 (by decide) rfl
 have kp:(kept s2 s3).contains s1.length=true:=kept_of (glt at2) (c3.get (glt at2))
 have hs0:s1[s.length]?=some (82,[AV.nils,AV.str []]):=by rw[←e1];exact gapp_new
 have at30:s3[s.length]?=some (82,[AV.nils,AV.str []]):=c3.at (g2.at hs0)
 obtain⟨s4,e4⟩:∃s4,s3.set s.length (82,[w,AV.str (f k).t])=s4:=⟨_,rfl⟩
 have st4:aStore 2 s3 (.ref s.length 0) (.agg [w,.str (f k).t])=some s4:=by
  rw[stW (n:=2) at30 (by decide) rfl rfl (by show [w.strip,_]=_;rw[c4];rfl),e4]
 have at4:s4[s.length]?=some (82,[w,AV.str (f k).t]):=by rw[←e4];exact gset_eq at30
 have hne:s1.length≠s.length:=by rw[←e1,app_length];omega
 obtain⟨g4,-,g4'⟩:=((show Gr (s++[(82,[AV.nils,AV.str []])]) s3 by rw[e1];exact g2.trans c3)).set (y:=(82,[w,AV.str (f k).t]))
 rw[e4]at g4 g4'
 have hbn:(s1.length != s.length)=true:=by simpa using hne
 rw[rd Tryz.func105];conv in compF _ _ _ _ _ _=>cbv
 simp only[strip_rs,strip_mr,strip_nilf,Bool.false_eq_true,if_false,↓kR,kE,kK,sL,C_P,Nat.reduceEqDiff,reduceIte,Tryz.f105,kStore_ref,hbn,allocS z82 (by decide) ⟨nofun,rfl⟩,e1,l4,bx3,hx,allocS z189 (by decide) ⟨nofun,rfl⟩,hst,ld0,cFs _ _ (by kernel_rfl:enterable Tryz.prog 116=true),c1,ld2,ld3,kp,st4,sL]
 rw[fkc3 ag82 sz82 (x:=.agg [w,.str (f k).t]) (ldA at4 (by decide) (by simp) (by decide))]
 refine⟨w,s4,rfl,c2.fr fun Q n' e=>g4' Q fun e'=>?_,g4,c4,fun Q n' e=>?_⟩
 ·obtain⟨cs,hc⟩:=c2.row e
  rw[e',at30]at hc
  cases hc
 ·have:=c5 Q n' e
  have:=g1.len
  have:=g2.len
  omega
end Srv
end

section
namespace Srv
open Go Go.Abs Go.Proofs
structure Upd (X:List Nat)(s s':Heap):Prop where
 len:s.length≤s'.length
 old:∀i,i<s.length→i∉X→s'[i]?=s[i]?
theorem Upd.refl (X:List Nat)(s:Heap):Upd X s s:=⟨Nat.le_refl _,fun _ _ _=>rfl⟩
theorem Upd.trans {X:List Nat}{a b c:Heap}(h:Upd X a b)(k:Upd X b c):Upd X a c :=
 ⟨Nat.le_trans h.len k.len,fun i hi hx=>(k.old i (Nat.lt_of_lt_of_le hi h.len) hx).trans (h.old i hi hx)⟩
theorem Gr.upd {a b:Heap}(h:Gr a b)(X:List Nat):Upd X a b:=⟨h.len,fun _ hi _=>h.get hi⟩
theorem Upd.set {X:List Nat}{s s':Heap}(h:Upd X s s'){i:Nat}(hi:i∈X∨s.length≤i)(v:TypeId×List AV):Upd X s (s'.set i v) :=
 ⟨by rw[set_length];exact h.len,fun j hj hx=>by
  have:i≠j:=by
   rcases hi with hi|hi
   ·exact fun e=>hx (e▸hi)
   ·omega
  rw[gset_ne this];exact h.old j hj hx⟩
theorem Upd.mono {X Y:List Nat}{s s':Heap}(h:Upd X s s')(k:∀i∈X,i∈Y):Upd Y s s':=⟨h.len,fun i hi hx=>h.old i hi fun hm=>hx (k i hm)⟩
theorem dec00:decide ((0:Int)<0)=false:=rfl
theorem dec30:decide ((3:Int)≤0)=false:=rfl
theorem aLoop_succ (F:(Env→Heap→Ans)→Env→Heap→Ans)(n:Nat)(e:Env)(s:Heap):aLoop F (n+1) e s=F (aLoop F n) e s:=rfl
theorem w01:IntKind.i64.wrap (0+1)=1:=rfl
theorem dec01:decide ((0:Int)<1)=true:=rfl
theorem dec11:decide ((1:Int)<1)=false:=rfl
theorem und146 (S:Nat):aIndexAddr Tryz.prog 146 (.ref S 1) (I 0)=some (.ref S 1):=by kernel_rfl
theorem b189 {s:Heap}{w:AV}{xs:List Int}(h:NV s w xs)(t:Bytes)(r:Int):aBuild Tryz.prog 189 [(0,.agg [w,.str t]),(1,I r),(2,I 0)]=some (.agg [w,.str t,I r,I 0]):=by
 cases h<;>kernel_rfl
def same1 (f:Inp)(k:K3)(xs:List Int)(t:Bytes):Bool:=(f k).t==t&&decide ((f k).xs=xs)
def setF (f:Inp)(k:K3)(xs:List Int)(t:Bytes)(r:Int):Inp:=if same1 f k xs t then f else fun q=>if k=q then⟨xs,t,r+1⟩ else f q
def setR (f:Inp)(k:K3)(xs:List Int)(t:Bytes)(r:Int):Int:=if same1 f k xs t then r else r+1
def FN (F:Foot)(s s':Heap):Foot:=fun i=>F i∨(s.length≤i∧i<s'.length)
theorem FN.sub {F:Foot}{s s':Heap}:∀i,F i→FN F s s' i:=fun i h=>.inl h
theorem FN.lt {F:Foot}{s s':Heap}(hF:∀i,F i→i<s.length)(hl:s.length≤s'.length):∀i,FN F s s' i→i<s'.length:=fun i h=>h.elim (fun h=>Nat.lt_of_lt_of_le (hF i h) hl) (·.2)
theorem InF.new {F:Foot}{s s':Heap}{v:AV}{xs:List Int}(h:NewR s v)(k:NV s' v xs):InF (FN F s s') v:=fun Q n e=>.inr ⟨h Q n e,by obtain⟨cs,hc⟩:=k.row e;exact glt hc⟩
set_option maxRecDepth 200000 in
theorem c113 (n:Nat){s:Heap}{F:Foot}{S M:Nat}{r:Int}{f:Inp}(h:IS s F S M r f)(hF:∀i,F i→i<s.length)(hr0:0≤r∧r<1000000000){v:AV}{xs:List Int}(hv:NV s v xs)(a b:Int)(t:Bytes)(hn:xs.length<2) :
  ∃bb s',den C (n+10) 113 [.ref S 0,Key 0 a b,.agg [v,.str t],I 0] s=some (.tup [.bool bb,I 0],s')∧IS s' (FN F s s') S M (setR f (0,a,b) xs t r) (setF f (0,a,b) xs t r)∧Upd [S,M] s s':=by
 obtain⟨x1,x2,hS⟩:=h.st
 obtain⟨l,hM,hl⟩:=h.mp
 have l4:aLoad false false 1 (.ref S 4) s=some (.mr M,s):=ldv hS (by decide) rfl
 obtain⟨x,hx,v0,rfl,hv0,hs0,hn0,hF0⟩:=hl.get hM (0,a,b)
 obtain⟨c0,hc0⟩:∃c0,f (0,a,b)=c0:=⟨_,rfl⟩
 rw[hc0]at hx hv0 hn0
 obtain⟨s1,e1⟩:∃s1,s++[(189,[v0,AV.str c0.t,I c0.ch,I 0])]=s1:=⟨_,rfl⟩
 have hst:aStore 4 (s++[(189,[.nils,.str [],I 0,I 0])]) (.ref s.length 0) (.agg [v0,.str c0.t,I c0.ch,I 0])=some s1:=by
  rw[stW (n:=4) (cs:=[.nils,.str [],I 0,I 0]) gapp_new (by decide) rfl rfl (by show [v0.strip,_,_,_]=_;rw[hs0];rfl),set_end,e1]
 have at1:s1[s.length]?=some (189,[v0,AV.str c0.t,I c0.ch,I 0]):=by rw[←e1];exact gapp_new
 have g1:Gr s s1:=by rw[←e1];exact Gr.app ..
 have ld3:aLoad false false 1 (.ref s.length 3) s1=some (I 0,s1):=ldv at1 (by decide) rfl
 have ld0:aLoad false true 2 (.ref s.length 0) s1=some (.agg [v0,.str c0.t],s1):=ldA (n:=2) at1 (by decide) (by simp) (by decide)
 have bx3:∀s,aLoad false true 3 (.box [I 0,I a,I b] 0) s=some (Key 0 a b,s):=fun s=>boxG (n:=3) rfl false s
 have bx2:∀s,aLoad false true 2 (.box [v,.str t] 0) s=some (.agg [v,.str t],s):=fun s=>boxG (n:=2) rfl false s
 rw[rd Tryz.func113];conv in compF _ _ _ _ _ _=>cbv
 simp only[strip_rs,strip_mr,strip_nilf,Bool.false_eq_true,if_false,↓kR,kE,kK,sL,C_P,Nat.reduceEqDiff,reduceIte,Tryz.f113,dec00,dec30,bne_self_eq_false,beq_self_eq_true,l4,bx3,bx2,hx,allocG z189 (by decide) ⟨nofun,rfl⟩,hst,ld3,ld0,a135 (n+7) (hv0.gr g1) (hv.gr g1) (by omega),sL]
 have hS1:s1[S]?=_:=g1.at hS
 have hM1:s1[M]?=_:=g1.at hM
 have hsm:same1 f (0,a,b) xs t=(c0.t==t&&decide (c0.xs=xs)):=by unfold same1;rw[hc0]
 unfold setF setR
 rw[hsm]
 cases hq:(c0.t==t&&decide (c0.xs=xs)) with
 | true =>
  simp only[sL]
  refine⟨false,s1,rfl,(h.keep (g1.keep hF)).sub FN.sub,g1.upd _⟩
 | false =>
  have lS:aLoad false false 1 (.ref S 0) s1=some (I r,s1):=ldv hS1 (by decide) rfl
  have hr:IntKind.i64.wrap (r+1)=r+1:=by rw[IntKind.wrap_i64];omega
  obtain⟨s2,e2⟩:∃s2,s1.set S (148,[I (r+1),I r,I x1,I x2,AV.mr M])=s2:=⟨_,rfl⟩
  have st2:aStore 1 s1 (.ref S 0) (I (r+1))=some s2:=by
   rw[st (n:=1) hS1 (by decide) rfl rfl (by simp),←e2];rfl
  have hlt:=glt hS
  have hne:S≠s.length:=by omega
  have hS2:s2[S]?=some (148,[I (r+1),I r,I x1,I x2,AV.mr M]):=by rw[←e2];exact gset_eq hS1
  have at2:s2[s.length]?=some (189,[v0,AV.str c0.t,I c0.ch,I 0]):=by rw[←e2,gset_ne hne];exact at1
  have ld3':aLoad false false 1 (.ref s.length 3) s2=some (I 0,s2):=ldv at2 (by decide) rfl
  have lS2:aLoad false false 1 (.ref S 0) s2=some (I (r+1),s2):=ldv hS2 (by decide) rfl
  obtain⟨s3,e3⟩:∃s3,s2.set S (148,[I (r+1),I (r+1),I x1,I x2,AV.mr M])=s3:=⟨_,rfl⟩
  have st3:aStore 1 s2 (.ref S 1) (I (r+1))=some s3:=by
   rw[st (n:=1) hS2 (by decide) rfl rfl (by simp),←e3];rfl
  have hS3:s3[S]?=some (148,[I (r+1),I (r+1),I x1,I x2,AV.mr M]):=by rw[←e3];exact gset_eq hS2
  have lM3:aLoad false false 1 (.ref S 4) s3=some (.mr M,s3):=ldv hS3 (by decide) rfl
  have old3:∀i,i≠S→s3[i]?=s1[i]?:=fun i hi=>by rw[←e3,gset_ne hi.symm,←e2,gset_ne hi.symm]
  have nrow:∀{Q:Nat} {w:AV} {n:Nat} {ys:List Int},NV s w ys→w=.rs 3 1 Q 0 n→Q≠S:=fun hw e e'=>by
   obtain⟨cs,hc⟩:=hw.row e
   rw[e',hS]at hc;cases hc
  have up3:Upd [S,M] s s3:=by
   rw[←e3,←e2]
   exact((g1.upd _).set (.inl (by simp)) _).set (.inl (by simp)) _
  simp only[sL,lS,hr,st2,ld3',ite_self,w01]
  have hv3:NV s3 v xs:=hv.fr fun Q n e=>by
   rw[old3 Q (nrow hv e)]
   obtain⟨cs,hc⟩:=hv.row e
   rw[g1.at hc,hc]
  obtain⟨w,s4,c1,c2,c3,c4,c5⟩:=c116 (n+7) hv3 t
  have hS4:s4[S]?=_:=c3.at hS3
  have lS4:aLoad false false 1 (.ref S 0) s4=some (I (r+1),s4):=ldv hS4 (by decide) rfl
  have kp:(kept s3 s4).contains S=true:=kept_of (glt hS3) (c3.get (glt hS3))
  have hM3:s3[M]?=some (mapTy,.undef::flat l):=by rw[old3 M h.ne.symm];exact hM1
  have hM4:s4[M]?=_:=c3.at hM3
  have m1:aMapSet Tryz.prog 145 (.mr M) (Key 0 a b) (.agg [w,.str t,I (r+1),I 0]) s4=some (s4.set M (mapTy,.undef::flat (mset l (0,a,b) (.agg [w,.str t,I (r+1),I 0])))):=mSet und145 hM4 (0,a,b) (by cases c2<;>rfl)
  rw[aLoop_succ]
  simp only[strip_rs,strip_mr,strip_nilf,Bool.false_eq_true,if_false,↓kR,kE,kK,sL,C_P,Nat.reduceEqDiff,reduceIte,dec01,lS2,und146,st3,w01,sL]
  rw[aLoop_succ]
  simp only[strip_rs,strip_mr,strip_nilf,Bool.false_eq_true,if_false,↓kR,kE,kK,sL,C_P,Nat.reduceEqDiff,reduceIte,dec11,lM3,bx3,bx2,cFs _ _ (by kernel_rfl:enterable Tryz.prog 116=true),c1,lS4,b189 c2,m1,kp,sL]
  obtain⟨s5,e5⟩:∃s5,s4.set M (mapTy,.undef::flat (mset l (0,a,b) (.agg [w,.str t,I (r+1),I 0])))=s5:=⟨_,rfl⟩
  rw[e5]
  have hM5:s5[M]?=some (mapTy,.undef::flat (mset l (0,a,b) (.agg [w,.str t,I (r+1),I 0]))):=e5▸gset_eq hM4
  have up5:Upd [S,M] s s5:=by rw[←e5];exact(up3.trans (c3.upd _)).set (.inl (by simp)) _
  have kr:∀{u:AV} {ys:List Int},NV s u ys→InF F u→NV s5 u ys:=fun {u ys} hu hi=>hu.fr fun Q n e=>by
   obtain⟨cs,hc⟩:=hu.row e
   refine up5.old Q (glt hc) ?_
   simp only[List.mem_cons,List.not_mem_nil,or_false,not_or]
   exact⟨nrow hu e,fun e'=>by rw[e',hM]at hc;cases hc⟩
  refine⟨true,s5,rfl,⟨h.ne,.inl h.FSS,.inl h.FM,⟨x1,x2,by rw[←e5,gset_ne h.ne.symm];exact hS4⟩,_,hM5,fun q=>?_⟩,up5⟩
  rw[mlook_mset]
  simp only[Bool.false_eq_true,if_false]
  by_cases hk:(0,a,b)=q
  ·rw[if_pos hk,if_pos hk]
   refine .inr ⟨_,rfl,w,rfl,c2.fr fun Q n e=>?_,c4,hn,fun Q n e=>.inr ⟨?_,?_⟩⟩
   ·obtain⟨cs,hc⟩:=c2.row e
    rw[←e5,gset_ne (fun e'=>by rw[←e',hM4]at hc;cases hc)]
   ·have:=c5 Q n e
    have:=up3.len
    omega
   ·obtain⟨cs,hc⟩:=c2.row e
    rw[←e5,set_length];exact glt hc
  ·rw[if_neg hk,if_neg hk]
   rcases hl q with ⟨h1,h2⟩|⟨y,h1,u,h2,h3,h4,h5,h6⟩
   ·exact .inl ⟨h1,h2⟩
   ·exact .inr ⟨y,h1,u,h2,kr h3 h6,h4,h5,h6.sub FN.sub⟩
theorem c101 (n:Nat){s:Heap}{F:Foot}{S M D:Nat}{r:Int}{f:Inp}{o:List AV}{g:AV}(h:IS s F S M r f)(hF:∀i,F i→i<s.length)(hr0:0≤r∧r<1000000000)(hD:s[D]?=some (121,g::.ref S 0::o)){v:AV}{xs:List Int}(hv:NV s v xs)(a b:Int)(t:Bytes)(hn:xs.length<2) :
  ∃s',den C (n+11) 101 [.ref D 0,Key 0 a b,.agg [v,.str t],I 0] s=some (I 0,s')∧IS s' (FN F s s') S M (setR f (0,a,b) xs t r) (setF f (0,a,b) xs t r)∧Upd [S,M] s s':=by
 obtain⟨bb,s',h1,h2,h3⟩:=c113 n h hF hr0 hv a b t hn
 have l1:aLoad false false 1 (.ref D 1) s=some (.ref S 0,s):=ldv hD (by decide) rfl
 have bx3:∀s,aLoad false true 3 (.box [I 0,I a,I b] 0) s=some (Key 0 a b,s):=fun s=>boxG (n:=3) rfl false s
 have bx2:∀s,aLoad false true 2 (.box [v,.str t] 0) s=some (.agg [v,.str t],s):=fun s=>boxG (n:=2) rfl false s
 have cl:aCall Tryz.prog (den C (n+10)) 113 [.ref S 0,Key 0 a b,.agg [v,.str t],I 0] s=some (.tup [.bool bb,I 0],s'):=by
  rw[aCall,if_pos (by kernel_rfl),if_neg (by simp[noRefL_cons,AV.noRef])]
  exact h1
 rw[rd Tryz.func101];conv in compF _ _ _ _ _ _=>cbv
 simp only[strip_rs,strip_mr,strip_nilf,Bool.false_eq_true,if_false,↓kR,kE,kK,sL,C_P,Nat.reduceEqDiff,reduceIte,Tryz.f101,l1,bx3,bx2,cl,sL]
 exact⟨s',rfl,h2,h3⟩
end Srv
end

section
namespace Srv
open Go Go.Abs Go.Proofs
theorem cells_agg' (es:List (List AV)):cellsOf (es.map AV.agg)=es.flatten:=by
 induction es with
 | nil=>rfl
 | cons e es ih=>show e++cellsOf (es.map AV.agg)=_;rw[ih];rfl
def Els (z:Nat)(es:List (List AV)):Prop:=(∀e∈es,e.length=z∧e.map AV.strip=e)∧es.length<1000000
theorem Els.len {z:Nat}{es:List (List AV)}(h:Els z es):es.flatten.length=es.length*z:=by
 obtain⟨h,hl⟩:=h
 clear hl
 induction es with
 | nil=>simp
 | cons e es ih =>
  rw[List.flatten_cons,List.length_append,ih (fun x hx=>h x (by simp[hx])),(h e (by simp)).1,List.length_cons,Nat.add_mul]
  omega
theorem Els.strip {z:Nat}{es:List (List AV)}(h:Els z es):es.flatten.map AV.strip=es.flatten:=by
 obtain⟨h,hl⟩:=h
 clear hl
 induction es with
 | nil=>rfl
 | cons e es ih=>rw[List.flatten_cons,List.map_append,ih (fun x hx=>h x (by simp[hx])),(h e (by simp)).2]
theorem Els.get {z:Nat}{es:List (List AV)}(h:Els z es){i:Nat}(hi:i<es.length):(es.flatten.drop (i*z)).take z=es[i]:=by
 obtain⟨h,hl⟩:=h
 clear hl
 induction es generalizing i with
 | nil=>cases hi
 | cons e es ih =>
  have he:=(h e (by simp)).1
  cases i with
  | zero=>simp[←he]
  | succ i =>
   rw[List.flatten_cons,show (i+1)*z=e.length+i*z by rw[he,Nat.add_mul];omega,List.drop_append,List.drop_of_length_le (by omega),show e.length+i*z-e.length=i*z by omega]
   simpa using ih (i:=i) (by simpa using hi) (fun x hx=>h x (by simp[hx]))
inductive SL (ty z:Nat)(s:Heap):AV→List (List AV)→Prop
 | nil:SL ty z s .nils []
 | sl (es:List (List AV)) (f:Flag) (h:Els z es):SL ty z s (.sl ty z (es.map .agg) f) es
 | rs (Q off:Nat) (pre junk:List AV) (es:List (List AV)) (h:Els z es) (hQ:s[Q]?=some (ty,pre++(es.flatten++junk))) (hp:pre.length=off) (hn:0<(pre++(es.flatten++junk)).length):SL ty z s (.rs ty z Q off es.length) es
section
variable {ty z:Nat}{s s':Heap}{v:AV}{es:List (List AV)}
theorem SL.els (h:SL ty z s v es):Els z es:=by
 cases h with
 | nil=>exact⟨nofun,by decide⟩
 | sl _ f h=>exact h
 | rs Q off pre junk _ h hQ hp hn=>exact h
theorem SL.strip (h:SL ty z s v es):SL ty z s v.strip es:=by
 cases h with
 | nil=>exact .nil
 | sl _ f h=>cases f<;>exact .sl _ _ h
 | rs Q off pre junk _ h hQ hp hn=>exact .rs Q off pre junk _ h hQ hp hn
def InR (F:Foot)(v:AV):Prop:=∀ty z Q off n,v=.rs ty z Q off n→F Q
theorem SL.fr (h:SL ty z s v es)(g:∀Q off n,v=.rs ty z Q off n→s'[Q]?=s[Q]?):SL ty z s' v es:=by
 cases h with
 | nil=>exact .nil
 | sl _ f h=>exact .sl _ _ h
 | rs Q off pre junk _ h hQ hp hn=>exact .rs Q off pre junk _ h ((g Q off _ rfl).trans hQ) hp hn
theorem SL.gr (h:SL ty z s v es)(g:Gr s s'):SL ty z s' v es:=by
 cases h with
 | nil=>exact .nil
 | sl _ f h=>exact .sl _ _ h
 | rs Q off pre junk _ h hQ hp hn=>exact .rs Q off pre junk _ h (g.at hQ) hp hn
theorem SL.row (h:SL ty z s v es){Q off n:Nat}(e:v=.rs ty z Q off n):∃cs,s[Q]?=some (ty,cs):=by
 cases h with
 | nil=>cases e
 | sl _ f h=>cases e
 | rs Q off pre junk _ h hQ hp hn=>cases e;exact⟨_,hQ⟩
theorem SL.keep {F:Foot}(h:SL ty z s v es)(hF:InR F v)(k:Keep F s s'):SL ty z s' v es:=h.fr fun Q off n e=>k Q (hF _ _ Q off n e)
variable {t:TypeId}(hu:Tryz.prog.underlying t=some (.slice ty))
include hu
theorem SL.len (h:SL ty z s v es):aLen Tryz.prog t v=some (I es.length):=by
 cases h with
 | nil=>simp[aLen,hu]
 | sl _ f h=>simp[aLen,hu]
 | rs Q off pre junk _ h hQ hp hn=>simp[aLen,hu]
theorem SL.at (hz:szOf Tryz.prog ty=some z)(hz0:z≠0)(ht:ty<deadTy)(h:SL ty z s v es){i:Nat}(hi:i<es.length):∃p,aIndexAddr Tryz.prog t v (I i)=some p∧aLoad false true z p s=some (.agg es[i],s)∧Rd p∧∀k a,es[i][k]?=some a→∃q,aAddr k p=some q∧aLoad false false 1 q s=some (a,s)∧Rd q:=by
 cases h with
 | nil=>cases hi
 | sl _ f h =>
  obtain⟨he,hs⟩:=h.1 es[i] (List.getElem_mem hi)
  refine⟨.box es[i] 0,?_,boxG he false s,.inl ⟨_,_,rfl⟩,fun k a hk=>⟨.box es[i] (0+k),rfl,?_,.inl ⟨_,_,rfl⟩⟩⟩
  ·have:(es.map AV.agg)[i]?=some (.agg es[i]):=by rw[List.getElem?_map,List.getElem?_eq_getElem hi];rfl
   simp[aIndexAddr,hu,hz,this,AV.cells]
  ·have ha:a.strip=a:=by
    have h1:(es[i].map AV.strip)[k]?=some a.strip:=by rw[List.getElem?_map,hk];rfl
    rw[hs,hk]at h1;exact(Option.some.inj h1).symm
   rw[Nat.zero_add,aLoad_one,hk,Option.map_some,ha]
 | rs Q off pre junk _ h hQ hp hn =>
  obtain⟨he,hs⟩:=h.1 es[i] (List.getElem_mem hi)
  have hl:=h.len
  have hiz:i*z+z≤es.length*z:=by
   have:=Nat.mul_le_mul_right z (show i+1≤es.length from hi)
   rw[Nat.add_mul,Nat.one_mul]at this;exact this
  have hlt:(i:Int)<es.length:=by omega
  have hcell:∀k a,es[i][k]?=some a→(pre++(es.flatten++junk))[off+i*z+k]?=some a:=fun k a hk=>by
   have hkz:k<z:=by rw[←he];exact(List.getElem?_eq_some_iff.1 hk).1
   rw[List.getElem?_append_right (by omega),show off+i*z+k-pre.length=i*z+k by omega,List.getElem?_append_left (by omega)]
   rw[←h.get hi,List.getElem?_take_of_lt hkz,List.getElem?_drop]at hk
   exact hk
  refine⟨.ref Q (off+i*z),by simp[aIndexAddr,hu,hz,hlt],?_,.inr ⟨_,_,rfl⟩,fun k a hk=>⟨.ref Q (off+i*z+k),rfl,?_,.inr ⟨_,_,rfl⟩⟩⟩
  ·rw[ldA (n:=z) hQ ht (by simp only[List.length_append];omega) hz0]
   congr 3
   apply List.ext_getElem?
   intro k
   by_cases hk:k<z
   ·rw[List.getElem?_take_of_lt hk,List.getElem?_drop]
    rw[hcell k es[i][k] (List.getElem?_eq_getElem (by omega)),List.getElem?_eq_getElem (by omega)]
   ·rw[List.getElem?_eq_none (by simp;omega),List.getElem?_eq_none (by omega)]
  ·have ha:a.strip=a:=by
    have h1:(es[i].map AV.strip)[k]?=some a.strip:=by rw[List.getElem?_map,hk];rfl
    rw[hs,hk]at h1;exact(Option.some.inj h1).symm
   exact ldv hQ ht (hcell k a hk) ha
end
theorem SL.src {ty z:Nat}(hz0:z≠0)(ht:ty<deadTy){s:Heap}{v:AV}{es:List (List AV)}(h:SL ty z s v es):∃ys,srcH z v s=some ys∧ys.length=es.length∧(cellsOf ys).map AV.strip=es.flatten:=by
 cases h with
 | nil=>exact⟨[],rfl,rfl,rfl⟩
 | sl _ f h =>
  refine⟨_,(show srcOf z (.sl ty z (es.map .agg) f)=some (es.map .agg) by simp[srcOf]),by simp,?_⟩
  rw[cells_agg',h.strip]
 | rs Q off pre junk _ h hQ hp hn =>
  have hl:=h.len
  have hle:off+es.length*z≤(pre++(es.flatten++junk)).length:=by simp only[List.length_append];omega
  have hne:pre++(es.flatten++junk)≠[]:=by intro e;rw[e]at hn;simp at hn
  refine⟨chunkH z es.length ((pre++(es.flatten++junk)).drop off),?_,chunkH_length ..,?_⟩
  ·unfold srcH
   simp only[hQ,true_and]
   by_cases h0:off=0
   ·subst h0
    rw[if_pos rfl,if_pos ⟨ht,by omega,hne⟩,List.drop_zero]
   ·rw[if_neg h0,if_pos trivial,if_pos ⟨ht,hle,hne⟩]
  ·rw[(chunkH_cells z es.length _ (by simp only[List.length_drop];omega)).1,List.drop_left' hp,List.take_left' hl,h.strip]
def rowOf:AV→Option Nat
 | .rs _ _ Q _ _=>some Q
 | _=>none
theorem SL.app' {ty z t:Nat}(hu:Tryz.prog.underlying t=some (.slice ty))(hi:Info ty z)(hz0:z≠0)(ht:ty<deadTy)(hh:ty≠headTy){s:Heap}{v w:AV}{es es2:List (List AV)}(h:SL ty z s v es)(hf:∀es' f,v=.sl ty z es' f→es'=[]∧f=.full){ys:List AV}(y1:srcH z w s=some ys)(y2:ys.length=es2.length)(y3:(cellsOf ys).map AV.strip=es2.flatten)(ke:Els z es2)(hn:es.length+es2.length<1000000)(hne:es2≠[]∨∀Q off n,v≠.rs ty z Q off n) :
  ∃v' s',aRsAppend Tryz.prog t t v w s=some (v',s')∧SL ty z s' v' (es++es2)∧v'.strip=v'∧(∀es' f,v'=.sl ty z es' f→es'=[]∧f=.full)∧s.length≤s'.length∧(∀i,i<s.length→rowOf v≠some i→s'[i]?=s[i]?)∧(∀Q,rowOf v'=some Q→s.length≤Q)∧(es2≠[]→v'=.rs ty z s.length 0 (es.length+es2.length)):=by
 have hE:Els z (es++es2):=⟨fun e he=>(List.mem_append.1 he).elim (h.els.1 e) (ke.1 e),by simp only[List.length_append];exact hn⟩
 by_cases h2:es2=[]
 ·subst h2
  have hy:ys=[]:=List.length_eq_zero_iff.1 y2
  have hv:v=.nils∨v=.sl ty z [] .full:=by
   cases h with
   | nil=>exact .inl rfl
   | sl es' f h=>obtain⟨e1,e2⟩:=hf _ _ rfl;rw[e1,e2];exact .inr rfl
   | rs Q off pre junk _ h hQ hp hn=>exact absurd rfl (hne.elim (fun h=>absurd rfl h) (fun h=>h) Q off _)
  have a1:=(apS (x:=v) hu hu hi hz0 ht hv y1 (by rw[hy];decide)).1 hy
  refine⟨v,s,a1,by rw[List.append_nil];exact h,?_,hf,Nat.le_refl _,fun _ _ _=>rfl,fun Q e=>?_,fun e=>absurd rfl e⟩
  ·rcases hv with rfl|rfl<;>rfl
  ·rcases hv with rfl|rfl<;>cases e
 ·have hy:ys≠[]:=fun e=>h2 (List.length_eq_zero_iff.1 (by rw[←y2,e];rfl))
  have hpos:0<es2.length:=List.length_pos_iff.2 h2
  have fin:∀(s1:Heap),s1.length=s.length→(∀i,i<s.length→rowOf v≠some i→s1[i]?=s[i]?)→aRsAppend Tryz.prog t t v w s=some (.rs ty z s.length 0 (es.length+es2.length),s1++[(ty,es.flatten++es2.flatten)]) →
    ∃v' s',aRsAppend Tryz.prog t t v w s=some (v',s')∧SL ty z s' v' (es++es2)∧v'.strip=v'∧(∀es' f,v'=.sl ty z es' f→es'=[]∧f=.full)∧s.length≤s'.length∧(∀i,i<s.length→rowOf v≠some i→s'[i]?=s[i]?)∧(∀Q,rowOf v'=some Q→s.length≤Q)∧(es2≠[]→v'=.rs ty z s.length 0 (es.length+es2.length)):=by
   intro s1 hl ho ha
   refine⟨_,_,ha,?_,rfl,nofun,by rw[app_length];omega,fun i hi hr=>?_,fun Q e=>?_,fun _=>rfl⟩
   ·have:=SL.rs (ty:=ty) (s:=s1++[(ty,es.flatten++es2.flatten)]) s.length 0 [] [] (es++es2) hE (by rw[←hl,gapp_new];simp) rfl (by
     rw[List.nil_append,List.append_nil,hE.len,List.length_append]
     exact Nat.mul_pos (by omega) (Nat.pos_of_ne_zero hz0))
    rwa [List.length_append]at this
   ·rw[gapp_old (by omega)];exact ho i hi hr
   ·cases e;exact Nat.le_refl _
  have hnil:v=.nils∨v=.sl ty z [] .full→es=[]→aRsAppend Tryz.prog t t v w s=some (.rs ty z s.length 0 (es.length+es2.length),s++[(ty,es.flatten++es2.flatten)]):=fun hv he=>by
   have a2:=(apS (x:=v) hu hu hi hz0 ht hv y1 (by rw[y2];omega)).2 hy
   rw[a2,y2,y3,he]
   simp
  cases h with
  | nil=>exact fin s rfl (fun _ _ _=>rfl) (hnil (.inl rfl) rfl)
  | sl es' f h =>
   obtain⟨e1,e2⟩:=hf _ _ rfl
   have:es=[]:=by simpa using e1
   subst this
   subst e2
   exact fin s rfl (fun _ _ _=>rfl) (hnil (.inr rfl) rfl)
  | rs Q off pre junk _ h hQ hp hn' =>
   obtain⟨i,zz,i1,i2,i3,i4,i5⟩:=hi
   have hl:=h.len
   have hb:bound i (es.length+ys.length):=bound_of (by
    have:(2*(es.length+ys.length)+768)*i.bytes≤(2*(es.length+ys.length)+768)*200:=Nat.mul_le_mul_left _ i5
    omega) (by omega)
   have hne':pre++(es.flatten++junk)≠[]:=by intro e;rw[e]at hn';simp at hn'
   have hle:off+es.length*z≤(pre++(es.flatten++junk)).length:=by simp only[List.length_append];omega
   have h6:¬deadTy≤ty:=Nat.not_le.2 ht
   have key:aRsAppend Tryz.prog t t (.rs ty z Q off es.length) w s=some (.rs ty z s.length 0 (es.length+ys.length),kill s Q++[(ty,es.flatten++(cellsOf ys).map AV.strip)]):=by
    subst i2
    unfold aRsAppend
    rw[hu]
    simp only[i1,y1,i3,i4,h6,hz0,ne_eq,not_true_eq_false,or_self,if_false]
    by_cases h0:off=0
    ·subst h0
     have hpre:pre=[]:=List.length_eq_zero_iff.1 hp
     subst hpre
     rw[if_pos ⟨rfl,trivial,by omega,hb⟩,hQ]
     simp only
     rw[if_pos ⟨trivial,by omega,hne'⟩,List.nil_append,List.take_left' hl]
    ·rw[if_neg (fun e=>h0 e.1),if_pos ⟨⟨h0,hh⟩,trivial,by omega,hb⟩,hQ]
     simp only
     rw[if_pos ⟨trivial,hle,hne'⟩,List.drop_left' hp,List.take_left' hl,h.strip]
   rw[y2,y3]at key
   exact fin (kill s Q) List.length_set (fun j hj hr=>by rw[kill_get,if_neg (fun e=>hr (by rw[e];rfl))]) key
theorem SL.app {ty z t:Nat}(hu:Tryz.prog.underlying t=some (.slice ty))(hi:Info ty z)(hz0:z≠0)(ht:ty<deadTy)(hh:ty≠headTy){s:Heap}{v w:AV}{es es2:List (List AV)}(h:SL ty z s v es)(hf:∀es' f,v=.sl ty z es' f→es'=[]∧f=.full)(k:SL ty z s w es2)(hn:es.length+es2.length<1000000)(hne:es2≠[]∨∀Q off n,v≠.rs ty z Q off n) :
  ∃v' s',aRsAppend Tryz.prog t t v w s=some (v',s')∧SL ty z s' v' (es++es2)∧v'.strip=v'∧(∀es' f,v'=.sl ty z es' f→es'=[]∧f=.full)∧s.length≤s'.length∧(∀i,i<s.length→rowOf v≠some i→s'[i]?=s[i]?)∧(∀Q,rowOf v'=some Q→s.length≤Q)∧(es2≠[]→v'=.rs ty z s.length 0 (es.length+es2.length)):=by
 obtain⟨ys,y1,y2,y3⟩:=k.src hz0 ht
 exact SL.app' hu hi hz0 ht hh h hf y1 y2 y3 k.els hn hne
end Srv
end

section
namespace Srv
open Go Go.Abs Go.Proofs
theorem und139:Tryz.prog.underlying 139=some (.slice 79):=by kernel_rfl
theorem sz79:szOf Tryz.prog 79=some 3:=by kernel_rfl
theorem info79:Info 79 3:=infoG (by kernel_rfl)
abbrev keyC (k:K3):List AV:=[I k.1,I k.2.1,I k.2.2]
theorem eqK (k k':K3):aBin Tryz.prog .eql 79 (.agg (keyC k)) (.agg (keyC k'))=some (.bool (decide (k=k'))):=by
 have:aBin Tryz.prog .eql 79 (.agg (keyC k)) (.agg (keyC k'))=(aEq Tryz.prog 6 79 (Kv k) (Kv k')).map .bool:=by
  simp[aBin,eqOp]
 rw[this,eq79];rfl
theorem Rd.strip {p:AV}(h:Rd p):p.strip=p:=by
 rcases h with ⟨_,_,rfl⟩|⟨_,_,rfl⟩<;>rfl
theorem rd_silent {p:AV}(h:Rd p):compat (kLoad false p) .silent=true:=cp_s2 _
theorem rd_rs {p q:AV}(h:Rd p)(k:Rd q):compat (kLoad false p) (kLoad false q)=true:=rd_compat h k
def kix (ds:List K3)(k:K3):Int:=if k∈ds then(ds.idxOf k:Int) else -1
theorem kix_at {ds:List K3}{k:K3}{i:Nat}(hi:i<ds.length)(ht:k∉ds.take i)(hx:k=ds[i]):kix ds k=i:=by
 have hm:k∈ds:=by rw[hx];exact List.getElem_mem hi
 unfold kix
 rw[if_pos hm]
 have e:ds=ds.take i++ds[i]::ds.drop (i+1):=by rw[List.getElem_cons_drop,List.take_append_drop]
 have:ds.idxOf k=i:=by
  conv=>lhs;rw[e,List.idxOf_append,if_neg ht,hx,List.idxOf_cons_self,List.length_take]
  omega
 rw[this]
theorem kix_no {ds:List K3}{k:K3}(h:k∉ds):kix ds k=-1:=if_neg h
theorem kix_mem (ds:List K3)(k:K3):decide (kix ds k ≥ 0)=decide (k∈ds):=by
 unfold kix
 split
 ·rename_i h;rw[decide_eq_true h,decide_eq_true (by omega)]
 ·rename_i h;rw[decide_eq_false h];rfl
theorem bxk (k:K3)(s:Heap):aLoad false true 3 (.box [I k.1,I k.2.1,I k.2.2] 0) s=some (Kv k,s):=boxG (n:=3) rfl false s
theorem c159 (n:Nat){s:Heap}{v:AV}{ds:List K3}(h:SL 79 3 s v (ds.map keyC))(k:K3)(hn:ds.length<n):den C (n+1) 159 [v,Kv k] s=some (I (kix ds k),s):=by
 have bx3:=bxk k
 have hs:=h.strip
 have hlen:aLen Tryz.prog 139 v.strip=some (I ds.length):=by have:=hs.len und139;rwa [List.length_map]at this
 have hb:=h.els.2
 rw[List.length_map]at hb
 rw[rd Tryz.func159];conv in compF _ _ _ _ _ _=>cbv
 simp only[strip_rs,strip_mr,strip_nilf,Bool.false_eq_true,if_false,↓kR,kE,kK,sL,C_P,Nat.reduceEqDiff,reduceIte,Tryz.f159,hlen,sL]
 refine loopI (R:=fun a=>a=some (I (kix ds k),s)) (fun i e s1=>s1=s∧e 0=v∧e 3=.box [I k.1,I k.2.1,I k.2.2] 0∧e 7=I ds.length∧e 8=I i∧k∉ds.take i) ds.length ?_ ?_ ds.length 0 (by omega) n hn _ _ ⟨rfl,rfl,rfl,rfl,rfl,by simp⟩
 ·rintro i e _ q hi ⟨rfl,e0,e3,e7,e8,ht⟩ hk
  have hi':i<(ds.map keyC).length:=by rw[List.length_map];exact hi
  obtain⟨p,p1,p2,p3,_⟩:=hs.at und139 sz79 (by decide) (by decide) hi'
  rw[List.getElem_map]at p2
  have hlt:decide (i<ds.length)=true:=decide_eq_true hi
  simp only[strip_rs,strip_mr,strip_nilf,Bool.false_eq_true,if_false,↓kR,kE,kK,sL,C_P,Nat.reduceEqDiff,reduceIte,e0,e3,e7,e8,hlt,bx3,p1,p2,eqK,rd_compat (.inl ⟨_,_,rfl⟩) p3,sL]
  by_cases hx:k=ds[i]
  ·rw[decide_eq_true hx]
   simp only[sL]
   rw[kix_at hi ht hx]
  ·rw[decide_eq_false hx]
   simp only[sL]
   rw[wrap64 (by omega) (by omega)]
   refine hk _ _ ⟨rfl,e0,e3,e7,iS i,?_⟩
   rw[List.take_succ,List.getElem?_eq_getElem hi]
   simp only[Option.toList_some,List.mem_append,List.mem_singleton,not_or]
   exact⟨ht,hx⟩
 ·rintro e _ q ⟨rfl,e0,e3,e7,e8,ht⟩
  have hlt:decide (ds.length<ds.length)=false:=decide_eq_false (by omega)
  simp only[strip_rs,strip_mr,strip_nilf,Bool.false_eq_true,if_false,↓kR,kE,kK,sL,C_P,Nat.reduceEqDiff,reduceIte,e7,e8,hlt,sL]
  rw[List.take_length]at ht
  rw[kix_no ht]
theorem a159 (n:Nat){s:Heap}{v:AV}{ds:List K3}(h:SL 79 3 s v (ds.map keyC))(k:K3)(hn:ds.length<n):aCall Tryz.prog (den C (n+1)) 159 [v,Kv k] s=some (I (kix ds k),s):=by
 refine aC (by kernel_rfl) rfl (fun e=>⟨[],?_⟩) fun _=>c159 n h k hn
 exact c159 n (h.fr fun Q off m e'=>by rw[e']at e;cases e) k hn
theorem c141 (n:Nat){s:Heap}{v:AV}{ds:List K3}(h:SL 79 3 s v (ds.map keyC))(k:K3)(hn:ds.length<n):den C (n+2) 141 [v,Kv k] s=some (.bool (decide (k∈ds)),s):=by
 rw[rd Tryz.func141];conv in compF _ _ _ _ _ _=>cbv
 simp only[strip_rs,strip_mr,strip_nilf,Bool.false_eq_true,if_false,↓kR,kE,kK,sL,C_P,Nat.reduceEqDiff,reduceIte,Tryz.f141,bxk,a159 n h.strip.strip k hn,sL]
 rw[kix_mem]
theorem a141 (n:Nat){s:Heap}{v:AV}{ds:List K3}(h:SL 79 3 s v (ds.map keyC))(k:K3)(hn:ds.length<n):aCall Tryz.prog (den C (n+2)) 141 [v,Kv k] s=some (.bool (decide (k∈ds)),s):=by
 refine aC (by kernel_rfl) rfl (fun e=>⟨[],?_⟩) fun _=>c141 n h k hn
 exact c141 n (h.fr fun Q off m e'=>by rw[e']at e;cases e) k hn
end Srv
end

section
namespace Srv
open Go Go.Abs Go.Proofs
structure Bel (b:Nat)(s s':Heap):Prop where
 len:s.length≤s'.length
 old:∀i,i<b→s'[i]?=s[i]?
theorem Bel.refl (b:Nat)(s:Heap):Bel b s s:=⟨Nat.le_refl _,fun _ _=>rfl⟩
theorem Bel.trans {b:Nat}{x y z:Heap}(h:Bel b x y)(k:Bel b y z):Bel b x z:=⟨Nat.le_trans h.len k.len,fun i hi=>(k.old i hi).trans (h.old i hi)⟩
theorem Bel.mono {b b':Nat}{x y:Heap}(h:Bel b x y)(k:b'≤b):Bel b' x y:=⟨h.len,fun i hi=>h.old i (Nat.lt_of_lt_of_le hi k)⟩
theorem Gr.bel {x y:Heap}(h:Gr x y){b:Nat}(hb:b≤x.length):Bel b x y:=⟨h.len,fun i hi=>h.get (Nat.lt_of_lt_of_le hi hb)⟩
theorem Bel.set {b:Nat}{x y:Heap}(h:Bel b x y){i:Nat}(hi:b≤i)(v:TypeId×List AV):Bel b x (y.set i v):=⟨by rw[set_length];exact h.len,fun j hj=>by rw[gset_ne (by omega)];exact h.old j hj⟩
theorem Bel.keep {b:Nat}{x y:Heap}(h:Bel b x y){F:Foot}(hF:∀i,F i→i<b):Keep F x y:=fun i hi=>h.old i (hF i hi)
theorem Bel.at {b:Nat}{x y:Heap}(h:Bel b x y){i:Nat}(hi:i<b){v:TypeId×List AV}(hx:x[i]?=some v):y[i]?=some v:=(h.old i hi).trans hx
structure Ok (R:Nat)(s s':Heap):Prop where
 len:s.length≤s'.length
 old:∀i t cs,s[i]?=some (t,cs)→t≠79→i≠R→s'[i]?=some (t,cs)
theorem Ok.refl (R:Nat)(s:Heap):Ok R s s:=⟨Nat.le_refl _,fun _ _ _ h _ _=>h⟩
theorem Ok.trans {R:Nat}{x y z:Heap}(h:Ok R x y)(k:Ok R y z):Ok R x z:=⟨Nat.le_trans h.len k.len,fun i t cs hi ht hr=>k.old i t cs (h.old i t cs hi ht hr) ht hr⟩
theorem Gr.ok {x y:Heap}(h:Gr x y)(R:Nat):Ok R x y:=⟨h.len,fun i t cs hi _ _=>h.at hi⟩
theorem Ok.set {R:Nat}{x y:Heap}(h:Ok R x y){i:Nat}(hi:x.length≤i∨i=R)(v:TypeId×List AV):Ok R x (y.set i v):=⟨by rw[set_length];exact h.len,fun j t cs hj ht hr=>by
 have:=glt hj
 rw[gset_ne (by rcases hi with hi|rfl<;>first|omega|exact fun e=>hr e.symm)]
 exact h.old j t cs hj ht hr⟩
def insK3 (ds:List K3)(k:K3):List K3:=if k∈ds then ds else ds++[k]
def DV (b R Wr Wd:Nat)(s:Heap)(dv:AV)(ds:List K3):Prop:=SL 79 3 s dv (ds.map keyC)∧(dv=.nils∨∃Q n,dv=.rs 79 3 Q 0 n∧b≤Q∧Q≠R∧Q≠Wr∧Q≠Wd)
structure CS (b:Nat)(s:Heap)(F:Foot)(S M D:Nat)(r:Int)(f:Inp)(g:AV)(o:List AV)(Wd Wr R:Nat)(ver chg:Int)(ds:List K3):Prop where
 inp:IS s F S M r f
 hF:∀i,F i→i<b
 hD:D<b
 hb:b≤s.length
 db:s[D]?=some (121,g::.ref S 0::o)
 wd:s[Wd]?=some (76,[.ref D 0])
 wr:s[Wr]?=some (161,[.ref R 0])
 bd:b≤Wd
 br:b≤Wr
 bR:b≤R
 ne1:Wr≠R
 ne2:Wd≠R
 ne3:Wd≠Wr
 res:∃dur dv,s[R]?=some (163,[.nils,.str [],I ver,I chg,I dur,dv,I 0])∧(dur=0∨dur=2)∧DV b R Wr Wd s dv ds
theorem DV.strip {b R Wr Wd:Nat}{s:Heap}{dv:AV}{ds:List K3}(h:DV b R Wr Wd s dv ds):dv.strip=dv:=by
 rcases h.2 with rfl|⟨Q,n,rfl,_⟩<;>rfl
theorem CS.gr {b:Nat}{s s':Heap}{F:Foot}{S M D:Nat}{r:Int}{f:Inp}{g:AV}{o:List AV}{Wd Wr R:Nat}{ver chg:Int}{ds:List K3}(h:CS b s F S M D r f g o Wd Wr R ver chg ds)(k:Gr s s'):CS b s' F S M D r f g o Wd Wr R ver chg ds:=by
 obtain⟨dur,dv,h1,h2,h3⟩:=h.res
 exact⟨h.inp.keep ((k.bel h.hb).keep h.hF),h.hF,h.hD,Nat.le_trans h.hb k.len,k.at h.db,k.at h.wd,k.at h.wr,h.bd,h.br,h.bR,h.ne1,h.ne2,h.ne3,dur,dv,k.at h1,h2,h3.1.gr k,h3.2⟩
theorem CS.put {b:Nat}{s s':Heap}{F:Foot}{S M D:Nat}{r:Int}{f:Inp}{g:AV}{o:List AV}{Wd Wr R:Nat}{ver chg:Int}{ds ds':List K3}(h:CS b s F S M D r f g o Wd Wr R ver chg ds)(hl:s.length≤s'.length){dur:Int}{dv':AV}
  (k:∀i,(i<b∨i=Wd∨i=Wr)→s'[i]?=s[i]?)(kR:s'[R]?=some (163,[.nils,.str [],I ver,I chg,I dur,dv',I 0]))(hd:dur=0∨dur=2)(hv:DV b R Wr Wd s' dv' ds'):CS b s' F S M D r f g o Wd Wr R ver chg ds' :=
 ⟨h.inp.keep fun i hi=>k i (.inl (h.hF i hi)),h.hF,h.hD,Nat.le_trans h.hb hl,(k _ (.inl h.hD)).trans h.db,(k _ (.inr (.inl rfl))).trans h.wd,(k _ (.inr (.inr rfl))).trans h.wr,h.bd,h.br,h.bR,h.ne1,h.ne2,h.ne3,dur,dv',kR,hd,hv⟩
theorem lt_of_at {s:Heap}{i:Nat}{v:TypeId×List AV}(h:s[i]?=some v):i<s.length:=glt h
theorem CS.own {b:Nat}{s:Heap}{F:Foot}{S M D:Nat}{r:Int}{f:Inp}{g:AV}{o:List AV}{Wd Wr R:Nat}{ver chg:Int}{ds:List K3}(h:CS b s F S M D r f g o Wd Wr R ver chg ds){j:Nat}{cs:List AV}(hj:s[j]?=some (82,cs))(hb:b≤j)(x:TypeId×List AV):CS b (s.set j x) F S M D r f g o Wd Wr R ver chg ds:=by
 obtain⟨dur,dv,h1,h2,h3⟩:=h.res
 have ne:∀{i t c},t≠82→s[i]?=some (t,c)→j≠i:=fun ht hi e=>by rw[e,hi]at hj;cases hj;exact ht rfl
 refine h.put (by rw[set_length];exact Nat.le_refl _) (dur:=dur) (dv':=dv) (fun i hi=>gset_ne ?_) (by rw[gset_ne (ne (by decide) h1)];exact h1) h2 ⟨h3.1.fr fun Q off n e=>gset_ne ?_,h3.2⟩
 ·rcases hi with hi|rfl|rfl
  ·omega
  ·exact ne (by decide) h.wd
  ·exact ne (by decide) h.wr
 ·obtain⟨cs',hc⟩:=h3.1.row e
  exact ne (by decide) hc
theorem bs139 (k:K3):aBuildSlice Tryz.prog 139 1 [(0,Kv k)]=some (.sl 79 3 [Kv k] .own):=by
 have:∀a b c,aBuildSlice Tryz.prog 139 1 [(0,Key a b c)]=some (.sl 79 3 [Key a b c] .own):=fun a b c=>by kernel_rfl
 exact this _ _ _
theorem keyC_els (ds:List K3)(h:ds.length<1000000):Els 3 (ds.map keyC):=⟨fun e he=>by obtain⟨k,_,rfl⟩:=List.mem_map.1 he;exact⟨rfl,rfl⟩,by rw[List.length_map];exact h⟩
theorem mn0 {dur:Int}(h:dur=0∨dur=2):aMin (I dur) (I 0)=some (I 0):=by rcases h with rfl|rfl<;>rfl
def Dz (R:Nat)(s:Heap):Prop:=∃cs,s[R]?=some (163,cs)∧cs[4]?=some (I 0)
theorem Dz.to {R:Nat}{s s':Heap}(h:Dz R s)(k:∀cs,s[R]?=some (163,cs)→s'[R]?=some (163,cs)):Dz R s':=by
 obtain⟨cs,h1,h2⟩:=h
 exact⟨cs,k cs h1,h2⟩
theorem tail140 {b:Nat}{s0 s:Heap}{F:Foot}{S M D:Nat}{r:Int}{f:Inp}{g:AV}{o:List AV}{Wd Wr R:Nat}{ver chg:Int}{ds:List K3}(h:CS b s F S M D r f g o Wd Wr R ver chg ds){i j:Nat}{w v:AV}{t t0:Bytes}{xs:List Int}(hj:s[j]?=some (82,[v,.str t]))(hi:s[i]?=some (82,[w,.str t0]))(bi:b≤i)(nv:NV s v xs)(vs:v.strip=v)(bl:Bel b s0 s)(ok:Ok R s0 s)(i0:s0.length≤i) :
  ∃dur s1 s2,aLoad false false 1 (.ref Wr 0) s=some (.ref R 0,s)∧aLoad false false 1 (.ref R 4) s=some (I dur,s)∧(dur=0∨dur=2)∧aStore 1 s (.ref R 4) (I 0)=some s1∧aLoad false true 2 (.ref j 0) s1=some (.agg [v,.str t],s1)∧aStore 2 s1 (.ref i 0) (.agg [v,.str t])=some s2∧aLoad false true 2 (.ref i 0) s2=some (.agg [v,.str t],s2)∧CS b s2 F S M D r f g o Wd Wr R ver chg ds∧NV s2 v xs∧Bel b s0 s2∧Ok R s0 s2∧Dz R s2:=by
 obtain⟨dur,dv,hR,hdur,hdv⟩:=h.res
 obtain⟨s5,e5⟩:∃s5,s.set R (163,[.nils,.str [],I ver,I chg,I 0,dv,I 0])=s5:=⟨_,rfl⟩
 have st5:aStore 1 s (.ref R 4) (I 0)=some s5:=by
  rw[st (n:=1) hR (by decide) rfl rfl (by simp),←e5];rfl
 have ne:∀{k cs},s[k]?=some (82,cs)→R≠k:=fun hk e=>by rw[←e,hR]at hk;cases hk
 have h5:CS b s5 F S M D r f g o Wd Wr R ver chg ds:=h.put (by rw[←e5,set_length];exact Nat.le_refl _) (fun k hk=>by
  rw[←e5,gset_ne]
  have:=h.bR
  rcases hk with hk|rfl|rfl
  ·omega
  ·exact fun e=>h.ne2 e.symm
  ·exact fun e=>h.ne1 e.symm) (by rw[←e5];exact gset_eq hR) (.inl rfl) ⟨hdv.1.fr fun Q off m e=>(by
   rw[←e5,gset_ne]
   intro e'
   obtain⟨cs,hc⟩:=hdv.1.row e
   rw[←e',hR]at hc
   cases hc),hdv.2⟩
 have hj5:s5[j]?=some (82,[v,.str t]):=by rw[←e5,gset_ne (ne hj)];exact hj
 have hi5:s5[i]?=some (82,[w,.str t0]):=by rw[←e5,gset_ne (ne hi)];exact hi
 have nv5:NV s5 v xs:=nv.fr fun Q m e=>by
  obtain⟨cs,hc⟩:=nv.row e
  rw[←e5,gset_ne (fun e'=>by rw[←e',hR]at hc;cases hc)]
 obtain⟨s6,e6⟩:∃s6,s5.set i (82,[v,AV.str t])=s6:=⟨_,rfl⟩
 have st6:aStore 2 s5 (.ref i 0) (.agg [v,.str t])=some s6:=by
  rw[stW (n:=2) hi5 (by decide) rfl rfl (by show [v.strip,_]=_;rw[vs];rfl),e6]
 have at6:s6[i]?=some (82,[v,AV.str t]):=by rw[←e6];exact gset_eq hi5
 refine⟨dur,s5,s6,ldv h.wr (by decide) rfl,ldv hR (by decide) rfl,hdur,st5,ldA hj5 (by decide) (by simp) (by decide),st6,ldA at6 (by decide) (by simp) (by decide),by rw[←e6];exact h5.own hi5 bi _,nv5.fr fun Q m e=>?_,?_,?_,⟨_,by rw[←e6,gset_ne (Ne.symm (ne hi)),←e5];exact gset_eq hR,rfl⟩⟩
 ·obtain⟨cs,hc⟩:=nv5.row e
  rw[←e6,gset_ne (fun e'=>by rw[←e',hi5]at hc;cases hc)]
 ·rw[←e6,←e5];exact(bl.set h.bR _).set bi _
 ·rw[←e6,←e5];exact(ok.set (.inr rfl) _).set (.inl i0) _
set_option maxRecDepth 200000 in
theorem c140 (n:Nat){b:Nat}{s:Heap}{F:Foot}{S M D:Nat}{r:Int}{f:Inp}{g:AV}{o:List AV}{Wd Wr R:Nat}{ver chg:Int}{ds:List K3}(h:CS b s F S M D r f g o Wd Wr R ver chg ds)(hn:ds.length<n)(hn2:n<900000)(a c:Int) :
  ∃v' s',den C (n+8) 140 [Key 0 a c,.ref Wd 0,.ref Wr 0] s=some (.agg [v',.str (f (0,a,c)).t],s')∧NV s' v' (f (0,a,c)).xs∧CS b s' F S M D r f g o Wd Wr R ver chg (insK3 ds (0,a,c))∧Bel b s s'∧Ok R s s'∧v'.strip=v'∧Dz R s':=by
 obtain⟨s1,e1⟩:∃s1,s++[(82,[AV.nils,AV.str []])]=s1:=⟨_,rfl⟩
 obtain⟨s2,e2⟩:∃s2,s1++[(82,[AV.nils,AV.str []])]=s2:=⟨_,rfl⟩
 have g1:Gr s s1:=e1▸Gr.app ..
 have g2:Gr s1 s2:=e2▸Gr.app ..
 have h2:=h.gr (g1.trans g2)
 have lWd:aLoad false false 1 (.ref Wd 0) s2=some (.ref D 0,s2):=ldv h2.wd (by decide) rfl
 have lS:aLoad false false 1 (.ref D 1) s2=some (.ref S 0,s2):=ldv h2.db (by decide) rfl
 have bk:=bxk (0,a,c)
 simp only at bk
 obtain⟨v',s3,c1,c2,c3,c4,c5⟩:=c105 (n+4) h2.inp (0,a,c)
 have h3:=h2.gr c3
 obtain⟨s4,e4⟩:∃s4,s3.set s1.length (82,[v',AV.str (f (0,a,c)).t])=s4:=⟨_,rfl⟩
 have at2:s2[s1.length]?=some (82,[AV.nils,AV.str []]):=e2▸gapp_new
 have at3:=c3.at at2
 have st4:aStore 2 s3 (.ref s1.length 0) (.agg [v',.str (f (0,a,c)).t])=some s4:=by
  rw[stW (n:=2) at3 (by decide) rfl rfl (by show [v'.strip,_]=_;rw[c4];rfl),e4]
 rw[rd Tryz.func140];conv in compF _ _ _ _ _ _=>cbv
 simp only[strip_rs,strip_mr,strip_nilf,Bool.false_eq_true,if_false,↓kR,kE,kK,sL,C_P,Nat.reduceEqDiff,reduceIte,Tryz.f140,allocS z82 (by decide) ⟨nofun,rfl⟩,e1,e2,lWd,lS,bk,cFs _ _ (by kernel_rfl:enterable Tryz.prog 105=true),c1,st4,beq_self_eq_true,↓rC_seqj,sL]
 have h4:CS b s4 F S M D r f g o Wd Wr R ver chg ds:=by
  rw[←e4]
  exact h3.own at3 (Nat.le_trans h.hb g1.len) _
 have lWr:aLoad false false 1 (.ref Wr 0) s4=some (.ref R 0,s4):=ldv h4.wr (by decide) rfl
 obtain⟨dur,dv,hR,hdur,hdv⟩:=h4.res
 have lR5:aLoad false false 1 (.ref R 5) s4=some (dv,s4):=ldv hR (by decide) rfl hdv.strip
 have hs4:s4[s.length]?=some (82,[AV.nils,AV.str []]):=by
  rw[←e4,gset_ne (by have:=g1.len;rw[←e1,app_length]at *;omega)]
  exact c3.at (g2.at (by rw[←e1];exact gapp_new))
 have hs4':s4[s1.length]?=some (82,[v',AV.str (f (0,a,c)).t]):=by rw[←e4];exact gset_eq at3
 have bel4:Bel b s s4:=by rw[←e4];exact(((g1.trans g2).trans c3).bel h.hb).set (Nat.le_trans h.hb g1.len) _
 have ok4:Ok R s s4:=by rw[←e4];exact(((g1.trans g2).trans c3).ok R).set (.inl g1.len) _
 have nv4:NV s4 v' (f (0,a,c)).xs:=c2.fr fun Q m e=>by
  obtain⟨cs,hc⟩:=c2.row e
  rw[←e4,gset_ne (fun e'=>by rw[←e',at3]at hc;cases hc)]
 have c141':aCall Tryz.prog (den C (n+7)) 141 [dv,.agg [I 0,I a,I c]] s4=_:=a141 (n+5) hdv.1 (0,a,c) (by omega)
 simp only[strip_rs,strip_mr,strip_nilf,Bool.false_eq_true,if_false,↓kR,kE,kK,sL,C_P,Nat.reduceEqDiff,reduceIte,lWr,lR5,hdv.strip,c141',sL]
 by_cases hm:(0,a,c)∈ds
 ·rw[decide_eq_true hm]
  obtain⟨du,t1,t2,q1,q2,q3,q4,q5,q6,q7,q8,q9,q10,q11,q12⟩:=tail140 h4 hs4' hs4 h.hb nv4 c4 bel4 ok4 (Nat.le_refl _)
  simp only[strip_rs,strip_mr,strip_nilf,Bool.false_eq_true,if_false,↓kR,kE,kK,sL,C_P,Nat.reduceEqDiff,reduceIte,q1,q2,mn0 q3,q4,q5,q6,sL]
  rw[fkc ag82 sz82 (x:=.agg [v',.str (f (0,a,c)).t]) (by exact q7)]
  exact⟨v',t2,rfl,q9,by rw[insK3,if_pos hm];exact q8,q10,q11,c4,q12⟩
 ·rw[decide_eq_false hm]
  have hl:(ds.map keyC).length=ds.length:=List.length_map ..
  obtain⟨w,t1,p1,p2,p3,p4,p5,p6,p7,p8⟩:=SL.app und139 info79 (by decide) (by decide) (by decide) hdv.1 (fun es' fl e=>by rcases hdv.2 with h'|⟨Q,m,h',_⟩<;>rw[h']at e<;>cases e) (SL.sl [keyC (0,a,c)] .own (keyC_els [(0,a,c)] (by simp))) (by simp;omega) (.inl (by simp))
  have p8:=p8 (by simp)
  have p1:aRsAppend Tryz.prog 139 139 dv (.sl 79 3 [Kv (0,a,c)] .own) s4=some (w,t1):=p1
  have hk:compat (.get Wr) (dyn (appK dv) s4 t1)=true:=by
   rcases hdv.2 with h'|⟨Q,m,h',_,_,q,_⟩
   ·rw[h'];rfl
   ·rw[h'];show (some Q != some Wr)=true;simpa using q
  have rowne:∀{i},(i<b∨i=Wd∨i=Wr∨i=R)→rowOf dv≠some i:=by
   intro i hi e
   rcases hdv.2 with h'|⟨Q,m,h',q1,q2,q3,q4⟩
   ·rw[h']at e;cases e
   ·rw[h']at e;cases e
    rcases hi with hi|hi|hi|hi
    ·omega
    ·exact q4 hi
    ·exact q3 hi
    ·exact q2 hi
  have hR1:t1[R]?=some (163,[.nils,.str [],I ver,I chg,I dur,dv,I 0]):=(p6 R (glt hR) (rowne (.inr (.inr (.inr rfl))))).trans hR
  obtain⟨t2,e2'⟩:∃t2,t1.set R (163,[.nils,.str [],I ver,I chg,I dur,w,I 0])=t2:=⟨_,rfl⟩
  have st2:aStore 1 t1 (.ref R 5) w=some t2:=by
   rw[st (n:=1) hR1 (by decide) (by rw[p8];rfl) (by rw[p8];rfl) (by simp),←e2',p8];rfl
  have hlt:∀{i cs},s4[i]?=some (82,cs)→t1[i]?=some (82,cs):=fun {i cs} hi=>(p6 i (glt hi) (fun e=>by
   rcases hdv.2 with h'|⟨Q,m,h',_⟩
   ·rw[h']at e;cases e
   ·rw[h']at e;cases e
    obtain⟨cs',hc⟩:=hdv.1.row h'
    rw[hi]at hc;cases hc)).trans hi
  have ne82:∀{i cs},t1[i]?=some (82,cs)→R≠i:=fun hi e=>by rw[←e,hR1]at hi;cases hi
  have h5:CS b t2 F S M D r f g o Wd Wr R ver chg (ds++[(0,a,c)]):=h4.put (by rw[←e2',set_length];exact p5) (dur:=dur) (dv':=w) (fun i hi=>by
   have hi':i<s4.length:=by
    rcases hi with hi|rfl|rfl
    ·exact Nat.lt_of_lt_of_le hi h4.hb
    ·exact glt h4.wd
    ·exact glt h4.wr
   rw[←e2',gset_ne,p6 i hi' (rowne (by rcases hi with hi|hi|hi<;>simp[hi]))]
   have:=h.bR
   rcases hi with hi|rfl|rfl
   ·omega
   ·exact fun e=>h.ne2 e.symm
   ·exact fun e=>h.ne1 e.symm) (by rw[←e2'];exact gset_eq hR1) hdur ⟨by
    rw[List.map_append]
    exact p2.fr fun Q off m e=>(by
     rw[←e2',gset_ne]
     intro e'
     obtain⟨cs',hc⟩:=p2.row e
     rw[←e',hR1]at hc
     cases hc),.inr ⟨s4.length,_,p8,h4.hb,by have:=glt hR;omega,by have:=glt h4.wr;omega,by have:=glt h4.wd;omega⟩⟩
  have nv5:NV t2 v' (f (0,a,c)).xs:=nv4.fr fun Q m e=>by
   obtain⟨cs,hc⟩:=nv4.row e
   have h1:t1[Q]?=some (3,cs):=(p6 Q (glt hc) (fun e'=>by
    rcases hdv.2 with h'|⟨Q',m',h',_⟩
    ·rw[h']at e';cases e'
    ·rw[h']at e';cases e'
     obtain⟨cs',hc'⟩:=hdv.1.row h'
     rw[hc]at hc';cases hc')).trans hc
   rw[←e2',gset_ne (fun e'=>by rw[←e',hR1]at h1;cases h1),h1,hc]
  have bl5:Bel b s t2:=by
   rw[←e2']
   refine Bel.set ⟨Nat.le_trans bel4.len p5,fun i hi=>?_⟩ h.bR _
   rw[p6 i (Nat.lt_of_lt_of_le hi h4.hb) (rowne (.inl hi)),bel4.old i hi]
  have ok5:Ok R s t2:=by
   rw[←e2']
   refine Ok.set (ok4.trans ⟨p5,fun i t cs hi ht hr=>?_⟩) (.inr rfl) _
   rw[p6 i (glt hi) (fun e=>?_),hi]
   rcases hdv.2 with h'|⟨Q,m,h',_⟩
   ·rw[h']at e;cases e
   ·rw[h']at e;cases e
    obtain⟨cs',hc⟩:=hdv.1.row h'
    rw[hi]at hc;cases hc;exact ht rfl
  have hj5:t2[s1.length]?=some (82,[v',AV.str (f (0,a,c)).t]):=by rw[←e2',gset_ne (ne82 (hlt hs4'))];exact hlt hs4'
  have hi5:t2[s.length]?=some (82,[AV.nils,AV.str []]):=by rw[←e2',gset_ne (ne82 (hlt hs4))];exact hlt hs4
  obtain⟨du,t3,t4,q1,q2,q3,q4,q5,q6,q7,q8,q9,q10,q11,q12⟩:=tail140 h5 hj5 hi5 h.hb nv5 c4 bl5 ok5 (Nat.le_refl _)
  simp only[strip_rs,strip_mr,strip_nilf,Bool.false_eq_true,if_false,↓kR,kE,kK,sL,C_P,Nat.reduceEqDiff,reduceIte,bs139,p1,p3,st2,List.headD_cons,hk,q1,q2,mn0 q3,q4,q5,q6,sL]
  rw[fkc ag82 sz82 (x:=.agg [v',.str (f (0,a,c)).t]) (by exact q7)]
  exact⟨v',t4,rfl,q9,by rw[insK3,if_neg hm];exact q8,q10,q11,c4,q12⟩
end Srv
end

section
namespace Srv
open Go Go.Abs Go.Proofs
abbrev Mod:=Bytes×Bytes
abbrev modC (m:Mod):List AV:=[.str m.1,.str m.2]
theorem und46:Tryz.prog.underlying 46=some (.slice 45):=by kernel_rfl
theorem sz45:szOf Tryz.prog 45=some 2:=by kernel_rfl
theorem info45:Info 45 2:=infoG (by kernel_rfl)
theorem modC_els (ms:List Mod)(h:ms.length<1000000):Els 2 (ms.map modC):=⟨fun e he=>by obtain⟨k,_,rfl⟩:=List.mem_map.1 he;exact⟨rfl,rfl⟩,by rw[List.length_map];exact h⟩
def modsOf (f:Inp)(c:Nat):List Mod:=(List.range c).map fun i:Nat=>((f (0,1,(i:Int))).t,(f (0,2,(i:Int))).t)
def readsOf (c:Nat):List K3:=(List.range c).flatMap fun i:Nat=>[(0,1,(i:Int)),(0,2,(i:Int))]
theorem modsOf_succ (f:Inp)(c:Nat):modsOf f (c+1)=modsOf f c++[((f (0,1,c)).t,(f (0,2,c)).t)]:=by simp[modsOf,List.range_succ]
theorem readsOf_succ (c:Nat):readsOf (c+1)=readsOf c++[(0,1,(c:Int)),(0,2,(c:Int))]:=by simp[readsOf,List.range_succ]
theorem insK3_len (ds:List K3)(k:K3):(insK3 ds k).length≤ds.length+1:=by
 unfold insK3;split
 ·omega
 ·simp
theorem fold_len (l:List K3):∀ds:List K3,(l.foldl insK3 ds).length≤ds.length+l.length:=by
 induction l with
 | nil=>intro ds;simp
 | cons k l ih=>intro ds;have:=ih (insK3 ds k);have:=insK3_len ds k;simp only[List.foldl_cons,List.length_cons];omega
theorem readsOf_len (c:Nat):(readsOf c).length=2*c:=by
 induction c with
 | zero=>rfl
 | succ c ih=>rw[readsOf_succ,List.length_append,ih];simp;omega
section
variable {b:Nat}{s:Heap}{F:Foot}{S M D:Nat}{r:Int}{f:Inp}{g:AV}{o:List AV}{Wd Wr R:Nat}{ver chg:Int}{ds:List K3}
theorem a140 (n:Nat)(h:CS b s F S M D r f g o Wd Wr R ver chg ds)(hn:ds.length<n)(hn2:n<900000)(a c:Int) :
  ∃v' s',aCallV Tryz.prog (den C (n+8)) (.fn 140 [] [.ref Wd 0,.ref Wr 0]) [Key 0 a c] s=some (.agg [v',.str (f (0,a,c)).t],s')∧NV s' v' (f (0,a,c)).xs∧CS b s' F S M D r f g o Wd Wr R ver chg (insK3 ds (0,a,c))∧Bel b s s'∧Ok R s s'∧v'.strip=v'∧Dz R s':=by
 obtain⟨v',s',h1,h2,h3,h4⟩:=c140 n h hn hn2 a c
 refine⟨v',s',?_,h2,h3,h4⟩
 show aCall Tryz.prog (den C (n+8)) 140 [Key 0 a c,.ref Wd 0,.ref Wr 0] s=_
 rw[aCall,if_pos (by kernel_rfl),if_neg (by simp[noRefL_cons,AV.noRef])]
 exact h1
theorem bk79 (a c:Int):aBuild Tryz.prog 79 [(1,I a),(2,I c)]=some (Key 0 a c):=by
 have:∀a c,aBuild Tryz.prog 79 [(1,I a),(2,I c)]=some (Key 0 a c):=fun a c=>by kernel_rfl
 exact this _ _
theorem bk791 (a:Int):aBuild Tryz.prog 79 [(1,I a)]=some (Key 0 a 0):=by
 have:∀a,aBuild Tryz.prog 79 [(1,I a)]=some (Key 0 a 0):=fun a=>by kernel_rfl
 exact this _
theorem bm45 (x y:Bytes):aBuild Tryz.prog 45 [(0,.str x),(1,.str y)]=some (.agg [.str x,.str y]):=by
 have:∀x y,aBuild Tryz.prog 45 [(0,.str x),(1,.str y)]=some (.agg [.str x,.str y]):=fun a c=>by kernel_rfl
 exact this _ _
theorem bs46 (x y:Bytes):aBuildSlice Tryz.prog 46 1 [(0,.agg [.str x,.str y])]=some (.sl 45 2 [.agg [.str x,.str y]] .own):=by
 have:∀x y,aBuildSlice Tryz.prog 46 1 [(0,.agg [.str x,.str y])]=some (.sl 45 2 [.agg [.str x,.str y]] .own):=fun a c=>by kernel_rfl
 exact this _ _
theorem fl82 (x:AV)(t:Bytes):aField Tryz.prog 82 1 (.agg [x,.str t])=some (.str t):=by
 have:∀x t,aField Tryz.prog 82 1 (.agg [x,.str t])=some (.str t):=fun a c=>by kernel_rfl
 exact this _ _
theorem CS.other {s':Heap}(h:CS b s F S M D r f g o Wd Wr R ver chg ds)(hl:s.length≤s'.length)(hb:∀i,i<b→s'[i]?=s[i]?)(k:∀(i:Nat)(t:TypeId)(cs:List AV),s[i]?=some (t,cs)→t=76∨t=161∨t=163∨t=79→s'[i]?=some (t,cs)):CS b s' F S M D r f g o Wd Wr R ver chg ds:=by
 obtain⟨dur,dv,h1,h2,h3⟩:=h.res
 refine h.put hl (dur:=dur) (dv':=dv) (fun i hi=>?_) (k _ _ _ h1 (by simp)) h2 ⟨h3.1.fr fun Q off n e=>?_,h3.2⟩
 ·rcases hi with hi|rfl|rfl
  ·exact hb i hi
  ·rw[k _ _ _ h.wd (by simp),h.wd]
  ·rw[k _ _ _ h.wr (by simp),h.wr]
 ·obtain⟨cs',hc⟩:=h3.1.row e
  rw[k _ _ _ hc (by simp),hc]
def MV (b:Nat)(s:Heap)(v:AV)(ms:List Mod):Prop:=SL 45 2 s v (ms.map modC)∧(v=.nils∨∃Q n,v=.rs 45 2 Q 0 n∧b≤Q)
set_option maxRecDepth 200000 in
theorem c59 (n:Nat)(h:CS b s F S M D r f g o Wd Wr R ver chg ds)(hn:ds.length+30<n)(hn2:n<900000){c:Nat}(hc:(f (0,0,0)).xs=[(c:Int)])(hc8:c≤8) :
  ∃v s',den C (n+9) 59 [.fn 140 [] [.ref Wd 0,.ref Wr 0]] s=some (v,s')∧MV s.length s' v (modsOf f c)∧CS b s' F S M D r f g o Wd Wr R ver chg ((readsOf c).foldl insK3 (insK3 ds (0,0,0)))∧Bel b s s'∧Ok R s s'∧Dz R s':=by
 obtain⟨v1,s1,a1,a2,a3,a4,a5,a6,a7⟩:=a140 n h (by omega) hn2 0 0
 rw[hc]at a2
 obtain⟨s2,e2⟩:∃s2,s1++[(82,[v1,AV.str (f (0,0,0)).t])]=s2:=⟨_,rfl⟩
 have st2:aStore 2 (s1++[(82,[AV.nils,AV.str []])]) (.ref s1.length 0) (.agg [v1,.str (f (0,0,0)).t])=some s2:=by
  rw[stW (n:=2) gapp_new (by decide) rfl rfl (by show [v1.strip,_]=_;rw[a6];rfl),set_end,e2]
 have g2:Gr s1 s2:=e2▸Gr.app ..
 have at2:s2[s1.length]?=some (82,[v1,AV.str (f (0,0,0)).t]):=e2▸gapp_new
 have l0:aLoad false false 1 (.ref s1.length 0) s2=some (v1,s2):=ldv at2 (by decide) rfl a6
 have n2:=a2.gr g2
 have hl:=n2.len
 simp only[List.length_singleton]at hl
 obtain⟨p,p1,p2,p3⟩:=n2.at (i:=0) (by simp)
 simp only[List.getElem_cons_zero]at p2
 have cl:(((1:Nat):Int)==0)=false:=rfl
 have p1:aIndexAddr Tryz.prog 59 v1 (.int .i64 0)=some p:=p1
 rw[rd Tryz.func59];conv in compF _ _ _ _ _ _=>cbv
 simp only[strip_rs,strip_mr,strip_nilf,Bool.false_eq_true,if_false,↓kR,kE,kK,sL,C_P,Nat.reduceEqDiff,reduceIte,Tryz.f59,bk791,a1,allocS z82 (by decide) ⟨nofun,rfl⟩,st2,l0,hl,cl,p1,p2,sL]
 refine loopI (R:=fun a=>∃v s',a=some (v,s')∧MV s.length s' v (modsOf f c)∧CS b s' F S M D r f g o Wd Wr R ver chg ((readsOf c).foldl insK3 (insK3 ds (0,0,0)))∧Bel b s s'∧Ok R s s'∧Dz R s') (fun i e t=>e 0=.fn 140 [] [.ref Wd 0,.ref Wr 0]∧e 16=I c∧e 17=I i∧MV s.length t (e 3) (modsOf f i)∧CS b t F S M D r f g o Wd Wr R ver chg ((readsOf i).foldl insK3 (insK3 ds (0,0,0)))∧Bel b s t∧Ok R s t∧Dz R t) c ?_ ?_ c 0 (by omega) (n+8) (by omega) _ _ ⟨rfl,rfl,rfl,⟨.nil,.inl rfl⟩,a3.gr g2,a4.trans (g2.bel a3.hb),a5.trans (g2.ok R),a7.to fun cs hcs=>g2.at hcs⟩
 ·rintro i e t k hi ⟨e0,e16,e17,hv,hcs,hbl,hok,hdz⟩ hk
  have hlen:=fold_len (readsOf i) (insK3 ds (0,0,0))
  have:=insK3_len ds (0,0,0)
  rw[readsOf_len]at hlen
  obtain⟨w1,t1,b1,b2,b3,b4,b5,b6,b7⟩:=a140 n hcs (by omega) hn2 1 i
  have:=insK3_len ((readsOf i).foldl insK3 (insK3 ds (0,0,0))) (0,1,i)
  obtain⟨w2,t2,d1,d2,d3,d4,d5,d6,d7⟩:=a140 n b3 (by omega) hn2 2 i
  have hlt:decide (i<c)=true:=decide_eq_true hi
  have hv2:MV s.length t2 (e 3) (modsOf f i):=by
   refine⟨hv.1.fr fun Q off m eq=>?_,hv.2⟩
   obtain⟨cs,hcs'⟩:=hv.1.row eq
   have hR:Q≠R:=by
    rintro rfl
    obtain⟨du,dv,h1,_⟩:=hcs.res
    rw[h1]at hcs';cases hcs'
   rw[(b5.trans d5).old Q _ _ hcs' (by decide) hR,hcs']
  have hs3:(e 3).strip=e 3:=by rcases hv.2 with h'|⟨Q,m,h',_⟩<;>rw[h']<;>rfl
  have hml:((modsOf f i).map modC).length=i:=by simp[modsOf]
  obtain⟨w,t3,q1,q2,q3,q4,q5,q6,q7,q8⟩:=SL.app und46 info45 (by decide) (by decide) (by decide) hv2.1 (fun es' fl eq=>by rcases hv.2 with h'|⟨Q,m,h',_⟩<;>rw[h']at eq<;>cases eq) (SL.sl [modC ((f (0,1,i)).t,(f (0,2,i)).t)] .own (modC_els [((f (0,1,i)).t,(f (0,2,i)).t)] (by simp))) (by rw[hml];simp;omega) (.inl (by simp))
  have q8:=q8 (by simp)
  have q1:aRsAppend Tryz.prog 46 46 (e 3) (.sl 45 2 [.agg [.str (f (0,1,i)).t,.str (f (0,2,i)).t]] .own) t2=some (w,t3):=q1
  simp only[strip_rs,strip_mr,strip_nilf,Bool.false_eq_true,if_false,↓kR,kE,kK,sL,C_P,Nat.reduceEqDiff,reduceIte,e0,e16,e17,hlt,bk79,b1,d1,bm45,bs46,fl82,hs3,q1,q3,sL]
  have hrow:∀j t' cs,t2[j]?=some (t',cs)→t'≠45→t3[j]?=some (t',cs):=fun j t' cs hj ht=>by
   rw[q6 j (glt hj) (fun eq=>?_),hj]
   rcases hv.2 with h'|⟨Q,m,h',_⟩
   ·rw[h']at eq;cases eq
   ·rw[h']at eq;cases eq
    obtain⟨cs',hc⟩:=hv2.1.row h'
    rw[hj]at hc;cases hc;exact ht rfl
  have hlow:∀j,j<s.length→t3[j]?=t2[j]?:=fun j hj=>q6 j (Nat.lt_of_lt_of_le hj (Nat.le_trans hok.len (b5.trans d5).len)) (fun eq=>by
   rcases hv.2 with h'|⟨Q,m,h',hQ⟩
   ·rw[h']at eq;cases eq
   ·rw[h']at eq;cases eq;omega)
  have hok2:=hok.trans (b5.trans d5)
  refine hk _ _ ⟨e0,e16,?_,⟨?_,.inr ⟨t2.length,_,q8,hok2.len⟩⟩,?_,(hbl.trans (b4.trans d4)).trans ⟨q5,fun j hj=>hlow j (Nat.lt_of_lt_of_le hj h.hb)⟩,⟨Nat.le_trans hok2.len q5,fun j t' cs hj h1 h2=>?_⟩,d7.to fun cs hj=>hrow R 163 cs hj (by decide)⟩
  ·show I (IntKind.i64.wrap ((i:Int)+1))=_
   rw[wrap64 (by omega) (by omega)];exact iS i
  ·rw[modsOf_succ,List.map_append];exact q2
  ·rw[readsOf_succ,List.foldl_append]
   exact d3.other q5 (fun j hj=>hlow j (Nat.lt_of_lt_of_le hj h.hb)) (fun j t' cs hj ht=>hrow j t' cs hj (by rintro rfl;simp at ht))
  ·rw[hlow j (glt hj)];exact hok2.old j t' cs hj h1 h2
 ·rintro e t k ⟨e0,e16,e17,hv,hcs,hbl,hok,hdz⟩
  have hlt:decide (c<c)=false:=decide_eq_false (by omega)
  have hs3:(e 3).strip=e 3:=by rcases hv.2 with h'|⟨Q,m,h',_⟩<;>rw[h']<;>rfl
  simp only[strip_rs,strip_mr,strip_nilf,Bool.false_eq_true,if_false,↓kR,kE,kK,sL,C_P,Nat.reduceEqDiff,reduceIte,e16,e17,hlt,hs3,sL]
  exact⟨e 3,t,rfl,hv,hcs,hbl,hok,hdz⟩
end
end Srv
end

section
namespace Srv
open Go Go.Abs Go.Proofs
def ix (l:List Bytes)(a:Bytes):Int:=if a∈l then(l.idxOf a:Int) else -1
theorem ix_at {l:List Bytes}{a:Bytes}{i:Nat}(hi:i<l.length)(ht:a∉l.take i)(hx:l[i]=a):ix l a=i:=by
 have hm:a∈l:=by rw[←hx];exact List.getElem_mem hi
 unfold ix
 rw[if_pos hm]
 have e:l=l.take i++l[i]::l.drop (i+1):=by rw[List.getElem_cons_drop,List.take_append_drop]
 have:l.idxOf a=i:=by
  conv=>lhs;rw[e,List.idxOf_append,if_neg ht,hx,List.idxOf_cons_self,List.length_take]
  omega
 rw[this]
theorem ix_no {l:List Bytes}{a:Bytes}(h:a∉l):ix l a=-1:=if_neg h
def nms (ms:List Mod):List Bytes:=ms.map (·.1)
theorem z45:zeroOf Tryz.prog 45=some (.agg [.str [],.str []]):=by kernel_rfl
theorem st45 (s:Heap)(x y:Bytes):aStore 2 (s++[(45,[AV.str [],AV.str []])]) (.ref s.length 0) (.agg [.str x,.str y])=some (s++[(45,[AV.str x,AV.str y])]):=by
 rw[stW (n:=2) gapp_new (by decide) rfl rfl rfl,set_end]
theorem c53 (n:Nat){s:Heap}{v:AV}{ms:List Mod}(h:SL 45 2 s v (ms.map modC))(t:Bytes)(hn:ms.length<n):∃s',den C (n+1) 53 [v,.str t] s=some (I (ix (nms ms) t),s')∧Gr s s':=by
 have hs:=h.strip
 have hlen:aLen Tryz.prog 46 v.strip=some (I ms.length):=by have:=hs.len und46;rwa [List.length_map]at this
 have hb:=h.els.2
 rw[List.length_map]at hb
 rw[rd Tryz.func53];conv in compF _ _ _ _ _ _=>cbv
 simp only[strip_rs,strip_mr,strip_nilf,Bool.false_eq_true,if_false,↓kR,kE,kK,sL,C_P,Nat.reduceEqDiff,reduceIte,Tryz.f53,hlen,sL]
 refine loopI (R:=fun a=>∃s',a=some (I (ix (nms ms) t),s')∧Gr s s') (fun i e s1=>Gr s s1∧e 1=.str t∧e 7=v.strip∧e 8=I ms.length∧e 9=I i∧t∉(nms ms).take i) ms.length ?_ ?_ ms.length 0 (by omega) n hn _ _ ⟨.refl _,rfl,rfl,rfl,rfl,by simp⟩
 ·rintro i e s1 q hi ⟨g,e1,e7,e8,e9,ht⟩ hk
  have hi':i<(ms.map modC).length:=by rw[List.length_map];exact hi
  obtain⟨p,p1,p2,p3,_⟩:=(hs.gr g).at und46 sz45 (by decide) (by decide) hi'
  rw[List.getElem_map]at p2
  have hlt:decide (i<ms.length)=true:=decide_eq_true hi
  have hin:i<(nms ms).length:=by rw[nms,List.length_map];exact hi
  have hnm:(nms ms)[i]=ms[i].1:=by simp[nms]
  have l0:aLoad false false 1 (.ref s1.length 0) (s1++[(45,[AV.str ms[i].1,AV.str ms[i].2])])=some (.str ms[i].1,_):=ldv gapp_new (by decide) rfl
  simp only[strip_rs,strip_mr,strip_nilf,Bool.false_eq_true,if_false,↓kR,kE,kK,sL,C_P,Nat.reduceEqDiff,reduceIte,e1,e7,e8,e9,hlt,p1,p2,allocS z45 (by decide) ⟨nofun,rfl⟩,st45,l0,sL]
  by_cases hx:ms[i].1=t
  ·rw[beq_iff_eq.2 hx]
   simp only[sL]
   exact⟨_,by rw[ix_at hin ht (hnm.trans hx)],g.trans (Gr.app ..)⟩
  ·rw[(beq_eq_false_iff_ne.2 hx:(ms[i].1==t)=false)]
   simp only[sL]
   rw[wrap64 (by omega) (by omega)]
   refine hk _ _ ⟨g.trans (Gr.app ..),e1,e7,e8,iS i,?_⟩
   rw[List.take_succ,List.getElem?_eq_getElem hin,hnm]
   simp only[Option.toList_some,List.mem_append,List.mem_singleton,not_or]
   exact⟨ht,fun e=>hx e.symm⟩
 ·rintro e s1 q ⟨g,e1,e7,e8,e9,ht⟩
  have hlt:decide (ms.length<ms.length)=false:=decide_eq_false (by omega)
  simp only[strip_rs,strip_mr,strip_nilf,Bool.false_eq_true,if_false,↓kR,kE,kK,sL,C_P,Nat.reduceEqDiff,reduceIte,e8,e9,hlt,sL]
  rw[List.take_of_length_le (by simp[nms])]at ht
  rw[ix_no ht]
  exact⟨s1,rfl,g⟩
theorem a53 (n:Nat){s:Heap}{v:AV}{ms:List Mod}(h:SL 45 2 s v (ms.map modC))(t:Bytes)(hn:ms.length<n):∃s',aCall Tryz.prog (den C (n+1)) 53 [v,.str t] s=some (I (ix (nms ms) t),s')∧Gr s s':=by
 rw[aCall,if_pos (by kernel_rfl)]
 cases hn':noRefL [v,.str t] with
 | true =>
  obtain⟨s1,e,_⟩:=c53 n (h.fr (s':=[]) fun Q off m e'=>by rw[e']at hn';cases hn') t hn
  exact⟨s,by simp only[if_true,e];rfl,.refl _⟩
 | false =>
  simp only[Bool.false_eq_true,if_false]
  exact c53 n h t hn
theorem c58 (n:Nat)(s:Heap)(q:Int):den C (n+1) 58 [I q] s=some (.bool (q==2 || q==3),s):=by
 rw[rd Tryz.func58];conv in compF _ _ _ _ _ _=>cbv
 simp only[strip_rs,strip_mr,strip_nilf,Bool.false_eq_true,if_false,↓kR,kE,kK,sL,C_P,Nat.reduceEqDiff,reduceIte,Tryz.f58,sL]
 cases h:(q==2)
 ·simp only[strip_rs,strip_mr,strip_nilf,Bool.false_eq_true,if_false,↓kR,kE,kK,sL,C_P,Nat.reduceEqDiff,reduceIte,h,wA_ft,Bool.false_or,sL]
 ·simp only[strip_rs,strip_mr,strip_nilf,Bool.false_eq_true,if_false,↓kR,kE,kK,sL,C_P,Nat.reduceEqDiff,reduceIte,h,Bool.true_or,sL]
def skG (ms:List Mod)(a:Int):List Int:=ms.flatMap fun m=>[(m.2.length:Int),a]
def sk (ms:List Mod)(nm:Bytes)(q a:Int):Int×List Int×Bytes :=
 if h:0≤ix (nms ms) nm∧0≤a then
  (if(q==2 || q==3)=true then(0,[q,(((ms.map (·.2)).getD (ix (nms ms) nm).toNat []).length:Int)],((ms.map (·.2)).getD (ix (nms ms) nm).toNat []).take (min ((ms.map (·.2)).getD (ix (nms ms) nm).toNat []).length a.toNat)) else(0,skG ms a,nm))
 else(1,[],[])
theorem ix_cases (l:List Bytes)(a:Bytes):(ix l a=-1∧a∉l)∨∃k,∃h:k<l.length,ix l a=(k:Int)∧l[k]=a:=by
 unfold ix
 split
 ·rename_i h
  exact .inr ⟨l.idxOf a,List.idxOf_lt_length_of_mem h,rfl,by simp⟩
 ·rename_i h;exact .inl ⟨rfl,h⟩
theorem z61:zeroOf Tryz.prog 61=some (.agg [I 0,I 0,I 0,I 0,.nils,.str []]):=by kernel_rfl
theorem ag61:isAggT Tryz.prog 61=some true:=by kernel_rfl
theorem sz61:szOf Tryz.prog 61=some 6:=by kernel_rfl
theorem b61e:aBuild Tryz.prog 61 [(2,I 1)]=some (.agg [I 0,I 0,I 1,I 0,.nils,.str []]):=by kernel_rfl
theorem st61 (s:Heap)(x:List AV)(hl:x.length=6)(hx:x.map AV.strip=x):aStore 6 (s++[(61,[I 0,I 0,I 0,I 0,AV.nils,AV.str []])]) (.ref s.length 0) (.agg x)=some (s++[(61,x)]):=by
 rw[stW (n:=6) gapp_new (by decide) hl rfl hx,set_end]
theorem und9:Tryz.prog.underlying 9=some .string:=by kernel_rfl
theorem sub9 (src:Bytes)(m:Nat)(h:m≤src.length):aSl Tryz.prog 9 (.str src) none (some (I m)) none=some (.str (src.take m)):=by
 have h1:aBound src.length (I m)=some m:=by
  simp only[aBound]
  rw[if_pos ⟨by omega,by omega⟩,Int.toNat_natCast]
 simp[aSl,und9,aSubstr,h1]
theorem mnL (x:Nat){a:Int}(h:0≤a):aMin (I x) (I a)=some (I ((min x a.toNat:Nat):Int)):=by
 simp only[aMin]
 congr 2
 split<;>omega
theorem bs59 (x y:Int):aBuildSlice Tryz.prog 59 2 [(0,I x),(1,I y)]=some (.sl 3 1 [I x,I y] .own):=by
 have:∀x y,aBuildSlice Tryz.prog 59 2 [(0,I x),(1,I y)]=some (.sl 3 1 [I x,I y] .own):=fun a c=>by kernel_rfl
 exact this _ _
theorem b61l (x y:Int)(t:Bytes):aBuild Tryz.prog 61 [(4,.sl 3 1 [I x,I y] .own),(5,.str t)]=some (.agg [I 0,I 0,I 0,I 0,.sl 3 1 [I x,I y] .own,.str t]):=by
 have:∀x y t,aBuild Tryz.prog 61 [(4,.sl 3 1 [I x,I y] .own),(5,.str t)]=some (.agg [I 0,I 0,I 0,I 0,.sl 3 1 [I x,I y] .own,.str t]):=fun a c t=>by kernel_rfl
 exact this _ _ _
theorem b61n (t:Bytes):aBuild Tryz.prog 61 [(5,.str t)]=some (.agg [I 0,I 0,I 0,I 0,.nils,.str t]):=by
 have:∀t,aBuild Tryz.prog 61 [(5,.str t)]=some (.agg [I 0,I 0,I 0,I 0,.nils,.str t]):=fun t=>by kernel_rfl
 exact this _
theorem len9 (t:Bytes):aLen Tryz.prog 9 (.str t)=some (I t.length):=by simp[aLen,und9]
theorem info3':Info 3 1:=info3
def WV (t:Heap)(nv:AV)(xs:List Int):Prop:=SL 3 1 t nv (xs.map fun x=>[I x])∧(nv=.nils∨∃Q n,0<n∧nv=.rs 3 1 Q 0 n)
theorem WV.nv {t:Heap}{nv:AV}{xs:List Int}(h:WV t nv xs):NV t nv xs:=by
 obtain⟨h,k⟩:=h
 have hf:(xs.map fun x=>[I x]).flatten=xs.map I:=by
  clear h k
  induction xs with
  | nil=>rfl
  | cons x xs ih=>simp[ih]
 rcases k with rfl|⟨Q,n,hn0,rfl⟩
 ·generalize hes:(xs.map fun x=>[I x])=es at h
  cases h
  have:xs=[]:=by simpa using hes
  subst this;exact .nil
 ·generalize hes:(xs.map fun x=>[I x])=es at h hf
  cases h with
  | rs _ _ pre junk _ hE hQ hp hn =>
   have hl:es.length=xs.length:=by rw[←hes,List.length_map]
   have hpre:pre=[]:=List.length_eq_zero_iff.1 hp
   subst hpre
   rw[hl]
   exact .rs Q junk xs (by rw[hQ,hf];simp) (by have:=hE.2;omega) (by omega)
theorem WV.strip {t:Heap}{nv:AV}{xs:List Int}(h:WV t nv xs):nv.strip=nv:=by
 rcases h.2 with rfl|⟨Q,n,_,rfl⟩<;>rfl
theorem skG_succ (ms:List Mod)(a:Int){i:Nat}(hi:i<ms.length):skG (ms.take (i+1)) a=skG (ms.take i) a++[(ms[i].2.length:Int),a]:=by
 rw[List.take_succ,List.getElem?_eq_getElem hi];unfold skG;rw[List.flatMap_append];rfl
theorem skG_len (ms:List Mod)(a:Int):(skG ms a).length=2*ms.length:=by
 induction ms with
 | nil=>rfl
 | cons m ms ih=>show (_::_::skG ms a).length=_;simp only[List.length_cons,ih];omega
theorem c22 (n:Nat){s:Heap}{v:AV}{ms:List Mod}(h:SL 45 2 s v (ms.map modC))(c i q a:Int)(nm:Bytes)(hn:ms.length<n)(hm8:ms.length≤8) :
  ∃nv s',den C (n+2) 22 [v,.agg [I c,I i,I q,I a,.str nm]] s=some (.agg [I 0,I 0,I (sk ms nm q a).1,I 0,nv,.str (sk ms nm q a).2.2],s')∧NV s' nv (sk ms nm q a).2.1∧Bel s.length s s':=by
 obtain⟨s1,e1⟩:∃s1,s++[(61,[I 0,I 0,I 0,I 0,AV.nils,AV.str []])]=s1:=⟨_,rfl⟩
 have g1:Gr s s1:=e1▸Gr.app ..
 obtain⟨s2,c1,g2⟩:=a53 n (h.strip.strip.gr g1) nm hn
 rw[rd Tryz.func22];conv in compF _ _ _ _ _ _=>cbv
 simp only[strip_rs,strip_mr,strip_nilf,Bool.false_eq_true,if_false,↓kR,kE,kK,sL,C_P,Nat.reduceEqDiff,reduceIte,Tryz.f22,allocS z61 (by decide) ⟨nofun,rfl⟩,e1,c1,sL]
 have g12:=g1.trans g2
 have at1:s1[s.length]?=some (61,[I 0,I 0,I 0,I 0,AV.nils,AV.str []]):=by rw[←e1];exact gapp_new
 have at2:=g2.at at1
 have put:∀{s3:Heap} {x:List AV},Bel s.length s s3→s3[s.length]?=some (61,[I 0,I 0,I 0,I 0,AV.nils,AV.str []])→x.length=6→∃s4,aStore 6 s3 (.ref s.length 0) (.agg x)=some s4∧s4[s.length]?=some (61,x.map AV.strip)∧Bel s.length s s4∧aLoad false true 6 (.ref s.length 0) s4=some (.agg (x.map AV.strip),s4)∧∀i,i≠s.length→s4[i]?=s3[i]?:=fun {s3 x} hb ha hl=>by
  have hst:=st (n:=6) (o:=0) (v:=.agg x) ha (by decide) rfl (by show x.length=6;exact hl) (by simp)
  have:=setL_eq (x.map AV.strip) [I 0,I 0,I 0,I 0,AV.nils,AV.str []] 0 (by simp;omega)
  have hs:setL [I 0,I 0,I 0,I 0,AV.nils,AV.str []] 0 (stCells (.agg x))=x.map AV.strip:=by
   show setL _ 0 (x.map AV.strip)=_
   rw[this,List.take_zero,List.nil_append,List.drop_of_length_le (by simp;omega),List.append_nil]
  rw[hs]at hst
  refine⟨_,hst,gset_eq ha,hb.set (Nat.le_refl _) _,?_,fun i hi=>gset_ne (Ne.symm hi)⟩
  rw[ldA (n:=6) (gset_eq ha) (by decide) (by simp;omega) (by decide),List.drop_zero,List.take_of_length_le (by simp;omega)]
 have b2:Bel s.length s s2:=g12.bel (Nat.le_refl _)
 obtain⟨s3,p1,p2,p3,p4,-⟩:=put (x:=[I 0,I 0,I 1,I 0,.nils,.str []]) b2 at2 rfl
 have err:∀e:Env,e 4=.ref s.length 0→finK Tryz.prog [.cell 4 61] e s3=some (.agg [I 0,I 0,I 1,I 0,.nils,.str []],s3):=fun e he=>fkc ag61 sz61 (by rw[he];exact p4)
 rcases ix_cases (nms ms) nm with ⟨hx,hnm⟩|⟨k,hk,hx,hnk⟩
 ·have d1:decide ((-1:Int)<0)=true:=rfl
  have hsk:sk ms nm q a=(1,[],[]):=by unfold sk;rw[dif_neg (fun h=>by rw[hx]at h;omega)]
  rw[hsk]
  simp only[strip_rs,strip_mr,strip_nilf,Bool.false_eq_true,if_false,↓kR,kE,kK,sL,C_P,Nat.reduceEqDiff,reduceIte,hx,d1,b61e,p1,sL]
  rw[err _ rfl]
  exact⟨.nils,s3,rfl,.nil,p3⟩
 ·have d1:decide ((k:Int)<0)=false:=decide_eq_false (by omega)
  have l0:∀s,aLoad false false 1 (.box [I c,I i,I q,I a,.str nm] 3) s=some (I a,s):=fun s=>by rw[aLoad_one];rfl
  by_cases ha:a<0
  ·have hsk:sk ms nm q a=(1,[],[]):=by unfold sk;rw[dif_neg (fun h=>by omega)]
   rw[hsk]
   simp only[strip_rs,strip_mr,strip_nilf,Bool.false_eq_true,if_false,↓kR,kE,kK,sL,C_P,Nat.reduceEqDiff,reduceIte,hx,d1,l0,decide_eq_true ha,b61e,p1,sL]
   rw[err _ rfl]
   exact⟨.nils,s3,rfl,.nil,p3⟩
  ·have hkl:k<(ms.map modC).length:=by simp only[nms,List.length_map]at hk ⊢;exact hk
   obtain⟨p,r1,_,r3,r4⟩:=(h.strip.gr g12).at und46 sz45 (by decide) (by decide) hkl
   have hkm:k<ms.length:=by rwa [List.length_map]at hkl
   rw[List.getElem_map]at r4
   obtain⟨q1,r5,r6,r7⟩:=r4 1 (.str ms[k].2) rfl
   have hsrc:(ms.map (·.2)).getD (ix (nms ms) nm).toNat []=ms[k].2:=by
    rw[hx,Int.toNat_natCast,List.getD_eq_getElem?_getD,List.getElem?_map,List.getElem?_eq_getElem hkm];rfl
   have ha':0≤a:=by omega
   have hc0:0≤ix (nms ms) nm∧0≤a:=⟨by rw[hx];omega,ha'⟩
   have lq:∀s,aLoad false false 1 (.box [I c,I i,I q,I a,.str nm] 2) s=some (I q,s):=fun s=>by rw[aLoad_one];rfl
   have r1:aIndexAddr Tryz.prog 46 v.strip (.int .i64 k)=some p:=r1
   have loc:(q==2 || q==3)=true→sk ms nm q a=(0,[q,(ms[k].2.length:Int)],ms[k].2.take (min ms[k].2.length a.toNat)):=fun hq=>by unfold sk;rw[dif_pos hc0,if_pos hq,hsrc]
   obtain⟨s5,u1,u2,u3,u4,-⟩:=put (x:=[I 0,I 0,I 0,I 0,.sl 3 1 [I q,I ms[k].2.length] .own,.str (ms[k].2.take (min ms[k].2.length a.toNat))]) b2 at2 rfl
   have fin5:∀e:Env,e 4=.ref s.length 0→finK Tryz.prog [.cell 4 61] e s5=some (.agg [I 0,I 0,I 0,I 0,.sl 3 1 [I q,I ms[k].2.length] .sh,.str (ms[k].2.take (min ms[k].2.length a.toNat))],s5):=fun e he=>fkc ag61 sz61 (by rw[he];exact u4)
   have sb:=sub9 ms[k].2 (min ms[k].2.length a.toNat) (Nat.min_le_left _ _)
   cases h2:(q==2) with
   | true =>
    rw[loc (by rw[h2];rfl)]
    simp only[strip_rs,strip_mr,strip_nilf,Bool.false_eq_true,if_false,↓kR,kE,kK,sL,C_P,Nat.reduceEqDiff,reduceIte,hx,d1,l0,decide_eq_false ha,r1,r5,r6,h2,len9,mnL _ ha',bs59,sb,b61l,u1,sL]
    rw[fin5 _ rfl]
    exact⟨_,s5,rfl,.sl [q,(ms[k].2.length:Int)] .sh (by simp),u3⟩
   | false =>
    cases h3:(q==3) with
    | true =>
     rw[loc (by rw[h2,h3];rfl)]
     simp only[strip_rs,strip_mr,strip_nilf,Bool.false_eq_true,if_false,↓kR,kE,kK,sL,C_P,Nat.reduceEqDiff,reduceIte,hx,d1,l0,lq,decide_eq_false ha,r1,r5,r6,h2,h3,len9,mnL _ ha',bs59,sb,b61l,u1,sL]
     rw[fin5 _ rfl]
     exact⟨_,s5,rfl,.sl [q,(ms[k].2.length:Int)] .sh (by simp),u3⟩
    | false =>
     have hsk:sk ms nm q a=(0,skG ms a,nm):=by unfold sk;rw[dif_pos hc0,if_neg (by rw[h2,h3];decide)]
     rw[hsk]
     simp only[strip_rs,strip_mr,strip_nilf,Bool.false_eq_true,if_false,↓kR,kE,kK,sL,C_P,Nat.reduceEqDiff,reduceIte,hx,d1,l0,lq,decide_eq_false ha,r1,r5,r6,h2,h3,b61n,sL]
     obtain⟨sg,eg⟩:∃sg,s2++[(61,[I 0,I 0,I 0,I 0,AV.nils,AV.str nm])]=sg:=⟨_,rfl⟩
     have stg:=(st61 s2 [I 0,I 0,I 0,I 0,.nils,.str nm] rfl rfl).trans (congrArg some eg)
     have gg:Gr s2 sg:=eg▸Gr.app ..
     have hlen:aLen Tryz.prog 46 v.strip=some (I ms.length):=by have:=h.strip.len und46;rwa [List.length_map]at this
     have hb:=h.els.2
     rw[List.length_map]at hb
     simp only[strip_rs,strip_mr,strip_nilf,Bool.false_eq_true,if_false,↓kR,kE,kK,sL,C_P,Nat.reduceEqDiff,reduceIte,stg,hlen,sL]
     refine loopI (R:=fun a'=>∃nv s',a'=some (.agg [I 0,I 0,I 0,I 0,nv,.str nm],s')∧NV s' nv (skG ms a)∧Bel s.length s s') (fun i e t=>Bel s2.length s2 t∧e 51=v.strip∧e 52=I ms.length∧e 53=I i∧e 7=.ref s2.length 0∧e 4=.ref s.length 0∧(∃x,e 3=.box x 0∧x[3]?=some (I a))∧∃nv,t[s2.length]?=some (61,[I 0,I 0,I 0,I 0,nv,.str nm])∧WV t nv (skG (ms.take i) a)∧∀Q n,nv=.rs 3 1 Q 0 n→s2.length≤Q) ms.length ?_ ?_ ms.length 0 (by omega) (n+1) (by omega) _ _ ⟨gg.bel (Nat.le_refl _),rfl,rfl,rfl,rfl,rfl,⟨_,rfl,rfl⟩,.nils,by rw[←eg];exact gapp_new,⟨.nil,.inl rfl⟩,nofun⟩
     ·rintro j e t k' hj ⟨hbl,e51,e52,e53,e7,e4,⟨x,e3,hx3⟩,nv,hA,hw,hQ0⟩ hk'
      have hj':j<(ms.map modC).length:=by rw[List.length_map];exact hj
      have hsv:SL 45 2 t v.strip (ms.map modC):=(h.strip.gr g12).fr fun Q off m eq=>by
       obtain⟨cs,hc⟩:=(h.strip.gr g12).row eq
       rw[hbl.at (glt hc) hc,hc]
      obtain⟨p,p1,p2,p3,_⟩:=hsv.at und46 sz45 (by decide) (by decide) hj'
      rw[List.getElem_map]at p2
      have hlt:decide (j<ms.length)=true:=decide_eq_true hj
      obtain⟨t1,f1⟩:∃t1,t++[(45,[AV.str ms[j].1,AV.str ms[j].2])]=t1:=⟨_,rfl⟩
      have st1:=(st45 t ms[j].1 ms[j].2).trans (congrArg some f1)
      have gt1:Gr t t1:=f1▸Gr.app ..
      have hA1:=gt1.at hA
      have lN:aLoad false false 1 (.ref s2.length 4) t1=some (nv,t1):=ldv hA1 (by decide) rfl hw.strip
      have lT:aLoad false false 1 (.ref t.length 1) t1=some (.str ms[j].2,t1):=ldv (by rw[←f1];exact gapp_new) (by decide) rfl
      have lA:aLoad false false 1 (.box x 3) t1=some (I a,t1):=by rw[aLoad_one,hx3];rfl
      have hw1:SL 3 1 t1 nv ((skG (ms.take j) a).map fun x=>[I x]):=hw.1.gr gt1
      obtain⟨w,t2,q1,q2,q3,q4,q5,q6,q7,q8⟩:=SL.app' (w:=.sl 3 1 [I ms[j].2.length,I a] .own) (es2:=[[I ms[j].2.length],[I a]]) (ys:=[I ms[j].2.length,I a]) under59 info3 (by decide) (by decide) (by decide) hw1 (fun es' fl eq=>by rcases hw.2 with h'|⟨Q,m,_,h'⟩<;>rw[h']at eq<;>cases eq) rfl rfl rfl ⟨fun e he=>by simp at he;rcases he with rfl|rfl<;>exact⟨rfl,rfl⟩,by simp⟩ (by rw[List.length_map,skG_len,List.length_take];simp;omega) (.inl (by simp))
      have q8:=q8 (by simp)
      have hA2:t2[s2.length]?=some (61,[I 0,I 0,I 0,I 0,nv,AV.str nm]):=by
       rw[q6 _ (glt hA1) (fun eq=>?_),hA1]
       rcases hw.2 with h'|⟨Q,m,_,h'⟩
       ·rw[h']at eq;cases eq
       ·rw[h']at eq;cases eq
        obtain⟨cs,hc⟩:=hw1.row h'
        rw[hA1]at hc;cases hc
      obtain⟨t3,f3⟩:∃t3,t2.set s2.length (61,[I 0,I 0,I 0,I 0,w,AV.str nm])=t3:=⟨_,rfl⟩
      have st3:aStore 1 t2 (.ref s2.length 4) w=some t3:=by
       rw[st (n:=1) hA2 (by decide) (by rw[q8];rfl) (by rw[q8];rfl) (by simp),←f3,q8];rfl
      simp only[strip_rs,strip_mr,strip_nilf,Bool.false_eq_true,if_false,↓kR,kE,kK,sL,C_P,Nat.reduceEqDiff,reduceIte,e51,e52,e53,e7,e3,hlt,p1,p2,allocS z45 (by decide) ⟨nofun,rfl⟩,st1,lN,lT,lA,len9,bs59,q1,q3,st3,sL]
      have hlow:∀i,i<s2.length→t3[i]?=t[i]?:=fun i hi=>by
       have hit:i<t.length:=Nat.lt_of_lt_of_le hi hbl.len
       rw[←f3,gset_ne (by omega),q6 i (Nat.lt_of_lt_of_le hit gt1.len) (fun eq=>?_),gt1.get hit]
       rcases hw.2 with h'|⟨Q,m,_,h'⟩
       ·rw[h']at eq;cases eq
       ·rw[h']at eq;cases eq
        have:=hQ0 _ _ h';omega
      refine hk' _ _ ⟨⟨Nat.le_trans hbl.len (Nat.le_trans gt1.len (by rw[←f3,set_length];exact q5)),fun i hi=>(hlow i hi).trans (hbl.old i hi)⟩,e51,e52,?_,e7,e4,⟨x,e3,hx3⟩,w,by rw[←f3];exact gset_eq hA2,⟨?_,.inr ⟨t1.length,_,by simp,q8⟩⟩,fun Q m eq=>by rw[q8]at eq;cases eq;exact Nat.le_trans hbl.len gt1.len⟩
      ·show I (IntKind.i64.wrap ((j:Int)+1))=_
       rw[wrap64 (by omega) (by omega)];exact iS j
      ·rw[skG_succ ms a hj,List.map_append]
       refine q2.fr fun Q off m eq=>?_
       rw[←f3,gset_ne]
       rintro rfl
       obtain⟨cs,hc⟩:=q2.row eq
       rw[hA2]at hc;cases hc
     ·rintro e t k' ⟨hbl,e51,e52,e53,e7,e4,⟨x,e3,hx3⟩,nv,hA,hw,hQ0⟩
      have hlt:decide (ms.length<ms.length)=false:=decide_eq_false (by omega)
      have lA:=ldA (n:=6) (o:=0) hA (by decide) (by simp) (by decide)
      have b3:Bel s.length s t:=b2.trans (hbl.mono g12.len)
      have at3:t[s.length]?=_:=hbl.at (glt at2) at2
      obtain⟨s6,w1,w2,w3,w4,w5⟩:=put (x:=[I 0,I 0,I 0,I 0,nv,.str nm]) b3 at3 rfl
      simp only[List.drop_zero,List.take_succ_cons,List.take_nil]at lA
      simp only[strip_rs,strip_mr,strip_nilf,Bool.false_eq_true,if_false,↓kR,kE,kK,sL,C_P,Nat.reduceEqDiff,reduceIte,e52,e53,e7,e4,hlt,lA,w1,sL]
      rw[fkc ag61 sz61 (x:=.agg [I 0,I 0,I 0,I 0,nv,.str nm]) (by
       show aLoad false true 6 (e 4) s6=_
       rw[e4]
       have:=w4
       simp only[List.map_cons,List.map_nil,hw.strip,strip_int,strip_str]at this
       exact this)]
      rw[List.take_length]at hw
      refine⟨nv,s6,rfl,hw.nv.fr fun Q m eq=>?_,w3⟩
      obtain⟨cs,hc⟩:=hw.nv.row eq
      exact w5 Q (fun e'=>by rw[e',at3]at hc;cases hc)
end Srv
end

section
namespace Srv
open Go Go.Abs Go.Proofs
def mNm:Bytes:=[109]
def comp (f:Inp)(c:Nat)(k:K3):Int×List Int×Bytes :=
 if(k.1==2 || k.1==3)=true then sk [(mNm,(f (0,2,k.2.2)).t)] mNm k.1 k.2.1
 else sk (modsOf f c) ((modsOf f c).getD k.2.2.toNat ([],[])).1 k.1 k.2.1
def rds (c:Nat)(k:K3):List K3:=if(k.1==2 || k.1==3)=true then[(0,2,k.2.2)] else(0,0,0)::readsOf c
theorem app1 {s:Heap}{Q:Nat}{e:Int}(hQ:s[Q]?=some (3,[I e])){y:AV}{ys:List AV}(h:srcH 1 y s=some ys)(hn:ys.length<1000000){xs:List Int}(hx:(cellsOf ys).map AV.strip=xs.map I) :
  aRsAppend Tryz.prog 59 59 (.rs 3 1 Q 0 1) y s=some (.rs 3 1 s.length 0 (1+ys.length),kill s Q++[(3,[I e]++xs.map I)]):=by
 obtain⟨i,zz,h1,h2,h3,h4,h5⟩:=info3
 have hb:bound i (1+ys.length):=bound_of (by
  have:(2*(1+ys.length)+768)*i.bytes≤(2*(1+ys.length)+768)*200:=Nat.mul_le_mul_left _ h5
  omega) (by omega)
 unfold aRsAppend
 rw[under59]
 simp only[h1,h2,h,h3,h4,ne_eq,not_true_eq_false,or_self,if_false,Nat.one_ne_zero]
 rw[if_neg (by decide)]
 rw[if_pos ⟨trivial,trivial,by omega,hb⟩,hQ]
 simp only
 rw[if_pos ⟨trivial,by simp,by simp⟩,hx]
 simp
theorem rb59 (e:Int)(s:Heap):aRsBuild Tryz.prog 59 1 [(0,I e)] s=some (.rs 3 1 s.length 0 1,s++[(3,[I e])]):=by
 have:∀e s,aRsBuild Tryz.prog 59 1 [(0,I e)] s=some (.rs 3 1 s.length 0 1,s++[(3,[I e])]):=fun e s=>by kernel_rfl
 exact this e s
theorem rV_cvF {D:Den}{env:Env}{s:Heap}(tk:Bool)(i:Nat)(xs ts:_):rV C D (.raw true tk (.call ⟨.value (.tmp i),xs,ts⟩)) (evO C env) s=(match env i with|.fn g first captured=>aCallF Tryz.prog D g ((first++xs.toList.map (evO C env)++captured).map AV.strip) s|_=>none):=by
 simp only[rV,opV,evO,if_true];cases env i<;>rfl
theorem z33:zeroOf Tryz.prog 33=some (.agg [I 0,I 0,I 0,I 0,.str []]):=by kernel_rfl
theorem b33 (q a:Int):aBuild Tryz.prog 33 [(2,I q),(3,I a)]=some (.agg [I 0,I 0,I q,I a,.str []]):=by
 have:∀q a,aBuild Tryz.prog 33 [(2,I q),(3,I a)]=some (.agg [I 0,I 0,I q,I a,.str []]):=fun q a=>by kernel_rfl
 exact this _ _
theorem a58 (n:Nat)(s:Heap)(q:Int):aCall Tryz.prog (den C (n+1)) 58 [I q] s=some (.bool (q==2 || q==3),s):=aC (by kernel_rfl) rfl (fun _=>⟨[],c58 n [] q⟩) fun _=>c58 n s q
theorem bk79' (c:Int):aBuild Tryz.prog 79 [(1,I 2),(2,I c)]=some (Key 0 2 c):=bk79 2 c
section
variable {b:Nat}{s:Heap}{F:Foot}{S M D:Nat}{r:Int}{f:Inp}{g:AV}{o:List AV}{Wd Wr R:Nat}{ver chg:Int}{ds:List K3}
theorem strip2 (x:AV):x.strip.strip=x.strip:=by
 cases x with
 | sl t z l f=>cases f<;>rfl
 | _=>rfl
theorem sk_len (ms:List Mod)(nm:Bytes)(q a:Int)(h:ms.length≤8):(sk ms nm q a).2.1.length<100:=by
 unfold sk
 split
 ·split
  ·simp
  ·simp only[skG_len];omega
 ·simp
theorem tail36 (n:Nat){s0:Heap}(h:CS b s F S M D r f g o Wd Wr R ver chg ds)(bl:Bel b s0 s)(ok:Ok R s0 s){mv:AV}{ms:List Mod}(hm:SL 45 2 s mv (ms.map modC))(hm8:ms.length≤8)(hn:8<n){A i6:Nat}{q a:Int}{nm:Bytes}(hA:s[A]?=some (33,[I 0,I 0,I q,I a,.str nm]))(h6:s[i6]?=some (82,[.nils,.str []]))(b6:b≤i6)(l6:s0.length≤i6) :
  ∃rv s1 s2 s3 w s4 s5,aLoad false true 5 (.ref A 0) s=some (.agg [I 0,I 0,I q,I a,.str nm],s)∧den C (n+9) 22 [mv,.agg [I 0,I 0,I q,I a,.str nm]] s=some (.agg [I 0,I 0,I (sk ms nm q a).1,I 0,rv,.str (sk ms nm q a).2.2],s1) ∧
   aStore 6 (s1++[(61,[I 0,I 0,I 0,I 0,AV.nils,AV.str []])]) (.ref s1.length 0) (.agg [I 0,I 0,I (sk ms nm q a).1,I 0,rv,.str (sk ms nm q a).2.2])=some s2∧aLoad false false 1 (.ref s1.length 2) s2=some (I (sk ms nm q a).1,s2) ∧
   aRsBuild Tryz.prog 59 1 [(0,I (sk ms nm q a).1)] s2=some (.rs 3 1 s2.length 0 1,s3)∧(newIds s2 s3).contains s1.length=false∧aLoad false false 1 (.ref s1.length 4) s3=some (rv.strip,s3) ∧
   aRsAppend Tryz.prog 59 59 (.rs 3 1 s2.length 0 1) rv.strip s3=some (w,s4)∧w.strip=w∧(some s2.length != some s1.length)=true∧(kept s3 s4).contains s1.length=true∧aLoad false false 1 (.ref s1.length 5) s4=some (.str (sk ms nm q a).2.2,s4) ∧
   aStore 2 s4 (.ref i6 0) (.agg [w,.str (sk ms nm q a).2.2])=some s5∧aLoad false true 2 (.ref i6 0) s5=some (.agg [w,.str (sk ms nm q a).2.2],s5)∧aBuild Tryz.prog 82 [(0,w),(1,.str (sk ms nm q a).2.2)]=some (.agg [w,.str (sk ms nm q a).2.2]) ∧
   NV s5 w ((sk ms nm q a).1::(sk ms nm q a).2.1)∧CS b s5 F S M D r f g o Wd Wr R ver chg ds∧Bel b s0 s5∧Ok R s0 s5∧(Dz R s→Dz R s5):=by
 obtain⟨rv,s1,c1,c2,c3⟩:=c22 (n+7) hm 0 0 q a nm (by omega) hm8
 have hlen:(sk ms nm q a).2.1.length<100:=sk_len ms nm q a hm8
 generalize sk ms nm q a=z at c1 c2 hlen ⊢
 obtain⟨err,nums,txt⟩:=z
 simp only at c1 c2 hlen ⊢
 have hb:=h.hb
 obtain⟨s2,e2⟩:∃s2,s1++[(61,[I 0,I 0,I err,I 0,rv.strip,AV.str txt])]=s2:=⟨_,rfl⟩
 have st2:aStore 6 (s1++[(61,[I 0,I 0,I 0,I 0,AV.nils,AV.str []])]) (.ref s1.length 0) (.agg [I 0,I 0,I err,I 0,rv,.str txt])=some s2:=by
  rw[st (n:=6) gapp_new (by decide) rfl rfl (by simp),set_end,←e2];rfl
 have g2:Gr s1 s2:=e2▸Gr.app ..
 have at2:s2[s1.length]?=some (61,[I 0,I 0,I err,I 0,rv.strip,AV.str txt]):=e2▸gapp_new
 obtain⟨s3,e3⟩:∃s3,s2++[(3,[I err])]=s3:=⟨_,rfl⟩
 have g3:Gr s2 s3:=e3▸Gr.app ..
 have hlt2:=glt at2
 have at3:=g3.at at2
 have hQ:s3[s2.length]?=some (3,[I err]):=e3▸gapp_new
 have nv3:NV s3 rv.strip nums:=(c2.strip.gr g2).gr g3
 obtain⟨ys,y1,y2,y3,y4⟩:=nv3.src
 have ap:=app1 hQ y1 (by omega) y3
 obtain⟨s4,e4⟩:∃s4,kill s3 s2.length++[(3,[I err]++nums.map I)]=s4:=⟨_,rfl⟩
 rw[e4]at ap
 have k3:(kill s3 s2.length).length=s3.length:=List.length_set
 have old4:∀i,i<s3.length→i≠s2.length→s4[i]?=s3[i]?:=fun i hi hne=>by
  rw[←e4,gapp_old (by rw[k3];exact hi),kill_get,if_neg hne]
 have at4:s4[s1.length]?=_:=(old4 _ (glt at3) (by omega)).trans at3
 have h63:s3[i6]?=some (82,[AV.nils,AV.str []]):=g3.at (g2.at (c3.at (glt h6) h6))
 have h64:s4[i6]?=some (82,[AV.nils,AV.str []]):=(old4 _ (glt h63) (fun e=>by rw[e,hQ]at h63;cases h63)).trans h63
 obtain⟨s5,e5⟩:∃s5,s4.set i6 (82,[AV.rs 3 1 s3.length 0 (1+ys.length),AV.str txt])=s5:=⟨_,rfl⟩
 have st5:aStore 2 s4 (.ref i6 0) (.agg [.rs 3 1 s3.length 0 (1+ys.length),.str txt])=some s5:=by
  rw[stW (n:=2) h64 (by decide) rfl rfl rfl,e5]
 have at5:s5[i6]?=some (82,[AV.rs 3 1 s3.length 0 (1+ys.length),AV.str txt]):=by rw[←e5];exact gset_eq h64
 have hl13:s.length≤s2.length:=Nat.le_trans c3.len g2.len
 have old5:∀i,i<s.length→i≠i6→s5[i]?=s[i]?:=fun i hi hne=>by
  have h1:i<s2.length:=by omega
  rw[←e5,gset_ne (Ne.symm hne),old4 i (Nat.lt_of_lt_of_le h1 g3.len) (by omega),g3.get h1,g2.get (Nat.lt_of_lt_of_le hi c3.len),c3.old i hi]
 have len5:s.length≤s5.length:=by rw[←e5,set_length,←e4,app_length,k3];have:=g3.len;omega
 have at34:s4[s3.length]?=some (3,[I err]++nums.map I):=by rw[←e4,←k3];exact gapp_new
 refine⟨rv,s1,s2,s3,_,s4,s5,ldA hA (by decide) (by simp) (by decide),c1,st2,ldv at2 (by decide) rfl,by rw[rb59,e3],by rw[←e3];exact newIds_app hlt2 _,ldv at3 (by decide) rfl (strip2 _),ap,rfl,by simp;omega,kept_of (glt at3) (at4.trans at3.symm),ldv at4 (by decide) rfl,st5,ldA at5 (by decide) (by simp) (by decide),?_,?_,?_,?_,?_,fun dz=>dz.to fun cs hR=>(old5 R (glt hR) (fun e=>by rw[e,h6]at hR;cases hR)).trans hR⟩
 ·have:∀Q m t,aBuild Tryz.prog 82 [(0,.rs 3 1 Q 0 m),(1,.str t)]=some (.agg [.rs 3 1 Q 0 m,.str t]):=fun Q m t=>by kernel_rfl
  exact this _ _ _
 ·have hl:1+ys.length=(err::nums).length:=by rw[y2];simp;omega
  rw[hl]
  refine .rs s3.length [] (err::nums) ?_ (by simp;omega) (by simp)
  rw[←e5,gset_ne (fun e=>by rw[e,at34]at h64;cases h64),at34];simp
 ·refine h.other len5 (fun i hi=>old5 i (Nat.lt_of_lt_of_le hi hb) (by omega)) (fun i t cs hi ht=>?_)
  rw[old5 i (glt hi) (fun e=>by rw[e,h6]at hi;cases hi;simp at ht),hi]
 ·exact bl.trans ⟨len5,fun i hi=>old5 i (Nat.lt_of_lt_of_le hi hb) (by omega)⟩
 ·refine⟨Nat.le_trans ok.len len5,fun i t cs hi ht hr=>?_⟩
  have h1:=ok.old i t cs hi ht hr
  rw[old5 i (glt h1) (fun e=>by have:=glt hi;omega),h1]
set_option maxRecDepth 200000 in
theorem c36 (n:Nat)(h:CS b s F S M D r f g o Wd Wr R ver chg ds)(hn:ds.length+40<n)(hn2:n<800000){c:Nat}(hc:(f (0,0,0)).xs=[(c:Int)])(hc8:c≤8)(q a:Int)(i:Nat)(hi:i<c) :
  ∃nv s',den C (n+10) 36 [.fn 22 [] [],.agg [I q,I a,I i],.fn 140 [] [.ref Wd 0,.ref Wr 0]] s=some (.agg [nv,.str (comp f c (q,a,i)).2.2],s')∧NV s' nv ((comp f c (q,a,i)).1::(comp f c (q,a,i)).2.1)∧CS b s' F S M D r f g o Wd Wr R ver chg ((rds c (q,a,i)).foldl insK3 ds)∧Bel b s s'∧Ok R s s'∧Dz R s':=by
 obtain⟨s1,e1⟩:∃s1,s++[(82,[AV.nils,AV.str []])]=s1:=⟨_,rfl⟩
 obtain⟨s2,e2⟩:∃s2,s1++[(33,[I 0,I 0,I q,I a,AV.str []])]=s2:=⟨_,rfl⟩
 have st2:aStore 5 (s1++[(33,[I 0,I 0,I 0,I 0,AV.str []])]) (.ref s1.length 0) (.agg [I 0,I 0,I q,I a,.str []])=some s2:=by
  rw[stW (n:=5) gapp_new (by decide) rfl rfl rfl,set_end,e2]
 have g1:Gr s s1:=e1▸Gr.app ..
 have g2:Gr s1 s2:=e2▸Gr.app ..
 have h2:=h.gr (g1.trans g2)
 have lb:=h.hb
 have lg1:=g1.len
 have at2:s2[s1.length]?=some (33,[I 0,I 0,I q,I a,AV.str []]):=e2▸gapp_new
 have at20:s2[s.length]?=some (82,[AV.nils,AV.str []]):=g2.at (by rw[←e1];exact gapp_new)
 have hne:s1.length≠s.length:=by rw[←e1,app_length];omega
 have nR:∀{k t cs},s2[k]?=some (t,cs)→t≠163→k≠R:=fun hk ht e=>by
  obtain⟨du,dv,h1,_⟩:=h2.res
  rw[e,h1]at hk;cases hk;exact ht rfl
 have setnm:∀{s3:Heap} {ds':List K3} (nm:Bytes),CS b s3 F S M D r f g o Wd Wr R ver chg ds'→Bel b s2 s3→Ok R s2 s3→∃s4,aStore 1 s3 (.ref s1.length 4) (.str nm)=some s4∧CS b s4 F S M D r f g o Wd Wr R ver chg ds'∧Bel b s s4∧Ok R s s4∧s4[s1.length]?=some (33,[I 0,I 0,I q,I a,.str nm])∧s4[s.length]?=some (82,[.nils,.str []])∧∀k,k≠s1.length→s4[k]?=s3[k]?:=by
  intro s3 ds' nm hc3 hb3 ho3
  have at3:=ho3.old _ _ _ at2 (by decide) (nR at2 (by decide))
  have at30:=ho3.old _ _ _ at20 (by decide) (nR at20 (by decide))
  refine⟨s3.set s1.length (33,[I 0,I 0,I q,I a,.str nm]),?_,?_,?_,?_,gset_eq at3,by rw[gset_ne hne];exact at30,fun k hk=>gset_ne hk.symm⟩
  ·rw[st (n:=1) at3 (by decide) rfl rfl (by simp)];rfl
  ·refine hc3.other (by rw[set_length];exact Nat.le_refl _) (fun k hk=>gset_ne (by omega)) fun k t cs hk ht=>?_
   rw[gset_ne (fun e=>by rw[←e,at3]at hk;cases hk;simp at ht)];exact hk
  ·exact(((g1.trans g2).bel lb).trans hb3).set (by omega) _
  ·exact(((g1.trans g2).ok R).trans ho3).set (.inl lg1) _
 cases hq:(q==2 || q==3) with
 | true =>
  obtain⟨v1,s3,a1,a2,a3,a4,a5,a6,a7⟩:=a140 (n+1) h2 (by omega) (by omega) 2 i
  obtain⟨s4,w1,w2,w3,w4,w5,w6,w7⟩:=setnm mNm a3 a4 a5
  have hm:SL 45 2 s4 (.sl 45 2 [.agg [.str mNm,.str (f (0,2,i)).t]] .sh) ([(mNm,(f (0,2,i)).t)].map modC):=.sl _ _ (modC_els [(mNm,(f (0,2,i)).t)] (by simp))
  obtain⟨rv,t1,t2,t3,w,t4,t5,k1,k2,k3,k4,k5,k6,k7,k8,k9,k10,k11,k12,k13,k14,k15,k16,k17,k18,k19,k20⟩:=tail36 n w2 w3 w4 hm (by simp) (by omega) w5 w6 lb (Nat.le_refl _)
  have hcomp:comp f c (q,a,i)=sk [(mNm,(f (0,2,i)).t)] mNm q a:=by unfold comp;simp only;rw[if_pos hq]
  have hrds:rds c (q,a,i)=[(0,2,(i:Int))]:=by unfold rds;simp only;rw[if_pos hq]
  rw[hcomp,hrds]
  have w1':aStore 1 s3 (.ref s1.length 4) (.str [109])=some s4:=w1
  simp only[mNm]at k1 k2 k3 k4 k5 k7 k8 k12 k13 k14 k15 k16 ⊢
  have bk:=bk79' i
  have so:∀x,(AV.sl 45 2 [AV.agg [AV.str [109],AV.str x]] Flag.own).strip.strip=.sl 45 2 [.agg [.str [109],.str x]] .sh:=fun _=>rfl
  rw[rd Tryz.func36];conv in compF _ _ _ _ _ _=>cbv
  simp only[strip_rs,strip_mr,strip_nilf,Bool.false_eq_true,if_false,↓kR,kE,kK,sL,C_P,Nat.reduceEqDiff,reduceIte,Tryz.f36,allocS z82 (by decide) ⟨nofun,rfl⟩,allocS z33 (by decide) ⟨nofun,rfl⟩,e1,b33,st2,a58 (n+8) s2 q,hq,rV_cvF,↓rC_seqj,bk,a1,fl82,bm45,bs46,w1',k1,cFs _ _ (by kernel_rfl:enterable Tryz.prog 22=true),so,k2,allocS z61 (by decide) ⟨nofun,rfl⟩,k3,k4,k5,k6,k7,k8,k9,k10,k11,k12,k15,k13,List.headD_cons,appK_rs,sL]
  rw[fkc ag82 sz82 (x:=.agg [w,.str (sk [([109],(f (0,2,i)).t)] [109] q a).2.2]) (by exact k14)]
  exact⟨w,t5,rfl,k16,k17,k18,k19,k20 (a7.to fun cs hR=>(w7 R (fun e=>by have:=a5.old _ _ _ at2 (by decide) (nR at2 (by decide));rw[e,this]at hR;cases hR)).trans hR)⟩
 | false =>
  obtain⟨mv,s3,a1,a2,a3,a4,a5,a7⟩:=c59 n h2 (by omega) (by omega) hc hc8
  have a1':aCall Tryz.prog (den C (n+9)) 59 [.fn 140 [] [.ref Wd 0,.ref Wr 0]] s2=some (mv,s3):=by
   rw[aCall,if_pos (by kernel_rfl),if_neg (by simp[noRefL_cons,AV.noRef])];exact a1
  have hml:(modsOf f c).length=c:=by simp[modsOf]
  have him:i<((modsOf f c).map modC).length:=by rw[List.length_map,hml];exact hi
  have mvs:mv.strip=mv:=by rcases a2.2 with h'|⟨Q,m,h',_⟩<;>rw[h']<;>rfl
  obtain⟨p,p1,_,p3,p4⟩:=a2.1.at und46 sz45 (by decide) (by decide) him
  rw[List.getElem_map]at p4
  have hie:i<(modsOf f c).length:=by rw[hml];exact hi
  obtain⟨pq,p5,p6,p7⟩:=p4 0 (.str (modsOf f c)[i].1) rfl
  obtain⟨s4,w1,w2,w3,w4,w5,w6,w7⟩:=setnm (modsOf f c)[i].1 a3 a4 a5
  have hm:SL 45 2 s4 mv ((modsOf f c).map modC):=a2.1.fr fun Q off m eq=>by
   obtain⟨cs,hc'⟩:=a2.1.row eq
   refine w7 Q fun e=>?_
   have:=a5.old _ _ _ at2 (by decide) (nR at2 (by decide))
   rw[e,this]at hc';cases hc'
  obtain⟨rv,t1,t2,t3,w,t4,t5,k1,k2,k3,k4,k5,k6,k7,k8,k9,k10,k11,k12,k13,k14,k15,k16,k17,k18,k19,k20⟩:=tail36 n w2 w3 w4 hm (by omega) (by omega) w5 w6 lb (Nat.le_refl _)
  have hcomp:comp f c (q,a,i)=sk (modsOf f c) (modsOf f c)[i].1 q a:=by
   unfold comp;simp only;rw[if_neg (by rw[hq];decide),Int.toNat_natCast,List.getD_eq_getElem?_getD,List.getElem?_eq_getElem hie];rfl
  have hrds:(rds c (q,a,i)).foldl insK3 ds=(readsOf c).foldl insK3 (insK3 ds (0,0,0)):=by unfold rds;simp only;rw[if_neg (by rw[hq];decide)];rfl
  rw[hcomp,hrds]
  have p1:aIndexAddr Tryz.prog 46 mv (.int .i64 i)=some p:=p1
  rw[rd Tryz.func36];conv in compF _ _ _ _ _ _=>cbv
  simp only[strip_rs,strip_mr,strip_nilf,Bool.false_eq_true,if_false,↓kR,kE,kK,sL,C_P,Nat.reduceEqDiff,reduceIte,Tryz.f36,allocS z82 (by decide) ⟨nofun,rfl⟩,allocS z33 (by decide) ⟨nofun,rfl⟩,e1,b33,st2,a58 (n+8) s2 q,hq,rV_cvF,↓rC_seqj,a1',mvs,p1,p5,p6,w1,k1,cFs _ _ (by kernel_rfl:enterable Tryz.prog 22=true),k2,allocS z61 (by decide) ⟨nofun,rfl⟩,k3,k4,k5,k6,k7,k8,k9,k10,k11,k12,k15,k13,List.headD_cons,appK_rs,sL]
  rw[fkc ag82 sz82 (x:=.agg [w,.str (sk (modsOf f c) (modsOf f c)[i].1 q a).2.2]) (by exact k14)]
  exact⟨w,t5,rfl,k16,k17,k18,k19,k20 (a7.to fun cs hR=>(w7 R (fun e=>by have:=a5.old _ _ _ at2 (by decide) (nR at2 (by decide));rw[e,this]at hR;cases hR)).trans hR)⟩
end
end Srv
end

section
namespace Srv
open Go Go.Abs Go.Proofs
section
variable {b:Nat}{s:Heap}{F:Foot}{S M D:Nat}{r:Int}{f:Inp}{g:AV}{o:List AV}{Wd Wr R:Nat}{ver chg:Int}{ds:List K3}
theorem c35 (n:Nat)(h:CS b s F S M D r f g o Wd Wr R ver chg ds)(hn:ds.length+40<n)(hn2:n<800000){c:Nat}(hc:(f (0,0,0)).xs=[(c:Int)])(hc8:c≤8)(q a:Int)(i:Nat)(hi:i<c){Av:Nat}(hAv:s[Av]?=some (54,[.fn 22 [] []])) :
  ∃nv s',den C (n+11) 35 [.agg [I q,I a,I i],.fn 140 [] [.ref Wd 0,.ref Wr 0],.ref Av 0] s=some (.agg [nv,.str (comp f c (q,a,i)).2.2],s')∧NV s' nv ((comp f c (q,a,i)).1::(comp f c (q,a,i)).2.1)∧nv.strip=nv∧CS b s' F S M D r f g o Wd Wr R ver chg ((rds c (q,a,i)).foldl insK3 ds)∧Bel b s s'∧Ok R s s'∧Dz R s':=by
 obtain⟨s1,e1⟩:∃s1,s++[(82,[AV.nils,AV.str []])]=s1:=⟨_,rfl⟩
 have g1:Gr s s1:=e1▸Gr.app ..
 have lA:aLoad false false 1 (.ref Av 0) s1=some (.fn 22 [] [],s1):=ldv (g1.at hAv) (by decide) rfl
 have bk:∀s,aLoad false true 3 (.box [I q,I a,I i] 0) s=some (.agg [I q,I a,I i],s):=fun s=>boxG (n:=3) rfl false s
 obtain⟨nv,s2,c1,c2,c3,c4,c5,c6⟩:=c36 n (h.gr g1) hn hn2 hc hc8 q a i hi
 have c1':aCall Tryz.prog (den C (n+10)) 36 [.fn 22 [] [],.agg [I q,I a,I i],.fn 140 [] [.ref Wd 0,.ref Wr 0]] s1=some (.agg [nv,.str (comp f c (q,a,i)).2.2],s2):=by
  rw[aCall,if_pos (by kernel_rfl),if_neg (by simp[noRefL_cons,AV.noRef])];exact c1
 have at1:s1[s.length]?=some (82,[AV.nils,AV.str []]):=by rw[←e1];exact gapp_new
 have nR:s.length≠R:=fun e=>by
  obtain⟨du,dv,h1,_⟩:=(h.gr g1).res
  rw[←e,at1]at h1;cases h1
 have at2:=c5.old _ _ _ at1 (by decide) nR
 have lb:=h.hb
 have l1:=g1.len
 obtain⟨s3,e3⟩:∃s3,s2.set s.length (82,[nv.strip,AV.str (comp f c (q,a,i)).2.2])=s3:=⟨_,rfl⟩
 have st3:aStore 2 s2 (.ref s.length 0) (.agg [nv,.str (comp f c (q,a,i)).2.2])=some s3:=by
  rw[st (n:=2) at2 (by decide) rfl rfl (by simp),←e3];rfl
 have at3:s3[s.length]?=some (82,[nv.strip,AV.str (comp f c (q,a,i)).2.2]):=by rw[←e3];exact gset_eq at2
 have l3:=ldA (n:=2) (o:=0) at3 (by decide) (by simp) (by decide)
 rw[rd Tryz.func35];conv in compF _ _ _ _ _ _=>cbv
 simp only[strip_rs,strip_mr,strip_nilf,Bool.false_eq_true,if_false,↓kR,kE,kK,sL,C_P,Nat.reduceEqDiff,reduceIte,Tryz.f35,allocS z82 (by decide) ⟨nofun,rfl⟩,e1,lA,bk,c1',st3,sL]
 rw[fkc ag82 sz82 (x:=.agg [nv.strip,.str (comp f c (q,a,i)).2.2]) (by exact l3)]
 refine⟨nv.strip,s3,rfl,c2.strip.fr fun Q m e=>?_,strip2 _,by rw[←e3];exact c3.own at2 lb _,by rw[←e3];exact((g1.bel lb).trans c4).set lb _,by rw[←e3];exact((g1.ok R).trans c5).set (.inl (Nat.le_refl _)) _,c6.to fun cs hR=>by rw[←e3,gset_ne nR];exact hR⟩
 obtain⟨cs,hc'⟩:=c2.strip.row e
 rw[←e3,gset_ne (fun e'=>by rw[←e',at2]at hc';cases hc')]
end
end Srv
end
