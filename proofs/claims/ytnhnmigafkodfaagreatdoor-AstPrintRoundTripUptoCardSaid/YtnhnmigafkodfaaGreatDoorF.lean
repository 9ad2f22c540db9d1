/- ParWk, ParSx, ParS9, ParT, ParT3, ParU, ParV, ParV2, ParV3, ParV4, ParV5 -/
import Derived.Test.YtnhnmigafkodfaaGreatDoorE
set_option linter.all false
set_option maxRecDepth 100000
set_option maxHeartbeats 1000000

section
namespace ParF
open Go Go.Abs Go.Proofs Pm
section
variable {ts:List Tok}{n M:Nat}{J':List Nat}{b:Bool}{l:List (Nat×G)}{rv rv1:Bool→AV}{P:Nat}{rest:List Tok}{base:List Lv}{k:Nat}{cs:List Tree}{J:List Nat}{b0:Bool}{s:Heap}{X:Option (AV×Heap)}
 {h:Nat}{g g1 g2:G}{c c1 c2:Cnd}{f:FuncId}{v:Nat→AV}{a:Nat→List AV}{ar:Nat→List AV}{K:AV→Heap→Option (AV×Heap)}{F:Nat→Nat→Heap→Option (AV×Heap)}
def Rs (b:Bool)(r':List Tok)(c':List Tree):List (Nat×G)→Bool→List Tok→List Tree→Prop
 | [],b0,r,c=>b0=b∧r=r'∧c=c'
 | (h,g)::l,_,r,c=>∃m b1 r1 c1,m≤h∧run m g r c=some (b1,r1,c1)∧Rs b r' c' l b1 r1 c1
theorem Rs.sz {b:Bool}{r':List Tok}{c':List Tree}:∀{l:List (Nat×G)}{b0:Bool}{r:List Tok}{c:List Tree},Rs b r' c' l b0 r c→szL c≤szL c'
 | [],_,_,_,h=>by rw[h.2.2];exact Nat.le_refl _
 | _::_,_,_,_,⟨_,_,_,_,_,h1,h2⟩=>Nat.le_trans (runs_sz (runs_of _ _ _ _ _ _ _ h1)) (Rs.sz h2)
def W (ts:List Tok)(n M:Nat)(l:List (Nat×G))(rv:Bool→AV)(P:Nat)(rest:List Tok)(base:List Lv)(k:Nat)(cs:List Tree)(J:List Nat)(b0:Bool)(s:Heap)(X:Option (AV×Heap)):Prop :=
 M*20+ts.length+119≤n→(∀j≤M,AllS ts j)→∀b r' c',Rs b r' c' l b0 rest cs→base.length+szL c'<900000000→∃s' J',X=some (rv b,s')∧PR ts P s' r' base k c' J'∧Ex s s' J J'
def SimH (ts:List Tok)(g:G)(rv:Bool→AV)(F:Nat→Nat→Heap→Option (AV×Heap)):Prop:=∀m,(∀j<m,AllS ts j)→Sim ts m g rv F
def SimL (ts:List Tok)(g:G)(rv:Bool→AV)(F:Nat→Nat→Heap→Option (AV×Heap)):Prop:=∀m,(∀j≤m,AllS ts j)→SimU ts m g rv F
def SimN (ts:List Tok)(g:G)(rv:Bool→AV)(F:Nat→Nat→Heap→Option (AV×Heap)):Prop:=∀m,(∀j<m,AllS ts j)→SimD 8 ts m g rv F
def SimC (ts:List Tok)(g:G)(rv:Bool→AV)(v:Nat→AV):Prop:=∀m,(∀j<m,AllS ts j)→∀i<m,Sim ts i g rv (cvF v)
theorem SimH.mk (q:∀{n P s rest base k cs J M},PR ts P s rest base k cs J→W ts n M [(M+1,g)] rv P rest base k cs J false s (F (n+1) P s)):SimH ts g rv F:=by
 intro m H n hn P s rest base k cs J b rest' cs' h hr hb
 obtain⟨m,rfl⟩:=run_pos hr
 obtain⟨n,rfl⟩:∃j,n=j+1:=⟨n-1,by omega⟩
 exact q (M:=m) h (by omega) (fun j hj=>H j (by omega)) b rest' cs' ⟨_,_,_,_,Nat.le_refl _,hr,rfl,rfl,rfl⟩ hb
theorem SimH.u (q:SimH ts g rv F)(m:Nat)(H:∀j<m,AllS ts j):Sim ts m g rv F:=q m H
theorem lf (q:SimH ts g rv F):SimL ts g rv F:=fun m H n hn=>q m (fun j hj=>H j (by omega)) n (by omega)
theorem ln (q:SimN ts g rv F):SimL ts g rv F:=fun m H n hn=>q m (fun j hj=>H j (by omega)) n (by omega)
theorem l0 (q:∀m,Sim ts m g rv F):SimL ts g rv F:=fun m _ n hn=>q m n (by omega)
theorem cf (q:SimH ts g rv (fnF f ar))(e:∀P,(ar P).map AV.strip=ar P:=by exact fun _=>rfl):SimC ts g rv (fun P=>.fn f [] (ar P)):=fun m H i hi=>by
 rw[show cvF (fun P=>.fn f [] (ar P))=fnF f ar from funext fun n=>funext fun P=>funext fun s=>by show aCall _ _ _ (List.map AV.strip (ar P)) s=_;rw[e];rfl]
 exact q i fun j hj=>H j (by omega)
theorem mf (q:SimH ts g rv (fnF f ar))(e:∀P,(ar P).map AV.strip=ar P:=by exact fun _=>rfl):SimC ts g rv (fun P=>.fn f (ar P) []):=fun m H i hi=>by
 rw[show cvF (fun P=>.fn f (ar P) [])=fnF f ar from funext fun n=>funext fun P=>funext fun s=>by show aCall _ _ _ (List.map AV.strip (ar P++[]++[])) s=_;rw[List.append_nil,List.append_nil,e];rfl]
 exact q i fun j hj=>H j (by omega)
theorem m0 (q:∀m,Sim ts m g rv (fnF f ar))(e:∀P,(ar P).map AV.strip=ar P:=by exact fun _=>rfl):SimC ts g rv (fun P=>.fn f (ar P) []):=mf (fun m _=>q m) e
theorem nodeN {k:Nat}(q:SimC ts g rv v)(hv:∀P,(v P).strip=v P:=by exact fun _=>rfl):SimN ts (.node k g) vd (fnF 104 fun P=>[.ref P 0,I k,v P]):=fun m H=>node_simD hv (q m H)
theorem wrapN {k:Nat}(q:SimC ts g rv v)(hv:∀P,(v P).strip=v P:=by exact fun _=>rfl):SimN ts (.wrap k g) vd (fnF 240 fun P=>[.ref P 0,I k,v P]):=fun m H=>wrap_simD hv (q m H)
theorem listN {w:Bytes}(q:SimC ts g rv v)(hv:∀P,(v P).strip=v P:=by exact fun _=>rfl):SimN ts (gList w g) vd (fnF 199 fun P=>[.ref P 0,.str w,v P]):=fun m H=>list_simD w hv (q m H)
theorem optL {w:Bytes}(q:SimC ts g rv v)(hv:∀P,(v P).strip=v P:=by exact fun _=>rfl):SimL ts (gOpt w g) vd (fnF 196 fun P=>[.ref P 0,.str w,v P]):=fun m H n hn=>opt_sim w hv (q m fun j hj=>H j (by omega)) n (by omega)
theorem bumpL:SimL ts .bump vd (fnF 107 fun P=>[.ref P 0]):=l0 (bump_sim ts)
theorem identL:SimL ts gIdent vd (fnF 166 fun P=>[.ref P 0]):=l0 (ident_sim ts)
theorem expectL {w:Bytes}:SimL ts (gExpect w) vd (fnF 169 fun P=>[.ref P 0,.str w]):=l0 fun m=>expect_sim ts m w
theorem put46L:SimL ts (.put 46) vd (fnF 211 fun P=>[.ref P 0]):=l0 fun m=>(put_sim ts m).1
theorem put108L:SimL ts (.put 108) vd (fnF 204 fun P=>[.ref P 0]):=l0 fun m=>(put_sim ts m).2.1
theorem put0L:SimL ts (.put 0) vd (fnF 197 fun P=>[.ref P 0]):=l0 fun m=>(put_sim ts m).2.2
theorem aL (q:∀m,AllS ts m→Sim ts m g rv F):SimL ts g rv F:=fun m H n hn=>q m (H m (Nat.le_refl _)) n (by omega)
theorem aC (q:∀m,AllS ts m→Sim ts m g rv (fnF f ar))(e:∀P,(ar P).map AV.strip=ar P:=by exact fun _=>rfl):SimC ts g rv (fun P=>.fn f (ar P) []):=fun m H i hi=>by
 rw[show cvF (fun P=>.fn f (ar P) [])=fnF f ar from funext fun n=>funext fun P=>funext fun s=>by show aCall _ _ _ (List.map AV.strip (ar P++[]++[])) s=_;rw[List.append_nil,List.append_nil,e];rfl]
 exact q i (H i hi)
theorem wd (p:PR ts P s rest base k cs J):W ts n M [] rv P rest base k cs J b0 s (some (rv b0,s)):=by
 rintro _ _ b r' c' ⟨rfl,rfl,rfl⟩ _;exact⟨s,J,rfl,p,.refl s J⟩
theorem wr (q:W ts n M l rv P rest base k cs J b s X):W ts n M ((h,.ret b)::l) rv P rest base k cs J b0 s X:=by
 rintro hn H b r' c' ⟨m,b1,r1,c1,hm,hr,h⟩ hb
 obtain⟨rfl,rfl,rfl⟩:=ret_inv hr
 exact q hn H b r' c' h hb
theorem wx {s':Heap}(x:Ex s s' J J')(q:W ts n M l rv P rest base k cs J' b0 s' X):W ts n M l rv P rest base k cs J b0 s X:=by
 intro hn H b r' c' h hb
 obtain⟨s2,J2,e,p,y⟩:=q hn H b r' c' h hb
 exact⟨s2,J2,e,p,x.trans y⟩
theorem wn (q:ts.length+139≤n→W ts n M ((h,g)::l) rv P rest base k cs J b0 s X)(hh:h≤M:=by omega):W ts n M ((h,g)::l) rv P rest base k cs J b0 s X:=by
 rintro hn H b r' c' h hb
 obtain⟨m,b1,r1,c1,hm,hr,hR⟩:=h
 obtain⟨m,rfl⟩:=run_pos hr
 exact q (by omega) hn H b r' c' ⟨_,b1,r1,c1,hm,hr,hR⟩ hb
theorem wm (q:ts.length+119≤n→W ts n M l rv P rest base k cs J b0 s X):W ts n M l rv P rest base k cs J b0 s X:=fun hn=>q (by omega) hn
theorem wq (q:W ts n M ((M,g1)::(M,g2)::l) rv P rest base k cs J b0 s X)(hh:h≤M+1:=by omega):W ts n M ((h,.seq g1 g2)::l) rv P rest base k cs J b0 s X:=by
 rintro hn H b r' c' ⟨m,b1,r1,c1,hm,hr,h⟩ hb
 obtain⟨m,b2,r2,c2,rfl,h1,h2,_⟩:=seq_inv hr
 exact q hn H b r' c' ⟨m,_,_,_,by omega,h1,m,_,_,_,by omega,h2,h⟩ hb
theorem wif (y:ev c rest=true→W ts n M ((M,g1)::l) rv P rest base k cs J b0 s X)(z:ev c rest=false→W ts n M ((M,g2)::l) rv P rest base k cs J b0 s X)(hh:h≤M+1:=by omega):W ts n M ((h,.ite c g1 g2)::l) rv P rest base k cs J b0 s X:=by
 rintro hn H b r' c' ⟨m,b1,r1,c1,hm,hr,h⟩ hb
 obtain⟨m,rfl,⟨hc,h1⟩|⟨hc,h1⟩⟩:=ite_inv hr
 ·exact y hc hn H b r' c' ⟨m,_,_,_,by omega,h1,h⟩ hb
 ·exact z hc hn H b r' c' ⟨m,_,_,_,by omega,h1,h⟩ hb
theorem wand (y:ev c1 rest=true→W ts n M ((h,.ite c2 g1 g2)::l) rv P rest base k cs J b0 s X)(z:ev c1 rest=false→W ts n M ((M,g2)::l) rv P rest base k cs J b0 s X)(hh:h≤M+1:=by omega):W ts n M ((h,.ite (fun t u v=>c1 t u v&&c2 t u v) g1 g2)::l) rv P rest base k cs J b0 s X:=by
 rintro hn H b r' c' ⟨m,b1,r1,c0,hm,hr,h⟩ hb
 cases h1:ev c1 rest with
 | true =>
  refine y h1 hn H b r' c' ⟨m,_,_,_,hm,?_,h⟩ hb
  obtain⟨m,rfl⟩:=run_pos hr
  rw[run_ite]at hr ⊢
  have e:ev (fun t u v=>c1 t u v&&c2 t u v) rest=ev c2 rest:=by
   show (ev c1 rest&&_)=_;rw[h1,Bool.true_and];rfl
  rw[←e];exact hr
 | false =>
  obtain⟨m,rfl,⟨hc,h2⟩|⟨hc,h2⟩⟩:=ite_inv hr
  ·have hc:(ev c1 rest&&ev c2 rest)=true:=hc
   rw[h1]at hc;cases hc
  ·exact z h1 hn H b r' c' ⟨m,_,_,_,by omega,h2,h⟩ hb
theorem wc (q:SimL ts g rv1 (fnF f a))(p:PR ts P s rest base k cs J)(N:∀{b1 s' J' r1 c1},PR ts P s' r1 base k c1 J'→W ts n M l rv P r1 base k c1 J' b1 s' (K (rv1 b1) s'))(hh:h≤M:=by omega):W ts n M ((h,g)::l) rv P rest base k cs J b0 s (oh (aCall Tryz.prog (den C n) f (a P) s) K):=by
 rintro hn H b r' c' ⟨m,b1,r1,c1,hm,hr,h⟩ hb
 obtain⟨s1,J1,e1,p1,x1⟩:=q m (fun j hj=>H j (by omega)) n (by omega) P s rest base k cs J b1 r1 c1 p hr (by have:=h.sz;omega)
 have e1:aCall Tryz.prog (den C n) f (a P) s=_:=e1
 obtain⟨s2,J2,e2,p2,x2⟩:=N p1 hn H b r' c' h hb
 exact⟨s2,J2,by rw[e1];exact e2,p2,x1.trans x2⟩
theorem w1 (q:SimN ts g rv1 (fnF f a))(p:PR ts P s rest base k cs J)(N:∀{b1 s' J' r1 c1},PR ts P s' r1 base k c1 J'→W ts n M l rv P r1 base k c1 J' b1 s' (K (rv1 b1) s'))(hh:h≤M+1:=by omega):W ts n M ((h,g)::l) rv P rest base k cs J b0 s (oh (aCall Tryz.prog (den C n) f (a P) s) K):=by
 rintro hn H b r' c' ⟨m,b1,r1,c1,hm,hr,h⟩ hb
 obtain⟨s1,J1,e1,p1,x1⟩:=q m (fun j hj=>H j (by omega)) n (by omega) P s rest base k cs J b1 r1 c1 p hr (by have:=h.sz;omega)
 have e1:aCall Tryz.prog (den C n) f (a P) s=_:=e1
 obtain⟨s2,J2,e2,p2,x2⟩:=N p1 hn H b r' c' h hb
 exact⟨s2,J2,by rw[e1];exact e2,p2,x1.trans x2⟩
theorem wrd {w:List Tok→Bool}(q:Rd' 95 ts f a fun r=>.bool (w r))(p:PR ts P s rest base k cs J)(N:∀{s'},PR ts P s' rest base k cs J→Ex s s' J J→W ts n M l rv P rest base k cs J b0 s' (K (.bool (w rest)) s')):W ts n M l rv P rest base k cs J b0 s (oh (aCall Tryz.prog (den C n) f (a P) s) K):=by
 intro hn H b r' c' h hb
 obtain⟨s1,e1,p1,x1⟩:=q.use (n:=n) (by omega) p
 exact wx (X:=oh (aCall Tryz.prog (den C n) f (a P) s) K) x1 (by rw[e1];exact N p1 x1) hn H b r' c' h hb
theorem atR {w:List Bytes}(hl:w.length<50:=by decide):Rd' 95 ts 100 (fun P=>[.ref P 0,strs w]) fun r=>.bool (ev (rAt w) r):=fun n hn=>at_rd w hl n (by omega)
theorem idR:Rd' 95 ts 201 (fun P=>[.ref P 0]) fun r=>.bool (ev rId r):=fun n hn=>ident_rd ts n (by omega)
theorem armR:Rd' 95 ts 308 (fun P=>[.ref P 0]) fun r=>.bool (ev (fun t _ _=>t.1==103 || t.1==105 || atT [wTrue,wFalse,wMut] t) r):=fun n hn=>arm_rd ts n (by omega)
theorem wi (q:Rd' 95 ts f a fun r=>.bool (ev c r))(p:PR ts P s rest base k cs J)
  (y:∀{s'},PR ts P s' rest base k cs J→Ex s s' J J→W ts n M ((M,g1)::l) rv P rest base k cs J b0 s' (K (.bool true) s'))
  (z:∀{s'},PR ts P s' rest base k cs J→Ex s s' J J→W ts n M ((M,g2)::l) rv P rest base k cs J b0 s' (K (.bool false) s'))(hh:h≤M+1:=by omega):W ts n M ((h,.ite c g1 g2)::l) rv P rest base k cs J b0 s (oh (aCall Tryz.prog (den C n) f (a P) s) K) :=
 wrd q p fun p x=>wif (fun e=>by rw[e];exact y p x) (fun e=>by rw[e];exact z p x) hh
theorem wia (q:Rd' 95 ts f a fun r=>.bool (ev c1 r))(p:PR ts P s rest base k cs J)
  (y:∀{s'},PR ts P s' rest base k cs J→Ex s s' J J→W ts n M ((h,.ite c2 g1 g2)::l) rv P rest base k cs J b0 s' (K (.bool true) s'))
  (z:∀{s'},PR ts P s' rest base k cs J→Ex s s' J J→W ts n M ((M,g2)::l) rv P rest base k cs J b0 s' (K (.bool false) s'))(hh:h≤M+1:=by omega):W ts n M ((h,.ite (fun t u v=>c1 t u v&&c2 t u v) g1 g2)::l) rv P rest base k cs J b0 s (oh (aCall Tryz.prog (den C n) f (a P) s) K) :=
 wrd q p fun p x=>wand (fun e=>by rw[e];exact y p x) (fun e=>by rw[e];exact z p x) hh
theorem wa {w:List Bytes}(p:PR ts P s rest base k cs J)
  (y:∀{b1 s' J' r1 c1},PR ts P s' r1 base k c1 J'→W ts n M ((M,g1)::l) rv P r1 base k c1 J' b1 s' (K (.bool true) s'))
  (z:∀{s'},PR ts P s' rest base k cs J→W ts n M ((M,g2)::l) rv P rest base k cs J b0 s' (K (.bool false) s'))(hh:h≤M+1:=by omega)(hl:w.length<50:=by decide):W ts n M ((h,.ite (rAt w) (.seq .bump g1) g2)::l) rv P rest base k cs J b0 s (oh (aCall Tryz.prog (den C n) 106 [.ref P 0,strs w] s) K):=by
 rintro hn H b r' c' ⟨m,b1,r1,c1,hm,hr,h⟩ hb
 obtain⟨m,rfl,⟨hc,h1⟩|⟨hc,h1⟩⟩:=ite_inv hr
 ·obtain⟨m,b2,r2,c2,rfl,h1,h2,hz⟩:=seq_inv h1
  obtain⟨s1,J1,e1,p1,x1⟩:=acc_yes w hl (n:=n) (by omega) p hc h1 (by have:=h.sz;omega)
  exact wx (l:=(M,g1)::l) (b0:=b2) x1 (by rw[e1];exact y p1) hn H b r' c' ⟨m,_,_,_,by omega,h2,h⟩ hb
 ·obtain⟨s1,e1,p1,x1⟩:=acc_no w hl (n:=n) (by omega) p hc
  exact wx (l:=(M,g2)::l) (b0:=b0) x1 (by rw[e1];exact z p1) hn H b r' c' ⟨m,_,_,_,by omega,h1,h⟩ hb
theorem wl {F:(Env→Heap→Ans)→Env→Heap→Ans}{inv:Env→Prop}{w:Nat}
  (body:∀{h j e s rest cs J b0},h≤M→PR ts P s rest base k cs J→inv e→(∀{e' s' r1 c1 J' b1},inv e'→PR ts P s' r1 base k c1 J'→W ts n M ((h,.whil c g)::l) rv P r1 base k c1 J' b1 s' (aLoop F j e' s'))→W ts n M ((h+1,.whil c g)::l) rv P rest base k cs J b0 s (F (aLoop F j) e s)) :
  ∀{h e s rest cs J b0},h≤M+1→(M*20+ts.length+119≤n→h<w)→inv e→PR ts P s rest base k cs J→W ts n M ((h,.whil c g)::l) rv P rest base k cs J b0 s (aLoop F w e s):=by
 intro h
 induction h generalizing w with
 | zero =>
  rintro e s rest cs J b0 _ _ _ _ hn H b r' c' ⟨m,b1,r1,c1,hm,hr,h⟩ hb
  obtain⟨m,rfl⟩:=run_pos hr
  omega
 | succ h ih =>
  intro e s rest cs J b0 h1 h2 hi p hn
  obtain⟨w,rfl⟩:∃j,w=j+1:=⟨w-1,by have:=h2 hn;omega⟩
  rw[aLoop]
  exact body (by omega) p hi (fun hi p=>ih (by omega) (fun hn=>by have:=h2 hn;omega) hi p) hn
theorem wwh (hv:valF g=true)(y:ev c rest=true→W ts n M ((h,g)::(h,.whil c g)::l) rv P rest base k cs J b0 s X)(z:ev c rest=false→W ts n M l rv P rest base k cs J false s X):W ts n M ((h+1,.whil c g)::l) rv P rest base k cs J b0 s X:=by
 rintro hn H b r' c' ⟨m,b1,r1,c1,hm,hr,h⟩ hb
 obtain⟨m,rfl,⟨hc,rfl,rfl,rfl⟩|⟨hc,h1,rfl⟩|⟨hc,t1,c2,h1,h2,-⟩⟩:=whil_inv hr
 ·exact z hc hn H b r' c' h hb
 ·cases val_false hv h1
 ·exact y hc hn H b r' c' ⟨m,_,_,_,by omega,h1,m,_,_,_,by omega,h2,h⟩ hb
theorem wwt {q:Nat×G}(y:ev c rest=true→W ts n M ((h,g)::q::l) rv P rest base k cs J b0 s X)(z:ev c rest=false→W ts n M (q::l) rv P rest base k cs J false s X):W ts n M ((h+1,.whil c (.seq g (.ret true)))::q::l) rv P rest base k cs J b0 s X:=by
 rintro hn H b r' c' ⟨m,b1,r1,c1,hm,hr,h⟩ hb
 obtain⟨m,rfl,⟨hc,rfl,rfl,rfl⟩|⟨hc,h1,rfl⟩|⟨hc,t1,c2,h1,h2,-⟩⟩:=whil_inv hr
 ·exact z hc hn H b r' c' h hb
 ·obtain⟨m,b2,r2,c3,rfl,h3,h4,hz⟩:=seq_inv h1
  obtain⟨-,rfl,rfl⟩:=ret_inv h4
  exact y hc hn H b r' c' ⟨m,_,_,_,by omega,h3,h⟩ hb
 ·obtain⟨m,b2,r2,c3,rfl,h3,h4,hz⟩:=seq_inv h1
  cases(ret_inv h4).1
theorem wwi (hv:valF g=true)(q:Rd' 95 ts f a fun r=>.bool (ev c r))(p:PR ts P s rest base k cs J)
  (y:∀{s'},PR ts P s' rest base k cs J→W ts n M ((h,g)::(h,.whil c g)::l) rv P rest base k cs J b0 s' (K (.bool true) s'))
  (z:∀{s'},PR ts P s' rest base k cs J→W ts n M l rv P rest base k cs J false s' (K (.bool false) s')):W ts n M ((h+1,.whil c g)::l) rv P rest base k cs J b0 s (oh (aCall Tryz.prog (den C n) f (a P) s) K) :=
 wrd q p fun p x=>wwh hv (fun e=>by rw[e];exact y p) (fun e=>by rw[e];exact z p)
theorem wwa {w:List Bytes}(hv:valF g=true)(p:PR ts P s rest base k cs J)
  (y:∀{b1 s' J' r1 c1},PR ts P s' r1 base k c1 J'→W ts n M ((h,g)::(h,.whil (rAt w) (.seq .bump g))::l) rv P r1 base k c1 J' b1 s' (K (.bool true) s'))
  (z:∀{s'},PR ts P s' rest base k cs J→W ts n M l rv P rest base k cs J false s' (K (.bool false) s'))(hh:h≤M:=by omega)(hl:w.length<50:=by decide):W ts n M ((h+1,.whil (rAt w) (.seq .bump g))::l) rv P rest base k cs J b0 s (oh (aCall Tryz.prog (den C n) 106 [.ref P 0,strs w] s) K):=by
 rintro hn H b r' c' ⟨m,b1,r1,c1,hm,hr,h⟩ hb
 obtain⟨m,rfl,⟨hc,rfl,rfl,rfl⟩|⟨hc,h1,rfl⟩|⟨hc,t1,c2,h1,h2,-⟩⟩:=whil_inv hr
 ·obtain⟨s1,e1,p1,x1⟩:=acc_no w hl (n:=n) (by omega) p hc
  exact wx (l:=l) (b0:=false) x1 (by rw[e1];exact z p1) hn H b r' c' h hb
 ·cases val_false (g:=.seq .bump g) hv h1
 ·obtain⟨m,b2,r2,c3,rfl,h3,h4,hz⟩:=seq_inv h1
  have hh:=(show Rs b r' c' ((_,g)::(_,.whil (rAt w) (.seq .bump g))::l) b2 r2 c3 from⟨m,_,_,_,Nat.le_refl _,h4,m+1,_,_,_,Nat.le_refl _,h2,h⟩)
  obtain⟨s1,J1,e1,p1,x1⟩:=acc_yes w hl (n:=n) (by omega) p hc h3 (by have:=hh.sz;omega)
  exact wx (l:=(_,g)::(_,.whil (rAt w) (.seq .bump g))::l) (b0:=b2) x1 (by rw[e1];exact y p1) hn H b r' c' ⟨m,_,_,_,by omega,h4,m+1,_,_,_,by omega,h2,h⟩ hb
theorem wla (w:List Bytes)(p:PR ts P s rest base k cs J)(N:∀{Q s1 s2},aCall Tryz.prog (den C n) 101 [.ref P 0] s=some (.ref Q 0,s1)→aCall Tryz.prog (den C n) 100 [.ref Q 0,strs w] s1=some (.bool (atT w (pk (la rest))),s2)→PR ts P s2 rest base k cs J→Ex s s2 J J→W ts n M ((h,g)::l) rv P rest base k cs J b0 s2 X)
  (hl:w.length<50:=by decide)(hh:h≤M:=by omega):W ts n M ((h,g)::l) rv P rest base k cs J b0 s X :=
 wn (fun hn=>by
  obtain⟨s1,Q,s2,e1,e2,p2,x2⟩:=look_at (n:=n) w hl (by omega) p
  exact wx x2 (N e1 e2 p2 x2)) hh
theorem wli (p:PR ts P s rest base k cs J)(N:∀{Q s1 s2},aCall Tryz.prog (den C n) 101 [.ref P 0] s=some (.ref Q 0,s1)→aCall Tryz.prog (den C n) 201 [.ref Q 0] s1=some (.bool ((pk (la rest)).1==103),s2)→PR ts P s2 rest base k cs J→Ex s s2 J J→W ts n M ((h,g)::l) rv P rest base k cs J b0 s2 X)
  (hh:h≤M:=by omega):W ts n M ((h,g)::l) rv P rest base k cs J b0 s X :=
 wn (fun hn=>by
  obtain⟨s1,Q,s2,e1,e2,p2,x2⟩:=look_id (n:=n) (by omega) p
  exact wx x2 (N e1 e2 p2 x2)) hh
theorem wlp (p:PR ts P s rest base k cs J)(N:∀{Q s1 s2 s3 R s4},aCall Tryz.prog (den C n) 101 [.ref P 0] s=some (.ref Q 0,s1)→aCall Tryz.prog (den C n) 201 [.ref Q 0] s1=some (.bool ((pk (la rest)).1==103),s2)→aCall Tryz.prog (den C n) 101 [.ref Q 0] s2=some (.ref R 0,s3)→aCall Tryz.prog (den C n) 100 [.ref R 0,.sl 9 1 [.str [40]] .sh] s3=some (.bool (atT [wLPar] (pk (la (la rest)))),s4)→PR ts P s4 rest base k cs J→Ex s s4 J J→W ts n M ((h,g)::l) rv P rest base k cs J b0 s4 X)
  (hh:h≤M:=by omega):W ts n M ((h,g)::l) rv P rest base k cs J b0 s X :=
 wn (fun hn=>by
  obtain⟨s1,Q,s2,s3,R,s4,e1,e2,e3,e4,p2,x2⟩:=look_post (n:=n) (by omega) p
  exact wx x2 (N e1 e2 e3 e4 p2 x2)) hh
theorem wpk (p:PR ts P s rest base k cs J)(N:∀{sp s2},aCall Tryz.prog (den C n) 99 [.ref P 0] s=some (tokA (pk rest),sp)→aStore 2 (sp++[(53,[I 0,.str []])]) (.ref sp.length 0) (tokA (pk rest))=some s2→PR ts P s2 rest base k cs J→Ex s s2 J J →
   s2[sp.length]?=some (53,[I (pk rest).1,.str (pk rest).2])→sp.length<s2.length→sp.length∉J→W ts n M l rv P rest base k cs J b0 s2 X):W ts n M l rv P rest base k cs J b0 s X:=by
 intro hn H b r' c' h hb
 obtain⟨sp,s2,L,e1,e2,p2,x2,c1,c2,c3,rfl⟩:=peek_cell (n:=n) (by omega) p
 exact wx x2 (N e1 e2 p2 x2 c1 c2 c3) hn H b r' c' h hb
theorem ldk {i:Nat}{x:Int}{y:Bytes}(h:s[i]?=some (53,[I x,.str y])):aLoad false false 1 (.ref i 0) s=some (I x,s):=ld (o:=0) h (by decide) rfl (by decide)
theorem ldt {i:Nat}{x:Int}{y:Bytes}(h:s[i]?=some (53,[I x,.str y])):aLoad false false 1 (.ref i 1) s=some (.str y,s):=ld (o:=1) h (by decide) rfl (by decide)
def sB:=And.intro sW <| And.intro sL <| And.intro @bs1 <| And.intro @bs2 <| And.intro @bs3 <| And.intro @strip_own <| And.intro @aBox_ref <| And.intro @aBox_str <| And.intro @aBox_bool <| @aBox_int
end
end ParF
end

section
namespace ParF
open Go Go.Abs Go.Proofs Pm
theorem tyL {ts:List Tok}:SimL ts (.call 0) vd (fnF 170 fun P=>[.ref P 0]):=aL fun _ h=>h.ty
theorem blL {ts:List Tok}:SimL ts (.call 1) vd (fnF 198 fun P=>[.ref P 0]):=aL fun _ h=>h.bl
theorem prL {ts:List Tok}:SimL ts (.call 4) vd (fnF 267 fun P=>[.ref P 0]):=aL fun _ h=>h.pr
theorem paL {ts:List Tok}:SimL ts (.call 5) vd (fnF 288 fun P=>[.ref P 0]):=aL fun _ h=>h.pa
theorem ixL {ts:List Tok}:SimL ts (.call 6) vd (fnF 292 fun P=>[.ref P 0]):=aL fun _ h=>h.ix
theorem exL {ts:List Tok}:SimL ts (.call 10) vd (fnF 171 fun P=>[.ref P 0]):=aL fun _ h=>h.ex
theorem unL {ts:List Tok}:SimL ts (.call 15) vd (fnF 238 fun P=>[.ref P 0]):=aL fun _ h=>h.un
theorem tyC {ts:List Tok}:SimC ts (.call 0) vd (fun P=>.fn 170 [.ref P 0] []):=aC fun _ h=>h.ty
theorem exC {ts:List Tok}:SimC ts (.call 10) vd (fun P=>.fn 171 [.ref P 0] []):=aC fun _ h=>h.ex
theorem paC {ts:List Tok}:SimC ts (.call 5) vd (fun P=>.fn 288 [.ref P 0] []):=aC fun _ h=>h.pa
theorem s244 {ts:List Tok}:SimH ts (.seq .bump (gOpt wColon (.call 0))) vd (fnF 215 fun P=>[.box [.ref P 0] 0]):=.mk fun p=>by
 unfold fnF;rw[callR en215 (box1 ..),F215_eq,F215];simp only[↓sW,sB]
 exact wq (wc bumpL p fun p=>wc (optL tyC) p fun p=>wd p)
theorem s243 {ts:List Tok}:SimH ts (gParam) vd (fnF 214 fun P=>[.box [.ref P 0] 0]):=.mk fun p=>by
 unfold fnF;rw[callR en214 (box1 ..),F214_eq,F214];simp only[↓sW,sB]
 exact wi idR p (fun p x=>by simp only[↓sW,sB];exact w1 (nodeN (cf s244)) p fun p=>wd p) fun p x=>by simp only[↓sW,sB];exact wr (wd p)
theorem s242 {ts:List Tok}{cl:Bytes}:SimH ts (gList cl gParam) vd (fnF 213 fun P=>[.box [.ref P 0] 0,.box [.str cl] 0]):=.mk fun p=>by
 unfold fnF;rw[callR en213 (box1 ..),F213_eq,F213];simp only[↓sW,sB]
 exact w1 (listN (cf s243)) p fun p=>wd p
theorem s187 {ts:List Tok}{cl:Bytes}:SimH ts (gParams cl) vd (fnF 172 fun P=>[.ref P 0,.str cl]):=.mk fun p=>by
 unfold fnF;rw[callR en172 (ref1 ..),F172_eq,F172];simp only[↓sW,sB]
 exact w1 (nodeN (cf s242)) p fun p=>wd p
theorem s284t {ts:List Tok}:SimH ts (.seq gIdent (gIf [wLt] (gList wGt (.call 0)))) vd (fnF 237 fun P=>[.box [.ref P 0] 0,.box [.bool true] 0]):=.mk fun p=>by
 unfold fnF;rw[callR en237 (box1 ..),F237_eq,F237];simp only[↓sW,sB]
 exact wq (wc identL p fun p=>wa p (fun p=>by simp only[↓sW,sB];exact w1 (listN tyC) p fun p=>wd p) fun p=>by simp only[↓sW,sB];exact wr (wd p))
theorem s284f {ts:List Tok}:SimH ts (.seq gIdent nop) vd (fnF 237 fun P=>[.box [.ref P 0] 0,.box [.bool false] 0]):=.mk fun p=>by
 unfold fnF;rw[callR en237 (box1 ..),F237_eq,F237];simp only[↓sW,sB]
 exact wq (wc identL p fun p=>wr (wd p))
theorem segN {ts:List Tok}{ty:Bool}:SimN ts (gSeg ty) vd (fnF 104 fun P=>[.ref P 0,.int .i64 18,.fn 237 [] [.box [.ref P 0] 0,.box [.bool ty] 0]]):=by
 cases ty with
 | true=>exact nodeN (cf s284t)
 | false=>exact nodeN (cf s284f)
theorem s283 {ts:List Tok}{ty:Bool}:SimH ts (.seq (gSeg ty) (.whil (rAt [wColCol]) (.seq .bump (gSeg ty)))) vd (fnF 236 fun P=>[.box [.ref P 0] 0,.box [.bool ty] 0]):=.mk fun {n P s rest base k cs J M} p=>by
 have f0:upds (argEnv [.box [.ref P 0] 0,.box [.bool ty] 0]) [(2,.bool true)] 0=.box [.ref P 0] 0:=rfl
 have f1:upds (argEnv [.box [.ref P 0] 0,.box [.bool ty] 0]) [(2,.bool true)] 1=.box [.bool ty] 0:=rfl
 have f2:upds (argEnv [.box [.ref P 0] 0,.box [.bool ty] 0]) [(2,.bool true)] 2=.bool true:=rfl
 refine wm fun hn=>?_
 obtain⟨j,rfl⟩:∃j,n=j+1:=⟨n-1,by omega⟩
 unfold fnF;rw[callR en236 (box1 ..),F236_eq,F236];simp only[↓sW,sB];rw[aLoop,F236_L0];simp only[↓sW,sB,f0,f1,f2]
 exact wq (w1 segN p fun p=>wl (F:=F236_L0 (den C (j+1)) (j+1)) (inv:=fun e=>e 0=.box [.ref P 0] 0∧e 1=.box [.bool ty] 0∧e 2=.bool false) (fun hm p ⟨h0,h1,h2⟩ ih=>by
  rw[F236_L0];simp only[↓sW,sB,h0,h1,h2]
  exact wwa (by cases ty<;>rfl) p (fun p=>by simp only[↓sW,sB];exact w1 segN p fun p=>ih ⟨(upds_get _ _ _ rfl).trans h0,(upds_get _ _ _ rfl).trans h1,by simp[upds_at,upd_at]⟩ p) fun p=>by simp only[↓sW,sB];exact wd p) (by omega) (by omega) ⟨(upds_get _ _ _ rfl).trans f0,(upds_get _ _ _ rfl).trans f1,by simp[upds_at,upd_at]⟩ p)
theorem s239 {ts:List Tok}{ty:Bool}:SimH ts (gPath ty) vd (fnF 210 fun P=>[.ref P 0,.bool ty]):=.mk fun p=>by
 unfold fnF;rw[callR en210 (ref1 ..),F210_eq,F210];simp only[↓sW,sB]
 exact w1 (nodeN (cf s283)) p fun p=>wd p
theorem s237 {ts:List Tok}:SimH ts (.seq .bump (.seq (gIf [wMut] nop) (.call 0))) vd (fnF 208 fun P=>[.box [.ref P 0] 0]):=.mk fun p=>by
 unfold fnF;rw[callR en208 (box1 ..),F208_eq,F208];simp only[↓sW,sB]
 exact wq (wc bumpL p fun p=>wq (wa p (fun p=>wr (wc tyL p fun p=>wd p)) fun p=>wr (wc tyL p fun p=>wd p)))
theorem s238 {ts:List Tok}:SimH ts (.seq .bump (.seq (gExpect wLPar) (.seq (gList wRPar (.call 0)) (gOpt wArrow (.call 0))))) vd (fnF 209 fun P=>[.box [.ref P 0] 0]):=.mk fun p=>by
 unfold fnF;rw[callR en209 (box1 ..),F209_eq,F209];simp only[↓sW,sB]
 exact wq (wc bumpL p fun p=>wq (wc expectL p fun p=>wq (w1 (listN tyC) p fun p=>wc (optL tyC) p fun p=>wd p)))
theorem s185 {ts:List Tok}:SimH ts (gType) vd (fnF 170 fun P=>[.ref P 0]):=.mk fun p=>by
 unfold fnF;rw[callR en170 (ref1 ..),F170_eq,F170];simp only[↓sW,sB]
 exact wi atR p (fun p x=>by simp only[↓sW,sB];exact w1 (nodeN (cf s237)) p fun p=>wd p) fun p x=>by simp only[↓sW,sB];exact wi atR p (fun p x=>by simp only[↓sW,sB];exact w1 (nodeN (cf s238)) p fun p=>wd p) fun p x=>by simp only[↓sW,sB];exact wi idR p (fun p x=>by simp only[↓sW,sB];exact wc (lf s239) p fun p=>wd p) fun p x=>by simp only[↓sW,sB];exact wc put46L p fun p=>wd p
theorem s314 {ts:List Tok}:SimH ts (.seq .bump (gIf [wColon] (.seq (gPath true) (.whil (rAt [wPlus]) (.seq .bump (gPath true)))))) vd (fnF 263 fun P=>[.box [.ref P 0] 0]):=.mk fun {n P s rest base k cs J M} p=>by
 unfold fnF;rw[callR en263 (box1 ..),F263_eq,F263];simp only[↓sW,sB]
 exact wq (wc bumpL p fun p=>wa p (fun p=>by
  simp only[↓sW,sB]
  exact wq (wc (lf s239) p fun p=>wl (F:=F263_L1 (den C n) n) (inv:=fun e=>e 0=.box [.ref P 0] 0) (fun hm p h0 ih=>by
   rw[F263_L1];simp only[↓sW,sB,h0]
   exact wwa rfl p (fun p=>by simp only[↓sW,sB];exact wc (lf s239) p fun p=>ih ((upds_get _ _ _ rfl).trans h0) p) fun p=>by simp only[↓sW,sB];exact wd p) (by omega) (by omega) rfl p)) fun p=>by simp only[↓sW,sB];exact wr (wd p))
theorem s276 {ts:List Tok}:SimH ts (gTypeParam) vd (fnF 229 fun P=>[.ref P 0]):=.mk fun p=>by
 unfold fnF;rw[callR en229 (ref1 ..),F229_eq,F229];simp only[↓sW,sB]
 exact wi idR p (fun p x=>by simp only[↓sW,sB];exact w1 (nodeN (cf s314)) p fun p=>wd p) fun p x=>by simp only[↓sW,sB];exact wr (wd p)
theorem s275 {ts:List Tok}:SimH ts (gIf [wLt] (gList wGt gTypeParam)) vd (fnF 228 fun P=>[.box [.ref P 0] 0]):=.mk fun p=>by
 unfold fnF;rw[callR en228 (box1 ..),F228_eq,F228];simp only[↓sW,sB]
 exact wa p (fun p=>by simp only[↓sW,sB];exact w1 (listN (mf s276)) p fun p=>wd p) fun p=>by simp only[↓sW,sB];exact wr (wd p)
theorem s224 {ts:List Tok}:SimH ts (gTypeParams) vd (fnF 195 fun P=>[.ref P 0]):=.mk fun p=>by
 unfold fnF;rw[callR en195 (ref1 ..),F195_eq,F195];simp only[↓sW,sB]
 exact w1 (nodeN (cf s275)) p fun p=>wd p
theorem s231 {ts:List Tok}:SimH ts (.seq .bump (.seq (gExpect wColon) (.call 0))) vd (fnF 202 fun P=>[.box [.ref P 0] 0]):=.mk fun p=>by
 unfold fnF;rw[callR en202 (box1 ..),F202_eq,F202];simp only[↓sW,sB]
 exact wq (wc bumpL p fun p=>wq (wc expectL p fun p=>wc tyL p fun p=>wd p))
theorem s232 {ts:List Tok}:SimH ts (.seq .bump (gIf [wLPar] (gList wRPar (.call 0)))) vd (fnF 203 fun P=>[.box [.ref P 0] 0]):=.mk fun p=>by
 unfold fnF;rw[callR en203 (box1 ..),F203_eq,F203];simp only[↓sW,sB]
 exact wq (wc bumpL p fun p=>wa p (fun p=>by simp only[↓sW,sB];exact w1 (listN tyC) p fun p=>wd p) fun p=>by simp only[↓sW,sB];exact wr (wd p))
theorem s229t {ts:List Tok}:SimH ts (.ite rId gField nop) vd (fnF 200 fun P=>[.box [.ref P 0] 0,.box [.int .i64 4] 0]):=.mk fun p=>by
 unfold fnF;rw[callR en200 (box1 ..),F200_eq,F200];simp only[↓sW,sB,bin_eql,show ((4:Int)==4)=true from rfl]
 exact wi idR p (fun p x=>by simp only[↓sW,sB];exact w1 (nodeN (cf s231)) p fun p=>wd p) fun p x=>by simp only[↓sW,sB];exact wr (wd p)
theorem s229f {ts:List Tok}:SimH ts (.ite rId gVariant nop) vd (fnF 200 fun P=>[.box [.ref P 0] 0,.box [.int .i64 5] 0]):=.mk fun p=>by
 unfold fnF;rw[callR en200 (box1 ..),F200_eq,F200];simp only[↓sW,sB,bin_eql,show ((5:Int)==4)=false from rfl]
 exact wi idR p (fun p x=>by simp only[↓sW,sB];exact w1 (nodeN (cf s232)) p fun p=>wd p) fun p x=>by simp only[↓sW,sB];exact wr (wd p)
theorem s180t {ts:List Tok}:SimH ts (gData true) vd (fnF 165 fun P=>[.ref P 0,.int .i64 4]):=.mk fun p=>by
 unfold fnF;rw[callR en165 (ref1 ..),F165_eq,F165];simp only[↓sW,sB]
 exact wq (wc identL p fun p=>wq (wc (lf s224) p fun p=>wq (wc expectL p fun p=>w1 (listN (cf s229t)) p fun p=>wd p)))
theorem s180f {ts:List Tok}:SimH ts (gData false) vd (fnF 165 fun P=>[.ref P 0,.int .i64 5]):=.mk fun p=>by
 unfold fnF;rw[callR en165 (ref1 ..),F165_eq,F165];simp only[↓sW,sB]
 exact wq (wc identL p fun p=>wq (wc (lf s224) p fun p=>wq (wc expectL p fun p=>w1 (listN (cf s229f)) p fun p=>wd p)))
theorem s179t {ts:List Tok}:SimH ts (gFunction true) vd (fnF 164 fun P=>[.ref P 0,.bool true]):=.mk fun p=>by
 unfold fnF;rw[callR en164 (ref1 ..),F164_eq,F164];simp only[↓sW,sB]
 exact wq (wc identL p fun p=>wq (wc (lf s224) p fun p=>wq (wc expectL p fun p=>wq (wc (lf s187) p fun p=>wq (wc (optL tyC) p fun p=>wc blL p fun p=>wd p)))))
theorem s179f {ts:List Tok}:SimH ts (gFunction false) vd (fnF 164 fun P=>[.ref P 0,.bool false]):=.mk fun p=>by
 unfold fnF;rw[callR en164 (ref1 ..),F164_eq,F164];simp only[↓sW,sB]
 exact wq (wc identL p fun p=>wq (wc (lf s224) p fun p=>wq (wc expectL p fun p=>wq (wc (lf s187) p fun p=>wq (wc (optL tyC) p fun p=>wa p (fun p=>by simp only[↓sW,sB];exact wc put0L p fun p=>wd p) fun p=>by simp only[↓sW,sB];exact wc blL p fun p=>wd p)))))
theorem s234 {ts:List Tok}:SimH ts (.seq .bump (.seq (gFunction false) nop)) vd (fnF 205 fun P=>[.box [.ref P 0] 0]):=.mk fun p=>by
 unfold fnF;rw[callR en205 (box1 ..),F205_eq,F205];simp only[↓sW,sB]
 exact wq (wc bumpL p fun p=>wq (wc (lf s179f) p fun p=>wr (wd p)))
theorem s235 {ts:List Tok}:SimH ts (.seq .bump (.seq gIdent (.seq (gOpt wEq (.call 0)) (gExpect wSemi)))) vd (fnF 206 fun P=>[.box [.ref P 0] 0]):=.mk fun p=>by
 unfold fnF;rw[callR en206 (box1 ..),F206_eq,F206];simp only[↓sW,sB]
 exact wq (wc bumpL p fun p=>wq (wc identL p fun p=>wq (wc (optL tyC) p fun p=>wc expectL p fun p=>wd p)))
theorem s315 {ts:List Tok}:SimH ts (.seq .bump (.seq (.call 5) (.seq (gOpt wColon (.call 0)) (.seq (gExpect wEq) (.seq (.call 10) (gExpect wSemi)))))) vd (fnF 264 fun P=>[.ref P 0]):=.mk fun p=>by
 unfold fnF;rw[callR en264 (ref1 ..),F264_eq,F264];simp only[↓sW,sB]
 exact wq (wc bumpL p fun p=>wq (wc paL p fun p=>wq (wc (optL tyC) p fun p=>wq (wc expectL p fun p=>wq (wc exL p fun p=>wc expectL p fun p=>wd p)))))
theorem s316 {ts:List Tok}:SimH ts (.seq .bump (.seq (.call 10) (.call 1))) vd (fnF 265 fun P=>[.box [.ref P 0] 0]):=.mk fun p=>by
 unfold fnF;rw[callR en265 (box1 ..),F265_eq,F265];simp only[↓sW,sB]
 exact wq (wc bumpL p fun p=>wq (wc exL p fun p=>wc blL p fun p=>wd p))
theorem zne (n:Nat):((0:Nat)=n+1)=False:=by simp
theorem s317 {ts:List Tok}:SimH ts (.seq .bump (.seq (.ite (rAt [wSemi]) (.put 0) (.call 10)) (gExpect wSemi))) vd (fnF 266 fun P=>[.ref P 0]):=.mk fun p=>by
 unfold fnF;rw[callR en266 (ref1 ..),F266_eq,F266];simp only[↓sW,sB]
 exact wq (wc bumpL p fun p=>wq (wi atR p (fun p x=>by simp only[↓sW,sB,F266_J0,upds_at,upds_nil,upd_at,argEnv_0,argEnv_1,ite_false,ite_true,zne];exact wc put0L p fun p=>wc expectL p fun p=>wd p) fun p x=>by simp only[↓sW,sB,F266_J0,upds_at,upds_nil,upd_at,argEnv_0,argEnv_1,ite_false,ite_true,zne];exact wc exL p fun p=>wc expectL p fun p=>wd p))
theorem s319 {ts:List Tok}:SimH ts (.seq .bump (.seq (.call 10) (gExpect wSemi))) vd (fnF 268 fun P=>[.box [.ref P 0] 0]):=.mk fun p=>by
 unfold fnF;rw[callR en268 (box1 ..),F268_eq,F268];simp only[↓sW,sB]
 exact wq (wc bumpL p fun p=>wq (wc exL p fun p=>wc expectL p fun p=>wd p))
theorem s336 {ts:List Tok}:SimH ts (gArgs) vd (fnF 290 fun P=>[.ref P 0]):=.mk fun p=>by
 unfold fnF;rw[callR en290 (ref1 ..),F290_eq,F290];simp only[↓sW,sB]
 exact wq (wc bumpL p fun p=>w1 (listN exC) p fun p=>wd p)
theorem s335 {ts:List Tok}:SimH ts (.seq .bump gArgs) vd (fnF 289 fun P=>[.box [.ref P 0] 0]):=.mk fun p=>by
 unfold fnF;rw[callR en289 (box1 ..),F289_eq,F289];simp only[↓sW,sB]
 exact wq (wc bumpL p fun p=>wc (lf s336) p fun p=>wd p)
theorem s343 {ts:List Tok}:SimH ts (.seq .bump (.seq .bump gArgs)) vd (fnF 297 fun P=>[.box [.ref P 0] 0]):=.mk fun p=>by
 unfold fnF;rw[callR en297 (box1 ..),F297_eq,F297];simp only[↓sW,sB]
 exact wq (wc bumpL p fun p=>wq (wc bumpL p fun p=>wc (lf s336) p fun p=>wd p))
theorem s344 {ts:List Tok}:SimH ts (.seq .bump gIdent) vd (fnF 298 fun P=>[.box [.ref P 0] 0]):=.mk fun p=>by
 unfold fnF;rw[callR en298 (box1 ..),F298_eq,F298];simp only[↓sW,sB]
 exact wq (wc bumpL p fun p=>wc identL p fun p=>wd p)
theorem s337 {ts:List Tok}:SimH ts (.seq .bump (.seq (.call 10) (gExpect wRPar))) vd (fnF 291 fun P=>[.box [.ref P 0] 0]):=.mk fun p=>by
 unfold fnF;rw[callR en291 (box1 ..),F291_eq,F291];simp only[↓sW,sB]
 exact wq (wc bumpL p fun p=>wq (wc exL p fun p=>wc expectL p fun p=>wd p))
theorem s355 {ts:List Tok}:SimH ts (.ite (rAt [wIf]) (.call 6) (.call 1)) vd (fnF 306 fun P=>[.box [.ref P 0] 0]):=.mk fun p=>by
 unfold fnF;rw[callR en306 (box1 ..),F306_eq,F306];simp only[↓sW,sB]
 exact wi atR p (fun p x=>by simp only[↓sW,sB];exact wc ixL p fun p=>wd p) fun p x=>by simp only[↓sW,sB];exact wc blL p fun p=>wd p
theorem s354 {ts:List Tok}:SimH ts (.seq .bump (.seq (.call 10) (.seq (.call 1) (gOpt wElse (.ite (rAt [wIf]) (.call 6) (.call 1)))))) vd (fnF 305 fun P=>[.box [.ref P 0] 0]):=.mk fun p=>by
 unfold fnF;rw[callR en305 (box1 ..),F305_eq,F305];simp only[↓sW,sB]
 exact wq (wc bumpL p fun p=>wq (wc exL p fun p=>wq (wc blL p fun p=>wc (optL (cf s355)) p fun p=>wd p)))
theorem s338 {ts:List Tok}:SimH ts (gIfExpr) vd (fnF 292 fun P=>[.ref P 0]):=.mk fun p=>by
 unfold fnF;rw[callR en292 (ref1 ..),F292_eq,F292];simp only[↓sW,sB]
 exact w1 (nodeN (cf s354)) p fun p=>wd p
theorem s358 {ts:List Tok}:SimH ts (.seq (.call 5) (.seq (gExpect wFatArrow) (.call 10))) vd (fnF 309 fun P=>[.box [.ref P 0] 0]):=.mk fun p=>by
 unfold fnF;rw[callR en309 (box1 ..),F309_eq,F309];simp only[↓sW,sB]
 exact wq (wc paL p fun p=>wq (wc expectL p fun p=>wc exL p fun p=>wd p))
theorem s356 {ts:List Tok}:SimH ts (gArm) vd (fnF 307 fun P=>[.box [.ref P 0] 0]):=.mk fun p=>by
 unfold fnF;rw[callR en307 (box1 ..),F307_eq,F307];simp only[↓sW,sB]
 exact wi armR p (fun p x=>by simp only[↓sW,sB];exact w1 (nodeN (cf s358)) p fun p=>wd p) fun p x=>by simp only[↓sW,sB];exact wr (wd p)
theorem s339 {ts:List Tok}:SimH ts (.seq .bump (.seq (.call 10) (.seq (gExpect wLBr) (gList wRBr gArm)))) vd (fnF 293 fun P=>[.ref P 0]):=.mk fun p=>by
 unfold fnF;rw[callR en293 (ref1 ..),F293_eq,F293];simp only[↓sW,sB]
 exact wq (wc bumpL p fun p=>wq (wc exL p fun p=>wq (wc expectL p fun p=>w1 (listN (cf s356)) p fun p=>wd p)))
theorem s360 {ts:List Tok}:SimH ts (.seq .bump (.seq (gExpect wColon) (.call 10))) vd (fnF 311 fun P=>[.box [.ref P 0] 0]):=.mk fun p=>by
 unfold fnF;rw[callR en311 (box1 ..),F311_eq,F311];simp only[↓sW,sB]
 exact wq (wc bumpL p fun p=>wq (wc expectL p fun p=>wc exL p fun p=>wd p))
theorem s359 {ts:List Tok}:SimH ts (gInit) vd (fnF 310 fun P=>[.box [.ref P 0] 0]):=.mk fun p=>by
 unfold fnF;rw[callR en310 (box1 ..),F310_eq,F310];simp only[↓sW,sB]
 exact wi idR p (fun p x=>by simp only[↓sW,sB];exact w1 (nodeN (cf s360)) p fun p=>wd p) fun p x=>by simp only[↓sW,sB];exact wr (wd p)
theorem s340 {ts:List Tok}:SimH ts (.seq .bump (.seq (gPath false) (.seq (gExpect wLBr) (gList wRBr gInit)))) vd (fnF 294 fun P=>[.ref P 0]):=.mk fun p=>by
 unfold fnF;rw[callR en294 (ref1 ..),F294_eq,F294];simp only[↓sW,sB]
 exact wq (wc bumpL p fun p=>wq (wc (lf s239) p fun p=>wq (wc expectL p fun p=>w1 (listN (cf s359)) p fun p=>wd p)))
theorem s361 {ts:List Tok}{m:Nat}:Sim ts m nop vd (cvF fun P=>.fn 312 [] []):=by
 intro n hn P s rest base k cs J b rest' cs' h hr hb
 obtain⟨n,rfl⟩:∃j,n=j+1:=⟨n-1,by omega⟩
 obtain⟨-,rfl,rfl⟩:=ret_inv hr
 refine⟨s,J,?_,h,.refl s J⟩
 show aCall Tryz.prog (den C (n+1)) 312 [] s=_
 have q:AN 1 312 [] (.tup []):=.intro (N:=0) en312 rfl rfl fun n _=>⟨[],by rw[F312_eq,F312]⟩
 exact q.of (by omega) s
theorem s341 {ts:List Tok}:SimH ts (.seq (.ite (rAt [wBarBar]) (.seq .bump (.node 12 nop)) (.seq .bump (gParams wBar))) (.call 10)) vd (fnF 295 fun P=>[.ref P 0]):=.mk fun p=>by
 unfold fnF;rw[callR en295 (ref1 ..),F295_eq,F295];simp only[↓sW,sB]
 exact wq (wi atR p (fun p x=>by simp only[↓sW,sB,F295_J0,upds_at,upds_nil,upd_at,argEnv_0,argEnv_1,ite_false,ite_true,zne];exact wq (wc bumpL p fun p=>w1 (nodeN fun _ _ _ _=>s361) p fun p=>wc exL p fun p=>wd p)) fun p x=>by simp only[↓sW,sB,F295_J0,upds_at,upds_nil,upd_at,argEnv_0,argEnv_1,ite_false,ite_true,zne];exact wq (wc bumpL p fun p=>wc (lf s187) p fun p=>wc exL p fun p=>wd p))
theorem s322 {ts:List Tok}:SimH ts (.seq .bump (.call 15)) vd (fnF 271 fun P=>[.box [.ref P 0] 0]):=.mk fun p=>by
 unfold fnF;rw[callR en271 (box1 ..),F271_eq,F271];simp only[↓sW,sB]
 exact wq (wc bumpL p fun p=>wc unL p fun p=>wd p)
theorem s323 {ts:List Tok}:SimH ts (.seq .bump (.seq (gIf [wMut] nop) (.call 15))) vd (fnF 272 fun P=>[.box [.ref P 0] 0]):=.mk fun p=>by
 unfold fnF;rw[callR en272 (box1 ..),F272_eq,F272];simp only[↓sW,sB]
 exact wq (wc bumpL p fun p=>wq (wa p (fun p=>wr (wc unL p fun p=>wd p)) fun p=>wr (wc unL p fun p=>wd p)))
theorem s352 {ts:List Tok}:SimH ts (.seq .bump gIdent) vd (fnF 303 fun P=>[.box [.ref P 0] 0]):=.mk fun p=>by
 unfold fnF;rw[callR en303 (box1 ..),F303_eq,F303];simp only[↓sW,sB]
 exact wq (wc bumpL p fun p=>wc identL p fun p=>wd p)
theorem s353 {ts:List Tok}:SimH ts (.seq (gPath false) (gIf [wLPar] (gList wRPar (.call 5)))) vd (fnF 304 fun P=>[.box [.ref P 0] 0]):=.mk fun p=>by
 unfold fnF;rw[callR en304 (box1 ..),F304_eq,F304];simp only[↓sW,sB]
 exact wq (wc (lf s239) p fun p=>wa p (fun p=>by simp only[↓sW,sB];exact w1 (listN paC) p fun p=>wd p) fun p=>by simp only[↓sW,sB];exact wr (wd p))
theorem s334 {ts:List Tok}:SimH ts gPattern vd (fnF 288 fun P=>[.ref P 0]):=.mk fun p=>by
 unfold fnF;rw[callR en288 (ref1 ..),F288_eq,F288];simp only[↓sW,sB]
 refine wpk p fun qp qs p x hL hlt hnj=>?_
 simp only[↓sW,sB,qp,zero80,qs]
 refine wi atR p (fun p x=>by simp only[↓sW,sB];exact w1 (nodeN (cf s352)) p fun p=>wd p) fun p x=>?_
 have hL:=(x.fr _ hlt hnj).trans hL;have hlt:=Nat.lt_of_lt_of_le hlt x.len;simp only[↓sW,sB]
 refine wia idR p (fun p x=>?_) fun p x=>?_
 all_goals (have hL:=(x.fr _ hlt hnj).trans hL;have hlt:=Nat.lt_of_lt_of_le hlt x.len)
 simp only[↓sW,sB,ldt hL]
 refine wif (fun hc=>by have hc:((pk _).2==[95])=true:=hc;simp only[↓sW,sB,str_eql,hc];exact w1 (nodeN (m0 (bump_sim ts))) p fun p=>wd p) fun hc=>?_
 have hc:((pk _).2==[95])=false:=hc
 simp only[↓sW,sB,str_eql,hc]
 rotate_left
 simp only[↓sW,sB]
 all_goals
  refine wia idR p (fun p x=>?_) fun p x=>?_
  all_goals (have hL:=(x.fr _ hlt hnj).trans hL;have hlt:=Nat.lt_of_lt_of_le hlt x.len;simp only[↓sW,sB])
  refine wla [wLPar,wColCol] p fun ql qa p x=>?_
  have hL:=(x.fr _ hlt hnj).trans hL;have hlt:=Nat.lt_of_lt_of_le hlt x.len
  simp only[strs,List.map]at qa;simp only[↓sW,sB,ql,qa]
  refine wif (fun hc=>by have hc:(!atT [wLPar,wColCol] (pk (la _)))=true:=hc;simp only[↓sW,sB,hc];exact w1 (nodeN (m0 (bump_sim ts))) p fun p=>wd p) fun hc=>?_
  have hc:(!atT [wLPar,wColCol] (pk (la _)))=false:=hc
  simp only[↓sW,sB,hc]
  all_goals
   refine wi idR p (fun p x=>by (try simp only[↓sW,sB]);exact w1 (nodeN (cf s353)) p fun p=>wd p) fun p x=>?_
   have hL:=(x.fr _ hlt hnj).trans hL;have hlt:=Nat.lt_of_lt_of_le hlt x.len;try simp only[↓sW,sB]
   refine wif (fun hc=>by have hc:(((pk _).1:Int)==105)=true:=(kind_eq _ 105).trans hc;simp only[↓sW,sB,ldk hL,hc];exact w1 (nodeN (m0 (bump_sim ts))) p fun p=>wd p) fun hc=>?_
   have hc:(((pk _).1:Int)==105)=false:=(kind_eq _ 105).trans hc;simp only[↓sW,sB,ldk hL,hc]
   exact wi atR p (fun p x=>by simp only[↓sW,sB];exact w1 (nodeN (m0 (bump_sim ts))) p fun p=>wd p) fun p x=>by simp only[↓sW,sB];exact wc put46L p fun p=>wd p
theorem s318 {ts:List Tok}:SimH ts gPrimary vd (fnF 267 fun P=>[.ref P 0]):=.mk fun p=>by
 unfold fnF;rw[callR en267 (ref1 ..),F267_eq,F267,gPrimary];simp only[↓sW,sB]
 refine wpk p fun qp qs p x hL hlt hnj=>?_
 simp only[↓sW,sB,qp,zero80,qs]
 refine wif (fun hc=>by have hc:(((pk _).1:Int)==105)=true:=(kind_eq _ 105).trans hc;simp only[↓sW,sB,ldk hL,hc];exact w1 (nodeN (m0 (bump_sim ts))) p fun p=>wd p) fun hc=>?_
 have hc:(((pk _).1:Int)==105)=false:=(kind_eq _ 105).trans hc;simp only[↓sW,sB,ldk hL,hc]
 refine wif (fun hc=>by have hc:(((pk _).1:Int)==106)=true:=(kind_eq _ 106).trans hc;simp only[↓sW,sB,ldk hL,hc];exact w1 (nodeN (m0 (bump_sim ts))) p fun p=>wd p) fun hc=>?_
 have hc:(((pk _).1:Int)==106)=false:=(kind_eq _ 106).trans hc;simp only[↓sW,sB,ldk hL,hc]
 refine wi atR p (fun p x=>by simp only[↓sW,sB];exact w1 (nodeN (m0 (bump_sim ts))) p fun p=>wd p) fun p x=>?_
 have hL:=(x.fr _ hlt hnj).trans hL;have hlt:=Nat.lt_of_lt_of_le hlt x.len;simp only[↓sW,sB]
 refine wif (fun hc=>?_) fun hc=>?_
 ·have hc:(((pk _).1:Int)==103)=true:=(kind_eq _ 103).trans hc
  simp only[↓sW,sB,ldk hL,hc]
  refine wq (wc (lf s239) p fun p=>wia atR p (fun p x=>?_) fun p x=>by simp only[↓sW,sB];exact wr (wd p))
  simp only[↓sW,sB]
  refine wla [wLPar] p fun ql qa p x=>?_
  simp only[strs,List.map]at qa;simp only[↓sW,sB,ql,qa]
  refine wif (fun hc=>by have hc:atT [wLPar] (pk (la _))=true:=hc;simp only[↓sW,sB,hc];exact w1 (wrapN (cf s335)) p fun p=>wd p) fun hc=>?_
  have hc:atT [wLPar] (pk (la _))=false:=hc
  simp only[↓sW,sB,hc]
  exact wr (wd p)
 have hc:(((pk _).1:Int)==103)=false:=(kind_eq _ 103).trans hc
 simp only[↓sW,sB,ldk hL,hc]
 exact wi atR p (fun p x=>by simp only[↓sW,sB];exact w1 (nodeN (cf s337)) p fun p=>wd p) fun p x=>by simp only[↓sW,sB];exact wi atR p (fun p x=>by simp only[↓sW,sB];exact wc blL p fun p=>wd p) fun p x=>by simp only[↓sW,sB];exact wi atR p (fun p x=>by simp only[↓sW,sB];exact wc ixL p fun p=>wd p) fun p x=>by simp only[↓sW,sB];exact wi atR p (fun p x=>by simp only[↓sW,sB];exact w1 (nodeN (mf s339)) p fun p=>wd p) fun p x=>by simp only[↓sW,sB];exact wi atR p (fun p x=>by simp only[↓sW,sB];exact w1 (nodeN (mf s340)) p fun p=>wd p) fun p x=>by simp only[↓sW,sB];exact wi atR p (fun p x=>by simp only[↓sW,sB];exact w1 (nodeN (mf s341)) p fun p=>wd p) fun p x=>by simp only[↓sW,sB];exact wc put46L p fun p=>wd p
theorem s324 {ts:List Tok}:SimH ts gPostfix vd (fnF 273 fun P=>[.ref P 0]):=.mk fun {n P s rest base k cs J M} p=>by
 unfold fnF;rw[callR en273 (ref1 ..),F273_eq,F273];simp only[↓sW,sB]
 refine wl (F:=F273_L0 (den C n) n) (inv:=fun e=>e 1=.box [.ref P 0] 0) (fun hm p h0 ih=>?_) (by omega) (by omega) rfl p
 rw[F273_L0];simp only[↓sW,sB,h0]
 refine wwi rfl atR p (fun p=>by
  simp only[↓sW,sB]
  refine wi atR p (fun p x=>by simp only[↓sW,sB];exact w1 (wrapN (mf s336)) p fun p=>ih ((upds_get _ _ _ rfl).trans h0) p) fun p x=>?_
  simp only[↓sW,sB]
  refine wand (c1:=fun _ t _=>t.1==103) (fun hc=>?_) fun hc=>?_
  ·have hc:((pk (la _)).1==103)=true:=hc
   refine wlp p fun e1 e2 e3 e4 p x=>?_
   rw[hc]at e2
   simp only[↓sW,sB,e1,e2,e3,e4]
   exact wif (fun hc=>by have hc:atT [wLPar] (pk (la (la _)))=true:=hc;simp only[↓sW,sB,hc];exact w1 (wrapN (cf s343)) p fun p=>ih ((upds_get _ _ _ rfl).trans h0) p) fun hc=>by have hc:atT [wLPar] (pk (la (la _)))=false:=hc;simp only[↓sW,sB,hc];exact w1 (wrapN (cf s344)) p fun p=>ih ((upds_get _ _ _ rfl).trans h0) p
  ·have hc:((pk (la _)).1==103)=false:=hc
   refine wli p fun e1 e2 p x=>?_
   rw[hc]at e2
   simp only[↓sW,sB,e1,e2]
   exact w1 (wrapN (cf s344)) p fun p=>ih ((upds_get _ _ _ rfl).trans h0) p) fun p=>by simp only[↓sW,sB];exact wd p
theorem s285 {ts:List Tok}:SimH ts (gUnary) vd (fnF 238 fun P=>[.ref P 0]):=.mk fun p=>by
 unfold fnF;rw[callR en238 (ref1 ..),F238_eq,F238];simp only[↓sW,sB]
 exact wi atR p (fun p x=>by simp only[↓sW,sB];exact w1 (nodeN (cf s322)) p fun p=>wd p) fun p x=>by simp only[↓sW,sB];exact wi atR p (fun p x=>by simp only[↓sW,sB];exact w1 (nodeN (cf s323)) p fun p=>wd p) fun p x=>by simp only[↓sW,sB];exact wq (wc prL p fun p=>wc (lf s324) p fun p=>wd p)
theorem s182 {ts:List Tok}:SimH ts gMembers vd (fnF 167 fun P=>[.ref P 0]):=.mk fun {n P s rest base k cs J M} p=>by
 unfold fnF;rw[callR en167 (ref1 ..),F167_eq,F167];simp only[↓sW,sB]
 refine wq (wc expectL p fun p=>wq ?_)
 refine wl (F:=F167_L0 (den C n) n) (inv:=fun e=>e 1=.box [.ref P 0] 0) (fun hm p h0 ih=>?_) (by omega) (by omega) rfl p
 rw[F167_L0];simp only[↓sW,sB,h0]
 exact wwi rfl atR p (fun p=>by
  simp only[↓sW,sB]
  exact wi atR p (fun p x=>by simp only[↓sW,sB];exact w1 (nodeN (cf s234)) p fun p=>ih ((upds_get _ _ _ rfl).trans h0) p) fun p x=>by simp only[↓sW,sB];exact w1 (nodeN (cf s235)) p fun p=>ih ((upds_get _ _ _ rfl).trans h0) p) fun p=>by simp only[↓sW,sB];exact wc expectL p fun p=>wd p
theorem wsml (l:Nat)(hl:l≤4):IntKind.i64.wrap ((l:Int)+1)=(l:Int)+1:=by rw[wrap64]<;>omega
theorem biL {ts:List Tok}{l:Nat}(hl:l≤4):SimL ts (.call (11+l)) vd (fnF 212 fun P=>[.ref P 0,I ((l:Int)+1)]):=aL fun m h=>by
 have:=h.bi (l+1) (by omega)
 rw[show 10+(l+1)=11+l by omega]at this
 exact this
theorem s288 {ts:List Tok}{l:Nat}(hl:l≤4):SimH ts (.seq .bump (.call (11+l))) vd (fnF 241 fun P=>[.box [.ref P 0] 0,.box [I l] 0]):=.mk fun p=>by
 unfold fnF;rw[callR en241 (box1 ..),F241_eq,F241];simp only[↓sW,sB,wsml l hl]
 exact wq (wc bumpL p fun p=>wc (biL hl) p fun p=>wd p)
theorem bops_len (l:Nat):(binOps l).length<50:=by
 unfold binOps;split<;>decide
theorem s241 {ts:List Tok}{l:Nat}(hl:l≤4):SimH ts (gBinary l) vd (fnF 212 fun P=>[.ref P 0,I l]):=.mk fun {n P s rest base k cs J M} p=>by
 have e5:(((l:Nat):Int)==5)=false:=by simp;omega
 have e2:(((l:Nat):Int)==2)=(l==2):=kind_eq l 2
 have hs:(strs (binOps l)).strip=strs (binOps l):=rfl
 unfold fnF;rw[callR en212 (ref1 ..),F212_eq,F212,gBinary];simp only[↓sW,sB,e5,wsml l hl]
 generalize (l==2)=q at e2 ⊢
 refine wq (wc (biL hl) p fun p=>wq ?_)
 refine wm fun hn=>?_
 have e0:∀s,_:=fun s=>(bops_run l hl).of (n:=n) (by omega) s
 have nr:noRefL [AV.ref P 0,strs (binOps l)]=false:=ref1 ..
 refine wl (F:=F212_L0 (den C n) n) (inv:=fun e=>e 2=.box [.ref P 0] 0∧e 3=.box [I l] 0) (fun hm p ⟨h2,h3⟩ ih=>?_) (by omega) (by omega) ⟨rfl,rfl⟩ p
 rw[F212_L0];simp only[↓sW,sB,h2,h3,e0,hs,nr,e2,Bool.false_eq_true,ite_false,d212_4]
 refine wrd (atR (bops_len l)) p fun p x=>?_
 cases q with
 | true=>exact wwt (fun hc=>by simp only[hc,↓sW,sB,Bool.false_eq_true,ite_false,d212_4];exact w1 (wrapN (cf (s288 hl))) p fun p=>wr (wd p)) fun hc=>by simp only[hc,↓sW,sB,Bool.false_eq_true,ite_false,d212_4];exact wr (wd p)
 | false=>exact wwh rfl (fun hc=>by simp only[hc,↓sW,sB,Bool.false_eq_true,ite_false,d212_4];exact wq (w1 (wrapN (cf (s288 hl))) p fun p=>wr (ih ⟨(upds_get _ _ _ rfl).trans h2,(upds_get _ _ _ rfl).trans h3⟩ p))) fun hc=>by simp only[hc,↓sW,sB,Bool.false_eq_true,ite_false,d212_4];exact wr (wd p)
end ParF
end

section
namespace ParF
open Go Go.Abs Go.Proofs Pm
theorem drop_run {ts:List Tok}{P:Nat}{s:Heap}{rest:List Tok}{base:List Lv}{k0:Nat}{ini:List Tree}{t:Tree}{J:List Nat}(h:PR ts P s rest base k0 (ini++[t]) J) :
  ∃Q id s',aLoad false false 1 (.ref P 2) s=some (.rs 65 3 Q 0 (base.length+1),s)∧aLoad false false 1 (.ref Q (base.length*3+2)) s=some (.rs 65 3 id 0 (ini.length+1),s) ∧
   aStore 1 s (.ref Q (base.length*3+2)) (.rs 65 3 id 0 ini.length)=some s'∧PR ts P s' rest base k0 ini J∧Ex s s' J J:=by
 obtain⟨pos,i,rfl,h⟩:=h
 obtain⟨tk,Q,junk,f,rfl⟩:=h.facts
 have hP:=glt f.par
 have hQ:=glt f.row
 have hok:=f.ok
 obtain⟨id,rfl⟩:∃id,i=some id:=by
  cases i with
  | none=>have h0:ini++[t]=[]:=hok;simp at h0
  | some id=>exact⟨id,rfl⟩
 obtain⟨rows,cj,h1,h2,h3⟩:=hok
 obtain⟨r1,r2,rfl,l1,l2⟩:=IsL.split h2
 cases l2 with
 | cons _ a _ _ ht l3 =>
 cases l3 with
 | nil =>
 obtain⟨c1,c2,c3,c4⟩:=ht.cells
 obtain⟨tP,tQ,tl⟩:=f.top id rfl
 rw[cellsOf_snoc]at h1
 have hil:(ini++[t]).length=ini.length+1:=by rw[app_len];rfl
 have hrl:=row_length (base++[(⟨k0,ini++[t],some id⟩:Lv)])
 rw[app_len]at hrl
 have st1:=ParF.st (s:=s) (o:=base.length*3+2) (n:=1) (v:=.rs 65 3 id 0 ini.length) f.row (by decide) rfl rfl (by rw[app_len,hrl];show _≤3*(base.length+1)+_;omega)
 have hst':stCells (.rs 65 3 id 0 ini.length)=[AV.rs 65 3 id 0 ini.length]:=rfl
 rw[hst',row_set]at st1
 have fr2:∀x,x≠Q→(s.set Q (65,base.flatMap Lv.row++[I (k0:Nat),.str [],.rs 65 3 id 0 ini.length]++junk))[x]?=s[x]?:=fun x hne=>gset_ne (Ne.symm hne)
 refine⟨Q,id,_,ld (o:=2) f.par (by decide) rfl (by decide),?_,st1,⟨pos,some id,rfl,Fs.ps (tk:=tk) (Q:=Q) (junk:=junk) (l:=⟨k0,ini,some id⟩) ⟨f.htk,?_,?_,f.ne,fun i hi=>?_,fun i hi=>?_,f.nd,⟨r1,a.cells++cj,?_,l1,?_⟩,fun l' hl'=>?_,f.pos,f.len⟩⟩,?_⟩
 ·rw[ld (n:=1) (o:=base.length*3+2) f.row (by decide) (row_at 2 (by decide)) (by decide),ch_strip,←hil];rfl
 ·rw[fr2 P f.ne];exact f.par
 ·rw[gset_eq f.row,flat_snoc];rfl
 ·obtain⟨a1,a2,a3,a4⟩:=f.hbase i hi
  exact⟨a1,a2,by rw[set_length];exact a3,a4⟩
 ·obtain⟨a1,a2,a3⟩:=f.top i hi
  exact⟨a1,a2,by rw[set_length];exact a3⟩
 ·rw[fr2 id tQ,h1,List.append_assoc]
 ·intro e;have:=congrArg List.length e;rw[app_len,app_len,c1]at this;simp at this
 ·refine Lv.ok_frame (f.oks l' hl') fun i hi=>?_
  obtain⟨a1,a2,a3,a4⟩:=f.hbase i (List.mem_filterMap.2 ⟨l',hl',hi⟩)
  exact fr2 i a2
 ·refine⟨by rw[set_length];exact Nat.le_refl _,fun x hx hj=>gset_ne fun e=>hj ?_,fun _ h=>.inl h⟩
  rw[←e];unfold JJ;simp
theorem stm_inv {m:Nat}{g b:G}{ts ts':List Tok}{cs cs':List Tree}{r:Bool}(h:run m (.stm g b) ts cs=some (r,ts',cs')):∃m' r1 t1 c1,m=m'+1∧run m' g ts cs=some (r1,t1,c1)∧szL c1≤szL cs' ∧
  ((t1.length=ts.length∧∃c2 t,c1=c2++[t]∧run m' gUnexp t1 c2=some (r,ts',cs'))∨(t1.length≠ts.length∧run m' b t1 c1=some (r,ts',cs'))):=by
 obtain⟨m,rfl⟩:=run_pos h
 rw[run_stm]at h
 obtain⟨⟨r1,t1,d1⟩,h1,h2⟩:=Option.bind_eq_some_iff.1 h
 simp only at h2
 split at h2
 ·rename_i hc
  obtain⟨t,h3,h4⟩:=Option.bind_eq_some_iff.1 h2
  split at h4
  ·rename_i ht
   have hd:=getLast_split h3
   obtain⟨m5,r5,t5,c5,-,h5,h6,hz6⟩:=seq_inv h4
   obtain⟨m6,ds,-,-,h7⟩:=node_inv h5
   have hz:szL d1.dropLast+1≤szL cs':=by
    rw[h7,szL_append,szL_one,szT_mk]at hz6;omega
   refine⟨m,r1,t1,d1,rfl,h1,?_,.inl ⟨hc,d1.dropLast,t,hd,h4⟩⟩
   rw[hd,szL_append,szL_one];omega
  ·cases h4
 ·rename_i hc;exact⟨m,r1,t1,d1,rfl,h1,(runs_sz (runs_of _ _ _ _ _ _ _ h2)),.inr ⟨hc,h2⟩⟩
end ParF
end

section
namespace ParF
open Go Go.Abs Go.Proofs Pm
theorem zero4:aAlloc Tryz.prog 4=fun s=>some (.ref s.length 0,s++[(4,[.bool false])]):=by
 have h:zeroOf Tryz.prog 4=some (.bool false):=by kernel_rfl
 funext s
 simp[aAlloc,h,AV.cells]
theorem Ex.notin {s s':Heap}{J J':List Nat}(x:Ex s s' J J'){L:Nat}(hl:L<s.length)(hj:L∉J):L∉J':=fun h=>by
 rcases x.sub L h with k|k
 ·exact hj k
 ·omega
section
variable {ts:List Tok}{n M:Nat}{J':List Nat}{b:Bool}{l:List (Nat×G)}{rv rv1:Bool→AV}{P:Nat}{rest:List Tok}{base:List Lv}{k:Nat}{cs:List Tree}{J:List Nat}{b0:Bool}{s:Heap}{X:Option (AV×Heap)}
 {h:Nat}{g g1 g2:G}{f:FuncId}{v:Nat→AV}{a:Nat→List AV}{K:AV→Heap→Option (AV×Heap)}
theorem wst (q:SimL ts g vd (fnF f a))(p:PR ts P s rest base k cs J)
  (y:∀{s' J' r1 ini t},PR ts P s' r1 base k (ini++[t]) J'→Ex s s' J J'→r1.length=rest.length→ini.length<900000000→base.length<900000000→W ts n M ((M,gUnexp)::l) rv P r1 base k ini J' false s' (K (.tup []) s'))
  (z:∀{s' J' r1 c1},PR ts P s' r1 base k c1 J'→Ex s s' J J'→r1.length≠rest.length→W ts n M ((M,g2)::l) rv P r1 base k c1 J' false s' (K (.tup []) s'))(hh:h≤M+1:=by omega):W ts n M ((h,.stm g g2)::l) rv P rest base k cs J b0 s (oh (aCall Tryz.prog (den C n) f (a P) s) K):=by
 rintro hn H b r' c' ⟨m,b1,r1,c1,hm,hr,h⟩ hb
 have hs:=h.sz
 obtain⟨m,b2,t1,c2,rfl,h1,hz,h2⟩:=stm_inv hr
 obtain⟨s1,J1,e1,p1,x1⟩:=q m (fun j hj=>H j (by omega)) n (by omega) P s rest base k cs J b2 t1 c2 p h1 (by omega)
 have e1:aCall Tryz.prog (den C n) f (a P) s=_:=e1
 rw[e1]
 rcases h2 with ⟨hl,ini,t,rfl,h2⟩|⟨hl,h2⟩
 ·have:=len_le_sz (ini++[t])
  rw[app_len]at this
  exact wx (l:=(M,gUnexp)::l) (b0:=false) x1 (y p1 x1 hl (by omega) (by omega)) hn H b r' c' ⟨m,_,_,_,by omega,h2,h⟩ hb
 ·exact wx (l:=(M,g2)::l) (b0:=false) x1 (z p1 x1 hl) hn H b r' c' ⟨m,_,_,_,by omega,h2,h⟩ hb
theorem wwr {v:AV}{i:Nat}(hv:v.strip=v)(p:PR ts P s rest base k cs J)
  (cl:∀{n M s3 lv J3 t},PR ts P s3 rest (base++[lv]) i [t] J3→Ex s s3 J J3→W ts n M [(M,g)] vd P rest (base++[lv]) i [t] J3 false s3 (aCallV Tryz.prog (den C (n+1)) v [] s3))
  (N:∀{b1 s' J' r1 c1},PR ts P s' r1 base k c1 J'→W ts n M l rv P r1 base k c1 J' b1 s' (K (.tup []) s'))(hh:h≤M:=by omega):W ts n M ((h,.wrap i g)::l) rv P rest base k cs J b0 s (oh (aCall Tryz.prog (den C n) 240 [.ref P 0,I i,v] s) K):=by
 rintro hn H b r' c' ⟨m,b1,r1,c1,hm,hr,h⟩ hb
 have hs:=h.sz
 obtain⟨m,ini,t,ds,rfl,rfl,hr1,rfl⟩:=wrap_inv hr
 rw[szL_append,szL_one,szT_mk]at hs
 obtain⟨n,rfl⟩:∃j,n=j+3:=⟨n-3,by omega⟩
 obtain⟨s1,J1,e1,p1,x1⟩:=wrap_run (ds:=ds) p (by omega) hv n fun s3 lv J3 p3 x3=>by
  obtain⟨s4,J4,e4,p4,x4⟩:=cl (n:=n+1) (M:=m) p3 x3 (by omega) (fun j hj=>H j (by omega)) b1 r1 ds ⟨m,_,_,_,Nat.le_refl _,hr1,rfl,rfl,rfl⟩ (by rw[app_len];show base.length+1+_<_;omega)
  exact⟨s4,J4,_,e4,p4,x4⟩
 rw[e1]
 exact wx (l:=l) (b0:=b1) x1 (N p1) hn H b r' c' h hb
theorem wab {w:List Bytes}(p:PR ts P s rest base k cs J)
  (y:∀{b1 s' J' r1 c1},PR ts P s' r1 base k c1 J'→W ts n M l rv P r1 base k c1 J' b1 s' (K (.bool true) s'))
  (z:∀{s'},PR ts P s' rest base k cs J→Ex s s' J J→W ts n M ((M,g2)::l) rv P rest base k cs J b0 s' (K (.bool false) s'))(hh:h≤M+1:=by omega)(hl:w.length<50:=by decide):W ts n M ((h,.ite (rAt w) .bump g2)::l) rv P rest base k cs J b0 s (oh (aCall Tryz.prog (den C n) 106 [.ref P 0,strs w] s) K):=by
 rintro hn H b r' c' ⟨m,b1,r1,c1,hm,hr,h⟩ hb
 obtain⟨m,rfl,⟨hc,h1⟩|⟨hc,h1⟩⟩:=ite_inv hr
 ·obtain⟨s1,J1,e1,p1,x1⟩:=acc_yes w hl (n:=n) (by omega) p hc h1 (by have:=h.sz;omega)
  exact wx (l:=l) (b0:=b1) x1 (by rw[e1];exact y p1) hn H b r' c' h hb
 ·obtain⟨s1,e1,p1,x1⟩:=acc_no w hl (n:=n) (by omega) p hc
  exact wx (l:=(M,g2)::l) (b0:=b0) x1 (by rw[e1];exact z p1 x1) hn H b r' c' ⟨m,_,_,_,by omega,h1,h⟩ hb
end
theorem unexpL {ts:List Tok}:SimL ts (.node 46 .bump) vd (fnF 233 fun P=>[.ref P 0]):=l0 (unexpected_sim ts)
theorem s278 {ts:List Tok}:SimH ts gStatement bv (fnF 231 fun P=>[.ref P 0]):=.mk fun {n P s rest base k cs J M} p=>by
 unfold fnF;rw[callR en231 (ref1 ..),F231_eq,F231,gStatement];simp only[↓sW,sB]
 refine wi atR p (fun p x=>by simp only[↓sW,sB];exact wq (w1 (nodeN (mf s315)) p fun p=>wr (wd p))) fun p x=>?_
 simp only[↓sW,sB]
 refine wi atR p (fun p x=>by simp only[↓sW,sB];exact wq (w1 (nodeN (cf s316)) p fun p=>wr (wd p))) fun p x=>?_
 simp only[↓sW,sB]
 refine wi atR p (fun p x=>by simp only[↓sW,sB];exact wq (w1 (nodeN (mf s317)) p fun p=>wr (wd p))) fun p x=>?_
 obtain⟨pos,tk,st,r,hd,hl⟩:=p.rdy
 simp only[↓sW,sB,r.ld1]
 have key:∀{s':Heap} (bl:Bool) {g:G} {f:FuncId} (q:SimL ts g vd (fnF f fun P=>[.ref P 0])),PR ts P s' rest base k cs J→∀{n':Nat} {e:AV→Env},e (.tup []) 1=.box [.ref P 0] 0→e (.tup []) 3=I pos→e (.tup []) 4=.ref s'.length 0 →
   W ts n M [(M,gStm bl g)] bv P rest base k cs J false (s'++[(4,[.bool bl])]) (oh (aCall Tryz.prog (den C n) f [.ref P 0] (s'++[(4,[.bool bl])])) fun t s=>F231_J0 (den C n) n' (e t) s):=by
  intro s' bl g f q p n' e h1 h3 h4
  have nj:s'.length∉J:=fun hm=>by obtain⟨pp,ii,_,hh⟩:=p;exact Nat.lt_irrefl _ (hh.lt _ hm)
  have h0:s'.length<(s'++[(4,[AV.bool bl])]).length:=by rw[app_length];omega
  refine wst (a:=fun P=>[.ref P 0]) q (p.app _) (@fun s1 J1 r1 ini t p x hq hi hb=>?_) fun p x hq=>?_
  ·obtain⟨pos3,tk3,st3,r3,hd3,hl3⟩:=p.rdy
   have hpe:((pos3:Int)==(pos:Int))=true:=by simp;omega
   obtain⟨Q,id,s1,q1,q2,q3,p1,x1⟩:=drop_run p
   rw[F231_J0]
   simp only[↓sW,sB,h1,h3,h4,r3.ld1,hpe,q1,q2,len50_rs,wsub1 (a:=base.length) (by omega),wsub1 (a:=ini.length) (by omega),idx_top,take_rs,q3,kStore_ref,d231_17,d231_18 Q]
   exact wx x1 (wq (wc unexpL p1 fun p=>wr (wd p)))
  ·obtain⟨pos3,tk3,st3,r3,hd3,hl3⟩:=p.rdy
   have hpe:((pos3:Int)==(pos:Int))=false:=by simp;omega
   have hL:=(x.fr _ h0 nj).trans gapp_new
   have nj:=x.notin h0 nj
   have h0:=glt hL
   rw[F231_J0]
   simp only[↓sW,sB,h1,h3,h4,r3.ld1,hpe]
   refine wi atR p (fun p x=>by simp only[↓sW,sB];exact wr (wd p)) fun p x=>?_
   have hL:=(x.fr _ h0 nj).trans hL;have h0:=glt hL
   simp only[↓sW,sB,h1]
   refine wi atR p (fun p x=>by simp only[↓sW,sB,h1];exact wq (w1 (wrapN (cf s319)) p fun p=>wr (wd p))) fun p x=>?_
   have hL:=(x.fr _ h0 nj).trans hL;have h0:=glt hL
   simp only[↓sW,sB,h1,h4]
   refine wq (wwr rfl p (fun p x=>?_) fun p=>wr (wd p))
   have hL:=(x.fr _ h0 nj).trans hL;have nj:=x.notin h0 nj;have h0:=glt hL
   show W _ _ _ _ _ _ _ _ _ _ _ _ _ (aCall Tryz.prog _ 269 [.box [.ref P 0] 0,.ref _ 0] _)
   rw[callR en269 (box1 ..),F269_eq,F269];simp only[↓sW,sB]
   refine wab p (fun p=>by simp only[↓sW,sB];exact wd p) fun p x=>?_
   have hL:=(x.fr _ h0 nj).trans hL
   have l1:aLoad false false 1 (.ref s'.length 0) _=some (.bool bl,_):=ld (o:=0) hL (by decide) rfl (by decide)
   simp only[↓sW,sB,l1]
   cases bl with
   | true=>simp only[↓sW,sB];exact wr (wd p)
   | false=>simp only[↓sW,sB];exact wc put108L p fun p=>wd p
 have sto:∀(s:Heap) (b:Bool),aStore 1 (s++[(4,[.bool false])]) (.ref s.length 0) (.bool b)=some (s++[(4,[.bool b])]):=fun s b=>by
  rw[ParF.st (o:=0) (n:=1) (v:=.bool b) gapp_new (by decide) rfl rfl (by show 0+1≤1;omega),set_end];rfl
 have lb:∀(s:Heap) (b:Bool),aLoad false false 1 (.ref s.length 0) (s++[(4,[.bool b])])=some (.bool b,s++[(4,[.bool b])]):=fun s b=>ld (n:=1) (o:=0) (gapp_new (x:=(4,[.bool b]))) (by decide) rfl (by decide)
 refine wi atR p (fun p x=>?_) fun p x=>?_
 ·simp only[↓sW,sB,zero4,sto,lb];exact wx (.app _ _ _) (key true prL p rfl rfl rfl)
 ·simp only[↓sW,sB,zero4,sto,lb];exact wx (.app _ _ _) (key false exL p rfl rfl rfl)
end ParF
end

section
namespace ParF
open Go Go.Abs Go.Proofs Pm
theorem noRef_ref (i o:Nat):(AV.ref i o).noRef=false:=rfl
def blkC:Cnd:=fun t _ _=>!atT [wRBr] t&&!(t.1==100)&&!atT itemKws t
theorem blk_out {ts:List Tok}{n P:Nat}{s:Heap}{v:Bool}{m8 m7:Nat}(h8:m8*20+ts.length+100≤n)(h7:m7*20+ts.length+100≤n){t9 t8 rest':List Tok}{c9 c8 cs':List Tree}{base:List Lv}{k:Nat}{J:List Nat}{b8 b':Bool}
  (h:PR ts P s t9 base k c9 J)(hr8:run m8 (if v=true then nop else .put 0) t9 c9=some (b8,t8,c8))(hr7:run m7 (gExpect wRBr) t8 c8=some (b',rest',cs'))(hb:base.length+szL cs'<900000000) :
  ∃s1 s' J',(v=false→aCall Tryz.prog (den C n) 197 [.ref P 0] s=some (.tup [],s1))∧(v=true→s1=s)∧aCall Tryz.prog (den C n) 169 [.ref P 0,.str [125]] s1=some (.tup [],s')∧PR ts P s' rest' base k cs' J'∧Ex s s' J J':=by
 have hz8:szL c8≤szL cs':=runs_sz (runs_of _ _ _ _ _ _ _ hr7)
 cases v with
 | true =>
  obtain⟨-,rfl,rfl⟩:=ret_inv hr8
  obtain⟨s',J',e,p,x⟩:=expect_sim ts m7 wRBr n h7 P s t8 base k c8 J b' rest' cs' h hr7 hb
  exact⟨s,s',J',nofun,fun _=>rfl,e,p,x⟩
 | false =>
  obtain⟨s1,J1,e1,p1,x1⟩:=(put_sim ts m8).2.2 n h8 P s t9 base k c9 J b8 t8 c8 h hr8 (by omega)
  obtain⟨s',J',e,p,x⟩:=expect_sim ts m7 wRBr n h7 P s1 t8 base k c8 J1 b' rest' cs' p1 hr7 hb
  exact⟨s1,s',J',fun _=>e1,nofun,e,p,x1.trans x⟩
theorem l277_done {n P:Nat}{s s':Heap}(k3:aCall Tryz.prog (den C n) 169 [.ref P 0,.str [125]] s=some (.tup [],s')){M n':Nat}{e:Env}(he0:e 0=pb P)(he1:e 1=.bool true):aLoop (F230_L0 (den C n) n') (M+1) e s=some (.tup [],s'):=by
 rw[aLoop,F230_L0]
 simp only[↓sW,sL,he0,he1,Bool.false_eq_true,ite_false,F230_J1,upds_at,upds_nil,upd_at,zne,k3,kGd_false]
 exact drawOK_base (by kernel_rfl)
theorem l277 {ts:List Tok}{n P:Nat}{m8 m7:Nat}(h8:m8*20+ts.length+100≤n)(h7:m7*20+ts.length+100≤n):∀(m:Nat),(∀k<m,AllS ts k)→m*20+ts.length+110≤n→∀s rest base k cs J v t9 c9 b8 t8 c8 b' rest' cs',PR ts P s rest base k cs J→run m (.whil blkC (.call 2)) rest cs=some (v,t9,c9) →
  run m8 (if v=true then nop else .put 0) t9 c9=some (b8,t8,c8)→run m7 (gExpect wRBr) t8 c8=some (b',rest',cs')→base.length+szL cs'<900000000 →
  ∃s' J',(∀M n' e,m+1<M→e 0=pb P→e 1=.bool false→aLoop (F230_L0 (den C n) n') M e s=some (.tup [],s'))∧PR ts P s' rest' base k cs' J'∧Ex s s' J J':=by
 intro m
 induction m with
 | zero=>intro _ _ s rest base k cs J v t9 c9 b8 t8 c8 b' rest' cs' h hr;rw[Pm.run_zero]at hr;cases hr
 | succ m ih =>
  intro H hn s rest base k cs J v t9 c9 b8 t8 c8 b' rest' cs' h hr hr8 hr7 hb
  have hn0:m*20+ts.length+110≤n:=by omega
  have H0:∀k<m,AllS ts k:=fun k hk=>H k (Nat.lt_succ_of_lt hk)
  have hz9:szL c9≤szL cs':=Nat.le_trans (runs_sz (runs_of _ _ _ _ _ _ _ hr8)) (runs_sz (runs_of _ _ _ _ _ _ _ hr7))
  have hmn:(m+1)*20+ts.length+100≤n:=by omega
  obtain⟨sa,qa,pa,xa⟩:=(at_rd (ts:=ts) [wRBr] (by decide:1<50)).use (n:=n) (by omega) h
  obtain⟨sb,qb,pb',xb⟩:=(eof_rd ts).use (n:=n) (by omega) pa
  have ek:=itemKeywords_run.of (n:=n) (by omega) sb
  obtain⟨sc,qc,pc,xc⟩:=(at_rd (ts:=ts) itemKws (by decide)).use (n:=n) (by omega) pb'
  have hs:(strs itemKws).strip=strs itemKws:=rfl
  have nr1:noRefL [AV.ref P 0,.sl 9 1 [.str [125]] .sh]=false:=ref1 ..
  have nr2:noRefL [AV.ref P 0]=false:=ref1 ..
  have nr3:noRefL [AV.ref P 0,strs itemKws]=false:=ref1 ..
  have hev:ev blkC rest=(!atT [wRBr] (pk rest)&&!(ev rEof rest)&&!atT itemKws (pk rest)):=rfl
  obtain⟨m',hm',hw⟩:=whil_inv hr
  cases hm'
  have qa':aCall Tryz.prog (den C n) 100 [.ref P 0,.sl 9 1 [.str [125]] .sh] s=some (.bool (atT [wRBr] (pk rest)),sa):=qa
  have qb2:aCall Tryz.prog (den C n) 49 [.ref P 0] sa=some (.bool (ev rEof rest),sb):=qb
  have qc2:aCall Tryz.prog (den C n) 100 [.ref P 0,strs itemKws] sb=some (.bool (atT itemKws (pk rest)),sc):=qc
  rcases hw with ⟨hc,rfl,rfl,rfl⟩|⟨hc,hrb,rfl⟩|⟨hc,tw,cw,hrb,hrw,hzw⟩
  ·-- the end
   rw[hc]at hev
   cases h1:atT [wRBr] (pk t9) with
   | true =>
    rw[h1]at qa'
    obtain⟨s1,s',J',k1,k2,k3,p',x'⟩:=blk_out h8 h7 pa hr8 hr7 hb
    have k1:=k1 rfl
    refine⟨s',J',fun M n' e hM he0 he1=>?_,p',xa.trans x'⟩
    obtain⟨M,rfl⟩:∃j,M=j+1:=⟨M-1,by omega⟩
    rw[aLoop,F230_L0]
    simp only[↓sW,sL,he0,he1,bs1,strip_own,qa',nr1,Bool.false_eq_true,ite_false,k1,F230_J1,upds_at,upds_nil,upd_at,zne,k3,kGd_false]
    exact drawOK_base (by kernel_rfl)
   | false =>
    rw[h1]at qa' hev
    cases h2:ev rEof t9 with
    | true =>
     rw[h2]at qb2
     obtain⟨s1,s',J',k1,k2,k3,p',x'⟩:=blk_out h8 h7 pb' hr8 hr7 hb
     have k1:=k1 rfl
     refine⟨s',J',fun M n' e hM he0 he1=>?_,p',(xa.trans xb).trans x'⟩
     obtain⟨M,rfl⟩:∃j,M=j+1:=⟨M-1,by omega⟩
     rw[aLoop,F230_L0]
     simp only[↓sW,sL,he0,he1,bs1,strip_own,qa',qb2,nr1,nr2,Bool.false_eq_true,ite_false,k1,F230_J1,upds_at,upds_nil,upd_at,zne,k3,kGd_false]
     exact drawOK_base (by kernel_rfl)
    | false =>
     rw[h2]at qb2 hev
     have h3:atT itemKws (pk t9)=true:=by simpa using hev
     rw[h3]at qc2
     obtain⟨s1,s',J',k1,k2,k3,p',x'⟩:=blk_out h8 h7 pc hr8 hr7 hb
     have k1:=k1 rfl
     refine⟨s',J',fun M n' e hM he0 he1=>?_,p',((xa.trans xb).trans xc).trans x'⟩
     obtain⟨M,rfl⟩:∃j,M=j+1:=⟨M-1,by omega⟩
     rw[aLoop,F230_L0]
     simp only[↓sW,sL,he0,he1,bs1,strip_own,qa',qb2,ek,hs,qc2,nr1,nr2,nr3,Bool.false_eq_true,ite_false,k1,F230_J1,upds_at,upds_nil,upd_at,zne,k3,kGd_false,d230_2]
  ·-- the value
   rw[hc]at hev
   simp only[Bool.true_eq,Bool.and_eq_true,Bool.not_eq_true']at hev
   obtain⟨⟨h1,h2⟩,h3⟩:=hev
   rw[h1]at qa'
   rw[h2]at qb2
   rw[h3]at qc2
   obtain⟨s4,J4,q4,p4,x4⟩:=(H m (Nat.lt_succ_self m)).st n (by omega) P sc rest base k cs J true t9 c9 pc hrb (by omega)
   have e4:aCall Tryz.prog (den C n) 231 [.ref P 0] sc=some (.bool true,s4):=q4
   obtain⟨s1,s',J',k1,k2,k3,p',x'⟩:=blk_out h8 h7 p4 hr8 hr7 hb
   have k2:=k2 rfl
   subst k2
   refine⟨s',J',fun M n' e hM he0 he1=>?_,p',(((xa.trans xb).trans xc).trans x4).trans x'⟩
   obtain⟨M,rfl⟩:∃j,M=j+2:=⟨M-2,by omega⟩
   rw[aLoop,F230_L0]
   simp only[↓sW,sL,he0,he1,bs1,strip_own,qa',qb2,ek,hs,qc2,nr1,nr2,nr3,Bool.false_eq_true,ite_false,d230_2,e4]
   exact l277_done k3 ((upds_get _ _ _ rfl).trans he0) (by simp[upds_at,upd_at])
  ·-- one more
   rw[hc]at hev
   simp only[Bool.true_eq,Bool.and_eq_true,Bool.not_eq_true']at hev
   obtain⟨⟨h1,h2⟩,h3⟩:=hev
   rw[h1]at qa'
   rw[h2]at qb2
   rw[h3]at qc2
   obtain⟨s4,J4,q4,p4,x4⟩:=(H m (Nat.lt_succ_self m)).st n (by omega) P sc rest base k cs J false tw cw pc hrb (by omega)
   have e4:aCall Tryz.prog (den C n) 231 [.ref P 0] sc=some (.bool false,s4):=q4
   obtain⟨s6,J6,e6,p6,x6⟩:=ih H0 hn0 s4 tw base k cw J4 v t9 c9 b8 t8 c8 b' rest' cs' p4 hrw hr8 hr7 hb
   refine⟨s6,J6,fun M n' e hM he0 he1=>?_,p6,(((xa.trans xb).trans xc).trans x4).trans x6⟩
   obtain⟨M,rfl⟩:∃j,M=j+1:=⟨M-1,by omega⟩
   rw[aLoop,F230_L0]
   simp only[↓sW,sL,he0,he1,bs1,strip_own,qa',qb2,ek,hs,qc2,nr1,nr2,nr3,Bool.false_eq_true,ite_false,d230_2,e4]
   exact e6 _ _ _ (by omega) ((upds_get _ _ _ rfl).trans he0) (by simp[upds_at,upd_at])
theorem s277 {ts:List Tok}{m:Nat}(H:∀k<m,AllS ts k):Sim ts m (.seq (gExpect wLBr) (.seq (.bra (.whil blkC (.call 2)) nop (.put 0)) (gExpect wRBr))) vd (fnF 230 fun P=>[.box [.ref P 0] 0]):=by
 intro n hn P s rest base k cs J b rest' cs' h hr hb
 obtain⟨n,rfl⟩:∃j,n=j+1:=⟨n-1,by omega⟩
 obtain⟨m1,b1,t1,c1,hm1,ha1,hr1,hz1⟩:=seq_inv hr
 obtain⟨m2,b2,t2,c2,hm2,ha2,hr2,hz2⟩:=seq_inv hr1
 obtain⟨m3,v,t3,c3,hm3,ha3,hz3,ho3⟩:=bra_inv ha2
 have hr8:run m3 (if v=true then nop else .put 0) t3 c3=some (b2,t2,c2):=by
  rcases ho3 with ⟨hv,h⟩|⟨hv,h⟩<;>subst hv<;>exact h
 obtain⟨s1,J1,q1,p1,x1⟩:=expect_sim ts m1 wLBr n (by omega) P s rest base k cs J b1 t1 c1 h ha1 (by omega)
 have e1:aCall Tryz.prog (den C n) 169 [.ref P 0,.str [123]] s=some (.tup [],s1):=q1
 obtain⟨s2,J2,e2,p2,x2⟩:=l277 (P:=P) (n:=n) (m8:=m3) (m7:=m2) (by omega) (by omega) m3 (fun k hk=>H k (by omega)) (by omega) s1 t1 base k c1 J1 v t3 c3 b2 t2 c2 b rest' cs' p1 ha3 hr8 hr2 hb
 refine⟨s2,J2,?_,p2,x1.trans x2⟩
 show aCall Tryz.prog (den C (n+1)) 230 [.box [.ref P 0] 0] s=_
 rw[callR en230 (box1 ..),F230_eq,F230]
 simp only[↓sW,sL,e1]
 exact e2 _ _ _ (by omega) rfl rfl
theorem s227 {ts:List Tok}{m:Nat}(H:∀k<m,AllS ts k):Sim ts m gBlock vd (fnF 198 fun P=>[.ref P 0]):=by
 intro n hn P s rest base k cs J b rest' cs' h hr hb
 obtain⟨n,rfl⟩:∃j,n=j+1:=⟨n-1,by omega⟩
 obtain⟨s1,J1,q1,p1,x1⟩:=(node_simD (ts:=ts) (m:=m) (k:=21) (v:=fun P=>.fn 230 [] [.box [.ref P 0] 0]) (fun _=>rfl) (fun k hk=>s277 (fun k hk=>H k (by omega)))) n (by omega) P s rest base k cs J b rest' cs' h hr hb
 have e1:aCall Tryz.prog (den C n) 104 [.ref P 0,.int .i64 21,.fn 230 [] [.box [.ref P 0] 0]] s=some (.tup [],s1):=q1
 refine⟨s1,J1,?_,p1,x1⟩
 show aCall Tryz.prog (den C (n+1)) 198 [.ref P 0] s=_
 rw[callR en198 (ref1 ..),F198_eq,F198]
 simp only[↓sW,sL,aBox_ref,e1]
theorem all_sim (ts:List Tok):∀(n m:Nat),m<n→AllS ts m:=by
 intro n
 induction n with
 | zero=>intro m h;omega
 | succ n ih =>
  intro m hm
  have H:∀k<m,∀j<k,AllS ts j:=fun k hk j hj=>ih j (by omega)
  refine⟨call_sim fun k hk=>s185 k (H k hk),call_sim fun k hk=>s227 (H k hk),call_sim fun k hk=>s278 k (H k hk),call_sim fun k hk=>s318 k (H k hk),call_sim fun k hk=>s334 k (H k hk),call_sim fun k hk=>s338 k (H k hk),?_,call_sim fun k hk=>s285 k (H k hk),?_⟩
  ·intro n hn P s rest base k cs J b rest' cs' h hr hb
   obtain⟨m',hm',hr1⟩:=call_inv hr
   obtain⟨n,rfl⟩:∃j,n=j+1:=⟨n-1,by omega⟩
   obtain⟨s1,J1,q1,p1,x1⟩:=s241 (ts:=ts) (l:=0) (by decide) m' (H m' (by omega)) n (by omega) P s rest base k cs J b rest' cs' h hr1 hb
   have e1:aCall Tryz.prog (den C n) 212 [.ref P 0,.int .i64 0] s=some (.tup [],s1):=q1
   refine⟨s1,J1,?_,p1,x1⟩
   show aCall Tryz.prog (den C (n+1)) 171 [.ref P 0] s=_
   rw[callR en171 (ref1 ..),F171_eq,F171]
   simp only[↓sW,sL,e1]
  ·intro l hl
   by_cases h5:l=5
   ·subst h5
    intro n hn P s rest base k cs J b rest' cs' h hr hb
    obtain⟨m',hm',hr1⟩:=call_inv hr
    obtain⟨n,rfl⟩:∃j,n=j+1:=⟨n-1,by omega⟩
    obtain⟨s1,J1,q1,p1,x1⟩:=s285 (ts:=ts) m' (H m' (by omega)) n (by omega) P s rest base k cs J b rest' cs' h hr1 hb
    have e1:aCall Tryz.prog (den C n) 238 [.ref P 0] s=some (.tup [],s1):=q1
    refine⟨s1,J1,?_,p1,x1⟩
    show aCall Tryz.prog (den C (n+1)) 212 [.ref P 0,.int .i64 5] s=_
    rw[callR en212 (ref1 ..),F212_eq,F212]
    simp only[↓sW,sL,show ((5:Int)==5)=true from rfl,aBox_ref,aBox_int,e1]
   ·refine call_sim fun k hk=>?_
    have hd:defs (10+l)=gBinary l:=by
     match l,hl,h5 with
     | 0,_,_=>rfl
     | 1,_,_=>rfl
     | 2,_,_=>rfl
     | 3,_,_=>rfl
     | 4,_,_=>rfl
     | 5,_,h5=>exact absurd rfl h5
    rw[hd]
    exact s241 (l:=l) (by omega) k (H k hk)
theorem allS (ts:List Tok)(m:Nat):AllS ts m:=all_sim ts (m+1) m (Nat.lt_succ_self m)
end ParF
end

section
namespace ParF
open Go Go.Abs Go.Proofs Pm
theorem insN_inv {m:Nat}{ts ts':List Tok}{cs cs':List Tree}{b:Bool}(h:run m .insN ts cs=some (b,ts',cs')):∃ini t,cs=ini++[t]∧cs'=ini++[.mk 0 [] [],t]∧ts'=ts∧b=false:=by
 obtain⟨m,rfl⟩:=run_pos h
 rw[run_insN]at h
 obtain⟨t,h0,h⟩:=Option.bind_eq_some_iff.1 h
 cases h
 exact⟨cs.dropLast,t,getLast_split h0,rfl,rfl,rfl⟩
theorem en207:enterable Tryz.prog 207=true:=by kernel_rfl
theorem ins_run {ts:List Tok}{P:Nat}{s:Heap}{rest:List Tok}{base:List Lv}{k0:Nat}{ini:List Tree}{t:Tree}{J:List Nat}(h:PR ts P s rest base k0 (ini++[t]) J)(hb:ini.length<900000000) :
  ∃Q id s1 s' J',aLoad false false 1 (.ref P 2) s=some (.rs 65 3 Q 0 (base.length+1),s)∧aLoad false false 1 (.ref Q (base.length*3+2)) s=some (.rs 65 3 id 0 (ini.length+1),s) ∧
   (∀n,aCall Tryz.prog (den C (n+1)) 207 [.rs 65 3 id 0 (ini.length+1),I ini.length,.sl 65 3 [zrow] .sh] s=some (.rs 65 3 s.length 0 (ini.length+2),s1)) ∧
   aStore 1 s1 (.ref Q (base.length*3+2)) (.rs 65 3 s.length 0 (ini.length+2))=some s'∧PR ts P s' rest base k0 (ini++[.mk 0 [] [],t]) J'∧Ex s s' J J':=by
 obtain⟨pos,i,rfl,h⟩:=h
 obtain⟨tk,Q,junk,f,rfl⟩:=h.facts
 have hP:=glt f.par
 have hQ:=glt f.row
 have hok:=f.ok
 obtain⟨id,rfl⟩:∃id,i=some id:=by
  cases i with
  | none=>have h0:ini++[t]=[]:=hok;simp at h0
  | some id=>exact⟨id,rfl⟩
 obtain⟨rows,cj,h1,h2,h3⟩:=hok
 obtain⟨r1,r2,rfl,l1,l2⟩:=IsL.split h2
 cases l2 with
 | cons _ a _ _ ht l3 =>
 cases l3 with
 | nil =>
 obtain⟨c1,c2,c3,c4⟩:=ht.cells
 obtain⟨d1,d2,d3,d4⟩:=l1.cells
 obtain⟨tP,tQ,tl⟩:=f.top id rfl
 rw[cellsOf_snoc]at h1
 have hil:(ini++[t]).length=ini.length+1:=by rw[app_len];rfl
 have e3:(ini.length+1-1)*3=(cellsOf r1).length:=by omega
 have tk1:(cellsOf r1++a.cells++cj).take ((ini.length+1-1)*3)=cellsOf r1:=by
  rw[e3,List.append_assoc,List.take_append_of_le_length (Nat.le_refl _),List.take_of_length_le (Nat.le_refl _)]
 have dk1:((cellsOf r1++a.cells++cj).drop ((ini.length+1-1)*3)).take 3=a.cells:=by
  rw[e3,List.append_assoc,List.drop_left,List.take_append_of_le_length (by omega),List.take_of_length_le (by omega)]
 have ecall:∀n,aCall Tryz.prog (den C (n+1)) 207 [.rs 65 3 id 0 (ini.length+1),I ini.length,.sl 65 3 [zrow] .sh] s=some (.rs 65 3 s.length 0 (ini.length+2),kill s id++[(65,cellsOf r1++[I 0,.str [],.nils]++a.cells)]):=by
  intro n
  rw[callR en207 (by rw[noRefL_cons];rfl),den_ext (e:=eInsert) (by rfl)]
  simp only[eInsert,h1]
  have ow1:a.cells.all (fun x=>!x.isOwn)=true:=by
   rw[←c2,List.all_eq_true];intro x hx
   obtain⟨q,_,rfl⟩:=List.mem_map.1 hx
   rw[strip_isOwn];rfl
  rw[if_pos ⟨trivial,trivial,trivial,by omega,by omega,by first|exact trivial|rfl,by rw[app_len,app_len];omega,by omega,by rw[dk1];exact ow1⟩,tk1,dk1]
  rfl
 have fr1:∀x,x<s.length→x≠id→(kill s id++[(65,cellsOf r1++[I 0,.str [],.nils]++a.cells)])[x]?=s[x]?:=fun x hx hne=>by
  rw[gapp_old (by rw[kill_length];exact hx),gkill_ne (Ne.symm hne)]
 have gnew:(kill s id++[(65,cellsOf r1++[I 0,.str [],.nils]++a.cells)])[s.length]?=some (65,cellsOf r1++[I 0,.str [],.nils]++a.cells):=by
  have:=gapp_new (s:=kill s id) (x:=(65,cellsOf r1++[I 0,.str [],.nils]++a.cells))
  rw[kill_length]at this;exact this
 have q1:=(fr1 Q hQ (Ne.symm tQ)).trans f.row
 have len1:(kill s id++[(65,cellsOf r1++[I 0,.str [],.nils]++a.cells)]).length=s.length+1:=by rw[app_length,kill_length]
 generalize hs1:kill s id++[(65,cellsOf r1++[I 0,.str [],.nils]++a.cells)]=s1 at *
 have hrl:=row_length (base++[(⟨k0,ini++[t],some id⟩:Lv)])
 rw[app_len]at hrl
 have st1:=ParF.st (s:=s1) (o:=base.length*3+2) (n:=1) (v:=.rs 65 3 s.length 0 (ini.length+2)) q1 (by decide) rfl rfl (by rw[app_len,hrl];show _≤3*(base.length+1)+_;omega)
 have hst':stCells (.rs 65 3 s.length 0 (ini.length+2))=[AV.rs 65 3 s.length 0 (ini.length+2)]:=rfl
 rw[hst',row_set]at st1
 have fr2:∀x,x≠Q→(s1.set Q (65,base.flatMap Lv.row++[I (k0:Nat),.str [],.rs 65 3 s.length 0 (ini.length+2)]++junk))[x]?=s1[x]?:=fun x hne=>gset_ne (Ne.symm hne)
 refine⟨Q,id,s1,_,_,ld (o:=2) f.par (by decide) rfl (by decide),?_,ecall,st1,⟨pos,some s.length,rfl,Fs.ps (tk:=tk) (Q:=Q) (junk:=junk) (l:=⟨k0,ini++[.mk 0 [] [],t],some s.length⟩) ⟨f.htk,?_,?_,f.ne,fun i hi=>?_,fun i hi=>?_,f.nd,⟨r1++[zrow,a],[],?_,?_,?_⟩,fun l' hl'=>?_,f.pos,f.len⟩⟩,?_⟩
 ·rw[ld (n:=1) (o:=base.length*3+2) f.row (by decide) (row_at 2 (by decide)) (by decide),ch_strip,←hil];rfl
 ·rw[fr2 P f.ne,fr1 P hP (Ne.symm tP)];exact f.par
 ·have e2:(ini++[Tree.mk 0 [] [],t]).length=ini.length+2:=by rw[app_len];rfl
  rw[gset_eq q1,flat_snoc]
  show _=some (65,base.flatMap Lv.row++[I (k0:Nat),.str [],.rs 65 3 s.length 0 (ini++[Tree.mk 0 [] [],t]).length]++junk)
  rw[e2]
 ·obtain⟨a1,a2,a3,a4⟩:=f.hbase i hi
  exact⟨a1,a2,by rw[set_length];omega,fun e=>by cases e;omega⟩
 ·cases hi
  exact⟨by omega,by omega,by rw[set_length];omega⟩
 ·rw[fr2 s.length (by omega),gnew,cellsOf_append]
  show _=some (65,cellsOf r1++(zrow.cells++(a.cells++[]))++[])
  rw[List.append_nil,List.append_nil,List.append_assoc]
  rfl
 ·exact l1.append (.cons _ _ _ _ (.mk _ _ _ _ .nil) (.cons _ _ _ _ ht .nil))
 ·intro e;have:=congrArg List.length e;rw[cellsOf_append,app_len,app_len]at this
  have h0:(cellsOf [zrow,a]).length=3+(a.cells.length+0):=by
   show (zrow.cells++(a.cells++[])).length=_
   rw[app_len,app_len];rfl
  rw[h0]at this
  simp at this
 ·refine Lv.ok_frame (f.oks l' hl') fun i hi=>?_
  obtain⟨a1,a2,a3,a4⟩:=f.hbase i (List.mem_filterMap.2 ⟨l',hl',hi⟩)
  rw[fr2 i a2,fr1 i a3 (fun e=>a4 (by rw[e]))]
 ·refine⟨by rw[set_length];omega,fun x hx hj=>?_,fun x hx=>?_⟩
  ·unfold JJ at hj
   simp only[List.mem_cons,List.mem_append,Option.mem_toList,not_or]at hj
   rw[fr2 x hj.2.1,fr1 x hx (fun e=>hj.2.2.2 (by rw[e]))]
  ·unfold JJ at hx ⊢
   simp only[List.mem_cons,List.mem_append,Option.mem_toList]at hx ⊢
   rcases hx with k|k|k|k
   ·exact .inl (.inl k)
   ·exact .inl (.inr (.inl k))
   ·exact .inl (.inr (.inr (.inl k)))
   ·cases k;exact .inr (Nat.le_refl _)
end ParF
end

section
namespace ParF
open Go Go.Abs Go.Proofs Pm
section
variable {ts:List Tok}{n M:Nat}{l:List (Nat×G)}{rv:Bool→AV}{P:Nat}{rest:List Tok}{base:List Lv}{k:Nat}{cs:List Tree}{J:List Nat}{b0:Bool}{s:Heap}{X:Option (AV×Heap)}{h:Nat}{g:G}{f f2:FuncId}{a a2:Nat→List AV}
theorem win (p:PR ts P s rest base k cs J)(N:∀{ini:List Tree}{t:Tree}{Q id:Nat}{s1 s':Heap}{J':List Nat},ini.length<900000000→base.length<900000000→aLoad false false 1 (.ref P 2) s=some (.rs 65 3 Q 0 (base.length+1),s)→aLoad false false 1 (.ref Q (base.length*3+2)) s=some (.rs 65 3 id 0 (ini.length+1),s) →
  aCall Tryz.prog (den C n) 207 [.rs 65 3 id 0 (ini.length+1),I ini.length,.sl 65 3 [zrow] .sh] s=some (.rs 65 3 s.length 0 (ini.length+2),s1)→aStore 1 s1 (.ref Q (base.length*3+2)) (.rs 65 3 s.length 0 (ini.length+2))=some s'→PR ts P s' rest base k (ini++[.mk 0 [] [],t]) J' →
  Ex s s' J J'→W ts n M l rv P rest base k (ini++[.mk 0 [] [],t]) J' false s' X):W ts n M ((h,.insN)::l) rv P rest base k cs J b0 s X:=by
 rintro hn H b r' c' ⟨m,b1,r1,c1,hm,hr,h⟩ hb
 obtain⟨ini,t,rfl,rfl,rfl,rfl⟩:=insN_inv hr
 have hz:=len_le_sz (ini++[.mk 0 [] [],t])
 have hs:=h.sz
 rw[app_len]at hz
 obtain⟨Q,id,s1,s',J',l1,l2,l3,l4,p',x⟩:=ins_run p (by omega)
 obtain⟨n,rfl⟩:∃j,n=j+1:=⟨n-1,by omega⟩
 exact wx x (N (by omega) (by omega) l1 l2 (l3 n) l4 p' x) hn H b r' c' h hb
theorem tail1 (q:SimH ts g vd (fnF f2 a2))(e:∀n P s,aCall Tryz.prog (den C (n+1)) f (a P) s=oh (aCall Tryz.prog (den C n) f2 (a2 P) s) fun _ s=>some (.tup [],s)):SimL ts g vd (fnF f a):=by
 intro m H n hn P s rest base k cs J b rest' cs' h hr hb
 obtain⟨n,rfl⟩:∃j,n=j+1:=⟨n-1,by omega⟩
 obtain⟨s',J',e1,p,x⟩:=q m (fun j hj=>H j (by omega)) n (by omega) P s rest base k cs J b rest' cs' h hr hb
 have e1:aCall Tryz.prog (den C n) f2 (a2 P) s=_:=e1
 exact⟨s',J',by show aCall _ _ f (a P) s=_;rw[e,e1];rfl,p,x⟩
end
theorem s183 {ts:List Tok}:SimH ts gImpl vd (fnF 168 fun P=>[.ref P 0]):=.mk fun {n P s rest base k cs J M} p=>by
 unfold fnF;rw[callR en168 (ref1 ..),F168_eq,F168];simp only[↓sW,sB]
 refine wq (wc (lf s224) p fun p=>wq (wc tyL p fun p=>wq (wa p (fun p=>?_) fun p=>?_)))
 ·simp only[↓sW,sB,F168_J0,upds_at,upds_nil,upd_at,argEnv_0,argEnv_1,ite_false,ite_true,zne];exact wc tyL p fun p=>wc (lf s182) p fun p=>wd p
 ·refine win p @fun ini t Q id s1 s' J' hi hb l1 l2 l3 l4 p x=>?_
  simp only[↓sW,sB,F168_J0,upds_at,upds_nil,upd_at,argEnv_0,argEnv_1,ite_false,ite_true,zne,l1,l2,l3,l4,build52_1 (I 0) rfl rfl rfl,len50_rs,wsub1 (a:=base.length) (by omega),wsub1 (a:=ini.length) (by omega),idx_top,zero50,strip_rs,d168_4]
  exact wc (lf s182) p fun p=>wd p
theorem s114_3 {ts:List Tok}:SimL ts (gBody 3) vd (fnF 108 fun P=>[.ref P 0,.int .i64 3]):=tail1 s179t fun n P s=>by
 rw[callR en108 (ref1 ..),F108_eq,F108];simp(config:={decide:=true}) only[↓sW,sB,show ((3:Int)==2)=false from rfl,show ((3:Int)==3)=true from rfl,F108_J2,bin_eql,upds_at,upds_nil,upd_at,argEnv_0,argEnv_1,ite_false,Nat.reduceEqDiff]
theorem s114_4 {ts:List Tok}:SimL ts (gBody 4) vd (fnF 108 fun P=>[.ref P 0,.int .i64 4]):=tail1 s180t fun n P s=>by
 rw[callR en108 (ref1 ..),F108_eq,F108];simp(config:={decide:=true}) only[↓sW,sB,show ((4:Int)==2)=false from rfl,show ((4:Int)==3)=false from rfl,show ((4:Int)==4)=true from rfl,F108_J2,bin_eql,upds_at,upds_nil,upd_at,argEnv_0,argEnv_1,ite_false,Nat.reduceEqDiff]
theorem s114_5 {ts:List Tok}:SimL ts (gBody 5) vd (fnF 108 fun P=>[.ref P 0,.int .i64 5]):=tail1 s180f fun n P s=>by
 rw[callR en108 (ref1 ..),F108_eq,F108];simp(config:={decide:=true}) only[↓sW,sB,show ((5:Int)==2)=false from rfl,show ((5:Int)==3)=false from rfl,show ((5:Int)==4)=false from rfl,show ((5:Int)==5)=true from rfl,F108_J2,bin_eql,upds_at,upds_nil,upd_at,argEnv_0,argEnv_1,ite_false,Nat.reduceEqDiff]
theorem s114_7 {ts:List Tok}:SimL ts (gBody 7) vd (fnF 108 fun P=>[.ref P 0,.int .i64 7]):=tail1 s183 fun n P s=>by
 rw[callR en108 (ref1 ..),F108_eq,F108];simp(config:={decide:=true}) only[↓sW,sB,show ((7:Int)==2)=false from rfl,show ((7:Int)==3)=false from rfl,show ((7:Int)==4)=false from rfl,show ((7:Int)==5)=false from rfl,show ((7:Int)==6)=false from rfl,show ((7:Int)==7)=true from rfl,F108_J2,bin_eql,upds_at,upds_nil,upd_at,argEnv_0,argEnv_1,ite_false,Nat.reduceEqDiff]
theorem s114_6 {ts:List Tok}:SimL ts (gBody 6) vd (fnF 108 fun P=>[.ref P 0,.int .i64 6]):=lf <| .mk fun p=>by
 unfold fnF;rw[callR en108 (ref1 ..),F108_eq,F108];simp(config:={decide:=true}) only[↓sW,sB,show ((6:Int)==2)=false from rfl,show ((6:Int)==3)=false from rfl,show ((6:Int)==4)=false from rfl,show ((6:Int)==5)=false from rfl,show ((6:Int)==6)=true from rfl,F108_J2,bin_eql,upds_at,upds_nil,upd_at,argEnv_0,argEnv_1,ite_false,Nat.reduceEqDiff]
 exact wq (wc identL p fun p=>wc (lf s182) p fun p=>wd p)
theorem s114_8 {ts:List Tok}:SimL ts (gBody 8) vd (fnF 108 fun P=>[.ref P 0,.int .i64 8]):=lf <| .mk fun p=>by
 unfold fnF;rw[callR en108 (ref1 ..),F108_eq,F108];simp(config:={decide:=true}) only[↓sW,sB,show ((8:Int)==2)=false from rfl,show ((8:Int)==3)=false from rfl,show ((8:Int)==4)=false from rfl,show ((8:Int)==5)=false from rfl,show ((8:Int)==6)=false from rfl,show ((8:Int)==7)=false from rfl,show ((8:Int)==8)=true from rfl,F108_J2,bin_eql,upds_at,upds_nil,upd_at,argEnv_0,argEnv_1,ite_false,Nat.reduceEqDiff]
 exact wq (wc identL p fun p=>wq (wc expectL p fun p=>wq (wc tyL p fun p=>wq (wc expectL p fun p=>wq (wc exL p fun p=>wc expectL p fun p=>wd p)))))
theorem s114_9 {ts:List Tok}:SimL ts (gBody 9) vd (fnF 108 fun P=>[.ref P 0,.int .i64 9]):=lf <| .mk fun p=>by
 unfold fnF;rw[callR en108 (ref1 ..),F108_eq,F108];simp(config:={decide:=true}) only[↓sW,sB,show ((9:Int)==2)=false from rfl,show ((9:Int)==3)=false from rfl,show ((9:Int)==4)=false from rfl,show ((9:Int)==5)=false from rfl,show ((9:Int)==6)=false from rfl,show ((9:Int)==7)=false from rfl,show ((9:Int)==8)=false from rfl,show ((9:Int)==9)=true from rfl,F108_J2,bin_eql,upds_at,upds_nil,upd_at,argEnv_0,argEnv_1,ite_false,Nat.reduceEqDiff]
 exact wq (wc identL p fun p=>wq (wc expectL p fun p=>wq (wc (lf s187) p fun p=>wq (wc expectL p fun p=>wq (wc exL p fun p=>wc expectL p fun p=>wd p)))))
end ParF
end

section
namespace ParF
open Go Go.Abs Go.Proofs Pm
theorem node_cell {ts:List Tok}{k:Nat}{P:Nat}{s:Heap}{rest rest':List Tok}{base:List Lv}{k0:Nat}{cs ds:List Tree}{J:List Nat}(L:Nat)(c:TypeId×List AV)(h:PR ts P s rest base k0 cs J)(hb:base.length+(szL cs+(1+szL ds))<900000000){v:AV}(hv:v.strip=v)(n:Nat)
  (hg:∀s3 lv J3,PR ts P s3 rest (base++[lv]) k [] J3→Ex s s3 J J3→∃s4 J4 r,aCallV Tryz.prog (den C (n+2)) v [] s3=some (r,s4)∧PR ts P s4 rest' (base++[lv]) k ds J4∧Ex s3 s4 (L::J3) (L::J4)∧s4[L]?=some c∧L∉J4) :
  ∃s5 J5,aCall Tryz.prog (den C (n+3)) 104 [.ref P 0,I k,v] s=some (.tup [],s5)∧PR ts P s5 rest' base k0 (cs++[.mk k [] ds]) J5∧Ex s s5 (L::J) (L::J5)∧s5[L]?=some c∧L∉J5:=by
 obtain⟨pos,i,rfl,h⟩:=h
 have hc:=len_le_sz cs
 obtain⟨tk,Q,s1,s2,s3,J3,p0,nQ,e1,e2,e3,p3,l3,f3,j3,hP⟩:=push_lv h (by rw[app_len];show base.length+1<_;omega) (by rw[app_len];show 0<_+1;omega) (l:=⟨k,[],none⟩) rfl nofun
 have x3:Ex s s3 J J3:=⟨l3,f3,fun x hx=>by
  rcases j3 x hx with k|k|k
  ·exact .inl k
  ·cases k
  ·exact .inr k⟩
 obtain⟨s4,J4,r,e4,p4,x4,hL4,hj4⟩:=hg s3 ⟨k0,cs,i⟩ J3 ⟨pos,none,rfl,p3⟩ x3
 obtain⟨pos4,i4,rfl,p4⟩:=p4
 obtain⟨s5,i5,J5,e5,p5,x5⟩:=finish_run p4 (by show cs.length+_<_;omega)
 refine⟨s5,J5,?_,⟨pos4,i5,rfl,p5⟩,((x3.weak [L]).trans x4).trans (x5.weak [L]),(x5.fr L (glt hL4) hj4).trans hL4,x5.notin (glt hL4) hj4⟩
 have e5:=e5 n
 have q0:aLoad false false 1 (.ref P 2) s=some (.rs 65 3 Q 0 (base++[(⟨k0,cs,i⟩:Lv)]).length,s):=ld (o:=2) p0 (by decide) rfl (by decide)
 have e2:aStore 3 s1 (.ref s.length ((base++[(⟨k0,cs,i⟩:Lv)]).length*3)) (.agg [I k,.str [],.nils])=some s2:=e2
 rw[callR en104 (ref1 ..),F104_eq,F104]
 simp only[↓sW,sL,q0,build52_1 (I k) rfl rfl rfl,len50_rs,zero50,e1,idx_top,e2,strip_rs,e3,kStore_ref,appK_rs,d104_0 s.length P (by omega),hv,e4,e5]
theorem PR.setc {ts:List Tok}{P:Nat}{s:Heap}{rest:List Tok}{base:List Lv}{k:Nat}{cs:List Tree}{J:List Nat}(h:PR ts P s rest base k cs J){L:Nat}(hj:L∉J)(v:TypeId×List AV):PR ts P (s.set L v) rest base k cs J:=by
 obtain⟨pos,i,e,h⟩:=h
 exact⟨pos,i,e,h.frame fun x hx=>gset_ne fun e=>hj (e▸hx)⟩
def useBody:G:=.ite (fun _ t _=>atT [wStar] t) (.ret true) (.seq .bump (.seq (.node 18 gIdent) nop))
theorem l223_done {ts:List Tok}{n:Nat}(hn:ts.length+80≤n){P L:Nat}{s:Heap}{rest:List Tok}{base:List Lv}{k:Nat}{cs:List Tree}{J:List Nat}(h:PR ts P s rest base k cs J)(hL:s[L]?=some (4,[.bool true]))(hj:L∉J) :
  ∃s',(∀M n' e,e 0=pb P→e 1=.ref L 0→aLoop (F194_L0 (den C n) n') (M+1) e s=some (.tup [],s'))∧PR ts P s' rest base k cs J∧Ex s s' J J:=by
 obtain⟨sa,qa,pa,xa⟩:=(at_rd (ts:=ts) [wColCol] (by decide:1<50)).use (n:=n) hn h
 have qa':aCall Tryz.prog (den C n) 100 [.ref P 0,.sl 9 1 [.str [58,58]] .sh] s=some (.bool (atT [wColCol] (pk rest)),sa):=qa
 have hLa:=(xa.fr L (glt hL) hj).trans hL
 have la:aLoad false false 1 (.ref L 0) sa=some (.bool true,sa):=ld (o:=0) hLa (by decide) rfl (by decide)
 refine⟨sa,fun M n' e he0 he1=>?_,pa,xa⟩
 rw[aLoop,F194_L0]
 cases h1:atT [wColCol] (pk rest) with
 | true =>
  rw[h1]at qa'
  simp only[↓sW,sL,he0,he1,bs1,strip_own,qa',la]
 | false =>
  rw[h1]at qa'
  simp only[↓sW,sL,he0,he1,bs1,strip_own,qa']
theorem l223 {ts:List Tok}{n P L:Nat}:∀(m:Nat),m*20+ts.length+140≤n→∀s rest base k cs J b rest' cs',PR ts P s rest base k cs J→s[L]?=some (4,[.bool false])→L∉J→run m (.whil (rAt [wColCol]) useBody) rest cs=some (b,rest',cs')→base.length+szL cs'<900000000 →
  ∃s' J',(∀M n' e,m+1<M→e 0=pb P→e 1=.ref L 0→aLoop (F194_L0 (den C n) n') M e s=some (.tup [],s'))∧PR ts P s' rest' base k cs' J'∧Ex s s' (L::J) (L::J')∧s'[L]?=some (4,[.bool b])∧L∉J':=by
 intro m
 induction m with
 | zero=>intro _ s rest base k cs J b rest' cs' h _ _ hr;rw[Pm.run_zero]at hr;cases hr
 | succ m ih =>
  intro hn s rest base k cs J b rest' cs' h hL hj hr hb
  have hn0:m*20+ts.length+140≤n:=by omega
  obtain⟨m',hm',hw⟩:=whil_inv hr
  cases hm'
  obtain⟨sa,qa,pa,xa⟩:=(at_rd (ts:=ts) [wColCol] (by decide:1<50)).use (n:=n) (by omega) h
  have hLa:=(xa.fr L (glt hL) hj).trans hL
  have la':aLoad false false 1 (.ref L 0) sa=some (.bool false,sa):=ld (o:=0) hLa (by decide) rfl (by decide)
  rcases hw with ⟨hc,rfl,rfl,rfl⟩|⟨hc,hrb,rfl⟩|⟨hc,tw,cw,hrb,hrw,hzw⟩
  ·have ea:aCall Tryz.prog (den C n) 100 [.ref P 0,.sl 9 1 [.str [58,58]] .sh] s=some (.bool false,sa):=by rw[←hc];exact qa
   refine⟨sa,J,fun M n' e hM he0 he1=>?_,pa,xa.weak [L],hLa,hj⟩
   obtain⟨M,rfl⟩:∃j,M=j+1:=⟨M-1,by omega⟩
   rw[aLoop,F194_L0]
   simp only[↓sW,sL,he0,he1,bs1,strip_own,ea]
  ·have ea:aCall Tryz.prog (den C n) 100 [.ref P 0,.sl 9 1 [.str [58,58]] .sh] s=some (.bool true,sa):=by rw[←hc];exact qa
   obtain⟨sx,Px,sb,ql,q2,pb',xb⟩:=look_at [wStar] (by decide:1<50) (n:=n) (by omega) pa
   obtain⟨m1,hm1,ho⟩:=ite_inv hrb
   have hLb:=(xb.fr L (glt hLa) hj).trans hLa
   rcases ho with ⟨hc1,hr1⟩|⟨hc1,hr1⟩
   ·have e2:aCall Tryz.prog (den C n) 100 [.ref Px 0,.sl 9 1 [.str [42]] .sh] sx=some (.bool true,sb):=by rw[←hc1];exact q2
    obtain⟨-,rfl,rfl⟩:=ret_inv hr1
    have sto:aStore 1 sb (.ref L 0) (.bool true)=some (sb.set L (4,[.bool true])):=by rw[ParF.st (o:=0) (n:=1) (v:=.bool true) hLb (by decide) rfl rfl (by show 0+1≤1;omega)];rfl
    have pc:=pb'.setc hj (4,[.bool true])
    have hLc:(sb.set L (4,[AV.bool true]))[L]?=some (4,[.bool true]):=gset_eq hLb
    have lc:aLoad false false 1 (.ref L 0) (sb.set L (4,[.bool true]))=some (.bool true,sb.set L (4,[.bool true])):=ld (o:=0) hLc (by decide) rfl (by decide)
    obtain⟨s',qd,pd,xd⟩:=l223_done (n:=n) (by omega) pc hLc hj
    have xc:Ex sb (sb.set L (4,[AV.bool true])) (L::J) (L::J):=⟨by rw[set_length];exact Nat.le_refl _,fun x hx hj=>gset_ne fun e=>hj (by rw[←e];exact List.mem_cons_self ..),fun _ h=>.inl h⟩
    refine⟨s',J,fun M n' e hM he0 he1=>?_,pd,(((xa.weak [L]).trans (xb.weak [L])).trans xc).trans (xd.weak [L]),(xd.fr L (glt hLc) hj).trans hLc,hj⟩
    obtain⟨M,rfl⟩:∃j,M=j+2:=⟨M-2,by omega⟩
    rw[aLoop,F194_L0]
    simp only[↓sW,sL,he0,he1,bs1,strip_own,ea,la',ql,e2,sto,lc]
    exact qd _ _ _ ((upds_get _ _ _ rfl).trans he0) ((upds_get _ _ _ rfl).trans he1)
   ·exact absurd (val_false (by rfl) hr1) (by decide)
  ·have ea:aCall Tryz.prog (den C n) 100 [.ref P 0,.sl 9 1 [.str [58,58]] .sh] s=some (.bool true,sa):=by rw[←hc];exact qa
   obtain⟨sx,Px,sb,ql,q2,pb',xb⟩:=look_at [wStar] (by decide:1<50) (n:=n) (by omega) pa
   obtain⟨m1,hm1,ho⟩:=ite_inv hrb
   have hLb:=(xb.fr L (glt hLa) hj).trans hLa
   rcases ho with ⟨hc1,hr1⟩|⟨hc1,hr1⟩
   ·have:=(ret_inv hr1).1;cases this
   ·have e2:aCall Tryz.prog (den C n) 100 [.ref Px 0,.sl 9 1 [.str [42]] .sh] sx=some (.bool false,sb):=by rw[←hc1];exact q2
    have sto:aStore 1 sb (.ref L 0) (.bool false)=some (sb.set L (4,[.bool false])):=by rw[ParF.st (o:=0) (n:=1) (v:=.bool false) hLb (by decide) rfl rfl (by show 0+1≤1;omega)];rfl
    have pc:=pb'.setc hj (4,[.bool false])
    have hLc:(sb.set L (4,[AV.bool false]))[L]?=some (4,[.bool false]):=gset_eq hLb
    have lc:aLoad false false 1 (.ref L 0) (sb.set L (4,[.bool false]))=some (.bool false,sb.set L (4,[.bool false])):=ld (o:=0) hLc (by decide) rfl (by decide)
    have xc:Ex sb (sb.set L (4,[AV.bool false])) (L::J) (L::J):=⟨by rw[set_length];exact Nat.le_refl _,fun x hx hj=>gset_ne fun e=>hj (by rw[←e];exact List.mem_cons_self ..),fun _ h=>.inl h⟩
    obtain⟨m2,b2,t2,c2,hm2,ha2,hr2,hz2⟩:=seq_inv hr1
    obtain⟨m3,b3,t3,c3,hm3,ha3,hr3,hz3⟩:=seq_inv hr2
    obtain⟨-,rfl,rfl⟩:=ret_inv hr3
    obtain⟨s1,J1,q1,p1,x1⟩:=bump_sim ts m2 n (by omega) P _ rest base k cs J b2 t2 c2 pc ha2 (by omega)
    have e1:aCall Tryz.prog (den C n) 107 [.ref P 0] (sb.set L (4,[.bool false]))=some (.tup [],s1):=q1
    obtain⟨s3,J3,q3,p3,x3⟩:=(node_simD (ts:=ts) (m:=m3) (k:=18) (v:=fun P=>.fn 166 [.ref P 0] []) (fun _=>rfl) (fun k hk=>ident_sim ts k)) n (by omega) P s1 t2 base k c2 J1 b3 tw cw p1 ha3 (by omega)
    have e3:aCall Tryz.prog (den C n) 104 [.ref P 0,.int .i64 18,.fn 166 [.ref P 0] []] s1=some (.tup [],s3):=q3
    have x13:=x1.trans x3
    have hL3:=(x13.fr L (glt hLc) hj).trans hLc
    have hj3:=x13.notin (glt hLc) hj
    obtain⟨s4,J4,q4,p4,x4,hL4,hj4⟩:=ih hn0 s3 tw base k cw J3 b rest' cs' p3 hL3 hj3 hrw hb
    refine⟨s4,J4,fun M n' e hM he0 he1=>?_,p4,((((xa.weak [L]).trans (xb.weak [L])).trans xc).trans (x13.weak [L])).trans x4,hL4,hj4⟩
    obtain⟨M,rfl⟩:∃j,M=j+1:=⟨M-1,by omega⟩
    rw[aLoop,F194_L0]
    simp only[↓sW,sL,he0,he1,bs1,strip_own,ea,la',ql,e2,sto,lc,e1,e3]
    exact q4 _ _ _ (by omega) ((upds_get _ _ _ rfl).trans he0) ((upds_get _ _ _ rfl).trans he1)
end ParF
end

section
namespace ParF
open Go Go.Abs Go.Proofs Pm
theorem s223 {ts:List Tok}{m n:Nat}(hn:m*20+ts.length+141≤n){P L:Nat}{s:Heap}{rest:List Tok}{base:List Lv}{k:Nat}{cs:List Tree}{J:List Nat}{b:Bool}{rest':List Tok}{cs':List Tree}
  (h:PR ts P s rest base k cs J)(hL:s[L]?=some (4,[.bool false]))(hj:L∉J)(hr:run m (.seq (.node 18 gIdent) (.whil (rAt [wColCol]) useBody)) rest cs=some (b,rest',cs'))(hb:base.length+szL cs'<900000000) :
  ∃s' J',aCall Tryz.prog (den C n) 194 [.box [.ref P 0] 0,.ref L 0] s=some (.tup [],s')∧PR ts P s' rest' base k cs' J'∧Ex s s' (L::J) (L::J')∧s'[L]?=some (4,[.bool b])∧L∉J':=by
 obtain⟨n,rfl⟩:∃j,n=j+1:=⟨n-1,by omega⟩
 obtain⟨m1,b1,t1,c1,hm1,ha1,hr1,hz1⟩:=seq_inv hr
 obtain⟨s3,J3,q3,p3,x3⟩:=(node_simD (ts:=ts) (m:=m1) (k:=18) (v:=fun P=>.fn 166 [.ref P 0] []) (fun _=>rfl) (fun k hk=>ident_sim ts k)) n (by omega) P s rest base k cs J b1 t1 c1 h ha1 (by omega)
 have e3:aCall Tryz.prog (den C n) 104 [.ref P 0,.int .i64 18,.fn 166 [.ref P 0] []] s=some (.tup [],s3):=q3
 have hL3:=(x3.fr L (glt hL) hj).trans hL
 obtain⟨s4,J4,q4,p4,x4,hL4,hj4⟩:=l223 (P:=P) (n:=n) m1 (by omega) s3 t1 base k c1 J3 b rest' cs' p3 hL3 (x3.notin (glt hL) hj) hr1 hb
 refine⟨s4,J4,?_,p4,(x3.weak [L]).trans x4,hL4,hj4⟩
 rw[callR en194 (box1 ..),F194_eq,F194]
 simp only[↓sW,sL,e3]
 exact q4 _ _ _ (by omega) rfl rfl
theorem Ex.unweak {s s':Heap}{L:Nat}{J J':List Nat}(x:Ex s s' (L::J) (L::J'))(hL:s.length≤L)(hj:L∉J'):Ex s s' J J' :=
 ⟨x.len,fun y hy hj=>x.fr y hy (by
  rw[List.mem_cons];rintro(e|e)
  ·omega
  ·exact hj e),fun y hy=>by
  rcases x.sub y (List.mem_cons_of_mem _ hy) with k|k
  ·rw[List.mem_cons]at k
   rcases k with k|k
   ·exact .inr (by omega)
   ·exact .inl k
  ·exact .inr k⟩
theorem zeroB (s:Heap):aStore 1 (s++[(4,[.bool false])]) (.ref s.length 0) (.bool false)=some (s++[(4,[.bool false])]):=by
 rw[ParF.st (o:=0) (n:=1) (v:=.bool false) (gapp_new (x:=(4,[.bool false]))) (by decide) rfl rfl (by show 0+1≤1;omega),set_end];rfl
theorem s178 {ts:List Tok}{m:Nat}:SimU ts m gUse vd (fnF 163 fun P=>[.ref P 0]):=by
 intro n hn P s rest base k cs J b rest' cs' h hr hb
 obtain⟨m1,b1,t1,c1,hm1,ha1,hr1,hz1⟩:=seq_inv hr
 obtain⟨m2,v,t2,c2,hm2,ha2,hz2,ho2⟩:=bra_inv ha1
 obtain⟨m3,ds,hm3,hr3,hc2⟩:=node_inv ha2
 obtain⟨n,rfl⟩:∃j,n=j+4:=⟨n-4,by omega⟩
 have hz:szL c2=szL cs+(1+szL ds):=by rw[hc2,szL_append,szL_one,szT_mk]
 have pa:=h.app [(4,[.bool false])]
 have nj:s.length∉J:=fun hm=>by obtain⟨pp,ii,_,hh⟩:=h;exact Nat.lt_irrefl _ (hh.lt _ hm)
 have hL0:(s++[(4,[AV.bool false])])[s.length]?=some (4,[.bool false]):=gapp_new
 obtain⟨s5,J5,q5,p5,x5,hL5,hj5⟩:=node_cell (k:=17) (ds:=ds) (rest':=t2) s.length (4,[.bool v]) pa (by omega) (v:=.fn 194 [] [.box [.ref P 0] 0,.ref s.length 0]) rfl n fun s3 lv J3 p3 x3=>by
  have hL3:=(x3.fr s.length (by rw[app_length];omega) nj).trans hL0
  have hj3:=x3.notin (by rw[app_length];omega) nj
  obtain⟨s4,J4,e4,p4,x4,hL4,hj4⟩:=s223 (n:=n+2) (m:=m3) (by omega) p3 hL3 hj3 hr3 (by rw[app_len];show base.length+1+_<_;omega)
  exact⟨s4,J4,_,e4,p4,x4,hL4,hj4⟩
 rw[←hc2]at p5
 have e5:aCall Tryz.prog (den C (n+3)) 104 [.ref P 0,.int .i64 17,.fn 194 [] [.box [.ref P 0] 0,.ref s.length 0]] (s++[(4,[.bool false])])=some (.tup [],s5):=q5
 have x05:Ex s s5 J J5:=(((Ex.app s _ J).weak [s.length]).trans x5).unweak (Nat.le_refl _) hj5
 have l5:aLoad false false 1 (.ref s.length 0) s5=some (.bool v,s5):=ld (o:=0) hL5 (by decide) rfl (by decide)
 have fin:∀s6 J6,PR ts P s6 t1 base k c1 J6→Ex s5 s6 J5 J6→∃s7 J7,aCall Tryz.prog (den C (n+3)) 169 [.ref P 0,.str [59]] s6=some (.tup [],s7)∧PR ts P s7 rest' base k cs' J7∧Ex s s7 J J7:=by
  intro s6 J6 p6 x6
  obtain⟨s7,J7,e7,p7,x7⟩:=expect_sim ts m1 wSemi (n+3) (by omega) P s6 t1 base k c1 J6 b rest' cs' p6 hr1 hb
  exact⟨s7,J7,e7,p7,(x05.trans x6).trans x7⟩
 rcases ho2 with ⟨rfl,hr4⟩|⟨rfl,hr4⟩
 ·obtain⟨m4,b4,t4,c4,hm4,ha4,hr5,hz4⟩:=seq_inv hr4
  obtain⟨s6,J6,q6,p6,x6⟩:=bump_sim ts m4 (n+3) (by omega) P s5 t2 base k c2 J5 b4 t4 c4 p5 ha4 (by omega)
  obtain⟨s7,J7,q7,p7,x7⟩:=bump_sim ts m4 (n+3) (by omega) P s6 t4 base k c4 J6 b1 t1 c1 p6 hr5 (by omega)
  have e6:aCall Tryz.prog (den C (n+3)) 107 [.ref P 0] s5=some (.tup [],s6):=q6
  have e7:aCall Tryz.prog (den C (n+3)) 107 [.ref P 0] s6=some (.tup [],s7):=q7
  obtain⟨s8,J8,e8,p8,x8⟩:=fin s7 J7 p7 (x6.trans x7)
  refine⟨s8,J8,?_,p8,x8⟩
  show aCall Tryz.prog (den C (n+4)) 163 [.ref P 0] s=_
  rw[callR en163 (ref1 ..),F163_eq,F163]
  simp only[↓sW,sL,aBox_ref,zero4,zeroB,e5,l5,e6,e7,F163_J0,upds_at,upds_nil,upd_at,Nat.reduceEqDiff,ite_false,e8]
 ·obtain⟨m4,hm4,ho⟩:=ite_inv hr4
  rcases ho with ⟨hc,hr5⟩|⟨hc,hr5⟩
  ·obtain⟨m5,b5,t5,c5,hm5,ha5,hr6,hz5⟩:=seq_inv hr5
   obtain⟨s6,J6,q6,p6,x6⟩:=acc_yes [wAs] (by decide:1<50) (n:=n+3) (by omega) p5 hc ha5 (by omega)
   have e6:aCall Tryz.prog (den C (n+3)) 106 [.ref P 0,.sl 9 1 [.str [97,115]] .sh] s5=some (.bool true,s6):=q6
   obtain⟨s7,J7,q7,p7,x7⟩:=ident_sim ts m5 (n+3) (by omega) P s6 t5 base k c5 J6 b1 t1 c1 p6 hr6 (by omega)
   have e7:aCall Tryz.prog (den C (n+3)) 166 [.ref P 0] s6=some (.tup [],s7):=q7
   obtain⟨s8,J8,e8,p8,x8⟩:=fin s7 J7 p7 (x6.trans x7)
   refine⟨s8,J8,?_,p8,x8⟩
   show aCall Tryz.prog (den C (n+4)) 163 [.ref P 0] s=_
   rw[callR en163 (ref1 ..),F163_eq,F163]
   simp only[↓sW,sL,aBox_ref,bs1,strip_own,zero4,zeroB,e5,l5,e6,e7,F163_J0,upds_at,upds_nil,upd_at,Nat.reduceEqDiff,ite_false,e8]
  ·obtain⟨-,rfl,rfl⟩:=ret_inv hr5
   obtain⟨s6,q6,p6,x6⟩:=acc_no [wAs] (by decide:1<50) (n:=n+3) (by omega) p5 hc
   have e6:aCall Tryz.prog (den C (n+3)) 106 [.ref P 0,.sl 9 1 [.str [97,115]] .sh] s5=some (.bool false,s6):=q6
   obtain⟨s8,J8,e8,p8,x8⟩:=fin s6 J5 p6 x6
   refine⟨s8,J8,?_,p8,x8⟩
   show aCall Tryz.prog (den C (n+4)) 163 [.ref P 0] s=_
   rw[callR en163 (ref1 ..),F163_eq,F163]
   simp only[↓sW,sL,aBox_ref,bs1,strip_own,zero4,zeroB,e5,l5,e6,F163_J0,upds_at,upds_nil,upd_at,Nat.reduceEqDiff,ite_false,e8]
end ParF
end

section
namespace ParF
open Go Go.Abs Go.Proofs Pm
theorem body_run {ts:List Tok}{m K:Nat}(hK:2≤K∧K≤9){n:Nat}(hn:m*20+ts.length+118≤n){P:Nat}{s:Heap}{rest:List Tok}{base:List Lv}{k:Nat}{cs:List Tree}{J:List Nat}{b:Bool}{rest':List Tok}{cs':List Tree}
  (h:PR ts P s rest base k cs J)(hr:run m (gBody K) rest cs=some (b,rest',cs'))(hb:base.length+szL cs'<900000000) :
  ∃s' J',aCall Tryz.prog (den C n) 108 [.ref P 0,I K] s=some (.tup [],s')∧PR ts P s' rest' base k cs' J'∧Ex s s' J J':=by
 have H:∀k<m,AllS ts k:=fun k _=>allS ts k
 match K,hK,hr with
 | 2,_,hr =>
  obtain⟨n,rfl⟩:∃j,n=j+1:=⟨n-1,by omega⟩
  obtain⟨s1,J1,q1,p1,x1⟩:=s178 (ts:=ts) (m:=m) n (by omega) P s rest base k cs J b rest' cs' h hr hb
  have e1:aCall Tryz.prog (den C n) 163 [.ref P 0] s=some (.tup [],s1):=q1
  refine⟨s1,J1,?_,p1,x1⟩
  show aCall Tryz.prog (den C (n+1)) 108 [.ref P 0,.int .i64 2] s=_
  rw[callR en108 (ref1 ..),F108_eq,F108]
  simp only[↓sW,sL,show ((2:Int)==2)=true from rfl,e1]
 | 3,_,hr=>exact s114_3 m (fun j _=>allS ts j) n (by omega) P s rest base k cs J b rest' cs' h hr hb
 | 4,_,hr=>exact s114_4 m (fun j _=>allS ts j) n (by omega) P s rest base k cs J b rest' cs' h hr hb
 | 5,_,hr=>exact s114_5 m (fun j _=>allS ts j) n (by omega) P s rest base k cs J b rest' cs' h hr hb
 | 6,_,hr=>exact s114_6 m (fun j _=>allS ts j) n (by omega) P s rest base k cs J b rest' cs' h hr hb
 | 7,_,hr=>exact s114_7 m (fun j _=>allS ts j) n (by omega) P s rest base k cs J b rest' cs' h hr hb
 | 8,_,hr=>exact s114_8 m (fun j _=>allS ts j) n (by omega) P s rest base k cs J b rest' cs' h hr hb
 | 9,_,hr=>exact s114_9 m (fun j _=>allS ts j) n (by omega) P s rest base k cs J b rest' cs' h hr hb
 | 0,hK,_=>omega
 | 1,hK,_=>omega
 | j+10,hK,_=>omega
theorem s111 {ts:List Tok}{m K:Nat}(hK:2≤K∧K≤9){n:Nat}(hn:m*20+ts.length+100≤n){P:Nat}{s:Heap}{rest:List Tok}{base:List Lv}{k:Nat}{cs:List Tree}{J:List Nat}{b:Bool}{rest':List Tok}{cs':List Tree}
  (h:PR ts P s rest base k cs J){L:Nat}(hL:s[L]?=some (3,[I K]))(hj:L∉J)(hr:run m (.seq (gIf [wPub] nop) (.seq .bump (gBody K))) rest cs=some (b,rest',cs'))(hb:base.length+szL cs'<900000000) :
  ∃s' J',aCall Tryz.prog (den C n) 105 [.box [.ref P 0] 0,.ref L 0] s=some (.tup [],s')∧PR ts P s' rest' base k cs' J'∧Ex s s' J J':=by
 obtain⟨n,rfl⟩:∃j,n=j+1:=⟨n-1,by omega⟩
 obtain⟨m1,b1,t1,c1,hm1,ha1,hr1,hz1⟩:=seq_inv hr
 obtain⟨m2,b2,t2,c2,hm2,ha2,hr2,hz2⟩:=seq_inv hr1
 obtain⟨m3,hm3,ho⟩:=ite_inv ha1
 have hlt:=glt hL
 have rest:∀s1 J1 bb,aCall Tryz.prog (den C n) 106 [.ref P 0,.sl 9 1 [.str [112,117,98]] .sh] s=some (.bool bb,s1)→PR ts P s1 t1 base k c1 J1→Ex s s1 J J1→∃s' J',aCall Tryz.prog (den C (n+1)) 105 [.box [.ref P 0] 0,.ref L 0] s=some (.tup [],s')∧PR ts P s' rest' base k cs' J'∧Ex s s' J J':=by
  intro s1 J1 bb e1 p1 x1
  obtain⟨s2,J2,q2,p2,x2⟩:=bump_sim ts m2 n (by omega) P s1 t1 base k c1 J1 b2 t2 c2 p1 ha2 (by omega)
  have e2:aCall Tryz.prog (den C n) 107 [.ref P 0] s1=some (.tup [],s2):=q2
  have x12:=x1.trans x2
  have hL2:=(x12.fr L hlt hj).trans hL
  have l2:aLoad false false 1 (.ref L 0) s2=some (I K,s2):=ld (o:=0) hL2 (by decide) rfl (by decide)
  obtain⟨s3,J3,e3,p3,x3⟩:=body_run hK (n:=n) (m:=m2) (by omega) p2 hr2 hb
  refine⟨s3,J3,?_,p3,x12.trans x3⟩
  rw[callR en105 (box1 ..),F105_eq,F105]
  simp only[↓sW,sL,bs1,strip_own,e1,e2,l2,e3]
 rcases ho with ⟨hc,hr3⟩|⟨hc,hr3⟩
 ·obtain⟨m4,b4,t4,c4,hm4,ha4,hr4,hz4⟩:=seq_inv hr3
  obtain⟨-,rfl,rfl⟩:=ret_inv hr4
  obtain⟨s1,J1,q1,p1,x1⟩:=acc_yes [wPub] (by decide:1<50) (n:=n) (by omega) h hc ha4 (by omega)
  exact rest s1 J1 true q1 p1 x1
 ·obtain⟨-,rfl,rfl⟩:=ret_inv hr3
  obtain⟨s1,q1,p1,x1⟩:=acc_no [wPub] (by decide:1<50) (n:=n) (by omega) h hc
  exact rest s1 J false q1 p1 x1
def skipC:Cnd:=fun t _ _=>!(t.1==100)&&!atT itemKws t
theorem l175 {ts:List Tok}{n P:Nat}:∀(m:Nat),m*20+ts.length+110≤n→∀s rest base k cs J b rest' cs',PR ts P s rest base k cs J→run m (.whil skipC .bump) rest cs=some (b,rest',cs')→base.length+szL cs'<900000000 →
  ∃s' J',(∀M n' e,m<M→e 0=pb P→aLoop (F160_L0 (den C n) n') M e s=some (.tup [],s'))∧PR ts P s' rest' base k cs' J'∧Ex s s' J J':=by
 intro m
 induction m with
 | zero=>intro _ s rest base k cs J b rest' cs' h hr;rw[Pm.run_zero]at hr;cases hr
 | succ m ih =>
  intro hn s rest base k cs J b rest' cs' h hr hb
  have hn0:m*20+ts.length+110≤n:=by omega
  obtain⟨sb,qb,pb',xb⟩:=(eof_rd ts).use (n:=n) (by omega) h
  have ek:=itemKeywords_run.of (n:=n) (by omega) sb
  obtain⟨sc,qc,pc,xc⟩:=(at_rd (ts:=ts) itemKws (by decide)).use (n:=n) (by omega) pb'
  have hs:(strs itemKws).strip=strs itemKws:=rfl
  have nr2:noRefL [AV.ref P 0]=false:=ref1 ..
  have nr3:noRefL [AV.ref P 0,strs itemKws]=false:=ref1 ..
  have hev:ev skipC rest=(!(ev rEof rest)&&!atT itemKws (pk rest)):=rfl
  obtain⟨m',hm',hw⟩:=whil_inv hr
  cases hm'
  have qb2:aCall Tryz.prog (den C n) 49 [.ref P 0] s=some (.bool (ev rEof rest),sb):=qb
  have qc2:aCall Tryz.prog (den C n) 100 [.ref P 0,strs itemKws] sb=some (.bool (atT itemKws (pk rest)),sc):=qc
  rcases hw with ⟨hc,rfl,rfl,rfl⟩|⟨hc,hrb,hb0⟩|⟨hc,tw,cw,hrb,hrw,hzw⟩
  ·rw[hc]at hev
   cases h2:ev rEof rest' with
   | true =>
    rw[h2]at qb2
    refine⟨sb,J,fun M n' e hM he0=>?_,pb',xb⟩
    obtain⟨M,rfl⟩:∃j,M=j+1:=⟨M-1,by omega⟩
    rw[aLoop,F160_L0]
    simp only[↓sW,sL,he0,qb2,nr2,Bool.false_eq_true,ite_false,kGd_false]
    exact drawOK_base (by kernel_rfl)
   | false =>
    rw[h2]at qb2 hev
    have h3:atT itemKws (pk rest')=true:=by simpa using hev
    rw[h3]at qc2
    refine⟨sc,J,fun M n' e hM he0=>?_,pc,xb.trans xc⟩
    obtain⟨M,rfl⟩:∃j,M=j+1:=⟨M-1,by omega⟩
    rw[aLoop,F160_L0]
    simp only[↓sW,sL,he0,qb2,ek,hs,qc2,nr2,nr3,Bool.false_eq_true,ite_false,d160_1]
  ·exact absurd (val_false (by rfl) hrb) (by decide)
  ·rw[hc]at hev
   simp only[Bool.true_eq,Bool.and_eq_true,Bool.not_eq_true']at hev
   rw[hev.1]at qb2
   rw[hev.2]at qc2
   obtain⟨s1,J1,q1,p1,x1⟩:=bump_sim ts m n (by omega) P sc rest base k cs J false tw cw pc hrb (by omega)
   have e1:aCall Tryz.prog (den C n) 107 [.ref P 0] sc=some (.tup [],s1):=q1
   obtain⟨s2,J2,q2,p2,x2⟩:=ih hn0 s1 tw base k cw J1 b rest' cs' p1 hrw hb
   refine⟨s2,J2,fun M n' e hM he0=>?_,p2,((xb.trans xc).trans x1).trans x2⟩
   obtain⟨M,rfl⟩:∃j,M=j+1:=⟨M-1,by omega⟩
   rw[aLoop,F160_L0]
   simp only[↓sW,sL,he0,qb2,ek,hs,qc2,nr2,nr3,Bool.false_eq_true,ite_false,d160_1,e1]
   exact q2 _ _ _ (by omega) ((upds_get _ _ _ rfl).trans he0)
theorem s175 (ts:List Tok)(m:Nat):Sim ts m (.seq .bump (.whil skipC .bump)) vd (fnF 160 fun P=>[.box [.ref P 0] 0]):=by
 intro n hn P s rest base k cs J b rest' cs' h hr hb
 obtain⟨n,rfl⟩:∃j,n=j+1:=⟨n-1,by omega⟩
 obtain⟨m1,b1,t1,c1,hm1,ha1,hr1,hz1⟩:=seq_inv hr
 obtain⟨s1,J1,q1,p1,x1⟩:=bump_sim ts m1 n (by omega) P s rest base k cs J b1 t1 c1 h ha1 (by omega)
 have e1:aCall Tryz.prog (den C n) 107 [.ref P 0] s=some (.tup [],s1):=q1
 obtain⟨s2,J2,e2,p2,x2⟩:=l175 (P:=P) (n:=n) m1 (by omega) s1 t1 base k c1 J1 b rest' cs' p1 hr1 hb
 refine⟨s2,J2,?_,p2,x1.trans x2⟩
 show aCall Tryz.prog (den C (n+1)) 160 [.box [.ref P 0] 0] s=_
 rw[callR en160 (box1 ..),F160_eq,F160]
 simp only[↓sW,sL,e1]
 exact e2 _ _ _ (by omega) rfl
theorem s109 (ts:List Tok)(m:Nat):SimD 5 ts m gSkip vd (fnF 103 fun P=>[.ref P 0]):=by
 intro n hn P s rest base k cs J b rest' cs' h hr hb
 obtain⟨m1,hm1⟩:=run_pos hr
 obtain⟨n,rfl⟩:∃j,n=j+1:=⟨n-1,by omega⟩
 obtain⟨s1,J1,q1,p1,x1⟩:=(node_simD (ts:=ts) (m:=m) (k:=46) (v:=fun P=>.fn 160 [] [.box [.ref P 0] 0]) (fun _=>rfl) (fun k hk=>s175 ts k)) n (by omega) P s rest base k cs J b rest' cs' h hr hb
 have e1:aCall Tryz.prog (den C n) 104 [.ref P 0,.int .i64 46,.fn 160 [] [.box [.ref P 0] 0]] s=some (.tup [],s1):=q1
 refine⟨s1,J1,?_,p1,x1⟩
 show aCall Tryz.prog (den C (n+1)) 103 [.ref P 0] s=_
 rw[callR en103 (ref1 ..),F103_eq,F103]
 simp only[↓sW,sL,aBox_ref,e1]
def itX (rest:List Tok):Tok:=if atT [wPub] (pk rest)=true then pk (la rest) else pk rest
def itK (rest:List Tok):Nat:=kindOf (itX rest).2
theorem itemIs_ev (k:Nat)(rest:List Tok):ev (itemIs k) rest=(itK rest==k&&(itX rest).1==104):=rfl
theorem gItem_inv {m:Nat}{rest:List Tok}{cs:List Tree}{r:Bool×List Tok×List Tree}(h:run m gItem rest cs=some r) :
  ∃m',m'<m∧(((2≤itK rest∧itK rest≤9)∧(itX rest).1=104∧run m' (gItemAs (itK rest)) rest cs=some r)∨((itK rest=0∨(itX rest).1≠104)∧run m' gSkip rest cs=some r)):=by
 have hK:itK rest=0∨(2≤itK rest∧itK rest≤9):=by
  rcases kindOf_eq (itX rest).2 with ⟨_,h⟩|⟨k,_,hk,h⟩
  ·exact .inl h
  ·right;unfold itK;omega
 have yes:∀k,ev (itemIs k) rest=true→itK rest=k∧(itX rest).1=104:=by
  intro k h;rw[itemIs_ev]at h;simpa using h
 have no:∀k,ev (itemIs k) rest=false→(itX rest).1=104→itK rest≠k:=by
  intro k h h2;rw[itemIs_ev,h2]at h;simpa using h
 obtain⟨m2,e2,h2|h2⟩:=ite_inv h
 ·obtain⟨a,b⟩:=yes 2 h2.1;exact⟨m2,by omega,.inl ⟨by omega,b,by rw[a];exact h2.2⟩⟩
 obtain⟨m3,e3,h3|h3⟩:=ite_inv h2.2
 ·obtain⟨a,b⟩:=yes 3 h3.1;exact⟨m3,by omega,.inl ⟨by omega,b,by rw[a];exact h3.2⟩⟩
 obtain⟨m4,e4,h4|h4⟩:=ite_inv h3.2
 ·obtain⟨a,b⟩:=yes 4 h4.1;exact⟨m4,by omega,.inl ⟨by omega,b,by rw[a];exact h4.2⟩⟩
 obtain⟨m5,e5,h5|h5⟩:=ite_inv h4.2
 ·obtain⟨a,b⟩:=yes 5 h5.1;exact⟨m5,by omega,.inl ⟨by omega,b,by rw[a];exact h5.2⟩⟩
 obtain⟨m6,e6,h6|h6⟩:=ite_inv h5.2
 ·obtain⟨a,b⟩:=yes 6 h6.1;exact⟨m6,by omega,.inl ⟨by omega,b,by rw[a];exact h6.2⟩⟩
 obtain⟨m7,e7,h7|h7⟩:=ite_inv h6.2
 ·obtain⟨a,b⟩:=yes 7 h7.1;exact⟨m7,by omega,.inl ⟨by omega,b,by rw[a];exact h7.2⟩⟩
 obtain⟨m8,e8,h8|h8⟩:=ite_inv h7.2
 ·obtain⟨a,b⟩:=yes 8 h8.1;exact⟨m8,by omega,.inl ⟨by omega,b,by rw[a];exact h8.2⟩⟩
 obtain⟨m9,e9,h9|h9⟩:=ite_inv h8.2
 ·obtain⟨a,b⟩:=yes 9 h9.1;exact⟨m9,by omega,.inl ⟨by omega,b,by rw[a];exact h9.2⟩⟩
 refine⟨m9,by omega,.inr ⟨?_,h9.2⟩⟩
 by_cases hx:(itX rest).1=104
 ·left
  have:=no 2 h2.1 hx;have:=no 3 h3.1 hx;have:=no 4 h4.1 hx;have:=no 5 h5.1 hx
  have:=no 6 h6.1 hx;have:=no 7 h7.1 hx;have:=no 8 h8.1 hx;have:=no 9 h9.1 hx
  omega
 ·exact .inr hx
end ParF
end

section
namespace ParF
open Go Go.Abs Go.Proofs Pm
theorem look_peek {ts:List Tok}{n:Nat}(hn:ts.length+130≤n){P:Nat}{s:Heap}{rest:List Tok}{base:List Lv}{k:Nat}{cs:List Tree}{J:List Nat}(h:PR ts P s rest base k cs J) :
  ∃s1 P1 s2,aCall Tryz.prog (den C n) 101 [.ref P 0] s=some (.ref P1 0,s1)∧aCall Tryz.prog (den C n) 99 [.ref P1 0] s1=some (tokA (pk (la rest)),s2)∧PR ts P s2 rest base k cs J∧Ex s s2 J J:=by
 have h':=h
 obtain⟨pos,i,rfl,h⟩:=h
 obtain⟨tk,st,r⟩:=h.rdy
 obtain⟨t,P1,pos1,tk1,st1,e1,r1,d1⟩:=look_run r (n:=n) (by omega)
 obtain⟨t2,e2⟩:=peek_run r1 (n:=n) (by omega)
 rw[d1]at e2
 exact⟨_,P1,_,e1,e2,(h'.app t).app t2,(Ex.app s t J).trans (Ex.app _ _ J)⟩
theorem peek_len {ts:List Tok}{n:Nat}(hn:ts.length+20≤n){P:Nat}{s sp:Heap}{r:AV}{rest:List Tok}{base:List Lv}{k:Nat}{cs:List Tree}{J:List Nat}(h:PR ts P s rest base k cs J)(e:aCall Tryz.prog (den C n) 99 [.ref P 0] s=some (r,sp)):s.length≤sp.length:=by
 obtain⟨pos,i,rfl,h⟩:=h
 obtain⟨tk,st,rr⟩:=h.rdy
 obtain⟨t,e'⟩:=peek_run rr (n:=n) (by omega)
 rw[e']at e
 cases e
 rw[app_len];omega
theorem zero3:aAlloc Tryz.prog 3=fun s=>some (.ref s.length 0,s++[(3,[I 0])]):=by
 have h:zeroOf Tryz.prog 3=some (I 0):=by kernel_rfl
 funext s
 simp[aAlloc,h]
theorem item_tail {ts:List Tok}{m n:Nat}(hn:m*20+ts.length+99≤n){P:Nat}{s:Heap}{rest:List Tok}{base:List Lv}{k:Nat}{cs:List Tree}{J:List Nat}{b:Bool}{rest':List Tok}{cs':List Tree}
  (h:PR ts P s rest base k cs J)(hr:run m gItem rest cs=some (b,rest',cs'))(hb:base.length+szL cs'<900000000){L:Nat}(hL:s[L]?=some (53,[I (itX rest).1,.str (itX rest).2]))(hj:L∉J) :
  ∃s' J',(∀n' e,e 1=pb P→e 2=.ref L 0→F50_J0 (den C n) n' e s=some (.tup [],s'))∧PR ts P s' rest' base k cs' J'∧Ex s s' J J':=by
 obtain⟨m',hm',ho⟩:=gItem_inv hr
 have l1:aLoad false false 1 (.ref L 1) s=some (.str (itX rest).2,s):=ld (o:=1) hL (by decide) rfl (by decide)
 have e1:=(itemKind_run (itX rest).2).of (n:=n) (by omega) s
 have e1:aCall Tryz.prog (den C n) 102 [.str (itX rest).2] s=some (I (itK rest),s):=e1
 have sto:aStore 1 (s++[(3,[I 0])]) (.ref s.length 0) (I (itK rest))=some (s++[(3,[I (itK rest)])]):=by
  rw[ParF.st (o:=0) (n:=1) (v:=I (itK rest)) (gapp_new (x:=(3,[I 0]))) (by decide) rfl rfl (by show 0+1≤1;omega),set_end];rfl
 have pa:=h.app [(3,[I (itK rest)])]
 have nj:s.length∉J:=fun hm=>by obtain⟨pp,ii,_,hh⟩:=h;exact Nat.lt_irrefl _ (hh.lt _ hm)
 have hL2:(s++[(3,[I (itK rest)])])[s.length]?=some (3,[I (itK rest)]):=gapp_new
 have l2:aLoad false false 1 (.ref s.length 0) (s++[(3,[I (itK rest)])])=some (I (itK rest),s++[(3,[I (itK rest)])]):=ld (o:=0) hL2 (by decide) rfl (by decide)
 have hL3:(s++[(3,[I (itK rest)])])[L]?=some (53,[I (itX rest).1,.str (itX rest).2]):=(gapp_old (glt hL)).trans hL
 have l3:aLoad false false 1 (.ref L 0) (s++[(3,[I (itK rest)])])=some (I (itX rest).1,s++[(3,[I (itK rest)])]):=ld (o:=0) hL3 (by decide) rfl (by decide)
 have k0:((itK rest:Int)==0)=(itK rest==0):=kind_eq _ 0
 have k1:(((itX rest).1:Int) != 104)=!((itX rest).1==104):=by rw[bne];exact congrArg _ (kind_eq _ 104)
 rcases ho with ⟨hK,hx,hr1⟩|⟨hK,hr1⟩
 ·have z0:(itK rest==0)=false:=by simp;omega
  have z1:((itX rest).1==104)=true:=by simp[hx]
  obtain⟨m1,ds,hm1,hr2,rfl⟩:=node_inv hr1
  rw[szL_append,szL_one,szT_mk]at hb
  obtain⟨n,rfl⟩:∃j,n=j+3:=⟨n-3,by omega⟩
  obtain⟨s1,J1,q1,p1,x1⟩:=node_run (k:=itK rest) [] pa hb (v:=.fn 105 [] [.box [.ref P 0] 0,.ref s.length 0]) rfl n fun s3 lv J3 p3 x3=>by
   have hL4:=(x3.fr s.length (by rw[app_length];omega) nj).trans hL2
   obtain⟨s4,J4,e4,p4,x4⟩:=s111 hK (n:=n+2) (m:=m1) (by omega) p3 hL4 (x3.notin (by rw[app_length];omega) nj) hr2 (by rw[app_len];show base.length+1+_<_;omega)
   exact⟨s4,J4,_,e4,p4,x4⟩
  refine⟨s1,J1,fun n' e he1 he2=>?_,p1,(Ex.app s _ J).trans x1⟩
  rw[F50_J0]
  simp only[↓sW,sL,he1,he2,l1,e1,zero3,sto,l2,k0,z0,l3,k1,z1,q1]
 ·obtain⟨s1,J1,q1,p1,x1⟩:=s109 ts m' n (by omega) P _ rest base k cs J b rest' cs' pa hr1 hb
  have q1:aCall Tryz.prog (den C n) 103 [.ref P 0] (s++[(3,[I (itK rest)])])=some (.tup [],s1):=q1
  refine⟨s1,J1,fun n' e he1 he2=>?_,p1,(Ex.app s _ J).trans x1⟩
  rw[F50_J0]
  cases z0:(itK rest==0) with
  | true=>simp only[↓sW,sL,he1,he2,l1,e1,zero3,sto,l2,k0,z0,q1]
  | false =>
   have z1:((itX rest).1==104)=false:=by
    rcases hK with h|h
    ·simp[h]at z0
    ·simpa using h
   simp only[↓sW,sL,he1,he2,l1,e1,zero3,sto,l2,k0,z0,l3,k1,z1,q1]
theorem s60 (ts:List Tok)(m:Nat):Sim ts m gItem vd (fnF 50 fun P=>[.ref P 0]):=by
 intro n hn P s rest base k cs J b rest' cs' h hr hb
 obtain⟨n,rfl⟩:∃j,n=j+1:=⟨n-1,by omega⟩
 have hm2:2≤m:=by
  obtain⟨m1,e1⟩:=run_pos hr
  obtain⟨m',h',ho⟩:=gItem_inv hr
  have:0<m':=by
   rcases ho with ⟨_,_,h⟩|⟨_,h⟩<;>(obtain⟨q,e⟩:=run_pos h;omega)
  omega
 obtain⟨sp,s2,L,qp,qs,p2,x2,hL2,hlt2,hnj,hLs⟩:=peek_cell (n:=n) (by omega) h
 have hsp:=peek_len (n:=n) (by omega) h qp
 obtain⟨s3,q3,p3,x3⟩:=(at_rd (ts:=ts) [wPub] (by decide:1<50)).use (n:=n) (by omega) p2
 have q3:aCall Tryz.prog (den C n) 100 [.ref P 0,.sl 9 1 [.str [112,117,98]] .sh] s2=some (.bool (atT [wPub] (pk rest)),s3):=q3
 have hL3:=(x3.fr L hlt2 hnj).trans hL2
 have x03:=x2.trans x3
 subst hLs
 cases hp:atT [wPub] (pk rest) with
 | false =>
  rw[hp]at q3
  have hX:itX rest=pk rest:=by rw[itX,hp];rfl
  obtain⟨s4,J4,q4,p4,x4⟩:=item_tail (n:=n) (m:=m) (by omega) p3 hr hb (L:=sp.length) (by rw[hX];exact hL3) hnj
  refine⟨s4,J4,?_,p4,x03.trans x4⟩
  show aCall Tryz.prog (den C (n+1)) 50 [.ref P 0] s=_
  rw[callR en50 (ref1 ..),F50_eq,F50]
  simp only[↓sW,sL,aBox_ref,qp,zero80,qs,bs1,strip_own,q3]
  exact q4 _ _ rfl rfl
 | true =>
  rw[hp]at q3
  have hX:itX rest=pk (la rest):=by rw[itX,hp];rfl
  obtain⟨s5,P1,s6,q5,q6,p6,x6⟩:=look_peek (n:=n) (by omega) p3
  have hlt3:=glt hL3
  have hL6:=(x6.fr sp.length hlt3 hnj).trans hL3
  have sto:aStore 2 s6 (.ref sp.length 0) (tokA (pk (la rest)))=some (s6.set sp.length (53,[I (pk (la rest)).1,.str (pk (la rest)).2])):=by
   rw[ParF.st (o:=0) (n:=2) (v:=tokA (pk (la rest))) hL6 (by decide) rfl rfl (by show 2≤2;omega)];rfl
  have p7:=p6.setc hnj (53,[I (pk (la rest)).1,.str (pk (la rest)).2])
  have hL7:(s6.set sp.length (53,[I (pk (la rest)).1,.str (pk (la rest)).2]))[sp.length]?=some (53,[I (itX rest).1,.str (itX rest).2]):=by rw[hX];exact gset_eq hL6
  have xc:Ex s6 (s6.set sp.length (53,[I (pk (la rest)).1,.str (pk (la rest)).2])) (sp.length::J) (sp.length::J):=⟨by rw[set_length];exact Nat.le_refl _,fun x hx hj=>gset_ne fun e=>hj (by rw[←e];exact List.mem_cons_self ..),fun _ h=>.inl h⟩
  have x07:=(((x03.trans x6).weak [sp.length]).trans xc).unweak hsp hnj
  obtain⟨s8,J8,q8,p8,x8⟩:=item_tail (n:=n) (m:=m) (by omega) p7 hr hb (L:=sp.length) hL7 hnj
  refine⟨s8,J8,?_,p8,x07.trans x8⟩
  show aCall Tryz.prog (den C (n+1)) 50 [.ref P 0] s=_
  rw[callR en50 (ref1 ..),F50_eq,F50]
  simp only[↓sW,sL,aBox_ref,qp,zero80,qs,bs1,strip_own,q3,q5,q6,sto]
  exact q8 _ _ rfl rfl
end ParF
end
