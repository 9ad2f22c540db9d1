/- AstH, AstI, AstJ, AstK, AstS, AstL -/
import Derived.Test.YtnhnmigafkodfaaGreatDoorG
import Derived.Test.YtnhnmigafkodfaaGreatDoorP
import Derived.Test.YtnhnmigafkodfaaGreatDoorC
import Derived.Sort.AssemblyPlain
set_option linter.all false
set_option maxRecDepth 100000
set_option maxHeartbeats 2000000

section
namespace ParF
open Go Go.Abs Go.Proofs Pm AstF
theorem IsNL.at:∀{cs:List Nd}{rows:List AV},IsNL cs rows→∀{i:Nat}{t:Nd},cs[i]?=some t→∃a,rows[i]?=some a∧IsN t a
 | _,_,.nil,i,t,h=>by simp at h
 | _,_,.cons t a cs rows h h',0,t',e=>by
  simp only[List.getElem?_cons_zero,Option.some.injEq]at e
  subst e;exact⟨a,rfl,h⟩
 | _,_,.cons t a cs rows h h',i+1,t',e=>by
  rw[List.getElem?_cons_succ]at e
  obtain⟨b,h1,h2⟩:=IsNL.at h' e
  exact⟨b,by rw[List.getElem?_cons_succ,h1],h2⟩
theorem under25:Tryz.prog.underlying 25=some (.slice 27):=by kernel_rfl
theorem sz27:szOf Tryz.prog 27=some 7:=by kernel_rfl
theorem idx25 {rows:List AV}{i:Nat}{a:AV}{f:Flag}(h:rows[i]?=some a):aIndexAddr Tryz.prog 25 (.sl 27 7 rows f) (I i)=some (.box a.cells 0):=by
 simp[aIndexAddr,under25,sz27,h]
theorem len25 (rows:List AV)(f:Flag):aLen Tryz.prog 25 (.sl 27 7 rows f)=some (I rows.length):=by simp[aLen,under25]
theorem len25_nil:aLen Tryz.prog 25 .nils=some (I 0):=by simp[aLen,under25]
theorem len25_rs (t z i o n:Nat):aLen Tryz.prog 25 (.rs t z i o n)=some (I n):=by simp[aLen,under25]
theorem IsNC.facts {cs:List Nd}{ch:AV}(h:IsNC cs ch):aLen Tryz.prog 25 ch=some (I cs.length)∧∀{i:Nat}{t:Nd},cs[i]?=some t→∃a,aIndexAddr Tryz.prog 25 ch (I i)=some (.box a.cells 0)∧IsN t a:=by
 cases h with
 | nil=>exact⟨len25_nil,fun e=>by simp at e⟩
 | sl cs rows h =>
  refine⟨by rw[len25,h.length],fun e=>?_⟩
  obtain⟨a,h1,h2⟩:=h.at e
  exact⟨a,idx25 h1,h2⟩
theorem zero27:aAlloc Tryz.prog 27=fun s=>some (.ref s.length 0,s++[(27,[I 0,I 0,.str [],I 0,I 0,I 0,.nils])]):=by
 have h:zeroOf Tryz.prog 27=some (.agg [I 0,I 0,.str [],I 0,I 0,I 0,.nils]):=by kernel_rfl
 funext s
 simp[aAlloc,h]
theorem sub9 {s:List UInt8}{a b:Int}(h0:0≤a)(h1:a≤b)(h2:b≤s.length):aSl Tryz.prog 9 (.str s) (some (I a)) (some (I b)) none=some (.str (slice s a b)):=by
 obtain⟨x,rfl⟩:=Int.eq_ofNat_of_zero_le h0
 obtain⟨y,rfl⟩:=Int.eq_ofNat_of_zero_le (Int.le_trans h0 h1)
 have h1:x≤y:=by omega
 have h2:y≤s.length:=by omega
 simp[aSl,LexF.under9,aSubstr,aBound,h1,h2,slice,List.drop_take]
theorem st7 {s:Heap}{i:Nat}{cs:List AV}(h:s[i]?=some (27,cs))(hc:cs.length=7){a:AV}(h1:a.cells.length=7)(h2:a.cells.map AV.strip=a.cells)(h4:a=.agg a.cells):aStore 7 s (.ref i 0) a=some (s.set i (27,a.cells)):=by
 have hsol:a.solid=true:=by rw[h4];rfl
 have hst:stCells a=a.cells:=by rw[h4];exact h2
 rw[ParF.st (n:=7) (o:=0) (v:=a) h (by decide) hsol h1 (by omega),hst]
 have:=setL_end [] a.cells cs (by omega)
 rw[List.nil_append,List.nil_append]at this
 rw[show setL cs 0 a.cells=a.cells from this]
theorem ld7 {s:Heap}{i:Nat}{a:AV}(h:s[i]?=some (27,a.cells))(h1:a.cells.length=7)(h4:a=.agg a.cells):aLoad false true 7 (.ref i 0) s=some (a,s):=by
 rw[ldA (o:=0) h (by decide) (by omega) (by decide),List.drop_zero,List.take_of_length_le (by omega),←h4]
theorem box7 {a:AV}(s:Heap)(h1:a.cells.length=7)(h4:a=.agg a.cells):aLoad false true 7 (.box a.cells 0) s=some (a,s):=by
 rw[aLoad_agg _ _ _ _ _ (by omega),List.drop_zero,List.take_of_length_le (by omega),←h4]
theorem build27 (S E:Int)(x:Bytes):aBuild Tryz.prog 27 [(0,I 46),(2,.str x),(3,I S),(4,I E),(5,I (-1))]=some (.agg [I 46,I 0,.str x,I S,I E,I (-1),.nils]):=by
 have hz:zeroOf Tryz.prog 27=some (.agg [I 0,I 0,.str [],I 0,I 0,I 0,.nils]):=by kernel_rfl
 have hu:(match Tryz.prog.underlying 27 with|some (.struct fs)=>placesOf Tryz.prog fs.toList|_=>none)=some [(0,1),(1,1),(2,1),(3,1),(4,1),(5,1),(6,1)]:=by kernel_rfl
 unfold aBuild
 split at hu
 ·rename_i fs hh
  rw[hz,hh]
  simp[hu,aFill,setL,AV.cells,AV.solid,AV.strip]
 ·cases hu
theorem build27b (k o:Int):aBuild Tryz.prog 27 [(0,I k),(3,I o),(4,I (-1)),(5,I (-1))]=some (.agg [I k,I 0,.str [],I o,I (-1),I (-1),.nils]):=by
 have hz:zeroOf Tryz.prog 27=some (.agg [I 0,I 0,.str [],I 0,I 0,I 0,.nils]):=by kernel_rfl
 have hu:(match Tryz.prog.underlying 27 with|some (.struct fs)=>placesOf Tryz.prog fs.toList|_=>none)=some [(0,1),(1,1),(2,1),(3,1),(4,1),(5,1),(6,1)]:=by kernel_rfl
 unfold aBuild
 split at hu
 ·rename_i fs hh
  rw[hz,hh]
  simp[hu,aFill,setL,AV.cells,AV.solid,AV.strip]
 ·cases hu
def finD (k:Int)(h:Hd):List Dg:=if k=46 then[⟨if h.s=max h.e h.s then 1 else 2,h.s,max h.e h.s⟩] else[]
theorem finN_ds (src:Bytes)(k:Int)(h:Hd)(ns:List Nd)(d:List Dg):finN src k h ns d=((finN src k h ns []).1,d++finD k h):=by
 unfold finN finD
 by_cases c1:k=60
 ·subst c1;simp
 ·by_cases c2:k=46
  ·subst c2;simp
  ·simp[c1,c2]
def hend (h:Hd):Hd:=⟨h.v,h.x,h.s,max h.e h.s,h.ns⟩
theorem IsN_place {t:Nd}{a:AV}(h:IsN t a)(S E:Int):IsN (t.place S E) (.agg (((a.cells).set 3 (I S)).set 4 (I E))):=by
 cases h with
 | mk k v x s e ns cs ch h=>exact .mk _ _ _ _ _ _ _ _ h
theorem d54_4' (a:Nat)(x:Ans):drawOK C 54 (regOps Tryz.f54 4) [.silent,.silent,.silent,.silent,.silent,.put a,.silent,.put a] x=x:=drawOK_both (a:=a) (b:=a+1) (ks0:=[.silent,.silent,.silent,.silent,.silent,.put 0,.silent,.put 0]) (by omega) (by kernel_rfl) rfl
theorem Ex.fresh {s s':Heap}(J:List Nat)(hl:s.length≤s'.length)(fr:∀x,x<s.length→s'[x]?=s[x]?):Ex s s' J J:=⟨hl,fun x hx _=>fr x hx,fun x hx=>.inl hx⟩
theorem BS.fresh {src:Bytes}{B:Nat}{s s':Heap}{off:Nat}{ds:List Dg}{q:Option Nat}(h:BS src B s off ds q)(fr:∀x,x<s.length→s'[x]?=s[x]?):BS src B s' off ds q:=h.frame fun x hx=>fr x (h.lt x hx)
theorem fin_run {src:Bytes}{B:Nat}{s:Heap}{off:Nat}{ds:List Dg}{q:Option Nat}(hb:BS src B s off ds q){k:Int}{h:Hd}{nsl:List Nd}{ch:AV}(hN:IsNC nsl ch)(h0:0≤h.s)(h1:max h.e h.s≤(src.length:Int))(h60:k=60→nsl≠[])
  (hd:(ds++finD k h).length<1000000){n:Nat}(hn:5≤n) :
  ∃a s' q',aCall Tryz.prog (den C n) 54 [.ref B 0,.agg (hrow k (hend h) ch)] s=some (a,s')∧IsN (finN src k h nsl []).1 a∧BS src B s' off (ds++finD k h) q'∧Ex s s' (JB B q) (JB B q'):=by
 obtain⟨n,rfl⟩:∃m,n=m+1:=⟨n-1,by omega⟩
 obtain⟨m,hm⟩:∃m,n=m+1:=⟨n-1,by omega⟩
 obtain⟨c1,c2,c3⟩:=hN.strip
 have hcm:(hrow k (hend h) ch).map AV.strip=hrow k (hend h) ch:=by
  show [(I k).strip,(I h.v).strip,(AV.str h.x).strip,(I h.s).strip,(I (max h.e h.s)).strip,(I h.ns).strip,ch.strip]=_;rw[c1];rfl
 have bL:∀(o:Nat) (v:AV),(hrow k (hend h) ch)[o]?=some v→v.strip=v→∀s2:Heap,aLoad false false 1 (.box (hrow k (hend h) ch) o) s2=some (v,s2):=by
  intro o v e es s2
  rw[aLoad_one,e];simp[es]
 have b0:=bL 0 (I k) rfl rfl
 have b3:=bL 3 (I h.s) rfl rfl
 have b4:=bL 4 (I (max h.e h.s)) rfl rfl
 have b6:=bL 6 ch rfl c1
 have hBl:=glt hb.par
 have z27:∀s:Heap,aAlloc Tryz.prog 27 s=some (.ref s.length 0,s++[(27,[I 0,I 0,.str [],I 0,I 0,I 0,.nils])]):=fun s=>by rw[zero27]
 have bx:aBox false 27 (.agg (hrow k (hend h) ch)) s=some (.box (hrow k (hend h) ch) 0,s):=by
  rw[aBox_f _ _ _ rfl];rfl
 generalize hz:([I 0,I 0,.str [],I 0,I 0,I 0,.nils]:List AV)=z0 at z27
 have hz7:z0.length=7:=by rw[←hz];rfl
 have g1:(s++[(27,z0)])[s.length]?=some (27,z0):=gapp_new
 by_cases k6:k=60
 ·-- the operand
  have e0:finN src k h nsl []=((nsl.headD default).place h.s (max h.e h.s),[]):=by unfold finN;rw[if_pos k6]
  have eD:finD k h=[]:=by unfold finD;rw[if_neg (by omega)]
  rw[e0,eD,List.append_nil]
  have f60:=beqi_t k6
  cases nsl with
  | nil=>exact absurd rfl (h60 k6)
  | cons t ts =>
  obtain⟨hl,hat⟩:=hN.facts
  obtain⟨a,i0,ha⟩:=hat (i:=0) (t:=t) rfl
  obtain⟨a1,a2,a3,a4⟩:=ha.cells
  have bx0:∀s2:Heap,aLoad false true 7 (.box a.cells 0) s2=some (a,s2):=fun s2=>box7 s2 a1 a4
  have ast:a.strip=a:=by rw[a4];rfl
  obtain⟨S1,hS1⟩:∃S1,s++[(27,z0)]=S1:=⟨_,rfl⟩
  obtain⟨S2,hS2⟩:∃S2,S1++[(27,z0)]=S2:=⟨_,rfl⟩
  have l1:S1.length=s.length+1:=by rw[←hS1];exact app_length _ _
  have l2:S2.length=s.length+2:=by rw[←hS2,app_length,l1]
  have g2:S2[S1.length]?=some (27,z0):=by rw[←hS2];exact gapp_new
  have g10:∀x,x<S1.length→S2[x]?=S1[x]?:=fun x hx=>by rw[←hS2];exact gapp_old hx
  have g11:∀x,x<s.length→S1[x]?=s[x]?:=fun x hx=>by rw[←hS1];exact gapp_old hx
  rw[hS1]at g1
  have p1:aStore 7 S2 (.ref S1.length 0) a=some (S2.set S1.length (27,a.cells)):=st7 g2 hz7 a1 a2 a4
  have g3:(S2.set S1.length (27,a.cells))[S1.length]?=some (27,a.cells):=gset_eq g2
  have p2:aStore 1 (S2.set S1.length (27,a.cells)) (.ref S1.length 3) (I h.s)=some ((S2.set S1.length (27,a.cells)).set S1.length (27,a.cells.set 3 (I h.s))):=by
   rw[st (n:=1) (v:=I h.s) g3 (by decide) rfl rfl (by omega)];rfl
  rw[set_set]at p2
  have g4:(S2.set S1.length (27,a.cells.set 3 (I h.s)))[S1.length]?=some (27,a.cells.set 3 (I h.s)):=gset_eq g2
  have p3:aStore 1 (S2.set S1.length (27,a.cells.set 3 (I h.s))) (.ref S1.length 4) (I (max h.e h.s))=some ((S2.set S1.length (27,a.cells.set 3 (I h.s))).set S1.length (27,(a.cells.set 3 (I h.s)).set 4 (I (max h.e h.s)))):=by
   rw[st (n:=1) (v:=I (max h.e h.s)) g4 (by decide) rfl rfl (by simp;omega)];rfl
  rw[set_set]at p3
  have hp:=IsN_place ha h.s (max h.e h.s)
  obtain⟨q1,q2,q3,q4⟩:=hp.cells
  generalize hpv:(AV.agg ((a.cells.set 3 (I h.s)).set 4 (I (max h.e h.s))))=pv at *
  have hpc:pv.cells=(a.cells.set 3 (I h.s)).set 4 (I (max h.e h.s)):=by rw[←hpv];rfl
  rw[←hpc]at p3
  have g5:(S2.set S1.length (27,pv.cells))[S1.length]?=some (27,pv.cells):=gset_eq g2
  have p4:=ld7 g5 q1 q4
  have pst:pv.strip=pv:=by rw[q4];rfl
  have g6:(S2.set S1.length (27,pv.cells))[s.length]?=some (27,z0):=by
   rw[gset_ne (by omega),g10 _ (by omega)];exact g1
  have p5:=st7 g6 hz7 q1 q2 q4
  have p6:=ld7 (gset_eq (v:=(27,pv.cells)) g6) q1 q4
  have fr:∀x,x<s.length→((S2.set S1.length (27,pv.cells)).set s.length (27,pv.cells))[x]?=s[x]?:=fun x hx=>by
   rw[gset_ne (by omega),gset_ne (by omega),g10 x (by omega),g11 x hx]
  refine⟨pv,(S2.set S1.length (27,pv.cells)).set s.length (27,pv.cells),q,?_,hp,hb.fresh fr,Ex.fresh _ (by rw[set_length,set_length,l2];omega) fr⟩
  rw[callR en54 (ref1 ..),F54_eq,F54]
  have i0':aIndexAddr Tryz.prog 25 ch (I 0)=some (.box a.cells 0):=i0
  simp only[↓sW,sL,bx,z27,b0,f60,b6,i0',bx0,hS1,hS2,p1,b3,b4,p2,p3,kStore_ref,ast,d54_4',p4,p5,p6,pst]
 have f60:=beqi_f k6
 by_cases k4:k=46
 ·-- an error
  have f46:=beqi_t k4
  have hE:h.s≤max h.e h.s:=by omega
  have e0:finN src k h nsl []=(.mk 46 0 (slice src h.s (max h.e h.s)) h.s (max h.e h.s) (-1) [],[⟨if h.s=max h.e h.s then 1 else 2,h.s,max h.e h.s⟩]):=by unfold finN;rw[if_neg k6,if_pos k4];rfl
  have eD:finD k h=[⟨if h.s=max h.e h.s then 1 else 2,h.s,max h.e h.s⟩]:=by unfold finD;rw[if_pos k4]
  rw[eD,List.length_append]at hd
  rw[e0,eD]
  obtain⟨S1,hS1⟩:∃S1,s++[(27,z0)]=S1:=⟨_,rfl⟩
  have g11:∀x,x<s.length→S1[x]?=s[x]?:=fun x hx=>by rw[←hS1];exact gapp_old hx
  have l1:S1.length=s.length+1:=by rw[←hS1];exact app_length _ _
  rw[hS1]at g1
  have b1:=hb.fresh g11
  obtain⟨s2,q2,r,b2,x2⟩:=rep_run b1 (if h.s=max h.e h.s then 1 else 2) h.s (max h.e h.s) (by omega)
  have r:=r m
  rw[←hm]at r
  have jS:s.length∉JB B q:=fun k=>by have:=hb.lt _ k;omega
  have g2:=(x2.fr s.length (by omega) jS).trans g1
  have l0:aLoad false false 1 (.ref B 0) s2=some (.str src,s2):=ld (o:=0) b2.par (by decide) rfl (by decide)
  have hsl:=sub9 (s:=src) h0 hE h1
  obtain⟨pv,hpv⟩:∃pv:AV,pv=.agg [I 46,I 0,.str (slice src h.s (max h.e h.s)),I h.s,I (max h.e h.s),I (-1),.nils]:=⟨_,rfl⟩
  have b27:=build27 h.s (max h.e h.s) (slice src h.s (max h.e h.s))
  rw[←hpv]at b27
  have hp:IsN (.mk 46 0 (slice src h.s (max h.e h.s)) h.s (max h.e h.s) (-1) []) pv:=by rw[hpv];exact .mk _ _ _ _ _ _ _ _ .nil
  obtain⟨q1,q2',q3,q4⟩:=hp.cells
  have p5:=st7 g2 hz7 q1 q2' q4
  have p6:=ld7 (gset_eq (v:=(27,pv.cells)) g2) q1 q4
  have hJ0:∀e:Env,e 0=.ref B 0→e 3=.box (hrow k (hend h) ch) 0→e 4=.ref s.length 0→e 6=I (if h.s=max h.e h.s then 1 else 2)→F54_J0 (den C n) n e S1=some (pv,s2.set s.length (27,pv.cells)):=by
   intro e e0 e3 e4 e6
   unfold F54_J0
   simp only[↓sW,sL,e0,e3,e4,e6,b3,b4,r,l0,hsl,b27,p5,p6,kStore_ref,d54_11]
  have j2:=x2.notin' (by omega) jS
  refine⟨pv,s2.set s.length (27,pv.cells),q2,?_,hp,b2.set j2 _,?_⟩
  ·rw[callR en54 (ref1 ..),F54_eq,F54]
   by_cases kE:h.s=max h.e h.s
   ·have fE:=beqi_t kE
    rw[if_pos kE]at hJ0
    simp only[↓sW,sL,bx,z27,hS1,b0,f60,f46,b3,b4,fE]
    exact hJ0 _ (by simp[upds_at,upd_at,argEnv]) (by simp[upds_at,upd_at,argEnv]) (by simp[upds_at,upd_at,argEnv]) (by simp[upds_at,upd_at,argEnv])
   ·have fE:=beqi_f kE
    rw[if_neg kE]at hJ0
    simp only[↓sW,sL,bx,z27,hS1,b0,f60,f46,b3,b4,fE]
    exact hJ0 _ (by simp[upds_at,upd_at,argEnv]) (by simp[upds_at,upd_at,argEnv]) (by simp[upds_at,upd_at,argEnv]) (by simp[upds_at,upd_at,argEnv])
  ·have x1:Ex s S1 (JB B q) (JB B q):=Ex.fresh _ (by omega) g11
   have x3:=x1.trans x2
   refine⟨by rw[set_length];exact x3.len,fun x hx hj=>?_,x3.sub⟩
   rw[gset_ne (by omega)];exact x3.fr x hx hj
 ·-- any other
  have f46:=beqi_f k4
  have e0:finN src k h nsl []=(.mk k h.v h.x h.s (max h.e h.s) h.ns nsl,[]):=by unfold finN;rw[if_neg k6,if_neg k4]
  have eD:finD k h=[]:=by unfold finD;rw[if_neg k4]
  rw[e0,eD,List.append_nil]
  have hp:IsN (.mk k h.v h.x h.s (max h.e h.s) h.ns nsl) (.agg (hrow k (hend h) ch)):=.mk _ _ _ _ _ _ _ _ hN
  obtain⟨q1,q2,q3,q4⟩:=hp.cells
  have p5:aStore 7 (s++[(27,z0)]) (.ref s.length 0) (.agg (hrow k (hend h) ch))=some ((s++[(27,z0)]).set s.length (27,hrow k (hend h) ch)):=st7 g1 hz7 q1 q2 q4
  have p6:aLoad false true 7 (.ref s.length 0) ((s++[(27,z0)]).set s.length (27,hrow k (hend h) ch))=some (.agg (hrow k (hend h) ch),(s++[(27,z0)]).set s.length (27,hrow k (hend h) ch)):=ld7 (gset_eq (v:=(27,(AV.agg (hrow k (hend h) ch)).cells)) g1) q1 q4
  have p7:∀s2:Heap,aLoad false true 7 (.box (hrow k (hend h) ch) 0) s2=some (.agg (hrow k (hend h) ch),s2):=fun s2=>box7 (a:=.agg (hrow k (hend h) ch)) s2 q1 q4
  have fr:∀x,x<s.length→((s++[(27,z0)]).set s.length (27,hrow k (hend h) ch))[x]?=s[x]?:=fun x hx=>by
   rw[gset_ne (by omega),gapp_old hx]
  refine⟨_,_,q,?_,hp,hb.fresh fr,Ex.fresh _ (by rw[set_length,app_length];omega) fr⟩
  rw[callR en54 (ref1 ..),F54_eq,F54]
  simp only[↓sW,sL,bx,z27,b0,f60,f46,p7,p5,p6]
end ParF
end

section
namespace ParF
open Go Go.Abs Go.Proofs Pm AstF
abbrev zrow7:List AV:=[I 0,I 0,.str [],I 0,I 0,I 0,.nils]
theorem info27':(Tryz.prog.info? 27).map (fun i=>(i.size,i.zero.map (·.cells.size),decide (i.bytes≤96)))=some (7,some 7,true):=by kernel_rfl
theorem info27:∃i z,Tryz.prog.info? 27=some i∧i.size=7∧i.zero=some z∧z.cells.size=7∧i.bytes≤96:=by
 have h:=info27'
 rw[Option.map_eq_some_iff]at h
 obtain⟨i,h1,h2⟩:=h
 simp only[Prod.mk.injEq,Option.map_eq_some_iff,decide_eq_true_eq]at h2
 obtain⟨a,⟨z,b,c⟩,d⟩:=h2
 exact⟨i,z,h1,a,b,c,d⟩
theorem app27_nil (s:Heap){a:AV}(h1:a.cells.length=7)(h2:a.cells.map AV.strip=a.cells)(h4:a=.agg a.cells):aRsAppend Tryz.prog 25 25 .nils (.sl 27 7 [a] .own) s=some (.rs 27 7 s.length 0 1,s++[(27,a.cells)]):=by
 obtain⟨i,z,e1,e2,e3,e4,e5⟩:=info27
 have hb:bound i 1:=⟨by omega,by omega⟩
 have ec:cellsOf [a]=a.cells:=by show a.cells++[]=a.cells;rw[List.append_nil]
 simp[aRsAppend,under25,e1,srcOf,e2,e3,e4,hb,deadTy,ec,h2]
theorem app27_rs {s:Heap}{id len:Nat}{cs:List AV}(h:s[id]?=some (27,cs))(hl:len*7≤cs.length)(hne:cs≠[])(hn:len<1800000000000){a:AV}(h1:a.cells.length=7)(h2:a.cells.map AV.strip=a.cells)(h4:a=.agg a.cells) :
  aRsAppend Tryz.prog 25 25 (.rs 27 7 id 0 len) (.sl 27 7 [a] .own) s=some (.rs 27 7 s.length 0 (len+1),kill s id++[(27,cs.take (len*7)++a.cells)]):=by
 obtain⟨i,z,e1,e2,e3,e4,e5⟩:=info27
 have hb:bound i (len+1):=⟨by
  have:(len+1+(len+1) / 4+512)*i.bytes≤(len+1+(len+1) / 4+512)*96:=Nat.mul_le_mul_left _ e5
  omega,by omega⟩
 have ec:cellsOf [a]=a.cells:=by show a.cells++[]=a.cells;rw[List.append_nil]
 simp[aRsAppend,under25,e1,srcOf,e2,e3,e4,hb,deadTy,ec,h2,h,hl,hne]
theorem lit27 {a:AV}(h1:a.cells.length=7)(h2:a.cells.map AV.strip=a.cells)(h4:a=.agg a.cells):aBuildSlice Tryz.prog 25 1 [(0,a)]=some (.sl 27 7 [a] .own):=by
 obtain⟨i,z,e1,e2,e3,e4,e5⟩:=info27
 have hs:a.solid=true:=by rw[h4];rfl
 simp[aBuildSlice,under25,sz27,e1,e3,e4,inRow,h1,hs]
def chOf (ns:List Nd)(r:Option Nat):AV:=match r with
 | none=>.nils
 | some R=>.rs 27 7 R 0 ns.length
def RowOk (s:Heap)(ns:List Nd)(r:Option Nat):Prop:=match r with
 | none=>ns=[]
 | some R=>∃rows junk,s[R]?=some (27,cellsOf rows++junk)∧IsNL ns rows∧cellsOf rows++junk≠[]
theorem RowOk.fr {s s':Heap}{ns:List Nd}{r:Option Nat}(h:RowOk s ns r)(k:∀R,r=some R→s'[R]?=s[R]?):RowOk s' ns r:=by
 cases r with
 | none=>exact h
 | some R =>
  obtain⟨rows,junk,h1,h2⟩:=h
  exact⟨rows,junk,(k R rfl).trans h1,h2⟩
theorem RowOk.lt {s:Heap}{ns:List Nd}{R:Nat}(h:RowOk s ns (some R)):R<s.length:=by
 obtain⟨rows,junk,h1,h2⟩:=h
 exact glt h1
theorem chOf_strip (ns:List Nd)(r:Option Nat):(chOf ns r).strip=chOf ns r:=by unfold chOf;cases r<;>rfl
theorem len_chOf {s:Heap}{ns:List Nd}{r:Option Nat}(h:RowOk s ns r):aLen Tryz.prog 25 (chOf ns r)=some (I ns.length):=by
 cases r with
 | none=>have h:ns=[]:=h;rw[h];exact len25_nil
 | some R=>exact len25_rs ..
theorem appK_chOf (ns:List Nd)(r:Option Nat):appK (chOf ns r)=.app r:=by unfold chOf;cases r<;>rfl
theorem grow27 {s:Heap}{ns:List Nd}{r:Option Nat}(h:RowOk s ns r){a:AV}(h1:a.cells.length=7)(h2:a.cells.map AV.strip=a.cells)(h4:a=.agg a.cells)(hn:ns.length<1800000000000) :
  ∃s0 rows,aRsAppend Tryz.prog 25 25 (chOf ns r) (.sl 27 7 [a] .own) s=some (.rs 27 7 s.length 0 (ns.length+1),s0)∧s0.length=s.length+1∧(∀x,x<s.length→r≠some x→s0[x]?=s[x]?)∧s0[s.length]?=some (27,cellsOf rows++a.cells)∧IsNL ns rows∧(cellsOf rows).length=7*ns.length:=by
 cases r with
 | none =>
  have h:ns=[]:=h
  subst h
  exact⟨_,[],app27_nil s h1 h2 h4,app_length _ _,fun x hx _=>gapp_old hx,gapp_new,.nil,rfl⟩
 | some R =>
  obtain⟨rows,junk,k1,k2,k3⟩:=h
  obtain⟨r1,r2,r3,r4⟩:=k2.cells
  have ap:=app27_rs (len:=ns.length) k1 (by rw[List.length_append];omega) k3 hn h1 h2 h4
  rw[List.take_append_of_le_length (by omega),List.take_of_length_le (by omega)]at ap
  refine⟨_,rows,ap,by rw[app_length,kill_length],fun x hx hr=>by rw[gapp_old (by rw[kill_length];exact hx),gkill_ne (fun e=>hr (by rw[e]))],?_,k2,r1⟩
  have:=gapp_new (s:=kill s R) (x:=(27,cellsOf rows++a.cells))
  rw[kill_length]at this;exact this
theorem cellsOf_one {rows:List AV}{a:AV}:cellsOf (rows++[a])=cellsOf rows++a.cells:=cellsOf_snoc _ _
theorem push27 {s:Heap}{ns:List Nd}{r:Option Nat}(h:RowOk s ns r){t:Nd}{a:AV}(ht:IsN t a)(hn:ns.length<500000000) :
  ∃s0 s1,aRsAppend Tryz.prog 25 25 (chOf ns r) (.sl 27 7 [.agg zrow7] .own) s=some (.rs 27 7 s.length 0 (ns.length+1),s0)∧aStore 7 s0 (.ref s.length (ns.length*7)) a=some s1∧s1.length=s.length+1∧s0.length=s.length+1 ∧
   (∀x,x<s.length→r≠some x→s1[x]?=s[x]?)∧(∀x,x<s.length→r≠some x→s0[x]?=s[x]?)∧RowOk s1 (ns++[t]) (some s.length):=by
 obtain⟨c1,c2,c3,c4⟩:=ht.cells
 have hs:a.solid=true:=by rw[c4];rfl
 have hst:stCells a=a.cells:=by rw[c4];exact c2
 obtain⟨s0,rows,ap,l0,f0,g0,hN,hr⟩:=grow27 h (a:=.agg zrow7) rfl rfl rfl (by omega)
 have e2:aStore 7 s0 (.ref s.length (ns.length*7)) a=some (s0.set s.length (27,cellsOf rows++a.cells)):=by
  rw[st g0 (by decide) hs c1 (by rw[List.length_append,hr];show _≤7*ns.length+7;omega),hst]
  have:=setL_end (cellsOf rows) a.cells (AV.agg zrow7).cells (by rw[c1];rfl)
  rw[hr,Nat.mul_comm]at this
  rw[this]
 refine⟨s0,_,ap,e2,by rw[set_length,l0],l0,fun x hx hx2=>by rw[gset_ne (by omega),f0 x hx hx2],f0,rows++[a],[],?_,hN.snoc ht,?_⟩
 ·rw[gset_eq g0,List.append_nil,cellsOf_one]
 ·rw[cellsOf_one,List.append_nil]
  intro e
  have:=congrArg List.length e
  rw[List.length_append,c1]at this
  simp at this
theorem pub27 {s:Heap}{ns:List Nd}{r:Option Nat}(h:RowOk s ns r)(k:Int)(hd:Hd):∃ch s1,aPub (.agg (hrow k hd (chOf ns r))) s=some (.agg (hrow k hd ch),s1)∧IsNC ns ch∧s1.length=s.length∧∀x,r≠some x→s1[x]?=s[x]?:=by
 cases r with
 | none =>
  have h:ns=[]:=h
  subst h
  exact⟨.nils,s,rfl,.nil,rfl,fun _ _=>rfl⟩
 | some i =>
  obtain⟨rows,junk,h1,h2,h3⟩:=h
  obtain⟨r1,r2,r3,r4⟩:=h2.cells
  have tk:(cellsOf rows++junk).take (ns.length*7)=cellsOf rows:=by
   rw[List.take_append_of_le_length (by omega),List.take_of_length_le (by omega)]
  have e:aPub1 (.rs 27 7 i 0 ns.length) s=some (.sl 27 7 rows .sh,kill s i):=by
   unfold aPub1
   simp only[h1]
   rw[if_pos ⟨trivial,by decide,by decide,by rw[List.length_append];omega,by rw[tk];exact r3⟩,tk,r2,r4]
  refine⟨.sl 27 7 rows .sh,kill s i,?_,.sl _ _ h2,kill_length _ _,fun x hx=>gkill_ne fun e=>hx (by rw[e])⟩
  have a1:∀v:Int,aPub1 (I v) s=some (I v,s):=fun _=>rfl
  have a2:∀v:Bytes,aPub1 (.str v) s=some (.str v,s):=fun _=>rfl
  have e2:aPubL (hrow k hd (.rs 27 7 i 0 ns.length)) s=some (hrow k hd (.sl 27 7 rows .sh),kill s i):=by
   simp only[hrow,aPubL,a1,a2,e]
  show (match aPubL (hrow k hd (.rs 27 7 i 0 ns.length)) s with|some (cs',s')=>some (AV.agg cs',s')|none=>none)=_
  rw[e2]
end ParF
end

section
namespace ParF
open Go Go.Abs Go.Proofs Pm AstF
mutual
def LfT:Tree→Prop
 | .mk k x cs=>(100≤k→LeafOk k x)∧LfL cs
def LfL:List Tree→Prop
 | []=>True
 | t::ts=>LfT t∧LfL ts
end
theorem LfL_cons (t:Tree)(ts:List Tree):LfL (t::ts)=(LfT t∧LfL ts):=by rw[LfL]
theorem LfL.mem:∀{ts:List Tree},LfL ts→∀t∈ts,LfT t
 | [],_,t,h=>by cases h
 | u::ts,h,t,hm=>by
  rw[LfL_cons]at h
  rcases List.mem_cons.1 hm with rfl|hm
  ·exact h.1
  ·exact LfL.mem h.2 t hm
theorem idx_slT {rows:List AV}{i:Nat}{a:AV}{f:Flag}(h:rows[i]?=some a):aIndexAddr Tryz.prog 63 (.sl 65 3 rows f) (I i)=some (.box a.cells 0):=by
 have hz:szOf Tryz.prog 65=some 3:=by kernel_rfl
 simp[aIndexAddr,under50,hz,h]
theorem len_slT (rows:List AV)(f:Flag):aLen Tryz.prog 63 (.sl 65 3 rows f)=some (I rows.length):=by simp[aLen,under50]
theorem IsL.atT:∀{cs:List Tree}{rows:List AV},IsL cs rows→∀{i:Nat}{t:Tree},cs[i]?=some t→∃a,rows[i]?=some a∧IsT t a
 | _,_,.nil,i,t,h=>by simp at h
 | _,_,.cons t a cs rows h h',0,t',e=>by
  simp only[List.getElem?_cons_zero,Option.some.injEq]at e
  subst e;exact⟨a,rfl,h⟩
 | _,_,.cons t a cs rows h h',i+1,t',e=>by
  rw[List.getElem?_cons_succ]at e
  obtain⟨b,h1,h2⟩:=IsL.atT h' e
  exact⟨b,by rw[List.getElem?_cons_succ,h1],h2⟩
theorem IsC.factsT {cs:List Tree}{ch:AV}(h:IsC cs ch):aLen Tryz.prog 63 ch=some (I cs.length)∧∀{i:Nat}{t:Tree},cs[i]?=some t→∃a,aIndexAddr Tryz.prog 63 ch (I i)=some (.box a.cells 0)∧IsT t a:=by
 cases h with
 | nil=>exact⟨len50_nil,fun e=>by simp at e⟩
 | sl cs rows h =>
  refine⟨by rw[len_slT,h.length],fun e=>?_⟩
  obtain⟨a,h1,h2⟩:=h.atT e
  exact⟨a,idx_slT h1,h2⟩
theorem zeroT:aAlloc Tryz.prog 65=fun s=>some (.ref s.length 0,s++[(65,[I 0,.str [],.nils])]):=by
 have h:zeroOf Tryz.prog 65=some (.agg [I 0,.str [],.nils]):=by kernel_rfl
 funext s
 simp[aAlloc,h]
theorem st3 {s:Heap}{i:Nat}{cs:List AV}(h:s[i]?=some (65,cs))(hc:cs.length=3){a:AV}(h1:a.cells.length=3)(h2:a.cells.map AV.strip=a.cells)(h4:a=.agg a.cells):aStore 3 s (.ref i 0) a=some (s.set i (65,a.cells)):=by
 have hsol:a.solid=true:=by rw[h4];rfl
 have hst:stCells a=a.cells:=by rw[h4];exact h2
 rw[ParF.st (n:=3) (o:=0) (v:=a) h (by decide) hsol h1 (by omega),hst]
 have:=setL_end [] a.cells cs (by omega)
 rw[List.nil_append,List.nil_append]at this
 rw[show setL cs 0 a.cells=a.cells from this]
theorem ld3 {s:Heap}{i:Nat}{a:AV}(h:s[i]?=some (65,a.cells))(h1:a.cells.length=3)(h4:a=.agg a.cells):aLoad false true 3 (.ref i 0) s=some (a,s):=by
 rw[ldA (o:=0) h (by decide) (by omega) (by decide),List.drop_zero,List.take_of_length_le (by omega),←h4]
theorem box3 {a:AV}(s:Heap)(h1:a.cells.length=3)(h4:a=.agg a.cells):aLoad false true 3 (.box a.cells 0) s=some (a,s):=by
 rw[aLoad_agg _ _ _ _ _ (by omega),List.drop_zero,List.take_of_length_le (by omega),←h4]
theorem lit7:aBuildSlice Tryz.prog 25 1 [(0,.agg zrow7)]=some (.sl 27 7 [.agg zrow7] .own):=lit27 rfl rfl rfl
theorem Ex.wide {s s':Heap}{J J' K K':List Nat}(h:Ex s s' J J')(h1:∀x∈J,x∈K)(h2:∀x∈K',x∈K∨x∈J'):Ex s s' K K' :=
 ⟨h.len,fun x hx hj=>h.fr x hx (fun k=>hj (h1 x k)),fun x hx=>by
  rcases h2 x hx with k|k
  ·exact .inl k
  ·rcases h.sub x k with z|z
   ·exact .inl (h1 x z)
   ·exact .inr z⟩
theorem idx25_top (t i n:Nat):aIndexAddr Tryz.prog 25 (.rs t 7 i 0 (n+1)) (I n)=some (.ref i (n*7)):=by
 simp[aIndexAddr,under25,sz27]
 omega
theorem szT_mem:∀{cs:List Tree}{u:Tree},u∈cs→szT u≤szL cs
 | [],u,h=>by cases h
 | c::cs,u,h=>by
  rw[szL]
  rcases List.mem_cons.1 h with rfl|h
  ·omega
  ·have:=szT_mem h;omega
def NodeRun (src:Bytes)(t:Tree):Prop:=∀(B:Nat)(s:Heap)(o:Nat)(ds:List Dg)(q:Option Nat)(a:AV)(n:Nat),BS src B s o ds q→IsT t a→okT t=true→par60 t=true→LfT t→t.kind<100→o+(srcT t).length≤src.length→src.length≤3000 →
 (ds++(nodeB src o t).2).length<1000000→szT t<1000000→szT t+src.length+100≤n →
 ∃a' s' q',aCall Tryz.prog (den C n) 33 [.ref B 0,a] s=some (a',s')∧IsN (nodeB src o t).1 a'∧BS src B s' (o+(srcT t).length) (ds++(nodeB src o t).2) q'∧Ex s s' (JB B q) (JB B q')
theorem node_loop {src:Bytes}{B H V k:Nat}{cs:List Tree}{tch:AV}(hch:IsC cs tch)(hk:k<100)(hsrc:src.length≤3000)(hcs:cs.length<1000000)(hszc:szL cs<1000000)(n:Nat)(hn:szL cs+src.length+100≤n)(hB:B≠V)(hHV:H≠V)(h60:(k:Int)=60→hasNode cs=true)
  (IH:∀t∈cs,NodeRun src t)(o0:Nat):∀(m:Nat)(i:Nat),cs.length-i≤m→i≤cs.length→∀(s:Heap)(o:Nat)(ds:List Dg)(q:Option Nat)(h:Hd)(ns:List Nd)(r:Option Nat),
  BS src B s o ds q→s[H]?=some (27,hrow k h (chOf ns r))→RowOk s ns r→s[V]?=some (27,zrow7)→H∉JB B q→V∉JB B q→(∀R,r=some R→R∉JB B q∧R≠H∧R≠V)→Inv o0 o h →
  okL (cs.drop i)=true→par60L (cs.drop i)=true→LfL (cs.drop i)→o+(srcL (cs.drop i)).length≤src.length→(hasNode cs=true→ns≠[]∨hasNode (cs.drop i)=true)→ns.length+cs.length<10000000+i →
  (ds++(finN src k (kidsB src k o h (cs.drop i)).h (ns++(kidsB src k o h (cs.drop i)).ns) (kidsB src k o h (cs.drop i)).ds).2).length<1000000 →
  ∃a s' q',(∀M n' e,m<M→e 0=.ref B 0→e 4=.ref V 0→e 6=.ref H 0→e 19=tch→e 20=I cs.length→e 21=I i→aLoop (F33_L0 (den C n) n') M e s=some (a,s')) ∧
   IsN (finN src k (kidsB src k o h (cs.drop i)).h (ns++(kidsB src k o h (cs.drop i)).ns) []).1 a ∧
   BS src B s' (o+(srcL (cs.drop i)).length) (ds++(finN src k (kidsB src k o h (cs.drop i)).h (ns++(kidsB src k o h (cs.drop i)).ns) (kidsB src k o h (cs.drop i)).ds).2) q' ∧
   Ex s s' (H::V::(r.toList++JB B q)) (H::V::JB B q'):=by
 obtain⟨hlen,hat⟩:=hch.factsT
 intro m
 have out:∀(s:Heap) (o:Nat) (ds:List Dg) (q:Option Nat) (h:Hd) (ns:List Nd) (r:Option Nat),BS src B s o ds q→s[H]?=some (27,hrow k h (chOf ns r))→RowOk s ns r→s[V]?=some (27,zrow7)→H∉JB B q→V∉JB B q→(∀R,r=some R→R∉JB B q∧R≠H∧R≠V)→Inv o0 o h→o≤src.length→(hasNode cs=true→ns≠[]) →
   (ds++finD k h).length<1000000 →
   ∃a s' q',(∀M n' e,0<M→e 0=.ref B 0→e 4=.ref V 0→e 6=.ref H 0→e 19=tch→e 20=I cs.length→e 21=I cs.length→aLoop (F33_L0 (den C n) n') M e s=some (a,s')) ∧
    IsN (finN src k h ns []).1 a∧BS src B s' o (ds++finD k h) q'∧Ex s s' (H::V::(r.toList++JB B q)) (H::V::JB B q'):=by
  intro s o ds q h ns r hb hs hr hV jH jV jR hi hos hne hd
  obtain⟨i1,i2,i3⟩:=hi
  have hE:max h.e h.s≤(src.length:Int):=by omega
  have l4:aLoad false false 1 (.ref H 4) s=some (I h.e,s):=ld (o:=4) hs (by decide) rfl (by decide)
  have l3:aLoad false false 1 (.ref H 3) s=some (I h.s,s):=ld (o:=3) hs (by decide) rfl (by decide)
  have s4:aStore 1 s (.ref H 4) (I (max h.e h.s))=some (s.set H (27,hrow k (hend h) (chOf ns r))):=stH hs rfl rfl (by decide)
  obtain⟨S1,hS1⟩:∃S1,s.set H (27,hrow k (hend h) (chOf ns r))=S1:=⟨_,rfl⟩
  rw[hS1]at s4
  have b1:BS src B S1 o ds q:=by rw[←hS1];exact hb.set jH _
  have h1:S1[H]?=some (27,hrow k (hend h) (chOf ns r)):=by rw[←hS1];exact gset_eq hs
  have r1:RowOk S1 ns r:=hr.fr fun R hR=>by rw[←hS1,gset_ne (Ne.symm (jR R hR).2.1)]
  have v1:S1[V]?=some (27,zrow7):=by rw[←hS1,gset_ne hHV];exact hV
  have lS1:S1.length=s.length:=by rw[←hS1,set_length]
  have ld:aLoad false true 7 (.ref H 0) S1=some (.agg (hrow k (hend h) (chOf ns r)),S1):=by
   rw[ldA (o:=0) h1 (by decide) (by show 0+7≤7;decide) (by decide)];rfl
  obtain⟨ch,S2,pb,hN,lS2,f2⟩:=pub27 r1 k (hend h)
  have b2:BS src B S2 o ds q:=b1.frame fun x hx=>f2 x fun e=>(jR x e).1 hx
  obtain⟨a,S3,q3,rf,hA,b3,x3⟩:=fin_run b2 hN (by omega) hE (fun e=>hne (h60 e)) hd (n:=n) (by omega)
  obtain⟨a1,a2,a3,a4⟩:=hA.cells
  have hVl:=glt hV
  have v3:S3[V]?=some (27,zrow7):=by
   rw[x3.fr V (by omega) jV,f2 V (fun e=>(jR V e).2.2 rfl)];exact v1
  have p5:=st7 v3 rfl a1 a2 a4
  have p6:=ld7 (gset_eq (v:=(27,a.cells)) v3) a1 a4
  have jV3:=x3.notin' (by omega:V<S2.length) jV
  refine⟨a,S3.set V (27,a.cells),q3,fun M n' e hM e0 e4 e6 e19 e20 e21=>?_,hA,b3.set jV3 _,?_⟩
  ·obtain⟨M,rfl⟩:∃j,M=j+1:=⟨M-1,by omega⟩
   have mx:(if h.e<h.s then h.s else h.e)=max h.e h.s:=by split<;>omega
   have mx':(if h.e≤h.s then h.s else h.e)=max h.e h.s:=by split<;>omega
   have mx2:(if h.s<h.e then h.e else h.s)=max h.e h.s:=by split<;>omega
   rw[aLoop,F33_L0]
   simp only[↓sW,sL,e0,e4,e6,e19,e20,e21,Int.lt_irrefl,l4,l3,mx,mx',mx2,s4,ld,pubR,pb,rf,p5,p6]
  ·refine⟨by rw[set_length];have:=x3.len;omega,fun x hx hj=>?_,fun x hx=>?_⟩
   ·simp only[List.mem_cons,List.mem_append,not_or]at hj
    obtain⟨j1,j2,j3,j4⟩:=hj
    rw[gset_ne (Ne.symm j2),x3.fr x (by omega) j4,f2 x (fun e=>j3 (by rw[e];simp)),←hS1,gset_ne (Ne.symm j1)]
   ·simp only[List.mem_cons]at hx
    rcases hx with rfl|rfl|hx
    ·exact .inl (List.mem_cons_self ..)
    ·exact .inl (List.mem_cons_of_mem _ (List.mem_cons_self ..))
    ·rcases x3.sub x hx with z|z
     ·exact .inl (List.mem_cons_of_mem _ (List.mem_cons_of_mem _ (List.mem_append_right _ z)))
     ·exact .inr (by omega)
 have key:∀i,i=cs.length→∀(s:Heap) (o:Nat) (ds:List Dg) (q:Option Nat) (h:Hd) (ns:List Nd) (r:Option Nat),
   BS src B s o ds q→s[H]?=some (27,hrow k h (chOf ns r))→RowOk s ns r→s[V]?=some (27,zrow7)→H∉JB B q→V∉JB B q→(∀R,r=some R→R∉JB B q∧R≠H∧R≠V)→Inv o0 o h→o+(srcL (cs.drop i)).length≤src.length→(hasNode cs=true→ns≠[]∨hasNode (cs.drop i)=true) →
   (ds++(finN src k (kidsB src k o h (cs.drop i)).h (ns++(kidsB src k o h (cs.drop i)).ns) (kidsB src k o h (cs.drop i)).ds).2).length<1000000→∀m:Nat,
   ∃a s' q',(∀M n' e,m<M→e 0=.ref B 0→e 4=.ref V 0→e 6=.ref H 0→e 19=tch→e 20=I cs.length→e 21=I i→aLoop (F33_L0 (den C n) n') M e s=some (a,s')) ∧
    IsN (finN src k (kidsB src k o h (cs.drop i)).h (ns++(kidsB src k o h (cs.drop i)).ns) []).1 a ∧
    BS src B s' (o+(srcL (cs.drop i)).length) (ds++(finN src k (kidsB src k o h (cs.drop i)).h (ns++(kidsB src k o h (cs.drop i)).ns) (kidsB src k o h (cs.drop i)).ds).2) q' ∧
    Ex s s' (H::V::(r.toList++JB B q)) (H::V::JB B q'):=by
  intro i hi s o ds q h ns r hb hs hr hV jH jV jR hin hos hne hd m
  subst hi
  have e:cs.drop cs.length=[]:=List.drop_length
  rw[e]at hos hne hd ⊢
  rw[kidsB_nil]at hd ⊢
  simp only[List.append_nil]at hd ⊢
  rw[finN_ds]at hd ⊢
  rw[srcL]at hos ⊢
  simp only[List.nil_append,List.length_nil,Nat.add_zero]at hos hd ⊢
  obtain⟨a,s',q',g1,g2⟩:=out s o ds q h ns r hb hs hr hV jH jV jR hin hos (fun z=>by
   rcases hne z with z|z
   ·exact z
   ·simp[hasNode]at z) hd
  exact⟨a,s',q',fun M n' e hM=>g1 M n' e (by omega),g2⟩
 induction m with
 | zero =>
  intro i hm hi s o ds q h ns r hb hs hr hV jH jV jR hin ok p60 lf hos hne hnl hd
  exact key i (by omega) s o ds q h ns r hb hs hr hV jH jV jR hin hos hne hd 0
 | succ m ih =>
  intro i hm hi s o ds q h ns r hb hs hr hV jH jV jR hin ok p60 lf hos hne hnl hd
  by_cases hlt:i<cs.length
  ·obtain⟨t,ht⟩:∃t,cs[i]?=some t:=⟨_,List.getElem?_eq_getElem hlt⟩
   have e:cs.drop i=t::cs.drop (i+1):=by
    rw[List.drop_eq_getElem_cons hlt]
    rw[List.getElem?_eq_getElem hlt]at ht
    cases ht;rfl
   rw[e]at ok p60 lf hos hne hd ⊢
   rw[okL_cons,Bool.and_eq_true]at ok
   rw[par60L,Bool.and_eq_true]at p60
   rw[LfL_cons]at lf
   rw[srcL,List.length_append]at hos ⊢
   obtain⟨ta,hi0,hta⟩:=hat ht
   obtain⟨t1,t2,t3,t4⟩:=hta.cells
   have tst:ta.strip=ta:=by rw[t4];rfl
   have bx3:aLoad false true 3 (.box ta.cells 0) s=some (ta,s):=box3 s t1 t4
   obtain⟨S0,hS0⟩:∃S0,s++[(65,ta.cells)]=S0:=⟨_,rfl⟩
   have l0:S0.length=s.length+1:=by rw[←hS0];exact app_length _ _
   have f0:∀x,x<s.length→S0[x]?=s[x]?:=fun x hx=>by rw[←hS0];exact gapp_old hx
   have gt:S0[s.length]?=some (65,ta.cells):=by rw[←hS0];exact gapp_new
   have al:aAlloc Tryz.prog 65 s=some (.ref s.length 0,s++[(65,[I 0,.str [],.nils])]):=by rw[zeroT]
   have stt:aStore 3 (s++[(65,[I 0,.str [],.nils])]) (.ref s.length 0) ta=some S0:=by
    rw[st3 gapp_new rfl t1 t2 t4,set_end,hS0]
   have ldt:∀s2:Heap,s2[s.length]?=some (65,ta.cells)→aLoad false true 3 (.ref s.length 0) s2=some (ta,s2):=fun s2 h2=>ld3 h2 t1 t4
   have ltt:=ldt S0 gt
   have ldk:aLoad false false 1 (.ref s.length 0) S0=some (I t.kind,S0):=by
    cases hta with
    | mk kk x c ch hc=>exact ld (o:=0) gt (by decide) rfl (by decide)
   have b0:=hb.fresh f0
   have hHl:=glt hs
   have hVl:=glt hV
   have hs0:S0[H]?=some (27,hrow k h (chOf ns r)):=(f0 H hHl).trans hs
   have hV0:S0[V]?=some (27,zrow7):=(f0 V hVl).trans hV
   have hRl:∀R,r=some R→R<s.length:=fun R e=>by subst e;exact hr.lt
   have hr0:RowOk S0 ns r:=hr.fr fun R hR=>f0 R (hRl R hR)
   have wi:IntKind.i64.wrap ((i:Int)+1)=((i+1:Nat):Int):=wadd1 (by omega)
   have hil:((i:Int)<(cs.length:Int))=True:=by simp;omega
   have j1:∀(n':Nat) (K:Env→Heap→Ans) (e:Env) (s2:Heap),e 21=I i→F33_J1 (den C n) n' K e s2=K (upds e [(47,I (i+1:Nat)),(21,I (i+1:Nat))]) s2:=by
    intro n' K e s2 h21
    unfold F33_J1
    simp only[↓sW,sL,h21,wi]
   by_cases c:100≤t.kind
   ·-- a token
    have hsl:=srcT_leafk ok.1 c
    rw[hsl]at hos ⊢
    rw[kidsB_leaf _ _ _ _ _ _ c]at hd ⊢
    simp only at hd ⊢
    rw[finN_ds]at hd ⊢
    simp only at hd ⊢
    have hd0:(ds++(tokH k h t.kind t.text o).2).length<1000000:=by
     simp only[List.length_append]at hd ⊢;omega
    have lfo:LeafOk t.kind t.text:=by
     cases t with
     | mk kk x c2=>exact(by have:=lf.1;rw[LfT]at this;exact this.1 c)
    obtain⟨s1,q1,rt,b1,hs1,jH1,x1⟩:∃s' q',aCall Tryz.prog (den C n) 52 [.ref B 0,.ref H 0,ta] S0=some (.tup [],s')∧BS src B s' (o+t.text.length) (ds++(tokH k h t.kind t.text o).2) q'∧s'[H]?=some (27,hrow k (tokH k h t.kind t.text o).1 (chOf ns r))∧H∉JB B q'∧Ex S0 s' (H::JB B q) (H::JB B q'):=by
     cases hta with
     | mk kk x c2 ch hc=>exact tok_run b0 (chOf_strip _ _) hs0 jH hk lfo (by omega) hd0 (n:=n) (by have:=hos;simp only[Tree.text]at this;omega)
    have jV1:V∉JB B q1:=fun z=>by
     have:=x1.notin' (x:=V) (by omega) (by simp only[List.mem_cons,not_or];exact⟨Ne.symm hHV,jV⟩)
     exact this (List.mem_cons_of_mem _ z)
    have jR1:∀R,r=some R→R∉JB B q1∧R≠H∧R≠V:=fun R hR=>by
     obtain⟨z1,z2,z3⟩:=jR R hR
     have:=x1.notin' (x:=R) (by have:=hRl R hR;omega) (by simp only[List.mem_cons,not_or];exact⟨z2,z1⟩)
     exact⟨fun z=>this (List.mem_cons_of_mem _ z),z2,z3⟩
    have hr1:RowOk s1 ns r:=hr0.fr fun R hR=>by
     obtain⟨z1,z2,z3⟩:=jR R hR
     exact x1.fr R (by have:=hRl R hR;omega) (by simp only[List.mem_cons,not_or];exact⟨z2,z1⟩)
    have hV1:s1[V]?=some (27,zrow7):=(x1.fr V (by omega) (by simp only[List.mem_cons,not_or];exact⟨Ne.symm hHV,jV⟩)).trans hV0
    have hd1:(ds++(tokH k h t.kind t.text o).2++(finN src k (kidsB src k (o+t.text.length) (tokH k h t.kind t.text o).1 (cs.drop (i+1))).h (ns++(kidsB src k (o+t.text.length) (tokH k h t.kind t.text o).1 (cs.drop (i+1))).ns) (kidsB src k (o+t.text.length) (tokH k h t.kind t.text o).1 (cs.drop (i+1))).ds).2).length<1000000:=by
     rw[finN_ds];simp only[List.length_append]at hd ⊢;omega
    obtain⟨a,s',q',g1,g2,g3,g4⟩:=ih (i+1) (by omega) (by omega) s1 (o+t.text.length) _ q1 _ ns r b1 hs1 hr1 hV1 jH1 jV1 jR1 (hin.tok k t.kind t.text) ok.2 p60.2 lf.2 (by omega) (fun z=>by
     rcases hne z with z|z
     ·exact .inl z
     ·rw[hasNode]at z
      exact .inr (by simpa[show ¬t.kind<100 by omega] using z)) (by omega) hd1
    refine⟨a,s',q',fun M n' e hM e0 e4 e6 e19 e20 e21=>?_,g2,?_,?_⟩
    ·obtain⟨M,rfl⟩:∃j,M=j+1:=⟨M-1,by omega⟩
     have ck:((100:Int)≤(t.kind:Int))=True:=by simp;omega
     rw[aLoop,F33_L0]
     simp only[↓sW,sL,e0,e4,e6,e19,e20,e21,hil,hi0,bx3,al,stt,ldk,ck,ltt,tst,rt]
     rw[j1 _ _ _ _ ((upds_get _ _ _ rfl).trans e21)]
     exact g1 M n' _ (by omega) ((upds_get _ _ _ rfl).trans ((upds_get _ _ _ rfl).trans e0)) ((upds_get _ _ _ rfl).trans ((upds_get _ _ _ rfl).trans e4)) ((upds_get _ _ _ rfl).trans ((upds_get _ _ _ rfl).trans e6)) ((upds_get _ _ _ rfl).trans ((upds_get _ _ _ rfl).trans e19)) ((upds_get _ _ _ rfl).trans ((upds_get _ _ _ rfl).trans e20)) (by simp[upds_at,upd_at])
    ·rw[finN_ds]at g3 ⊢
     simp only[List.append_assoc]at g3 ⊢
     rw[←Nat.add_assoc];exact g3
    ·have x0:Ex s S0 (H::V::(r.toList++JB B q)) (H::V::(r.toList++JB B q)):=Ex.fresh _ (by omega) f0
     refine x0.trans (Ex.trans (x1.wide (K:=H::V::(r.toList++JB B q)) (K':=H::V::(r.toList++JB B q1)) ?_ ?_) g4)
     ·intro x hx
      simp only[List.mem_cons,List.mem_append]at hx ⊢
      rcases hx with z|z
      ·exact .inl z
      ·exact .inr (.inr (.inr z))
     ·intro x hx
      simp only[List.mem_cons,List.mem_append]at hx ⊢
      rcases hx with z|z|z|z
      ·exact .inl (.inl z)
      ·exact .inl (.inr (.inl z))
      ·exact .inl (.inr (.inr (.inl z)))
      ·exact .inr (.inr z)
   ·-- a node
    rw[kidsB_node _ _ _ _ _ _ c]at hd ⊢
    simp only at hd ⊢
    rw[finN_ds]at hd ⊢
    simp only at hd ⊢
    have hd0:(ds++(nodeB src o t).2).length<1000000:=by
     simp only[List.length_append]at hd ⊢;omega
    have hsz:szT t≤szL cs∧szT t<1000000:=by
     have:szL (cs.drop i)≤szL cs:=by
      have q:=szL_append (cs.take i) (cs.drop i)
      rw[List.take_append_drop]at q;omega
     rw[e,szL]at this
     exact⟨by omega,by omega⟩
    obtain⟨a',s1,q1,rn,hA,b1,x1⟩:=IH t (List.mem_of_getElem? ht) B S0 o ds q ta n b0 hta ok.1 p60.1 lf.1 (by omega) (by omega) hsrc hd0 hsz.2 (by omega)
    obtain⟨a1,a2,a3,a4⟩:=hA.cells
    have ast:a'.strip=a':=by rw[a4];rfl
    have hs1:s1[H]?=some (27,hrow k h (chOf ns r)):=(x1.fr H (by omega) jH).trans hs0
    have hV1:s1[V]?=some (27,zrow7):=(x1.fr V (by omega) jV).trans hV0
    have jH1:=x1.notin' (x:=H) (by omega) jH
    have jV1:=x1.notin' (x:=V) (by omega) jV
    have hr1:RowOk s1 ns r:=hr0.fr fun R hR=>x1.fr R (by have:=hRl R hR;omega) (jR R hR).1
    have jR1:∀R,r=some R→R∉JB B q1:=fun R hR=>x1.notin' (by have:=hRl R hR;omega) (jR R hR).1
    have len1:=x1.len
    -- t9
    obtain⟨S2,hS2⟩:∃S2,s1++[(27,a'.cells)]=S2:=⟨_,rfl⟩
    have l2:S2.length=s1.length+1:=by rw[←hS2];exact app_length _ _
    have f2:∀x,x<s1.length→S2[x]?=s1[x]?:=fun x hx=>by rw[←hS2];exact gapp_old hx
    have g9:S2[s1.length]?=some (27,a'.cells):=by rw[←hS2];exact gapp_new
    have al9:aAlloc Tryz.prog 27 s1=some (.ref s1.length 0,s1++[(27,zrow7)]):=by rw[zero27]
    have st9:aStore 7 (s1++[(27,zrow7)]) (.ref s1.length 0) a'=some S2:=by
     rw[st7 gapp_new rfl a1 a2 a4,set_end,hS2]
    have ld93:aLoad false false 1 (.ref s1.length 3) S2=some (I (nodeB src o t).1.s,S2):=by
     revert hA g9
     cases(nodeB src o t).1 with
     | mk kk v x s e ns cs =>
      intro hA g9
      cases hA
      exact ld (o:=3) g9 (by decide) rfl (by decide)
    have ld94:aLoad false false 1 (.ref s1.length 4) S2=some (I (nodeB src o t).1.e,S2):=by
     revert hA g9
     cases(nodeB src o t).1 with
     | mk kk v x s e ns cs =>
      intro hA g9
      cases hA
      exact ld (o:=4) g9 (by decide) rfl (by decide)
    have hs2:S2[H]?=some (27,hrow k h (chOf ns r)):=(f2 H (by omega)).trans hs1
    obtain⟨n0,hn0⟩:∃j,n=j+1:=⟨n-1,by omega⟩
    have rx:=ext_run hs2 (nodeB src o t).1.s (nodeB src o t).1.e n0
    rw[←hn0]at rx
    generalize hhx:h.ext (nodeB src o t).1.s (nodeB src o t).1.e=hx at *
    obtain⟨S3,hS3⟩:∃S3,S2.set H (27,hrow k hx (chOf ns r))=S3:=⟨_,rfl⟩
    rw[hS3]at rx
    have l3:S3.length=s1.length+1:=by rw[←hS3,set_length,l2]
    have hHs1:H<s1.length:=by omega
    have f3:∀x,x<s1.length→x≠H→S3[x]?=s1[x]?:=fun x hx h2=>by rw[←hS3,gset_ne (Ne.symm h2),f2 x hx]
    have g93:S3[s1.length]?=some (27,a'.cells):=by rw[←hS3,gset_ne (by omega)];exact g9
    have ld97:=ld7 g93 a1 a4
    have hs3:S3[H]?=some (27,hrow k hx (chOf ns r)):=by rw[←hS3];exact gset_eq hs2
    have l6:aLoad false false 1 (.ref H 6) S3=some (chOf ns r,S3):=by rw[ld (o:=6) hs3 (by decide) rfl (by decide),chOf_strip]
    have hr3:RowOk S3 ns r:=hr1.fr fun R hR=>f3 R (by have:=hRl R hR;omega) (jR R hR).2.1
    obtain⟨S4,S5,ap,sto5,l5,l4,f5,f4,ro⟩:=push27 hr3 hA (by omega)
    have rH:r≠some H:=fun e=>(jR H e).2.1 rfl
    have rV:r≠some V:=fun e=>(jR V e).2.2 rfl
    have hs5:S5[H]?=some (27,hrow k hx (chOf ns r)):=(f5 H (by omega) rH).trans hs3
    have st6:aStore 1 S5 (.ref H 6) (.rs 27 7 S3.length 0 (ns.length+1))=some (S5.set H (27,hrow k hx (chOf (ns++[(nodeB src o t).1]) (some S3.length)))):=by
     rw[stH hs5 rfl rfl (by decide)]
     show some (S5.set H (27,[I k,I hx.v,.str hx.x,I hx.s,I hx.e,I hx.ns,.rs 27 7 S3.length 0 (ns.length+1)]))=_
     unfold chOf hrow;simp
    obtain⟨S6,hS6⟩:∃S6,S5.set H (27,hrow k hx (chOf (ns++[(nodeB src o t).1]) (some S3.length)))=S6:=⟨_,rfl⟩
    rw[hS6]at st6
    have l6':S6.length=s1.length+2:=by rw[←hS6,set_length,l5,l3]
    have hs6:S6[H]?=some (27,hrow k hx (chOf (ns++[(nodeB src o t).1]) (some S3.length))):=by rw[←hS6];exact gset_eq hs5
    have f6:∀x,x<s1.length→x≠H→r≠some x→S6[x]?=s1[x]?:=fun x hx h2 h3=>by
     rw[←hS6,gset_ne (Ne.symm h2),f5 x (by omega) h3,f3 x hx h2]
    have ro6:RowOk S6 (ns++[(nodeB src o t).1]) (some S3.length):=ro.fr fun R hR=>by cases hR;rw[←hS6,gset_ne (by omega)]
    have b6:BS src B S6 (o+(srcT t).length) (ds++(nodeB src o t).2) q1:=b1.frame fun x hx=>f6 x (b1.lt x hx) (fun z=>jH1 (by rw[←z];exact hx)) (fun z=>jR1 x z hx)
    have hV6:S6[V]?=some (27,zrow7):=(f6 V (by omega) (Ne.symm hHV) rV).trans hV1
    have hrg:=node_rg src o t ok.1
    have hin1:Inv o0 (o+(srcT t).length) hx:=by rw[←hhx];exact hin.ext hrg.1 hrg.2.1 hrg.2.2
    have hd1:(ds++(nodeB src o t).2++(finN src k (kidsB src k (o+(srcT t).length) hx (cs.drop (i+1))).h (ns++[(nodeB src o t).1]++(kidsB src k (o+(srcT t).length) hx (cs.drop (i+1))).ns) (kidsB src k (o+(srcT t).length) hx (cs.drop (i+1))).ds).2).length<1000000:=by
     rw[finN_ds];simp only[List.length_append]at hd ⊢;omega
    obtain⟨a,s',q',g1,g2,g3,g4⟩:=ih (i+1) (by omega) (by omega) S6 (o+(srcT t).length) _ q1 hx (ns++[(nodeB src o t).1]) (some S3.length) b6 hs6 ro6 hV6 jH1 jV1 (fun R hR=>by cases hR;exact⟨fun z=>by have:=b1.lt _ z;omega,by omega,by omega⟩) hin1 ok.2 p60.2 lf.2 (by omega) (fun _=>.inl (by simp)) (by rw[List.length_append];simp;omega) hd1
    rw[List.append_assoc ns,List.singleton_append]at g2 g3
    refine⟨a,s',q',fun M n' e hM e0 e4 e6 e19 e20 e21=>?_,g2,?_,?_⟩
    ·obtain⟨M,rfl⟩:∃j,M=j+1:=⟨M-1,by omega⟩
     have ck:((100:Int)≤(t.kind:Int))=False:=by simp;omega
     have d10:∀x,drawOK C 33 (regOps Tryz.f33 10) [.silent,.get H,.get s1.length,.silent,.silent,.app r,.silent,.put S3.length,.silent,.put H] x=x:=fun x=>d33_10 S3.length H (by omega) x
     rw[aLoop,F33_L0]
     simp only[↓sW,sL,e0,e4,e6,e19,e20,e21,hil,hi0,bx3,al,stt,ldk,ck,ltt,tst,rn,al9,st9,ld93,ld94,rx,l6,ld97,len_chOf hr3,lit7,ap,idx25_top,sto5,strip_rs,st6,kStore_ref,kLoad_ref,appK_chOf,d10]
     rw[j1 _ _ _ _ ((upds_get _ _ _ rfl).trans e21)]
     exact g1 M n' _ (by omega) ((upds_get _ _ _ rfl).trans ((upds_get _ _ _ rfl).trans e0)) ((upds_get _ _ _ rfl).trans ((upds_get _ _ _ rfl).trans e4)) ((upds_get _ _ _ rfl).trans ((upds_get _ _ _ rfl).trans e6)) ((upds_get _ _ _ rfl).trans ((upds_get _ _ _ rfl).trans e19)) ((upds_get _ _ _ rfl).trans ((upds_get _ _ _ rfl).trans e20)) (by simp[upds_at,upd_at])
    ·rw[finN_ds]at g3 ⊢
     simp only[List.append_assoc]at g3 ⊢
     rw[←Nat.add_assoc];exact g3
    ·have x0:Ex s S0 (H::V::(r.toList++JB B q)) (H::V::(r.toList++JB B q)):=Ex.fresh _ (by omega) f0
     have x1':Ex S0 s1 (H::V::(r.toList++JB B q)) (H::V::(r.toList++JB B q1)):=x1.wide (fun x hx=>by simp[hx]) (fun x hx=>by
      simp only[List.mem_cons,List.mem_append]at hx ⊢
      rcases hx with z|z|z|z
      ·exact .inl (.inl z)
      ·exact .inl (.inr (.inl z))
      ·exact .inl (.inr (.inr (.inl z)))
      ·exact .inr z)
     have x6:Ex s1 S6 (H::V::(r.toList++JB B q1)) (H::V::((some S3.length).toList++JB B q1)):=by
      refine⟨by omega,fun x hx hj=>?_,fun x hx=>?_⟩
      ·simp only[List.mem_cons,List.mem_append,not_or]at hj
       exact f6 x hx hj.1 (fun z=>hj.2.2.1 (by rw[z];simp))
      ·simp only[List.mem_cons,List.mem_append,Option.mem_toList,Option.some.injEq]at hx ⊢
       rcases hx with z|z|z|z
       ·exact .inl (.inl z)
       ·exact .inl (.inr (.inl z))
       ·exact .inr (by omega)
       ·exact .inl (.inr (.inr (.inr z)))
     exact x0.trans (x1'.trans (x6.trans g4))
  ·exact key i (by omega) s o ds q h ns r hb hs hr hV jH jV jR hin hos hne hd (m+1)
theorem bnode_run (src:Bytes):∀(m:Nat)(t:Tree),szT t≤m→NodeRun src t:=by
 intro m
 induction m with
 | zero=>intro t h;cases t;rw[szT_mk]at h;omega
 | succ m ih =>
  intro t hm B s o ds q a n hb ha ok p60 lf hk hos hsrc hd hsz hn
  obtain⟨t1,t2,t3,t4⟩:=ha.cells
  cases ha with
  | mk k x cs ch hc =>
  have hk:k<100:=hk
  obtain⟨o1,o2,o3⟩:=okT_mk k x cs ok
  have hx:=o2 hk
  subst hx
  rw[par60,Bool.and_eq_true]at p60
  rw[LfT]at lf
  rw[szT_mk]at hm hsz hn
  rw[srcT_node]at hos ⊢
  rw[nodeB_mk]at hd ⊢
  have hcl:=len_le_sz cs
  obtain⟨n,rfl⟩:∃j,n=j+1:=⟨n-1,by omega⟩
  obtain⟨hlen,hat⟩:=hc.factsT
  obtain⟨hc1,hc2,hc3⟩:=hc.strip
  have hBl:=glt hb.par
  -- the variables
  obtain⟨S1,hS1⟩:∃S1,s++[(27,zrow7)]=S1:=⟨_,rfl⟩
  have l1:S1.length=s.length+1:=by rw[←hS1];exact app_length _ _
  have f1:∀x,x<s.length→S1[x]?=s[x]?:=fun x hx=>by rw[←hS1];exact gapp_old hx
  have gV:S1[s.length]?=some (27,zrow7):=by rw[←hS1];exact gapp_new
  have hrw:(AV.agg [I k,I 0,.str [],I o,I (-1),I (-1),.nils])=.agg (hrow k (h0 o) (chOf [] none)):=rfl
  obtain⟨S2,hS2⟩:∃S2,S1++[(27,hrow k (h0 o) (chOf [] none))]=S2:=⟨_,rfl⟩
  have l2:S2.length=s.length+2:=by rw[←hS2,app_length,l1]
  have f2:∀x,x<s.length→S2[x]?=s[x]?:=fun x hx=>by rw[←hS2,gapp_old (by omega)];exact f1 x hx
  have gV2:S2[s.length]?=some (27,zrow7):=by rw[←hS2,gapp_old (by omega)];exact gV
  have gH2:S2[S1.length]?=some (27,hrow k (h0 o) (chOf [] none)):=by rw[←hS2];exact gapp_new
  have z27:∀s:Heap,aAlloc Tryz.prog 27 s=some (.ref s.length 0,s++[(27,zrow7)]):=fun s=>by rw[zero27]
  have stH2:aStore 7 (S1++[(27,zrow7)]) (.ref S1.length 0) (.agg [I k,I 0,.str [],I o,I (-1),I (-1),.nils])=some S2:=by
   rw[st7 gapp_new rfl rfl rfl rfl,set_end,←hS2];rfl
  have jn:∀y,s.length≤y→y∉JB B q:=fun y hy z=>by have:=hb.lt _ z;omega
  have hl:=node_loop (src:=src) (B:=B) (H:=S1.length) (V:=s.length) (k:=k) hc hk hsrc (by omega) (by omega) n (by omega) (by omega) (by omega) (fun e=>by
    have e:k=60:=by omega
    have:=p60.1
    simpa[e] using this)
   (fun u hu=>ih u (by have:=szT_mem hu;omega)) o cs.length 0 (by omega) (by omega) S2 o ds q (h0 o) [] none (hb.fresh f2) gH2 rfl gV2 (jn _ (by omega)) (jn _ (Nat.le_refl _)) (by nofun) (inv0 o)
   (by rw[List.drop_zero];exact o3) (by rw[List.drop_zero];exact p60.2) (by rw[List.drop_zero];exact lf.2) (by rw[List.drop_zero];exact hos) (fun z=>.inr (by rw[List.drop_zero];exact z)) (by simp;omega)
   (by rw[List.drop_zero,List.nil_append];exact hd)
  rw[List.drop_zero,List.nil_append]at hl
  obtain⟨a',s',q',g1,g2,g3,g4⟩:=hl
  have bL:∀(o:Nat) (v:AV),([I k,.str [],ch]:List AV)[o]?=some v→v.strip=v→∀s2:Heap,aLoad false false 1 (.box [I k,.str [],ch] o) s2=some (v,s2):=by
   intro o v es e2 s2
   rw[aLoad_one,es];simp[e2]
  have b0:=bL 0 (I k) rfl rfl
  have b2:=bL 2 ch rfl hc1
  have lb:aLoad false false 1 (.ref B 1) S1=some (I o,S1):=ld (o:=1) ((f1 B hBl).trans hb.par) (by decide) rfl (by decide)
  have bx:aBox false 65 (.agg [I k,.str [],ch]) s=some (.box [I k,.str [],ch] 0,s):=by rw[aBox_f _ _ _ rfl];rfl
  have hb27:=build27b k o
  refine⟨a',s',q',?_,?_,g3,?_⟩
  ·rw[callR en33 (ref1 ..),F33_eq,F33]
   simp only[↓sW,sL,bx,z27,hS1,lb,b0,hb27,stH2,b2,hlen]
   exact g1 n n _ (by omega) (by simp[upds_at,upd_at,argEnv]) (by simp[upds_at,upd_at,argEnv]) (by simp[upds_at,upd_at,argEnv]) (by simp[upds_at,upd_at,argEnv]) (by simp[upds_at,upd_at,argEnv]) (by simp[upds_at,upd_at,argEnv])
  ·rw[finN_ds];exact g2
  ·refine⟨by have:=g4.len;omega,fun y hy hj=>?_,fun y hy=>?_⟩
   ·rw[g4.fr y (by omega) (fun z=>by
     simp only[List.mem_cons,Option.toList_none,List.nil_append]at z
     rcases z with z|z|z
     ·omega
     ·omega
     ·exact hj z),f2 y hy]
   ·rcases g4.sub y (List.mem_cons_of_mem _ (List.mem_cons_of_mem _ hy)) with z|z
    ·simp only[List.mem_cons,Option.toList_none,List.nil_append]at z
     rcases z with z|z|z
     ·exact .inr (by omega)
     ·exact .inr (by omega)
     ·exact .inl z
    ·exact .inr (by omega)
end ParF
end

section
namespace ParF
open Go Go.Abs Go.Proofs Pm
theorem LfL_app (a b:List Tree):LfL (a++b)↔LfL a∧LfL b:=by
 induction a with
 | nil=>rw[LfL];simp
 | cons t a ih=>rw[List.cons_append,LfL_cons,LfL_cons,ih,and_assoc]
theorem LfL_one (t:Tree):LfL [t]↔LfT t:=by rw[LfL_cons,LfL];simp
theorem LfL_nil:LfL []:=by rw[LfL];trivial
theorem LfL_leaf:∀ts:List Tok,(∀t∈ts,LeafOk t.1 t.2)→LfL (ts.map leaf)
 | [],_=>LfL_nil
 | t::ts,h=>by
  rw[List.map_cons,LfL_cons]
  refine⟨?_,LfL_leaf ts fun u hu=>h u (List.mem_cons_of_mem _ hu)⟩
  rw[leaf,LfT]
  exact⟨fun _=>h t (List.mem_cons_self ..),LfL_nil⟩
theorem LfT_node {k:Nat}(hk:k<100)(x:Bytes)(cs:List Tree):LfT (.mk k x cs)↔LfL cs:=by
 rw[LfT]
 exact⟨fun h=>h.2,fun h=>⟨fun q=>by omega,h⟩⟩
theorem LfT_put {k:Nat}(hk:k<100∨k=108):LfT (.mk k [] []):=by
 rw[LfT]
 refine⟨fun q=>⟨by decide,fun e=>by omega,fun e=>by omega⟩,LfL_nil⟩
theorem runs_lf {g:G}{ts:List Tok}{cs:List Tree}{r:Bool}{ts':List Tok}{cs':List Tree}(h:Runs g ts cs r ts' cs'):S60 g→(∀t∈ts,LeafOk t.1 t.2)→LfL cs→LfL cs':=by
 have mem:∀{ts ts1:List Tok},(∃k,ts1=ts.drop k)→(∀t∈ts,LeafOk t.1 t.2)→∀t∈ts1,LeafOk t.1 t.2:=by
  intro ts ts1 ⟨k,e⟩ h t ht;subst e;exact h t (List.mem_of_mem_drop ht)
 induction h with
 | ret b ts cs=>exact fun _ _ h=>h
 | bump ts cs =>
  intro s k h
  rw[←List.map_append,LfL_app]
  exact⟨h,LfL_leaf _ fun t ht=>k t (mem_split ht)⟩
 | put k ts cs=>intro s _ h;rw[LfL_app,LfL_one];exact⟨h,LfT_put s.2⟩
 | insN ts cs t =>
  intro s k h
  rw[LfL_app,LfL_one]at h
  rw[LfL_app,LfL_cons,LfL_one]
  exact⟨h.1,LfT_put (.inl (by decide)),h.2⟩
 | seq h1 h2 i1 i2=>exact fun s k hc=>i2 s.2 (mem (runs_drop h1) k) (i1 s.1 k hc)
 | node cs hk h i=>intro s k hc;rw[LfL_app,LfL_one,LfT_node hk];exact⟨hc,i s.1 k LfL_nil⟩
 | wrap cs hk h i =>
  intro s k hc
  rw[LfL_app,LfL_one]at hc
  rw[LfL_app,LfL_one,LfT_node hk]
  exact⟨hc.1,i s.1 k ((LfL_one _).2 hc.2)⟩
 | ite1 hc h i=>exact fun s=>i s.1
 | ite2 hc h i=>exact fun s=>i s.2
 | bra1 h1 h2 i1 i2=>exact fun s k hc=>i2 s.2.1 (mem (runs_drop h1) k) (i1 s.1 k hc)
 | bra2 h1 h2 i1 i2=>exact fun s k hc=>i2 s.2.2 (mem (runs_drop h1) k) (i1 s.1 k hc)
 | prog1 h1 hl h2 i1 i2=>exact fun s k hc=>i2 s.2.1 (mem (runs_drop h1) k) (i1 s.1 k hc)
 | prog2 h1 hl h2 i1 i2=>exact fun s k hc=>i2 s.2.2 (mem (runs_drop h1) k) (i1 s.1 k hc)
 | stm1 h1 hl ht h2 i1 i2 =>
  intro s k hc
  have:=i1 s.1 k hc
  rw[LfL_app]at this
  exact i2 s60_gunexp (mem (runs_drop h1) k) this.1
 | stm2 h1 hl h2 i1 i2=>exact fun s k hc=>i2 s.2 (mem (runs_drop h1) k) (i1 s.1 k hc)
 | whil0 hc=>exact fun _ _ h=>h
 | whil1 hc h i=>exact fun s=>i s
 | whil2 hc h h2 i1 i2=>exact fun s k hn=>i2 s (mem (runs_drop h) k) (i1 s k hn)
 | call h i=>exact fun _=>i (defs_s60 _)
open LexF in
theorem first_digits (l:List UInt8)(h:(first l).2=105):((l.take (first l).1).all fun b=>decide (48≤b.toNat)&&decide (b.toNat≤57))=true:=by
 cases l with
 | nil=>rfl
 | cons c r =>
  have d:¬isSp c=true→¬Lib.hasPrefix (c::r) [47,47]=true→¬isLet c=true→isDig c=true→((c::r).take (first (c::r)).1).all (fun b=>decide (48≤b.toNat)&&decide (b.toNat≤57))=true:=by
   intro c1 c2 c3 c4
   rw[first,if_neg c1,if_neg c2,if_neg c3,if_pos c4]
   exact List.all_eq_true.2 fun b hb=>take_scan_all isDig (c::r) b hb
  by_cases c1:isSp c=true
  ·rw[first,if_pos c1]at h;cases h
  by_cases c2:Lib.hasPrefix (c::r) [47,47]=true
  ·rw[first,if_neg c1,if_pos c2]at h;cases h
  by_cases c3:isLet c=true
  ·rw[first,if_neg c1,if_neg c2,if_pos c3]at h
   split at h<;>cases h
  by_cases c4:isDig c=true
  ·exact d c1 c2 c3 c4
  rw[first,if_neg c1,if_neg c2,if_neg c3,if_neg c4]at h
  split at h
  ·unfold scanStr at h;split at h<;>cases h
  ·split at h
   ·cases h
   ·split at h<;>cases h
open LexF in
theorem tok_leaf:∀(n:Nat)(l:List UInt8),l.length≤n→l.length<100000→∀t∈tokz l,LeafOk t.1 t.2:=by
 intro n
 induction n with
 | zero =>
  intro l hl
  have:l=[]:=List.length_eq_zero_iff.1 (by omega)
  subst this;nofun
 | succ n ih =>
  intro l hl hb t ht
  by_cases h:l=[]
  ·subst h;cases ht
  ·have hz:=first_bounds l h
   rw[tokz_cons h]at ht
   rcases List.mem_cons.1 ht with rfl|ht
   ·refine⟨by rw[List.length_take];omega,fun e=>⟨?_,first_digits l e⟩,fun _=>by rw[List.length_take];omega⟩
    intro q
    have:=congrArg List.length q
    rw[List.length_take,List.length_nil]at this;omega
   ·exact ih _ (by rw[List.length_drop];omega) (by rw[List.length_drop];omega) t ht
theorem first_kind (l:List UInt8)(h:l≠[]):100<(LexF.first l).2:=by
 cases l with
 | nil=>exact absurd rfl h
 | cons c r =>
  unfold LexF.first
  simp only
  repeat' split
  all_goals first
   | (unfold LexF.scanStr;split<;>exact of_decide_eq_true rfl)
   | exact of_decide_eq_true rfl
theorem tokz_kind:∀(n:Nat)(l:List UInt8),l.length≤n→∀t∈LexF.tokz l,100<t.1:=by
 intro n
 induction n with
 | zero =>
  intro l hl
  have:l=[]:=List.length_eq_zero_iff.1 (by omega)
  subst this;nofun
 | succ n ih =>
  intro l hl t ht
  by_cases h:l=[]
  ·subst h;cases ht
  ·rw[LexF.tokz_cons h]at ht
   rcases List.mem_cons.1 ht with rfl|ht
   ·exact first_kind l h
   ·have:=LexF.first_bounds l h
    exact ih _ (by rw[List.length_drop];omega) t ht
theorem srcK_eq (ts:List Tok):srcK ts=LexF.srcOfT ts:=by
 induction ts with
 | nil=>rfl
 | cons t ts ih=>rw[srcK,ih];simp[LexF.srcOfT]
theorem unq_len:∀(n:Nat)(l:Bytes)(o:Int),l.length≤n→(unq o l).2.length≤l.length:=by
 intro n
 induction n with
 | zero =>
  intro l o h
  have:l=[]:=List.length_eq_zero_iff.1 (by omega)
  subst this;simp[unq]
 | succ n ih =>
  intro l o h
  match l,h with
  | [],_=>simp[unq]
  | [c],_=>simp[unq]
  | c::e::r,h =>
   simp only[unq]
   have e1:=ih r (o+2) (by simp at h;omega)
   have e2:=ih (e::r) (o+1) (by simp at h ⊢;omega)
   by_cases hc:c=92
   ·rw[if_pos hc]
    simp only
    split
    ·simp;omega
    ·simp;omega
   ·rw[if_neg hc]
    simp at e2 ⊢;omega
theorem tokH_len (k:Int)(h:Hd)(c:Nat)(x:Bytes)(o:Int):(tokH k h c x o).2.length≤1+x.length:=by
 unfold tokH
 repeat' split
 ·simp
 ·simp
 ·simp
 ·unfold identH;simp only;split<;>simp
 ·unfold intV;split<;>simp
 ·have:=unq_len _ (x.drop 1) (o+1) (Nat.le_refl _)
  rw[List.length_drop]at this
  simp only;omega
 ·simp
mutual
theorem node_len (src:Bytes):∀(o:Nat)(t:Tree),okT t=true→(nodeB src o t).2.length≤szT t+(srcT t).length
 | o,.mk k x cs,ok=>by
  have i:=kids_len src k o (h0 o) cs (okT_mk k x cs ok).2.2
  rw[nodeB_mk,finN_ds,szT_mk,srcT,List.length_append]
  have:(finD k (kidsB src k o (h0 o) cs).h).length≤1:=by unfold finD;split<;>simp
  rw[List.length_append];omega
theorem kids_len (src:Bytes)(k:Int):∀(o:Nat)(h:Hd)(ts:List Tree),okL ts=true→(kidsB src k o h ts).ds.length≤szL ts+(srcL ts).length
 | o,h,[],_=>by rw[kidsB_nil,szL,srcL];simp
 | o,h,t::ts,ok=>by
  rw[okL_cons,Bool.and_eq_true]at ok
  rw[szL,srcL,List.length_append]
  by_cases c:100≤t.kind
  ·have i:=kids_len src k (o+t.text.length) (tokH k h t.kind t.text o).1 ts ok.2
   have j:=tokH_len k h t.kind t.text o
   rw[kidsB_leaf _ _ _ _ _ _ c,srcT_leafk ok.1 c,List.length_append]
   have:1≤szT t:=by cases t;rw[szT_mk];omega
   omega
  ·have i:=kids_len src k (o+(srcT t).length) (h.ext (nodeB src o t).1.s (nodeB src o t).1.e) ts ok.2
   have j:=node_len src o t ok.1
   rw[kidsB_node _ _ _ _ _ _ c,List.length_append];omega
end
theorem isFile_facts {l:List UInt8}(hl:l.length<100000){T:Tree}(h:IsFile (LexF.tokz l) T):okT T=true∧srcT T=l∧szT T≤24*l.length+1∧par60 T=true∧LfT T∧∃cs,T=.mk 1 [] cs:=by
 obtain⟨t',es,h1,h2,h3,h4,h5⟩:=h
 subst h3
 have hk:=tokz_kind l.length l (Nat.le_refl _)
 have hlt:=LexF.tokz_length l
 have hlf:=tok_leaf _ l (Nat.le_refl _) hl
 obtain⟨kd,hkd⟩:=runs_drop h1
 have hk':∀t∈t',100≤t.1:=fun t ht=>by
  rw[hkd]at ht
  exact Nat.le_of_lt (hk t (List.mem_of_mem_drop ht))
 refine⟨?_,?_,?_,?_,?_,_,rfl⟩
 ·rw[okT_node (by decide),okL_append,runs_ok h1 (fun t ht=>Nat.le_of_lt (hk t ht)) rfl,okL_leaf _ hk'];rfl
 ·have:=runs_src h1
  rw[srcT_node,srcL_append,srcL_leaf,this,srcK_eq,LexF.tokz_src _ l (Nat.le_refl _)];rfl
 ·rw[szT_mk,szL_append,szL_leaf];omega
 ·rw[par60,par60L_app,file_par h1 (fun t ht=>Nat.le_of_lt (hk t ht)),par60L_leaf _ hk'];rfl
 ·rw[LfT_node (by decide),LfL_app]
  exact⟨runs_lf h1 s_file hlf LfL_nil,LfL_leaf _ fun t ht=>by rw[hkd]at ht;exact hlf t (List.mem_of_mem_drop ht)⟩
end ParF
end

section
namespace ParF
open Go
theorem cmpI_lt (a b:Int):(cmpI a b<0↔a<b)∧(cmpI a b≠0↔a≠b):=by
 unfold cmpI
 split
 ·exact⟨by simp;assumption,by simp;omega⟩
 ·split
  ·exact⟨by simp;omega,by simp;omega⟩
  ·exact⟨by simp;omega,by simp;omega⟩
theorem or0_lt (x y:Int):or0 x y<0↔x<0∨(x=0∧y<0):=by
 unfold or0;split<;>omega
def Dr.lt (a b:Dr):Bool:=decide (Dr.cmp a b<0)
theorem Dr.lt_iff (a b:Dr):Dr.lt a b=true↔a.s<b.s∨(a.s=b.s∧(a.e<b.e∨(a.e=b.e∧a.c<b.c))):=by
 have h1:=cmpI_lt a.s b.s
 have h2:=cmpI_lt a.e b.e
 have h3:=cmpI_lt a.c b.c
 have e1:cmpI a.s b.s=0↔a.s=b.s:=by have:=h1.2;omega
 have e2:cmpI a.e b.e=0↔a.e=b.e:=by have:=h2.2;omega
 unfold Dr.lt Dr.cmp
 rw[decide_eq_true_eq,or0_lt,or0_lt,h1.1,h2.1,h3.1,e1,e2]
theorem Dr.lt_false (a b:Dr):Dr.lt a b=false↔¬(a.s<b.s∨(a.s=b.s∧(a.e<b.e∨(a.e=b.e∧a.c<b.c)))):=by
 rw[←Dr.lt_iff];cases Dr.lt a b<;>simp
theorem swo_dr:Sort.SWO Dr.lt where
 irrefl:=fun x=>by rw[Dr.lt_false];omega
 trans:=fun x y z h1 h2=>by rw[Dr.lt_iff]at *;omega
 ntrans:=fun x y z h1 h2=>by rw[Dr.lt_false]at *;omega
theorem pdq_facts (d:List Dr):(Sort.pdq Dr.lt d.toArray 0 d.length (Lib.bitLen d.length) true true).size=d.length∧((Sort.pdq Dr.lt d.toArray 0 d.length (Lib.bitLen d.length) true true).toList).Perm d:=by
 have h:=Sort.pdq_sorts Dr.lt swo_dr d.toArray 0 d.length (Lib.bitLen d.length) true true (Nat.zero_le _) (by simp) (.inl rfl)
 obtain⟨h1,h2,h3⟩:=h.1
 have hs:(Sort.pdq Dr.lt d.toArray 0 d.length (Lib.bitLen d.length) true true).size=d.length:=by rw[h1];simp
 refine⟨hs,?_⟩
 have e1:∀a:Array Dr,a.size=d.length→(a.extract 0 d.length).toList=a.toList:=fun a ha=>by
  rw[←ha];simp
 rw[e1 _ hs,e1 _ (by simp)]at h3
 simpa using h3
theorem srt_length (d:List Dr):(srt d).length=d.length:=by
 unfold srt
 split
 ·rfl
 ·rw[Array.length_toList];exact(pdq_facts d).1
end ParF
end

section
namespace ParF
open Go Go.Abs Go.Proofs Pm AstF
def drOf (g:Dg):Dr:=⟨g.code,g.s,g.e⟩
theorem drs_row:∀ds:List Dg,drs (ds.flatMap Dg.row)=some (ds.map drOf)
 | []=>rfl
 | g::ds=>by
  show drs (I g.code::I 0::I g.s::I g.e::.str []::ds.flatMap Dg.row)=_
  rw[drs,drs_row ds];rfl
theorem drs_flat:∀d:List Dr,drs (d.flatMap Dr.row)=some d
 | []=>rfl
 | g::ds=>by
  show drs (I g.c::I 0::I g.s::I g.e::.str []::ds.flatMap Dr.row)=_
  rw[drs,drs_flat ds];rfl
theorem dflat_length (ds:List Dr):(ds.flatMap Dr.row).length=5*ds.length:=by
 induction ds with
 | nil=>rfl
 | cons l lvs ih=>rw[List.flatMap_cons,List.length_append,ih];show 5+5*lvs.length=5*(lvs.length+1);omega
def dgOut (ds:List Dg):AV:=if ds=[] then .nils else .sl 61 5 ((cmpct (srt (ds.map drOf))).map fun r=>.agg r.row) .sh
theorem cmpct_ne:∀d:List Dr,d≠[]→cmpct d≠[]
 | [],h=>absurd rfl h
 | [d],_=>by simp[cmpct]
 | a::b::r,_=>by
  rw[cmpct]
  split
  ·exact cmpct_ne (b::r) (List.cons_ne_nil _ _)
  ·exact List.cons_ne_nil _ _
theorem dgOut_noRef (ds:List Dg):(dgOut ds).noRef=true∧(dgOut ds).strip=dgOut ds:=by
 unfold dgOut
 split
 ·exact⟨by simp[AV.noRef],rfl⟩
 ·refine⟨?_,rfl⟩
  rw[noRef_sl]
  generalize cmpct _=l
  induction l with
  | nil=>exact noRefL_nil
  | cons d l ih =>
   rw[List.map_cons,noRefL_cons,ih,noRef_agg]
   simp[Dr.row,noRefL_cons,noRefL_nil,noRef_int,noRef_str]
theorem build70 (l:Bytes):aBuild Tryz.prog 70 [(0,.str l)]=some (.agg [.str l,I 0,.nils]):=by
 have hz:zeroOf Tryz.prog 70=some (.agg [.str [],I 0,.nils]):=by kernel_rfl
 have hu:(match Tryz.prog.underlying 70 with|some (.struct fs)=>placesOf Tryz.prog fs.toList|_=>none)=some [(0,1),(1,1),(2,1)]:=by kernel_rfl
 unfold aBuild
 split at hu
 ·rename_i fs hh
  rw[hz,hh]
  simp[hu,aFill,setL,AV.cells,AV.solid,AV.strip]
 ·cases hu
theorem ref1' (t z i o n:Nat)(l:List AV):noRefL (.rs t z i o n::l)=false:=by rw[noRefL_cons];simp[AV.noRef]
theorem d15_8' (g0:Nat)(h:0<g0)(x:Ans):drawOK C 15 (regOps Tryz.f15 8) [.get g0,.silent,.silent,.silent,.get 2,.silent,.put 0,.silent,.silent] x=x:=by
 refine drawOK_callp (gs:=[g0,2]) (ls:=[]) (ps:=[0]) (by kernel_rfl) (by simp) (by simp) (by simp) (by simp) (fun g hg p hp=>?_)
 cases List.mem_singleton.1 hp
 rcases List.mem_cons.1 hg with rfl|hg
 ·omega
 ·cases List.mem_singleton.1 hg;omega
theorem ast_run (l:List UInt8)(hl:l.length≤2000):∃T a,IsFile (LexF.tokz l) T∧IsN (astB l T).1 a∧AC C 15 [.str l] (.tup [a,dgOut (astB l T).2,I 0]):=by
 obtain⟨T,ta,hF,hT,hp⟩:=parse_run l hl (fun t ht=>by have:=tokz_kind l.length l (Nat.le_refl _) t ht;omega)
 obtain⟨ok,src,sz,p60,lf,cs,hTe⟩:=isFile_facts (by omega) hF
 obtain⟨N0,q0⟩:=LexF.AC.at hp
 obtain⟨n,hn⟩:∃n,n=N0+60000:=⟨_,rfl⟩
 have q0:=q0 n (by omega)
 obtain⟨t1,t2,t3,t4⟩:=hT.cells
 have tst:ta.strip=ta:=by rw[t4];rfl
 have hlen:=node_len l 0 T ok
 rw[src]at hlen
 -- the heap when the builder begins
 obtain⟨s1,hs1⟩:∃s1:Heap,s1=[(27,zrow7)]:=⟨_,rfl⟩
 obtain⟨s2,hs2⟩:∃s2:Heap,s2=[(27,zrow7),(65,ta.cells)]:=⟨_,rfl⟩
 obtain⟨s3,hs3⟩:∃s3:Heap,s3=[(27,zrow7),(65,ta.cells),(70,[.str l,I 0,.nils])]:=⟨_,rfl⟩
 have z27:∀s:Heap,aAlloc Tryz.prog 27 s=some (.ref s.length 0,s++[(27,zrow7)]):=fun s=>by rw[zero27]
 have zA:aAlloc Tryz.prog 27 []=some (.ref 0 0,s1):=by rw[zero27,hs1];rfl
 obtain⟨s2',hs2'⟩:∃s2':Heap,s2'=[(27,zrow7),(65,[I 0,.str [],.nils])]:=⟨_,rfl⟩
 have z65:aAlloc Tryz.prog 65 s1=some (.ref 1 0,s2'):=by rw[zeroT,hs1,hs2'];rfl
 have st5:aStore 3 s2' (.ref 1 0) ta=some s2:=by
  rw[hs2',hs2,st3 (s:=[(27,zrow7),(65,[I 0,.str [],.nils])]) (i:=1) rfl rfl t1 t2 t4];rfl
 have bx:aBox true 70 (.agg [.str l,I 0,.nils]) s2=some (.ref 2 0,s3):=by
  simp[aBox,hs2,hs3,AV.cells,AV.solid,AV.strip]
 have ld5:aLoad false true 3 (.ref 1 0) s3=some (ta,s3):=ld3 (s:=s3) (i:=1) (by rw[hs3];rfl) t1 t4
 have b0:BS l 2 s3 0 [] none:=⟨by rw[hs3];rfl,fun _=>rfl,nofun⟩
 have l3:s3.length=3:=by rw[hs3];rfl
 have hk:T.kind<100:=by rw[hTe];show 1<100;decide
 obtain⟨a,s4,q4,rn,hA,b4,x4⟩:=bnode_run l (szT T) T (Nat.le_refl _) 2 s3 0 [] none ta n b0 hT ok p60 lf hk (by rw[src];omega) (by omega) (by rw[List.nil_append];omega) (by omega) (by omega)
 rw[List.nil_append]at b4
 have hlen4:3≤s4.length:=by have:=x4.len;omega
 have g40:s4[0]?=some (27,zrow7):=(x4.fr 0 (by omega) (by simp[JB])).trans (by rw[hs3];rfl)
 obtain⟨a1,a2,a3,a4⟩:=hA.cells
 -- the root
 obtain⟨s5,hs5⟩:∃s5,s4++[(27,a.cells)]=s5:=⟨_,rfl⟩
 have l5:s5.length=s4.length+1:=by rw[←hs5];exact app_length _ _
 have f5:∀x,x<s4.length→s5[x]?=s4[x]?:=fun x hx=>by rw[←hs5];exact gapp_old hx
 have g5:s5[s4.length]?=some (27,a.cells):=by rw[←hs5];exact gapp_new
 have st8:aStore 7 (s4++[(27,zrow7)]) (.ref s4.length 0) a=some s5:=by rw[st7 gapp_new rfl a1 a2 a4,set_end,hs5]
 have hp:=IsN_place hA 0 l.length
 have p3:aStore 1 s5 (.ref s4.length 3) (I 0)=some (s5.set s4.length (27,a.cells.set 3 (I 0))):=by
  rw[st (n:=1) (v:=I 0) g5 (by decide) rfl rfl (by omega)];rfl
 have g6:(s5.set s4.length (27,a.cells.set 3 (I 0)))[s4.length]?=some (27,a.cells.set 3 (I 0)):=gset_eq g5
 have p4:aStore 1 (s5.set s4.length (27,a.cells.set 3 (I 0))) (.ref s4.length 4) (I l.length)=some ((s5.set s4.length (27,a.cells.set 3 (I 0))).set s4.length (27,(a.cells.set 3 (I 0)).set 4 (I l.length))):=by
  rw[st (n:=1) (v:=I l.length) g6 (by decide) rfl rfl (by simp;omega)];rfl
 rw[set_set]at p4
 obtain⟨h1,h2,h3,h4⟩:=hp.cells
 generalize hpv:(AV.agg ((a.cells.set 3 (I 0)).set 4 (I l.length)))=pv at *
 have hpc:pv.cells=(a.cells.set 3 (I 0)).set 4 (I l.length):=by rw[←hpv];rfl
 rw[←hpc]at p4
 obtain⟨s7,hs7⟩:∃s7,s5.set s4.length (27,pv.cells)=s7:=⟨_,rfl⟩
 rw[hs7]at p4
 have l7:s7.length=s4.length+1:=by rw[←hs7,set_length,l5]
 have f7:∀x,x<s4.length→s7[x]?=s4[x]?:=fun x hx=>by rw[←hs7,gset_ne (by omega),f5 x hx]
 have g7:s7[s4.length]?=some (27,pv.cells):=by rw[←hs7];exact gset_eq g5
 have b7:=b4.fresh f7
 have hpN:IsN (astB l T).1 pv:=hp
 have dnr:=dgOut_noRef (astB l T).2
 suffices hsf:∃s',den C (n+1) 15 [.str l] []=some (.tup [pv,dgOut (astB l T).2,I 0],s') by
  obtain⟨s',hs'⟩:=hsf
  exact⟨T,pv,hF,hpN,AC.one en15 rfl (by rw[noRef_tup,noRefL_cons,noRefL_cons,noRefL_cons,noRefL_nil,hpN.noRef,dnr.1,noRef_int];rfl) hs'⟩
 have ldp:=ld7 g7 h1 h4
 have l2:aLoad false false 1 (.ref 2 2) s7=some (dgv (nodeB l 0 T).2 q4,s7):=by rw[ld (o:=2) b7.par (by decide) rfl (by decide),dgv_strip]
 have pst:pv.strip=pv:=by rw[h4];rfl
 have ast:a.strip=a:=by rw[a4];rfl
 have len9:=len9a l
 have e34:enterable Tryz.prog 34=true:=by kernel_rfl
 have e36:enterable Tryz.prog 36=true:=by kernel_rfl
 obtain⟨n0,hn0⟩:∃m,n=m+1:=⟨n-1,by omega⟩
 have q0s:aCall Tryz.prog (den C n) 32 [.str l] s1=some (.tup [ta,I 0],s1):=q0 s1
 -- from the row given out
 have fin:∀(s8 s9:Heap) (k0:Kind),aCall Tryz.prog (den C n) 34 [dgv (nodeB l 0 T).2 q4,.fn 35 [] []] s7=some (.tup [],s8)→aLoad false false 1 (.ref 2 2) s8=some (dgv (nodeB l 0 T).2 q4,s8)→s8[s4.length]?=s7[s4.length]? →
   aCall Tryz.prog (den C n) 36 [dgv (nodeB l 0 T).2 q4] s8=some (dgOut (astB l T).2,s9)→s9[0]?=some (27,zrow7) →
   (∀x,drawOK C 15 (regOps Tryz.f15 8) [.get s4.length,.silent,.silent,.silent,.get 2,dyn (if((dgv (nodeB l 0 T).2 q4).noRef&&true)=true then .silent else .writer) s8 s9,.put 0,.silent,.silent] x=x) →
   ∃s',den C (n+1) 15 [.str l] []=some (.tup [pv,dgOut (astB l T).2,I 0],s'):=by
  intro s8 s9 k0 r34 l28 g8 r36 g9 dk
  have ldp8:aLoad false true 7 (.ref s4.length 0) s8=some (pv,s8):=ld7 (g8.trans g7) h1 h4
  have p9:=st7 g9 rfl h1 h2 h4
  have p10:=ld7 (gset_eq (v:=(27,pv.cells)) g9) h1 h4
  refine⟨s9.set 0 (27,pv.cells),?_⟩
  rw[F15_eq,F15]
  simp only[↓sW,sL,zA,q0s,z65,st5,tst,show ((0:Int) != 0)=false from rfl,build70,bx,ld5,rn,z27,hs5,st8,ast,len9,p3,p4,l2,dgv_strip,r34,ldp8,l28,r36,p9,p10,kStore_ref,kLoad_ref,dk,dnr.2]
 cases q4 with
 | none =>
  have ed:=b7.nil rfl
  have eo:dgOut (astB l T).2=.nils:=by
   have:(astB l T).2=[]:=ed
   unfold dgOut;rw[if_pos this]
  refine fin s7 s7 .silent ?_ l2 rfl ?_ ((f7 0 (by omega)).trans g40) (fun x=>?_)
  ·exact callN (s1:=[]) e34 rfl rfl (by rw[hn0,den_ext (e:=eSort) (by rfl)];rfl)
  ·rw[eo];exact callN (s1:=[]) e36 rfl rfl (by rw[hn0,den_ext (e:=eCompact) (by rfl)];rfl)
  ·exact d15_8' _ (by omega) x
 | some Q =>
  obtain⟨k1,k2,junk,k3⟩:=b7.row Q rfl
  have hr:=drow_length (nodeB l 0 T).2
  have hQl:=glt k3
  have jQ:Q∈JB 2 (some Q):=by simp[JB]
  have hQ4:Q<s4.length:=b4.lt Q jQ
  have hQ0:Q≠0:=fun e=>by
   rcases x4.sub Q jQ with z|z
   ·simp[JB]at z;omega
   ·omega
  have eo:dgOut (astB l T).2=.sl 61 5 ((cmpct (srt ((nodeB l 0 T).2.map drOf))).map fun r=>.agg r.row) .sh:=by
   have e2:(astB l T).2=(nodeB l 0 T).2:=rfl
   unfold dgOut;rw[e2,if_neg k2]
  generalize hD:(nodeB l 0 T).2=D at *
  have tk:((D.flatMap Dg.row++junk):List AV).take (D.length*5)=D.flatMap Dg.row:=by
   rw[List.take_append_of_le_length (by omega),List.take_of_length_le (by omega)]
  have hDl:D.length<1000000:=by omega
  have r34:aCall Tryz.prog (den C n) 34 [dgv D (some Q),.fn 35 [] []] s7=some (.tup [],s7.set Q (61,(srt (D.map drOf)).flatMap Dr.row++junk)):=by
   rw[callR e34 (by rfl),hn0,den_ext (e:=eSort) (by rfl)]
   show (match s7[Q]? with|some cs=>_|none=>none)=_
   rw[k3]
   simp only
   rw[if_pos ⟨trivial,trivial,trivial,by rw[List.length_append];omega,hDl⟩,tk,drs_row,List.drop_append_of_le_length (by omega),List.drop_of_length_le (by omega)]
   rfl
  obtain⟨s8,hs8⟩:∃s8,s7.set Q (61,(srt (D.map drOf)).flatMap Dr.row++junk)=s8:=⟨_,rfl⟩
  rw[hs8]at r34
  have l8:s8.length=s7.length:=by rw[←hs8,set_length]
  have g8:∀x,x≠Q→s8[x]?=s7[x]?:=fun x hx=>by rw[←hs8,gset_ne (Ne.symm hx)]
  have k8:s8[Q]?=some (61,(srt (D.map drOf)).flatMap Dr.row++junk):=by rw[←hs8];exact gset_eq k3
  have hsl:(srt (D.map drOf)).length=D.length:=by rw[srt_length,List.length_map]
  have hr8:=dflat_length (srt (D.map drOf))
  have tk8:((srt (D.map drOf)).flatMap Dr.row++junk).take (D.length*5)=(srt (D.map drOf)).flatMap Dr.row:=by
   rw[List.take_append_of_le_length (by omega),List.take_of_length_le (by omega)]
  have r36:aCall Tryz.prog (den C n) 36 [dgv D (some Q)] s8=some (dgOut (astB l T).2,kill s8 Q):=by
   rw[callR e36 (by show noRefL (.rs 61 5 Q 0 D.length::[])=false;exact ref1' ..),hn0,den_ext (e:=eCompact) (by rfl),eo]
   show (match s8[Q]? with|some cs=>_|none=>none)=_
   rw[k8]
   simp only
   rw[if_pos ⟨trivial,trivial,trivial,by rw[List.length_append];omega,hDl⟩,tk8,drs_flat]
   rfl
  have kp:∀g,g<s8.length→g≠Q→(kept s8 (kill s8 Q)).contains g=true:=fun g hg hne=>kept_of hg (gkill_ne (Ne.symm hne))
  refine fin s8 (kill s8 Q) .silent r34 ?_ (g8 _ (by omega)) r36 ?_ (fun x=>?_)
  ·rw[ld (o:=2) ((g8 2 (Ne.symm k1)).trans b7.par) (by decide) rfl (by decide),dgv_strip]
  ·rw[gkill_ne hQ0,g8 0 (Ne.symm hQ0),f7 0 (by omega)];exact g40
  ·refine d15_8 (l0:=kept s8 (kill s8 Q)) 0 (fun g hg l hl=>?_) (fun g hg p hp=>?_) x
   ·cases List.mem_singleton.1 hl
    rcases List.mem_cons.1 hg with rfl|hg
    ·exact kp _ (by omega) (by omega)
    ·cases List.mem_singleton.1 hg
     exact kp _ (by omega) (Ne.symm k1)
   ·cases List.mem_singleton.1 hp
    rcases List.mem_cons.1 hg with rfl|hg
    ·omega
    ·cases List.mem_singleton.1 hg;omega
end ParF
end
