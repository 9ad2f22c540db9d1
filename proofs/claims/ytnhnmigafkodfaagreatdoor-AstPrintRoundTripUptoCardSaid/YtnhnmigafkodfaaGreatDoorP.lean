/- ParW, LexL, RelT, ParK, ParJ, ParJ2, LexV, ParR -/
import Derived.Test.YtnhnmigafkodfaaGreatDoorF
import Derived.Test.YtnhnmigafkodfaaGreatDoorD
import Derived.Test.YtnhnmigafkodfaaGreatDoorL
import Derived.Test.YtnhnmigafkodfaaGreatDoorB
set_option linter.all false
set_option maxRecDepth 100000
set_option maxHeartbeats 1000000

section
namespace ParF
open Go Go.Abs Go.Proofs Pm
theorem skp_nil {ts:List Tok}(hk:∀t∈ts,t.1≠100)(h:(pk ts).1=100):skp ts=[]:=by
 cases hs:skp ts with
 | nil=>rfl
 | cons t r =>
  exfalso
  have hm:t∈ts:=by
   have:=skp_split ts
   rw[←this,hs];exact List.mem_append_right _ (List.mem_cons_self ..)
  rw[pk,hs]at h
  exact hk t hm h
theorem take_all {ts:List Tok}(h:skp ts=[]):ts.takeWhile triv=ts:=by
 have:=skp_split ts
 rw[h,List.append_nil]at this
 exact this
theorem idx_0 (t i:Nat):aIndexAddr Tryz.prog 63 (.rs t 3 i 0 1) (.int .i64 0)=some (.ref i 0):=idx_top t i 0
theorem file_out {ts:List Tok}(hk:∀t∈ts,t.1≠100){n:Nat}(hn:ts.length+20≤n){P Z:Nat}{s:Heap}{rest:List Tok}{k:Nat}{cs:List Tree}{J:List Nat}{c0:List AV}(h:PR ts P s rest [] k cs J)(hZ:s[Z]?=some (65,c0))(hc:c0.length=3)(hj:Z∉J)
  (he:(pk rest).1=100)(hb:szL cs+ts.length<900000000) :
  ∃a s1 Q s3 s4 row,aCall Tryz.prog (den C n) 51 [.ref P 0] s=some (.tup [],s1)∧aLoad false false 1 (.ref P 2) s1=some (.rs 65 3 Q 0 1,s1)∧aLoad false true 3 (.ref Q 0) s1=some (.agg row,s1)∧pubR (some (.agg row,s1))=some (a,s3)∧aStore 3 s3 (.ref Z 0) a=some s4 ∧
   aLoad false true 3 (.ref Z 0) s4=some (a,s4)∧IsT (.mk k [] (cs++rest.map leaf)) a:=by
 obtain⟨pos,i,rfl,h⟩:=h
 have hc1:=len_le_sz cs
 have hrk:∀t∈ts.drop pos,t.1≠100:=fun t ht=>hk t (List.mem_of_mem_drop ht)
 have hs0:=skp_nil hrk he
 have ht0:=take_all hs0
 have hlen:=h.len
 obtain⟨s1,i1,J1,pos1,q1,d1,p1,x1⟩:=skip_run h (by show cs.length+ts.length+0<_;omega) (n:=n) (by omega)
 rw[ht0]at p1
 obtain⟨tk,Q,junk,f,rfl⟩:=p1.facts
 obtain⟨a,s3,e3,hT,l3,f3⟩:=pub_lv f.ok
 have hZ1:=(x1.fr Z (glt hZ) hj).trans hZ
 have hj1:=x1.notin (glt hZ) hj
 have hid:i1≠some Z:=fun e=>hj1 (by rw[e];unfold JJ;simp)
 have hZ3:=(f3 Z hid).trans hZ1
 obtain⟨a1,a2,a3,a4⟩:=hT.cells
 have hsol:a.solid=true:=by rw[a4];rfl
 have hst:stCells a=a.cells:=by rw[a4];exact a2
 have st4:aStore 3 s3 (.ref Z 0) a=some (s3.set Z (65,a.cells)):=by
  rw[ParF.st (n:=3) (o:=0) (v:=a) hZ3 (by decide) hsol a1 (by omega),hst]
  have:=setL_end [] a.cells c0 (by omega)
  rw[List.nil_append,List.nil_append]at this
  rw[show setL c0 0 a.cells=a.cells from this]
 have hr:=row_length ([]++[(⟨k,cs++(ts.drop pos).map leaf,i1⟩:Lv)])
 have ldq:aLoad false true 3 (.ref Q 0) s1=some (.agg (Lv.row ⟨k,cs++(ts.drop pos).map leaf,i1⟩),s1):=by
  have:=ldA (n:=3) (o:=([]:List Lv).length*3) f.row (by decide) (by rw[app_len,hr];show 0+3≤3*1+_;omega) (by decide)
  rw[row_drop]at this
  exact this
 refine⟨a,s1,Q,s3,_,_,q1,ld (o:=2) f.par (by decide) rfl (by decide),ldq,e3,st4,?_,hT⟩
 rw[ldA (o:=0) (gset_eq hZ3) (by decide) (by omega) (by decide),List.drop_zero,List.take_of_length_le (by omega),←a4]
theorem l21 {ts:List Tok}(hk:∀t∈ts,t.1≠100){n P Z:Nat}:∀(m:Nat),m*20+ts.length+120≤n→∀s rest k cs J b rest' cs' c0,PR ts P s rest [] k cs J→s[Z]?=some (65,c0)→c0.length=3→Z∉J→run m gFile rest cs=some (b,rest',cs')→szL cs'+ts.length<900000000 →
  ∃a s',(∀M n' e,m<M→e 6=.ref P 0→e 2=.ref Z 0→aLoop (F32_L0 (den C n) n') M e s=some (.tup [a,I 0],s'))∧IsT (.mk k [] (cs'++rest'.map leaf)) a:=by
 intro m
 induction m with
 | zero=>intro _ s rest k cs J b rest' cs' c0 h _ _ _ hr;rw[Pm.run_zero]at hr;cases hr
 | succ m ih =>
  intro hn s rest k cs J b rest' cs' c0 h hZ hc0 hj hr hb
  have hn0:m*20+ts.length+120≤n:=by omega
  obtain⟨m',hm',hw⟩:=whil_inv hr
  cases hm'
  obtain⟨sa,qa,pa,xa⟩:=(eof_rd ts).use (n:=n) (by omega) h
  have qa2:aCall Tryz.prog (den C n) 49 [.ref P 0] s=some (.bool (ev rEof rest),sa):=qa
  have hZa:=(xa.fr Z (glt hZ) hj).trans hZ
  rcases hw with ⟨hc,rfl,rfl,rfl⟩|⟨hc,hrb,hb0⟩|⟨hc,tw,cw,hrb,hrw,hzw⟩
  ·have he:(pk rest').1=100:=by
    have:(!((pk rest').1==100))=false:=hc
    simpa using this
   have he2:ev rEof rest'=true:=by
    show ((pk rest').1==100)=true
    simp[he]
   rw[he2]at qa2
   obtain⟨a,s1,Q,s3,s4,row,e1,e2,e3,e4,e5,e6,hT⟩:=file_out hk (n:=n) (by omega) pa hZa hc0 hj he (by omega)
   have hast:a.strip=a:=by rw[hT.cells.2.2.2];rfl
   refine⟨a,s4,fun M n' e hM he6 he2=>?_,hT⟩
   obtain⟨M,rfl⟩:∃j,M=j+1:=⟨M-1,by omega⟩
   rw[aLoop,F32_L0]
   simp only[↓sW,sL,he6,he2,qa2,e1,e2,idx_0,e3,e4,hast,e5,e6]
  ·exact absurd (val_false (by rfl) hrb) (by decide)
  ·have he2:ev rEof rest=false:=by
    have:(!((pk rest).1==100))=true:=hc
    show ((pk rest).1==100)=false
    simpa using this
   rw[he2]at qa2
   obtain⟨m1,b1,t1,c1,hm1,ha1,hr1,hz1⟩:=seq_inv hrb
   obtain⟨-,rfl,rfl⟩:=ret_inv hr1
   have hz2:szL cw≤szL cs':=hzw
   obtain⟨s1,J1,q1,p1,x1⟩:=s60 ts m1 n (by omega) P sa rest [] k cs J b1 tw cw pa ha1 (by show 0+_<_;omega)
   have e1:aCall Tryz.prog (den C n) 50 [.ref P 0] sa=some (.tup [],s1):=q1
   have hZ1:=(x1.fr Z (glt hZa) hj).trans hZa
   obtain⟨a,s2,q2,hT⟩:=ih hn0 s1 tw k cw J1 b rest' cs' c0 p1 hZ1 hc0 (x1.notin (glt hZa) hj) hrw hb
   refine⟨a,s2,fun M n' e hM he6 he2'=>?_,hT⟩
   obtain⟨M,rfl⟩:∃j,M=j+1:=⟨M-1,by omega⟩
   rw[aLoop,F32_L0]
   simp only[↓sW,sL,he6,he2',qa2,e1]
   exact q2 _ _ _ (by omega) ((upds_get _ _ _ rfl).trans he6) ((upds_get _ _ _ rfl).trans he2')
def IsFile (ts:List Tok)(T:Tree):Prop:=∃t' es,Runs gFile ts [] false t' es∧(pk t').1=100∧T=.mk 1 [] (es++t'.map leaf)∧szL es+24*t'.length≤24*ts.length∧dpL es≤6+2*ts.length
theorem isFile_ex (ts:List Tok):∃T,IsFile ts T:=by
 obtain⟨t',es,h1,h2,h3⟩:=file_does ts
 refine⟨_,t',es,h1,h2,rfl,?_,?_⟩
 ·simp only[Sp]at h3;omega
 ·simp only[Sp]at h3;omega
theorem toks_is (l:List UInt8):IsToks (LexF.accV (LexF.tokz l)).strip (LexF.tokz l):=by
 rcases LexF.accV_strip (LexF.tokz l) with h|⟨h1,h2⟩
 ·exact .inr ⟨53,h⟩
 ·exact .inl ⟨h2,h1⟩
theorem parse_run (l:List UInt8)(hl:l.length≤2000)(hk:∀t∈LexF.tokz l,t.1≠100):∃T a,IsFile (LexF.tokz l) T∧IsT T a∧AC C 32 [.str l] (.tup [a,I 0]):=by
 obtain⟨T,hF⟩:=isFile_ex (LexF.tokz l)
 obtain⟨t',es,h1,h2,h3,h4,h5⟩:=id hF
 obtain⟨m,hm⟩:=run_of h1
 have hlt:=LexF.tokz_length l
 have tokI:=toks_is l
 generalize hts:LexF.tokz l=ts at *
 have hts1:ts.length≤2000:=by omega
 obtain⟨N0,q0⟩:=LexF.AC.at (LexF.tok_run l)
 have ht:LexF.tokR l=.tup [(LexF.accV (LexF.tokz l)).strip,I 0]:=by unfold LexF.tokR;rw[if_neg (by omega)]
 rw[ht,hts]at q0
 generalize (LexF.accV ts).strip=tk at *
 have hst:=toks_strip tokI
 -- the heap when the loop begins
 let s0:Heap:=[(65,[I 0,.str [],.nils]),(65,[I 1,.str [],.nils]),(95,[tk,I 0,.rs 65 3 1 0 1])]
 have ps:PS ts 2 s0 0 ([]++[⟨1,[],none⟩]) (JJ 2 1 [] ⟨1,[],none⟩) :=
  Fs.ps (tk:=tk) (junk:=[]) ⟨tokI,rfl,rfl,by decide,nofun,nofun,List.nodup_nil,rfl,nofun,Nat.zero_le _,by omega⟩
 have hrun:∀n,m*20+ts.length+120≤n→∃a s',(∀M n' e,m<M→e 6=.ref 2 0→e 2=.ref 0 0→aLoop (F32_L0 (den C n) n') M e s0=some (.tup [a,I 0],s'))∧IsT T a:=by
  intro n hn
  rw[h3]
  exact l21 hk (Z:=0) m hn s0 ts 1 [] _ false t' es [I 0,.str [],.nils] ⟨0,none,rfl,ps⟩ rfl rfl (by unfold JJ;simp) hm (by omega)
 have hm1:0<m:=by
  cases m with
  | zero=>rw[Pm.run_zero]at hm;cases hm
  | succ m=>omega
 obtain⟨a,s',q,hT⟩:=hrun (N0+m*20+ts.length+120) (by omega)
 refine⟨T,a,hF,hT,AC.one (n:=N0+m*20+ts.length+120+1) (s1:=s') en32 rfl ?_ ?_⟩
 ·rw[noRef_tup,noRefL_cons,noRefL_cons,noRefL_nil,noRef_int,hT.noRef];rfl
 ·have q1:=q0 (N0+m*20+ts.length+120) (by omega) [(65,[I 0,.str [],.nils])]
  have hmn:m<N0+m*20+ts.length+120:=by omega
  generalize N0+m*20+ts.length+120=n at *
  have hb:=build52_1 (I 1) rfl rfl rfl
  have z52:aAlloc Tryz.prog 65 []=some (.ref 0 0,[(65,[I 0,.str [],.nils])]):=by rw[zero52];rfl
  have rb:=rsbuild (s:=[(65,[I 0,.str [],.nils])]) (a:=.agg [I 1,.str [],.nils]) (t:=.mk 1 [] []) (.mk _ _ _ _ .nil)
  have rb:aRsBuild Tryz.prog 63 1 [(0,.agg [I 1,.str [],.nils])] [(65,[I 0,.str [],.nils])]=some (.rs 65 3 1 0 1,[(65,[I 0,.str [],.nils]),(65,[I 1,.str [],.nils])]):=rb
  have b128:aBuild Tryz.prog 95 [(0,tk),(2,.rs 65 3 1 0 1)]=some (.agg [tk,I 0,.rs 65 3 1 0 1]):=by
   have hz:zeroOf Tryz.prog 95=some (.agg [.nils,I 0,.nils]):=by kernel_rfl
   have hu:(match Tryz.prog.underlying 95 with|some (.struct fs)=>placesOf Tryz.prog fs.toList|_=>none)=some [(0,1),(1,1),(2,1)]:=by kernel_rfl
   have c1:tk.cells=[tk]:=by rcases tokI with ⟨e,_⟩|⟨T,e⟩<;>rw[e]<;>rfl
   have c2:tk.solid=true:=by rcases tokI with ⟨e,_⟩|⟨T,e⟩<;>rw[e]<;>rfl
   have c4:(AV.rs 65 3 1 0 1).cells=[.rs 65 3 1 0 1]:=rfl
   have c5:(AV.rs 65 3 1 0 1).solid=true:=rfl
   unfold aBuild
   split at hu
   ·rename_i fs hh
    rw[hz,hh]
    simp[hu,aFill,setL,c1,c2,hst,c4,c5,strip_rs,cells_int]
   ·cases hu
  have bx:aBox true 95 (.agg [tk,I 0,.rs 65 3 1 0 1]) [(65,[I 0,.str [],.nils]),(65,[I 1,.str [],.nils])]=some (.ref 2 0,s0):=by
   simp[aBox,hst,strip_rs,s0]
  have q1:aCall Tryz.prog (den C n) 17 [.str l] [(65,[I 0,.str [],.nils])]=some (.tup [tk,.int .i64 0],[(65,[I 0,.str [],.nils])]):=q1
  rw[F32_eq,F32]
  simp only[↓sW,sL,z52,q1,hst,show ((0:Int) != 0)=false from rfl,hb,rb,b128,bx]
  exact q _ _ _ hmn rfl rfl
end ParF
end

section
namespace LexF
open Go
end LexF
end

section
namespace LexF
open Go
def keep (a:Nat):Nat→List Tok→Nat
 | _,[]=>0
 | o,t::r=>if o+t.2.length<a then keep a (o+t.2.length) r+1 else 0
theorem count_at:∀(es:List Nat)(i x:Nat),es.Pairwise (·<·)→es[i]?=some x→es.countP (·<x)=i
 | [],i,x,_,h=>by simp at h
 | e::es,0,x,hp,h=>by
  simp at h;subst h
  rw[List.countP_eq_zero]
  intro y hy
  rcases List.mem_cons.1 hy with rfl|hy
  ·simp
  ·have:=(List.pairwise_cons.1 hp).1 y hy;simp;omega
 | e::es,i+1,x,hp,h=>by
  simp at h
  have hm:=(List.pairwise_cons.1 hp).1 x (List.mem_of_getElem? h)
  rw[List.countP_cons,count_at es i x (List.pairwise_cons.1 hp).2 h,if_pos (by simpa using hm)]
end LexF
end

section
namespace Pm
def Two (c:Cnd):Prop:=∀t u v v',c t u v=c t u v'
structure Agree (t u:List Tok):Prop where
 one:pk t=pk u
 two:pk (la t)=pk (la u)
 nil:t=[]→u=[]
 eof:skp t=[]→skp u=[]
theorem skp_app (xs t:List Tok):skp (xs++t)=if skp xs=[] then skp t else skp xs++t:=by
 induction xs with
 | nil=>rfl
 | cons x xs ih =>
  unfold skp at *
  rw[List.cons_append,List.dropWhile_cons,List.dropWhile_cons]
  split
  ·exact ih
  ·rw[if_neg (by simp)];rfl
theorem pk_app (xs t:List Tok):pk (xs++t)=if skp xs=[] then pk t else pk xs:=by
 unfold pk
 rw[skp_app]
 split
 ·rfl
 ·rename_i h
  cases hs:skp xs with
  | nil=>exact absurd hs h
  | cons a l=>rfl
theorem la_app (xs t:List Tok):la (xs++t)=if skp xs=[] then la t else la xs++t:=by
 unfold la
 rw[skp_app]
 split
 ·rfl
 ·rename_i h
  cases hs:skp xs with
  | nil=>exact absurd hs h
  | cons a l=>rfl
theorem Agree.pk {t u:List Tok}(h:Agree t u)(xs:List Tok):pk (xs++t)=pk (xs++u):=by
 rw[pk_app,pk_app,h.one]
theorem Agree.pk2 {t u:List Tok}(h:Agree t u)(xs:List Tok):Pm.pk (la (xs++t))=Pm.pk (la (xs++u)):=by
 rw[la_app,la_app]
 split
 ·exact h.two
 ·exact h.pk _
theorem Agree.ev {t u:List Tok}(h:Agree t u){c:Cnd}(hc:Two c)(xs:List Tok):ev c (xs++t)=ev c (xs++u):=by
 unfold Pm.ev
 rw[h.pk,h.pk2];exact hc _ _ _ _
end Pm
end

section
namespace Pm
def evs (c:Cnd)(s:List Tok):Bool:=c (hd s) (hd (s.drop 1)) (hd (s.drop 2))
abbrev Pr:=List Tok→Prop
abbrev T:Pr:=fun _=>True
inductive Ok:Pr→G→(Bool→Pr)→Prop
 | ret {P:Pr} {Q:Bool→Pr} {b:Bool} (h:∀s,P s→Q b s):Ok P (.ret b) Q
 | bump {P:Pr} {Q:Bool→Pr} (h:∀s,P s→s≠[]∧Q false (s.drop 1)):Ok P .bump Q
 | put {P:Pr} {Q:Bool→Pr} {k:Nat} (h:∀s,P s→Q false s):Ok P (.put k) Q
 | insN {P:Pr} {Q:Bool→Pr} (h:∀s,P s→Q false s):Ok P .insN Q
 | seq {P:Pr} {R Q:Bool→Pr} {a b:G} (h1:Ok P a R) (h2:Ok (fun s=>∃r,R r s) b Q):Ok P (.seq a b) Q
 | node {P:Pr} {Q:Bool→Pr} {k:Nat} {g:G} (h:Ok P g Q):Ok P (.node k g) Q
 | wrap {P:Pr} {Q:Bool→Pr} {k:Nat} {g:G} (h:Ok P g Q):Ok P (.wrap k g) Q
 | ite {P:Pr} {Q:Bool→Pr} {c:Cnd} {a b:G} (h1:Ok (fun s=>P s∧evs c s=true) a Q) (h2:Ok (fun s=>P s∧evs c s=false) b Q):Ok P (.ite c a b) Q
 | bra {P:Pr} {R Q:Bool→Pr} {g a b:G} (h:Ok P g R) (h1:Ok (R true) a Q) (h2:Ok (R false) b Q):Ok P (.bra g a b) Q
 | prog {P:Pr} {R Q:Bool→Pr} {g a b:G} (h:Ok P g R) (h1:Ok P a Q) (h2:Ok (fun s=>∃r,R r s) b Q):Ok P (.prog g a b) Q
 | stm {P:Pr} {R Q:Bool→Pr} {g b:G} (h:Ok P g R) (h1:∀s,P s→s≠[]∧Q false (s.drop 1)) (h2:Ok (fun s=>∃r,R r s) b Q):Ok P (.stm g b) Q
 | whil {P:Pr} {R Q:Bool→Pr} {c:Cnd} {g:G} (h:Ok (fun s=>evs c s=true) g R) (ht:∀s,R true s→Q true s) (hq:∀s,Q false s):Ok P (.whil c g) Q
 | call {P:Pr} {Q:Bool→Pr} {f:Nat} (h:f=2∨f=6→∀s,P s→s≠[]) (hq:∀r s,Q r s):Ok P (.call f) Q
mutual
inductive TE:Tree→Tree→Prop
 | mk (k:Nat) (x:Bytes) (cs ds:List Tree) (h:LE cs ds):TE (.mk k x cs) (.mk k x ds)
inductive LE:List Tree→List Tree→Prop
 | nil:LE [] []
 | snoc (cs ds:List Tree) (A B:List Tok) (x y:Tree) (h:LE cs ds) (hA:∀t∈A,triv t=true) (hB:∀t∈B,triv t=true) (ht:TE x y):LE (cs++(A.map leaf++[x])) (ds++(B.map leaf++[y]))
end
theorem LE.one {cs ds:List Tree}{x y:Tree}(h:LE cs ds)(ht:TE x y):LE (cs++[x]) (ds++[y]):=by
 have:=LE.snoc cs ds [] [] x y h nofun nofun ht
 simpa using this
theorem LE.last {cs' ds:List Tree}(h:LE cs' ds):∀{cs:List Tree}{t:Tree},cs'=cs++[t]→∃(c1 d1:List Tree)(A B:List Tok)(y:Tree),cs=c1++A.map leaf∧ds=d1++(B.map leaf++[y])∧LE c1 d1∧(∀t∈A,triv t=true)∧(∀t∈B,triv t=true)∧TE t y:=by
 intro cs t e
 cases h with
 | nil=>simp at e
 | snoc c1 d1 A B x y h hA hB ht =>
  rw[←List.append_assoc]at e
  have e1:=List.append_inj_left' e rfl
  have e2:=List.append_inj_right' e rfl
  cases e2
  exact⟨c1,d1,A,B,y,e1.symm,rfl,h,hA,hB,ht⟩
theorem TE.leaf (t:Tok):TE (Pm.leaf t) (Pm.leaf t):=.mk _ _ _ _ .nil
end Pm
end

section
namespace Pm
theorem Ok.weak {P:Pr}{g:G}{Q:Bool→Pr}(h:Ok P g Q):∀{P':Pr},(∀s,P' s→P s)→Ok P' g Q:=by
 induction h with
 | ret h=>exact fun k=>.ret fun s hs=>h s (k s hs)
 | bump h=>exact fun k=>.bump fun s hs=>h s (k s hs)
 | put h=>exact fun k=>.put fun s hs=>h s (k s hs)
 | insN h=>exact fun k=>.insN fun s hs=>h s (k s hs)
 | seq h1 h2 i1 i2=>exact fun k=>.seq (i1 k) h2
 | node h i=>exact fun k=>.node (i k)
 | wrap h i=>exact fun k=>.wrap (i k)
 | ite h1 h2 i1 i2=>exact fun k=>.ite (i1 fun s hs=>⟨k s hs.1,hs.2⟩) (i2 fun s hs=>⟨k s hs.1,hs.2⟩)
 | bra h h1 h2 i i1 i2=>exact fun k=>.bra (i k) h1 h2
 | prog h h1 h2 i i1 i2=>exact fun k=>.prog (i k) (i1 k) h2
 | stm h h1 h2 i i2=>exact fun k=>.stm (i k) (fun s hs=>h1 s (k s hs)) h2
 | whil h ht hq i=>exact fun k=>.whil h ht hq
 | call h hq=>exact fun k=>.call (fun e s hs=>h e s (k s hs)) hq
abbrev two:Bool→Pr:=fun r s=>r=true→∃a b q,s=a::b::q
end Pm
end

section
namespace LexF
open Go Pm
def spc (d:UInt8):Prop:=d=32∨d=10∨d=9
theorem take_scan_all (p:UInt8→Bool)(l:List UInt8):∀c∈l.take (scanN p l),p c=true:=by
 have e:l.take (scanN p l)=l.takeWhile p:=by
  unfold scanN
  conv=>lhs;arg 2;rw[←List.takeWhile_append_dropWhile (p:=p) (l:=l)]
  rw[List.take_left]
 rw[e]
 exact fun c hc=>List.all_eq_true.1 List.all_takeWhile c hc
end LexF
end

section
namespace Pm
inductive Items:List Tok→List Tree→List Tok→Prop
 | done (ts:List Tok) (h:(pk ts).1=100):Items ts [] ts
 | step {ts t1 t':List Tok} {x:Tree} {es:List Tree} {b:Bool} (h:(pk ts).1≠100) (hi:Runs gItem ts [] b t1 [x]) (hr:Items t1 es t'):Items ts (x::es) t'
abbrev bl (ts:List Tok):Nat:=(srcK ts).length
theorem bl_cons (t:Tok)(ts:List Tok):bl (t::ts)=t.2.length+bl ts:=by unfold bl;rw[srcK,List.length_append]
def keepN (a:Nat):Nat→List Tok→Nat
 | _,[]=>0
 | o,t::r=>if o+t.2.length<a then keepN a (o+t.2.length) r+1 else 0
theorem keepN_app {a:Nat}:∀{P r:List Tok}{o:Nat},o+bl P<a→keepN a o (P++r)=P.length+keepN a (o+bl P) r
 | [],r,o,h=>by rw[List.nil_append,List.length_nil,Nat.zero_add];rfl
 | t::P,r,o,h=>by
  rw[bl_cons]at h ⊢
  rw[List.cons_append,keepN,if_pos (by omega),keepN_app (by omega),List.length_cons]
  rw[Nat.add_assoc o];omega
def Ed (a o:Nat)(ts us:List Tok):Prop:=∃u,us=ts.take (keepN a o ts)++u
theorem Ed.cut {a o:Nat}{P r us:List Tok}(h:Ed a o (P++r) us)(hb:o+bl P<a):∃v,us=P++v∧Ed a (o+bl P) r v:=by
 obtain⟨u,rfl⟩:=h
 rw[keepN_app hb]
 refine⟨r.take (keepN a (o+bl P) r)++u,?_,u,rfl⟩
 rw[List.take_length_add_append,List.append_assoc]
end Pm
end
