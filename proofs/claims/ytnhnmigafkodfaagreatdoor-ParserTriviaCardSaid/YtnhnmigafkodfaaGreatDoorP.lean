/- ParW, LexL, RelT, ParK, ParJ, ParJ2, LexV, ParR -/
import Derived.Test.YtnhnmigafkodfaaGreatDoorF
import Derived.Test.YtnhnmigafkodfaaGreatDoorD
import Derived.Test.YtnhnmigafkodfaaGreatDoorL
import Derived.Test.YtnhnmigafkodfaaGreatDoorB
set_option linter.all false

section
set_option maxRecDepth 100000
set_option maxHeartbeats 1000000
namespace ParF
open Go Go.Abs Go.Proofs Pm
theorem skp_nil {ts:List Tok} (hk:∀ t ∈ ts,t.1 ≠ 100) (h:(pk ts).1=100):skp ts=[]:=by
 cases hs:skp ts with
 | nil=>rfl
 | cons t r =>
  exfalso
  have hm:t ∈ ts:=by
   have:=skp_split ts
   rw [← this,hs]; exact List.mem_append_right _ (List.mem_cons_self ..)
  rw [pk,hs] at h
  exact hk t hm h
theorem take_all {ts:List Tok} (h:skp ts=[]):ts.takeWhile triv=ts:=by
 have:=skp_split ts
 rw [h,List.append_nil] at this
 exact this
theorem idx_0 (t i:Nat):aIndexAddr Tryz.prog 63 (.rs t 3 i 0 1) (.int .i64 0)=some (.ref i 0):=idx_top t i 0
theorem file_out {ts:List Tok} (hk:∀ t ∈ ts,t.1 ≠ 100) {n:Nat} (hn:ts.length + 20≤n) {P Z:Nat} {s:Heap} {rest:List Tok} {k:Nat} {cs:List Tree} {J:List Nat} {c0:List AV} (h:PR ts P s rest [] k cs J) (hZ:s[Z]?=some (65,c0)) (hc:c0.length=3) (hj:Z ∉ J)
  (he:(pk rest).1=100) (hb:szL cs + ts.length < 900000000) :
  ∃ a s1 Q s3 s4 row,aCall Tryz.prog (den C n) 51 [.ref P 0] s=some (.tup [],s1)∧aLoad false false 1 (.ref P 2) s1=some (.rs 65 3 Q 0 1,s1)∧aLoad false true 3 (.ref Q 0) s1=some (.agg row,s1)∧pubR (some (.agg row,s1))=some (a,s3)∧aStore 3 s3 (.ref Z 0) a=some s4 ∧
   aLoad false true 3 (.ref Z 0) s4=some (a,s4)∧IsT (.mk k [] (cs++rest.map leaf)) a:=by
 obtain ⟨pos,i,rfl,h⟩:=h
 have hc1:=len_le_sz cs
 have hrk:∀ t ∈ ts.drop pos,t.1 ≠ 100:=fun t ht=>hk t (List.mem_of_mem_drop ht)
 have hs0:=skp_nil hrk he
 have ht0:=take_all hs0
 have hlen:=h.len
 obtain ⟨s1,i1,J1,pos1,q1,d1,p1,x1⟩:=skip_run h (by show cs.length + ts.length + 0 < _; omega) (n:=n) (by omega)
 rw [ht0] at p1
 obtain ⟨tk,Q,junk,f,rfl⟩:=p1.facts
 obtain ⟨a,s3,e3,hT,l3,f3⟩:=pub_lv f.ok
 have hZ1:=(x1.fr Z (glt hZ) hj).trans hZ
 have hj1:=x1.notin (glt hZ) hj
 have hid:i1 ≠ some Z:=fun e=>hj1 (by rw [e]; unfold JJ; simp)
 have hZ3:=(f3 Z hid).trans hZ1
 obtain ⟨a1,a2,a3,a4⟩:=hT.cells
 have hsol:a.solid=true:=by rw [a4]; rfl
 have hst:stCells a=a.cells:=by rw [a4]; exact a2
 have st4:aStore 3 s3 (.ref Z 0) a=some (s3.set Z (65,a.cells)):=by
  rw [ParF.st (n:=3) (o:=0) (v:=a) hZ3 (by decide) hsol a1 (by omega),hst]
  have:=setL_end [] a.cells c0 (by omega)
  rw [List.nil_append,List.nil_append] at this
  rw [show setL c0 0 a.cells=a.cells from this]
 have hr:=row_length ([]++[(⟨k,cs++(ts.drop pos).map leaf,i1⟩:Lv)])
 have ldq:aLoad false true 3 (.ref Q 0) s1=some (.agg (Lv.row ⟨k,cs++(ts.drop pos).map leaf,i1⟩),s1):=by
  have:=ldA (n:=3) (o:=([]:List Lv).length * 3) f.row (by decide) (by rw [app_len,hr]; show 0 + 3≤3 * 1 + _; omega) (by decide)
  rw [row_drop] at this
  exact this
 refine ⟨a,s1,Q,s3,_,_,q1,ld (o:=2) f.par (by decide) rfl (by decide),ldq,e3,st4,?_,hT⟩
 rw [ldA (o:=0) (gset_eq hZ3) (by decide) (by omega) (by decide),List.drop_zero,List.take_of_length_le (by omega),← a4]
theorem l21 {ts:List Tok} (hk:∀ t ∈ ts,t.1 ≠ 100) {n P Z:Nat}:∀ (m:Nat),m * 20 + ts.length + 120≤n→∀ s rest k cs J b rest' cs' c0,PR ts P s rest [] k cs J→s[Z]?=some (65,c0)→c0.length=3→Z ∉ J→run m gFile rest cs=some (b,rest',cs')→szL cs' + ts.length < 900000000 →
  ∃ a s',(∀ M n' e,m < M→e 6=.ref P 0→e 2=.ref Z 0→aLoop (F32_L0 (den C n) n') M e s=some (.tup [a,I 0],s'))∧IsT (.mk k [] (cs'++rest'.map leaf)) a:=by
 intro m
 induction m with
 | zero=>intro _ s rest k cs J b rest' cs' c0 h _ _ _ hr; rw [Pm.run_zero] at hr; cases hr
 | succ m ih =>
  intro hn s rest k cs J b rest' cs' c0 h hZ hc0 hj hr hb
  have hn0:m * 20 + ts.length + 120≤n:=by omega
  obtain ⟨m',hm',hw⟩:=whil_inv hr
  cases hm'
  obtain ⟨sa,qa,pa,xa⟩:=(eof_rd ts).use (n:=n) (by omega) h
  have qa2:aCall Tryz.prog (den C n) 49 [.ref P 0] s=some (.bool (ev rEof rest),sa):=qa
  have hZa:=(xa.fr Z (glt hZ) hj).trans hZ
  rcases hw with ⟨hc,rfl,rfl,rfl⟩ | ⟨hc,hrb,hb0⟩ | ⟨hc,tw,cw,hrb,hrw,hzw⟩
  ·have he:(pk rest').1=100:=by
    have:(!((pk rest').1 == 100))=false:=hc
    simpa using this
   have he2:ev rEof rest'=true:=by
    show ((pk rest').1 == 100)=true
    simp [he]
   rw [he2] at qa2
   obtain ⟨a,s1,Q,s3,s4,row,e1,e2,e3,e4,e5,e6,hT⟩:=file_out hk (n:=n) (by omega) pa hZa hc0 hj he (by omega)
   have hast:a.strip=a:=by rw [hT.cells.2.2.2]; rfl
   refine ⟨a,s4,fun M n' e hM he6 he2=>?_,hT⟩
   obtain ⟨M,rfl⟩:∃ j,M=j + 1:=⟨M - 1,by omega⟩
   rw [aLoop,F32_L0]
   simp -implicitDefEqProofs only [sL,he6,he2,qa2,e1,e2,idx_0,e3,e4,hast,e5,e6]
  ·exact absurd (val_false (by rfl) hrb) (by decide)
  ·have he2:ev rEof rest=false:=by
    have:(!((pk rest).1 == 100))=true:=hc
    show ((pk rest).1 == 100)=false
    simpa using this
   rw [he2] at qa2
   obtain ⟨m1,b1,t1,c1,hm1,ha1,hr1,hz1⟩:=seq_inv hrb
   obtain ⟨-,rfl,rfl⟩:=ret_inv hr1
   have hz2:szL cw≤szL cs':=hzw
   obtain ⟨s1,J1,q1,p1,x1⟩:=s60 ts m1 n (by omega) P sa rest [] k cs J b1 tw cw pa ha1 (by show 0 + _ < _; omega)
   have e1:aCall Tryz.prog (den C n) 50 [.ref P 0] sa=some (.tup [],s1):=q1
   have hZ1:=(x1.fr Z (glt hZa) hj).trans hZa
   obtain ⟨a,s2,q2,hT⟩:=ih hn0 s1 tw k cw J1 b rest' cs' c0 p1 hZ1 hc0 (x1.notin (glt hZa) hj) hrw hb
   refine ⟨a,s2,fun M n' e hM he6 he2'=>?_,hT⟩
   obtain ⟨M,rfl⟩:∃ j,M=j + 1:=⟨M - 1,by omega⟩
   rw [aLoop,F32_L0]
   simp -implicitDefEqProofs only [sL,he6,he2',qa2,e1]
   exact q2 _ _ _ (by omega) ((upds_get _ _ _ rfl).trans he6) ((upds_get _ _ _ rfl).trans he2')
def IsFile (ts:List Tok) (T:Tree):Prop:=∃ t' es,Runs gFile ts [] false t' es∧(pk t').1=100∧T=.mk 1 [] (es++t'.map leaf)∧szL es + 24 * t'.length≤24 * ts.length∧dpL es≤6 + 2 * ts.length
theorem isFile_ex (ts:List Tok):∃ T,IsFile ts T:=by
 obtain ⟨t',es,h1,h2,h3⟩:=file_does ts
 refine ⟨_,t',es,h1,h2,rfl,?_,?_⟩
 ·simp only [Sp] at h3; omega
 ·simp only [Sp] at h3; omega
theorem toks_is (l:List UInt8):IsToks (LexF.accV (LexF.tokz l)).strip (LexF.tokz l):=by
 rcases LexF.accV_strip (LexF.tokz l) with h | ⟨h1,h2⟩
 ·exact .inr ⟨53,h⟩
 ·exact .inl ⟨h2,h1⟩
theorem parse_run (l:List UInt8) (hl:l.length≤2000) (hk:∀ t ∈ LexF.tokz l,t.1 ≠ 100):∃ T a,IsFile (LexF.tokz l) T∧IsT T a∧AC C 32 [.str l] (.tup [a,I 0]):=by
 obtain ⟨T,hF⟩:=isFile_ex (LexF.tokz l)
 obtain ⟨t',es,h1,h2,h3,h4,h5⟩:=id hF
 obtain ⟨m,hm⟩:=run_of h1
 have hlt:=LexF.tokz_length l
 have tokI:=toks_is l
 generalize hts:LexF.tokz l=ts at *
 have hts1:ts.length≤2000:=by omega
 obtain ⟨N0,q0⟩:=LexF.AC.at (LexF.tok_run l)
 have ht:LexF.tokR l=.tup [(LexF.accV (LexF.tokz l)).strip,I 0]:=by unfold LexF.tokR; rw [if_neg (by omega)]
 rw [ht,hts] at q0
 generalize (LexF.accV ts).strip=tk at *
 have hst:=toks_strip tokI
 -- the heap when the loop begins
 let s0:Heap:=[(65,[I 0,.str [],.nils]),(65,[I 1,.str [],.nils]),(95,[tk,I 0,.rs 65 3 1 0 1])]
 have ps:PS ts 2 s0 0 ([]++[⟨1,[],none⟩]) (JJ 2 1 [] ⟨1,[],none⟩) :=
  Fs.ps (tk:=tk) (junk:=[]) ⟨tokI,rfl,rfl,by decide,nofun,nofun,List.nodup_nil,rfl,nofun,Nat.zero_le _,by omega⟩
 have hrun:∀ n,m * 20 + ts.length + 120≤n→∃ a s',(∀ M n' e,m < M→e 6=.ref 2 0→e 2=.ref 0 0→aLoop (F32_L0 (den C n) n') M e s0=some (.tup [a,I 0],s'))∧IsT T a:=by
  intro n hn
  rw [h3]
  exact l21 hk (Z:=0) m hn s0 ts 1 [] _ false t' es [I 0,.str [],.nils] ⟨0,none,rfl,ps⟩ rfl rfl (by unfold JJ; simp) hm (by omega)
 have hm1:0 < m:=by
  cases m with
  | zero=>rw [Pm.run_zero] at hm; cases hm
  | succ m=>omega
 obtain ⟨a,s',q,hT⟩:=hrun (N0 + m * 20 + ts.length + 120) (by omega)
 refine ⟨T,a,hF,hT,AC.one (n:=N0 + m * 20 + ts.length + 120 + 1) (s1:=s') en32 rfl ?_ ?_⟩
 ·rw [noRef_tup,noRefL_cons,noRefL_cons,noRefL_nil,noRef_int,hT.noRef]; rfl
 ·have q1:=q0 (N0 + m * 20 + ts.length + 120) (by omega) [(65,[I 0,.str [],.nils])]
  have hmn:m < N0 + m * 20 + ts.length + 120:=by omega
  generalize N0 + m * 20 + ts.length + 120=n at *
  have hb:=build52_1 (I 1) rfl rfl rfl
  have z52:aAlloc Tryz.prog 65 []=some (.ref 0 0,[(65,[I 0,.str [],.nils])]):=by rw [zero52]; rfl
  have rb:=rsbuild (s:=[(65,[I 0,.str [],.nils])]) (a:=.agg [I 1,.str [],.nils]) (t:=.mk 1 [] []) (.mk _ _ _ _ .nil)
  have rb:aRsBuild Tryz.prog 63 1 [(0,.agg [I 1,.str [],.nils])] [(65,[I 0,.str [],.nils])]=some (.rs 65 3 1 0 1,[(65,[I 0,.str [],.nils]),(65,[I 1,.str [],.nils])]):=rb
  have b128:aBuild Tryz.prog 95 [(0,tk),(2,.rs 65 3 1 0 1)]=some (.agg [tk,I 0,.rs 65 3 1 0 1]):=by
   have hz:zeroOf Tryz.prog 95=some (.agg [.nils,I 0,.nils]):=by kernel_rfl
   have hu:(match Tryz.prog.underlying 95 with | some (.struct fs)=>placesOf Tryz.prog fs.toList | _=>none)=some [(0,1),(1,1),(2,1)]:=by kernel_rfl
   have c1:tk.cells=[tk]:=by rcases tokI with ⟨e,_⟩ | ⟨T,e⟩ <;> rw [e] <;> rfl
   have c2:tk.solid=true:=by rcases tokI with ⟨e,_⟩ | ⟨T,e⟩ <;> rw [e] <;> rfl
   have c4:(AV.rs 65 3 1 0 1).cells=[.rs 65 3 1 0 1]:=rfl
   have c5:(AV.rs 65 3 1 0 1).solid=true:=rfl
   unfold aBuild
   split at hu
   ·rename_i fs hh
    rw [hz,hh]
    simp [hu,aFill,setL,c1,c2,hst,c4,c5,strip_rs,cells_int]
   ·cases hu
  have bx:aBox true 95 (.agg [tk,I 0,.rs 65 3 1 0 1]) [(65,[I 0,.str [],.nils]),(65,[I 1,.str [],.nils])]=some (.ref 2 0,s0):=by
   simp [aBox,hst,strip_rs,s0]
  have q1:aCall Tryz.prog (den C n) 17 [.str l] [(65,[I 0,.str [],.nils])]=some (.tup [tk,.int .i64 0],[(65,[I 0,.str [],.nils])]):=q1
  rw [F32_eq,F32]
  simp -implicitDefEqProofs only [sL,z52,q1,hst,show ((0:Int) != 0)=false from rfl,hb,rb,b128,bx]
  exact q _ _ _ hmn rfl rfl
end ParF
end

section
namespace LexF
open Go
theorem sc_nl (b:List UInt8):∀ (l:List UInt8) (i:Nat),sc (l++10::b) i=sc l i
 | [],i=>by
  cases b with
  | nil=>simp [sc]
  | cons c r=>simp [sc]
 | [x],i=>by
  show sc (x::10::b) i=sc [x] i
  rw [sc,sc]
  by_cases h1:x=10
  ·subst h1; simp
  ·rw [if_neg h1]
   by_cases h2:x=34
   ·rw [if_pos h2,if_pos h2]
   ·rw [if_neg h2,if_neg h2,if_neg (by simp)]
    have:=sc_nl b [] (i + 1)
    rw [List.nil_append] at this
    rw [this,sc]
 | x::y::r,i=>by
  show sc (x::y::(r++10::b)) i=_
  rw [sc,sc,sc_nl b r (i + 2),show y::(r++10::b)=(y::r)++10::b from rfl,sc_nl b (y::r) (i + 1)]
theorem drop_scan (p:UInt8→Bool):∀ l:List UInt8,l.drop (scanN p l)=l.dropWhile p
 | []=>rfl
 | c::r=>by
  have ih:=drop_scan p r
  unfold scanN at ih ⊢
  rw [List.takeWhile_cons,List.dropWhile_cons]
  split
  ·simpa using ih
  ·rfl
end LexF
end

section
namespace LexF
open Go
theorem scan_look {p:UInt8→Bool} (rest:List UInt8):∀ (l:List UInt8) (q:Nat),scanN p l < q→q≤l.length→scanN p (l.take q++rest)=scanN p l
 | [],q,h,hq=>by simp at hq; omega
 | c::r,0,h,_=>by omega
 | c::r,q + 1,h,hq=>by
  rw [List.take_succ_cons,List.cons_append]
  unfold scanN at h ⊢
  rw [List.takeWhile_cons] at h
  rw [List.takeWhile_cons,List.takeWhile_cons]
  cases hc:p c with
  | true =>
   rw [hc] at h
   simp only [if_true,List.length_cons] at h ⊢
   have:=scan_look (p:=p) rest r q (by unfold scanN; omega) (by simpa using hq)
   unfold scanN at this
   rw [this]
  | false=>simp
theorem sc_look (rest:List UInt8):∀ (l:List UInt8) (i n q:Nat),sc l i=some n→n≤i + q→q≤l.length→sc (l.take q++rest) i=some n
 | [],i,n,q,h,_,_=>by simp [sc] at h
 | [b],i,n,q,h,hn,hq=>by
  have hb:=sc_bounds _ _ _ h
  unfold sc at h
  split at h
  ·rename_i hb34
   cases h
   have:q=1:=by simp at hq; omega
   subst this
   subst hb34
   cases rest with
   | nil=>rfl
   | cons c r=>simp [sc]
  ·cases h
 | b::c::r,i,n,q,h,hn,hq=>by
  have hb:=sc_bounds _ _ _ h
  rw [sc] at h
  obtain ⟨q,rfl⟩:∃ k,q=k + 1:=⟨q - 1,by omega⟩
  split at h
  ·cases h
  rename_i h1
  split at h
  ·rename_i h2
   cases h
   rw [List.take_succ_cons,List.cons_append]
   subst h2
   generalize List.take q (c::r)++rest=m
   cases m with
   | nil=>rfl
   | cons d m=>simp [sc]
  rename_i h2
  obtain ⟨q,rfl⟩:∃ k,q=k + 1:=⟨q - 1,by
   have hge:i + 2≤n:=by
    split at h
    ·have:=(sc_bounds _ _ _ h).1; omega
    ·have:=(sc_bounds _ _ _ h).1; omega
   omega⟩
  rw [List.take_succ_cons,List.take_succ_cons,List.cons_append,List.cons_append,sc,if_neg h1,if_neg h2]
  split at h
  ·rename_i h3
   rw [if_pos h3]
   have:=(sc_bounds _ _ _ h).1
   exact sc_look rest r (i + 2) n q h (by omega) (by simp at hq; omega)
  ·rename_i h3
   rw [if_neg h3]
   have:=sc_look rest (c::r) (i + 1) n (q + 1) h (by omega) (by simp at hq ⊢; omega)
   rw [List.take_succ_cons,List.cons_append] at this
   exact this
theorem scan_cut {l:List UInt8} (h:scanN notNL l < l.length):l=l.take (scanN notNL l)++10::l.drop (scanN notNL l + 1):=by
 have hd:=drop_scan notNL l
 have hne:l.drop (scanN notNL l) ≠ []:=by
  intro e
  have:=congrArg List.length e
  simp at this
  omega
 have hh:l.drop (scanN notNL l)=10::l.drop (scanN notNL l + 1):=by
  rw [List.drop_eq_getElem_cons h]
  congr 1
  have:¬ notNL l[scanN notNL l]=true:=by
   have e:l.dropWhile notNL=l[scanN notNL l]::l.drop (scanN notNL l + 1):=by rw [← hd,List.drop_eq_getElem_cons h]
   have:=List.head?_dropWhile_not (p:=notNL) (l:=l)
   rw [e] at this
   have this:notNL l[scanN notNL l]=false:=this
   rw [this]
   simp
  simpa [notNL] using this
 rw [← hh,List.take_append_drop]
theorem first_look (l rest:List UInt8) (p:Nat) (hl:l ≠ []) (h:(first l).1 < p) (hp:p≤l.length):first (l.take p++rest)=first l:=by
 have hb:=(first_bounds l hl).1
 obtain ⟨c,d,r,rfl⟩:∃ c d r,l=c::d::r:=by
  match l,hp with
  | [],hp=>simp at hp; omega
  | [c],hp=>simp at hp; omega
  | c::d::r,_=>exact ⟨c,d,r,rfl⟩
 obtain ⟨q,rfl⟩:∃ q,p=q + 2:=⟨p - 2,by omega⟩
 have e:(c::d::r).take (q + 2)++rest=c::d::(r.take q++rest):=by simp
 have look:∀ f:UInt8→Bool,scanN f (c::d::r) < q + 2→scanN f (c::d::(r.take q++rest))=scanN f (c::d::r):=fun f hf=>by
  have:=scan_look (p:=f) rest (c::d::r) (q + 2) hf hp
  rwa [e] at this
 rw [e]
 rw [first] at h
 rw [first,first]
 by_cases c1:isSp c=true
 ·rw [if_pos c1] at h
  rw [if_pos c1,if_pos c1,look _ h]
 rw [if_neg c1] at h
 rw [if_neg c1,if_neg c1]
 have e2:Lib.hasPrefix (c::d::(r.take q++rest)) [47,47]=Lib.hasPrefix (c::d::r) [47,47]:=by simp [Lib.hasPrefix,List.isPrefixOf]
 rw [e2]
 by_cases c2:Lib.hasPrefix (c::d::r) [47,47]=true
 ·rw [if_pos c2] at h
  rw [if_pos c2,if_pos c2,look _ h]
 rw [if_neg c2] at h
 rw [if_neg c2,if_neg c2]
 by_cases c3:isLet c=true
 ·rw [if_pos c3] at h
  have hw:scanN isWord (c::d::r) < q + 2:=by split at h <;> exact h
  have ht:(c::d::(r.take q++rest)).take (scanN isWord (c::d::r))=(c::d::r).take (scanN isWord (c::d::r)):=by
   rw [← e,List.take_append_of_le_length (by rw [List.length_take]; omega),List.take_take,Nat.min_eq_left (by omega)]
  rw [if_pos c3,if_pos c3,look _ hw,ht]
 rw [if_neg c3] at h
 rw [if_neg c3,if_neg c3]
 by_cases c4:isDig c=true
 ·rw [if_pos c4] at h
  rw [if_pos c4,if_pos c4,look _ h]
 rw [if_neg c4] at h
 rw [if_neg c4,if_neg c4]
 by_cases c5:c=34
 ·rw [if_pos c5] at h
  rw [if_pos c5,if_pos c5]
  unfold scanStr at h ⊢
  simp only [List.drop_succ_cons,List.drop_zero] at h ⊢
  have hq:q + 1≤(d::r).length:=by simp at hp ⊢; omega
  have e3:(d::r).take (q + 1)++rest=d::(r.take q++rest):=by simp
  cases hs:sc (d::r) 1 with
  | some n =>
   rw [hs] at h
   simp only at h
   have:=sc_look rest (d::r) 1 n (q + 1) hs (by omega) hq
   rw [e3] at this
   rw [this]
  | none =>
   rw [hs] at h
   simp only at h
   have hlt:scanN notNL (d::r) < q + 1:=by omega
   have hlook:=scan_look (p:=notNL) rest (d::r) (q + 1) hlt hq
   rw [e3] at hlook
   have k1:=scan_cut (l:=d::r) (by omega)
   have k2:=scan_cut (l:=d::(r.take q++rest)) (by
    rw [hlook,← e3,List.length_append,List.length_take]; omega)
   rw [hlook] at k2
   have ht:(d::(r.take q++rest)).take (scanN notNL (d::r))=(d::r).take (scanN notNL (d::r)):=by
    rw [← e3,List.take_append_of_le_length (by rw [List.length_take]; omega),List.take_take,Nat.min_eq_left (by omega)]
   rw [ht] at k2
   have s1:sc (d::r) 1=sc ((d::r).take (scanN notNL (d::r))) 1:=by
    conv=>lhs; rw [k1]
    exact sc_nl _ _ _
   have s2:sc (d::(r.take q++rest)) 1=sc ((d::r).take (scanN notNL (d::r))) 1:=by
    conv=>lhs; rw [k2]
    exact sc_nl _ _ _
   rw [s2,← s1,hs,hlook]
 ·rw [if_neg c5,if_neg c5]
  have e4:(1 < (c::d::(r.take q++rest)).length∧(c::d::(r.take q++rest)).take 2 ∈ two) ↔ (1 < (c::d::r).length∧(c::d::r).take 2 ∈ two):=by
   constructor <;> rintro ⟨_,h⟩ <;> exact ⟨by simp,by simpa using h⟩
  by_cases k:1 < (c::d::r).length∧(c::d::r).take 2 ∈ two
  ·rw [if_pos k,if_pos (e4.2 k)]
  ·rw [if_neg k,if_neg (fun h=>k (e4.1 h))]
def keep (a:Nat):Nat→List Tok→Nat
 | _,[]=>0
 | o,t::r=>if o + t.2.length < a then keep a (o + t.2.length) r + 1 else 0
end LexF
end

section
namespace Pm
def Two (c:Cnd):Prop:=∀ t u v v',c t u v=c t u v'
structure Agree (t u:List Tok):Prop where
 one:pk t=pk u
 two:pk (la t)=pk (la u)
 nil:t=[]→u=[]
 eof:skp t=[]→skp u=[]
theorem skp_app (xs t:List Tok):skp (xs++t)=if skp xs=[] then skp t else skp xs++t:=by
 induction xs with
 | nil=>rfl
 | cons x xs ih =>
  unfold skp at *
  rw [List.cons_append,List.dropWhile_cons,List.dropWhile_cons]
  split
  ·exact ih
  ·rw [if_neg (by simp)]; rfl
theorem pk_app (xs t:List Tok):pk (xs++t)=if skp xs=[] then pk t else pk xs:=by
 unfold pk
 rw [skp_app]
 split
 ·rfl
 ·rename_i h
  cases hs:skp xs with
  | nil=>exact absurd hs h
  | cons a l=>rfl
theorem la_app (xs t:List Tok):la (xs++t)=if skp xs=[] then la t else la xs++t:=by
 unfold la
 rw [skp_app]
 split
 ·rfl
 ·rename_i h
  cases hs:skp xs with
  | nil=>exact absurd hs h
  | cons a l=>rfl
theorem Agree.pk {t u:List Tok} (h:Agree t u) (xs:List Tok):pk (xs++t)=pk (xs++u):=by
 rw [pk_app,pk_app,h.one]
theorem Agree.pk2 {t u:List Tok} (h:Agree t u) (xs:List Tok):Pm.pk (la (xs++t))=Pm.pk (la (xs++u)):=by
 rw [la_app,la_app]
 split
 ·exact h.two
 ·exact h.pk _
theorem Agree.ev {t u:List Tok} (h:Agree t u) {c:Cnd} (hc:Two c) (xs:List Tok):ev c (xs++t)=ev c (xs++u):=by
 unfold Pm.ev
 rw [h.pk,h.pk2]; exact hc _ _ _ _
end Pm
end

section
set_option maxRecDepth 100000
namespace Pm
def sg (ts:List Tok):List Tok:=ts.filter fun t=>!triv t
theorem sg_cons (t:Tok) (ts:List Tok):sg (t::ts)=if triv t=true then sg ts else t::sg ts:=by
 unfold sg
 rw [List.filter_cons]
 cases triv t <;> rfl
theorem skp_cons (t:Tok) (ts:List Tok):skp (t::ts)=if triv t=true then skp ts else t::ts:=by
 unfold skp
 rw [List.dropWhile_cons]
theorem skp_sg:∀ ts:List Tok,(skp ts=[]∧sg ts=[])∨∃ t r,skp ts=t::r∧sg ts=t::sg r∧triv t=false
 | []=>.inl ⟨rfl,rfl⟩
 | t::ts=>by
  rw [skp_cons,sg_cons]
  cases h:triv t with
  | true=>rw [if_pos rfl,if_pos rfl]; exact skp_sg ts
  | false=>exact .inr ⟨t,ts,rfl,rfl,h⟩
theorem pk_sg (ts:List Tok):pk ts=hd (sg ts):=by
 unfold pk
 rcases skp_sg ts with ⟨h1,h2⟩ | ⟨t,r,h1,h2,_⟩ <;> rw [h1,h2] <;> rfl
theorem sg_la (ts:List Tok):sg (la ts)=(sg ts).drop 1:=by
 unfold la
 rcases skp_sg ts with ⟨h1,h2⟩ | ⟨t,r,h1,h2,_⟩ <;> rw [h1,h2] <;> rfl
def evs (c:Cnd) (s:List Tok):Bool:=c (hd s) (hd (s.drop 1)) (hd (s.drop 2))
theorem ev_sg (c:Cnd) (ts:List Tok):ev c ts=evs c (sg ts):=by
 unfold ev evs
 rw [pk_sg,pk_sg,pk_sg,sg_la,sg_la,sg_la,List.drop_drop]
abbrev Pr:=List Tok→Prop
abbrev T:Pr:=fun _=>True
abbrev TB:Bool→Pr:=fun _ _=>True
inductive Ok:Pr→G→(Bool→Pr)→Prop
 | ret {P:Pr} {Q:Bool→Pr} {b:Bool} (h:∀ s,P s→Q b s):Ok P (.ret b) Q
 | bump {P:Pr} {Q:Bool→Pr} (h:∀ s,P s→s ≠ []∧Q false (s.drop 1)):Ok P .bump Q
 | put {P:Pr} {Q:Bool→Pr} {k:Nat} (h:∀ s,P s→Q false s):Ok P (.put k) Q
 | insN {P:Pr} {Q:Bool→Pr} (h:∀ s,P s→Q false s):Ok P .insN Q
 | seq {P:Pr} {R Q:Bool→Pr} {a b:G} (h1:Ok P a R) (h2:Ok (fun s=>∃ r,R r s) b Q):Ok P (.seq a b) Q
 | node {P:Pr} {Q:Bool→Pr} {k:Nat} {g:G} (h:Ok P g Q):Ok P (.node k g) Q
 | wrap {P:Pr} {Q:Bool→Pr} {k:Nat} {g:G} (h:Ok P g Q):Ok P (.wrap k g) Q
 | ite {P:Pr} {Q:Bool→Pr} {c:Cnd} {a b:G} (h1:Ok (fun s=>P s∧evs c s=true) a Q) (h2:Ok (fun s=>P s∧evs c s=false) b Q):Ok P (.ite c a b) Q
 | bra {P:Pr} {R Q:Bool→Pr} {g a b:G} (h:Ok P g R) (h1:Ok (R true) a Q) (h2:Ok (R false) b Q):Ok P (.bra g a b) Q
 | prog {P:Pr} {R Q:Bool→Pr} {g a b:G} (h:Ok P g R) (h1:Ok P a Q) (h2:Ok (fun s=>∃ r,R r s) b Q):Ok P (.prog g a b) Q
 | stm {P:Pr} {R Q:Bool→Pr} {g b:G} (h:Ok P g R) (h1:∀ s,P s→s ≠ []∧Q false (s.drop 1)) (h2:Ok (fun s=>∃ r,R r s) b Q):Ok P (.stm g b) Q
 | whil {P:Pr} {R Q:Bool→Pr} {c:Cnd} {g:G} (h:Ok (fun s=>evs c s=true) g R) (ht:∀ s,R true s→Q true s) (hq:∀ s,Q false s):Ok P (.whil c g) Q
 | call {P:Pr} {Q:Bool→Pr} {f:Nat} (h:f=2∨f=6→∀ s,P s→s ≠ []) (hq:∀ r s,Q r s):Ok P (.call f) Q
mutual
inductive TE:Tree→Tree→Prop
 | mk (k:Nat) (x:Bytes) (cs ds:List Tree) (h:LE cs ds):TE (.mk k x cs) (.mk k x ds)
inductive LE:List Tree→List Tree→Prop
 | nil:LE [] []
 | snoc (cs ds:List Tree) (A B:List Tok) (x y:Tree) (h:LE cs ds) (hA:∀ t ∈ A,triv t=true) (hB:∀ t ∈ B,triv t=true) (ht:TE x y):LE (cs++(A.map leaf++[x])) (ds++(B.map leaf++[y]))
end
theorem LE.one {cs ds:List Tree} {x y:Tree} (h:LE cs ds) (ht:TE x y):LE (cs++[x]) (ds++[y]):=by
 have:=LE.snoc cs ds [] [] x y h nofun nofun ht
 simpa using this
theorem LE.last {cs' ds:List Tree} (h:LE cs' ds):∀ {cs:List Tree} {t:Tree},cs'=cs++[t]→∃ (c1 d1:List Tree) (A B:List Tok) (y:Tree),cs=c1++A.map leaf∧ds=d1++(B.map leaf++[y])∧LE c1 d1∧(∀ t ∈ A,triv t=true)∧(∀ t ∈ B,triv t=true)∧TE t y:=by
 intro cs t e
 cases h with
 | nil=>simp at e
 | snoc c1 d1 A B x y h hA hB ht =>
  rw [← List.append_assoc] at e
  have e1:=List.append_inj_left' e rfl
  have e2:=List.append_inj_right' e rfl
  cases e2
  exact ⟨c1,d1,A,B,y,e1.symm,rfl,h,hA,hB,ht⟩
theorem TE.leaf (t:Tok):TE (Pm.leaf t) (Pm.leaf t):=.mk _ _ _ _ .nil
theorem LE.nil_left {ds:List Tree} (h:LE [] ds):ds=[]:=by
 generalize e:([]:List Tree)=cs at h
 cases h with
 | nil=>rfl
 | snoc c1 d1 A B x y=>exact absurd e (by simp)
theorem sg_drop_le (ts:List Tok) (k:Nat):(sg (ts.drop k)).length≤(sg ts).length :=
 ((List.drop_sublist k ts).filter _).length_le
theorem split_trivia (ts:List Tok):∀ t ∈ ts.takeWhile triv,triv t=true:=fun t ht=>List.all_eq_true.1 List.all_takeWhile t ht
theorem cong (hdf:∀ f,Ok (fun s=>f=2∨f=6→s ≠ []) (defs f) TB) {g:G} {ts:List Tok} {cs:List Tree} {r:Bool} {ts':List Tok} {cs':List Tree} (h:Runs g ts cs r ts' cs') :
  ∀ {P:Pr} {Q:Bool→Pr},Ok P g Q→P (sg ts)→∀ us ds,sg us=sg ts→LE cs ds→∃ us' ds',Runs g us ds r us' ds'∧sg us'=sg ts'∧LE cs' ds'∧Q r (sg ts')∧((sg ts').length=(sg ts).length→ts'=ts∧us'=us):=by
 induction h with
 | ret b ts cs =>
  intro P Q ho hp us ds hs hl
  cases ho with
  | ret h=>exact ⟨us,ds,.ret _ _ _,hs,hl,h _ hp,fun _=>⟨rfl,rfl⟩⟩
 | bump ts cs =>
  intro P Q ho hp us ds hs hl
  cases ho with
  | bump h =>
   obtain ⟨h1,h2⟩:=h _ hp
   rcases skp_sg ts with ⟨k1,k2⟩ | ⟨t,r,k1,k2,k3⟩
   ·exact absurd k2 h1
   rcases skp_sg us with ⟨m1,m2⟩ | ⟨u,q,m1,m2,m3⟩
   ·exact absurd (hs ▸ m2) h1
   rw [k2,m2] at hs
   injection hs with e1 e2
   subst e1
   refine ⟨la us,_,.bump us ds,?_,?_,?_,?_⟩
   ·rw [sg_la,sg_la,k2,m2,e2]
   ·rw [k1,m1]
    exact .snoc _ _ _ _ _ _ hl (split_trivia ts) (split_trivia us) (.leaf _)
   ·rw [sg_la]; exact h2
   ·intro e
    rw [sg_la,k2] at e
    simp at e
 | put k ts cs =>
  intro P Q ho hp us ds hs hl
  cases ho with
  | put h=>exact ⟨us,_,.put _ _ _,hs,hl.one (.mk _ _ _ _ .nil),h _ hp,fun _=>⟨rfl,rfl⟩⟩
 | @seq a b ts ts1 ts2 cs cs1 cs2 b1 b2 h1 h2 i1 i2 =>
  intro P Q ho hp us ds hs hl
  cases ho with
  | seq o1 o2 =>
   obtain ⟨u1,d1,r1,s1,l1,q1,e1⟩:=i1 o1 hp us ds hs hl
   obtain ⟨u2,d2,r2,s2,l2,q2,e2⟩:=i2 o2 ⟨_,q1⟩ u1 d1 s1 l1
   refine ⟨u2,d2,.seq r1 r2,s2,l2,q2,fun e=>?_⟩
   obtain ⟨k,rfl⟩:=runs_drop h1
   obtain ⟨k',rfl⟩:=runs_drop h2
   have a1:=sg_drop_le ts k
   have a2:=sg_drop_le (ts.drop k) k'
   obtain ⟨x1,x2⟩:=e1 (by omega)
   obtain ⟨y1,y2⟩:=e2 (by omega)
   exact ⟨y1.trans x1,y2.trans x2⟩
 | @node k g ts ts1 ds0 b cs hk h i =>
  intro P Q ho hp us ds hs hl
  cases ho with
  | node o =>
   obtain ⟨u1,d1,r1,s1,l1,q1,e1⟩:=i o hp us [] hs .nil
   exact ⟨u1,_,.node ds hk r1,s1,hl.one (.mk _ _ _ _ l1),q1,e1⟩
 | @wrap k g ts ts1 ds0 t b cs hk h i =>
  intro P Q ho hp us ds hs hl
  cases ho with
  | wrap o =>
   obtain ⟨c1,d1,A,B,y,rfl,rfl,l1,hA,hB,ht⟩:=hl.last rfl
   obtain ⟨u2,d2,r1,s1,l2,q1,e1⟩:=i o hp us [y] hs (by simpa using LE.one .nil ht)
   refine ⟨u2,_,by rw [← List.append_assoc]; exact .wrap _ hk r1,s1,?_,q1,e1⟩
   rw [List.append_assoc,List.append_assoc]
   exact .snoc _ _ _ _ _ _ l1 hA hB (.mk _ _ _ _ l2)
 | @ite1 c a b ts ts1 cs cs1 r hc h i =>
  intro P Q ho hp us ds hs hl
  cases ho with
  | ite o1 o2 =>
   have hc':=hc
   rw [ev_sg] at hc'
   obtain ⟨u1,d1,r1,k⟩:=i o1 ⟨hp,hc'⟩ us ds hs hl
   exact ⟨u1,d1,.ite1 (by rw [ev_sg,hs]; exact hc') r1,k⟩
 | @ite2 c a b ts ts1 cs cs1 r hc h i =>
  intro P Q ho hp us ds hs hl
  cases ho with
  | ite o1 o2 =>
   have hc':=hc
   rw [ev_sg] at hc'
   obtain ⟨u1,d1,r1,k⟩:=i o2 ⟨hp,hc'⟩ us ds hs hl
   exact ⟨u1,d1,.ite2 (by rw [ev_sg,hs]; exact hc') r1,k⟩
 | @bra1 g a b ts ts1 ts2 cs cs1 cs2 r h1 h2 i1 i2 =>
  intro P Q ho hp us ds hs hl
  cases ho with
  | bra o1 o2 o3 =>
   obtain ⟨u1,d1,r1,s1,l1,q1,e1⟩:=i1 o1 hp us ds hs hl
   obtain ⟨u2,d2,r2,s2,l2,q2,e2⟩:=i2 o2 q1 u1 d1 s1 l1
   refine ⟨u2,d2,.bra1 r1 r2,s2,l2,q2,fun e=>?_⟩
   obtain ⟨k,rfl⟩:=runs_drop h1
   obtain ⟨k',rfl⟩:=runs_drop h2
   have a1:=sg_drop_le ts k
   have a2:=sg_drop_le (ts.drop k) k'
   obtain ⟨x1,x2⟩:=e1 (by omega)
   obtain ⟨y1,y2⟩:=e2 (by omega)
   exact ⟨y1.trans x1,y2.trans x2⟩
 | @bra2 g a b ts ts1 ts2 cs cs1 cs2 r h1 h2 i1 i2 =>
  intro P Q ho hp us ds hs hl
  cases ho with
  | bra o1 o2 o3 =>
   obtain ⟨u1,d1,r1,s1,l1,q1,e1⟩:=i1 o1 hp us ds hs hl
   obtain ⟨u2,d2,r2,s2,l2,q2,e2⟩:=i2 o3 q1 u1 d1 s1 l1
   refine ⟨u2,d2,.bra2 r1 r2,s2,l2,q2,fun e=>?_⟩
   obtain ⟨k,rfl⟩:=runs_drop h1
   obtain ⟨k',rfl⟩:=runs_drop h2
   have a1:=sg_drop_le ts k
   have a2:=sg_drop_le (ts.drop k) k'
   obtain ⟨x1,x2⟩:=e1 (by omega)
   obtain ⟨y1,y2⟩:=e2 (by omega)
   exact ⟨y1.trans x1,y2.trans x2⟩
 | @prog1 g a b ts ts1 ts2 cs cs1 cs2 r q h1 hl1 h2 i1 i2 =>
  intro P Q ho hp us ds hs hl
  cases ho with
  | prog o1 o2 o3 =>
   obtain ⟨u1,d1,r1,s1,l1,q1,e1⟩:=i1 o1 hp us ds hs hl
   have et:ts1=ts:=by
    obtain ⟨k,rfl⟩:=runs_drop h1
    rw [List.length_drop] at hl1
    rcases Nat.eq_zero_or_pos k with rfl | hk
    ·rfl
    ·have:ts=[]:=List.length_eq_zero_iff.1 (by omega)
     subst this; simp
   subst et
   obtain ⟨-,rfl⟩:=e1 rfl
   obtain ⟨u2,d2,r2,s2,l2,q2,e2⟩:=i2 o2 hp u1 d1 s1 l1
   exact ⟨u2,d2,.prog1 r1 rfl r2,s2,l2,q2,e2⟩
 | @prog2 g a b ts ts1 ts2 cs cs1 cs2 r q h1 hl1 h2 i1 i2 =>
  intro P Q ho hp us ds hs hl
  cases ho with
  | prog o1 o2 o3 =>
   obtain ⟨u1,d1,r1,s1,l1,q1,e1⟩:=i1 o1 hp us ds hs hl
   obtain ⟨u2,d2,r2,s2,l2,q2,e2⟩:=i2 o3 ⟨_,q1⟩ u1 d1 s1 l1
   have hne:u1.length ≠ us.length:=by
    intro e
    obtain ⟨k,rfl⟩:=runs_drop r1
    rw [List.length_drop] at e
    have eu:us.drop k=us:=by
     rcases Nat.eq_zero_or_pos k with rfl | hk
     ·rfl
     ·have:us=[]:=List.length_eq_zero_iff.1 (by omega)
      subst this; simp
    rw [eu,hs] at s1
    exact hl1 (by rw [(e1 (by rw [← s1])).1])
   refine ⟨u2,d2,.prog2 r1 hne r2,s2,l2,q2,fun e=>?_⟩
   obtain ⟨k,rfl⟩:=runs_drop h1
   obtain ⟨k',rfl⟩:=runs_drop h2
   have a1:=sg_drop_le ts k
   have a2:=sg_drop_le (ts.drop k) k'
   obtain ⟨x1,x2⟩:=e1 (by omega)
   obtain ⟨y1,y2⟩:=e2 (by omega)
   exact ⟨y1.trans x1,y2.trans x2⟩
 | @stm1 g b ts ts1 ts2 cs cs1 cs2 t r q h1 hl1 ht h2 i1 i2 =>
  intro P Q ho hp us ds hs hl
  cases ho with
  | stm o1 hn o3 =>
   obtain ⟨u1,d1,r1,s1,l1,q1,e1⟩:=i1 o1 hp us ds hs hl
   have et:ts1=ts:=by
    obtain ⟨k,rfl⟩:=runs_drop h1
    rw [List.length_drop] at hl1
    rcases Nat.eq_zero_or_pos k with rfl | hk
    ·rfl
    ·have:ts=[]:=List.length_eq_zero_iff.1 (by omega)
     subst this; simp
   subst et
   obtain ⟨-,rfl⟩:=e1 rfl
   obtain ⟨c2,d2,A,B,y,rfl,rfl,l2,hA,hB,hty⟩:=l1.last rfl
   have hy:srcT y=[]∧szT y≤1:=by
    obtain ⟨z1,z2⟩:=ht
    cases hty with
    | mk k x c d hcd =>
     rw [szT_mk] at z2
     have:c=[]:=by
      cases c with
      | nil=>rfl
      | cons a c=>rw [szL] at z2; cases a; rw [szT_mk] at z2; omega
     subst this
     rw [hcd.nil_left]
     exact ⟨z1,by rw [szT_mk,szL_nil]; omega⟩
   obtain ⟨n1,n2⟩:=hn _ hp
   rcases skp_sg ts1 with ⟨k1,k2⟩ | ⟨tt,rr,k1,k2,k3⟩
   ·exact absurd k2 n1
   rcases skp_sg u1 with ⟨m1,m2⟩ | ⟨u,qq,m1,m2,m3⟩
   ·exact absurd (hs ▸ m2) n1
   have hs':=hs
   rw [k2,m2] at hs'
   injection hs' with x1 x2
   subst x1
   cases h2 with
   | seq g1 g2 =>
    cases g2
    cases g1 with
    | node _ hk g3 =>
     cases g3
     refine ⟨la u1,_,.stm1 (by rw [← List.append_assoc] at r1; exact r1) rfl hy (.seq (.node _ hk (.bump u1 [])) (.ret _ _ _)),by rw [sg_la,sg_la,hs],?_,by rw [sg_la]; exact n2,fun e=>by rw [sg_la,k2] at e; simp at e⟩
     rw [List.append_assoc,List.append_assoc]
     refine .snoc _ _ _ _ _ _ l2 hA hB (.mk _ _ _ _ ?_)
     rw [k1,m1,List.nil_append,List.nil_append]
     have:=LE.snoc [] [] _ _ _ _ .nil (split_trivia ts1) (split_trivia u1) (.leaf u)
     simpa using this
 | @stm2 g b ts ts1 ts2 cs cs1 cs2 r q h1 hl1 h2 i1 i2 =>
  intro P Q ho hp us ds hs hl
  cases ho with
  | stm o1 hn o3 =>
   obtain ⟨u1,d1,r1,s1,l1,q1,e1⟩:=i1 o1 hp us ds hs hl
   obtain ⟨u2,d2,r2,s2,l2,q2,e2⟩:=i2 o3 ⟨_,q1⟩ u1 d1 s1 l1
   have hne:u1.length ≠ us.length:=by
    intro e
    obtain ⟨k,rfl⟩:=runs_drop r1
    rw [List.length_drop] at e
    have eu:us.drop k=us:=by
     rcases Nat.eq_zero_or_pos k with rfl | hk
     ·rfl
     ·have:us=[]:=List.length_eq_zero_iff.1 (by omega)
      subst this; simp
    rw [eu,hs] at s1
    exact hl1 (by rw [(e1 (by rw [← s1])).1])
   refine ⟨u2,d2,.stm2 r1 hne r2,s2,l2,q2,fun e=>?_⟩
   obtain ⟨k,rfl⟩:=runs_drop h1
   obtain ⟨k',rfl⟩:=runs_drop h2
   have a1:=sg_drop_le ts k
   have a2:=sg_drop_le (ts.drop k) k'
   obtain ⟨x1,x2⟩:=e1 (by omega)
   obtain ⟨y1,y2⟩:=e2 (by omega)
   exact ⟨y1.trans x1,y2.trans x2⟩
 | whil0 hc =>
  intro P Q ho hp us ds hs hl
  cases ho with
  | whil o ht hq =>
   have hc':=hc
   rw [ev_sg,← hs,← ev_sg] at hc'
   exact ⟨us,ds,.whil0 hc',hs,hl,hq _,fun _=>⟨rfl,rfl⟩⟩
 | whil1 hc h i =>
  intro P Q ho hp us ds hs hl
  cases ho with
  | whil o ht hq =>
   have hc1:=hc
   rw [ev_sg] at hc1
   have hc':=hc
   rw [ev_sg,← hs,← ev_sg] at hc'
   obtain ⟨u1,d1,r1,s1,l1,q1,e1⟩:=i o hc1 us ds hs hl
   exact ⟨u1,d1,.whil1 hc' r1,s1,l1,ht _ q1,e1⟩
 | @whil2 c g ts ts1 ts2 cs cs1 cs2 r hc h1 h2 i1 i2 =>
  intro P Q ho hp us ds hs hl
  cases ho with
  | whil o ht hq =>
   have hc1:=hc
   rw [ev_sg] at hc1
   have hc':=hc
   rw [ev_sg,← hs,← ev_sg] at hc'
   obtain ⟨u1,d1,r1,s1,l1,q1,e1⟩:=i1 o hc1 us ds hs hl
   obtain ⟨u2,d2,r2,s2,l2,q2,e2⟩:=i2 (P:=T) (Q:=Q) (.whil o ht hq) trivial u1 d1 s1 l1
   refine ⟨u2,d2,.whil2 hc' r1 r2,s2,l2,q2,fun e=>?_⟩
   obtain ⟨k,rfl⟩:=runs_drop h1
   obtain ⟨k',rfl⟩:=runs_drop h2
   have a1:=sg_drop_le ts k
   have a2:=sg_drop_le (ts.drop k) k'
   obtain ⟨x1,x2⟩:=e1 (by omega)
   obtain ⟨y1,y2⟩:=e2 (by omega)
   exact ⟨y1.trans x1,y2.trans x2⟩
 | insN ts cs t =>
  intro P Q ho hp us ds hs hl
  cases ho with
  | insN h =>
   obtain ⟨c1,d1,A,B,y,rfl,rfl,l1,hA,hB,ht⟩:=hl.last rfl
   refine ⟨us,_,by rw [← List.append_assoc]; exact .insN us _ y,hs,?_,h _ hp,fun _=>⟨rfl,rfl⟩⟩
   have:=(LE.snoc _ _ _ _ _ _ l1 hA hB (TE.mk 0 [] [] [] .nil)).one ht
   simpa [List.append_assoc] using this
 | @call f ts ts1 cs cs1 r h i =>
  intro P Q ho hp us ds hs hl
  cases ho with
  | call h2 hq =>
   obtain ⟨u1,d1,r1,s1,l1,q1,e1⟩:=i (hdf f) (fun e=>h2 e _ hp) us ds hs hl
   exact ⟨u1,d1,.call r1,s1,l1,hq _ _,e1⟩
end Pm
end

section
set_option maxRecDepth 100000
namespace Pm
theorem Ok.weak {P:Pr} {g:G} {Q:Bool→Pr} (h:Ok P g Q):∀ {P':Pr},(∀ s,P' s→P s)→Ok P' g Q:=by
 induction h with
 | ret h=>exact fun k=>.ret fun s hs=>h s (k s hs)
 | bump h=>exact fun k=>.bump fun s hs=>h s (k s hs)
 | put h=>exact fun k=>.put fun s hs=>h s (k s hs)
 | insN h=>exact fun k=>.insN fun s hs=>h s (k s hs)
 | seq h1 h2 i1 i2=>exact fun k=>.seq (i1 k) h2
 | node h i=>exact fun k=>.node (i k)
 | wrap h i=>exact fun k=>.wrap (i k)
 | ite h1 h2 i1 i2=>exact fun k=>.ite (i1 fun s hs=>⟨k s hs.1,hs.2⟩) (i2 fun s hs=>⟨k s hs.1,hs.2⟩)
 | bra h h1 h2 i i1 i2=>exact fun k=>.bra (i k) h1 h2
 | prog h h1 h2 i i1 i2=>exact fun k=>.prog (i k) (i1 k) h2
 | stm h h1 h2 i i2=>exact fun k=>.stm (i k) (fun s hs=>h1 s (k s hs)) h2
 | whil h ht hq i=>exact fun k=>.whil h ht hq
 | call h hq=>exact fun k=>.call (fun e s hs=>h e s (k s hs)) hq
theorem Ok.seqT {P:Pr} {a b:G} {Q:Bool→Pr} (h1:Ok P a TB) (h2:Ok T b Q):Ok P (.seq a b) Q:=.seq h1 (h2.weak fun _ _=>trivial)
theorem Ok.progT {P:Pr} {g a b:G} (h:Ok P g TB) (h1:Ok P a TB) (h2:Ok T b TB):Ok P (.prog g a b) TB:=.prog h h1 (h2.weak fun _ _=>trivial)
theorem Ok.retT {P:Pr} {b:Bool}:Ok P (.ret b) TB:=.ret fun _ _=>trivial
theorem Ok.putT {P:Pr} {k:Nat}:Ok P (.put k) TB:=.put fun _ _=>trivial
theorem Ok.insT {P:Pr}:Ok P .insN TB:=.insN fun _ _=>trivial
theorem Ok.bumpT {P:Pr} (h:∀ s,P s→s ≠ []):Ok P .bump TB:=.bump fun s hs=>⟨h s hs,trivial⟩
theorem Ok.whilT {P:Pr} {c:Cnd} {g:G} (h:Ok (fun s=>evs c s=true) g TB):Ok P (.whil c g) TB:=.whil h (fun _ _=>trivial) fun _=>trivial
theorem Ok.callT {P:Pr} {f:Nat} (h:f ≠ 2∧f ≠ 6):Ok P (.call f) TB:=.call (fun e=>by omega) fun _ _=>trivial
theorem ok_expect {P:Pr} (w:Bytes):Ok P (gExpect w) TB:=by
 refine .ite (.bumpT ?_) .putT
 rintro s ⟨_,h⟩ rfl
 simp [evs,rAt,atT,hd] at h
theorem ok_ident {P:Pr}:Ok P gIdent TB:=by
 refine .ite (.bumpT ?_) .putT
 rintro s ⟨_,h⟩ rfl
 simp [evs,rId,hd] at h
theorem at_ne {ws:List Bytes} {s:List Tok} (h:evs (rAt ws) s=true):s ≠ []:=by
 rintro rfl
 simp [evs,rAt,atT,hd] at h
theorem id_ne {s:List Tok} (h:evs rId s=true):s ≠ []:=by
 rintro rfl
 simp [evs,rId,hd] at h
theorem ok_opt {P:Pr} (w:Bytes) {g:G} (h:Ok T g TB):Ok P (gOpt w g) TB :=
 .ite (.seqT (.bumpT fun s hs=>at_ne hs.2) h) .putT
theorem ok_if {P:Pr} (ws:List Bytes) {g:G} (h:Ok T g TB):Ok P (gIf ws g) TB :=
 .ite (.seqT (.bumpT fun s hs=>at_ne hs.2) h) .retT
theorem ok_list {P:Pr} (cl:Bytes) {el:G} (h:Ok (fun s=>evs (gMore cl) s=true) el TB):Ok P (gList cl el) TB:=by
 refine .seqT (.whilT (.progT h (.node (.bumpT ?_)) (.ite .retT (ok_expect _)))) (ok_expect _)
 rintro s h rfl
 simp [evs,gMore,atT,hd] at h
theorem ok_c {P:Pr} {f:Nat} (h:f ≠ 2∧f ≠ 6):Ok P (.call f) TB:=.callT h
theorem ok_seg {P:Pr} (ty:Bool):Ok P (gSeg ty) TB:=by
 refine .node (.seqT ok_ident ?_)
 cases ty
 ·exact .retT
 ·exact ok_if _ (ok_list _ (ok_c (by decide)))
theorem ok_path {P:Pr} (ty:Bool):Ok P (gPath ty) TB :=
 .node (.seqT (ok_seg _) (.whilT (.seqT (.bumpT fun s hs=>at_ne hs) (ok_seg _))))
theorem ok_type {P:Pr}:Ok P gType TB:=by
 refine .ite (.node (.seqT (.bumpT fun s hs=>at_ne hs.2) (.seqT (ok_if _ .retT) (ok_c (by decide))))) (.ite (.node (.seqT (.bumpT fun s hs=>at_ne hs.2) (.seqT (ok_expect _) (.seqT (ok_list _ (ok_c (by decide))) (ok_opt _ (ok_c (by decide))))))) (.ite (ok_path _) .putT))
theorem ok_typeParam {P:Pr}:Ok P gTypeParam TB :=
 .ite (.node (.seqT (.bumpT fun s hs=>id_ne hs.2) (ok_if _ (.seqT (ok_path _) (.whilT (.seqT (.bumpT fun s hs=>at_ne hs) (ok_path _))))))) .retT
theorem ok_typeParams {P:Pr}:Ok P gTypeParams TB:=.node (ok_if _ (ok_list _ ok_typeParam))
theorem ok_param {P:Pr}:Ok P gParam TB:=.ite (.node (.seqT (.bumpT fun s hs=>id_ne hs.2) (ok_opt _ (ok_c (by decide))))) .retT
theorem ok_params {P:Pr} (cl:Bytes):Ok P (gParams cl) TB:=.node (ok_list _ ok_param)
theorem ok_function {P:Pr} (nb:Bool):Ok P (gFunction nb) TB:=by
 refine .seqT ok_ident (.seqT ok_typeParams (.seqT (ok_expect _) (.seqT (ok_params _) (.seqT (ok_opt _ (ok_c (by decide))) ?_))))
 cases nb
 ·exact .ite (.seqT (.bumpT fun s hs=>at_ne hs.2) .putT) (ok_c (by decide))
 ·exact ok_c (by decide)
theorem ok_data {P:Pr} (st:Bool):Ok P (gData st) TB:=by
 refine .seqT ok_ident (.seqT ok_typeParams (.seqT (ok_expect _) (ok_list _ (.ite ?_ .retT))))
 cases st
 ·exact .node (.seqT (.bumpT fun s hs=>id_ne hs.2) (ok_if _ (ok_list _ (ok_c (by decide)))))
 ·exact .node (.seqT (.bumpT fun s hs=>id_ne hs.2) (.seqT (ok_expect _) (ok_c (by decide))))
theorem ok_members {P:Pr}:Ok P gMembers TB :=
 .seqT (ok_expect _) (.seqT (.whilT (.ite (.node (.seqT (.bumpT fun s hs=>at_ne hs.2) (.seqT (ok_function _) .retT))) (.node (.seqT (.bumpT fun s hs=>at_ne hs.1) (.seqT ok_ident (.seqT (ok_opt _ (ok_c (by decide))) (ok_expect _))))))) (ok_expect _))
theorem ok_impl {P:Pr}:Ok P gImpl TB :=
 .seqT ok_typeParams (.seqT (ok_c (by decide)) (.seqT (.ite (.seqT (.bumpT fun s hs=>at_ne hs.2) (ok_c (by decide))) .insT) ok_members))
theorem ok_const {P:Pr}:Ok P gConst TB:=.seqT ok_ident (.seqT (ok_expect _) (.seqT (ok_c (by decide)) (.seqT (ok_expect _) (.seqT (ok_c (by decide)) (ok_expect _)))))
theorem ok_macro {P:Pr}:Ok P gMacro TB:=.seqT ok_ident (.seqT (ok_expect _) (.seqT (ok_params _) (.seqT (ok_expect _) (.seqT (ok_c (by decide)) (ok_expect _)))))
theorem at2_ne {ws:List Bytes} {s:List Tok} (h:evs (fun _ t _=>atT ws t) s=true):∃ a b r,s=a::b::r:=by
 match s,h with
 | [],h=>simp [evs,atT,hd] at h
 | [a],h=>simp [evs,atT,hd] at h
 | a::b::r,_=>exact ⟨a,b,r,rfl⟩
abbrev two:Bool→Pr:=fun r s=>r=true→∃ a b q,s=a::b::q
theorem ok_use {P:Pr}:Ok P gUse TB:=by
 refine .seqT (.bra (R:=two) (.node (.seqT (.node ok_ident) (.whil (R:=two) (.ite (.ret fun s hs _=>at2_ne hs.2) (.seq (R:=TB) (.bumpT fun s hs=>at_ne hs.1) (.seqT (.node ok_ident) (.ret fun s hs e=>by cases e)))) (fun s h=>h) fun s e=>by cases e))) (.seq (R:=fun _ s=>s ≠ []) (.bump fun s hs=>?_) (.bumpT fun s ⟨r,hs⟩=>hs)) (ok_if _ ok_ident)) (ok_expect _)
 obtain ⟨a,b,q,rfl⟩:=hs rfl
 exact ⟨by simp,by simp⟩
theorem ok_body {P:Pr} (k:Nat):Ok P (gBody k) TB:=by
 unfold gBody
 split
 ·exact ok_use
 ·exact ok_function _
 ·exact ok_data _
 ·exact ok_data _
 ·exact .seqT ok_ident ok_members
 ·exact ok_impl
 ·exact ok_const
 ·exact ok_macro
theorem is_ne {k:Nat} {s:List Tok} (h:evs (itemIs k) s=true):s ≠ []∧(evs (rAt [wPub]) s=true→s.drop 1 ≠ []):=by
 match s,h with
 | [],h=>simp [evs,itemIs,atT,hd] at h
 | [a],h =>
  refine ⟨by simp,fun e=>?_⟩
  have e':atT [wPub] a=true:=e
  simp only [evs,itemIs,hd,List.drop_nil,List.drop_succ_cons,e',if_true] at h
  simp at h
 | a::b::r,_=>exact ⟨by simp,fun _=>by simp⟩
theorem ok_itemAs {P:Pr} (k:Nat) (h:∀ s,P s→evs (itemIs k) s=true):Ok P (gItemAs k) TB:=by
 refine .node (.seq (R:=fun _ s=>s ≠ []) (.ite (.seq (R:=fun _ s=>s ≠ []) (.bump fun s hs=>?_) (.ret fun s ⟨_,hs⟩=>hs)) (.ret fun s hs=>(is_ne (h s hs.1)).1)) (.seqT (.bumpT fun s ⟨_,hs⟩=>hs) (ok_body k)))
 exact ⟨(is_ne (h s hs.1)).1,(is_ne (h s hs.1)).2 hs.2⟩
theorem ok_skip {P:Pr} (h:∀ s,P s→s ≠ []):Ok P gSkip TB:=by
 refine .node (.seqT (.bumpT h) (.whilT (.bumpT ?_)))
 rintro s h rfl
 simp [evs,hd] at h
theorem ok_item {P:Pr} (h:∀ s,P s→s ≠ []):Ok P gItem TB:=by
 unfold gItem
 refine .ite (ok_itemAs 2 fun s hs=>hs.2) (.ite (ok_itemAs 3 fun s hs=>hs.2) (.ite (ok_itemAs 4 fun s hs=>hs.2) (.ite (ok_itemAs 5 fun s hs=>hs.2) (.ite (ok_itemAs 6 fun s hs=>hs.2) (.ite (ok_itemAs 7 fun s hs=>hs.2) (.ite (ok_itemAs 8 fun s hs=>hs.2) (.ite (ok_itemAs 9 fun s hs=>hs.2) (ok_skip fun s hs=>h s hs.1.1.1.1.1.1.1.1))))))))
theorem eof_ne {s:List Tok} (h:evs (fun t _ _=>!(t.1 == 100)) s=true):s ≠ []:=by
 rintro rfl
 simp [evs,hd] at h
theorem ok_file {P:Pr}:Ok P gFile TB:=.whilT (.seqT (ok_item fun s hs=>eof_ne hs) .retT)
theorem ok_block {P:Pr}:Ok P gBlock TB:=by
 refine .node (.seqT (ok_expect _) (.seqT (.bra (R:=TB) (.whilT (.call (fun _ s hs=>?_) fun _ _=>trivial)) .retT .putT) (ok_expect _)))
 rintro rfl
 simp [evs,hd] at hs
theorem ok_let {P:Pr} (h:∀ s,P s→s ≠ []):Ok P gLet TB:=.node (.seqT (.bumpT h) (.seqT (ok_c (by decide)) (.seqT (ok_opt _ (ok_c (by decide))) (.seqT (ok_expect _) (.seqT (ok_c (by decide)) (ok_expect _))))))
theorem ok_while {P:Pr} (h:∀ s,P s→s ≠ []):Ok P gWhile TB:=.node (.seqT (.bumpT h) (.seqT (ok_c (by decide)) (ok_c (by decide))))
theorem ok_return {P:Pr} (h:∀ s,P s→s ≠ []):Ok P gReturn TB:=.node (.seqT (.bumpT h) (.seqT (.ite .putT (ok_c (by decide))) (ok_expect _)))
theorem ok_stm {P:Pr} (bl:Bool) {g:G} (h:∀ s,P s→s ≠ []) (hg:Ok P g TB):Ok P (gStm bl g) TB:=by
 refine .stm hg (fun s hs=>⟨h s hs,trivial⟩) (.ite .retT (.ite (.seqT (.wrap (.seqT (.bumpT fun s hs=>at_ne hs.2) (.seqT (ok_c (by decide)) (ok_expect _)))) .retT) (.seqT (.wrap (.ite (.bumpT fun s hs=>at_ne hs.2) ?_)) .retT)))
 cases bl
 ·exact .putT
 ·exact .retT
theorem ok_statement {P:Pr} (h:∀ s,P s→s ≠ []):Ok P gStatement TB :=
 .ite (.seqT (ok_let fun s hs=>at_ne hs.2) .retT) (.ite (.seqT (ok_while fun s hs=>at_ne hs.2) .retT) (.ite (.seqT (ok_return fun s hs=>at_ne hs.2) .retT) (.ite (ok_stm true (fun s hs=>at_ne hs.2) (ok_c (by decide))) (ok_stm false (fun s hs=>h s hs.1.1.1.1) (ok_c (by decide))))))
theorem ok_binary {P:Pr} (l:Nat):Ok P (gBinary l) TB :=
 .seqT (ok_c (by omega)) (.seqT (.whilT (.seqT (.wrap (.seqT (.bumpT fun s hs=>at_ne hs) (ok_c (by omega)))) .retT)) .retT)
theorem ok_args {P:Pr} (h:∀ s,P s→s ≠ []):Ok P gArgs TB:=.seqT (.bumpT h) (ok_list _ (ok_c (by decide)))
theorem call_ne {s:List Tok} (h:evs (fun _ t u=>t.1 == 103 && atT [wLPar] u) s=true):∃ a b c r,s=a::b::c::r:=by
 match s,h with
 | [],h=>simp [evs,atT,hd] at h
 | [a],h=>simp [evs,atT,hd] at h
 | [a,b],h=>simp [evs,atT,hd] at h
 | a::b::c::r,_=>exact ⟨a,b,c,r,rfl⟩
theorem ok_postfix {P:Pr}:Ok P gPostfix TB:=by
 refine .whilT (.ite (.wrap (ok_args fun s hs=>at_ne hs.1)) (.ite (.wrap (.seq (R:=fun _ s=>∃ a b r,s=a::b::r) (.bump fun s hs=>?_) (.seq (R:=fun _ s=>s ≠ []) (.bump fun s hs=>?_) (ok_args fun s ⟨_,hs⟩=>hs)))) (.wrap (.seqT (.bumpT fun s hs=>at_ne hs.1.1) ok_ident))))
 ·obtain ⟨a,b,c,r,rfl⟩:=call_ne hs.2
  exact ⟨by simp,b,c,r,rfl⟩
 ·obtain ⟨_,a,b,r,rfl⟩:=hs
  exact ⟨by simp,by simp⟩
theorem ok_unary {P:Pr}:Ok P gUnary TB :=
 .ite (.node (.seqT (.bumpT fun s hs=>at_ne hs.2) (ok_c (by decide)))) (.ite (.node (.seqT (.bumpT fun s hs=>at_ne hs.2) (.seqT (ok_if _ .retT) (ok_c (by decide))))) (.seqT (ok_c (by decide)) ok_postfix))
theorem ok_arm {P:Pr}:Ok P gArm TB:=.ite (.node (.seqT (ok_c (by decide)) (.seqT (ok_expect _) (ok_c (by decide))))) .retT
theorem ok_match {P:Pr} (h:∀ s,P s→s ≠ []):Ok P gMatch TB:=.node (.seqT (.bumpT h) (.seqT (ok_c (by decide)) (.seqT (ok_expect _) (ok_list _ ok_arm))))
theorem ok_init {P:Pr}:Ok P gInit TB:=.ite (.node (.seqT (.bumpT fun s hs=>id_ne hs.2) (.seqT (ok_expect _) (ok_c (by decide))))) .retT
theorem ok_lit {P:Pr} (h:∀ s,P s→s ≠ []):Ok P gLit TB:=.node (.seqT (.bumpT h) (.seqT (ok_path _) (.seqT (ok_expect _) (ok_list _ ok_init))))
theorem ok_lambda {P:Pr} (h:∀ s,P s→s ≠ []):Ok P gLambda TB:=.node (.seqT (.ite (.seqT (.bumpT fun s hs=>h s hs.1) (.node .retT)) (.seqT (.bumpT fun s hs=>h s hs.1) (ok_params _))) (ok_c (by decide)))
theorem ok_paren {P:Pr} (h:∀ s,P s→s ≠ []):Ok P gParen TB:=.node (.seqT (.bumpT h) (.seqT (ok_c (by decide)) (ok_expect _)))
theorem kind_ne {k:Nat} (hk:k ≠ 100) {s:List Tok} (h:evs (rKind k) s=true):s ≠ []:=by
 rintro rfl
 simp [evs,rKind,hd] at h
 exact hk h.symm
theorem bang_ne {s:List Tok} (h:evs (fun t u _=>atT [wBang] t && atT [wLPar] u) s=true):∃ a b r,s=a::b::r:=by
 match s,h with
 | [],h=>simp [evs,atT,hd] at h
 | [a],h=>simp [evs,atT,hd] at h
 | a::b::r,_=>exact ⟨a,b,r,rfl⟩
theorem ok_primary {P:Pr}:Ok P gPrimary TB:=by
 refine .ite (.node (.bumpT fun s hs=>kind_ne (by decide) hs.2)) (.ite (.node (.bumpT fun s hs=>kind_ne (by decide) hs.2)) (.ite (.node (.bumpT fun s hs=>at_ne hs.2)) (.ite (.seqT (ok_path _) (.ite (.wrap (.seq (R:=fun _ s=>s ≠ []) (.bump fun s hs=>?_) (ok_args fun s ⟨_,hs⟩=>hs))) .retT)) (.ite (ok_paren fun s hs=>at_ne hs.2) (.ite (ok_c (by decide)) (.ite (.call (fun _ s hs=>at_ne hs.2) fun _ _=>trivial) (.ite (ok_match fun s hs=>at_ne hs.2) (.ite (ok_lit fun s hs=>at_ne hs.2) (.ite (ok_lambda fun s hs=>at_ne hs.2) .putT)))))))))
 obtain ⟨a,b,r,rfl⟩:=bang_ne hs.2
 exact ⟨by simp,by simp⟩
theorem ok_ifExpr {P:Pr} (h:∀ s,P s→s ≠ []):Ok P gIfExpr TB:=.node (.seqT (.bumpT h) (.seqT (ok_c (by decide)) (.seqT (ok_c (by decide)) (ok_opt _ (.ite (.call (fun _ s hs=>at_ne hs.2) fun _ _=>trivial) (ok_c (by decide)))))))
theorem ok_pattern {P:Pr}:Ok P gPattern TB:=by
 refine .ite (.node (.seqT (.bumpT fun s hs=>at_ne hs.2) ok_ident)) (.ite (.node (.bumpT ?_)) (.ite (.node (.bumpT ?_)) (.ite (.node (.seqT (ok_path _) (ok_if _ (ok_list _ (ok_c (by decide)))))) (.ite (.node (.bumpT fun s hs=>kind_ne (by decide) hs.2)) (.ite (.node (.bumpT fun s hs=>at_ne hs.2)) .putT)))))
 ·rintro s ⟨_,h⟩ rfl
  simp [evs,hd] at h
 ·rintro s ⟨_,h⟩ rfl
  simp [evs,hd] at h
theorem defs_ok (f:Nat):Ok (fun s=>f=2∨f=6→s ≠ []) (defs f) TB:=by
 unfold defs
 split
 ·exact ok_type
 ·exact ok_block
 ·exact ok_statement fun s hs=>hs (.inl rfl)
 ·exact ok_primary
 ·exact ok_pattern
 ·exact ok_ifExpr fun s hs=>hs (.inr rfl)
 ·exact ok_binary 0
 ·exact ok_binary 1
 ·exact ok_binary 2
 ·exact ok_binary 3
 ·exact ok_binary 4
 ·exact ok_unary
theorem file_cong {ts us:List Tok} (hs:sg us=sg ts) {es:List Tree} {t':List Tok} (h:Runs gFile ts [] false t' es):∃ u' ds,Runs gFile us [] false u' ds∧sg u'=sg t'∧LE es ds:=by
 obtain ⟨u',ds,h1,h2,h3,_⟩:=cong defs_ok h (P:=T) ok_file trivial us [] hs .nil
 exact ⟨u',ds,h1,h2,h3⟩
end Pm
end

section
namespace LexF
open Go Pm
theorem sg_spaces (w s:List UInt8) (hw:∀ c ∈ w,isSp c=true):sg (tokz (w++s))=sg (tokz s):=by
 have key:∀ l:List UInt8,sg (tokz l)=sg (tokz (l.dropWhile isSp)):=by
  intro l
  cases l with
  | nil=>rfl
  | cons c r =>
   by_cases h:isSp c=true
   ·rw [tokz_cons (List.cons_ne_nil _ _)]
    have e:first (c::r)=(scanN isSp (c::r),101):=by rw [first,if_pos h]
    rw [e,sg_cons,if_pos (by rfl)]
    simp only
    rw [drop_scan]
   ·rw [List.dropWhile_cons,if_neg h]
 rw [key (w++s),key s]
 congr 2
 induction w with
 | nil=>rfl
 | cons c w ih =>
  rw [List.cons_append,List.dropWhile_cons,if_pos (hw c (List.mem_cons_self ..))]
  exact ih fun d hd=>hw d (List.mem_cons_of_mem _ hd)
def trivs:List (List UInt8):=[[32],[10],[10,47,47,32,110,111,116,101,10],[9]]
theorem sg_triv {tr:List UInt8} (h:tr ∈ trivs) (s:List UInt8):sg (tokz (tr++s))=sg (tokz s):=by
 have sp:∀ c:UInt8,c=32∨c=10∨c=9→∀ s,sg (tokz ([c]++s))=sg (tokz s):=fun c hc s=>sg_spaces _ _ fun d hd=>by
  cases List.mem_singleton.1 hd
  rcases hc with rfl | rfl | rfl <;> decide +kernel
 unfold trivs at h
 rcases List.mem_cons.1 h with rfl | h
 ·exact sp 32 (.inl rfl) s
 rcases List.mem_cons.1 h with rfl | h
 ·exact sp 10 (.inr (.inl rfl)) s
 rcases List.mem_cons.1 h with rfl | h
 ·show sg (tokz ([10]++(47::47::32::110::111::116::101::10::s)))=_
  rw [sp 10 (.inr (.inl rfl)),tokz_cons (List.cons_ne_nil _ _)]
  have e:first (47::47::32::110::111::116::101::10::s)=(7,102):=by
   rw [first,if_neg (by decide +kernel),if_pos (by simp [Lib.hasPrefix,List.isPrefixOf])]
   simp [scanN,List.takeWhile_cons,notNL]
  rw [e,sg_cons,if_pos (by rfl)]
  exact sp 10 (.inr (.inl rfl)) s
 ·cases List.mem_singleton.1 h
  exact sp 9 (.inr (.inr rfl)) s
def spc (d:UInt8):Prop:=d=32∨d=10∨d=9
theorem spc_facts {d:UInt8} (h:spc d):isWord d=false∧isDig d=false∧d ≠ 47∧∀ w ∈ two,d ∉ w:=by
 rcases h with rfl | rfl | rfl <;> decide +kernel
theorem scan_stop {p:UInt8→Bool} {d:UInt8} (hd:p d=false) (z:List UInt8):∀ l:List UInt8,scanN p (l.take (scanN p l)++d::z)=scanN p l
 | []=>by simp [scanN,List.takeWhile_cons,hd]
 | c::r=>by
  have ih:=scan_stop hd z r
  unfold scanN at ih ⊢
  rw [List.takeWhile_cons]
  cases hc:p c with
  | true =>
   simp only [if_true,List.length_cons,List.take_succ_cons,List.cons_append]
   rw [List.takeWhile_cons,hc]
   simp only [if_true,List.length_cons,ih]
  | false=>simp [List.takeWhile_cons,hd]
theorem first_cut (c:UInt8) (r:List UInt8) {d:UInt8} (hd:spc d) (z:List UInt8) (h1:¬ isSp c=true) (h2:¬ Lib.hasPrefix (c::r) [47,47]=true) (h3:(first (c::r)).2 ≠ 108) :
  first ((c::r).take (first (c::r)).1++d::z)=first (c::r):=by
 obtain ⟨f1,f2,f3,f4⟩:=spc_facts hd
 have hb:=first_bounds (c::r) (List.cons_ne_nil _ _)
 obtain ⟨n,hn⟩:∃ n,(first (c::r)).1=n + 1:=⟨(first (c::r)).1 - 1,by omega⟩
 have e:(c::r).take (first (c::r)).1++d::z=c::(r.take n++d::z):=by rw [hn]; rfl
 have pre:¬ Lib.hasPrefix (c::(r.take n++d::z)) [47,47]=true:=by
  intro q
  apply h2
  cases n with
  | zero =>
   simp [Lib.hasPrefix,List.isPrefixOf] at q
   exact absurd q.2.symm f3
  | succ n =>
   cases r with
   | nil =>
    simp [Lib.hasPrefix,List.isPrefixOf] at q
    exact absurd q.2.symm f3
   | cons b r=>simp [Lib.hasPrefix,List.isPrefixOf] at q ⊢; exact q
 rw [e]
 rw [first,if_neg h1,if_neg h2] at h3 hn
 rw [first,first,if_neg h1,if_neg h1,if_neg pre,if_neg h2]
 by_cases c3:isLet c=true
 ·rw [if_pos c3] at hn
  rw [if_pos c3,if_pos c3]
  have hw:scanN isWord (c::r)=n + 1:=by split at hn <;> exact hn
  have k:=scan_stop f1 z (c::r)
  rw [hw] at k
  have k:scanN isWord (c::(r.take n++d::z))=n + 1:=k
  have kt:(c::(r.take n++d::z)).take (n + 1)=(c::r).take (n + 1):=by
   have hl:n≤r.length:=by
    have:=scanN_le isWord (c::r); rw [hw] at this; simpa using this
   rw [List.take_succ_cons,List.take_succ_cons,List.take_append_of_le_length (by rw [List.length_take]; omega),List.take_take,Nat.min_self]
  rw [k,hw,kt]
 rw [if_neg c3] at h3 hn
 rw [if_neg c3,if_neg c3]
 by_cases c4:isDig c=true
 ·rw [if_pos c4] at hn
  rw [if_pos c4,if_pos c4]
  have hw:scanN isDig (c::r)=n + 1:=hn
  have k:=scan_stop f2 z (c::r)
  rw [hw] at k
  rw [hw]
  exact congrArg (·,105) k
 rw [if_neg c4] at h3 hn
 rw [if_neg c4,if_neg c4]
 by_cases c5:c=34
 ·rw [if_pos c5] at h3 hn
  rw [if_pos c5,if_pos c5]
  unfold scanStr at h3 hn ⊢
  simp only [List.drop_succ_cons,List.drop_zero] at h3 hn ⊢
  cases hs:sc r 1 with
  | none=>rw [hs] at h3; exact absurd rfl h3
  | some m =>
   rw [hs] at hn
   have hm:m=n + 1:=hn
   have:=sc_bounds _ _ _ hs
   rw [sc_look (d::z) r 1 m n hs (by omega) (by omega)]
 rw [if_neg c5] at h3 hn
 rw [if_neg c5,if_neg c5]
 by_cases c6:1 < (c::r).length∧(c::r).take 2 ∈ two
 ·rw [if_pos c6] at hn
  have hn:n=1:=by have:(2:Nat)=n + 1:=hn; omega
  subst hn
  rw [if_pos c6]
  obtain ⟨b,r,rfl⟩:∃ b q,r=b::q:=by
   cases r with
   | nil=>simp at c6
   | cons b q=>exact ⟨b,q,rfl⟩
  rw [if_pos ⟨by simp,by simpa using c6.2⟩]
 rw [if_neg c6] at h3 hn
 rw [if_neg c6]
 have hn:n=0:=by
  split at hn
  ·have:(1:Nat)=n + 1:=hn; omega
  ·have:(1:Nat)=n + 1:=hn; omega
 subst hn
 rw [if_neg]
 rintro ⟨-,k⟩
 exact f4 _ k (by simp)
theorem triv_head {tr:List UInt8} (h:tr ∈ trivs):∃ d z,tr=d::z∧spc d:=by
 unfold trivs at h
 rcases List.mem_cons.1 h with rfl | h
 ·exact ⟨_,_,rfl,.inl rfl⟩
 rcases List.mem_cons.1 h with rfl | h
 ·exact ⟨_,_,rfl,.inr (.inl rfl)⟩
 rcases List.mem_cons.1 h with rfl | h
 ·exact ⟨_,_,rfl,.inr (.inl rfl)⟩
 ·cases List.mem_singleton.1 h
  exact ⟨_,_,rfl,.inr (.inr rfl)⟩
theorem triv_cases {tr:List UInt8} (h:tr ∈ trivs):(∃ d,tr=[d]∧notNL d=true)∨∃ z,tr=10::z:=by
 unfold trivs at h
 rcases List.mem_cons.1 h with rfl | h
 ·exact .inl ⟨32,rfl,rfl⟩
 rcases List.mem_cons.1 h with rfl | h
 ·exact .inr ⟨_,rfl⟩
 rcases List.mem_cons.1 h with rfl | h
 ·exact .inr ⟨_,rfl⟩
 ·cases List.mem_singleton.1 h
  exact .inl ⟨9,rfl,rfl⟩
theorem scan_app_all {p:UInt8→Bool} (z:List UInt8):∀ l:List UInt8,(∀ c ∈ l,p c=true)→scanN p (l++z)=l.length + scanN p z
 | [],_=>by simp
 | c::l,h=>by
  have ih:=scan_app_all z l fun d hd=>h d (List.mem_cons_of_mem _ hd)
  unfold scanN at ih ⊢
  rw [List.cons_append,List.takeWhile_cons,if_pos (h c (List.mem_cons_self ..)),List.length_cons,ih,List.length_cons]; omega
theorem take_scan_all (p:UInt8→Bool) (l:List UInt8):∀ c ∈ l.take (scanN p l),p c=true:=by
 have e:l.take (scanN p l)=l.takeWhile p:=by
  unfold scanN
  conv=>lhs; arg 2; rw [← List.takeWhile_append_dropWhile (p:=p) (l:=l)]
  rw [List.take_left]
 rw [e]
 exact fun c hc=>List.all_eq_true.1 List.all_takeWhile c hc
theorem ins_one {tr:List UInt8} (h:tr ∈ trivs) (l:List UInt8) (hl:l ≠ []) (h8:(first l).2 ≠ 108):sg (tokz (l.take (first l).1++(tr++l.drop (first l).1)))=sg (tokz l):=by
 obtain ⟨c,r,rfl⟩:∃ c r,l=c::r:=by
  cases l with
  | nil=>exact absurd rfl hl
  | cons c r=>exact ⟨c,r,rfl⟩
 have hb:=first_bounds (c::r) hl
 rw [tokz_cons hl,sg_cons]
 by_cases h1:isSp c=true
 ·have e:first (c::r)=(scanN isSp (c::r),101):=by rw [first,if_pos h1]
  rw [e,if_pos (by rfl)]
  simp only
  rw [sg_spaces _ _ (take_scan_all _ _),sg_triv h]
 by_cases h2:Lib.hasPrefix (c::r) [47,47]=true
 ·have e:first (c::r)=(scanN notNL (c::r),102):=by rw [first,if_neg h1,if_pos h2]
  rw [e,if_pos (by rfl)]
  rw [e] at hb
  simp only at hb ⊢
  have al:=take_scan_all notNL (c::r)
  have hdr:=drop_scan notNL (c::r)
  generalize hm:scanN notNL (c::r)=m at *
  have hc7:c=47∧∃ q,r=47::q:=by
   cases r with
   | nil=>simp [Lib.hasPrefix,List.isPrefixOf] at h2
   | cons b q=>simp [Lib.hasPrefix,List.isPrefixOf] at h2; exact ⟨h2.1.symm,q,by rw [h2.2]⟩
  obtain ⟨rfl,q,rfl⟩:=hc7
  have hm2:2≤m:=by rw [← hm]; simp [scanN,List.takeWhile_cons,notNL]
  have pre:∀ z,Lib.hasPrefix ((47::47::q).take m++z) [47,47]=true∧∃ w,(47::47::q).take m++z=47::w:=fun z=>by
   obtain ⟨k,rfl⟩:∃ k,m=k + 2:=⟨m - 2,by omega⟩
   exact ⟨by simp [Lib.hasPrefix,List.isPrefixOf],_,rfl⟩
  have hlen:((47::47::q).take m).length=m:=by rw [List.length_take]; omega
  have f:∀ z,first ((47::47::q).take m++z)=(m + scanN notNL z,102):=fun z=>by
   obtain ⟨p1,w,p2⟩:=pre z
   have e2:=scan_app_all z _ al
   rw [hlen] at e2
   rw [p2] at p1 e2 ⊢
   rw [first,if_neg h1,if_pos p1,e2]
  have ne:∀ z,(47::47::q).take m++z ≠ []:=fun z=>by
   obtain ⟨p1,w,p2⟩:=pre z
   rw [p2]; exact List.cons_ne_nil _ _
  rw [tokz_cons (ne _),f,sg_cons,if_pos (by rfl)]
  simp only
  have dr:∀ z k,((47::47::q).take m++z).drop (m + k)=z.drop k:=fun z k=>by
   rw [← List.drop_drop,List.drop_left' hlen]
  rw [dr]
  rcases triv_cases h with ⟨d,rfl,hd⟩ | ⟨z,rfl⟩
  ·have hz:scanN notNL ((47::47::q).drop m)=0:=by
    rw [hdr]
    cases hk:(47::47::q).dropWhile notNL with
    | nil=>rfl
    | cons b w =>
     have:=List.head?_dropWhile_not (p:=notNL) (l:=47::47::q)
     rw [hk] at this
     have this:notNL b=false:=this
     simp [scanN,List.takeWhile_cons,this]
   have e3:scanN notNL ([d]++(47::47::q).drop m)=1:=by
    have:=scan_app_all ((47::47::q).drop m) [d] (fun c hc=>by cases List.mem_singleton.1 hc; exact hd)
    rw [this,hz]; rfl
   rw [e3]; rfl
  ·have e3:scanN notNL ((10::z)++(47::47::q).drop m)=0:=by simp [scanN,List.takeWhile_cons,notNL]
   rw [e3,List.drop_zero,sg_triv h]
 ·obtain ⟨d,z,rfl,hd⟩:=triv_head h
  have e:=first_cut c r hd (z++(c::r).drop (first (c::r)).1) h1 h2 h8
  have hlen:((c::r).take (first (c::r)).1).length=(first (c::r)).1:=by rw [List.length_take]; omega
  rw [← List.cons_append] at e
  generalize hL:(c::r).take (first (c::r)).1++(d::z++(c::r).drop (first (c::r)).1)=L at *
  have hne:L ≠ []:=by
   rw [← hL]; intro q
   have:=congrArg List.length q
   rw [List.length_append,hlen] at this
   simp at this
  have e1:L.take (first (c::r)).1=(c::r).take (first (c::r)).1:=by rw [← hL,List.take_left' hlen]
  have e2:L.drop (first (c::r)).1=d::z++(c::r).drop (first (c::r)).1:=by rw [← hL,List.drop_left' hlen]
  rw [tokz_cons hne,sg_cons,e,e1,e2,sg_triv h]
theorem srcOfT_cons (t:Tok) (ts:List Tok):srcOfT (t::ts)=t.2++srcOfT ts:=by simp [srcOfT]
theorem src_cut (l:List UInt8) (k:Nat):srcOfT ((tokz l).take k)++srcOfT ((tokz l).drop k)=l:=by
 have e:=tokz_src _ l (Nat.le_refl _)
 conv=>rhs; rw [← e]
 rw [srcOfT,srcOfT,srcOfT,← List.flatten_append,← List.map_append,List.take_append_drop]
theorem ins_any {tr:List UInt8} (h:tr ∈ trivs):∀ (n:Nat) (l:List UInt8),l.length≤n→(∀ t ∈ tokz l,t.1 ≠ 108)→∀ k,sg (tokz (srcOfT ((tokz l).take k)++(tr++srcOfT ((tokz l).drop k))))=sg (tokz l):=by
 intro n
 induction n with
 | zero =>
  intro l hl _ k
  have:l=[]:=List.length_eq_zero_iff.1 (by omega)
  subst this
  rw [tokz_nil,List.take_nil,List.drop_nil]
  exact sg_triv h []
 | succ n ih =>
  intro l hn h8 k
  by_cases hl:l=[]
  ·subst hl
   rw [tokz_nil,List.take_nil,List.drop_nil]
   exact sg_triv h []
  cases k with
  | zero =>
   rw [List.take_zero,List.drop_zero,tokz_src _ l (Nat.le_refl _)]
   exact sg_triv h l
  | succ k =>
   have hb:=first_bounds l hl
   have hlen:(l.take (first l).1).length=(first l).1:=by rw [List.length_take]; omega
   have hz:=tokz_cons hl
   have h80:(first l).2 ≠ 108:=h8 ((first l).2,l.take (first l).1) (by rw [hz]; exact List.mem_cons_self ..)
   rw [hz,List.take_succ_cons,List.drop_succ_cons,srcOfT_cons]
   have h8':∀ t ∈ tokz (l.drop (first l).1),t.1 ≠ 108:=fun t ht=>h8 t (by rw [hz]; exact List.mem_cons_of_mem _ ht)
   generalize hX:srcOfT ((tokz (l.drop (first l).1)).take k)=X
   by_cases hX0:X=[]
   ·have hd:srcOfT ((tokz (l.drop (first l).1)).drop k)=l.drop (first l).1:=by
     have e':=src_cut (l.drop (first l).1) k
     rw [hX,hX0] at e'
     exact e'
    rw [hX0,List.append_nil,hd,← hz]
    exact ins_one h l hl h80
   ·have i:=ih (l.drop (first l).1) (by rw [List.length_drop]; omega) h8' k
    rw [hX] at i
    have hXp:X=(l.drop (first l).1).take X.length:=by
     have e':=src_cut (l.drop (first l).1) k
     rw [hX] at e'
     rw [← e',List.take_left]
    have hXl:0 < X.length:=List.length_pos_iff.2 hX0
    have hXd:X.length≤(l.drop (first l).1).length:=by rw [hXp,List.length_take]; omega
    have hp:l.take (first l).1++X=l.take ((first l).1 + X.length):=by
     rw [List.take_add]; congr 1
    generalize hR:tr++srcOfT ((tokz (l.drop (first l).1)).drop k)=R at *
    have hf:=first_look l R ((first l).1 + X.length) hl (by omega) (by rw [List.length_drop] at hXd; omega)
    rw [← hp,List.append_assoc] at hf
    rw [List.append_assoc]
    have hne:l.take (first l).1++(X++R) ≠ []:=by
     intro q
     have:=congrArg List.length q
     rw [List.length_append,hlen] at this
     simp at this; omega
    rw [tokz_cons hne,hf,List.take_left' hlen,List.drop_left' hlen,sg_cons,sg_cons,i]
end LexF
end

section
namespace Pm
inductive Items:List Tok→List Tree→List Tok→Prop
 | done (ts:List Tok) (h:(pk ts).1=100):Items ts [] ts
 | step {ts t1 t':List Tok} {x:Tree} {es:List Tree} {b:Bool} (h:(pk ts).1 ≠ 100) (hi:Runs gItem ts [] b t1 [x]) (hr:Items t1 es t'):Items ts (x::es) t'
abbrev bl (ts:List Tok):Nat:=(srcK ts).length
theorem bl_cons (t:Tok) (ts:List Tok):bl (t::ts)=t.2.length + bl ts:=by unfold bl; rw [srcK,List.length_append]
theorem skp_all {ts:List Tok} (h:∀ t ∈ ts,triv t=true):skp ts=[]:=by
 induction ts with
 | nil=>rfl
 | cons t ts ih =>
  unfold skp at *
  rw [List.dropWhile_cons,if_pos (h t (List.mem_cons_self ..))]
  exact ih fun u hu=>h u (List.mem_cons_of_mem _ hu)
theorem end_drop {ts:List Tok} (hk:∀ t ∈ ts,t.1 ≠ 100) (h:(pk ts).1=100):(∀ t ∈ ts,triv t=true)∧∀ i,(pk (ts.drop i)).1=100:=by
 have hs:skp ts=[]:=by
  cases hs:skp ts with
  | nil=>rfl
  | cons t r =>
   exfalso
   have hm:t ∈ ts:=by rw [← skp_split ts,hs]; exact List.mem_append_right _ (List.mem_cons_self ..)
   rw [pk,hs] at h
   exact hk t hm h
 have ht:∀ t ∈ ts,triv t=true:=by
  have:=skp_split ts
  rw [hs,List.append_nil] at this
  rw [← this]
  exact fun t ht=>List.all_eq_true.1 List.all_takeWhile t ht
 refine ⟨ht,fun i=>?_⟩
 have:skp (ts.drop i)=[]:=skp_all fun t h=>ht t (List.mem_of_mem_drop h)
 rw [pk,this]; rfl
def keepN (a:Nat):Nat→List Tok→Nat
 | _,[]=>0
 | o,t::r=>if o + t.2.length < a then keepN a (o + t.2.length) r + 1 else 0
theorem keepN_app {a:Nat}:∀ {P r:List Tok} {o:Nat},o + bl P < a→keepN a o (P++r)=P.length + keepN a (o + bl P) r
 | [],r,o,h=>by rw [List.nil_append,List.length_nil,Nat.zero_add]; rfl
 | t::P,r,o,h=>by
  rw [bl_cons] at h ⊢
  rw [List.cons_append,keepN,if_pos (by omega),keepN_app (by omega),List.length_cons]
  rw [Nat.add_assoc o]; omega
def Ed (a o:Nat) (ts us:List Tok):Prop:=∃ u,us=ts.take (keepN a o ts)++u
theorem Ed.cut {a o:Nat} {P r us:List Tok} (h:Ed a o (P++r) us) (hb:o + bl P < a):∃ v,us=P++v∧Ed a (o + bl P) r v:=by
 obtain ⟨u,rfl⟩:=h
 rw [keepN_app hb]
 refine ⟨r.take (keepN a (o + bl P) r)++u,?_,u,rfl⟩
 rw [List.take_length_add_append,List.append_assoc]
end Pm
end
