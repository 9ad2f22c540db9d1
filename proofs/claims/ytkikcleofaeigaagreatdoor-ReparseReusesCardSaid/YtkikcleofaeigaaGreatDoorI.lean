/- RepS, RepT, RepU -/
import Derived.Test.YtkikcleofaeigaaGreatDoorH
import Derived.Test.YtkikcleofaeigaaGreatDoorP
set_option linter.all false

section
set_option maxRecDepth 100000
set_option maxHeartbeats 4000000
namespace RepF
open Go Go.Abs Go.Proofs ParF Pm
theorem chs_map (src:Bytes):∀(ts:List Tree)(o:Nat),(chs src o ts).map (·.t)=ts
 | [],o=>rfl
 | t::ts,o=>by rw[chs,List.map_cons,chs_map src ts]
theorem items_le:∀cs:List Ch,items cs≤cs.length:=fun cs=>by
 unfold items
 exact List.countP_le_length
theorem up_facts {s:Heap}{old tk nd:AV}{o sh sb:Int}{re:Nat}{ns:List Tree}(hU:IsU s 2 old tk o sh sb re nd ns)(h0:s[0]?=some (52,[I 0,.str [],.nils]))(hr:rid nd≠some 0) :
  ∃v h' s9,pubR (aLoad false false 1 (.ref 2 6) s)=some (v,h')∧IsC ns v∧aBuild Tryz.prog 52 [(0,I 1),(2,v)]=some (.agg [I 1,.str [],v])∧aLoad false false 1 (.ref 2 5) h'=some (I re,h') ∧
   aStore 3 h' (.ref 0 0) (.agg [I 1,.str [],v])=some s9∧aLoad false true 3 (.ref 0 0) s9=some (.agg [I 1,.str [],v],s9) ∧
   ∀x,drawOK C 30 (regOps Tryz.f30 18) [.silent,.silent,.silent,.call (kept s h'),.silent,.silent,.silent,.silent,.get 2,.put 0,.silent,.silent] x=x:=by
 obtain⟨v,h',p1,p2,p3,p4⟩:=pub_nd hU.ch
 have hv:=p2.strip
 have l6:aLoad false false 1 (.ref 2 6) s=some (nd,s):=ldU hU.cell rfl hU.ch.strip
 have c1:v.cells=[v]∧v.solid=true:=by cases p2<;>exact⟨rfl,rfl⟩
 have e2:h'[2]?=s[2]?:=p4 2 hU.ne
 have e0:h'[0]?=s[0]?:=p4 0 hr
 refine⟨v,h',h'.set 0 (52,[I 1,.str [],v]),by rw[l6];exact p1,p2,build52_c (I 1) v rfl c1.1 rfl hv.1 rfl c1.2,ldU (e2.trans hU.cell) rfl rfl,?_,ldx (a:=.agg [I 1,.str [],v]) (gset_eq (e0.trans h0)) rfl rfl,fun x=>?_⟩
 ·rw[ParF.st (n:=3) (o:=0) (v:=.agg [I 1,.str [],v]) (e0.trans h0) (by decide) rfl rfl (Nat.le_refl 3)]
  have:stCells (.agg [I 1,.str [],v])=[I 1,.str [],v]:=by
   show [I 1,.str [],v.strip]=_
   rw[hv.1]
  rw[this];rfl
 ·refine d30_18 (g0:=2) (l0:=kept s h') 0 ?_ ?_ x
  ·intro g hg l hl
   simp only[List.mem_cons,List.not_mem_nil,or_false]at hg hl
   subst hg;subst hl
   exact kept_of (glt hU.cell) e2
  ·intro g hg p hp
   simp only[List.mem_cons,List.not_mem_nil,or_false]at hg hp
   subst hg;subst hp
   decide
theorem up_nil {us:List Tok}{old tk:AV}{o p re:Nat}{sh sb:Int}(ht:LexF.IsT tk [])(f r n':Nat)(e:Env)(s:Heap){nd:AV}{ns:List Tree}(hU:IsU s 2 old tk o sh sb re nd ns)(hK:Kids us ns)(hp:p≤re)(hre:re≤ns.length)(e16:e 16=.ref 2 0)(e6:e 6=.ref 0 0)(h0:s[0]?=some (52,[I 0,.str [],.nils]))(hr:rid nd≠some 0)(hr0:0<r) :
  ∃ks re' a s',Kids us ks∧p≤re'∧re'≤ks.length∧IsT (.mk 1 [] ks) a∧aLoop (F30_L0 (den C f) n') r e s=some (.tup [a,I (re':Nat),I 0],s'):=by
 obtain⟨r,rfl⟩:∃j,r=j+1:=⟨r-1,by omega⟩
 obtain⟨v,h',s9,f1,f2,f3,f4,f5,f6,f7⟩:=up_facts hU h0 hr
 have nc:∀i o,aNilCheck (.ref i o)=some (.ref i o):=fun _ _=>rfl
 have stK:=ht.strip
 have lk:=ht.len
 have l1:aLoad false false 1 (.ref 2 1) s=some (tk,s):=ldU hU.cell rfl stK
 have cz:¬((0:Int)<(([]:List Tok).length:Int)):=by decide
 have kl:kLoad false (.ref 2 5)=.get 2:=rfl
 have ks:kStore (.ref 0 0)=.put 0:=rfl
 have dk:∀s s':Heap,dyn .writer s s'=.call (kept s s'):=fun _ _=>rfl
 refine⟨ns,re,.agg [I 1,.str [],v],s9,hK,hp,hre,.mk 1 [] ns v f2,?_⟩
 rw[aLoop,F30_L0]
 simp -implicitDefEqProofs only[sL,e16,e6,nc,l1,lk,cz,f1,f3,f4,f5,f6,kl,ks,dk,f7,fin1,resL,Option.map_some]
 try rfl
theorem rest_exit {src:Bytes}{us w:List Tok}{cs0:List Tree}{old tk:AV}{m p:Nat}{sh:Int}(hk:Kids (LexF.tokz src) cs0)(hsh:sh=(bl us:Int)-(bl (LexF.tokz src):Int))(hT:Tail (LexF.tokz src) us m)(ht:LexF.IsT tk w)(hpos:0<w.length)
  (f r n':Nat)(e:Env)(s s':Heap)(o re i:Nat)(nd nd':AV)(ns:List Tree)(hU:IsU s 2 old tk o sh m re nd ns)(hG:Good us o w ns)(hp:p≤re)(hre:re≤ns.length)(e16:e 16=.ref 2 0)(e6:e 6=.ref 0 0)(h0:s[0]?=some (52,[I 0,.str [],.nils]))(hr0:rid nd≠some 0)
  (q:aCall Tryz.prog (den C f) 74 [.ref 2 0] s=some (.bool true,s'))(hid:idx ((o:Int)-sh) (chs src 0 cs0)=some i)(hwm:w.length≤m)(hU':IsU s' 2 old tk o sh m (re+items ((chs src 0 cs0).drop i):Nat) nd' (ns++((chs src 0 cs0).drop i).map (·.t)))(hS:Stp s s' 2 nd nd') :
  ∃ks re' a s',Kids us ks∧p≤re'∧re'≤ks.length∧IsT (.mk 1 [] ks) a∧aLoop (F30_L0 (den C f) n') (r+1) e s=some (.tup [a,I (re':Nat),I 0],s'):=by
 have nc:∀i o,aNilCheck (.ref i o)=some (.ref i o):=fun _ _=>rfl
 have hcl:(chs src 0 cs0).length=cs0.length:=chs_length src cs0 0
 have hkk:∀t∈LexF.tokz src,t.1≠100:=fun t ht=>by have:=tokz_kind src.length src (Nat.le_refl _) t ht;omega
 have hfl:Full (LexF.tokz src):=fun t ht=>LexF.tokz_text src.length src (Nat.le_refl _) t ht
 have stK:=ht.strip
 have lk:=ht.len
 have cz:((0:Int)<(w.length:Int)):=by omega
 have kl:kLoad false (.ref 2 5)=.get 2:=rfl
 have kst:kStore (.ref 0 0)=.put 0:=rfl
 have dk:∀s s':Heap,dyn .writer s s'=.call (kept s s'):=fun _ _=>rfl
 obtain⟨c,hc,hcs⟩:=idx_some hid
 obtain⟨V,eV,bV⟩:=hG.sp
 have hKw:Kids w (cs0.drop i):=rest_law hkk hfl hk hT eV hwm hc (by rw[hcs,hsh,bV])
 have hKu:=hG.kids _ hKw
 have em:((chs src 0 cs0).drop i).map (·.t)=cs0.drop i:=by rw[List.map_drop,chs_map]
 rw[em]at hU'
 have h0':s'[0]?=some (52,[I 0,.str [],.nils]):=(hS.fr 0 (glt h0) (by decide) hr0).trans h0
 have hr':rid nd'≠some 0:=by
  rcases hS.rid with h|⟨R,h,hR⟩
  ·rw[h];exact hr0
  ·rw[h];intro e;cases e;have:=glt h0;omega
 have hit:items ((chs src 0 cs0).drop i)≤(cs0.drop i).length:=by
  have:=items_le ((chs src 0 cs0).drop i)
  rw[List.length_drop,hcl]at this;rw[List.length_drop];exact this
 obtain⟨v,h',s9,f1,f2,f3,f4,f5,f6,f7⟩:=up_facts hU' h0' hr'
 have l1:aLoad false false 1 (.ref 2 1) s=some (tk,s):=ldU hU.cell rfl stK
 refine⟨ns++cs0.drop i,re+items ((chs src 0 cs0).drop i),.agg [I 1,.str [],v],s9,hKu,by omega,by rw[List.length_append];omega,.mk 1 [] _ v f2,?_⟩
 rw[aLoop,F30_L0]
 simp -implicitDefEqProofs only[sL,e16,e6,nc,l1,lk,cz,q,f1,f3,f4,f5,f6,kl,kst,dk,f7,fin1,resL,Option.map_some]
 try rfl
theorem up_loop {src:Bytes}{us:List Tok}{cs0:List Tree}{old:AV}{m p:Nat}{sh:Int}(hO:IsO old (chs src 0 cs0))(hk:Kids (LexF.tokz src) cs0)(hl:src.length≤2000)(hul:us.length≤2000)(hub:bl us≤2000)(hsh:sh=(bl us:Int)-(bl (LexF.tokz src):Int))(hT:Tail (LexF.tokz src) us m) :
  ∀(k:Nat)(w:List Tok)(tk:AV)(o re:Nat),w.length≤k→LexF.IsT tk w→(∃V,us=V++w∧o=bl V)→re≤100000→∃N,∀f,N≤f→∀r,k+1<r→∀n' e s nd ns,IsU s 2 old tk o sh m re nd ns→Good us o w ns→p≤re→re≤ns.length→e 16=.ref 2 0→e 6=.ref 0 0→s[0]?=some (52,[I 0,.str [],.nils])→rid nd≠some 0 →
   ∃ks re' a s',Kids us ks∧p≤re'∧re'≤ks.length∧IsT (.mk 1 [] ks) a∧aLoop (F30_L0 (den C f) n') r e s=some (.tup [a,I (re':Nat),I 0],s'):=by
 have nc:∀i o,aNilCheck (.ref i o)=some (.ref i o):=fun _ _=>rfl
 have htl:=LexF.tokz_length src
 have hkl:=kids_len hk
 have hcl:(chs src 0 cs0).length=cs0.length:=chs_length src cs0 0
 have hbs:bl (LexF.tokz src)=src.length:=bl_tokz src
 intro k
 induction k with
 | zero =>
  intro w tk o re hw ht _ _
  have:w=[]:=List.length_eq_zero_iff.1 (by omega)
  subst this
  exact⟨0,fun f _ r hr n' e s nd ns hU hG hp hre e16 e6 h0 hr0=>up_nil ht f r n' e s hU hG.done hp hre e16 e6 h0 hr0 (by omega)⟩
 | succ k ih =>
  intro w tk o re hw ht hsp hrb
  by_cases hnil:w=[]
  ·subst hnil
   exact⟨0,fun f _ r hr n' e s nd ns hU hG hp hre e16 e6 h0 hr0=>up_nil ht f r n' e s hU hG.done hp hre e16 e6 h0 hr0 (by omega)⟩
  obtain⟨V,eV,bV⟩:=hsp
  have hw2:w.length≤2000:=by rw[eV,List.length_append]at hul;omega
  have hb2:bl w≤2000∧o≤2000:=by rw[eV,bl_app]at hub;omega
  have stK:=ht.strip
  have lk:=ht.len
  have hpos:0<w.length:=List.length_pos_iff.2 hnil
  have cz:((0:Int)<(w.length:Int)):=by omega
  obtain⟨N1,q1⟩:=rest_run hO (by omega) ht (o:=o) (sb:=m) (u:=2) (sh:=sh) (by omega) (by omega) (by omega)
  -- what follows a parsed item
  have rid':∀{s s':Heap}{nd nd':AV},Stp s s' 2 nd nd'→s[0]?=some (52,[I 0,.str [],.nils])→rid nd≠some 0→s'[0]?=some (52,[I 0,.str [],.nils])∧rid nd'≠some 0:=by
   intro s s' nd nd' hS h0 hr0
   refine⟨(hS.fr 0 (glt h0) (by decide) hr0).trans h0,?_⟩
   rcases hS.rid with h|⟨R,h,hR⟩
   ·rw[h];exact hr0
   ·rw[h];intro e;cases e;have:=glt h0;omega
  by_cases he:(pk w).1=100
  ·obtain⟨N2,q2⟩:=parse_end ht hw2 he (old:=old) (o:=o) (re:=re) (sh:=sh) (sb:=(m:Int)) (u:=2)
   refine⟨N1+N2,fun f hf r hr n' e s nd ns hU hG hp hre e16 e6 h0 hr0=>?_⟩
   obtain⟨r,rfl⟩:∃j,r=j+1:=⟨r-1,by omega⟩
   have hnl:=hG.len
   rcases q1 f (by omega) s re nd ns hU (by omega) (by omega) with q|⟨i,s',nd',hid,hwm,q,hU',hS⟩
   ·obtain⟨s',nd',q3,hU',hS⟩:=q2 f (by omega) s nd ns hU (by omega)
    obtain⟨h0',hr'⟩:=rid' hS h0 hr0
    have l1:aLoad false false 1 (.ref 2 1) s=some (tk,s):=ldU hU.cell rfl stK
    have fin:∀E:Env,E 16=.ref 2 0→E 6=.ref 0 0→∃ks re' a s'',Kids us ks∧p≤re'∧re'≤ks.length∧IsT (.mk 1 [] ks) a∧aLoop (F30_L0 (den C f) n') r E s'=some (.tup [a,I (re':Nat),I 0],s''):=fun E k1 k2 =>
     up_nil (.inr ⟨rfl,rfl⟩) f r n' E s' hU' (hG.last he) hp (by rw[List.length_append];omega) k1 k2 h0' hr' (by omega)
    rw[aLoop,F30_L0]
    simp -implicitDefEqProofs only[sL,e16,e6,nc,l1,lk,cz,q,q3]
    refine fin _ ?_ ?_
    ·exact(upds_get _ _ _ rfl).trans e16
    ·exact(upds_get _ _ _ rfl).trans e6
   ·exact rest_exit hk hsh hT ht hpos f r n' e s s' o re i nd nd' ns hU hG hp hre e16 e6 h0 hr0 q hid hwm hU' hS
  ·obtain⟨x,t1,hx,hlt,hz⟩:=item_ex he
   obtain⟨tk',X,eX,bX,hI,N2,q2⟩:=parse_item ht hw2 (by omega) hx he (by omega) (old:=old) (o:=o) (re:=re) (by omega) (sh:=sh) (sb:=(m:Int)) (u:=2)
   obtain⟨N3,q3⟩:=ih t1 tk' (o+bl X) re (by omega) hI ⟨V++X,by rw[eV,eX,List.append_assoc],by rw[bl_app,bV]⟩ hrb
   refine⟨N1+N2+N3,fun f hf r hr n' e s nd ns hU hG hp hre e16 e6 h0 hr0=>?_⟩
   obtain⟨r,rfl⟩:∃j,r=j+1:=⟨r-1,by omega⟩
   have hnl:=hG.len
   rcases q1 f (by omega) s re nd ns hU (by omega) (by omega) with q|⟨i,s',nd',hid,hwm,q,hU',hS⟩
   ·obtain⟨s',nd',q4,hU',hS⟩:=q2 f (by omega) s nd ns hU (by omega)
    obtain⟨h0',hr'⟩:=rid' hS h0 hr0
    have l1:aLoad false false 1 (.ref 2 1) s=some (tk,s):=ldU hU.cell rfl stK
    have fin:∀E:Env,E 16=.ref 2 0→E 6=.ref 0 0→∃ks re' a s'',Kids us ks∧p≤re'∧re'≤ks.length∧IsT (.mk 1 [] ks) a∧aLoop (F30_L0 (den C f) n') r E s'=some (.tup [a,I (re':Nat),I 0],s''):=fun E k1 k2 =>
     q3 f (by omega) r (by omega) n' E s' nd' (ns++[x]) hU' (hG.step he hx eX) hp (by rw[List.length_append];omega) k1 k2 h0' hr'
    rw[aLoop,F30_L0]
    simp -implicitDefEqProofs only[sL,e16,e6,nc,l1,lk,cz,q,q4]
    refine fin _ ?_ ?_
    ·exact(upds_get _ _ _ rfl).trans e16
    ·exact(upds_get _ _ _ rfl).trans e6
   ·exact rest_exit hk hsh hT ht hpos f r n' e s s' o re i nd nd' ns hU hG hp hre e16 e6 h0 hr0 q hid hwm hU' hS
end RepF
end

section
set_option maxRecDepth 100000
set_option maxHeartbeats 4000000
namespace RepF
open Go Go.Abs Go.Proofs ParF Pm
theorem keep_eq (a:Nat):∀(ts:List Tok)(o:Nat),LexF.keep a o ts=keepN a o ts
 | [],_=>rfl
 | t::r,o=>by unfold LexF.keep keepN;rw[keep_eq a r]
theorem ed_next {src t:Bytes}{a b:Nat}(ha:a≤src.length):Ed a 0 (LexF.tokz src) (LexF.tokz (LexF.nextOf src t a b)):=by
 obtain⟨k1,_⟩:=LexF.keep_tokz (t++src.drop b) a _ src 0 (Nat.le_refl _) (Nat.zero_le _) (by omega) _ (Nat.le_refl _)
 rw[Nat.sub_zero,←List.append_assoc]at k1
 exact⟨_,by unfold LexF.nextOf;rw[←keep_eq];exact k1⟩
def Upd (us:List Tok)(p:Nat)(v:AV)(re:Nat):Prop:=∃ks,Kids us ks∧p≤re∧re≤ks.length∧IsT (.mk 1 [] ks) v
theorem b144 {v:AV}{cs:List Ch}(h:IsO v cs)(x y:Int):aBuild Tryz.prog 144 [(0,v),(3,I x),(4,I y)]=some (.agg [v,.nils,I 0,I x,I y,I 0,.nils]):=by
 have hst:=h.strip
 have hz:zeroOf Tryz.prog 144=some (.agg [.nils,.nils,I 0,I 0,I 0,I 0,.nils]):=by kernel_rfl
 have hu:(match Tryz.prog.underlying 144 with|some (.struct fs)=>placesOf Tryz.prog fs.toList|_=>none)=some [(0,1),(1,1),(2,1),(3,1),(4,1),(5,1),(6,1)]:=by kernel_rfl
 have c:v.cells=[v]∧v.solid=true:=by obtain⟨rows,_,rfl|⟨rfl,_⟩⟩:=h<;>exact⟨rfl,rfl⟩
 unfold aBuild
 split at hu
 ·rename_i fs hh
  rw[hz,hh]
  simp[hu,aFill,setL,c.1,c.2,hst,cells_int]
 ·cases hu
theorem bs22 (a b:Int)(t:Bytes):aBuildSlice Tryz.prog 22 1 [(0,.agg [I a,I b,.str t])]=some (.sl 67 3 [.agg [I a,I b,.str t]] .own):=by kernel_rfl
theorem validate_ok {src t:Bytes}{a b:Nat}(hs:src.length≤2000)(hab:a≤b)(hb:b≤src.length)(hn:(LexF.nextOf src t a b).length≤2000):EdF.validate src [⟨a,b,t⟩]=0:=by
 have hnl:=LexF.next_len (t:=t) hab hb
 unfold EdF.validate
 rw[if_neg (by simp;omega)]
 unfold EdF.valid
 simp only
 rw[if_neg (by omega)]
 unfold EdF.valid
 rw[if_neg (by omega)]
theorem reparse_run {src t:Bytes}{a b:Nat}(hs:src.length≤2000)(hab:a≤b)(hb:b≤src.length)(hn:(LexF.nextOf src t a b).length≤2000){cs0:List Tree}(hF:IsFile (LexF.tokz src) (.mk 1 [] cs0)){ta:AV}(hT:IsT (.mk 1 [] cs0) ta) :
  ∃v re,Upd (LexF.tokz (LexF.nextOf src t a b)) (pfx a 0 (chs src 0 cs0)).2.length v re∧AC C 30 [.str src,ta,.agg [I a,I b,.str t]] (.tup [v,I (re:Nat),I 0]):=by
 obtain⟨cs0',e0,hK,hsz⟩:=file_kids hF
 cases e0
 have htl:=LexF.tokz_length src
 have htn:=LexF.tokz_length (LexF.nextOf src t a b)
 have hnl:=LexF.next_len (t:=t) hab hb
 have hbs:bl (LexF.tokz src)=src.length:=bl_tokz src
 have hbn:bl (LexF.tokz (LexF.nextOf src t a b))=(LexF.nextOf src t a b).length:=bl_tokz _
 have hkk:∀t∈LexF.tokz src,100<t.1:=fun t ht=>tokz_kind src.length src (Nat.le_refl _) t ht
 have hfn:Full (LexF.tokz (LexF.nextOf src t a b)):=fun x hx=>LexF.tokz_text _ _ (Nat.le_refl _) x hx
 obtain⟨hok,hsrc,hszT,_⟩:=isFile_facts hF
 rw[srcT_node]at hsrc
 rw[okT,Bool.and_eq_true]at hok
 have hcl:cs0.length≤48000:=by have:=kids_len hK;omega
 have hchl:(chs src 0 cs0).length=cs0.length:=chs_length src cs0 0
 -- the calls
 have hva:=LexF.accV_strip (LexF.tokz src)
 obtain⟨T',pa,hF',hTp,hpr⟩:=parse_run src hs (fun t ht=>by have:=hkk t ht;omega)
 have:=file_det hF' hF
 subst this
 obtain⟨w,r,hu,-,-,hup⟩:=LexF.update_run (t:=t) hs hab hb hn _ hva
 obtain⟨ov,hO,hkid⟩:=fileKids_run src (by omega) hT (by omega) hok.2 (by omega) (by rw[hsrc];exact Nat.le_refl _)
 obtain⟨m,hTl,hst⟩:=stable_run hva hu (by omega) (by omega) (by omega) a b t
 have hv:=EdF.validate_run src (.sl 67 3 [.agg [I a,I b,.str t]] .sh) [⟨a,b,t⟩] (.inl rfl) (by intro x hx;simp at hx;subst hx;simp;omega)
 rw[validate_ok hs hab hb hn]at hv
 have heq:=equal_run _ _ _ pa ta (Nat.le_refl _) hTp hT (by omega)
 have hT1:eqT (.mk 1 [] cs0) (.mk 1 [] cs0)=true:=(eqT_iff _ _).2 rfl
 rw[hT1]at heq
 -- the prefix
 obtain⟨es,t',hI,ees⟩:=id hK
 obtain⟨xs,us1,e1,e2,e3⟩:=pfx_law (src:=src) (a:=a) (by omega) hI hkk 0 _ (by rw[List.drop_zero]) (Nat.zero_le _) (ed_next (t:=t) (b:=b) (by omega:a≤src.length))
 rw[←ees,Nat.zero_add]at e2
 rw[←ees]at e3
 rw[e1]at hu hfn
 have hxb:bl xs≤2000:=by have:=congrArg bl e1;rw[bl_app,hbn]at this;omega
 obtain⟨u1,hu1,hsk⟩:=skip_run hu hfn (by omega)
 rw[←e1]at hu
 have hG:Good (LexF.tokz (LexF.nextOf src t a b)) (bl xs) us1 (pfx a 0 (chs src 0 cs0)).2:=⟨⟨xs,e1,rfl⟩,e3⟩
 have hpl:=hG.len
 let sh:Int:=(t.length:Int)-((b-a:Nat):Int)
 have hsh:sh=(bl (LexF.tokz (LexF.nextOf src t a b)):Int)-(bl (LexF.tokz src):Int):=by rw[hbn,hbs];show (t.length:Int)-((b-a:Nat):Int)=_;omega
 obtain⟨Np,qp⟩:=pre_run hO (by omega) (tk:=.nils) a 2 sh m
 obtain⟨Nl,ql⟩:=up_loop hO hK hs (by omega) (by omega) hsh hTl (p:=(pfx a 0 (chs src 0 cs0)).2.length) us1.length us1 u1 (bl xs) (pfx a 0 (chs src 0 cs0)).2.length (Nat.le_refl _) hu1 ⟨xs,e1,rfl⟩ (by omega)
 obtain⟨N1,q1⟩:=LexF.AC.at (LexF.tok_run src)
 have htr:LexF.tokR src=.tup [(LexF.accV (LexF.tokz src)).strip,I 0]:=by unfold LexF.tokR;rw[if_neg (by omega)]
 rw[htr]at q1
 obtain⟨N2,q2⟩:=LexF.AC.at hv
 obtain⟨N3,q3⟩:=LexF.AC.at hpr
 obtain⟨N4,q4⟩:=LexF.AC.at heq
 obtain⟨N5,q5⟩:=LexF.AC.at hup
 obtain⟨N6,q6⟩:=LexF.AC.at hkid
 obtain⟨N7,q7⟩:=LexF.AC.at hst
 obtain⟨N8,q8⟩:=LexF.AC.at hsk
 have hus1:us1.length≤2000:=by have:=congrArg List.length e1;rw[List.length_append]at this;omega
 let f:=Np+Nl+N1+N2+N3+N4+N5+N6+N7+N8+3000
 have q1:=q1 f (by omega)
 have q2:=q2 f (by omega)
 have q3:=q3 f (by omega)
 have q4:=q4 f (by omega)
 have q5:=q5 f (by omega)
 have q6:=q6 f (by omega)
 have q7:=q7 f (by omega)
 have q8:=q8 f (by omega)
 have qp:=qp f (by omega)
 have ql:=ql f (by omega) f (by omega) f
 have hvs:=hva.strip
 have hus:=hu.strip
 have hos:=hO.strip
 have hvn:=hva.noRef
 have hun:=hu.noRef
 have htn':=hT.noRef
 generalize (LexF.accV (LexF.tokz src)).strip=v at *
 generalize hw':AV.strip w=w' at *
 clear_value f
 obtain⟨a1,a2,a3,a4⟩:=hT.cells
 obtain⟨p1,p2,p3,p4⟩:=hTp.cells
 have hpst:pa.strip=pa:=by rw[p4];rfl
 have htst:ta.strip=ta:=by rw[a4];rfl
 have htsol:ta.solid=true:=by rw[a4];rfl
 have bx4:∀s,aBox false 52 ta s=some (.box ta.cells 0,s):=fun s=>aBox_f _ _ _ htsol
 let h1:Heap:=[(52,[I 0,.str [],.nils])]
 let h2:Heap:=[(52,[I 0,.str [],.nils]),(52,pa.cells)]
 let h3:Heap:=[(52,[I 0,.str [],.nils]),(52,pa.cells),(144,[ov,.nils,I 0,I sh,I m,I 0,.nils])]
 have z6:aAlloc Tryz.prog 52 []=some (.ref 0 0,h1):=al52 []
 have z12:aAlloc Tryz.prog 52 h1=some (.ref 1 0,h1++[(52,[I 0,.str [],.nils])]):=al52 h1
 have t12:aStore 3 (h1++[(52,[I 0,.str [],.nils])]) (.ref 1 0) pa=some h2:=store_new (s:=h1) hTp
 have l12:aLoad false true 3 (.ref 1 0) h2=some (pa,h2):=ldx rfl p1 p4
 have l4:∀s,aLoad false true 3 (.box ta.cells 0) s=some (ta,s):=fun s=>ldb a1 a4 s
 have l5:∀s,aLoad false true 3 (.box [I a,I b,.str t] 0) s=some (.agg [I a,I b,.str t],s):=fun s=>rfl
 have l50:∀s,aLoad false false 1 (.box [I a,I b,.str t] 0) s=some (I a,s):=fun s=>ldB rfl rfl
 have l51:∀s,aLoad false false 1 (.box [I a,I b,.str t] 1) s=some (I b,s):=fun s=>ldB rfl rfl
 have l52:∀s,aLoad false false 1 (.box [I a,I b,.str t] 2) s=some (.str t,s):=fun s=>ldB rfl rfl
 have bs:=bs22 a b t
 have so:(AV.sl 67 3 [.agg [I a,I b,.str t]] .own).strip=.sl 67 3 [.agg [I a,I b,.str t]] .sh:=rfl
 have w1:=wdif (a:=b) (b:=a) hab (by omega)
 have w2:IntKind.i64.wrap ((t.length:Int)-((b-a:Nat):Int))=sh:=by rw[wrap64]<;>omega
 have bb:=b144 hO sh m
 have bx:aBox true 144 (.agg [ov,.nils,I 0,I sh,I m,I 0,.nils]) h2=some (.ref 2 0,h3):=by
  simp[aBox,hos,h2,h3]
 have kc1:kCall [.str src,ta]=.silent:=by rw[kCall_ok,noRefL_cons,noRefL_cons,noRefL_nil,htn'];rfl
 have kc2:kCall [v,w',.agg [I a,I b,.str t]]=.silent:=by rw[kCall_ok,noRefL_cons,noRefL_cons,noRefL_cons,noRefL_nil,hvn,hun];rfl
 have kl:∀cs k,kLoad false (.box cs k)=.silent:=fun _ _=>rfl
 have dk:∀s s':Heap,dyn .silent s s'=.silent:=fun _ _=>rfl
 have zz:((0:Int) != 0)=false:=rfl
 have nc:∀i o,aNilCheck (.ref i o)=some (.ref i o):=fun _ _=>rfl
 have hU0:IsU h3 2 ov .nils (0:Nat) sh m (0:Nat) .nils []:=⟨rfl,.inl ⟨rfl,rfl⟩,nofun⟩
 obtain⟨s',nd',p72,hU1,hS⟩:=qp h3 0 .nils hU0
 rw[e2.symm]at hU1
 have l2:aLoad false false 1 (.ref 2 2) s'=some (I (bl xs:Nat),s'):=ldU hU1.cell rfl rfl
 have hc':u1.cells=[u1]∧u1.solid=true∧stCells u1=[u1]:=by rcases hu1 with rfl|⟨_,rfl⟩<;>exact⟨rfl,rfl,rfl⟩
 let s4:Heap:=s'.set 2 (144,[ov,u1,I (bl xs:Nat),I sh,I m,I ((pfx a 0 (chs src 0 cs0)).2.length:Nat),nd'])
 have su:aStore 1 s' (.ref 2 1) u1=some s4:=stU hU1.cell rfl (by decide) hc'.1 hc'.2.1 hu1.strip hc'.2.2 rfl
 have hU2:IsU s4 2 ov u1 (bl xs:Nat) sh m ((pfx a 0 (chs src 0 cs0)).2.length:Nat) nd' (pfx a 0 (chs src 0 cs0)).2:=⟨gset_eq hU1.cell,hU1.ch.frame fun R e=>gset_ne (fun h=>hU1.ne (by rw[e,h])),hU1.ne⟩
 have hr4:rid nd'≠some 0:=by
  rcases hS.rid with h|⟨R,h,hR⟩
  ·rw[h];nofun
  ·rw[h];intro e;cases e;exact absurd hR (by show ¬(3≤0);decide)
 have h04:s4[0]?=some (52,[I 0,.str [],.nils]):=by
  rw[show s4[0]?=s'[0]? from gset_ne (by decide),hS.fr 0 (by show 0<3;decide) (by decide) nofun];rfl
 have us1s:=hu1.strip
 have fin:∀E:Env,E 16=.ref 2 0→E 6=.ref 0 0→∃v re s9,Upd (LexF.tokz (LexF.nextOf src t a b)) (pfx a 0 (chs src 0 cs0)).2.length v re∧aLoop (F30_L0 (den C f) f) f E s4=some (.tup [v,I (re:Nat),I 0],s9):=by
  intro E k1 k2
  obtain⟨ks,re',v',s9,g1,g2,g3,g4,g5⟩:=ql E s4 nd' _ hU2 hG (Nat.le_refl _) (Nat.le_refl _) k1 k2 h04 hr4
  exact⟨v',re',s9,⟨ks,g1,g2,g3,g4⟩,g5⟩
 have main:∃v re s9,Upd (LexF.tokz (LexF.nextOf src t a b)) (pfx a 0 (chs src 0 cs0)).2.length v re∧den C (f+1) 30 [.str src,ta,.agg [I a,I b,.str t]] []=some (.tup [v,I (re:Nat),I 0],s9):=by
  rw[F30_eq,F30]
  simp -implicitDefEqProofs only[sL,bx4,z6,q1,hvs,zz,l5,bs,so,q2,q3,hpst,z12,t12,l12,l4,htst,q4,q5,hw',q6,hos,l52,LexF.len9,l51,l50,w1,w2,q7,bb,bx,kl,htn',hvn,hun,Bool.true_and,Bool.and_true,if_true,dk,d30_13,p72,l2,nc,q8,su,hus,us1s]
  refine fin _ ?_ ?_
  ·exact rfl
  ·exact rfl
 obtain⟨v',re,s9,g1,g2⟩:=main
 refine⟨v',re,g1,AC.one (n:=f+1) (s1:=s9) en30 (by rw[noRefL_cons,noRefL_cons,noRefL_cons,noRefL_nil,htn'];rfl) ?_ g2⟩
 obtain⟨ks,_,_,_,g3⟩:=g1
 rw[noRef_tup,noRefL_cons,noRefL_cons,noRefL_cons,noRefL_nil,noRef_int,noRef_int,g3.noRef];rfl
end RepF
end

section
set_option maxRecDepth 100000
set_option maxHeartbeats 2000000
namespace RepF
open Go Go.Abs Go.Proofs ParF Pm
theorem mod_run (x:Int)(m:Nat)(h0:0<m)(hm:m<1000000):∃r:Nat,r<m∧AC C 27 [I x,I m] (I r):=by
 have hne:¬((m:Int)=0):=by omega
 have b1:=Int.tmod_lt_of_pos x (show (0:Int)<(m:Int) by omega)
 have b2:-(m:Int)<x.tmod m:=by
  have:=Int.tmod_lt_of_pos (-x) (show (0:Int)<(m:Int) by omega)
  rw[Int.neg_tmod]at this;omega
 have hr:aBin Tryz.prog .rem 3 (I x) (I m)=some (I (x.tmod m)):=by
  have hne':m≠0:=by omega
  simp[aBin,intBin,hne']
 by_cases hz:x.tmod m<0
 ·refine⟨(x.tmod m+m).toNat,by omega,.intro en27 rfl rfl ⟨0,fun f hf=>⟨[],?_⟩⟩⟩
  have w:IntKind.i64.wrap (x.tmod m+(m:Int))=((x.tmod m+m).toNat:Int):=by rw[wrap64]<;>omega
  rw[F27_eq,F27]
  simp -implicitDefEqProofs only[sL,hr,hz,w]
  try rw[F27_J0]
  try simp -implicitDefEqProofs only[sL,upds_at,upds_nil,upd_at,if_true]
  try rfl
 ·refine⟨(x.tmod m).toNat,by omega,.intro en27 rfl rfl ⟨0,fun f hf=>⟨[],?_⟩⟩⟩
  have w:((x.tmod m).toNat:Int)=x.tmod m:=by omega
  rw[F27_eq,F27,w]
  simp -implicitDefEqProofs only[sL,hr,hz]
  try rfl
abbrev exS:Bytes:=[99,111,110,115,116,32,97,58,32,105,110,116,32,61,32,49,59,10,99,111,110,115,116,32,98,58,32,105,110,116,32,61,32,50,59,10,99,111,110,115,116,32,99,58,32,105,110,116,32,61,32,51,59,10]
abbrev exN:Bytes:=[99,111,110,115,116,32,97,58,32,105,110,116,32,61,32,49,59,10,99,111,110,115,116,32,98,58,32,105,110,116,32,61,32,50,59,10,99,111,110,115,116,32,99,58,32,105,110,116,32,61,32,52,59,10]
def exKids:Option (List Tree):=match run 400 gFile (LexF.tokz exS) [] with
 | some (false,t',es)=>some (es++t'.map leaf)
 | _=>none
theorem ex_kids:(exKids.map fun cs=>decide (1≤(pfx 51 0 (chs exS 0 cs)).2.length))=some true:=by decide +kernel
theorem ex_pfx {cs:List Tree}(h:Kids (LexF.tokz exS) cs):1≤(pfx 51 0 (chs exS 0 cs)).2.length:=by
 have h0:=ex_kids
 unfold exKids at h0
 cases hr:run 400 gFile (LexF.tokz exS) [] with
 | none=>rw[hr]at h0;cases h0
 | some x =>
  obtain⟨r,t',es⟩:=x
  cases r with
  | true=>rw[hr]at h0;cases h0
  | false =>
   rw[hr]at h0
   obtain⟨es',e,k⟩:=items_of (runs_of _ _ _ _ _ _ _ hr) rfl rfl
   rw[List.nil_append]at e
   subst e
   have:cs=es++t'.map leaf:=kids_det h ⟨_,_,k,rfl⟩
   subst this
   simpa using h0
theorem exS_len:exS.length=54:=by decide
theorem exN_len:exN.length=54:=by decide
theorem ex_next:LexF.nextOf exS [52] 51 52=exN:=by decide +kernel
theorem kinds (l:Bytes):∀t∈LexF.tokz l,t.1≠100:=fun t ht=>by have:=tokz_kind l.length l (Nat.le_refl _) t ht;omega
theorem bd67 (x y:Int)(t:Bytes):aBuild Tryz.prog 67 [(0,I x),(1,I y),(2,.str t)]=some (.agg [I x,I y,.str t]):=by kernel_rfl
theorem upd_tree {l:Bytes}{p re:Nat}{v:AV}{T:Tree}(h:Upd (LexF.tokz l) p v re)(hF:IsFile (LexF.tokz l) T):∃ks,T=.mk 1 [] ks∧IsT T v∧p≤re∧re≤ks.length∧szT T≤24*l.length+1:=by
 obtain⟨ks,h1,h2,h3,h4⟩:=h
 obtain⟨_,_,hz,_⟩:=isFile_facts hF
 have:=file_det hF (kids_file h1)
 subst this
 exact⟨ks,rfl,h4,h2,h3,hz⟩
theorem example_run:AC C 29 [] (.bool true):=by
 obtain⟨T,pa,hF,hT,hp⟩:=parse_run exS (by rw[exS_len];decide) (kinds _)
 obtain⟨cs0,rfl,hK,hsz⟩:=file_kids hF
 obtain⟨v,re,hu,hr⟩:=reparse_run (t:=[52]) (a:=51) (b:=52) (by rw[exS_len];decide) (by decide) (by rw[exS_len];decide) (by rw[ex_next,exN_len];decide) hF hT
 rw[ex_next]at hu
 obtain⟨U,pb,hF2,hU,hp2⟩:=parse_run exN (by rw[exN_len];decide) (kinds _)
 obtain⟨ks,e,hv,h1,h2,hz⟩:=upd_tree hu hF2
 have h0:=ex_pfx hK
 have hre:(1:Int)≤(re:Int):=by omega
 rw[exN_len]at hz
 have hs:=same_run _ U U v pb (Nat.le_refl _) hv hU (by omega)
 rw[(eqT_iff U U).2 rfl]at hs
 obtain⟨N1,q1⟩:=LexF.AC.at hp
 obtain⟨N2,q2⟩:=LexF.AC.at hr
 obtain⟨N3,q3⟩:=LexF.AC.at hp2
 obtain⟨N4,q4⟩:=LexF.AC.at hs
 obtain⟨a1,a2,a3,a4⟩:=hT.cells
 obtain⟨b1,b2,b3,b4⟩:=hU.cells
 obtain⟨c1,c2,c3,c4⟩:=hv.cells
 have sa:pa.strip=pa:=by rw[a4];rfl
 have sb:pb.strip=pb:=by rw[b4];rfl
 have sc:v.strip=v:=by rw[c4];rfl
 let h1:Heap:=[(52,pa.cells)]
 let h2:Heap:=[(52,pa.cells),(52,v.cells)]
 let h3:Heap:=[(52,pa.cells),(52,v.cells),(52,pb.cells)]
 refine .intro en29 rfl rfl ⟨N1+N2+N3+N4,fun f hf=>⟨h3,?_⟩⟩
 have q1:=q1 f (by omega)
 have q2:∀s,aCall Tryz.prog (den C f) 30 [.str exS,pa,.agg [I 51,I 52,.str [52]]] s=some (.tup [v,I re,I 0],s):=q2 f (by omega)
 have q3:=q3 f (by omega)
 have q4:=q4 f (by omega)
 have z0:aAlloc Tryz.prog 52 []=some (.ref 0 0,[(52,[I 0,.str [],.nils])]):=al52 []
 have t0:aStore 3 [(52,[I 0,.str [],.nils])] (.ref 0 0) pa=some h1:=store_new (s:=[]) hT
 have z1:aAlloc Tryz.prog 52 h1=some (.ref 1 0,h1++[(52,[I 0,.str [],.nils])]):=al52 h1
 have t1:aStore 3 (h1++[(52,[I 0,.str [],.nils])]) (.ref 1 0) v=some h2:=store_new (s:=h1) hv
 have z2:aAlloc Tryz.prog 52 h2=some (.ref 2 0,h2++[(52,[I 0,.str [],.nils])]):=al52 h2
 have t2:aStore 3 (h2++[(52,[I 0,.str [],.nils])]) (.ref 2 0) pb=some h3:=store_new (s:=h2) hU
 have l0:aLoad false true 3 (.ref 0 0) h1=some (pa,h1):=ldx rfl a1 a4
 have l1:aLoad false true 3 (.ref 1 0) h3=some (v,h3):=ldx rfl c1 c4
 have l2:aLoad false true 3 (.ref 2 0) h3=some (pb,h3):=ldx rfl b1 b4
 have bd:aBuild Tryz.prog 67 [(0,.int .i64 51),(1,.int .i64 52),(2,.str [52])]=some (.agg [I 51,I 52,.str [52]]):=bd67 51 52 [52]
 have e0:((0:Int)==0)=true:=rfl
 rw[F29_eq,F29]
 simp -implicitDefEqProofs only[sL,q1,sa,z0,t0,l0,bd,q2,sc,z1,t1,q3,sb,z2,t2,e0,l1,l2,q4,hre]
end RepF
end
