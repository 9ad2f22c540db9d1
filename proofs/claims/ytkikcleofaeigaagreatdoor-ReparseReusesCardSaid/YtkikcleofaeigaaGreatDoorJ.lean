/- RfD -/
import Derived.Test.YtkikcleofaeigaaGreatDoorN
import Derived.Test.YtkikcleofaeigaaGreatDoorR
set_option linter.all false

section
set_option maxRecDepth 100000
set_option maxHeartbeats 4000000
namespace RepF
open Go Go.Abs Go.Proofs ParF RfF
theorem wsb {x y:Nat}(h:y≤x)(hx:x<2000000000):IntKind.i64.wrap ((x:Int)-(y:Int))=((x-y:Nat):Int):=by rw[wrap64]<;>omega
theorem reuses_run (l t0:List UInt8)(x y:Int):AC C 8 [.str l,.agg [I x,I y,.str t0]] (.bool true):=by
 have hl:(l.take 400).length≤400:=by rw[List.length_take];omega
 have htl:(t0.take 40).length≤40:=by rw[List.length_take];omega
 obtain⟨N0,q0⟩:=LexF.AC.at example_run
 obtain⟨N1,q1⟩:=LexF.AC.at (LexF.short_run l 400)
 obtain⟨N3,q3⟩:=LexF.AC.at (LexF.short_run t0 40)
 generalize l.take 400=src at *
 generalize t0.take 40=t at *
 obtain⟨a,ha,hma⟩:=mod_run x (src.length+1) (by omega) (by omega)
 obtain⟨d,hd,hmd⟩:=mod_run y (src.length-a+1) (by omega) (by omega)
 have hnl:=LexF.next_len (src:=src) (t:=t) (a:=a) (b:=a+d) (by omega) (by omega)
 obtain⟨T,pa,hF,hT,hp⟩:=parse_run src (by omega) (kinds _)
 obtain⟨cs0,rfl,hK,hsz⟩:=file_kids hF
 obtain⟨v,re,hu,hr⟩:=reparse_run (t:=t) (a:=a) (b:=a+d) (by omega) (by omega) (by omega) (by omega) hF hT
 obtain⟨ks,_,hpre,_,hv⟩:=hu
 obtain⟨hok,hsrc,_,_⟩:=isFile_facts hF
 rw[Pm.srcT_node]at hsrc
 rw[Pm.okT,Bool.and_eq_true]at hok
 have htk:=LexF.tokz_length src
 have hbt:Pm.bl (LexF.tokz src)=src.length:=bl_tokz src
 have hcl:=kids_len hK
 have hkk:∀t∈LexF.tokz src,t.1≠100:=kinds src
 have hfl:Pm.Full (LexF.tokz src):=fun x hx=>LexF.tokz_text _ _ (Nat.le_refl _) x hx
 obtain⟨es,t',hI,ees⟩:=id hK
 have hleast:=least_pfx (src:=src) (a:=a) hfl rfl cs0 0 (fun i hi=>by
  rw[ees]at hi ⊢
  obtain⟨V,w,k1,k2,_⟩:=Pm.kids_from hI hkk i hi
  exact⟨V,w,k1,by omega⟩)
 have htoks:=LexF.toks_run src (by omega)
 have hva:=LexF.accV_strip (LexF.tokz src)
 have hsrcT:(LexF.srcOfT (LexF.tokz src)).length<1000000:=by rw[LexF.tokz_src _ src (Nat.le_refl _)];omega
 have hst:=LexF.starts_run _ _ hva (by omega) hsrcT
 have hwa:=LexF.accI_strip (LexF.sts 0 (LexF.tokz src))
 obtain⟨ch,hch,hpac⟩:∃ch,IsC cs0 ch∧pa.cells=[I 1,.str [],ch]:=by
  cases hT with
  | mk _ _ _ ch hch=>exact⟨ch,hch,rfl⟩
 obtain⟨N9,q9⟩:=out8 hva hwa (by omega) (by omega) (a:=a) (b:=a+d) (t:=t) (re:=re) hch (by omega) hok.2 (by omega) cs0.length 0 (by omega) (by omega)
 obtain⟨N2,q2⟩:=LexF.AC.at hma
 obtain⟨N4,q4⟩:=LexF.AC.at hmd
 obtain⟨N5,q5⟩:=LexF.AC.at hp
 obtain⟨N6,q6⟩:=LexF.AC.at hr
 obtain⟨N7,q7⟩:=LexF.AC.at htoks
 obtain⟨N8,q8⟩:=LexF.AC.at hst
 have hvs:=hva.strip
 have hws:=hwa.strip
 obtain⟨hchs,_,_⟩:=hch.strip
 obtain⟨hchl,-⟩:=hch.facts
 generalize (LexF.accV (LexF.tokz src)).strip=tv at *
 generalize (LexF.accI (LexF.sts 0 (LexF.tokz src))).strip=wv at *
 obtain⟨a1,a2,a3,a4⟩:=hT.cells
 obtain⟨c1,c2,c3,c4⟩:=hv.cells
 have sa:pa.strip=pa:=by rw[a4];rfl
 have sc:v.strip=v:=by rw[c4];rfl
 have w1:=ParF.wadd1 (a:=src.length) (by omega)
 have w2:=wsb (x:=src.length) (y:=a) (by omega) (by omega)
 have w3:=ParF.wadd1 (a:=src.length-a) (by omega)
 have w4:=wsum (a:=a) (b:=d) (by omega)
 let z67:TypeId × List AV:=(67,[I a,I (a+d:Nat),.str t])
 let h1:Heap:=[z67,(52,pa.cells)]
 let h2:Heap:=[z67,(52,pa.cells),(52,v.cells)]
 have bx:aBox true 67 (.agg [I x,I y,.str t0]) []=some (.ref 0 0,[(67,[I x,I y,.str t0])]):=rfl
 have lx:aLoad false false 1 (.ref 0 0) [(67,[I x,I y,.str t0])]=some (I x,[(67,[I x,I y,.str t0])]):=rfl
 have sx:aStore 1 [(67,[I x,I y,.str t0])] (.ref 0 0) (I a)=some [(67,[I a,I y,.str t0])]:=rfl
 have la:aLoad false false 1 (.ref 0 0) [(67,[I a,I y,.str t0])]=some (I a,[(67,[I a,I y,.str t0])]):=rfl
 have ly:aLoad false false 1 (.ref 0 1) [(67,[I a,I y,.str t0])]=some (I y,[(67,[I a,I y,.str t0])]):=rfl
 have sy:aStore 1 [(67,[I a,I y,.str t0])] (.ref 0 1) (I (a+d:Nat))=some [(67,[I a,I (a+d:Nat),.str t0])]:=rfl
 have lt:aLoad false false 1 (.ref 0 2) [(67,[I a,I (a+d:Nat),.str t0])]=some (.str t0,[(67,[I a,I (a+d:Nat),.str t0])]):=rfl
 have st:aStore 1 [(67,[I a,I (a+d:Nat),.str t0])] (.ref 0 2) (.str t)=some [z67]:=rfl
 have kc:∀x y:Int,kCall [I x,I y]=.silent:=fun _ _=>rfl
 have dk:∀s s':Heap,dyn .silent s s'=.silent:=fun _ _=>rfl
 have z1:aAlloc Tryz.prog 52 [z67]=some (.ref 1 0,[z67]++[(52,[I 0,.str [],.nils])]):=al52 [z67]
 have t1:aStore 3 ([z67]++[(52,[I 0,.str [],.nils])]) (.ref 1 0) pa=some h1:=store_new (s:=[z67]) hT
 have l5:aLoad false true 3 (.ref 1 0) h1=some (pa,h1):=ldx rfl a1 a4
 have l3:aLoad false true 3 (.ref 0 0) h1=some (.agg [I a,I (a+d:Nat),.str t],h1):=rfl
 have z2:aAlloc Tryz.prog 52 h1=some (.ref 2 0,h1++[(52,[I 0,.str [],.nils])]):=al52 h1
 have t2:aStore 3 (h1++[(52,[I 0,.str [],.nils])]) (.ref 2 0) v=some h2:=store_new (s:=h1) hv
 have lc:aLoad false false 1 (.ref 1 2) h2=some (ch,h2):=by
  have:=ld (n:=1) (o:=2) (v:=ch) (s:=h2) (i:=1) (ty:=52) (cs:=pa.cells) rfl (by decide) (by rw[hpac];rfl) (by decide)
  rw[hchs]at this;exact this
 have e1:((0:Int) != 0)=false:=rfl
 refine .intro en8 rfl rfl ⟨N0+N1+N2+N3+N4+N5+N6+N7+N8+N9+60000,fun f hf=>?_⟩
 have q0:=q0 f (by omega)
 have q1:∀s,aCall Tryz.prog (den C f) 22 [.str l,I 400] s=some (.str src,s):=q1 f (by omega)
 have q2:=q2 f (by omega)
 have q3:∀s,aCall Tryz.prog (den C f) 22 [.str t0,I 40] s=some (.str t,s):=q3 f (by omega)
 have q4:=q4 f (by omega)
 have q5:=q5 f (by omega)
 have q6:=q6 f (by omega)
 have q7:=q7 f (by omega)
 have q8:=q8 f (by omega)
 have fin:∀E:Env,LE E re 0 0 0 cs0.length tv wv ch→∃s',aLoop (F8_L1 (den C f) f) f E h2=some (.bool true,s'):=fun E hE =>
  q9 f (by omega) f (by omega) f (by omega) 0 0 E h2 (Nat.le_refl _) (by rw[List.drop_zero,hsrc];omega) (by rw[List.drop_zero];omega) hE rfl
 rw[F8_eq,F8]
 simp -implicitDefEqProofs only[sL,bx,q0,q1,lx,LexF.len9,w1,q2,sx,la,ly,w2,w3,q4,w4,sy,kLoad_ref,kStore_ref,kc,dk,d8_5 0,lt,q3,st,q5,sa,z1,t1,l5,l3,q6,sc,z2,t2,e1,q7,hvs,q8,hws,lc,hchl]
 refine fin _ ⟨?_,?_,?_,?_,?_,?_,?_,?_,?_⟩
 ·exact rfl
 ·exact rfl
 ·exact rfl
 ·exact rfl
 ·exact rfl
 ·exact rfl
 ·exact rfl
 ·exact rfl
 ·exact rfl
theorem reuses_row_run (l:List UInt8)(r:Raw):AC C 8 [.str l,r.av] (.bool true):=reuses_run l r.2.2.data.toList r.1 r.2.1
end RepF
end
