/- RepV, RepW -/
import Derived.Test.YtkikcleofaeigaaGreatDoorI
import Derived.Test.YtkikcleofaeigaaGreatDoorR
set_option linter.all false

section
set_option maxRecDepth 100000
set_option maxHeartbeats 4000000
namespace RepF
open Go Go.Abs Go.Proofs ParF Pm
theorem src_of {l:Bytes} {T:Tree} (h:IsFile (LexF.tokz l) T):srcT T=l:=(isFile_facts h).2.1
theorem strEq (x y:List UInt8):aBin Tryz.prog .eql 9 (.str x) (.str y)=some (.bool (x == y)):=by simp [aBin,strBin]
theorem errors_run (l m t0:List UInt8) (x y:Int):AC C 9 [.str l,.str m,.agg [I x,I y,.str t0]] (.bool true):=by
 have hl:(l.take 200).length≤200:=by rw [List.length_take]; omega
 have hm:(m.take 200).length≤200:=by rw [List.length_take]; omega
 have ht:(t0.take 40).length≤40:=by rw [List.length_take]; omega
 obtain ⟨N0,q0⟩:=LexF.AC.at example_run
 obtain ⟨N1,q1⟩:=LexF.AC.at (LexF.short_run l 200)
 obtain ⟨N2,q2⟩:=LexF.AC.at (LexF.short_run m 200)
 obtain ⟨N3,q3⟩:=LexF.AC.at (LexF.short_run t0 40)
 generalize l.take 200=A at *
 generalize m.take 200=B at *
 generalize t0.take 40=t at *
 obtain ⟨T,pa,hF,hT,hp⟩:=parse_run A (by omega) (kinds _)
 obtain ⟨U,pb,hF2,hU,hp2⟩:=parse_run B (by omega) (kinds _)
 have hn:(LexF.nextOf A t 0 0).length≤2000:=by rw [LexF.next_len (Nat.le_refl _) (Nat.zero_le _)]; omega
 obtain ⟨cs0,eU,_,_⟩:=file_kids hF2
 obtain ⟨_,_,hzT,_⟩:=isFile_facts hF
 have hs:=same_run _ T U pa pb (Nat.le_refl _) hT hU (by omega)
 obtain ⟨N4,q4⟩:=LexF.AC.at hp
 obtain ⟨N5,q5⟩:=LexF.AC.at hp2
 obtain ⟨N6,q6⟩:=LexF.AC.at hs
 obtain ⟨a1,a2,a3,a4⟩:=hT.cells
 obtain ⟨b1,b2,b3,b4⟩:=hU.cells
 have sa:pa.strip=pa:=by rw [a4]; rfl
 have sb:pb.strip=pb:=by rw [b4]; rfl
 let z67:TypeId × List AV:=(67,[I 0,I 0,.str t])
 let h1:Heap:=[z67,(52,pa.cells)]
 let h2:Heap:=[z67,(52,pa.cells),(52,pb.cells)]
 have bx:aBox true 67 (.agg [I x,I y,.str t0]) []=some (.ref 0 0,[(67,[I x,I y,.str t0])]):=rfl
 have ltx:aLoad false false 1 (.ref 0 2) [(67,[I x,I y,.str t0])]=some (.str t0,[(67,[I x,I y,.str t0])]):=rfl
 have s0:aStore 1 [(67,[I x,I y,.str t0])] (.ref 0 0) (I 0)=some [(67,[I 0,I y,.str t0])]:=rfl
 have s1:aStore 1 [(67,[I 0,I y,.str t0])] (.ref 0 1) (I 0)=some [(67,[I 0,I 0,.str t0])]:=rfl
 have s2:aStore 1 [(67,[I 0,I 0,.str t0])] (.ref 0 2) (.str t)=some [z67]:=rfl
 have z1:aAlloc Tryz.prog 52 [z67]=some (.ref 1 0,[z67]++[(52,[I 0,.str [],.nils])]):=al52 [z67]
 have t1:aStore 3 ([z67]++[(52,[I 0,.str [],.nils])]) (.ref 1 0) pa=some h1:=store_new (s:=[z67]) hT
 have z2:aAlloc Tryz.prog 52 h1=some (.ref 2 0,h1++[(52,[I 0,.str [],.nils])]):=al52 h1
 have t2:aStore 3 (h1++[(52,[I 0,.str [],.nils])]) (.ref 2 0) pb=some h2:=store_new (s:=h1) hU
 have z3:aAlloc Tryz.prog 52 h2=some (.ref 3 0,h2++[(52,[I 0,.str [],.nils])]):=al52 h2
 have l9:aLoad false true 3 (.ref 2 0) h2=some (pb,h2):=ldx rfl b1 b4
 have l5:aLoad false true 3 (.ref 0 0) h2=some (.agg [I 0,I 0,.str t],h2):=rfl
 have e0:((0:Int) == 0)=true:=rfl
 have e1:((0:Int) != 0)=false:=rfl
 have e3:((3:Int) == 3)=true:=rfl
 have bd:=bd52z
 by_cases hTU:T=U
 ·subst hTU
  subst eU
  have hAB:A=B:=(src_of hF).symm.trans (src_of hF2)
  subst hAB
  rw [(eqT_iff _ _).2 rfl] at q6
  obtain ⟨v,re,hu,hr⟩:=reparse_run (t:=t) (a:=0) (b:=0) (by omega) (Nat.le_refl _) (Nat.zero_le _) hn hF hU
  obtain ⟨N7,q7⟩:=LexF.AC.at hr
  obtain ⟨ks,_,_,_,hv⟩:=hu
  obtain ⟨c1,c2,c3,c4⟩:=hv.cells
  have sc:v.strip=v:=by rw [c4]; rfl
  let h3:Heap:=[z67,(52,pa.cells),(52,pb.cells),(52,v.cells)]
  have t3:aStore 3 (h2++[(52,[I 0,.str [],.nils])]) (.ref 3 0) v=some h3:=store_new (s:=h2) hv
  have l7:aLoad false true 3 (.ref 1 0) h3=some (pa,h3):=ldx rfl a1 a4
  have l93:aLoad false true 3 (.ref 2 0) h3=some (pb,h3):=ldx rfl b1 b4
  have es:(A == A)=true:=by simp
  refine .intro en9 rfl rfl ⟨N0 + N1 + N2 + N3 + N4 + N5 + N6 + N7,fun f hf=>⟨h3,?_⟩⟩
  have q0:=q0 f (by omega)
  have q1:∀ s,aCall Tryz.prog (den C f) 22 [.str l,I 200] s=some (.str A,s):=q1 f (by omega)
  have q2:∀ s,aCall Tryz.prog (den C f) 22 [.str m,I 200] s=some (.str A,s):=q2 f (by omega)
  have q3:∀ s,aCall Tryz.prog (den C f) 22 [.str t0,I 40] s=some (.str t,s):=q3 f (by omega)
  have q4:=q4 f (by omega)
  have q5:=q5 f (by omega)
  have q6:=q6 f (by omega)
  have q7:∀ s,aCall Tryz.prog (den C f) 30 [.str A,pb,.agg [I 0,I 0,.str t]] s=some (.tup [v,I re,I 0],s):=q7 f (by omega)
  have q45:pa=pb:=by
   have:=(q4 []).symm.trans (q5 [])
   simpa using this
  subst q45
  rw [F9_eq,F9]
  simp -implicitDefEqProofs only [sL,bx,q0,q1,q2,ltx,q3,s0,s1,s2,q4,sa,z1,t1,z2,t2,l9,l5,q7,sc,z3,t3,e1,l7,l93,q6,e0,strEq,es]
 ·have hneT:eqT T U=false:=by
   cases h:eqT T U with
   | false=>rfl
   | true=>exact absurd ((eqT_iff _ _).1 h) hTU
  rw [hneT] at q6
  have hr:=reparse_no (t:=t) (a:=0) (b:=0) (by omega) (Nat.le_refl _) (Nat.zero_le _) hn hF hU hTU
  obtain ⟨N7,q7⟩:=LexF.AC.at hr
  have hz:=same_run _ _ _ _ _ (Nat.le_refl _) zeroT zeroT (by decide)
  have ez:eqT (.mk 0 [] []) (.mk 0 [] [])=true:=by decide
  rw [ez] at hz
  obtain ⟨N8,q8⟩:=LexF.AC.at hz
  let h3:Heap:=[z67,(52,pa.cells),(52,pb.cells),(52,[I 0,.str [],.nils])]
  have t3:aStore 3 (h2++[(52,[I 0,.str [],.nils])]) (.ref 3 0) (.agg [I 0,.str [],.nils])=some h3:=store_new (s:=h2) zeroT
  have l7:aLoad false true 3 (.ref 1 0) h3=some (pa,h3):=ldx rfl a1 a4
  have l93:aLoad false true 3 (.ref 2 0) h3=some (pb,h3):=ldx rfl b1 b4
  have l113:aLoad false true 3 (.ref 3 0) h3=some (.agg [I 0,.str [],.nils],h3):=rfl
  refine .intro en9 rfl rfl ⟨N0 + N1 + N2 + N3 + N4 + N5 + N6 + N7 + N8,fun f hf=>⟨h3,?_⟩⟩
  have q0:=q0 f (by omega)
  have q1:∀ s,aCall Tryz.prog (den C f) 22 [.str l,I 200] s=some (.str A,s):=q1 f (by omega)
  have q2:∀ s,aCall Tryz.prog (den C f) 22 [.str m,I 200] s=some (.str B,s):=q2 f (by omega)
  have q3:∀ s,aCall Tryz.prog (den C f) 22 [.str t0,I 40] s=some (.str t,s):=q3 f (by omega)
  have q4:=q4 f (by omega)
  have q5:=q5 f (by omega)
  have q6:=q6 f (by omega)
  have q7:∀ s,aCall Tryz.prog (den C f) 30 [.str A,pb,.agg [I 0,I 0,.str t]] s=some (.tup [.agg [I 0,.str [],.nils],I 0,I 3],s):=q7 f (by omega)
  have q8:=q8 f (by omega)
  rw [F9_eq,F9]
  simp -implicitDefEqProofs only [sL,bx,q0,q1,q2,ltx,q3,s0,s1,s2,q4,q5,sa,sb,z1,t1,z2,t2,l9,l5,q7,z3,t3,e1,l7,l93,q6,e0,e3,l113,bd,q8]
theorem errors_row_run (l m:List UInt8) (r:Raw):AC C 9 [.str l,.str m,r.av] (.bool true):=errors_run l m r.2.2.data.toList r.1 r.2.1
end RepF
end

section
set_option maxRecDepth 100000
set_option maxHeartbeats 4000000
namespace RepF
open Go Go.Abs Go.Proofs ParF Pm
theorem ld67 (s:Heap) (x y z:AV) (k:Nat):aLoad false false 1 (.ref s.length k) (s++[(67,[x,y,z])])=[x,y,z][k]?.map fun r=>(r.strip,s++[(67,[x,y,z])]):=EdF.load65 s x y z k
theorem ld67a (s:Heap) (x y z:AV):aLoad false true 3 (.ref s.length 0) (s++[(67,[x,y,z])])=some (.agg [x,y,z],s++[(67,[x,y,z])]):=by
 simp [aLoad,aLoadR,aLoadC,deadTy]
theorem st67_0 (s:Heap) (x y z:AV) (v:Int):aStore 1 (s++[(67,[x,y,z])]) (.ref s.length 0) (I v)=some (s++[(67,[I v,y,z])]):=by
 simp [aStore,AV.solid,AV.cells,setL,stCells,AV.strip,deadTy]
theorem st67_1 (s:Heap) (x y z:AV) (v:Int):aStore 1 (s++[(67,[x,y,z])]) (.ref s.length 1) (I v)=some (s++[(67,[x,I v,z])]):=by
 simp [aStore,AV.solid,AV.cells,setL,stCells,AV.strip,deadTy]
theorem st67_2 (s:Heap) (x y z:AV) (v:List UInt8):aStore 1 (s++[(67,[x,y,z])]) (.ref s.length 2) (.str v)=some (s++[(67,[x,y,.str v])]):=by
 simp [aStore,AV.solid,AV.cells,setL,stCells,AV.strip,deadTy]
theorem takeE {v:AV} {xs:List EdF.Ed} (h:EdF.IsE v xs) {i:Nat} (hi:i≤xs.length):∃ u,aSl Tryz.prog 22 v none (some (I i)) none=some u∧EdF.IsE u (xs.take i):=by
 rcases h with rfl | ⟨rfl,rfl⟩
 ·exact ⟨.sl 67 3 (EdF.eds (xs.take i)) .sh,by simp [aSl,EdF.under44,EdF.sz65,aSlice,aBound,hi,List.map_take],.inl rfl⟩
 ·have:i=0:=by simpa using hi
  subst this
  exact ⟨.nils,by simp [aSl,EdF.under44],.inr ⟨rfl,rfl⟩⟩
theorem atE {v:AV} {xs:List EdF.Ed} (h:EdF.IsE v xs) {i:Nat} {x:EdF.Ed} (hx:xs[i]?=some x):aIndexAddr Tryz.prog 22 v (I i)=some (.box [I x.a,I x.b,.str x.t] 0):=by
 rcases h with rfl | ⟨rfl,rfl⟩
 ·exact EdF.idx44 hx
 ·simp at hx
theorem wsub1 {x y:Nat} (h:y≤x) (hx:x < 2000000000):IntKind.i64.wrap ((x:Int) - (y:Int))=((x - y:Nat):Int):=by rw [wrap64] <;> omega
theorem eq_loop (u:AV) (xs:List EdF.Ed) (hu:EdF.IsE u xs) (hx:xs.length≤5):∀ (k i:Nat) (src:List UInt8) (cs0:List Tree) (ta:AV),xs.length - i=k→i≤xs.length→src.length≤250 + 40 * i→IsFile (LexF.tokz src) (.mk 1 [] cs0)→IsT (.mk 1 [] cs0) ta →
  ∃ N,∀ f,N≤f→∀ r,k < r→∀ n' e s,e 0=.str src→e 5=.ref 0 0→s[0]?=some (52,ta.cells)→e 33=u→e 34=I xs.length→e 35=I i→∃ s',aLoop (F7_L0 (den C f) n') r e s=some (.bool true,s'):=by
 intro k
 induction k with
 | zero =>
  intro i src cs0 ta hk hi hl hF hT
  refine ⟨0,fun f hf r hr n' e s h0 h5 hs h33 h34 h35=>⟨s,?_⟩⟩
  obtain ⟨r,rfl⟩:∃ j,r=j + 1:=⟨r - 1,by omega⟩
  have c:¬ (i:Int) < (xs.length:Int):=by omega
  rw [aLoop,F7_L0]
  simp -implicitDefEqProofs only [sL,h35,h34,c]
 | succ k ih =>
  intro i src cs0 ta hk hi hl hF hT
  have ci:i < xs.length:=by omega
  have c:(i:Int) < (xs.length:Int):=by omega
  have ix:=atE hu (List.getElem?_eq_getElem ci)
  generalize xs[i]=x at *
  obtain ⟨a,ha,hma⟩:=mod_run x.a (src.length + 1) (by omega) (by omega)
  obtain ⟨d,hd,hmd⟩:=mod_run x.b (src.length - a + 1) (by omega) (by omega)
  obtain ⟨N3,q3⟩:=LexF.AC.at (LexF.short_run x.t 40)
  have htl:(x.t.take 40).length≤40:=by rw [List.length_take]; omega
  generalize x.t.take 40=t at *
  have hnl:=LexF.next_len (src:=src) (t:=t) (a:=a) (b:=a + d) (by omega) (by omega)
  obtain ⟨v,re,hu1,hr⟩:=reparse_run (t:=t) (a:=a) (b:=a + d) (by omega) (by omega) (by omega) (by omega) hF hT
  have hsp:=splice_run src t a (a + d) (by omega) (by omega) (by omega)
  have hnx:src.take a++t++src.drop (a + d)=LexF.nextOf src t a (a + d):=rfl
  rw [hnx] at hsp
  obtain ⟨U,pb,hF2,hU,hp2⟩:=parse_run (LexF.nextOf src t a (a + d)) (by omega) (kinds _)
  obtain ⟨ks,e2,hv,h1,h2,hz⟩:=upd_tree hu1 hF2
  subst e2
  have hsm:=same_run _ _ _ v pb (Nat.le_refl _) hv hU (by omega)
  rw [(eqT_iff _ _).2 rfl] at hsm
  obtain ⟨N1,q1⟩:=LexF.AC.at hma
  obtain ⟨N2,q2⟩:=LexF.AC.at hmd
  obtain ⟨N4,q4⟩:=LexF.AC.at hr
  obtain ⟨N5,q5⟩:=LexF.AC.at hsp
  obtain ⟨N6,q6⟩:=LexF.AC.at hp2
  obtain ⟨N7,q7⟩:=LexF.AC.at hsm
  obtain ⟨N8,q8⟩:=ih (i + 1) (LexF.nextOf src t a (a + d)) ks v (by omega) (by omega) (by omega) hF2 hv
  generalize LexF.nextOf src t a (a + d)=nx at *
  refine ⟨N1 + N2 + N3 + N4 + N5 + N6 + N7 + N8,fun f hf r hr n' e s h0 h5 hs h33 h34 h35=>?_⟩
  obtain ⟨r,rfl⟩:∃ j,r=j + 1:=⟨r - 1,by omega⟩
  have q1:=q1 f (by omega)
  have q2:=q2 f (by omega)
  have q3:∀ s,aCall Tryz.prog (den C f) 22 [.str x.t,I 40] s=some (.str t,s):=q3 f (by omega)
  have q4:=q4 f (by omega)
  have q5:=q5 f (by omega)
  have q6:=q6 f (by omega)
  have q7:=q7 f (by omega)
  obtain ⟨a1,a2,a3,a4⟩:=hT.cells
  obtain ⟨b1,b2,b3,b4⟩:=hU.cells
  obtain ⟨c1,c2,c3,c4⟩:=hv.cells
  have sa:ta.strip=ta:=by rw [a4]; rfl
  have sb:pb.strip=pb:=by rw [b4]; rfl
  have sc:v.strip=v:=by rw [c4]; rfl
  have vsol:v.solid=true:=by rw [c4]; rfl
  have w0:=ParF.wadd1 (a:=i) (by omega)
  have w1:=ParF.wadd1 (a:=src.length) (by omega)
  have w2:=wsub1 (x:=src.length) (y:=a) (by omega) (by omega)
  have w3:=ParF.wadd1 (a:=src.length - a) (by omega)
  have w4:=wsum (a:=a) (b:=d) (by omega)
  have hsl:=glt hs
  let s4:Heap:=s++[(67,[I a,I (a + d:Nat),.str t])]
  have n4:s4.length=s.length + 1:=app_length _ _
  let s5:Heap:=s4++[(52,v.cells)]
  have n5:s5.length=s4.length + 1:=app_length _ _
  let s6:Heap:=s5++[(52,pb.cells)]
  have n6:s6.length=s5.length + 1:=app_length _ _
  let s7:Heap:=s6.set 0 (52,v.cells)
  have g4:s4[s.length]?=some (67,[I a,I (a + d:Nat),.str t]):=gapp_new
  have g40:s4[0]?=some (52,ta.cells):=(gapp_old hsl).trans hs
  have g5:s5[s4.length]?=some (52,v.cells):=gapp_new
  have g54:s5[s.length]?=some (67,[I a,I (a + d:Nat),.str t]):=(gapp_old (by omega)).trans g4
  have g50:s5[0]?=some (52,ta.cells):=(gapp_old (by omega)).trans g40
  have g6:s6[s5.length]?=some (52,pb.cells):=gapp_new
  have g65:s6[s4.length]?=some (52,v.cells):=(gapp_old (by omega)).trans g5
  have g60:s6[0]?=some (52,ta.cells):=(gapp_old (by omega)).trans g50
  have l5:aLoad false true 3 (.ref 0 0) s4=some (ta,s4):=ldx g40 a1 a4
  have l8:aLoad false true 3 (.ref s.length 0) s4=some (.agg [I a,I (a + d:Nat),.str t],s4):=ld67a s _ _ _
  have z9:aAlloc Tryz.prog 52 s4=some (.ref s4.length 0,s4++[(52,[I 0,.str [],.nils])]):=al52 s4
  have t9:aStore 3 (s4++[(52,[I 0,.str [],.nils])]) (.ref s4.length 0) v=some s5:=store_new hv
  have l8':aLoad false true 3 (.ref s.length 0) s5=some (.agg [I a,I (a + d:Nat),.str t],s5):=by
   rw [ldA (o:=0) g54 (by decide) (by show 0 + 3≤3; decide) (by decide)]; rfl
  have z12:aAlloc Tryz.prog 52 s5=some (.ref s5.length 0,s5++[(52,[I 0,.str [],.nils])]):=al52 s5
  have t12:aStore 3 (s5++[(52,[I 0,.str [],.nils])]) (.ref s5.length 0) pb=some s6:=store_new hU
  have l9:aLoad false true 3 (.ref s4.length 0) s6=some (v,s6):=ldx g65 c1 c4
  have l12:aLoad false true 3 (.ref s5.length 0) s6=some (pb,s6):=ldx g6 b1 b4
  have kid:∃ ch,aLoad false false 1 (.ref s5.length 2) s6=some (ch,s6)∧aLen Tryz.prog 50 ch=some (I ks.length):=by
   cases hU with
   | mk _ _ _ ch hch =>
    obtain ⟨k1,k2,k3⟩:=hch.strip
    obtain ⟨hl',-⟩:=hch.facts
    have:=ld (n:=1) (o:=2) (v:=ch) g6 (by decide) rfl (by decide)
    rw [k1] at this
    exact ⟨ch,this,hl'⟩
  obtain ⟨ch,lch,lnch⟩:=kid
  have st5:aStore 3 s6 (.ref 0 0) v=some s7:=by
   rw [ParF.st (n:=3) (o:=0) (v:=v) g60 (by decide) vsol c1 (by omega)]
   have hstc:stCells v=v.cells:=by rw [c4]; exact c2
   rw [hstc]
   have:=setL_end [] v.cells ta.cells (by rw [a1,c1])
   rw [List.nil_append,List.nil_append] at this
   rw [show setL ta.cells 0 v.cells=v.cells from this]
  have z0:((0:Int) != 0)=false:=rfl
  have r0:¬ (re:Int) < 0:=by omega
  have r1:¬ (ks.length:Int) < (re:Int):=by omega
  have kc:∀ x y:Int,kCall [I x,I y]=.silent:=fun _ _=>rfl
  have dk:∀ s s':Heap,dyn .silent s s'=.silent:=fun _ _=>rfl
  have ldv:∀ s,aLoad false true 3 (.box [I x.a,I x.b,.str x.t] 0) s=some (x.v,s):=fun s=>rfl
  have sx:=strip_int .i64 x.a
  have zz67:=EdF.alloc65 s
  have ss67:=EdF.store65 s (I 0) (I 0) (.str []) x
  have st2:aStore 1 (s++[(67,[I a,I (a + d:Nat),.str x.t])]) (.ref s.length 2) (.str t)=some s4:=st67_2 s _ _ _ t
  have fin:∀ E:Env,E 0=.str nx→E 5=.ref 0 0→E 33=u→E 34=I xs.length→E 35=I (i + 1:Nat)→∃ s',aLoop (F7_L0 (den C f) n') r E s7=some (.bool true,s'):=fun E k0 k5 k33 k34 k35 =>
   q8 f (by omega) r (by omega) n' E s7 k0 k5 (gset_eq g60) k33 k34 k35
  rw [aLoop,F7_L0]
  simp -implicitDefEqProofs only [sL,h35,h34,h33,c,ix,ldv,zz67,ss67,ld67,st67_0,st67_1,st2,h0,LexF.len9,w0,w1,w2,w3,w4,q1,q2,q3,kLoad_ref,kStore_ref,kc,dk,d7_11 s.length,h5,l5,l8,sa,q4,sc,z9,t9,l8',q5,q6,sb,z12,t12,z0,l9,l12,q7,r0,lch,lnch,r1,st5]
  refine fin _ ?_ ?_ ?_ ?_ ?_
  ·exact rfl
  ·exact (upds_get _ _ _ rfl).trans h5
  ·exact (upds_get _ _ _ rfl).trans h33
  ·exact (upds_get _ _ _ rfl).trans h34
  ·exact rfl
theorem equals_run (l:List UInt8) (v:AV) (xs:List EdF.Ed) (hv:EdF.IsE v xs):AC C 7 [.str l,v] (.bool true):=by
 have hl:(l.take 250).length≤250:=by rw [List.length_take]; omega
 obtain ⟨N0,q0⟩:=LexF.AC.at example_run
 obtain ⟨N1,q1⟩:=LexF.AC.at (LexF.short_run l 250)
 generalize l.take 250=A at *
 obtain ⟨T,pa,hF,hT,hp⟩:=parse_run A (by omega) (kinds _)
 obtain ⟨cs0,rfl,_,_⟩:=file_kids hF
 obtain ⟨N2,q2⟩:=LexF.AC.at hp
 obtain ⟨u,hu1,hu2⟩:=takeE hv (i:=min xs.length 5) (by omega)
 have hle:(xs.take (min xs.length 5)).length≤5:=by rw [List.length_take]; omega
 obtain ⟨N3,q3⟩:=eq_loop u _ hu2 hle _ 0 A cs0 pa rfl (by omega) (by omega) hF hT
 have l1:=hv.len
 have l2:=hu2.len
 have st1:=hv.strip
 have e1:(if (5:Int) < (xs.length:Int) then (5:Int) else (xs.length:Int))=((min xs.length 5:Nat):Int):=by split <;> omega
 generalize xs.take (min xs.length 5)=ys at *
 obtain ⟨a1,a2,a3,a4⟩:=hT.cells
 have sa:pa.strip=pa:=by rw [a4]; rfl
 let h1:Heap:=[(52,pa.cells)]
 have z0:aAlloc Tryz.prog 52 []=some (.ref 0 0,[(52,[I 0,.str [],.nils])]):=al52 []
 have t0:aStore 3 [(52,[I 0,.str [],.nils])] (.ref 0 0) pa=some h1:=store_new (s:=[]) hT
 have e0:((0:Int) != 0)=false:=rfl
 refine .intro en7 (by rw [noRefL_cons,noRefL_cons,noRefL_nil,hv.noRef]; rfl) rfl ⟨N0 + N1 + N2 + N3 + 10,fun f hf=>?_⟩
 have q0:=q0 f (by omega)
 have q1:∀ s,aCall Tryz.prog (den C f) 22 [.str l,I 250] s=some (.str A,s):=q1 f (by omega)
 have q2:=q2 f (by omega)
 have fin:∀ E:Env,E 0=.str A→E 5=.ref 0 0→E 33=u→E 34=I ys.length→E 35=I (0:Nat)→∃ s',aLoop (F7_L0 (den C f) f) f E h1=some (.bool true,s'):=fun E k0 k5 k33 k34 k35 =>
  q3 f (by omega) f (by omega) f E h1 k0 k5 rfl k33 k34 k35
 rw [F7_eq,F7]
 simp -implicitDefEqProofs only [sL,q0,q1,q2,sa,z0,t0,e0,st1,l1,e1,hu1,l2]
 refine fin _ ?_ ?_ ?_ ?_ ?_
 ·exact rfl
 ·exact rfl
 ·exact rfl
 ·exact rfl
 ·exact rfl
end RepF
end
