/- RepV -/
import Derived.Test.YtkikcleofaeigaaGreatDoorI
import Derived.Test.YtkikcleofaeigaaGreatDoorR
set_option linter.all false

section
set_option maxRecDepth 100000
set_option maxHeartbeats 4000000
namespace RepF
open Go Go.Abs Go.Proofs ParF Pm
theorem src_of {l:Bytes} {T:Tree} (h:IsFile (LexF.tokz l) T):srcT T=l:=(isFile_facts h).2.1
theorem strEq (x y:List UInt8):aBin Tryz.prog .eql 9 (.str x) (.str y)=some (.bool (x == y)):=by simp [aBin,strBin]
theorem errors_run (l m t0:List UInt8) (x y:Int):AC C 9 [.str l,.str m,.agg [I x,I y,.str t0]] (.bool true):=by
 have hl:(l.take 200).length≤200:=by rw [List.length_take]; omega
 have hm:(m.take 200).length≤200:=by rw [List.length_take]; omega
 have ht:(t0.take 40).length≤40:=by rw [List.length_take]; omega
 obtain ⟨N0,q0⟩:=LexF.AC.at example_run
 obtain ⟨N1,q1⟩:=LexF.AC.at (LexF.short_run l 200)
 obtain ⟨N2,q2⟩:=LexF.AC.at (LexF.short_run m 200)
 obtain ⟨N3,q3⟩:=LexF.AC.at (LexF.short_run t0 40)
 generalize l.take 200=A at *
 generalize m.take 200=B at *
 generalize t0.take 40=t at *
 obtain ⟨T,pa,hF,hT,hp⟩:=parse_run A (by omega) (kinds _)
 obtain ⟨U,pb,hF2,hU,hp2⟩:=parse_run B (by omega) (kinds _)
 have hn:(LexF.nextOf A t 0 0).length≤2000:=by rw [LexF.next_len (Nat.le_refl _) (Nat.zero_le _)]; omega
 obtain ⟨cs0,eU,_,_⟩:=file_kids hF2
 obtain ⟨_,_,hzT,_⟩:=isFile_facts hF
 have hs:=same_run _ T U pa pb (Nat.le_refl _) hT hU (by omega)
 obtain ⟨N4,q4⟩:=LexF.AC.at hp
 obtain ⟨N5,q5⟩:=LexF.AC.at hp2
 obtain ⟨N6,q6⟩:=LexF.AC.at hs
 obtain ⟨a1,a2,a3,a4⟩:=hT.cells
 obtain ⟨b1,b2,b3,b4⟩:=hU.cells
 have sa:pa.strip=pa:=by rw [a4]; rfl
 have sb:pb.strip=pb:=by rw [b4]; rfl
 let z67:TypeId × List AV:=(67,[I 0,I 0,.str t])
 let h1:Heap:=[z67,(52,pa.cells)]
 let h2:Heap:=[z67,(52,pa.cells),(52,pb.cells)]
 have bx:aBox true 67 (.agg [I x,I y,.str t0]) []=some (.ref 0 0,[(67,[I x,I y,.str t0])]):=rfl
 have ltx:aLoad false false 1 (.ref 0 2) [(67,[I x,I y,.str t0])]=some (.str t0,[(67,[I x,I y,.str t0])]):=rfl
 have s0:aStore 1 [(67,[I x,I y,.str t0])] (.ref 0 0) (I 0)=some [(67,[I 0,I y,.str t0])]:=rfl
 have s1:aStore 1 [(67,[I 0,I y,.str t0])] (.ref 0 1) (I 0)=some [(67,[I 0,I 0,.str t0])]:=rfl
 have s2:aStore 1 [(67,[I 0,I 0,.str t0])] (.ref 0 2) (.str t)=some [z67]:=rfl
 have z1:aAlloc Tryz.prog 52 [z67]=some (.ref 1 0,[z67]++[(52,[I 0,.str [],.nils])]):=al52 [z67]
 have t1:aStore 3 ([z67]++[(52,[I 0,.str [],.nils])]) (.ref 1 0) pa=some h1:=store_new (s:=[z67]) hT
 have z2:aAlloc Tryz.prog 52 h1=some (.ref 2 0,h1++[(52,[I 0,.str [],.nils])]):=al52 h1
 have t2:aStore 3 (h1++[(52,[I 0,.str [],.nils])]) (.ref 2 0) pb=some h2:=store_new (s:=h1) hU
 have z3:aAlloc Tryz.prog 52 h2=some (.ref 3 0,h2++[(52,[I 0,.str [],.nils])]):=al52 h2
 have l9:aLoad false true 3 (.ref 2 0) h2=some (pb,h2):=ldx rfl b1 b4
 have l5:aLoad false true 3 (.ref 0 0) h2=some (.agg [I 0,I 0,.str t],h2):=rfl
 have e0:((0:Int) == 0)=true:=rfl
 have e1:((0:Int) != 0)=false:=rfl
 have e3:((3:Int) == 3)=true:=rfl
 have bd:=bd52z
 by_cases hTU:T=U
 ·subst hTU
  subst eU
  have hAB:A=B:=(src_of hF).symm.trans (src_of hF2)
  subst hAB
  rw [(eqT_iff _ _).2 rfl] at q6
  obtain ⟨v,re,hu,hr⟩:=reparse_run (t:=t) (a:=0) (b:=0) (by omega) (Nat.le_refl _) (Nat.zero_le _) hn hF hU
  obtain ⟨N7,q7⟩:=LexF.AC.at hr
  obtain ⟨ks,_,_,_,hv⟩:=hu
  obtain ⟨c1,c2,c3,c4⟩:=hv.cells
  have sc:v.strip=v:=by rw [c4]; rfl
  let h3:Heap:=[z67,(52,pa.cells),(52,pb.cells),(52,v.cells)]
  have t3:aStore 3 (h2++[(52,[I 0,.str [],.nils])]) (.ref 3 0) v=some h3:=store_new (s:=h2) hv
  have l7:aLoad false true 3 (.ref 1 0) h3=some (pa,h3):=ldx rfl a1 a4
  have l93:aLoad false true 3 (.ref 2 0) h3=some (pb,h3):=ldx rfl b1 b4
  have es:(A == A)=true:=by simp
  refine .intro en9 rfl rfl ⟨N0 + N1 + N2 + N3 + N4 + N5 + N6 + N7,fun f hf=>⟨h3,?_⟩⟩
  have q0:=q0 f (by omega)
  have q1:∀ s,aCall Tryz.prog (den C f) 22 [.str l,I 200] s=some (.str A,s):=q1 f (by omega)
  have q2:∀ s,aCall Tryz.prog (den C f) 22 [.str m,I 200] s=some (.str A,s):=q2 f (by omega)
  have q3:∀ s,aCall Tryz.prog (den C f) 22 [.str t0,I 40] s=some (.str t,s):=q3 f (by omega)
  have q4:=q4 f (by omega)
  have q5:=q5 f (by omega)
  have q6:=q6 f (by omega)
  have q7:∀ s,aCall Tryz.prog (den C f) 30 [.str A,pb,.agg [I 0,I 0,.str t]] s=some (.tup [v,I re,I 0],s):=q7 f (by omega)
  have q45:pa=pb:=by
   have:=(q4 []).symm.trans (q5 [])
   simpa using this
  subst q45
  rw [F9_eq,F9]
  simp -implicitDefEqProofs only [sL,bx,q0,q1,q2,ltx,q3,s0,s1,s2,q4,sa,z1,t1,z2,t2,l9,l5,q7,sc,z3,t3,e1,l7,l93,q6,e0,strEq,es]
 ·have hneT:eqT T U=false:=by
   cases h:eqT T U with
   | false=>rfl
   | true=>exact absurd ((eqT_iff _ _).1 h) hTU
  rw [hneT] at q6
  have hr:=reparse_no (t:=t) (a:=0) (b:=0) (by omega) (Nat.le_refl _) (Nat.zero_le _) hn hF hU hTU
  obtain ⟨N7,q7⟩:=LexF.AC.at hr
  have hz:=same_run _ _ _ _ _ (Nat.le_refl _) zeroT zeroT (by decide)
  have ez:eqT (.mk 0 [] []) (.mk 0 [] [])=true:=by decide
  rw [ez] at hz
  obtain ⟨N8,q8⟩:=LexF.AC.at hz
  let h3:Heap:=[z67,(52,pa.cells),(52,pb.cells),(52,[I 0,.str [],.nils])]
  have t3:aStore 3 (h2++[(52,[I 0,.str [],.nils])]) (.ref 3 0) (.agg [I 0,.str [],.nils])=some h3:=store_new (s:=h2) zeroT
  have l7:aLoad false true 3 (.ref 1 0) h3=some (pa,h3):=ldx rfl a1 a4
  have l93:aLoad false true 3 (.ref 2 0) h3=some (pb,h3):=ldx rfl b1 b4
  have l113:aLoad false true 3 (.ref 3 0) h3=some (.agg [I 0,.str [],.nils],h3):=rfl
  refine .intro en9 rfl rfl ⟨N0 + N1 + N2 + N3 + N4 + N5 + N6 + N7 + N8,fun f hf=>⟨h3,?_⟩⟩
  have q0:=q0 f (by omega)
  have q1:∀ s,aCall Tryz.prog (den C f) 22 [.str l,I 200] s=some (.str A,s):=q1 f (by omega)
  have q2:∀ s,aCall Tryz.prog (den C f) 22 [.str m,I 200] s=some (.str B,s):=q2 f (by omega)
  have q3:∀ s,aCall Tryz.prog (den C f) 22 [.str t0,I 40] s=some (.str t,s):=q3 f (by omega)
  have q4:=q4 f (by omega)
  have q5:=q5 f (by omega)
  have q6:=q6 f (by omega)
  have q7:∀ s,aCall Tryz.prog (den C f) 30 [.str A,pb,.agg [I 0,I 0,.str t]] s=some (.tup [.agg [I 0,.str [],.nils],I 0,I 3],s):=q7 f (by omega)
  have q8:=q8 f (by omega)
  rw [F9_eq,F9]
  simp -implicitDefEqProofs only [sL,bx,q0,q1,q2,ltx,q3,s0,s1,s2,q4,q5,sa,sb,z1,t1,z2,t2,l9,l5,q7,z3,t3,e1,l7,l93,q6,e0,e3,l113,bd,q8]
theorem errors_row_run (l m:List UInt8) (r:Raw):AC C 9 [.str l,.str m,r.av] (.bool true):=errors_run l m r.2.2.data.toList r.1 r.2.1
end RepF
end
