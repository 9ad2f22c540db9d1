/- RowGi -/
import Derived.Test.YtkikcleofaeigaaGreatDoorR
import Derived.Test.YtkikcleofaeigaaGreatDoorH
import Derived.Test.YtkikcleofaeigaaGreatDoorK1
import Derived.Test.YtkikcleofaeigaaGreatDoorK2
import Derived.Test.YtkikcleofaeigaaGreatDoorCards
import Derived.Test.YtkikcleofaeigaaGreatDoorTie
set_option linter.all false

section
namespace Go.Proofs.YtkikcleofaeigaaGreatDoor
open Go.ChangeShapes Go.WideShapes Go.ChangeAt Go.RowKit
theorem Tryz.own : ownKnob Tryz.prog.godebug = none := by kernel_rfl
theorem Tryz.laidOut : laidOutB Tryz.prog = true := by kernel_rfl
set_option maxRecDepth 100000 in
theorem greentreeIdentity_lifted (os : Os) (started : os.Started) (H : Type) (enc : TypeId × Value → H) :
    ReturnsInHanded {} Tryz.checked os 5 .any (fun w args => (Rows.greentreeIdentitySpec.pre enc Tryz.prog Tryz.f5 Rows.greentreeIdentityRow.domain false w args ∧ laidMetH Tryz.prog ParF.laidP w) ∧ sizedMet enc Tryz.prog Tryz.f5 (OpenSpec.ofChange Rows.greentreeIdentitySpec) false w args)
      (Rows.greentreeIdentitySpec.post enc Tryz.prog Tryz.f5 false true false false) := by
  refine returnsInHanded_of_change_and (C := Tryz.checked) (X := fun w _ => laidMetH Tryz.prog ParF.laidP w) (fun _ _ _ hh h => h.of_heap hh) Tryz.own started (by kernel_rfl) Tryz.func5
    (ChangeSpec.witness_shaped (enc := enc) (C := Tryz.checked) (os := os) (X := fun w _ => laidMetH Tryz.prog ParF.laidP w) false (World.laidAll Tryz.prog os ParF.laidP) #[.string ⟨#[]⟩, .string ⟨#[]⟩] 8 (World.laidAll_os _ _ _)
      (World.shaped_of_ZipB (by kernel_rfl) (by kernel_rfl)) (by kernel_rfl) (by kernel_rfl) (by kernel_rfl)
      (by rw [MakeChecks.laidMetH_plain _ _ _ (by kernel_rfl)]; exact laidMet_laidAll _ (by kernel_rfl) (by kernel_rfl))) ?_
  intro W base args ds gs before hval0 hW _ _ hL _
  have hval : ∀ (j : Nat) t v, Tryz.f5.params[j]? = some t → args[j]? = some v → Value.okWide Tryz.prog W .any base t v := hval0
  have hW' := hW
  obtain ⟨p, q, hA0, hV, rfl, _, _⟩ := hW
  have hA : DataW.TrodAll enc Tryz.prog W 0 (fun _ => true) true Tryz.f5.params.toList args.toList ds p := hA0
  rw [Tryz.params5] at hA hval
  obtain ⟨v0, v1, d0, d1, p0, p1, rfl, rfl, rfl, h0, h1⟩ := trodAll_two hA
  obtain ⟨rfl, rfl⟩ := trodVars_none hV
  obtain ⟨x0, rfl⟩ := okWide_string ParF.under9r (hval 0 9 v0 rfl rfl)
  obtain ⟨x1, rfl⟩ := okWide_string ParF.under9r (hval 1 9 v1 rfl rfl)
  clear hA0 hval0
  simp only [List.append_nil] at hW'
  have hlt : ∀ x ∈ p0 ++ p1, x.block < W.heap.size := fun x hx => by simpa using hW'.lt x hx
  refine (ParF.run_true (GrnF.identity_run x0.data.toList x1.data.toList) (fun a ha => ?_) W (ParF.tab_of hL) (.cons _ _ _ _ (ParF.rel_bytes _) (.cons _ _ _ _ (ParF.rel_bytes _) .nil))).mono fun e W' ⟨he, hnx⟩ => ⟨_, he, ?_⟩
  · simp only [List.mem_cons, List.not_mem_nil, or_false] at ha
    rcases ha with rfl | rfl <;> rfl
  · refine ⟨_, _, _, [] ++ [], p0 ++ p1, [], hW', ?_, ?_, by rfl, hnx.frame _, fun h => by cases h⟩
    · exact trodAll_mk1 (shut_bool Tryz.underlying4 true)
    · exact trodAll_mk2
        (Below.trod Tryz.laidOut (by kernel_rfl) (of_decide_eq_true (by kernel_rfl)) h0 hnx (fun x hx => hlt x (List.mem_append_left _ hx)))
        (Below.trod Tryz.laidOut (by kernel_rfl) (of_decide_eq_true (by kernel_rfl)) h1 hnx (fun x hx => hlt x (List.mem_append_right _ hx)))
theorem andI {a b : Bool} (h : a = true) (k : b = true) : (a && b) = true := by rw [h, k]; rfl
theorem greentreeIdentity_closed : joinedFacts Tryz.prog 5 Tryz.f5 Rows.greentreeIdentitySpec Rows.greentreeIdentityRow = true := by
  have h := (andI (andI (andI (andI (andI (andI (andI (andI (andI (andI (andI (andI (andI (andI (andI (andI (andI (andI (andI (andI (andI (andI (andI (andI (andI (andI (andI (andI (andI (andI (andI greentreeIdentity_k0 greentreeIdentity_k1) greentreeIdentity_k2) greentreeIdentity_k3) greentreeIdentity_k4) greentreeIdentity_k5) greentreeIdentity_k6) greentreeIdentity_k7) greentreeIdentity_k8) greentreeIdentity_k9) greentreeIdentity_k10) greentreeIdentity_k11) greentreeIdentity_k12) greentreeIdentity_k13) greentreeIdentity_k14) greentreeIdentity_k15) greentreeIdentity_k16) greentreeIdentity_k17) greentreeIdentity_k18) greentreeIdentity_k19) greentreeIdentity_k20) greentreeIdentity_k21) greentreeIdentity_k22) greentreeIdentity_k23) greentreeIdentity_k24) greentreeIdentity_k25) greentreeIdentity_k26) greentreeIdentity_k27) greentreeIdentity_k28) greentreeIdentity_k29) greentreeIdentity_k30) greentreeIdentity_k31)
  exact Eq.trans (by kernel_rfl) h
theorem greentreeIdentity_row : Rows.GreentreeIdentitySaid :=
  OpenClaim.holds_of_wide 5 Tryz.f5 rfl rfl rfl rfl rfl rfl rfl ⟨rfl, rfl, rfl, rfl, rfl⟩ rfl rfl rfl rfl rfl greentreeIdentity_fn Tryz.func5 greentreeIdentity_closed
    (of_decide_eq_true (by kernel_rfl)) (by unfold Func.isWrapper; first | (rw [if_pos (by decide +kernel)]; kernel_rfl) | (rw [if_neg (by decide +kernel)]; exact ⟨rfl, rfl⟩))
    (fun os started H enc _ => greentreeIdentity_lifted os started H enc)
theorem GreentreeIdentity_holds : Rows.GreentreeIdentityCardSaid :=
  Claim7.holds_tied_plain_at .later [] [.listed, .data] true (true, "c8f19d327cee1bbafca08ac9df62e5928c0894db283297587b4fa0fb96790cb4") true
    greentreeIdentity_row (fun _ h => by cases h) greentreeIdentity_wf (fun _ h => by cases h) greentreeIdentity_row_tie rfl ⟨rfl, rfl⟩ greentreeIdentity_main rfl
    (fun f fn hf hfn => by
      obtain rfl : f = 5 := Option.some.inj (greentreeIdentity_fn.symm.trans hf) |>.symm
      obtain rfl : fn = Tryz.f5 := (Option.some.inj (Tryz.func5.symm.trans hfn)).symm
      exact ⟨greentreeIdentity_looks, fun j t ht => by
        rw [Tryz.params5] at ht
        have hm : t ∈ [9, 9] := by simpa using Array.mem_of_getElem? ht
        have hall := greentreeIdentity_stand
        exact (show Tryz.prog.wantsStandIn t = false by simpa using List.all_eq_true.1 hall t hm)⟩)
    greentreeIdentity_goes
#print axioms GreentreeIdentity_holds
end Go.Proofs.YtkikcleofaeigaaGreatDoor
end
