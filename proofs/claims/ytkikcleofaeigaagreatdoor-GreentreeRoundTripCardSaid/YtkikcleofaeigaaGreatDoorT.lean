/- RowGr -/
import Derived.Test.YtkikcleofaeigaaGreatDoorR
import Derived.Test.YtkikcleofaeigaaGreatDoorH
import Derived.Test.YtkikcleofaeigaaGreatDoorK1
import Derived.Test.YtkikcleofaeigaaGreatDoorK2
import Derived.Test.YtkikcleofaeigaaGreatDoorCards
import Derived.Test.YtkikcleofaeigaaGreatDoorTie
set_option linter.all false

section
namespace Go.Proofs.YtkikcleofaeigaaGreatDoor
open Go.ChangeShapes Go.WideShapes Go.ChangeAt Go.RowKit
theorem Tryz.own : ownKnob Tryz.prog.godebug = none := by kernel_rfl
theorem Tryz.laidOut : laidOutB Tryz.prog = true := by kernel_rfl
set_option maxRecDepth 100000 in
theorem greentreeRoundTrip_lifted (os : Os) (started : os.Started) (H : Type) (enc : TypeId × Value → H) :
    ReturnsInHanded {} Tryz.checked os 4 .any (fun w args => (Rows.greentreeRoundTripSpec.pre enc Tryz.prog Tryz.f4 Rows.greentreeRoundTripRow.domain false w args ∧ laidMetH Tryz.prog ParF.laidP w) ∧ sizedMet enc Tryz.prog Tryz.f4 (OpenSpec.ofChange Rows.greentreeRoundTripSpec) false w args)
      (Rows.greentreeRoundTripSpec.post enc Tryz.prog Tryz.f4 false true false false) := by
  refine returnsInHanded_of_change_and (C := Tryz.checked) (X := fun w _ => laidMetH Tryz.prog ParF.laidP w) (fun _ _ _ hh h => h.of_heap hh) Tryz.own started (by kernel_rfl) Tryz.func4
    (ChangeSpec.witness_shaped (enc := enc) (C := Tryz.checked) (os := os) (X := fun w _ => laidMetH Tryz.prog ParF.laidP w) false (World.laidAll Tryz.prog os ParF.laidP) #[.string ⟨#[]⟩] 8 (World.laidAll_os _ _ _)
      (World.shaped_of_ZipB (by kernel_rfl) (by kernel_rfl)) (by kernel_rfl) (by kernel_rfl) (by kernel_rfl)
      (by rw [MakeChecks.laidMetH_plain _ _ _ (by kernel_rfl)]; exact laidMet_laidAll _ (by kernel_rfl) (by kernel_rfl))) ?_
  intro W base args ds gs before hval0 hW _ _ hL _
  have hval : ∀ (j : Nat) t v, Tryz.f4.params[j]? = some t → args[j]? = some v → Value.okWide Tryz.prog W .any base t v := hval0
  have hW' := hW
  obtain ⟨p, q, hA0, hV, rfl, _, _⟩ := hW
  have hA : DataW.TrodAll enc Tryz.prog W 0 (fun _ => true) true Tryz.f4.params.toList args.toList ds p := hA0
  rw [Tryz.params4] at hA hval
  obtain ⟨v0, d0, rfl, rfl, h0⟩ := trodAll_one hA
  obtain ⟨rfl, rfl⟩ := trodVars_none hV
  obtain ⟨x0, rfl⟩ := okWide_string ParF.under9r (hval 0 9 v0 rfl rfl)
  clear hA0 hval0
  simp only [List.append_nil] at hW'
  have hlt : ∀ x ∈ p, x.block < W.heap.size := fun x hx => by simpa using hW'.lt x hx
  refine (ParF.run_true (GrnF.roundTrip_run x0.data.toList) (fun a ha => ?_) W (ParF.tab_of hL) (.cons _ _ _ _ (ParF.rel_bytes _) .nil)).mono fun e W' ⟨he, hnx⟩ => ⟨_, he, ?_⟩
  · simp only [List.mem_cons, List.not_mem_nil, or_false] at ha
    subst ha; rfl
  · refine ⟨_, _, _, [] ++ [], p, [], hW', ?_, ?_, by rfl, hnx.frame _, fun h => by cases h⟩
    · exact trodAll_mk1 (shut_bool Tryz.underlying4 true)
    · exact trodAll_mk1
        (Below.trod Tryz.laidOut (by kernel_rfl) (of_decide_eq_true (by kernel_rfl)) h0 hnx (fun x hx => hlt x (hx)))
theorem andI {a b : Bool} (h : a = true) (k : b = true) : (a && b) = true := by rw [h, k]; rfl
theorem greentreeRoundTrip_closed : joinedFacts Tryz.prog 4 Tryz.f4 Rows.greentreeRoundTripSpec Rows.greentreeRoundTripRow = true := by
  have h := (andI (andI (andI (andI (andI (andI (andI (andI (andI (andI (andI (andI (andI (andI (andI (andI (andI (andI (andI (andI (andI (andI (andI (andI (andI (andI (andI (andI (andI (andI (andI greentreeRoundTrip_k0 greentreeRoundTrip_k1) greentreeRoundTrip_k2) greentreeRoundTrip_k3) greentreeRoundTrip_k4) greentreeRoundTrip_k5) greentreeRoundTrip_k6) greentreeRoundTrip_k7) greentreeRoundTrip_k8) greentreeRoundTrip_k9) greentreeRoundTrip_k10) greentreeRoundTrip_k11) greentreeRoundTrip_k12) greentreeRoundTrip_k13) greentreeRoundTrip_k14) greentreeRoundTrip_k15) greentreeRoundTrip_k16) greentreeRoundTrip_k17) greentreeRoundTrip_k18) greentreeRoundTrip_k19) greentreeRoundTrip_k20) greentreeRoundTrip_k21) greentreeRoundTrip_k22) greentreeRoundTrip_k23) greentreeRoundTrip_k24) greentreeRoundTrip_k25) greentreeRoundTrip_k26) greentreeRoundTrip_k27) greentreeRoundTrip_k28) greentreeRoundTrip_k29) greentreeRoundTrip_k30) greentreeRoundTrip_k31)
  exact Eq.trans (by kernel_rfl) h
theorem greentreeRoundTrip_row : Rows.GreentreeRoundTripSaid :=
  OpenClaim.holds_of_wide 4 Tryz.f4 rfl rfl rfl rfl rfl rfl rfl ⟨rfl, rfl, rfl, rfl, rfl⟩ rfl rfl rfl rfl rfl greentreeRoundTrip_fn Tryz.func4 greentreeRoundTrip_closed
    (of_decide_eq_true (by kernel_rfl)) (by unfold Func.isWrapper; first | (rw [if_pos (by decide +kernel)]; kernel_rfl) | (rw [if_neg (by decide +kernel)]; exact ⟨rfl, rfl⟩))
    (fun os started H enc _ => greentreeRoundTrip_lifted os started H enc)
theorem GreentreeRoundTrip_holds : Rows.GreentreeRoundTripCardSaid :=
  Claim7.holds_tied_plain_at .later [] [.listed, .data] true (true, "c8f19d327cee1bbafca08ac9df62e5928c0894db283297587b4fa0fb96790cb4") true
    greentreeRoundTrip_row (fun _ h => by cases h) greentreeRoundTrip_wf (fun _ h => by cases h) greentreeRoundTrip_row_tie rfl ⟨rfl, rfl⟩ greentreeRoundTrip_main rfl
    (fun f fn hf hfn => by
      obtain rfl : f = 4 := Option.some.inj (greentreeRoundTrip_fn.symm.trans hf) |>.symm
      obtain rfl : fn = Tryz.f4 := (Option.some.inj (Tryz.func4.symm.trans hfn)).symm
      exact ⟨greentreeRoundTrip_looks, fun j t ht => by
        rw [Tryz.params4] at ht
        have hm : t ∈ [9] := by simpa using Array.mem_of_getElem? ht
        have hall := greentreeRoundTrip_stand
        exact (show Tryz.prog.wantsStandIn t = false by simpa using List.all_eq_true.1 hall t hm)⟩)
    greentreeRoundTrip_goes
#print axioms GreentreeRoundTrip_holds
end Go.Proofs.YtkikcleofaeigaaGreatDoor
end
