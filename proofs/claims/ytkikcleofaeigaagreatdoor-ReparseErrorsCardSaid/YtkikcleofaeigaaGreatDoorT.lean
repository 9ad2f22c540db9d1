/- RowPe -/
import Derived.Test.YtkikcleofaeigaaGreatDoorR
import Derived.Test.YtkikcleofaeigaaGreatDoorJ
import Derived.Test.YtkikcleofaeigaaGreatDoorK1
import Derived.Test.YtkikcleofaeigaaGreatDoorK2
import Derived.Test.YtkikcleofaeigaaGreatDoorCards
import Derived.Test.YtkikcleofaeigaaGreatDoorTie
set_option linter.all false

section
namespace Go.Proofs.YtkikcleofaeigaaGreatDoor
open Go.ChangeShapes Go.WideShapes Go.ChangeAt Go.RowKit
theorem Tryz.own : ownKnob Tryz.prog.godebug = none := by kernel_rfl
theorem Tryz.laidOut : laidOutB Tryz.prog = true := by kernel_rfl
set_option maxRecDepth 100000 in
theorem reparseErrors_lifted (os : Os) (started : os.Started) (H : Type) (enc : TypeId × Value → H) :
    ReturnsInHanded {} Tryz.checked os 9 .any (fun w args => (Rows.reparseErrorsSpec.pre enc Tryz.prog Tryz.f9 Rows.reparseErrorsRow.domain false w args ∧ laidMetH Tryz.prog ParF.laidP w) ∧ sizedMet enc Tryz.prog Tryz.f9 (OpenSpec.ofChange Rows.reparseErrorsSpec) false w args)
      (Rows.reparseErrorsSpec.post enc Tryz.prog Tryz.f9 false true false false) := by
  refine returnsInHanded_of_change_and (C := Tryz.checked) (X := fun w _ => laidMetH Tryz.prog ParF.laidP w) (fun _ _ _ hh h => h.of_heap hh) Tryz.own started (by kernel_rfl) Tryz.func9
    (ChangeSpec.witness_shaped (enc := enc) (C := Tryz.checked) (os := os) (X := fun w _ => laidMetH Tryz.prog ParF.laidP w) false (World.laidAll Tryz.prog os ParF.laidP) #[.string ⟨#[]⟩, .string ⟨#[]⟩, .agg #[.int .i64 0, .int .i64 0, .string ⟨#[]⟩]] 8 (World.laidAll_os _ _ _)
      (World.shaped_of_ZipB (by kernel_rfl) (by kernel_rfl)) (by kernel_rfl) (by kernel_rfl) (by kernel_rfl)
      (by rw [MakeChecks.laidMetH_plain _ _ _ (by kernel_rfl)]; exact laidMet_laidAll _ (by kernel_rfl) (by kernel_rfl))) ?_
  intro W base args ds gs before hval0 hW _ _ hL _
  have hval : ∀ (j : Nat) t v, Tryz.f9.params[j]? = some t → args[j]? = some v → Value.okWide Tryz.prog W .any base t v := hval0
  have hW' := hW
  obtain ⟨p, q, hA0, hV, rfl, _, _⟩ := hW
  have hA : DataW.TrodAll enc Tryz.prog W 0 (fun _ => true) true Tryz.f9.params.toList args.toList ds p := hA0
  rw [Tryz.params9] at hA hval
  obtain ⟨v0, v1, v2, d0, d1, d2, p0, p1, p2, rfl, rfl, rfl, h0, h1, h2⟩ := trodAll_three hA
  obtain ⟨rfl, rfl⟩ := trodVars_none hV
  obtain ⟨x0, rfl⟩ := okWide_string ParF.under9r (hval 0 9 v0 rfl rfl)
  obtain ⟨x1, rfl⟩ := okWide_string ParF.under9r (hval 1 9 v1 rfl rfl)
  have h2k := h2
  obtain ⟨_, hf2⟩ := h2
  obtain ⟨x2, rfl⟩ := ParF.edit_val hf2
  clear hA0 hval0
  simp only [List.append_nil] at hW'
  have hlt : ∀ x ∈ p0 ++ p1 ++ p2, x.block < W.heap.size := fun x hx => by simpa using hW'.lt x hx
  refine (ParF.run_true (RepF.errors_row_run x0.data.toList x1.data.toList x2) (fun a ha => ?_) W (ParF.tab_of hL) (.cons _ _ _ _ (ParF.rel_bytes _) (.cons _ _ _ _ (ParF.rel_bytes _) (.cons _ _ _ _ (ParF.rel_edit _) .nil)))).mono fun e W' ⟨he, hnx⟩ => ⟨_, he, ?_⟩
  · simp only [List.mem_cons, List.not_mem_nil, or_false] at ha
    rcases ha with rfl | rfl | rfl <;> rfl
  · refine ⟨_, _, _, [] ++ [], p0 ++ p1 ++ p2, [], hW', ?_, ?_, by rfl, hnx.frame _, fun h => by cases h⟩
    · exact trodAll_mk1 (shut_bool Tryz.underlying4 true)
    · rw [List.append_assoc]
      exact trodAll_mk3
        (Below.trod Tryz.laidOut (by kernel_rfl) (of_decide_eq_true (by kernel_rfl)) h0 hnx (fun x hx => hlt x (List.mem_append_left _ (List.mem_append_left _ hx))))
        (Below.trod Tryz.laidOut (by kernel_rfl) (of_decide_eq_true (by kernel_rfl)) h1 hnx (fun x hx => hlt x (List.mem_append_left _ (List.mem_append_right _ hx))))
        (Below.trod Tryz.laidOut (by kernel_rfl) (of_decide_eq_true (by kernel_rfl)) h2k hnx (fun x hx => hlt x (List.mem_append_right _ hx)))
theorem andI {a b : Bool} (h : a = true) (k : b = true) : (a && b) = true := by rw [h, k]; rfl
theorem reparseErrors_closed : joinedFacts Tryz.prog 9 Tryz.f9 Rows.reparseErrorsSpec Rows.reparseErrorsRow = true := by
  have h := (andI (andI (andI (andI (andI (andI (andI (andI (andI (andI (andI (andI (andI (andI (andI (andI (andI (andI (andI (andI (andI (andI (andI (andI (andI (andI (andI (andI (andI (andI (andI reparseErrors_k0 reparseErrors_k1) reparseErrors_k2) reparseErrors_k3) reparseErrors_k4) reparseErrors_k5) reparseErrors_k6) reparseErrors_k7) reparseErrors_k8) reparseErrors_k9) reparseErrors_k10) reparseErrors_k11) reparseErrors_k12) reparseErrors_k13) reparseErrors_k14) reparseErrors_k15) reparseErrors_k16) reparseErrors_k17) reparseErrors_k18) reparseErrors_k19) reparseErrors_k20) reparseErrors_k21) reparseErrors_k22) reparseErrors_k23) reparseErrors_k24) reparseErrors_k25) reparseErrors_k26) reparseErrors_k27) reparseErrors_k28) reparseErrors_k29) reparseErrors_k30) reparseErrors_k31)
  exact Eq.trans (by kernel_rfl) h
theorem reparseErrors_row : Rows.ReparseErrorsSaid :=
  OpenClaim.holds_of_wide 9 Tryz.f9 rfl rfl rfl rfl rfl rfl rfl ⟨rfl, rfl, rfl, rfl, rfl⟩ rfl rfl rfl rfl rfl reparseErrors_fn Tryz.func9 reparseErrors_closed
    (of_decide_eq_true (by kernel_rfl)) (by unfold Func.isWrapper; first | (rw [if_pos (by decide +kernel)]; kernel_rfl) | (rw [if_neg (by decide +kernel)]; exact ⟨rfl, rfl⟩))
    (fun os started H enc _ => reparseErrors_lifted os started H enc)
theorem ReparseErrors_holds : Rows.ReparseErrorsCardSaid :=
  Claim7.holds_tied_plain_at .later [] [.listed, .data] true (true, "c8f19d327cee1bbafca08ac9df62e5928c0894db283297587b4fa0fb96790cb4") true
    reparseErrors_row (fun _ h => by cases h) reparseErrors_wf (fun _ h => by cases h) reparseErrors_row_tie rfl ⟨rfl, rfl⟩ reparseErrors_main rfl
    (fun f fn hf hfn => by
      obtain rfl : f = 9 := Option.some.inj (reparseErrors_fn.symm.trans hf) |>.symm
      obtain rfl : fn = Tryz.f9 := (Option.some.inj (Tryz.func9.symm.trans hfn)).symm
      exact ⟨reparseErrors_looks, fun j t ht => by
        rw [Tryz.params9] at ht
        have hm : t ∈ [9, 9, 67] := by simpa using Array.mem_of_getElem? ht
        have hall := reparseErrors_stand
        exact (show Tryz.prog.wantsStandIn t = false by simpa using List.all_eq_true.1 hall t hm)⟩)
    reparseErrors_goes
#print axioms ReparseErrors_holds
end Go.Proofs.YtkikcleofaeigaaGreatDoor
end
