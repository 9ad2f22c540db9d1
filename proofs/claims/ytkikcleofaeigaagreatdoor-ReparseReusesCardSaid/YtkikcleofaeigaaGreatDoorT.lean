/- RowPu -/
import Derived.Test.YtkikcleofaeigaaGreatDoorR
import Derived.Test.YtkikcleofaeigaaGreatDoorJ
import Derived.Test.YtkikcleofaeigaaGreatDoorK1
import Derived.Test.YtkikcleofaeigaaGreatDoorK2
import Derived.Test.YtkikcleofaeigaaGreatDoorCards
import Derived.Test.YtkikcleofaeigaaGreatDoorTie
set_option linter.all false

section
namespace Go.Proofs.YtkikcleofaeigaaGreatDoor
open Go.ChangeShapes Go.WideShapes Go.ChangeAt Go.RowKit
theorem Tryz.own : ownKnob Tryz.prog.godebug = none := by kernel_rfl
theorem Tryz.laidOut : laidOutB Tryz.prog = true := by kernel_rfl
set_option maxRecDepth 100000 in
theorem reparseReuses_lifted (os : Os) (started : os.Started) (H : Type) (enc : TypeId × Value → H) :
    ReturnsInHanded {} Tryz.checked os 8 .any (fun w args => (Rows.reparseReusesSpec.pre enc Tryz.prog Tryz.f8 Rows.reparseReusesRow.domain false w args ∧ laidMetH Tryz.prog ParF.laidP w) ∧ sizedMet enc Tryz.prog Tryz.f8 (OpenSpec.ofChange Rows.reparseReusesSpec) false w args)
      (Rows.reparseReusesSpec.post enc Tryz.prog Tryz.f8 false true false false) := by
  refine returnsInHanded_of_change_and (C := Tryz.checked) (X := fun w _ => laidMetH Tryz.prog ParF.laidP w) (fun _ _ _ hh h => h.of_heap hh) Tryz.own started (by kernel_rfl) Tryz.func8
    (ChangeSpec.witness_shaped (enc := enc) (C := Tryz.checked) (os := os) (X := fun w _ => laidMetH Tryz.prog ParF.laidP w) false (World.laidAll Tryz.prog os ParF.laidP) #[.string ⟨#[]⟩, .agg #[.int .i64 0, .int .i64 0, .string ⟨#[]⟩]] 8 (World.laidAll_os _ _ _)
      (World.shaped_of_ZipB (by kernel_rfl) (by kernel_rfl)) (by kernel_rfl) (by kernel_rfl) (by kernel_rfl)
      (by rw [MakeChecks.laidMetH_plain _ _ _ (by kernel_rfl)]; exact laidMet_laidAll _ (by kernel_rfl) (by kernel_rfl))) ?_
  intro W base args ds gs before hval0 hW _ _ hL _
  have hval : ∀ (j : Nat) t v, Tryz.f8.params[j]? = some t → args[j]? = some v → Value.okWide Tryz.prog W .any base t v := hval0
  have hW' := hW
  obtain ⟨p, q, hA0, hV, rfl, _, _⟩ := hW
  have hA : DataW.TrodAll enc Tryz.prog W 0 (fun _ => true) true Tryz.f8.params.toList args.toList ds p := hA0
  rw [Tryz.params8] at hA hval
  obtain ⟨v0, v1, d0, d1, p0, p1, rfl, rfl, rfl, h0, h1⟩ := trodAll_two hA
  obtain ⟨rfl, rfl⟩ := trodVars_none hV
  obtain ⟨x0, rfl⟩ := okWide_string ParF.under9r (hval 0 9 v0 rfl rfl)
  have h1k := h1
  obtain ⟨_, hf1⟩ := h1
  obtain ⟨x1, rfl⟩ := ParF.edit_val hf1
  clear hA0 hval0
  simp only [List.append_nil] at hW'
  have hlt : ∀ x ∈ p0 ++ p1, x.block < W.heap.size := fun x hx => by simpa using hW'.lt x hx
  refine (ParF.run_true (RepF.reuses_row_run x0.data.toList x1) (fun a ha => ?_) W (ParF.tab_of hL) (.cons _ _ _ _ (ParF.rel_bytes _) (.cons _ _ _ _ (ParF.rel_edit _) .nil))).mono fun e W' ⟨he, hnx⟩ => ⟨_, he, ?_⟩
  · simp only [List.mem_cons, List.not_mem_nil, or_false] at ha
    rcases ha with rfl | rfl <;> rfl
  · refine ⟨_, _, _, [] ++ [], p0 ++ p1, [], hW', ?_, ?_, by rfl, hnx.frame _, fun h => by cases h⟩
    · exact trodAll_mk1 (shut_bool Tryz.underlying4 true)
    · exact trodAll_mk2
        (Below.trod Tryz.laidOut (by kernel_rfl) (of_decide_eq_true (by kernel_rfl)) h0 hnx (fun x hx => hlt x (List.mem_append_left _ hx)))
        (Below.trod Tryz.laidOut (by kernel_rfl) (of_decide_eq_true (by kernel_rfl)) h1k hnx (fun x hx => hlt x (List.mem_append_right _ hx)))
theorem andI {a b : Bool} (h : a = true) (k : b = true) : (a && b) = true := by rw [h, k]; rfl
theorem reparseReuses_closed : joinedFacts Tryz.prog 8 Tryz.f8 Rows.reparseReusesSpec Rows.reparseReusesRow = true := by
  have h := (andI (andI (andI (andI (andI (andI (andI (andI (andI (andI (andI (andI (andI (andI (andI (andI (andI (andI (andI (andI (andI (andI (andI (andI (andI (andI (andI (andI (andI (andI (andI reparseReuses_k0 reparseReuses_k1) reparseReuses_k2) reparseReuses_k3) reparseReuses_k4) reparseReuses_k5) reparseReuses_k6) reparseReuses_k7) reparseReuses_k8) reparseReuses_k9) reparseReuses_k10) reparseReuses_k11) reparseReuses_k12) reparseReuses_k13) reparseReuses_k14) reparseReuses_k15) reparseReuses_k16) reparseReuses_k17) reparseReuses_k18) reparseReuses_k19) reparseReuses_k20) reparseReuses_k21) reparseReuses_k22) reparseReuses_k23) reparseReuses_k24) reparseReuses_k25) reparseReuses_k26) reparseReuses_k27) reparseReuses_k28) reparseReuses_k29) reparseReuses_k30) reparseReuses_k31)
  exact Eq.trans (by kernel_rfl) h
theorem reparseReuses_row : Rows.ReparseReusesSaid :=
  OpenClaim.holds_of_wide 8 Tryz.f8 rfl rfl rfl rfl rfl rfl rfl ⟨rfl, rfl, rfl, rfl, rfl⟩ rfl rfl rfl rfl rfl reparseReuses_fn Tryz.func8 reparseReuses_closed
    (of_decide_eq_true (by kernel_rfl)) (by unfold Func.isWrapper; first | (rw [if_pos (by decide +kernel)]; kernel_rfl) | (rw [if_neg (by decide +kernel)]; exact ⟨rfl, rfl⟩))
    (fun os started H enc _ => reparseReuses_lifted os started H enc)
theorem ReparseReuses_holds : Rows.ReparseReusesCardSaid :=
  Claim7.holds_tied_plain_at .later [] [.listed, .data] true (true, "c8f19d327cee1bbafca08ac9df62e5928c0894db283297587b4fa0fb96790cb4") true
    reparseReuses_row (fun _ h => by cases h) reparseReuses_wf (fun _ h => by cases h) reparseReuses_row_tie rfl ⟨rfl, rfl⟩ reparseReuses_main rfl
    (fun f fn hf hfn => by
      obtain rfl : f = 8 := Option.some.inj (reparseReuses_fn.symm.trans hf) |>.symm
      obtain rfl : fn = Tryz.f8 := (Option.some.inj (Tryz.func8.symm.trans hfn)).symm
      exact ⟨reparseReuses_looks, fun j t ht => by
        rw [Tryz.params8] at ht
        have hm : t ∈ [9, 67] := by simpa using Array.mem_of_getElem? ht
        have hall := reparseReuses_stand
        exact (show Tryz.prog.wantsStandIn t = false by simpa using List.all_eq_true.1 hall t hm)⟩)
    reparseReuses_goes
#print axioms ReparseReuses_holds
end Go.Proofs.YtkikcleofaeigaaGreatDoor
end
