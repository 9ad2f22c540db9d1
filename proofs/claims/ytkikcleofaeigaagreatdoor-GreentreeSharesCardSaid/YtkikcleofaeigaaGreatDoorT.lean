/- RowGs -/
import Derived.Test.YtkikcleofaeigaaGreatDoorR
import Derived.Test.YtkikcleofaeigaaGreatDoorS
import Derived.Test.YtkikcleofaeigaaGreatDoorK1
import Derived.Test.YtkikcleofaeigaaGreatDoorK2
import Derived.Test.YtkikcleofaeigaaGreatDoorCards
import Derived.Test.YtkikcleofaeigaaGreatDoorTie
set_option linter.all false

section
namespace Go.Proofs.YtkikcleofaeigaaGreatDoor
open Go.ChangeShapes Go.WideShapes Go.ChangeAt Go.RowKit
theorem Tryz.own : ownKnob Tryz.prog.godebug = none := by kernel_rfl
theorem Tryz.laidOut : laidOutB Tryz.prog = true := by kernel_rfl
set_option maxRecDepth 100000 in
theorem greentreeShares_lifted (os : Os) (started : os.Started) (H : Type) (enc : TypeId × Value → H) :
    ReturnsInHanded {} Tryz.checked os 6 .any (fun w args => (Rows.greentreeSharesSpec.pre enc Tryz.prog Tryz.f6 Rows.greentreeSharesRow.domain false w args ∧ laidMetH Tryz.prog ParF.laidP w) ∧ sizedMet enc Tryz.prog Tryz.f6 (OpenSpec.ofChange Rows.greentreeSharesSpec) false w args)
      (Rows.greentreeSharesSpec.post enc Tryz.prog Tryz.f6 false true false false) := by
  refine returnsInHanded_of_change_and (C := Tryz.checked) (X := fun w _ => laidMetH Tryz.prog ParF.laidP w) (fun _ _ _ hh h => h.of_heap hh) Tryz.own started (by kernel_rfl) Tryz.func6
    (ChangeSpec.witness_shaped (enc := enc) (C := Tryz.checked) (os := os) (X := fun w _ => laidMetH Tryz.prog ParF.laidP w) false (World.laidAll Tryz.prog os ParF.laidP) #[.string ⟨#[]⟩, .agg #[.int .i64 0, .int .i64 0, .string ⟨#[]⟩]] 8 (World.laidAll_os _ _ _)
      (World.shaped_of_ZipB (by kernel_rfl) (by kernel_rfl)) (by kernel_rfl) (by kernel_rfl) (by kernel_rfl)
      (by rw [MakeChecks.laidMetH_plain _ _ _ (by kernel_rfl)]; exact laidMet_laidAll _ (by kernel_rfl) (by kernel_rfl))) ?_
  intro W base args ds gs before hval0 hW _ _ hL _
  have hval : ∀ (j : Nat) t v, Tryz.f6.params[j]? = some t → args[j]? = some v → Value.okWide Tryz.prog W .any base t v := hval0
  have hW' := hW
  obtain ⟨p, q, hA0, hV, rfl, _, _⟩ := hW
  have hA : DataW.TrodAll enc Tryz.prog W 0 (fun _ => true) true Tryz.f6.params.toList args.toList ds p := hA0
  rw [Tryz.params6] at hA hval
  obtain ⟨v0, v1, d0, d1, p0, p1, rfl, rfl, rfl, h0, h1⟩ := trodAll_two hA
  obtain ⟨rfl, rfl⟩ := trodVars_none hV
  obtain ⟨x0, rfl⟩ := okWide_string ParF.under9r (hval 0 9 v0 rfl rfl)
  have h1k := h1
  obtain ⟨_, hf1⟩ := h1
  obtain ⟨x1, rfl⟩ := ParF.edit_val hf1
  clear hA0 hval0
  simp only [List.append_nil] at hW'
  have hlt : ∀ x ∈ p0 ++ p1, x.block < W.heap.size := fun x hx => by simpa using hW'.lt x hx
  refine (ParF.run_true (GrnF.shares_row_run x0.data.toList x1) (fun a ha => ?_) W (ParF.tab_of hL) (.cons _ _ _ _ (ParF.rel_bytes _) (.cons _ _ _ _ (ParF.rel_edit _) .nil))).mono fun e W' ⟨he, hnx⟩ => ⟨_, he, ?_⟩
  · simp only [List.mem_cons, List.not_mem_nil, or_false] at ha
    rcases ha with rfl | rfl <;> rfl
  · refine ⟨_, _, _, [] ++ [], p0 ++ p1, [], hW', ?_, ?_, by rfl, hnx.frame _, fun h => by cases h⟩
    · exact trodAll_mk1 (shut_bool Tryz.underlying4 true)
    · exact trodAll_mk2
        (Below.trod Tryz.laidOut (by kernel_rfl) (of_decide_eq_true (by kernel_rfl)) h0 hnx (fun x hx => hlt x (List.mem_append_left _ hx)))
        (Below.trod Tryz.laidOut (by kernel_rfl) (of_decide_eq_true (by kernel_rfl)) h1k hnx (fun x hx => hlt x (List.mem_append_right _ hx)))
theorem andI {a b : Bool} (h : a = true) (k : b = true) : (a && b) = true := by rw [h, k]; rfl
theorem greentreeShares_closed : joinedFacts Tryz.prog 6 Tryz.f6 Rows.greentreeSharesSpec Rows.greentreeSharesRow = true := by
  have h := (andI (andI (andI (andI (andI (andI (andI (andI (andI (andI (andI (andI (andI (andI (andI (andI (andI (andI (andI (andI (andI (andI (andI (andI (andI (andI (andI (andI (andI (andI (andI greentreeShares_k0 greentreeShares_k1) greentreeShares_k2) greentreeShares_k3) greentreeShares_k4) greentreeShares_k5) greentreeShares_k6) greentreeShares_k7) greentreeShares_k8) greentreeShares_k9) greentreeShares_k10) greentreeShares_k11) greentreeShares_k12) greentreeShares_k13) greentreeShares_k14) greentreeShares_k15) greentreeShares_k16) greentreeShares_k17) greentreeShares_k18) greentreeShares_k19) greentreeShares_k20) greentreeShares_k21) greentreeShares_k22) greentreeShares_k23) greentreeShares_k24) greentreeShares_k25) greentreeShares_k26) greentreeShares_k27) greentreeShares_k28) greentreeShares_k29) greentreeShares_k30) greentreeShares_k31)
  exact Eq.trans (by kernel_rfl) h
theorem greentreeShares_row : Rows.GreentreeSharesSaid :=
  OpenClaim.holds_of_wide 6 Tryz.f6 rfl rfl rfl rfl rfl rfl rfl ⟨rfl, rfl, rfl, rfl, rfl⟩ rfl rfl rfl rfl rfl greentreeShares_fn Tryz.func6 greentreeShares_closed
    (of_decide_eq_true (by kernel_rfl)) (by unfold Func.isWrapper; first | (rw [if_pos (by decide +kernel)]; kernel_rfl) | (rw [if_neg (by decide +kernel)]; exact ⟨rfl, rfl⟩))
    (fun os started H enc _ => greentreeShares_lifted os started H enc)
theorem GreentreeShares_holds : Rows.GreentreeSharesCardSaid :=
  Claim7.holds_tied_plain_at .later [] [.listed, .data] true (true, "c8f19d327cee1bbafca08ac9df62e5928c0894db283297587b4fa0fb96790cb4") true
    greentreeShares_row (fun _ h => by cases h) greentreeShares_wf (fun _ h => by cases h) greentreeShares_row_tie rfl ⟨rfl, rfl⟩ greentreeShares_main rfl
    (fun f fn hf hfn => by
      obtain rfl : f = 6 := Option.some.inj (greentreeShares_fn.symm.trans hf) |>.symm
      obtain rfl : fn = Tryz.f6 := (Option.some.inj (Tryz.func6.symm.trans hfn)).symm
      exact ⟨greentreeShares_looks, fun j t ht => by
        rw [Tryz.params6] at ht
        have hm : t ∈ [9, 67] := by simpa using Array.mem_of_getElem? ht
        have hall := greentreeShares_stand
        exact (show Tryz.prog.wantsStandIn t = false by simpa using List.all_eq_true.1 hall t hm)⟩)
    greentreeShares_goes
#print axioms GreentreeShares_holds
end Go.Proofs.YtkikcleofaeigaaGreatDoor
end
