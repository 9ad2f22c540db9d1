/- RowLo -/
import Derived.Test.YtkikcleofaeigaaGreatDoorR
import Derived.Test.YtkikcleofaeigaaGreatDoorP
import Derived.Test.YtkikcleofaeigaaGreatDoorK1
import Derived.Test.YtkikcleofaeigaaGreatDoorK2
import Derived.Test.YtkikcleofaeigaaGreatDoorCards
import Derived.Test.YtkikcleofaeigaaGreatDoorTie

section
/- ParserLossless answers true at every argument; the arguments read as they did. The variables that the row lists are as the program's text lays them (the card ties them). -/
set_option linter.all false
namespace Go.Proofs.YtkikcleofaeigaaGreatDoor
open Go.ChangeShapes Go.WideShapes Go.ChangeAt Go.RowKit

theorem Tryz.own : ownKnob Tryz.prog.godebug = none := by kernel_rfl
theorem Tryz.laidOut : laidOutB Tryz.prog = true := by kernel_rfl

set_option maxRecDepth 100000 in
theorem parserLossless_lifted (os : Os) (started : os.Started) (H : Type) (enc : TypeId × Value → H) :
    ReturnsInHanded {} Tryz.checked os 10 .any (fun w args => (Rows.parserLosslessSpec.pre enc Tryz.prog Tryz.f10 Rows.parserLosslessRow.domain false w args ∧ laidMetH Tryz.prog ParF.laidQ w) ∧ sizedMet enc Tryz.prog Tryz.f10 (OpenSpec.ofChange Rows.parserLosslessSpec) false w args)
      (Rows.parserLosslessSpec.post enc Tryz.prog Tryz.f10 false true false false) := by
  refine returnsInHanded_of_change_and (C := Tryz.checked) (X := fun w _ => laidMetH Tryz.prog ParF.laidQ w) (fun _ _ _ hh h => h.of_heap hh) Tryz.own started (by kernel_rfl) Tryz.func10
    (ChangeSpec.witness_shaped (enc := enc) (C := Tryz.checked) (os := os) (X := fun w _ => laidMetH Tryz.prog ParF.laidQ w) false (World.laidAll Tryz.prog os ParF.laidQ) #[.string ⟨#[]⟩] 8 (World.laidAll_os _ _ _)
      (World.shaped_of_ZipB (by kernel_rfl) (by kernel_rfl)) (by kernel_rfl) (by kernel_rfl) (by kernel_rfl)
      (by rw [MakeChecks.laidMetH_plain _ _ _ (by kernel_rfl)]; exact laidMet_laidAll _ (by kernel_rfl) (by kernel_rfl))) ?_
  intro W base args ds gs before hval0 hW _ _ hL _
  have hval : ∀ (j : Nat) t v, Tryz.f10.params[j]? = some t → args[j]? = some v → Value.okWide Tryz.prog W .any base t v := hval0
  have hW' := hW
  obtain ⟨p, q, hA0, hV, rfl, _, _⟩ := hW
  have hA : DataW.TrodAll enc Tryz.prog W 0 (fun _ => true) true Tryz.f10.params.toList args.toList ds p := hA0
  rw [Tryz.params10] at hA hval
  obtain ⟨v0, d0, rfl, rfl, h0⟩ := trodAll_one hA
  obtain ⟨rfl, rfl⟩ := trodVars_none hV
  obtain ⟨x0, rfl⟩ := okWide_string ParF.under9r (hval 0 9 v0 rfl rfl)
  clear hA0 hval0
  simp only [List.append_nil] at hW'
  have hlt : ∀ x ∈ p, x.block < W.heap.size := fun x hx => by simpa using hW'.lt x hx
  refine (ParF.run_true (ParF.lossless_run x0.data.toList) (fun a ha => ?_) W (ParF.tab_ofQ hL) (.cons _ _ _ _ (ParF.rel_bytes _) .nil)).mono fun e W' ⟨he, hnx⟩ => ⟨_, he, ?_⟩
  · simp only [List.mem_cons, List.not_mem_nil, or_false] at ha
    subst ha; rfl
  · refine ⟨_, _, _, [] ++ [], p, [], hW', ?_, ?_, by rfl, hnx.frame _, fun h => by cases h⟩
    · exact trodAll_mk1 (shut_bool Tryz.underlying4 true)
    · exact trodAll_mk1
        (Below.trod Tryz.laidOut (by kernel_rfl) (of_decide_eq_true (by kernel_rfl)) h0 hnx (fun x hx => hlt x (hx)))

theorem andI {a b : Bool} (h : a = true) (k : b = true) : (a && b) = true := by rw [h, k]; rfl
theorem parserLossless_closed : joinedFacts Tryz.prog 10 Tryz.f10 Rows.parserLosslessSpec Rows.parserLosslessRow = true := by
  have h := (andI (andI (andI (andI (andI (andI (andI (andI (andI (andI (andI (andI (andI (andI (andI (andI (andI (andI (andI (andI (andI (andI (andI (andI (andI (andI (andI (andI (andI (andI (andI parserLossless_k0 parserLossless_k1) parserLossless_k2) parserLossless_k3) parserLossless_k4) parserLossless_k5) parserLossless_k6) parserLossless_k7) parserLossless_k8) parserLossless_k9) parserLossless_k10) parserLossless_k11) parserLossless_k12) parserLossless_k13) parserLossless_k14) parserLossless_k15) parserLossless_k16) parserLossless_k17) parserLossless_k18) parserLossless_k19) parserLossless_k20) parserLossless_k21) parserLossless_k22) parserLossless_k23) parserLossless_k24) parserLossless_k25) parserLossless_k26) parserLossless_k27) parserLossless_k28) parserLossless_k29) parserLossless_k30) parserLossless_k31)
  exact Eq.trans (by kernel_rfl) h

theorem parserLossless_row : Rows.ParserLosslessSaid :=
  OpenClaim.holds_of_wide 10 Tryz.f10 rfl rfl rfl rfl rfl rfl rfl ⟨rfl, rfl, rfl, rfl, rfl⟩ rfl rfl rfl rfl rfl parserLossless_fn Tryz.func10 parserLossless_closed
    (of_decide_eq_true (by kernel_rfl)) (by unfold Func.isWrapper; first | (rw [if_pos (by decide +kernel)]; kernel_rfl) | (rw [if_neg (by decide +kernel)]; exact ⟨rfl, rfl⟩))
    (fun os started H enc _ => parserLossless_lifted os started H enc)

theorem ParserLossless_holds : Rows.ParserLosslessCardSaid :=
  Claim7.holds_tied_plain_at .later [] [.data, .data, .data, .sentinel, .sentinel, .listed, .data] true (true, "c8f19d327cee1bbafca08ac9df62e5928c0894db283297587b4fa0fb96790cb4") true
    parserLossless_row (fun _ h => by cases h) parserLossless_wf (fun _ h => by cases h) parserLossless_row_tie rfl ⟨rfl, rfl⟩ parserLossless_main rfl
    (fun f fn hf hfn => by
      obtain rfl : f = 10 := Option.some.inj (parserLossless_fn.symm.trans hf) |>.symm
      obtain rfl : fn = Tryz.f10 := (Option.some.inj (Tryz.func10.symm.trans hfn)).symm
      exact ⟨parserLossless_looks, fun j t ht => by
        rw [Tryz.params10] at ht
        have hm : t ∈ [9] := by simpa using Array.mem_of_getElem? ht
        have hall := parserLossless_stand
        exact (show Tryz.prog.wantsStandIn t = false by simpa using List.all_eq_true.1 hall t hm)⟩)
    parserLossless_goes

#print axioms ParserLossless_holds
end Go.Proofs.YtkikcleofaeigaaGreatDoor
end
