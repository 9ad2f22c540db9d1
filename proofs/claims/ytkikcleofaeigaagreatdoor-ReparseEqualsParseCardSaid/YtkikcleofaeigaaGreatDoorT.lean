/- RowPq -/
import Derived.Test.YtkikcleofaeigaaGreatDoorR
import Derived.Test.YtkikcleofaeigaaGreatDoorJ
import Derived.Test.YtkikcleofaeigaaGreatDoorK1
import Derived.Test.YtkikcleofaeigaaGreatDoorK2
import Derived.Test.YtkikcleofaeigaaGreatDoorCards
import Derived.Test.YtkikcleofaeigaaGreatDoorTie
set_option linter.all false

section
namespace Go.Proofs.YtkikcleofaeigaaGreatDoor
open Go.ChangeShapes Go.WideShapes Go.ChangeAt Go.RowKit
theorem Tryz.own : ownKnob Tryz.prog.godebug = none := by kernel_rfl
theorem Tryz.laidOut : laidOutB Tryz.prog = true := by kernel_rfl
theorem spot_none {P : Program} {W : World} {base : Nat} {t e : TypeId} {a : Addr} {len cap : Nat} (ht : P.underlying t = some (.slice e)) (h : Value.okWide P W .any base t (.slice (some a) len cap)) : a.spot = none := by
  simp only [Value.okWide, ht, Cell.okWide, Cell.ok] at h
  exact h.2.2.2.1
set_option maxRecDepth 100000 in
theorem reparseEqualsParse_lifted (os : Os) (started : os.Started) (H : Type) (enc : TypeId × Value → H) :
    ReturnsInHanded {} Tryz.checked os 7 .any (fun w args => (Rows.reparseEqualsParseSpec.pre enc Tryz.prog Tryz.f7 Rows.reparseEqualsParseRow.domain false w args ∧ laidMetH Tryz.prog ParF.laidP w) ∧ sizedMet enc Tryz.prog Tryz.f7 (OpenSpec.ofChange Rows.reparseEqualsParseSpec) false w args)
      (Rows.reparseEqualsParseSpec.post enc Tryz.prog Tryz.f7 false true false false) := by
  refine returnsInHanded_of_change_and (C := Tryz.checked) (X := fun w _ => laidMetH Tryz.prog ParF.laidP w) (fun _ _ _ hh h => h.of_heap hh) Tryz.own started (by kernel_rfl) Tryz.func7
    (ChangeSpec.witness_shaped (enc := enc) (C := Tryz.checked) (os := os) (X := fun w _ => laidMetH Tryz.prog ParF.laidP w) false (World.laidAll Tryz.prog os ParF.laidP) #[.string ⟨#[]⟩, .slice none 0 0] 8 (World.laidAll_os _ _ _)
      (World.shaped_of_ZipB (by kernel_rfl) (by kernel_rfl)) (by kernel_rfl) (by kernel_rfl) (by kernel_rfl)
      (by rw [MakeChecks.laidMetH_plain _ _ _ (by kernel_rfl)]; exact laidMet_laidAll _ (by kernel_rfl) (by kernel_rfl))) ?_
  intro W base args ds gs before hval0 hW _ _ hL _
  have hval : ∀ (j : Nat) t v, Tryz.f7.params[j]? = some t → args[j]? = some v → Value.okWide Tryz.prog W .any base t v := hval0
  have hW' := hW
  obtain ⟨p, q, hA0, hV, rfl, _, _⟩ := hW
  have hA : DataW.TrodAll enc Tryz.prog W 0 (fun _ => true) true Tryz.f7.params.toList args.toList ds p := hA0
  rw [Tryz.params7] at hA hval
  obtain ⟨v0, v1, d0, d1, p0, p1, rfl, rfl, rfl, h0, h1⟩ := trodAll_two hA
  obtain ⟨rfl, rfl⟩ := trodVars_none hV
  obtain ⟨x0, rfl⟩ := okWide_string ParF.under9r (hval 0 9 v0 rfl rfl)
  have hok := hval 1 22 v1 rfl rfl
  obtain ⟨a1, len, cap, rfl⟩ := okWide_slice EdF.under44 hok
  have h1k := h1
  obtain ⟨fuel, hf⟩ := h1
  clear hA0 hval0
  simp only [List.append_nil] at hW'
  have hlt : ∀ x ∈ p0 ++ p1, x.block < W.heap.size := fun x hx => by simpa using hW'.lt x hx
  have main : ∀ v xs, EdF.IsE v xs → Go.Abs.Rel (ParF.lay0 W) v (.slice a1 len cap) →
      Calls Tryz.checked.prog 7 #[.string x0, .slice a1 len cap] W fun e W' => ∃ v, e = Ending.returned v ∧ Rows.reparseEqualsParseSpec.post enc Tryz.checked.prog Tryz.f7 false true false false W #[.string x0, .slice a1 len cap] v W' := by
    intro v xs hs hr
    refine (ParF.run_true (RepF.equals_run x0.data.toList v xs hs) (fun a ha => ?_) W (ParF.tab_of hL) (.cons _ _ _ _ (ParF.rel_bytes x0) (.cons _ _ _ _ hr .nil))).mono fun e W' ⟨he, hnx⟩ => ⟨_, he, ?_⟩
    · simp only [List.mem_cons, List.not_mem_nil, or_false] at ha
      rcases ha with rfl | rfl
      · rfl
      · rcases hs with rfl | ⟨_, rfl⟩ <;> rfl
    · refine ⟨_, _, _, [] ++ [], p0 ++ p1, [], hW', ?_, ?_, by rfl, hnx.frame _, fun h => by cases h⟩
      · exact trodAll_mk1 (shut_bool Tryz.underlying4 true)
      · exact trodAll_mk2
          (Below.trod Tryz.laidOut (by kernel_rfl) (of_decide_eq_true (by kernel_rfl)) h0 hnx (fun x hx => hlt x (List.mem_append_left _ hx)))
          (Below.trod Tryz.laidOut (by kernel_rfl) (of_decide_eq_true (by kernel_rfl)) h1k hnx (fun x hx => hlt x (List.mem_append_right _ hx)))
  rcases ParF.open_edits hf with ⟨hcs, hx⟩ | ⟨a, len', cap', E, sp, hcs, hl, hx, hcell⟩
  · simp [Value.cells] at hcs
    obtain ⟨rfl, rfl, rfl⟩ := hcs
    exact main _ [] (.inr ⟨rfl, rfl⟩) .nils
  · simp [Value.cells] at hcs
    obtain ⟨rfl, rfl, rfl⟩ := hcs
    obtain ⟨b, off, spot⟩ := a
    have hspot : spot = none := spot_none EdF.under44 hok
    subst hspot
    have hlen : ((List.range len).map E).length = len := by simp
    have hr := ParF.rel_eds (W := W) (b := b) (o := off) (cap := cap) ((List.range len).map E) (by simpa using hl) (fun i hi => by
      have := hcell i (by simpa using hi)
      rw [add_plain, add_plain, add_plain] at this
      simpa [Nat.add_assoc] using this)
    rw [hlen] at hr
    exact main _ _ (.inl rfl) hr
theorem andI {a b : Bool} (h : a = true) (k : b = true) : (a && b) = true := by rw [h, k]; rfl
theorem reparseEqualsParse_closed : joinedFacts Tryz.prog 7 Tryz.f7 Rows.reparseEqualsParseSpec Rows.reparseEqualsParseRow = true := by
  have h := (andI (andI (andI (andI (andI (andI (andI (andI (andI (andI (andI (andI (andI (andI (andI (andI (andI (andI (andI (andI (andI (andI (andI (andI (andI (andI (andI (andI (andI (andI (andI reparseEqualsParse_k0 reparseEqualsParse_k1) reparseEqualsParse_k2) reparseEqualsParse_k3) reparseEqualsParse_k4) reparseEqualsParse_k5) reparseEqualsParse_k6) reparseEqualsParse_k7) reparseEqualsParse_k8) reparseEqualsParse_k9) reparseEqualsParse_k10) reparseEqualsParse_k11) reparseEqualsParse_k12) reparseEqualsParse_k13) reparseEqualsParse_k14) reparseEqualsParse_k15) reparseEqualsParse_k16) reparseEqualsParse_k17) reparseEqualsParse_k18) reparseEqualsParse_k19) reparseEqualsParse_k20) reparseEqualsParse_k21) reparseEqualsParse_k22) reparseEqualsParse_k23) reparseEqualsParse_k24) reparseEqualsParse_k25) reparseEqualsParse_k26) reparseEqualsParse_k27) reparseEqualsParse_k28) reparseEqualsParse_k29) reparseEqualsParse_k30) reparseEqualsParse_k31)
  exact Eq.trans (by kernel_rfl) h
theorem reparseEqualsParse_row : Rows.ReparseEqualsParseSaid :=
  OpenClaim.holds_of_wide 7 Tryz.f7 rfl rfl rfl rfl rfl rfl rfl ⟨rfl, rfl, rfl, rfl, rfl⟩ rfl rfl rfl rfl rfl reparseEqualsParse_fn Tryz.func7 reparseEqualsParse_closed
    (of_decide_eq_true (by kernel_rfl)) (by unfold Func.isWrapper; first | (rw [if_pos (by decide +kernel)]; kernel_rfl) | (rw [if_neg (by decide +kernel)]; exact ⟨rfl, rfl⟩))
    (fun os started H enc _ => reparseEqualsParse_lifted os started H enc)
theorem ReparseEqualsParse_holds : Rows.ReparseEqualsParseCardSaid :=
  Claim7.holds_tied_plain_at .later [] [.listed, .data] true (true, "c8f19d327cee1bbafca08ac9df62e5928c0894db283297587b4fa0fb96790cb4") true
    reparseEqualsParse_row (fun _ h => by cases h) reparseEqualsParse_wf (fun _ h => by cases h) reparseEqualsParse_row_tie rfl ⟨rfl, rfl⟩ reparseEqualsParse_main rfl
    (fun f fn hf hfn => by
      obtain rfl : f = 7 := Option.some.inj (reparseEqualsParse_fn.symm.trans hf) |>.symm
      obtain rfl : fn = Tryz.f7 := (Option.some.inj (Tryz.func7.symm.trans hfn)).symm
      exact ⟨reparseEqualsParse_looks, fun j t ht => by
        rw [Tryz.params7] at ht
        have hm : t ∈ [9, 22] := by simpa using Array.mem_of_getElem? ht
        have hall := reparseEqualsParse_stand
        exact (show Tryz.prog.wantsStandIn t = false by simpa using List.all_eq_true.1 hall t hm)⟩)
    reparseEqualsParse_goes
#print axioms ReparseEqualsParse_holds
end Go.Proofs.YtkikcleofaeigaaGreatDoor
end
