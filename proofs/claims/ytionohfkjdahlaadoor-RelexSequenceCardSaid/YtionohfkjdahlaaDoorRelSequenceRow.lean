/- RelexSequence answers true at every argument; the arguments read as they did. The variables that the row lists are as the program's text lays them (the card ties them). -/
import Derived.Test.YtionohfkjdahlaaDoorRelY
import Derived.Test.YtionohfkjdahlaaDoorCards
import Derived.Test.YtionohfkjdahlaaDoorTie
set_option linter.all false
namespace Go.Proofs.YtionohfkjdahlaaDoor
open Go.ChangeShapes Go.WideShapes Go.ChangeAt Go.RowKit

theorem Tryd.own : ownKnob Tryd.prog.godebug = none := by kernel_rfl
theorem Tryd.laidOut : laidOutB Tryd.prog = true := by kernel_rfl

theorem spot_none {P : Program} {W : World} {base : Nat} {t e : TypeId} {a : Addr} {len cap : Nat} (ht : P.underlying t = some (.slice e)) (h : Value.okWide P W .any base t (.slice (some a) len cap)) : a.spot = none := by
  simp only [Value.okWide, ht, Cell.okWide, Cell.ok] at h
  exact h.2.2.2.1

set_option maxRecDepth 100000 in
theorem relexSequence_lifted (os : Os) (started : os.Started) (H : Type) (enc : TypeId × Value → H) :
    ReturnsInHanded {} Tryd.checked os 9 .any (fun w args => (Rows.relexSequenceSpec.pre enc Tryd.prog Tryd.f9 Rows.relexSequenceRow.domain false w args ∧ laidMetH Tryd.prog LexF.laidP w) ∧ sizedMet enc Tryd.prog Tryd.f9 (OpenSpec.ofChange Rows.relexSequenceSpec) false w args)
      (Rows.relexSequenceSpec.post enc Tryd.prog Tryd.f9 false true false false) := by
  refine returnsInHanded_of_change_and (C := Tryd.checked) (X := fun w _ => laidMetH Tryd.prog LexF.laidP w) (fun _ _ _ hh h => h.of_heap hh) Tryd.own started (by kernel_rfl) Tryd.func9
    (ChangeSpec.witness_shaped (enc := enc) (C := Tryd.checked) (os := os) (X := fun w _ => laidMetH Tryd.prog LexF.laidP w) false (World.laidAll Tryd.prog os LexF.laidP) #[.string ⟨#[]⟩, .slice none 0 0] 8 (World.laidAll_os _ _ _)
      (World.shaped_of_ZipB (by kernel_rfl) (by kernel_rfl)) (by kernel_rfl) (by kernel_rfl) (by kernel_rfl)
      (by rw [MakeChecks.laidMetH_plain _ _ _ (by kernel_rfl)]; exact laidMet_laidAll _ (by kernel_rfl) (by kernel_rfl))) ?_
  intro W base args ds gs before hval0 hW _ _ hL _
  have hval : ∀ (j : Nat) t v, Tryd.f9.params[j]? = some t → args[j]? = some v → Value.okWide Tryd.prog W .any base t v := hval0
  have hW' := hW
  obtain ⟨p, q, hA0, hV, rfl, _, _⟩ := hW
  have hA : DataW.TrodAll enc Tryd.prog W 0 (fun _ => true) true Tryd.f9.params.toList args.toList ds p := hA0
  rw [Tryd.params9] at hA hval
  obtain ⟨v0, v1, d0, d1, p0, p1, rfl, rfl, rfl, h0, h1⟩ := trodAll_two hA
  obtain ⟨rfl, rfl⟩ := trodVars_none hV
  obtain ⟨src, rfl⟩ := okWide_string LexF.under9 (hval 0 9 v0 rfl rfl)
  have hok := hval 1 46 v1 rfl rfl
  obtain ⟨a1, len, cap, rfl⟩ := okWide_slice EdF.under44 hok
  have h1k := h1
  obtain ⟨fuel, hf⟩ := h1
  clear hA0 hval0
  simp only [List.append_nil] at hW'
  have hlt : ∀ x ∈ p0 ++ p1, x.block < W.heap.size := fun x hx => by simpa using hW'.lt x hx
  have main : ∀ v xs, EdF.IsE v xs → Go.Abs.Rel (LexF.lay0 W) v (.slice a1 len cap) →
      Calls Tryd.checked.prog 9 #[.string src, .slice a1 len cap] W fun e W' => ∃ v, e = Ending.returned v ∧ Rows.relexSequenceSpec.post enc Tryd.checked.prog Tryd.f9 false true false false W #[.string src, .slice a1 len cap] v W' := by
    intro v xs hs hr
    refine (LexF.run_true (LexF.Sequence_run src.data.toList v xs hs) (fun a ha => ?_) W (LexF.tab_of hL) (.cons _ _ _ _ (LexF.rel_bytes src) (.cons _ _ _ _ hr .nil))).mono fun e W' ⟨he, hnx⟩ => ⟨_, he, ?_⟩
    · simp only [List.mem_cons, List.not_mem_nil, or_false] at ha
      rcases ha with rfl | rfl
      · rfl
      · rcases hs with rfl | ⟨_, rfl⟩ <;> rfl
    · refine ⟨_, _, _, [] ++ [], p0 ++ p1, [], hW', ?_, ?_, by rfl, hnx.frame _, fun h => by cases h⟩
      · exact trodAll_mk1 (shut_bool Tryd.underlying4 true)
      · exact trodAll_mk2
          (Below.trod Tryd.laidOut (by kernel_rfl) (of_decide_eq_true (by kernel_rfl)) h0 hnx (fun x hx => hlt x (List.mem_append_left _ hx)))
          (Below.trod Tryd.laidOut (by kernel_rfl) (of_decide_eq_true (by kernel_rfl)) h1k hnx (fun x hx => hlt x (List.mem_append_right _ hx)))
  rcases LexF.open_edits hf with ⟨hcs, hx⟩ | ⟨a, len', cap', E, sp, hcs, hl, hx, hcell⟩
  · simp [Value.cells] at hcs
    obtain ⟨rfl, rfl, rfl⟩ := hcs
    exact main _ [] (.inr ⟨rfl, rfl⟩) .nils
  · simp [Value.cells] at hcs
    obtain ⟨rfl, rfl, rfl⟩ := hcs
    obtain ⟨b, off, spot⟩ := a
    have hspot : spot = none := spot_none EdF.under44 hok
    subst hspot
    have hlen : ((List.range len).map E).length = len := by simp
    have hr := LexF.rel_eds (W := W) (b := b) (o := off) (cap := cap) ((List.range len).map E) (by simpa using hl) (fun i hi => by
      have := hcell i (by simpa using hi)
      rw [add_plain, add_plain, add_plain] at this
      simpa [Nat.add_assoc] using this)
    rw [hlen] at hr
    exact main _ _ (.inl rfl) hr

theorem relexSequence_row : Rows.RelexSequenceSaid :=
  OpenClaim.holds_of_wide 9 Tryd.f9 rfl rfl rfl rfl rfl rfl rfl ⟨rfl, rfl, rfl, rfl, rfl⟩ rfl rfl rfl rfl rfl (by kernel_rfl) Tryd.func9 (by kernel_rfl)
    (of_decide_eq_true (by kernel_rfl)) (by unfold Func.isWrapper; first | (rw [if_pos (by decide +kernel)]; kernel_rfl) | (rw [if_neg (by decide +kernel)]; exact ⟨rfl, rfl⟩))
    (fun os started H enc _ => relexSequence_lifted os started H enc)

theorem RelexSequence_holds : Rows.RelexSequenceCardSaid :=
  Claim7.holds_tied_plain_at .later [] [.listed, .data] true (true, "a2df65d9ff534a6f1bd4b01dacb6e8c695180af4c2933d80e454626425e0da85") false
    relexSequence_row (fun _ h => by cases h) (by kernel_rfl) (fun _ h => by cases h) relexSequence_row_tie rfl ⟨rfl, rfl⟩ (by kernel_rfl) rfl
    (fun f fn hf hfn => by
      obtain rfl : f = 9 := Option.some.inj ((show Tryd.prog.funcNamed "glossator/glossatorkeep1.RelexSequence" = some 9 by kernel_rfl).symm.trans hf) |>.symm
      obtain rfl : fn = Tryd.f9 := (Option.some.inj (Tryd.func9.symm.trans hfn)).symm
      exact ⟨by kernel_rfl, fun j t ht => by
        rw [Tryd.params9] at ht
        have hm : t ∈ [9, 46] := by simpa using Array.mem_of_getElem? ht
        have hall : ([9, 46].all fun u => !Tryd.prog.wantsStandIn u) = true := by kernel_rfl
        exact (show Tryd.prog.wantsStandIn t = false by simpa using List.all_eq_true.1 hall t hm)⟩)
    (by kernel_rfl)

#print axioms RelexSequence_holds
end Go.Proofs.YtionohfkjdahlaaDoor
