/- RopeConcat answers true at every slice of strings; the slice reads as it did. -/
import Derived.Test.YtionohfkjdahlaaRopeRow
set_option linter.all false
namespace Go.Proofs.Ytionohfkjdahlaa
open Go.ChangeShapes Go.WideShapes Go.ChangeAt Go.RowKit

theorem Try.own : ownKnob Try.prog.godebug = none := by kernel_rfl
theorem Try.laidOut : laidOutB Try.prog = true := by kernel_rfl
theorem Try.cells9 : Try.prog.cellsOf 9 = 1 := by kernel_rfl

theorem spot_none {P : Program} {W : World} {base : Nat} {t e : TypeId} {a : Addr} {len cap : Nat} (ht : P.underlying t = some (.slice e)) (h : Value.okWide P W .any base t (.slice (some a) len cap)) : a.spot = none := by
  simp only [Value.okWide, ht, Cell.okWide, Cell.ok] at h
  exact h.2.2.2.1

set_option maxRecDepth 100000 in
theorem ropeConcat_lifted (os : Os) (started : os.Started) (H : Type) (enc : TypeId × Value → H) :
    ReturnsInHanded {} Try.checked os 3 .any (Rows.ropeConcatSpec.pre6 enc Try.prog Try.f3 Rows.ropeConcatRow.domain false) (Rows.ropeConcatSpec.post enc Try.prog Try.f3 false true false false) := by
  refine returnsInHanded_of_change_sized (C := Try.checked) Try.own started (by kernel_rfl) Try.func3
    (ChangeSpec.witness6 (enc := enc) (C := Try.checked) false ⟨#[], #[.slice none 0 0], []⟩ 8 (by kernel_rfl) (by kernel_rfl) (by kernel_rfl) (by kernel_rfl)) ?_
  intro W base args ds gs before hval0 hW _ hsz0 _
  have hval : ∀ (j : Nat) t v, Try.f3.params[j]? = some t → args[j]? = some v → Value.okWide Try.prog W .any base t v := hval0
  have hW' := hW
  obtain ⟨p, q, hA0, hV, rfl, _, _⟩ := hW
  have hA : DataW.TrodAll enc Try.prog W 0 (fun _ => true) true Try.f3.params.toList args.toList ds p := hA0
  rw [Try.params3] at hA hval
  obtain ⟨v0, d0, rfl, rfl, h0⟩ := trodAll_one hA
  obtain ⟨rfl, rfl⟩ := trodVars_none hV
  have hok := hval 0 22 v0 rfl rfl
  obtain ⟨a0, len, cap, rfl⟩ := okWide_slice Try.underlying22 hok
  have h0k := h0
  obtain ⟨fuel, hf⟩ := h0
  clear hA0 hval0
  simp only [List.append_nil] at hW'
  have hlt : ∀ x ∈ p, x.block < W.heap.size := fun x hx => by simpa using hW'.lt x hx
  have fin : ∀ (W' : World), Below W.heap.size W W' →
      Rows.ropeConcatSpec.post enc Try.checked.prog Try.f3 false true false false W #[.slice a0 len cap] (.bool true) W' := by
    intro W' hnx
    refine ⟨_, _, _, [] ++ [], p, [], hW', ?_, ?_, by rfl, hnx.frame _, fun h => by cases h⟩
    · exact trodAll_mk1 (shut_bool Try.underlying4 true)
    · exact trodAll_mk1 (Below.trod Try.laidOut (by kernel_rfl) (of_decide_eq_true (by kernel_rfl)) h0k hnx hlt)
  have main : ∀ v xs, RopeF.IsS v xs → Go.Abs.Rel (RopeF.lay0 W) v (.slice a0 len cap) →
      Calls Try.checked.prog 3 #[.slice a0 len cap] W fun e W' => ∃ v, e = Ending.returned v ∧ Rows.ropeConcatSpec.post enc Try.checked.prog Try.f3 false true false false W #[.slice a0 len cap] v W' := by
    intro v xs hs hr
    refine (RopeF.run_true (RopeF.RopeConcat_run v xs hs) (fun a ha => ?_) W (.cons _ _ _ _ hr .nil)).mono fun e W' ⟨he, hw⟩ => ⟨_, he, fin W' hw⟩
    simp only [List.mem_singleton] at ha
    subst ha
    rcases hs with rfl | ⟨_, rfl⟩ <;> rfl
  rcases open_strings Try.underlying22 Try.underlying9 Try.cells9 hf with ⟨hcs, hx⟩ | ⟨a, len', cap', ss, hcs, _, hl, hm, hz, hx, hcell, hws⟩
  · simp [Value.cells] at hcs
    obtain ⟨rfl, rfl, rfl⟩ := hcs
    exact main _ [] (.inr ⟨rfl, rfl⟩) .nils
  · simp [Value.cells] at hcs
    obtain ⟨rfl, rfl, rfl⟩ := hcs
    simp only [if_true] at hz
    obtain ⟨b, off, spot⟩ := a
    have hspot : spot = none := spot_none Try.underlying22 hok
    subst hspot
    refine main _ _ (.inl rfl) (RopeF.rel_strs (ss := ss.take len) hl (by simp; omega) fun i hi => ?_)
    have hi' : i < len ∧ i < ss.length := by simp at hi; omega
    have := hcell i hi'.2
    rw [add_plain] at this
    rw [this]
    simp [List.getD, List.getElem?_take, hi'.1]

theorem RopeConcat_holds : Rows.RopeConcatSaid :=
  OpenClaim.holds_of_wide 3 Try.f3 rfl rfl rfl rfl rfl rfl rfl ⟨rfl, rfl, rfl, rfl, rfl⟩ rfl rfl rfl rfl rfl (by kernel_rfl) Try.func3 (by kernel_rfl)
    (of_decide_eq_true (by kernel_rfl)) (by unfold Func.isWrapper; first | (rw [if_pos (by decide +kernel)]; kernel_rfl) | (rw [if_neg (by decide +kernel)]; exact ⟨rfl, rfl⟩))
    (fun os started H enc _ => ropeConcat_lifted os started H enc)

#print axioms RopeConcat_holds
end Go.Proofs.Ytionohfkjdahlaa
