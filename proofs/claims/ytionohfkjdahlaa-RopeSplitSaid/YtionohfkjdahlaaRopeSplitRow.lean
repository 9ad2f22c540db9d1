/- RopeSplit answers true at every slice of strings and every int; the slice reads as it did. -/
import Derived.Test.YtionohfkjdahlaaRopeRow
import Derived.Test.YtionohfkjdahlaaRopeI
set_option linter.all false
namespace Go.Proofs.Ytionohfkjdahlaa
open Go.ChangeShapes Go.WideShapes Go.ChangeAt Go.RowKit

theorem Try.own : ownKnob Try.prog.godebug = none := by kernel_rfl
theorem Try.laidOut : laidOutB Try.prog = true := by kernel_rfl
theorem Try.cells9 : Try.prog.cellsOf 9 = 1 := by kernel_rfl

theorem spot_none {P : Program} {W : World} {base : Nat} {t e : TypeId} {a : Addr} {len cap : Nat} (ht : P.underlying t = some (.slice e)) (h : Value.okWide P W .any base t (.slice (some a) len cap)) : a.spot = none := by
  simp only [Value.okWide, ht, Cell.okWide, Cell.ok] at h
  exact h.2.2.2.1

set_option maxRecDepth 100000 in
theorem ropeSplit_lifted (os : Os) (started : os.Started) (H : Type) (enc : TypeId × Value → H) :
    ReturnsInHanded {} Try.checked os 4 .any (Rows.ropeSplitSpec.pre6 enc Try.prog Try.f4 Rows.ropeSplitRow.domain false) (Rows.ropeSplitSpec.post enc Try.prog Try.f4 false true false false) := by
  refine returnsInHanded_of_change_sized (C := Try.checked) Try.own started (by kernel_rfl) Try.func4
    (ChangeSpec.witness6 (enc := enc) (C := Try.checked) false ⟨#[], #[.slice none 0 0, .int .i64 0], []⟩ 8 (by kernel_rfl) (by kernel_rfl) (by kernel_rfl) (by kernel_rfl)) ?_
  intro W base args ds gs before hval0 hW _ hsz0 _
  have hval : ∀ (j : Nat) t v, Try.f4.params[j]? = some t → args[j]? = some v → Value.okWide Try.prog W .any base t v := hval0
  have hW' := hW
  obtain ⟨p, q, hA0, hV, rfl, _, _⟩ := hW
  have hA : DataW.TrodAll enc Try.prog W 0 (fun _ => true) true Try.f4.params.toList args.toList ds p := hA0
  rw [Try.params4] at hA hval
  obtain ⟨v0, v1, d0, d1, p0, p1, rfl, rfl, rfl, h0, h1⟩ := trodAll_two hA
  obtain ⟨rfl, rfl⟩ := trodVars_none hV
  have hok := hval 0 22 v0 rfl rfl
  obtain ⟨a0, len, cap, rfl⟩ := okWide_slice Try.underlying22 hok
  obtain ⟨z, rfl⟩ := okWide_int Try.underlying3 (hval 1 3 v1 rfl rfl)
  have h0k := h0
  obtain ⟨fuel, hf⟩ := h0
  clear hA0 hval0
  simp only [List.append_nil] at hW'
  have hlt : ∀ x ∈ p0 ++ p1, x.block < W.heap.size := fun x hx => by simpa using hW'.lt x hx
  have fin : ∀ (W' : World), Below W.heap.size W W' →
      Rows.ropeSplitSpec.post enc Try.checked.prog Try.f4 false true false false W #[.slice a0 len cap, .int .i64 z] (.bool true) W' := by
    intro W' hnx
    refine ⟨_, _, _, [] ++ [], p0 ++ p1, [], hW', ?_, ?_, by rfl, hnx.frame _, fun h => by cases h⟩
    · exact trodAll_mk1 (shut_bool Try.underlying4 true)
    · exact trodAll_mk2 (Below.trod Try.laidOut (by kernel_rfl) (of_decide_eq_true (by kernel_rfl)) h0k hnx (fun x hx => hlt x (List.mem_append_left _ hx)))
        (Below.trod Try.laidOut (by kernel_rfl) (of_decide_eq_true (by kernel_rfl)) h1 hnx (fun x hx => hlt x (List.mem_append_right _ hx)))
  have main : ∀ v xs, RopeF.IsS v xs → Go.Abs.Rel (RopeF.lay0 W) v (.slice a0 len cap) →
      Calls Try.checked.prog 4 #[.slice a0 len cap, .int .i64 z] W fun e W' => ∃ v, e = Ending.returned v ∧ Rows.ropeSplitSpec.post enc Try.checked.prog Try.f4 false true false false W #[.slice a0 len cap, .int .i64 z] v W' := by
    intro v xs hs hr
    refine (RopeF.run_true (RopeF.RopeSplit_run v xs hs z) (fun a ha => ?_) W (.cons _ _ _ _ hr (.cons _ _ _ _ (.int _ _) .nil))).mono fun e W' ⟨he, hw⟩ => ⟨_, he, fin W' hw⟩
    simp only [List.mem_cons, List.not_mem_nil, or_false] at ha
    rcases ha with rfl | rfl
    · rcases hs with rfl | ⟨_, rfl⟩ <;> rfl
    · rfl
  rcases open_strings Try.underlying22 Try.underlying9 Try.cells9 hf with ⟨hcs, hx⟩ | ⟨a, len', cap', ss, hcs, _, hl, hm, hz, hx, hcell, hws⟩
  · simp [Value.cells] at hcs
    obtain ⟨rfl, rfl, rfl⟩ := hcs
    exact main _ [] (.inr ⟨rfl, rfl⟩) .nils
  · simp [Value.cells] at hcs
    obtain ⟨rfl, rfl, rfl⟩ := hcs
    simp only [if_true] at hz
    obtain ⟨b, off, spot⟩ := a
    have hspot : spot = none := spot_none Try.underlying22 hok
    subst hspot
    refine main _ _ (.inl rfl) (RopeF.rel_strs (ss := ss.take len) hl (by simp; omega) fun i hi => ?_)
    have hi' : i < len ∧ i < ss.length := by simp at hi; omega
    have := hcell i hi'.2
    rw [add_plain] at this
    rw [this]
    simp [List.getD, List.getElem?_take, hi'.1]

theorem RopeSplit_holds : Rows.RopeSplitSaid :=
  OpenClaim.holds_of_wide 4 Try.f4 rfl rfl rfl rfl rfl rfl rfl ⟨rfl, rfl, rfl, rfl, rfl⟩ rfl rfl rfl rfl rfl (by kernel_rfl) Try.func4 (by kernel_rfl)
    (of_decide_eq_true (by kernel_rfl)) (by unfold Func.isWrapper; first | (rw [if_pos (by decide +kernel)]; kernel_rfl) | (rw [if_neg (by decide +kernel)]; exact ⟨rfl, rfl⟩))
    (fun os started H enc _ => ropeSplit_lifted os started H enc)

#print axioms RopeSplit_holds
end Go.Proofs.Ytionohfkjdahlaa
