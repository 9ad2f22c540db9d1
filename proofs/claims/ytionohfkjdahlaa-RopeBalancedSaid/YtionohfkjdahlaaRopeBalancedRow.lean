/- RopeBalanced answers true at every slice of strings and every slice of ints; both read as they did. -/
import Derived.Test.YtionohfkjdahlaaRopeRow
import Derived.Test.YtionohfkjdahlaaRopeJ
set_option linter.all false
namespace RopeF
open Go Go.Abs Go.Proofs

theorem relC_ints {W : World} {b : Nat} : ∀ (zs : List Int) (o : Nat), (∀ i, i < zs.length → W.cell? ⟨b, o + i, none⟩ = some (.int .i64 (zs.getD i 0))) → RelC (lay0 W) b o (ints zs)
  | [], o, _ => .nil _ _
  | z :: zs, o, h => by
    refine .cons _ _ _ _ (.int .i64 z) ?_ rfl (.int _ _) (relC_ints zs (o + 1) fun i hi => ?_)
    · have := h 0 (by simp)
      show W.cell? ⟨b, o, none⟩ = _
      simpa using this
    · have := h (i + 1) (by simp; omega)
      rw [show o + 1 + i = o + (i + 1) by omega, this]
      simp
theorem cellsOf_ints (xs : List Int) : cellsOf (ints xs) = ints xs := by
  induction xs with
  | nil => rfl
  | cons x xs ih => show [_] ++ cellsOf (ints xs) = _; rw [ih]; rfl

/-- A slice of integers that stands in the world. -/
theorem rel_ints {W : World} {b o len cap : Nat} {zs : List Int} (hl : len ≤ cap) (hz : zs.length = len) (h : ∀ i, i < zs.length → W.cell? ⟨b, o + i, none⟩ = some (.int .i64 (zs.getD i 0))) :
    Rel (lay0 W) (.sl 3 1 (ints zs) .sh) (.slice (some ⟨b, o, none⟩) len cap) := by
  have hlen : (ints zs).length = len := by simp [hz]
  have := Rel.sl (L := lay0 W) b o 3 1 (ints zs) .sh cap (by rw [cellsOf_ints]; exact relC_ints zs o h) (by intro x hx; simp only [ints, List.mem_map] at hx; obtain ⟨y, _, rfl⟩ := hx; rfl) ⟨by omega, nofun⟩
  rwa [hlen] at this
theorem under3 : Try.prog.underlying 3 = some (.int .i64) := by kernel_rfl
theorem cells3 : Try.prog.cellsOf 3 = 1 := by kernel_rfl
end RopeF
namespace Go.Proofs.Ytionohfkjdahlaa
open Go.ChangeShapes Go.WideShapes Go.ChangeAt Go.RowKit

theorem Try.own : ownKnob Try.prog.godebug = none := by kernel_rfl
theorem Try.laidOut : laidOutB Try.prog = true := by kernel_rfl
theorem Try.cells9 : Try.prog.cellsOf 9 = 1 := by kernel_rfl

theorem spot_none {P : Program} {W : World} {base : Nat} {t e : TypeId} {a : Addr} {len cap : Nat} (ht : P.underlying t = some (.slice e)) (h : Value.okWide P W .any base t (.slice (some a) len cap)) : a.spot = none := by
  simp only [Value.okWide, ht, Cell.okWide, Cell.ok] at h
  exact h.2.2.2.1

set_option maxRecDepth 100000 in
theorem ropeBalanced_lifted (os : Os) (started : os.Started) (H : Type) (enc : TypeId × Value → H) :
    ReturnsInHanded {} Try.checked os 5 .any (Rows.ropeBalancedSpec.pre6 enc Try.prog Try.f5 Rows.ropeBalancedRow.domain false) (Rows.ropeBalancedSpec.post enc Try.prog Try.f5 false true false false) := by
  refine returnsInHanded_of_change_sized (C := Try.checked) Try.own started (by kernel_rfl) Try.func5
    (ChangeSpec.witness6 (enc := enc) (C := Try.checked) false ⟨#[], #[.slice none 0 0, .slice none 0 0], []⟩ 8 (by kernel_rfl) (by kernel_rfl) (by kernel_rfl) (by kernel_rfl)) ?_
  intro W base args ds gs before hval0 hW _ hsz0 _
  have hval : ∀ (j : Nat) t v, Try.f5.params[j]? = some t → args[j]? = some v → Value.okWide Try.prog W .any base t v := hval0
  have hW' := hW
  obtain ⟨p, q, hA0, hV, rfl, _, _⟩ := hW
  have hA : DataW.TrodAll enc Try.prog W 0 (fun _ => true) true Try.f5.params.toList args.toList ds p := hA0
  rw [Try.params5] at hA hval
  obtain ⟨v0, v1, d0, d1, p0, p1, rfl, rfl, rfl, h0, h1⟩ := trodAll_two hA
  obtain ⟨rfl, rfl⟩ := trodVars_none hV
  have hok := hval 0 22 v0 rfl rfl
  obtain ⟨a0, len, cap, rfl⟩ := okWide_slice Try.underlying22 hok
  have hok1 := hval 1 39 v1 rfl rfl
  obtain ⟨a1, len1, cap1, rfl⟩ := okWide_slice RopeF.under39 hok1
  have h1k := h1
  obtain ⟨fuel1, hf1⟩ := h1
  have h0k := h0
  obtain ⟨fuel, hf⟩ := h0
  clear hA0 hval0
  simp only [List.append_nil] at hW'
  have hlt : ∀ x ∈ p0 ++ p1, x.block < W.heap.size := fun x hx => by simpa using hW'.lt x hx
  have fin : ∀ (W' : World), Below W.heap.size W W' →
      Rows.ropeBalancedSpec.post enc Try.checked.prog Try.f5 false true false false W #[.slice a0 len cap, .slice a1 len1 cap1] (.bool true) W' := by
    intro W' hnx
    refine ⟨_, _, _, [] ++ [], p0 ++ p1, [], hW', ?_, ?_, by rfl, hnx.frame _, fun h => by cases h⟩
    · exact trodAll_mk1 (shut_bool Try.underlying4 true)
    · exact trodAll_mk2 (Below.trod Try.laidOut (by kernel_rfl) (of_decide_eq_true (by kernel_rfl)) h0k hnx (fun x hx => hlt x (List.mem_append_left _ hx)))
        (Below.trod Try.laidOut (by kernel_rfl) (of_decide_eq_true (by kernel_rfl)) h1k hnx (fun x hx => hlt x (List.mem_append_right _ hx)))
  have main : ∀ v xs u zs, RopeF.IsS v xs → RopeF.IsI u zs → Go.Abs.Rel (RopeF.lay0 W) v (.slice a0 len cap) → Go.Abs.Rel (RopeF.lay0 W) u (.slice a1 len1 cap1) →
      Calls Try.checked.prog 5 #[.slice a0 len cap, .slice a1 len1 cap1] W fun e W' => ∃ v, e = Ending.returned v ∧ Rows.ropeBalancedSpec.post enc Try.checked.prog Try.f5 false true false false W #[.slice a0 len cap, .slice a1 len1 cap1] v W' := by
    intro v xs u zs hs hu hr hru
    refine (RopeF.run_true (RopeF.RopeBalanced_run v xs hs u zs hu) (fun a ha => ?_) W (.cons _ _ _ _ hr (.cons _ _ _ _ hru .nil))).mono fun e W' ⟨he, hw⟩ => ⟨_, he, fin W' hw⟩
    simp only [List.mem_cons, List.not_mem_nil, or_false] at ha
    rcases ha with rfl | rfl
    · rcases hs with rfl | ⟨_, rfl⟩ <;> rfl
    · rcases hu with rfl | ⟨_, rfl⟩ <;> rfl
  have first : ∃ v xs, RopeF.IsS v xs ∧ Go.Abs.Rel (RopeF.lay0 W) v (.slice a0 len cap) := by
    rcases open_strings Try.underlying22 Try.underlying9 Try.cells9 hf with ⟨hcs, hx⟩ | ⟨a, len', cap', ss, hcs, _, hl, hm, hz, hx, hcell, hws⟩
    · simp [Value.cells] at hcs
      obtain ⟨rfl, rfl, rfl⟩ := hcs
      exact ⟨_, [], .inr ⟨rfl, rfl⟩, .nils⟩
    · simp [Value.cells] at hcs
      obtain ⟨rfl, rfl, rfl⟩ := hcs
      simp only [if_true] at hz
      obtain ⟨b, off, spot⟩ := a
      have hspot : spot = none := spot_none Try.underlying22 hok
      subst hspot
      refine ⟨_, _, .inl rfl, RopeF.rel_strs (ss := ss.take len) hl (by simp; omega) fun i hi => ?_⟩
      have hi' : i < len ∧ i < ss.length := by simp at hi; omega
      have := hcell i hi'.2
      rw [add_plain] at this
      rw [this]
      simp [List.getD, List.getElem?_take, hi'.1]
  have second : ∃ u zs, RopeF.IsI u zs ∧ Go.Abs.Rel (RopeF.lay0 W) u (.slice a1 len1 cap1) := by
    rcases open_ints RopeF.under39 RopeF.under3 RopeF.cells3 hf1 with ⟨hcs, hx⟩ | ⟨a, len', cap', ss, hcs, _, hl, hm, hz, hx, hcell, hws⟩
    · simp [Value.cells] at hcs
      obtain ⟨rfl, rfl, rfl⟩ := hcs
      exact ⟨_, [], .inr ⟨rfl, rfl⟩, .nils⟩
    · simp [Value.cells] at hcs
      obtain ⟨rfl, rfl, rfl⟩ := hcs
      simp only [if_true] at hz
      obtain ⟨b, off, spot⟩ := a
      have hspot : spot = none := spot_none RopeF.under39 hok1
      subst hspot
      refine ⟨_, _, .inl rfl, RopeF.rel_ints (zs := ss.take len1) hl (by simp; omega) fun i hi => ?_⟩
      have hi' : i < len1 ∧ i < ss.length := by simp at hi; omega
      have := hcell i hi'.2
      rw [add_plain] at this
      rw [this]
      simp [List.getD, List.getElem?_take, hi'.1]
  obtain ⟨v, xs, hs, hr⟩ := first
  obtain ⟨u, zs, hu, hru⟩ := second
  exact main v xs u zs hs hu hr hru

theorem RopeBalanced_holds : Rows.RopeBalancedSaid :=
  OpenClaim.holds_of_wide 5 Try.f5 rfl rfl rfl rfl rfl rfl rfl ⟨rfl, rfl, rfl, rfl, rfl⟩ rfl rfl rfl rfl rfl (by kernel_rfl) Try.func5 (by kernel_rfl)
    (of_decide_eq_true (by kernel_rfl)) (by unfold Func.isWrapper; first | (rw [if_pos (by decide +kernel)]; kernel_rfl) | (rw [if_neg (by decide +kernel)]; exact ⟨rfl, rfl⟩))
    (fun os started H enc _ => ropeBalanced_lifted os started H enc)

#print axioms RopeBalanced_holds
end Go.Proofs.Ytionohfkjdahlaa
