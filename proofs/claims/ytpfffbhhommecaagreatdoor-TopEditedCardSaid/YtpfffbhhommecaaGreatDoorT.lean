/- RowTe -/
import Derived.Test.YtpfffbhhommecaaGreatDoorI
import Derived.Test.YtpfffbhhommecaaGreatDoorK1
import Derived.Test.YtpfffbhhommecaaGreatDoorK2
import Derived.Test.YtpfffbhhommecaaGreatDoorCards
import Derived.Test.YtpfffbhhommecaaGreatDoorTie
set_option linter.all false

section
namespace Go.Proofs.YtpfffbhhommecaaGreatDoor
open Go.ChangeShapes Go.WideShapes Go.ChangeAt Go.RowKit
theorem Tryz.own : ownKnob Tryz.prog.godebug = none := by kernel_rfl
theorem Tryz.laidOut : laidOutB Tryz.prog = true := by kernel_rfl
theorem spot_none {P : Program} {W : World} {base : Nat} {t e : TypeId} {a : Addr} {len cap : Nat} (ht : P.underlying t = some (.slice e)) (h : Value.okWide P W .any base t (.slice (some a) len cap)) : a.spot = none := by
  simp only [Value.okWide, ht, Cell.okWide, Cell.ok] at h
  exact h.2.2.2.1
set_option maxRecDepth 100000 in
theorem eds_arg {H : Type} {enc : TypeId × Value → H} {W : World} {base : Nat} {sp : Nat → Bool} {held : Bool} {v : Value} {d : DataW H} {p : List MemPlace} (hok : Value.okWide Tryz.prog W .any base 22 v) (h : DataW.Trod enc Tryz.prog W 0 sp held 22 v d p) :
    ∃ x xs, RopeF.IsE x xs ∧ Go.Abs.Rel (Srv.lay0 W) x v ∧ ∀ y ∈ xs, y.t.length ∈ d.weights Tryz.prog 22 := by
  obtain ⟨a1, len, cap, rfl⟩ := okWide_slice RopeF.under44 hok
  obtain ⟨fuel, hf⟩ := h
  rcases Srv.open_edits hf with ⟨hcs, hx⟩ | ⟨a, len', cap', E, sp, hcs, hl, hx, hcell⟩
  · simp [Value.cells] at hcs
    obtain ⟨rfl, rfl, rfl⟩ := hcs
    exact ⟨_, [], .inr ⟨rfl, rfl⟩, .nils, nofun⟩
  · simp [Value.cells] at hcs
    obtain ⟨rfl, rfl, rfl⟩ := hcs
    obtain ⟨b, off, spot⟩ := a
    have hspot : spot = none := spot_none RopeF.under44 hok
    subst hspot
    simp only at hx
    subst hx
    have hlen : ((List.range len).map E).length = len := by simp
    have hr := Srv.rel_eds (W := W) (b := b) (o := off) (cap := cap) ((List.range len).map E) (by simpa using hl) (fun i hi => by
      have := hcell i (by simpa using hi)
      rw [add_plain, add_plain, add_plain] at this
      simpa [Nat.add_assoc] using this)
    rw [hlen] at hr
    refine ⟨_, _, .inl rfl, hr, fun x hx => ?_⟩
    simp only [List.mem_map] at hx
    obtain ⟨r, ⟨i, hi, rfl⟩, rfl⟩ := hx
    exact Srv.edits_weight (List.mem_map.2 ⟨i, hi, rfl⟩)
set_option maxRecDepth 100000 in
theorem topEdited_lifted (os : Os) (started : os.Started) (H : Type) (enc : TypeId × Value → H) :
    ReturnsInHanded {} Tryz.checked os 3 .any (fun w args => (Rows.topEditedSpec.pre enc Tryz.prog Tryz.f3 Rows.topEditedRow.domain false w args ∧ laidMetH Tryz.prog Srv.laidP w) ∧ sizedMet enc Tryz.prog Tryz.f3 (OpenSpec.ofChange Rows.topEditedSpec) false w args)
      (Rows.topEditedSpec.post enc Tryz.prog Tryz.f3 false true false false) := by
  refine returnsInHanded_of_change_and (C := Tryz.checked) (X := fun w _ => laidMetH Tryz.prog Srv.laidP w) (fun _ _ _ hh h => h.of_heap hh) Tryz.own started (by kernel_rfl) Tryz.func3
    (ChangeSpec.witness_shaped (enc := enc) (C := Tryz.checked) (os := os) (X := fun w _ => laidMetH Tryz.prog Srv.laidP w) false (World.laidAll Tryz.prog os Srv.laidP) #[.string ⟨#[]⟩, .slice none 0 0, .slice none 0 0] 8 (World.laidAll_os _ _ _)
      (World.shaped_of_ZipB (by kernel_rfl) (by kernel_rfl)) (by kernel_rfl) (by kernel_rfl) (by kernel_rfl)
      (by rw [MakeChecks.laidMetH_plain _ _ _ (by kernel_rfl)]; exact laidMet_laidAll _ (by kernel_rfl) (by kernel_rfl))) ?_
  intro W base args ds gs before hval0 hW _ hWt hL _
  have hval : ∀ (j : Nat) t v, Tryz.f3.params[j]? = some t → args[j]? = some v → Value.okWide Tryz.prog W .any base t v := hval0
  have hW' := hW
  obtain ⟨p, q, hA0, hV, rfl, _, _⟩ := hW
  have hA : DataW.TrodAll enc Tryz.prog W 0 (fun _ => true) true Tryz.f3.params.toList args.toList ds p := hA0
  rw [Tryz.params3] at hA hval
  obtain ⟨v0, v1, v2, d0, d1, d2, p0, p1, p2, rfl, rfl, rfl, h0, h1, h2⟩ := trodAll_three hA
  obtain ⟨rfl, rfl⟩ := trodVars_none hV
  obtain ⟨x0, rfl⟩ := okWide_string Srv.under9r (hval 0 9 v0 rfl rfl)
  obtain ⟨x1, e1, s1, r1, b1⟩ := eds_arg (hval 1 22 v1 rfl rfl) h1
  obtain ⟨x2, e2, s2, r2, b2⟩ := eds_arg (hval 2 22 v2 rfl rfl) h2
  clear hA0 hval0
  simp only [List.append_nil] at hW'
  have hlt : ∀ x ∈ p0 ++ p1 ++ p2, x.block < W.heap.size := fun x hx => by simpa using hW'.lt x hx
  have hrb := reachBytes_lt
  have t1 : ∀ x ∈ e1, x.t.length ≤ 140737488355328 := fun x hx => by
    have hw := List.all_eq_true.1 hWt _ (DataW.weights_mem_each (j := 1) (t := 22) (by kernel_rfl) rfl _ (b1 x hx))
    have hw' : x.t.length ≤ reachBytes := by simpa using hw
    omega
  have t2 : ∀ x ∈ e2, x.t.length ≤ 140737488355328 := fun x hx => by
    have hw := List.all_eq_true.1 hWt _ (DataW.weights_mem_each (j := 2) (t := 22) (by kernel_rfl) rfl _ (b2 x hx))
    have hw' : x.t.length ≤ reachBytes := by simpa using hw
    omega
  refine (Srv.run_true (Srv.law_run x0.data.toList x1 x2 e1 e2 s1 s2 t1 t2) (fun a ha => ?_) W (Srv.tab_of hL) (.cons _ _ _ _ (Srv.rel_bytes x0) (.cons _ _ _ _ r1 (.cons _ _ _ _ r2 .nil)))).mono fun e W' ⟨he, hnx⟩ => ⟨_, he, ?_⟩
  · simp only [List.mem_cons, List.not_mem_nil, or_false] at ha
    rcases ha with rfl | rfl | rfl
    · rfl
    · rcases s1 with rfl | ⟨_, rfl⟩ <;> rfl
    · rcases s2 with rfl | ⟨_, rfl⟩ <;> rfl
  · refine ⟨_, _, _, [] ++ [], p0 ++ p1 ++ p2, [], hW', ?_, ?_, by rfl, hnx.frame _, fun h => by cases h⟩
    · exact trodAll_mk1 (shut_bool Tryz.underlying4 true)
    · rw [List.append_assoc]
      exact trodAll_mk3
        (Below.trod Tryz.laidOut (by kernel_rfl) (of_decide_eq_true (by kernel_rfl)) h0 hnx (fun x hx => hlt x (List.mem_append_left _ (List.mem_append_left _ hx))))
        (Below.trod Tryz.laidOut (by kernel_rfl) (of_decide_eq_true (by kernel_rfl)) h1 hnx (fun x hx => hlt x (List.mem_append_left _ (List.mem_append_right _ hx))))
        (Below.trod Tryz.laidOut (by kernel_rfl) (of_decide_eq_true (by kernel_rfl)) h2 hnx (fun x hx => hlt x (List.mem_append_right _ hx)))
theorem andI {a b : Bool} (h : a = true) (k : b = true) : (a && b) = true := by rw [h, k]; rfl
theorem topEdited_closed : joinedFacts Tryz.prog 3 Tryz.f3 Rows.topEditedSpec Rows.topEditedRow = true := by
  have h := (andI (andI (andI (andI (andI (andI (andI (andI (andI (andI (andI (andI (andI (andI (andI (andI (andI (andI (andI (andI (andI (andI (andI (andI (andI (andI (andI (andI (andI (andI (andI topEdited_k0 topEdited_k1) topEdited_k2) topEdited_k3) topEdited_k4) topEdited_k5) topEdited_k6) topEdited_k7) topEdited_k8) topEdited_k9) topEdited_k10) topEdited_k11) topEdited_k12) topEdited_k13) topEdited_k14) topEdited_k15) topEdited_k16) topEdited_k17) topEdited_k18) topEdited_k19) topEdited_k20) topEdited_k21) topEdited_k22) topEdited_k23) topEdited_k24) topEdited_k25) topEdited_k26) topEdited_k27) topEdited_k28) topEdited_k29) topEdited_k30) topEdited_k31)
  exact Eq.trans (by kernel_rfl) h
theorem topEdited_row : Rows.TopEditedSaid :=
  OpenClaim.holds_of_wide 3 Tryz.f3 rfl rfl rfl rfl rfl rfl rfl ⟨rfl, rfl, rfl, rfl, rfl⟩ rfl rfl rfl rfl rfl topEdited_fn Tryz.func3 topEdited_closed
    (of_decide_eq_true (by kernel_rfl)) (by unfold Func.isWrapper; first | (rw [if_pos (by decide +kernel)]; kernel_rfl) | (rw [if_neg (by decide +kernel)]; exact ⟨rfl, rfl⟩))
    (fun os started H enc _ => topEdited_lifted os started H enc)
theorem TopEdited_holds : Rows.TopEditedCardSaid :=
  Claim7.holds_tied_plain_at .later [] [.listed, .data] true (true, "729a8ad344ef6c4278a65bb82510be7e011468e0cf499205aa97fd91cf172cb1") true
    topEdited_row (fun _ h => by cases h) topEdited_wf (fun _ h => by cases h) topEdited_row_tie rfl ⟨rfl, rfl⟩ topEdited_main rfl
    (fun f fn hf hfn => by
      obtain rfl : f = 3 := Option.some.inj (topEdited_fn.symm.trans hf) |>.symm
      obtain rfl : fn = Tryz.f3 := (Option.some.inj (Tryz.func3.symm.trans hfn)).symm
      exact ⟨topEdited_looks, fun j t ht => by
        rw [Tryz.params3] at ht
        have hm : t ∈ [9, 22, 22] := by simpa using Array.mem_of_getElem? ht
        have hall := topEdited_stand
        exact (show Tryz.prog.wantsStandIn t = false by simpa using List.all_eq_true.1 hall t hm)⟩)
    topEdited_goes
#print axioms TopEdited_holds
end Go.Proofs.YtpfffbhhommecaaGreatDoor
end
