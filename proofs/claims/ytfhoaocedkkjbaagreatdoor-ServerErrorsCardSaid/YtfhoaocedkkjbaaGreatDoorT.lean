/- RowSr -/
import Derived.Test.YtfhoaocedkkjbaaGreatDoorP
import Derived.Test.YtfhoaocedkkjbaaGreatDoorS
import Derived.Test.YtfhoaocedkkjbaaGreatDoorL
import Derived.Test.YtfhoaocedkkjbaaGreatDoorK1
import Derived.Test.YtfhoaocedkkjbaaGreatDoorK2
import Derived.SevenTiedAt
import Derived.Stop.Joined
import Derived.Test.YtfhoaocedkkjbaaGreatDoorCards
import Derived.Test.YtfhoaocedkkjbaaGreatDoorTie
set_option linter.all false

section
set_option maxRecDepth 100000
namespace Srv
open Go Go.Abs Go.Proofs
open Go.Proofs.YtfhoaocedkkjbaaGreatDoor in
def laidP : List (String × DataW Unit) := [("unicode.White_Space", Rows.laid_unicode_White_Space), ("strings.asciiSpace", Rows.laid_strings_asciiSpace)]
theorem space_eq : (Go.Proofs.YtfhoaocedkkjbaaGreatDoor.Rows.laid_strings_asciiSpace : DataW Unit) = Lib.tabData .u8 Lib.asciiSpaceTab := by kernel_rfl
theorem underTab : Tryz.prog.underlying 227 = some (.array 256 5) := by kernel_rfl
theorem under5r : Tryz.prog.underlying 5 = some (.int .u8) := by kernel_rfl
theorem tab_of {W : World} (h : laidMetH Tryz.prog laidP W) : SpTab W := by
  rw [MakeChecks.laidMetH_plain _ _ _ (by kernel_rfl)] at h
  have h3 : Lib.VarReads Tryz.prog W "strings.asciiSpace" (Lib.tabData .u8 Lib.asciiSpaceTab) := space_eq ▸ Lib.laidMet.reads h (.tail _ (.head _))
  obtain ⟨g, t, cs, fuel, p, hg, hty, hvar, hd⟩ := h3
  obtain rfl := Option.some.inj ((show Tryz.prog.globalNamed "strings.asciiSpace" = some 1 by kernel_rfl).symm.trans hg)
  obtain rfl := Option.some.inj ((show (Tryz.prog.globals[1]?).map (·.type) = some 227 by kernel_rfl).symm.trans hty)
  unfold SpTab Lib.TabIs
  rw [hvar, ← Lib.cells_of_tab underTab under5r (by kernel_rfl) (by kernel_rfl) hd]
end Srv
namespace Go.Proofs.YtfhoaocedkkjbaaGreatDoor
open Go.ChangeShapes Go.WideShapes Go.ChangeAt Go.RowKit
theorem Tryz.own : ownKnob Tryz.prog.godebug = none := by kernel_rfl
theorem Tryz.laidOut : laidOutB Tryz.prog = true := by kernel_rfl
set_option maxRecDepth 100000 in
theorem serverErrors_lifted (os : Os) (started : os.Started) (H : Type) (enc : TypeId × Value → H) :
    ReturnsInHanded {} Tryz.checked os 8 .any (fun w args => (Rows.serverErrorsSpec.pre enc Tryz.prog Tryz.f8 Rows.serverErrorsRow.domain false w args ∧ laidMetH Tryz.prog Srv.laidP w) ∧ sizedMet enc Tryz.prog Tryz.f8 (OpenSpec.ofChange Rows.serverErrorsSpec) false w args)
      (Rows.serverErrorsSpec.post enc Tryz.prog Tryz.f8 false true false false) := by
  refine returnsInHanded_of_change_and (C := Tryz.checked) (X := fun w _ => laidMetH Tryz.prog Srv.laidP w) (fun _ _ _ hh h => h.of_heap hh) Tryz.own started (by kernel_rfl) Tryz.func8
    (ChangeSpec.witness_shaped (enc := enc) (C := Tryz.checked) (os := os) (X := fun w _ => laidMetH Tryz.prog Srv.laidP w) false (World.laidAll Tryz.prog os Srv.laidP) #[.slice none 0 0, .agg #[.int .i64 0, .int .i64 0, .int .i64 0, .string ⟨#[]⟩, .string ⟨#[]⟩, .slice none 0 0, .int .i64 0, .int .i64 0, .int .i64 0, .int .i64 0, .string ⟨#[]⟩]] 8 (World.laidAll_os _ _ _)
      (World.shaped_of_ZipB (by kernel_rfl) (by kernel_rfl)) (by kernel_rfl) (by kernel_rfl) (by kernel_rfl)
      (by rw [MakeChecks.laidMetH_plain _ _ _ (by kernel_rfl)]; exact laidMet_laidAll _ (by kernel_rfl) (by kernel_rfl))) ?_
  intro W base args ds gs before hval0 hW _ hWt hL _
  have hval : ∀ (j : Nat) t v, Tryz.f8.params[j]? = some t → args[j]? = some v → Value.okWide Tryz.prog W .any base t v := hval0
  have hW' := hW
  obtain ⟨p, q, hA0, hV, rfl, _, _⟩ := hW
  have hA : DataW.TrodAll enc Tryz.prog W 0 (fun _ => true) true Tryz.f8.params.toList args.toList ds p := hA0
  rw [Tryz.params8] at hA hval
  obtain ⟨v0, v1, d0, d1, p0, p1, rfl, rfl, rfl, h0, h1⟩ := trodAll_two hA
  obtain ⟨rfl, rfl⟩ := trodVars_none hV
  have hW1 : (DataW.weightsEach Tryz.prog (Tryz.f8.params.toList ++ []) ([d0, d1] ++ [])).all (· ≤ reachBytes) = true := hWt
  rw [Tryz.params8] at hW1
  have hW2 : (DataW.weights Tryz.prog 50 d0 ++ (DataW.weights Tryz.prog 35 d1 ++ [])).all (· ≤ reachBytes) = true := hW1
  simp only [List.all_append, Bool.and_eq_true] at hW2
  have h0k := h0
  obtain ⟨a0, len0, cap0, rfl⟩ := okWide_slice Srv.u50r (hval 0 50 v0 rfl rfl)
  obtain ⟨fuel0, hf0⟩ := h0
  have hf0' : DataW.trod enc Tryz.prog W 0 (fun _ => true) true fuel0 50 [.slice a0 len0 cap0] = some (d0, p0) := hf0
  obtain ⟨x0, l0, e0, r0, o0⟩ := Srv.events_of hf0' hW2.1
  have h1k := h1
  obtain ⟨fuel1, hf1⟩ := h1
  obtain ⟨e1, k1, r1⟩ := Srv.event_arg hf1 hW2.2.1
  clear hA0 hval0
  simp only [List.append_nil] at hW'
  have hlt : ∀ x ∈ p0 ++ p1, x.block < W.heap.size := fun x hx => by simpa using hW'.lt x hx
  obtain ⟨s', hs'⟩ := Srv.c8 (s := []) e0 k1
  refine (Srv.run_true Srv.cached75 hs' (fun a ha => ?_) W (Srv.tab_of hL) (.cons _ _ _ _ r0 (.cons _ _ _ _ r1 .nil))).mono fun e W' ⟨he, hnx⟩ => ⟨_, he, ?_⟩
  · simp only [List.mem_cons, List.not_mem_nil, or_false] at ha
    rcases ha with rfl | rfl
    · exact o0
    · rfl
  · refine ⟨_, _, _, [] ++ [], p0 ++ p1, [], hW', ?_, ?_, by rfl, hnx.frame _, fun h => by cases h⟩
    · exact trodAll_mk1 (shut_bool Tryz.underlying4 true)
    · exact trodAll_mk2
        (Below.trod Tryz.laidOut (by kernel_rfl) (of_decide_eq_true (by kernel_rfl)) h0k hnx (fun x hx => hlt x (List.mem_append_left _ hx)))
        (Below.trod Tryz.laidOut (by kernel_rfl) (of_decide_eq_true (by kernel_rfl)) h1k hnx (fun x hx => hlt x (List.mem_append_right _ hx)))
theorem andI {a b : Bool} (h : a = true) (k : b = true) : (a && b) = true := by rw [h, k]; rfl
theorem serverErrors_closed : joinedFacts Tryz.prog 8 Tryz.f8 Rows.serverErrorsSpec Rows.serverErrorsRow = true := by
  have h := (andI (andI (andI (andI (andI (andI (andI (andI (andI (andI (andI (andI (andI (andI (andI (andI (andI (andI (andI (andI (andI (andI (andI (andI (andI (andI (andI (andI (andI (andI (andI serverErrors_k0 serverErrors_k1) serverErrors_k2) serverErrors_k3) serverErrors_k4) serverErrors_k5) serverErrors_k6) serverErrors_k7) serverErrors_k8) serverErrors_k9) serverErrors_k10) serverErrors_k11) serverErrors_k12) serverErrors_k13) serverErrors_k14) serverErrors_k15) serverErrors_k16) serverErrors_k17) serverErrors_k18) serverErrors_k19) serverErrors_k20) serverErrors_k21) serverErrors_k22) serverErrors_k23) serverErrors_k24) serverErrors_k25) serverErrors_k26) serverErrors_k27) serverErrors_k28) serverErrors_k29) serverErrors_k30) serverErrors_k31)
  exact Eq.trans (by kernel_rfl) h
theorem serverErrors_row : Rows.ServerErrorsSaid :=
  OpenClaim.holds_of_wide 8 Tryz.f8 rfl rfl rfl rfl rfl rfl rfl ⟨rfl, rfl, rfl, rfl, rfl⟩ rfl rfl rfl rfl rfl serverErrors_fn Tryz.func8 serverErrors_closed
    (of_decide_eq_true (by kernel_rfl)) (by unfold Func.isWrapper; first | (rw [if_pos (by decide +kernel)]; kernel_rfl) | (rw [if_neg (by decide +kernel)]; exact ⟨rfl, rfl⟩))
    (fun os started H enc _ => serverErrors_lifted os started H enc)
theorem ServerErrors_holds : Rows.ServerErrorsCardSaid :=
  Claim7.holds_tied_plain_at .later [] [.listed, .data] true (true, "729a8ad344ef6c4278a65bb82510be7e011468e0cf499205aa97fd91cf172cb1") true
    serverErrors_row (fun _ h => by cases h) serverErrors_wf (fun _ h => by cases h) serverErrors_row_tie rfl ⟨rfl, rfl⟩ serverErrors_main rfl
    (fun f fn hf hfn => by
      obtain rfl : f = 8 := Option.some.inj (serverErrors_fn.symm.trans hf) |>.symm
      obtain rfl : fn = Tryz.f8 := (Option.some.inj (Tryz.func8.symm.trans hfn)).symm
      exact ⟨serverErrors_looks, fun j t ht => by
        rw [Tryz.params8] at ht
        have hm : t ∈ [50, 35] := by simpa using Array.mem_of_getElem? ht
        have hall := serverErrors_stand
        exact (show Tryz.prog.wantsStandIn t = false by simpa using List.all_eq_true.1 hall t hm)⟩)
    serverErrors_goes
#print axioms ServerErrors_holds
end Go.Proofs.YtfhoaocedkkjbaaGreatDoor
end
