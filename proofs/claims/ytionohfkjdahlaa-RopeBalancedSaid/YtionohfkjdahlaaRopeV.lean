/- isBalanced and Mod, in the abstract machine. -/
import Derived.Test.YtionohfkjdahlaaRopeI
import Derived.Test.YtionohfkjdahlaaRopeL
set_option linter.all false
set_option maxRecDepth 100000
namespace RopeF
open Go Go.Abs Go.Proofs

def fib1 : Nat → Nat
  | 0 => 1
  | n + 1 => fibs n
theorem fibs_bound : ∀ n, n ≤ 60 → fibs n ≤ fibs 60 := fun n h => fibs_mono h
theorem fibs60' : fibs 60 < 10000000000000 := by decide +kernel
theorem fib_next (n : Nat) : fib1 n + fibs n = fibs (n + 1) := by
  cases n with
  | zero => rfl
  | succ n => simp only [fib1, fibs]; omega

theorem bal_loop (r : R) (w : r.WF) (hm : r.mass < 1000000000) : ∀ (k i : Nat), r.h - i = k → i ≤ r.h → ∃ N, ∀ n, N ≤ n → ∀ m, k < m → ∀ n' e s, e 1 = .box [encR r] 0 → e 3 = I r.h → e 4 = I r.lv → e 5 = I (fib1 i) → e 6 = I (fibs i) → e 12 = I r.h → e 13 = I i →
    aLoop (F17_L0 (den C n) n') m e s = some (.bool true, s) := by
  have hlow : r.h < 60 := by
    cases r with
    | none => simp [R.h]
    | some t => exact T.WF.low w (by have := R.len_mass (some t); simp only [R.str] at this; omega)
  intro k
  induction k with
  | zero =>
    intro i hk hi
    have hi' : i = r.h := by omega
    subst hi'
    obtain ⟨N, q⟩ := AC.at (len_run r)
    refine ⟨N, fun n hn m hmm n' e s h1 h3 h4 h5 h6 h12 h13 => ?_⟩
    obtain ⟨m, rfl⟩ : ∃ j, m = j + 1 := ⟨m - 1, by omega⟩
    have q := q n hn
    have c0 : ((r.h : Int) < 60) := by omega
    have c1 : ¬ r.h < r.h := Nat.lt_irrefl _
    rw [aLoop, F17_L0]
    cases r with
    | none =>
      have y1 : (((R.str none).length : Int) == 0) = true := rfl
      have y2 : ((R.h none : Int) == 0) = true := rfl
      have y3 : ((R.lv none : Int) == 0) = true := rfl
      simp -implicitDefEqProofs only [oh_some, mp_some, sto_some, br_true, br_false, gd_true, gd_false, wA_tt, wA_tup, wA_ft, wA_tf, wA_ff, enc_strip, lp_strip, rp_strip, encR_strip, enc_check, enc_addr, aNilCheck_box, aNilCheck_ref, aAddr_box, aAddr_ref, aLoad_one, List.getElem?_cons_succ, List.getElem?_cons_zero, Option.map_some, bin_add, bin_sub, bin_lss, bin_leq, bin_gtr, bin_geq, bin_eql, bin_neq, str_eql, aMax_int, aMin_int, aUn_not, aPick_true, aPick_false, strip_int, strip_bool, strip_str, strip_nilp, strip_nils, strip_box, strip_ref, strip_agg, strip_tup, strip_undef, aBox_f, solid_agg, cells_agg, kLoad_box, kGd_true, kGd_false, kCall_ok, gt_iff_lt, ge_iff_le, Int.ofNat_lt, Int.ofNat_le, decide_true, decide_false, Nat.zero_add, Bool.not_true, Bool.not_false, aExtract_tup, fin1_some, resL_nil, resL_some, enc_noRef, encR_noRef, noRefL_cons, noRefL_nil, noRef_int, noRef_str, noRef_bool, Bool.and_self, ite_true, h1, h3, h4, h5, h6, h12, h13, c0, c1, aLoad_agg, List.length_cons, List.length_nil, List.drop_zero, List.take_succ_cons, List.take_zero, Nat.le_refl, q, rop, y1, y2, y3]
    | some t =>
      have hp := T.WF.str_pos w
      have z1 : (((R.str (some t)).length : Int) == 0) = false := beq_eq_false_iff_ne.2 (by simp only [R.str]; omega)
      have z2 : fibs (R.h (some t)) ≤ R.lv (some t) := T.WF.leaves w
      have z3 : R.lv (some t) ≤ (R.str (some t)).length := T.WF.lv_le w
      simp -implicitDefEqProofs only [oh_some, mp_some, sto_some, br_true, br_false, gd_true, gd_false, wA_tt, wA_tup, wA_ft, wA_tf, wA_ff, enc_strip, lp_strip, rp_strip, encR_strip, enc_check, enc_addr, aNilCheck_box, aNilCheck_ref, aAddr_box, aAddr_ref, aLoad_one, List.getElem?_cons_succ, List.getElem?_cons_zero, Option.map_some, bin_add, bin_sub, bin_lss, bin_leq, bin_gtr, bin_geq, bin_eql, bin_neq, str_eql, aMax_int, aMin_int, aUn_not, aPick_true, aPick_false, strip_int, strip_bool, strip_str, strip_nilp, strip_nils, strip_box, strip_ref, strip_agg, strip_tup, strip_undef, aBox_f, solid_agg, cells_agg, kLoad_box, kGd_true, kGd_false, kCall_ok, gt_iff_lt, ge_iff_le, Int.ofNat_lt, Int.ofNat_le, decide_true, decide_false, Nat.zero_add, Bool.not_true, Bool.not_false, aExtract_tup, fin1_some, resL_nil, resL_some, enc_noRef, encR_noRef, noRefL_cons, noRefL_nil, noRef_int, noRef_str, noRef_bool, Bool.and_self, ite_true, h1, h3, h4, h5, h6, h12, h13, c0, c1, aLoad_agg, List.length_cons, List.length_nil, List.drop_zero, List.take_succ_cons, List.take_zero, Nat.le_refl, q, rop, z1, z2, z3]
  | succ k ih =>
    intro i hk hi
    have hlt : i < r.h := by omega
    obtain ⟨N, q⟩ := ih (i + 1) (by omega) (by omega)
    refine ⟨N, fun n hn m hmm n' e s h1 h3 h4 h5 h6 h12 h13 => ?_⟩
    obtain ⟨m, rfl⟩ : ∃ j, m = j + 1 := ⟨m - 1, by omega⟩
    have b1 := fibs_bound i (by omega)
    have b2 := fibs60'
    have b3 := fibs_bound (i + 1) (by omega)
    have b4 := fib_next i
    have e1 := wadd1 (a := i) (by omega)
    have e2 : IntKind.i64.wrap ((fib1 i : Int) + (fibs i : Int)) = ((fibs (i + 1) : Nat) : Int) := by rw [wrap64] <;> omega
    rw [aLoop, F17_L0]
    simp -implicitDefEqProofs only [oh_some, mp_some, sto_some, br_true, br_false, gd_true, gd_false, wA_tt, wA_tup, wA_ft, wA_tf, wA_ff, enc_strip, lp_strip, rp_strip, encR_strip, enc_check, enc_addr, aNilCheck_box, aNilCheck_ref, aAddr_box, aAddr_ref, aLoad_one, List.getElem?_cons_succ, List.getElem?_cons_zero, Option.map_some, bin_add, bin_sub, bin_lss, bin_leq, bin_gtr, bin_geq, bin_eql, bin_neq, str_eql, aMax_int, aMin_int, aUn_not, aPick_true, aPick_false, strip_int, strip_bool, strip_str, strip_nilp, strip_nils, strip_box, strip_ref, strip_agg, strip_tup, strip_undef, aBox_f, solid_agg, cells_agg, kLoad_box, kGd_true, kGd_false, kCall_ok, gt_iff_lt, ge_iff_le, Int.ofNat_lt, Int.ofNat_le, decide_true, decide_false, Nat.zero_add, Bool.not_true, Bool.not_false, aExtract_tup, fin1_some, resL_nil, resL_some, enc_noRef, encR_noRef, noRefL_cons, noRefL_nil, noRef_int, noRef_str, noRef_bool, Bool.and_self, ite_true, h1, h3, h4, h5, h6, h12, h13, hlt, e1, e2]
    exact q n hn m (by omega) n' _ s (by simp [upds_at, upd_at, h1]) (by simp [upds_at, upd_at, h3]) (by simp [upds_at, upd_at, h4]) (by simp [upds_at, upd_at, fib1]) (by simp [upds_at, upd_at]) (by simp [upds_at, upd_at, h12]) (by simp [upds_at, upd_at])

theorem isBalanced_run (r : R) (w : r.WF) (hm : r.mass < 1000000000) : AC C 17 [rop r] (.bool true) := by
  refine .intro en17 (by simp [noRefL_cons, noRefL_nil, noRef_agg]) (by rfl) ?_
  obtain ⟨N1, q1⟩ := AC.at (shape_run r)
  obtain ⟨N2, q2⟩ := bal_loop r w hm _ 0 rfl (by omega)
  refine ⟨max N1 (max N2 (r.h + 1)), fun n hn => ⟨[], ?_⟩⟩
  have q1 := q1 n (by omega)
  have q2 := q2 n (by omega) n (by omega) n
  rw [F17_eq, F17]
  simp -implicitDefEqProofs only [oh_some, mp_some, sto_some, br_true, br_false, gd_true, gd_false, wA_tt, wA_tup, wA_ft, wA_tf, wA_ff, enc_strip, lp_strip, rp_strip, encR_strip, enc_check, enc_addr, aNilCheck_box, aNilCheck_ref, aAddr_box, aAddr_ref, aLoad_one, List.getElem?_cons_succ, List.getElem?_cons_zero, Option.map_some, bin_add, bin_sub, bin_lss, bin_leq, bin_gtr, bin_geq, bin_eql, bin_neq, str_eql, aMax_int, aMin_int, aUn_not, aPick_true, aPick_false, strip_int, strip_bool, strip_str, strip_nilp, strip_nils, strip_box, strip_ref, strip_agg, strip_tup, strip_undef, aBox_f, solid_agg, cells_agg, kLoad_box, kGd_true, kGd_false, kCall_ok, gt_iff_lt, ge_iff_le, Int.ofNat_lt, Int.ofNat_le, decide_true, decide_false, Nat.zero_add, Bool.not_true, Bool.not_false, aExtract_tup, fin1_some, resL_nil, resL_some, enc_noRef, encR_noRef, noRefL_cons, noRefL_nil, noRef_int, noRef_str, noRef_bool, Bool.and_self, ite_true, rop, aLoad_agg, List.length_cons, List.length_nil, List.drop_zero, List.take_succ_cons, List.take_zero, Nat.le_refl, q1]
  exact q2 _ _ (by simp [upds_at, upd_at]) (by simp [upds_at, upd_at]) (by simp [upds_at, upd_at]) (by simp [upds_at, upd_at, fib1]) (by simp [upds_at, upd_at, fibs]) (by simp [upds_at, upd_at]) (by simp [upds_at, upd_at])
end RopeF

