/- RopeApply answers true, in the abstract machine. -/
import Derived.Test.YtionohfkjdahlaaRopeP
set_option linter.all false
set_option maxRecDepth 100000
namespace RopeF
open Go Go.Abs Go.Proofs

theorem RopeApply_run (src : List UInt8) (v : AV) (xs : List Ed) (h : IsE v xs) (ht : ∀ x ∈ xs, x.t.length ≤ 140737488355328) : AC C 6 [.str src, v] (.bool true) := by
  refine .intro en6 (by simp [noRefL_cons, noRefL_nil, noRef_str, h.noRef]) (by rfl) ?_
  have st := h.strip
  have hlen : (src.take 300).length ≤ 300 := by simp; omega
  obtain ⟨w, s⟩ := R.from_ok none (src.take 300) trivial
  replace s : (R.from none (src.take 300)).str = src.take 300 := by rw [s]; rfl
  obtain ⟨N1, q1⟩ := AC.at ex_run
  obtain ⟨N2, q2⟩ := AC.at (short_run src 300)
  obtain ⟨N3, q3⟩ := AC.at (apply_run (src.take 300) v xs h ht)
  obtain ⟨N4, q4⟩ := AC.at (New_run (src.take 300) (by omega))
  have q5 := Apply_run (R.from none (src.take 300)) w (by rw [s]; omega) v xs h ht
  rw [s] at q5
  generalize R.from none (src.take 300) = r at *
  by_cases c : validate (src.take 300) xs = 0
  · rw [if_pos c] at q3 q5
    obtain ⟨r', w', s', l', q5⟩ := q5
    obtain ⟨N5, q5⟩ := AC.at q5
    have mr := WF_mass w'
    obtain ⟨N6, q6⟩ := AC.at (String_run r' (by omega))
    obtain ⟨N7, q7⟩ := AC.at (isBalanced_run r' w' (by omega))
    rw [s'] at q6
    refine ⟨max N1 (max N2 (max N3 (max N4 (max N5 (max N6 N7))))), fun n hn => ⟨[(27, [encR r'])], ?_⟩⟩
    have q1 := q1 n (by omega)
    have q2 : ∀ s, aCall Try.prog (den C n) 8 [.str src, .int .i64 300] s = _ := q2 n (by omega)
    have q3 := q3 n (by omega)
    have q4 := q4 n (by omega)
    have q5 := q5 n (by omega)
    have q6 := q6 n (by omega)
    have q7 := q7 n (by omega)
    have z : ((0 : Int) != 0) = false := rfl
    have z2 : ((0 : Int) == 0) = true := rfl
    rw [F6_eq, F6]
    simp -implicitDefEqProofs only [oh_some, mp_some, sto_some, br_true, br_false, gd_true, gd_false, wA_tt, wA_tup, wA_ft, wA_tf, wA_ff, enc_strip, lp_strip, rp_strip, encR_strip, enc_check, enc_addr, aNilCheck_box, aNilCheck_ref, aAddr_box, aAddr_ref, aLoad_one, List.getElem?_cons_succ, List.getElem?_cons_zero, Option.map_some, bin_add, bin_sub, bin_lss, bin_leq, bin_gtr, bin_geq, bin_eql, bin_neq, str_eql, aMax_int, aMin_int, aUn_not, aPick_true, aPick_false, strip_int, strip_bool, strip_str, strip_nilp, strip_nils, strip_box, strip_ref, strip_agg, strip_tup, strip_undef, aBox_f, solid_agg, cells_agg, kLoad_box, kGd_true, kGd_false, kCall_ok, gt_iff_lt, ge_iff_le, Int.ofNat_lt, Int.ofNat_le, decide_true, decide_false, Nat.zero_add, Bool.not_true, Bool.not_false, aExtract_tup, fin1_some, resL_nil, resL_some, enc_noRef, encR_noRef, noRefL_cons, noRefL_nil, noRef_int, noRef_str, noRef_bool, Bool.and_self, ite_true, st, q1, q2, q3, q4, q5, q6, q7, z, z2, alloc27, List.length_nil, List.nil_append, storeC, loadC, rop, beq_self_eq_true]
  · rw [if_neg c] at q3 q5
    obtain ⟨N5, q5⟩ := AC.at q5
    obtain ⟨N6, q6⟩ := AC.at (len_run none)
    refine ⟨max N1 (max N2 (max N3 (max N4 (max N5 N6)))), fun n hn => ⟨[(27, [.nilp])], ?_⟩⟩
    have q1 := q1 n (by omega)
    have q2 : ∀ s, aCall Try.prog (den C n) 8 [.str src, .int .i64 300] s = _ := q2 n (by omega)
    have q3 := q3 n (by omega)
    have q4 := q4 n (by omega)
    have q5 := q5 n (by omega)
    have q6 := q6 n (by omega)
    have z : (validate (src.take 300) xs != 0) = true := by simp [c]
    have z2 : (validate (src.take 300) xs == 0) = false := by simp [c]
    have z3 : (((R.str none).length : Int) == 0) = true := rfl
    simp only [rop, encR_none] at q5 q6
    rw [F6_eq, F6]
    simp -implicitDefEqProofs only [oh_some, mp_some, sto_some, br_true, br_false, gd_true, gd_false, wA_tt, wA_tup, wA_ft, wA_tf, wA_ff, enc_strip, lp_strip, rp_strip, encR_strip, enc_check, enc_addr, aNilCheck_box, aNilCheck_ref, aAddr_box, aAddr_ref, aLoad_one, List.getElem?_cons_succ, List.getElem?_cons_zero, Option.map_some, bin_add, bin_sub, bin_lss, bin_leq, bin_gtr, bin_geq, bin_eql, bin_neq, str_eql, aMax_int, aMin_int, aUn_not, aPick_true, aPick_false, strip_int, strip_bool, strip_str, strip_nilp, strip_nils, strip_box, strip_ref, strip_agg, strip_tup, strip_undef, aBox_f, solid_agg, cells_agg, kLoad_box, kGd_true, kGd_false, kCall_ok, gt_iff_lt, ge_iff_le, Int.ofNat_lt, Int.ofNat_le, decide_true, decide_false, Nat.zero_add, Bool.not_true, Bool.not_false, aExtract_tup, fin1_some, resL_nil, resL_some, enc_noRef, encR_noRef, noRefL_cons, noRefL_nil, noRef_int, noRef_str, noRef_bool, Bool.and_self, ite_true, st, q1, q2, q3, q4, q5, q6, z, z2, z3, alloc27, List.length_nil, List.nil_append, storeC, loadC, rop, encR_none]
end RopeF

