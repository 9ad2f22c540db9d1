/- RopeConcat, in the abstract machine. -/
import Derived.Test.YtionohfkjdahlaaRopeX
set_option linter.all false
set_option maxRecDepth 100000
namespace RopeF
open Go Go.Abs Go.Proofs

theorem quo2 {n : Nat} (h : n < 200000000) : aBin Try.prog .quo 3 (I n) (I 2) = some (I (n / 2 : Nat)) := by
  rw [bin_int]
  simp only [intBin]
  rw [if_neg (by decide), wrap64 (by rw [Int.tdiv_eq_ediv_of_nonneg (by omega)]; omega) (by rw [Int.tdiv_eq_ediv_of_nonneg (by omega)]; omega), Int.tdiv_eq_ediv_of_nonneg (by omega)]
  rfl

theorem flat_take (xs : List (List UInt8)) (i : Nat) : (xs.take i).flatten ++ (xs.drop i).flatten = xs.flatten := by rw [← List.flatten_append, List.take_append_drop]

theorem from_flat (xs : List (List UInt8)) (v : AV) (hv : Bool) (hc : hv = false ∨ xs.length ≤ 1) (hs : IsS v xs) (hx : xs.flatten.length < 200000000) (hl : xs.length < 200000000) :
    ∃ r : R, r.WF ∧ r.str = xs.flatten ∧ AC C 9 [v, .bool hv] (rop r) := by
  obtain ⟨r, w, e, N, q⟩ := from_loop xs hx hl xs.length 0 none (by omega) (by omega) trivial (by simp [R.str])
  refine ⟨r, w, e, .intro en9 (by simp [noRefL_cons, noRefL_nil, hs.noRef, noRef_bool]) (by simp [noRefL_cons, noRefL_nil, noRef_agg]) ⟨max N (xs.length + 1), fun n hn => ⟨[(27, [encR r]), (27, [encR r])], ?_⟩⟩⟩
  have q := q n (by omega) n (by omega) n
  have l := hs.len
  have st := hs.strip
  rw [F9_eq, F9]
  cases hv with
  | false =>
    simp -implicitDefEqProofs only [oh_some, mp_some, sto_some, br_true, br_false, gd_true, gd_false, wA_tt, wA_ft, wA_tf, wA_ff, enc_strip, lp_strip, rp_strip, encR_strip, enc_check, enc_addr, aNilCheck_box, aNilCheck_ref, aAddr_box, aAddr_ref, aLoad_one, List.getElem?_cons_succ, List.getElem?_cons_zero, Option.map_some, bin_add, bin_sub, bin_lss, bin_leq, bin_gtr, bin_geq, bin_eql, bin_neq, str_eql, aMax_int, aMin_int, aUn_not, aPick_true, aPick_false, strip_int, strip_bool, strip_str, strip_nilp, strip_nils, strip_box, strip_ref, strip_agg, strip_tup, strip_undef, aBox_f, solid_agg, cells_agg, kLoad_box, kGd_true, kGd_false, kCall_ok, gt_iff_lt, ge_iff_le, Int.ofNat_lt, Int.ofNat_le, decide_true, decide_false, Nat.zero_add, Bool.not_true, Bool.not_false, aExtract_tup, fin1_some, resL_nil, resL_some, enc_noRef, encR_noRef, noRefL_cons, noRefL_nil, noRef_int, noRef_str, noRef_bool, Bool.and_self, ite_true, alloc27, List.length_nil, List.nil_append, st, l, List.length_cons, List.cons_append]
    exact q _ v hs (by simp [upds_at, upd_at]) (by simp [upds_at, upd_at]) (by simp [upds_at, upd_at]) (by simp [upds_at, upd_at]) (by simp [upds_at, upd_at])
  | true =>
    have c : ¬ ((1 : Int) < (xs.length : Int)) := by rcases hc with h | h; cases h; omega
    simp -implicitDefEqProofs only [oh_some, mp_some, sto_some, br_true, br_false, gd_true, gd_false, wA_tt, wA_ft, wA_tf, wA_ff, enc_strip, lp_strip, rp_strip, encR_strip, enc_check, enc_addr, aNilCheck_box, aNilCheck_ref, aAddr_box, aAddr_ref, aLoad_one, List.getElem?_cons_succ, List.getElem?_cons_zero, Option.map_some, bin_add, bin_sub, bin_lss, bin_leq, bin_gtr, bin_geq, bin_eql, bin_neq, str_eql, aMax_int, aMin_int, aUn_not, aPick_true, aPick_false, strip_int, strip_bool, strip_str, strip_nilp, strip_nils, strip_box, strip_ref, strip_agg, strip_tup, strip_undef, aBox_f, solid_agg, cells_agg, kLoad_box, kGd_true, kGd_false, kCall_ok, gt_iff_lt, ge_iff_le, Int.ofNat_lt, Int.ofNat_le, decide_true, decide_false, Nat.zero_add, Bool.not_true, Bool.not_false, aExtract_tup, fin1_some, resL_nil, resL_some, enc_noRef, encR_noRef, noRefL_cons, noRefL_nil, noRef_int, noRef_str, noRef_bool, Bool.and_self, ite_true, alloc27, List.length_nil, List.nil_append, st, l, c, List.length_cons, List.cons_append]
    exact q _ v hs (by simp [upds_at, upd_at]) (by simp [upds_at, upd_at]) (by simp [upds_at, upd_at]) (by simp [upds_at, upd_at]) (by simp [upds_at, upd_at])

theorem ropeFrom_run : ∀ (k : Nat) (xs : List (List UInt8)) (v : AV) (hv : Bool), xs.length ≤ k → IsS v xs → xs.flatten.length < 200000000 → xs.length < 200000000 →
    ∃ r : R, r.WF ∧ r.str = xs.flatten ∧ AC C 9 [v, .bool hv] (rop r) := by
  intro k
  induction k with
  | zero => intro xs v hv hk hs hx hl; exact from_flat xs v hv (.inr (by omega)) hs hx hl
  | succ k ih =>
    intro xs v hv hk hs hx hl
    by_cases hc : hv = false ∨ xs.length ≤ 1
    · exact from_flat xs v hv hc hs hx hl
    · have h1 : hv = true := by cases hv <;> simp_all
      have h2 : 1 < xs.length := by omega
      subst h1
      have hv' : v = .sl 9 1 (strs xs) .sh := by
        rcases hs with h | ⟨h, _⟩
        · exact h
        · subst h; simp at h2
      subst hv'
      have hf := congrArg List.length (flat_take xs (xs.length / 2))
      rw [List.length_append] at hf
      obtain ⟨r1, w1, s1, N1, q1⟩ := ih (xs.take (xs.length / 2)) _ true (by simp; omega) (.inl rfl) (by omega) (by simp; omega)
      obtain ⟨r2, w2, s2, N2, q2⟩ := ih (xs.drop (xs.length / 2)) _ true (by simp; omega) (.inl rfl) (by omega) (by simp; omega)
      obtain ⟨w3, s3⟩ := R.concat_ok w1 w2
      have m1 := WF_mass w1
      have m2 := WF_mass w2
      rw [s1] at m1
      rw [s2] at m2
      obtain ⟨N3, q3⟩ := AC.at (Concat_run r1 r2 (by omega))
      refine ⟨R.concat r1 r2, w3, by rw [s3, s1, s2, flat_take], .intro en9 (by simp [noRefL_cons, noRefL_nil, hs.noRef, noRef_bool]) (by simp [noRefL_cons, noRefL_nil, noRef_agg]) ⟨max N1 (max N2 N3), fun n hn => ⟨[(27, [encR (R.concat r1 r2)])], ?_⟩⟩⟩
      have q1 : ∀ s, aCall Try.prog (den C n) 9 _ s = _ := q1 n (by omega)
      have q2 : ∀ s, aCall Try.prog (den C n) 9 _ s = _ := q2 n (by omega)
      have q3 := q3 n (by omega)
      have c : ((1 : Int) < (xs.length : Int)) := by omega
      have l := hs.len
      have e1 := quo2 hl
      have e2 := take22 (xs := xs) (i := xs.length / 2) (f := .sh) (by omega)
      have e3 := drop22 (xs := xs) (i := xs.length / 2) (f := .sh) (by omega)
      rw [F9_eq, F9]
      simp -implicitDefEqProofs only [oh_some, mp_some, sto_some, br_true, br_false, gd_true, gd_false, wA_tt, wA_ft, wA_tf, wA_ff, enc_strip, lp_strip, rp_strip, encR_strip, enc_check, enc_addr, aNilCheck_box, aNilCheck_ref, aAddr_box, aAddr_ref, aLoad_one, List.getElem?_cons_succ, List.getElem?_cons_zero, Option.map_some, bin_add, bin_sub, bin_lss, bin_leq, bin_gtr, bin_geq, bin_eql, bin_neq, str_eql, aMax_int, aMin_int, aUn_not, aPick_true, aPick_false, strip_int, strip_bool, strip_str, strip_nilp, strip_nils, strip_box, strip_ref, strip_agg, strip_tup, strip_undef, aBox_f, solid_agg, cells_agg, kLoad_box, kGd_true, kGd_false, kCall_ok, gt_iff_lt, ge_iff_le, Int.ofNat_lt, Int.ofNat_le, decide_true, decide_false, Nat.zero_add, Bool.not_true, Bool.not_false, aExtract_tup, fin1_some, resL_nil, resL_some, enc_noRef, encR_noRef, noRefL_cons, noRefL_nil, noRef_int, noRef_str, noRef_bool, Bool.and_self, ite_true, alloc27, List.length_nil, List.nil_append, l, c, e1, e2, e3, strip_sh, q1, q2, q3, store1, load1, rop, noRef_sl, strs_noRef, noRef_agg, d9_3]
end RopeF

