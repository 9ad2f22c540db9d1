/- The rope package's methods in the abstract machine. -/
import Derived.Test.YtionohfkjdahlaaRopeS
set_option linter.all false
namespace RopeF
open Go Go.Abs Go.Proofs

theorem encR_none : encR none = .nilp := rfl
theorem encR_some (t : T) : encR (some t) = enc t := rfl
abbrev rop (r : R) : AV := .agg [encR r]
def R.h : R → Nat
  | none => 0
  | some t => t.h
def R.lv : R → Nat
  | none => 0
  | some t => t.lv

theorem R.len_mass (r : R) : r.str.length ≤ r.mass := by cases r <;> simp [R.str, R.mass, T.mass]

theorem alloc27 (s : Heap) : aAlloc Try.prog 27 s = some (.ref s.length 0, s ++ [(27, [.nilp])]) := by kernel_rfl
theorem build27 (r : R) : aBuild Try.prog 27 [(0, encR r)] = some (rop r) := by
  cases r with
  | none => kernel_rfl
  | some t => simp only [encR, rop]; rw [enc_eq]; kernel_rfl
theorem build27z : aBuild Try.prog 27 [] = some (rop none) := by kernel_rfl
theorem load1 (a : AV) : aLoad false true 1 (.ref 0 0) [(27, [a])] = some (.agg [a], [(27, [a])]) := by kernel_rfl
theorem load2a (a b : AV) : aLoad false true 1 (.ref 0 0) [(27, [a]), (27, [b])] = some (.agg [a], [(27, [a]), (27, [b])]) := by kernel_rfl
theorem load2b (a b : AV) : aLoad false true 1 (.ref 1 0) [(27, [a]), (27, [b])] = some (.agg [b], [(27, [a]), (27, [b])]) := by kernel_rfl
theorem store1 (a b : AV) : aStore 1 [(27, [a])] (.ref 0 0) (.agg [b]) = some [(27, [b.strip])] := by kernel_rfl
theorem store2a (a b c : AV) : aStore 1 [(27, [a]), (27, [b])] (.ref 0 0) (.agg [c]) = some [(27, [c.strip]), (27, [b])] := by kernel_rfl
theorem store2b (a b c : AV) : aStore 1 [(27, [a]), (27, [b])] (.ref 1 0) (.agg [c]) = some [(27, [a]), (27, [c.strip])] := by kernel_rfl

theorem len_run (r : R) : AC C 11 [rop r] (I r.str.length) := by
  refine .intro (by kernel_rfl) (by simp [noRefL_cons, noRefL_nil, noRef_agg]) (by rfl) ⟨0, fun n hn => ⟨[], ?_⟩⟩
  rw [F11_eq]
  unfold F11
  cases r with
  | none => simp -implicitDefEqProofs only [oh_some, mp_some, sto_some, br_true, br_false, gd_true, gd_false, wA_tt, wA_ft, wA_tf, wA_ff, enc_strip, lp_strip, rp_strip, encR_strip, enc_check, enc_addr, aNilCheck_box, aNilCheck_ref, aAddr_box, aAddr_ref, aLoad_one, List.getElem?_cons_succ, List.getElem?_cons_zero, Option.map_some, bin_add, bin_sub, bin_lss, bin_leq, bin_gtr, bin_geq, bin_eql, bin_neq, str_eql, aMax_int, aMin_int, aUn_not, aPick_true, aPick_false, strip_int, strip_bool, strip_str, strip_nilp, strip_nils, strip_box, strip_ref, strip_agg, strip_tup, strip_undef, aBox_f, solid_agg, cells_agg, kLoad_box, kGd_true, kGd_false, kCall_ok, gt_iff_lt, ge_iff_le, Int.ofNat_lt, Int.ofNat_le, decide_true, decide_false, Nat.zero_add, Bool.not_true, Bool.not_false, aExtract_tup, fin1_some, resL_nil, resL_some, enc_noRef, encR_noRef, noRefL_cons, noRefL_nil, noRef_int, noRef_str, noRef_bool, Bool.and_self, ite_true, rop, encR, nilNil, R.str, List.length_nil, Int.natCast_zero]
  | some t => simp -implicitDefEqProofs only [oh_some, mp_some, sto_some, br_true, br_false, gd_true, gd_false, wA_tt, wA_ft, wA_tf, wA_ff, enc_strip, lp_strip, rp_strip, encR_strip, enc_check, enc_addr, aNilCheck_box, aNilCheck_ref, aAddr_box, aAddr_ref, aLoad_one, List.getElem?_cons_succ, List.getElem?_cons_zero, Option.map_some, bin_add, bin_sub, bin_lss, bin_leq, bin_gtr, bin_geq, bin_eql, bin_neq, str_eql, aMax_int, aMin_int, aUn_not, aPick_true, aPick_false, strip_int, strip_bool, strip_str, strip_nilp, strip_nils, strip_box, strip_ref, strip_agg, strip_tup, strip_undef, aBox_f, solid_agg, cells_agg, kLoad_box, kGd_true, kGd_false, kCall_ok, gt_iff_lt, ge_iff_le, Int.ofNat_lt, Int.ofNat_le, decide_true, decide_false, Nat.zero_add, Bool.not_true, Bool.not_false, aExtract_tup, fin1_some, resL_nil, resL_some, enc_noRef, encR_noRef, noRefL_cons, noRefL_nil, noRef_int, noRef_str, noRef_bool, Bool.and_self, ite_true, rop, encR, eqNil, R.str]

theorem shape_run (r : R) : AC C 25 [rop r] (.tup [I r.h, I r.lv]) := by
  refine .intro (by kernel_rfl) (by simp [noRefL_cons, noRefL_nil, noRef_agg]) (by rfl) ⟨0, fun n hn => ⟨[], ?_⟩⟩
  rw [F25_eq]
  unfold F25
  cases r with
  | none => simp -implicitDefEqProofs only [oh_some, mp_some, sto_some, br_true, br_false, gd_true, gd_false, wA_tt, wA_ft, wA_tf, wA_ff, enc_strip, lp_strip, rp_strip, encR_strip, enc_check, enc_addr, aNilCheck_box, aNilCheck_ref, aAddr_box, aAddr_ref, aLoad_one, List.getElem?_cons_succ, List.getElem?_cons_zero, Option.map_some, bin_add, bin_sub, bin_lss, bin_leq, bin_gtr, bin_geq, bin_eql, bin_neq, str_eql, aMax_int, aMin_int, aUn_not, aPick_true, aPick_false, strip_int, strip_bool, strip_str, strip_nilp, strip_nils, strip_box, strip_ref, strip_agg, strip_tup, strip_undef, aBox_f, solid_agg, cells_agg, kLoad_box, kGd_true, kGd_false, kCall_ok, gt_iff_lt, ge_iff_le, Int.ofNat_lt, Int.ofNat_le, decide_true, decide_false, Nat.zero_add, Bool.not_true, Bool.not_false, aExtract_tup, fin1_some, resL_nil, resL_some, enc_noRef, encR_noRef, noRefL_cons, noRefL_nil, noRef_int, noRef_str, noRef_bool, Bool.and_self, ite_true, rop, encR, nilNil, R.h, R.lv, Int.natCast_zero]
  | some t => simp -implicitDefEqProofs only [oh_some, mp_some, sto_some, br_true, br_false, gd_true, gd_false, wA_tt, wA_ft, wA_tf, wA_ff, enc_strip, lp_strip, rp_strip, encR_strip, enc_check, enc_addr, aNilCheck_box, aNilCheck_ref, aAddr_box, aAddr_ref, aLoad_one, List.getElem?_cons_succ, List.getElem?_cons_zero, Option.map_some, bin_add, bin_sub, bin_lss, bin_leq, bin_gtr, bin_geq, bin_eql, bin_neq, str_eql, aMax_int, aMin_int, aUn_not, aPick_true, aPick_false, strip_int, strip_bool, strip_str, strip_nilp, strip_nils, strip_box, strip_ref, strip_agg, strip_tup, strip_undef, aBox_f, solid_agg, cells_agg, kLoad_box, kGd_true, kGd_false, kCall_ok, gt_iff_lt, ge_iff_le, Int.ofNat_lt, Int.ofNat_le, decide_true, decide_false, Nat.zero_add, Bool.not_true, Bool.not_false, aExtract_tup, fin1_some, resL_nil, resL_some, enc_noRef, encR_noRef, noRefL_cons, noRefL_nil, noRef_int, noRef_str, noRef_bool, Bool.and_self, ite_true, rop, encR, eqNil, R.h, R.lv, d25_3]

theorem Concat_run (l r : R) (h : l.mass + r.mass < 1000000000) : AC C 14 [rop l, rop r] (rop (l.concat r)) := by
  refine .intro (by kernel_rfl) (by simp [noRefL_cons, noRefL_nil, noRef_agg]) (by simp [noRefL_cons, noRefL_nil, noRef_agg]) ?_
  obtain ⟨N1, q1⟩ := AC.at (concat_run l r h)
  refine ⟨N1, fun n hn => ⟨[(27, [encR (l.concat r)])], ?_⟩⟩
  have q1 := q1 n (by omega)
  rw [F14_eq]
  unfold F14
  simp -implicitDefEqProofs only [oh_some, mp_some, sto_some, br_true, br_false, gd_true, gd_false, wA_tt, wA_ft, wA_tf, wA_ff, enc_strip, lp_strip, rp_strip, encR_strip, enc_check, enc_addr, aNilCheck_box, aNilCheck_ref, aAddr_box, aAddr_ref, aLoad_one, List.getElem?_cons_succ, List.getElem?_cons_zero, Option.map_some, bin_add, bin_sub, bin_lss, bin_leq, bin_gtr, bin_geq, bin_eql, bin_neq, str_eql, aMax_int, aMin_int, aUn_not, aPick_true, aPick_false, strip_int, strip_bool, strip_str, strip_nilp, strip_nils, strip_box, strip_ref, strip_agg, strip_tup, strip_undef, aBox_f, solid_agg, cells_agg, kLoad_box, kGd_true, kGd_false, kCall_ok, gt_iff_lt, ge_iff_le, Int.ofNat_lt, Int.ofNat_le, decide_true, decide_false, Nat.zero_add, Bool.not_true, Bool.not_false, aExtract_tup, fin1_some, resL_nil, resL_some, enc_noRef, encR_noRef, noRefL_cons, noRefL_nil, noRef_int, noRef_str, noRef_bool, Bool.and_self, ite_true, rop, alloc27, List.length_nil, List.nil_append, q1, build27, store1, load1]

theorem Split_run (r : R) (i : Int) (h : r.mass < 1000000000) : AC C 12 [rop r, I i] (if i < 0 ∨ (r.str.length : Int) < i then .tup [rop none, rop none, I 1] else .tup [rop (r.split i.toNat).1, rop (r.split i.toNat).2, I 0]) := by
  refine .intro (by kernel_rfl) (by simp [noRefL_cons, noRefL_nil, noRef_agg, noRef_int]) (by split <;> simp [noRefL_cons, noRefL_nil, noRef_agg, noRef_tup, noRef_int]) ?_
  have hm := r.len_mass
  obtain ⟨N1, q1⟩ := AC.at (len_run r)
  by_cases c1 : i < 0
  · refine ⟨N1, fun n hn => ⟨[(27, [.nilp]), (27, [.nilp])], ?_⟩⟩
    have q1 := q1 n (by omega)
    rw [F12_eq, if_pos (.inl c1)]
    unfold F12
    simp -implicitDefEqProofs only [oh_some, mp_some, sto_some, br_true, br_false, gd_true, gd_false, wA_tt, wA_ft, wA_tf, wA_ff, enc_strip, lp_strip, rp_strip, encR_strip, enc_check, enc_addr, aNilCheck_box, aNilCheck_ref, aAddr_box, aAddr_ref, aLoad_one, List.getElem?_cons_succ, List.getElem?_cons_zero, Option.map_some, bin_add, bin_sub, bin_lss, bin_leq, bin_gtr, bin_geq, bin_eql, bin_neq, str_eql, aMax_int, aMin_int, aUn_not, aPick_true, aPick_false, strip_int, strip_bool, strip_str, strip_nilp, strip_nils, strip_box, strip_ref, strip_agg, strip_tup, strip_undef, aBox_f, solid_agg, cells_agg, kLoad_box, kGd_true, kGd_false, kCall_ok, gt_iff_lt, ge_iff_le, Int.ofNat_lt, Int.ofNat_le, decide_true, decide_false, Nat.zero_add, Bool.not_true, Bool.not_false, aExtract_tup, fin1_some, resL_nil, resL_some, enc_noRef, encR_noRef, noRefL_cons, noRefL_nil, noRef_int, noRef_str, noRef_bool, Bool.and_self, ite_true, rop, alloc27, List.length_nil, List.nil_append, List.cons_append, List.length_cons, c1, build27z, store2a, store2b, load2a, load2b, encR_none]
  · by_cases c2 : (r.str.length : Int) < i
    · refine ⟨N1, fun n hn => ⟨[(27, [.nilp]), (27, [.nilp])], ?_⟩⟩
      have q1 := q1 n (by omega)
      rw [F12_eq, if_pos (.inr c2)]
      unfold F12
      simp -implicitDefEqProofs only [oh_some, mp_some, sto_some, br_true, br_false, gd_true, gd_false, wA_tt, wA_ft, wA_tf, wA_ff, enc_strip, lp_strip, rp_strip, encR_strip, enc_check, enc_addr, aNilCheck_box, aNilCheck_ref, aAddr_box, aAddr_ref, aLoad_one, List.getElem?_cons_succ, List.getElem?_cons_zero, Option.map_some, bin_add, bin_sub, bin_lss, bin_leq, bin_gtr, bin_geq, bin_eql, bin_neq, str_eql, aMax_int, aMin_int, aUn_not, aPick_true, aPick_false, strip_int, strip_bool, strip_str, strip_nilp, strip_nils, strip_box, strip_ref, strip_agg, strip_tup, strip_undef, aBox_f, solid_agg, cells_agg, kLoad_box, kGd_true, kGd_false, kCall_ok, gt_iff_lt, ge_iff_le, Int.ofNat_lt, Int.ofNat_le, decide_true, decide_false, Nat.zero_add, Bool.not_true, Bool.not_false, aExtract_tup, fin1_some, resL_nil, resL_some, enc_noRef, encR_noRef, noRefL_cons, noRefL_nil, noRef_int, noRef_str, noRef_bool, Bool.and_self, ite_true, rop, alloc27, List.length_nil, List.nil_append, List.cons_append, List.length_cons, c1, c2, q1, aLoad_agg, build27z, store2a, store2b, load2a, load2b, encR_none, List.drop_zero, List.take_succ_cons, List.take_zero, Nat.le_refl, Nat.zero_add]
    · obtain ⟨N2, q2⟩ := AC.at (split_run r i.toNat h (by omega))
      refine ⟨max N1 N2, fun n hn => ⟨[(27, [encR (r.split i.toNat).1]), (27, [encR (r.split i.toNat).2])], ?_⟩⟩
      have q1 := q1 n (by omega)
      have q2 := q2 n (by omega)
      rw [Int.toNat_of_nonneg (by omega)] at q2
      rw [F12_eq, if_neg (by omega)]
      unfold F12
      simp -implicitDefEqProofs only [oh_some, mp_some, sto_some, br_true, br_false, gd_true, gd_false, wA_tt, wA_ft, wA_tf, wA_ff, enc_strip, lp_strip, rp_strip, encR_strip, enc_check, enc_addr, aNilCheck_box, aNilCheck_ref, aAddr_box, aAddr_ref, aLoad_one, List.getElem?_cons_succ, List.getElem?_cons_zero, Option.map_some, bin_add, bin_sub, bin_lss, bin_leq, bin_gtr, bin_geq, bin_eql, bin_neq, str_eql, aMax_int, aMin_int, aUn_not, aPick_true, aPick_false, strip_int, strip_bool, strip_str, strip_nilp, strip_nils, strip_box, strip_ref, strip_agg, strip_tup, strip_undef, aBox_f, solid_agg, cells_agg, kLoad_box, kGd_true, kGd_false, kCall_ok, gt_iff_lt, ge_iff_le, Int.ofNat_lt, Int.ofNat_le, decide_true, decide_false, Nat.zero_add, Bool.not_true, Bool.not_false, aExtract_tup, fin1_some, resL_nil, resL_some, enc_noRef, encR_noRef, noRefL_cons, noRefL_nil, noRef_int, noRef_str, noRef_bool, Bool.and_self, ite_true, rop, alloc27, List.length_nil, List.nil_append, List.cons_append, List.length_cons, c1, c2, q1, q2, aLoad_agg, build27, store2a, store2b, load2a, load2b, List.drop_zero, List.take_succ_cons, List.take_zero, Nat.le_refl, Nat.zero_add]

theorem minNat (a b : Nat) : (if (b : Int) < (a : Int) then (b : Int) else (a : Int)) = ((min a b : Nat) : Int) := by split <;> omega
theorem len9 (s : List UInt8) : aLen Try.prog 9 (.str s) = some (I s.length) := by
  have h : Try.prog.underlying 9 = some .string := by kernel_rfl
  simp [aLen, h]

theorem short_run (s : List UInt8) (k : Nat) : AC C 8 [.str s, I k] (.str (s.take k)) := by
  refine .intro (by kernel_rfl) (by rfl) (by rfl) ⟨0, fun n hn => ⟨[], ?_⟩⟩
  rw [F8_eq]
  unfold F8
  have e : (if k < s.length then (k : Int) else (s.length : Int)) = ((min s.length k : Nat) : Int) := by split <;> omega
  have u := subTake (s := s) (i := ((min s.length k : Nat) : Int)) (by omega) (by omega)
  have v : s.take (min s.length k) = s.take k := by
    rw [Nat.min_def]; split
    · rw [List.take_of_length_le (Nat.le_refl _), List.take_of_length_le (by assumption)]
    · rfl
  simp -implicitDefEqProofs only [oh_some, mp_some, sto_some, br_true, br_false, gd_true, gd_false, wA_tt, wA_ft, wA_tf, wA_ff, enc_strip, lp_strip, rp_strip, encR_strip, enc_check, enc_addr, aNilCheck_box, aNilCheck_ref, aAddr_box, aAddr_ref, aLoad_one, List.getElem?_cons_succ, List.getElem?_cons_zero, Option.map_some, bin_add, bin_sub, bin_lss, bin_leq, bin_gtr, bin_geq, bin_eql, bin_neq, str_eql, aMax_int, aMin_int, aUn_not, aPick_true, aPick_false, strip_int, strip_bool, strip_str, strip_nilp, strip_nils, strip_box, strip_ref, strip_agg, strip_tup, strip_undef, aBox_f, solid_agg, cells_agg, kLoad_box, kGd_true, kGd_false, kCall_ok, gt_iff_lt, ge_iff_le, Int.ofNat_lt, Int.ofNat_le, decide_true, decide_false, Nat.zero_add, Bool.not_true, Bool.not_false, aExtract_tup, fin1_some, resL_nil, resL_some, enc_noRef, encR_noRef, noRefL_cons, noRefL_nil, noRef_int, noRef_str, noRef_bool, Bool.and_self, ite_true, len9, e, u, v, Int.toNat_natCast]

/-- New -/
def R.from (root : R) (s : List UInt8) : R :=
  if h : s = [] then root else R.from (R.concat root (some (.leaf (s.take 32)))) (s.drop 32)
  termination_by s.length
  decreasing_by
  have := List.length_pos_iff.2 (show s ≠ [] by assumption)
  simp; omega

theorem leaf_mass (s : List UInt8) (h : s ≠ []) : (T.leaf (s.take 32)).mass + 2 * (s.drop 32).length ≤ 2 * s.length := by
  have := List.length_pos_iff.2 h
  simp [T.mass, T.str, T.lv]; omega

theorem R.from_ok (root : R) (s : List UInt8) (w : root.WF) : (root.from s).WF ∧ (root.from s).str = root.str ++ s := by
  unfold R.from
  split
  · rename_i h; subst h; exact ⟨w, by simp⟩
  · rename_i h
    have hl : R.WF (some (.leaf (s.take 32))) := by
      refine ⟨?_, by simp; omega⟩
      intro e; have := congrArg List.length e; have := List.length_pos_iff.2 h; simp only [List.length_take, List.length_nil] at *; omega
    obtain ⟨a, b⟩ := R.concat_ok w hl
    obtain ⟨c, d⟩ := R.from_ok _ (s.drop 32) a
    refine ⟨c, ?_⟩
    rw [d, b]
    simp only [R.str, T.str, List.append_assoc, List.take_append_drop]
  termination_by s.length
  decreasing_by
  have := List.length_pos_iff.2 (show s ≠ [] by assumption)
  simp; omega

theorem R.from_mass (root : R) (s : List UInt8) : (root.from s).mass ≤ root.mass + 2 * s.length := by
  unfold R.from
  split
  · omega
  · rename_i h
    have h1 := R.from_mass (R.concat root (some (.leaf (s.take 32)))) (s.drop 32)
    have h2 := R.concat_mass root (some (.leaf (s.take 32)))
    have h3 := leaf_mass s h
    rw [R.mass_some] at h2
    omega
  termination_by s.length
  decreasing_by
  have := List.length_pos_iff.2 (show s ≠ [] by assumption)
  simp; omega

theorem new_loop : ∀ (k : Nat) (root : R) (s : List UInt8), s.length ≤ k → root.mass + 2 * s.length < 1000000000 → ∃ N, ∀ n, N ≤ n → ∀ m, k < m → ∀ n' e, e 0 = .str s → e 3 = encR root → e 2 = .ref 0 0 →
    aLoop (F15_L0 (den C n) n') m e [(27, [.nilp])] = some (rop (root.from s), [(27, [encR (root.from s)])]) := by
  intro k
  induction k with
  | zero =>
    intro root s hs hm
    refine ⟨0, fun n _ m hk n' e h0 h3 h2 => ?_⟩
    obtain ⟨m, rfl⟩ : ∃ j, m = j + 1 := ⟨m - 1, by omega⟩
    have e0 : s = [] := List.length_eq_zero_iff.1 (by omega)
    subst e0
    rw [aLoop, R.from, dif_pos rfl, F15_L0]
    simp -implicitDefEqProofs only [oh_some, mp_some, sto_some, br_true, br_false, gd_true, gd_false, wA_tt, wA_ft, wA_tf, wA_ff, enc_strip, lp_strip, rp_strip, encR_strip, enc_check, enc_addr, aNilCheck_box, aNilCheck_ref, aAddr_box, aAddr_ref, aLoad_one, List.getElem?_cons_succ, List.getElem?_cons_zero, Option.map_some, bin_add, bin_sub, bin_lss, bin_leq, bin_gtr, bin_geq, bin_eql, bin_neq, str_eql, aMax_int, aMin_int, aUn_not, aPick_true, aPick_false, strip_int, strip_bool, strip_str, strip_nilp, strip_nils, strip_box, strip_ref, strip_agg, strip_tup, strip_undef, aBox_f, solid_agg, cells_agg, kLoad_box, kGd_true, kGd_false, kCall_ok, gt_iff_lt, ge_iff_le, Int.ofNat_lt, Int.ofNat_le, decide_true, decide_false, Nat.zero_add, Bool.not_true, Bool.not_false, aExtract_tup, fin1_some, resL_nil, resL_some, enc_noRef, encR_noRef, noRefL_cons, noRefL_nil, noRef_int, noRef_str, noRef_bool, Bool.and_self, ite_true, h0, h3, h2, len9, List.length_nil, Int.natCast_zero, Int.lt_irrefl, build27, store1, load1, rop]
  | succ k ih =>
    intro root s hs hm
    by_cases e0 : s = []
    · subst e0
      refine ⟨0, fun n _ m hk n' e h0 h3 h2 => ?_⟩
      obtain ⟨m, rfl⟩ : ∃ j, m = j + 1 := ⟨m - 1, by omega⟩
      rw [aLoop, R.from, dif_pos rfl, F15_L0]
      simp -implicitDefEqProofs only [oh_some, mp_some, sto_some, br_true, br_false, gd_true, gd_false, wA_tt, wA_ft, wA_tf, wA_ff, enc_strip, lp_strip, rp_strip, encR_strip, enc_check, enc_addr, aNilCheck_box, aNilCheck_ref, aAddr_box, aAddr_ref, aLoad_one, List.getElem?_cons_succ, List.getElem?_cons_zero, Option.map_some, bin_add, bin_sub, bin_lss, bin_leq, bin_gtr, bin_geq, bin_eql, bin_neq, str_eql, aMax_int, aMin_int, aUn_not, aPick_true, aPick_false, strip_int, strip_bool, strip_str, strip_nilp, strip_nils, strip_box, strip_ref, strip_agg, strip_tup, strip_undef, aBox_f, solid_agg, cells_agg, kLoad_box, kGd_true, kGd_false, kCall_ok, gt_iff_lt, ge_iff_le, Int.ofNat_lt, Int.ofNat_le, decide_true, decide_false, Nat.zero_add, Bool.not_true, Bool.not_false, aExtract_tup, fin1_some, resL_nil, resL_some, enc_noRef, encR_noRef, noRefL_cons, noRefL_nil, noRef_int, noRef_str, noRef_bool, Bool.and_self, ite_true, h0, h3, h2, len9, List.length_nil, Int.natCast_zero, Int.lt_irrefl, build27, store1, load1, rop]
    · have hpos := List.length_pos_iff.2 e0
      have hm3 := leaf_mass s e0
      have hm2 := R.concat_mass root (some (.leaf (s.take 32)))
      rw [R.mass_some] at hm2
      obtain ⟨N1, q1⟩ := AC.at (newLeaf_ok (s.take 32))
      obtain ⟨N2, q2⟩ := AC.at (concat_run root (some (.leaf (s.take 32))) (by rw [R.mass_some]; omega))
      obtain ⟨N3, q3⟩ := ih (R.concat root (some (.leaf (s.take 32)))) (s.drop 32) (by simp; omega) (by omega)
      refine ⟨max N1 (max N2 N3), fun n hn m hk n' e h0 h3 h2 => ?_⟩
      obtain ⟨m, rfl⟩ : ∃ j, m = j + 1 := ⟨m - 1, by omega⟩
      have q1 := q1 n (by omega)
      have q2 := q2 n (by omega)
      have e1 : (0 : Int) < (s.length : Int) := by omega
      have e2 : (if (32 : Int) < (s.length : Int) then (32 : Int) else (s.length : Int)) = ((min s.length 32 : Nat) : Int) := by split <;> omega
      have u := subTake (s := s) (i := ((min s.length 32 : Nat) : Int)) (by omega) (by omega)
      have u' := subDrop (s := s) (i := ((min s.length 32 : Nat) : Int)) (by omega) (by omega)
      have v : s.take (min s.length 32) = s.take 32 := by
        rw [Nat.min_def]; split
        · rw [List.take_of_length_le (Nat.le_refl _), List.take_of_length_le (by assumption)]
        · rfl
      have v' : s.drop (min s.length 32) = s.drop 32 := by
        rw [Nat.min_def]; split
        · rw [List.drop_of_length_le (Nat.le_refl _), List.drop_of_length_le (by assumption)]
        · rfl
      rw [aLoop, R.from, dif_neg e0, F15_L0]
      simp only [encR_some] at q2
      simp -implicitDefEqProofs only [oh_some, mp_some, sto_some, br_true, br_false, gd_true, gd_false, wA_tt, wA_ft, wA_tf, wA_ff, enc_strip, lp_strip, rp_strip, encR_strip, enc_check, enc_addr, aNilCheck_box, aNilCheck_ref, aAddr_box, aAddr_ref, aLoad_one, List.getElem?_cons_succ, List.getElem?_cons_zero, Option.map_some, bin_add, bin_sub, bin_lss, bin_leq, bin_gtr, bin_geq, bin_eql, bin_neq, str_eql, aMax_int, aMin_int, aUn_not, aPick_true, aPick_false, strip_int, strip_bool, strip_str, strip_nilp, strip_nils, strip_box, strip_ref, strip_agg, strip_tup, strip_undef, aBox_f, solid_agg, cells_agg, kLoad_box, kGd_true, kGd_false, kCall_ok, gt_iff_lt, ge_iff_le, Int.ofNat_lt, Int.ofNat_le, decide_true, decide_false, Nat.zero_add, Bool.not_true, Bool.not_false, aExtract_tup, fin1_some, resL_nil, resL_some, enc_noRef, encR_noRef, noRefL_cons, noRefL_nil, noRef_int, noRef_str, noRef_bool, Bool.and_self, ite_true, h0, h3, h2, len9, e1, e2, u, u', v, v', Int.toNat_natCast, q1, q2]
      refine q3 n (by omega) m (by omega) n' _ ?_ ?_ ?_
      · simp [upds_at, upd_at]
      · simp [upds_at, upd_at]
      · simp [upds_at, upd_at, h2]

theorem New_run (s : List UInt8) (h : 2 * s.length < 1000000000) : AC C 15 [.str s] (rop (R.from none s)) := by
  refine .intro (by kernel_rfl) (by rfl) (by simp [noRef_agg, noRefL_cons, noRefL_nil]) ?_
  obtain ⟨N1, q1⟩ := new_loop s.length none s (Nat.le_refl _) (by simp [R.mass]; omega)
  refine ⟨max N1 (s.length + 1), fun n hn => ⟨[(27, [encR (R.from none s)])], ?_⟩⟩
  have q1 := q1 n (by omega) n (by omega) n
  rw [F15_eq]
  unfold F15
  simp -implicitDefEqProofs only [oh_some, mp_some, sto_some, br_true, br_false, gd_true, gd_false, wA_tt, wA_ft, wA_tf, wA_ff, enc_strip, lp_strip, rp_strip, encR_strip, enc_check, enc_addr, aNilCheck_box, aNilCheck_ref, aAddr_box, aAddr_ref, aLoad_one, List.getElem?_cons_succ, List.getElem?_cons_zero, Option.map_some, bin_add, bin_sub, bin_lss, bin_leq, bin_gtr, bin_geq, bin_eql, bin_neq, str_eql, aMax_int, aMin_int, aUn_not, aPick_true, aPick_false, strip_int, strip_bool, strip_str, strip_nilp, strip_nils, strip_box, strip_ref, strip_agg, strip_tup, strip_undef, aBox_f, solid_agg, cells_agg, kLoad_box, kGd_true, kGd_false, kCall_ok, gt_iff_lt, ge_iff_le, Int.ofNat_lt, Int.ofNat_le, decide_true, decide_false, Nat.zero_add, Bool.not_true, Bool.not_false, aExtract_tup, fin1_some, resL_nil, resL_some, enc_noRef, encR_noRef, noRefL_cons, noRefL_nil, noRef_int, noRef_str, noRef_bool, Bool.and_self, ite_true, alloc27, List.length_nil, List.nil_append]
  exact q1 _ (by simp [upds_at, upd_at, argEnv]) (by simp [upds_at, upd_at, encR]) (by simp [upds_at, upd_at])
end RopeF

