/- The rope package's functions in the abstract machine: joining. -/
import Derived.Test.YtionohfkjdahlaaRopeN
set_option linter.all false
namespace RopeF
open Go Go.Abs Go.Proofs

theorem T.mass_pos (t : T) : 0 < t.mass := by have := t.lv_pos; unfold T.mass; omega
theorem T.rebalance_mass (l r : T) : (l.rebalance r).mass = l.mass + r.mass := by
  unfold T.rebalance
  split
  · rename_i c
    obtain ⟨a, b, rfl⟩ := T.hpos (t := l) (by omega)
    simp only [T.left, T.right, T.mass_node]; omega
  · split
    · rename_i c d
      obtain ⟨a, b, rfl⟩ := T.hpos (t := l) (by omega)
      simp only [T.left, T.right] at c
      obtain ⟨x, y, rfl⟩ := T.hpos (t := b) (by simp only [T.h] at *; omega)
      simp only [T.left, T.right, T.mass_node]; omega
    · split
      · rename_i c
        obtain ⟨a, b, rfl⟩ := T.hpos (t := r) (by omega)
        simp only [T.left, T.right, T.mass_node]; omega
      · split
        · rename_i c d
          obtain ⟨a, b, rfl⟩ := T.hpos (t := r) (by omega)
          simp only [T.left, T.right] at c
          obtain ⟨x, y, rfl⟩ := T.hpos (t := a) (by simp only [T.h] at *; omega)
          simp only [T.left, T.right, T.mass_node]; omega
        · simp only [T.mass_node]

theorem T.concat_mass : ∀ (n : Nat) (l r : T), l.size + r.size ≤ n → (l.concat r).mass ≤ l.mass + r.mass := by
  intro n
  induction n with
  | zero => intro l r hn; cases l <;> cases r <;> simp [T.size] at hn
  | succ n ih =>
    intro l r hn
    unfold T.concat
    split
    · have := l.lv_pos
      have := r.lv_pos
      simp only [T.mass, T.str, T.lv, List.length_append]; omega
    · split
      · rename_i c
        obtain ⟨a, b, rfl⟩ := T.hpos (t := l) (by omega)
        simp only [T.left, T.right, T.size] at *
        have := ih b r (by omega)
        rw [T.rebalance_mass, T.mass_node]; omega
      · split
        · rename_i c
          obtain ⟨a, b, rfl⟩ := T.hpos (t := r) (by omega)
          simp only [T.left, T.right, T.size] at *
          have := ih l a (by omega)
          rw [T.rebalance_mass, T.mass_node]; omega
        · rw [T.mass_node]; exact Nat.le_refl _

theorem eqNil (t : T) : aBin Try.prog .eql 25 (enc t) .nilp = some (.bool false) := by rw [enc_eq]; kernel_rfl
theorem neNil (t : T) : aBin Try.prog .neq 25 (enc t) .nilp = some (.bool true) := by rw [enc_eq]; kernel_rfl
theorem nilNil : aBin Try.prog .eql 25 .nilp .nilp = some (.bool true) := by kernel_rfl
theorem nilNe : aBin Try.prog .neq 25 .nilp .nilp = some (.bool false) := by kernel_rfl

theorem concat_tree : ∀ (m : Nat) (l r : T), l.size + r.size ≤ m → l.mass + r.mass < 1000000000 → AC C 23 [enc l, enc r] (enc (l.concat r)) := by
  intro m
  induction m with
  | zero => intro l r hn; cases l <;> cases r <;> simp [T.size] at hn
  | succ m ih =>
    intro l r hn h
    refine .intro (by kernel_rfl) (by simp [noRefL]) (by simp) ?_
    have hl := l.h_mass
    have hr := r.h_mass
    have e1 := wadd1 (a := l.h) (by omega)
    have e2 := wadd1 (a := r.h) (by omega)
    have e3 := wadd (a := l.str.length) (b := r.str.length) (by unfold T.mass at h; omega)
    have e4 : (((l.str.length + r.str.length : Nat) : Int) ≤ 32) ↔ l.str.length + r.str.length ≤ 32 := by omega
    by_cases c : l.h = 0 ∧ r.h = 0 ∧ l.str.length + r.str.length ≤ 32
    · obtain ⟨c1, c2, c3⟩ := c
      have e5 : T.concat l r = T.leaf (l.str ++ r.str) := by unfold T.concat; rw [if_pos ⟨c1, c2, c3⟩]
      have t1 : tx l = l.str := by obtain ⟨s, rfl⟩ := T.h0 c1; rfl
      have t2 : tx r = r.str := by obtain ⟨s, rfl⟩ := T.h0 c2; rfl
      have e6 : aBin Try.prog .add 9 (.str l.str) (.str r.str) = some (.str (l.str ++ r.str)) := str_add _ _ (by omega)
      have z1 : ((l.h : Int) == 0) = true := by simp; omega
      have z2 : ((r.h : Int) == 0) = true := by simp; omega
      obtain ⟨N1, q1⟩ := AC.at (newLeaf_ok (l.str ++ r.str))
      rw [e5]
      refine ⟨N1, fun n hn => ⟨[], ?_⟩⟩
      have q1 := q1 n (by omega)
      rw [F23_eq]
      unfold F23
      simp -implicitDefEqProofs only [oh_some, mp_some, sto_some, br_true, br_false, gd_true, gd_false, wA_tt, wA_ft, wA_tf, wA_ff, enc_strip, lp_strip, rp_strip, encR_strip, enc_check, enc_addr, aNilCheck_box, aNilCheck_ref, aAddr_box, aAddr_ref, aLoad_one, List.getElem?_cons_succ, List.getElem?_cons_zero, Option.map_some, bin_add, bin_sub, bin_lss, bin_leq, bin_gtr, bin_geq, bin_eql, bin_neq, str_eql, aMax_int, aMin_int, aUn_not, aPick_true, aPick_false, strip_int, strip_bool, strip_str, strip_nilp, strip_nils, strip_box, strip_ref, strip_agg, strip_tup, strip_undef, aBox_f, solid_agg, cells_agg, kLoad_box, kGd_true, kGd_false, kCall_ok, gt_iff_lt, ge_iff_le, Int.ofNat_lt, Int.ofNat_le, decide_true, decide_false, Nat.zero_add, Bool.not_true, Bool.not_false, aExtract_tup, fin1_some, resL_nil, resL_some, enc_noRef, encR_noRef, noRefL_cons, noRefL_nil, noRef_int, noRef_str, noRef_bool, Bool.and_self, ite_true, eqNil, e3, e4, e6, t1, t2, z1, z2, c3, q1, d23_5, d23_6]
    · by_cases c1 : r.h + 1 < l.h
      · obtain ⟨a, b, rfl⟩ := T.hpos (t := l) (by omega)
        simp only [T.size, T.mass_node] at hn h
        obtain ⟨N1, q1⟩ := AC.at (ih b r (by omega) (by omega))
        have := T.concat_mass _ b r (Nat.le_refl _)
        obtain ⟨N2, q2⟩ := AC.at (rebalance_run a (b.concat r) (by omega))
        have e5 : T.concat (.node a b) r = a.rebalance (b.concat r) := by rw [T.concat, if_neg c, dif_pos c1]; rfl
        have z1 : (((T.node a b).h : Int) == 0) = false := by simp; omega
        rw [e5]
        refine ⟨max N1 N2, fun n hn => ⟨[], ?_⟩⟩
        have q1 := q1 n (by omega)
        have q2 := q2 n (by omega)
        rw [F23_eq]
        unfold F23
        simp -implicitDefEqProofs only [oh_some, mp_some, sto_some, br_true, br_false, gd_true, gd_false, wA_tt, wA_ft, wA_tf, wA_ff, enc_strip, lp_strip, rp_strip, encR_strip, enc_check, enc_addr, aNilCheck_box, aNilCheck_ref, aAddr_box, aAddr_ref, aLoad_one, List.getElem?_cons_succ, List.getElem?_cons_zero, Option.map_some, bin_add, bin_sub, bin_lss, bin_leq, bin_gtr, bin_geq, bin_eql, bin_neq, str_eql, aMax_int, aMin_int, aUn_not, aPick_true, aPick_false, strip_int, strip_bool, strip_str, strip_nilp, strip_nils, strip_box, strip_ref, strip_agg, strip_tup, strip_undef, aBox_f, solid_agg, cells_agg, kLoad_box, kGd_true, kGd_false, kCall_ok, gt_iff_lt, ge_iff_le, Int.ofNat_lt, Int.ofNat_le, decide_true, decide_false, Nat.zero_add, Bool.not_true, Bool.not_false, aExtract_tup, fin1_some, resL_nil, resL_some, enc_noRef, encR_noRef, noRefL_cons, noRefL_nil, noRef_int, noRef_str, noRef_bool, Bool.and_self, ite_true, lp, rp, eqNil, e1, e2, e3, e4, z1, c1, q1, q2, d23_5, d23_7, d23_8]
      · by_cases c2 : l.h + 1 < r.h
        · obtain ⟨a, b, rfl⟩ := T.hpos (t := r) (by omega)
          simp only [T.size, T.mass_node] at hn h
          obtain ⟨N1, q1⟩ := AC.at (ih l a (by omega) (by omega))
          have := T.concat_mass _ l a (Nat.le_refl _)
          obtain ⟨N2, q2⟩ := AC.at (rebalance_run (l.concat a) b (by omega))
          have e5 : T.concat l (.node a b) = (l.concat a).rebalance b := by rw [T.concat, if_neg c, dif_neg c1, dif_pos c2]; rfl
          have z2 : (((T.node a b).h : Int) == 0) = false := by simp; omega
          rw [e5]
          refine ⟨max N1 N2, fun n hn => ⟨[], ?_⟩⟩
          have q1 := q1 n (by omega)
          have q2 := q2 n (by omega)
          rw [F23_eq]
          unfold F23
          by_cases z : l.h = 0
          · have z1 : ((l.h : Int) == 0) = true := by simp; omega
            simp -implicitDefEqProofs only [oh_some, mp_some, sto_some, br_true, br_false, gd_true, gd_false, wA_tt, wA_ft, wA_tf, wA_ff, enc_strip, lp_strip, rp_strip, encR_strip, enc_check, enc_addr, aNilCheck_box, aNilCheck_ref, aAddr_box, aAddr_ref, aLoad_one, List.getElem?_cons_succ, List.getElem?_cons_zero, Option.map_some, bin_add, bin_sub, bin_lss, bin_leq, bin_gtr, bin_geq, bin_eql, bin_neq, str_eql, aMax_int, aMin_int, aUn_not, aPick_true, aPick_false, strip_int, strip_bool, strip_str, strip_nilp, strip_nils, strip_box, strip_ref, strip_agg, strip_tup, strip_undef, aBox_f, solid_agg, cells_agg, kLoad_box, kGd_true, kGd_false, kCall_ok, gt_iff_lt, ge_iff_le, Int.ofNat_lt, Int.ofNat_le, decide_true, decide_false, Nat.zero_add, Bool.not_true, Bool.not_false, aExtract_tup, fin1_some, resL_nil, resL_some, enc_noRef, encR_noRef, noRefL_cons, noRefL_nil, noRef_int, noRef_str, noRef_bool, Bool.and_self, ite_true, lp, rp, eqNil, e1, e2, e3, e4, z1, z2, c1, c2, q1, q2, d23_5, d23_7, d23_9, d23_10]
          · have z1 : ((l.h : Int) == 0) = false := by simp; omega
            simp -implicitDefEqProofs only [oh_some, mp_some, sto_some, br_true, br_false, gd_true, gd_false, wA_tt, wA_ft, wA_tf, wA_ff, enc_strip, lp_strip, rp_strip, encR_strip, enc_check, enc_addr, aNilCheck_box, aNilCheck_ref, aAddr_box, aAddr_ref, aLoad_one, List.getElem?_cons_succ, List.getElem?_cons_zero, Option.map_some, bin_add, bin_sub, bin_lss, bin_leq, bin_gtr, bin_geq, bin_eql, bin_neq, str_eql, aMax_int, aMin_int, aUn_not, aPick_true, aPick_false, strip_int, strip_bool, strip_str, strip_nilp, strip_nils, strip_box, strip_ref, strip_agg, strip_tup, strip_undef, aBox_f, solid_agg, cells_agg, kLoad_box, kGd_true, kGd_false, kCall_ok, gt_iff_lt, ge_iff_le, Int.ofNat_lt, Int.ofNat_le, decide_true, decide_false, Nat.zero_add, Bool.not_true, Bool.not_false, aExtract_tup, fin1_some, resL_nil, resL_some, enc_noRef, encR_noRef, noRefL_cons, noRefL_nil, noRef_int, noRef_str, noRef_bool, Bool.and_self, ite_true, lp, rp, eqNil, e1, e2, e3, e4, z1, z2, c1, c2, q1, q2, d23_5, d23_7, d23_9, d23_10]
        · have e5 : T.concat l r = .node l r := by rw [T.concat, if_neg c, dif_neg c1, dif_neg c2]
          obtain ⟨N1, q1⟩ := AC.at (newNode_ok l r h)
          rw [e5]
          refine ⟨N1, fun n hn => ⟨[], ?_⟩⟩
          have q1 := q1 n (by omega)
          rw [F23_eq]
          unfold F23
          by_cases z : l.h = 0
          · have z1 : ((l.h : Int) == 0) = true := by simp; omega
            by_cases y : r.h = 0
            · have z2 : ((r.h : Int) == 0) = true := by simp; omega
              have c3 : ¬ l.str.length + r.str.length ≤ 32 := fun e => c ⟨z, y, e⟩
              simp -implicitDefEqProofs only [oh_some, mp_some, sto_some, br_true, br_false, gd_true, gd_false, wA_tt, wA_ft, wA_tf, wA_ff, enc_strip, lp_strip, rp_strip, encR_strip, enc_check, enc_addr, aNilCheck_box, aNilCheck_ref, aAddr_box, aAddr_ref, aLoad_one, List.getElem?_cons_succ, List.getElem?_cons_zero, Option.map_some, bin_add, bin_sub, bin_lss, bin_leq, bin_gtr, bin_geq, bin_eql, bin_neq, str_eql, aMax_int, aMin_int, aUn_not, aPick_true, aPick_false, strip_int, strip_bool, strip_str, strip_nilp, strip_nils, strip_box, strip_ref, strip_agg, strip_tup, strip_undef, aBox_f, solid_agg, cells_agg, kLoad_box, kGd_true, kGd_false, kCall_ok, gt_iff_lt, ge_iff_le, Int.ofNat_lt, Int.ofNat_le, decide_true, decide_false, Nat.zero_add, Bool.not_true, Bool.not_false, aExtract_tup, fin1_some, resL_nil, resL_some, enc_noRef, encR_noRef, noRefL_cons, noRefL_nil, noRef_int, noRef_str, noRef_bool, Bool.and_self, ite_true, eqNil, e1, e2, e3, e4, z1, z2, c1, c2, c3, q1, d23_5, d23_7, d23_9, d23_10]
            · have z2 : ((r.h : Int) == 0) = false := by simp; omega
              simp -implicitDefEqProofs only [oh_some, mp_some, sto_some, br_true, br_false, gd_true, gd_false, wA_tt, wA_ft, wA_tf, wA_ff, enc_strip, lp_strip, rp_strip, encR_strip, enc_check, enc_addr, aNilCheck_box, aNilCheck_ref, aAddr_box, aAddr_ref, aLoad_one, List.getElem?_cons_succ, List.getElem?_cons_zero, Option.map_some, bin_add, bin_sub, bin_lss, bin_leq, bin_gtr, bin_geq, bin_eql, bin_neq, str_eql, aMax_int, aMin_int, aUn_not, aPick_true, aPick_false, strip_int, strip_bool, strip_str, strip_nilp, strip_nils, strip_box, strip_ref, strip_agg, strip_tup, strip_undef, aBox_f, solid_agg, cells_agg, kLoad_box, kGd_true, kGd_false, kCall_ok, gt_iff_lt, ge_iff_le, Int.ofNat_lt, Int.ofNat_le, decide_true, decide_false, Nat.zero_add, Bool.not_true, Bool.not_false, aExtract_tup, fin1_some, resL_nil, resL_some, enc_noRef, encR_noRef, noRefL_cons, noRefL_nil, noRef_int, noRef_str, noRef_bool, Bool.and_self, ite_true, eqNil, e1, e2, e3, e4, z1, z2, c1, c2, q1, d23_5, d23_7, d23_9, d23_10]
          · have z1 : ((l.h : Int) == 0) = false := by simp; omega
            simp -implicitDefEqProofs only [oh_some, mp_some, sto_some, br_true, br_false, gd_true, gd_false, wA_tt, wA_ft, wA_tf, wA_ff, enc_strip, lp_strip, rp_strip, encR_strip, enc_check, enc_addr, aNilCheck_box, aNilCheck_ref, aAddr_box, aAddr_ref, aLoad_one, List.getElem?_cons_succ, List.getElem?_cons_zero, Option.map_some, bin_add, bin_sub, bin_lss, bin_leq, bin_gtr, bin_geq, bin_eql, bin_neq, str_eql, aMax_int, aMin_int, aUn_not, aPick_true, aPick_false, strip_int, strip_bool, strip_str, strip_nilp, strip_nils, strip_box, strip_ref, strip_agg, strip_tup, strip_undef, aBox_f, solid_agg, cells_agg, kLoad_box, kGd_true, kGd_false, kCall_ok, gt_iff_lt, ge_iff_le, Int.ofNat_lt, Int.ofNat_le, decide_true, decide_false, Nat.zero_add, Bool.not_true, Bool.not_false, aExtract_tup, fin1_some, resL_nil, resL_some, enc_noRef, encR_noRef, noRefL_cons, noRefL_nil, noRef_int, noRef_str, noRef_bool, Bool.and_self, ite_true, eqNil, e1, e2, e3, e4, z1, c1, c2, q1, d23_5, d23_7, d23_9, d23_10]

/-- concat of what may be nothing -/
def R.mass : R → Nat
  | none => 0
  | some t => t.mass
theorem concat_run (l r : R) (h : l.mass + r.mass < 1000000000) : AC C 23 [encR l, encR r] (encR (l.concat r)) := by
  cases l with
  | none =>
    refine .intro (by kernel_rfl) (by simp [noRefL_cons, noRefL_nil]) (by simp) ⟨0, fun n hn => ⟨[], ?_⟩⟩
    rw [F23_eq]
    unfold F23
    simp -implicitDefEqProofs only [oh_some, mp_some, sto_some, br_true, br_false, gd_true, gd_false, wA_tt, wA_ft, wA_tf, wA_ff, enc_strip, lp_strip, rp_strip, encR_strip, enc_check, enc_addr, aNilCheck_box, aNilCheck_ref, aAddr_box, aAddr_ref, aLoad_one, List.getElem?_cons_succ, List.getElem?_cons_zero, Option.map_some, bin_add, bin_sub, bin_lss, bin_leq, bin_gtr, bin_geq, bin_eql, bin_neq, str_eql, aMax_int, aMin_int, aUn_not, aPick_true, aPick_false, strip_int, strip_bool, strip_str, strip_nilp, strip_nils, strip_box, strip_ref, strip_agg, strip_tup, strip_undef, aBox_f, solid_agg, cells_agg, kLoad_box, kGd_true, kGd_false, kCall_ok, gt_iff_lt, ge_iff_le, Int.ofNat_lt, Int.ofNat_le, decide_true, decide_false, Nat.zero_add, Bool.not_true, Bool.not_false, aExtract_tup, fin1_some, resL_nil, resL_some, enc_noRef, encR_noRef, noRefL_cons, noRefL_nil, noRef_int, noRef_str, noRef_bool, Bool.and_self, ite_true, encR, R.concat, nilNil]
    cases r <;> simp
  | some l => cases r with
    | none =>
      refine .intro (by kernel_rfl) (by simp [noRefL_cons, noRefL_nil]) (by simp) ⟨0, fun n hn => ⟨[], ?_⟩⟩
      rw [F23_eq]
      unfold F23
      simp -implicitDefEqProofs only [oh_some, mp_some, sto_some, br_true, br_false, gd_true, gd_false, wA_tt, wA_ft, wA_tf, wA_ff, enc_strip, lp_strip, rp_strip, encR_strip, enc_check, enc_addr, aNilCheck_box, aNilCheck_ref, aAddr_box, aAddr_ref, aLoad_one, List.getElem?_cons_succ, List.getElem?_cons_zero, Option.map_some, bin_add, bin_sub, bin_lss, bin_leq, bin_gtr, bin_geq, bin_eql, bin_neq, str_eql, aMax_int, aMin_int, aUn_not, aPick_true, aPick_false, strip_int, strip_bool, strip_str, strip_nilp, strip_nils, strip_box, strip_ref, strip_agg, strip_tup, strip_undef, aBox_f, solid_agg, cells_agg, kLoad_box, kGd_true, kGd_false, kCall_ok, gt_iff_lt, ge_iff_le, Int.ofNat_lt, Int.ofNat_le, decide_true, decide_false, Nat.zero_add, Bool.not_true, Bool.not_false, aExtract_tup, fin1_some, resL_nil, resL_some, enc_noRef, encR_noRef, noRefL_cons, noRefL_nil, noRef_int, noRef_str, noRef_bool, Bool.and_self, ite_true, encR, R.concat, nilNil, eqNil]
    | some r => exact concat_tree _ l r (Nat.le_refl _) h
end RopeF

