/- The rope package's functions in the abstract machine: splitting. -/
import Derived.Test.YtionohfkjdahlaaRopeO
set_option linter.all false
namespace RopeF
open Go Go.Abs Go.Proofs

theorem R.mass_some (t : T) : R.mass (some t) = t.mass := rfl
theorem R.concat_mass (l r : R) : (l.concat r).mass ≤ l.mass + r.mass := by
  cases l with
  | none => simp [R.concat, R.mass]
  | some l => cases r with
    | none => simp [R.concat, R.mass]
    | some r => exact T.concat_mass _ l r (Nat.le_refl _)

/-- split -/
def T.split : T → Nat → R × R
  | .leaf s, i => if i = 0 then (none, some (.leaf s)) else if s.length ≤ i then (some (.leaf s), none) else (some (.leaf (s.take i)), some (.leaf (s.drop i)))
  | .node l r, i => if i = 0 then (none, some (.node l r)) else if (T.node l r).str.length ≤ i then (some (.node l r), none)
    else if i < l.str.length then ((l.split i).1, R.concat (l.split i).2 (some r))
    else (R.concat (some l) (r.split (i - l.str.length)).1, (r.split (i - l.str.length)).2)
def R.split : R → Nat → R × R
  | none, _ => (none, none)
  | some t, i => t.split i

theorem T.split_mass (t : T) (i : Nat) : (t.split i).1.mass ≤ t.mass ∧ (t.split i).2.mass ≤ t.mass := by
  induction t generalizing i with
  | leaf s =>
    unfold T.split
    split
    · simp [R.mass]
    · split
      · simp [R.mass]
      · simp [R.mass, T.mass, T.str, T.lv]; omega
  | node l r ihl ihr =>
    unfold T.split
    split
    · simp [R.mass]
    · split
      · simp [R.mass]
      · split
        · have := ihl i
          have := R.concat_mass (l.split i).2 (some r)
          simp only [T.mass_node, R.mass] at *; omega
        · have := ihr (i - l.str.length)
          have := R.concat_mass (some l) (r.split (i - l.str.length)).1
          simp only [T.mass_node, R.mass] at *; omega

theorem T.split_ok (t : T) (i : Nat) (w : t.WF) : (t.split i).1.WF ∧ (t.split i).2.WF ∧ (t.split i).1.str = t.str.take i ∧ (t.split i).2.str = t.str.drop i := by
  induction t generalizing i with
  | leaf s =>
    unfold T.split
    split
    · rename_i h; subst h; exact ⟨trivial, w, by simp [R.str], by simp [R.str]⟩
    · split
      · rename_i h; exact ⟨w, trivial, by simp only [R.str, T.str]; rw [List.take_of_length_le h], by simp only [R.str, T.str]; rw [List.drop_of_length_le h]⟩
      · simp only [R.WF, R.str, T.str, T.WF] at *
        refine ⟨⟨?_, ?_⟩, ⟨?_, ?_⟩, trivial, trivial⟩
        · intro e; have := congrArg List.length e; have := List.length_pos_iff.2 w.1; simp only [List.length_take, List.length_nil] at *; omega
        · simp only [List.length_take]; omega
        · intro e; have := congrArg List.length e; simp only [List.length_drop, List.length_nil] at *; omega
        · simp only [List.length_drop]; omega
  | node l r ihl ihr =>
    unfold T.split
    split
    · rename_i h; subst h; exact ⟨trivial, w, by simp [R.str], by simp [R.str]⟩
    · split
      · rename_i h; exact ⟨w, trivial, by simp only [R.str]; rw [List.take_of_length_le h], by simp only [R.str]; rw [List.drop_of_length_le h]⟩
      · split
        · rename_i h
          obtain ⟨a, b, c, d⟩ := ihl i w.1
          obtain ⟨e, f⟩ := R.concat_ok b (show R.WF (some r) from w.2.1)
          refine ⟨a, e, ?_, ?_⟩
          · rw [c]; simp only [T.str]; rw [List.take_append_of_le_length (by omega)]
          · rw [f, d]; simp only [T.str, R.str]; rw [List.drop_append_of_le_length (by omega)]
        · rename_i h
          obtain ⟨a, b, c, d⟩ := ihr (i - l.str.length) w.2.1
          obtain ⟨e, f⟩ := R.concat_ok (show R.WF (some l) from w.1) a
          refine ⟨e, b, ?_, ?_⟩
          · rw [f, c]; simp only [T.str, R.str]; rw [List.take_append, List.take_of_length_le (l := l.str) (by omega)]
          · rw [d]; simp only [T.str]; rw [List.drop_append, List.drop_of_length_le (l := l.str) (by omega), List.nil_append]

theorem subTake {s : List UInt8} {i : Int} (h0 : 0 ≤ i) (h1 : i ≤ s.length) : aSl Try.prog 9 (.str s) none (some (I i)) none = some (.str (s.take i.toNat)) := by
  have h : Try.prog.underlying 9 = some .string := by kernel_rfl
  simp [aSl, h, aSubstr, aBound, h0, h1]
theorem subDrop {s : List UInt8} {i : Int} (h0 : 0 ≤ i) (h1 : i ≤ s.length) : aSl Try.prog 9 (.str s) (some (I i)) none none = some (.str (s.drop i.toNat)) := by
  have h : Try.prog.underlying 9 = some .string := by kernel_rfl
  simp [aSl, h, aSubstr, aBound, h0, h1]

theorem split_tree (t : T) (i : Nat) (h : t.mass < 1000000000) (hi : i < 2000000000) : AC C 22 [enc t, I i] (.tup [encR (t.split i).1, encR (t.split i).2]) := by
  induction t generalizing i with
  | leaf s =>
    refine .intro (by kernel_rfl) (by simp [noRefL_cons, noRefL_nil, noRef_int]) (by simp [noRefL_cons, noRefL_nil, noRef_tup]) ?_
    have e0 : ((i : Int) ≤ 0) ↔ i = 0 := by omega
    by_cases c1 : i = 0
    · refine ⟨0, fun n hn => ⟨[], ?_⟩⟩
      unfold T.split
      rw [F22_eq, if_pos c1]
      unfold F22
      simp -implicitDefEqProofs only [oh_some, mp_some, sto_some, br_true, br_false, gd_true, gd_false, wA_tt, wA_ft, wA_tf, wA_ff, enc_strip, lp_strip, rp_strip, encR_strip, enc_check, enc_addr, aNilCheck_box, aNilCheck_ref, aAddr_box, aAddr_ref, aLoad_one, List.getElem?_cons_succ, List.getElem?_cons_zero, Option.map_some, bin_add, bin_sub, bin_lss, bin_leq, bin_gtr, bin_geq, bin_eql, bin_neq, str_eql, aMax_int, aMin_int, aUn_not, aPick_true, aPick_false, strip_int, strip_bool, strip_str, strip_nilp, strip_nils, strip_box, strip_ref, strip_agg, strip_tup, strip_undef, aBox_f, solid_agg, cells_agg, kLoad_box, kGd_true, kGd_false, kCall_ok, gt_iff_lt, ge_iff_le, Int.ofNat_lt, Int.ofNat_le, decide_true, decide_false, Nat.zero_add, Bool.not_true, Bool.not_false, aExtract_tup, fin1_some, resL_nil, resL_some, enc_noRef, encR_noRef, noRefL_cons, noRefL_nil, noRef_int, noRef_str, noRef_bool, Bool.and_self, ite_true, eqNil, e0, c1, encR, Int.natCast_zero, Int.le_refl]
    · by_cases c2 : s.length ≤ i
      · refine ⟨0, fun n hn => ⟨[], ?_⟩⟩
        unfold T.split
        rw [F22_eq, if_neg c1, if_pos c2]
        unfold F22
        simp -implicitDefEqProofs only [oh_some, mp_some, sto_some, br_true, br_false, gd_true, gd_false, wA_tt, wA_ft, wA_tf, wA_ff, enc_strip, lp_strip, rp_strip, encR_strip, enc_check, enc_addr, aNilCheck_box, aNilCheck_ref, aAddr_box, aAddr_ref, aLoad_one, List.getElem?_cons_succ, List.getElem?_cons_zero, Option.map_some, bin_add, bin_sub, bin_lss, bin_leq, bin_gtr, bin_geq, bin_eql, bin_neq, str_eql, aMax_int, aMin_int, aUn_not, aPick_true, aPick_false, strip_int, strip_bool, strip_str, strip_nilp, strip_nils, strip_box, strip_ref, strip_agg, strip_tup, strip_undef, aBox_f, solid_agg, cells_agg, kLoad_box, kGd_true, kGd_false, kCall_ok, gt_iff_lt, ge_iff_le, Int.ofNat_lt, Int.ofNat_le, decide_true, decide_false, Nat.zero_add, Bool.not_true, Bool.not_false, aExtract_tup, fin1_some, resL_nil, resL_some, enc_noRef, encR_noRef, noRefL_cons, noRefL_nil, noRef_int, noRef_str, noRef_bool, Bool.and_self, ite_true, eqNil, e0, c1, c2, encR, T.str]
      · obtain ⟨N1, q1⟩ := AC.at (newLeaf_ok (s.take i))
        obtain ⟨N2, q2⟩ := AC.at (newLeaf_ok (s.drop i))
        have z1 : (((T.leaf s).h : Int) == 0) = true := by simp [T.h]
        refine ⟨max N1 N2, fun n hn => ⟨[], ?_⟩⟩
        have q1 := q1 n (by omega)
        have q2 := q2 n (by omega)
        have u1 := subTake (s := s) (i := i) (by omega) (by omega)
        have u2 := subDrop (s := s) (i := i) (by omega) (by omega)
        unfold T.split
        rw [F22_eq, if_neg c1, if_neg c2]
        unfold F22
        simp -implicitDefEqProofs only [oh_some, mp_some, sto_some, br_true, br_false, gd_true, gd_false, wA_tt, wA_ft, wA_tf, wA_ff, enc_strip, lp_strip, rp_strip, encR_strip, enc_check, enc_addr, aNilCheck_box, aNilCheck_ref, aAddr_box, aAddr_ref, aLoad_one, List.getElem?_cons_succ, List.getElem?_cons_zero, Option.map_some, bin_add, bin_sub, bin_lss, bin_leq, bin_gtr, bin_geq, bin_eql, bin_neq, str_eql, aMax_int, aMin_int, aUn_not, aPick_true, aPick_false, strip_int, strip_bool, strip_str, strip_nilp, strip_nils, strip_box, strip_ref, strip_agg, strip_tup, strip_undef, aBox_f, solid_agg, cells_agg, kLoad_box, kGd_true, kGd_false, kCall_ok, gt_iff_lt, ge_iff_le, Int.ofNat_lt, Int.ofNat_le, decide_true, decide_false, Nat.zero_add, Bool.not_true, Bool.not_false, aExtract_tup, fin1_some, resL_nil, resL_some, enc_noRef, encR_noRef, noRefL_cons, noRefL_nil, noRef_int, noRef_str, noRef_bool, Bool.and_self, ite_true, eqNil, e0, c1, c2, encR, tx, z1, u1, u2, Int.toNat_natCast, q1, q2, d22_6, T.str]
  | node l r ihl ihr =>
    refine .intro (by kernel_rfl) (by simp [noRefL_cons, noRefL_nil, noRef_int]) (by simp [noRefL_cons, noRefL_nil, noRef_tup]) ?_
    have e0 : ((i : Int) ≤ 0) ↔ i = 0 := by omega
    rw [T.mass_node] at h
    by_cases c1 : i = 0
    · refine ⟨0, fun n hn => ⟨[], ?_⟩⟩
      unfold T.split
      rw [F22_eq, if_pos c1]
      unfold F22
      simp -implicitDefEqProofs only [oh_some, mp_some, sto_some, br_true, br_false, gd_true, gd_false, wA_tt, wA_ft, wA_tf, wA_ff, enc_strip, lp_strip, rp_strip, encR_strip, enc_check, enc_addr, aNilCheck_box, aNilCheck_ref, aAddr_box, aAddr_ref, aLoad_one, List.getElem?_cons_succ, List.getElem?_cons_zero, Option.map_some, bin_add, bin_sub, bin_lss, bin_leq, bin_gtr, bin_geq, bin_eql, bin_neq, str_eql, aMax_int, aMin_int, aUn_not, aPick_true, aPick_false, strip_int, strip_bool, strip_str, strip_nilp, strip_nils, strip_box, strip_ref, strip_agg, strip_tup, strip_undef, aBox_f, solid_agg, cells_agg, kLoad_box, kGd_true, kGd_false, kCall_ok, gt_iff_lt, ge_iff_le, Int.ofNat_lt, Int.ofNat_le, decide_true, decide_false, Nat.zero_add, Bool.not_true, Bool.not_false, aExtract_tup, fin1_some, resL_nil, resL_some, enc_noRef, encR_noRef, noRefL_cons, noRefL_nil, noRef_int, noRef_str, noRef_bool, Bool.and_self, ite_true, eqNil, e0, c1, encR, Int.natCast_zero, Int.le_refl]
    · by_cases c2 : (T.node l r).str.length ≤ i
      · refine ⟨0, fun n hn => ⟨[], ?_⟩⟩
        unfold T.split
        rw [F22_eq, if_neg c1, if_pos c2]
        unfold F22
        simp -implicitDefEqProofs only [oh_some, mp_some, sto_some, br_true, br_false, gd_true, gd_false, wA_tt, wA_ft, wA_tf, wA_ff, enc_strip, lp_strip, rp_strip, encR_strip, enc_check, enc_addr, aNilCheck_box, aNilCheck_ref, aAddr_box, aAddr_ref, aLoad_one, List.getElem?_cons_succ, List.getElem?_cons_zero, Option.map_some, bin_add, bin_sub, bin_lss, bin_leq, bin_gtr, bin_geq, bin_eql, bin_neq, str_eql, aMax_int, aMin_int, aUn_not, aPick_true, aPick_false, strip_int, strip_bool, strip_str, strip_nilp, strip_nils, strip_box, strip_ref, strip_agg, strip_tup, strip_undef, aBox_f, solid_agg, cells_agg, kLoad_box, kGd_true, kGd_false, kCall_ok, gt_iff_lt, ge_iff_le, Int.ofNat_lt, Int.ofNat_le, decide_true, decide_false, Nat.zero_add, Bool.not_true, Bool.not_false, aExtract_tup, fin1_some, resL_nil, resL_some, enc_noRef, encR_noRef, noRefL_cons, noRefL_nil, noRef_int, noRef_str, noRef_bool, Bool.and_self, ite_true, eqNil, e0, c1, c2, encR]
      · have z1 : (((T.node l r).h : Int) == 0) = false := by simp [T.h]; omega
        by_cases c3 : i < l.str.length
        · have := T.split_mass l i
          obtain ⟨N1, q1⟩ := AC.at (ihl i (by omega) hi)
          obtain ⟨N2, q2⟩ := AC.at (concat_run (l.split i).2 (some r) (by rw [R.mass_some]; omega))
          refine ⟨max N1 N2, fun n hn => ⟨[], ?_⟩⟩
          have q1 := q1 n (by omega)
          have q2 := q2 n (by omega)
          unfold T.split
          rw [F22_eq, if_neg c1, if_neg c2, if_pos c3]
          unfold F22
          have q2' : ∀ s, aCall Try.prog (den C n) 23 [encR (l.split i).2, enc r] s = _ := q2
          simp -implicitDefEqProofs only [oh_some, mp_some, sto_some, br_true, br_false, gd_true, gd_false, wA_tt, wA_ft, wA_tf, wA_ff, enc_strip, lp_strip, rp_strip, encR_strip, enc_check, enc_addr, aNilCheck_box, aNilCheck_ref, aAddr_box, aAddr_ref, aLoad_one, List.getElem?_cons_succ, List.getElem?_cons_zero, Option.map_some, bin_add, bin_sub, bin_lss, bin_leq, bin_gtr, bin_geq, bin_eql, bin_neq, str_eql, aMax_int, aMin_int, aUn_not, aPick_true, aPick_false, strip_int, strip_bool, strip_str, strip_nilp, strip_nils, strip_box, strip_ref, strip_agg, strip_tup, strip_undef, aBox_f, solid_agg, cells_agg, kLoad_box, kGd_true, kGd_false, kCall_ok, gt_iff_lt, ge_iff_le, Int.ofNat_lt, Int.ofNat_le, decide_true, decide_false, Nat.zero_add, Bool.not_true, Bool.not_false, aExtract_tup, fin1_some, resL_nil, resL_some, enc_noRef, encR_noRef, noRefL_cons, noRefL_nil, noRef_int, noRef_str, noRef_bool, Bool.and_self, ite_true, lp, rp, eqNil, e0, c1, c2, c3, z1, q1, q2']
        · have := T.split_mass r (i - l.str.length)
          obtain ⟨N1, q1⟩ := AC.at (ihr (i - l.str.length) (by omega) (by omega))
          obtain ⟨N2, q2⟩ := AC.at (concat_run (some l) (r.split (i - l.str.length)).1 (by rw [R.mass_some]; omega))
          refine ⟨max N1 N2, fun n hn => ⟨[], ?_⟩⟩
          have q1 := q1 n (by omega)
          have q2 := q2 n (by omega)
          unfold T.split
          rw [F22_eq, if_neg c1, if_neg c2, if_neg c3]
          unfold F22
          have q2' : ∀ s, aCall Try.prog (den C n) 23 [enc l, encR (r.split (i - l.str.length)).1] s = _ := q2
          have e1 : IntKind.i64.wrap ((i : Int) - (l.str.length : Int)) = ((i - l.str.length : Nat) : Int) := by rw [wrap64] <;> omega
          simp -implicitDefEqProofs only [oh_some, mp_some, sto_some, br_true, br_false, gd_true, gd_false, wA_tt, wA_ft, wA_tf, wA_ff, enc_strip, lp_strip, rp_strip, encR_strip, enc_check, enc_addr, aNilCheck_box, aNilCheck_ref, aAddr_box, aAddr_ref, aLoad_one, List.getElem?_cons_succ, List.getElem?_cons_zero, Option.map_some, bin_add, bin_sub, bin_lss, bin_leq, bin_gtr, bin_geq, bin_eql, bin_neq, str_eql, aMax_int, aMin_int, aUn_not, aPick_true, aPick_false, strip_int, strip_bool, strip_str, strip_nilp, strip_nils, strip_box, strip_ref, strip_agg, strip_tup, strip_undef, aBox_f, solid_agg, cells_agg, kLoad_box, kGd_true, kGd_false, kCall_ok, gt_iff_lt, ge_iff_le, Int.ofNat_lt, Int.ofNat_le, decide_true, decide_false, Nat.zero_add, Bool.not_true, Bool.not_false, aExtract_tup, fin1_some, resL_nil, resL_some, enc_noRef, encR_noRef, noRefL_cons, noRefL_nil, noRef_int, noRef_str, noRef_bool, Bool.and_self, ite_true, lp, rp, eqNil, e0, e1, c1, c2, c3, z1, q1, q2', d22_10]

theorem split_run (r : R) (i : Nat) (h : r.mass < 1000000000) (hi : i < 2000000000) : AC C 22 [encR r, I i] (.tup [encR (r.split i).1, encR (r.split i).2]) := by
  cases r with
  | none =>
    refine .intro (by kernel_rfl) (by simp [noRefL_cons, noRefL_nil, noRef_int]) (by simp [noRefL_cons, noRefL_nil, noRef_tup]) ⟨0, fun n hn => ⟨[], ?_⟩⟩
    rw [F22_eq]
    unfold F22
    simp -implicitDefEqProofs only [oh_some, mp_some, sto_some, br_true, br_false, gd_true, gd_false, wA_tt, wA_ft, wA_tf, wA_ff, enc_strip, lp_strip, rp_strip, encR_strip, enc_check, enc_addr, aNilCheck_box, aNilCheck_ref, aAddr_box, aAddr_ref, aLoad_one, List.getElem?_cons_succ, List.getElem?_cons_zero, Option.map_some, bin_add, bin_sub, bin_lss, bin_leq, bin_gtr, bin_geq, bin_eql, bin_neq, str_eql, aMax_int, aMin_int, aUn_not, aPick_true, aPick_false, strip_int, strip_bool, strip_str, strip_nilp, strip_nils, strip_box, strip_ref, strip_agg, strip_tup, strip_undef, aBox_f, solid_agg, cells_agg, kLoad_box, kGd_true, kGd_false, kCall_ok, gt_iff_lt, ge_iff_le, Int.ofNat_lt, Int.ofNat_le, decide_true, decide_false, Nat.zero_add, Bool.not_true, Bool.not_false, aExtract_tup, fin1_some, resL_nil, resL_some, enc_noRef, encR_noRef, noRefL_cons, noRefL_nil, noRef_int, noRef_str, noRef_bool, Bool.and_self, ite_true, encR, R.split, nilNil]
  | some t => exact split_tree t i h hi
theorem R.split_mass (r : R) (i : Nat) : (r.split i).1.mass ≤ r.mass ∧ (r.split i).2.mass ≤ r.mass := by
  cases r with
  | none => simp [R.split, R.mass]
  | some t => exact T.split_mass t i
theorem R.split_ok (r : R) (i : Nat) (w : r.WF) : (r.split i).1.WF ∧ (r.split i).2.WF ∧ (r.split i).1.str = r.str.take i ∧ (r.split i).2.str = r.str.drop i := by
  cases r with
  | none => exact ⟨trivial, trivial, by simp [R.split, R.str], by simp [R.split, R.str]⟩
  | some t => exact T.split_ok t i w
end RopeF

