/- ByteAt and RopeSplit, in the abstract machine. -/
import Derived.Test.YtionohfkjdahlaaRopeZ
set_option linter.all false
set_option maxRecDepth 100000
namespace RopeF
open Go Go.Abs Go.Proofs

theorem idx9 {s : List UInt8} {i : Nat} {x : UInt8} (h : s[i]? = some x) : aIndex Try.prog 9 (.str s) (I i) = some (.int .u8 x.toNat) := by
  simp [aIndex, under9, h]

theorem byteAt_loop (t : T) : ∀ (i : Nat) (x : UInt8), t.str[i]? = some x → t.mass < 1000000000 → ∀ D m, t.h < m → ∀ n' e s, e 6 = enc t → e 1 = I i → aLoop (F13_L0 D n') m e s = some (.tup [.int .u8 x.toNat, I 0], s) := by
  induction t with
  | leaf y =>
    intro i x hx hm D m hmt n' e s h6 h1
    obtain ⟨m, rfl⟩ : ∃ j, m = j + 1 := ⟨m - 1, by omega⟩
    have c : ¬ ((0 : Int) < ((T.leaf y).h : Int)) := by simp [T.h]
    have e1 := idx9 (s := y) hx
    rw [aLoop, F13_L0]
    simp -implicitDefEqProofs only [oh_some, mp_some, sto_some, br_true, br_false, gd_true, gd_false, wA_tt, wA_tup, wA_ft, wA_tf, wA_ff, enc_strip, lp_strip, rp_strip, encR_strip, enc_check, enc_addr, aNilCheck_box, aNilCheck_ref, aAddr_box, aAddr_ref, aLoad_one, List.getElem?_cons_succ, List.getElem?_cons_zero, Option.map_some, bin_add, bin_sub, bin_lss, bin_leq, bin_gtr, bin_geq, bin_eql, bin_neq, str_eql, aMax_int, aMin_int, aUn_not, aPick_true, aPick_false, strip_int, strip_bool, strip_str, strip_nilp, strip_nils, strip_box, strip_ref, strip_agg, strip_tup, strip_undef, aBox_f, solid_agg, cells_agg, kLoad_box, kGd_true, kGd_false, kCall_ok, gt_iff_lt, ge_iff_le, Int.ofNat_lt, Int.ofNat_le, decide_true, decide_false, Nat.zero_add, Bool.not_true, Bool.not_false, aExtract_tup, fin1_some, resL_nil, resL_some, enc_noRef, encR_noRef, noRefL_cons, noRefL_nil, noRef_int, noRef_str, noRef_bool, Bool.and_self, ite_true, h6, h1, c, tx, e1]
  | node l r ihl ihr =>
    intro i x hx hm D m hmt n' e s h6 h1
    obtain ⟨m, rfl⟩ : ∃ j, m = j + 1 := ⟨m - 1, by omega⟩
    have c : ((0 : Int) < ((T.node l r).h : Int)) := by simp [T.h]
    rw [T.mass_node] at hm
    have hh : l.h < m ∧ r.h < m := by simp only [T.h] at hmt; omega
    have hlt := (List.getElem?_eq_some_iff.1 hx).1
    by_cases c2 : i < l.str.length
    · have hx' : l.str[i]? = some x := by
        simp only [T.str] at hx
        rwa [List.getElem?_append_left c2] at hx
      rw [aLoop, F13_L0]
      simp -implicitDefEqProofs only [oh_some, mp_some, sto_some, br_true, br_false, gd_true, gd_false, wA_tt, wA_tup, wA_ft, wA_tf, wA_ff, enc_strip, lp_strip, rp_strip, encR_strip, enc_check, enc_addr, aNilCheck_box, aNilCheck_ref, aAddr_box, aAddr_ref, aLoad_one, List.getElem?_cons_succ, List.getElem?_cons_zero, Option.map_some, bin_add, bin_sub, bin_lss, bin_leq, bin_gtr, bin_geq, bin_eql, bin_neq, str_eql, aMax_int, aMin_int, aUn_not, aPick_true, aPick_false, strip_int, strip_bool, strip_str, strip_nilp, strip_nils, strip_box, strip_ref, strip_agg, strip_tup, strip_undef, aBox_f, solid_agg, cells_agg, kLoad_box, kGd_true, kGd_false, kCall_ok, gt_iff_lt, ge_iff_le, Int.ofNat_lt, Int.ofNat_le, decide_true, decide_false, Nat.zero_add, Bool.not_true, Bool.not_false, aExtract_tup, fin1_some, resL_nil, resL_some, enc_noRef, encR_noRef, noRefL_cons, noRefL_nil, noRef_int, noRef_str, noRef_bool, Bool.and_self, ite_true, h6, h1, c, c2, lp, rp]
      exact ihl i x hx' (by omega) D m hh.1 n' _ s (by simp [upds_at, upd_at]) (by simp [upds_at, upd_at, h1])
    · have hx' : r.str[i - l.str.length]? = some x := by
        simp only [T.str] at hx
        rwa [List.getElem?_append_right (by omega)] at hx
      have hl1 := R.len_mass (some (.node l r))
      simp only [R.str, R.mass, T.mass_node] at hl1
      have e1 : IntKind.i64.wrap ((i : Int) - (l.str.length : Int)) = ((i - l.str.length : Nat) : Int) := by rw [wrap64] <;> omega
      rw [aLoop, F13_L0]
      simp -implicitDefEqProofs only [oh_some, mp_some, sto_some, br_true, br_false, gd_true, gd_false, wA_tt, wA_tup, wA_ft, wA_tf, wA_ff, enc_strip, lp_strip, rp_strip, encR_strip, enc_check, enc_addr, aNilCheck_box, aNilCheck_ref, aAddr_box, aAddr_ref, aLoad_one, List.getElem?_cons_succ, List.getElem?_cons_zero, Option.map_some, bin_add, bin_sub, bin_lss, bin_leq, bin_gtr, bin_geq, bin_eql, bin_neq, str_eql, aMax_int, aMin_int, aUn_not, aPick_true, aPick_false, strip_int, strip_bool, strip_str, strip_nilp, strip_nils, strip_box, strip_ref, strip_agg, strip_tup, strip_undef, aBox_f, solid_agg, cells_agg, kLoad_box, kGd_true, kGd_false, kCall_ok, gt_iff_lt, ge_iff_le, Int.ofNat_lt, Int.ofNat_le, decide_true, decide_false, Nat.zero_add, Bool.not_true, Bool.not_false, aExtract_tup, fin1_some, resL_nil, resL_some, enc_noRef, encR_noRef, noRefL_cons, noRefL_nil, noRef_int, noRef_str, noRef_bool, Bool.and_self, ite_true, h6, h1, c, c2, lp, rp, e1]
      exact ihr _ x hx' (by omega) D m hh.2 n' _ s (by simp [upds_at, upd_at]) (by simp [upds_at, upd_at])

theorem byteAt_run (r : R) (i : Nat) (x : UInt8) (hx : r.str[i]? = some x) (h : r.mass < 1000000000) : AC C 13 [rop r, I i] (.tup [.int .u8 x.toNat, I 0]) := by
  refine .intro en13 (by simp [noRefL_cons, noRefL_nil, noRef_agg, noRef_int]) (by simp [noRefL_cons, noRefL_nil, noRef_tup, noRef_int]) ?_
  have hlt := (List.getElem?_eq_some_iff.1 hx).1
  obtain ⟨N1, q1⟩ := AC.at (len_run r)
  cases r with
  | none => simp [R.str] at hlt
  | some t =>
    refine ⟨max N1 (t.h + 1), fun n hn => ⟨[], ?_⟩⟩
    have q1 := q1 n (by omega)
    have q2 := byteAt_loop t i x hx h (den C n) n (by omega) n
    simp only [rop, encR_some] at q1
    have c1 : ¬ (i : Int) < 0 := by omega
    have c2 : ¬ R.str (some t) = [] := by intro e; rw [e] at hlt; simp at hlt
    have c3 : ¬ (R.str (some t)).length ≤ i := by omega
    rw [F13_eq, F13]
    simp -implicitDefEqProofs only [oh_some, mp_some, sto_some, br_true, br_false, gd_true, gd_false, wA_tt, wA_tup, wA_ft, wA_tf, wA_ff, enc_strip, lp_strip, rp_strip, encR_strip, enc_check, enc_addr, aNilCheck_box, aNilCheck_ref, aAddr_box, aAddr_ref, aLoad_one, List.getElem?_cons_succ, List.getElem?_cons_zero, Option.map_some, bin_add, bin_sub, bin_lss, bin_leq, bin_gtr, bin_geq, bin_eql, bin_neq, str_eql, aMax_int, aMin_int, aUn_not, aPick_true, aPick_false, strip_int, strip_bool, strip_str, strip_nilp, strip_nils, strip_box, strip_ref, strip_agg, strip_tup, strip_undef, aBox_f, solid_agg, cells_agg, kLoad_box, kGd_true, kGd_false, kCall_ok, gt_iff_lt, ge_iff_le, Int.ofNat_lt, Int.ofNat_le, decide_true, decide_false, Nat.zero_add, Bool.not_true, Bool.not_false, aExtract_tup, fin1_some, resL_nil, resL_some, enc_noRef, encR_noRef, noRefL_cons, noRefL_nil, noRef_int, noRef_str, noRef_bool, Bool.and_self, ite_true, rop, encR_some, c1, c3, q1, aLoad_agg, List.length_cons, List.length_nil, List.drop_zero, List.take_succ_cons, List.take_zero, Nat.le_refl]
    exact q2 _ _ (by simp [upds_at, upd_at]) (by simp [upds_at, upd_at, argEnv])

theorem byteAt_out (r : R) (i : Int) (hi : i < 0 ∨ (r.str.length : Int) ≤ i) : AC C 13 [rop r, I i] (.tup [.int .u8 0, I 1]) := by
  refine .intro en13 (by simp [noRefL_cons, noRefL_nil, noRef_agg, noRef_int]) (by simp [noRefL_cons, noRefL_nil, noRef_tup, noRef_int]) ?_
  obtain ⟨N1, q1⟩ := AC.at (len_run r)
  refine ⟨N1, fun n hn => ⟨[], ?_⟩⟩
  have q1 := q1 n (by omega)
  rw [F13_eq, F13]
  by_cases c1 : i < 0
  · simp -implicitDefEqProofs only [oh_some, mp_some, sto_some, br_true, br_false, gd_true, gd_false, wA_tt, wA_tup, wA_ft, wA_tf, wA_ff, enc_strip, lp_strip, rp_strip, encR_strip, enc_check, enc_addr, aNilCheck_box, aNilCheck_ref, aAddr_box, aAddr_ref, aLoad_one, List.getElem?_cons_succ, List.getElem?_cons_zero, Option.map_some, bin_add, bin_sub, bin_lss, bin_leq, bin_gtr, bin_geq, bin_eql, bin_neq, str_eql, aMax_int, aMin_int, aUn_not, aPick_true, aPick_false, strip_int, strip_bool, strip_str, strip_nilp, strip_nils, strip_box, strip_ref, strip_agg, strip_tup, strip_undef, aBox_f, solid_agg, cells_agg, kLoad_box, kGd_true, kGd_false, kCall_ok, gt_iff_lt, ge_iff_le, Int.ofNat_lt, Int.ofNat_le, decide_true, decide_false, Nat.zero_add, Bool.not_true, Bool.not_false, aExtract_tup, fin1_some, resL_nil, resL_some, enc_noRef, encR_noRef, noRefL_cons, noRefL_nil, noRef_int, noRef_str, noRef_bool, Bool.and_self, ite_true, rop, c1]
  · have c2 : (r.str.length : Int) ≤ i := by omega
    simp -implicitDefEqProofs only [oh_some, mp_some, sto_some, br_true, br_false, gd_true, gd_false, wA_tt, wA_tup, wA_ft, wA_tf, wA_ff, enc_strip, lp_strip, rp_strip, encR_strip, enc_check, enc_addr, aNilCheck_box, aNilCheck_ref, aAddr_box, aAddr_ref, aLoad_one, List.getElem?_cons_succ, List.getElem?_cons_zero, Option.map_some, bin_add, bin_sub, bin_lss, bin_leq, bin_gtr, bin_geq, bin_eql, bin_neq, str_eql, aMax_int, aMin_int, aUn_not, aPick_true, aPick_false, strip_int, strip_bool, strip_str, strip_nilp, strip_nils, strip_box, strip_ref, strip_agg, strip_tup, strip_undef, aBox_f, solid_agg, cells_agg, kLoad_box, kGd_true, kGd_false, kCall_ok, gt_iff_lt, ge_iff_le, Int.ofNat_lt, Int.ofNat_le, decide_true, decide_false, Nat.zero_add, Bool.not_true, Bool.not_false, aExtract_tup, fin1_some, resL_nil, resL_some, enc_noRef, encR_noRef, noRefL_cons, noRefL_nil, noRef_int, noRef_str, noRef_bool, Bool.and_self, ite_true, rop, c1, c2, q1, aLoad_agg, List.length_cons, List.length_nil, List.drop_zero, List.take_succ_cons, List.take_zero, Nat.le_refl]

theorem alloc0 : aAlloc Try.prog 27 [] = some (.ref 0 0, [(27, [.nilp])]) := by kernel_rfl
theorem alloc1 (a : TypeId × List AV) : aAlloc Try.prog 27 [a] = some (.ref 1 0, [a, (27, [.nilp])]) := by kernel_rfl
theorem alloc2 (a b : TypeId × List AV) : aAlloc Try.prog 27 [a, b] = some (.ref 2 0, [a, b, (27, [.nilp])]) := by kernel_rfl
theorem load3a (a b c : AV) : aLoad false true 1 (.ref 0 0) [(27, [a]), (27, [b]), (27, [c])] = some (.agg [a], [(27, [a]), (27, [b]), (27, [c])]) := by kernel_rfl
theorem load3b (a b c : AV) : aLoad false true 1 (.ref 1 0) [(27, [a]), (27, [b]), (27, [c])] = some (.agg [b], [(27, [a]), (27, [b]), (27, [c])]) := by kernel_rfl
theorem load3c (a b c : AV) : aLoad false true 1 (.ref 2 0) [(27, [a]), (27, [b]), (27, [c])] = some (.agg [c], [(27, [a]), (27, [b]), (27, [c])]) := by kernel_rfl
theorem store3b (a b c d : AV) : aStore 1 [(27, [a]), (27, [b]), (27, [c])] (.ref 1 0) (.agg [d]) = some [(27, [a]), (27, [d.strip]), (27, [c])] := by kernel_rfl
theorem store3c (a b c d : AV) : aStore 1 [(27, [a]), (27, [b]), (27, [c])] (.ref 2 0) (.agg [d]) = some [(27, [a]), (27, [b]), (27, [d.strip])] := by kernel_rfl
theorem d4_14' (x : Ans) : drawOK C 4 (regOps Try.f4 14) [.silent, .silent, .silent, .silent, .silent, .silent, .silent, .silent, .silent, .silent, .reader, .silent, .reader, .silent, .silent, .silent, .silent, .silent] x = x := drawOK_ok (by kernel_rfl)
theorem d4_17' (x : Ans) : drawOK C 4 (regOps Try.f4 17) [.silent, .silent, .silent, .silent, .silent, .silent, .reader, .silent, .silent, .silent, .silent, .silent, .silent, .silent, .reader, .silent, .silent, .silent, .silent, .silent, .silent, .silent, .reader, .reader, .silent, .silent, .silent, .silent, .silent, .silent, .reader, .silent, .silent, .silent, .silent, .silent] x = x := drawOK_ok (by kernel_rfl)

set_option maxHeartbeats 2000000 in
theorem split_end (xs : List (List UInt8)) (hx : xs.flatten.length < 200000000) (hl : xs.length < 1000000) (i : Int) : ∃ N, ∀ n, N ≤ n → ∀ n' k0 e j, ¬ (j : Int) < xs.length → e 23 = I j → e 22 = I xs.length → e 5 = cutV xs → e 1 = I i →
    ∃ h, F4_L0 (den C n) n' k0 e [] = some (.bool true, h) := by
  obtain ⟨r, w, s1, N1, q1⟩ := ropeFrom_run _ xs _ true (Nat.le_refl _) (cutV_strip xs) hx (by omega)
  have m1 := WF_mass w
  rw [s1] at m1
  obtain ⟨N2, q2⟩ := AC.at ex_run
  obtain ⟨N3, q3⟩ := AC.at (String_run r (by omega))
  obtain ⟨N4, q4⟩ := AC.at (Split_run r i (by omega))
  rw [s1] at q3 q4
  have st := (cutV_strip xs).strip
  have len := len9 xs.flatten
  by_cases c1 : i < 0 ∨ (xs.flatten.length : Int) < i
  · obtain ⟨N5, q5⟩ := AC.at (byteAt_out r i (by rw [s1]; omega))
    obtain ⟨N6, q6⟩ := AC.at (len_run none)
    refine ⟨max N1 (max N2 (max N3 (max N4 (max N5 N6)))), fun n hn n' k0 e j hj h23 h22 h5 h1 => ⟨[(27, [encR r]), (27, [.nilp]), (27, [.nilp])], ?_⟩⟩
    have q1 : ∀ s, aCall Try.prog (den C n) 9 _ s = _ := q1 n (by omega)
    have q2 := q2 n (by omega)
    have q3 := q3 n (by omega)
    have q4 := q4 n (by omega)
    have q5 := q5 n (by omega)
    have q6 := q6 n (by omega)
    rw [if_pos c1] at q4
    simp only [rop, encR_none] at q4 q6
    have e1 : IntKind.i64.wrap ((([] : List UInt8).length : Int) + (([] : List UInt8).length : Int)) = 0 := by rfl
    rw [F4_L0]
    by_cases c2 : i < 0
    · simp -implicitDefEqProofs only [oh_some, mp_some, sto_some, br_true, br_false, gd_true, gd_false, wA_tt, wA_tup, wA_ft, wA_tf, wA_ff, enc_strip, lp_strip, rp_strip, encR_strip, enc_check, enc_addr, aNilCheck_box, aNilCheck_ref, aAddr_box, aAddr_ref, aLoad_one, List.getElem?_cons_succ, List.getElem?_cons_zero, Option.map_some, bin_add, bin_sub, bin_lss, bin_leq, bin_gtr, bin_geq, bin_eql, bin_neq, str_eql, aMax_int, aMin_int, aUn_not, aPick_true, aPick_false, strip_int, strip_bool, strip_str, strip_nilp, strip_nils, strip_box, strip_ref, strip_agg, strip_tup, strip_undef, aBox_f, solid_agg, cells_agg, kLoad_box, kGd_true, kGd_false, kCall_ok, gt_iff_lt, ge_iff_le, Int.ofNat_lt, Int.ofNat_le, decide_true, decide_false, Nat.zero_add, Bool.not_true, Bool.not_false, aExtract_tup, fin1_some, resL_nil, resL_some, enc_noRef, encR_noRef, noRefL_cons, noRefL_nil, noRef_int, noRef_str, noRef_bool, Bool.and_self, ite_true, h23, h22, h5, h1, hj, st, q1, q2, q3, q4, q5, q6, c2, R.str, e1, alloc0, alloc1, alloc2, List.length_nil, store1, load1, store3b, store3c, load3a, load3b, load3c, len, beq_self_eq_true, kLoad_ref, d4_14', noRef_agg, noRef_nilp, Int.natCast_zero, Int.add_zero]
      rfl
    · have c3 : (xs.flatten.length : Int) < i := by omega
      simp -implicitDefEqProofs only [oh_some, mp_some, sto_some, br_true, br_false, gd_true, gd_false, wA_tt, wA_tup, wA_ft, wA_tf, wA_ff, enc_strip, lp_strip, rp_strip, encR_strip, enc_check, enc_addr, aNilCheck_box, aNilCheck_ref, aAddr_box, aAddr_ref, aLoad_one, List.getElem?_cons_succ, List.getElem?_cons_zero, Option.map_some, bin_add, bin_sub, bin_lss, bin_leq, bin_gtr, bin_geq, bin_eql, bin_neq, str_eql, aMax_int, aMin_int, aUn_not, aPick_true, aPick_false, strip_int, strip_bool, strip_str, strip_nilp, strip_nils, strip_box, strip_ref, strip_agg, strip_tup, strip_undef, aBox_f, solid_agg, cells_agg, kLoad_box, kGd_true, kGd_false, kCall_ok, gt_iff_lt, ge_iff_le, Int.ofNat_lt, Int.ofNat_le, decide_true, decide_false, Nat.zero_add, Bool.not_true, Bool.not_false, aExtract_tup, fin1_some, resL_nil, resL_some, enc_noRef, encR_noRef, noRefL_cons, noRefL_nil, noRef_int, noRef_str, noRef_bool, Bool.and_self, ite_true, h23, h22, h5, h1, hj, st, q1, q2, q3, q4, q5, q6, c2, c3, R.str, e1, alloc0, alloc1, alloc2, List.length_nil, store1, load1, store3b, store3c, load3a, load3b, load3c, len, beq_self_eq_true, kLoad_ref, d4_14', noRef_agg, noRef_nilp, Int.natCast_zero, Int.add_zero]
      rfl
  · have hi : ((i.toNat : Nat) : Int) = i := by omega
    have hle : i.toNat ≤ xs.flatten.length := by omega
    obtain ⟨wa, wb, sa, sb⟩ := R.split_ok r i.toNat w
    obtain ⟨ma, mb⟩ := R.split_mass r i.toNat
    obtain ⟨wc, sc⟩ := R.concat_ok wa wb
    have mc := R.concat_mass (r.split i.toNat).1 (r.split i.toNat).2
    have mc' := WF_mass wc
    rw [sc, sa, sb, List.take_append_drop, s1] at mc'
    have ma' := WF_mass wa
    have mb' := WF_mass wb
    have hab : (r.split i.toNat).1.str.length + (r.split i.toNat).2.str.length = xs.flatten.length := by rw [← List.length_append, sa, sb, List.take_append_drop, s1]
    obtain ⟨N6, q6⟩ := AC.at (String_run (r.split i.toNat).1 (by omega))
    obtain ⟨N7, q7⟩ := AC.at (String_run (r.split i.toNat).2 (by omega))
    obtain ⟨N8, q8⟩ := AC.at (Concat_run (r.split i.toNat).1 (r.split i.toNat).2 (by omega))
    obtain ⟨N9, q9⟩ := AC.at (String_run (R.concat (r.split i.toNat).1 (r.split i.toNat).2) (by omega))
    rw [sa, s1] at q6
    rw [sb, s1] at q7
    rw [sc, sa, sb, List.take_append_drop, s1] at q9
    have u1 := subTake (s := xs.flatten) (i := i) (by omega) (by omega)
    have u2 := subDrop (s := xs.flatten) (i := i) (by omega) (by omega)
    have c2 : ¬ i < 0 := by omega
    have c3 : ¬ (xs.flatten.length : Int) < i := by omega
    by_cases c4 : i < (xs.flatten.length : Int)
    · have hx0 : xs.flatten[i.toNat]? = some xs.flatten[i.toNat] := List.getElem?_eq_getElem (by omega)
      obtain ⟨N5, q5⟩ := AC.at (byteAt_run r i.toNat _ (by rw [s1]; exact hx0) (by omega))
      have e5 := idx9 hx0
      rw [hi] at q5 e5
      have c5 : (i == (xs.flatten.length : Int)) = false := beq_eq_false_iff_ne.2 (by omega)
      refine ⟨max N1 (max N2 (max N3 (max N4 (max N5 (max N6 (max N7 (max N8 N9))))))), fun n hn n' k0 e j hj h23 h22 h5 h1 => ⟨[(27, [encR r]), (27, [encR (r.split i.toNat).1]), (27, [encR (r.split i.toNat).2])], ?_⟩⟩
      have q1 : ∀ s, aCall Try.prog (den C n) 9 _ s = _ := q1 n (by omega)
      have q2 := q2 n (by omega)
      have q3 := q3 n (by omega)
      have q4 := q4 n (by omega)
      have q5 := q5 n (by omega)
      have q6 := q6 n (by omega)
      have q7 := q7 n (by omega)
      have q8 := q8 n (by omega)
      have q9 := q9 n (by omega)
      rw [if_neg c1] at q4
      rw [F4_L0]
      simp -implicitDefEqProofs only [oh_some, mp_some, sto_some, br_true, br_false, gd_true, gd_false, wA_tt, wA_tup, wA_ft, wA_tf, wA_ff, enc_strip, lp_strip, rp_strip, encR_strip, enc_check, enc_addr, aNilCheck_box, aNilCheck_ref, aAddr_box, aAddr_ref, aLoad_one, List.getElem?_cons_succ, List.getElem?_cons_zero, Option.map_some, bin_add, bin_sub, bin_lss, bin_leq, bin_gtr, bin_geq, bin_eql, bin_neq, str_eql, aMax_int, aMin_int, aUn_not, aPick_true, aPick_false, strip_int, strip_bool, strip_str, strip_nilp, strip_nils, strip_box, strip_ref, strip_agg, strip_tup, strip_undef, aBox_f, solid_agg, cells_agg, kLoad_box, kGd_true, kGd_false, kCall_ok, gt_iff_lt, ge_iff_le, Int.ofNat_lt, Int.ofNat_le, decide_true, decide_false, Nat.zero_add, Bool.not_true, Bool.not_false, aExtract_tup, fin1_some, resL_nil, resL_some, enc_noRef, encR_noRef, noRefL_cons, noRefL_nil, noRef_int, noRef_str, noRef_bool, Bool.and_self, ite_true, h23, h22, h5, h1, hj, st, q1, q2, q3, q4, q5, q6, q7, q8, q9, c2, c3, c4, c5, e5, u1, u2, alloc0, alloc1, alloc2, List.length_nil, store1, load1, store3b, store3c, load3a, load3b, load3c, len, beq_self_eq_true, bne_self_eq_false, kLoad_ref, d4_17', noRef_agg, noRef_nilp]
    · have c5 : (i == (xs.flatten.length : Int)) = true := beq_iff_eq.2 (by omega)
      obtain ⟨N5, q5⟩ := AC.at (byteAt_out r i (by rw [s1]; omega))
      refine ⟨max N1 (max N2 (max N3 (max N4 (max N5 (max N6 (max N7 (max N8 N9))))))), fun n hn n' k0 e j hj h23 h22 h5 h1 => ⟨[(27, [encR r]), (27, [encR (r.split i.toNat).1]), (27, [encR (r.split i.toNat).2])], ?_⟩⟩
      have q1 : ∀ s, aCall Try.prog (den C n) 9 _ s = _ := q1 n (by omega)
      have q2 := q2 n (by omega)
      have q3 := q3 n (by omega)
      have q4 := q4 n (by omega)
      have q5 := q5 n (by omega)
      have q6 := q6 n (by omega)
      have q7 := q7 n (by omega)
      have q8 := q8 n (by omega)
      have q9 := q9 n (by omega)
      rw [if_neg c1] at q4
      rw [F4_L0]
      simp -implicitDefEqProofs only [oh_some, mp_some, sto_some, br_true, br_false, gd_true, gd_false, wA_tt, wA_tup, wA_ft, wA_tf, wA_ff, enc_strip, lp_strip, rp_strip, encR_strip, enc_check, enc_addr, aNilCheck_box, aNilCheck_ref, aAddr_box, aAddr_ref, aLoad_one, List.getElem?_cons_succ, List.getElem?_cons_zero, Option.map_some, bin_add, bin_sub, bin_lss, bin_leq, bin_gtr, bin_geq, bin_eql, bin_neq, str_eql, aMax_int, aMin_int, aUn_not, aPick_true, aPick_false, strip_int, strip_bool, strip_str, strip_nilp, strip_nils, strip_box, strip_ref, strip_agg, strip_tup, strip_undef, aBox_f, solid_agg, cells_agg, kLoad_box, kGd_true, kGd_false, kCall_ok, gt_iff_lt, ge_iff_le, Int.ofNat_lt, Int.ofNat_le, decide_true, decide_false, Nat.zero_add, Bool.not_true, Bool.not_false, aExtract_tup, fin1_some, resL_nil, resL_some, enc_noRef, encR_noRef, noRefL_cons, noRefL_nil, noRef_int, noRef_str, noRef_bool, Bool.and_self, ite_true, h23, h22, h5, h1, hj, st, q1, q2, q3, q4, q5, q6, q7, q8, q9, c2, c3, c4, c5, u1, u2, alloc0, alloc1, alloc2, List.length_nil, store1, load1, store3b, store3c, load3a, load3b, load3c, len, beq_self_eq_true, bne_self_eq_false, kLoad_ref, d4_17', noRef_agg, noRef_nilp]

theorem split_loop (ps : List (List UInt8)) (hp : ps.length ≤ 20) (z : Int) : ∀ (k i : Nat), ps.length - i = k → i ≤ ps.length → ∃ N, ∀ n, N ≤ n → ∀ m, k < m → ∀ n' e f, e 23 = I i → e 22 = I ps.length → e 21 = .sl 9 1 (strs ps) f → e 5 = cutV (cuts (ps.take i)) → e 1 = I z →
    ∃ h, aLoop (F4_L0 (den C n) n') m e [] = some (.bool true, h) := by
  intro k
  induction k with
  | zero =>
    intro i hk hi
    have := cuts_len ps
    obtain ⟨N, q⟩ := split_end (cuts ps) (by omega) (by simp; omega) z
    refine ⟨N, fun n hn m hm n' e f h17 h16 h15 h3 h4 => ?_⟩
    obtain ⟨m, rfl⟩ : ∃ j, m = j + 1 := ⟨m - 1, by omega⟩
    rw [List.take_of_length_le (by omega)] at h3
    rw [aLoop]
    exact q n hn n' _ e i (by simp; omega) h17 (by rw [h16]; simp) h3 h4
  | succ k ih =>
    intro i hk hi
    have hlt : i < ps.length := by omega
    have e0 : ps[i]? = some ps[i] := List.getElem?_eq_getElem hlt
    obtain ⟨N1, q1⟩ := AC.at (short_run ps[i] 100)
    obtain ⟨N2, q2⟩ := ih (i + 1) (by omega) (by omega)
    refine ⟨max N1 N2, fun n hn m hm n' e f h17 h16 h15 h3 h4 => ?_⟩
    obtain ⟨m, rfl⟩ : ∃ j, m = j + 1 := ⟨m - 1, by omega⟩
    have q1 : ∀ s, aCall Try.prog (den C n) 8 [.str ps[i], .int .i64 100] s = some (.str (ps[i].take 100), s) := q1 n (by omega)
    have e1 := idx22 (f := f) e0
    have e2 := wadd1 (a := i) (by omega)
    obtain ⟨f', e3⟩ := bs22 (ps[i].take 100)
    have e4 := app22 (cuts (ps.take i)) (ps[i].take 100) f' (by simp; omega)
    have hc : cuts (ps.take i) ++ [ps[i].take 100] = cuts (ps.take (i + 1)) := by
      simp only [cuts]; rw [← List.take_append_getElem hlt, List.map_append]; rfl
    rw [hc] at e4
    rw [aLoop, F4_L0]
    simp -implicitDefEqProofs only [oh_some, mp_some, sto_some, br_true, br_false, gd_true, gd_false, wA_tt, wA_tup, wA_ft, wA_tf, wA_ff, enc_strip, lp_strip, rp_strip, encR_strip, enc_check, enc_addr, aNilCheck_box, aNilCheck_ref, aAddr_box, aAddr_ref, aLoad_one, List.getElem?_cons_succ, List.getElem?_cons_zero, Option.map_some, bin_add, bin_sub, bin_lss, bin_leq, bin_gtr, bin_geq, bin_eql, bin_neq, str_eql, aMax_int, aMin_int, aUn_not, aPick_true, aPick_false, strip_int, strip_bool, strip_str, strip_nilp, strip_nils, strip_box, strip_ref, strip_agg, strip_tup, strip_undef, aBox_f, solid_agg, cells_agg, kLoad_box, kGd_true, kGd_false, kCall_ok, gt_iff_lt, ge_iff_le, Int.ofNat_lt, Int.ofNat_le, decide_true, decide_false, Nat.zero_add, Bool.not_true, Bool.not_false, aExtract_tup, fin1_some, resL_nil, resL_some, enc_noRef, encR_noRef, noRefL_cons, noRefL_nil, noRef_int, noRef_str, noRef_bool, Bool.and_self, ite_true, h17, h16, h15, h3, hlt, e1, e2, q1, e3, e4]
    exact q2 n (by omega) m (by omega) n' _ f (by simp [upds_at, upd_at]) (by simp [upds_at, upd_at, h16]) (by simp [upds_at, upd_at, h15]) (by simp [upds_at, upd_at]) (by simp [upds_at, upd_at, h4])

theorem RopeSplit_run (v : AV) (ps : List (List UInt8)) (hs : IsS v ps) (z : Int) : AC C 4 [v, I z] (.bool true) := by
  refine .intro en4 (by simp [noRefL_cons, noRefL_nil, hs.noRef, noRef_int]) (by rfl) ?_
  obtain ⟨N1, q1⟩ := AC.at ex_run
  obtain ⟨N2, q2⟩ := split_loop (ps.take 20) (by simp; omega) z _ 0 rfl (by omega)
  obtain ⟨N3, q3⟩ := split_end [] (by simp) (by simp) z
  refine ⟨max N1 (max N2 (max N3 21)), fun n hn => ?_⟩
  have q1 := q1 n (by omega)
  have q2 := q2 n (by omega) n (by simp; omega) n
  have l := hs.len
  have st := hs.strip
  have e1 : (if (20 : Int) < (ps.length : Int) then (20 : Int) else (ps.length : Int)) = ((min ps.length 20 : Nat) : Int) := by split <;> omega
  rcases hs with rfl | ⟨rfl, rfl⟩
  · have e2 := take22 (xs := ps) (i := min ps.length 20) (f := .sh) (by omega)
    have e3 : ps.take (min ps.length 20) = ps.take 20 := by
      rw [Nat.min_def]; split
      · rw [List.take_of_length_le (Nat.le_refl _), List.take_of_length_le (by assumption)]
      · rfl
    have e4 : aLen Try.prog 22 (.sl 9 1 (strs (ps.take 20)) .sh) = some (I (ps.take 20).length) := (show IsS (.sl 9 1 (strs (ps.take 20)) .sh) (ps.take 20) from .inl rfl).len
    rw [e3] at e2
    rw [F4_eq, F4]
    simp -implicitDefEqProofs only [oh_some, mp_some, sto_some, br_true, br_false, gd_true, gd_false, wA_tt, wA_tup, wA_ft, wA_tf, wA_ff, enc_strip, lp_strip, rp_strip, encR_strip, enc_check, enc_addr, aNilCheck_box, aNilCheck_ref, aAddr_box, aAddr_ref, aLoad_one, List.getElem?_cons_succ, List.getElem?_cons_zero, Option.map_some, bin_add, bin_sub, bin_lss, bin_leq, bin_gtr, bin_geq, bin_eql, bin_neq, str_eql, aMax_int, aMin_int, aUn_not, aPick_true, aPick_false, strip_int, strip_bool, strip_str, strip_nilp, strip_nils, strip_box, strip_ref, strip_agg, strip_tup, strip_undef, aBox_f, solid_agg, cells_agg, kLoad_box, kGd_true, kGd_false, kCall_ok, gt_iff_lt, ge_iff_le, Int.ofNat_lt, Int.ofNat_le, decide_true, decide_false, Nat.zero_add, Bool.not_true, Bool.not_false, aExtract_tup, fin1_some, resL_nil, resL_some, enc_noRef, encR_noRef, noRefL_cons, noRefL_nil, noRef_int, noRef_str, noRef_bool, Bool.and_self, ite_true, q1, l, strip_sh, e1, e2, e4]
    exact q2 _ .sh (by simp [upds_at, upd_at]) (by simp [upds_at, upd_at]) (by simp [upds_at, upd_at]) (by simp [upds_at, upd_at, cutV]) (by simp [upds_at, upd_at, argEnv])
  · obtain ⟨j, rfl⟩ : ∃ j, n = j + 1 := ⟨n - 1, by omega⟩
    have e2 : aSl Try.prog 22 .nils none (some (I (0 : Nat))) none = some .nils := by kernel_rfl
    have e4 : aLen Try.prog 22 .nils = some (I (0 : Nat)) := by kernel_rfl
    simp only [List.length_nil, Nat.zero_min] at e1
    rw [F4_eq, F4]
    simp -implicitDefEqProofs only [oh_some, mp_some, sto_some, br_true, br_false, gd_true, gd_false, wA_tt, wA_tup, wA_ft, wA_tf, wA_ff, enc_strip, lp_strip, rp_strip, encR_strip, enc_check, enc_addr, aNilCheck_box, aNilCheck_ref, aAddr_box, aAddr_ref, aLoad_one, List.getElem?_cons_succ, List.getElem?_cons_zero, Option.map_some, bin_add, bin_sub, bin_lss, bin_leq, bin_gtr, bin_geq, bin_eql, bin_neq, str_eql, aMax_int, aMin_int, aUn_not, aPick_true, aPick_false, strip_int, strip_bool, strip_str, strip_nilp, strip_nils, strip_box, strip_ref, strip_agg, strip_tup, strip_undef, aBox_f, solid_agg, cells_agg, kLoad_box, kGd_true, kGd_false, kCall_ok, gt_iff_lt, ge_iff_le, Int.ofNat_lt, Int.ofNat_le, decide_true, decide_false, Nat.zero_add, Bool.not_true, Bool.not_false, aExtract_tup, fin1_some, resL_nil, resL_some, enc_noRef, encR_noRef, noRefL_cons, noRefL_nil, noRef_int, noRef_str, noRef_bool, Bool.and_self, ite_true, q1, e4, e1, e2]
    rw [aLoop]
    exact q3 (j + 1) (by omega) (j + 1) _ _ 0 (by simp) (by simp [upds_at, upd_at]) (by simp [upds_at, upd_at]) (by simp [upds_at, upd_at, cutV]) (by simp [upds_at, upd_at, argEnv])
end RopeF

