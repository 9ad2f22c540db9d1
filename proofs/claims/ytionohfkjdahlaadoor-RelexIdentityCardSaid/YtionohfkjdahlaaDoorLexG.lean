/- LexerLossless, LexerResumes, in the abstract machine. -/
import Derived.Test.YtionohfkjdahlaaDoorLexE
set_option linter.all false
set_option maxRecDepth 100000
namespace LexF
open Go Go.Abs Go.Proofs

theorem Mod_run (a : Int) (b : Nat) (hb : 0 < b) (hb2 : b < 2000000000) : ∃ m : Nat, m < b ∧ AC C 21 [I a, I b] (I m) := by
  have h1 := Int.tmod_lt_of_pos a (show (0 : Int) < b by omega)
  have h2 : -(b : Int) < a.tmod b := by
    have h := Int.natAbs_tmod a b
    have h' := Nat.mod_lt a.natAbs (show 0 < (b : Int).natAbs by omega)
    omega
  have e1 : aBin Tryd.prog .rem 3 (I a) (I b) = some (I (a.tmod b)) := by
    have hb0 : ¬ ((b : Int) = 0) := by omega
    rw [bin_int]
    simp only [intBin, if_neg hb0]
  by_cases c : a.tmod b < 0
  · refine ⟨(a.tmod b + b).toNat, by omega, .intro en21 (by simp [noRefL_cons, noRefL_nil, noRef_int]) (by rfl) ⟨0, fun n hn => ⟨[], ?_⟩⟩⟩
    have w : IntKind.i64.wrap (a.tmod b + b) = a.tmod b + b := by rw [wrap64] <;> omega
    have e2 : (((a.tmod b + b).toNat : Nat) : Int) = a.tmod b + b := by omega
    rw [F21_eq, F21]
    simp -implicitDefEqProofs only [oh_some, mp_some, sto_some, br_true, br_false, gd_true, gd_false, wA_tt, wA_tup, wA_ft, wA_tf, wA_ff, aNilCheck_box, aNilCheck_ref, aAddr_box, aAddr_ref, aLoad_one, List.getElem?_cons_succ, List.getElem?_cons_zero, Option.map_some, bin_add, bin_sub, bin_lss, bin_leq, bin_gtr, bin_geq, bin_eql, bin_neq, str_eql, aMax_int, aMin_int, aUn_not, aPick_true, aPick_false, strip_int, strip_bool, strip_str, strip_nilp, strip_nils, strip_box, strip_ref, strip_agg, strip_tup, strip_undef, aBox_f, solid_agg, cells_agg, kLoad_box, kGd_true, kGd_false, kCall_ok, gt_iff_lt, ge_iff_le, Int.ofNat_lt, Int.ofNat_le, decide_true, decide_false, Nat.zero_add, Bool.not_true, Bool.not_false, aExtract_tup, fin1_some, resL_nil, resL_some, noRefL_cons, noRefL_nil, noRef_int, noRef_str, noRef_bool, noRef_nilp, noRef_agg, strip_fn, kLoad_ref, Bool.and_self, ite_true, e1, c, w, e2, F21_J0]
    simp [upds_at, upd_at]
  · refine ⟨(a.tmod b).toNat, by omega, .intro en21 (by simp [noRefL_cons, noRefL_nil, noRef_int]) (by rfl) ⟨0, fun n hn => ⟨[], ?_⟩⟩⟩
    have e2 : (((a.tmod b).toNat : Nat) : Int) = a.tmod b := by omega
    rw [F21_eq, F21]
    simp -implicitDefEqProofs only [oh_some, mp_some, sto_some, br_true, br_false, gd_true, gd_false, wA_tt, wA_tup, wA_ft, wA_tf, wA_ff, aNilCheck_box, aNilCheck_ref, aAddr_box, aAddr_ref, aLoad_one, List.getElem?_cons_succ, List.getElem?_cons_zero, Option.map_some, bin_add, bin_sub, bin_lss, bin_leq, bin_gtr, bin_geq, bin_eql, bin_neq, str_eql, aMax_int, aMin_int, aUn_not, aPick_true, aPick_false, strip_int, strip_bool, strip_str, strip_nilp, strip_nils, strip_box, strip_ref, strip_agg, strip_tup, strip_undef, aBox_f, solid_agg, cells_agg, kLoad_box, kGd_true, kGd_false, kCall_ok, gt_iff_lt, ge_iff_le, Int.ofNat_lt, Int.ofNat_le, decide_true, decide_false, Nat.zero_add, Bool.not_true, Bool.not_false, aExtract_tup, fin1_some, resL_nil, resL_some, noRefL_cons, noRefL_nil, noRef_int, noRef_str, noRef_bool, noRef_nilp, noRef_agg, strip_fn, kLoad_ref, Bool.and_self, ite_true, e1, c, e2, F21_J0]
    simp [upds_at, upd_at]

theorem ident_run (c : UInt8) (r : List UInt8) (h : (c :: r).length ≤ 30) : AC C 30 [.str (c :: r)] (.bool (decide ((first (c :: r)).1 = (c :: r).length) && decide ((first (c :: r)).2 = 103))) := by
  refine .intro en30 rfl rfl ?_
  obtain ⟨N, q⟩ := AC.at (first_run c r (by omega))
  unfold firstV at q
  generalize (first (c :: r)).1 = x at *
  generalize (first (c :: r)).2 = y at *
  refine ⟨N, fun n hn => ⟨[], ?_⟩⟩
  have q := q n hn
  have z0 : (((c :: r).length : Int) == 0) = false := by rw [beq_eq_false_iff_ne]; simp; omega
  have z1 : ¬ (30 : Int) < ((c :: r).length : Int) := by omega
  have z2 : ((x : Int) == ((c :: r).length : Int)) = decide (x = (c :: r).length) := by
    by_cases h : x = (c :: r).length
    · rw [h]; simp
    · rw [decide_eq_false h, beq_eq_false_iff_ne]; omega
  have z3 : ((y : Int) == 103) = decide (y = 103) := by
    by_cases h : y = 103
    · rw [h]; rfl
    · rw [decide_eq_false h, beq_eq_false_iff_ne]; omega
  rw [F30_eq, F30]
  by_cases hx : x = (c :: r).length
  · rw [decide_eq_true hx] at z2 ⊢
    simp -implicitDefEqProofs only [oh_some, mp_some, sto_some, br_true, br_false, gd_true, gd_false, wA_tt, wA_tup, wA_ft, wA_tf, wA_ff, aNilCheck_box, aNilCheck_ref, aAddr_box, aAddr_ref, aLoad_one, List.getElem?_cons_succ, List.getElem?_cons_zero, Option.map_some, bin_add, bin_sub, bin_lss, bin_leq, bin_gtr, bin_geq, bin_eql, bin_neq, str_eql, aMax_int, aMin_int, aUn_not, aPick_true, aPick_false, strip_int, strip_bool, strip_str, strip_nilp, strip_nils, strip_box, strip_ref, strip_agg, strip_tup, strip_undef, aBox_f, solid_agg, cells_agg, kLoad_box, kGd_true, kGd_false, kCall_ok, gt_iff_lt, ge_iff_le, Int.ofNat_lt, Int.ofNat_le, decide_true, decide_false, Nat.zero_add, Bool.not_true, Bool.not_false, aExtract_tup, fin1_some, resL_nil, resL_some, noRefL_cons, noRefL_nil, noRef_int, noRef_str, noRef_bool, noRef_nilp, noRef_agg, strip_fn, kLoad_ref, Bool.and_self, ite_true, len9, z0, z1, z2, z3, q, Bool.true_and]
  · rw [decide_eq_false hx] at z2 ⊢
    simp -implicitDefEqProofs only [oh_some, mp_some, sto_some, br_true, br_false, gd_true, gd_false, wA_tt, wA_tup, wA_ft, wA_tf, wA_ff, aNilCheck_box, aNilCheck_ref, aAddr_box, aAddr_ref, aLoad_one, List.getElem?_cons_succ, List.getElem?_cons_zero, Option.map_some, bin_add, bin_sub, bin_lss, bin_leq, bin_gtr, bin_geq, bin_eql, bin_neq, str_eql, aMax_int, aMin_int, aUn_not, aPick_true, aPick_false, strip_int, strip_bool, strip_str, strip_nilp, strip_nils, strip_box, strip_ref, strip_agg, strip_tup, strip_undef, aBox_f, solid_agg, cells_agg, kLoad_box, kGd_true, kGd_false, kCall_ok, gt_iff_lt, ge_iff_le, Int.ofNat_lt, Int.ofNat_le, decide_true, decide_false, Nat.zero_add, Bool.not_true, Bool.not_false, aExtract_tup, fin1_some, resL_nil, resL_some, noRefL_cons, noRefL_nil, noRef_int, noRef_str, noRef_bool, noRef_nilp, noRef_agg, strip_fn, kLoad_ref, Bool.and_self, ite_true, len9, z0, z1, z2, z3, q, Bool.false_and]

theorem ex1 : tokz [97, 47, 47, 98] = [(103, [97]), (102, [47, 47, 98])] := by decide +kernel
theorem ex2 : first [97, 95, 49] = (3, 103) := by decide +kernel
theorem ex3 : first [117, 115, 101] = (3, 104) := by decide +kernel
theorem ex_run : AC C 18 [] (.bool true) := by
  refine .intro en18 rfl rfl ?_
  obtain ⟨N1, q1⟩ := AC.at (tok_run [97, 47, 47, 98])
  obtain ⟨N2, q2⟩ := AC.at (ident_run 97 [95, 49] (by simp))
  obtain ⟨N3, q3⟩ := AC.at (ident_run 117 [115, 101] (by simp))
  obtain ⟨N4, q4⟩ := AC.at (same_run (.sl 39 2 [.agg [I 103, .str [97]], .agg [I 102, .str [47, 47, 98]]] .sh) (.sl 39 2 [.agg [I 103, .str [97]], .agg [I 102, .str [47, 47, 98]]] .sh) [(103, [97]), (102, [47, 47, 98])] (.inl rfl) (.inl rfl) (by simp))
  rw [ex2] at q2
  rw [ex3] at q3
  unfold tokR at q1
  rw [if_neg (by simp), ex1] at q1
  refine ⟨max N1 (max N2 (max N3 N4)), fun n hn => ⟨[], ?_⟩⟩
  simp only [Nat.max_le] at hn
  have q1 : ∀ s, aCall Tryd.prog (den C n) 19 [.str [97, 47, 47, 98]] s = some (.tup [.sl 39 2 [.agg [I 103, .str [97]], .agg [I 102, .str [47, 47, 98]]] .sh, I 0], s) := q1 n (by omega)
  have q2 : ∀ s, aCall Tryd.prog (den C n) 30 [.str [97, 95, 49]] s = some (.bool true, s) := q2 n (by omega)
  have q3 : ∀ s, aCall Tryd.prog (den C n) 30 [.str [117, 115, 101]] s = some (.bool false, s) := q3 n (by omega)
  have q4 := q4 n (by omega)
  have z0 : ((0 : Int) == 0) = true := rfl
  have b1 := build39 103 [97]
  have b2 := build39 102 [47, 47, 98]
  have b3 := bs35b 103 102 [97] [47, 47, 98]
  rw [F18_eq, F18]
  simp -implicitDefEqProofs only [oh_some, mp_some, sto_some, br_true, br_false, gd_true, gd_false, wA_tt, wA_tup, wA_ft, wA_tf, wA_ff, aNilCheck_box, aNilCheck_ref, aAddr_box, aAddr_ref, aLoad_one, List.getElem?_cons_succ, List.getElem?_cons_zero, Option.map_some, bin_add, bin_sub, bin_lss, bin_leq, bin_gtr, bin_geq, bin_eql, bin_neq, str_eql, aMax_int, aMin_int, aUn_not, aPick_true, aPick_false, strip_int, strip_bool, strip_str, strip_nilp, strip_nils, strip_box, strip_ref, strip_agg, strip_tup, strip_undef, aBox_f, solid_agg, cells_agg, kLoad_box, kGd_true, kGd_false, kCall_ok, gt_iff_lt, ge_iff_le, Int.ofNat_lt, Int.ofNat_le, decide_true, decide_false, Nat.zero_add, Bool.not_true, Bool.not_false, aExtract_tup, fin1_some, resL_nil, resL_some, noRefL_cons, noRefL_nil, noRef_int, noRef_str, noRef_bool, noRef_nilp, noRef_agg, strip_fn, kLoad_ref, Bool.and_self, ite_true, q1, q2, q3, q4, z0, b1, b2, b3, strip_sh, strip_own]

theorem less_loop (v : AV) (ts : List Tok) (hv : IsT v ts) (ht : ts.length < 100000) (hne : ∀ t ∈ ts, t.2 ≠ []) (src : List UInt8) (hs : srcOfT ts = src) (hl : src.length < 100000) : ∃ N, ∀ n, N ≤ n → ∀ (k i : Nat), ts.length - i = k → i ≤ ts.length → ∀ m, k < m → ∀ n' e s, e 3 = v → e 0 = .str src → e 27 = v → e 28 = I ts.length → e 29 = I i →
    ∃ s', aLoop (F6_L0 (den C n) n') m e s = some (.bool true, s') := by
  obtain ⟨N1, q1⟩ := AC.at ex_run
  obtain ⟨N2, q2⟩ := AC.at (src_run v ts hv ht (by rw [hs]; omega))
  rw [hs] at q2
  refine ⟨max N1 N2, fun n hn => ?_⟩
  have q1 := q1 n (by omega)
  have q2 := q2 n (by omega)
  have st := hv.strip
  intro k
  induction k with
  | zero =>
    intro i hk hi m hm n' e s h3 h0 h27 h28 h29
    obtain ⟨m, rfl⟩ : ∃ j, m = j + 1 := ⟨m - 1, by omega⟩
    have c : ¬ i < ts.length := by omega
    refine ⟨s, ?_⟩
    rw [aLoop, F6_L0]
    simp -implicitDefEqProofs only [oh_some, mp_some, sto_some, br_true, br_false, gd_true, gd_false, wA_tt, wA_tup, wA_ft, wA_tf, wA_ff, aNilCheck_box, aNilCheck_ref, aAddr_box, aAddr_ref, aLoad_one, List.getElem?_cons_succ, List.getElem?_cons_zero, Option.map_some, bin_add, bin_sub, bin_lss, bin_leq, bin_gtr, bin_geq, bin_eql, bin_neq, str_eql, aMax_int, aMin_int, aUn_not, aPick_true, aPick_false, strip_int, strip_bool, strip_str, strip_nilp, strip_nils, strip_box, strip_ref, strip_agg, strip_tup, strip_undef, aBox_f, solid_agg, cells_agg, kLoad_box, kGd_true, kGd_false, kCall_ok, gt_iff_lt, ge_iff_le, Int.ofNat_lt, Int.ofNat_le, decide_true, decide_false, Nat.zero_add, Bool.not_true, Bool.not_false, aExtract_tup, fin1_some, resL_nil, resL_some, noRefL_cons, noRefL_nil, noRef_int, noRef_str, noRef_bool, noRef_nilp, noRef_agg, strip_fn, kLoad_ref, Bool.and_self, ite_true, h3, h0, h27, h28, h29, c, q1, q2, st, beq_self_eq_true]
  | succ k ih =>
    intro i hk hi m hm n' e s h3 h0 h27 h28 h29
    obtain ⟨m, rfl⟩ : ∃ j, m = j + 1 := ⟨m - 1, by omega⟩
    have c : i < ts.length := by omega
    have e1 := hv.at (List.getElem?_eq_getElem c)
    have e2 := wadd1 (a := i) (by omega)
    have e3 : (ts[i].2 == ([] : List UInt8)) = false := by
      have := hne ts[i] (List.getElem_mem c)
      cases h : ts[i].2 with
      | nil => exact absurd h this
      | cons a b => rfl
    generalize ts[i] = t at *
    rw [aLoop, F6_L0]
    simp -implicitDefEqProofs only [oh_some, mp_some, sto_some, br_true, br_false, gd_true, gd_false, wA_tt, wA_tup, wA_ft, wA_tf, wA_ff, aNilCheck_box, aNilCheck_ref, aAddr_box, aAddr_ref, aLoad_one, List.getElem?_cons_succ, List.getElem?_cons_zero, Option.map_some, bin_add, bin_sub, bin_lss, bin_leq, bin_gtr, bin_geq, bin_eql, bin_neq, str_eql, aMax_int, aMin_int, aUn_not, aPick_true, aPick_false, strip_int, strip_bool, strip_str, strip_nilp, strip_nils, strip_box, strip_ref, strip_agg, strip_tup, strip_undef, aBox_f, solid_agg, cells_agg, kLoad_box, kGd_true, kGd_false, kCall_ok, gt_iff_lt, ge_iff_le, Int.ofNat_lt, Int.ofNat_le, decide_true, decide_false, Nat.zero_add, Bool.not_true, Bool.not_false, aExtract_tup, fin1_some, resL_nil, resL_some, noRefL_cons, noRefL_nil, noRef_int, noRef_str, noRef_bool, noRef_nilp, noRef_agg, strip_fn, kLoad_ref, Bool.and_self, ite_true, h3, h0, h27, h28, h29, c, e1, e2, e3, load2', alloc39, store39, load39]
    exact ih (i + 1) (by omega) (by omega) m (by omega) n' _ _ (by simp [upds_at, upd_at, h3]) (by simp [upds_at, upd_at, h0]) (by simp [upds_at, upd_at, h27]) (by simp [upds_at, upd_at, h28]) (by simp [upds_at, upd_at])

theorem Lossless_run (src : List UInt8) : AC C 6 [.str src] (.bool true) := by
  refine .intro en6 rfl rfl ?_
  obtain ⟨N1, q1⟩ := AC.at ex_run
  obtain ⟨N2, q2⟩ := AC.at (tok_run src)
  unfold tokR at q2
  by_cases h : 2000 < src.length
  · rw [if_pos h] at q2
    refine ⟨max N1 N2, fun n hn => ⟨[], ?_⟩⟩
    have q1 := q1 n (by omega)
    have q2 := q2 n (by omega)
    have h' : (2000 : Int) < (src.length : Int) := by omega
    have z2 : ((2 : Int) != 0) = true := rfl
    have z0 : (((([] : List Tok).length : Nat) : Int) == 0) = true := rfl
    have l := (show IsT .nils [] from .inr ⟨rfl, rfl⟩).len
    rw [F6_eq, F6]
    simp -implicitDefEqProofs only [oh_some, mp_some, sto_some, br_true, br_false, gd_true, gd_false, wA_tt, wA_tup, wA_ft, wA_tf, wA_ff, aNilCheck_box, aNilCheck_ref, aAddr_box, aAddr_ref, aLoad_one, List.getElem?_cons_succ, List.getElem?_cons_zero, Option.map_some, bin_add, bin_sub, bin_lss, bin_leq, bin_gtr, bin_geq, bin_eql, bin_neq, str_eql, aMax_int, aMin_int, aUn_not, aPick_true, aPick_false, strip_int, strip_bool, strip_str, strip_nilp, strip_nils, strip_box, strip_ref, strip_agg, strip_tup, strip_undef, aBox_f, solid_agg, cells_agg, kLoad_box, kGd_true, kGd_false, kCall_ok, gt_iff_lt, ge_iff_le, Int.ofNat_lt, Int.ofNat_le, decide_true, decide_false, Nat.zero_add, Bool.not_true, Bool.not_false, aExtract_tup, fin1_some, resL_nil, resL_some, noRefL_cons, noRefL_nil, noRef_int, noRef_str, noRef_bool, noRef_nilp, noRef_agg, strip_fn, kLoad_ref, Bool.and_self, ite_true, q1, q2, z2, len9, h', l, z0]
  · rw [if_neg h] at q2
    have hv := accV_strip (tokz src)
    have ht := tokz_length src
    obtain ⟨N3, q3⟩ := less_loop _ _ hv (by omega) (tokz_text _ src (Nat.le_refl _)) src (tokz_src _ src (Nat.le_refl _)) (by omega)
    generalize (accV (tokz src)).strip = v at *
    refine ⟨max N1 (max N2 (max N3 ((tokz src).length + 1))), fun n hn => ?_⟩
    simp only [Nat.max_le] at hn
    have q1 := q1 n (by omega)
    have q2 := q2 n (by omega)
    have st := hv.strip
    have l := hv.len
    have z0 : ((0 : Int) != 0) = false := rfl
    rw [F6_eq, F6]
    simp -implicitDefEqProofs only [oh_some, mp_some, sto_some, br_true, br_false, gd_true, gd_false, wA_tt, wA_tup, wA_ft, wA_tf, wA_ff, aNilCheck_box, aNilCheck_ref, aAddr_box, aAddr_ref, aLoad_one, List.getElem?_cons_succ, List.getElem?_cons_zero, Option.map_some, bin_add, bin_sub, bin_lss, bin_leq, bin_gtr, bin_geq, bin_eql, bin_neq, str_eql, aMax_int, aMin_int, aUn_not, aPick_true, aPick_false, strip_int, strip_bool, strip_str, strip_nilp, strip_nils, strip_box, strip_ref, strip_agg, strip_tup, strip_undef, aBox_f, solid_agg, cells_agg, kLoad_box, kGd_true, kGd_false, kCall_ok, gt_iff_lt, ge_iff_le, Int.ofNat_lt, Int.ofNat_le, decide_true, decide_false, Nat.zero_add, Bool.not_true, Bool.not_false, aExtract_tup, fin1_some, resL_nil, resL_some, noRefL_cons, noRefL_nil, noRef_int, noRef_str, noRef_bool, noRef_nilp, noRef_agg, strip_fn, kLoad_ref, Bool.and_self, ite_true, q1, q2, z0, st, l]
    exact q3 n (by omega) _ 0 rfl (by omega) n (by omega) n _ _ (by simp [upds_at, upd_at]) (by simp [upds_at, upd_at, argEnv]) (by simp [upds_at, upd_at]) (by simp [upds_at, upd_at]) (by simp [upds_at, upd_at])

theorem Resumes_run (src : List UInt8) (i : Int) : AC C 7 [.str src, I i] (.bool true) := by
  refine .intro en7 rfl rfl ?_
  obtain ⟨N1, q1⟩ := AC.at ex_run
  obtain ⟨N2, q2⟩ := AC.at (tok_run src)
  unfold tokR at q2
  have z0 : ((0 : Int) != 0) = false := rfl
  have z00 : ((0 : Int) == 0) = true := rfl
  by_cases h : 2000 < src.length
  · rw [if_pos h] at q2
    refine ⟨max N1 N2, fun n hn => ⟨[], ?_⟩⟩
    have q1 := q1 n (by omega)
    have q2 := q2 n (by omega)
    have h' : (2000 : Int) < (src.length : Int) := by omega
    have z2 : ((2 : Int) != 0) = true := rfl
    have z3 : ((2 : Int) == 0) = false := rfl
    rw [F7_eq, F7]
    simp -implicitDefEqProofs only [oh_some, mp_some, sto_some, br_true, br_false, gd_true, gd_false, wA_tt, wA_tup, wA_ft, wA_tf, wA_ff, aNilCheck_box, aNilCheck_ref, aAddr_box, aAddr_ref, aLoad_one, List.getElem?_cons_succ, List.getElem?_cons_zero, Option.map_some, bin_add, bin_sub, bin_lss, bin_leq, bin_gtr, bin_geq, bin_eql, bin_neq, str_eql, aMax_int, aMin_int, aUn_not, aPick_true, aPick_false, strip_int, strip_bool, strip_str, strip_nilp, strip_nils, strip_box, strip_ref, strip_agg, strip_tup, strip_undef, aBox_f, solid_agg, cells_agg, kLoad_box, kGd_true, kGd_false, kCall_ok, gt_iff_lt, ge_iff_le, Int.ofNat_lt, Int.ofNat_le, decide_true, decide_false, Nat.zero_add, Bool.not_true, Bool.not_false, aExtract_tup, fin1_some, resL_nil, resL_some, noRefL_cons, noRefL_nil, noRef_int, noRef_str, noRef_bool, noRef_nilp, noRef_agg, strip_fn, kLoad_ref, Bool.and_self, ite_true, q1, q2, z2, z3, len9, h']
  · rw [if_neg h] at q2
    have hv := accV_strip (tokz src)
    have ht := tokz_length src
    have hk := fun k => tokz_drop k src
    have hkl := fun k => srcOfT_drop src k
    generalize hvv : (accV (tokz src)).strip = v at *
    have st := hv.strip
    have l := hv.len
    by_cases hz : (tokz src).length = 0
    · refine ⟨max N1 N2, fun n hn => ⟨[], ?_⟩⟩
      have q1 := q1 n (by omega)
      have q2 := q2 n (by omega)
      have z4 : (((tokz src).length : Int) == 0) = true := by rw [hz]; rfl
      rw [F7_eq, F7]
      simp -implicitDefEqProofs only [oh_some, mp_some, sto_some, br_true, br_false, gd_true, gd_false, wA_tt, wA_tup, wA_ft, wA_tf, wA_ff, aNilCheck_box, aNilCheck_ref, aAddr_box, aAddr_ref, aLoad_one, List.getElem?_cons_succ, List.getElem?_cons_zero, Option.map_some, bin_add, bin_sub, bin_lss, bin_leq, bin_gtr, bin_geq, bin_eql, bin_neq, str_eql, aMax_int, aMin_int, aUn_not, aPick_true, aPick_false, strip_int, strip_bool, strip_str, strip_nilp, strip_nils, strip_box, strip_ref, strip_agg, strip_tup, strip_undef, aBox_f, solid_agg, cells_agg, kLoad_box, kGd_true, kGd_false, kCall_ok, gt_iff_lt, ge_iff_le, Int.ofNat_lt, Int.ofNat_le, decide_true, decide_false, Nat.zero_add, Bool.not_true, Bool.not_false, aExtract_tup, fin1_some, resL_nil, resL_some, noRefL_cons, noRefL_nil, noRef_int, noRef_str, noRef_bool, noRef_nilp, noRef_agg, strip_fn, kLoad_ref, Bool.and_self, ite_true, q1, q2, z0, z00, z4, st, l]
    · obtain ⟨k, hkb, hm⟩ := Mod_run i ((tokz src).length + 1) (by omega) (by omega)
      obtain ⟨N3, q3⟩ := AC.at hm
      obtain ⟨u, hu1, hu2⟩ := hv.drop (i := k) (by omega)
      have hdl : ((tokz src).drop k).length ≤ (tokz src).length := by simp
      obtain ⟨N4, q4⟩ := AC.at (src_run u _ hu2 (by omega) (by have := hkl k; omega))
      obtain ⟨N5, q5⟩ := AC.at (tok_run (srcOfT ((tokz src).drop k)))
      unfold tokR at q5
      rw [if_neg (by have := hkl k; omega), hk k] at q5
      have hw := accV_strip ((tokz src).drop k)
      obtain ⟨N6, q6⟩ := AC.at (same_run _ u _ hw hu2 (by omega))
      have stw := hw.strip
      have stu := hu2.strip
      generalize (accV ((tokz src).drop k)).strip = w at *
      refine ⟨max N1 (max N2 (max N3 (max N4 (max N5 N6)))), fun n hn => ⟨[], ?_⟩⟩
      simp only [Nat.max_le] at hn
      have q1 := q1 n (by omega)
      have q2 := q2 n (by omega)
      have q3 := q3 n (by omega)
      have q4 := q4 n (by omega)
      have q5 := q5 n (by omega)
      have q6 := q6 n (by omega)
      have z4 : (((tokz src).length : Int) == 0) = false := by rw [beq_eq_false_iff_ne]; omega
      have e1 := wadd1 (a := (tokz src).length) (by omega)
      rw [F7_eq, F7]
      simp -implicitDefEqProofs only [oh_some, mp_some, sto_some, br_true, br_false, gd_true, gd_false, wA_tt, wA_tup, wA_ft, wA_tf, wA_ff, aNilCheck_box, aNilCheck_ref, aAddr_box, aAddr_ref, aLoad_one, List.getElem?_cons_succ, List.getElem?_cons_zero, Option.map_some, bin_add, bin_sub, bin_lss, bin_leq, bin_gtr, bin_geq, bin_eql, bin_neq, str_eql, aMax_int, aMin_int, aUn_not, aPick_true, aPick_false, strip_int, strip_bool, strip_str, strip_nilp, strip_nils, strip_box, strip_ref, strip_agg, strip_tup, strip_undef, aBox_f, solid_agg, cells_agg, kLoad_box, kGd_true, kGd_false, kCall_ok, gt_iff_lt, ge_iff_le, Int.ofNat_lt, Int.ofNat_le, decide_true, decide_false, Nat.zero_add, Bool.not_true, Bool.not_false, aExtract_tup, fin1_some, resL_nil, resL_some, noRefL_cons, noRefL_nil, noRef_int, noRef_str, noRef_bool, noRef_nilp, noRef_agg, strip_fn, kLoad_ref, Bool.and_self, ite_true, q1, q2, q3, q4, q5, q6, z0, z00, z4, e1, st, stw, stu, l, hu1]
end LexF

