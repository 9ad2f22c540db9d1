/- The lexer, in the abstract machine. -/
import Derived.Test.YtionohfkjdahlaaDoorLexF
import Derived.Test.YtionohfkjdahlaaDoorLexT
set_option linter.all false
set_option maxRecDepth 100000
namespace LexF
open Go Go.Abs Go.Proofs

abbrev I (n : Int) : AV := .int .i64 n
abbrev U (c : UInt8) : AV := .int .u8 c.toNat
theorem AC.at {g : FuncId} {args : List AV} {v : AV} (h : AC C g args v) : ∃ N, ∀ n, N ≤ n → ∀ s, aCall Tryd.prog (den C n) g args s = some (v, s) := h
theorem wadd1 {a : Nat} (h : a < 2000000000) : IntKind.i64.wrap ((a : Int) + 1) = ((a + 1 : Nat) : Int) := by rw [wrap64] <;> omega
theorem wadd {a b : Nat} (h : a + b < 2000000000) : IntKind.i64.wrap ((a : Int) + (b : Int)) = ((a + b : Nat) : Int) := by rw [wrap64] <;> omega
theorem under9 : Tryd.prog.underlying 9 = some .string := by kernel_rfl
theorem len9 (s : List UInt8) : aLen Tryd.prog 9 (.str s) = some (I s.length) := by
  simp [aLen, under9]
theorem subTake {s : List UInt8} {i : Nat} (h1 : i ≤ s.length) : aSl Tryd.prog 9 (.str s) none (some (I i)) none = some (.str (s.take i)) := by
  simp [aSl, under9, aSubstr, aBound, h1]
theorem subDrop {s : List UInt8} {i : Nat} (h1 : i ≤ s.length) : aSl Tryd.prog 9 (.str s) (some (I i)) none none = some (.str (s.drop i)) := by
  simp [aSl, under9, aSubstr, aBound, h1]
theorem idx9 {s : List UInt8} {i : Nat} {x : UInt8} (h : s[i]? = some x) : aIndex Tryd.prog 9 (.str s) (I i) = some (U x) := by
  simp [aIndex, under9, h]
theorem callV (D : Den) (g : FuncId) (a : AV) (s : Heap) : aCallV Tryd.prog D (.fn g [] []) [a] s = aCall Tryd.prog D g [a.strip] s := rfl

theorem short_run (s : List UInt8) (k : Nat) : AC C 12 [.str s, I k] (.str (s.take k)) := by
  refine .intro en12 (by simp [noRefL_cons, noRefL_nil, noRef_str, noRef_int]) (by rfl) ⟨0, fun n hn => ⟨[], ?_⟩⟩
  have e1 := subTake (s := s) (i := min s.length k) (by omega)
  have e2 : s.take (min s.length k) = s.take k := by
    rw [Nat.min_def]; split
    · rw [List.take_of_length_le (Nat.le_refl _), List.take_of_length_le (by assumption)]
    · rfl
  have e : (if k < s.length then (k : Int) else (s.length : Int)) = ((min s.length k : Nat) : Int) := by split <;> omega
  rw [F12_eq, F12]
  simp -implicitDefEqProofs only [oh_some, mp_some, sto_some, br_true, br_false, gd_true, gd_false, wA_tt, wA_tup, wA_ft, wA_tf, wA_ff, aNilCheck_box, aNilCheck_ref, aAddr_box, aAddr_ref, aLoad_one, List.getElem?_cons_succ, List.getElem?_cons_zero, Option.map_some, bin_add, bin_sub, bin_lss, bin_leq, bin_gtr, bin_geq, bin_eql, bin_neq, str_eql, aMax_int, aMin_int, aUn_not, aPick_true, aPick_false, strip_int, strip_bool, strip_str, strip_nilp, strip_nils, strip_box, strip_ref, strip_agg, strip_tup, strip_undef, aBox_f, solid_agg, cells_agg, kLoad_box, kGd_true, kGd_false, kCall_ok, gt_iff_lt, ge_iff_le, Int.ofNat_lt, Int.ofNat_le, decide_true, decide_false, Nat.zero_add, Bool.not_true, Bool.not_false, aExtract_tup, fin1_some, resL_nil, resL_some, noRefL_cons, noRefL_nil, noRef_int, noRef_str, noRef_bool, noRef_nilp, noRef_agg, strip_fn, kLoad_ref, Bool.and_self, ite_true, len9, e, e1, e2]

/-! ### The library's functions -/
theorem u8_back (c : UInt8) : (c.toNat : Int).toNat.toUInt8 = c := by simp
theorem index_run (a : List UInt8) (c : UInt8) : AC C 51 [.str a, U c] (I (Lib.indexByte a c)) :=
  .intro (by kernel_rfl) rfl rfl ⟨0, fun n _ => ⟨[], by rw [den_ext (e := eIndex) (by rfl)]; simp [eIndex]⟩⟩
theorem prefix_run (a b : List UInt8) : AC C 42 [.str a, .str b] (.bool (Lib.hasPrefix a b)) :=
  .intro (by kernel_rfl) rfl rfl ⟨0, fun n _ => ⟨[], by rw [den_ext (e := ePrefix) (by rfl)]; rfl⟩⟩
abbrev strs (xs : List (List UInt8)) : List AV := xs.map .str
theorem strs_noRef (xs : List (List UInt8)) : noRefL (strs xs) = true := by induction xs with
  | nil => rfl
  | cons x xs ih => show noRefL (.str x :: strs xs) = true; rw [noRefL_cons, ih]; rfl
theorem fields_run (a : List UInt8) (h1 : a.length < 1000) (h2 : (a.all fun b => b.toNat < 128) = true) : AC C 63 [.str a] (.sl 9 1 (strs (Lib.fields a)) .sh) :=
  .intro (by kernel_rfl) rfl (by rw [noRef_sl, strs_noRef]) ⟨0, fun n _ => ⟨[], by rw [den_ext (e := eFields) (by rfl)]; simp only [eFields]; rw [if_pos ⟨h1, h2⟩]⟩⟩

/-! ### Kinds of bytes -/
theorem isSp_run (c : UInt8) : AC C 40 [U c] (.bool (isSp c)) := by
  refine .intro en40 rfl rfl ?_
  obtain ⟨N, q⟩ := AC.at (index_run [32, 9, 10, 13] c)
  refine ⟨N, fun n hn => ⟨[], ?_⟩⟩
  have q : ∀ s, aCall Tryd.prog (den C n) 51 [.str [32, 9, 10, 13], .int .u8 c.toNat] s = _ := q n hn
  rw [F40_eq, F40]
  simp -implicitDefEqProofs only [oh_some, mp_some, sto_some, br_true, br_false, gd_true, gd_false, wA_tt, wA_tup, wA_ft, wA_tf, wA_ff, aNilCheck_box, aNilCheck_ref, aAddr_box, aAddr_ref, aLoad_one, List.getElem?_cons_succ, List.getElem?_cons_zero, Option.map_some, bin_add, bin_sub, bin_lss, bin_leq, bin_gtr, bin_geq, bin_eql, bin_neq, str_eql, aMax_int, aMin_int, aUn_not, aPick_true, aPick_false, strip_int, strip_bool, strip_str, strip_nilp, strip_nils, strip_box, strip_ref, strip_agg, strip_tup, strip_undef, aBox_f, solid_agg, cells_agg, kLoad_box, kGd_true, kGd_false, kCall_ok, gt_iff_lt, ge_iff_le, Int.ofNat_lt, Int.ofNat_le, decide_true, decide_false, Nat.zero_add, Bool.not_true, Bool.not_false, aExtract_tup, fin1_some, resL_nil, resL_some, noRefL_cons, noRefL_nil, noRef_int, noRef_str, noRef_bool, noRef_nilp, noRef_agg, strip_fn, kLoad_ref, Bool.and_self, ite_true, q, isSp]
theorem ne10 (c : UInt8) : ((c.toNat : Int) != 10) = notNL c := by
  unfold notNL
  have h10 : (10 : UInt8).toNat = 10 := rfl
  by_cases h : c = 10
  · subst h; rfl
  · have h1 : (c != 10) = true := by simpa using h
    rw [h1]
    simp only [bne_iff_ne, ne_eq]
    intro h'
    exact h (UInt8.toNat_inj.1 (by omega))
theorem notNL_run (c : UInt8) : AC C 43 [U c] (.bool (notNL c)) := by
  refine .intro en43 rfl rfl ⟨0, fun n hn => ⟨[], ?_⟩⟩
  have e := ne10 c
  rw [F43_eq, F43]
  simp -implicitDefEqProofs only [oh_some, mp_some, sto_some, br_true, br_false, gd_true, gd_false, wA_tt, wA_tup, wA_ft, wA_tf, wA_ff, aNilCheck_box, aNilCheck_ref, aAddr_box, aAddr_ref, aLoad_one, List.getElem?_cons_succ, List.getElem?_cons_zero, Option.map_some, bin_add, bin_sub, bin_lss, bin_leq, bin_gtr, bin_geq, bin_eql, bin_neq, str_eql, aMax_int, aMin_int, aUn_not, aPick_true, aPick_false, strip_int, strip_bool, strip_str, strip_nilp, strip_nils, strip_box, strip_ref, strip_agg, strip_tup, strip_undef, aBox_f, solid_agg, cells_agg, kLoad_box, kGd_true, kGd_false, kCall_ok, gt_iff_lt, ge_iff_le, Int.ofNat_lt, Int.ofNat_le, decide_true, decide_false, Nat.zero_add, Bool.not_true, Bool.not_false, aExtract_tup, fin1_some, resL_nil, resL_some, noRefL_cons, noRefL_nil, noRef_int, noRef_str, noRef_bool, noRef_nilp, noRef_agg, strip_fn, kLoad_ref, Bool.and_self, ite_true, e]
theorem notNL_run' (c : UInt8) : AC C 64 [U c] (.bool (notNL c)) := by
  refine .intro en64 rfl rfl ⟨0, fun n hn => ⟨[], ?_⟩⟩
  have e := ne10 c
  rw [F64_eq, F64]
  simp -implicitDefEqProofs only [oh_some, mp_some, sto_some, br_true, br_false, gd_true, gd_false, wA_tt, wA_tup, wA_ft, wA_tf, wA_ff, aNilCheck_box, aNilCheck_ref, aAddr_box, aAddr_ref, aLoad_one, List.getElem?_cons_succ, List.getElem?_cons_zero, Option.map_some, bin_add, bin_sub, bin_lss, bin_leq, bin_gtr, bin_geq, bin_eql, bin_neq, str_eql, aMax_int, aMin_int, aUn_not, aPick_true, aPick_false, strip_int, strip_bool, strip_str, strip_nilp, strip_nils, strip_box, strip_ref, strip_agg, strip_tup, strip_undef, aBox_f, solid_agg, cells_agg, kLoad_box, kGd_true, kGd_false, kCall_ok, gt_iff_lt, ge_iff_le, Int.ofNat_lt, Int.ofNat_le, decide_true, decide_false, Nat.zero_add, Bool.not_true, Bool.not_false, aExtract_tup, fin1_some, resL_nil, resL_some, noRefL_cons, noRefL_nil, noRef_int, noRef_str, noRef_bool, noRef_nilp, noRef_agg, strip_fn, kLoad_ref, Bool.and_self, ite_true, e]
theorem isDig_run (c : UInt8) : AC C 46 [U c] (.bool (isDig c)) := by
  refine .intro en46 rfl rfl ⟨0, fun n hn => ⟨[], ?_⟩⟩
  rw [F46_eq, F46]
  by_cases h : 48 ≤ c.toNat
  · have h' : ((48 : Int) ≤ (c.toNat : Int)) := by omega
    by_cases k : c.toNat ≤ 57
    · have k' : ((c.toNat : Int) ≤ 57) := by omega
      simp -implicitDefEqProofs only [oh_some, mp_some, sto_some, br_true, br_false, gd_true, gd_false, wA_tt, wA_tup, wA_ft, wA_tf, wA_ff, aNilCheck_box, aNilCheck_ref, aAddr_box, aAddr_ref, aLoad_one, List.getElem?_cons_succ, List.getElem?_cons_zero, Option.map_some, bin_add, bin_sub, bin_lss, bin_leq, bin_gtr, bin_geq, bin_eql, bin_neq, str_eql, aMax_int, aMin_int, aUn_not, aPick_true, aPick_false, strip_int, strip_bool, strip_str, strip_nilp, strip_nils, strip_box, strip_ref, strip_agg, strip_tup, strip_undef, aBox_f, solid_agg, cells_agg, kLoad_box, kGd_true, kGd_false, kCall_ok, gt_iff_lt, ge_iff_le, Int.ofNat_lt, Int.ofNat_le, decide_true, decide_false, Nat.zero_add, Bool.not_true, Bool.not_false, aExtract_tup, fin1_some, resL_nil, resL_some, noRefL_cons, noRefL_nil, noRef_int, noRef_str, noRef_bool, noRef_nilp, noRef_agg, strip_fn, kLoad_ref, Bool.and_self, ite_true, h', k', isDig, h, k, Bool.true_and]
    · have k' : ¬ ((c.toNat : Int) ≤ 57) := by omega
      simp -implicitDefEqProofs only [oh_some, mp_some, sto_some, br_true, br_false, gd_true, gd_false, wA_tt, wA_tup, wA_ft, wA_tf, wA_ff, aNilCheck_box, aNilCheck_ref, aAddr_box, aAddr_ref, aLoad_one, List.getElem?_cons_succ, List.getElem?_cons_zero, Option.map_some, bin_add, bin_sub, bin_lss, bin_leq, bin_gtr, bin_geq, bin_eql, bin_neq, str_eql, aMax_int, aMin_int, aUn_not, aPick_true, aPick_false, strip_int, strip_bool, strip_str, strip_nilp, strip_nils, strip_box, strip_ref, strip_agg, strip_tup, strip_undef, aBox_f, solid_agg, cells_agg, kLoad_box, kGd_true, kGd_false, kCall_ok, gt_iff_lt, ge_iff_le, Int.ofNat_lt, Int.ofNat_le, decide_true, decide_false, Nat.zero_add, Bool.not_true, Bool.not_false, aExtract_tup, fin1_some, resL_nil, resL_some, noRefL_cons, noRefL_nil, noRef_int, noRef_str, noRef_bool, noRef_nilp, noRef_agg, strip_fn, kLoad_ref, Bool.and_self, ite_true, h', k', isDig, h, k, Bool.true_and]
  · have h' : ¬ ((48 : Int) ≤ (c.toNat : Int)) := by omega
    simp -implicitDefEqProofs only [oh_some, mp_some, sto_some, br_true, br_false, gd_true, gd_false, wA_tt, wA_tup, wA_ft, wA_tf, wA_ff, aNilCheck_box, aNilCheck_ref, aAddr_box, aAddr_ref, aLoad_one, List.getElem?_cons_succ, List.getElem?_cons_zero, Option.map_some, bin_add, bin_sub, bin_lss, bin_leq, bin_gtr, bin_geq, bin_eql, bin_neq, str_eql, aMax_int, aMin_int, aUn_not, aPick_true, aPick_false, strip_int, strip_bool, strip_str, strip_nilp, strip_nils, strip_box, strip_ref, strip_agg, strip_tup, strip_undef, aBox_f, solid_agg, cells_agg, kLoad_box, kGd_true, kGd_false, kCall_ok, gt_iff_lt, ge_iff_le, Int.ofNat_lt, Int.ofNat_le, decide_true, decide_false, Nat.zero_add, Bool.not_true, Bool.not_false, aExtract_tup, fin1_some, resL_nil, resL_some, noRefL_cons, noRefL_nil, noRef_int, noRef_str, noRef_bool, noRef_nilp, noRef_agg, strip_fn, kLoad_ref, Bool.and_self, ite_true, h', isDig, h, Bool.false_and]
theorem isLet_run (c : UInt8) : AC C 44 [U c] (.bool (isLet c)) := by
  refine .intro en44 rfl rfl ⟨0, fun n hn => ⟨[], ?_⟩⟩
  have e95 : ((c.toNat : Int) == 95) = (c.toNat == 95) := by
    by_cases h : c.toNat = 95
    · rw [h]; rfl
    · rw [beq_eq_false_iff_ne.2 h, beq_eq_false_iff_ne.2 (by omega)]
  rw [F44_eq, F44]
  by_cases h1 : 97 ≤ c.toNat
  · have h1' : ((97 : Int) ≤ (c.toNat : Int)) := by omega
    by_cases h2 : c.toNat ≤ 122
    · have h2' : ((c.toNat : Int) ≤ 122) := by omega
      simp -implicitDefEqProofs only [oh_some, mp_some, sto_some, br_true, br_false, gd_true, gd_false, wA_tt, wA_tup, wA_ft, wA_tf, wA_ff, aNilCheck_box, aNilCheck_ref, aAddr_box, aAddr_ref, aLoad_one, List.getElem?_cons_succ, List.getElem?_cons_zero, Option.map_some, bin_add, bin_sub, bin_lss, bin_leq, bin_gtr, bin_geq, bin_eql, bin_neq, str_eql, aMax_int, aMin_int, aUn_not, aPick_true, aPick_false, strip_int, strip_bool, strip_str, strip_nilp, strip_nils, strip_box, strip_ref, strip_agg, strip_tup, strip_undef, aBox_f, solid_agg, cells_agg, kLoad_box, kGd_true, kGd_false, kCall_ok, gt_iff_lt, ge_iff_le, Int.ofNat_lt, Int.ofNat_le, decide_true, decide_false, Nat.zero_add, Bool.not_true, Bool.not_false, aExtract_tup, fin1_some, resL_nil, resL_some, noRefL_cons, noRefL_nil, noRef_int, noRef_str, noRef_bool, noRef_nilp, noRef_agg, strip_fn, kLoad_ref, Bool.and_self, ite_true, h1', h2', isLet, h1, h2, Bool.true_or, Bool.and_self, Bool.and_true]
    · have h2' : ¬ ((c.toNat : Int) ≤ 122) := by omega
      have h3 : (65 : Int) ≤ (c.toNat : Int) := by omega
      have h3' : 65 ≤ c.toNat := by omega
      have h4 : ¬ ((c.toNat : Int) ≤ 90) := by omega
      have h4' : ¬ (c.toNat ≤ 90) := by omega
      simp -implicitDefEqProofs only [oh_some, mp_some, sto_some, br_true, br_false, gd_true, gd_false, wA_tt, wA_tup, wA_ft, wA_tf, wA_ff, aNilCheck_box, aNilCheck_ref, aAddr_box, aAddr_ref, aLoad_one, List.getElem?_cons_succ, List.getElem?_cons_zero, Option.map_some, bin_add, bin_sub, bin_lss, bin_leq, bin_gtr, bin_geq, bin_eql, bin_neq, str_eql, aMax_int, aMin_int, aUn_not, aPick_true, aPick_false, strip_int, strip_bool, strip_str, strip_nilp, strip_nils, strip_box, strip_ref, strip_agg, strip_tup, strip_undef, aBox_f, solid_agg, cells_agg, kLoad_box, kGd_true, kGd_false, kCall_ok, gt_iff_lt, ge_iff_le, Int.ofNat_lt, Int.ofNat_le, decide_true, decide_false, Nat.zero_add, Bool.not_true, Bool.not_false, aExtract_tup, fin1_some, resL_nil, resL_some, noRefL_cons, noRefL_nil, noRef_int, noRef_str, noRef_bool, noRef_nilp, noRef_agg, strip_fn, kLoad_ref, Bool.and_self, ite_true, h1', h2', h3, h4, e95, isLet, h1, h2, h3', h4', Bool.false_or, Bool.and_false, Bool.true_and]
  · have h1' : ¬ ((97 : Int) ≤ (c.toNat : Int)) := by omega
    by_cases h3' : 65 ≤ c.toNat
    · have h3 : (65 : Int) ≤ (c.toNat : Int) := by omega
      by_cases h4' : c.toNat ≤ 90
      · have h4 : ((c.toNat : Int) ≤ 90) := by omega
        simp -implicitDefEqProofs only [oh_some, mp_some, sto_some, br_true, br_false, gd_true, gd_false, wA_tt, wA_tup, wA_ft, wA_tf, wA_ff, aNilCheck_box, aNilCheck_ref, aAddr_box, aAddr_ref, aLoad_one, List.getElem?_cons_succ, List.getElem?_cons_zero, Option.map_some, bin_add, bin_sub, bin_lss, bin_leq, bin_gtr, bin_geq, bin_eql, bin_neq, str_eql, aMax_int, aMin_int, aUn_not, aPick_true, aPick_false, strip_int, strip_bool, strip_str, strip_nilp, strip_nils, strip_box, strip_ref, strip_agg, strip_tup, strip_undef, aBox_f, solid_agg, cells_agg, kLoad_box, kGd_true, kGd_false, kCall_ok, gt_iff_lt, ge_iff_le, Int.ofNat_lt, Int.ofNat_le, decide_true, decide_false, Nat.zero_add, Bool.not_true, Bool.not_false, aExtract_tup, fin1_some, resL_nil, resL_some, noRefL_cons, noRefL_nil, noRef_int, noRef_str, noRef_bool, noRef_nilp, noRef_agg, strip_fn, kLoad_ref, Bool.and_self, ite_true, h1', h3, h4, isLet, h1, h3', h4', Bool.false_and, Bool.true_or, Bool.false_or, Bool.and_self]
      · have h4 : ¬ ((c.toNat : Int) ≤ 90) := by omega
        simp -implicitDefEqProofs only [oh_some, mp_some, sto_some, br_true, br_false, gd_true, gd_false, wA_tt, wA_tup, wA_ft, wA_tf, wA_ff, aNilCheck_box, aNilCheck_ref, aAddr_box, aAddr_ref, aLoad_one, List.getElem?_cons_succ, List.getElem?_cons_zero, Option.map_some, bin_add, bin_sub, bin_lss, bin_leq, bin_gtr, bin_geq, bin_eql, bin_neq, str_eql, aMax_int, aMin_int, aUn_not, aPick_true, aPick_false, strip_int, strip_bool, strip_str, strip_nilp, strip_nils, strip_box, strip_ref, strip_agg, strip_tup, strip_undef, aBox_f, solid_agg, cells_agg, kLoad_box, kGd_true, kGd_false, kCall_ok, gt_iff_lt, ge_iff_le, Int.ofNat_lt, Int.ofNat_le, decide_true, decide_false, Nat.zero_add, Bool.not_true, Bool.not_false, aExtract_tup, fin1_some, resL_nil, resL_some, noRefL_cons, noRefL_nil, noRef_int, noRef_str, noRef_bool, noRef_nilp, noRef_agg, strip_fn, kLoad_ref, Bool.and_self, ite_true, h1', h3, h4, e95, isLet, h1, h3', h4', Bool.false_and, Bool.false_or, Bool.and_false]
    · have h3 : ¬ (65 : Int) ≤ (c.toNat : Int) := by omega
      simp -implicitDefEqProofs only [oh_some, mp_some, sto_some, br_true, br_false, gd_true, gd_false, wA_tt, wA_tup, wA_ft, wA_tf, wA_ff, aNilCheck_box, aNilCheck_ref, aAddr_box, aAddr_ref, aLoad_one, List.getElem?_cons_succ, List.getElem?_cons_zero, Option.map_some, bin_add, bin_sub, bin_lss, bin_leq, bin_gtr, bin_geq, bin_eql, bin_neq, str_eql, aMax_int, aMin_int, aUn_not, aPick_true, aPick_false, strip_int, strip_bool, strip_str, strip_nilp, strip_nils, strip_box, strip_ref, strip_agg, strip_tup, strip_undef, aBox_f, solid_agg, cells_agg, kLoad_box, kGd_true, kGd_false, kCall_ok, gt_iff_lt, ge_iff_le, Int.ofNat_lt, Int.ofNat_le, decide_true, decide_false, Nat.zero_add, Bool.not_true, Bool.not_false, aExtract_tup, fin1_some, resL_nil, resL_some, noRefL_cons, noRefL_nil, noRef_int, noRef_str, noRef_bool, noRef_nilp, noRef_agg, strip_fn, kLoad_ref, Bool.and_self, ite_true, h1', h3, e95, isLet, h1, h3', Bool.false_and, Bool.false_or, Bool.and_false]
theorem isWord_run (c : UInt8) : AC C 45 [U c] (.bool (isWord c)) := by
  refine .intro en45 rfl rfl ?_
  obtain ⟨N1, q1⟩ := AC.at (isLet_run c)
  obtain ⟨N2, q2⟩ := AC.at (isDig_run c)
  refine ⟨max N1 N2, fun n hn => ⟨[], ?_⟩⟩
  have q1 : ∀ s, aCall Tryd.prog (den C n) 44 [.int .u8 c.toNat] s = _ := q1 n (by omega)
  have q2 : ∀ s, aCall Tryd.prog (den C n) 46 [.int .u8 c.toNat] s = _ := q2 n (by omega)
  rw [F45_eq, F45]
  cases h : isLet c with
  | true =>
    rw [h] at q1
    simp -implicitDefEqProofs only [oh_some, mp_some, sto_some, br_true, br_false, gd_true, gd_false, wA_tt, wA_tup, wA_ft, wA_tf, wA_ff, aNilCheck_box, aNilCheck_ref, aAddr_box, aAddr_ref, aLoad_one, List.getElem?_cons_succ, List.getElem?_cons_zero, Option.map_some, bin_add, bin_sub, bin_lss, bin_leq, bin_gtr, bin_geq, bin_eql, bin_neq, str_eql, aMax_int, aMin_int, aUn_not, aPick_true, aPick_false, strip_int, strip_bool, strip_str, strip_nilp, strip_nils, strip_box, strip_ref, strip_agg, strip_tup, strip_undef, aBox_f, solid_agg, cells_agg, kLoad_box, kGd_true, kGd_false, kCall_ok, gt_iff_lt, ge_iff_le, Int.ofNat_lt, Int.ofNat_le, decide_true, decide_false, Nat.zero_add, Bool.not_true, Bool.not_false, aExtract_tup, fin1_some, resL_nil, resL_some, noRefL_cons, noRefL_nil, noRef_int, noRef_str, noRef_bool, noRef_nilp, noRef_agg, strip_fn, kLoad_ref, Bool.and_self, ite_true, q1, isWord, h, Bool.true_or]
  | false =>
    rw [h] at q1
    simp -implicitDefEqProofs only [oh_some, mp_some, sto_some, br_true, br_false, gd_true, gd_false, wA_tt, wA_tup, wA_ft, wA_tf, wA_ff, aNilCheck_box, aNilCheck_ref, aAddr_box, aAddr_ref, aLoad_one, List.getElem?_cons_succ, List.getElem?_cons_zero, Option.map_some, bin_add, bin_sub, bin_lss, bin_leq, bin_gtr, bin_geq, bin_eql, bin_neq, str_eql, aMax_int, aMin_int, aUn_not, aPick_true, aPick_false, strip_int, strip_bool, strip_str, strip_nilp, strip_nils, strip_box, strip_ref, strip_agg, strip_tup, strip_undef, aBox_f, solid_agg, cells_agg, kLoad_box, kGd_true, kGd_false, kCall_ok, gt_iff_lt, ge_iff_le, Int.ofNat_lt, Int.ofNat_le, decide_true, decide_false, Nat.zero_add, Bool.not_true, Bool.not_false, aExtract_tup, fin1_some, resL_nil, resL_some, noRefL_cons, noRefL_nil, noRef_int, noRef_str, noRef_bool, noRef_nilp, noRef_agg, strip_fn, kLoad_ref, Bool.and_self, ite_true, q1, q2, isWord, h, Bool.false_or]

/-! ### Scanning -/
theorem scan_at {p : UInt8 → Bool} {l : List UInt8} {i : Nat} (h : i < l.length) : scanN p (l.drop i) = if p l[i] = true then 1 + scanN p (l.drop (i + 1)) else 0 := by
  rw [List.drop_eq_getElem_cons h]
  unfold scanN
  rw [List.takeWhile_cons]
  split
  · simp; omega
  · rfl

theorem scan_loop (g : FuncId) (p : UInt8 → Bool) (hg : ∀ c, AC C g [U c] (.bool (p c))) (l : List UInt8) (hl : l.length < 1000000) : ∀ (k i : Nat), l.length - i = k → i ≤ l.length →
    ∃ N, ∀ n, N ≤ n → ∀ m, k < m → ∀ n' e s, e 0 = .str l → e 1 = I i → e 2 = .fn g [] [] → aLoop (F41_L0 (den C n) n') m e s = some (I (i + scanN p (l.drop i) : Nat), s) := by
  intro k
  induction k with
  | zero =>
    intro i hk hi
    refine ⟨0, fun n hn m hm n' e s h0 h1 h2 => ?_⟩
    obtain ⟨m, rfl⟩ : ∃ j, m = j + 1 := ⟨m - 1, by omega⟩
    have c : ¬ i < l.length := by omega
    have z : scanN p (l.drop i) = 0 := by rw [List.drop_of_length_le (by omega)]; rfl
    rw [aLoop, F41_L0, z]
    simp -implicitDefEqProofs only [oh_some, mp_some, sto_some, br_true, br_false, gd_true, gd_false, wA_tt, wA_tup, wA_ft, wA_tf, wA_ff, aNilCheck_box, aNilCheck_ref, aAddr_box, aAddr_ref, aLoad_one, List.getElem?_cons_succ, List.getElem?_cons_zero, Option.map_some, bin_add, bin_sub, bin_lss, bin_leq, bin_gtr, bin_geq, bin_eql, bin_neq, str_eql, aMax_int, aMin_int, aUn_not, aPick_true, aPick_false, strip_int, strip_bool, strip_str, strip_nilp, strip_nils, strip_box, strip_ref, strip_agg, strip_tup, strip_undef, aBox_f, solid_agg, cells_agg, kLoad_box, kGd_true, kGd_false, kCall_ok, gt_iff_lt, ge_iff_le, Int.ofNat_lt, Int.ofNat_le, decide_true, decide_false, Nat.zero_add, Bool.not_true, Bool.not_false, aExtract_tup, fin1_some, resL_nil, resL_some, noRefL_cons, noRefL_nil, noRef_int, noRef_str, noRef_bool, noRef_nilp, noRef_agg, strip_fn, kLoad_ref, Bool.and_self, ite_true, h0, h1, h2, len9, c, Nat.add_zero]
  | succ k ih =>
    intro i hk hi
    have c : i < l.length := by omega
    have e1 := idx9 (List.getElem?_eq_getElem c)
    obtain ⟨N1, q1⟩ := AC.at (hg l[i])
    obtain ⟨N2, q2⟩ := ih (i + 1) (by omega) (by omega)
    refine ⟨max N1 N2, fun n hn m hm n' e s h0 h1 h2 => ?_⟩
    obtain ⟨m, rfl⟩ : ∃ j, m = j + 1 := ⟨m - 1, by omega⟩
    have q1 : ∀ s, aCall Tryd.prog (den C n) g [.int .u8 l[i].toNat] s = _ := q1 n (by omega)
    have e2 := wadd1 (a := i) (by omega)
    rw [aLoop, F41_L0, scan_at c]
    cases hp : p l[i] with
    | true =>
      rw [hp] at q1
      rw [if_pos rfl]
      simp -implicitDefEqProofs only [oh_some, mp_some, sto_some, br_true, br_false, gd_true, gd_false, wA_tt, wA_tup, wA_ft, wA_tf, wA_ff, aNilCheck_box, aNilCheck_ref, aAddr_box, aAddr_ref, aLoad_one, List.getElem?_cons_succ, List.getElem?_cons_zero, Option.map_some, bin_add, bin_sub, bin_lss, bin_leq, bin_gtr, bin_geq, bin_eql, bin_neq, str_eql, aMax_int, aMin_int, aUn_not, aPick_true, aPick_false, strip_int, strip_bool, strip_str, strip_nilp, strip_nils, strip_box, strip_ref, strip_agg, strip_tup, strip_undef, aBox_f, solid_agg, cells_agg, kLoad_box, kGd_true, kGd_false, kCall_ok, gt_iff_lt, ge_iff_le, Int.ofNat_lt, Int.ofNat_le, decide_true, decide_false, Nat.zero_add, Bool.not_true, Bool.not_false, aExtract_tup, fin1_some, resL_nil, resL_some, noRefL_cons, noRefL_nil, noRef_int, noRef_str, noRef_bool, noRef_nilp, noRef_agg, strip_fn, kLoad_ref, Bool.and_self, ite_true, h0, h1, h2, len9, c, e1, e2, callV, q1]
      rw [← Nat.add_assoc]
      exact q2 n (by omega) m (by omega) n' _ s (by simp [upds_at, upd_at, h0]) (by simp [upds_at, upd_at]) (by simp [upds_at, upd_at, h2])
    | false =>
      rw [hp] at q1
      rw [if_neg (by simp)]
      simp -implicitDefEqProofs only [oh_some, mp_some, sto_some, br_true, br_false, gd_true, gd_false, wA_tt, wA_tup, wA_ft, wA_tf, wA_ff, aNilCheck_box, aNilCheck_ref, aAddr_box, aAddr_ref, aLoad_one, List.getElem?_cons_succ, List.getElem?_cons_zero, Option.map_some, bin_add, bin_sub, bin_lss, bin_leq, bin_gtr, bin_geq, bin_eql, bin_neq, str_eql, aMax_int, aMin_int, aUn_not, aPick_true, aPick_false, strip_int, strip_bool, strip_str, strip_nilp, strip_nils, strip_box, strip_ref, strip_agg, strip_tup, strip_undef, aBox_f, solid_agg, cells_agg, kLoad_box, kGd_true, kGd_false, kCall_ok, gt_iff_lt, ge_iff_le, Int.ofNat_lt, Int.ofNat_le, decide_true, decide_false, Nat.zero_add, Bool.not_true, Bool.not_false, aExtract_tup, fin1_some, resL_nil, resL_some, noRefL_cons, noRefL_nil, noRef_int, noRef_str, noRef_bool, noRef_nilp, noRef_agg, strip_fn, kLoad_ref, Bool.and_self, ite_true, h0, h1, h2, len9, c, e1, callV, q1, Nat.add_zero]

theorem scan_run (g : FuncId) (p : UInt8 → Bool) (hg : ∀ c, AC C g [U c] (.bool (p c))) (l : List UInt8) (hl : l.length < 1000000) (i : Nat) (hi : i ≤ l.length) : AC C 41 [.str l, I i, .fn g [] []] (I (i + scanN p (l.drop i) : Nat)) := by
  refine .intro en41 (by simp [noRefL_cons, noRefL_nil, noRef_str, noRef_int, AV.noRef]) rfl ?_
  obtain ⟨N, q⟩ := scan_loop g p hg l hl _ i rfl hi
  refine ⟨max N (l.length + 1), fun n hn => ⟨[], ?_⟩⟩
  rw [F41_eq, F41]
  simp -implicitDefEqProofs only [oh_some, mp_some, sto_some, br_true, br_false, gd_true, gd_false, wA_tt, wA_tup, wA_ft, wA_tf, wA_ff, aNilCheck_box, aNilCheck_ref, aAddr_box, aAddr_ref, aLoad_one, List.getElem?_cons_succ, List.getElem?_cons_zero, Option.map_some, bin_add, bin_sub, bin_lss, bin_leq, bin_gtr, bin_geq, bin_eql, bin_neq, str_eql, aMax_int, aMin_int, aUn_not, aPick_true, aPick_false, strip_int, strip_bool, strip_str, strip_nilp, strip_nils, strip_box, strip_ref, strip_agg, strip_tup, strip_undef, aBox_f, solid_agg, cells_agg, kLoad_box, kGd_true, kGd_false, kCall_ok, gt_iff_lt, ge_iff_le, Int.ofNat_lt, Int.ofNat_le, decide_true, decide_false, Nat.zero_add, Bool.not_true, Bool.not_false, aExtract_tup, fin1_some, resL_nil, resL_some, noRefL_cons, noRefL_nil, noRef_int, noRef_str, noRef_bool, noRef_nilp, noRef_agg, strip_fn, kLoad_ref, Bool.and_self, ite_true, ]
  exact q n (by omega) n (by omega) n _ _ (by simp [upds_at, upd_at, argEnv]) (by simp [upds_at, upd_at, argEnv]) (by simp [upds_at, upd_at, argEnv])

/-! ### Words that stand in a list -/
theorem under69 : Tryd.prog.underlying 69 = some (.slice 9) := by kernel_rfl
theorem sz9 : szOf Tryd.prog 9 = some 1 := by kernel_rfl
theorem idx69 {xs : List (List UInt8)} {i : Nat} {x : List UInt8} {f : Flag} (h : xs[i]? = some x) : aIndexAddr Tryd.prog 69 (.sl 9 1 (strs xs) f) (I i) = some (.box [.str x] 0) := by
  simp [aIndexAddr, under69, sz9, h, AV.cells]
theorem len69 (xs : List (List UInt8)) (f : Flag) : aLen Tryd.prog 69 (.sl 9 1 (strs xs) f) = some (I xs.length) := by
  simp [aLen, under69]

/-- Where a word stands. -/
def at69 (w : List UInt8) : List (List UInt8) → Nat → Int
  | [], _ => -1
  | x :: xs, i => if w == x then i else at69 w xs (i + 1)
theorem at69_mem (w : List UInt8) : ∀ (xs : List (List UInt8)) (i : Nat), decide (0 ≤ at69 w xs i) = decide (w ∈ xs)
  | [], i => by simp [at69]
  | x :: xs, i => by
    unfold at69
    by_cases h : w = x
    · subst h; simp
    · rw [if_neg (by simpa using h), at69_mem w xs (i + 1)]
      simp [h]

theorem index_loop (w : List UInt8) (xs : List (List UInt8)) (hx : xs.length < 1000000) : ∀ (k i : Nat), xs.length - i = k → i ≤ xs.length → ∀ D m, k < m → ∀ n' e s, e 0 = .sl 9 1 (strs xs) .sh → e 1 = .str w → e 7 = I xs.length → e 8 = I i →
    aLoop (F62_L0 D n') m e s = some (I (at69 w (xs.drop i) i), s) := by
  intro k
  induction k with
  | zero =>
    intro i hk hi D m hm n' e s h0 h1 h7 h8
    obtain ⟨m, rfl⟩ : ∃ j, m = j + 1 := ⟨m - 1, by omega⟩
    have c : ¬ i < xs.length := by omega
    rw [aLoop, F62_L0, List.drop_of_length_le (by omega), at69]
    simp -implicitDefEqProofs only [oh_some, mp_some, sto_some, br_true, br_false, gd_true, gd_false, wA_tt, wA_tup, wA_ft, wA_tf, wA_ff, aNilCheck_box, aNilCheck_ref, aAddr_box, aAddr_ref, aLoad_one, List.getElem?_cons_succ, List.getElem?_cons_zero, Option.map_some, bin_add, bin_sub, bin_lss, bin_leq, bin_gtr, bin_geq, bin_eql, bin_neq, str_eql, aMax_int, aMin_int, aUn_not, aPick_true, aPick_false, strip_int, strip_bool, strip_str, strip_nilp, strip_nils, strip_box, strip_ref, strip_agg, strip_tup, strip_undef, aBox_f, solid_agg, cells_agg, kLoad_box, kGd_true, kGd_false, kCall_ok, gt_iff_lt, ge_iff_le, Int.ofNat_lt, Int.ofNat_le, decide_true, decide_false, Nat.zero_add, Bool.not_true, Bool.not_false, aExtract_tup, fin1_some, resL_nil, resL_some, noRefL_cons, noRefL_nil, noRef_int, noRef_str, noRef_bool, noRef_nilp, noRef_agg, strip_fn, kLoad_ref, Bool.and_self, ite_true, h0, h1, h7, h8, c]
  | succ k ih =>
    intro i hk hi D m hm n' e s h0 h1 h7 h8
    obtain ⟨m, rfl⟩ : ∃ j, m = j + 1 := ⟨m - 1, by omega⟩
    have c : i < xs.length := by omega
    have e1 := idx69 (f := .sh) (List.getElem?_eq_getElem c)
    have e2 := wadd1 (a := i) (by omega)
    rw [aLoop, F62_L0, List.drop_eq_getElem_cons c, at69]
    cases h : w == xs[i] with
    | true =>
      rw [if_pos rfl]
      simp -implicitDefEqProofs only [oh_some, mp_some, sto_some, br_true, br_false, gd_true, gd_false, wA_tt, wA_tup, wA_ft, wA_tf, wA_ff, aNilCheck_box, aNilCheck_ref, aAddr_box, aAddr_ref, aLoad_one, List.getElem?_cons_succ, List.getElem?_cons_zero, Option.map_some, bin_add, bin_sub, bin_lss, bin_leq, bin_gtr, bin_geq, bin_eql, bin_neq, str_eql, aMax_int, aMin_int, aUn_not, aPick_true, aPick_false, strip_int, strip_bool, strip_str, strip_nilp, strip_nils, strip_box, strip_ref, strip_agg, strip_tup, strip_undef, aBox_f, solid_agg, cells_agg, kLoad_box, kGd_true, kGd_false, kCall_ok, gt_iff_lt, ge_iff_le, Int.ofNat_lt, Int.ofNat_le, decide_true, decide_false, Nat.zero_add, Bool.not_true, Bool.not_false, aExtract_tup, fin1_some, resL_nil, resL_some, noRefL_cons, noRefL_nil, noRef_int, noRef_str, noRef_bool, noRef_nilp, noRef_agg, strip_fn, kLoad_ref, Bool.and_self, ite_true, h0, h1, h7, h8, c, e1, h, strip_sh]
    | false =>
      rw [if_neg (by simp)]
      simp -implicitDefEqProofs only [oh_some, mp_some, sto_some, br_true, br_false, gd_true, gd_false, wA_tt, wA_tup, wA_ft, wA_tf, wA_ff, aNilCheck_box, aNilCheck_ref, aAddr_box, aAddr_ref, aLoad_one, List.getElem?_cons_succ, List.getElem?_cons_zero, Option.map_some, bin_add, bin_sub, bin_lss, bin_leq, bin_gtr, bin_geq, bin_eql, bin_neq, str_eql, aMax_int, aMin_int, aUn_not, aPick_true, aPick_false, strip_int, strip_bool, strip_str, strip_nilp, strip_nils, strip_box, strip_ref, strip_agg, strip_tup, strip_undef, aBox_f, solid_agg, cells_agg, kLoad_box, kGd_true, kGd_false, kCall_ok, gt_iff_lt, ge_iff_le, Int.ofNat_lt, Int.ofNat_le, decide_true, decide_false, Nat.zero_add, Bool.not_true, Bool.not_false, aExtract_tup, fin1_some, resL_nil, resL_some, noRefL_cons, noRefL_nil, noRef_int, noRef_str, noRef_bool, noRef_nilp, noRef_agg, strip_fn, kLoad_ref, Bool.and_self, ite_true, h0, h1, h7, h8, c, e1, e2, h, strip_sh]
      exact ih (i + 1) (by omega) (by omega) D m (by omega) n' _ s (by simp [upds_at, upd_at, h0]) (by simp [upds_at, upd_at, h1]) (by simp [upds_at, upd_at, h7]) (by simp [upds_at, upd_at])

theorem contains_run (xs : List (List UInt8)) (hx : xs.length < 1000) (w : List UInt8) : AC C 47 [.sl 9 1 (strs xs) .sh, .str w] (.bool (decide (w ∈ xs))) := by
  have hi : AC C 62 [.sl 9 1 (strs xs) .sh, .str w] (I (at69 w xs 0)) := by
    refine .intro en62 (by simp [noRefL_cons, noRefL_nil, noRef_str, noRef_sl, strs_noRef]) rfl ⟨xs.length + 1, fun n hn => ⟨[], ?_⟩⟩
    have l := len69 xs .sh
    rw [F62_eq, F62]
    simp -implicitDefEqProofs only [oh_some, mp_some, sto_some, br_true, br_false, gd_true, gd_false, wA_tt, wA_tup, wA_ft, wA_tf, wA_ff, aNilCheck_box, aNilCheck_ref, aAddr_box, aAddr_ref, aLoad_one, List.getElem?_cons_succ, List.getElem?_cons_zero, Option.map_some, bin_add, bin_sub, bin_lss, bin_leq, bin_gtr, bin_geq, bin_eql, bin_neq, str_eql, aMax_int, aMin_int, aUn_not, aPick_true, aPick_false, strip_int, strip_bool, strip_str, strip_nilp, strip_nils, strip_box, strip_ref, strip_agg, strip_tup, strip_undef, aBox_f, solid_agg, cells_agg, kLoad_box, kGd_true, kGd_false, kCall_ok, gt_iff_lt, ge_iff_le, Int.ofNat_lt, Int.ofNat_le, decide_true, decide_false, Nat.zero_add, Bool.not_true, Bool.not_false, aExtract_tup, fin1_some, resL_nil, resL_some, noRefL_cons, noRefL_nil, noRef_int, noRef_str, noRef_bool, noRef_nilp, noRef_agg, strip_fn, kLoad_ref, Bool.and_self, ite_true, strip_sh, l]
    exact index_loop w xs (by omega) _ 0 rfl (by omega) (den C n) n (by omega) n _ _ (by simp [upds_at, upd_at, argEnv]) (by simp [upds_at, upd_at, argEnv]) (by simp [upds_at, upd_at]) (by simp [upds_at, upd_at])
  refine .intro en47 (by simp [noRefL_cons, noRefL_nil, noRef_str, noRef_sl, strs_noRef]) rfl ?_
  obtain ⟨N, q⟩ := AC.at hi
  have e := at69_mem w xs 0
  refine ⟨N, fun n hn => ⟨[], ?_⟩⟩
  have q := q n hn
  rw [F47_eq, F47]
  simp -implicitDefEqProofs only [oh_some, mp_some, sto_some, br_true, br_false, gd_true, gd_false, wA_tt, wA_tup, wA_ft, wA_tf, wA_ff, aNilCheck_box, aNilCheck_ref, aAddr_box, aAddr_ref, aLoad_one, List.getElem?_cons_succ, List.getElem?_cons_zero, Option.map_some, bin_add, bin_sub, bin_lss, bin_leq, bin_gtr, bin_geq, bin_eql, bin_neq, str_eql, aMax_int, aMin_int, aUn_not, aPick_true, aPick_false, strip_int, strip_bool, strip_str, strip_nilp, strip_nils, strip_box, strip_ref, strip_agg, strip_tup, strip_undef, aBox_f, solid_agg, cells_agg, kLoad_box, kGd_true, kGd_false, kCall_ok, gt_iff_lt, ge_iff_le, Int.ofNat_lt, Int.ofNat_le, decide_true, decide_false, Nat.zero_add, Bool.not_true, Bool.not_false, aExtract_tup, fin1_some, resL_nil, resL_some, noRefL_cons, noRefL_nil, noRef_int, noRef_str, noRef_bool, noRef_nilp, noRef_agg, strip_fn, kLoad_ref, Bool.and_self, ite_true, strip_sh, q, e]

theorem kw_ok : kwText.length < 1000 ∧ (kwText.all fun b => b.toNat < 128) = true ∧ kw.length < 1000 := by decide +kernel
theorem two_ok : twoText.length < 1000 ∧ (twoText.all fun b => b.toNat < 128) = true ∧ two.length < 1000 := by decide +kernel
theorem kw_run : AC C 48 [] (.sl 9 1 (strs kw) .sh) := by
  refine .intro en48 rfl (by rw [noRef_sl, strs_noRef]) ?_
  obtain ⟨N, q⟩ := AC.at (fields_run kwText kw_ok.1 kw_ok.2.1)
  refine ⟨N, fun n hn => ⟨[], ?_⟩⟩
  have q := q n hn
  unfold kwText at q
  rw [F48_eq, F48]
  simp -implicitDefEqProofs only [oh_some, mp_some, sto_some, br_true, br_false, gd_true, gd_false, wA_tt, wA_tup, wA_ft, wA_tf, wA_ff, aNilCheck_box, aNilCheck_ref, aAddr_box, aAddr_ref, aLoad_one, List.getElem?_cons_succ, List.getElem?_cons_zero, Option.map_some, bin_add, bin_sub, bin_lss, bin_leq, bin_gtr, bin_geq, bin_eql, bin_neq, str_eql, aMax_int, aMin_int, aUn_not, aPick_true, aPick_false, strip_int, strip_bool, strip_str, strip_nilp, strip_nils, strip_box, strip_ref, strip_agg, strip_tup, strip_undef, aBox_f, solid_agg, cells_agg, kLoad_box, kGd_true, kGd_false, kCall_ok, gt_iff_lt, ge_iff_le, Int.ofNat_lt, Int.ofNat_le, decide_true, decide_false, Nat.zero_add, Bool.not_true, Bool.not_false, aExtract_tup, fin1_some, resL_nil, resL_some, noRefL_cons, noRefL_nil, noRef_int, noRef_str, noRef_bool, noRef_nilp, noRef_agg, strip_fn, kLoad_ref, Bool.and_self, ite_true, q, strip_sh]
  rfl
theorem two_run : AC C 50 [] (.sl 9 1 (strs two) .sh) := by
  refine .intro en50 rfl (by rw [noRef_sl, strs_noRef]) ?_
  obtain ⟨N, q⟩ := AC.at (fields_run twoText two_ok.1 two_ok.2.1)
  refine ⟨N, fun n hn => ⟨[], ?_⟩⟩
  have q := q n hn
  unfold twoText at q
  rw [F50_eq, F50]
  simp -implicitDefEqProofs only [oh_some, mp_some, sto_some, br_true, br_false, gd_true, gd_false, wA_tt, wA_tup, wA_ft, wA_tf, wA_ff, aNilCheck_box, aNilCheck_ref, aAddr_box, aAddr_ref, aLoad_one, List.getElem?_cons_succ, List.getElem?_cons_zero, Option.map_some, bin_add, bin_sub, bin_lss, bin_leq, bin_gtr, bin_geq, bin_eql, bin_neq, str_eql, aMax_int, aMin_int, aUn_not, aPick_true, aPick_false, strip_int, strip_bool, strip_str, strip_nilp, strip_nils, strip_box, strip_ref, strip_agg, strip_tup, strip_undef, aBox_f, solid_agg, cells_agg, kLoad_box, kGd_true, kGd_false, kCall_ok, gt_iff_lt, ge_iff_le, Int.ofNat_lt, Int.ofNat_le, decide_true, decide_false, Nat.zero_add, Bool.not_true, Bool.not_false, aExtract_tup, fin1_some, resL_nil, resL_some, noRefL_cons, noRefL_nil, noRef_int, noRef_str, noRef_bool, noRef_nilp, noRef_agg, strip_fn, kLoad_ref, Bool.and_self, ite_true, q, strip_sh]
  rfl
end LexF

