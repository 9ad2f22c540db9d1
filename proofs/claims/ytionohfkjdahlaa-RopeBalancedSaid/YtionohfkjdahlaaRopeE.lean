/- Lists of edits, in the abstract machine. -/
import Derived.Test.YtionohfkjdahlaaRopeV
set_option linter.all false
set_option maxRecDepth 100000
namespace RopeF
open Go Go.Abs Go.Proofs

structure Ed where
  a : Int
  b : Int
  t : List UInt8
abbrev Ed.v (x : Ed) : AV := .agg [I x.a, I x.b, .str x.t]
abbrev eds (xs : List Ed) : List AV := xs.map Ed.v

theorem under44 : Try.prog.underlying 44 = some (.slice 65) := by kernel_rfl
theorem sz65 : szOf Try.prog 65 = some 3 := by kernel_rfl
theorem idx44 {xs : List Ed} {i : Nat} {x : Ed} {f : Flag} (h : xs[i]? = some x) : aIndexAddr Try.prog 44 (.sl 65 3 (eds xs) f) (I i) = some (.box [I x.a, I x.b, .str x.t] 0) := by
  simp [aIndexAddr, under44, sz65, h, AV.cells]
theorem alloc65 (s : Heap) : aAlloc Try.prog 65 s = some (.ref s.length 0, s ++ [(65, [I 0, I 0, .str []])]) := by kernel_rfl
theorem store65 (s : Heap) (a b c : AV) (x : Ed) : aStore 3 (s ++ [(65, [a, b, c])]) (.ref s.length 0) x.v = some (s ++ [(65, [I x.a, I x.b, .str x.t])]) := by
  simp [aStore, AV.solid, AV.cells, setL, stCells]
theorem load65 (s : Heap) (x y z : AV) (k : Nat) : aLoad false false 1 (.ref s.length k) (s ++ [(65, [x, y, z])]) = [x, y, z][k]?.map fun r => (r.strip, s ++ [(65, [x, y, z])]) := by
  simp [aLoad, aLoadR, aLoadC_one]
  cases [x, y, z][k]? <;> rfl

/-- A slice of edits, as it is handed on. -/
def IsE (v : AV) (xs : List Ed) : Prop := v = .sl 65 3 (eds xs) .sh ∨ (xs = [] ∧ v = .nils)
theorem IsE.strip {v : AV} {xs : List Ed} (h : IsE v xs) : v.strip = v := by rcases h with rfl | ⟨_, rfl⟩ <;> rfl
theorem eds_noRef (xs : List Ed) : noRefL (eds xs) = true := by induction xs with
  | nil => rfl
  | cons x xs ih => show noRefL (x.v :: eds xs) = true; rw [noRefL_cons, ih]; rfl
theorem IsE.noRef {v : AV} {xs : List Ed} (h : IsE v xs) : v.noRef = true := by
  rcases h with rfl | ⟨_, rfl⟩
  · simp [AV.noRef, eds_noRef]
  · rfl
theorem IsE.len {v : AV} {xs : List Ed} (h : IsE v xs) : aLen Try.prog 44 v = some (I xs.length) := by
  rcases h with rfl | ⟨rfl, rfl⟩
  · simp [aLen, under44]
  · simp [aLen, under44]

/-- Validate, behind its first test. -/
def valid (len : Nat) : Int → Int → List Ed → Int
  | _, n, [] => if 2000 < n then 2 else 0
  | p, n, x :: xs => if x.a ≤ p ∨ x.b < x.a ∨ (len : Int) < x.b then 3 else valid len x.b (n + (x.t.length - (x.b - x.a))) xs

theorem valid_loop (src : List UInt8) (hs : src.length ≤ 2000) (xs : List Ed) (hl : xs.length ≤ 50) (ht : ∀ x ∈ xs, x.t.length ≤ 140737488355328) : ∀ (k i : Nat) (p n : Int) (s : Heap), xs.length - i = k → i ≤ xs.length → -1 ≤ p → -(10000 * (i : Int)) ≤ n → n ≤ 2000 + (i : Int) * 140737488355328 →
    ∀ D m n' e, k < m → e 21 = I i → e 20 = I xs.length → IsE (e 19) xs → e 5 = I p → e 6 = I n → e 0 = .str src → ∃ s', aLoop (F26_L0 D n') m e s = some (I (valid src.length p n (xs.drop i)), s') := by
  intro k
  induction k with
  | zero =>
    intro i p n s hk hi hp h1 h2 D m n' e hm h21 h20 h19 h5 h6 h0
    obtain ⟨m, rfl⟩ : ∃ j, m = j + 1 := ⟨m - 1, by omega⟩
    have c : ¬ i < xs.length := by omega
    rw [aLoop, F26_L0, List.drop_of_length_le (by omega), valid]
    refine ⟨s, ?_⟩
    by_cases c2 : 2000 < n
    · rw [if_pos c2]
      simp -implicitDefEqProofs only [oh_some, mp_some, sto_some, br_true, br_false, gd_true, gd_false, wA_tt, wA_tup, wA_ft, wA_tf, wA_ff, enc_strip, lp_strip, rp_strip, encR_strip, enc_check, enc_addr, aNilCheck_box, aNilCheck_ref, aAddr_box, aAddr_ref, aLoad_one, List.getElem?_cons_succ, List.getElem?_cons_zero, Option.map_some, bin_add, bin_sub, bin_lss, bin_leq, bin_gtr, bin_geq, bin_eql, bin_neq, str_eql, aMax_int, aMin_int, aUn_not, aPick_true, aPick_false, strip_int, strip_bool, strip_str, strip_nilp, strip_nils, strip_box, strip_ref, strip_agg, strip_tup, strip_undef, aBox_f, solid_agg, cells_agg, kLoad_box, kGd_true, kGd_false, kCall_ok, gt_iff_lt, ge_iff_le, Int.ofNat_lt, Int.ofNat_le, decide_true, decide_false, Nat.zero_add, Bool.not_true, Bool.not_false, aExtract_tup, fin1_some, resL_nil, resL_some, enc_noRef, encR_noRef, noRefL_cons, noRefL_nil, noRef_int, noRef_str, noRef_bool, Bool.and_self, ite_true, h21, h20, h5, h6, h0, c, c2]
    · rw [if_neg c2]
      simp -implicitDefEqProofs only [oh_some, mp_some, sto_some, br_true, br_false, gd_true, gd_false, wA_tt, wA_tup, wA_ft, wA_tf, wA_ff, enc_strip, lp_strip, rp_strip, encR_strip, enc_check, enc_addr, aNilCheck_box, aNilCheck_ref, aAddr_box, aAddr_ref, aLoad_one, List.getElem?_cons_succ, List.getElem?_cons_zero, Option.map_some, bin_add, bin_sub, bin_lss, bin_leq, bin_gtr, bin_geq, bin_eql, bin_neq, str_eql, aMax_int, aMin_int, aUn_not, aPick_true, aPick_false, strip_int, strip_bool, strip_str, strip_nilp, strip_nils, strip_box, strip_ref, strip_agg, strip_tup, strip_undef, aBox_f, solid_agg, cells_agg, kLoad_box, kGd_true, kGd_false, kCall_ok, gt_iff_lt, ge_iff_le, Int.ofNat_lt, Int.ofNat_le, decide_true, decide_false, Nat.zero_add, Bool.not_true, Bool.not_false, aExtract_tup, fin1_some, resL_nil, resL_some, enc_noRef, encR_noRef, noRefL_cons, noRefL_nil, noRef_int, noRef_str, noRef_bool, Bool.and_self, ite_true, h21, h20, h5, h6, h0, c, c2]
  | succ k ih =>
    intro i p n s hk hi hp h1 h2 D m n' e hm h21 h20 h19 h5 h6 h0
    obtain ⟨m, rfl⟩ : ∃ j, m = j + 1 := ⟨m - 1, by omega⟩
    have hlt : i < xs.length := by omega
    have e0 : xs[i]? = some xs[i] := List.getElem?_eq_getElem hlt
    replace h19 : e 19 = .sl 65 3 (eds xs) .sh := by
      rcases h19 with h | ⟨h, _⟩
      · exact h
      · subst h; simp at hlt
    have e1 := idx44 (f := .sh) e0
    have e2 := wadd1 (a := i) (by omega)
    have htx := ht xs[i] (List.getElem_mem hlt)
    rw [aLoop, F26_L0, List.drop_eq_getElem_cons hlt, valid]
    by_cases c1 : xs[i].a ≤ p
    · rw [if_pos (.inl c1)]
      refine ⟨s ++ [(65, [I xs[i].a, I xs[i].b, .str xs[i].t])], ?_⟩
      simp -implicitDefEqProofs only [oh_some, mp_some, sto_some, br_true, br_false, gd_true, gd_false, wA_tt, wA_tup, wA_ft, wA_tf, wA_ff, enc_strip, lp_strip, rp_strip, encR_strip, enc_check, enc_addr, aNilCheck_box, aNilCheck_ref, aAddr_box, aAddr_ref, aLoad_one, List.getElem?_cons_succ, List.getElem?_cons_zero, Option.map_some, bin_add, bin_sub, bin_lss, bin_leq, bin_gtr, bin_geq, bin_eql, bin_neq, str_eql, aMax_int, aMin_int, aUn_not, aPick_true, aPick_false, strip_int, strip_bool, strip_str, strip_nilp, strip_nils, strip_box, strip_ref, strip_agg, strip_tup, strip_undef, aBox_f, solid_agg, cells_agg, kLoad_box, kGd_true, kGd_false, kCall_ok, gt_iff_lt, ge_iff_le, Int.ofNat_lt, Int.ofNat_le, decide_true, decide_false, Nat.zero_add, Bool.not_true, Bool.not_false, aExtract_tup, fin1_some, resL_nil, resL_some, enc_noRef, encR_noRef, noRefL_cons, noRefL_nil, noRef_int, noRef_str, noRef_bool, Bool.and_self, ite_true, h21, h20, h19, h5, h6, h0, hlt, e1, aLoad_agg, List.length_cons, List.length_nil, List.drop_zero, List.take_succ_cons, List.take_zero, Nat.le_refl, alloc65, store65, load65, c1]
    · by_cases c2 : xs[i].b < xs[i].a
      · rw [if_pos (.inr (.inl c2))]
        refine ⟨s ++ [(65, [I xs[i].a, I xs[i].b, .str xs[i].t])], ?_⟩
        simp -implicitDefEqProofs only [oh_some, mp_some, sto_some, br_true, br_false, gd_true, gd_false, wA_tt, wA_tup, wA_ft, wA_tf, wA_ff, enc_strip, lp_strip, rp_strip, encR_strip, enc_check, enc_addr, aNilCheck_box, aNilCheck_ref, aAddr_box, aAddr_ref, aLoad_one, List.getElem?_cons_succ, List.getElem?_cons_zero, Option.map_some, bin_add, bin_sub, bin_lss, bin_leq, bin_gtr, bin_geq, bin_eql, bin_neq, str_eql, aMax_int, aMin_int, aUn_not, aPick_true, aPick_false, strip_int, strip_bool, strip_str, strip_nilp, strip_nils, strip_box, strip_ref, strip_agg, strip_tup, strip_undef, aBox_f, solid_agg, cells_agg, kLoad_box, kGd_true, kGd_false, kCall_ok, gt_iff_lt, ge_iff_le, Int.ofNat_lt, Int.ofNat_le, decide_true, decide_false, Nat.zero_add, Bool.not_true, Bool.not_false, aExtract_tup, fin1_some, resL_nil, resL_some, enc_noRef, encR_noRef, noRefL_cons, noRefL_nil, noRef_int, noRef_str, noRef_bool, Bool.and_self, ite_true, h21, h20, h19, h5, h6, h0, hlt, e1, aLoad_agg, List.length_cons, List.length_nil, List.drop_zero, List.take_succ_cons, List.take_zero, Nat.le_refl, alloc65, store65, load65, c1, c2]
      · by_cases c3 : (src.length : Int) < xs[i].b
        · rw [if_pos (.inr (.inr c3))]
          refine ⟨s ++ [(65, [I xs[i].a, I xs[i].b, .str xs[i].t])], ?_⟩
          simp -implicitDefEqProofs only [oh_some, mp_some, sto_some, br_true, br_false, gd_true, gd_false, wA_tt, wA_tup, wA_ft, wA_tf, wA_ff, enc_strip, lp_strip, rp_strip, encR_strip, enc_check, enc_addr, aNilCheck_box, aNilCheck_ref, aAddr_box, aAddr_ref, aLoad_one, List.getElem?_cons_succ, List.getElem?_cons_zero, Option.map_some, bin_add, bin_sub, bin_lss, bin_leq, bin_gtr, bin_geq, bin_eql, bin_neq, str_eql, aMax_int, aMin_int, aUn_not, aPick_true, aPick_false, strip_int, strip_bool, strip_str, strip_nilp, strip_nils, strip_box, strip_ref, strip_agg, strip_tup, strip_undef, aBox_f, solid_agg, cells_agg, kLoad_box, kGd_true, kGd_false, kCall_ok, gt_iff_lt, ge_iff_le, Int.ofNat_lt, Int.ofNat_le, decide_true, decide_false, Nat.zero_add, Bool.not_true, Bool.not_false, aExtract_tup, fin1_some, resL_nil, resL_some, enc_noRef, encR_noRef, noRefL_cons, noRefL_nil, noRef_int, noRef_str, noRef_bool, Bool.and_self, ite_true, h21, h20, h19, h5, h6, h0, hlt, e1, aLoad_agg, List.length_cons, List.length_nil, List.drop_zero, List.take_succ_cons, List.take_zero, Nat.le_refl, alloc65, store65, load65, c1, c2, c3, len9]
        · rw [if_neg (by rintro (h | h | h); exact c1 h; exact c2 h; exact c3 h)]
          have w1 : IntKind.i64.wrap (xs[i].b - xs[i].a) = xs[i].b - xs[i].a := by rw [wrap64] <;> omega
          have w2 : IntKind.i64.wrap ((xs[i].t.length : Int) - (xs[i].b - xs[i].a)) = (xs[i].t.length : Int) - (xs[i].b - xs[i].a) := by rw [wrap64] <;> omega
          have w3 : IntKind.i64.wrap (n + ((xs[i].t.length : Int) - (xs[i].b - xs[i].a))) = n + ((xs[i].t.length : Int) - (xs[i].b - xs[i].a)) := by rw [wrap64] <;> omega
          simp -implicitDefEqProofs only [oh_some, mp_some, sto_some, br_true, br_false, gd_true, gd_false, wA_tt, wA_tup, wA_ft, wA_tf, wA_ff, enc_strip, lp_strip, rp_strip, encR_strip, enc_check, enc_addr, aNilCheck_box, aNilCheck_ref, aAddr_box, aAddr_ref, aLoad_one, List.getElem?_cons_succ, List.getElem?_cons_zero, Option.map_some, bin_add, bin_sub, bin_lss, bin_leq, bin_gtr, bin_geq, bin_eql, bin_neq, str_eql, aMax_int, aMin_int, aUn_not, aPick_true, aPick_false, strip_int, strip_bool, strip_str, strip_nilp, strip_nils, strip_box, strip_ref, strip_agg, strip_tup, strip_undef, aBox_f, solid_agg, cells_agg, kLoad_box, kGd_true, kGd_false, kCall_ok, gt_iff_lt, ge_iff_le, Int.ofNat_lt, Int.ofNat_le, decide_true, decide_false, Nat.zero_add, Bool.not_true, Bool.not_false, aExtract_tup, fin1_some, resL_nil, resL_some, enc_noRef, encR_noRef, noRefL_cons, noRefL_nil, noRef_int, noRef_str, noRef_bool, Bool.and_self, ite_true, h21, h20, h19, h5, h6, h0, hlt, e1, e2, aLoad_agg, List.length_cons, List.length_nil, List.drop_zero, List.take_succ_cons, List.take_zero, Nat.le_refl, alloc65, store65, load65, c1, c2, c3, len9, w1, w2, w3]
          exact ih (i + 1) xs[i].b _ _ (by omega) (by omega) (by omega) (by omega) (by omega) D m n' _ (by omega) (by simp [upds_at, upd_at]) (by simp [upds_at, upd_at, h20]) (.inl (by simp [upds_at, upd_at, h19])) (by simp [upds_at, upd_at]) (by simp [upds_at, upd_at]) (by simp [upds_at, upd_at, h0])


def validate (src : List UInt8) (xs : List Ed) : Int := if 2000 < src.length ∨ 50 < xs.length then 2 else valid src.length (-1) src.length xs

theorem validate_run (src : List UInt8) (v : AV) (xs : List Ed) (h : IsE v xs) (ht : ∀ x ∈ xs, x.t.length ≤ 140737488355328) : AC C 26 [.str src, v] (I (validate src xs)) := by
  refine .intro en26 (by simp [noRefL_cons, noRefL_nil, noRef_str, h.noRef]) (by rfl) ?_
  have l := h.len
  have st := h.strip
  refine ⟨52, fun n hn => ?_⟩
  rw [F26_eq, F26]
  have e1 : ((2000 : Int) < (src.length : Int)) ↔ 2000 < src.length := by omega
  have e2 : ((50 : Int) < (xs.length : Int)) ↔ 50 < xs.length := by omega
  unfold validate
  by_cases c1 : 2000 < src.length
  · rw [if_pos (.inl c1)]
    refine ⟨[], ?_⟩
    simp -implicitDefEqProofs only [oh_some, mp_some, sto_some, br_true, br_false, gd_true, gd_false, wA_tt, wA_tup, wA_ft, wA_tf, wA_ff, enc_strip, lp_strip, rp_strip, encR_strip, enc_check, enc_addr, aNilCheck_box, aNilCheck_ref, aAddr_box, aAddr_ref, aLoad_one, List.getElem?_cons_succ, List.getElem?_cons_zero, Option.map_some, bin_add, bin_sub, bin_lss, bin_leq, bin_gtr, bin_geq, bin_eql, bin_neq, str_eql, aMax_int, aMin_int, aUn_not, aPick_true, aPick_false, strip_int, strip_bool, strip_str, strip_nilp, strip_nils, strip_box, strip_ref, strip_agg, strip_tup, strip_undef, aBox_f, solid_agg, cells_agg, kLoad_box, kGd_true, kGd_false, kCall_ok, gt_iff_lt, ge_iff_le, Int.ofNat_lt, Int.ofNat_le, decide_true, decide_false, Nat.zero_add, Bool.not_true, Bool.not_false, aExtract_tup, fin1_some, resL_nil, resL_some, enc_noRef, encR_noRef, noRefL_cons, noRefL_nil, noRef_int, noRef_str, noRef_bool, Bool.and_self, ite_true, st, l, len9, e1, c1]
  · by_cases c2 : 50 < xs.length
    · rw [if_pos (.inr c2)]
      refine ⟨[], ?_⟩
      simp -implicitDefEqProofs only [oh_some, mp_some, sto_some, br_true, br_false, gd_true, gd_false, wA_tt, wA_tup, wA_ft, wA_tf, wA_ff, enc_strip, lp_strip, rp_strip, encR_strip, enc_check, enc_addr, aNilCheck_box, aNilCheck_ref, aAddr_box, aAddr_ref, aLoad_one, List.getElem?_cons_succ, List.getElem?_cons_zero, Option.map_some, bin_add, bin_sub, bin_lss, bin_leq, bin_gtr, bin_geq, bin_eql, bin_neq, str_eql, aMax_int, aMin_int, aUn_not, aPick_true, aPick_false, strip_int, strip_bool, strip_str, strip_nilp, strip_nils, strip_box, strip_ref, strip_agg, strip_tup, strip_undef, aBox_f, solid_agg, cells_agg, kLoad_box, kGd_true, kGd_false, kCall_ok, gt_iff_lt, ge_iff_le, Int.ofNat_lt, Int.ofNat_le, decide_true, decide_false, Nat.zero_add, Bool.not_true, Bool.not_false, aExtract_tup, fin1_some, resL_nil, resL_some, enc_noRef, encR_noRef, noRefL_cons, noRefL_nil, noRef_int, noRef_str, noRef_bool, Bool.and_self, ite_true, st, l, len9, e1, e2, c1, c2]
    · rw [if_neg (by omega)]
      have q := valid_loop src (by omega) xs (by omega) ht xs.length 0 (-1) src.length [] (by omega) (by omega) (by omega) (by omega) (by omega) (den C n) n n
      simp -implicitDefEqProofs only [oh_some, mp_some, sto_some, br_true, br_false, gd_true, gd_false, wA_tt, wA_tup, wA_ft, wA_tf, wA_ff, enc_strip, lp_strip, rp_strip, encR_strip, enc_check, enc_addr, aNilCheck_box, aNilCheck_ref, aAddr_box, aAddr_ref, aLoad_one, List.getElem?_cons_succ, List.getElem?_cons_zero, Option.map_some, bin_add, bin_sub, bin_lss, bin_leq, bin_gtr, bin_geq, bin_eql, bin_neq, str_eql, aMax_int, aMin_int, aUn_not, aPick_true, aPick_false, strip_int, strip_bool, strip_str, strip_nilp, strip_nils, strip_box, strip_ref, strip_agg, strip_tup, strip_undef, aBox_f, solid_agg, cells_agg, kLoad_box, kGd_true, kGd_false, kCall_ok, gt_iff_lt, ge_iff_le, Int.ofNat_lt, Int.ofNat_le, decide_true, decide_false, Nat.zero_add, Bool.not_true, Bool.not_false, aExtract_tup, fin1_some, resL_nil, resL_some, enc_noRef, encR_noRef, noRefL_cons, noRefL_nil, noRef_int, noRef_str, noRef_bool, Bool.and_self, ite_true, st, l, len9, e1, e2, c1, c2]
      exact q _ (by omega) (by simp [upds_at, upd_at]) (by simp [upds_at, upd_at]) (by simpa [upds_at, upd_at] using h) (by simp [upds_at, upd_at]) (by simp [upds_at, upd_at]) (by simp [upds_at, upd_at, argEnv])
end RopeF

