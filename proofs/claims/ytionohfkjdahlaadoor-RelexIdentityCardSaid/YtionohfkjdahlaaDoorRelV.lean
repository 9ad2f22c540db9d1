/- relex.Update: the whole. -/
import Derived.Test.YtionohfkjdahlaaDoorRelU
set_option linter.all false
set_option maxRecDepth 100000
namespace LexF
open Go Go.Abs Go.Proofs

theorem offOf_mono {l : List UInt8} {i k : Nat} (h : i < k) (hk : k ≤ (tokz l).length) : offOf (tokz l) i < offOf (tokz l) k := by
  have ht := tokz_text _ l (Nat.le_refl _)
  generalize tokz l = ts at *
  have key : ∀ (ts : List Tok) (i k : Nat), (∀ t ∈ ts, t.2 ≠ []) → i < k → k ≤ ts.length → offOf ts i < offOf ts k := by
    intro ts
    induction ts with
    | nil => intro i k _ h hk; simp at hk; omega
    | cons t r ih =>
      intro i k hn h hk
      obtain ⟨k, rfl⟩ : ∃ q, k = q + 1 := ⟨k - 1, by omega⟩
      have hp : 0 < t.2.length := List.length_pos_iff.2 (hn t (by simp))
      have e : ∀ j, offOf (t :: r) (j + 1) = t.2.length + offOf r j := fun j => by simp [offOf, srcOfT]
      cases i with
      | zero => rw [e]; simp [offOf, srcOfT]; omega
      | succ i =>
        rw [e, e]
        have := ih i k (fun x hx => hn x (by simp [hx])) (by omega) (by simpa using hk)
        omega
  exact key ts i k ht h hk

theorem subBothN {s : List UInt8} {i j : Nat} (h1 : i ≤ j) (h2 : j ≤ s.length) : aSl Tryd.prog 9 (.str s) (some (I i)) (some (I j)) none = some (.str ((s.drop i).take (j - i))) := by
  have := EdF.subBoth (s := s) (i := (i : Int)) (j := (j : Int)) (by omega) (by omega) (by omega)
  rw [this, Int.toNat_natCast, Int.toNat_natCast, List.drop_take]

section
variable (src t : List UInt8) (a b : Nat)
/-- The edited source. -/
def nextOf : List UInt8 := src.take a ++ t ++ src.drop b

variable {src t a b}
theorem next_len (hab : a ≤ b) (hb : b ≤ src.length) : (nextOf src t a b).length = a + t.length + (src.length - b) := by
  unfold nextOf
  simp only [List.length_append, List.length_take, List.length_drop]
  omega
theorem next_tail (hab : a ≤ b) (hb : b ≤ src.length) {o q : Nat} (hq : b ≤ q) (ho : o = q + t.length + a - b) : (nextOf src t a b).drop o = src.drop q := by
  unfold nextOf
  have e : o = (src.take a ++ t).length + (q - b) := by simp only [List.length_append, List.length_take]; omega
  rw [e, List.drop_append, List.drop_of_length_le (by omega), List.nil_append, List.drop_drop]
  congr 1
  omega

theorem update2 (hs : src.length ≤ 2000) (hab : a ≤ b) (hb : b ≤ src.length) (hn : (nextOf src t a b).length ≤ 2000) (v ew : AV) (hv : IsT v (tokz src)) (he : IsN ew (ends 0 (tokz src))) (K : Nat) (hK : K ≤ (tokz src).length) (hKa : offOf (tokz src) K ≤ a) (tx : AV) :
    ∀ (k o : Nat) (R : List Tok) (u : AV), (nextOf src t a b).length - o ≤ k → o ≤ (nextOf src t a b).length → tokz (nextOf src t a b) = R ++ tokz ((nextOf src t a b).drop o) → K ≤ R.length → IsO u R →
    ∃ w r, IsT (AV.strip w) (tokz (nextOf src t a b)) ∧ w.noRef = true ∧ r ≤ (tokz src).length ∧ r ≤ (tokz (nextOf src t a b)).length ∧ ∃ N, ∀ n, N ≤ n → ∀ m, k < m → ∀ n' e s, e 15 = I o → e 9 = .str (nextOf src t a b) → e 13 = ew → e 17 = I ((nextOf src t a b).length - src.length : Int) → e 5 = .box [I a, I b, tx] 0 → e 16 = u → e 11 = v → e 14 = I K →
      aLoop (F24_L1 (den C n) n') m e s = some (.tup [w, I r, I 0], s) := by
  have hold := tokz_length src
  have hnew := tokz_length (nextOf src t a b)
  have hmono := (ends_mono (tokz src) 0 (tokz_text _ src (Nat.le_refl _))).1
  have hel : (ends 0 (tokz src)).length < 1000000 := by rw [ends_length]; omega
  have hnl := next_len (t := t) hab hb
  have hold' := hv.len
  have stv := hv.strip
  have ste := he.strip
  intro k
  induction k with
  | zero =>
    intro o R u hk ho hR hKR hu
    have hd : tokz ((nextOf src t a b).drop o) = [] := by rw [List.drop_of_length_le (by omega)]; rfl
    rw [hd, List.append_nil] at hR
    refine ⟨u.strip, K, by rw [hR, hu.strip.strip]; exact hu.strip, hu.strip.noRef, hK, by rw [hR]; exact hKR, 0, fun n _ m hm n' e s h15 h9 h13 h17 h5 h16 h11 h14 => ?_⟩
    obtain ⟨m, rfl⟩ : ∃ j, m = j + 1 := ⟨m - 1, by omega⟩
    have c : ¬ o < (nextOf src t a b).length := by omega
    rw [aLoop, F24_L1]
    simp -implicitDefEqProofs only [oh_some, mp_some, sto_some, br_true, br_false, gd_true, gd_false, wA_tt, wA_tup, wA_ft, wA_tf, wA_ff, aNilCheck_box, aNilCheck_ref, aAddr_box, aAddr_ref, aLoad_one, List.getElem?_cons_succ, List.getElem?_cons_zero, Option.map_some, bin_add, bin_sub, bin_lss, bin_leq, bin_gtr, bin_geq, bin_eql, bin_neq, str_eql, aMax_int, aMin_int, aUn_not, aPick_true, aPick_false, strip_int, strip_bool, strip_str, strip_nilp, strip_nils, strip_box, strip_ref, strip_agg, strip_tup, strip_undef, aBox_f, solid_agg, cells_agg, kLoad_box, kGd_true, kGd_false, kCall_ok, gt_iff_lt, ge_iff_le, Int.ofNat_lt, Int.ofNat_le, decide_true, decide_false, Nat.zero_add, Bool.not_true, Bool.not_false, aExtract_tup, fin1_some, resL_nil, resL_some, noRefL_cons, noRefL_nil, noRef_int, noRef_str, noRef_bool, noRef_nilp, noRef_agg, strip_fn, kLoad_ref, Bool.and_self, ite_true, h15, h9, h13, h17, h5, h16, h11, h14, len9, c]
  | succ k ih =>
    intro o R u hk ho hR hKR hu
    by_cases c : o < (nextOf src t a b).length
    · have w1 : IntKind.i64.wrap ((o : Int) - ((nextOf src t a b).length - src.length : Int)) = (o : Int) - ((nextOf src t a b).length - src.length : Int) := by rw [wrap64] <;> omega
      obtain ⟨N1, q1⟩ := AC.at (resume_run ew _ he hmono hel ((o : Int) - ((nextOf src t a b).length - src.length : Int)))
      by_cases hc : (b : Int) ≤ (o : Int) - ((nextOf src t a b).length - src.length : Int) ∧ 0 ≤ resume (ends 0 (tokz src)) ((o : Int) - ((nextOf src t a b).length - src.length : Int))
      · obtain ⟨hc1, hc2⟩ := hc
        obtain ⟨i, hi1, hi2, hi3⟩ := resume_ok hc2
        obtain ⟨y, hy1, hy2⟩ := hv.drop hi2
        have hyt : y = .sl 39 2 (tv ((tokz src).drop i)) .sh ∨ y = .sl 39 2 (tv ((tokz src).drop i)) .own ∨ ((tokz src).drop i = [] ∧ y = .nils) := by
          rcases hy2 with h | h
          · exact .inl h
          · exact .inr (.inr h)
        have htail : tokz ((nextOf src t a b).drop o) = (tokz src).drop i := by
          rw [next_tail (t := t) hab hb (o := o) (q := offOf (tokz src) i) (by omega) (by omega), tokz_from]
        have hRl : R.length + ((tokz src).drop i).length = (tokz (nextOf src t a b)).length := by
          rw [hR, htail, List.length_append]
        have hKi : K ≤ i := by
          by_cases h : K ≤ i
          · exact h
          · have := offOf_mono (l := src) (i := i) (k := K) (by omega) hK
            omega
        have hdl : ((tokz src).drop i).length = (tokz src).length - i := List.length_drop
        obtain ⟨w, hw1, hw2⟩ := hu.app hyt (by omega)
        refine ⟨w, K + (tokz src).length - i, by rw [hR, htail]; exact hw2.strip, hw2.noRef, by omega, by omega, N1, fun n hn m hm n' e s h15 h9 h13 h17 h5 h16 h11 h14 => ?_⟩
        obtain ⟨m, rfl⟩ : ∃ j, m = j + 1 := ⟨m - 1, by omega⟩
        have q1 := q1 n hn
        rw [hi1] at q1
        have w2 := wadd (a := K) (b := (tokz src).length) (by omega)
        have w3 : IntKind.i64.wrap (((K + (tokz src).length : Nat) : Int) - (i : Int)) = ((K + (tokz src).length - i : Nat) : Int) := by rw [wrap64] <;> omega
        have z : (0 : Int) ≤ (i : Int) := by omega
        rw [aLoop, F24_L1]
        simp -implicitDefEqProofs only [oh_some, mp_some, sto_some, br_true, br_false, gd_true, gd_false, wA_tt, wA_tup, wA_ft, wA_tf, wA_ff, aNilCheck_box, aNilCheck_ref, aAddr_box, aAddr_ref, aLoad_one, List.getElem?_cons_succ, List.getElem?_cons_zero, Option.map_some, bin_add, bin_sub, bin_lss, bin_leq, bin_gtr, bin_geq, bin_eql, bin_neq, str_eql, aMax_int, aMin_int, aUn_not, aPick_true, aPick_false, strip_int, strip_bool, strip_str, strip_nilp, strip_nils, strip_box, strip_ref, strip_agg, strip_tup, strip_undef, aBox_f, solid_agg, cells_agg, kLoad_box, kGd_true, kGd_false, kCall_ok, gt_iff_lt, ge_iff_le, Int.ofNat_lt, Int.ofNat_le, decide_true, decide_false, Nat.zero_add, Bool.not_true, Bool.not_false, aExtract_tup, fin1_some, resL_nil, resL_some, noRefL_cons, noRefL_nil, noRef_int, noRef_str, noRef_bool, noRef_nilp, noRef_agg, strip_fn, kLoad_ref, Bool.and_self, ite_true, h15, h9, h13, h17, h5, h16, h11, h14, len9, c, ste, stv, w1, w2, w3, q1, hc1, z, hy1, hw1, hold']
      · have hlt : ((nextOf src t a b).drop o) ≠ [] := by
          intro e
          have := congrArg List.length e
          rw [List.length_drop, List.length_nil] at this
          omega
        obtain ⟨x, r, hx⟩ : ∃ x r, (nextOf src t a b).drop o = x :: r := by
          cases h : (nextOf src t a b).drop o with
          | nil => exact absurd h hlt
          | cons x r => exact ⟨x, r, rfl⟩
        have hxl : (x :: r).length = (nextOf src t a b).length - o := by rw [← hx, List.length_drop]
        have hb2 := first_bounds (x :: r) (by simp)
        obtain ⟨N2, q2⟩ := AC.at (first_run x r (by omega))
        have htok := tokz_cons (l := x :: r) (by simp)
        have e3 := subBothN (s := nextOf src t a b) (i := o) (j := o + (first (x :: r)).1) (by omega) (by omega)
        rw [hx, Nat.add_sub_cancel_left] at e3
        have hdd : (x :: r).drop (first (x :: r)).1 = (nextOf src t a b).drop (o + (first (x :: r)).1) := by rw [← hx, List.drop_drop]
        rw [hx, htok, hdd] at hR
        unfold firstV at q2
        generalize (first (x :: r)).1 = z at *
        generalize (first (x :: r)).2 = y at *
        generalize (x :: r).take z = tk at *
        obtain ⟨w, hw1, hw2⟩ := hu.app (u := .sl 39 2 (tv [(y, tk)]) .own) (ys := [(y, tk)]) (.inr (.inl rfl)) (by
          have := congrArg List.length hR
          simp only [List.length_append, List.length_cons] at this
          simp only [List.length_cons, List.length_nil]
          omega)
        have hR' : tokz (nextOf src t a b) = (R ++ [(y, tk)]) ++ tokz ((nextOf src t a b).drop (o + z)) := by rw [hR, List.append_assoc]; rfl
        obtain ⟨w', r', k1, k2, k3, k4, N3, q3⟩ := ih (o + z) (R ++ [(y, tk)]) w (by omega) (by omega) hR' (by rw [List.length_append]; omega) hw2
        refine ⟨w', r', k1, k2, k3, k4, max N1 (max N2 N3), fun n hn m hm n' e s h15 h9 h13 h17 h5 h16 h11 h14 => ?_⟩
        simp only [Nat.max_le] at hn
        obtain ⟨m, rfl⟩ : ∃ j, m = j + 1 := ⟨m - 1, by omega⟩
        have q1 := q1 n (by omega)
        have q2 := q2 n (by omega)
        have e1 := subDrop (s := nextOf src t a b) (i := o) (by omega)
        rw [hx] at e1
        have w2 := wadd (a := o) (b := z) (by omega)
        have b1 := build39 y tk
        have b2 : aBuildSlice Tryd.prog 35 1 [(0, .agg [I y, .str tk])] = some (.sl 39 2 [.agg [I y, .str tk]] .own) := by kernel_rfl
        have hw1 : aAppend Tryd.prog 35 35 u (.sl 39 2 [.agg [I y, .str tk]] .own) = some w := hw1
        have step := q3 n (by omega) m (by omega) n'
        rw [aLoop, F24_L1]
        by_cases hc1 : (b : Int) ≤ (o : Int) - ((nextOf src t a b).length - src.length : Int)
        · have hc2 : ¬ 0 ≤ resume (ends 0 (tokz src)) ((o : Int) - ((nextOf src t a b).length - src.length : Int)) := fun h => hc ⟨hc1, h⟩
          simp -implicitDefEqProofs only [oh_some, mp_some, sto_some, br_true, br_false, gd_true, gd_false, wA_tt, wA_tup, wA_ft, wA_tf, wA_ff, aNilCheck_box, aNilCheck_ref, aAddr_box, aAddr_ref, aLoad_one, List.getElem?_cons_succ, List.getElem?_cons_zero, Option.map_some, bin_add, bin_sub, bin_lss, bin_leq, bin_gtr, bin_geq, bin_eql, bin_neq, str_eql, aMax_int, aMin_int, aUn_not, aPick_true, aPick_false, strip_int, strip_bool, strip_str, strip_nilp, strip_nils, strip_box, strip_ref, strip_agg, strip_tup, strip_undef, aBox_f, solid_agg, cells_agg, kLoad_box, kGd_true, kGd_false, kCall_ok, gt_iff_lt, ge_iff_le, Int.ofNat_lt, Int.ofNat_le, decide_true, decide_false, Nat.zero_add, Bool.not_true, Bool.not_false, aExtract_tup, fin1_some, resL_nil, resL_some, noRefL_cons, noRefL_nil, noRef_int, noRef_str, noRef_bool, noRef_nilp, noRef_agg, strip_fn, kLoad_ref, Bool.and_self, ite_true, h15, h9, h13, h17, h5, h16, h11, h14, len9, c, ste, stv, w1, w2, q1, q2, hc1, hc2, e1, e3, b1, b2, hw1]
          exact step _ s (by simp [upds_at, upd_at]) (by simp [upds_at, upd_at, h9]) (by simp [upds_at, upd_at, h13]) (by simp [upds_at, upd_at, h17]) (by simp [upds_at, upd_at, h5]) (by simp [upds_at, upd_at]) (by simp [upds_at, upd_at, h11]) (by simp [upds_at, upd_at, h14])
        · simp -implicitDefEqProofs only [oh_some, mp_some, sto_some, br_true, br_false, gd_true, gd_false, wA_tt, wA_tup, wA_ft, wA_tf, wA_ff, aNilCheck_box, aNilCheck_ref, aAddr_box, aAddr_ref, aLoad_one, List.getElem?_cons_succ, List.getElem?_cons_zero, Option.map_some, bin_add, bin_sub, bin_lss, bin_leq, bin_gtr, bin_geq, bin_eql, bin_neq, str_eql, aMax_int, aMin_int, aUn_not, aPick_true, aPick_false, strip_int, strip_bool, strip_str, strip_nilp, strip_nils, strip_box, strip_ref, strip_agg, strip_tup, strip_undef, aBox_f, solid_agg, cells_agg, kLoad_box, kGd_true, kGd_false, kCall_ok, gt_iff_lt, ge_iff_le, Int.ofNat_lt, Int.ofNat_le, decide_true, decide_false, Nat.zero_add, Bool.not_true, Bool.not_false, aExtract_tup, fin1_some, resL_nil, resL_some, noRefL_cons, noRefL_nil, noRef_int, noRef_str, noRef_bool, noRef_nilp, noRef_agg, strip_fn, kLoad_ref, Bool.and_self, ite_true, h15, h9, h13, h17, h5, h16, h11, h14, len9, c, ste, stv, w1, w2, q1, q2, hc1, e1, e3, b1, b2, hw1]
          exact step _ s (by simp [upds_at, upd_at]) (by simp [upds_at, upd_at, h9]) (by simp [upds_at, upd_at, h13]) (by simp [upds_at, upd_at, h17]) (by simp [upds_at, upd_at, h5]) (by simp [upds_at, upd_at]) (by simp [upds_at, upd_at, h11]) (by simp [upds_at, upd_at, h14])
    · have hd : tokz ((nextOf src t a b).drop o) = [] := by rw [List.drop_of_length_le (by omega)]; rfl
      rw [hd, List.append_nil] at hR
      refine ⟨u.strip, K, by rw [hR, hu.strip.strip]; exact hu.strip, hu.strip.noRef, hK, by rw [hR]; exact hKR, 0, fun n _ m hm n' e s h15 h9 h13 h17 h5 h16 h11 h14 => ?_⟩
      obtain ⟨m, rfl⟩ : ∃ j, m = j + 1 := ⟨m - 1, by omega⟩
      rw [aLoop, F24_L1]
      simp -implicitDefEqProofs only [oh_some, mp_some, sto_some, br_true, br_false, gd_true, gd_false, wA_tt, wA_tup, wA_ft, wA_tf, wA_ff, aNilCheck_box, aNilCheck_ref, aAddr_box, aAddr_ref, aLoad_one, List.getElem?_cons_succ, List.getElem?_cons_zero, Option.map_some, bin_add, bin_sub, bin_lss, bin_leq, bin_gtr, bin_geq, bin_eql, bin_neq, str_eql, aMax_int, aMin_int, aUn_not, aPick_true, aPick_false, strip_int, strip_bool, strip_str, strip_nilp, strip_nils, strip_box, strip_ref, strip_agg, strip_tup, strip_undef, aBox_f, solid_agg, cells_agg, kLoad_box, kGd_true, kGd_false, kCall_ok, gt_iff_lt, ge_iff_le, Int.ofNat_lt, Int.ofNat_le, decide_true, decide_false, Nat.zero_add, Bool.not_true, Bool.not_false, aExtract_tup, fin1_some, resL_nil, resL_some, noRefL_cons, noRefL_nil, noRef_int, noRef_str, noRef_bool, noRef_nilp, noRef_agg, strip_fn, kLoad_ref, Bool.and_self, ite_true, h15, h9, h13, h17, h5, h16, h11, h14, len9, c]
end
end LexF

