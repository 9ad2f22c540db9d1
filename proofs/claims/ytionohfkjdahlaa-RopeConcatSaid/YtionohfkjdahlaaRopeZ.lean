/- RopeConcat answers true, in the abstract machine. -/
import Derived.Test.YtionohfkjdahlaaRopeY
set_option linter.all false
set_option maxRecDepth 100000
namespace RopeF
open Go Go.Abs Go.Proofs

def cutV (xs : List (List UInt8)) : AV := match xs with
  | [] => .nils
  | x :: r => .sl 9 1 (strs (x :: r)) .own
theorem cutV_strip (xs : List (List UInt8)) : IsS (cutV xs).strip xs := by
  cases xs with
  | nil => exact .inr ⟨rfl, rfl⟩
  | cons x r => exact .inl rfl

theorem info9' : ((Try.prog.info? 9).map fun i => (i.size, i.bytes, i.zero.map fun z => z.cells.size)) = some (1, 16, some 1) := by kernel_rfl
theorem info9 : ∃ i, Try.prog.info? 9 = some i ∧ i.size = 1 ∧ i.bytes = 16 ∧ ∃ z, i.zero = some z ∧ z.cells.size = 1 := by
  have h := info9'
  rw [Option.map_eq_some_iff] at h
  obtain ⟨i, h1, h2⟩ := h
  simp only [Prod.mk.injEq, Option.map_eq_some_iff] at h2
  exact ⟨i, h1, h2.1, h2.2.1, h2.2.2⟩

theorem app22 (xs : List (List UInt8)) (x : List UInt8) (f : Flag) (h : xs.length < 1000000) : aAppend Try.prog 22 22 (cutV xs) (.sl 9 1 [.str x] f) = some (cutV (xs ++ [x])) := by
  obtain ⟨i, h1, h2, h3, z, h4, h5⟩ := info9
  unfold aAppend
  rw [under22]
  simp only [h1, h2, srcOf, if_true, h4, h5, ne_eq, not_true, if_false, h3]
  cases xs with
  | nil =>
    simp only [cutV, List.nil_append, List.length_cons, List.length_nil, strs, List.map_cons, List.map_nil]
    rw [if_pos (by omega)]
  | cons b r =>
    simp only [cutV, strs, List.length_map, List.length_cons, List.length_nil, List.map_cons, List.cons_append, List.map_append, List.map_nil] at *
    rw [if_pos ⟨trivial, trivial, by omega, by omega⟩]

theorem bs22 (x : List UInt8) : ∃ f, aBuildSlice Try.prog 22 1 [(0, .str x)] = some (.sl 9 1 [.str x] f) := ⟨.own, by kernel_rfl⟩

/-- What RopeConcat compares. -/
theorem concat_end (xs : List (List UInt8)) (hx : xs.flatten.length < 200000000) (hl : xs.length < 1000000) : ∃ N, ∀ n, N ≤ n → ∀ n' k0 e i, ¬ (i : Int) < xs.length → e 17 = I i → e 16 = I xs.length → e 3 = cutV xs → e 4 = .str xs.flatten →
    ∃ h, F3_L0 (den C n) n' k0 e [] = some (.bool true, h) := by
  obtain ⟨r1, w1, s1, N1, q1⟩ := ropeFrom_run _ xs _ false (Nat.le_refl _) (cutV_strip xs) hx (by omega)
  obtain ⟨r2, w2, s2, N2, q2⟩ := ropeFrom_run _ xs _ true (Nat.le_refl _) (cutV_strip xs) hx (by omega)
  have m1 := WF_mass w1
  have m2 := WF_mass w2
  rw [s1] at m1
  rw [s2] at m2
  obtain ⟨N3, q3⟩ := AC.at ex_run
  obtain ⟨N4, q4⟩ := AC.at (String_run r1 (by omega))
  obtain ⟨N5, q5⟩ := AC.at (String_run r2 (by omega))
  obtain ⟨N6, q6⟩ := AC.at (len_run r1)
  obtain ⟨N7, q7⟩ := AC.at (len_run r2)
  refine ⟨max N1 (max N2 (max N3 (max N4 (max N5 (max N6 N7))))), fun n hn n' k0 e i hi h17 h16 h3 h4 => ⟨[(27, [encR r1]), (27, [encR r2])], ?_⟩⟩
  have q1 : ∀ s, aCall Try.prog (den C n) 9 _ s = _ := q1 n (by omega)
  have q2 : ∀ s, aCall Try.prog (den C n) 9 _ s = _ := q2 n (by omega)
  have q3 := q3 n (by omega)
  have q4 := q4 n (by omega)
  have q5 := q5 n (by omega)
  have q6 := q6 n (by omega)
  have q7 := q7 n (by omega)
  have st := (cutV_strip xs).strip
  rw [s1] at q4 q6
  rw [s2] at q5 q7
  have len := len9 xs.flatten
  rw [F3_L0]
  simp -implicitDefEqProofs only [oh_some, mp_some, sto_some, br_true, br_false, gd_true, gd_false, wA_tt, wA_ft, wA_tf, wA_ff, enc_strip, lp_strip, rp_strip, encR_strip, enc_check, enc_addr, aNilCheck_box, aNilCheck_ref, aAddr_box, aAddr_ref, aLoad_one, List.getElem?_cons_succ, List.getElem?_cons_zero, Option.map_some, bin_add, bin_sub, bin_lss, bin_leq, bin_gtr, bin_geq, bin_eql, bin_neq, str_eql, aMax_int, aMin_int, aUn_not, aPick_true, aPick_false, strip_int, strip_bool, strip_str, strip_nilp, strip_nils, strip_box, strip_ref, strip_agg, strip_tup, strip_undef, aBox_f, solid_agg, cells_agg, kLoad_box, kGd_true, kGd_false, kCall_ok, gt_iff_lt, ge_iff_le, Int.ofNat_lt, Int.ofNat_le, decide_true, decide_false, Nat.zero_add, Bool.not_true, Bool.not_false, aExtract_tup, fin1_some, resL_nil, resL_some, enc_noRef, encR_noRef, noRefL_cons, noRefL_nil, noRef_int, noRef_str, noRef_bool, Bool.and_self, ite_true, h17, h16, h3, h4, hi, st, q1, q2, q3, q4, q5, q6, q7, alloc27, List.length_nil, List.nil_append, List.length_cons, List.cons_append, store2a, store2b, load2a, load2b, len, beq_self_eq_true, rop]

abbrev cuts (ps : List (List UInt8)) : List (List UInt8) := ps.map (·.take 100)
theorem cuts_len (ps : List (List UInt8)) : (cuts ps).flatten.length ≤ 100 * ps.length := by
  induction ps with
  | nil => simp
  | cons p ps ih =>
    simp only [cuts, List.map_cons, List.flatten_cons, List.length_append, List.length_cons] at ih ⊢
    have : (p.take 100).length ≤ 100 := by simp; omega
    omega

theorem concat_loop (ps : List (List UInt8)) (hp : ps.length ≤ 20) : ∀ (k i : Nat), ps.length - i = k → i ≤ ps.length → ∃ N, ∀ n, N ≤ n → ∀ m, k < m → ∀ n' e f, e 17 = I i → e 16 = I ps.length → e 15 = .sl 9 1 (strs ps) f → e 3 = cutV (cuts (ps.take i)) → e 4 = .str (cuts (ps.take i)).flatten →
    ∃ h, aLoop (F3_L0 (den C n) n') m e [] = some (.bool true, h) := by
  intro k
  induction k with
  | zero =>
    intro i hk hi
    have := cuts_len ps
    obtain ⟨N, q⟩ := concat_end (cuts ps) (by omega) (by simp; omega)
    refine ⟨N, fun n hn m hm n' e f h17 h16 h15 h3 h4 => ?_⟩
    obtain ⟨m, rfl⟩ : ∃ j, m = j + 1 := ⟨m - 1, by omega⟩
    rw [List.take_of_length_le (by omega)] at h3 h4
    rw [aLoop]
    exact q n hn n' _ e i (by simp; omega) h17 (by rw [h16]; simp) h3 h4
  | succ k ih =>
    intro i hk hi
    have hlt : i < ps.length := by omega
    have e0 : ps[i]? = some ps[i] := List.getElem?_eq_getElem hlt
    obtain ⟨N1, q1⟩ := AC.at (short_run ps[i] 100)
    obtain ⟨N2, q2⟩ := ih (i + 1) (by omega) (by omega)
    refine ⟨max N1 N2, fun n hn m hm n' e f h17 h16 h15 h3 h4 => ?_⟩
    obtain ⟨m, rfl⟩ : ∃ j, m = j + 1 := ⟨m - 1, by omega⟩
    have q1 : ∀ s, aCall Try.prog (den C n) 8 [.str ps[i], .int .i64 100] s = some (.str (ps[i].take 100), s) := q1 n (by omega)
    have e1 := idx22 (f := f) e0
    have e2 := wadd1 (a := i) (by omega)
    obtain ⟨f', e3⟩ := bs22 (ps[i].take 100)
    have e4 := app22 (cuts (ps.take i)) (ps[i].take 100) f' (by simp; omega)
    have hc : cuts (ps.take i) ++ [ps[i].take 100] = cuts (ps.take (i + 1)) := by
      simp only [cuts]; rw [← List.take_append_getElem hlt, List.map_append]; rfl
    have hcl := cuts_len (ps.take i)
    have h100 : (ps[i].take 100).length ≤ 100 := by simp; omega
    have e5 : aBin Try.prog .add 9 (.str (cuts (ps.take i)).flatten) (.str (ps[i].take 100)) = some (.str (cuts (ps.take (i + 1))).flatten) := by
      rw [str_add _ _ (by simp only [List.length_take] at *; omega), ← hc]; simp
    rw [hc] at e4
    rw [aLoop, F3_L0]
    simp -implicitDefEqProofs only [oh_some, mp_some, sto_some, br_true, br_false, gd_true, gd_false, wA_tt, wA_ft, wA_tf, wA_ff, enc_strip, lp_strip, rp_strip, encR_strip, enc_check, enc_addr, aNilCheck_box, aNilCheck_ref, aAddr_box, aAddr_ref, aLoad_one, List.getElem?_cons_succ, List.getElem?_cons_zero, Option.map_some, bin_add, bin_sub, bin_lss, bin_leq, bin_gtr, bin_geq, bin_eql, bin_neq, str_eql, aMax_int, aMin_int, aUn_not, aPick_true, aPick_false, strip_int, strip_bool, strip_str, strip_nilp, strip_nils, strip_box, strip_ref, strip_agg, strip_tup, strip_undef, aBox_f, solid_agg, cells_agg, kLoad_box, kGd_true, kGd_false, kCall_ok, gt_iff_lt, ge_iff_le, Int.ofNat_lt, Int.ofNat_le, decide_true, decide_false, Nat.zero_add, Bool.not_true, Bool.not_false, aExtract_tup, fin1_some, resL_nil, resL_some, enc_noRef, encR_noRef, noRefL_cons, noRefL_nil, noRef_int, noRef_str, noRef_bool, Bool.and_self, ite_true, h17, h16, h15, h3, h4, hlt, e1, e2, q1, e3, e4, e5]
    exact q2 n (by omega) m (by omega) n' _ f (by simp [upds_at, upd_at]) (by simp [upds_at, upd_at, h16]) (by simp [upds_at, upd_at, h15]) (by simp [upds_at, upd_at]) (by simp [upds_at, upd_at])

theorem RopeConcat_run (v : AV) (ps : List (List UInt8)) (hs : IsS v ps) : AC C 3 [v] (.bool true) := by
  refine .intro en3 (by simp [noRefL_cons, noRefL_nil, hs.noRef]) (by rfl) ?_
  obtain ⟨N1, q1⟩ := AC.at ex_run
  obtain ⟨N2, q2⟩ := concat_loop (ps.take 20) (by simp; omega) _ 0 rfl (by omega)
  obtain ⟨N3, q3⟩ := concat_end [] (by simp) (by simp)
  refine ⟨max N1 (max N2 (max N3 21)), fun n hn => ?_⟩
  have q1 := q1 n (by omega)
  have q2 := q2 n (by omega) n (by simp; omega) n
  have l := hs.len
  have st := hs.strip
  have e1 : (if (20 : Int) < (ps.length : Int) then (20 : Int) else (ps.length : Int)) = ((min ps.length 20 : Nat) : Int) := by split <;> omega
  rcases hs with rfl | ⟨rfl, rfl⟩
  · have e2 := take22 (xs := ps) (i := min ps.length 20) (f := .sh) (by omega)
    have e3 : ps.take (min ps.length 20) = ps.take 20 := by
      rw [Nat.min_def]; split
      · rw [List.take_of_length_le (Nat.le_refl _), List.take_of_length_le (by assumption)]
      · rfl
    have e4 : aLen Try.prog 22 (.sl 9 1 (strs (ps.take 20)) .sh) = some (I (ps.take 20).length) := (show IsS (.sl 9 1 (strs (ps.take 20)) .sh) (ps.take 20) from .inl rfl).len
    rw [e3] at e2
    rw [F3_eq, F3]
    simp -implicitDefEqProofs only [oh_some, mp_some, sto_some, br_true, br_false, gd_true, gd_false, wA_tt, wA_ft, wA_tf, wA_ff, enc_strip, lp_strip, rp_strip, encR_strip, enc_check, enc_addr, aNilCheck_box, aNilCheck_ref, aAddr_box, aAddr_ref, aLoad_one, List.getElem?_cons_succ, List.getElem?_cons_zero, Option.map_some, bin_add, bin_sub, bin_lss, bin_leq, bin_gtr, bin_geq, bin_eql, bin_neq, str_eql, aMax_int, aMin_int, aUn_not, aPick_true, aPick_false, strip_int, strip_bool, strip_str, strip_nilp, strip_nils, strip_box, strip_ref, strip_agg, strip_tup, strip_undef, aBox_f, solid_agg, cells_agg, kLoad_box, kGd_true, kGd_false, kCall_ok, gt_iff_lt, ge_iff_le, Int.ofNat_lt, Int.ofNat_le, decide_true, decide_false, Nat.zero_add, Bool.not_true, Bool.not_false, aExtract_tup, fin1_some, resL_nil, resL_some, enc_noRef, encR_noRef, noRefL_cons, noRefL_nil, noRef_int, noRef_str, noRef_bool, Bool.and_self, ite_true, q1, l, strip_sh, e1, e2, e4]
    exact q2 _ .sh (by simp [upds_at, upd_at]) (by simp [upds_at, upd_at]) (by simp [upds_at, upd_at]) (by simp [upds_at, upd_at, cutV]) (by simp [upds_at, upd_at])
  · obtain ⟨j, rfl⟩ : ∃ j, n = j + 1 := ⟨n - 1, by omega⟩
    have e2 : aSl Try.prog 22 .nils none (some (I (0 : Nat))) none = some .nils := by kernel_rfl
    have e4 : aLen Try.prog 22 .nils = some (I (0 : Nat)) := by kernel_rfl
    simp only [List.length_nil, Nat.zero_min] at e1
    rw [F3_eq, F3]
    simp -implicitDefEqProofs only [oh_some, mp_some, sto_some, br_true, br_false, gd_true, gd_false, wA_tt, wA_ft, wA_tf, wA_ff, enc_strip, lp_strip, rp_strip, encR_strip, enc_check, enc_addr, aNilCheck_box, aNilCheck_ref, aAddr_box, aAddr_ref, aLoad_one, List.getElem?_cons_succ, List.getElem?_cons_zero, Option.map_some, bin_add, bin_sub, bin_lss, bin_leq, bin_gtr, bin_geq, bin_eql, bin_neq, str_eql, aMax_int, aMin_int, aUn_not, aPick_true, aPick_false, strip_int, strip_bool, strip_str, strip_nilp, strip_nils, strip_box, strip_ref, strip_agg, strip_tup, strip_undef, aBox_f, solid_agg, cells_agg, kLoad_box, kGd_true, kGd_false, kCall_ok, gt_iff_lt, ge_iff_le, Int.ofNat_lt, Int.ofNat_le, decide_true, decide_false, Nat.zero_add, Bool.not_true, Bool.not_false, aExtract_tup, fin1_some, resL_nil, resL_some, enc_noRef, encR_noRef, noRefL_cons, noRefL_nil, noRef_int, noRef_str, noRef_bool, Bool.and_self, ite_true, q1, e4, e1, e2]
    rw [aLoop]
    exact q3 (j + 1) (by omega) (j + 1) _ _ 0 (by simp) (by simp [upds_at, upd_at]) (by simp [upds_at, upd_at]) (by simp [upds_at, upd_at, cutV]) (by simp [upds_at, upd_at])
end RopeF

