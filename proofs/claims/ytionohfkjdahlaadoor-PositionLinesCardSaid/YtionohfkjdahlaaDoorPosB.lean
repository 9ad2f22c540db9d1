/- From a position to an offset; the three statements on positions, in the abstract machine. -/
import Derived.Test.YtionohfkjdahlaaDoorPosA
set_option linter.all false
set_option maxRecDepth 100000
namespace PosF
open Go Go.Abs Go.Proofs

def offV (x : Nat × Nat) : AV := .tup [I x.1, I x.2]
theorem offV_noRef (x : Nat × Nat) : (offV x).noRef = true := by simp [offV, noRef_tup, noRefL_cons, noRefL_nil, noRef_int]

theorem ne10 {x : UInt8} (h : x ≠ 10) : ((x.toNat : Int) != 10) = true := by
  simp only [bne_iff_ne, ne_eq]
  intro h'
  apply h
  apply UInt8.toNat_inj.1
  have : (10 : UInt8).toNat = 10 := rfl
  omega

theorem off_loop (u : Bool) (src : List UInt8) (hs : src.length < 1000) (ln pc : Int) : ∀ (k i c : Nat), src.length - i ≤ k → i ≤ src.length + 4 → c ≤ 2 * i →
    ∃ N, ∀ n, N ≤ n → ∀ m, k < m → ∀ n' e s, e 9 = I i → e 10 = I c → e 0 = .str src → e 2 = .fn (wf u) [] [] → e 4 = .box [I ln, I pc] 0 →
    aLoop (F28_L0 (den C n) n') m e s = some (offV (ogEnd pc (og u src pc k i c)), s) := by
  intro k
  induction k with
  | zero =>
    intro i c hk hi hc
    refine ⟨0, fun n hn m hm n' e s h9 h10 h0 h2 h4 => ?_⟩
    obtain ⟨m, rfl⟩ : ∃ j, m = j + 1 := ⟨m - 1, by omega⟩
    have c1 : ¬ i < src.length := by omega
    rw [aLoop, F28_L0, og, ogEnd]
    by_cases c2 : (c : Int) < pc
    · rw [if_pos (.inr c2)]
      have c3 : ¬ pc < 0 := by omega
      simp -implicitDefEqProofs only [oh_some, mp_some, sto_some, br_true, br_false, gd_true, gd_false, wA_tt, wA_tup, wA_ft, wA_tf, wA_ff, aNilCheck_box, aNilCheck_ref, aAddr_box, aAddr_ref, aLoad_one, List.getElem?_cons_succ, List.getElem?_cons_zero, Option.map_some, bin_add, bin_sub, bin_lss, bin_leq, bin_gtr, bin_geq, bin_eql, bin_neq, str_eql, aMax_int, aMin_int, aUn_not, aPick_true, aPick_false, strip_int, strip_bool, strip_str, strip_nilp, strip_nils, strip_box, strip_ref, strip_agg, strip_tup, strip_undef, aBox_f, solid_agg, cells_agg, kLoad_box, kGd_true, kGd_false, kCall_ok, gt_iff_lt, ge_iff_le, Int.ofNat_lt, Int.ofNat_le, decide_true, decide_false, Nat.zero_add, Bool.not_true, Bool.not_false, aExtract_tup, fin1_some, resL_nil, resL_some, noRefL_cons, noRefL_nil, noRef_int, noRef_str, noRef_bool, noRef_nilp, noRef_agg, strip_fn, kLoad_ref, Bool.and_self, ite_true, h9, h10, h0, h2, h4, len9, c1, c2, c3, offV, Int.natCast_zero]
      rfl
    · by_cases c3 : pc < 0
      · rw [if_pos (.inl c3)]
        simp -implicitDefEqProofs only [oh_some, mp_some, sto_some, br_true, br_false, gd_true, gd_false, wA_tt, wA_tup, wA_ft, wA_tf, wA_ff, aNilCheck_box, aNilCheck_ref, aAddr_box, aAddr_ref, aLoad_one, List.getElem?_cons_succ, List.getElem?_cons_zero, Option.map_some, bin_add, bin_sub, bin_lss, bin_leq, bin_gtr, bin_geq, bin_eql, bin_neq, str_eql, aMax_int, aMin_int, aUn_not, aPick_true, aPick_false, strip_int, strip_bool, strip_str, strip_nilp, strip_nils, strip_box, strip_ref, strip_agg, strip_tup, strip_undef, aBox_f, solid_agg, cells_agg, kLoad_box, kGd_true, kGd_false, kCall_ok, gt_iff_lt, ge_iff_le, Int.ofNat_lt, Int.ofNat_le, decide_true, decide_false, Nat.zero_add, Bool.not_true, Bool.not_false, aExtract_tup, fin1_some, resL_nil, resL_some, noRefL_cons, noRefL_nil, noRef_int, noRef_str, noRef_bool, noRef_nilp, noRef_agg, strip_fn, kLoad_ref, Bool.and_self, ite_true, h9, h10, h0, h2, h4, len9, c1, c2, c3, offV, Int.natCast_zero]
        rfl
      · rw [if_neg (by simp only; omega)]
        by_cases c4 : pc < (c : Int)
        · rw [if_pos c4]
          simp -implicitDefEqProofs only [oh_some, mp_some, sto_some, br_true, br_false, gd_true, gd_false, wA_tt, wA_tup, wA_ft, wA_tf, wA_ff, aNilCheck_box, aNilCheck_ref, aAddr_box, aAddr_ref, aLoad_one, List.getElem?_cons_succ, List.getElem?_cons_zero, Option.map_some, bin_add, bin_sub, bin_lss, bin_leq, bin_gtr, bin_geq, bin_eql, bin_neq, str_eql, aMax_int, aMin_int, aUn_not, aPick_true, aPick_false, strip_int, strip_bool, strip_str, strip_nilp, strip_nils, strip_box, strip_ref, strip_agg, strip_tup, strip_undef, aBox_f, solid_agg, cells_agg, kLoad_box, kGd_true, kGd_false, kCall_ok, gt_iff_lt, ge_iff_le, Int.ofNat_lt, Int.ofNat_le, decide_true, decide_false, Nat.zero_add, Bool.not_true, Bool.not_false, aExtract_tup, fin1_some, resL_nil, resL_some, noRefL_cons, noRefL_nil, noRef_int, noRef_str, noRef_bool, noRef_nilp, noRef_agg, strip_fn, kLoad_ref, Bool.and_self, ite_true, h9, h10, h0, h2, h4, len9, c1, c2, c3, c4, offV, Int.natCast_zero]
          rfl
        · rw [if_neg c4]
          simp -implicitDefEqProofs only [oh_some, mp_some, sto_some, br_true, br_false, gd_true, gd_false, wA_tt, wA_tup, wA_ft, wA_tf, wA_ff, aNilCheck_box, aNilCheck_ref, aAddr_box, aAddr_ref, aLoad_one, List.getElem?_cons_succ, List.getElem?_cons_zero, Option.map_some, bin_add, bin_sub, bin_lss, bin_leq, bin_gtr, bin_geq, bin_eql, bin_neq, str_eql, aMax_int, aMin_int, aUn_not, aPick_true, aPick_false, strip_int, strip_bool, strip_str, strip_nilp, strip_nils, strip_box, strip_ref, strip_agg, strip_tup, strip_undef, aBox_f, solid_agg, cells_agg, kLoad_box, kGd_true, kGd_false, kCall_ok, gt_iff_lt, ge_iff_le, Int.ofNat_lt, Int.ofNat_le, decide_true, decide_false, Nat.zero_add, Bool.not_true, Bool.not_false, aExtract_tup, fin1_some, resL_nil, resL_some, noRefL_cons, noRefL_nil, noRef_int, noRef_str, noRef_bool, noRef_nilp, noRef_agg, strip_fn, kLoad_ref, Bool.and_self, ite_true, h9, h10, h0, h2, h4, len9, c1, c2, c3, c4, offV, Int.natCast_zero]
  | succ k ih =>
    intro i c hk hi hc
    by_cases c0 : (c : Int) < pc ∧ i < src.length ∧ src[i]? ≠ some 10
    · obtain ⟨c2, c1, c5⟩ := c0
      have e0 : src[i]? = some src[i] := List.getElem?_eq_getElem c1
      have e4 := idx9 e0
      have e5 : ((src[i].toNat : Int) != 10) = true := ne10 fun h => c5 (by rw [e0, h])
      have hb := dec_bounds (src.drop i) (drop_ne (by omega))
      have hw := wid_bounds u (dec (src.drop i)).1
      obtain ⟨N1, q1⟩ := AC.at (dec_run (src.drop i))
      obtain ⟨N2, q2⟩ := AC.at (wid_run u (dec (src.drop i)).1)
      rw [og, if_pos ⟨c2, c1, c5⟩]
      generalize (dec (src.drop i)).1 = r at *
      generalize (dec (src.drop i)).2 = z at *
      obtain ⟨N3, q3⟩ := ih (i + z) (c + wid u r) (by omega) (by omega) (by omega)
      refine ⟨max N1 (max N2 N3), fun n hn m hm n' e s h9 h10 h0 h2 h4 => ?_⟩
      obtain ⟨m, rfl⟩ : ∃ j, m = j + 1 := ⟨m - 1, by omega⟩
      have q1 := q1 n (by omega)
      have q2 := q2 n (by omega)
      have e1 := subDrop (s := src) (i := (i : Int)) (by omega) (by omega)
      rw [Int.toNat_natCast] at e1
      have e2 := wadd (a := i) (b := z) (by omega)
      have e3 := wadd (a := c) (b := wid u r) (by omega)
      rw [aLoop, F28_L0]
      simp -implicitDefEqProofs only [oh_some, mp_some, sto_some, br_true, br_false, gd_true, gd_false, wA_tt, wA_tup, wA_ft, wA_tf, wA_ff, aNilCheck_box, aNilCheck_ref, aAddr_box, aAddr_ref, aLoad_one, List.getElem?_cons_succ, List.getElem?_cons_zero, Option.map_some, bin_add, bin_sub, bin_lss, bin_leq, bin_gtr, bin_geq, bin_eql, bin_neq, str_eql, aMax_int, aMin_int, aUn_not, aPick_true, aPick_false, strip_int, strip_bool, strip_str, strip_nilp, strip_nils, strip_box, strip_ref, strip_agg, strip_tup, strip_undef, aBox_f, solid_agg, cells_agg, kLoad_box, kGd_true, kGd_false, kCall_ok, gt_iff_lt, ge_iff_le, Int.ofNat_lt, Int.ofNat_le, decide_true, decide_false, Nat.zero_add, Bool.not_true, Bool.not_false, aExtract_tup, fin1_some, resL_nil, resL_some, noRefL_cons, noRefL_nil, noRef_int, noRef_str, noRef_bool, noRef_nilp, noRef_agg, strip_fn, kLoad_ref, Bool.and_self, ite_true, h9, h10, h0, h2, h4, len9, c1, c2, e1, e4, e5, q1, q2, e2, e3, callV]
      exact q3 n (by omega) m (by omega) n' _ s (by simp [upds_at, upd_at]) (by simp [upds_at, upd_at]) (by simp [upds_at, upd_at, h0]) (by simp [upds_at, upd_at, h2]) (by simp [upds_at, upd_at, h4])
    · refine ⟨0, fun n hn m hm n' e s h9 h10 h0 h2 h4 => ?_⟩
      obtain ⟨m, rfl⟩ : ∃ j, m = j + 1 := ⟨m - 1, by omega⟩
      rw [aLoop, F28_L0, og, if_neg c0, ogEnd]
      by_cases c2 : (c : Int) < pc
      · rw [if_pos (.inr c2)]
        have c3 : ¬ pc < 0 := by omega
        by_cases c1 : i < src.length
        · have e0 : src[i]? = some src[i] := List.getElem?_eq_getElem c1
          have e4 := idx9 e0
          have h10' : src[i] = 10 := by
            by_cases hx : src[i] = 10
            · exact hx
            · exact absurd ⟨c2, c1, fun h => hx (by rw [e0] at h; exact Option.some.inj h)⟩ c0
          have e5 : ((src[i].toNat : Int) != 10) = false := by rw [h10']; rfl
          simp -implicitDefEqProofs only [oh_some, mp_some, sto_some, br_true, br_false, gd_true, gd_false, wA_tt, wA_tup, wA_ft, wA_tf, wA_ff, aNilCheck_box, aNilCheck_ref, aAddr_box, aAddr_ref, aLoad_one, List.getElem?_cons_succ, List.getElem?_cons_zero, Option.map_some, bin_add, bin_sub, bin_lss, bin_leq, bin_gtr, bin_geq, bin_eql, bin_neq, str_eql, aMax_int, aMin_int, aUn_not, aPick_true, aPick_false, strip_int, strip_bool, strip_str, strip_nilp, strip_nils, strip_box, strip_ref, strip_agg, strip_tup, strip_undef, aBox_f, solid_agg, cells_agg, kLoad_box, kGd_true, kGd_false, kCall_ok, gt_iff_lt, ge_iff_le, Int.ofNat_lt, Int.ofNat_le, decide_true, decide_false, Nat.zero_add, Bool.not_true, Bool.not_false, aExtract_tup, fin1_some, resL_nil, resL_some, noRefL_cons, noRefL_nil, noRef_int, noRef_str, noRef_bool, noRef_nilp, noRef_agg, strip_fn, kLoad_ref, Bool.and_self, ite_true, h9, h10, h0, h2, h4, len9, c1, c2, c3, e4, e5, offV, Int.natCast_zero]
          rfl
        · simp -implicitDefEqProofs only [oh_some, mp_some, sto_some, br_true, br_false, gd_true, gd_false, wA_tt, wA_tup, wA_ft, wA_tf, wA_ff, aNilCheck_box, aNilCheck_ref, aAddr_box, aAddr_ref, aLoad_one, List.getElem?_cons_succ, List.getElem?_cons_zero, Option.map_some, bin_add, bin_sub, bin_lss, bin_leq, bin_gtr, bin_geq, bin_eql, bin_neq, str_eql, aMax_int, aMin_int, aUn_not, aPick_true, aPick_false, strip_int, strip_bool, strip_str, strip_nilp, strip_nils, strip_box, strip_ref, strip_agg, strip_tup, strip_undef, aBox_f, solid_agg, cells_agg, kLoad_box, kGd_true, kGd_false, kCall_ok, gt_iff_lt, ge_iff_le, Int.ofNat_lt, Int.ofNat_le, decide_true, decide_false, Nat.zero_add, Bool.not_true, Bool.not_false, aExtract_tup, fin1_some, resL_nil, resL_some, noRefL_cons, noRefL_nil, noRef_int, noRef_str, noRef_bool, noRef_nilp, noRef_agg, strip_fn, kLoad_ref, Bool.and_self, ite_true, h9, h10, h0, h2, h4, len9, c1, c2, c3, offV, Int.natCast_zero]
          rfl
      · by_cases c3 : pc < 0
        · rw [if_pos (.inl c3)]
          simp -implicitDefEqProofs only [oh_some, mp_some, sto_some, br_true, br_false, gd_true, gd_false, wA_tt, wA_tup, wA_ft, wA_tf, wA_ff, aNilCheck_box, aNilCheck_ref, aAddr_box, aAddr_ref, aLoad_one, List.getElem?_cons_succ, List.getElem?_cons_zero, Option.map_some, bin_add, bin_sub, bin_lss, bin_leq, bin_gtr, bin_geq, bin_eql, bin_neq, str_eql, aMax_int, aMin_int, aUn_not, aPick_true, aPick_false, strip_int, strip_bool, strip_str, strip_nilp, strip_nils, strip_box, strip_ref, strip_agg, strip_tup, strip_undef, aBox_f, solid_agg, cells_agg, kLoad_box, kGd_true, kGd_false, kCall_ok, gt_iff_lt, ge_iff_le, Int.ofNat_lt, Int.ofNat_le, decide_true, decide_false, Nat.zero_add, Bool.not_true, Bool.not_false, aExtract_tup, fin1_some, resL_nil, resL_some, noRefL_cons, noRefL_nil, noRef_int, noRef_str, noRef_bool, noRef_nilp, noRef_agg, strip_fn, kLoad_ref, Bool.and_self, ite_true, h9, h10, h0, h2, h4, len9, c2, c3, offV, Int.natCast_zero]
          rfl
        · rw [if_neg (by simp only; omega)]
          by_cases c4 : pc < (c : Int)
          · rw [if_pos c4]
            simp -implicitDefEqProofs only [oh_some, mp_some, sto_some, br_true, br_false, gd_true, gd_false, wA_tt, wA_tup, wA_ft, wA_tf, wA_ff, aNilCheck_box, aNilCheck_ref, aAddr_box, aAddr_ref, aLoad_one, List.getElem?_cons_succ, List.getElem?_cons_zero, Option.map_some, bin_add, bin_sub, bin_lss, bin_leq, bin_gtr, bin_geq, bin_eql, bin_neq, str_eql, aMax_int, aMin_int, aUn_not, aPick_true, aPick_false, strip_int, strip_bool, strip_str, strip_nilp, strip_nils, strip_box, strip_ref, strip_agg, strip_tup, strip_undef, aBox_f, solid_agg, cells_agg, kLoad_box, kGd_true, kGd_false, kCall_ok, gt_iff_lt, ge_iff_le, Int.ofNat_lt, Int.ofNat_le, decide_true, decide_false, Nat.zero_add, Bool.not_true, Bool.not_false, aExtract_tup, fin1_some, resL_nil, resL_some, noRefL_cons, noRefL_nil, noRef_int, noRef_str, noRef_bool, noRef_nilp, noRef_agg, strip_fn, kLoad_ref, Bool.and_self, ite_true, h9, h10, h0, h2, h4, len9, c2, c3, c4, offV, Int.natCast_zero]
            rfl
          · rw [if_neg c4]
            simp -implicitDefEqProofs only [oh_some, mp_some, sto_some, br_true, br_false, gd_true, gd_false, wA_tt, wA_tup, wA_ft, wA_tf, wA_ff, aNilCheck_box, aNilCheck_ref, aAddr_box, aAddr_ref, aLoad_one, List.getElem?_cons_succ, List.getElem?_cons_zero, Option.map_some, bin_add, bin_sub, bin_lss, bin_leq, bin_gtr, bin_geq, bin_eql, bin_neq, str_eql, aMax_int, aMin_int, aUn_not, aPick_true, aPick_false, strip_int, strip_bool, strip_str, strip_nilp, strip_nils, strip_box, strip_ref, strip_agg, strip_tup, strip_undef, aBox_f, solid_agg, cells_agg, kLoad_box, kGd_true, kGd_false, kCall_ok, gt_iff_lt, ge_iff_le, Int.ofNat_lt, Int.ofNat_le, decide_true, decide_false, Nat.zero_add, Bool.not_true, Bool.not_false, aExtract_tup, fin1_some, resL_nil, resL_some, noRefL_cons, noRefL_nil, noRef_int, noRef_str, noRef_bool, noRef_nilp, noRef_agg, strip_fn, kLoad_ref, Bool.and_self, ite_true, h9, h10, h0, h2, h4, len9, c2, c3, c4, offV, Int.natCast_zero]

theorem starts_le (src : List UInt8) : ∀ x ∈ starts src, x ≤ src.length := by
  have key : ∀ (l : List UInt8) (k : Nat), ∀ x ∈ lsFrom l k, x ≤ k + l.length := by
    intro l
    induction l with
    | nil => intro k x hx; simp [lsFrom] at hx
    | cons b r ih =>
      intro k x hx
      unfold lsFrom at hx
      have := ih (k + 1)
      simp only [List.length_cons]
      split at hx
      · rcases List.mem_cons.1 hx with rfl | hx
        · omega
        · have := this x hx; omega
      · have := this x hx; omega
  intro x hx
  rcases List.mem_cons.1 hx with rfl | hx
  · omega
  · have := key src 0 x hx; omega

theorem toOff_run (u : Bool) (src : List UInt8) (hs : src.length < 1000) (ln pc : Int) : AC C 28 [.str src, .agg [I ln, I pc], .fn (wf u) [] []] (offV (toOff u src ln pc)) := by
  refine .intro en28 (by simp [noRefL_cons, noRefL_nil, noRef_str, noRef_int, AV.noRef]) (offV_noRef _) ?_
  unfold toOff
  obtain ⟨N1, q1⟩ := AC.at (lines_run src (by omega))
  have l30 := len30 (starts src) .sh
  by_cases c1 : ln < 0
  · rw [if_pos (.inl c1)]
    refine ⟨N1, fun n hn => ⟨[], ?_⟩⟩
    have q1 := q1 n (by omega)
    rw [F28_eq, F28]
    simp -implicitDefEqProofs only [oh_some, mp_some, sto_some, br_true, br_false, gd_true, gd_false, wA_tt, wA_tup, wA_ft, wA_tf, wA_ff, aNilCheck_box, aNilCheck_ref, aAddr_box, aAddr_ref, aLoad_one, List.getElem?_cons_succ, List.getElem?_cons_zero, Option.map_some, bin_add, bin_sub, bin_lss, bin_leq, bin_gtr, bin_geq, bin_eql, bin_neq, str_eql, aMax_int, aMin_int, aUn_not, aPick_true, aPick_false, strip_int, strip_bool, strip_str, strip_nilp, strip_nils, strip_box, strip_ref, strip_agg, strip_tup, strip_undef, aBox_f, solid_agg, cells_agg, kLoad_box, kGd_true, kGd_false, kCall_ok, gt_iff_lt, ge_iff_le, Int.ofNat_lt, Int.ofNat_le, decide_true, decide_false, Nat.zero_add, Bool.not_true, Bool.not_false, aExtract_tup, fin1_some, resL_nil, resL_some, noRefL_cons, noRefL_nil, noRef_int, noRef_str, noRef_bool, noRef_nilp, noRef_agg, strip_fn, kLoad_ref, Bool.and_self, ite_true, q1, c1, strip_sh, offV, Int.natCast_zero]
    rfl
  · by_cases c2 : ((starts src).length : Int) ≤ ln
    · rw [if_pos (.inr c2)]
      refine ⟨N1, fun n hn => ⟨[], ?_⟩⟩
      have q1 := q1 n (by omega)
      rw [F28_eq, F28]
      simp -implicitDefEqProofs only [oh_some, mp_some, sto_some, br_true, br_false, gd_true, gd_false, wA_tt, wA_tup, wA_ft, wA_tf, wA_ff, aNilCheck_box, aNilCheck_ref, aAddr_box, aAddr_ref, aLoad_one, List.getElem?_cons_succ, List.getElem?_cons_zero, Option.map_some, bin_add, bin_sub, bin_lss, bin_leq, bin_gtr, bin_geq, bin_eql, bin_neq, str_eql, aMax_int, aMin_int, aUn_not, aPick_true, aPick_false, strip_int, strip_bool, strip_str, strip_nilp, strip_nils, strip_box, strip_ref, strip_agg, strip_tup, strip_undef, aBox_f, solid_agg, cells_agg, kLoad_box, kGd_true, kGd_false, kCall_ok, gt_iff_lt, ge_iff_le, Int.ofNat_lt, Int.ofNat_le, decide_true, decide_false, Nat.zero_add, Bool.not_true, Bool.not_false, aExtract_tup, fin1_some, resL_nil, resL_some, noRefL_cons, noRefL_nil, noRef_int, noRef_str, noRef_bool, noRef_nilp, noRef_agg, strip_fn, kLoad_ref, Bool.and_self, ite_true, q1, c1, c2, strip_sh, l30, offV, Int.natCast_zero]
      rfl
    · rw [if_neg (by omega)]
      obtain ⟨o, rfl⟩ : ∃ o : Nat, ln = o := ⟨ln.toNat, by omega⟩
      have c2' : ¬ (starts src).length ≤ o := by omega
      have hlt : o < (starts src).length := by omega
      have e0 : (starts src)[o]? = some (starts src)[o] := List.getElem?_eq_getElem hlt
      have e1 := idx30 (f := .sh) e0
      have hx := starts_le src _ (List.getElem_mem hlt)
      rw [Int.toNat_natCast, List.getD_eq_getElem?_getD, e0, Option.getD_some]
      obtain ⟨N2, q2⟩ := off_loop u src hs o pc src.length (starts src)[o] 0 (by omega) (by omega) (by omega)
      refine ⟨max N1 (max N2 (src.length + 1)), fun n hn => ⟨[], ?_⟩⟩
      have q1 := q1 n (by omega)
      rw [F28_eq, F28]
      simp -implicitDefEqProofs only [oh_some, mp_some, sto_some, br_true, br_false, gd_true, gd_false, wA_tt, wA_tup, wA_ft, wA_tf, wA_ff, aNilCheck_box, aNilCheck_ref, aAddr_box, aAddr_ref, aLoad_one, List.getElem?_cons_succ, List.getElem?_cons_zero, Option.map_some, bin_add, bin_sub, bin_lss, bin_leq, bin_gtr, bin_geq, bin_eql, bin_neq, str_eql, aMax_int, aMin_int, aUn_not, aPick_true, aPick_false, strip_int, strip_bool, strip_str, strip_nilp, strip_nils, strip_box, strip_ref, strip_agg, strip_tup, strip_undef, aBox_f, solid_agg, cells_agg, kLoad_box, kGd_true, kGd_false, kCall_ok, gt_iff_lt, ge_iff_le, Int.ofNat_lt, Int.ofNat_le, decide_true, decide_false, Nat.zero_add, Bool.not_true, Bool.not_false, aExtract_tup, fin1_some, resL_nil, resL_some, noRefL_cons, noRefL_nil, noRef_int, noRef_str, noRef_bool, noRef_nilp, noRef_agg, strip_fn, kLoad_ref, Bool.and_self, ite_true, q1, c1, c2', strip_sh, l30, e1]
      exact q2 n (by omega) n (by omega) n _ _ (by simp [upds_at, upd_at]) (by simp [upds_at, upd_at]) (by simp [upds_at, upd_at, argEnv]) (by simp [upds_at, upd_at, argEnv]) (by simp [upds_at, upd_at])

theorem UOff_run (src : List UInt8) (hs : src.length < 1000) (ln pc : Int) : AC C 15 [.str src, .agg [I ln, I pc]] (offV (toOff true src ln pc)) := by
  refine .intro en15 (by simp [noRefL_cons, noRefL_nil, noRef_str, noRef_int, noRef_agg]) (offV_noRef _) ?_
  obtain ⟨N, q⟩ := AC.at (toOff_run true src hs ln pc)
  refine ⟨N, fun n hn => ⟨[], ?_⟩⟩
  have q : ∀ s, aCall Tryd.prog (den C n) 28 [.str src, .agg [I ln, I pc], .fn 27 [] []] s = _ := q n hn
  rw [F15_eq, F15]
  simp -implicitDefEqProofs only [oh_some, mp_some, sto_some, br_true, br_false, gd_true, gd_false, wA_tt, wA_tup, wA_ft, wA_tf, wA_ff, aNilCheck_box, aNilCheck_ref, aAddr_box, aAddr_ref, aLoad_one, List.getElem?_cons_succ, List.getElem?_cons_zero, Option.map_some, bin_add, bin_sub, bin_lss, bin_leq, bin_gtr, bin_geq, bin_eql, bin_neq, str_eql, aMax_int, aMin_int, aUn_not, aPick_true, aPick_false, strip_int, strip_bool, strip_str, strip_nilp, strip_nils, strip_box, strip_ref, strip_agg, strip_tup, strip_undef, aBox_f, solid_agg, cells_agg, kLoad_box, kGd_true, kGd_false, kCall_ok, gt_iff_lt, ge_iff_le, Int.ofNat_lt, Int.ofNat_le, decide_true, decide_false, Nat.zero_add, Bool.not_true, Bool.not_false, aExtract_tup, fin1_some, resL_nil, resL_some, noRefL_cons, noRefL_nil, noRef_int, noRef_str, noRef_bool, noRef_nilp, noRef_agg, strip_fn, kLoad_ref, Bool.and_self, ite_true, q, offV, aLoad_agg, List.length_cons, List.length_nil, List.drop_zero, List.take_succ_cons, List.take_zero, Nat.le_refl]
theorem ROff_run (src : List UInt8) (hs : src.length < 1000) (ln pc : Int) : AC C 17 [.str src, .agg [I ln, I pc]] (offV (toOff false src ln pc)) := by
  refine .intro en17 (by simp [noRefL_cons, noRefL_nil, noRef_str, noRef_int, noRef_agg]) (offV_noRef _) ?_
  obtain ⟨N, q⟩ := AC.at (toOff_run false src hs ln pc)
  refine ⟨N, fun n hn => ⟨[], ?_⟩⟩
  have q : ∀ s, aCall Tryd.prog (den C n) 28 [.str src, .agg [I ln, I pc], .fn 29 [] []] s = _ := q n hn
  rw [F17_eq, F17]
  simp -implicitDefEqProofs only [oh_some, mp_some, sto_some, br_true, br_false, gd_true, gd_false, wA_tt, wA_tup, wA_ft, wA_tf, wA_ff, aNilCheck_box, aNilCheck_ref, aAddr_box, aAddr_ref, aLoad_one, List.getElem?_cons_succ, List.getElem?_cons_zero, Option.map_some, bin_add, bin_sub, bin_lss, bin_leq, bin_gtr, bin_geq, bin_eql, bin_neq, str_eql, aMax_int, aMin_int, aUn_not, aPick_true, aPick_false, strip_int, strip_bool, strip_str, strip_nilp, strip_nils, strip_box, strip_ref, strip_agg, strip_tup, strip_undef, aBox_f, solid_agg, cells_agg, kLoad_box, kGd_true, kGd_false, kCall_ok, gt_iff_lt, ge_iff_le, Int.ofNat_lt, Int.ofNat_le, decide_true, decide_false, Nat.zero_add, Bool.not_true, Bool.not_false, aExtract_tup, fin1_some, resL_nil, resL_some, noRefL_cons, noRefL_nil, noRef_int, noRef_str, noRef_bool, noRef_nilp, noRef_agg, strip_fn, kLoad_ref, Bool.and_self, ite_true, q, offV, aLoad_agg, List.length_cons, List.length_nil, List.drop_zero, List.take_succ_cons, List.take_zero, Nat.le_refl]

theorem eq25z : aBin Tryd.prog .eql 25 (.agg [I 0, I 0]) (.agg [I 0, I 0]) = some (.bool true) := by kernel_rfl
theorem eq25e : aBin Tryd.prog .eql 25 (.agg [I 1, I 2]) (.agg [I 1, I 2]) = some (.bool true) := by kernel_rfl
theorem ex_pos : toPos true [97, 10, 240, 159, 152, 128, 98] 6 = (1, 2, 0) := by decide +kernel
theorem ex_off : toOff true [97, 10, 240, 159, 152, 128, 98] 1 1 = (0, 3) := by decide +kernel

theorem ex_run : AC C 11 [] (.bool true) := by
  refine .intro en11 rfl rfl ?_
  obtain ⟨N1, q1⟩ := AC.at (UPos_run [97, 10, 240, 159, 152, 128, 98] (by simp) 6)
  obtain ⟨N2, q2⟩ := AC.at (UOff_run [97, 10, 240, 159, 152, 128, 98] (by simp) 1 1)
  rw [ex_pos] at q1
  rw [ex_off] at q2
  refine ⟨max N1 N2, fun n hn => ⟨[(25, [I 1, I 2])], ?_⟩⟩
  have q1 : ∀ s, aCall Tryd.prog (den C n) 13 [(.str [97, 10, 240, 159, 152, 128, 98]), (.int .i64 6)] s = some (.tup [.agg [I 1, I 2], I 0], s) := q1 n (by omega)
  have q2 : ∀ s, aCall Tryd.prog (den C n) 15 [(.str [97, 10, 240, 159, 152, 128, 98]), .agg [I 1, I 1]] s = some (.tup [I 0, I 3], s) := q2 n (by omega)
  have z0 : ((0 : Int) == 0) = true := rfl
  have z3 : ((3 : Int) == 3) = true := rfl
  rw [F11_eq, F11]
  simp -implicitDefEqProofs only [oh_some, mp_some, sto_some, br_true, br_false, gd_true, gd_false, wA_tt, wA_tup, wA_ft, wA_tf, wA_ff, aNilCheck_box, aNilCheck_ref, aAddr_box, aAddr_ref, aLoad_one, List.getElem?_cons_succ, List.getElem?_cons_zero, Option.map_some, bin_add, bin_sub, bin_lss, bin_leq, bin_gtr, bin_geq, bin_eql, bin_neq, str_eql, aMax_int, aMin_int, aUn_not, aPick_true, aPick_false, strip_int, strip_bool, strip_str, strip_nilp, strip_nils, strip_box, strip_ref, strip_agg, strip_tup, strip_undef, aBox_f, solid_agg, cells_agg, kLoad_box, kGd_true, kGd_false, kCall_ok, gt_iff_lt, ge_iff_le, Int.ofNat_lt, Int.ofNat_le, decide_true, decide_false, Nat.zero_add, Bool.not_true, Bool.not_false, aExtract_tup, fin1_some, resL_nil, resL_some, noRefL_cons, noRefL_nil, noRef_int, noRef_str, noRef_bool, noRef_nilp, noRef_agg, strip_fn, kLoad_ref, Bool.and_self, ite_true, q1, q2, z0, z3, alloc25, List.length_nil, List.nil_append, store2', load2a, build25', eq25e]

theorem ld00 (a : Int) (b : AV) (l : Heap) : aLoad false false 1 (.ref 0 0) ((25, [I a, b]) :: l) = some (I a, (25, [I a, b]) :: l) := by simp [aLoad, aLoadR, aLoadC]
theorem ld01 (a : AV) (b : Int) (l : Heap) : aLoad false false 1 (.ref 0 1) ((25, [a, I b]) :: l) = some (I b, (25, [a, I b]) :: l) := by simp [aLoad, aLoadR, aLoadC]
theorem ld10 (x : TypeId × List AV) (a : Int) (b : AV) : aLoad false false 1 (.ref 1 0) [x, (25, [I a, b])] = some (I a, [x, (25, [I a, b])]) := by simp [aLoad, aLoadR, aLoadC]

theorem Monotone_run (src : List UInt8) (a b : Int) : AC C 3 [.str src, I a, I b] (.bool true) := by
  refine .intro en3 (by simp [noRefL_cons, noRefL_nil, noRef_str, noRef_int]) rfl ?_
  have hl : (src.take 300).length < 1000 := by simp; omega
  obtain ⟨N1, q1⟩ := AC.at ex_run
  obtain ⟨N2, q2⟩ := AC.at (short_run src 300)
  generalize src.take 300 = x at *
  obtain ⟨N3, q3⟩ := AC.at (UPos_run x hl a)
  obtain ⟨N4, q4⟩ := AC.at (UPos_run x hl b)
  have hm := fun h => mono (u := true) (src := x) (a := a) (b := b) h
  generalize toPos true x a = p at *
  generalize toPos true x b = q at *
  obtain ⟨p1, p2, p3⟩ := p
  obtain ⟨r1, r2, r3⟩ := q
  refine ⟨max N1 (max N2 (max N3 N4)), fun n hn => ⟨[(25, [I p1, I p2]), (25, [I r1, I r2])], ?_⟩⟩
  have q1 := q1 n (by omega)
  have q2 : ∀ s, aCall Tryd.prog (den C n) 12 [.str src, .int .i64 300] s = _ := q2 n (by omega)
  have q3 := q3 n (by omega)
  have q4 := q4 n (by omega)
  simp only at hm
  rw [F3_eq, F3]
  by_cases c1 : p3 = 0
  · by_cases c2 : r3 = 0
    · have z1 : ((p3 : Int) != 0) = false := by rw [c1]; rfl
      have z2 : ((r3 : Int) != 0) = false := by rw [c2]; rfl
      by_cases c3 : b ≤ a
      · simp -implicitDefEqProofs only [oh_some, mp_some, sto_some, br_true, br_false, gd_true, gd_false, wA_tt, wA_tup, wA_ft, wA_tf, wA_ff, aNilCheck_box, aNilCheck_ref, aAddr_box, aAddr_ref, aLoad_one, List.getElem?_cons_succ, List.getElem?_cons_zero, Option.map_some, bin_add, bin_sub, bin_lss, bin_leq, bin_gtr, bin_geq, bin_eql, bin_neq, str_eql, aMax_int, aMin_int, aUn_not, aPick_true, aPick_false, strip_int, strip_bool, strip_str, strip_nilp, strip_nils, strip_box, strip_ref, strip_agg, strip_tup, strip_undef, aBox_f, solid_agg, cells_agg, kLoad_box, kGd_true, kGd_false, kCall_ok, gt_iff_lt, ge_iff_le, Int.ofNat_lt, Int.ofNat_le, decide_true, decide_false, Nat.zero_add, Bool.not_true, Bool.not_false, aExtract_tup, fin1_some, resL_nil, resL_some, noRefL_cons, noRefL_nil, noRef_int, noRef_str, noRef_bool, noRef_nilp, noRef_agg, strip_fn, kLoad_ref, Bool.and_self, ite_true, q1, q2, q3, q4, z1, z2, c3, posV, alloc25, List.length_nil, List.nil_append, List.length_cons, List.cons_append, store2', store2b]
      · rcases hm (by omega) c1 c2 with h | ⟨h, h'⟩
        · simp -implicitDefEqProofs only [oh_some, mp_some, sto_some, br_true, br_false, gd_true, gd_false, wA_tt, wA_tup, wA_ft, wA_tf, wA_ff, aNilCheck_box, aNilCheck_ref, aAddr_box, aAddr_ref, aLoad_one, List.getElem?_cons_succ, List.getElem?_cons_zero, Option.map_some, bin_add, bin_sub, bin_lss, bin_leq, bin_gtr, bin_geq, bin_eql, bin_neq, str_eql, aMax_int, aMin_int, aUn_not, aPick_true, aPick_false, strip_int, strip_bool, strip_str, strip_nilp, strip_nils, strip_box, strip_ref, strip_agg, strip_tup, strip_undef, aBox_f, solid_agg, cells_agg, kLoad_box, kGd_true, kGd_false, kCall_ok, gt_iff_lt, ge_iff_le, Int.ofNat_lt, Int.ofNat_le, decide_true, decide_false, Nat.zero_add, Bool.not_true, Bool.not_false, aExtract_tup, fin1_some, resL_nil, resL_some, noRefL_cons, noRefL_nil, noRef_int, noRef_str, noRef_bool, noRef_nilp, noRef_agg, strip_fn, kLoad_ref, Bool.and_self, ite_true, q1, q2, q3, q4, z1, z2, c3, posV, alloc25, List.length_nil, List.nil_append, List.length_cons, List.cons_append, store2', store2b, ld00, ld10, ld01, load1b, h]
        · have h0 : ¬ p1 < r1 := by omega
          have h1 : ((p1 : Int) == (r1 : Int)) = true := by rw [h]; simp
          simp -implicitDefEqProofs only [oh_some, mp_some, sto_some, br_true, br_false, gd_true, gd_false, wA_tt, wA_tup, wA_ft, wA_tf, wA_ff, aNilCheck_box, aNilCheck_ref, aAddr_box, aAddr_ref, aLoad_one, List.getElem?_cons_succ, List.getElem?_cons_zero, Option.map_some, bin_add, bin_sub, bin_lss, bin_leq, bin_gtr, bin_geq, bin_eql, bin_neq, str_eql, aMax_int, aMin_int, aUn_not, aPick_true, aPick_false, strip_int, strip_bool, strip_str, strip_nilp, strip_nils, strip_box, strip_ref, strip_agg, strip_tup, strip_undef, aBox_f, solid_agg, cells_agg, kLoad_box, kGd_true, kGd_false, kCall_ok, gt_iff_lt, ge_iff_le, Int.ofNat_lt, Int.ofNat_le, decide_true, decide_false, Nat.zero_add, Bool.not_true, Bool.not_false, aExtract_tup, fin1_some, resL_nil, resL_some, noRefL_cons, noRefL_nil, noRef_int, noRef_str, noRef_bool, noRef_nilp, noRef_agg, strip_fn, kLoad_ref, Bool.and_self, ite_true, q1, q2, q3, q4, z1, z2, c3, posV, alloc25, List.length_nil, List.nil_append, List.length_cons, List.cons_append, store2', store2b, ld00, ld10, ld01, load1b, h0, h1, h']
    · have z1 : ((p3 : Int) != 0) = false := by rw [c1]; rfl
      have z2 : ((r3 : Int) != 0) = true := by simp; omega
      simp -implicitDefEqProofs only [oh_some, mp_some, sto_some, br_true, br_false, gd_true, gd_false, wA_tt, wA_tup, wA_ft, wA_tf, wA_ff, aNilCheck_box, aNilCheck_ref, aAddr_box, aAddr_ref, aLoad_one, List.getElem?_cons_succ, List.getElem?_cons_zero, Option.map_some, bin_add, bin_sub, bin_lss, bin_leq, bin_gtr, bin_geq, bin_eql, bin_neq, str_eql, aMax_int, aMin_int, aUn_not, aPick_true, aPick_false, strip_int, strip_bool, strip_str, strip_nilp, strip_nils, strip_box, strip_ref, strip_agg, strip_tup, strip_undef, aBox_f, solid_agg, cells_agg, kLoad_box, kGd_true, kGd_false, kCall_ok, gt_iff_lt, ge_iff_le, Int.ofNat_lt, Int.ofNat_le, decide_true, decide_false, Nat.zero_add, Bool.not_true, Bool.not_false, aExtract_tup, fin1_some, resL_nil, resL_some, noRefL_cons, noRefL_nil, noRef_int, noRef_str, noRef_bool, noRef_nilp, noRef_agg, strip_fn, kLoad_ref, Bool.and_self, ite_true, q1, q2, q3, q4, z1, z2, posV, alloc25, List.length_nil, List.nil_append, List.length_cons, List.cons_append, store2', store2b]
  · have z1 : ((p3 : Int) != 0) = true := by simp; omega
    simp -implicitDefEqProofs only [oh_some, mp_some, sto_some, br_true, br_false, gd_true, gd_false, wA_tt, wA_tup, wA_ft, wA_tf, wA_ff, aNilCheck_box, aNilCheck_ref, aAddr_box, aAddr_ref, aLoad_one, List.getElem?_cons_succ, List.getElem?_cons_zero, Option.map_some, bin_add, bin_sub, bin_lss, bin_leq, bin_gtr, bin_geq, bin_eql, bin_neq, str_eql, aMax_int, aMin_int, aUn_not, aPick_true, aPick_false, strip_int, strip_bool, strip_str, strip_nilp, strip_nils, strip_box, strip_ref, strip_agg, strip_tup, strip_undef, aBox_f, solid_agg, cells_agg, kLoad_box, kGd_true, kGd_false, kCall_ok, gt_iff_lt, ge_iff_le, Int.ofNat_lt, Int.ofNat_le, decide_true, decide_false, Nat.zero_add, Bool.not_true, Bool.not_false, aExtract_tup, fin1_some, resL_nil, resL_some, noRefL_cons, noRefL_nil, noRef_int, noRef_str, noRef_bool, noRef_nilp, noRef_agg, strip_fn, kLoad_ref, Bool.and_self, ite_true, q1, q2, q3, q4, z1, posV, alloc25, List.length_nil, List.nil_append, List.length_cons, List.cons_append, store2', store2b]

theorem Lines_run (src : List UInt8) (ln : Int) : AC C 4 [.str src, I ln] (.bool true) := by
  refine .intro en4 (by simp [noRefL_cons, noRefL_nil, noRef_str, noRef_int]) rfl ?_
  have hl : (src.take 300).length < 1000 := by simp; omega
  obtain ⟨N1, q1⟩ := AC.at ex_run
  obtain ⟨N2, q2⟩ := AC.at (short_run src 300)
  generalize src.take 300 = x at *
  obtain ⟨N3, q3⟩ := AC.at (lines_run x (by omega))
  obtain ⟨N4, q4⟩ := AC.at (UOff_run x hl ln 0)
  refine ⟨max N1 (max N2 (max N3 N4)), fun n hn => ⟨[], ?_⟩⟩
  have q1 := q1 n (by omega)
  have q2 : ∀ s, aCall Tryd.prog (den C n) 12 [.str src, .int .i64 300] s = _ := q2 n (by omega)
  have q3 := q3 n (by omega)
  have q4 := q4 n (by omega)
  have l30 := len30 (starts x) .sh
  have z0 : ((0 : Int) == 0) = true := rfl
  have z5 : ((5 : Int) == 5) = true := rfl
  unfold toOff at q4
  rw [F4_eq, F4]
  by_cases c1 : ln < 0
  · rw [if_pos (.inl c1)] at q4
    have q4 : ∀ s, aCall Tryd.prog (den C n) 15 [.str x, .agg [I ln, I 0]] s = some (.tup [I 0, I 5], s) := q4
    simp -implicitDefEqProofs only [oh_some, mp_some, sto_some, br_true, br_false, gd_true, gd_false, wA_tt, wA_tup, wA_ft, wA_tf, wA_ff, aNilCheck_box, aNilCheck_ref, aAddr_box, aAddr_ref, aLoad_one, List.getElem?_cons_succ, List.getElem?_cons_zero, Option.map_some, bin_add, bin_sub, bin_lss, bin_leq, bin_gtr, bin_geq, bin_eql, bin_neq, str_eql, aMax_int, aMin_int, aUn_not, aPick_true, aPick_false, strip_int, strip_bool, strip_str, strip_nilp, strip_nils, strip_box, strip_ref, strip_agg, strip_tup, strip_undef, aBox_f, solid_agg, cells_agg, kLoad_box, kGd_true, kGd_false, kCall_ok, gt_iff_lt, ge_iff_le, Int.ofNat_lt, Int.ofNat_le, decide_true, decide_false, Nat.zero_add, Bool.not_true, Bool.not_false, aExtract_tup, fin1_some, resL_nil, resL_some, noRefL_cons, noRefL_nil, noRef_int, noRef_str, noRef_bool, noRef_nilp, noRef_agg, strip_fn, kLoad_ref, Bool.and_self, ite_true, q1, q2, q3, q4, c1, z0, z5, build25, strip_sh]
  · by_cases c2 : ((starts x).length : Int) ≤ ln
    · rw [if_pos (.inr c2)] at q4
      have q4 : ∀ s, aCall Tryd.prog (den C n) 15 [.str x, .agg [I ln, I 0]] s = some (.tup [I 0, I 5], s) := q4
      simp -implicitDefEqProofs only [oh_some, mp_some, sto_some, br_true, br_false, gd_true, gd_false, wA_tt, wA_tup, wA_ft, wA_tf, wA_ff, aNilCheck_box, aNilCheck_ref, aAddr_box, aAddr_ref, aLoad_one, List.getElem?_cons_succ, List.getElem?_cons_zero, Option.map_some, bin_add, bin_sub, bin_lss, bin_leq, bin_gtr, bin_geq, bin_eql, bin_neq, str_eql, aMax_int, aMin_int, aUn_not, aPick_true, aPick_false, strip_int, strip_bool, strip_str, strip_nilp, strip_nils, strip_box, strip_ref, strip_agg, strip_tup, strip_undef, aBox_f, solid_agg, cells_agg, kLoad_box, kGd_true, kGd_false, kCall_ok, gt_iff_lt, ge_iff_le, Int.ofNat_lt, Int.ofNat_le, decide_true, decide_false, Nat.zero_add, Bool.not_true, Bool.not_false, aExtract_tup, fin1_some, resL_nil, resL_some, noRefL_cons, noRefL_nil, noRef_int, noRef_str, noRef_bool, noRef_nilp, noRef_agg, strip_fn, kLoad_ref, Bool.and_self, ite_true, q1, q2, q3, q4, c1, c2, l30, z0, z5, build25, strip_sh]
    · rw [if_neg (by omega)] at q4
      obtain ⟨o, rfl⟩ : ∃ o : Nat, ln = o := ⟨ln.toNat, by omega⟩
      have c2' : ¬ (starts x).length ≤ o := by omega
      have hlt : o < (starts x).length := by omega
      have e0 : (starts x)[o]? = some (starts x)[o] := List.getElem?_eq_getElem hlt
      have e1 := idx30 (f := .sh) e0
      rw [Int.toNat_natCast, List.getD_eq_getElem?_getD, e0, Option.getD_some] at q4
      have e2 : ogEnd 0 (og true x 0 x.length (starts x)[o] 0) = ((starts x)[o], 0) := by
        have : og true x 0 x.length (starts x)[o] 0 = ((starts x)[o], 0) := by
          cases x.length with
          | zero => rfl
          | succ k => unfold og; rw [if_neg (by simp)]
        rw [this]; rfl
      rw [e2] at q4
      have q4 : ∀ s, aCall Tryd.prog (den C n) 15 [.str x, .agg [I o, I 0]] s = some (.tup [I (starts x)[o], I 0], s) := q4
      simp -implicitDefEqProofs only [oh_some, mp_some, sto_some, br_true, br_false, gd_true, gd_false, wA_tt, wA_tup, wA_ft, wA_tf, wA_ff, aNilCheck_box, aNilCheck_ref, aAddr_box, aAddr_ref, aLoad_one, List.getElem?_cons_succ, List.getElem?_cons_zero, Option.map_some, bin_add, bin_sub, bin_lss, bin_leq, bin_gtr, bin_geq, bin_eql, bin_neq, str_eql, aMax_int, aMin_int, aUn_not, aPick_true, aPick_false, strip_int, strip_bool, strip_str, strip_nilp, strip_nils, strip_box, strip_ref, strip_agg, strip_tup, strip_undef, aBox_f, solid_agg, cells_agg, kLoad_box, kGd_true, kGd_false, kCall_ok, gt_iff_lt, ge_iff_le, Int.ofNat_lt, Int.ofNat_le, decide_true, decide_false, Nat.zero_add, Bool.not_true, Bool.not_false, aExtract_tup, fin1_some, resL_nil, resL_some, noRefL_cons, noRefL_nil, noRef_int, noRef_str, noRef_bool, noRef_nilp, noRef_agg, strip_fn, kLoad_ref, Bool.and_self, ite_true, q1, q2, q3, q4, c1, c2', l30, e1, z0, beq_self_eq_true, build25, strip_sh]

theorem RoundTrip_run (src : List UInt8) (a : Int) : AC C 5 [.str src, I a] (.bool true) := by
  refine .intro en5 (by simp [noRefL_cons, noRefL_nil, noRef_str, noRef_int]) rfl ?_
  have hl : (src.take 300).length < 1000 := by simp; omega
  obtain ⟨N1, q1⟩ := AC.at ex_run
  obtain ⟨N2, q2⟩ := AC.at (short_run src 300)
  generalize src.take 300 = x at *
  obtain ⟨N3, q3⟩ := AC.at (UPos_run x hl a)
  obtain ⟨N4, q4⟩ := AC.at (RPos_run x hl a)
  have hb := both x a
  have r1 := round_trip (u := true) (src := x) (off := a)
  have r2 := round_trip (u := false) (src := x) (off := a)
  have ok1 := toPos_ok (u := true) (src := x) (off := a)
  have er1 := toPos_err true x a
  have er2 := toPos_err false x a
  generalize toPos true x a = p at *
  generalize toPos false x a = q at *
  obtain ⟨p1, p2, p3⟩ := p
  obtain ⟨g1, g2, g3⟩ := q
  simp only at hb r1 r2 ok1 er1 er2
  obtain ⟨hb1, hb2, hb3⟩ := hb
  subst hb1; subst hb2
  have z9 : ((p3 : Int) != (p3 : Int)) = false := by simp
  by_cases c1 : p3 = 0
  · have k1 := r1 c1
    have k2 := r2 c1
    have k0 := (ok1 c1).1
    obtain ⟨N5, q5⟩ := AC.at (UOff_run x hl p1 p2)
    obtain ⟨N6, q6⟩ := AC.at (ROff_run x hl p1 g2)
    rw [k1] at q5
    rw [k2] at q6
    refine ⟨max N1 (max N2 (max N3 (max N4 (max N5 N6)))), fun n hn => ⟨[(25, [I p1, I p2]), (25, [I p1, I g2])], ?_⟩⟩
    have q1 := q1 n (by omega)
    have q2 : ∀ s, aCall Tryd.prog (den C n) 12 [.str src, .int .i64 300] s = _ := q2 n (by omega)
    have q3 := q3 n (by omega)
    have q4 := q4 n (by omega)
    have q5 : ∀ s, aCall Tryd.prog (den C n) 15 _ s = some (.tup [I a.toNat, I 0], s) := q5 n (by omega)
    have q6 : ∀ s, aCall Tryd.prog (den C n) 17 _ s = some (.tup [I a.toNat, I 0], s) := q6 n (by omega)
    rw [Int.toNat_of_nonneg k0] at q5 q6
    have z1 : ((p3 : Int) != 0) = false := by rw [c1]; rfl
    have z0 : ((0 : Int) == 0) = true := rfl
    rw [F5_eq, F5]
    simp -implicitDefEqProofs only [oh_some, mp_some, sto_some, br_true, br_false, gd_true, gd_false, wA_tt, wA_tup, wA_ft, wA_tf, wA_ff, aNilCheck_box, aNilCheck_ref, aAddr_box, aAddr_ref, aLoad_one, List.getElem?_cons_succ, List.getElem?_cons_zero, Option.map_some, bin_add, bin_sub, bin_lss, bin_leq, bin_gtr, bin_geq, bin_eql, bin_neq, str_eql, aMax_int, aMin_int, aUn_not, aPick_true, aPick_false, strip_int, strip_bool, strip_str, strip_nilp, strip_nils, strip_box, strip_ref, strip_agg, strip_tup, strip_undef, aBox_f, solid_agg, cells_agg, kLoad_box, kGd_true, kGd_false, kCall_ok, gt_iff_lt, ge_iff_le, Int.ofNat_lt, Int.ofNat_le, decide_true, decide_false, Nat.zero_add, Bool.not_true, Bool.not_false, aExtract_tup, fin1_some, resL_nil, resL_some, noRefL_cons, noRefL_nil, noRef_int, noRef_str, noRef_bool, noRef_nilp, noRef_agg, strip_fn, kLoad_ref, Bool.and_self, ite_true, q1, q2, q3, q4, q5, q6, z0, z1, z9, hb3, posV, alloc25, List.length_nil, List.nil_append, List.length_cons, List.cons_append, store2', store2b, ld00, ld10, ld01, load1b, load2a, load2b, beq_self_eq_true]
  · obtain ⟨u1, u2⟩ := er1 c1
    obtain ⟨_, u4⟩ := er2 c1
    subst u1; subst u2; subst u4
    refine ⟨max N1 (max N2 (max N3 N4)), fun n hn => ⟨[(25, [I 0, I 0]), (25, [I 0, I 0])], ?_⟩⟩
    have q1 := q1 n (by omega)
    have q2 : ∀ s, aCall Tryd.prog (den C n) 12 [.str src, .int .i64 300] s = _ := q2 n (by omega)
    have q3 : ∀ s, aCall Tryd.prog (den C n) 13 _ s = some (.tup [.agg [I 0, I 0], I p3], s) := q3 n (by omega)
    have q4 : ∀ s, aCall Tryd.prog (den C n) 16 _ s = some (.tup [.agg [I 0, I 0], I p3], s) := q4 n (by omega)
    have z1 : ((p3 : Int) != 0) = true := by simp; omega
    rw [F5_eq, F5]
    simp -implicitDefEqProofs only [oh_some, mp_some, sto_some, br_true, br_false, gd_true, gd_false, wA_tt, wA_tup, wA_ft, wA_tf, wA_ff, aNilCheck_box, aNilCheck_ref, aAddr_box, aAddr_ref, aLoad_one, List.getElem?_cons_succ, List.getElem?_cons_zero, Option.map_some, bin_add, bin_sub, bin_lss, bin_leq, bin_gtr, bin_geq, bin_eql, bin_neq, str_eql, aMax_int, aMin_int, aUn_not, aPick_true, aPick_false, strip_int, strip_bool, strip_str, strip_nilp, strip_nils, strip_box, strip_ref, strip_agg, strip_tup, strip_undef, aBox_f, solid_agg, cells_agg, kLoad_box, kGd_true, kGd_false, kCall_ok, gt_iff_lt, ge_iff_le, Int.ofNat_lt, Int.ofNat_le, decide_true, decide_false, Nat.zero_add, Bool.not_true, Bool.not_false, aExtract_tup, fin1_some, resL_nil, resL_some, noRefL_cons, noRefL_nil, noRef_int, noRef_str, noRef_bool, noRef_nilp, noRef_agg, strip_fn, kLoad_ref, Bool.and_self, ite_true, q1, q2, q3, q4, z1, z9, alloc25, List.length_nil, List.nil_append, List.length_cons, List.cons_append, store2', store2b, load2a, load2b, build25z, eq25z]
end PosF

