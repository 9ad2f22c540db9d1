/- Strings and the first token, in the abstract machine. -/
import Derived.Test.YtionohfkjdahlaaDoorLexA
set_option linter.all false
set_option maxRecDepth 100000
namespace LexF
open Go Go.Abs Go.Proofs

theorem sc_step {l : List UInt8} {i : Nat} (h : i < l.length) : sc (l.drop i) i = if l[i] = 10 then none else if l[i] = 34 then some (i + 1) else if l[i] = 92 ∧ ∃ c, l[i + 1]? = some c ∧ c ≠ 10 then sc (l.drop (i + 2)) (i + 2) else sc (l.drop (i + 1)) (i + 1) := by
  rw [List.drop_eq_getElem_cons h]
  by_cases h1 : i + 1 < l.length
  · rw [List.drop_eq_getElem_cons h1]
    have e : l[i + 1]? = some l[i + 1] := List.getElem?_eq_getElem h1
    rw [sc]
    by_cases c1 : l[i] = 10
    · rw [if_pos c1, if_pos c1]
    · rw [if_neg c1, if_neg c1]
      by_cases c2 : l[i] = 34
      · rw [if_pos c2, if_pos c2]
      · rw [if_neg c2, if_neg c2]
        by_cases c3 : l[i] = 92 ∧ l[i + 1] ≠ 10
        · rw [if_pos c3, if_pos ⟨c3.1, _, e, c3.2⟩]
        · rw [if_neg c3, if_neg (by rintro ⟨k1, c, k2, k3⟩; rw [e] at k2; cases k2; exact c3 ⟨k1, k3⟩)]
  · have e : l.drop (i + 1) = [] := List.drop_of_length_le (by omega)
    have e' : l[i + 1]? = none := List.getElem?_eq_none (by omega)
    rw [e, sc, sc]
    have hno : ¬ (l[i] = 92 ∧ ∃ c, l[i + 1]? = some c ∧ c ≠ 10) := by rintro ⟨_, c, k, _⟩; rw [e'] at k; cases k
    rw [if_neg hno]
    by_cases c1 : l[i] = 10
    · rw [if_pos c1, if_neg (by rw [c1]; decide)]
    · rw [if_neg c1]

theorem eqb (c : UInt8) (k : UInt8) (z : Int) (hz : z = k.toNat) : ((c.toNat : Int) == z) = decide (c = k) := by
  subst hz
  by_cases h : c = k
  · subst h; simp
  · have : (c.toNat : Int) ≠ (k.toNat : Int) := fun e => h (UInt8.toNat_inj.1 (by omega))
    rw [beq_eq_false_iff_ne.2 this]; simp [h]

def scV (l : List UInt8) (x : Option Nat) : AV := match x with
  | some n => .tup [I n, I 106]
  | none => .tup [I (1 + scanN notNL (l.drop 1) : Nat), I 108]

theorem sc_J (l : List UInt8) (i : Nat) (hi : i < 1000000) (D : Den) (n' : Nat) (k0 : Env → Heap → Ans) (e : Env) (s : Heap) (h4 : e 4 = I i) : ∃ e', F49_J1 D n' k0 e s = k0 e' s ∧ e' 4 = I (i + 1 : Nat) ∧ e' 0 = e 0 := by
  have e2 := wadd1 (a := i) (by omega)
  rw [F49_J1]
  simp -implicitDefEqProofs only [oh_some, mp_some, sto_some, br_true, br_false, gd_true, gd_false, wA_tt, wA_tup, wA_ft, wA_tf, wA_ff, aNilCheck_box, aNilCheck_ref, aAddr_box, aAddr_ref, aLoad_one, List.getElem?_cons_succ, List.getElem?_cons_zero, Option.map_some, bin_add, bin_sub, bin_lss, bin_leq, bin_gtr, bin_geq, bin_eql, bin_neq, str_eql, aMax_int, aMin_int, aUn_not, aPick_true, aPick_false, strip_int, strip_bool, strip_str, strip_nilp, strip_nils, strip_box, strip_ref, strip_agg, strip_tup, strip_undef, aBox_f, solid_agg, cells_agg, kLoad_box, kGd_true, kGd_false, kCall_ok, gt_iff_lt, ge_iff_le, Int.ofNat_lt, Int.ofNat_le, decide_true, decide_false, Nat.zero_add, Bool.not_true, Bool.not_false, aExtract_tup, fin1_some, resL_nil, resL_some, noRefL_cons, noRefL_nil, noRef_int, noRef_str, noRef_bool, noRef_nilp, noRef_agg, strip_fn, kLoad_ref, Bool.and_self, ite_true, h4, e2]
  exact ⟨_, rfl, by simp [upds_at, upd_at], by simp [upds_at, upd_at]⟩

theorem str_loop (l : List UInt8) (hl : l.length < 100000) (h1 : 1 ≤ l.length) : ∀ (k i : Nat), l.length - i ≤ k → i ≤ l.length →
    ∃ N, ∀ n, N ≤ n → ∀ m, k < m → ∀ n' e s, e 0 = .str l → e 4 = I i → aLoop (F49_L0 (den C n) n') m e s = some (scV l (sc (l.drop i) i), s) := by
  obtain ⟨N0, q0⟩ := AC.at (scan_run 64 notNL notNL_run' l (by omega) 1 h1)
  have q0 : ∀ n, N0 ≤ n → ∀ s, aCall Tryd.prog (den C n) 41 [.str l, .int .i64 1, .fn 64 [] []] s = _ := q0
  have stop : ∀ i, ¬ i < l.length → ∀ n, N0 ≤ n → ∀ m, 0 < m → ∀ n' e s, e 0 = .str l → e 4 = I i → aLoop (F49_L0 (den C n) n') m e s = some (scV l (sc (l.drop i) i), s) := by
    intro i hi n hn m hm n' e s he0 he4
    obtain ⟨m, rfl⟩ : ∃ j, m = j + 1 := ⟨m - 1, by omega⟩
    have q0 := q0 n hn
    rw [aLoop, F49_L0, List.drop_of_length_le (by omega), sc, scV]
    simp -implicitDefEqProofs only [oh_some, mp_some, sto_some, br_true, br_false, gd_true, gd_false, wA_tt, wA_tup, wA_ft, wA_tf, wA_ff, aNilCheck_box, aNilCheck_ref, aAddr_box, aAddr_ref, aLoad_one, List.getElem?_cons_succ, List.getElem?_cons_zero, Option.map_some, bin_add, bin_sub, bin_lss, bin_leq, bin_gtr, bin_geq, bin_eql, bin_neq, str_eql, aMax_int, aMin_int, aUn_not, aPick_true, aPick_false, strip_int, strip_bool, strip_str, strip_nilp, strip_nils, strip_box, strip_ref, strip_agg, strip_tup, strip_undef, aBox_f, solid_agg, cells_agg, kLoad_box, kGd_true, kGd_false, kCall_ok, gt_iff_lt, ge_iff_le, Int.ofNat_lt, Int.ofNat_le, decide_true, decide_false, Nat.zero_add, Bool.not_true, Bool.not_false, aExtract_tup, fin1_some, resL_nil, resL_some, noRefL_cons, noRefL_nil, noRef_int, noRef_str, noRef_bool, noRef_nilp, noRef_agg, strip_fn, kLoad_ref, Bool.and_self, ite_true, he0, he4, len9, hi, q0]
  intro k
  induction k with
  | zero =>
    intro i hk hi
    exact ⟨N0, fun n hn m hm n' e s he0 he4 => stop i (by omega) n hn m (by omega) n' e s he0 he4⟩
  | succ k ih =>
    intro i hk hi
    by_cases c : i < l.length
    · have g0 : l[i]? = some l[i] := List.getElem?_eq_getElem c
      have e1 := idx9 g0
      have b10 := ne10 l[i]
      have b34 := eqb l[i] 34 34 rfl
      have b92 := eqb l[i] 92 92 rfl
      have e2 := wadd1 (a := i) (by omega)
      rw [sc_step c]
      by_cases c1 : l[i] = 10
      · rw [if_pos c1]
        refine ⟨N0, fun n hn m hm n' e s he0 he4 => ?_⟩
        obtain ⟨m, rfl⟩ : ∃ j, m = j + 1 := ⟨m - 1, by omega⟩
        have q0 := q0 n hn
        have b10' : notNL l[i] = false := by rw [c1]; rfl
        rw [b10'] at b10
        rw [aLoop, F49_L0, scV]
        simp -implicitDefEqProofs only [oh_some, mp_some, sto_some, br_true, br_false, gd_true, gd_false, wA_tt, wA_tup, wA_ft, wA_tf, wA_ff, aNilCheck_box, aNilCheck_ref, aAddr_box, aAddr_ref, aLoad_one, List.getElem?_cons_succ, List.getElem?_cons_zero, Option.map_some, bin_add, bin_sub, bin_lss, bin_leq, bin_gtr, bin_geq, bin_eql, bin_neq, str_eql, aMax_int, aMin_int, aUn_not, aPick_true, aPick_false, strip_int, strip_bool, strip_str, strip_nilp, strip_nils, strip_box, strip_ref, strip_agg, strip_tup, strip_undef, aBox_f, solid_agg, cells_agg, kLoad_box, kGd_true, kGd_false, kCall_ok, gt_iff_lt, ge_iff_le, Int.ofNat_lt, Int.ofNat_le, decide_true, decide_false, Nat.zero_add, Bool.not_true, Bool.not_false, aExtract_tup, fin1_some, resL_nil, resL_some, noRefL_cons, noRefL_nil, noRef_int, noRef_str, noRef_bool, noRef_nilp, noRef_agg, strip_fn, kLoad_ref, Bool.and_self, ite_true, he0, he4, len9, c, e1, b10, q0]
      · have b10' : notNL l[i] = true := by simpa [notNL] using c1
        rw [if_neg c1]
        rw [b10'] at b10
        by_cases c2 : l[i] = 34
        · rw [if_pos c2]
          refine ⟨0, fun n hn m hm n' e s he0 he4 => ?_⟩
          obtain ⟨m, rfl⟩ : ∃ j, m = j + 1 := ⟨m - 1, by omega⟩
          rw [decide_eq_true c2] at b34
          rw [aLoop, F49_L0, scV]
          simp -implicitDefEqProofs only [oh_some, mp_some, sto_some, br_true, br_false, gd_true, gd_false, wA_tt, wA_tup, wA_ft, wA_tf, wA_ff, aNilCheck_box, aNilCheck_ref, aAddr_box, aAddr_ref, aLoad_one, List.getElem?_cons_succ, List.getElem?_cons_zero, Option.map_some, bin_add, bin_sub, bin_lss, bin_leq, bin_gtr, bin_geq, bin_eql, bin_neq, str_eql, aMax_int, aMin_int, aUn_not, aPick_true, aPick_false, strip_int, strip_bool, strip_str, strip_nilp, strip_nils, strip_box, strip_ref, strip_agg, strip_tup, strip_undef, aBox_f, solid_agg, cells_agg, kLoad_box, kGd_true, kGd_false, kCall_ok, gt_iff_lt, ge_iff_le, Int.ofNat_lt, Int.ofNat_le, decide_true, decide_false, Nat.zero_add, Bool.not_true, Bool.not_false, aExtract_tup, fin1_some, resL_nil, resL_some, noRefL_cons, noRefL_nil, noRef_int, noRef_str, noRef_bool, noRef_nilp, noRef_agg, strip_fn, kLoad_ref, Bool.and_self, ite_true, he0, he4, len9, c, e1, e2, b10, b34]
        · rw [if_neg c2]
          rw [decide_eq_false c2] at b34
          obtain ⟨N1, q1⟩ := ih (i + 1) (by omega) (by omega)
          have one : ∀ n, N1 ≤ n → ∀ m, k < m → ∀ n' s E, E 4 = I i → E 0 = .str l → F49_J1 (den C n) n' (aLoop (F49_L0 (den C n) n') m) E s = some (scV l (sc (l.drop (i + 1)) (i + 1)), s) := by
            intro n hn m hm n' s E h4 h0
            obtain ⟨e', k1, k2, k3⟩ := sc_J l i (by omega) (den C n) n' (aLoop (F49_L0 (den C n) n') m) E s h4
            rw [k1]
            exact q1 n hn m hm n' e' s (k3.trans h0) k2
          by_cases c3 : l[i] = 92
          · rw [decide_eq_true c3] at b92
            by_cases c4 : i + 1 < l.length
            · have g1 : l[i + 1]? = some l[i + 1] := List.getElem?_eq_getElem c4
              have e3 := idx9 g1
              have b10s := ne10 l[i + 1]
              by_cases c5 : l[i + 1] = 10
              · have b' : notNL l[i + 1] = false := by rw [c5]; rfl
                rw [b'] at b10s
                rw [if_neg (by rintro ⟨_, x, hx, hn⟩; rw [g1] at hx; cases hx; exact hn c5)]
                refine ⟨N1, fun n hn m hm n' e s he0 he4 => ?_⟩
                obtain ⟨m, rfl⟩ : ∃ j, m = j + 1 := ⟨m - 1, by omega⟩
                rw [aLoop, F49_L0]
                simp -implicitDefEqProofs only [oh_some, mp_some, sto_some, br_true, br_false, gd_true, gd_false, wA_tt, wA_tup, wA_ft, wA_tf, wA_ff, aNilCheck_box, aNilCheck_ref, aAddr_box, aAddr_ref, aLoad_one, List.getElem?_cons_succ, List.getElem?_cons_zero, Option.map_some, bin_add, bin_sub, bin_lss, bin_leq, bin_gtr, bin_geq, bin_eql, bin_neq, str_eql, aMax_int, aMin_int, aUn_not, aPick_true, aPick_false, strip_int, strip_bool, strip_str, strip_nilp, strip_nils, strip_box, strip_ref, strip_agg, strip_tup, strip_undef, aBox_f, solid_agg, cells_agg, kLoad_box, kGd_true, kGd_false, kCall_ok, gt_iff_lt, ge_iff_le, Int.ofNat_lt, Int.ofNat_le, decide_true, decide_false, Nat.zero_add, Bool.not_true, Bool.not_false, aExtract_tup, fin1_some, resL_nil, resL_some, noRefL_cons, noRefL_nil, noRef_int, noRef_str, noRef_bool, noRef_nilp, noRef_agg, strip_fn, kLoad_ref, Bool.and_self, ite_true, he0, he4, len9, c, c4, e1, e2, e3, b10, b34, b92, b10s]
                exact one n hn m (by omega) n' s _ (by simp [upds_at, upd_at, he4]) (by simp [upds_at, upd_at, he0])
              · have b' : notNL l[i + 1] = true := by simpa [notNL] using c5
                rw [b'] at b10s
                rw [if_pos ⟨c3, _, g1, c5⟩]
                obtain ⟨N2, q2⟩ := ih (i + 2) (by omega) (by omega)
                refine ⟨N2, fun n hn m hm n' e s he0 he4 => ?_⟩
                obtain ⟨m, rfl⟩ : ∃ j, m = j + 1 := ⟨m - 1, by omega⟩
                have two : ∀ E, E 4 = I (i + 1 : Nat) → E 0 = .str l → F49_J1 (den C n) n' (aLoop (F49_L0 (den C n) n') m) E s = some (scV l (sc (l.drop (i + 2)) (i + 2)), s) := by
                  intro E h4 h0
                  obtain ⟨e', k1, k2, k3⟩ := sc_J l (i + 1) (by omega) (den C n) n' (aLoop (F49_L0 (den C n) n') m) E s h4
                  rw [k1]
                  exact q2 n hn m (by omega) n' e' s (k3.trans h0) k2
                rw [aLoop, F49_L0]
                simp -implicitDefEqProofs only [oh_some, mp_some, sto_some, br_true, br_false, gd_true, gd_false, wA_tt, wA_tup, wA_ft, wA_tf, wA_ff, aNilCheck_box, aNilCheck_ref, aAddr_box, aAddr_ref, aLoad_one, List.getElem?_cons_succ, List.getElem?_cons_zero, Option.map_some, bin_add, bin_sub, bin_lss, bin_leq, bin_gtr, bin_geq, bin_eql, bin_neq, str_eql, aMax_int, aMin_int, aUn_not, aPick_true, aPick_false, strip_int, strip_bool, strip_str, strip_nilp, strip_nils, strip_box, strip_ref, strip_agg, strip_tup, strip_undef, aBox_f, solid_agg, cells_agg, kLoad_box, kGd_true, kGd_false, kCall_ok, gt_iff_lt, ge_iff_le, Int.ofNat_lt, Int.ofNat_le, decide_true, decide_false, Nat.zero_add, Bool.not_true, Bool.not_false, aExtract_tup, fin1_some, resL_nil, resL_some, noRefL_cons, noRefL_nil, noRef_int, noRef_str, noRef_bool, noRef_nilp, noRef_agg, strip_fn, kLoad_ref, Bool.and_self, ite_true, he0, he4, len9, c, c4, e1, e2, e3, b10, b34, b92, b10s]
                exact two _ (by simp [upds_at, upd_at]) (by simp [upds_at, upd_at, he0])
            · rw [if_neg (by rintro ⟨_, x, hx, _⟩; rw [List.getElem?_eq_none (by omega)] at hx; cases hx)]
              refine ⟨N1, fun n hn m hm n' e s he0 he4 => ?_⟩
              obtain ⟨m, rfl⟩ : ∃ j, m = j + 1 := ⟨m - 1, by omega⟩
              rw [aLoop, F49_L0]
              simp -implicitDefEqProofs only [oh_some, mp_some, sto_some, br_true, br_false, gd_true, gd_false, wA_tt, wA_tup, wA_ft, wA_tf, wA_ff, aNilCheck_box, aNilCheck_ref, aAddr_box, aAddr_ref, aLoad_one, List.getElem?_cons_succ, List.getElem?_cons_zero, Option.map_some, bin_add, bin_sub, bin_lss, bin_leq, bin_gtr, bin_geq, bin_eql, bin_neq, str_eql, aMax_int, aMin_int, aUn_not, aPick_true, aPick_false, strip_int, strip_bool, strip_str, strip_nilp, strip_nils, strip_box, strip_ref, strip_agg, strip_tup, strip_undef, aBox_f, solid_agg, cells_agg, kLoad_box, kGd_true, kGd_false, kCall_ok, gt_iff_lt, ge_iff_le, Int.ofNat_lt, Int.ofNat_le, decide_true, decide_false, Nat.zero_add, Bool.not_true, Bool.not_false, aExtract_tup, fin1_some, resL_nil, resL_some, noRefL_cons, noRefL_nil, noRef_int, noRef_str, noRef_bool, noRef_nilp, noRef_agg, strip_fn, kLoad_ref, Bool.and_self, ite_true, he0, he4, len9, c, c4, e1, e2, b10, b34, b92]
              exact one n hn m (by omega) n' s _ (by simp [upds_at, upd_at, he4]) (by simp [upds_at, upd_at, he0])
          · rw [decide_eq_false c3] at b92
            rw [if_neg (fun h => c3 h.1)]
            refine ⟨N1, fun n hn m hm n' e s he0 he4 => ?_⟩
            obtain ⟨m, rfl⟩ : ∃ j, m = j + 1 := ⟨m - 1, by omega⟩
            rw [aLoop, F49_L0]
            simp -implicitDefEqProofs only [oh_some, mp_some, sto_some, br_true, br_false, gd_true, gd_false, wA_tt, wA_tup, wA_ft, wA_tf, wA_ff, aNilCheck_box, aNilCheck_ref, aAddr_box, aAddr_ref, aLoad_one, List.getElem?_cons_succ, List.getElem?_cons_zero, Option.map_some, bin_add, bin_sub, bin_lss, bin_leq, bin_gtr, bin_geq, bin_eql, bin_neq, str_eql, aMax_int, aMin_int, aUn_not, aPick_true, aPick_false, strip_int, strip_bool, strip_str, strip_nilp, strip_nils, strip_box, strip_ref, strip_agg, strip_tup, strip_undef, aBox_f, solid_agg, cells_agg, kLoad_box, kGd_true, kGd_false, kCall_ok, gt_iff_lt, ge_iff_le, Int.ofNat_lt, Int.ofNat_le, decide_true, decide_false, Nat.zero_add, Bool.not_true, Bool.not_false, aExtract_tup, fin1_some, resL_nil, resL_some, noRefL_cons, noRefL_nil, noRef_int, noRef_str, noRef_bool, noRef_nilp, noRef_agg, strip_fn, kLoad_ref, Bool.and_self, ite_true, he0, he4, len9, c, e1, b10, b34, b92]
            exact one n hn m (by omega) n' s _ (by simp [upds_at, upd_at, he4]) (by simp [upds_at, upd_at, he0])
    · exact ⟨N0, fun n hn m hm n' e s he0 he4 => stop i c n hn m (by omega) n' e s he0 he4⟩

theorem str_run (l : List UInt8) (hl : l.length < 100000) (h1 : 1 ≤ l.length) : AC C 49 [.str l] (.tup [I (scanStr l).1, I (scanStr l).2]) := by
  have e : scV l (sc (l.drop 1) 1) = .tup [I (scanStr l).1, I (scanStr l).2] := by
    unfold scV scanStr
    cases sc (l.drop 1) 1 <;> rfl
  refine .intro en49 rfl rfl ?_
  obtain ⟨N, q⟩ := str_loop l hl h1 l.length 1 (by omega) h1
  refine ⟨max N (l.length + 1), fun n hn => ⟨[], ?_⟩⟩
  rw [← e, F49_eq, F49]
  simp -implicitDefEqProofs only [oh_some, mp_some, sto_some, br_true, br_false, gd_true, gd_false, wA_tt, wA_tup, wA_ft, wA_tf, wA_ff, aNilCheck_box, aNilCheck_ref, aAddr_box, aAddr_ref, aLoad_one, List.getElem?_cons_succ, List.getElem?_cons_zero, Option.map_some, bin_add, bin_sub, bin_lss, bin_leq, bin_gtr, bin_geq, bin_eql, bin_neq, str_eql, aMax_int, aMin_int, aUn_not, aPick_true, aPick_false, strip_int, strip_bool, strip_str, strip_nilp, strip_nils, strip_box, strip_ref, strip_agg, strip_tup, strip_undef, aBox_f, solid_agg, cells_agg, kLoad_box, kGd_true, kGd_false, kCall_ok, gt_iff_lt, ge_iff_le, Int.ofNat_lt, Int.ofNat_le, decide_true, decide_false, Nat.zero_add, Bool.not_true, Bool.not_false, aExtract_tup, fin1_some, resL_nil, resL_some, noRefL_cons, noRefL_nil, noRef_int, noRef_str, noRef_bool, noRef_nilp, noRef_agg, strip_fn, kLoad_ref, Bool.and_self, ite_true, ]
  exact q n (by omega) n (by omega) n _ _ (by simp [upds_at, upd_at, argEnv]) (by simp [upds_at, upd_at])

/-! ### The first token -/
def firstV (x : Nat × Nat) : AV := .tup [I x.1, I x.2]
set_option maxHeartbeats 2000000 in
theorem first_run (c : UInt8) (r : List UInt8) (hl : (c :: r).length < 100000) : AC C 31 [.str (c :: r)] (firstV (first (c :: r))) := by
  refine .intro en31 rfl (by simp [firstV, noRef_tup, noRefL_cons, noRefL_nil, noRef_int]) ?_
  have hpos : 1 ≤ (c :: r).length := by simp
  have i0 : aIndex Tryd.prog 9 (.str (c :: r)) (I 0) = some (U c) := by simp [aIndex, under9]
  obtain ⟨N1, q1⟩ := AC.at (isSp_run c)
  obtain ⟨N2, q2⟩ := AC.at (prefix_run (c :: r) [47, 47])
  obtain ⟨N3, q3⟩ := AC.at (isLet_run c)
  obtain ⟨N4, q4⟩ := AC.at (isDig_run c)
  obtain ⟨N5, q5⟩ := AC.at (str_run (c :: r) hl hpos)
  obtain ⟨N6, q6⟩ := AC.at kw_run
  obtain ⟨N7, q7⟩ := AC.at two_run
  obtain ⟨N8, q8⟩ := AC.at (index_run punct c)
  obtain ⟨N9, q9⟩ := AC.at (contains_run kw kw_ok.2.2 ((c :: r).take (scanN isWord (c :: r))))
  obtain ⟨N10, q10⟩ := AC.at (contains_run two two_ok.2.2 ((c :: r).take 2))
  obtain ⟨N11, q11⟩ := AC.at (scan_run 40 isSp isSp_run (c :: r) (by omega) 0 (by omega))
  obtain ⟨N12, q12⟩ := AC.at (scan_run 43 notNL notNL_run (c :: r) (by omega) 0 (by omega))
  obtain ⟨N13, q13⟩ := AC.at (scan_run 45 isWord isWord_run (c :: r) (by omega) 0 (by omega))
  obtain ⟨N14, q14⟩ := AC.at (scan_run 46 isDig isDig_run (c :: r) (by omega) 0 (by omega))
  have hw := scanN_le isWord (c :: r)
  have e1 := subTake (s := c :: r) (i := scanN isWord (c :: r)) hw
  have b34 := eqb c 34 34 rfl
  rw [List.drop_zero, Nat.zero_add] at q11 q12 q13 q14
  rw [first]
  refine ⟨max N1 (max N2 (max N3 (max N4 (max N5 (max N6 (max N7 (max N8 (max N9 (max N10 (max N11 (max N12 (max N13 N14)))))))))))), fun n hn => ⟨[], ?_⟩⟩
  simp only [Nat.max_le] at hn
  have q1 : ∀ s, aCall Tryd.prog (den C n) 40 [.int .u8 c.toNat] s = _ := q1 n (by omega)
  have q2 := q2 n (by omega)
  have q3 : ∀ s, aCall Tryd.prog (den C n) 44 [.int .u8 c.toNat] s = _ := q3 n (by omega)
  have q4 : ∀ s, aCall Tryd.prog (den C n) 46 [.int .u8 c.toNat] s = _ := q4 n (by omega)
  have q5 := q5 n (by omega)
  have q6 := q6 n (by omega)
  have q7 := q7 n (by omega)
  have q8 : ∀ s, aCall Tryd.prog (den C n) 51 [.str punct, .int .u8 c.toNat] s = _ := q8 n (by omega)
  have q9 := q9 n (by omega)
  have q10 := q10 n (by omega)
  have q11 : ∀ s, aCall Tryd.prog (den C n) 41 [.str (c :: r), .int .i64 0, .fn 40 [] []] s = _ := q11 n (by omega)
  have q12 : ∀ s, aCall Tryd.prog (den C n) 41 [.str (c :: r), .int .i64 0, .fn 43 [] []] s = _ := q12 n (by omega)
  have q13 : ∀ s, aCall Tryd.prog (den C n) 41 [.str (c :: r), .int .i64 0, .fn 45 [] []] s = _ := q13 n (by omega)
  have q14 : ∀ s, aCall Tryd.prog (den C n) 41 [.str (c :: r), .int .i64 0, .fn 46 [] []] s = _ := q14 n (by omega)
  unfold punct at q8
  rw [F31_eq, F31]
  by_cases c1 : isSp c = true
  · rw [if_pos c1]
    rw [c1] at q1
    simp -implicitDefEqProofs only [oh_some, mp_some, sto_some, br_true, br_false, gd_true, gd_false, wA_tt, wA_tup, wA_ft, wA_tf, wA_ff, aNilCheck_box, aNilCheck_ref, aAddr_box, aAddr_ref, aLoad_one, List.getElem?_cons_succ, List.getElem?_cons_zero, Option.map_some, bin_add, bin_sub, bin_lss, bin_leq, bin_gtr, bin_geq, bin_eql, bin_neq, str_eql, aMax_int, aMin_int, aUn_not, aPick_true, aPick_false, strip_int, strip_bool, strip_str, strip_nilp, strip_nils, strip_box, strip_ref, strip_agg, strip_tup, strip_undef, aBox_f, solid_agg, cells_agg, kLoad_box, kGd_true, kGd_false, kCall_ok, gt_iff_lt, ge_iff_le, Int.ofNat_lt, Int.ofNat_le, decide_true, decide_false, Nat.zero_add, Bool.not_true, Bool.not_false, aExtract_tup, fin1_some, resL_nil, resL_some, noRefL_cons, noRefL_nil, noRef_int, noRef_str, noRef_bool, noRef_nilp, noRef_agg, strip_fn, kLoad_ref, Bool.and_self, ite_true, i0, q1, q11, firstV]
    rfl
  rw [if_neg c1]
  rw [eq_false_of_ne_true c1] at q1
  by_cases c2 : Lib.hasPrefix (c :: r) [47, 47] = true
  · rw [if_pos c2]
    rw [c2] at q2
    simp -implicitDefEqProofs only [oh_some, mp_some, sto_some, br_true, br_false, gd_true, gd_false, wA_tt, wA_tup, wA_ft, wA_tf, wA_ff, aNilCheck_box, aNilCheck_ref, aAddr_box, aAddr_ref, aLoad_one, List.getElem?_cons_succ, List.getElem?_cons_zero, Option.map_some, bin_add, bin_sub, bin_lss, bin_leq, bin_gtr, bin_geq, bin_eql, bin_neq, str_eql, aMax_int, aMin_int, aUn_not, aPick_true, aPick_false, strip_int, strip_bool, strip_str, strip_nilp, strip_nils, strip_box, strip_ref, strip_agg, strip_tup, strip_undef, aBox_f, solid_agg, cells_agg, kLoad_box, kGd_true, kGd_false, kCall_ok, gt_iff_lt, ge_iff_le, Int.ofNat_lt, Int.ofNat_le, decide_true, decide_false, Nat.zero_add, Bool.not_true, Bool.not_false, aExtract_tup, fin1_some, resL_nil, resL_some, noRefL_cons, noRefL_nil, noRef_int, noRef_str, noRef_bool, noRef_nilp, noRef_agg, strip_fn, kLoad_ref, Bool.and_self, ite_true, i0, q1, q2, q12, firstV]
    rfl
  rw [if_neg c2]
  rw [eq_false_of_ne_true c2] at q2
  by_cases c3 : isLet c = true
  · rw [if_pos c3]
    rw [c3] at q3
    by_cases c4 : (c :: r).take (scanN isWord (c :: r)) ∈ kw
    · rw [if_pos c4]
      rw [decide_eq_true c4] at q9
      simp -implicitDefEqProofs only [oh_some, mp_some, sto_some, br_true, br_false, gd_true, gd_false, wA_tt, wA_tup, wA_ft, wA_tf, wA_ff, aNilCheck_box, aNilCheck_ref, aAddr_box, aAddr_ref, aLoad_one, List.getElem?_cons_succ, List.getElem?_cons_zero, Option.map_some, bin_add, bin_sub, bin_lss, bin_leq, bin_gtr, bin_geq, bin_eql, bin_neq, str_eql, aMax_int, aMin_int, aUn_not, aPick_true, aPick_false, strip_int, strip_bool, strip_str, strip_nilp, strip_nils, strip_box, strip_ref, strip_agg, strip_tup, strip_undef, aBox_f, solid_agg, cells_agg, kLoad_box, kGd_true, kGd_false, kCall_ok, gt_iff_lt, ge_iff_le, Int.ofNat_lt, Int.ofNat_le, decide_true, decide_false, Nat.zero_add, Bool.not_true, Bool.not_false, aExtract_tup, fin1_some, resL_nil, resL_some, noRefL_cons, noRefL_nil, noRef_int, noRef_str, noRef_bool, noRef_nilp, noRef_agg, strip_fn, kLoad_ref, Bool.and_self, ite_true, i0, q1, q2, q3, q13, q6, q9, e1, strip_sh, noRef_sl, strs_noRef, d31_8, firstV]
      rfl
    · rw [if_neg c4]
      rw [decide_eq_false c4] at q9
      simp -implicitDefEqProofs only [oh_some, mp_some, sto_some, br_true, br_false, gd_true, gd_false, wA_tt, wA_tup, wA_ft, wA_tf, wA_ff, aNilCheck_box, aNilCheck_ref, aAddr_box, aAddr_ref, aLoad_one, List.getElem?_cons_succ, List.getElem?_cons_zero, Option.map_some, bin_add, bin_sub, bin_lss, bin_leq, bin_gtr, bin_geq, bin_eql, bin_neq, str_eql, aMax_int, aMin_int, aUn_not, aPick_true, aPick_false, strip_int, strip_bool, strip_str, strip_nilp, strip_nils, strip_box, strip_ref, strip_agg, strip_tup, strip_undef, aBox_f, solid_agg, cells_agg, kLoad_box, kGd_true, kGd_false, kCall_ok, gt_iff_lt, ge_iff_le, Int.ofNat_lt, Int.ofNat_le, decide_true, decide_false, Nat.zero_add, Bool.not_true, Bool.not_false, aExtract_tup, fin1_some, resL_nil, resL_some, noRefL_cons, noRefL_nil, noRef_int, noRef_str, noRef_bool, noRef_nilp, noRef_agg, strip_fn, kLoad_ref, Bool.and_self, ite_true, i0, q1, q2, q3, q13, q6, q9, e1, strip_sh, noRef_sl, strs_noRef, d31_8, firstV]
      rfl
  rw [if_neg c3]
  rw [eq_false_of_ne_true c3] at q3
  by_cases c4 : isDig c = true
  · rw [if_pos c4]
    rw [c4] at q4
    simp -implicitDefEqProofs only [oh_some, mp_some, sto_some, br_true, br_false, gd_true, gd_false, wA_tt, wA_tup, wA_ft, wA_tf, wA_ff, aNilCheck_box, aNilCheck_ref, aAddr_box, aAddr_ref, aLoad_one, List.getElem?_cons_succ, List.getElem?_cons_zero, Option.map_some, bin_add, bin_sub, bin_lss, bin_leq, bin_gtr, bin_geq, bin_eql, bin_neq, str_eql, aMax_int, aMin_int, aUn_not, aPick_true, aPick_false, strip_int, strip_bool, strip_str, strip_nilp, strip_nils, strip_box, strip_ref, strip_agg, strip_tup, strip_undef, aBox_f, solid_agg, cells_agg, kLoad_box, kGd_true, kGd_false, kCall_ok, gt_iff_lt, ge_iff_le, Int.ofNat_lt, Int.ofNat_le, decide_true, decide_false, Nat.zero_add, Bool.not_true, Bool.not_false, aExtract_tup, fin1_some, resL_nil, resL_some, noRefL_cons, noRefL_nil, noRef_int, noRef_str, noRef_bool, noRef_nilp, noRef_agg, strip_fn, kLoad_ref, Bool.and_self, ite_true, i0, q1, q2, q3, q4, q14, firstV]
    rfl
  rw [if_neg c4]
  rw [eq_false_of_ne_true c4] at q4
  by_cases c5 : c = 34
  · rw [if_pos c5]
    rw [decide_eq_true c5] at b34
    simp -implicitDefEqProofs only [oh_some, mp_some, sto_some, br_true, br_false, gd_true, gd_false, wA_tt, wA_tup, wA_ft, wA_tf, wA_ff, aNilCheck_box, aNilCheck_ref, aAddr_box, aAddr_ref, aLoad_one, List.getElem?_cons_succ, List.getElem?_cons_zero, Option.map_some, bin_add, bin_sub, bin_lss, bin_leq, bin_gtr, bin_geq, bin_eql, bin_neq, str_eql, aMax_int, aMin_int, aUn_not, aPick_true, aPick_false, strip_int, strip_bool, strip_str, strip_nilp, strip_nils, strip_box, strip_ref, strip_agg, strip_tup, strip_undef, aBox_f, solid_agg, cells_agg, kLoad_box, kGd_true, kGd_false, kCall_ok, gt_iff_lt, ge_iff_le, Int.ofNat_lt, Int.ofNat_le, decide_true, decide_false, Nat.zero_add, Bool.not_true, Bool.not_false, aExtract_tup, fin1_some, resL_nil, resL_some, noRefL_cons, noRefL_nil, noRef_int, noRef_str, noRef_bool, noRef_nilp, noRef_agg, strip_fn, kLoad_ref, Bool.and_self, ite_true, i0, q1, q2, q3, q4, b34, q5, firstV]
  rw [if_neg c5]
  rw [decide_eq_false c5] at b34
  have last : 0 ≤ Lib.indexByte punct c ∨ ¬ 0 ≤ Lib.indexByte punct c := Classical.em _
  by_cases c6 : 1 < (c :: r).length
  · have c6' : (1 : Int) < ((c :: r).length : Int) := by omega
    have e2 := subTake (s := c :: r) (i := 2) (by omega)
    have e2 : aSl Tryd.prog 9 (.str (c :: r)) none (some (.int .i64 2)) none = some (.str ((c :: r).take 2)) := e2
    by_cases c7 : (c :: r).take 2 ∈ two
    · rw [if_pos ⟨c6, c7⟩]
      rw [decide_eq_true c7] at q10
      simp -implicitDefEqProofs only [oh_some, mp_some, sto_some, br_true, br_false, gd_true, gd_false, wA_tt, wA_tup, wA_ft, wA_tf, wA_ff, aNilCheck_box, aNilCheck_ref, aAddr_box, aAddr_ref, aLoad_one, List.getElem?_cons_succ, List.getElem?_cons_zero, Option.map_some, bin_add, bin_sub, bin_lss, bin_leq, bin_gtr, bin_geq, bin_eql, bin_neq, str_eql, aMax_int, aMin_int, aUn_not, aPick_true, aPick_false, strip_int, strip_bool, strip_str, strip_nilp, strip_nils, strip_box, strip_ref, strip_agg, strip_tup, strip_undef, aBox_f, solid_agg, cells_agg, kLoad_box, kGd_true, kGd_false, kCall_ok, gt_iff_lt, ge_iff_le, Int.ofNat_lt, Int.ofNat_le, decide_true, decide_false, Nat.zero_add, Bool.not_true, Bool.not_false, aExtract_tup, fin1_some, resL_nil, resL_some, noRefL_cons, noRefL_nil, noRef_int, noRef_str, noRef_bool, noRef_nilp, noRef_agg, strip_fn, kLoad_ref, Bool.and_self, ite_true, i0, q1, q2, q3, q4, b34, len9, c6', e2, q7, q10, strip_sh, noRef_sl, strs_noRef, d31_15, firstV]
      rfl
    · rw [if_neg (fun h => c7 h.2)]
      rw [decide_eq_false c7] at q10
      rcases last with c8 | c8
      · rw [if_pos c8]
        have c8' : 0 ≤ Lib.indexByte [40, 41, 123, 125, 91, 93, 60, 62, 44, 59, 58, 46, 61, 43, 45, 42, 47, 33, 38, 124] c := c8
        simp -implicitDefEqProofs only [oh_some, mp_some, sto_some, br_true, br_false, gd_true, gd_false, wA_tt, wA_tup, wA_ft, wA_tf, wA_ff, aNilCheck_box, aNilCheck_ref, aAddr_box, aAddr_ref, aLoad_one, List.getElem?_cons_succ, List.getElem?_cons_zero, Option.map_some, bin_add, bin_sub, bin_lss, bin_leq, bin_gtr, bin_geq, bin_eql, bin_neq, str_eql, aMax_int, aMin_int, aUn_not, aPick_true, aPick_false, strip_int, strip_bool, strip_str, strip_nilp, strip_nils, strip_box, strip_ref, strip_agg, strip_tup, strip_undef, aBox_f, solid_agg, cells_agg, kLoad_box, kGd_true, kGd_false, kCall_ok, gt_iff_lt, ge_iff_le, Int.ofNat_lt, Int.ofNat_le, decide_true, decide_false, Nat.zero_add, Bool.not_true, Bool.not_false, aExtract_tup, fin1_some, resL_nil, resL_some, noRefL_cons, noRefL_nil, noRef_int, noRef_str, noRef_bool, noRef_nilp, noRef_agg, strip_fn, kLoad_ref, Bool.and_self, ite_true, i0, q1, q2, q3, q4, b34, len9, c6', e2, q7, q10, q8, c8', strip_sh, noRef_sl, strs_noRef, d31_15, firstV]
        rfl
      · rw [if_neg c8]
        have c8' : ¬ 0 ≤ Lib.indexByte [40, 41, 123, 125, 91, 93, 60, 62, 44, 59, 58, 46, 61, 43, 45, 42, 47, 33, 38, 124] c := c8
        simp -implicitDefEqProofs only [oh_some, mp_some, sto_some, br_true, br_false, gd_true, gd_false, wA_tt, wA_tup, wA_ft, wA_tf, wA_ff, aNilCheck_box, aNilCheck_ref, aAddr_box, aAddr_ref, aLoad_one, List.getElem?_cons_succ, List.getElem?_cons_zero, Option.map_some, bin_add, bin_sub, bin_lss, bin_leq, bin_gtr, bin_geq, bin_eql, bin_neq, str_eql, aMax_int, aMin_int, aUn_not, aPick_true, aPick_false, strip_int, strip_bool, strip_str, strip_nilp, strip_nils, strip_box, strip_ref, strip_agg, strip_tup, strip_undef, aBox_f, solid_agg, cells_agg, kLoad_box, kGd_true, kGd_false, kCall_ok, gt_iff_lt, ge_iff_le, Int.ofNat_lt, Int.ofNat_le, decide_true, decide_false, Nat.zero_add, Bool.not_true, Bool.not_false, aExtract_tup, fin1_some, resL_nil, resL_some, noRefL_cons, noRefL_nil, noRef_int, noRef_str, noRef_bool, noRef_nilp, noRef_agg, strip_fn, kLoad_ref, Bool.and_self, ite_true, i0, q1, q2, q3, q4, b34, len9, c6', e2, q7, q10, q8, c8', strip_sh, noRef_sl, strs_noRef, d31_15, firstV]
        rfl
  · have c6' : ¬ (1 : Int) < ((c :: r).length : Int) := by omega
    rw [if_neg (fun h => c6 h.1)]
    rcases last with c8 | c8
    · rw [if_pos c8]
      have c8' : 0 ≤ Lib.indexByte [40, 41, 123, 125, 91, 93, 60, 62, 44, 59, 58, 46, 61, 43, 45, 42, 47, 33, 38, 124] c := c8
      simp -implicitDefEqProofs only [oh_some, mp_some, sto_some, br_true, br_false, gd_true, gd_false, wA_tt, wA_tup, wA_ft, wA_tf, wA_ff, aNilCheck_box, aNilCheck_ref, aAddr_box, aAddr_ref, aLoad_one, List.getElem?_cons_succ, List.getElem?_cons_zero, Option.map_some, bin_add, bin_sub, bin_lss, bin_leq, bin_gtr, bin_geq, bin_eql, bin_neq, str_eql, aMax_int, aMin_int, aUn_not, aPick_true, aPick_false, strip_int, strip_bool, strip_str, strip_nilp, strip_nils, strip_box, strip_ref, strip_agg, strip_tup, strip_undef, aBox_f, solid_agg, cells_agg, kLoad_box, kGd_true, kGd_false, kCall_ok, gt_iff_lt, ge_iff_le, Int.ofNat_lt, Int.ofNat_le, decide_true, decide_false, Nat.zero_add, Bool.not_true, Bool.not_false, aExtract_tup, fin1_some, resL_nil, resL_some, noRefL_cons, noRefL_nil, noRef_int, noRef_str, noRef_bool, noRef_nilp, noRef_agg, strip_fn, kLoad_ref, Bool.and_self, ite_true, i0, q1, q2, q3, q4, b34, len9, c6', q8, c8', d31_15, firstV]
      rfl
    · rw [if_neg c8]
      have c8' : ¬ 0 ≤ Lib.indexByte [40, 41, 123, 125, 91, 93, 60, 62, 44, 59, 58, 46, 61, 43, 45, 42, 47, 33, 38, 124] c := c8
      simp -implicitDefEqProofs only [oh_some, mp_some, sto_some, br_true, br_false, gd_true, gd_false, wA_tt, wA_tup, wA_ft, wA_tf, wA_ff, aNilCheck_box, aNilCheck_ref, aAddr_box, aAddr_ref, aLoad_one, List.getElem?_cons_succ, List.getElem?_cons_zero, Option.map_some, bin_add, bin_sub, bin_lss, bin_leq, bin_gtr, bin_geq, bin_eql, bin_neq, str_eql, aMax_int, aMin_int, aUn_not, aPick_true, aPick_false, strip_int, strip_bool, strip_str, strip_nilp, strip_nils, strip_box, strip_ref, strip_agg, strip_tup, strip_undef, aBox_f, solid_agg, cells_agg, kLoad_box, kGd_true, kGd_false, kCall_ok, gt_iff_lt, ge_iff_le, Int.ofNat_lt, Int.ofNat_le, decide_true, decide_false, Nat.zero_add, Bool.not_true, Bool.not_false, aExtract_tup, fin1_some, resL_nil, resL_some, noRefL_cons, noRefL_nil, noRef_int, noRef_str, noRef_bool, noRef_nilp, noRef_agg, strip_fn, kLoad_ref, Bool.and_self, ite_true, i0, q1, q2, q3, q4, b34, len9, c6', q8, c8', d31_15, firstV]
      rfl
end LexF

